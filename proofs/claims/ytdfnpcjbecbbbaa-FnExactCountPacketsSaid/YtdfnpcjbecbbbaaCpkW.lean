/-
  The walk of the law that compares CountPackets in the program and the reference.
-/
import Derived.Test.YtdfnpcjbecbbbaaCpkS
namespace Go.Proofs.Ytdfnpcjbecbbbaa
open Go.RowKit

set_option maxHeartbeats 8000000 in
theorem exactCountPackets_walk {w : World} {A1 : Option Addr} {n1 k1 : Nat} {c1_0 : Nat → Int} {c1_1 : Nat → Int} {c1_2 : Nat → Int} {A2 : Option Addr} {n2 k2 : Nat} {c2_0 : Nat → Int} {A3 : Option Addr} {n3 k3 : Nat} {c3_0 : Nat → Int} (h1 : Rws w w.heap.size 3 A1 n1 k1 (hostR c1_0 c1_1 c1_2)) (h2 : Rws w w.heap.size 1 A2 n2 k2 (intR c2_0)) (h3 : Rws w w.heap.size 1 A3 n3 k3 (intR c3_0)) :
    Calls Try.prog 8 #[.slice A1 n1 k1, .slice A2 n2 k2, .slice A3 n3 k3] w (Truly w) := by
  have hnc1 := h1.1.1
  have hcm1 := h1.1.2
  have HH1 := Lib.hid h1
  clear h1
  have hnc2 := h2.1.1
  have hcm2 := h2.1.2
  have HH2 := Lib.hid h2
  clear h2
  have hnc3 := h3.1.1
  have hcm3 := h3.1.2
  have HH3 := Lib.hid h3
  clear h3
  by_cases hn2 : (n2 : Int) ≤ 1048576
  rotate_left
  · have hd2 : decide ((1048576 : Int) < (n2 : Int)) = true := by simp; omega
    go_enter Try.func8, Try.ntmps8
    go_wp2
    go_ret
    exact ⟨rfl, Below.refl _ _⟩
  have hd2 : decide ((1048576 : Int) < (n2 : Int)) = false := by simp; omega
  by_cases hn3 : (n3 : Int) ≤ 1048576
  rotate_left
  · have hd3 : decide ((1048576 : Int) < (n3 : Int)) = true := by simp; omega
    go_enter Try.func8, Try.ntmps8
    go_wp2
    go_ret
    exact ⟨rfl, Below.refl _ _⟩
  have hd3 : decide ((1048576 : Int) < (n3 : Int)) = false := by simp; omega
  by_cases hn1 : (n1 : Int) ≤ 1048576
  rotate_left
  · have hsz1 : szI n1 (1048576) = -1 := if_neg hn1
    go_enter Try.func8, Try.ntmps8
    go_wp2_with fail
    refine (szHostS_any (1048576) hnc1 hcm1 (by omega) (by omega) _).mono ?_
    rintro e w' ⟨rfl, rfl⟩
    go_wp2_with fail
    go_ret
    exact ⟨rfl, Below.refl _ _⟩
  have hsz1 : szI n1 (1048576) = 1048576 - (n1 : Int) := if_pos hn1
  have hNB : (cpkN n1 c1_0 c1_1 c1_2 n2 n3 c3_0) ≤ 1048576 := by have := cpkN_le n1 c1_0 c1_1 c1_2 n2 n3 c3_0; omega
  go_enter Try.func8, Try.ntmps8
  go_wp2_with fail
  refine (szHostS_any (1048576) hnc1 hcm1 (by omega) (by omega) _).mono ?_
  rintro e w' ⟨rfl, rfl⟩
  go_wp2_with fail
  have hB0 := Below.refl w.heap.size w
  refine (toHostS_any (HH1.out.below hB0) hB0.size (by omega)).mono ?_
  rintro e w1 ⟨g1, rfl, hg1, hN1, hb1⟩
  have hB1 := Below.tr hB0 hb1
  have hs1 := hb1.size
  have hs1_1 := Own.of_new hN1 (by unfold maxLen; omega) hg1
  have ls1 := hs1_1.lies
  clear hN1
  go_wp2_with fail
  refine (toIntS_any (HH2.out.below hB1) hB1.size (by omega)).mono ?_
  rintro e w2 ⟨g2, rfl, hg2, hN2, hb2⟩
  have hB2 := Below.tr hB1 hb2
  have hs2 := hb2.size
  have hs1_2 := hs1_1.next hb2
  have hs2_2 := Own.of_new hN2 (by unfold maxLen; omega) hg2
  have ls2 := hs2_2.lies
  clear hN2
  go_wp2_with fail
  refine (toIntS_any (HH3.out.below hB2) hB2.size (by omega)).mono ?_
  rintro e w3 ⟨g3, rfl, hg3, hN3, hb3⟩
  have hB3 := Below.tr hB2 hb3
  have hs3 := hb3.size
  have hs1_3 := hs1_2.next hb3
  have hs2_3 := hs2_2.next hb3
  have hs3_3 := Own.of_new hN3 (by unfold maxLen; omega) hg3
  have ls3 := hs3_3.lies
  clear hN3
  go_wp2_with fail
  refine (specCountPackets_any hs1_3.rows hs2_3.rows hs3_3.rows (Nat.le_refl _)).mono ?_
  rintro e w4 ⟨A_o, q_o, rfl, ho_4, hb4⟩
  have hB4 := Below.tr hB3 hb4
  have hs4 := hb4.size
  have hs1_4 := hs1_3.next hb4
  have hs2_4 := hs2_3.next hb4
  have hs3_4 := hs3_3.next hb4
  have lo := ho_4.lies
  go_wp2_with fail
  clear hs1_4
  clear hs2_4
  clear hs3_4
  refine (toHostS_any (HH1.out.below hB4) hB4.size (by omega)).mono ?_
  rintro e w5 ⟨g5, rfl, hg5, hN5, hb5⟩
  have hB5 := Below.tr hB4 hb5
  have hs5 := hb5.size
  have ho_5 := ho_4.next hb5
  have hx1_5 := Own.of_new hN5 (by unfold maxLen; omega) hg5
  have lx1 := hx1_5.lies
  clear hN5
  go_wp2_with fail
  refine (toIntS_any (HH2.out.below hB5) hB5.size (by omega)).mono ?_
  rintro e w6 ⟨g6, rfl, hg6, hN6, hb6⟩
  have hB6 := Below.tr hB5 hb6
  have hs6 := hb6.size
  have ho_6 := ho_5.next hb6
  have hx1_6 := hx1_5.next hb6
  have hx2_6 := Own.of_new hN6 (by unfold maxLen; omega) hg6
  have lx2 := hx2_6.lies
  clear hN6
  go_wp2_with fail
  refine (toIntS_any (HH3.out.below hB6) hB6.size (by omega)).mono ?_
  rintro e w7 ⟨g7, rfl, hg7, hN7, hb7⟩
  have hB7 := Below.tr hB6 hb7
  have hs7 := hb7.size
  have ho_7 := ho_6.next hb7
  have hx1_7 := hx1_6.next hb7
  have hx2_7 := hx2_6.next hb7
  have hx3_7 := Own.of_new hN7 (by unfold maxLen; omega) hg7
  have lx3 := hx3_7.lies
  clear hN7
  go_wp2_with fail
  refine (implCountPackets_any hx1_7.rows hx2_7.rows hx3_7.rows (Nat.le_refl _)).mono ?_
  rintro e w8 ⟨A_g, q_g, rfl, hg_8, hb8⟩
  have hB8 := Below.tr hB7 hb8
  have hs8 := hb8.size
  have ho_8 := ho_7.next hb8
  have hx1_8 := hx1_7.next hb8
  have hx2_8 := hx2_7.next hb8
  have hx3_8 := hx3_7.next hb8
  have lg := hg_8.lies
  go_wp2_with fail
  refine (eqCounterS_same hg_8.rows ho_8.rows (Nat.le_refl _)).mono ?_
  rintro e w9 ⟨rfl, hb9⟩
  have hB9 := Below.tr hB8 hb9
  have hs9 := hb9.size
  have ho_9 := ho_8.next hb9
  have hx1_9 := hx1_8.next hb9
  have hx2_9 := hx2_8.next hb9
  have hx3_9 := hx3_8.next hb9
  have hg_9 := hg_8.next hb9
  go_wp2_with fail
  refine (toHostS_any (HH1.out.below hB9) hB9.size (by omega)).mono ?_
  rintro e w10 ⟨g10, rfl, hg10, hN10, hb10⟩
  have hB10 := Below.tr hB9 hb10
  have hs10 := hb10.size
  have ho_10 := ho_9.next hb10
  have hx1_10 := hx1_9.next hb10
  have hx2_10 := hx2_9.next hb10
  have hx3_10 := hx3_9.next hb10
  have hg_10 := hg_9.next hb10
  have hy1_10 := Own.of_new hN10 (by unfold maxLen; omega) hg10
  have ly1 := hy1_10.lies
  clear hN10
  go_wp2_with fail
  refine (eqHostS_same hx1_10.rows hy1_10.rows (Nat.le_refl _)).mono ?_
  rintro e w11 ⟨rfl, hb11⟩
  have hB11 := Below.tr hB10 hb11
  have hs11 := hb11.size
  have ho_11 := ho_10.next hb11
  have hx1_11 := hx1_10.next hb11
  have hx2_11 := hx2_10.next hb11
  have hx3_11 := hx3_10.next hb11
  have hg_11 := hg_10.next hb11
  have hy1_11 := hy1_10.next hb11
  go_wp2_with fail
  clear hy1_11
  refine (toIntS_any (HH2.out.below hB11) hB11.size (by omega)).mono ?_
  rintro e w12 ⟨g12, rfl, hg12, hN12, hb12⟩
  have hB12 := Below.tr hB11 hb12
  have hs12 := hb12.size
  have ho_12 := ho_11.next hb12
  have hx1_12 := hx1_11.next hb12
  have hx2_12 := hx2_11.next hb12
  have hx3_12 := hx3_11.next hb12
  have hg_12 := hg_11.next hb12
  have hy2_12 := Own.of_new hN12 (by unfold maxLen; omega) hg12
  have ly2 := hy2_12.lies
  clear hN12
  go_wp2_with fail
  refine (eqIntS_same hx2_12.rows hy2_12.rows (Nat.le_refl _)).mono ?_
  rintro e w13 ⟨rfl, hb13⟩
  have hB13 := Below.tr hB12 hb13
  have hs13 := hb13.size
  have ho_13 := ho_12.next hb13
  have hx1_13 := hx1_12.next hb13
  have hx2_13 := hx2_12.next hb13
  have hx3_13 := hx3_12.next hb13
  have hg_13 := hg_12.next hb13
  have hy2_13 := hy2_12.next hb13
  go_wp2_with fail
  clear hy2_13
  refine (toIntS_any (HH3.out.below hB13) hB13.size (by omega)).mono ?_
  rintro e w14 ⟨g14, rfl, hg14, hN14, hb14⟩
  have hB14 := Below.tr hB13 hb14
  have hs14 := hb14.size
  have ho_14 := ho_13.next hb14
  have hx1_14 := hx1_13.next hb14
  have hx2_14 := hx2_13.next hb14
  have hx3_14 := hx3_13.next hb14
  have hg_14 := hg_13.next hb14
  have hy3_14 := Own.of_new hN14 (by unfold maxLen; omega) hg14
  have ly3 := hy3_14.lies
  clear hN14
  go_wp2_with fail
  refine (eqIntS_same hx3_14.rows hy3_14.rows (Nat.le_refl _)).mono ?_
  rintro e w15 ⟨rfl, hb15⟩
  have hB15 := Below.tr hB14 hb15
  have hs15 := hb15.size
  have ho_15 := ho_14.next hb15
  have hx1_15 := hx1_14.next hb15
  have hx2_15 := hx2_14.next hb15
  have hx3_15 := hx3_14.next hb15
  have hg_15 := hg_14.next hb15
  have hy3_15 := hy3_14.next hb15
  go_wp2_with fail
  clear hy3_15
  have hneg : decide (1 + 3 * (n1 : Int) + (n2 : Int) + (n3 : Int) < 0) = false := by simp; omega
  refine (markHostS_any (1) hx1_15 (by omega) (by omega) (by omega)).mono ?_
  rintro e w16 ⟨rfl, hx1_16, hw⟩
  replace hw := hw _ _ lx1
  have hs16 := hw.size
  have hB16 := Below.wrote hB15 hw (by omega)
  have ho_16 := ho_15.apart hw lo (by omega)
  have hx2_16 := hx2_15.apart hw lx2 (by omega)
  have hx3_16 := hx3_15.apart hw lx3 (by omega)
  have hg_16 := hg_15.apart hw lg (by omega)
  clear hw
  go_wp2_with fail
  refine (markIntS_any (1 + 3 * (n1 : Int)) hx2_16 (by omega) (by omega) (by omega)).mono ?_
  rintro e w17 ⟨rfl, hx2_17, hw⟩
  replace hw := hw _ _ lx2
  have hs17 := hw.size
  have hB17 := Below.wrote hB16 hw (by omega)
  have ho_17 := ho_16.apart hw lo (by omega)
  have hx1_17 := hx1_16.apart hw lx1 (by omega)
  have hx3_17 := hx3_16.apart hw lx3 (by omega)
  have hg_17 := hg_16.apart hw lg (by omega)
  clear hw
  go_wp2_with fail
  refine (markIntS_any (1 + 3 * (n1 : Int) + (n2 : Int)) hx3_17 (by omega) (by omega) (by omega)).mono ?_
  rintro e w18 ⟨rfl, hx3_18, hw⟩
  replace hw := hw _ _ lx3
  have hs18 := hw.size
  have hB18 := Below.wrote hB17 hw (by omega)
  have ho_18 := ho_17.apart hw lo (by omega)
  have hx1_18 := hx1_17.apart hw lx1 (by omega)
  have hx2_18 := hx2_17.apart hw lx2 (by omega)
  have hg_18 := hg_17.apart hw lg (by omega)
  clear hw
  go_wp2_with fail
  clear hx1_18
  clear hx2_18
  clear hx3_18
  refine (eqCounterS_same hg_18.rows ho_18.rows (Nat.le_refl _)).mono ?_
  rintro e w19 ⟨rfl, hb19⟩
  have hB19 := Below.tr hB18 hb19
  have hs19 := hb19.size
  have ho_19 := ho_18.next hb19
  have hg_19 := hg_18.next hb19
  go_wp2_with fail
  refine (markCounterS_any (1) hg_19 (by omega) (by omega) (by omega)).mono ?_
  rintro e w20 ⟨rfl, hg_20, hw⟩
  replace hw := hw _ _ lg
  have hs20 := hw.size
  have hB20 := Below.wrote hB19 hw (by omega)
  have ho_20 := ho_19.apart hw lo (by omega)
  clear hw
  go_wp2_with fail
  refine (heldCounterS_same (1) hg_20.rows (Nat.le_refl _) (by omega) (by omega) (by omega)).mono ?_
  rintro e w' ⟨rfl, rfl⟩
  go_wp2_with fail
  refine (toHostS_any (HH1.out.below hB20) hB20.size (by omega)).mono ?_
  rintro e w21 ⟨g21, rfl, hg21, hN21, hb21⟩
  have hB21 := Below.tr hB20 hb21
  have hs21 := hb21.size
  have ho_21 := ho_20.next hb21
  have hg_21 := hg_20.next hb21
  have hz1_21 := Own.of_new hN21 (by unfold maxLen; omega) hg21
  have lz1 := hz1_21.lies
  clear hN21
  go_wp2_with fail
  refine (toIntS_any (HH2.out.below hB21) hB21.size (by omega)).mono ?_
  rintro e w22 ⟨g22, rfl, hg22, hN22, hb22⟩
  have hB22 := Below.tr hB21 hb22
  have hs22 := hb22.size
  have ho_22 := ho_21.next hb22
  have hg_22 := hg_21.next hb22
  have hz1_22 := hz1_21.next hb22
  have hz2_22 := Own.of_new hN22 (by unfold maxLen; omega) hg22
  have lz2 := hz2_22.lies
  clear hN22
  go_wp2_with fail
  refine (toIntS_any (HH3.out.below hB22) hB22.size (by omega)).mono ?_
  rintro e w23 ⟨g23, rfl, hg23, hN23, hb23⟩
  have hB23 := Below.tr hB22 hb23
  have hs23 := hb23.size
  have ho_23 := ho_22.next hb23
  have hg_23 := hg_22.next hb23
  have hz1_23 := hz1_22.next hb23
  have hz2_23 := hz2_22.next hb23
  have hz3_23 := Own.of_new hN23 (by unfold maxLen; omega) hg23
  have lz3 := hz3_23.lies
  clear hN23
  go_wp2_with fail
  refine (implCountPackets_any hz1_23.rows hz2_23.rows hz3_23.rows (Nat.le_refl _)).mono ?_
  rintro e w24 ⟨A_h, q_h, rfl, hh_24, hb24⟩
  have hB24 := Below.tr hB23 hb24
  have hs24 := hb24.size
  have ho_24 := ho_23.next hb24
  have hg_24 := hg_23.next hb24
  have hz1_24 := hz1_23.next hb24
  have hz2_24 := hz2_23.next hb24
  have hz3_24 := hz3_23.next hb24
  have lh := hh_24.lies
  go_wp2_with fail
  clear hz1_24
  clear hz2_24
  clear hz3_24
  refine (eqCounterS_same hh_24.rows ho_24.rows (Nat.le_refl _)).mono ?_
  rintro e w25 ⟨rfl, hb25⟩
  have hB25 := Below.tr hB24 hb25
  have hs25 := hb25.size
  have ho_25 := ho_24.next hb25
  have hg_25 := hg_24.next hb25
  have hh_25 := hh_24.next hb25
  go_wp2_with fail
  refine (heldCounterS_same (1) hg_25.rows (Nat.le_refl _) (by omega) (by omega) (by omega)).mono ?_
  rintro e w' ⟨rfl, rfl⟩
  go_wp2_with fail
  go_ret
  exact ⟨rfl, hB25⟩

end Go.Proofs.Ytdfnpcjbecbbbaa
