/-
  The walk of the law that compares AddCounters in the program and the reference.
-/
import Derived.Test.YtdfnpcjbecbbbaaAdd
namespace Go.Proofs.Ytdfnpcjbecbbbaa
open Go.RowKit

set_option maxHeartbeats 8000000 in
theorem exactAddCounters_walk {w : World} {A1 : Option Addr} {n1 k1 : Nat} {c1_0 : Nat → Int} {c1_1 : Nat → Int} {c1_2 : Nat → Int} {A2 : Option Addr} {n2 k2 : Nat} {c2_0 : Nat → Int} {c2_1 : Nat → Int} {c2_2 : Nat → Int} (h1 : Rws w w.heap.size 3 A1 n1 k1 (counterR c1_0 c1_1 c1_2)) (h2 : Rws w w.heap.size 3 A2 n2 k2 (counterR c2_0 c2_1 c2_2)) :
    Calls Try.prog 5 #[.slice A1 n1 k1, .slice A2 n2 k2] w (Truly w) := by
  have hnc1 := h1.1.1
  have hcm1 := h1.1.2
  have HH1 := Lib.hid h1
  clear h1
  have hnc2 := h2.1.1
  have hcm2 := h2.1.2
  have HH2 := Lib.hid h2
  clear h2
  by_cases hn1 : (n1 : Int) ≤ 1048576
  rotate_left
  · have hsz1 : szI n1 (1048576) = -1 := if_neg hn1
    go_enter Try.func5, Try.ntmps5
    go_wp2_with fail
    refine (szCounterS_any (1048576) hnc1 hcm1 (by omega) (by omega) _).mono ?_
    rintro e w' ⟨rfl, rfl⟩
    go_wp2_with fail
    go_ret
    exact ⟨rfl, Below.refl _ _⟩
  have hsz1 : szI n1 (1048576) = 1048576 - (n1 : Int) := if_pos hn1
  by_cases hn2 : (n2 : Int) ≤ 1048576 - (n1 : Int)
  rotate_left
  · have hsz2 : szI n2 (1048576 - (n1 : Int)) = -1 := if_neg hn2
    go_enter Try.func5, Try.ntmps5
    go_wp2_with fail
    refine (szCounterS_any (1048576) hnc1 hcm1 (by omega) (by omega) _).mono ?_
    rintro e w' ⟨rfl, rfl⟩
    go_wp2_with fail
    refine (szCounterS_any (1048576 - (n1 : Int)) hnc2 hcm2 (by omega) (by omega) _).mono ?_
    rintro e w' ⟨rfl, rfl⟩
    go_wp2_with fail
    go_ret
    exact ⟨rfl, Below.refl _ _⟩
  have hsz2 : szI n2 (1048576 - (n1 : Int)) = 1048576 - (n1 : Int) - (n2 : Int) := if_pos hn2
  have hNB : (addN n1 n2 c1_0 c2_0) ≤ 1048576 := by have := addN_le n1 n2 c1_0 c2_0; omega
  go_enter Try.func5, Try.ntmps5
  go_wp2_with fail
  refine (szCounterS_any (1048576) hnc1 hcm1 (by omega) (by omega) _).mono ?_
  rintro e w' ⟨rfl, rfl⟩
  go_wp2_with fail
  refine (szCounterS_any (1048576 - (n1 : Int)) hnc2 hcm2 (by omega) (by omega) _).mono ?_
  rintro e w' ⟨rfl, rfl⟩
  go_wp2_with fail
  have hB0 := Below.refl w.heap.size w
  refine (toCounterS_any (HH1.out.below hB0) hB0.size (by omega)).mono ?_
  rintro e w1 ⟨g1, rfl, hg1, hN1, hb1⟩
  have hB1 := Below.tr hB0 hb1
  have hs1 := hb1.size
  have hs1_1 := Own.of_new hN1 (by unfold maxLen; omega) hg1
  have ls1 := hs1_1.lies
  clear hN1
  go_wp2_with fail
  refine (toCounterS_any (HH2.out.below hB1) hB1.size (by omega)).mono ?_
  rintro e w2 ⟨g2, rfl, hg2, hN2, hb2⟩
  have hB2 := Below.tr hB1 hb2
  have hs2 := hb2.size
  have hs1_2 := hs1_1.next hb2
  have hs2_2 := Own.of_new hN2 (by unfold maxLen; omega) hg2
  have ls2 := hs2_2.lies
  clear hN2
  go_wp2_with fail
  refine (specAddCounters_any hs1_2.rows hs2_2.rows (Nat.le_refl _) (by omega)).mono ?_
  rintro e w3 ⟨A_o, q_o, rfl, ho_3, hb3⟩
  have hB3 := Below.tr hB2 hb3
  have hs3 := hb3.size
  have hs1_3 := hs1_2.next hb3
  have hs2_3 := hs2_2.next hb3
  have lo := ho_3.lies
  go_wp2_with fail
  clear hs1_3
  clear hs2_3
  refine (toCounterS_any (HH1.out.below hB3) hB3.size (by omega)).mono ?_
  rintro e w4 ⟨g4, rfl, hg4, hN4, hb4⟩
  have hB4 := Below.tr hB3 hb4
  have hs4 := hb4.size
  have ho_4 := ho_3.next hb4
  have hx1_4 := Own.of_new hN4 (by unfold maxLen; omega) hg4
  have lx1 := hx1_4.lies
  clear hN4
  go_wp2_with fail
  refine (toCounterS_any (HH2.out.below hB4) hB4.size (by omega)).mono ?_
  rintro e w5 ⟨g5, rfl, hg5, hN5, hb5⟩
  have hB5 := Below.tr hB4 hb5
  have hs5 := hb5.size
  have ho_5 := ho_4.next hb5
  have hx1_5 := hx1_4.next hb5
  have hx2_5 := Own.of_new hN5 (by unfold maxLen; omega) hg5
  have lx2 := hx2_5.lies
  clear hN5
  go_wp2_with fail
  refine (implAddCounters_any hx1_5.rows hx2_5.rows (Nat.le_refl _) (by omega)).mono ?_
  rintro e w6 ⟨A_g, q_g, rfl, hg_6, hb6⟩
  have hB6 := Below.tr hB5 hb6
  have hs6 := hb6.size
  have ho_6 := ho_5.next hb6
  have hx1_6 := hx1_5.next hb6
  have hx2_6 := hx2_5.next hb6
  have lg := hg_6.lies
  go_wp2_with fail
  refine (eqCounterS_same hg_6.rows ho_6.rows (Nat.le_refl _)).mono ?_
  rintro e w7 ⟨rfl, hb7⟩
  have hB7 := Below.tr hB6 hb7
  have hs7 := hb7.size
  have ho_7 := ho_6.next hb7
  have hx1_7 := hx1_6.next hb7
  have hx2_7 := hx2_6.next hb7
  have hg_7 := hg_6.next hb7
  go_wp2_with fail
  refine (toCounterS_any (HH1.out.below hB7) hB7.size (by omega)).mono ?_
  rintro e w8 ⟨g8, rfl, hg8, hN8, hb8⟩
  have hB8 := Below.tr hB7 hb8
  have hs8 := hb8.size
  have ho_8 := ho_7.next hb8
  have hx1_8 := hx1_7.next hb8
  have hx2_8 := hx2_7.next hb8
  have hg_8 := hg_7.next hb8
  have hy1_8 := Own.of_new hN8 (by unfold maxLen; omega) hg8
  have ly1 := hy1_8.lies
  clear hN8
  go_wp2_with fail
  refine (eqCounterS_same hx1_8.rows hy1_8.rows (Nat.le_refl _)).mono ?_
  rintro e w9 ⟨rfl, hb9⟩
  have hB9 := Below.tr hB8 hb9
  have hs9 := hb9.size
  have ho_9 := ho_8.next hb9
  have hx1_9 := hx1_8.next hb9
  have hx2_9 := hx2_8.next hb9
  have hg_9 := hg_8.next hb9
  have hy1_9 := hy1_8.next hb9
  go_wp2_with fail
  clear hy1_9
  refine (toCounterS_any (HH2.out.below hB9) hB9.size (by omega)).mono ?_
  rintro e w10 ⟨g10, rfl, hg10, hN10, hb10⟩
  have hB10 := Below.tr hB9 hb10
  have hs10 := hb10.size
  have ho_10 := ho_9.next hb10
  have hx1_10 := hx1_9.next hb10
  have hx2_10 := hx2_9.next hb10
  have hg_10 := hg_9.next hb10
  have hy2_10 := Own.of_new hN10 (by unfold maxLen; omega) hg10
  have ly2 := hy2_10.lies
  clear hN10
  go_wp2_with fail
  refine (eqCounterS_same hx2_10.rows hy2_10.rows (Nat.le_refl _)).mono ?_
  rintro e w11 ⟨rfl, hb11⟩
  have hB11 := Below.tr hB10 hb11
  have hs11 := hb11.size
  have ho_11 := ho_10.next hb11
  have hx1_11 := hx1_10.next hb11
  have hx2_11 := hx2_10.next hb11
  have hg_11 := hg_10.next hb11
  have hy2_11 := hy2_10.next hb11
  go_wp2_with fail
  clear hy2_11
  refine (markCounterS_any (1) hx1_11 (by omega) (by omega) (by omega)).mono ?_
  rintro e w12 ⟨rfl, hx1_12, hw⟩
  replace hw := hw _ _ lx1
  have hs12 := hw.size
  have hB12 := Below.wrote hB11 hw (by omega)
  have ho_12 := ho_11.apart hw lo (by omega)
  have hx2_12 := hx2_11.apart hw lx2 (by omega)
  have hg_12 := hg_11.apart hw lg (by omega)
  clear hw
  go_wp2_with fail
  refine (markCounterS_any (1 + 3 * (n1 : Int)) hx2_12 (by omega) (by omega) (by omega)).mono ?_
  rintro e w13 ⟨rfl, hx2_13, hw⟩
  replace hw := hw _ _ lx2
  have hs13 := hw.size
  have hB13 := Below.wrote hB12 hw (by omega)
  have ho_13 := ho_12.apart hw lo (by omega)
  have hx1_13 := hx1_12.apart hw lx1 (by omega)
  have hg_13 := hg_12.apart hw lg (by omega)
  clear hw
  go_wp2_with fail
  clear hx1_13
  clear hx2_13
  refine (eqCounterS_same hg_13.rows ho_13.rows (Nat.le_refl _)).mono ?_
  rintro e w14 ⟨rfl, hb14⟩
  have hB14 := Below.tr hB13 hb14
  have hs14 := hb14.size
  have ho_14 := ho_13.next hb14
  have hg_14 := hg_13.next hb14
  go_wp2_with fail
  refine (markCounterS_any (1) hg_14 (by omega) (by omega) (by omega)).mono ?_
  rintro e w15 ⟨rfl, hg_15, hw⟩
  replace hw := hw _ _ lg
  have hs15 := hw.size
  have hB15 := Below.wrote hB14 hw (by omega)
  have ho_15 := ho_14.apart hw lo (by omega)
  clear hw
  go_wp2_with fail
  refine (heldCounterS_same (1) hg_15.rows (Nat.le_refl _) (by omega) (by omega) (by omega)).mono ?_
  rintro e w' ⟨rfl, rfl⟩
  go_wp2_with fail
  refine (toCounterS_any (HH1.out.below hB15) hB15.size (by omega)).mono ?_
  rintro e w16 ⟨g16, rfl, hg16, hN16, hb16⟩
  have hB16 := Below.tr hB15 hb16
  have hs16 := hb16.size
  have ho_16 := ho_15.next hb16
  have hg_16 := hg_15.next hb16
  have hz1_16 := Own.of_new hN16 (by unfold maxLen; omega) hg16
  have lz1 := hz1_16.lies
  clear hN16
  go_wp2_with fail
  refine (toCounterS_any (HH2.out.below hB16) hB16.size (by omega)).mono ?_
  rintro e w17 ⟨g17, rfl, hg17, hN17, hb17⟩
  have hB17 := Below.tr hB16 hb17
  have hs17 := hb17.size
  have ho_17 := ho_16.next hb17
  have hg_17 := hg_16.next hb17
  have hz1_17 := hz1_16.next hb17
  have hz2_17 := Own.of_new hN17 (by unfold maxLen; omega) hg17
  have lz2 := hz2_17.lies
  clear hN17
  go_wp2_with fail
  refine (implAddCounters_any hz1_17.rows hz2_17.rows (Nat.le_refl _) (by omega)).mono ?_
  rintro e w18 ⟨A_h, q_h, rfl, hh_18, hb18⟩
  have hB18 := Below.tr hB17 hb18
  have hs18 := hb18.size
  have ho_18 := ho_17.next hb18
  have hg_18 := hg_17.next hb18
  have hz1_18 := hz1_17.next hb18
  have hz2_18 := hz2_17.next hb18
  have lh := hh_18.lies
  go_wp2_with fail
  clear hz1_18
  clear hz2_18
  refine (eqCounterS_same hh_18.rows ho_18.rows (Nat.le_refl _)).mono ?_
  rintro e w19 ⟨rfl, hb19⟩
  have hB19 := Below.tr hB18 hb19
  have hs19 := hb19.size
  have ho_19 := ho_18.next hb19
  have hg_19 := hg_18.next hb19
  have hh_19 := hh_18.next hb19
  go_wp2_with fail
  refine (heldCounterS_same (1) hg_19.rows (Nat.le_refl _) (by omega) (by omega) (by omega)).mono ?_
  rintro e w' ⟨rfl, rfl⟩
  go_wp2_with fail
  go_ret
  exact ⟨rfl, hB19⟩

end Go.Proofs.Ytdfnpcjbecbbbaa
