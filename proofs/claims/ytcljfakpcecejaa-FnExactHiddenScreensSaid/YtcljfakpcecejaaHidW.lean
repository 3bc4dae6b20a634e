/-
  The walk of the law that compares HiddenScreens in the program and the reference.
-/
import Derived.Test.YtcljfakpcecejaaHidS
import Derived.Test.YtcljfakpcecejaaScrM
namespace Go.Proofs.Ytcljfakpcecejaa
open Go.RowKit

set_option maxHeartbeats 8000000 in
theorem exactHiddenScreens_walk {w : World} {A1 : Option Addr} {n1 k1 : Nat} {c1_0 : Nat → Int} {c1_1 : Nat → Int} {c1_2 : Nat → Int} {c1_3 : Nat → Int} {c1_4 : Nat → Int} {c1_5 : Nat → Bool} (h1 : Rws w w.heap.size 6 A1 n1 k1 (screenR c1_0 c1_1 c1_2 c1_3 c1_4 c1_5)) :
    Calls Try.prog 10 #[.slice A1 n1 k1] w (Truly w) := by
  have hnc1 := h1.1.1
  have hcm1 := h1.1.2
  have HH1 := Lib.hid h1
  clear h1
  by_cases hn1 : (n1 : Int) ≤ 1048576
  rotate_left
  · have hsz1 : szI n1 (1048576) = -1 := if_neg hn1
    go_enter Try.func10, Try.ntmps10
    go_wp2_with fail
    refine (szScreenS_any (1048576) hnc1 hcm1 (by omega) (by omega) _).mono ?_
    rintro e w' ⟨rfl, rfl⟩
    go_wp2_with fail
    go_ret
    exact ⟨rfl, Below.refl _ _⟩
  have hsz1 : szI n1 (1048576) = 1048576 - (n1 : Int) := if_pos hn1
  have hNB : (hidN n1 c1_0 c1_1 c1_2 c1_3 c1_4) ≤ 1048576 := by have := hidN_le n1 c1_0 c1_1 c1_2 c1_3 c1_4; omega
  go_enter Try.func10, Try.ntmps10
  go_wp2_with fail
  refine (szScreenS_any (1048576) hnc1 hcm1 (by omega) (by omega) _).mono ?_
  rintro e w' ⟨rfl, rfl⟩
  go_wp2_with fail
  have hB0 := Below.refl w.heap.size w
  refine (toScreenS_any (HH1.out.below hB0) hB0.size (by omega)).mono ?_
  rintro e w1 ⟨g1, rfl, hg1, hN1, hb1⟩
  have hB1 := Below.tr hB0 hb1
  have hs1 := hb1.size
  have hs1_1 := Own.of_new hN1 (by unfold maxLen; omega) hg1
  have ls1 := hs1_1.lies
  clear hN1
  go_wp2_with fail
  refine (specHiddenScreens_any hs1_1.rows (Nat.le_refl _) (by omega)).mono ?_
  rintro e w2 ⟨A_o, q_o, rfl, ho_2, hb2⟩
  have hB2 := Below.tr hB1 hb2
  have hs2 := hb2.size
  have hs1_2 := hs1_1.next hb2
  have lo := ho_2.lies
  go_wp2_with fail
  clear hs1_2
  refine (toScreenS_any (HH1.out.below hB2) hB2.size (by omega)).mono ?_
  rintro e w3 ⟨g3, rfl, hg3, hN3, hb3⟩
  have hB3 := Below.tr hB2 hb3
  have hs3 := hb3.size
  have ho_3 := ho_2.next hb3
  have hx1_3 := Own.of_new hN3 (by unfold maxLen; omega) hg3
  have lx1 := hx1_3.lies
  clear hN3
  go_wp2_with fail
  refine (implHiddenScreens_any hx1_3.rows (Nat.le_refl _) (by omega)).mono ?_
  rintro e w4 ⟨A_g, q_g, rfl, hg_4, hb4⟩
  have hB4 := Below.tr hB3 hb4
  have hs4 := hb4.size
  have ho_4 := ho_3.next hb4
  have hx1_4 := hx1_3.next hb4
  have lg := hg_4.lies
  go_wp2_with fail
  refine (eqIntS_same hg_4.rows ho_4.rows (Nat.le_refl _)).mono ?_
  rintro e w5 ⟨rfl, hb5⟩
  have hB5 := Below.tr hB4 hb5
  have hs5 := hb5.size
  have ho_5 := ho_4.next hb5
  have hx1_5 := hx1_4.next hb5
  have hg_5 := hg_4.next hb5
  go_wp2_with fail
  refine (toScreenS_any (HH1.out.below hB5) hB5.size (by omega)).mono ?_
  rintro e w6 ⟨g6, rfl, hg6, hN6, hb6⟩
  have hB6 := Below.tr hB5 hb6
  have hs6 := hb6.size
  have ho_6 := ho_5.next hb6
  have hx1_6 := hx1_5.next hb6
  have hg_6 := hg_5.next hb6
  have hy1_6 := Own.of_new hN6 (by unfold maxLen; omega) hg6
  have ly1 := hy1_6.lies
  clear hN6
  go_wp2_with fail
  refine (eqScreenS_same hx1_6.rows hy1_6.rows (Nat.le_refl _)).mono ?_
  rintro e w7 ⟨rfl, hb7⟩
  have hB7 := Below.tr hB6 hb7
  have hs7 := hb7.size
  have ho_7 := ho_6.next hb7
  have hx1_7 := hx1_6.next hb7
  have hg_7 := hg_6.next hb7
  have hy1_7 := hy1_6.next hb7
  go_wp2_with fail
  clear hy1_7
  refine (markScreenS_any (1) hx1_7 (by omega) (by omega) (by omega)).mono ?_
  rintro e w8 ⟨rfl, hx1_8, hw⟩
  replace hw := hw _ _ lx1
  have hs8 := hw.size
  have hB8 := Below.wrote hB7 hw (by omega)
  have ho_8 := ho_7.apart hw lo (by omega)
  have hg_8 := hg_7.apart hw lg (by omega)
  clear hw
  go_wp2_with fail
  clear hx1_8
  refine (eqIntS_same hg_8.rows ho_8.rows (Nat.le_refl _)).mono ?_
  rintro e w9 ⟨rfl, hb9⟩
  have hB9 := Below.tr hB8 hb9
  have hs9 := hb9.size
  have ho_9 := ho_8.next hb9
  have hg_9 := hg_8.next hb9
  go_wp2_with fail
  refine (markIntS_any (1) hg_9 (by omega) (by omega) (by omega)).mono ?_
  rintro e w10 ⟨rfl, hg_10, hw⟩
  replace hw := hw _ _ lg
  have hs10 := hw.size
  have hB10 := Below.wrote hB9 hw (by omega)
  have ho_10 := ho_9.apart hw lo (by omega)
  clear hw
  go_wp2_with fail
  refine (heldIntS_same (1) hg_10.rows (Nat.le_refl _) (by omega) (by omega) (by omega)).mono ?_
  rintro e w' ⟨rfl, rfl⟩
  go_wp2_with fail
  refine (toScreenS_any (HH1.out.below hB10) hB10.size (by omega)).mono ?_
  rintro e w11 ⟨g11, rfl, hg11, hN11, hb11⟩
  have hB11 := Below.tr hB10 hb11
  have hs11 := hb11.size
  have ho_11 := ho_10.next hb11
  have hg_11 := hg_10.next hb11
  have hz1_11 := Own.of_new hN11 (by unfold maxLen; omega) hg11
  have lz1 := hz1_11.lies
  clear hN11
  go_wp2_with fail
  refine (implHiddenScreens_any hz1_11.rows (Nat.le_refl _) (by omega)).mono ?_
  rintro e w12 ⟨A_h, q_h, rfl, hh_12, hb12⟩
  have hB12 := Below.tr hB11 hb12
  have hs12 := hb12.size
  have ho_12 := ho_11.next hb12
  have hg_12 := hg_11.next hb12
  have hz1_12 := hz1_11.next hb12
  have lh := hh_12.lies
  go_wp2_with fail
  clear hz1_12
  refine (eqIntS_same hh_12.rows ho_12.rows (Nat.le_refl _)).mono ?_
  rintro e w13 ⟨rfl, hb13⟩
  have hB13 := Below.tr hB12 hb13
  have hs13 := hb13.size
  have ho_13 := ho_12.next hb13
  have hg_13 := hg_12.next hb13
  have hh_13 := hh_12.next hb13
  go_wp2_with fail
  refine (heldIntS_same (1) hg_13.rows (Nat.le_refl _) (by omega) (by omega) (by omega)).mono ?_
  rintro e w' ⟨rfl, rfl⟩
  go_wp2_with fail
  go_ret
  exact ⟨rfl, hB13⟩

end Go.Proofs.Ytcljfakpcecejaa
