/-
  The walk of the law that compares ScreenFlow in the program and the reference.
-/
import Derived.Test.YtcljfakpcecejaaScrF
namespace Go.Proofs.Ytcljfakpcecejaa
open Go.RowKit

set_option maxHeartbeats 4000000 in
theorem exactScreenFlow_walk (f0 f1 f2 f3 f4 : Int) {w : World} {A : Option Addr} {n c : Nat} {c0 c1 c2 c3 c4 : Nat → Int} {c5 : Nat → Bool} (h : Rws w w.heap.size 6 A n c (screenR c0 c1 c2 c3 c4 c5)) :
    Calls Try.prog 8 #[.slice A n c, .agg #[.int .i64 f0, .int .i64 f1, .int .i64 f2, .int .i64 f3, .int .i64 f4]] w (Truly w) := by
  have hnc := h.1.1
  have hcm := h.1.2
  have HH := Lib.hid h
  clear h
  by_cases hn : (n : Int) ≤ 1048576
  · have hsz : szI n 1048576 = 1048576 - n := if_pos hn
    go_enter Try.func8, Try.ntmps8
    go_wp2_with fail
    refine (szScreenS_any 1048576 hnc hcm (by omega) (by omega) _).mono ?_
    rintro e w' ⟨rfl, rfl⟩
    go_wp2_with fail
    have hA : Below w.heap.size w (w.alloc (.cells #[.int .i64 f0, .int .i64 f1, .int .i64 f2, .int .i64 f3, .int .i64 f4] 27)) := by (repeat (first | exact Below.refl _ _ | assumption | refine Below.al ?_ _ | refine Below.dr ?_ | (refine Below.st ?_ (by simp <;> omega) _) | (refine Below.tr ?_ (by assumption))))
    refine wp_region_free (ds := [(0, 17), (1, 18), (2, 19), (3, 20), (4, 21), (5, 16), (6, 22), (7, 23), (8, 6), (9, 7)]) 10 (by kernel_rfl) (by kernel_rfl) (by first | exact .inl rfl | exact .inr (by kernel_rfl)) (by rfl) rfl rfl ?_
    apply free_is
    · intro a' w' hLe hfr hdep
      have e0 := hfr 0 rfl
      conv at e0 => rhs; whnf
      have f0 := e0; simp only [Array.getD_eq_getD_getElem?] at f0
      refine wpOp_plain rfl rfl (fun K hK => ?_)
      go_simp
      exact hK _ _ ⟨_, rfl, Below.refl _ _, rfl⟩
    refine free_cons (kbMade (w.heap.size)  31 6 n (screenR c0 c1 c2 c3 c4 c5)) ?_ ?_
    · intro a' w' hLe hfr hdep
      have e17 : a'.tmps.getD 17 undef = _ := hdep 0 17 (Nat.le_of_ble_eq_true rfl) rfl rfl
      conv at e17 => rhs; whnf
      have f17 := e17; simp only [Array.getD_eq_getD_getElem?] at f17
      have kc := fun i => keepc hLe (w.heap.size) (by (try simp) <;> omega) i
      have kf := fun i => keepf hLe (w.heap.size) (by (try simp) <;> omega) i
      have kz : w.heap.size < w'.heap.size := (by have := hLe.size; (try simp at this); omega)
      refine wpOp_plain rfl rfl (fun K hK => ?_)
      go_simp
      refine (toScreenS_any (HH.out.below ((Below.tr hA hLe).mono (Nat.le_refl _))) (by have := hLe.size; (try simp at this); omega) (by omega)).mono ?_
      rintro e w2 ⟨g, rfl, hg1, hN1, hb⟩
      exact hK _ _ ⟨_, rfl, hb, ⟨g, rfl, by have := hLe.size; (try simp at this); omega, hN1⟩⟩
    apply free_is
    · intro a' w' hLe hfr hdep
      have e3 := hfr 3 rfl
      conv at e3 => rhs; whnf
      have f3 := e3; simp only [Array.getD_eq_getD_getElem?] at f3
      have kc := fun i => keepc hLe (w.heap.size) (by (try simp) <;> omega) i
      have kf := fun i => keepf hLe (w.heap.size) (by (try simp) <;> omega) i
      have kz : w.heap.size < w'.heap.size := (by have := hLe.size; (try simp at this); omega)
      refine wpOp_plain rfl rfl (fun K hK => ?_)
      go_simp
      exact hK _ _ ⟨_, rfl, Below.refl _ _, rfl⟩
    apply free_is
    · intro a' w' hLe hfr hdep
      have e19 : a'.tmps.getD 19 undef = _ := hdep 2 19 (Nat.le_of_ble_eq_true rfl) rfl rfl
      conv at e19 => rhs; whnf
      have f19 := e19; simp only [Array.getD_eq_getD_getElem?] at f19
      have kc := fun i => keepc hLe (w.heap.size) (by (try simp) <;> omega) i
      have kf := fun i => keepf hLe (w.heap.size) (by (try simp) <;> omega) i
      have kz : w.heap.size < w'.heap.size := (by have := hLe.size; (try simp at this); omega)
      refine wpOp_plain rfl rfl (fun K hK => ?_)
      go_simp
      refine (toFlow_any _ _ _ _ _ _).mono ?_
      rintro e w2 ⟨rfl, hb⟩
      exact hK _ _ ⟨_, rfl, hb, rfl⟩
    apply free_is
    · intro a' w' hLe hfr hdep
      obtain ⟨g18, e18, hg18, hN18⟩ := hdep 1 18 (Nat.le_of_ble_eq_true rfl) rfl rfl
      have f18 := e18; simp only [Array.getD_eq_getD_getElem?] at f18
      have e20 : a'.tmps.getD 20 undef = _ := hdep 3 20 (Nat.le_of_ble_eq_true rfl) rfl rfl
      conv at e20 => rhs; whnf
      have f20 := e20; simp only [Array.getD_eq_getD_getElem?] at f20
      have kc := fun i => keepc hLe (w.heap.size) (by (try simp) <;> omega) i
      have kf := fun i => keepf hLe (w.heap.size) (by (try simp) <;> omega) i
      have kz : w.heap.size < w'.heap.size := (by have := hLe.size; (try simp at this); omega)
      refine wpOp_plain rfl rfl (fun K hK => ?_)
      go_simp
      refine (specScreenFlow_any _ _ _ _ _ (hN18.rows (by unfold maxLen; omega) hN18.lt) (Nat.le_refl _)).mono ?_
      rintro e w2 ⟨rfl, hb⟩
      exact hK _ _ ⟨_, rfl, hb, rfl⟩
    apply free_is
    · intro a' w' hLe hfr hdep
      have e21 : a'.tmps.getD 21 undef = _ := hdep 4 21 (Nat.le_of_ble_eq_true rfl) rfl rfl
      conv at e21 => rhs; whnf
      have f21 := e21; simp only [Array.getD_eq_getD_getElem?] at f21
      refine wpOp_plain rfl rfl (fun K hK => ?_)
      go_simp
      exact hK _ _ ⟨_, rfl, Below.refl _ _, rfl⟩
    apply free_is
    · intro a' w' hLe hfr hdep
      have e16 : a'.tmps.getD 16 undef = _ := hdep 5 16 (Nat.le_of_ble_eq_true rfl) rfl rfl
      conv at e16 => rhs; whnf
      have f16 := e16; simp only [Array.getD_eq_getD_getElem?] at f16
      refine wpOp_plain rfl rfl (fun K hK => ?_)
      go_simp
      exact hK _ _ ⟨_, rfl, Below.refl _ _, rfl⟩
    apply free_is
    · intro a' w' hLe hfr hdep
      have e16 : a'.tmps.getD 16 undef = _ := hdep 5 16 (Nat.le_of_ble_eq_true rfl) rfl rfl
      conv at e16 => rhs; whnf
      have f16 := e16; simp only [Array.getD_eq_getD_getElem?] at f16
      refine wpOp_plain rfl rfl (fun K hK => ?_)
      go_simp
      exact hK _ _ ⟨_, rfl, Below.refl _ _, rfl⟩
    apply free_is
    · intro a' w' hLe hfr hdep
      have e22 : a'.tmps.getD 22 undef = _ := hdep 6 22 (Nat.le_of_ble_eq_true rfl) rfl rfl
      conv at e22 => rhs; whnf
      have f22 := e22; simp only [Array.getD_eq_getD_getElem?] at f22
      refine wpOp_plain rfl rfl (fun K hK => ?_)
      go_simp
      exact hK _ _ ⟨_, rfl, Below.refl _ _, rfl⟩
    apply free_is
    · intro a' w' hLe hfr hdep
      have e23 : a'.tmps.getD 23 undef = _ := hdep 7 23 (Nat.le_of_ble_eq_true rfl) rfl rfl
      conv at e23 => rhs; whnf
      have f23 := e23; simp only [Array.getD_eq_getD_getElem?] at f23
      refine wpOp_plain rfl rfl (fun K hK => ?_)
      go_simp
      exact hK _ _ ⟨_, rfl, Below.refl _ _, rfl⟩
    apply free_nil
    intro vs w1 hb1 hT1
    have e17 : vs 0 = _ := hT1 0 17 rfl
    conv at e17 => rhs; whnf
    obtain ⟨g18, e18, hg18, hN18⟩ := hT1 1 18 rfl
    have e19 : vs 2 = _ := hT1 2 19 rfl
    conv at e19 => rhs; whnf
    have e20 : vs 3 = _ := hT1 3 20 rfl
    conv at e20 => rhs; whnf
    have e21 : vs 4 = _ := hT1 4 21 rfl
    conv at e21 => rhs; whnf
    have e16 : vs 5 = _ := hT1 5 16 rfl
    conv at e16 => rhs; whnf
    have e22 : vs 6 = _ := hT1 6 22 rfl
    conv at e22 => rhs; whnf
    have e23 : vs 7 = _ := hT1 7 23 rfl
    conv at e23 => rhs; whnf
    have e6 : vs 8 = _ := hT1 8 6 rfl
    conv at e6 => rhs; whnf
    have e7 : vs 9 = _ := hT1 9 7 rfl
    conv at e7 => rhs; whnf
    simp only [putAll, List.drop_succ_cons, List.drop_zero, e17, e18, e19, e20, e21, e16, e22, e23, e6, e7]
    clear hT1 e17 e18 e19 e20 e21 e16 e22 e23 e6 e7
    go_simp
    have hB1 := Below.tr hA hb1
    have k1 := keepc hb1 w.heap.size (by simp)
    have z1 : w.heap.size < w1.heap.size := (by have := hb1.size; simp at this; omega)
    go_wp2_with fail
    refine (toScreenS_any (HH.out.below hB1) hB1.size (by omega)).mono ?_
    rintro e w3 ⟨g3, rfl, hg3, hN3, hb3⟩
    have hB3 := Below.tr hB1 hb3
    have hR3 := Lib.hid (hN3.rows (by unfold maxLen; omega) hN3.lt)
    have k3 := keepc hb3 w.heap.size z1
    have z3 : w.heap.size < w3.heap.size := Nat.lt_of_lt_of_le z1 hb3.size
    clear hN3
    go_wp2_with fail
    refine (toFlow_any _ _ _ _ _ _).mono ?_
    rintro e w4 ⟨rfl, hb4⟩
    have hB4 := Below.tr hB3 hb4
    go_wp2_with fail
    refine (implScreenFlow_any _ _ _ _ _ ((hR3.out.below hb4).more hb4.size) (Nat.le_refl _)).mono ?_
    rintro e w5 ⟨rfl, hb5⟩
    have hB5 := Below.tr hB4 hb5
    go_wp2_with fail
    refine (toScreenS_any (HH.out.below hB5) hB5.size (by omega)).mono ?_
    rintro e w6 ⟨g6, rfl, hg6, hN6, hb6⟩
    have hB6 := Below.tr hB5 hb6
    have hb36 := Below.tr (Below.tr hb4 hb5) hb6
    go_wp2_with fail
    refine (eqScreenS_same ((hR3.out.below hb36).more hb36.size) (hN6.rows (by unfold maxLen; omega) hN6.lt) (Nat.le_refl _)).mono ?_
    rintro e w7 ⟨rfl, hb7⟩
    go_wp2_with fail
    go_ret
    exact ⟨rfl, Below.tr hB6 hb7⟩
  · have hsz : szI n 1048576 = -1 := if_neg hn
    go_enter Try.func8, Try.ntmps8
    go_wp2_with fail
    refine (szScreenS_any 1048576 hnc hcm (by omega) (by omega) _).mono ?_
    rintro e w' ⟨rfl, rfl⟩
    go_wp2_with fail
    go_ret
    exact ⟨rfl, by (repeat (first | exact Below.refl _ _ | assumption | refine Below.al ?_ _ | refine Below.dr ?_ | (refine Below.st ?_ (by simp <;> omega) _) | (refine Below.tr ?_ (by assumption))))⟩
end Go.Proofs.Ytcljfakpcecejaa
