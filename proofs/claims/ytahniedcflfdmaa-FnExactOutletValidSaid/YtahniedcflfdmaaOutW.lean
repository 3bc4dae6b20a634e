/-
  The walk of the law that compares OutletValid in the program and the reference.
-/
import Derived.Test.YtahniedcflfdmaaOut
import Derived.Test.YtahniedcflfdmaaOutT
namespace Go.Proofs.Ytahniedcflfdmaa
open Go.RowKit

set_option maxHeartbeats 4000000 in
theorem exactOutletValid_walk (x0 x1 : Int) {w : World} {A : Option Addr} {n c : Nat} {c0 c1 c2 c3 c4 : Nat → Int} (h : Rws w w.heap.size 5 A n c (flowR c0 c1 c2 c3 c4)) :
    Calls Try.prog 3 #[.agg #[.int .i64 x0, .int .i64 x1, .slice A n c]] w (Truly w) := by
  have hnc := h.1.1
  have hcm := h.1.2
  have HH := Lib.hid h
  clear h
  by_cases hn : (n : Int) ≤ 1048576
  · have hsz : szI n 1048576 = 1048576 - n := if_pos hn
    go_enter Try.func3, Try.ntmps3
    go_wp2_with fail
    refine (szOutlet_any _ _ 1048576 hnc hcm (by omega) (by omega) _).mono ?_
    rintro e w1 ⟨rfl, hb1⟩
    have hB1 := Below.tr (show Below w.heap.size w _ by (repeat (first | exact Below.refl _ _ | assumption | refine Below.al ?_ _ | refine Below.dr ?_ | (refine Below.st ?_ (by simp <;> omega) _) | (refine Below.tr ?_ (by assumption))))) hb1
    have k1 := keepc hb1 w.heap.size (by simp)
    have z1 : w.heap.size < w1.heap.size := (by have := hb1.size; simp at this; omega)
    go_wp2_with fail
    refine (toOutlet_any _ _ (HH.out.below hB1) hB1.size (by omega)).mono ?_
    rintro e w2 ⟨g2, rfl, hg2, hN2, hb2⟩
    have hB2 := Below.tr hB1 hb2
    have k2 := keepc hb2 w.heap.size z1
    have z2 : w.heap.size < w2.heap.size := Nat.lt_of_lt_of_le z1 hb2.size
    go_wp2_with fail
    refine (specOutletValid_any _ _ (hN2.rows (by unfold maxLen; omega) hN2.lt) (Nat.le_refl _)).mono ?_
    rintro e w3 ⟨rfl, hb3⟩
    have hB3 := Below.tr hB2 hb3
    have k3 := keepc hb3 w.heap.size z2
    have z3 : w.heap.size < w3.heap.size := Nat.lt_of_lt_of_le z2 hb3.size
    go_wp2_with fail
    refine (toOutlet_any _ _ (HH.out.below hB3) hB3.size (by omega)).mono ?_
    rintro e w4 ⟨g4, rfl, hg4, hN4, hb4⟩
    have hB4 := Below.tr hB3 hb4
    have k4 := keepc hb4 w.heap.size z3
    have z4 : w.heap.size < w4.heap.size := Nat.lt_of_lt_of_le z3 hb4.size
    have hR4 := Lib.hid (hN4.rows (by unfold maxLen; omega) hN4.lt)
    clear hN2 hN4
    go_wp2_with fail
    refine (implOutletValid_any _ _ (hR4.out.below (by (repeat (first | exact Below.refl _ _ | assumption | refine Below.al ?_ _ | refine Below.dr ?_ | (refine Below.st ?_ (by simp <;> omega) _) | (refine Below.tr ?_ (by assumption)))))) (by simp)).mono ?_
    rintro e w5 ⟨rfl, hb5⟩
    have hb45 : Below w4.heap.size w4 w5 := Below.tr (by (repeat (first | exact Below.refl _ _ | assumption | refine Below.al ?_ _ | refine Below.dr ?_ | (refine Below.st ?_ (by simp <;> omega) _) | (refine Below.tr ?_ (by assumption))))) hb5
    have hB5 := Below.tr hB4 hb45
    have k5 := keepc hb5 w.heap.size (by simp <;> omega)
    have z5 : w4.heap.size < w5.heap.size := (by have := hb5.size; simp at this; omega)
    have k6 : ∀ i, w5.cell? ⟨w4.heap.size, i, none⟩ = #[Value.int .i64 x0, .int .i64 x1, .slice (some ⟨g4, 0, none⟩) n n][i]? := fun i => (keepc hb5 w4.heap.size (by simp) i).trans ((blk (heap_alloc_new w4 _)).1 i)
    go_wp2_with fail
    refine wp_region_free (ds := [(0, 22), (1, 23), (2, 24), (3, 25), (4, 26)]) 5 (by kernel_rfl) (by kernel_rfl) (by first | exact .inl rfl | exact .inr (by kernel_rfl)) (by rfl) rfl rfl ?_
    apply free_is
    · intro a' w' hLe hfr hdep
      have e5 := hfr 5 rfl
      conv at e5 => rhs; whnf
      have f5 := e5; simp only [Array.getD_eq_getD_getElem?] at f5
      have kc := fun i => keepc hLe (w.heap.size) (by (try simp) <;> omega) i
      have kf := fun i => keepf hLe (w.heap.size) (by (try simp) <;> omega) i
      have kz : w.heap.size < w'.heap.size := (by have := hLe.size; (try simp at this); omega)
      have kc := fun i => keepc hLe (w4.heap.size) (by (try simp) <;> omega) i
      have kf := fun i => keepf hLe (w4.heap.size) (by (try simp) <;> omega) i
      have kz : w4.heap.size < w'.heap.size := (by have := hLe.size; (try simp at this); omega)
      refine wpOp_plain rfl rfl (fun K hK => ?_)
      go_simp
      exact hK _ _ ⟨_, rfl, Below.refl _ _, rfl⟩
    apply free_is
    · intro a' w' hLe hfr hdep
      have e1 := hfr 1 rfl
      conv at e1 => rhs; whnf
      have f1 := e1; simp only [Array.getD_eq_getD_getElem?] at f1
      have kc := fun i => keepc hLe (w.heap.size) (by (try simp) <;> omega) i
      have kf := fun i => keepf hLe (w.heap.size) (by (try simp) <;> omega) i
      have kz : w.heap.size < w'.heap.size := (by have := hLe.size; (try simp at this); omega)
      have kc := fun i => keepc hLe (w4.heap.size) (by (try simp) <;> omega) i
      have kf := fun i => keepf hLe (w4.heap.size) (by (try simp) <;> omega) i
      have kz : w4.heap.size < w'.heap.size := (by have := hLe.size; (try simp at this); omega)
      refine wpOp_plain rfl rfl (fun K hK => ?_)
      go_simp
      exact hK _ _ ⟨_, rfl, Below.refl _ _, rfl⟩
    refine free_cons (kbOutlet w.heap.size x0 x1 n (flowR c0 c1 c2 c3 c4)) ?_ ?_
    · intro a' w' hLe hfr hdep
      have e23 : a'.tmps.getD 23 undef = _ := hdep 1 23 (Nat.le_of_ble_eq_true rfl) rfl rfl
      conv at e23 => rhs; whnf
      have f23 := e23; simp only [Array.getD_eq_getD_getElem?] at f23
      have kc := fun i => keepc hLe (w.heap.size) (by (try simp) <;> omega) i
      have kf := fun i => keepf hLe (w.heap.size) (by (try simp) <;> omega) i
      have kz : w.heap.size < w'.heap.size := (by have := hLe.size; (try simp at this); omega)
      have kc := fun i => keepc hLe (w4.heap.size) (by (try simp) <;> omega) i
      have kf := fun i => keepf hLe (w4.heap.size) (by (try simp) <;> omega) i
      have kz : w4.heap.size < w'.heap.size := (by have := hLe.size; (try simp at this); omega)
      refine wpOp_plain rfl rfl (fun K hK => ?_)
      go_simp
      refine (toOutlet_any _ _ (HH.out.below (Below.tr hB5 hLe)) (by have := (Below.tr hB5 hLe).size; omega) (by omega)).mono ?_
      rintro e w2 ⟨g, rfl, hg1, hN1, hb⟩
      exact hK _ _ ⟨_, rfl, hb, ⟨g, rfl, by have := (Below.tr hB5 hLe).size; omega, hN1⟩⟩
    apply free_is
    · intro a' w' hLe hfr hdep
      have e22 : a'.tmps.getD 22 undef = _ := hdep 0 22 (Nat.le_of_ble_eq_true rfl) rfl rfl
      conv at e22 => rhs; whnf
      have f22 := e22; simp only [Array.getD_eq_getD_getElem?] at f22
      obtain ⟨g24, e24, hg24, hN24⟩ := hdep 2 24 (Nat.le_of_ble_eq_true rfl) rfl rfl
      have f24 := e24; simp only [Array.getD_eq_getD_getElem?] at f24
      have kc := fun i => keepc hLe (w.heap.size) (by (try simp) <;> omega) i
      have kf := fun i => keepf hLe (w.heap.size) (by (try simp) <;> omega) i
      have kz : w.heap.size < w'.heap.size := (by have := hLe.size; (try simp at this); omega)
      have kc := fun i => keepc hLe (w4.heap.size) (by (try simp) <;> omega) i
      have kf := fun i => keepf hLe (w4.heap.size) (by (try simp) <;> omega) i
      have kz : w4.heap.size < w'.heap.size := (by have := hLe.size; (try simp at this); omega)
      refine wpOp_plain rfl rfl (fun K hK => ?_)
      go_simp
      refine (eqOutlet_same _ _ ((hR4.out.below (Below.tr hb45 hLe)).more (Below.tr hb45 hLe).size) (hN24.rows (by unfold maxLen; omega) hN24.lt) (Nat.le_refl _)).mono ?_
      rintro e w2 ⟨rfl, hb⟩
      exact hK _ _ ⟨_, rfl, hb, rfl⟩
    apply free_is
    · intro a' w' hLe hfr hdep
      have e25 : a'.tmps.getD 25 undef = _ := hdep 3 25 (Nat.le_of_ble_eq_true rfl) rfl rfl
      conv at e25 => rhs; whnf
      have f25 := e25; simp only [Array.getD_eq_getD_getElem?] at f25
      refine wpOp_plain rfl rfl (fun K hK => ?_)
      go_simp
      exact hK _ _ ⟨_, rfl, Below.refl _ _, rfl⟩
    apply free_nil
    intro vs w6 hb6 hT6
    have e22 : vs 0 = _ := hT6 0 22 rfl
    conv at e22 => rhs; whnf
    have e23 : vs 1 = _ := hT6 1 23 rfl
    conv at e23 => rhs; whnf
    obtain ⟨g24, e24, hg24, hN24⟩ := hT6 2 24 rfl
    have e25 : vs 3 = _ := hT6 3 25 rfl
    conv at e25 => rhs; whnf
    have e26 : vs 4 = _ := hT6 4 26 rfl
    conv at e26 => rhs; whnf
    simp only [putAll, List.drop_succ_cons, List.drop_zero, e22, e23, e24, e25, e26]
    clear hT6 e22 e23 e24 e25 e26
    go_simp
    go_wp2_with fail
    go_ret
    exact ⟨rfl, Below.tr hB5 hb6⟩
  · have hsz : szI n 1048576 = -1 := if_neg hn
    go_enter Try.func3, Try.ntmps3
    go_wp2_with fail
    refine (szOutlet_any _ _ 1048576 hnc hcm (by omega) (by omega) _).mono ?_
    rintro e w1 ⟨rfl, hb1⟩
    have hB1 := Below.tr (show Below w.heap.size w _ by (repeat (first | exact Below.refl _ _ | assumption | refine Below.al ?_ _ | refine Below.dr ?_ | (refine Below.st ?_ (by simp <;> omega) _) | (refine Below.tr ?_ (by assumption))))) hb1
    go_wp2_with fail
    go_ret
    exact ⟨rfl, hB1⟩

end Go.Proofs.Ytahniedcflfdmaa
