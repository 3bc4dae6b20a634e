/-
  New desks: what the program and the reference make; how the laws compare them.
-/
import Derived.Test.YtbnfllpimnnmfaaNil
import Derived.Test.YtbnfllpimnnmfaaFlow
import Derived.Test.YtbnfllpimnnmfaaStill
namespace Go.Proofs.Ytbnfllpimnnmfaa
open Go Go.RowKit Go.Joins

/-- A desk without hosts and entries. -/
def deskV (A : Option Addr) (c : Nat) (sz st : Int) (A' : Option Addr) (c' : Nat) : Value := .agg #[.slice A 0 c, .int .i64 sz, .int .i64 st, .slice A' 0 c', .int .i64 0]
set_option maxHeartbeats 2000000 in
theorem implDeskValid_nil {A A' : Option Addr} {c c' : Nat} (sz st : Int) (w : World) : Calls Try.prog 17 #[.agg #[.slice A 0 c, .int .i64 sz, .int .i64 st, .slice A' 0 c', .int .i64 0]] w fun e w' => e = .returned (.bool (tabB sz st)) ∧ Below w.heap.size w w' := by
  cases h : tabB sz st with
  | false =>
    go_enter Try.func17, Try.ntmps17
    go_wp2_with fail
    refine (implPoolValid_nil _).mono ?_
    rintro e w' ⟨rfl, rfl⟩
    go_wp2_with fail
    refine (implTableValid_nil _ _ _).mono ?_
    rintro e w1 ⟨rfl, hb1⟩
    rw [h]
    go_wp2
    go_ret
    exact ⟨rfl, Below.tr (by (repeat (first | exact Below.refl _ _ | assumption | refine Below.al ?_ _ | refine Below.dr ?_ | (refine Below.st ?_ (by simp <;> omega) _) | (refine Below.tr ?_ (by assumption))))) hb1⟩
  | true =>
    go_enter Try.func17, Try.ntmps17
    go_wp2_with fail
    refine (implPoolValid_nil _).mono ?_
    rintro e w' ⟨rfl, rfl⟩
    go_wp2_with fail
    refine (implTableValid_nil _ _ _).mono ?_
    rintro e w1 ⟨rfl, hb1⟩
    rw [h]
    have k1 : ∀ i, w1.cell? ⟨w.heap.size, i, none⟩ = #[Value.slice A 0 c, .int .i64 sz, .int .i64 st, .slice A' 0 c', .int .i64 0][i]? := fun i => (keepc hb1 w.heap.size (by simp) i).trans ((blk (heap_alloc_new w _)).1 i)
    go_wp2_with fail
    refine (fitsTime_nil _ _ _).mono ?_
    rintro e w2 ⟨rfl, hb2⟩
    go_wp2
    go_ret
    exact ⟨rfl, Below.tr (Below.tr (by (repeat (first | exact Below.refl _ _ | assumption | refine Below.al ?_ _ | refine Below.dr ?_ | (refine Below.st ?_ (by simp <;> omega) _) | (refine Below.tr ?_ (by assumption))))) hb1) hb2⟩
set_option maxHeartbeats 4000000 in
theorem specDeskValid_nil {A A' : Option Addr} {c c' : Nat} (sz st : Int) (w : World) : Calls Try.prog 20 #[.agg #[.slice A 0 c, .int .i64 sz, .int .i64 st, .slice A' 0 c', .int .i64 0]] w fun e w' => e = .returned (.bool (tabB sz st)) ∧ Below w.heap.size w w' := by
  have h0 : inB 0 0 100000 = true := by decide
  cases h : tabB sz st with
  | false =>
    go_enter Try.func20, Try.ntmps20
    go_wp2
    refine wp_region_still (ds := [(0, 3), (1, 4), (2, 5), (3, 6), (4, 7), (5, 8), (6, 9), (7, 10), (8, 11), (9, 12), (10, 13), (11, 14), (12, 15), (13, 16), (14, 17), (15, 18), (16, 2)]) 17 (by kernel_rfl) (by kernel_rfl) (by first | exact .inl rfl | exact .inr (by kernel_rfl)) (by rfl) rfl rfl ?_
    apply still_cons
    · intro a' w' hLe hfr hdep
      have e1 := hfr 1 rfl
      conv at e1 => rhs; whnf
      have f1 := e1; simp only [Array.getD_eq_getD_getElem?] at f1
      refine wpOp_plain rfl rfl (fun K hK => ?_)
      go_simp
      exact hK _ _ ⟨rfl, Below.refl _ _⟩
    apply still_cons
    · intro a' w' hLe hfr hdep
      have e3 := hdep 0 3 (Nat.le_of_ble_eq_true rfl) rfl rfl
      conv at e3 => rhs; whnf
      have f3 := e3; simp only [Array.getD_eq_getD_getElem?] at f3
      have kc := fun i => keepc hLe (w.heap.size) (by (try simp) <;> omega) i
      have kf := fun i => keepf hLe (w.heap.size) (by (try simp) <;> omega) i
      refine wpOp_plain rfl rfl (fun K hK => ?_)
      go_simp
      exact hK _ _ ⟨rfl, Below.refl _ _⟩
    apply still_cons
    · intro a' w' hLe hfr hdep
      have e4 := hdep 1 4 (Nat.le_of_ble_eq_true rfl) rfl rfl
      conv at e4 => rhs; whnf
      have f4 := e4; simp only [Array.getD_eq_getD_getElem?] at f4
      refine wpOp_plain rfl rfl (fun K hK => ?_)
      go_simp
      refine (specPoolValid_nil _).mono ?_
      rintro e w2 ⟨rfl, rfl⟩
      exact hK _ _ ⟨rfl, Below.refl _ _⟩
    apply still_cons
    · intro a' w' hLe hfr hdep
      have e5 := hdep 2 5 (Nat.le_of_ble_eq_true rfl) rfl rfl
      conv at e5 => rhs; whnf
      have f5 := e5; simp only [Array.getD_eq_getD_getElem?] at f5
      refine wpOp_plain rfl rfl (fun K hK => ?_)
      go_simp
      exact hK _ _ ⟨rfl, Below.refl _ _⟩
    apply still_cons
    · intro a' w' hLe hfr hdep
      have e6 := hdep 3 6 (Nat.le_of_ble_eq_true rfl) rfl rfl
      conv at e6 => rhs; whnf
      have f6 := e6; simp only [Array.getD_eq_getD_getElem?] at f6
      have e1 := hfr 1 rfl
      conv at e1 => rhs; whnf
      have f1 := e1; simp only [Array.getD_eq_getD_getElem?] at f1
      refine wpOp_yes rfl rfl rfl e6 (fun K hK => ?_)
      go_simp
      exact hK _ _ ⟨rfl, Below.refl _ _⟩
    apply still_cons
    · intro a' w' hLe hfr hdep
      have e6 := hdep 3 6 (Nat.le_of_ble_eq_true rfl) rfl rfl
      conv at e6 => rhs; whnf
      have f6 := e6; simp only [Array.getD_eq_getD_getElem?] at f6
      have e7 := hdep 4 7 (Nat.le_of_ble_eq_true rfl) rfl rfl
      conv at e7 => rhs; whnf
      have f7 := e7; simp only [Array.getD_eq_getD_getElem?] at f7
      have kc := fun i => keepc hLe (w.heap.size) (by (try simp) <;> omega) i
      have kf := fun i => keepf hLe (w.heap.size) (by (try simp) <;> omega) i
      refine wpOp_yes rfl rfl rfl e6 (fun K hK => ?_)
      go_simp
      exact hK _ _ ⟨rfl, Below.refl _ _⟩
    apply still_cons
    · intro a' w' hLe hfr hdep
      have e6 := hdep 3 6 (Nat.le_of_ble_eq_true rfl) rfl rfl
      conv at e6 => rhs; whnf
      have f6 := e6; simp only [Array.getD_eq_getD_getElem?] at f6
      have e8 := hdep 5 8 (Nat.le_of_ble_eq_true rfl) rfl rfl
      conv at e8 => rhs; whnf
      have f8 := e8; simp only [Array.getD_eq_getD_getElem?] at f8
      refine wpOp_yes rfl rfl rfl e6 (fun K hK => ?_)
      go_simp
      refine (specTableValid_nil _ _ _).mono ?_
      rintro e w2 ⟨rfl, hb⟩
      exact hK _ _ ⟨rfl, hb⟩
    apply still_cons
    · intro a' w' hLe hfr hdep
      have e6 := hdep 3 6 (Nat.le_of_ble_eq_true rfl) rfl rfl
      conv at e6 => rhs; whnf
      have f6 := e6; simp only [Array.getD_eq_getD_getElem?] at f6
      have e9 := hdep 6 9 (Nat.le_of_ble_eq_true rfl) rfl rfl
      conv at e9 => rhs; whnf
      have f9 := e9; simp only [Array.getD_eq_getD_getElem?] at f9
      refine wpOp_plain rfl rfl (fun K hK => ?_)
      go_simp
      exact hK _ _ ⟨rfl, Below.refl _ _⟩
    apply still_cons
    · intro a' w' hLe hfr hdep
      have e10 := hdep 7 10 (Nat.le_of_ble_eq_true rfl) rfl rfl
      conv at e10 => rhs; whnf
      have f10 := e10; simp only [Array.getD_eq_getD_getElem?] at f10
      refine wpOp_plain rfl rfl (fun K hK => ?_)
      go_simp
      exact hK _ _ ⟨rfl, Below.refl _ _⟩
    apply still_cons
    · intro a' w' hLe hfr hdep
      have e11 := hdep 8 11 (Nat.le_of_ble_eq_true rfl) rfl rfl
      conv at e11 => rhs; whnf
      have f11 := e11; simp only [Array.getD_eq_getD_getElem?] at f11
      exact wpOp_no rfl rfl rfl e11 ⟨rfl, Below.refl _ _⟩
    apply still_cons
    · intro a' w' hLe hfr hdep
      have e11 := hdep 8 11 (Nat.le_of_ble_eq_true rfl) rfl rfl
      conv at e11 => rhs; whnf
      have f11 := e11; simp only [Array.getD_eq_getD_getElem?] at f11
      exact wpOp_no rfl rfl rfl e11 ⟨rfl, Below.refl _ _⟩
    apply still_cons
    · intro a' w' hLe hfr hdep
      have e11 := hdep 8 11 (Nat.le_of_ble_eq_true rfl) rfl rfl
      conv at e11 => rhs; whnf
      have f11 := e11; simp only [Array.getD_eq_getD_getElem?] at f11
      exact wpOp_no rfl rfl rfl e11 ⟨rfl, Below.refl _ _⟩
    apply still_cons
    · intro a' w' hLe hfr hdep
      have e11 := hdep 8 11 (Nat.le_of_ble_eq_true rfl) rfl rfl
      conv at e11 => rhs; whnf
      have f11 := e11; simp only [Array.getD_eq_getD_getElem?] at f11
      exact wpOp_no rfl rfl rfl e11 ⟨rfl, Below.refl _ _⟩
    apply still_cons
    · intro a' w' hLe hfr hdep
      have e11 := hdep 8 11 (Nat.le_of_ble_eq_true rfl) rfl rfl
      conv at e11 => rhs; whnf
      have f11 := e11; simp only [Array.getD_eq_getD_getElem?] at f11
      exact wpOp_no rfl rfl rfl e11 ⟨rfl, Below.refl _ _⟩
    apply still_cons
    · intro a' w' hLe hfr hdep
      have e11 := hdep 8 11 (Nat.le_of_ble_eq_true rfl) rfl rfl
      conv at e11 => rhs; whnf
      have f11 := e11; simp only [Array.getD_eq_getD_getElem?] at f11
      exact wpOp_no rfl rfl rfl e11 ⟨rfl, Below.refl _ _⟩
    apply still_cons
    · intro a' w' hLe hfr hdep
      have e11 := hdep 8 11 (Nat.le_of_ble_eq_true rfl) rfl rfl
      conv at e11 => rhs; whnf
      have f11 := e11; simp only [Array.getD_eq_getD_getElem?] at f11
      have e17 := hdep 14 17 (Nat.le_of_ble_eq_true rfl) rfl rfl
      conv at e17 => rhs; whnf
      have f17 := e17; simp only [Array.getD_eq_getD_getElem?] at f17
      refine wpOp_plain rfl rfl (fun K hK => ?_)
      go_simp
      exact hK _ _ ⟨rfl, Below.refl _ _⟩
    apply still_cons
    · intro a' w' hLe hfr hdep
      have e18 := hdep 15 18 (Nat.le_of_ble_eq_true rfl) rfl rfl
      conv at e18 => rhs; whnf
      have f18 := e18; simp only [Array.getD_eq_getD_getElem?] at f18
      refine wpOp_plain rfl rfl (fun K hK => ?_)
      go_simp
      exact hK _ _ ⟨rfl, Below.refl _ _⟩
    apply still_nil
    intro w1 hb1
    simp only [putAll, List.drop_succ_cons, List.drop_zero]
    go_simp
    go_wp2
    go_ret
    exact ⟨rfl, Below.tr (by (repeat (first | exact Below.refl _ _ | assumption | refine Below.al ?_ _ | refine Below.dr ?_ | (refine Below.st ?_ (by simp <;> omega) _) | (refine Below.tr ?_ (by assumption))))) hb1⟩
  | true =>
    go_enter Try.func20, Try.ntmps20
    go_wp2
    refine wp_region_still (ds := [(0, 3), (1, 4), (2, 5), (3, 6), (4, 7), (5, 8), (6, 9), (7, 10), (8, 11), (9, 12), (10, 13), (11, 14), (12, 15), (13, 16), (14, 17), (15, 18), (16, 2)]) 17 (by kernel_rfl) (by kernel_rfl) (by first | exact .inl rfl | exact .inr (by kernel_rfl)) (by rfl) rfl rfl ?_
    apply still_cons
    · intro a' w' hLe hfr hdep
      have e1 := hfr 1 rfl
      conv at e1 => rhs; whnf
      have f1 := e1; simp only [Array.getD_eq_getD_getElem?] at f1
      refine wpOp_plain rfl rfl (fun K hK => ?_)
      go_simp
      exact hK _ _ ⟨rfl, Below.refl _ _⟩
    apply still_cons
    · intro a' w' hLe hfr hdep
      have e3 := hdep 0 3 (Nat.le_of_ble_eq_true rfl) rfl rfl
      conv at e3 => rhs; whnf
      have f3 := e3; simp only [Array.getD_eq_getD_getElem?] at f3
      have kc := fun i => keepc hLe (w.heap.size) (by (try simp) <;> omega) i
      have kf := fun i => keepf hLe (w.heap.size) (by (try simp) <;> omega) i
      refine wpOp_plain rfl rfl (fun K hK => ?_)
      go_simp
      exact hK _ _ ⟨rfl, Below.refl _ _⟩
    apply still_cons
    · intro a' w' hLe hfr hdep
      have e4 := hdep 1 4 (Nat.le_of_ble_eq_true rfl) rfl rfl
      conv at e4 => rhs; whnf
      have f4 := e4; simp only [Array.getD_eq_getD_getElem?] at f4
      refine wpOp_plain rfl rfl (fun K hK => ?_)
      go_simp
      refine (specPoolValid_nil _).mono ?_
      rintro e w2 ⟨rfl, rfl⟩
      exact hK _ _ ⟨rfl, Below.refl _ _⟩
    apply still_cons
    · intro a' w' hLe hfr hdep
      have e5 := hdep 2 5 (Nat.le_of_ble_eq_true rfl) rfl rfl
      conv at e5 => rhs; whnf
      have f5 := e5; simp only [Array.getD_eq_getD_getElem?] at f5
      refine wpOp_plain rfl rfl (fun K hK => ?_)
      go_simp
      exact hK _ _ ⟨rfl, Below.refl _ _⟩
    apply still_cons
    · intro a' w' hLe hfr hdep
      have e6 := hdep 3 6 (Nat.le_of_ble_eq_true rfl) rfl rfl
      conv at e6 => rhs; whnf
      have f6 := e6; simp only [Array.getD_eq_getD_getElem?] at f6
      have e1 := hfr 1 rfl
      conv at e1 => rhs; whnf
      have f1 := e1; simp only [Array.getD_eq_getD_getElem?] at f1
      refine wpOp_yes rfl rfl rfl e6 (fun K hK => ?_)
      go_simp
      exact hK _ _ ⟨rfl, Below.refl _ _⟩
    apply still_cons
    · intro a' w' hLe hfr hdep
      have e6 := hdep 3 6 (Nat.le_of_ble_eq_true rfl) rfl rfl
      conv at e6 => rhs; whnf
      have f6 := e6; simp only [Array.getD_eq_getD_getElem?] at f6
      have e7 := hdep 4 7 (Nat.le_of_ble_eq_true rfl) rfl rfl
      conv at e7 => rhs; whnf
      have f7 := e7; simp only [Array.getD_eq_getD_getElem?] at f7
      have kc := fun i => keepc hLe (w.heap.size) (by (try simp) <;> omega) i
      have kf := fun i => keepf hLe (w.heap.size) (by (try simp) <;> omega) i
      refine wpOp_yes rfl rfl rfl e6 (fun K hK => ?_)
      go_simp
      exact hK _ _ ⟨rfl, Below.refl _ _⟩
    apply still_cons
    · intro a' w' hLe hfr hdep
      have e6 := hdep 3 6 (Nat.le_of_ble_eq_true rfl) rfl rfl
      conv at e6 => rhs; whnf
      have f6 := e6; simp only [Array.getD_eq_getD_getElem?] at f6
      have e8 := hdep 5 8 (Nat.le_of_ble_eq_true rfl) rfl rfl
      conv at e8 => rhs; whnf
      have f8 := e8; simp only [Array.getD_eq_getD_getElem?] at f8
      refine wpOp_yes rfl rfl rfl e6 (fun K hK => ?_)
      go_simp
      refine (specTableValid_nil _ _ _).mono ?_
      rintro e w2 ⟨rfl, hb⟩
      exact hK _ _ ⟨rfl, hb⟩
    apply still_cons
    · intro a' w' hLe hfr hdep
      have e6 := hdep 3 6 (Nat.le_of_ble_eq_true rfl) rfl rfl
      conv at e6 => rhs; whnf
      have f6 := e6; simp only [Array.getD_eq_getD_getElem?] at f6
      have e9 := hdep 6 9 (Nat.le_of_ble_eq_true rfl) rfl rfl
      conv at e9 => rhs; whnf
      have f9 := e9; simp only [Array.getD_eq_getD_getElem?] at f9
      refine wpOp_plain rfl rfl (fun K hK => ?_)
      go_simp
      exact hK _ _ ⟨rfl, Below.refl _ _⟩
    apply still_cons
    · intro a' w' hLe hfr hdep
      have e10 := hdep 7 10 (Nat.le_of_ble_eq_true rfl) rfl rfl
      conv at e10 => rhs; whnf
      have f10 := e10; simp only [Array.getD_eq_getD_getElem?] at f10
      refine wpOp_plain rfl rfl (fun K hK => ?_)
      go_simp
      exact hK _ _ ⟨rfl, Below.refl _ _⟩
    apply still_cons
    · intro a' w' hLe hfr hdep
      have e11 := hdep 8 11 (Nat.le_of_ble_eq_true rfl) rfl rfl
      conv at e11 => rhs; whnf
      have f11 := e11; simp only [Array.getD_eq_getD_getElem?] at f11
      have e1 := hfr 1 rfl
      conv at e1 => rhs; whnf
      have f1 := e1; simp only [Array.getD_eq_getD_getElem?] at f1
      refine wpOp_yes rfl rfl rfl e11 (fun K hK => ?_)
      go_simp
      exact hK _ _ ⟨rfl, Below.refl _ _⟩
    apply still_cons
    · intro a' w' hLe hfr hdep
      have e11 := hdep 8 11 (Nat.le_of_ble_eq_true rfl) rfl rfl
      conv at e11 => rhs; whnf
      have f11 := e11; simp only [Array.getD_eq_getD_getElem?] at f11
      have e12 := hdep 9 12 (Nat.le_of_ble_eq_true rfl) rfl rfl
      conv at e12 => rhs; whnf
      have f12 := e12; simp only [Array.getD_eq_getD_getElem?] at f12
      have kc := fun i => keepc hLe (w.heap.size) (by (try simp) <;> omega) i
      have kf := fun i => keepf hLe (w.heap.size) (by (try simp) <;> omega) i
      refine wpOp_yes rfl rfl rfl e11 (fun K hK => ?_)
      go_simp
      exact hK _ _ ⟨rfl, Below.refl _ _⟩
    apply still_cons
    · intro a' w' hLe hfr hdep
      have e11 := hdep 8 11 (Nat.le_of_ble_eq_true rfl) rfl rfl
      conv at e11 => rhs; whnf
      have f11 := e11; simp only [Array.getD_eq_getD_getElem?] at f11
      have e1 := hfr 1 rfl
      conv at e1 => rhs; whnf
      have f1 := e1; simp only [Array.getD_eq_getD_getElem?] at f1
      refine wpOp_yes rfl rfl rfl e11 (fun K hK => ?_)
      go_simp
      exact hK _ _ ⟨rfl, Below.refl _ _⟩
    apply still_cons
    · intro a' w' hLe hfr hdep
      have e11 := hdep 8 11 (Nat.le_of_ble_eq_true rfl) rfl rfl
      conv at e11 => rhs; whnf
      have f11 := e11; simp only [Array.getD_eq_getD_getElem?] at f11
      have e14 := hdep 11 14 (Nat.le_of_ble_eq_true rfl) rfl rfl
      conv at e14 => rhs; whnf
      have f14 := e14; simp only [Array.getD_eq_getD_getElem?] at f14
      have kc := fun i => keepc hLe (w.heap.size) (by (try simp) <;> omega) i
      have kf := fun i => keepf hLe (w.heap.size) (by (try simp) <;> omega) i
      refine wpOp_yes rfl rfl rfl e11 (fun K hK => ?_)
      go_simp
      exact hK _ _ ⟨rfl, Below.refl _ _⟩
    apply still_cons
    · intro a' w' hLe hfr hdep
      have e11 := hdep 8 11 (Nat.le_of_ble_eq_true rfl) rfl rfl
      conv at e11 => rhs; whnf
      have f11 := e11; simp only [Array.getD_eq_getD_getElem?] at f11
      have e15 := hdep 12 15 (Nat.le_of_ble_eq_true rfl) rfl rfl
      conv at e15 => rhs; whnf
      have f15 := e15; simp only [Array.getD_eq_getD_getElem?] at f15
      refine wpOp_yes rfl rfl rfl e11 (fun K hK => ?_)
      go_simp
      refine (l9Last_nil _ _ _).mono ?_
      rintro e w2 ⟨rfl, hb⟩
      exact hK _ _ ⟨rfl, hb⟩
    apply still_cons
    · intro a' w' hLe hfr hdep
      have e11 := hdep 8 11 (Nat.le_of_ble_eq_true rfl) rfl rfl
      conv at e11 => rhs; whnf
      have f11 := e11; simp only [Array.getD_eq_getD_getElem?] at f11
      have e13 := hdep 10 13 (Nat.le_of_ble_eq_true rfl) rfl rfl
      conv at e13 => rhs; whnf
      have f13 := e13; simp only [Array.getD_eq_getD_getElem?] at f13
      have e16 := hdep 13 16 (Nat.le_of_ble_eq_true rfl) rfl rfl
      conv at e16 => rhs; whnf
      have f16 := e16; simp only [Array.getD_eq_getD_getElem?] at f16
      refine wpOp_yes rfl rfl rfl e11 (fun K hK => ?_)
      go_simp
      refine (l1In_any _ _ _ _).mono ?_
      rintro e w2 ⟨rfl, rfl⟩
      exact hK _ _ ⟨rfl, Below.refl _ _⟩
    apply still_cons
    · intro a' w' hLe hfr hdep
      have e11 := hdep 8 11 (Nat.le_of_ble_eq_true rfl) rfl rfl
      conv at e11 => rhs; whnf
      have f11 := e11; simp only [Array.getD_eq_getD_getElem?] at f11
      have e17 := hdep 14 17 (Nat.le_of_ble_eq_true rfl) rfl rfl
      conv at e17 => rhs; whnf
      have f17 := e17; simp only [Array.getD_eq_getD_getElem?] at f17
      refine wpOp_plain rfl rfl (fun K hK => ?_)
      go_simp
      exact hK _ _ ⟨rfl, Below.refl _ _⟩
    apply still_cons
    · intro a' w' hLe hfr hdep
      have e18 := hdep 15 18 (Nat.le_of_ble_eq_true rfl) rfl rfl
      conv at e18 => rhs; whnf
      have f18 := e18; simp only [Array.getD_eq_getD_getElem?] at f18
      refine wpOp_plain rfl rfl (fun K hK => ?_)
      go_simp
      exact hK _ _ ⟨rfl, Below.refl _ _⟩
    apply still_nil
    intro w1 hb1
    simp only [putAll, List.drop_succ_cons, List.drop_zero]
    go_simp
    go_wp2
    go_ret
    exact ⟨rfl, Below.tr (by (repeat (first | exact Below.refl _ _ | assumption | refine Below.al ?_ _ | refine Below.dr ?_ | (refine Below.st ?_ (by simp <;> omega) _) | (refine Below.tr ?_ (by assumption))))) hb1⟩
def ndI (sz st x : Int) : Int := if tabB sz st then x else 0
theorem ndI_no {sz st : Int} (h : tabB sz st = false) (x : Int) : ndI sz st x = 0 := by simp [ndI, h]
theorem ndI_yes {sz st : Int} (h : tabB sz st = true) (x : Int) : ndI sz st x = x := by simp [ndI, h]
set_option maxHeartbeats 4000000 in
theorem implNewDesk_any (sz st : Int) (w : World) : Calls Try.prog 14 #[.int .i64 sz, .int .i64 st] w fun e w' => e = .returned (.agg #[.slice none 0 0, .int .i64 (ndI sz st sz), .int .i64 (ndI sz st st), .slice none 0 0, .int .i64 0]) ∧ Below w.heap.size w w' := by
  cases h : tabB sz st with
  | false =>
    rw [ndI_no h, ndI_no h]
    have H := Lib.hid h
    clear h
    go_enter Try.func14, Try.ntmps14
    go_wp2_with fail
    refine (implDeskValid_nil _ _ _).mono ?_
    rintro e w1 ⟨rfl, hb1⟩
    rw [H.out]
    have hB1 : Below w.heap.size w w1 := Below.tr (by (repeat (first | exact Below.refl _ _ | assumption | refine Below.al ?_ _ | refine Below.dr ?_ | (refine Below.st ?_ (by simp <;> omega) _) | (refine Below.tr ?_ (by assumption))))) hb1
    have hz := (hb1.block w.heap.size (by simp <;> omega)).trans ((heap_alloc_old _ _ (by simp)).trans (heap_alloc_new w _))
    clear hb1
    go_wp2_with (refine wpList_store_var rfl 37 (.tmp 4) (.tmp 13) rfl #[.slice none 0 0, .int .i64 0, .int .i64 0, .slice none 0 0, .int .i64 0] hz rfl rfl (by kernel_rfl) rfl rfl ?_)
    intro w9 hh9 hg9 hs9
    obtain ⟨k9, f9⟩ := blk hh9
    go_wp2
    refine bodyPost_ret (v := .agg #[.slice none 0 0, .int .i64 0, .int .i64 0, .slice none 0 0, .int .i64 0]) (by simp [results, Try.results14, go_sem, k9]) rfl ⟨rfl, Below.of_grown hB1 hg9 (Nat.le_refl _)⟩
  | true =>
    rw [ndI_yes h, ndI_yes h]
    have H := Lib.hid h
    clear h
    go_enter Try.func14, Try.ntmps14
    go_wp2_with fail
    refine (implDeskValid_nil _ _ _).mono ?_
    rintro e w1 ⟨rfl, hb1⟩
    rw [H.out]
    have hB1 : Below w.heap.size w w1 := Below.tr (by (repeat (first | exact Below.refl _ _ | assumption | refine Below.al ?_ _ | refine Below.dr ?_ | (refine Below.st ?_ (by simp <;> omega) _) | (refine Below.tr ?_ (by assumption))))) hb1
    have hz := (hb1.block w.heap.size (by simp <;> omega)).trans ((heap_alloc_old _ _ (by simp)).trans (heap_alloc_new w _))
    have hd := (hb1.block (w.heap.size + 1) (by simp <;> omega)).trans (heap_new1 w _ _)
    obtain ⟨kd, fd⟩ := blk hd
    have hdl := heap_lt hd
    clear hb1
    go_wp2_with (refine wpList_store_var rfl 37 (.tmp 4) (.tmp 14) rfl #[.slice none 0 0, .int .i64 sz, .int .i64 st, .slice none 0 0, .int .i64 0] hz rfl rfl (by kernel_rfl) rfl rfl ?_)
    intro w9 hh9 hg9 hs9
    obtain ⟨k9, f9⟩ := blk hh9
    go_wp2
    refine bodyPost_ret (v := .agg #[.slice none 0 0, .int .i64 sz, .int .i64 st, .slice none 0 0, .int .i64 0]) (by simp [results, Try.results14, go_sem, k9]) rfl ⟨rfl, Below.of_grown hB1 hg9 (Nat.le_refl _)⟩
/-- A new desk of the reference: its slices may lie anywhere. -/
def DeskR (w : World) (sz st : Int) (e : Ending) (w' : World) : Prop :=
  ∃ A c A' c', e = .returned (.agg #[.slice A 0 c, .int .i64 (ndI sz st sz), .int .i64 (ndI sz st st), .slice A' 0 c', .int .i64 0]) ∧ Below w.heap.size w w'
set_option maxHeartbeats 4000000 in
theorem specNewDesk_any (sz st : Int) (w : World) : Calls Try.prog 16 #[.int .i64 sz, .int .i64 st] w (DeskR w sz st) := by
  unfold DeskR
  cases h : tabB sz st with
  | false =>
    rw [ndI_no h, ndI_no h]
    have H := Lib.hid h
    clear h
    go_enter Try.func16, Try.ntmps16
    go_wp2_with fail
    refine (specDeskValid_nil _ _ _).mono ?_
    rintro e w1 ⟨rfl, hb1⟩
    rw [H.out]
    have hB1 : Below w.heap.size w w1 := Below.tr (by (repeat (first | exact Below.refl _ _ | assumption | refine Below.al ?_ _ | refine Below.dr ?_ | (refine Below.st ?_ (by simp <;> omega) _) | (refine Below.tr ?_ (by assumption))))) hb1
    have hz := (hb1.block w.heap.size (by simp <;> omega)).trans ((heap_alloc_old _ _ (by simp <;> omega)).trans ((heap_alloc_old _ _ (by simp <;> omega)).trans ((heap_alloc_old _ _ (by simp <;> omega)).trans (heap_alloc_new w _))))
    clear hb1
    go_wp2_with (refine wpList_store_var rfl 37 (.tmp 4) (.tmp 15) rfl #[.slice none 0 0, .int .i64 0, .int .i64 0, .slice none 0 0, .int .i64 0] hz rfl rfl (by kernel_rfl) rfl rfl ?_)
    intro w9 hh9 hg9 hs9
    obtain ⟨k9, f9⟩ := blk hh9
    go_wp2
    refine bodyPost_ret (v := .agg #[.slice none 0 0, .int .i64 0, .int .i64 0, .slice none 0 0, .int .i64 0]) (by simp [results, Try.results16, go_sem, k9]) rfl ⟨_, _, _, _, rfl, Below.of_grown hB1 hg9 (Nat.le_refl _)⟩
  | true =>
    rw [ndI_yes h, ndI_yes h]
    have H := Lib.hid h
    clear h
    go_enter Try.func16, Try.ntmps16
    go_wp2_with fail
    refine (specDeskValid_nil _ _ _).mono ?_
    rintro e w1 ⟨rfl, hb1⟩
    rw [H.out]
    have hB1 : Below w.heap.size w w1 := Below.tr (by (repeat (first | exact Below.refl _ _ | assumption | refine Below.al ?_ _ | refine Below.dr ?_ | (refine Below.st ?_ (by simp <;> omega) _) | (refine Below.tr ?_ (by assumption))))) hb1
    have hz := (hb1.block w.heap.size (by simp <;> omega)).trans ((heap_alloc_old _ _ (by simp <;> omega)).trans ((heap_alloc_old _ _ (by simp <;> omega)).trans ((heap_alloc_old _ _ (by simp <;> omega)).trans (heap_alloc_new w _))))
    have hd : w1.heap[w.heap.size + 1 + 1 + 1]? = some (.cells #[.slice (some ⟨w.heap.size + 1, 0, none⟩) 0 0, .int .i64 sz, .int .i64 st, .slice (some ⟨w.heap.size + 1 + 1, 0, none⟩) 0 0, .int .i64 0] 37 (0, 0)) := (hb1.block (w.heap.size + 1 + 1 + 1) (by simp <;> omega)).trans (by
      have := heap_alloc_new (((w.alloc (.cells #[.slice none 0 0, .int .i64 0, .int .i64 0, .slice none 0 0, .int .i64 0] 37)).alloc (.cells #[] 78)).alloc (.cells #[] 81)) (.cells #[.slice (some ⟨w.heap.size + 1, 0, none⟩) 0 0, .int .i64 sz, .int .i64 st, .slice (some ⟨w.heap.size + 1 + 1, 0, none⟩) 0 0, .int .i64 0] 37)
      simpa using this)
    obtain ⟨kd, fd⟩ := blk hd
    have hdl := heap_lt hd
    clear hb1
    go_wp2_with (refine wpList_store_var rfl 37 (.tmp 4) (.tmp 16) rfl #[.slice (some ⟨w.heap.size + 1, 0, none⟩) 0 0, .int .i64 sz, .int .i64 st, .slice (some ⟨w.heap.size + 1 + 1, 0, none⟩) 0 0, .int .i64 0] hz rfl rfl (by kernel_rfl) rfl rfl ?_)
    intro w9 hh9 hg9 hs9
    obtain ⟨k9, f9⟩ := blk hh9
    go_wp2
    refine bodyPost_ret (v := .agg #[.slice (some ⟨w.heap.size + 1, 0, none⟩) 0 0, .int .i64 sz, .int .i64 st, .slice (some ⟨w.heap.size + 1 + 1, 0, none⟩) 0 0, .int .i64 0]) (by simp [results, Try.results16, go_sem, k9]) rfl ⟨_, _, _, _, rfl, Below.of_grown hB1 hg9 (Nat.le_refl _)⟩

theorem eqHostS_nil {A A' : Option Addr} {c c' : Nat} (w : World) : Calls Try.prog 48 #[.slice A 0 c, .slice A' 0 c'] w fun e w' => e = .returned (.bool true) ∧ w = w' := by
  go_enter Try.func48, Try.ntmps48
  go_wp2
  go_loop [5] (fun i => i = .int .i64 0) (fun _ => 0)
  case atStart => rfl
  case round =>
    obtain rfl := hrel
    go_wp2
    go_ret
    exact ⟨rfl, rfl⟩
theorem eqEntryS_nil {A A' : Option Addr} {c c' : Nat} (w : World) : Calls Try.prog 64 #[.slice A 0 c, .slice A' 0 c'] w fun e w' => e = .returned (.bool true) ∧ w = w' := by
  go_enter Try.func64, Try.ntmps64
  go_wp2
  go_loop [5] (fun i => i = .int .i64 0) (fun _ => 0)
  case atStart => rfl
  case round =>
    obtain rfl := hrel
    go_wp2
    go_ret
    exact ⟨rfl, rfl⟩
theorem samePool_nil {A A' : Option Addr} {c c' : Nat} (w : World) : Calls Try.prog 36 #[.slice A 0 c, .slice A' 0 c'] w fun e w' => e = .returned (.bool true) ∧ w = w' := by
  go_enter Try.func36, Try.ntmps36
  go_wp2
  go_loop [5] (fun i => i = .int .i64 0) (fun _ => 0)
  case atStart => rfl
  case round =>
    obtain rfl := hrel
    go_wp2
    go_ret
    exact ⟨rfl, rfl⟩
theorem markHostS_nil {A : Option Addr} {c : Nat} (k : Int) (w : World) : Calls Try.prog 50 #[.slice A 0 c, .int .i64 k] w fun e w' => e = .returned (.int .i64 k) ∧ w = w' := by
  go_enter Try.func50, Try.ntmps50
  go_wp2
  go_loop [1, 5] (fun q i => q = .int .i64 k ∧ i = .int .i64 0) (fun _ _ => 0)
  case atStart => exact ⟨rfl, rfl⟩
  case round =>
    obtain ⟨rfl, rfl⟩ := hrel
    go_wp2
    go_ret
    exact ⟨rfl, rfl⟩
theorem markEntryS_nil {A : Option Addr} {c : Nat} (k : Int) (w : World) : Calls Try.prog 65 #[.slice A 0 c, .int .i64 k] w fun e w' => e = .returned (.int .i64 k) ∧ w = w' := by
  go_enter Try.func65, Try.ntmps65
  go_wp2
  go_loop [1, 5] (fun q i => q = .int .i64 k ∧ i = .int .i64 0) (fun _ _ => 0)
  case atStart => exact ⟨rfl, rfl⟩
  case round =>
    obtain ⟨rfl, rfl⟩ := hrel
    go_wp2
    go_ret
    exact ⟨rfl, rfl⟩
theorem heldHostS_nil {A : Option Addr} {c : Nat} (k : Int) (w : World) : Calls Try.prog 52 #[.slice A 0 c, .int .i64 k] w fun e w' => e = .returned (.int .i64 k) ∧ w = w' := by
  go_enter Try.func52, Try.ntmps52
  go_wp2
  go_loop [1, 5] (fun q i => q = .int .i64 k ∧ i = .int .i64 0) (fun _ _ => 0)
  case atStart => exact ⟨rfl, rfl⟩
  case round =>
    obtain ⟨rfl, rfl⟩ := hrel
    go_wp2
    go_ret
    exact ⟨rfl, rfl⟩
theorem heldEntryS_nil {A : Option Addr} {c : Nat} (k : Int) (w : World) : Calls Try.prog 66 #[.slice A 0 c, .int .i64 k] w fun e w' => e = .returned (.int .i64 k) ∧ w = w' := by
  go_enter Try.func66, Try.ntmps66
  go_wp2
  go_loop [1, 5] (fun q i => q = .int .i64 k ∧ i = .int .i64 0) (fun _ _ => 0)
  case atStart => exact ⟨rfl, rfl⟩
  case round =>
    obtain ⟨rfl, rfl⟩ := hrel
    go_wp2
    go_ret
    exact ⟨rfl, rfl⟩
theorem markTable_nil {A : Option Addr} {c : Nat} (sz st k : Int) (hk : 0 ≤ k) (w : World) : Calls Try.prog 51 #[.agg #[.int .i64 sz, .int .i64 st, .slice A 0 c], .int .i64 k] w fun e w' => e = .returned (.int .i64 k) ∧ Below w.heap.size w w' := by
  go_enter Try.func51, Try.ntmps51
  go_wp2_with (go_at_call 65; refine (markEntryS_nil _ _).mono ?_; rintro e w1 ⟨rfl, rfl⟩)
  go_ret
  exact ⟨rfl, by (repeat (first | exact Below.refl _ _ | assumption | refine Below.al ?_ _ | refine Below.dr ?_ | (refine Below.st ?_ (by simp <;> omega) _) | (refine Below.tr ?_ (by assumption))))⟩
theorem heldTable_nil {A : Option Addr} {c : Nat} (sz st k : Int) (hk : 0 ≤ k) (w : World) : Calls Try.prog 53 #[.agg #[.int .i64 sz, .int .i64 st, .slice A 0 c], .int .i64 k] w fun e w' => e = .returned (.int .i64 k) ∧ Below w.heap.size w w' := by
  go_enter Try.func53, Try.ntmps53
  go_wp2_with (go_at_call 66; refine (heldEntryS_nil _ _).mono ?_; rintro e w1 ⟨rfl, rfl⟩)
  go_ret
  exact ⟨rfl, by (repeat (first | exact Below.refl _ _ | assumption | refine Below.al ?_ _ | refine Below.dr ?_ | (refine Below.st ?_ (by simp <;> omega) _) | (refine Below.tr ?_ (by assumption))))⟩
theorem markDesk_nil {A A' : Option Addr} {c c' : Nat} (sz st k : Int) (hk : 0 ≤ k) (w : World) : Calls Try.prog 26 #[.agg #[.slice A 0 c, .int .i64 sz, .int .i64 st, .slice A' 0 c', .int .i64 0], .int .i64 k] w fun e w' => e = .returned (.int .i64 k) ∧ Below w.heap.size w w' := by
  go_enter Try.func26, Try.ntmps26
  go_wp2_with (first | (go_at_call 50; refine (markHostS_nil _ _).mono ?_; rintro e w1 ⟨rfl, rfl⟩) | (go_at_call 51; refine (markTable_nil _ _ _ hk _).mono ?_; rintro e w1 ⟨rfl, hb⟩))
  go_ret
  exact ⟨rfl, by (repeat (first | exact Below.refl _ _ | assumption | refine Below.al ?_ _ | refine Below.dr ?_ | (refine Below.st ?_ (by simp <;> omega) _) | (refine Below.tr ?_ (by assumption))))⟩
theorem heldDesk_nil {A A' : Option Addr} {c c' : Nat} (sz st k : Int) (hk : 0 ≤ k) (w : World) : Calls Try.prog 27 #[.agg #[.slice A 0 c, .int .i64 sz, .int .i64 st, .slice A' 0 c', .int .i64 0], .int .i64 k] w fun e w' => e = .returned (.int .i64 k) ∧ Below w.heap.size w w' := by
  go_enter Try.func27, Try.ntmps27
  go_wp2_with (first | (go_at_call 52; refine (heldHostS_nil _ _).mono ?_; rintro e w1 ⟨rfl, rfl⟩) | (go_at_call 53; refine (heldTable_nil _ _ _ hk _).mono ?_; rintro e w1 ⟨rfl, hb⟩))
  go_ret
  exact ⟨rfl, by (repeat (first | exact Below.refl _ _ | assumption | refine Below.al ?_ _ | refine Below.dr ?_ | (refine Below.st ?_ (by simp <;> omega) _) | (refine Below.tr ?_ (by assumption))))⟩
theorem eqTable_nil {A A' : Option Addr} {c c' : Nat} (sz st : Int) (w : World) : Calls Try.prog 49 #[.agg #[.int .i64 sz, .int .i64 st, .slice A 0 c], .agg #[.int .i64 sz, .int .i64 st, .slice A' 0 c']] w fun e w' => e = .returned (.bool true) ∧ Below w.heap.size w w' := by
  go_enter Try.func49, Try.ntmps49
  go_wp2_with (go_at_call 64; refine (eqEntryS_nil _).mono ?_; rintro e w1 ⟨rfl, rfl⟩)
  go_ret
  exact ⟨rfl, by (repeat (first | exact Below.refl _ _ | assumption | refine Below.al ?_ _ | refine Below.dr ?_ | (refine Below.st ?_ (by simp <;> omega) _) | (refine Below.tr ?_ (by assumption))))⟩
theorem eqDesk_nil {A A' : Option Addr} {c c' : Nat} {D D' : Option Addr} {d d' : Nat} (sz st : Int) (w : World) : Calls Try.prog 25 #[.agg #[.slice A 0 c, .int .i64 sz, .int .i64 st, .slice A' 0 c', .int .i64 0], .agg #[.slice D 0 d, .int .i64 sz, .int .i64 st, .slice D' 0 d', .int .i64 0]] w fun e w' => e = .returned (.bool true) ∧ Below w.heap.size w w' := by
  go_enter Try.func25, Try.ntmps25
  go_wp2_with fail
  refine (eqHostS_nil _).mono ?_
  rintro e w1 ⟨rfl, rfl⟩
  go_wp2_with fail
  refine (eqTable_nil _ _ _).mono ?_
  rintro e w1 ⟨rfl, hb1⟩
  have k1 : ∀ i, w1.cell? ⟨w.heap.size, i, none⟩ = #[Value.slice A 0 c, .int .i64 sz, .int .i64 st, .slice A' 0 c', .int .i64 0][i]? := fun i => (keepc hb1 w.heap.size (by simp <;> omega) i).trans (by simp)
  have k2 : ∀ i, w1.cell? ⟨w.heap.size + 1, i, none⟩ = #[Value.slice D 0 d, .int .i64 sz, .int .i64 st, .slice D' 0 d', .int .i64 0][i]? := fun i => (keepc hb1 (w.heap.size + 1) (by simp <;> omega) i).trans (by simp)
  go_wp2
  go_ret
  exact ⟨rfl, Below.tr (by (repeat (first | exact Below.refl _ _ | assumption | refine Below.al ?_ _ | refine Below.dr ?_ | (refine Below.st ?_ (by simp <;> omega) _) | (refine Below.tr ?_ (by assumption))))) hb1⟩
set_option maxHeartbeats 2000000 in
theorem sameTable_nil {A A' : Option Addr} {c c' : Nat} (sz st : Int) (w : World) : Calls Try.prog 37 #[.agg #[.int .i64 sz, .int .i64 st, .slice A 0 c], .agg #[.int .i64 sz, .int .i64 st, .slice A' 0 c']] w fun e w' => e = .returned (.bool true) ∧ Below w.heap.size w w' := by
  go_enter Try.func37, Try.ntmps37
  go_wp2
  go_loop [5] (fun i => i = .int .i64 0) (fun _ => 0)
  case atStart => rfl
  case round =>
    obtain rfl := hrel
    go_wp2
    go_ret
    exact ⟨rfl, by (repeat (first | exact Below.refl _ _ | assumption | refine Below.al ?_ _ | refine Below.dr ?_ | (refine Below.st ?_ (by simp <;> omega) _) | (refine Below.tr ?_ (by assumption))))⟩
theorem sameDesk_nil {A A' : Option Addr} {c c' : Nat} {D D' : Option Addr} {d d' : Nat} (sz st : Int) (w : World) : Calls Try.prog 15 #[.agg #[.slice A 0 c, .int .i64 sz, .int .i64 st, .slice A' 0 c', .int .i64 0], .agg #[.slice D 0 d, .int .i64 sz, .int .i64 st, .slice D' 0 d', .int .i64 0]] w fun e w' => e = .returned (.bool true) ∧ Below w.heap.size w w' := by
  go_enter Try.func15, Try.ntmps15
  go_wp2_with fail
  refine (samePool_nil _).mono ?_
  rintro e w1 ⟨rfl, rfl⟩
  go_wp2_with fail
  refine (sameTable_nil _ _ _).mono ?_
  rintro e w1 ⟨rfl, hb1⟩
  go_wp2
  go_ret
  exact ⟨rfl, Below.tr (by (repeat (first | exact Below.refl _ _ | assumption | refine Below.al ?_ _ | refine Below.dr ?_ | (refine Below.st ?_ (by simp <;> omega) _) | (refine Below.tr ?_ (by assumption))))) hb1⟩
end Go.Proofs.Ytbnfllpimnnmfaa
