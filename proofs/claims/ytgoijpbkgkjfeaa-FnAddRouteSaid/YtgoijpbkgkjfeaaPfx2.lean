/-
  What PrefixHas computes, in the program and in the reference.
-/
import Derived.Test.YtgoijpbkgkjfeaaPfx
namespace Go.Proofs.Ytgoijpbkgkjfeaa
open Go.RowKit

/-- Has the address a the prefix of base b and bits k? -/
def hasB (b k a : Int) : Bool := pfxB b k && inB a 0 255 && inB a b (b + pfxSize k - 1)

theorem shr_eq {a b s : Int} (hs : 0 < s) (hm : b % s = 0) : (a / s == b / s) = inB a b (b + s - 1) := by
  rw [Bool.eq_iff_iff, beq_iff_eq, inB_true]
  have h1 := Int.mul_ediv_add_emod a s
  have h2 := Int.mul_ediv_add_emod b s
  have h3 := Int.emod_nonneg a (show s ≠ 0 by omega)
  have h4 := Int.emod_lt_of_pos a hs
  constructor
  · intro h; rw [h] at h1; omega
  · intro ⟨h5, h6⟩
    generalize hq : b / s = q at *
    have hb : b = s * q := by omega
    subst hb
    have e : a = (a - s * q) + q * s := by rw [Int.mul_comm q s]; omega
    rw [e, Int.add_mul_ediv_right _ _ (by omega), Int.ediv_eq_zero_of_lt (by omega) (by omega)]
    omega

theorem sh0 : min (IntKind.i64.wrap 0).toNat 64 = 0 := by decide
theorem sh1 : min (IntKind.i64.wrap 1).toNat 64 = 1 := by decide
theorem sh2 : min (IntKind.i64.wrap 2).toNat 64 = 2 := by decide
theorem sh3 : min (IntKind.i64.wrap 3).toNat 64 = 3 := by decide
theorem sh4 : min (IntKind.i64.wrap 4).toNat 64 = 4 := by decide
theorem sh5 : min (IntKind.i64.wrap 5).toNat 64 = 5 := by decide
theorem sh6 : min (IntKind.i64.wrap 6).toNat 64 = 6 := by decide
theorem sh7 : min (IntKind.i64.wrap 7).toNat 64 = 7 := by decide
theorem sh8 : min (IntKind.i64.wrap 8).toNat 64 = 8 := by decide

set_option maxHeartbeats 4000000 in
theorem implPrefixHas_any (b k a : Int) (w : World) :
    Calls Try.prog 17 #[.agg #[.int .i64 b, .int .i64 k], .int .i64 a] w fun e w' => e = .returned (.bool (hasB b k a)) ∧ Below w.heap.size w w' := by
  cases h1 : pfxB b k with
  | false =>
    go_enter Try.func17, Try.ntmps17
    go_wp2
    refine wp_region_still (ds := [(0, 5), (1, 6), (2, 7), (3, 8), (4, 9), (5, 10), (6, 11), (7, 12), (8, 13), (9, 14), (10, 15), (11, 16), (12, 17), (13, 18), (14, 19), (15, 20), (16, 21), (17, 22), (18, 23), (19, 24), (20, 4)]) 21 (by kernel_rfl) (by kernel_rfl) (by first | exact .inl rfl | exact .inr (by kernel_rfl)) (by rfl) rfl rfl ?_
    apply still_cons
    · intro a' w' hLe hfr hdep
      have e2 := hfr 2 rfl
      conv at e2 => rhs; whnf
      have f2 := e2; simp only [Array.getD_eq_getD_getElem?] at f2
      have kc := fun i => keepc hLe (w.heap.size) (by (try simp) <;> omega) i
      have kf := fun i => keepf hLe (w.heap.size) (by (try simp) <;> omega) i
      refine wpOp_plain rfl rfl (fun K hK => ?_)
      go_simp
      exact hK _ _ ⟨rfl, Below.refl _ _⟩
    apply still_cons
    · intro a' w' hLe hfr hdep
      have e5 := hdep 0 5 (Nat.le_of_ble_eq_true rfl) rfl rfl
      conv at e5 => rhs; whnf
      have f5 := e5; simp only [Array.getD_eq_getD_getElem?] at f5
      refine wpOp_plain rfl rfl (fun K hK => ?_)
      go_simp
      refine (implPrefixValid_any _ _ _).mono ?_
      rintro e w2 ⟨rfl, hb⟩
      exact hK _ _ ⟨rfl, hb⟩
    apply still_cons
    · intro a' w' hLe hfr hdep
      have e6 := hdep 1 6 (Nat.le_of_ble_eq_true rfl) rfl rfl
      conv at e6 => rhs; whnf
      have f6 := e6; simp only [Array.getD_eq_getD_getElem?] at f6
      refine wpOp_plain rfl rfl (fun K hK => ?_)
      go_simp
      exact hK _ _ ⟨rfl, Below.refl _ _⟩
    apply still_cons
    · intro a' w' hLe hfr hdep
      have e7 := hdep 2 7 (Nat.le_of_ble_eq_true rfl) rfl rfl
      conv at e7 => rhs; whnf
      have f7 := e7; simp only [Array.getD_eq_getD_getElem?] at f7
      exact wpOp_no rfl rfl rfl e7 ⟨rfl, Below.refl _ _⟩
    apply still_cons
    · intro a' w' hLe hfr hdep
      have e7 := hdep 2 7 (Nat.le_of_ble_eq_true rfl) rfl rfl
      conv at e7 => rhs; whnf
      have f7 := e7; simp only [Array.getD_eq_getD_getElem?] at f7
      exact wpOp_no rfl rfl rfl e7 ⟨rfl, Below.refl _ _⟩
    apply still_cons
    · intro a' w' hLe hfr hdep
      have e7 := hdep 2 7 (Nat.le_of_ble_eq_true rfl) rfl rfl
      conv at e7 => rhs; whnf
      have f7 := e7; simp only [Array.getD_eq_getD_getElem?] at f7
      have e9 := hdep 4 9 (Nat.le_of_ble_eq_true rfl) rfl rfl
      conv at e9 => rhs; whnf
      have f9 := e9; simp only [Array.getD_eq_getD_getElem?] at f9
      refine wpOp_plain rfl rfl (fun K hK => ?_)
      go_simp
      exact hK _ _ ⟨rfl, Below.refl _ _⟩
    apply still_cons
    · intro a' w' hLe hfr hdep
      have e10 := hdep 5 10 (Nat.le_of_ble_eq_true rfl) rfl rfl
      conv at e10 => rhs; whnf
      have f10 := e10; simp only [Array.getD_eq_getD_getElem?] at f10
      refine wpOp_plain rfl rfl (fun K hK => ?_)
      go_simp
      exact hK _ _ ⟨rfl, Below.refl _ _⟩
    apply still_cons
    · intro a' w' hLe hfr hdep
      have e11 := hdep 6 11 (Nat.le_of_ble_eq_true rfl) rfl rfl
      conv at e11 => rhs; whnf
      have f11 := e11; simp only [Array.getD_eq_getD_getElem?] at f11
      exact wpOp_no rfl rfl rfl e11 ⟨rfl, Below.refl _ _⟩
    apply still_cons
    · intro a' w' hLe hfr hdep
      have e11 := hdep 6 11 (Nat.le_of_ble_eq_true rfl) rfl rfl
      conv at e11 => rhs; whnf
      have f11 := e11; simp only [Array.getD_eq_getD_getElem?] at f11
      exact wpOp_no rfl rfl rfl e11 ⟨rfl, Below.refl _ _⟩
    apply still_cons
    · intro a' w' hLe hfr hdep
      have e11 := hdep 6 11 (Nat.le_of_ble_eq_true rfl) rfl rfl
      conv at e11 => rhs; whnf
      have f11 := e11; simp only [Array.getD_eq_getD_getElem?] at f11
      exact wpOp_no rfl rfl rfl e11 ⟨rfl, Below.refl _ _⟩
    apply still_cons
    · intro a' w' hLe hfr hdep
      have e11 := hdep 6 11 (Nat.le_of_ble_eq_true rfl) rfl rfl
      conv at e11 => rhs; whnf
      have f11 := e11; simp only [Array.getD_eq_getD_getElem?] at f11
      exact wpOp_no rfl rfl rfl e11 ⟨rfl, Below.refl _ _⟩
    apply still_cons
    · intro a' w' hLe hfr hdep
      have e11 := hdep 6 11 (Nat.le_of_ble_eq_true rfl) rfl rfl
      conv at e11 => rhs; whnf
      have f11 := e11; simp only [Array.getD_eq_getD_getElem?] at f11
      exact wpOp_no rfl rfl rfl e11 ⟨rfl, Below.refl _ _⟩
    apply still_cons
    · intro a' w' hLe hfr hdep
      have e11 := hdep 6 11 (Nat.le_of_ble_eq_true rfl) rfl rfl
      conv at e11 => rhs; whnf
      have f11 := e11; simp only [Array.getD_eq_getD_getElem?] at f11
      exact wpOp_no rfl rfl rfl e11 ⟨rfl, Below.refl _ _⟩
    apply still_cons
    · intro a' w' hLe hfr hdep
      have e11 := hdep 6 11 (Nat.le_of_ble_eq_true rfl) rfl rfl
      conv at e11 => rhs; whnf
      have f11 := e11; simp only [Array.getD_eq_getD_getElem?] at f11
      exact wpOp_no rfl rfl rfl e11 ⟨rfl, Below.refl _ _⟩
    apply still_cons
    · intro a' w' hLe hfr hdep
      have e11 := hdep 6 11 (Nat.le_of_ble_eq_true rfl) rfl rfl
      conv at e11 => rhs; whnf
      have f11 := e11; simp only [Array.getD_eq_getD_getElem?] at f11
      exact wpOp_no rfl rfl rfl e11 ⟨rfl, Below.refl _ _⟩
    apply still_cons
    · intro a' w' hLe hfr hdep
      have e11 := hdep 6 11 (Nat.le_of_ble_eq_true rfl) rfl rfl
      conv at e11 => rhs; whnf
      have f11 := e11; simp only [Array.getD_eq_getD_getElem?] at f11
      exact wpOp_no rfl rfl rfl e11 ⟨rfl, Below.refl _ _⟩
    apply still_cons
    · intro a' w' hLe hfr hdep
      have e11 := hdep 6 11 (Nat.le_of_ble_eq_true rfl) rfl rfl
      conv at e11 => rhs; whnf
      have f11 := e11; simp only [Array.getD_eq_getD_getElem?] at f11
      exact wpOp_no rfl rfl rfl e11 ⟨rfl, Below.refl _ _⟩
    apply still_cons
    · intro a' w' hLe hfr hdep
      have e11 := hdep 6 11 (Nat.le_of_ble_eq_true rfl) rfl rfl
      conv at e11 => rhs; whnf
      have f11 := e11; simp only [Array.getD_eq_getD_getElem?] at f11
      exact wpOp_no rfl rfl rfl e11 ⟨rfl, Below.refl _ _⟩
    apply still_cons
    · intro a' w' hLe hfr hdep
      have e11 := hdep 6 11 (Nat.le_of_ble_eq_true rfl) rfl rfl
      conv at e11 => rhs; whnf
      have f11 := e11; simp only [Array.getD_eq_getD_getElem?] at f11
      exact wpOp_no rfl rfl rfl e11 ⟨rfl, Below.refl _ _⟩
    apply still_cons
    · intro a' w' hLe hfr hdep
      have e11 := hdep 6 11 (Nat.le_of_ble_eq_true rfl) rfl rfl
      conv at e11 => rhs; whnf
      have f11 := e11; simp only [Array.getD_eq_getD_getElem?] at f11
      have e23 := hdep 18 23 (Nat.le_of_ble_eq_true rfl) rfl rfl
      conv at e23 => rhs; whnf
      have f23 := e23; simp only [Array.getD_eq_getD_getElem?] at f23
      refine wpOp_plain rfl rfl (fun K hK => ?_)
      go_simp
      exact hK _ _ ⟨rfl, Below.refl _ _⟩
    apply still_cons
    · intro a' w' hLe hfr hdep
      have e24 := hdep 19 24 (Nat.le_of_ble_eq_true rfl) rfl rfl
      conv at e24 => rhs; whnf
      have f24 := e24; simp only [Array.getD_eq_getD_getElem?] at f24
      refine wpOp_plain rfl rfl (fun K hK => ?_)
      go_simp
      exact hK _ _ ⟨rfl, Below.refl _ _⟩
    apply still_nil
    intro w1 hb1
    simp only [putAll, List.drop_succ_cons, List.drop_zero]
    go_simp
    go_wp2
    go_ret
    exact ⟨by simp [hasB, h1], Below.tr (by (repeat (first | exact Below.refl _ _ | assumption | refine Below.al ?_ _ | refine Below.dr ?_ | (refine Below.st ?_ (by simp <;> omega) _) | (refine Below.tr ?_ (by assumption))))) hb1⟩
  | true =>
    cases h2 : inB a 0 255 with
    | false =>
      go_enter Try.func17, Try.ntmps17
      go_wp2
      refine wp_region_still (ds := [(0, 5), (1, 6), (2, 7), (3, 8), (4, 9), (5, 10), (6, 11), (7, 12), (8, 13), (9, 14), (10, 15), (11, 16), (12, 17), (13, 18), (14, 19), (15, 20), (16, 21), (17, 22), (18, 23), (19, 24), (20, 4)]) 21 (by kernel_rfl) (by kernel_rfl) (by first | exact .inl rfl | exact .inr (by kernel_rfl)) (by rfl) rfl rfl ?_
      apply still_cons
      · intro a' w' hLe hfr hdep
        have e2 := hfr 2 rfl
        conv at e2 => rhs; whnf
        have f2 := e2; simp only [Array.getD_eq_getD_getElem?] at f2
        have kc := fun i => keepc hLe (w.heap.size) (by (try simp) <;> omega) i
        have kf := fun i => keepf hLe (w.heap.size) (by (try simp) <;> omega) i
        refine wpOp_plain rfl rfl (fun K hK => ?_)
        go_simp
        exact hK _ _ ⟨rfl, Below.refl _ _⟩
      apply still_cons
      · intro a' w' hLe hfr hdep
        have e5 := hdep 0 5 (Nat.le_of_ble_eq_true rfl) rfl rfl
        conv at e5 => rhs; whnf
        have f5 := e5; simp only [Array.getD_eq_getD_getElem?] at f5
        refine wpOp_plain rfl rfl (fun K hK => ?_)
        go_simp
        refine (implPrefixValid_any _ _ _).mono ?_
        rintro e w2 ⟨rfl, hb⟩
        exact hK _ _ ⟨rfl, hb⟩
      apply still_cons
      · intro a' w' hLe hfr hdep
        have e6 := hdep 1 6 (Nat.le_of_ble_eq_true rfl) rfl rfl
        conv at e6 => rhs; whnf
        have f6 := e6; simp only [Array.getD_eq_getD_getElem?] at f6
        refine wpOp_plain rfl rfl (fun K hK => ?_)
        go_simp
        exact hK _ _ ⟨rfl, Below.refl _ _⟩
      apply still_cons
      · intro a' w' hLe hfr hdep
        have e7 := hdep 2 7 (Nat.le_of_ble_eq_true rfl) rfl rfl
        conv at e7 => rhs; whnf
        have f7 := e7; simp only [Array.getD_eq_getD_getElem?] at f7
        have e1 := hfr 1 rfl
        conv at e1 => rhs; whnf
        have f1 := e1; simp only [Array.getD_eq_getD_getElem?] at f1
        refine wpOp_yes rfl rfl rfl e7 (fun K hK => ?_)
        go_simp
        exact hK _ _ ⟨rfl, Below.refl _ _⟩
      apply still_cons
      · intro a' w' hLe hfr hdep
        have e7 := hdep 2 7 (Nat.le_of_ble_eq_true rfl) rfl rfl
        conv at e7 => rhs; whnf
        have f7 := e7; simp only [Array.getD_eq_getD_getElem?] at f7
        have e8 := hdep 3 8 (Nat.le_of_ble_eq_true rfl) rfl rfl
        conv at e8 => rhs; whnf
        have f8 := e8; simp only [Array.getD_eq_getD_getElem?] at f8
        refine wpOp_yes rfl rfl rfl e7 (fun K hK => ?_)
        go_simp
        refine (in_any _ _ _ _).mono ?_
        rintro e w2 ⟨rfl, rfl⟩
        exact hK _ _ ⟨rfl, Below.refl _ _⟩
      apply still_cons
      · intro a' w' hLe hfr hdep
        have e7 := hdep 2 7 (Nat.le_of_ble_eq_true rfl) rfl rfl
        conv at e7 => rhs; whnf
        have f7 := e7; simp only [Array.getD_eq_getD_getElem?] at f7
        have e9 := hdep 4 9 (Nat.le_of_ble_eq_true rfl) rfl rfl
        conv at e9 => rhs; whnf
        have f9 := e9; simp only [Array.getD_eq_getD_getElem?] at f9
        refine wpOp_plain rfl rfl (fun K hK => ?_)
        go_simp
        exact hK _ _ ⟨rfl, Below.refl _ _⟩
      apply still_cons
      · intro a' w' hLe hfr hdep
        have e10 := hdep 5 10 (Nat.le_of_ble_eq_true rfl) rfl rfl
        conv at e10 => rhs; whnf
        have f10 := e10; simp only [Array.getD_eq_getD_getElem?] at f10
        refine wpOp_plain rfl rfl (fun K hK => ?_)
        go_simp
        exact hK _ _ ⟨rfl, Below.refl _ _⟩
      apply still_cons
      · intro a' w' hLe hfr hdep
        have e11 := hdep 6 11 (Nat.le_of_ble_eq_true rfl) rfl rfl
        conv at e11 => rhs; whnf
        have f11 := e11; simp only [Array.getD_eq_getD_getElem?] at f11
        exact wpOp_no rfl rfl rfl e11 ⟨rfl, Below.refl _ _⟩
      apply still_cons
      · intro a' w' hLe hfr hdep
        have e11 := hdep 6 11 (Nat.le_of_ble_eq_true rfl) rfl rfl
        conv at e11 => rhs; whnf
        have f11 := e11; simp only [Array.getD_eq_getD_getElem?] at f11
        exact wpOp_no rfl rfl rfl e11 ⟨rfl, Below.refl _ _⟩
      apply still_cons
      · intro a' w' hLe hfr hdep
        have e11 := hdep 6 11 (Nat.le_of_ble_eq_true rfl) rfl rfl
        conv at e11 => rhs; whnf
        have f11 := e11; simp only [Array.getD_eq_getD_getElem?] at f11
        exact wpOp_no rfl rfl rfl e11 ⟨rfl, Below.refl _ _⟩
      apply still_cons
      · intro a' w' hLe hfr hdep
        have e11 := hdep 6 11 (Nat.le_of_ble_eq_true rfl) rfl rfl
        conv at e11 => rhs; whnf
        have f11 := e11; simp only [Array.getD_eq_getD_getElem?] at f11
        exact wpOp_no rfl rfl rfl e11 ⟨rfl, Below.refl _ _⟩
      apply still_cons
      · intro a' w' hLe hfr hdep
        have e11 := hdep 6 11 (Nat.le_of_ble_eq_true rfl) rfl rfl
        conv at e11 => rhs; whnf
        have f11 := e11; simp only [Array.getD_eq_getD_getElem?] at f11
        exact wpOp_no rfl rfl rfl e11 ⟨rfl, Below.refl _ _⟩
      apply still_cons
      · intro a' w' hLe hfr hdep
        have e11 := hdep 6 11 (Nat.le_of_ble_eq_true rfl) rfl rfl
        conv at e11 => rhs; whnf
        have f11 := e11; simp only [Array.getD_eq_getD_getElem?] at f11
        exact wpOp_no rfl rfl rfl e11 ⟨rfl, Below.refl _ _⟩
      apply still_cons
      · intro a' w' hLe hfr hdep
        have e11 := hdep 6 11 (Nat.le_of_ble_eq_true rfl) rfl rfl
        conv at e11 => rhs; whnf
        have f11 := e11; simp only [Array.getD_eq_getD_getElem?] at f11
        exact wpOp_no rfl rfl rfl e11 ⟨rfl, Below.refl _ _⟩
      apply still_cons
      · intro a' w' hLe hfr hdep
        have e11 := hdep 6 11 (Nat.le_of_ble_eq_true rfl) rfl rfl
        conv at e11 => rhs; whnf
        have f11 := e11; simp only [Array.getD_eq_getD_getElem?] at f11
        exact wpOp_no rfl rfl rfl e11 ⟨rfl, Below.refl _ _⟩
      apply still_cons
      · intro a' w' hLe hfr hdep
        have e11 := hdep 6 11 (Nat.le_of_ble_eq_true rfl) rfl rfl
        conv at e11 => rhs; whnf
        have f11 := e11; simp only [Array.getD_eq_getD_getElem?] at f11
        exact wpOp_no rfl rfl rfl e11 ⟨rfl, Below.refl _ _⟩
      apply still_cons
      · intro a' w' hLe hfr hdep
        have e11 := hdep 6 11 (Nat.le_of_ble_eq_true rfl) rfl rfl
        conv at e11 => rhs; whnf
        have f11 := e11; simp only [Array.getD_eq_getD_getElem?] at f11
        exact wpOp_no rfl rfl rfl e11 ⟨rfl, Below.refl _ _⟩
      apply still_cons
      · intro a' w' hLe hfr hdep
        have e11 := hdep 6 11 (Nat.le_of_ble_eq_true rfl) rfl rfl
        conv at e11 => rhs; whnf
        have f11 := e11; simp only [Array.getD_eq_getD_getElem?] at f11
        exact wpOp_no rfl rfl rfl e11 ⟨rfl, Below.refl _ _⟩
      apply still_cons
      · intro a' w' hLe hfr hdep
        have e11 := hdep 6 11 (Nat.le_of_ble_eq_true rfl) rfl rfl
        conv at e11 => rhs; whnf
        have f11 := e11; simp only [Array.getD_eq_getD_getElem?] at f11
        exact wpOp_no rfl rfl rfl e11 ⟨rfl, Below.refl _ _⟩
      apply still_cons
      · intro a' w' hLe hfr hdep
        have e11 := hdep 6 11 (Nat.le_of_ble_eq_true rfl) rfl rfl
        conv at e11 => rhs; whnf
        have f11 := e11; simp only [Array.getD_eq_getD_getElem?] at f11
        have e23 := hdep 18 23 (Nat.le_of_ble_eq_true rfl) rfl rfl
        conv at e23 => rhs; whnf
        have f23 := e23; simp only [Array.getD_eq_getD_getElem?] at f23
        refine wpOp_plain rfl rfl (fun K hK => ?_)
        go_simp
        exact hK _ _ ⟨rfl, Below.refl _ _⟩
      apply still_cons
      · intro a' w' hLe hfr hdep
        have e24 := hdep 19 24 (Nat.le_of_ble_eq_true rfl) rfl rfl
        conv at e24 => rhs; whnf
        have f24 := e24; simp only [Array.getD_eq_getD_getElem?] at f24
        refine wpOp_plain rfl rfl (fun K hK => ?_)
        go_simp
        exact hK _ _ ⟨rfl, Below.refl _ _⟩
      apply still_nil
      intro w1 hb1
      simp only [putAll, List.drop_succ_cons, List.drop_zero]
      go_simp
      go_wp2
      go_ret
      exact ⟨by simp [hasB, h2], Below.tr (by (repeat (first | exact Below.refl _ _ | assumption | refine Below.al ?_ _ | refine Below.dr ?_ | (refine Below.st ?_ (by simp <;> omega) _) | (refine Below.tr ?_ (by assumption))))) hb1⟩
    | true =>
      obtain ⟨b1, b2, b3, b4, b5⟩ := pfxB_true.1 h1
      have hf : Hid (hasB b k a = (a / pfxSize k == b / pfxSize k)) := by
        show hasB b k a = (a / pfxSize k == b / pfxSize k)
        rw [shr_eq (by have := pfx_bd k; omega) b5]; simp [hasB, h1, h2]
      obtain ⟨b8, b9⟩ := inB_true.1 h2
      clear b5
      rcases eight b1 b2 with rfl | rfl | rfl | rfl | rfl | rfl | rfl | rfl | rfl
      all_goals go_enter Try.func17, Try.ntmps17
      all_goals go_wp2
      all_goals (
        refine wp_region_still (ds := [(0, 5), (1, 6), (2, 7), (3, 8), (4, 9), (5, 10), (6, 11), (7, 12), (8, 13), (9, 14), (10, 15), (11, 16), (12, 17), (13, 18), (14, 19), (15, 20), (16, 21), (17, 22), (18, 23), (19, 24), (20, 4)]) 21 (by kernel_rfl) (by kernel_rfl) (by first | exact .inl rfl | exact .inr (by kernel_rfl)) (by rfl) rfl rfl ?_
        apply still_cons
        · intro a' w' hLe hfr hdep
          have e2 := hfr 2 rfl
          conv at e2 => rhs; whnf
          have f2 := e2; simp only [Array.getD_eq_getD_getElem?] at f2
          have kc := fun i => keepc hLe (w.heap.size) (by (try simp) <;> omega) i
          have kf := fun i => keepf hLe (w.heap.size) (by (try simp) <;> omega) i
          refine wpOp_plain rfl rfl (fun K hK => ?_)
          go_simp
          exact hK _ _ ⟨rfl, Below.refl _ _⟩
        apply still_cons
        · intro a' w' hLe hfr hdep
          have e5 := hdep 0 5 (Nat.le_of_ble_eq_true rfl) rfl rfl
          conv at e5 => rhs; whnf
          have f5 := e5; simp only [Array.getD_eq_getD_getElem?] at f5
          refine wpOp_plain rfl rfl (fun K hK => ?_)
          go_simp
          refine (implPrefixValid_any _ _ _).mono ?_
          rintro e w2 ⟨rfl, hb⟩
          exact hK _ _ ⟨rfl, hb⟩
        apply still_cons
        · intro a' w' hLe hfr hdep
          have e6 := hdep 1 6 (Nat.le_of_ble_eq_true rfl) rfl rfl
          conv at e6 => rhs; whnf
          have f6 := e6; simp only [Array.getD_eq_getD_getElem?] at f6
          refine wpOp_plain rfl rfl (fun K hK => ?_)
          go_simp
          exact hK _ _ ⟨rfl, Below.refl _ _⟩
        apply still_cons
        · intro a' w' hLe hfr hdep
          have e7 := hdep 2 7 (Nat.le_of_ble_eq_true rfl) rfl rfl
          conv at e7 => rhs; whnf
          have f7 := e7; simp only [Array.getD_eq_getD_getElem?] at f7
          have e1 := hfr 1 rfl
          conv at e1 => rhs; whnf
          have f1 := e1; simp only [Array.getD_eq_getD_getElem?] at f1
          refine wpOp_yes rfl rfl rfl e7 (fun K hK => ?_)
          go_simp
          exact hK _ _ ⟨rfl, Below.refl _ _⟩
        apply still_cons
        · intro a' w' hLe hfr hdep
          have e7 := hdep 2 7 (Nat.le_of_ble_eq_true rfl) rfl rfl
          conv at e7 => rhs; whnf
          have f7 := e7; simp only [Array.getD_eq_getD_getElem?] at f7
          have e8 := hdep 3 8 (Nat.le_of_ble_eq_true rfl) rfl rfl
          conv at e8 => rhs; whnf
          have f8 := e8; simp only [Array.getD_eq_getD_getElem?] at f8
          refine wpOp_yes rfl rfl rfl e7 (fun K hK => ?_)
          go_simp
          refine (in_any _ _ _ _).mono ?_
          rintro e w2 ⟨rfl, rfl⟩
          exact hK _ _ ⟨rfl, Below.refl _ _⟩
        apply still_cons
        · intro a' w' hLe hfr hdep
          have e7 := hdep 2 7 (Nat.le_of_ble_eq_true rfl) rfl rfl
          conv at e7 => rhs; whnf
          have f7 := e7; simp only [Array.getD_eq_getD_getElem?] at f7
          have e9 := hdep 4 9 (Nat.le_of_ble_eq_true rfl) rfl rfl
          conv at e9 => rhs; whnf
          have f9 := e9; simp only [Array.getD_eq_getD_getElem?] at f9
          refine wpOp_plain rfl rfl (fun K hK => ?_)
          go_simp
          exact hK _ _ ⟨rfl, Below.refl _ _⟩
        apply still_cons
        · intro a' w' hLe hfr hdep
          have e10 := hdep 5 10 (Nat.le_of_ble_eq_true rfl) rfl rfl
          conv at e10 => rhs; whnf
          have f10 := e10; simp only [Array.getD_eq_getD_getElem?] at f10
          refine wpOp_plain rfl rfl (fun K hK => ?_)
          go_simp
          exact hK _ _ ⟨rfl, Below.refl _ _⟩
        apply still_cons
        · intro a' w' hLe hfr hdep
          have e11 := hdep 6 11 (Nat.le_of_ble_eq_true rfl) rfl rfl
          conv at e11 => rhs; whnf
          have f11 := e11; simp only [Array.getD_eq_getD_getElem?] at f11
          have e1 := hfr 1 rfl
          conv at e1 => rhs; whnf
          have f1 := e1; simp only [Array.getD_eq_getD_getElem?] at f1
          refine wpOp_yes rfl rfl rfl e11 (fun K hK => ?_)
          go_simp
          exact hK _ _ ⟨rfl, Below.refl _ _⟩
        apply still_cons
        · intro a' w' hLe hfr hdep
          have e11 := hdep 6 11 (Nat.le_of_ble_eq_true rfl) rfl rfl
          conv at e11 => rhs; whnf
          have f11 := e11; simp only [Array.getD_eq_getD_getElem?] at f11
          have e2 := hfr 2 rfl
          conv at e2 => rhs; whnf
          have f2 := e2; simp only [Array.getD_eq_getD_getElem?] at f2
          refine wpOp_yes rfl rfl rfl e11 (fun K hK => ?_)
          go_simp
          exact hK _ _ ⟨rfl, Below.refl _ _⟩
        apply still_cons
        · intro a' w' hLe hfr hdep
          have e11 := hdep 6 11 (Nat.le_of_ble_eq_true rfl) rfl rfl
          conv at e11 => rhs; whnf
          have f11 := e11; simp only [Array.getD_eq_getD_getElem?] at f11
          have e13 := hdep 8 13 (Nat.le_of_ble_eq_true rfl) rfl rfl
          conv at e13 => rhs; whnf
          have f13 := e13; simp only [Array.getD_eq_getD_getElem?] at f13
          have kc := fun i => keepc hLe (w.heap.size) (by (try simp) <;> omega) i
          have kf := fun i => keepf hLe (w.heap.size) (by (try simp) <;> omega) i
          refine wpOp_yes rfl rfl rfl e11 (fun K hK => ?_)
          go_simp
          exact hK _ _ ⟨rfl, Below.refl _ _⟩
        apply still_cons
        · intro a' w' hLe hfr hdep
          have e11 := hdep 6 11 (Nat.le_of_ble_eq_true rfl) rfl rfl
          conv at e11 => rhs; whnf
          have f11 := e11; simp only [Array.getD_eq_getD_getElem?] at f11
          have e14 := hdep 9 14 (Nat.le_of_ble_eq_true rfl) rfl rfl
          conv at e14 => rhs; whnf
          have f14 := e14; simp only [Array.getD_eq_getD_getElem?] at f14
          refine wpOp_yes rfl rfl rfl e11 (fun K hK => ?_)
          go_simp
          exact hK _ _ ⟨rfl, Below.refl _ _⟩
        apply still_cons
        · intro a' w' hLe hfr hdep
          have e11 := hdep 6 11 (Nat.le_of_ble_eq_true rfl) rfl rfl
          conv at e11 => rhs; whnf
          have f11 := e11; simp only [Array.getD_eq_getD_getElem?] at f11
          have e12 := hdep 7 12 (Nat.le_of_ble_eq_true rfl) rfl rfl
          conv at e12 => rhs; whnf
          have f12 := e12; simp only [Array.getD_eq_getD_getElem?] at f12
          have e15 := hdep 10 15 (Nat.le_of_ble_eq_true rfl) rfl rfl
          conv at e15 => rhs; whnf
          have f15 := e15; simp only [Array.getD_eq_getD_getElem?] at f15
          refine wpOp_yes rfl rfl rfl e11 (fun K hK => ?_)
          go_simp
          exact hK _ _ ⟨rfl, Below.refl _ _⟩
        apply still_cons
        · intro a' w' hLe hfr hdep
          have e11 := hdep 6 11 (Nat.le_of_ble_eq_true rfl) rfl rfl
          conv at e11 => rhs; whnf
          have f11 := e11; simp only [Array.getD_eq_getD_getElem?] at f11
          have e2 := hfr 2 rfl
          conv at e2 => rhs; whnf
          have f2 := e2; simp only [Array.getD_eq_getD_getElem?] at f2
          refine wpOp_yes rfl rfl rfl e11 (fun K hK => ?_)
          go_simp
          exact hK _ _ ⟨rfl, Below.refl _ _⟩
        apply still_cons
        · intro a' w' hLe hfr hdep
          have e11 := hdep 6 11 (Nat.le_of_ble_eq_true rfl) rfl rfl
          conv at e11 => rhs; whnf
          have f11 := e11; simp only [Array.getD_eq_getD_getElem?] at f11
          have e17 := hdep 12 17 (Nat.le_of_ble_eq_true rfl) rfl rfl
          conv at e17 => rhs; whnf
          have f17 := e17; simp only [Array.getD_eq_getD_getElem?] at f17
          have kc := fun i => keepc hLe (w.heap.size) (by (try simp) <;> omega) i
          have kf := fun i => keepf hLe (w.heap.size) (by (try simp) <;> omega) i
          refine wpOp_yes rfl rfl rfl e11 (fun K hK => ?_)
          go_simp
          exact hK _ _ ⟨rfl, Below.refl _ _⟩
        apply still_cons
        · intro a' w' hLe hfr hdep
          have e11 := hdep 6 11 (Nat.le_of_ble_eq_true rfl) rfl rfl
          conv at e11 => rhs; whnf
          have f11 := e11; simp only [Array.getD_eq_getD_getElem?] at f11
          have e2 := hfr 2 rfl
          conv at e2 => rhs; whnf
          have f2 := e2; simp only [Array.getD_eq_getD_getElem?] at f2
          refine wpOp_yes rfl rfl rfl e11 (fun K hK => ?_)
          go_simp
          exact hK _ _ ⟨rfl, Below.refl _ _⟩
        apply still_cons
        · intro a' w' hLe hfr hdep
          have e11 := hdep 6 11 (Nat.le_of_ble_eq_true rfl) rfl rfl
          conv at e11 => rhs; whnf
          have f11 := e11; simp only [Array.getD_eq_getD_getElem?] at f11
          have e19 := hdep 14 19 (Nat.le_of_ble_eq_true rfl) rfl rfl
          conv at e19 => rhs; whnf
          have f19 := e19; simp only [Array.getD_eq_getD_getElem?] at f19
          have kc := fun i => keepc hLe (w.heap.size) (by (try simp) <;> omega) i
          have kf := fun i => keepf hLe (w.heap.size) (by (try simp) <;> omega) i
          refine wpOp_yes rfl rfl rfl e11 (fun K hK => ?_)
          go_simp
          exact hK _ _ ⟨rfl, Below.refl _ _⟩
        apply still_cons
        · intro a' w' hLe hfr hdep
          have e11 := hdep 6 11 (Nat.le_of_ble_eq_true rfl) rfl rfl
          conv at e11 => rhs; whnf
          have f11 := e11; simp only [Array.getD_eq_getD_getElem?] at f11
          have e20 := hdep 15 20 (Nat.le_of_ble_eq_true rfl) rfl rfl
          conv at e20 => rhs; whnf
          have f20 := e20; simp only [Array.getD_eq_getD_getElem?] at f20
          refine wpOp_yes rfl rfl rfl e11 (fun K hK => ?_)
          go_simp
          exact hK _ _ ⟨rfl, Below.refl _ _⟩
        apply still_cons
        · intro a' w' hLe hfr hdep
          have e11 := hdep 6 11 (Nat.le_of_ble_eq_true rfl) rfl rfl
          conv at e11 => rhs; whnf
          have f11 := e11; simp only [Array.getD_eq_getD_getElem?] at f11
          have e18 := hdep 13 18 (Nat.le_of_ble_eq_true rfl) rfl rfl
          conv at e18 => rhs; whnf
          have f18 := e18; simp only [Array.getD_eq_getD_getElem?] at f18
          have e21 := hdep 16 21 (Nat.le_of_ble_eq_true rfl) rfl rfl
          conv at e21 => rhs; whnf
          have f21 := e21; simp only [Array.getD_eq_getD_getElem?] at f21
          refine wpOp_yes rfl rfl rfl e11 (fun K hK => ?_)
          go_simp
          exact hK _ _ ⟨rfl, Below.refl _ _⟩
        apply still_cons
        · intro a' w' hLe hfr hdep
          have e11 := hdep 6 11 (Nat.le_of_ble_eq_true rfl) rfl rfl
          conv at e11 => rhs; whnf
          have f11 := e11; simp only [Array.getD_eq_getD_getElem?] at f11
          have e16 := hdep 11 16 (Nat.le_of_ble_eq_true rfl) rfl rfl
          conv at e16 => rhs; whnf
          have f16 := e16; simp only [Array.getD_eq_getD_getElem?] at f16
          have e22 := hdep 17 22 (Nat.le_of_ble_eq_true rfl) rfl rfl
          conv at e22 => rhs; whnf
          have f22 := e22; simp only [Array.getD_eq_getD_getElem?] at f22
          refine wpOp_yes rfl rfl rfl e11 (fun K hK => ?_)
          go_simp
          exact hK _ _ ⟨rfl, Below.refl _ _⟩
        apply still_cons
        · intro a' w' hLe hfr hdep
          have e11 := hdep 6 11 (Nat.le_of_ble_eq_true rfl) rfl rfl
          conv at e11 => rhs; whnf
          have f11 := e11; simp only [Array.getD_eq_getD_getElem?] at f11
          have e23 := hdep 18 23 (Nat.le_of_ble_eq_true rfl) rfl rfl
          conv at e23 => rhs; whnf
          have f23 := e23; simp only [Array.getD_eq_getD_getElem?] at f23
          refine wpOp_plain rfl rfl (fun K hK => ?_)
          go_simp
          exact hK _ _ ⟨rfl, Below.refl _ _⟩
        apply still_cons
        · intro a' w' hLe hfr hdep
          have e24 := hdep 19 24 (Nat.le_of_ble_eq_true rfl) rfl rfl
          conv at e24 => rhs; whnf
          have f24 := e24; simp only [Array.getD_eq_getD_getElem?] at f24
          refine wpOp_plain rfl rfl (fun K hK => ?_)
          go_simp
          exact hK _ _ ⟨rfl, Below.refl _ _⟩
        apply still_nil
        intro w1 hb1
        simp only [putAll, List.drop_succ_cons, List.drop_zero]
        go_simp
        go_wp2
        go_ret
        exact ⟨by rw [hf.out]; simp [pfxSize, sh1, sh2, sh3, sh4, sh5, sh6, sh7, sh8, sh0, Int.fdiv_eq_ediv_of_nonneg], Below.tr (by (repeat (first | exact Below.refl _ _ | assumption | refine Below.al ?_ _ | refine Below.dr ?_ | (refine Below.st ?_ (by simp <;> omega) _) | (refine Below.tr ?_ (by assumption))))) hb1⟩)
end Go.Proofs.Ytgoijpbkgkjfeaa
