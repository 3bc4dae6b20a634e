/-
  What the prefix functions compute, in the program and in the reference.
-/
import Derived.Test.YtgoijpbkgkjfeaaStill
import Derived.Test.YtgoijpbkgkjfeaaBase
namespace Go.Proofs.Ytgoijpbkgkjfeaa
open Go.RowKit


/-- How many addresses have a prefix of so many bits. -/
def pfxSize (bits : Int) : Int := if bits = 0 then 256 else if bits = 1 then 128 else if bits = 2 then 64 else if bits = 3 then 32 else if bits = 4 then 16 else if bits = 5 then 8 else if bits = 6 then 4 else if bits = 7 then 2 else 1
/-- Is the prefix of base b and bits k valid? -/
def pfxB (b k : Int) : Bool := inB k 0 8 && inB b 0 255 && (b % pfxSize k == 0)

theorem eight {k : Int} (h0 : 0 ≤ k) (h8 : k ≤ 8) : k = 0 ∨ k = 1 ∨ k = 2 ∨ k = 3 ∨ k = 4 ∨ k = 5 ∨ k = 6 ∨ k = 7 ∨ k = 8 := by omega
theorem pfx_half {k : Int} (h0 : 0 ≤ k) (h8 : k < 8) : pfxSize (k + 1) = pfxSize k / 2 := by
  rcases eight h0 (by omega) with rfl | rfl | rfl | rfl | rfl | rfl | rfl | rfl | rfl <;> first | rfl | omega
theorem pfx_bd (k : Int) : 1 ≤ pfxSize k ∧ pfxSize k ≤ 256 := by unfold pfxSize; omega

set_option maxHeartbeats 1000000 in
theorem l26Size_any (k : Int) (h0 : 0 ≤ k) (h8 : k ≤ 8) (w : World) :
    Calls Try.prog 39 #[.int .i64 k] w fun e w' => e = .returned (.int .i64 (pfxSize k)) ∧ w = w' := by
  go_enter Try.func39, Try.ntmps39
  go_wp2
  go_loop [3, 4] (fun n i => ∃ j : Int, 0 ≤ j ∧ j ≤ k ∧ i = .int .i64 j ∧ n = .int .i64 (pfxSize j)) (fun _ i => (8 - intOf i).toNat)
  case atStart => exact ⟨0, by omega, h0, rfl, rfl⟩
  case round =>
    obtain ⟨j, hj0, hjk, rfl, rfl⟩ := hrel
    have hb := pfx_bd j
    obtain ⟨hb1, hb2⟩ := hb
    by_cases hlt : j < k
    · have hp := Lib.hid (pfx_half hj0 (by omega))
      go_wp2
      go_round
      case rel => exact ⟨j + 1, by omega, by omega, rfl, by rw [hp.out]⟩
      case measure => simp [intOf]; omega
    · obtain rfl : j = k := by omega
      go_wp2
      go_ret
      exact ⟨rfl, rfl⟩

theorem pfxB_true {b k : Int} : pfxB b k = true ↔ 0 ≤ k ∧ k ≤ 8 ∧ 0 ≤ b ∧ b ≤ 255 ∧ b % pfxSize k = 0 := by simp [pfxB, inB, and_assoc]

set_option maxHeartbeats 1000000 in
theorem specPrefixValid_any (b k : Int) (w : World) :
    Calls Try.prog 44 #[.agg #[.int .i64 b, .int .i64 k]] w fun e w' => e = .returned (.bool (pfxB b k)) ∧ Below w.heap.size w w' := by
  cases h1 : inB k 0 8 with
  | false =>
    go_enter Try.func44, Try.ntmps44
    go_wp2
    refine wp_region_still (ds := [(0, 3), (1, 4), (2, 5), (3, 6), (4, 7), (5, 8), (6, 9), (7, 10), (8, 11), (9, 12), (10, 13), (11, 14), (12, 15), (13, 16), (14, 17), (15, 18), (16, 19), (17, 2)]) 18 (by kernel_rfl) (by kernel_rfl) (by first | exact .inl rfl | exact .inr (by kernel_rfl)) (by rfl) rfl rfl ?_
    apply still_cons
    · intro a' w' hLe hfr hdep
      have e1 := hfr 1 rfl
      conv at e1 => rhs; whnf
      have f1 := e1; simp only [Array.getD_eq_getD_getElem?] at f1
      refine wpOp_plain rfl rfl (fun K hK => ?_)
      go_simp
      exact hK _ _ ⟨rfl, Below.refl _ _⟩
    apply still_cons
    · intro a' w' hLe hfr hdep
      have e3 := hdep 0 3 (Nat.le_of_ble_eq_true rfl) rfl rfl
      conv at e3 => rhs; whnf
      have f3 := e3; simp only [Array.getD_eq_getD_getElem?] at f3
      have kc := fun i => keepc hLe (w.heap.size) (by (try simp) <;> omega) i
      have kf := fun i => keepf hLe (w.heap.size) (by (try simp) <;> omega) i
      refine wpOp_plain rfl rfl (fun K hK => ?_)
      go_simp
      exact hK _ _ ⟨rfl, Below.refl _ _⟩
    apply still_cons
    · intro a' w' hLe hfr hdep
      have e4 := hdep 1 4 (Nat.le_of_ble_eq_true rfl) rfl rfl
      conv at e4 => rhs; whnf
      have f4 := e4; simp only [Array.getD_eq_getD_getElem?] at f4
      refine wpOp_plain rfl rfl (fun K hK => ?_)
      go_simp
      refine (l1In_any _ _ _ _).mono ?_
      rintro e w2 ⟨rfl, rfl⟩
      exact hK _ _ ⟨rfl, Below.refl _ _⟩
    apply still_cons
    · intro a' w' hLe hfr hdep
      have e5 := hdep 2 5 (Nat.le_of_ble_eq_true rfl) rfl rfl
      conv at e5 => rhs; whnf
      have f5 := e5; simp only [Array.getD_eq_getD_getElem?] at f5
      refine wpOp_plain rfl rfl (fun K hK => ?_)
      go_simp
      exact hK _ _ ⟨rfl, Below.refl _ _⟩
    apply still_cons
    · intro a' w' hLe hfr hdep
      have e6 := hdep 3 6 (Nat.le_of_ble_eq_true rfl) rfl rfl
      conv at e6 => rhs; whnf
      have f6 := e6; simp only [Array.getD_eq_getD_getElem?] at f6
      exact wpOp_no rfl rfl rfl e6 ⟨rfl, Below.refl _ _⟩
    apply still_cons
    · intro a' w' hLe hfr hdep
      have e6 := hdep 3 6 (Nat.le_of_ble_eq_true rfl) rfl rfl
      conv at e6 => rhs; whnf
      have f6 := e6; simp only [Array.getD_eq_getD_getElem?] at f6
      exact wpOp_no rfl rfl rfl e6 ⟨rfl, Below.refl _ _⟩
    apply still_cons
    · intro a' w' hLe hfr hdep
      have e6 := hdep 3 6 (Nat.le_of_ble_eq_true rfl) rfl rfl
      conv at e6 => rhs; whnf
      have f6 := e6; simp only [Array.getD_eq_getD_getElem?] at f6
      exact wpOp_no rfl rfl rfl e6 ⟨rfl, Below.refl _ _⟩
    apply still_cons
    · intro a' w' hLe hfr hdep
      have e6 := hdep 3 6 (Nat.le_of_ble_eq_true rfl) rfl rfl
      conv at e6 => rhs; whnf
      have f6 := e6; simp only [Array.getD_eq_getD_getElem?] at f6
      have e9 := hdep 6 9 (Nat.le_of_ble_eq_true rfl) rfl rfl
      conv at e9 => rhs; whnf
      have f9 := e9; simp only [Array.getD_eq_getD_getElem?] at f9
      refine wpOp_plain rfl rfl (fun K hK => ?_)
      go_simp
      exact hK _ _ ⟨rfl, Below.refl _ _⟩
    apply still_cons
    · intro a' w' hLe hfr hdep
      have e10 := hdep 7 10 (Nat.le_of_ble_eq_true rfl) rfl rfl
      conv at e10 => rhs; whnf
      have f10 := e10; simp only [Array.getD_eq_getD_getElem?] at f10
      refine wpOp_plain rfl rfl (fun K hK => ?_)
      go_simp
      exact hK _ _ ⟨rfl, Below.refl _ _⟩
    apply still_cons
    · intro a' w' hLe hfr hdep
      have e11 := hdep 8 11 (Nat.le_of_ble_eq_true rfl) rfl rfl
      conv at e11 => rhs; whnf
      have f11 := e11; simp only [Array.getD_eq_getD_getElem?] at f11
      exact wpOp_no rfl rfl rfl e11 ⟨rfl, Below.refl _ _⟩
    apply still_cons
    · intro a' w' hLe hfr hdep
      have e11 := hdep 8 11 (Nat.le_of_ble_eq_true rfl) rfl rfl
      conv at e11 => rhs; whnf
      have f11 := e11; simp only [Array.getD_eq_getD_getElem?] at f11
      exact wpOp_no rfl rfl rfl e11 ⟨rfl, Below.refl _ _⟩
    apply still_cons
    · intro a' w' hLe hfr hdep
      have e11 := hdep 8 11 (Nat.le_of_ble_eq_true rfl) rfl rfl
      conv at e11 => rhs; whnf
      have f11 := e11; simp only [Array.getD_eq_getD_getElem?] at f11
      exact wpOp_no rfl rfl rfl e11 ⟨rfl, Below.refl _ _⟩
    apply still_cons
    · intro a' w' hLe hfr hdep
      have e11 := hdep 8 11 (Nat.le_of_ble_eq_true rfl) rfl rfl
      conv at e11 => rhs; whnf
      have f11 := e11; simp only [Array.getD_eq_getD_getElem?] at f11
      exact wpOp_no rfl rfl rfl e11 ⟨rfl, Below.refl _ _⟩
    apply still_cons
    · intro a' w' hLe hfr hdep
      have e11 := hdep 8 11 (Nat.le_of_ble_eq_true rfl) rfl rfl
      conv at e11 => rhs; whnf
      have f11 := e11; simp only [Array.getD_eq_getD_getElem?] at f11
      exact wpOp_no rfl rfl rfl e11 ⟨rfl, Below.refl _ _⟩
    apply still_cons
    · intro a' w' hLe hfr hdep
      have e11 := hdep 8 11 (Nat.le_of_ble_eq_true rfl) rfl rfl
      conv at e11 => rhs; whnf
      have f11 := e11; simp only [Array.getD_eq_getD_getElem?] at f11
      exact wpOp_no rfl rfl rfl e11 ⟨rfl, Below.refl _ _⟩
    apply still_cons
    · intro a' w' hLe hfr hdep
      have e11 := hdep 8 11 (Nat.le_of_ble_eq_true rfl) rfl rfl
      conv at e11 => rhs; whnf
      have f11 := e11; simp only [Array.getD_eq_getD_getElem?] at f11
      exact wpOp_no rfl rfl rfl e11 ⟨rfl, Below.refl _ _⟩
    apply still_cons
    · intro a' w' hLe hfr hdep
      have e11 := hdep 8 11 (Nat.le_of_ble_eq_true rfl) rfl rfl
      conv at e11 => rhs; whnf
      have f11 := e11; simp only [Array.getD_eq_getD_getElem?] at f11
      have e18 := hdep 15 18 (Nat.le_of_ble_eq_true rfl) rfl rfl
      conv at e18 => rhs; whnf
      have f18 := e18; simp only [Array.getD_eq_getD_getElem?] at f18
      refine wpOp_plain rfl rfl (fun K hK => ?_)
      go_simp
      exact hK _ _ ⟨rfl, Below.refl _ _⟩
    apply still_cons
    · intro a' w' hLe hfr hdep
      have e19 := hdep 16 19 (Nat.le_of_ble_eq_true rfl) rfl rfl
      conv at e19 => rhs; whnf
      have f19 := e19; simp only [Array.getD_eq_getD_getElem?] at f19
      refine wpOp_plain rfl rfl (fun K hK => ?_)
      go_simp
      exact hK _ _ ⟨rfl, Below.refl _ _⟩
    apply still_nil
    intro w1 hb1
    simp only [putAll, List.drop_succ_cons, List.drop_zero]
    go_simp
    go_wp2
    go_ret
    exact ⟨by simp [pfxB, h1], Below.tr (by (repeat (first | exact Below.refl _ _ | assumption | refine Below.al ?_ _ | refine Below.dr ?_ | (refine Below.st ?_ (by simp <;> omega) _) | (refine Below.tr ?_ (by assumption))))) hb1⟩
  | true =>
    obtain ⟨b1, b2⟩ := inB_true.1 h1
    cases h2 : inB b 0 255 with
    | false =>
      go_enter Try.func44, Try.ntmps44
      go_wp2
      refine wp_region_still (ds := [(0, 3), (1, 4), (2, 5), (3, 6), (4, 7), (5, 8), (6, 9), (7, 10), (8, 11), (9, 12), (10, 13), (11, 14), (12, 15), (13, 16), (14, 17), (15, 18), (16, 19), (17, 2)]) 18 (by kernel_rfl) (by kernel_rfl) (by first | exact .inl rfl | exact .inr (by kernel_rfl)) (by rfl) rfl rfl ?_
      apply still_cons
      · intro a' w' hLe hfr hdep
        have e1 := hfr 1 rfl
        conv at e1 => rhs; whnf
        have f1 := e1; simp only [Array.getD_eq_getD_getElem?] at f1
        refine wpOp_plain rfl rfl (fun K hK => ?_)
        go_simp
        exact hK _ _ ⟨rfl, Below.refl _ _⟩
      apply still_cons
      · intro a' w' hLe hfr hdep
        have e3 := hdep 0 3 (Nat.le_of_ble_eq_true rfl) rfl rfl
        conv at e3 => rhs; whnf
        have f3 := e3; simp only [Array.getD_eq_getD_getElem?] at f3
        have kc := fun i => keepc hLe (w.heap.size) (by (try simp) <;> omega) i
        have kf := fun i => keepf hLe (w.heap.size) (by (try simp) <;> omega) i
        refine wpOp_plain rfl rfl (fun K hK => ?_)
        go_simp
        exact hK _ _ ⟨rfl, Below.refl _ _⟩
      apply still_cons
      · intro a' w' hLe hfr hdep
        have e4 := hdep 1 4 (Nat.le_of_ble_eq_true rfl) rfl rfl
        conv at e4 => rhs; whnf
        have f4 := e4; simp only [Array.getD_eq_getD_getElem?] at f4
        refine wpOp_plain rfl rfl (fun K hK => ?_)
        go_simp
        refine (l1In_any _ _ _ _).mono ?_
        rintro e w2 ⟨rfl, rfl⟩
        exact hK _ _ ⟨rfl, Below.refl _ _⟩
      apply still_cons
      · intro a' w' hLe hfr hdep
        have e5 := hdep 2 5 (Nat.le_of_ble_eq_true rfl) rfl rfl
        conv at e5 => rhs; whnf
        have f5 := e5; simp only [Array.getD_eq_getD_getElem?] at f5
        refine wpOp_plain rfl rfl (fun K hK => ?_)
        go_simp
        exact hK _ _ ⟨rfl, Below.refl _ _⟩
      apply still_cons
      · intro a' w' hLe hfr hdep
        have e6 := hdep 3 6 (Nat.le_of_ble_eq_true rfl) rfl rfl
        conv at e6 => rhs; whnf
        have f6 := e6; simp only [Array.getD_eq_getD_getElem?] at f6
        have e1 := hfr 1 rfl
        conv at e1 => rhs; whnf
        have f1 := e1; simp only [Array.getD_eq_getD_getElem?] at f1
        refine wpOp_yes rfl rfl rfl e6 (fun K hK => ?_)
        go_simp
        exact hK _ _ ⟨rfl, Below.refl _ _⟩
      apply still_cons
      · intro a' w' hLe hfr hdep
        have e6 := hdep 3 6 (Nat.le_of_ble_eq_true rfl) rfl rfl
        conv at e6 => rhs; whnf
        have f6 := e6; simp only [Array.getD_eq_getD_getElem?] at f6
        have e7 := hdep 4 7 (Nat.le_of_ble_eq_true rfl) rfl rfl
        conv at e7 => rhs; whnf
        have f7 := e7; simp only [Array.getD_eq_getD_getElem?] at f7
        have kc := fun i => keepc hLe (w.heap.size) (by (try simp) <;> omega) i
        have kf := fun i => keepf hLe (w.heap.size) (by (try simp) <;> omega) i
        refine wpOp_yes rfl rfl rfl e6 (fun K hK => ?_)
        go_simp
        exact hK _ _ ⟨rfl, Below.refl _ _⟩
      apply still_cons
      · intro a' w' hLe hfr hdep
        have e6 := hdep 3 6 (Nat.le_of_ble_eq_true rfl) rfl rfl
        conv at e6 => rhs; whnf
        have f6 := e6; simp only [Array.getD_eq_getD_getElem?] at f6
        have e8 := hdep 5 8 (Nat.le_of_ble_eq_true rfl) rfl rfl
        conv at e8 => rhs; whnf
        have f8 := e8; simp only [Array.getD_eq_getD_getElem?] at f8
        refine wpOp_yes rfl rfl rfl e6 (fun K hK => ?_)
        go_simp
        refine (l1In_any _ _ _ _).mono ?_
        rintro e w2 ⟨rfl, rfl⟩
        exact hK _ _ ⟨rfl, Below.refl _ _⟩
      apply still_cons
      · intro a' w' hLe hfr hdep
        have e6 := hdep 3 6 (Nat.le_of_ble_eq_true rfl) rfl rfl
        conv at e6 => rhs; whnf
        have f6 := e6; simp only [Array.getD_eq_getD_getElem?] at f6
        have e9 := hdep 6 9 (Nat.le_of_ble_eq_true rfl) rfl rfl
        conv at e9 => rhs; whnf
        have f9 := e9; simp only [Array.getD_eq_getD_getElem?] at f9
        refine wpOp_plain rfl rfl (fun K hK => ?_)
        go_simp
        exact hK _ _ ⟨rfl, Below.refl _ _⟩
      apply still_cons
      · intro a' w' hLe hfr hdep
        have e10 := hdep 7 10 (Nat.le_of_ble_eq_true rfl) rfl rfl
        conv at e10 => rhs; whnf
        have f10 := e10; simp only [Array.getD_eq_getD_getElem?] at f10
        refine wpOp_plain rfl rfl (fun K hK => ?_)
        go_simp
        exact hK _ _ ⟨rfl, Below.refl _ _⟩
      apply still_cons
      · intro a' w' hLe hfr hdep
        have e11 := hdep 8 11 (Nat.le_of_ble_eq_true rfl) rfl rfl
        conv at e11 => rhs; whnf
        have f11 := e11; simp only [Array.getD_eq_getD_getElem?] at f11
        exact wpOp_no rfl rfl rfl e11 ⟨rfl, Below.refl _ _⟩
      apply still_cons
      · intro a' w' hLe hfr hdep
        have e11 := hdep 8 11 (Nat.le_of_ble_eq_true rfl) rfl rfl
        conv at e11 => rhs; whnf
        have f11 := e11; simp only [Array.getD_eq_getD_getElem?] at f11
        exact wpOp_no rfl rfl rfl e11 ⟨rfl, Below.refl _ _⟩
      apply still_cons
      · intro a' w' hLe hfr hdep
        have e11 := hdep 8 11 (Nat.le_of_ble_eq_true rfl) rfl rfl
        conv at e11 => rhs; whnf
        have f11 := e11; simp only [Array.getD_eq_getD_getElem?] at f11
        exact wpOp_no rfl rfl rfl e11 ⟨rfl, Below.refl _ _⟩
      apply still_cons
      · intro a' w' hLe hfr hdep
        have e11 := hdep 8 11 (Nat.le_of_ble_eq_true rfl) rfl rfl
        conv at e11 => rhs; whnf
        have f11 := e11; simp only [Array.getD_eq_getD_getElem?] at f11
        exact wpOp_no rfl rfl rfl e11 ⟨rfl, Below.refl _ _⟩
      apply still_cons
      · intro a' w' hLe hfr hdep
        have e11 := hdep 8 11 (Nat.le_of_ble_eq_true rfl) rfl rfl
        conv at e11 => rhs; whnf
        have f11 := e11; simp only [Array.getD_eq_getD_getElem?] at f11
        exact wpOp_no rfl rfl rfl e11 ⟨rfl, Below.refl _ _⟩
      apply still_cons
      · intro a' w' hLe hfr hdep
        have e11 := hdep 8 11 (Nat.le_of_ble_eq_true rfl) rfl rfl
        conv at e11 => rhs; whnf
        have f11 := e11; simp only [Array.getD_eq_getD_getElem?] at f11
        exact wpOp_no rfl rfl rfl e11 ⟨rfl, Below.refl _ _⟩
      apply still_cons
      · intro a' w' hLe hfr hdep
        have e11 := hdep 8 11 (Nat.le_of_ble_eq_true rfl) rfl rfl
        conv at e11 => rhs; whnf
        have f11 := e11; simp only [Array.getD_eq_getD_getElem?] at f11
        exact wpOp_no rfl rfl rfl e11 ⟨rfl, Below.refl _ _⟩
      apply still_cons
      · intro a' w' hLe hfr hdep
        have e11 := hdep 8 11 (Nat.le_of_ble_eq_true rfl) rfl rfl
        conv at e11 => rhs; whnf
        have f11 := e11; simp only [Array.getD_eq_getD_getElem?] at f11
        have e18 := hdep 15 18 (Nat.le_of_ble_eq_true rfl) rfl rfl
        conv at e18 => rhs; whnf
        have f18 := e18; simp only [Array.getD_eq_getD_getElem?] at f18
        refine wpOp_plain rfl rfl (fun K hK => ?_)
        go_simp
        exact hK _ _ ⟨rfl, Below.refl _ _⟩
      apply still_cons
      · intro a' w' hLe hfr hdep
        have e19 := hdep 16 19 (Nat.le_of_ble_eq_true rfl) rfl rfl
        conv at e19 => rhs; whnf
        have f19 := e19; simp only [Array.getD_eq_getD_getElem?] at f19
        refine wpOp_plain rfl rfl (fun K hK => ?_)
        go_simp
        exact hK _ _ ⟨rfl, Below.refl _ _⟩
      apply still_nil
      intro w1 hb1
      simp only [putAll, List.drop_succ_cons, List.drop_zero]
      go_simp
      go_wp2
      go_ret
      exact ⟨by simp [pfxB, h2], Below.tr (by (repeat (first | exact Below.refl _ _ | assumption | refine Below.al ?_ _ | refine Below.dr ?_ | (refine Below.st ?_ (by simp <;> omega) _) | (refine Below.tr ?_ (by assumption))))) hb1⟩
    | true =>
      obtain ⟨b3, b4⟩ := inB_true.1 h2
      have hb := pfx_bd k
      obtain ⟨b5, b6⟩ := hb
      have hm := Lib.hid (show b.tmod (pfxSize k) = b % pfxSize k from Int.tmod_eq_emod_of_nonneg b3)
      have hne : ¬ pfxSize k = 0 := by omega
      go_enter Try.func44, Try.ntmps44
      go_wp2
      refine wp_region_still (ds := [(0, 3), (1, 4), (2, 5), (3, 6), (4, 7), (5, 8), (6, 9), (7, 10), (8, 11), (9, 12), (10, 13), (11, 14), (12, 15), (13, 16), (14, 17), (15, 18), (16, 19), (17, 2)]) 18 (by kernel_rfl) (by kernel_rfl) (by first | exact .inl rfl | exact .inr (by kernel_rfl)) (by rfl) rfl rfl ?_
      apply still_cons
      · intro a' w' hLe hfr hdep
        have e1 := hfr 1 rfl
        conv at e1 => rhs; whnf
        have f1 := e1; simp only [Array.getD_eq_getD_getElem?] at f1
        refine wpOp_plain rfl rfl (fun K hK => ?_)
        go_simp
        exact hK _ _ ⟨rfl, Below.refl _ _⟩
      apply still_cons
      · intro a' w' hLe hfr hdep
        have e3 := hdep 0 3 (Nat.le_of_ble_eq_true rfl) rfl rfl
        conv at e3 => rhs; whnf
        have f3 := e3; simp only [Array.getD_eq_getD_getElem?] at f3
        have kc := fun i => keepc hLe (w.heap.size) (by (try simp) <;> omega) i
        have kf := fun i => keepf hLe (w.heap.size) (by (try simp) <;> omega) i
        refine wpOp_plain rfl rfl (fun K hK => ?_)
        go_simp
        exact hK _ _ ⟨rfl, Below.refl _ _⟩
      apply still_cons
      · intro a' w' hLe hfr hdep
        have e4 := hdep 1 4 (Nat.le_of_ble_eq_true rfl) rfl rfl
        conv at e4 => rhs; whnf
        have f4 := e4; simp only [Array.getD_eq_getD_getElem?] at f4
        refine wpOp_plain rfl rfl (fun K hK => ?_)
        go_simp
        refine (l1In_any _ _ _ _).mono ?_
        rintro e w2 ⟨rfl, rfl⟩
        exact hK _ _ ⟨rfl, Below.refl _ _⟩
      apply still_cons
      · intro a' w' hLe hfr hdep
        have e5 := hdep 2 5 (Nat.le_of_ble_eq_true rfl) rfl rfl
        conv at e5 => rhs; whnf
        have f5 := e5; simp only [Array.getD_eq_getD_getElem?] at f5
        refine wpOp_plain rfl rfl (fun K hK => ?_)
        go_simp
        exact hK _ _ ⟨rfl, Below.refl _ _⟩
      apply still_cons
      · intro a' w' hLe hfr hdep
        have e6 := hdep 3 6 (Nat.le_of_ble_eq_true rfl) rfl rfl
        conv at e6 => rhs; whnf
        have f6 := e6; simp only [Array.getD_eq_getD_getElem?] at f6
        have e1 := hfr 1 rfl
        conv at e1 => rhs; whnf
        have f1 := e1; simp only [Array.getD_eq_getD_getElem?] at f1
        refine wpOp_yes rfl rfl rfl e6 (fun K hK => ?_)
        go_simp
        exact hK _ _ ⟨rfl, Below.refl _ _⟩
      apply still_cons
      · intro a' w' hLe hfr hdep
        have e6 := hdep 3 6 (Nat.le_of_ble_eq_true rfl) rfl rfl
        conv at e6 => rhs; whnf
        have f6 := e6; simp only [Array.getD_eq_getD_getElem?] at f6
        have e7 := hdep 4 7 (Nat.le_of_ble_eq_true rfl) rfl rfl
        conv at e7 => rhs; whnf
        have f7 := e7; simp only [Array.getD_eq_getD_getElem?] at f7
        have kc := fun i => keepc hLe (w.heap.size) (by (try simp) <;> omega) i
        have kf := fun i => keepf hLe (w.heap.size) (by (try simp) <;> omega) i
        refine wpOp_yes rfl rfl rfl e6 (fun K hK => ?_)
        go_simp
        exact hK _ _ ⟨rfl, Below.refl _ _⟩
      apply still_cons
      · intro a' w' hLe hfr hdep
        have e6 := hdep 3 6 (Nat.le_of_ble_eq_true rfl) rfl rfl
        conv at e6 => rhs; whnf
        have f6 := e6; simp only [Array.getD_eq_getD_getElem?] at f6
        have e8 := hdep 5 8 (Nat.le_of_ble_eq_true rfl) rfl rfl
        conv at e8 => rhs; whnf
        have f8 := e8; simp only [Array.getD_eq_getD_getElem?] at f8
        refine wpOp_yes rfl rfl rfl e6 (fun K hK => ?_)
        go_simp
        refine (l1In_any _ _ _ _).mono ?_
        rintro e w2 ⟨rfl, rfl⟩
        exact hK _ _ ⟨rfl, Below.refl _ _⟩
      apply still_cons
      · intro a' w' hLe hfr hdep
        have e6 := hdep 3 6 (Nat.le_of_ble_eq_true rfl) rfl rfl
        conv at e6 => rhs; whnf
        have f6 := e6; simp only [Array.getD_eq_getD_getElem?] at f6
        have e9 := hdep 6 9 (Nat.le_of_ble_eq_true rfl) rfl rfl
        conv at e9 => rhs; whnf
        have f9 := e9; simp only [Array.getD_eq_getD_getElem?] at f9
        refine wpOp_plain rfl rfl (fun K hK => ?_)
        go_simp
        exact hK _ _ ⟨rfl, Below.refl _ _⟩
      apply still_cons
      · intro a' w' hLe hfr hdep
        have e10 := hdep 7 10 (Nat.le_of_ble_eq_true rfl) rfl rfl
        conv at e10 => rhs; whnf
        have f10 := e10; simp only [Array.getD_eq_getD_getElem?] at f10
        refine wpOp_plain rfl rfl (fun K hK => ?_)
        go_simp
        exact hK _ _ ⟨rfl, Below.refl _ _⟩
      apply still_cons
      · intro a' w' hLe hfr hdep
        have e11 := hdep 8 11 (Nat.le_of_ble_eq_true rfl) rfl rfl
        conv at e11 => rhs; whnf
        have f11 := e11; simp only [Array.getD_eq_getD_getElem?] at f11
        have e1 := hfr 1 rfl
        conv at e1 => rhs; whnf
        have f1 := e1; simp only [Array.getD_eq_getD_getElem?] at f1
        refine wpOp_yes rfl rfl rfl e11 (fun K hK => ?_)
        go_simp
        exact hK _ _ ⟨rfl, Below.refl _ _⟩
      apply still_cons
      · intro a' w' hLe hfr hdep
        have e11 := hdep 8 11 (Nat.le_of_ble_eq_true rfl) rfl rfl
        conv at e11 => rhs; whnf
        have f11 := e11; simp only [Array.getD_eq_getD_getElem?] at f11
        have e12 := hdep 9 12 (Nat.le_of_ble_eq_true rfl) rfl rfl
        conv at e12 => rhs; whnf
        have f12 := e12; simp only [Array.getD_eq_getD_getElem?] at f12
        have kc := fun i => keepc hLe (w.heap.size) (by (try simp) <;> omega) i
        have kf := fun i => keepf hLe (w.heap.size) (by (try simp) <;> omega) i
        refine wpOp_yes rfl rfl rfl e11 (fun K hK => ?_)
        go_simp
        exact hK _ _ ⟨rfl, Below.refl _ _⟩
      apply still_cons
      · intro a' w' hLe hfr hdep
        have e11 := hdep 8 11 (Nat.le_of_ble_eq_true rfl) rfl rfl
        conv at e11 => rhs; whnf
        have f11 := e11; simp only [Array.getD_eq_getD_getElem?] at f11
        have e1 := hfr 1 rfl
        conv at e1 => rhs; whnf
        have f1 := e1; simp only [Array.getD_eq_getD_getElem?] at f1
        refine wpOp_yes rfl rfl rfl e11 (fun K hK => ?_)
        go_simp
        exact hK _ _ ⟨rfl, Below.refl _ _⟩
      apply still_cons
      · intro a' w' hLe hfr hdep
        have e11 := hdep 8 11 (Nat.le_of_ble_eq_true rfl) rfl rfl
        conv at e11 => rhs; whnf
        have f11 := e11; simp only [Array.getD_eq_getD_getElem?] at f11
        have e14 := hdep 11 14 (Nat.le_of_ble_eq_true rfl) rfl rfl
        conv at e14 => rhs; whnf
        have f14 := e14; simp only [Array.getD_eq_getD_getElem?] at f14
        have kc := fun i => keepc hLe (w.heap.size) (by (try simp) <;> omega) i
        have kf := fun i => keepf hLe (w.heap.size) (by (try simp) <;> omega) i
        refine wpOp_yes rfl rfl rfl e11 (fun K hK => ?_)
        go_simp
        exact hK _ _ ⟨rfl, Below.refl _ _⟩
      apply still_cons
      · intro a' w' hLe hfr hdep
        have e11 := hdep 8 11 (Nat.le_of_ble_eq_true rfl) rfl rfl
        conv at e11 => rhs; whnf
        have f11 := e11; simp only [Array.getD_eq_getD_getElem?] at f11
        have e15 := hdep 12 15 (Nat.le_of_ble_eq_true rfl) rfl rfl
        conv at e15 => rhs; whnf
        have f15 := e15; simp only [Array.getD_eq_getD_getElem?] at f15
        refine wpOp_yes rfl rfl rfl e11 (fun K hK => ?_)
        go_simp
        refine (l26Size_any _ (by omega) (by omega) _).mono ?_
        rintro e w2 ⟨rfl, rfl⟩
        exact hK _ _ ⟨rfl, Below.refl _ _⟩
      apply still_cons
      · intro a' w' hLe hfr hdep
        have e11 := hdep 8 11 (Nat.le_of_ble_eq_true rfl) rfl rfl
        conv at e11 => rhs; whnf
        have f11 := e11; simp only [Array.getD_eq_getD_getElem?] at f11
        have e13 := hdep 10 13 (Nat.le_of_ble_eq_true rfl) rfl rfl
        conv at e13 => rhs; whnf
        have f13 := e13; simp only [Array.getD_eq_getD_getElem?] at f13
        have e16 := hdep 13 16 (Nat.le_of_ble_eq_true rfl) rfl rfl
        conv at e16 => rhs; whnf
        have f16 := e16; simp only [Array.getD_eq_getD_getElem?] at f16
        refine wpOp_yes rfl rfl rfl e11 (fun K hK => ?_)
        go_simp
        exact hK _ _ ⟨rfl, Below.refl _ _⟩
      apply still_cons
      · intro a' w' hLe hfr hdep
        have e11 := hdep 8 11 (Nat.le_of_ble_eq_true rfl) rfl rfl
        conv at e11 => rhs; whnf
        have f11 := e11; simp only [Array.getD_eq_getD_getElem?] at f11
        have e17 := hdep 14 17 (Nat.le_of_ble_eq_true rfl) rfl rfl
        conv at e17 => rhs; whnf
        have f17 := e17; simp only [Array.getD_eq_getD_getElem?] at f17
        refine wpOp_yes rfl rfl rfl e11 (fun K hK => ?_)
        go_simp
        exact hK _ _ ⟨rfl, Below.refl _ _⟩
      apply still_cons
      · intro a' w' hLe hfr hdep
        have e11 := hdep 8 11 (Nat.le_of_ble_eq_true rfl) rfl rfl
        conv at e11 => rhs; whnf
        have f11 := e11; simp only [Array.getD_eq_getD_getElem?] at f11
        have e18 := hdep 15 18 (Nat.le_of_ble_eq_true rfl) rfl rfl
        conv at e18 => rhs; whnf
        have f18 := e18; simp only [Array.getD_eq_getD_getElem?] at f18
        refine wpOp_plain rfl rfl (fun K hK => ?_)
        go_simp
        exact hK _ _ ⟨rfl, Below.refl _ _⟩
      apply still_cons
      · intro a' w' hLe hfr hdep
        have e19 := hdep 16 19 (Nat.le_of_ble_eq_true rfl) rfl rfl
        conv at e19 => rhs; whnf
        have f19 := e19; simp only [Array.getD_eq_getD_getElem?] at f19
        refine wpOp_plain rfl rfl (fun K hK => ?_)
        go_simp
        exact hK _ _ ⟨rfl, Below.refl _ _⟩
      apply still_nil
      intro w1 hb1
      simp only [putAll, List.drop_succ_cons, List.drop_zero]
      go_simp
      go_wp2
      go_ret
      exact ⟨by simp [pfxB, h1, h2, hm.out], Below.tr (by (repeat (first | exact Below.refl _ _ | assumption | refine Below.al ?_ _ | refine Below.dr ?_ | (refine Below.st ?_ (by simp <;> omega) _) | (refine Below.tr ?_ (by assumption))))) hb1⟩

set_option maxHeartbeats 1000000 in
theorem implPrefixValid_no (b k : Int) (w : World) (h : inB k 0 8 = false ∨ (inB k 0 8 = true ∧ inB b 0 255 = false)) :
    Calls Try.prog 34 #[.agg #[.int .i64 b, .int .i64 k]] w fun e w' => e = .returned (.bool (pfxB b k)) ∧ Below w.heap.size w w' := by
  rcases h with h1 | ⟨h1, h2⟩
  · go_enter Try.func34, Try.ntmps34
    go_wp2
    refine wp_region_still (ds := [(0, 3), (1, 4), (2, 5), (3, 6), (4, 7), (5, 8), (6, 9), (7, 10), (8, 11), (9, 12), (10, 13), (11, 14), (12, 15), (13, 16), (14, 17), (15, 18), (16, 19), (17, 20), (18, 2)]) 19 (by kernel_rfl) (by kernel_rfl) (by first | exact .inl rfl | exact .inr (by kernel_rfl)) (by rfl) rfl rfl ?_
    apply still_cons
    · intro a' w' hLe hfr hdep
      have e1 := hfr 1 rfl
      conv at e1 => rhs; whnf
      have f1 := e1; simp only [Array.getD_eq_getD_getElem?] at f1
      refine wpOp_plain rfl rfl (fun K hK => ?_)
      go_simp
      exact hK _ _ ⟨rfl, Below.refl _ _⟩
    apply still_cons
    · intro a' w' hLe hfr hdep
      have e3 := hdep 0 3 (Nat.le_of_ble_eq_true rfl) rfl rfl
      conv at e3 => rhs; whnf
      have f3 := e3; simp only [Array.getD_eq_getD_getElem?] at f3
      have kc := fun i => keepc hLe (w.heap.size) (by (try simp) <;> omega) i
      have kf := fun i => keepf hLe (w.heap.size) (by (try simp) <;> omega) i
      refine wpOp_plain rfl rfl (fun K hK => ?_)
      go_simp
      exact hK _ _ ⟨rfl, Below.refl _ _⟩
    apply still_cons
    · intro a' w' hLe hfr hdep
      have e4 := hdep 1 4 (Nat.le_of_ble_eq_true rfl) rfl rfl
      conv at e4 => rhs; whnf
      have f4 := e4; simp only [Array.getD_eq_getD_getElem?] at f4
      refine wpOp_plain rfl rfl (fun K hK => ?_)
      go_simp
      refine (in_any _ _ _ _).mono ?_
      rintro e w2 ⟨rfl, rfl⟩
      exact hK _ _ ⟨rfl, Below.refl _ _⟩
    apply still_cons
    · intro a' w' hLe hfr hdep
      have e5 := hdep 2 5 (Nat.le_of_ble_eq_true rfl) rfl rfl
      conv at e5 => rhs; whnf
      have f5 := e5; simp only [Array.getD_eq_getD_getElem?] at f5
      refine wpOp_plain rfl rfl (fun K hK => ?_)
      go_simp
      exact hK _ _ ⟨rfl, Below.refl _ _⟩
    apply still_cons
    · intro a' w' hLe hfr hdep
      have e6 := hdep 3 6 (Nat.le_of_ble_eq_true rfl) rfl rfl
      conv at e6 => rhs; whnf
      have f6 := e6; simp only [Array.getD_eq_getD_getElem?] at f6
      exact wpOp_no rfl rfl rfl e6 ⟨rfl, Below.refl _ _⟩
    apply still_cons
    · intro a' w' hLe hfr hdep
      have e6 := hdep 3 6 (Nat.le_of_ble_eq_true rfl) rfl rfl
      conv at e6 => rhs; whnf
      have f6 := e6; simp only [Array.getD_eq_getD_getElem?] at f6
      exact wpOp_no rfl rfl rfl e6 ⟨rfl, Below.refl _ _⟩
    apply still_cons
    · intro a' w' hLe hfr hdep
      have e6 := hdep 3 6 (Nat.le_of_ble_eq_true rfl) rfl rfl
      conv at e6 => rhs; whnf
      have f6 := e6; simp only [Array.getD_eq_getD_getElem?] at f6
      exact wpOp_no rfl rfl rfl e6 ⟨rfl, Below.refl _ _⟩
    apply still_cons
    · intro a' w' hLe hfr hdep
      have e6 := hdep 3 6 (Nat.le_of_ble_eq_true rfl) rfl rfl
      conv at e6 => rhs; whnf
      have f6 := e6; simp only [Array.getD_eq_getD_getElem?] at f6
      have e9 := hdep 6 9 (Nat.le_of_ble_eq_true rfl) rfl rfl
      conv at e9 => rhs; whnf
      have f9 := e9; simp only [Array.getD_eq_getD_getElem?] at f9
      refine wpOp_plain rfl rfl (fun K hK => ?_)
      go_simp
      exact hK _ _ ⟨rfl, Below.refl _ _⟩
    apply still_cons
    · intro a' w' hLe hfr hdep
      have e10 := hdep 7 10 (Nat.le_of_ble_eq_true rfl) rfl rfl
      conv at e10 => rhs; whnf
      have f10 := e10; simp only [Array.getD_eq_getD_getElem?] at f10
      refine wpOp_plain rfl rfl (fun K hK => ?_)
      go_simp
      exact hK _ _ ⟨rfl, Below.refl _ _⟩
    apply still_cons
    · intro a' w' hLe hfr hdep
      have e11 := hdep 8 11 (Nat.le_of_ble_eq_true rfl) rfl rfl
      conv at e11 => rhs; whnf
      have f11 := e11; simp only [Array.getD_eq_getD_getElem?] at f11
      exact wpOp_no rfl rfl rfl e11 ⟨rfl, Below.refl _ _⟩
    apply still_cons
    · intro a' w' hLe hfr hdep
      have e11 := hdep 8 11 (Nat.le_of_ble_eq_true rfl) rfl rfl
      conv at e11 => rhs; whnf
      have f11 := e11; simp only [Array.getD_eq_getD_getElem?] at f11
      exact wpOp_no rfl rfl rfl e11 ⟨rfl, Below.refl _ _⟩
    apply still_cons
    · intro a' w' hLe hfr hdep
      have e11 := hdep 8 11 (Nat.le_of_ble_eq_true rfl) rfl rfl
      conv at e11 => rhs; whnf
      have f11 := e11; simp only [Array.getD_eq_getD_getElem?] at f11
      exact wpOp_no rfl rfl rfl e11 ⟨rfl, Below.refl _ _⟩
    apply still_cons
    · intro a' w' hLe hfr hdep
      have e11 := hdep 8 11 (Nat.le_of_ble_eq_true rfl) rfl rfl
      conv at e11 => rhs; whnf
      have f11 := e11; simp only [Array.getD_eq_getD_getElem?] at f11
      exact wpOp_no rfl rfl rfl e11 ⟨rfl, Below.refl _ _⟩
    apply still_cons
    · intro a' w' hLe hfr hdep
      have e11 := hdep 8 11 (Nat.le_of_ble_eq_true rfl) rfl rfl
      conv at e11 => rhs; whnf
      have f11 := e11; simp only [Array.getD_eq_getD_getElem?] at f11
      exact wpOp_no rfl rfl rfl e11 ⟨rfl, Below.refl _ _⟩
    apply still_cons
    · intro a' w' hLe hfr hdep
      have e11 := hdep 8 11 (Nat.le_of_ble_eq_true rfl) rfl rfl
      conv at e11 => rhs; whnf
      have f11 := e11; simp only [Array.getD_eq_getD_getElem?] at f11
      exact wpOp_no rfl rfl rfl e11 ⟨rfl, Below.refl _ _⟩
    apply still_cons
    · intro a' w' hLe hfr hdep
      have e11 := hdep 8 11 (Nat.le_of_ble_eq_true rfl) rfl rfl
      conv at e11 => rhs; whnf
      have f11 := e11; simp only [Array.getD_eq_getD_getElem?] at f11
      exact wpOp_no rfl rfl rfl e11 ⟨rfl, Below.refl _ _⟩
    apply still_cons
    · intro a' w' hLe hfr hdep
      have e11 := hdep 8 11 (Nat.le_of_ble_eq_true rfl) rfl rfl
      conv at e11 => rhs; whnf
      have f11 := e11; simp only [Array.getD_eq_getD_getElem?] at f11
      exact wpOp_no rfl rfl rfl e11 ⟨rfl, Below.refl _ _⟩
    apply still_cons
    · intro a' w' hLe hfr hdep
      have e11 := hdep 8 11 (Nat.le_of_ble_eq_true rfl) rfl rfl
      conv at e11 => rhs; whnf
      have f11 := e11; simp only [Array.getD_eq_getD_getElem?] at f11
      have e19 := hdep 16 19 (Nat.le_of_ble_eq_true rfl) rfl rfl
      conv at e19 => rhs; whnf
      have f19 := e19; simp only [Array.getD_eq_getD_getElem?] at f19
      refine wpOp_plain rfl rfl (fun K hK => ?_)
      go_simp
      exact hK _ _ ⟨rfl, Below.refl _ _⟩
    apply still_cons
    · intro a' w' hLe hfr hdep
      have e20 := hdep 17 20 (Nat.le_of_ble_eq_true rfl) rfl rfl
      conv at e20 => rhs; whnf
      have f20 := e20; simp only [Array.getD_eq_getD_getElem?] at f20
      refine wpOp_plain rfl rfl (fun K hK => ?_)
      go_simp
      exact hK _ _ ⟨rfl, Below.refl _ _⟩
    apply still_nil
    intro w1 hb1
    simp only [putAll, List.drop_succ_cons, List.drop_zero]
    go_simp
    go_wp2
    go_ret
    exact ⟨by simp [pfxB, h1], Below.tr (by (repeat (first | exact Below.refl _ _ | assumption | refine Below.al ?_ _ | refine Below.dr ?_ | (refine Below.st ?_ (by simp <;> omega) _) | (refine Below.tr ?_ (by assumption))))) hb1⟩
  · go_enter Try.func34, Try.ntmps34
    go_wp2
    refine wp_region_still (ds := [(0, 3), (1, 4), (2, 5), (3, 6), (4, 7), (5, 8), (6, 9), (7, 10), (8, 11), (9, 12), (10, 13), (11, 14), (12, 15), (13, 16), (14, 17), (15, 18), (16, 19), (17, 20), (18, 2)]) 19 (by kernel_rfl) (by kernel_rfl) (by first | exact .inl rfl | exact .inr (by kernel_rfl)) (by rfl) rfl rfl ?_
    apply still_cons
    · intro a' w' hLe hfr hdep
      have e1 := hfr 1 rfl
      conv at e1 => rhs; whnf
      have f1 := e1; simp only [Array.getD_eq_getD_getElem?] at f1
      refine wpOp_plain rfl rfl (fun K hK => ?_)
      go_simp
      exact hK _ _ ⟨rfl, Below.refl _ _⟩
    apply still_cons
    · intro a' w' hLe hfr hdep
      have e3 := hdep 0 3 (Nat.le_of_ble_eq_true rfl) rfl rfl
      conv at e3 => rhs; whnf
      have f3 := e3; simp only [Array.getD_eq_getD_getElem?] at f3
      have kc := fun i => keepc hLe (w.heap.size) (by (try simp) <;> omega) i
      have kf := fun i => keepf hLe (w.heap.size) (by (try simp) <;> omega) i
      refine wpOp_plain rfl rfl (fun K hK => ?_)
      go_simp
      exact hK _ _ ⟨rfl, Below.refl _ _⟩
    apply still_cons
    · intro a' w' hLe hfr hdep
      have e4 := hdep 1 4 (Nat.le_of_ble_eq_true rfl) rfl rfl
      conv at e4 => rhs; whnf
      have f4 := e4; simp only [Array.getD_eq_getD_getElem?] at f4
      refine wpOp_plain rfl rfl (fun K hK => ?_)
      go_simp
      refine (in_any _ _ _ _).mono ?_
      rintro e w2 ⟨rfl, rfl⟩
      exact hK _ _ ⟨rfl, Below.refl _ _⟩
    apply still_cons
    · intro a' w' hLe hfr hdep
      have e5 := hdep 2 5 (Nat.le_of_ble_eq_true rfl) rfl rfl
      conv at e5 => rhs; whnf
      have f5 := e5; simp only [Array.getD_eq_getD_getElem?] at f5
      refine wpOp_plain rfl rfl (fun K hK => ?_)
      go_simp
      exact hK _ _ ⟨rfl, Below.refl _ _⟩
    apply still_cons
    · intro a' w' hLe hfr hdep
      have e6 := hdep 3 6 (Nat.le_of_ble_eq_true rfl) rfl rfl
      conv at e6 => rhs; whnf
      have f6 := e6; simp only [Array.getD_eq_getD_getElem?] at f6
      have e1 := hfr 1 rfl
      conv at e1 => rhs; whnf
      have f1 := e1; simp only [Array.getD_eq_getD_getElem?] at f1
      refine wpOp_yes rfl rfl rfl e6 (fun K hK => ?_)
      go_simp
      exact hK _ _ ⟨rfl, Below.refl _ _⟩
    apply still_cons
    · intro a' w' hLe hfr hdep
      have e6 := hdep 3 6 (Nat.le_of_ble_eq_true rfl) rfl rfl
      conv at e6 => rhs; whnf
      have f6 := e6; simp only [Array.getD_eq_getD_getElem?] at f6
      have e7 := hdep 4 7 (Nat.le_of_ble_eq_true rfl) rfl rfl
      conv at e7 => rhs; whnf
      have f7 := e7; simp only [Array.getD_eq_getD_getElem?] at f7
      have kc := fun i => keepc hLe (w.heap.size) (by (try simp) <;> omega) i
      have kf := fun i => keepf hLe (w.heap.size) (by (try simp) <;> omega) i
      refine wpOp_yes rfl rfl rfl e6 (fun K hK => ?_)
      go_simp
      exact hK _ _ ⟨rfl, Below.refl _ _⟩
    apply still_cons
    · intro a' w' hLe hfr hdep
      have e6 := hdep 3 6 (Nat.le_of_ble_eq_true rfl) rfl rfl
      conv at e6 => rhs; whnf
      have f6 := e6; simp only [Array.getD_eq_getD_getElem?] at f6
      have e8 := hdep 5 8 (Nat.le_of_ble_eq_true rfl) rfl rfl
      conv at e8 => rhs; whnf
      have f8 := e8; simp only [Array.getD_eq_getD_getElem?] at f8
      refine wpOp_yes rfl rfl rfl e6 (fun K hK => ?_)
      go_simp
      refine (in_any _ _ _ _).mono ?_
      rintro e w2 ⟨rfl, rfl⟩
      exact hK _ _ ⟨rfl, Below.refl _ _⟩
    apply still_cons
    · intro a' w' hLe hfr hdep
      have e6 := hdep 3 6 (Nat.le_of_ble_eq_true rfl) rfl rfl
      conv at e6 => rhs; whnf
      have f6 := e6; simp only [Array.getD_eq_getD_getElem?] at f6
      have e9 := hdep 6 9 (Nat.le_of_ble_eq_true rfl) rfl rfl
      conv at e9 => rhs; whnf
      have f9 := e9; simp only [Array.getD_eq_getD_getElem?] at f9
      refine wpOp_plain rfl rfl (fun K hK => ?_)
      go_simp
      exact hK _ _ ⟨rfl, Below.refl _ _⟩
    apply still_cons
    · intro a' w' hLe hfr hdep
      have e10 := hdep 7 10 (Nat.le_of_ble_eq_true rfl) rfl rfl
      conv at e10 => rhs; whnf
      have f10 := e10; simp only [Array.getD_eq_getD_getElem?] at f10
      refine wpOp_plain rfl rfl (fun K hK => ?_)
      go_simp
      exact hK _ _ ⟨rfl, Below.refl _ _⟩
    apply still_cons
    · intro a' w' hLe hfr hdep
      have e11 := hdep 8 11 (Nat.le_of_ble_eq_true rfl) rfl rfl
      conv at e11 => rhs; whnf
      have f11 := e11; simp only [Array.getD_eq_getD_getElem?] at f11
      exact wpOp_no rfl rfl rfl e11 ⟨rfl, Below.refl _ _⟩
    apply still_cons
    · intro a' w' hLe hfr hdep
      have e11 := hdep 8 11 (Nat.le_of_ble_eq_true rfl) rfl rfl
      conv at e11 => rhs; whnf
      have f11 := e11; simp only [Array.getD_eq_getD_getElem?] at f11
      exact wpOp_no rfl rfl rfl e11 ⟨rfl, Below.refl _ _⟩
    apply still_cons
    · intro a' w' hLe hfr hdep
      have e11 := hdep 8 11 (Nat.le_of_ble_eq_true rfl) rfl rfl
      conv at e11 => rhs; whnf
      have f11 := e11; simp only [Array.getD_eq_getD_getElem?] at f11
      exact wpOp_no rfl rfl rfl e11 ⟨rfl, Below.refl _ _⟩
    apply still_cons
    · intro a' w' hLe hfr hdep
      have e11 := hdep 8 11 (Nat.le_of_ble_eq_true rfl) rfl rfl
      conv at e11 => rhs; whnf
      have f11 := e11; simp only [Array.getD_eq_getD_getElem?] at f11
      exact wpOp_no rfl rfl rfl e11 ⟨rfl, Below.refl _ _⟩
    apply still_cons
    · intro a' w' hLe hfr hdep
      have e11 := hdep 8 11 (Nat.le_of_ble_eq_true rfl) rfl rfl
      conv at e11 => rhs; whnf
      have f11 := e11; simp only [Array.getD_eq_getD_getElem?] at f11
      exact wpOp_no rfl rfl rfl e11 ⟨rfl, Below.refl _ _⟩
    apply still_cons
    · intro a' w' hLe hfr hdep
      have e11 := hdep 8 11 (Nat.le_of_ble_eq_true rfl) rfl rfl
      conv at e11 => rhs; whnf
      have f11 := e11; simp only [Array.getD_eq_getD_getElem?] at f11
      exact wpOp_no rfl rfl rfl e11 ⟨rfl, Below.refl _ _⟩
    apply still_cons
    · intro a' w' hLe hfr hdep
      have e11 := hdep 8 11 (Nat.le_of_ble_eq_true rfl) rfl rfl
      conv at e11 => rhs; whnf
      have f11 := e11; simp only [Array.getD_eq_getD_getElem?] at f11
      exact wpOp_no rfl rfl rfl e11 ⟨rfl, Below.refl _ _⟩
    apply still_cons
    · intro a' w' hLe hfr hdep
      have e11 := hdep 8 11 (Nat.le_of_ble_eq_true rfl) rfl rfl
      conv at e11 => rhs; whnf
      have f11 := e11; simp only [Array.getD_eq_getD_getElem?] at f11
      exact wpOp_no rfl rfl rfl e11 ⟨rfl, Below.refl _ _⟩
    apply still_cons
    · intro a' w' hLe hfr hdep
      have e11 := hdep 8 11 (Nat.le_of_ble_eq_true rfl) rfl rfl
      conv at e11 => rhs; whnf
      have f11 := e11; simp only [Array.getD_eq_getD_getElem?] at f11
      have e19 := hdep 16 19 (Nat.le_of_ble_eq_true rfl) rfl rfl
      conv at e19 => rhs; whnf
      have f19 := e19; simp only [Array.getD_eq_getD_getElem?] at f19
      refine wpOp_plain rfl rfl (fun K hK => ?_)
      go_simp
      exact hK _ _ ⟨rfl, Below.refl _ _⟩
    apply still_cons
    · intro a' w' hLe hfr hdep
      have e20 := hdep 17 20 (Nat.le_of_ble_eq_true rfl) rfl rfl
      conv at e20 => rhs; whnf
      have f20 := e20; simp only [Array.getD_eq_getD_getElem?] at f20
      refine wpOp_plain rfl rfl (fun K hK => ?_)
      go_simp
      exact hK _ _ ⟨rfl, Below.refl _ _⟩
    apply still_nil
    intro w1 hb1
    simp only [putAll, List.drop_succ_cons, List.drop_zero]
    go_simp
    go_wp2
    go_ret
    exact ⟨by simp [pfxB, h2], Below.tr (by (repeat (first | exact Below.refl _ _ | assumption | refine Below.al ?_ _ | refine Below.dr ?_ | (refine Below.st ?_ (by simp <;> omega) _) | (refine Below.tr ?_ (by assumption))))) hb1⟩

set_option maxHeartbeats 4000000 in
theorem implPrefixValid_any (b k : Int) (w : World) :
    Calls Try.prog 34 #[.agg #[.int .i64 b, .int .i64 k]] w fun e w' => e = .returned (.bool (pfxB b k)) ∧ Below w.heap.size w w' := by
  cases h1 : inB k 0 8 with
  | false => exact implPrefixValid_no b k w (.inl h1)
  | true =>
    cases h2 : inB b 0 255 with
    | false => exact implPrefixValid_no b k w (.inr ⟨h1, h2⟩)
    | true =>
      obtain ⟨b1, b2⟩ := inB_true.1 h1
      obtain ⟨b3, b4⟩ := inB_true.1 h2
      have hf : Hid (pfxB b k = (b.tmod (pfxSize k) == 0)) := by
        show pfxB b k = (b.tmod (pfxSize k) == 0)
        rw [Int.tmod_eq_emod_of_nonneg b3]; simp [pfxB, h1, h2]
      rcases eight b1 b2 with rfl | rfl | rfl | rfl | rfl | rfl | rfl | rfl | rfl
      all_goals go_enter Try.func34, Try.ntmps34
      all_goals go_wp2
      all_goals (
        refine wp_region_still (ds := [(0, 3), (1, 4), (2, 5), (3, 6), (4, 7), (5, 8), (6, 9), (7, 10), (8, 11), (9, 12), (10, 13), (11, 14), (12, 15), (13, 16), (14, 17), (15, 18), (16, 19), (17, 20), (18, 2)]) 19 (by kernel_rfl) (by kernel_rfl) (by first | exact .inl rfl | exact .inr (by kernel_rfl)) (by rfl) rfl rfl ?_
        apply still_cons
        · intro a' w' hLe hfr hdep
          have e1 := hfr 1 rfl
          conv at e1 => rhs; whnf
          have f1 := e1; simp only [Array.getD_eq_getD_getElem?] at f1
          refine wpOp_plain rfl rfl (fun K hK => ?_)
          go_simp
          exact hK _ _ ⟨rfl, Below.refl _ _⟩
        apply still_cons
        · intro a' w' hLe hfr hdep
          have e3 := hdep 0 3 (Nat.le_of_ble_eq_true rfl) rfl rfl
          conv at e3 => rhs; whnf
          have f3 := e3; simp only [Array.getD_eq_getD_getElem?] at f3
          have kc := fun i => keepc hLe (w.heap.size) (by (try simp) <;> omega) i
          have kf := fun i => keepf hLe (w.heap.size) (by (try simp) <;> omega) i
          refine wpOp_plain rfl rfl (fun K hK => ?_)
          go_simp
          exact hK _ _ ⟨rfl, Below.refl _ _⟩
        apply still_cons
        · intro a' w' hLe hfr hdep
          have e4 := hdep 1 4 (Nat.le_of_ble_eq_true rfl) rfl rfl
          conv at e4 => rhs; whnf
          have f4 := e4; simp only [Array.getD_eq_getD_getElem?] at f4
          refine wpOp_plain rfl rfl (fun K hK => ?_)
          go_simp
          refine (in_any _ _ _ _).mono ?_
          rintro e w2 ⟨rfl, rfl⟩
          exact hK _ _ ⟨rfl, Below.refl _ _⟩
        apply still_cons
        · intro a' w' hLe hfr hdep
          have e5 := hdep 2 5 (Nat.le_of_ble_eq_true rfl) rfl rfl
          conv at e5 => rhs; whnf
          have f5 := e5; simp only [Array.getD_eq_getD_getElem?] at f5
          refine wpOp_plain rfl rfl (fun K hK => ?_)
          go_simp
          exact hK _ _ ⟨rfl, Below.refl _ _⟩
        apply still_cons
        · intro a' w' hLe hfr hdep
          have e6 := hdep 3 6 (Nat.le_of_ble_eq_true rfl) rfl rfl
          conv at e6 => rhs; whnf
          have f6 := e6; simp only [Array.getD_eq_getD_getElem?] at f6
          have e1 := hfr 1 rfl
          conv at e1 => rhs; whnf
          have f1 := e1; simp only [Array.getD_eq_getD_getElem?] at f1
          refine wpOp_yes rfl rfl rfl e6 (fun K hK => ?_)
          go_simp
          exact hK _ _ ⟨rfl, Below.refl _ _⟩
        apply still_cons
        · intro a' w' hLe hfr hdep
          have e6 := hdep 3 6 (Nat.le_of_ble_eq_true rfl) rfl rfl
          conv at e6 => rhs; whnf
          have f6 := e6; simp only [Array.getD_eq_getD_getElem?] at f6
          have e7 := hdep 4 7 (Nat.le_of_ble_eq_true rfl) rfl rfl
          conv at e7 => rhs; whnf
          have f7 := e7; simp only [Array.getD_eq_getD_getElem?] at f7
          have kc := fun i => keepc hLe (w.heap.size) (by (try simp) <;> omega) i
          have kf := fun i => keepf hLe (w.heap.size) (by (try simp) <;> omega) i
          refine wpOp_yes rfl rfl rfl e6 (fun K hK => ?_)
          go_simp
          exact hK _ _ ⟨rfl, Below.refl _ _⟩
        apply still_cons
        · intro a' w' hLe hfr hdep
          have e6 := hdep 3 6 (Nat.le_of_ble_eq_true rfl) rfl rfl
          conv at e6 => rhs; whnf
          have f6 := e6; simp only [Array.getD_eq_getD_getElem?] at f6
          have e8 := hdep 5 8 (Nat.le_of_ble_eq_true rfl) rfl rfl
          conv at e8 => rhs; whnf
          have f8 := e8; simp only [Array.getD_eq_getD_getElem?] at f8
          refine wpOp_yes rfl rfl rfl e6 (fun K hK => ?_)
          go_simp
          refine (in_any _ _ _ _).mono ?_
          rintro e w2 ⟨rfl, rfl⟩
          exact hK _ _ ⟨rfl, Below.refl _ _⟩
        apply still_cons
        · intro a' w' hLe hfr hdep
          have e6 := hdep 3 6 (Nat.le_of_ble_eq_true rfl) rfl rfl
          conv at e6 => rhs; whnf
          have f6 := e6; simp only [Array.getD_eq_getD_getElem?] at f6
          have e9 := hdep 6 9 (Nat.le_of_ble_eq_true rfl) rfl rfl
          conv at e9 => rhs; whnf
          have f9 := e9; simp only [Array.getD_eq_getD_getElem?] at f9
          refine wpOp_plain rfl rfl (fun K hK => ?_)
          go_simp
          exact hK _ _ ⟨rfl, Below.refl _ _⟩
        apply still_cons
        · intro a' w' hLe hfr hdep
          have e10 := hdep 7 10 (Nat.le_of_ble_eq_true rfl) rfl rfl
          conv at e10 => rhs; whnf
          have f10 := e10; simp only [Array.getD_eq_getD_getElem?] at f10
          refine wpOp_plain rfl rfl (fun K hK => ?_)
          go_simp
          exact hK _ _ ⟨rfl, Below.refl _ _⟩
        apply still_cons
        · intro a' w' hLe hfr hdep
          have e11 := hdep 8 11 (Nat.le_of_ble_eq_true rfl) rfl rfl
          conv at e11 => rhs; whnf
          have f11 := e11; simp only [Array.getD_eq_getD_getElem?] at f11
          have e1 := hfr 1 rfl
          conv at e1 => rhs; whnf
          have f1 := e1; simp only [Array.getD_eq_getD_getElem?] at f1
          refine wpOp_yes rfl rfl rfl e11 (fun K hK => ?_)
          go_simp
          exact hK _ _ ⟨rfl, Below.refl _ _⟩
        apply still_cons
        · intro a' w' hLe hfr hdep
          have e11 := hdep 8 11 (Nat.le_of_ble_eq_true rfl) rfl rfl
          conv at e11 => rhs; whnf
          have f11 := e11; simp only [Array.getD_eq_getD_getElem?] at f11
          have e12 := hdep 9 12 (Nat.le_of_ble_eq_true rfl) rfl rfl
          conv at e12 => rhs; whnf
          have f12 := e12; simp only [Array.getD_eq_getD_getElem?] at f12
          have kc := fun i => keepc hLe (w.heap.size) (by (try simp) <;> omega) i
          have kf := fun i => keepf hLe (w.heap.size) (by (try simp) <;> omega) i
          refine wpOp_yes rfl rfl rfl e11 (fun K hK => ?_)
          go_simp
          exact hK _ _ ⟨rfl, Below.refl _ _⟩
        apply still_cons
        · intro a' w' hLe hfr hdep
          have e11 := hdep 8 11 (Nat.le_of_ble_eq_true rfl) rfl rfl
          conv at e11 => rhs; whnf
          have f11 := e11; simp only [Array.getD_eq_getD_getElem?] at f11
          have e1 := hfr 1 rfl
          conv at e1 => rhs; whnf
          have f1 := e1; simp only [Array.getD_eq_getD_getElem?] at f1
          refine wpOp_yes rfl rfl rfl e11 (fun K hK => ?_)
          go_simp
          exact hK _ _ ⟨rfl, Below.refl _ _⟩
        apply still_cons
        · intro a' w' hLe hfr hdep
          have e11 := hdep 8 11 (Nat.le_of_ble_eq_true rfl) rfl rfl
          conv at e11 => rhs; whnf
          have f11 := e11; simp only [Array.getD_eq_getD_getElem?] at f11
          have e14 := hdep 11 14 (Nat.le_of_ble_eq_true rfl) rfl rfl
          conv at e14 => rhs; whnf
          have f14 := e14; simp only [Array.getD_eq_getD_getElem?] at f14
          have kc := fun i => keepc hLe (w.heap.size) (by (try simp) <;> omega) i
          have kf := fun i => keepf hLe (w.heap.size) (by (try simp) <;> omega) i
          refine wpOp_yes rfl rfl rfl e11 (fun K hK => ?_)
          go_simp
          exact hK _ _ ⟨rfl, Below.refl _ _⟩
        apply still_cons
        · intro a' w' hLe hfr hdep
          have e11 := hdep 8 11 (Nat.le_of_ble_eq_true rfl) rfl rfl
          conv at e11 => rhs; whnf
          have f11 := e11; simp only [Array.getD_eq_getD_getElem?] at f11
          have e15 := hdep 12 15 (Nat.le_of_ble_eq_true rfl) rfl rfl
          conv at e15 => rhs; whnf
          have f15 := e15; simp only [Array.getD_eq_getD_getElem?] at f15
          refine wpOp_yes rfl rfl rfl e11 (fun K hK => ?_)
          go_simp
          exact hK _ _ ⟨rfl, Below.refl _ _⟩
        apply still_cons
        · intro a' w' hLe hfr hdep
          have e11 := hdep 8 11 (Nat.le_of_ble_eq_true rfl) rfl rfl
          conv at e11 => rhs; whnf
          have f11 := e11; simp only [Array.getD_eq_getD_getElem?] at f11
          have e16 := hdep 13 16 (Nat.le_of_ble_eq_true rfl) rfl rfl
          conv at e16 => rhs; whnf
          have f16 := e16; simp only [Array.getD_eq_getD_getElem?] at f16
          refine wpOp_yes rfl rfl rfl e11 (fun K hK => ?_)
          go_simp
          exact hK _ _ ⟨rfl, Below.refl _ _⟩
        apply still_cons
        · intro a' w' hLe hfr hdep
          have e11 := hdep 8 11 (Nat.le_of_ble_eq_true rfl) rfl rfl
          conv at e11 => rhs; whnf
          have f11 := e11; simp only [Array.getD_eq_getD_getElem?] at f11
          have e13 := hdep 10 13 (Nat.le_of_ble_eq_true rfl) rfl rfl
          conv at e13 => rhs; whnf
          have f13 := e13; simp only [Array.getD_eq_getD_getElem?] at f13
          have e17 := hdep 14 17 (Nat.le_of_ble_eq_true rfl) rfl rfl
          conv at e17 => rhs; whnf
          have f17 := e17; simp only [Array.getD_eq_getD_getElem?] at f17
          refine wpOp_yes rfl rfl rfl e11 (fun K hK => ?_)
          go_simp
          exact hK _ _ ⟨rfl, Below.refl _ _⟩
        apply still_cons
        · intro a' w' hLe hfr hdep
          have e11 := hdep 8 11 (Nat.le_of_ble_eq_true rfl) rfl rfl
          conv at e11 => rhs; whnf
          have f11 := e11; simp only [Array.getD_eq_getD_getElem?] at f11
          have e18 := hdep 15 18 (Nat.le_of_ble_eq_true rfl) rfl rfl
          conv at e18 => rhs; whnf
          have f18 := e18; simp only [Array.getD_eq_getD_getElem?] at f18
          refine wpOp_yes rfl rfl rfl e11 (fun K hK => ?_)
          go_simp
          exact hK _ _ ⟨rfl, Below.refl _ _⟩
        apply still_cons
        · intro a' w' hLe hfr hdep
          have e11 := hdep 8 11 (Nat.le_of_ble_eq_true rfl) rfl rfl
          conv at e11 => rhs; whnf
          have f11 := e11; simp only [Array.getD_eq_getD_getElem?] at f11
          have e19 := hdep 16 19 (Nat.le_of_ble_eq_true rfl) rfl rfl
          conv at e19 => rhs; whnf
          have f19 := e19; simp only [Array.getD_eq_getD_getElem?] at f19
          refine wpOp_plain rfl rfl (fun K hK => ?_)
          go_simp
          exact hK _ _ ⟨rfl, Below.refl _ _⟩
        apply still_cons
        · intro a' w' hLe hfr hdep
          have e20 := hdep 17 20 (Nat.le_of_ble_eq_true rfl) rfl rfl
          conv at e20 => rhs; whnf
          have f20 := e20; simp only [Array.getD_eq_getD_getElem?] at f20
          refine wpOp_plain rfl rfl (fun K hK => ?_)
          go_simp
          exact hK _ _ ⟨rfl, Below.refl _ _⟩
        apply still_nil
        intro w1 hb1
        simp only [putAll, List.drop_succ_cons, List.drop_zero]
        go_simp
        go_wp2
        go_ret
        exact ⟨by rw [hf.out]; rfl, Below.tr (by (repeat (first | exact Below.refl _ _ | assumption | refine Below.al ?_ _ | refine Below.dr ?_ | (refine Below.st ?_ (by simp <;> omega) _) | (refine Below.tr ?_ (by assumption))))) hb1⟩)
end Go.Proofs.Ytgoijpbkgkjfeaa
