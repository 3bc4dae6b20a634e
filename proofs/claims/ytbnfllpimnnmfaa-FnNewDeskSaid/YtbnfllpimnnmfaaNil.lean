/-
  Pools, tables and desks without hosts and entries.
-/
import Derived.Test.YtbnfllpimnnmfaaTime
import Derived.Test.YtbnfllpimnnmfaaPush
namespace Go.Proofs.Ytbnfllpimnnmfaa
open Go Go.RowKit

/-- Are a table's size and time in range? -/
def tabB (sz st : Int) : Bool := inB sz 1 12 && inB st 1 100000
theorem implPoolValid_nil {A : Option Addr} {c : Nat} (w : World) : Calls Try.prog 21 #[.slice A 0 c] w fun e w' => e = .returned (.bool true) ∧ w = w' := by
  go_enter Try.func21, Try.ntmps21
  go_wp2
  go_loop [7] (fun i => i = .int .i64 0) (fun _ => 0)
  case atStart => rfl
  case round =>
    obtain rfl := hrel
    go_wp2
    go_ret
    exact ⟨rfl, rfl⟩
theorem specPoolValid_nil {A : Option Addr} {c : Nat} (w : World) : Calls Try.prog 40 #[.slice A 0 c] w fun e w' => e = .returned (.bool true) ∧ w = w' := by
  go_enter Try.func40, Try.ntmps40
  go_wp2
  go_loop [3] (fun i => i = .int .i64 0) (fun _ => 0)
  case atStart => rfl
  case round =>
    obtain rfl := hrel
    go_wp2
    go_ret
    exact ⟨rfl, rfl⟩
set_option maxRecDepth 20000 in
set_option maxHeartbeats 2000000 in
theorem implTableValid_nil {A : Option Addr} {c : Nat} (sz st : Int) (w : World) : Calls Try.prog 22 #[.agg #[.int .i64 sz, .int .i64 st, .slice A 0 c]] w fun e w' => e = .returned (.bool (tabB sz st)) ∧ Below w.heap.size w w' := by
  have hmm := @run_makeMap Try.prog
  cases h1 : inB sz 1 12 with
  | false =>
    go_enter Try.func22, Try.ntmps22
    go_wp2_with (go_at_call 43; refine (in_any _ _ _ _).mono ?_; rintro e w' ⟨rfl, rfl⟩)
    go_ret
    exact ⟨by simp [tabB, h1], by (repeat (first | exact Below.refl _ _ | assumption | refine Below.al ?_ _ | refine Below.dr ?_ | (refine Below.st ?_ (by simp <;> omega) _) | (refine Below.tr ?_ (by assumption))))⟩
  | true =>
    cases h2 : inB st 1 100000 with
    | false =>
      go_enter Try.func22, Try.ntmps22
      go_wp2_with (go_at_call 43; refine (in_any _ _ _ _).mono ?_; rintro e w' ⟨rfl, rfl⟩)
      go_ret
      exact ⟨by simp [tabB, h1, h2], by (repeat (first | exact Below.refl _ _ | assumption | refine Below.al ?_ _ | refine Below.dr ?_ | (refine Below.st ?_ (by simp <;> omega) _) | (refine Below.tr ?_ (by assumption))))⟩
    | true =>
      have t1 := inB_true.1 h1
      have hd : decide (sz < 0) = false := by simp; omega
      go_enter Try.func22, Try.ntmps22
      go_wp2_with (go_at_call 43; refine (in_any _ _ _ _).mono ?_; rintro e w' ⟨rfl, rfl⟩)
      go_loop [28] (fun i => i = .int .i64 0) (fun _ => 0)
      case atStart => rfl
      case round =>
        obtain rfl := hrel
        go_wp2
        go_ret
        exact ⟨by simp [tabB, h1, h2], by (repeat (first | exact Below.refl _ _ | assumption | refine Below.al ?_ _ | refine Below.dr ?_ | (refine Below.st ?_ (by simp <;> omega) _) | (refine Below.tr ?_ (by assumption))))⟩
set_option maxRecDepth 20000 in
set_option maxHeartbeats 2000000 in
theorem specTableValid_nil {A : Option Addr} {c : Nat} (sz st : Int) (w : World) : Calls Try.prog 41 #[.agg #[.int .i64 sz, .int .i64 st, .slice A 0 c]] w fun e w' => e = .returned (.bool (tabB sz st)) ∧ Below w.heap.size w w' := by
  go_enter Try.func41, Try.ntmps41
  go_wp2
  go_loop [3] (fun i => i = .int .i64 0) (fun _ => 0)
  case atStart => rfl
  case round =>
    obtain rfl := hrel
    cases h1 : inB sz 1 12 with
    | false =>
      go_wp2_with (go_at_call 29; refine (l1In_any _ _ _ _).mono ?_; rintro e w' ⟨rfl, rfl⟩)
      go_ret
      exact ⟨by simp [tabB, h1], by (repeat (first | exact Below.refl _ _ | assumption | refine Below.al ?_ _ | refine Below.dr ?_ | (refine Below.st ?_ (by simp <;> omega) _) | (refine Below.tr ?_ (by assumption))))⟩
    | true =>
      have t1 := inB_true.1 h1
      have hd : decide (0 ≤ sz) = true := by simp; omega
      cases h2 : inB st 1 100000 with
      | false =>
        go_wp2_with (go_at_call 29; refine (l1In_any _ _ _ _).mono ?_; rintro e w' ⟨rfl, rfl⟩)
        go_ret
        exact ⟨by simp [tabB, h1, h2], by (repeat (first | exact Below.refl _ _ | assumption | refine Below.al ?_ _ | refine Below.dr ?_ | (refine Below.st ?_ (by simp <;> omega) _) | (refine Below.tr ?_ (by assumption))))⟩
      | true =>
        go_wp2_with (go_at_call 29; refine (l1In_any _ _ _ _).mono ?_; rintro e w' ⟨rfl, rfl⟩)
        go_ret
        exact ⟨by simp [tabB, h1, h2], by (repeat (first | exact Below.refl _ _ | assumption | refine Below.al ?_ _ | refine Below.dr ?_ | (refine Below.st ?_ (by simp <;> omega) _) | (refine Below.tr ?_ (by assumption))))⟩
theorem fitsTime_nil {A : Option Addr} {c : Nat} (sz st : Int) (w : World) : Calls Try.prog 38 #[.agg #[.int .i64 sz, .int .i64 st, .slice A 0 c], .int .i64 0] w fun e w' => e = .returned (.bool true) ∧ Below w.heap.size w w' := by
  have h0 : inB 0 0 100000 = true := by decide
  go_enter Try.func38, Try.ntmps38
  go_wp2_with (go_at_call 31; refine (isTime_any _ _).mono ?_; rintro e w' ⟨rfl, rfl⟩)
  go_ret
  exact ⟨rfl, by (repeat (first | exact Below.refl _ _ | assumption | refine Below.al ?_ _ | refine Below.dr ?_ | (refine Below.st ?_ (by simp <;> omega) _) | (refine Below.tr ?_ (by assumption))))⟩
theorem l9Last_nil {A : Option Addr} {c : Nat} (sz st : Int) (w : World) : Calls Try.prog 42 #[.agg #[.int .i64 sz, .int .i64 st, .slice A 0 c]] w fun e w' => e = .returned (.int .i64 0) ∧ Below w.heap.size w w' := by
  go_enter Try.func42, Try.ntmps42
  go_wp2
  go_ret
  exact ⟨rfl, by (repeat (first | exact Below.refl _ _ | assumption | refine Below.al ?_ _ | refine Below.dr ?_ | (refine Below.st ?_ (by simp <;> omega) _) | (refine Below.tr ?_ (by assumption))))⟩
end Go.Proofs.Ytbnfllpimnnmfaa
