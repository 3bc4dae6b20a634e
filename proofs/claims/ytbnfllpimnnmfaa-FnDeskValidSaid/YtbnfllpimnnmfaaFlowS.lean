/-
  What FlowValid computes, in the program and in the reference; old memory stays.
-/
import Derived.Test.YtbnfllpimnnmfaaFlow
namespace Go.Proofs.Ytbnfllpimnnmfaa
open Go.RowKit

set_option maxHeartbeats 1000000 in
theorem specFlowValid_any (a b c d k : Int) (w : World) :
    Calls Try.prog 28 #[.agg #[.int .i64 a, .int .i64 b, .int .i64 c, .int .i64 d, .int .i64 k]] w fun e w' => e = .returned (.bool (flowB a b c d k)) ∧ w.alloc (.cells #[.int .i64 a, .int .i64 b, .int .i64 c, .int .i64 d, .int .i64 k] 59) = w' := by
  cases h1 : inB a 0 255 <;> cases h2 : inB c 0 255 <;> cases h3 : inB b 0 999 <;> cases h4 : inB d 0 999
  all_goals go_enter Try.func28, Try.ntmps28
  all_goals go_wp2_with (go_at_call 29; refine (l1In_any _ _ _ _).mono ?_; rintro e w' ⟨rfl, rfl⟩)
  all_goals go_ret
  all_goals exact ⟨by simp [flowB, *], rfl⟩
theorem specFlowValid_b (a b c d k : Int) (w : World) :
    Calls Try.prog 28 #[.agg #[.int .i64 a, .int .i64 b, .int .i64 c, .int .i64 d, .int .i64 k]] w fun e w' => e = .returned (.bool (flowB a b c d k)) ∧ Below w.heap.size w w' :=
  (specFlowValid_any a b c d k w).mono fun _ _ ⟨h1, h2⟩ => ⟨h1, by subst h2; exact Below.al (Below.refl _ _) _⟩
theorem implFlowValid_b (a b c d k : Int) (w : World) :
    Calls Try.prog 32 #[.agg #[.int .i64 a, .int .i64 b, .int .i64 c, .int .i64 d, .int .i64 k]] w fun e w' => e = .returned (.bool (flowB a b c d k)) ∧ Below w.heap.size w w' :=
  (implFlowValid_any a b c d k w).mono fun _ _ ⟨h1, h2⟩ => ⟨h1, by subst h2; exact Below.al (Below.refl _ _) _⟩
end Go.Proofs.Ytbnfllpimnnmfaa
