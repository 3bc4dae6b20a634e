/-
  What the program's FlowValid computes; that the program is alive.
-/
import Derived.Test.YtbnfllpimnnmfaaBase
namespace Go.Proofs.Ytbnfllpimnnmfaa
open Go.RowKit

/-- Is the flow from a, port b, to c, port d, of kind e valid? -/
def flowB (a b c d e : Int) : Bool := inB a 0 255 && inB c 0 255 && inB b 0 999 && inB d 0 999 && inB e 1 2

set_option maxHeartbeats 1000000 in
theorem implFlowValid_any (a b c d k : Int) (w : World) :
    Calls Try.prog 32 #[.agg #[.int .i64 a, .int .i64 b, .int .i64 c, .int .i64 d, .int .i64 k]] w fun e w' => e = .returned (.bool (flowB a b c d k)) ∧ w.alloc (.cells #[.int .i64 a, .int .i64 b, .int .i64 c, .int .i64 d, .int .i64 k] 59) = w' := by
  cases h1 : inB a 0 255 <;> cases h2 : inB c 0 255 <;> cases h3 : inB b 0 999 <;> cases h4 : inB d 0 999
  all_goals go_enter Try.func32, Try.ntmps32
  all_goals go_wp2_with (go_at_call 43; refine (in_any _ _ _ _).mono ?_; rintro e w' ⟨rfl, rfl⟩)
  all_goals go_ret
  all_goals exact ⟨by simp [flowB, *], rfl⟩

set_option maxHeartbeats 1000000 in
theorem alive_any (w : World) : Calls Try.prog 18 #[] w fun e w' => e = .returned (.bool true) ∧ Below w.heap.size w w' := by
  go_enter Try.func18, Try.ntmps18
  go_wp2_with (go_at_call 32; refine (implFlowValid_any _ _ _ _ _ _).mono ?_; rintro e w' ⟨rfl, rfl⟩)
  go_ret
  exact ⟨rfl, by (repeat (first | exact Below.refl _ _ | assumption | refine Below.al ?_ _ | refine Below.dr ?_ | (refine Below.st ?_ (by simp <;> omega) _) | (refine Below.tr ?_ (by assumption))))⟩
end Go.Proofs.Ytbnfllpimnnmfaa
