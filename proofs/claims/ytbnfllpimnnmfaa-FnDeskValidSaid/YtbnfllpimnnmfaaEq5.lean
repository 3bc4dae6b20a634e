/-
  Two flows compared as wholes.
-/
import Derived.Test.YtbnfllpimnnmfaaBase
import Derived.Test.YtbnfllpimnnmfaaMem
namespace Go.Proofs.Ytbnfllpimnnmfaa
open Go.RowKit

set_option maxHeartbeats 4000000 in
theorem eql_flow (x0 x1 x2 x3 x4 y0 y1 y2 y3 y4 : Int) (w : World) :
    (binOp .eql 59 (.agg #[.int .i64 x0, .int .i64 x1, .int .i64 x2, .int .i64 x3, .int .i64 x4]) (.agg #[.int .i64 y0, .int .i64 y1, .int .i64 y2, .int .i64 y3, .int .i64 y4])).run Try.prog w
      = .ok (.bool (decide (x0 = y0) && decide (x1 = y1) && decide (x2 = y2) && decide (x3 = y3) && decide (x4 = y4))) w := by
  simp only [binOp]
  have hu := fun w' => run_underlying (w := w') Try.underlying59
  have hi := fun w' => run_underlying (w := w') Try.underlying3
  by_cases h0 : x0 = y0
  · by_cases h1 : x1 = y1
    · by_cases h2 : x2 = y2
      · by_cases h3 : x3 = y3
        · by_cases h4 : x4 = y4 <;> simp [Op.equal, Op.maxDepth, go_sem, h0, h1, h2, h3, h4]
        · simp [Op.equal, Op.maxDepth, go_sem, h0, h1, h2, h3]
      · simp [Op.equal, Op.maxDepth, go_sem, h0, h1, h2]
    · simp [Op.equal, Op.maxDepth, go_sem, h0, h1]
  · simp [Op.equal, Op.maxDepth, go_sem, h0]
theorem binOp_neq {P : Program} {t : TypeId} {xs ys : Array Value} {v : Bool} {w : World} (h : (binOp .eql t (.agg xs) (.agg ys)).run P w = .ok (.bool v) w) : (binOp .neq t (.agg xs) (.agg ys)).run P w = .ok (.bool (!v)) w := by
  simp only [binOp] at h ⊢
  simp only [Sem.run_bind, Result.andThen] at h ⊢
  cases hr : (Op.equal t (.agg xs) (.agg ys)).run P w with
  | ok b w' =>
    rw [hr] at h
    simp at h ⊢
    exact ⟨by rw [h.1], h.2⟩
  | _ => rw [hr] at h; simp at h
end Go.Proofs.Ytbnfllpimnnmfaa
