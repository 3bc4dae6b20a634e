/-
  The test 'is this a time'.
-/
import Derived.Test.YtbnfllpimnnmfaaBase
namespace Go.Proofs.Ytbnfllpimnnmfaa
open Go.RowKit

set_option maxHeartbeats 400000 in
theorem isTime_any (n : Int) (w : World) :
    Calls Try.prog 31 #[.int .i64 n] w fun e w' => e = .returned (.bool (inB n 0 100000)) ∧ w = w' := by
  go_enter Try.func31, Try.ntmps31
  go_wp2_with (go_at_call 43; refine (in_any _ _ _ _).mono ?_; rintro e w' ⟨rfl, rfl⟩)
  go_ret
  exact ⟨rfl, rfl⟩

end Go.Proofs.Ytbnfllpimnnmfaa
