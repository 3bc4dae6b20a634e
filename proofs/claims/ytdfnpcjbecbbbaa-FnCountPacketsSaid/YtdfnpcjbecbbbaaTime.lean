/-
  The test 'is this a time'.
-/
import Derived.Test.YtdfnpcjbecbbbaaBase
namespace Go.Proofs.Ytdfnpcjbecbbbaa
open Go.RowKit

set_option maxHeartbeats 400000 in
theorem isTime_any (n : Int) (w : World) :
    Calls Try.prog 42 #[.int .i64 n] w fun e w' => e = .returned (.bool (inB n 0 100000)) ∧ w = w' := by
  go_enter Try.func42, Try.ntmps42
  go_wp2_with (go_at_call 48; refine (in_any _ _ _ _).mono ?_; rintro e w' ⟨rfl, rfl⟩)
  go_ret
  exact ⟨rfl, rfl⟩

end Go.Proofs.Ytdfnpcjbecbbbaa
