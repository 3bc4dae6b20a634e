/-
  A row of one's own, made in a region.
-/
import Derived.Test.YtgoijpbkgkjfeaaFree
import Derived.Test.YtgoijpbkgkjfeaaOwn
namespace Go.Proofs.Ytgoijpbkgkjfeaa
open Go Go.RowKit
/-- A slice of one row, new. -/
def kbRow (B : Nat) (t : TypeId) (cs : Array Value) : KB :=
  ⟨fun v w => ∃ g, v = .slice (some ⟨g, 0, none⟩) 1 1 ∧ B ≤ g ∧ w.heap[g]? = some (.cells cs t (0, 0)), fun _ _ _ ⟨g, h1, h2, h3⟩ hb => ⟨g, h1, h2, (hb.block g (heap_lt h3)).trans h3⟩⟩
end Go.Proofs.Ytgoijpbkgkjfeaa
