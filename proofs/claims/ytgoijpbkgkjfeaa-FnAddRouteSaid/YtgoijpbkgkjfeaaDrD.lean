/-
  What DrawDropRoute draws: routes and a prefix.
-/
import Derived.Test.YtgoijpbkgkjfeaaRtD
import Derived.Test.YtgoijpbkgkjfeaaPfxD
import Derived.Test.YtgoijpbkgkjfeaaRtT
namespace Go.Proofs.Ytgoijpbkgkjfeaa
open Go Go.RowKit

theorem Own.far4 {w w' : World} {B g : Nat} {t : TypeId} {m : Nat} {A : Option Addr} {n c : Nat} {R : Nat → List Value} (h : Own w B t m A n c R) (hg : w.grownBy w' (some g)) (hl : g < B) : Own w' B t m A n c R :=
  h.keep fun k hk hlt _ => hg.block k hlt (by simp; omega)
theorem below_al1 (w : World) (o : Obj) : Below w.heap.size w (w.alloc o) := (Below.refl _ _).alloc (Nat.le_refl _) o
/-- Routes and a prefix. -/
def RtsPfx (w : World) (e : Ending) (w' : World) : Prop :=
  ∃ A n c, ∃ b k hh : Nat → Int, ∃ x y : Int, e = .returned (.tuple #[.slice A n c, .agg #[.int .i64 x, .int .i64 y]]) ∧ n ≤ 7 ∧ Own w' w.heap.size 27 3 A n c (routeR b k hh) ∧ Below w.heap.size w w'
end Go.Proofs.Ytgoijpbkgkjfeaa
