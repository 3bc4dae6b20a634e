/-
  No cell of these rows narrows 'for every input' (looked for: loops, veiled, ifaces, maps, wideKeys, modest, calm, conditions, laid).
  DERIVED. THE GIVEN ROWS OF THIS SEAT. 3 by the template 'for every input the law returns true; each argument reads behind the call as it read before'; 0 by the template 'total and deterministic' (their statements: YtgoijpbkgkjfeaaTotals.lean).
  GIVEN WITH THE SEED: the statements are not yours to turn. If you find one false, say at which input.
  Laid BY PROGRAM, IN A SANDBOX (cutbox-rows.mjs): the forced cells as the released guide's own fill.sh prints them over the translation c9ed7970bb423a18… (all of the seat's roots in one cut). By AI agents, Wed Nov 11 2026. No macro, syntax, notation, axiom, sorry.
-/
import Derived.Test.YtgoijpbkgkjfeaaChecked
import GoSem.Claim
import GoSem.ClaimJoined
import GoSem.ClaimMapViews
import Derived.JoinedTies
import Derived.KernelRfl
namespace Go.Proofs.Ytgoijpbkgkjfeaa
/- THE CELL 'sum', in the pinned program and in every row, IS THE sha256 OF THE DUMP (.gsa) THAT YtgoijpbkgkjfeaaProg.lean LOADS. Nothing in Lean hashes anything: it is a label: what it is worth is what the hold of that sum in a sandbox is worth. -/
noncomputable def Try.pinned : Pinned := { name := "ytgoijpbkgkjfeaa", sum := "c9ed7970bb423a18a6ab8219620565e5888169eb0c9db20ede94037e537d9b56", checked := Try.checked }
namespace Rows
def none {H : Type} : Left H := { results := [], args := [] }

/-- 'laws.FnRouteOrder': WHATEVER THE INPUT: true; the input reads as it did. -/
def fnRouteOrderSpec : ChangeSpec := { name := "fnRouteOrder", fn := fun _ => fun
  | [d] => { results := [.lit (.bool true)], args := [d] }
  | _ => none }
def fnRouteOrderRow : OpenClaim := { program := "ytgoijpbkgkjfeaa", sum := "c9ed7970bb423a18a6ab8219620565e5888169eb0c9db20ede94037e537d9b56", func := "loop.example/loadbalancer/laws.FnRouteOrder", spec := "fnRouteOrder", inPlace := ["slices.overlaps[loop.example/loadbalancer/impl.Route]"], unfollowed := true, recurses := true, apart := false }
def FnRouteOrderSaid : Prop := fnRouteOrderRow.holds Try.pinned (OpenSpec.ofChange fnRouteOrderSpec)

/-- ITS FALSE NEIGHBOUR: 'it returns false'. Refute it at one input. -/
def fnRouteOrderWrong : ChangeSpec := { name := "fnRouteOrder", fn := fun _ => fun
  | [d] => { results := [.lit (.bool false)], args := [d] }
  | _ => none }
def FnRouteOrderWrongFalsely : Prop := fnRouteOrderRow.holds Try.pinned (OpenSpec.ofChange fnRouteOrderWrong)

/-- 'laws.FnExactAddRoute': WHATEVER THE INPUT: true; the input reads as it did. -/
def fnExactAddRouteSpec : ChangeSpec := { name := "fnExactAddRoute", fn := fun _ => fun
  | [d1, d2] => { results := [.lit (.bool true)], args := [d1, d2] }
  | _ => none }
def fnExactAddRouteRow : OpenClaim := { program := "ytgoijpbkgkjfeaa", sum := "c9ed7970bb423a18a6ab8219620565e5888169eb0c9db20ede94037e537d9b56", func := "loop.example/loadbalancer/laws.FnExactAddRoute", spec := "fnExactAddRoute", inPlace := ["slices.overlaps[loop.example/loadbalancer/impl.Route]"], unfollowed := true, recurses := true, apart := false }
def FnExactAddRouteSaid : Prop := fnExactAddRouteRow.holds Try.pinned (OpenSpec.ofChange fnExactAddRouteSpec)

/-- ITS FALSE NEIGHBOUR: 'it returns false'. Refute it at one input. -/
def fnExactAddRouteWrong : ChangeSpec := { name := "fnExactAddRoute", fn := fun _ => fun
  | [d1, d2] => { results := [.lit (.bool false)], args := [d1, d2] }
  | _ => none }
def FnExactAddRouteWrongFalsely : Prop := fnExactAddRouteRow.holds Try.pinned (OpenSpec.ofChange fnExactAddRouteWrong)

/-- 'laws.FnAddRoute': WHATEVER THE INPUT: true; the input reads as it did. -/
def fnAddRouteSpec : ChangeSpec := { name := "fnAddRoute", fn := fun _ => fun
  | [d] => { results := [.lit (.bool true)], args := [d] }
  | _ => none }
def fnAddRouteRow : OpenClaim := { program := "ytgoijpbkgkjfeaa", sum := "c9ed7970bb423a18a6ab8219620565e5888169eb0c9db20ede94037e537d9b56", func := "loop.example/loadbalancer/laws.FnAddRoute", spec := "fnAddRoute", inPlace := ["slices.overlaps[loop.example/loadbalancer/impl.Route]"], unfollowed := true, recurses := true, apart := false }
def FnAddRouteSaid : Prop := fnAddRouteRow.holds Try.pinned (OpenSpec.ofChange fnAddRouteSpec)

/-- ITS FALSE NEIGHBOUR: 'it returns false'. Refute it at one input. -/
def fnAddRouteWrong : ChangeSpec := { name := "fnAddRoute", fn := fun _ => fun
  | [d] => { results := [.lit (.bool false)], args := [d] }
  | _ => none }
def FnAddRouteWrongFalsely : Prop := fnAddRouteRow.holds Try.pinned (OpenSpec.ofChange fnAddRouteWrong)

/- THE SECOND FORM. 'bulk': how many values and letters a reading holds, each counted each time it is reached (what is shared counts as often as it is met; a slice's spare places count too). A statement '..UptoSaid' is the law's where the arguments, and the package variables that the reading takes, are together of bulk at most 1048576: NARROWER than '..Said'. Prove '..Said' where nothing that the law and all that it calls make is longer than what came in: it says more and counts as full. Else prove '..UptoSaid'. A law counts once. -/
mutual
def uptoBulk {H : Type} : DataW H → Nat
  | .lit (.string bytes) => bytes.length + 1
  | .lit _ => 1
  | .nil => 1
  | .ptr d => uptoBulk d + 1
  | .slice elems spare => uptoBulkAll elems + uptoBulkAll spare + 1
  | .agg parts => uptoBulkAll parts + 1
  | .iface _ d => uptoBulk d + 1
  | .map entries => uptoBulkEntries entries + 1
  | .held _ => 1
def uptoBulkAll {H : Type} : List (DataW H) → Nat
  | [] => 0
  | d :: r => uptoBulk d + uptoBulkAll r
def uptoBulkEntries {H : Type} : List (Lit × DataW H) → Nat
  | [] => 0
  | x :: r => uptoBulkEntry x + uptoBulkEntries r
def uptoBulkEntry {H : Type} : Lit × DataW H → Nat
  | (.string bytes, d) => bytes.length + uptoBulk d + 1
  | (_, d) => uptoBulk d + 1
 end
def uptoSmall : (H : Type) → List (DataW H) → Bool := fun _ ds => decide (uptoBulkAll ds ≤ 1048576)
def OpenSpec.upto (s : _root_.Go.ChangeSpec) : _root_.Go.OpenSpec := { _root_.Go.OpenSpec.ofChange s with cond := some uptoSmall }

/-- 'laws.FnRouteOrder', WHERE WHAT IT READS IS OF BULK AT MOST 1048576: true; the input reads as it did. -/
def fnRouteOrderUptoRow : OpenClaim := { program := "ytgoijpbkgkjfeaa", sum := "c9ed7970bb423a18a6ab8219620565e5888169eb0c9db20ede94037e537d9b56", func := "loop.example/loadbalancer/laws.FnRouteOrder", spec := "fnRouteOrder", inPlace := ["slices.overlaps[loop.example/loadbalancer/impl.Route]"], unfollowed := true, recurses := true, apart := false, narrowed := true }
def FnRouteOrderUptoSaid : Prop := fnRouteOrderUptoRow.holds Try.pinned (OpenSpec.upto fnRouteOrderSpec)

/-- 'laws.FnExactAddRoute', WHERE WHAT IT READS IS OF BULK AT MOST 1048576: true; the input reads as it did. -/
def fnExactAddRouteUptoRow : OpenClaim := { program := "ytgoijpbkgkjfeaa", sum := "c9ed7970bb423a18a6ab8219620565e5888169eb0c9db20ede94037e537d9b56", func := "loop.example/loadbalancer/laws.FnExactAddRoute", spec := "fnExactAddRoute", inPlace := ["slices.overlaps[loop.example/loadbalancer/impl.Route]"], unfollowed := true, recurses := true, apart := false, narrowed := true }
def FnExactAddRouteUptoSaid : Prop := fnExactAddRouteUptoRow.holds Try.pinned (OpenSpec.upto fnExactAddRouteSpec)

/-- 'laws.FnAddRoute', WHERE WHAT IT READS IS OF BULK AT MOST 1048576: true; the input reads as it did. -/
def fnAddRouteUptoRow : OpenClaim := { program := "ytgoijpbkgkjfeaa", sum := "c9ed7970bb423a18a6ab8219620565e5888169eb0c9db20ede94037e537d9b56", func := "loop.example/loadbalancer/laws.FnAddRoute", spec := "fnAddRoute", inPlace := ["slices.overlaps[loop.example/loadbalancer/impl.Route]"], unfollowed := true, recurses := true, apart := false, narrowed := true }
def FnAddRouteUptoSaid : Prop := fnAddRouteUptoRow.holds Try.pinned (OpenSpec.upto fnAddRouteSpec)

end Rows
end Go.Proofs.Ytgoijpbkgkjfeaa
