/-
  No cell of these rows narrows 'for every input' (looked for: loops, veiled, ifaces, maps, wideKeys, modest, calm, conditions, laid).
  DERIVED. THE GIVEN ROWS OF THIS SEAT. 5 by the template 'for every input the law returns true; each argument reads behind the call as it read before'; 0 by the template 'total and deterministic' (their statements: YtbnfllpimnnmfaaTotals.lean).
  GIVEN WITH THE SEED: the statements are not yours to turn. If you find one false, say at which input.
  Laid BY PROGRAM, IN A SANDBOX (cutbox-rows.mjs): the forced cells as the released guide's own fill.sh prints them over the translation 908b0eab363b91fe… (all of the seat's roots in one cut). By AI agents, Wed Nov 11 2026. No macro, syntax, notation, axiom, sorry.
-/
import Derived.Test.YtbnfllpimnnmfaaChecked
import GoSem.Claim
import GoSem.ClaimJoined
import GoSem.ClaimMapViews
import Derived.JoinedTies
import Derived.KernelRfl
namespace Go.Proofs.Ytbnfllpimnnmfaa
/- THE CELL 'sum', in the pinned program and in every row, IS THE sha256 OF THE DUMP (.gsa) THAT YtbnfllpimnnmfaaProg.lean LOADS. Nothing in Lean hashes anything: it is a label: what it is worth is what the hold of that sum in a sandbox is worth. -/
noncomputable def Try.pinned : Pinned := { name := "ytbnfllpimnnmfaa", sum := "908b0eab363b91fe540a59021a4b76b72bb96b3c0977f21f8b79b84ea22807ca", checked := Try.checked }
namespace Rows
def none {H : Type} : Left H := { results := [], args := [] }

/-- 'laws.FnExactEventsValid': WHATEVER THE INPUT: true; the input reads as it did. -/
def fnExactEventsValidSpec : ChangeSpec := { name := "fnExactEventsValid", fn := fun _ => fun
  | [d] => { results := [.lit (.bool true)], args := [d] }
  | _ => none }
def fnExactEventsValidRow : OpenClaim := { program := "ytbnfllpimnnmfaa", sum := "908b0eab363b91fe540a59021a4b76b72bb96b3c0977f21f8b79b84ea22807ca", func := "loop.example/loadbalancer/laws.FnExactEventsValid", spec := "fnExactEventsValid", plainKeys := false, apart := false }
def FnExactEventsValidSaid : Prop := fnExactEventsValidRow.holds Try.pinned (OpenSpec.ofChange fnExactEventsValidSpec)

/-- ITS FALSE NEIGHBOUR: 'it returns false'. Refute it at one input. -/
def fnExactEventsValidWrong : ChangeSpec := { name := "fnExactEventsValid", fn := fun _ => fun
  | [d] => { results := [.lit (.bool false)], args := [d] }
  | _ => none }
def FnExactEventsValidWrongFalsely : Prop := fnExactEventsValidRow.holds Try.pinned (OpenSpec.ofChange fnExactEventsValidWrong)

/-- 'laws.FnNewDesk': WHATEVER THE INPUT: true; the input reads as it did. -/
def fnNewDeskSpec : ChangeSpec := { name := "fnNewDesk", fn := fun _ => fun
  | [d] => { results := [.lit (.bool true)], args := [d] }
  | _ => none }
def fnNewDeskRow : OpenClaim := { program := "ytbnfllpimnnmfaa", sum := "908b0eab363b91fe540a59021a4b76b72bb96b3c0977f21f8b79b84ea22807ca", func := "loop.example/loadbalancer/laws.FnNewDesk", spec := "fnNewDesk", plainKeys := false, apart := false }
def FnNewDeskSaid : Prop := fnNewDeskRow.holds Try.pinned (OpenSpec.ofChange fnNewDeskSpec)

/-- ITS FALSE NEIGHBOUR: 'it returns false'. Refute it at one input. -/
def fnNewDeskWrong : ChangeSpec := { name := "fnNewDesk", fn := fun _ => fun
  | [d] => { results := [.lit (.bool false)], args := [d] }
  | _ => none }
def FnNewDeskWrongFalsely : Prop := fnNewDeskRow.holds Try.pinned (OpenSpec.ofChange fnNewDeskWrong)

/-- 'laws.FnDeskValid': WHATEVER THE INPUT: true; the input reads as it did. -/
def fnDeskValidSpec : ChangeSpec := { name := "fnDeskValid", fn := fun _ => fun
  | [d] => { results := [.lit (.bool true)], args := [d] }
  | _ => none }
def fnDeskValidRow : OpenClaim := { program := "ytbnfllpimnnmfaa", sum := "908b0eab363b91fe540a59021a4b76b72bb96b3c0977f21f8b79b84ea22807ca", func := "loop.example/loadbalancer/laws.FnDeskValid", spec := "fnDeskValid", plainKeys := false, apart := false }
def FnDeskValidSaid : Prop := fnDeskValidRow.holds Try.pinned (OpenSpec.ofChange fnDeskValidSpec)

/-- ITS FALSE NEIGHBOUR: 'it returns false'. Refute it at one input. -/
def fnDeskValidWrong : ChangeSpec := { name := "fnDeskValid", fn := fun _ => fun
  | [d] => { results := [.lit (.bool false)], args := [d] }
  | _ => none }
def FnDeskValidWrongFalsely : Prop := fnDeskValidRow.holds Try.pinned (OpenSpec.ofChange fnDeskValidWrong)

/-- 'laws.FnExactDeskValid': WHATEVER THE INPUT: true; the input reads as it did. -/
def fnExactDeskValidSpec : ChangeSpec := { name := "fnExactDeskValid", fn := fun _ => fun
  | [d] => { results := [.lit (.bool true)], args := [d] }
  | _ => none }
def fnExactDeskValidRow : OpenClaim := { program := "ytbnfllpimnnmfaa", sum := "908b0eab363b91fe540a59021a4b76b72bb96b3c0977f21f8b79b84ea22807ca", func := "loop.example/loadbalancer/laws.FnExactDeskValid", spec := "fnExactDeskValid", plainKeys := false, apart := false }
def FnExactDeskValidSaid : Prop := fnExactDeskValidRow.holds Try.pinned (OpenSpec.ofChange fnExactDeskValidSpec)

/-- ITS FALSE NEIGHBOUR: 'it returns false'. Refute it at one input. -/
def fnExactDeskValidWrong : ChangeSpec := { name := "fnExactDeskValid", fn := fun _ => fun
  | [d] => { results := [.lit (.bool false)], args := [d] }
  | _ => none }
def FnExactDeskValidWrongFalsely : Prop := fnExactDeskValidRow.holds Try.pinned (OpenSpec.ofChange fnExactDeskValidWrong)

/-- 'laws.FnExactNewDesk': WHATEVER THE INPUT: true; the input reads as it did. -/
def fnExactNewDeskSpec : ChangeSpec := { name := "fnExactNewDesk", fn := fun _ => fun
  | [d1, d2] => { results := [.lit (.bool true)], args := [d1, d2] }
  | _ => none }
def fnExactNewDeskRow : OpenClaim := { program := "ytbnfllpimnnmfaa", sum := "908b0eab363b91fe540a59021a4b76b72bb96b3c0977f21f8b79b84ea22807ca", func := "loop.example/loadbalancer/laws.FnExactNewDesk", spec := "fnExactNewDesk", plainKeys := false, apart := false }
def FnExactNewDeskSaid : Prop := fnExactNewDeskRow.holds Try.pinned (OpenSpec.ofChange fnExactNewDeskSpec)

/-- ITS FALSE NEIGHBOUR: 'it returns false'. Refute it at one input. -/
def fnExactNewDeskWrong : ChangeSpec := { name := "fnExactNewDesk", fn := fun _ => fun
  | [d1, d2] => { results := [.lit (.bool false)], args := [d1, d2] }
  | _ => none }
def FnExactNewDeskWrongFalsely : Prop := fnExactNewDeskRow.holds Try.pinned (OpenSpec.ofChange fnExactNewDeskWrong)

/- THE SECOND FORM. 'bulk': how many values and letters a reading holds, each counted each time it is reached (what is shared counts as often as it is met; a slice's spare places count too). A statement '..UptoSaid' is the law's where the arguments, and the package variables that the reading takes, are together of bulk at most 1048576: NARROWER than '..Said'. Prove '..Said' where nothing that the law and all that it calls make is longer than what came in: it says more and counts as full. Else prove '..UptoSaid'. A law counts once. -/
mutual
def uptoBulk {H : Type} : DataW H → Nat
  | .lit (.string bytes) => bytes.length + 1
  | .lit _ => 1
  | .nil => 1
  | .ptr d => uptoBulk d + 1
  | .slice elems spare => uptoBulkAll elems + uptoBulkAll spare + 1
  | .agg parts => uptoBulkAll parts + 1
  | .iface _ d => uptoBulk d + 1
  | .map entries => uptoBulkEntries entries + 1
  | .held _ => 1
def uptoBulkAll {H : Type} : List (DataW H) → Nat
  | [] => 0
  | d :: r => uptoBulk d + uptoBulkAll r
def uptoBulkEntries {H : Type} : List (Lit × DataW H) → Nat
  | [] => 0
  | x :: r => uptoBulkEntry x + uptoBulkEntries r
def uptoBulkEntry {H : Type} : Lit × DataW H → Nat
  | (.string bytes, d) => bytes.length + uptoBulk d + 1
  | (_, d) => uptoBulk d + 1
 end
def uptoSmall : (H : Type) → List (DataW H) → Bool := fun _ ds => decide (uptoBulkAll ds ≤ 1048576)
def OpenSpec.upto (s : _root_.Go.ChangeSpec) : _root_.Go.OpenSpec := { _root_.Go.OpenSpec.ofChange s with cond := some uptoSmall }

/-- 'laws.FnExactEventsValid', WHERE WHAT IT READS IS OF BULK AT MOST 1048576: true; the input reads as it did. -/
def fnExactEventsValidUptoRow : OpenClaim := { program := "ytbnfllpimnnmfaa", sum := "908b0eab363b91fe540a59021a4b76b72bb96b3c0977f21f8b79b84ea22807ca", func := "loop.example/loadbalancer/laws.FnExactEventsValid", spec := "fnExactEventsValid", plainKeys := false, apart := false, narrowed := true }
def FnExactEventsValidUptoSaid : Prop := fnExactEventsValidUptoRow.holds Try.pinned (OpenSpec.upto fnExactEventsValidSpec)

/-- 'laws.FnNewDesk', WHERE WHAT IT READS IS OF BULK AT MOST 1048576: true; the input reads as it did. -/
def fnNewDeskUptoRow : OpenClaim := { program := "ytbnfllpimnnmfaa", sum := "908b0eab363b91fe540a59021a4b76b72bb96b3c0977f21f8b79b84ea22807ca", func := "loop.example/loadbalancer/laws.FnNewDesk", spec := "fnNewDesk", plainKeys := false, apart := false, narrowed := true }
def FnNewDeskUptoSaid : Prop := fnNewDeskUptoRow.holds Try.pinned (OpenSpec.upto fnNewDeskSpec)

/-- 'laws.FnDeskValid', WHERE WHAT IT READS IS OF BULK AT MOST 1048576: true; the input reads as it did. -/
def fnDeskValidUptoRow : OpenClaim := { program := "ytbnfllpimnnmfaa", sum := "908b0eab363b91fe540a59021a4b76b72bb96b3c0977f21f8b79b84ea22807ca", func := "loop.example/loadbalancer/laws.FnDeskValid", spec := "fnDeskValid", plainKeys := false, apart := false, narrowed := true }
def FnDeskValidUptoSaid : Prop := fnDeskValidUptoRow.holds Try.pinned (OpenSpec.upto fnDeskValidSpec)

/-- 'laws.FnExactDeskValid', WHERE WHAT IT READS IS OF BULK AT MOST 1048576: true; the input reads as it did. -/
def fnExactDeskValidUptoRow : OpenClaim := { program := "ytbnfllpimnnmfaa", sum := "908b0eab363b91fe540a59021a4b76b72bb96b3c0977f21f8b79b84ea22807ca", func := "loop.example/loadbalancer/laws.FnExactDeskValid", spec := "fnExactDeskValid", plainKeys := false, apart := false, narrowed := true }
def FnExactDeskValidUptoSaid : Prop := fnExactDeskValidUptoRow.holds Try.pinned (OpenSpec.upto fnExactDeskValidSpec)

/-- 'laws.FnExactNewDesk', WHERE WHAT IT READS IS OF BULK AT MOST 1048576: true; the input reads as it did. -/
def fnExactNewDeskUptoRow : OpenClaim := { program := "ytbnfllpimnnmfaa", sum := "908b0eab363b91fe540a59021a4b76b72bb96b3c0977f21f8b79b84ea22807ca", func := "loop.example/loadbalancer/laws.FnExactNewDesk", spec := "fnExactNewDesk", plainKeys := false, apart := false, narrowed := true }
def FnExactNewDeskUptoSaid : Prop := fnExactNewDeskUptoRow.holds Try.pinned (OpenSpec.upto fnExactNewDeskSpec)

end Rows
end Go.Proofs.Ytbnfllpimnnmfaa
