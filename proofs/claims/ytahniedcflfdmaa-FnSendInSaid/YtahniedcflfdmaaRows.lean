/-
  No cell of these rows narrows 'for every input' (looked for: loops, veiled, ifaces, maps, wideKeys, modest, calm, conditions, laid).
  DERIVED. THE GIVEN ROWS OF THIS SEAT. 5 by the template 'for every input the law returns true; each argument reads behind the call as it read before'; 0 by the template 'total and deterministic' (their statements: YtahniedcflfdmaaTotals.lean).
  GIVEN WITH THE SEED: the statements are not yours to turn. If you find one false, say at which input.
  Laid BY PROGRAM, IN A SANDBOX (cutbox-rows.mjs): the forced cells as the released guide's own fill.sh prints them over the translation 07dcea8fca250ce2… (all of the seat's roots in one cut). By AI agents, Wed Nov 11 2026. No macro, syntax, notation, axiom, sorry.
-/
import Derived.Test.YtahniedcflfdmaaChecked
import GoSem.Claim
import GoSem.ClaimJoined
import GoSem.ClaimMapViews
import Derived.JoinedTies
import Derived.KernelRfl
namespace Go.Proofs.Ytahniedcflfdmaa
/- THE CELL 'sum', in the pinned program and in every row, IS THE sha256 OF THE DUMP (.gsa) THAT YtahniedcflfdmaaProg.lean LOADS. Nothing in Lean hashes anything: it is a label: what it is worth is what the hold of that sum in a sandbox is worth. -/
noncomputable def Try.pinned : Pinned := { name := "ytahniedcflfdmaa", sum := "07dcea8fca250ce26ac670c9a2d0d997d29140b75a7ed022de5b011b688b31fe", checked := Try.checked }
namespace Rows
def none {H : Type} : Left H := { results := [], args := [] }

/-- 'laws.FnExactOutletValid': WHATEVER THE INPUT: true; the input reads as it did. -/
def fnExactOutletValidSpec : ChangeSpec := { name := "fnExactOutletValid", fn := fun _ => fun
  | [d] => { results := [.lit (.bool true)], args := [d] }
  | _ => none }
def fnExactOutletValidRow : OpenClaim := { program := "ytahniedcflfdmaa", sum := "07dcea8fca250ce26ac670c9a2d0d997d29140b75a7ed022de5b011b688b31fe", func := "loop.example/loadbalancer/laws.FnExactOutletValid", spec := "fnExactOutletValid", plainKeys := false, apart := false }
def FnExactOutletValidSaid : Prop := fnExactOutletValidRow.holds Try.pinned (OpenSpec.ofChange fnExactOutletValidSpec)

/-- ITS FALSE NEIGHBOUR: 'it returns false'. Refute it at one input. -/
def fnExactOutletValidWrong : ChangeSpec := { name := "fnExactOutletValid", fn := fun _ => fun
  | [d] => { results := [.lit (.bool false)], args := [d] }
  | _ => none }
def FnExactOutletValidWrongFalsely : Prop := fnExactOutletValidRow.holds Try.pinned (OpenSpec.ofChange fnExactOutletValidWrong)

/-- 'laws.FnOutletValid': WHATEVER THE INPUT: true; the input reads as it did. -/
def fnOutletValidSpec : ChangeSpec := { name := "fnOutletValid", fn := fun _ => fun
  | [d] => { results := [.lit (.bool true)], args := [d] }
  | _ => none }
def fnOutletValidRow : OpenClaim := { program := "ytahniedcflfdmaa", sum := "07dcea8fca250ce26ac670c9a2d0d997d29140b75a7ed022de5b011b688b31fe", func := "loop.example/loadbalancer/laws.FnOutletValid", spec := "fnOutletValid", plainKeys := false, apart := false }
def FnOutletValidSaid : Prop := fnOutletValidRow.holds Try.pinned (OpenSpec.ofChange fnOutletValidSpec)

/-- ITS FALSE NEIGHBOUR: 'it returns false'. Refute it at one input. -/
def fnOutletValidWrong : ChangeSpec := { name := "fnOutletValid", fn := fun _ => fun
  | [d] => { results := [.lit (.bool false)], args := [d] }
  | _ => none }
def FnOutletValidWrongFalsely : Prop := fnOutletValidRow.holds Try.pinned (OpenSpec.ofChange fnOutletValidWrong)

/-- 'laws.FnExactSendIn': WHATEVER THE INPUT: true; the input reads as it did. -/
def fnExactSendInSpec : ChangeSpec := { name := "fnExactSendIn", fn := fun _ => fun
  | [d1, d2] => { results := [.lit (.bool true)], args := [d1, d2] }
  | _ => none }
def fnExactSendInRow : OpenClaim := { program := "ytahniedcflfdmaa", sum := "07dcea8fca250ce26ac670c9a2d0d997d29140b75a7ed022de5b011b688b31fe", func := "loop.example/loadbalancer/laws.FnExactSendIn", spec := "fnExactSendIn", plainKeys := false, apart := false }
def FnExactSendInSaid : Prop := fnExactSendInRow.holds Try.pinned (OpenSpec.ofChange fnExactSendInSpec)

/-- ITS FALSE NEIGHBOUR: 'it returns false'. Refute it at one input. -/
def fnExactSendInWrong : ChangeSpec := { name := "fnExactSendIn", fn := fun _ => fun
  | [d1, d2] => { results := [.lit (.bool false)], args := [d1, d2] }
  | _ => none }
def FnExactSendInWrongFalsely : Prop := fnExactSendInRow.holds Try.pinned (OpenSpec.ofChange fnExactSendInWrong)

/-- 'laws.FnCloseOut': WHATEVER THE INPUT: true; the input reads as it did. -/
def fnCloseOutSpec : ChangeSpec := { name := "fnCloseOut", fn := fun _ => fun
  | [d] => { results := [.lit (.bool true)], args := [d] }
  | _ => none }
def fnCloseOutRow : OpenClaim := { program := "ytahniedcflfdmaa", sum := "07dcea8fca250ce26ac670c9a2d0d997d29140b75a7ed022de5b011b688b31fe", func := "loop.example/loadbalancer/laws.FnCloseOut", spec := "fnCloseOut", plainKeys := false, apart := false }
def FnCloseOutSaid : Prop := fnCloseOutRow.holds Try.pinned (OpenSpec.ofChange fnCloseOutSpec)

/-- ITS FALSE NEIGHBOUR: 'it returns false'. Refute it at one input. -/
def fnCloseOutWrong : ChangeSpec := { name := "fnCloseOut", fn := fun _ => fun
  | [d] => { results := [.lit (.bool false)], args := [d] }
  | _ => none }
def FnCloseOutWrongFalsely : Prop := fnCloseOutRow.holds Try.pinned (OpenSpec.ofChange fnCloseOutWrong)

/-- 'laws.FnSendIn': WHATEVER THE INPUT: true; the input reads as it did. -/
def fnSendInSpec : ChangeSpec := { name := "fnSendIn", fn := fun _ => fun
  | [d] => { results := [.lit (.bool true)], args := [d] }
  | _ => none }
def fnSendInRow : OpenClaim := { program := "ytahniedcflfdmaa", sum := "07dcea8fca250ce26ac670c9a2d0d997d29140b75a7ed022de5b011b688b31fe", func := "loop.example/loadbalancer/laws.FnSendIn", spec := "fnSendIn", plainKeys := false, apart := false }
def FnSendInSaid : Prop := fnSendInRow.holds Try.pinned (OpenSpec.ofChange fnSendInSpec)

/-- ITS FALSE NEIGHBOUR: 'it returns false'. Refute it at one input. -/
def fnSendInWrong : ChangeSpec := { name := "fnSendIn", fn := fun _ => fun
  | [d] => { results := [.lit (.bool false)], args := [d] }
  | _ => none }
def FnSendInWrongFalsely : Prop := fnSendInRow.holds Try.pinned (OpenSpec.ofChange fnSendInWrong)

/- THE SECOND FORM. 'bulk': how many values and letters a reading holds, each counted each time it is reached (what is shared counts as often as it is met; a slice's spare places count too). A statement '..UptoSaid' is the law's where the arguments, and the package variables that the reading takes, are together of bulk at most 1048576: NARROWER than '..Said'. Prove '..Said' where nothing that the law and all that it calls make is longer than what came in: it says more and counts as full. Else prove '..UptoSaid'. A law counts once. -/
mutual
def uptoBulk {H : Type} : DataW H → Nat
  | .lit (.string bytes) => bytes.length + 1
  | .lit _ => 1
  | .nil => 1
  | .ptr d => uptoBulk d + 1
  | .slice elems spare => uptoBulkAll elems + uptoBulkAll spare + 1
  | .agg parts => uptoBulkAll parts + 1
  | .iface _ d => uptoBulk d + 1
  | .map entries => uptoBulkEntries entries + 1
  | .held _ => 1
def uptoBulkAll {H : Type} : List (DataW H) → Nat
  | [] => 0
  | d :: r => uptoBulk d + uptoBulkAll r
def uptoBulkEntries {H : Type} : List (Lit × DataW H) → Nat
  | [] => 0
  | x :: r => uptoBulkEntry x + uptoBulkEntries r
def uptoBulkEntry {H : Type} : Lit × DataW H → Nat
  | (.string bytes, d) => bytes.length + uptoBulk d + 1
  | (_, d) => uptoBulk d + 1
 end
def uptoSmall : (H : Type) → List (DataW H) → Bool := fun _ ds => decide (uptoBulkAll ds ≤ 1048576)
def OpenSpec.upto (s : _root_.Go.ChangeSpec) : _root_.Go.OpenSpec := { _root_.Go.OpenSpec.ofChange s with cond := some uptoSmall }

/-- 'laws.FnExactOutletValid', WHERE WHAT IT READS IS OF BULK AT MOST 1048576: true; the input reads as it did. -/
def fnExactOutletValidUptoRow : OpenClaim := { program := "ytahniedcflfdmaa", sum := "07dcea8fca250ce26ac670c9a2d0d997d29140b75a7ed022de5b011b688b31fe", func := "loop.example/loadbalancer/laws.FnExactOutletValid", spec := "fnExactOutletValid", plainKeys := false, apart := false, narrowed := true }
def FnExactOutletValidUptoSaid : Prop := fnExactOutletValidUptoRow.holds Try.pinned (OpenSpec.upto fnExactOutletValidSpec)

/-- 'laws.FnOutletValid', WHERE WHAT IT READS IS OF BULK AT MOST 1048576: true; the input reads as it did. -/
def fnOutletValidUptoRow : OpenClaim := { program := "ytahniedcflfdmaa", sum := "07dcea8fca250ce26ac670c9a2d0d997d29140b75a7ed022de5b011b688b31fe", func := "loop.example/loadbalancer/laws.FnOutletValid", spec := "fnOutletValid", plainKeys := false, apart := false, narrowed := true }
def FnOutletValidUptoSaid : Prop := fnOutletValidUptoRow.holds Try.pinned (OpenSpec.upto fnOutletValidSpec)

/-- 'laws.FnExactSendIn', WHERE WHAT IT READS IS OF BULK AT MOST 1048576: true; the input reads as it did. -/
def fnExactSendInUptoRow : OpenClaim := { program := "ytahniedcflfdmaa", sum := "07dcea8fca250ce26ac670c9a2d0d997d29140b75a7ed022de5b011b688b31fe", func := "loop.example/loadbalancer/laws.FnExactSendIn", spec := "fnExactSendIn", plainKeys := false, apart := false, narrowed := true }
def FnExactSendInUptoSaid : Prop := fnExactSendInUptoRow.holds Try.pinned (OpenSpec.upto fnExactSendInSpec)

/-- 'laws.FnCloseOut', WHERE WHAT IT READS IS OF BULK AT MOST 1048576: true; the input reads as it did. -/
def fnCloseOutUptoRow : OpenClaim := { program := "ytahniedcflfdmaa", sum := "07dcea8fca250ce26ac670c9a2d0d997d29140b75a7ed022de5b011b688b31fe", func := "loop.example/loadbalancer/laws.FnCloseOut", spec := "fnCloseOut", plainKeys := false, apart := false, narrowed := true }
def FnCloseOutUptoSaid : Prop := fnCloseOutUptoRow.holds Try.pinned (OpenSpec.upto fnCloseOutSpec)

/-- 'laws.FnSendIn', WHERE WHAT IT READS IS OF BULK AT MOST 1048576: true; the input reads as it did. -/
def fnSendInUptoRow : OpenClaim := { program := "ytahniedcflfdmaa", sum := "07dcea8fca250ce26ac670c9a2d0d997d29140b75a7ed022de5b011b688b31fe", func := "loop.example/loadbalancer/laws.FnSendIn", spec := "fnSendIn", plainKeys := false, apart := false, narrowed := true }
def FnSendInUptoSaid : Prop := fnSendInUptoRow.holds Try.pinned (OpenSpec.upto fnSendInSpec)

end Rows
end Go.Proofs.Ytahniedcflfdmaa
