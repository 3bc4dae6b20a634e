/-
  No cell of these rows narrows 'for every input' (looked for: loops, veiled, ifaces, maps, wideKeys, modest, calm, conditions, laid).
  DERIVED. THE GIVEN ROWS OF THIS SEAT. 8 by the template 'for every input the law returns true; each argument reads behind the call as it read before'; 0 by the template 'total and deterministic' (their statements: YtejfmhiogafhiaaTotals.lean).
  GIVEN WITH THE SEED: the statements are not yours to turn. If you find one false, say at which input.
  Laid BY PROGRAM, IN A SANDBOX (cutbox-rows.mjs): the forced cells as the released guide's own fill.sh prints them over the translation 19ab50611cba85e0… (all of the seat's roots in one cut). By AI agents, Wed Nov 11 2026. No macro, syntax, notation, axiom, sorry.
-/
import Derived.Test.YtejfmhiogafhiaaChecked
import GoSem.Claim
import GoSem.ClaimJoined
import GoSem.ClaimMapViews
import Derived.JoinedTies
import Derived.KernelRfl
namespace Go.Proofs.Ytejfmhiogafhiaa
/- THE CELL 'sum', in the pinned program and in every row, IS THE sha256 OF THE DUMP (.gsa) THAT YtejfmhiogafhiaaProg.lean LOADS. Nothing in Lean hashes anything: it is a label: what it is worth is what the hold of that sum in a sandbox is worth. -/
noncomputable def Try.pinned : Pinned := { name := "ytejfmhiogafhiaa", sum := "19ab50611cba85e0c9acfb4d2f5dfe4f8262416e29955f24707531d62016b288", checked := Try.checked }
namespace Rows
def none {H : Type} : Left H := { results := [], args := [] }

/-- 'laws.FnExactSenderValid': WHATEVER THE INPUT: true; the input reads as it did. -/
def fnExactSenderValidSpec : ChangeSpec := { name := "fnExactSenderValid", fn := fun _ => fun
  | [d] => { results := [.lit (.bool true)], args := [d] }
  | _ => none }
def fnExactSenderValidRow : OpenClaim := { program := "ytejfmhiogafhiaa", sum := "19ab50611cba85e0c9acfb4d2f5dfe4f8262416e29955f24707531d62016b288", func := "loop.example/loadbalancer/laws.FnExactSenderValid", spec := "fnExactSenderValid", apart := false }
def FnExactSenderValidSaid : Prop := fnExactSenderValidRow.holds Try.pinned (OpenSpec.ofChange fnExactSenderValidSpec)

/-- ITS FALSE NEIGHBOUR: 'it returns false'. Refute it at one input. -/
def fnExactSenderValidWrong : ChangeSpec := { name := "fnExactSenderValid", fn := fun _ => fun
  | [d] => { results := [.lit (.bool false)], args := [d] }
  | _ => none }
def FnExactSenderValidWrongFalsely : Prop := fnExactSenderValidRow.holds Try.pinned (OpenSpec.ofChange fnExactSenderValidWrong)

/-- 'laws.FnExactSendMore': WHATEVER THE INPUT: true; the input reads as it did. -/
def fnExactSendMoreSpec : ChangeSpec := { name := "fnExactSendMore", fn := fun _ => fun
  | [d1, d2] => { results := [.lit (.bool true)], args := [d1, d2] }
  | _ => none }
def fnExactSendMoreRow : OpenClaim := { program := "ytejfmhiogafhiaa", sum := "19ab50611cba85e0c9acfb4d2f5dfe4f8262416e29955f24707531d62016b288", func := "loop.example/loadbalancer/laws.FnExactSendMore", spec := "fnExactSendMore", apart := false }
def FnExactSendMoreSaid : Prop := fnExactSendMoreRow.holds Try.pinned (OpenSpec.ofChange fnExactSendMoreSpec)

/-- ITS FALSE NEIGHBOUR: 'it returns false'. Refute it at one input. -/
def fnExactSendMoreWrong : ChangeSpec := { name := "fnExactSendMore", fn := fun _ => fun
  | [d1, d2] => { results := [.lit (.bool false)], args := [d1, d2] }
  | _ => none }
def FnExactSendMoreWrongFalsely : Prop := fnExactSendMoreRow.holds Try.pinned (OpenSpec.ofChange fnExactSendMoreWrong)

/-- 'laws.FnExactHearSender': WHATEVER THE INPUT: true; the input reads as it did. -/
def fnExactHearSenderSpec : ChangeSpec := { name := "fnExactHearSender", fn := fun _ => fun
  | [d1, d2] => { results := [.lit (.bool true)], args := [d1, d2] }
  | _ => none }
def fnExactHearSenderRow : OpenClaim := { program := "ytejfmhiogafhiaa", sum := "19ab50611cba85e0c9acfb4d2f5dfe4f8262416e29955f24707531d62016b288", func := "loop.example/loadbalancer/laws.FnExactHearSender", spec := "fnExactHearSender", apart := false }
def FnExactHearSenderSaid : Prop := fnExactHearSenderRow.holds Try.pinned (OpenSpec.ofChange fnExactHearSenderSpec)

/-- ITS FALSE NEIGHBOUR: 'it returns false'. Refute it at one input. -/
def fnExactHearSenderWrong : ChangeSpec := { name := "fnExactHearSender", fn := fun _ => fun
  | [d1, d2] => { results := [.lit (.bool false)], args := [d1, d2] }
  | _ => none }
def FnExactHearSenderWrongFalsely : Prop := fnExactHearSenderRow.holds Try.pinned (OpenSpec.ofChange fnExactHearSenderWrong)

/-- 'laws.FnExactSizeSender': WHATEVER THE INPUT: true; the input reads as it did. -/
def fnExactSizeSenderSpec : ChangeSpec := { name := "fnExactSizeSender", fn := fun _ => fun
  | [d1, d2] => { results := [.lit (.bool true)], args := [d1, d2] }
  | _ => none }
def fnExactSizeSenderRow : OpenClaim := { program := "ytejfmhiogafhiaa", sum := "19ab50611cba85e0c9acfb4d2f5dfe4f8262416e29955f24707531d62016b288", func := "loop.example/loadbalancer/laws.FnExactSizeSender", spec := "fnExactSizeSender", apart := false }
def FnExactSizeSenderSaid : Prop := fnExactSizeSenderRow.holds Try.pinned (OpenSpec.ofChange fnExactSizeSenderSpec)

/-- ITS FALSE NEIGHBOUR: 'it returns false'. Refute it at one input. -/
def fnExactSizeSenderWrong : ChangeSpec := { name := "fnExactSizeSender", fn := fun _ => fun
  | [d1, d2] => { results := [.lit (.bool false)], args := [d1, d2] }
  | _ => none }
def FnExactSizeSenderWrongFalsely : Prop := fnExactSizeSenderRow.holds Try.pinned (OpenSpec.ofChange fnExactSizeSenderWrong)

/-- 'laws.FnSenderValid': WHATEVER THE INPUT: true; the input reads as it did. -/
def fnSenderValidSpec : ChangeSpec := { name := "fnSenderValid", fn := fun _ => fun
  | [d] => { results := [.lit (.bool true)], args := [d] }
  | _ => none }
def fnSenderValidRow : OpenClaim := { program := "ytejfmhiogafhiaa", sum := "19ab50611cba85e0c9acfb4d2f5dfe4f8262416e29955f24707531d62016b288", func := "loop.example/loadbalancer/laws.FnSenderValid", spec := "fnSenderValid", apart := false }
def FnSenderValidSaid : Prop := fnSenderValidRow.holds Try.pinned (OpenSpec.ofChange fnSenderValidSpec)

/-- ITS FALSE NEIGHBOUR: 'it returns false'. Refute it at one input. -/
def fnSenderValidWrong : ChangeSpec := { name := "fnSenderValid", fn := fun _ => fun
  | [d] => { results := [.lit (.bool false)], args := [d] }
  | _ => none }
def FnSenderValidWrongFalsely : Prop := fnSenderValidRow.holds Try.pinned (OpenSpec.ofChange fnSenderValidWrong)

/-- 'laws.FnSendMore': WHATEVER THE INPUT: true; the input reads as it did. -/
def fnSendMoreSpec : ChangeSpec := { name := "fnSendMore", fn := fun _ => fun
  | [d] => { results := [.lit (.bool true)], args := [d] }
  | _ => none }
def fnSendMoreRow : OpenClaim := { program := "ytejfmhiogafhiaa", sum := "19ab50611cba85e0c9acfb4d2f5dfe4f8262416e29955f24707531d62016b288", func := "loop.example/loadbalancer/laws.FnSendMore", spec := "fnSendMore", apart := false }
def FnSendMoreSaid : Prop := fnSendMoreRow.holds Try.pinned (OpenSpec.ofChange fnSendMoreSpec)

/-- ITS FALSE NEIGHBOUR: 'it returns false'. Refute it at one input. -/
def fnSendMoreWrong : ChangeSpec := { name := "fnSendMore", fn := fun _ => fun
  | [d] => { results := [.lit (.bool false)], args := [d] }
  | _ => none }
def FnSendMoreWrongFalsely : Prop := fnSendMoreRow.holds Try.pinned (OpenSpec.ofChange fnSendMoreWrong)

/-- 'laws.FnSizeSender': WHATEVER THE INPUT: true; the input reads as it did. -/
def fnSizeSenderSpec : ChangeSpec := { name := "fnSizeSender", fn := fun _ => fun
  | [d] => { results := [.lit (.bool true)], args := [d] }
  | _ => none }
def fnSizeSenderRow : OpenClaim := { program := "ytejfmhiogafhiaa", sum := "19ab50611cba85e0c9acfb4d2f5dfe4f8262416e29955f24707531d62016b288", func := "loop.example/loadbalancer/laws.FnSizeSender", spec := "fnSizeSender", apart := false }
def FnSizeSenderSaid : Prop := fnSizeSenderRow.holds Try.pinned (OpenSpec.ofChange fnSizeSenderSpec)

/-- ITS FALSE NEIGHBOUR: 'it returns false'. Refute it at one input. -/
def fnSizeSenderWrong : ChangeSpec := { name := "fnSizeSender", fn := fun _ => fun
  | [d] => { results := [.lit (.bool false)], args := [d] }
  | _ => none }
def FnSizeSenderWrongFalsely : Prop := fnSizeSenderRow.holds Try.pinned (OpenSpec.ofChange fnSizeSenderWrong)

/-- 'laws.FnHearSender': WHATEVER THE INPUT: true; the input reads as it did. -/
def fnHearSenderSpec : ChangeSpec := { name := "fnHearSender", fn := fun _ => fun
  | [d] => { results := [.lit (.bool true)], args := [d] }
  | _ => none }
def fnHearSenderRow : OpenClaim := { program := "ytejfmhiogafhiaa", sum := "19ab50611cba85e0c9acfb4d2f5dfe4f8262416e29955f24707531d62016b288", func := "loop.example/loadbalancer/laws.FnHearSender", spec := "fnHearSender", apart := false }
def FnHearSenderSaid : Prop := fnHearSenderRow.holds Try.pinned (OpenSpec.ofChange fnHearSenderSpec)

/-- ITS FALSE NEIGHBOUR: 'it returns false'. Refute it at one input. -/
def fnHearSenderWrong : ChangeSpec := { name := "fnHearSender", fn := fun _ => fun
  | [d] => { results := [.lit (.bool false)], args := [d] }
  | _ => none }
def FnHearSenderWrongFalsely : Prop := fnHearSenderRow.holds Try.pinned (OpenSpec.ofChange fnHearSenderWrong)

/- THE SECOND FORM. 'bulk': how many values and letters a reading holds, each counted each time it is reached (what is shared counts as often as it is met; a slice's spare places count too). A statement '..UptoSaid' is the law's where the arguments, and the package variables that the reading takes, are together of bulk at most 1048576: NARROWER than '..Said'. Prove '..Said' where nothing that the law and all that it calls make is longer than what came in: it says more and counts as full. Else prove '..UptoSaid'. A law counts once. -/
mutual
def uptoBulk {H : Type} : DataW H → Nat
  | .lit (.string bytes) => bytes.length + 1
  | .lit _ => 1
  | .nil => 1
  | .ptr d => uptoBulk d + 1
  | .slice elems spare => uptoBulkAll elems + uptoBulkAll spare + 1
  | .agg parts => uptoBulkAll parts + 1
  | .iface _ d => uptoBulk d + 1
  | .map entries => uptoBulkEntries entries + 1
  | .held _ => 1
def uptoBulkAll {H : Type} : List (DataW H) → Nat
  | [] => 0
  | d :: r => uptoBulk d + uptoBulkAll r
def uptoBulkEntries {H : Type} : List (Lit × DataW H) → Nat
  | [] => 0
  | x :: r => uptoBulkEntry x + uptoBulkEntries r
def uptoBulkEntry {H : Type} : Lit × DataW H → Nat
  | (.string bytes, d) => bytes.length + uptoBulk d + 1
  | (_, d) => uptoBulk d + 1
 end
def uptoSmall : (H : Type) → List (DataW H) → Bool := fun _ ds => decide (uptoBulkAll ds ≤ 1048576)
def OpenSpec.upto (s : _root_.Go.ChangeSpec) : _root_.Go.OpenSpec := { _root_.Go.OpenSpec.ofChange s with cond := some uptoSmall }

/-- 'laws.FnExactSenderValid', WHERE WHAT IT READS IS OF BULK AT MOST 1048576: true; the input reads as it did. -/
def fnExactSenderValidUptoRow : OpenClaim := { program := "ytejfmhiogafhiaa", sum := "19ab50611cba85e0c9acfb4d2f5dfe4f8262416e29955f24707531d62016b288", func := "loop.example/loadbalancer/laws.FnExactSenderValid", spec := "fnExactSenderValid", apart := false, narrowed := true }
def FnExactSenderValidUptoSaid : Prop := fnExactSenderValidUptoRow.holds Try.pinned (OpenSpec.upto fnExactSenderValidSpec)

/-- 'laws.FnExactSendMore', WHERE WHAT IT READS IS OF BULK AT MOST 1048576: true; the input reads as it did. -/
def fnExactSendMoreUptoRow : OpenClaim := { program := "ytejfmhiogafhiaa", sum := "19ab50611cba85e0c9acfb4d2f5dfe4f8262416e29955f24707531d62016b288", func := "loop.example/loadbalancer/laws.FnExactSendMore", spec := "fnExactSendMore", apart := false, narrowed := true }
def FnExactSendMoreUptoSaid : Prop := fnExactSendMoreUptoRow.holds Try.pinned (OpenSpec.upto fnExactSendMoreSpec)

/-- 'laws.FnExactHearSender', WHERE WHAT IT READS IS OF BULK AT MOST 1048576: true; the input reads as it did. -/
def fnExactHearSenderUptoRow : OpenClaim := { program := "ytejfmhiogafhiaa", sum := "19ab50611cba85e0c9acfb4d2f5dfe4f8262416e29955f24707531d62016b288", func := "loop.example/loadbalancer/laws.FnExactHearSender", spec := "fnExactHearSender", apart := false, narrowed := true }
def FnExactHearSenderUptoSaid : Prop := fnExactHearSenderUptoRow.holds Try.pinned (OpenSpec.upto fnExactHearSenderSpec)

/-- 'laws.FnExactSizeSender', WHERE WHAT IT READS IS OF BULK AT MOST 1048576: true; the input reads as it did. -/
def fnExactSizeSenderUptoRow : OpenClaim := { program := "ytejfmhiogafhiaa", sum := "19ab50611cba85e0c9acfb4d2f5dfe4f8262416e29955f24707531d62016b288", func := "loop.example/loadbalancer/laws.FnExactSizeSender", spec := "fnExactSizeSender", apart := false, narrowed := true }
def FnExactSizeSenderUptoSaid : Prop := fnExactSizeSenderUptoRow.holds Try.pinned (OpenSpec.upto fnExactSizeSenderSpec)

/-- 'laws.FnSenderValid', WHERE WHAT IT READS IS OF BULK AT MOST 1048576: true; the input reads as it did. -/
def fnSenderValidUptoRow : OpenClaim := { program := "ytejfmhiogafhiaa", sum := "19ab50611cba85e0c9acfb4d2f5dfe4f8262416e29955f24707531d62016b288", func := "loop.example/loadbalancer/laws.FnSenderValid", spec := "fnSenderValid", apart := false, narrowed := true }
def FnSenderValidUptoSaid : Prop := fnSenderValidUptoRow.holds Try.pinned (OpenSpec.upto fnSenderValidSpec)

/-- 'laws.FnSendMore', WHERE WHAT IT READS IS OF BULK AT MOST 1048576: true; the input reads as it did. -/
def fnSendMoreUptoRow : OpenClaim := { program := "ytejfmhiogafhiaa", sum := "19ab50611cba85e0c9acfb4d2f5dfe4f8262416e29955f24707531d62016b288", func := "loop.example/loadbalancer/laws.FnSendMore", spec := "fnSendMore", apart := false, narrowed := true }
def FnSendMoreUptoSaid : Prop := fnSendMoreUptoRow.holds Try.pinned (OpenSpec.upto fnSendMoreSpec)

/-- 'laws.FnSizeSender', WHERE WHAT IT READS IS OF BULK AT MOST 1048576: true; the input reads as it did. -/
def fnSizeSenderUptoRow : OpenClaim := { program := "ytejfmhiogafhiaa", sum := "19ab50611cba85e0c9acfb4d2f5dfe4f8262416e29955f24707531d62016b288", func := "loop.example/loadbalancer/laws.FnSizeSender", spec := "fnSizeSender", apart := false, narrowed := true }
def FnSizeSenderUptoSaid : Prop := fnSizeSenderUptoRow.holds Try.pinned (OpenSpec.upto fnSizeSenderSpec)

/-- 'laws.FnHearSender', WHERE WHAT IT READS IS OF BULK AT MOST 1048576: true; the input reads as it did. -/
def fnHearSenderUptoRow : OpenClaim := { program := "ytejfmhiogafhiaa", sum := "19ab50611cba85e0c9acfb4d2f5dfe4f8262416e29955f24707531d62016b288", func := "loop.example/loadbalancer/laws.FnHearSender", spec := "fnHearSender", apart := false, narrowed := true }
def FnHearSenderUptoSaid : Prop := fnHearSenderUptoRow.holds Try.pinned (OpenSpec.upto fnHearSenderSpec)

end Rows
end Go.Proofs.Ytejfmhiogafhiaa
