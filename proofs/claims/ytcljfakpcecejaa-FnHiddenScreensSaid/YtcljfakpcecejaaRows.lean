/-
  No cell of these rows narrows 'for every input' (looked for: loops, veiled, ifaces, maps, wideKeys, modest, calm, conditions, laid).
  DERIVED. THE GIVEN ROWS OF THIS SEAT. 8 by the template 'for every input the law returns true; each argument reads behind the call as it read before'; 0 by the template 'total and deterministic' (their statements: YtcljfakpcecejaaTotals.lean).
  GIVEN WITH THE SEED: the statements are not yours to turn. If you find one false, say at which input.
  Laid BY PROGRAM, IN A SANDBOX (cutbox-rows.mjs): the forced cells as the released guide's own fill.sh prints them over the translation 7cbb3de5b57f61bb… (all of the seat's roots in one cut). By AI agents, Wed Nov 11 2026. No macro, syntax, notation, axiom, sorry.
-/
import Derived.Test.YtcljfakpcecejaaChecked
import GoSem.Claim
import GoSem.ClaimJoined
import GoSem.ClaimMapViews
import Derived.JoinedTies
import Derived.KernelRfl
namespace Go.Proofs.Ytcljfakpcecejaa
/- THE CELL 'sum', in the pinned program and in every row, IS THE sha256 OF THE DUMP (.gsa) THAT YtcljfakpcecejaaProg.lean LOADS. Nothing in Lean hashes anything: it is a label: what it is worth is what the hold of that sum in a sandbox is worth. -/
noncomputable def Try.pinned : Pinned := { name := "ytcljfakpcecejaa", sum := "7cbb3de5b57f61bb5d2ff1c1c4a9ea1b33ef7ac04e4c04f8bc4cffdc3a866be5", checked := Try.checked }
namespace Rows
def none {H : Type} : Left H := { results := [], args := [] }

/-- 'laws.FnExactScreenFits': WHATEVER THE INPUT: true; the input reads as it did. -/
def fnExactScreenFitsSpec : ChangeSpec := { name := "fnExactScreenFits", fn := fun _ => fun
  | [d1, d2] => { results := [.lit (.bool true)], args := [d1, d2] }
  | _ => none }
def fnExactScreenFitsRow : OpenClaim := { program := "ytcljfakpcecejaa", sum := "7cbb3de5b57f61bb5d2ff1c1c4a9ea1b33ef7ac04e4c04f8bc4cffdc3a866be5", func := "loop.example/loadbalancer/laws.FnExactScreenFits", spec := "fnExactScreenFits", apart := false }
def FnExactScreenFitsSaid : Prop := fnExactScreenFitsRow.holds Try.pinned (OpenSpec.ofChange fnExactScreenFitsSpec)

/-- ITS FALSE NEIGHBOUR: 'it returns false'. Refute it at one input. -/
def fnExactScreenFitsWrong : ChangeSpec := { name := "fnExactScreenFits", fn := fun _ => fun
  | [d1, d2] => { results := [.lit (.bool false)], args := [d1, d2] }
  | _ => none }
def FnExactScreenFitsWrongFalsely : Prop := fnExactScreenFitsRow.holds Try.pinned (OpenSpec.ofChange fnExactScreenFitsWrong)

/-- 'laws.FnScreensValid': WHATEVER THE INPUT: true; the input reads as it did. -/
def fnScreensValidSpec : ChangeSpec := { name := "fnScreensValid", fn := fun _ => fun
  | [d] => { results := [.lit (.bool true)], args := [d] }
  | _ => none }
def fnScreensValidRow : OpenClaim := { program := "ytcljfakpcecejaa", sum := "7cbb3de5b57f61bb5d2ff1c1c4a9ea1b33ef7ac04e4c04f8bc4cffdc3a866be5", func := "loop.example/loadbalancer/laws.FnScreensValid", spec := "fnScreensValid", apart := false }
def FnScreensValidSaid : Prop := fnScreensValidRow.holds Try.pinned (OpenSpec.ofChange fnScreensValidSpec)

/-- ITS FALSE NEIGHBOUR: 'it returns false'. Refute it at one input. -/
def fnScreensValidWrong : ChangeSpec := { name := "fnScreensValid", fn := fun _ => fun
  | [d] => { results := [.lit (.bool false)], args := [d] }
  | _ => none }
def FnScreensValidWrongFalsely : Prop := fnScreensValidRow.holds Try.pinned (OpenSpec.ofChange fnScreensValidWrong)

/-- 'laws.FnExactScreensValid': WHATEVER THE INPUT: true; the input reads as it did. -/
def fnExactScreensValidSpec : ChangeSpec := { name := "fnExactScreensValid", fn := fun _ => fun
  | [d] => { results := [.lit (.bool true)], args := [d] }
  | _ => none }
def fnExactScreensValidRow : OpenClaim := { program := "ytcljfakpcecejaa", sum := "7cbb3de5b57f61bb5d2ff1c1c4a9ea1b33ef7ac04e4c04f8bc4cffdc3a866be5", func := "loop.example/loadbalancer/laws.FnExactScreensValid", spec := "fnExactScreensValid", apart := false }
def FnExactScreensValidSaid : Prop := fnExactScreensValidRow.holds Try.pinned (OpenSpec.ofChange fnExactScreensValidSpec)

/-- ITS FALSE NEIGHBOUR: 'it returns false'. Refute it at one input. -/
def fnExactScreensValidWrong : ChangeSpec := { name := "fnExactScreensValid", fn := fun _ => fun
  | [d] => { results := [.lit (.bool false)], args := [d] }
  | _ => none }
def FnExactScreensValidWrongFalsely : Prop := fnExactScreensValidRow.holds Try.pinned (OpenSpec.ofChange fnExactScreensValidWrong)

/-- 'laws.FnScreenFits': WHATEVER THE INPUT: true; the input reads as it did. -/
def fnScreenFitsSpec : ChangeSpec := { name := "fnScreenFits", fn := fun _ => fun
  | [d] => { results := [.lit (.bool true)], args := [d] }
  | _ => none }
def fnScreenFitsRow : OpenClaim := { program := "ytcljfakpcecejaa", sum := "7cbb3de5b57f61bb5d2ff1c1c4a9ea1b33ef7ac04e4c04f8bc4cffdc3a866be5", func := "loop.example/loadbalancer/laws.FnScreenFits", spec := "fnScreenFits", apart := false }
def FnScreenFitsSaid : Prop := fnScreenFitsRow.holds Try.pinned (OpenSpec.ofChange fnScreenFitsSpec)

/-- ITS FALSE NEIGHBOUR: 'it returns false'. Refute it at one input. -/
def fnScreenFitsWrong : ChangeSpec := { name := "fnScreenFits", fn := fun _ => fun
  | [d] => { results := [.lit (.bool false)], args := [d] }
  | _ => none }
def FnScreenFitsWrongFalsely : Prop := fnScreenFitsRow.holds Try.pinned (OpenSpec.ofChange fnScreenFitsWrong)

/-- 'laws.FnScreenFlow': WHATEVER THE INPUT: true; the input reads as it did. -/
def fnScreenFlowSpec : ChangeSpec := { name := "fnScreenFlow", fn := fun _ => fun
  | [d] => { results := [.lit (.bool true)], args := [d] }
  | _ => none }
def fnScreenFlowRow : OpenClaim := { program := "ytcljfakpcecejaa", sum := "7cbb3de5b57f61bb5d2ff1c1c4a9ea1b33ef7ac04e4c04f8bc4cffdc3a866be5", func := "loop.example/loadbalancer/laws.FnScreenFlow", spec := "fnScreenFlow", apart := false }
def FnScreenFlowSaid : Prop := fnScreenFlowRow.holds Try.pinned (OpenSpec.ofChange fnScreenFlowSpec)

/-- ITS FALSE NEIGHBOUR: 'it returns false'. Refute it at one input. -/
def fnScreenFlowWrong : ChangeSpec := { name := "fnScreenFlow", fn := fun _ => fun
  | [d] => { results := [.lit (.bool false)], args := [d] }
  | _ => none }
def FnScreenFlowWrongFalsely : Prop := fnScreenFlowRow.holds Try.pinned (OpenSpec.ofChange fnScreenFlowWrong)

/-- 'laws.FnExactScreenFlow': WHATEVER THE INPUT: true; the input reads as it did. -/
def fnExactScreenFlowSpec : ChangeSpec := { name := "fnExactScreenFlow", fn := fun _ => fun
  | [d1, d2] => { results := [.lit (.bool true)], args := [d1, d2] }
  | _ => none }
def fnExactScreenFlowRow : OpenClaim := { program := "ytcljfakpcecejaa", sum := "7cbb3de5b57f61bb5d2ff1c1c4a9ea1b33ef7ac04e4c04f8bc4cffdc3a866be5", func := "loop.example/loadbalancer/laws.FnExactScreenFlow", spec := "fnExactScreenFlow", apart := false }
def FnExactScreenFlowSaid : Prop := fnExactScreenFlowRow.holds Try.pinned (OpenSpec.ofChange fnExactScreenFlowSpec)

/-- ITS FALSE NEIGHBOUR: 'it returns false'. Refute it at one input. -/
def fnExactScreenFlowWrong : ChangeSpec := { name := "fnExactScreenFlow", fn := fun _ => fun
  | [d1, d2] => { results := [.lit (.bool false)], args := [d1, d2] }
  | _ => none }
def FnExactScreenFlowWrongFalsely : Prop := fnExactScreenFlowRow.holds Try.pinned (OpenSpec.ofChange fnExactScreenFlowWrong)

/-- 'laws.FnHiddenScreens': WHATEVER THE INPUT: true; the input reads as it did. -/
def fnHiddenScreensSpec : ChangeSpec := { name := "fnHiddenScreens", fn := fun _ => fun
  | [d1, d2] => { results := [.lit (.bool true)], args := [d1, d2] }
  | _ => none }
def fnHiddenScreensRow : OpenClaim := { program := "ytcljfakpcecejaa", sum := "7cbb3de5b57f61bb5d2ff1c1c4a9ea1b33ef7ac04e4c04f8bc4cffdc3a866be5", func := "loop.example/loadbalancer/laws.FnHiddenScreens", spec := "fnHiddenScreens", apart := false }
def FnHiddenScreensSaid : Prop := fnHiddenScreensRow.holds Try.pinned (OpenSpec.ofChange fnHiddenScreensSpec)

/-- ITS FALSE NEIGHBOUR: 'it returns false'. Refute it at one input. -/
def fnHiddenScreensWrong : ChangeSpec := { name := "fnHiddenScreens", fn := fun _ => fun
  | [d1, d2] => { results := [.lit (.bool false)], args := [d1, d2] }
  | _ => none }
def FnHiddenScreensWrongFalsely : Prop := fnHiddenScreensRow.holds Try.pinned (OpenSpec.ofChange fnHiddenScreensWrong)

/-- 'laws.FnExactHiddenScreens': WHATEVER THE INPUT: true; the input reads as it did. -/
def fnExactHiddenScreensSpec : ChangeSpec := { name := "fnExactHiddenScreens", fn := fun _ => fun
  | [d] => { results := [.lit (.bool true)], args := [d] }
  | _ => none }
def fnExactHiddenScreensRow : OpenClaim := { program := "ytcljfakpcecejaa", sum := "7cbb3de5b57f61bb5d2ff1c1c4a9ea1b33ef7ac04e4c04f8bc4cffdc3a866be5", func := "loop.example/loadbalancer/laws.FnExactHiddenScreens", spec := "fnExactHiddenScreens", apart := false }
def FnExactHiddenScreensSaid : Prop := fnExactHiddenScreensRow.holds Try.pinned (OpenSpec.ofChange fnExactHiddenScreensSpec)

/-- ITS FALSE NEIGHBOUR: 'it returns false'. Refute it at one input. -/
def fnExactHiddenScreensWrong : ChangeSpec := { name := "fnExactHiddenScreens", fn := fun _ => fun
  | [d] => { results := [.lit (.bool false)], args := [d] }
  | _ => none }
def FnExactHiddenScreensWrongFalsely : Prop := fnExactHiddenScreensRow.holds Try.pinned (OpenSpec.ofChange fnExactHiddenScreensWrong)

/- THE SECOND FORM. 'bulk': how many values and letters a reading holds, each counted each time it is reached (what is shared counts as often as it is met; a slice's spare places count too). A statement '..UptoSaid' is the law's where the arguments, and the package variables that the reading takes, are together of bulk at most 1048576: NARROWER than '..Said'. Prove '..Said' where nothing that the law and all that it calls make is longer than what came in: it says more and counts as full. Else prove '..UptoSaid'. A law counts once. -/
mutual
def uptoBulk {H : Type} : DataW H → Nat
  | .lit (.string bytes) => bytes.length + 1
  | .lit _ => 1
  | .nil => 1
  | .ptr d => uptoBulk d + 1
  | .slice elems spare => uptoBulkAll elems + uptoBulkAll spare + 1
  | .agg parts => uptoBulkAll parts + 1
  | .iface _ d => uptoBulk d + 1
  | .map entries => uptoBulkEntries entries + 1
  | .held _ => 1
def uptoBulkAll {H : Type} : List (DataW H) → Nat
  | [] => 0
  | d :: r => uptoBulk d + uptoBulkAll r
def uptoBulkEntries {H : Type} : List (Lit × DataW H) → Nat
  | [] => 0
  | x :: r => uptoBulkEntry x + uptoBulkEntries r
def uptoBulkEntry {H : Type} : Lit × DataW H → Nat
  | (.string bytes, d) => bytes.length + uptoBulk d + 1
  | (_, d) => uptoBulk d + 1
 end
def uptoSmall : (H : Type) → List (DataW H) → Bool := fun _ ds => decide (uptoBulkAll ds ≤ 1048576)
def OpenSpec.upto (s : _root_.Go.ChangeSpec) : _root_.Go.OpenSpec := { _root_.Go.OpenSpec.ofChange s with cond := some uptoSmall }

/-- 'laws.FnExactScreenFits', WHERE WHAT IT READS IS OF BULK AT MOST 1048576: true; the input reads as it did. -/
def fnExactScreenFitsUptoRow : OpenClaim := { program := "ytcljfakpcecejaa", sum := "7cbb3de5b57f61bb5d2ff1c1c4a9ea1b33ef7ac04e4c04f8bc4cffdc3a866be5", func := "loop.example/loadbalancer/laws.FnExactScreenFits", spec := "fnExactScreenFits", apart := false, narrowed := true }
def FnExactScreenFitsUptoSaid : Prop := fnExactScreenFitsUptoRow.holds Try.pinned (OpenSpec.upto fnExactScreenFitsSpec)

/-- 'laws.FnScreensValid', WHERE WHAT IT READS IS OF BULK AT MOST 1048576: true; the input reads as it did. -/
def fnScreensValidUptoRow : OpenClaim := { program := "ytcljfakpcecejaa", sum := "7cbb3de5b57f61bb5d2ff1c1c4a9ea1b33ef7ac04e4c04f8bc4cffdc3a866be5", func := "loop.example/loadbalancer/laws.FnScreensValid", spec := "fnScreensValid", apart := false, narrowed := true }
def FnScreensValidUptoSaid : Prop := fnScreensValidUptoRow.holds Try.pinned (OpenSpec.upto fnScreensValidSpec)

/-- 'laws.FnExactScreensValid', WHERE WHAT IT READS IS OF BULK AT MOST 1048576: true; the input reads as it did. -/
def fnExactScreensValidUptoRow : OpenClaim := { program := "ytcljfakpcecejaa", sum := "7cbb3de5b57f61bb5d2ff1c1c4a9ea1b33ef7ac04e4c04f8bc4cffdc3a866be5", func := "loop.example/loadbalancer/laws.FnExactScreensValid", spec := "fnExactScreensValid", apart := false, narrowed := true }
def FnExactScreensValidUptoSaid : Prop := fnExactScreensValidUptoRow.holds Try.pinned (OpenSpec.upto fnExactScreensValidSpec)

/-- 'laws.FnScreenFits', WHERE WHAT IT READS IS OF BULK AT MOST 1048576: true; the input reads as it did. -/
def fnScreenFitsUptoRow : OpenClaim := { program := "ytcljfakpcecejaa", sum := "7cbb3de5b57f61bb5d2ff1c1c4a9ea1b33ef7ac04e4c04f8bc4cffdc3a866be5", func := "loop.example/loadbalancer/laws.FnScreenFits", spec := "fnScreenFits", apart := false, narrowed := true }
def FnScreenFitsUptoSaid : Prop := fnScreenFitsUptoRow.holds Try.pinned (OpenSpec.upto fnScreenFitsSpec)

/-- 'laws.FnScreenFlow', WHERE WHAT IT READS IS OF BULK AT MOST 1048576: true; the input reads as it did. -/
def fnScreenFlowUptoRow : OpenClaim := { program := "ytcljfakpcecejaa", sum := "7cbb3de5b57f61bb5d2ff1c1c4a9ea1b33ef7ac04e4c04f8bc4cffdc3a866be5", func := "loop.example/loadbalancer/laws.FnScreenFlow", spec := "fnScreenFlow", apart := false, narrowed := true }
def FnScreenFlowUptoSaid : Prop := fnScreenFlowUptoRow.holds Try.pinned (OpenSpec.upto fnScreenFlowSpec)

/-- 'laws.FnExactScreenFlow', WHERE WHAT IT READS IS OF BULK AT MOST 1048576: true; the input reads as it did. -/
def fnExactScreenFlowUptoRow : OpenClaim := { program := "ytcljfakpcecejaa", sum := "7cbb3de5b57f61bb5d2ff1c1c4a9ea1b33ef7ac04e4c04f8bc4cffdc3a866be5", func := "loop.example/loadbalancer/laws.FnExactScreenFlow", spec := "fnExactScreenFlow", apart := false, narrowed := true }
def FnExactScreenFlowUptoSaid : Prop := fnExactScreenFlowUptoRow.holds Try.pinned (OpenSpec.upto fnExactScreenFlowSpec)

/-- 'laws.FnHiddenScreens', WHERE WHAT IT READS IS OF BULK AT MOST 1048576: true; the input reads as it did. -/
def fnHiddenScreensUptoRow : OpenClaim := { program := "ytcljfakpcecejaa", sum := "7cbb3de5b57f61bb5d2ff1c1c4a9ea1b33ef7ac04e4c04f8bc4cffdc3a866be5", func := "loop.example/loadbalancer/laws.FnHiddenScreens", spec := "fnHiddenScreens", apart := false, narrowed := true }
def FnHiddenScreensUptoSaid : Prop := fnHiddenScreensUptoRow.holds Try.pinned (OpenSpec.upto fnHiddenScreensSpec)

/-- 'laws.FnExactHiddenScreens', WHERE WHAT IT READS IS OF BULK AT MOST 1048576: true; the input reads as it did. -/
def fnExactHiddenScreensUptoRow : OpenClaim := { program := "ytcljfakpcecejaa", sum := "7cbb3de5b57f61bb5d2ff1c1c4a9ea1b33ef7ac04e4c04f8bc4cffdc3a866be5", func := "loop.example/loadbalancer/laws.FnExactHiddenScreens", spec := "fnExactHiddenScreens", apart := false, narrowed := true }
def FnExactHiddenScreensUptoSaid : Prop := fnExactHiddenScreensUptoRow.holds Try.pinned (OpenSpec.upto fnExactHiddenScreensSpec)

end Rows
end Go.Proofs.Ytcljfakpcecejaa
