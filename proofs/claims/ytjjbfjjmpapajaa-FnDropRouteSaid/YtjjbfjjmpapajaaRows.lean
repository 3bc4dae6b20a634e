/-
  No cell of these rows narrows 'for every input' (looked for: loops, veiled, ifaces, maps, wideKeys, modest, calm, conditions, laid).
  DERIVED. THE GIVEN ROWS OF THIS SEAT. 10 by the template 'for every input the law returns true; each argument reads behind the call as it read before'; 0 by the template 'total and deterministic' (their statements: YtjjbfjjmpapajaaTotals.lean).
  GIVEN WITH THE SEED: the statements are not yours to turn. If you find one false, say at which input.
  Laid BY PROGRAM, IN A SANDBOX (cutbox-rows.mjs): the forced cells as the released guide's own fill.sh prints them over the translation 7b948e2da3c0cb80… (all of the seat's roots in one cut). By AI agents, Wed Nov 11 2026. No macro, syntax, notation, axiom, sorry.
-/
import Derived.Test.YtjjbfjjmpapajaaChecked
import GoSem.Claim
import GoSem.ClaimJoined
import GoSem.ClaimMapViews
import Derived.JoinedTies
import Derived.KernelRfl
namespace Go.Proofs.Ytjjbfjjmpapajaa
/- THE CELL 'sum', in the pinned program and in every row, IS THE sha256 OF THE DUMP (.gsa) THAT YtjjbfjjmpapajaaProg.lean LOADS. Nothing in Lean hashes anything: it is a label: what it is worth is what the hold of that sum in a sandbox is worth. -/
noncomputable def Try.pinned : Pinned := { name := "ytjjbfjjmpapajaa", sum := "7b948e2da3c0cb80b78279fc5fed76cf4e45a3603f48dd6954733d1dba1fbc95", checked := Try.checked }
namespace Rows
def none {H : Type} : Left H := { results := [], args := [] }

/-- 'laws.FnExactPrefixValid': WHATEVER THE INPUT: true; the input reads as it did. -/
def fnExactPrefixValidSpec : ChangeSpec := { name := "fnExactPrefixValid", fn := fun _ => fun
  | [d] => { results := [.lit (.bool true)], args := [d] }
  | _ => none }
def fnExactPrefixValidRow : OpenClaim := { program := "ytjjbfjjmpapajaa", sum := "7b948e2da3c0cb80b78279fc5fed76cf4e45a3603f48dd6954733d1dba1fbc95", func := "loop.example/loadbalancer/laws.FnExactPrefixValid", spec := "fnExactPrefixValid", apart := false }
def FnExactPrefixValidSaid : Prop := fnExactPrefixValidRow.holds Try.pinned (OpenSpec.ofChange fnExactPrefixValidSpec)

/-- ITS FALSE NEIGHBOUR: 'it returns false'. Refute it at one input. -/
def fnExactPrefixValidWrong : ChangeSpec := { name := "fnExactPrefixValid", fn := fun _ => fun
  | [d] => { results := [.lit (.bool false)], args := [d] }
  | _ => none }
def FnExactPrefixValidWrongFalsely : Prop := fnExactPrefixValidRow.holds Try.pinned (OpenSpec.ofChange fnExactPrefixValidWrong)

/-- 'laws.FnExactPrefixHas': WHATEVER THE INPUT: true; the input reads as it did. -/
def fnExactPrefixHasSpec : ChangeSpec := { name := "fnExactPrefixHas", fn := fun _ => fun
  | [d1, d2] => { results := [.lit (.bool true)], args := [d1, d2] }
  | _ => none }
def fnExactPrefixHasRow : OpenClaim := { program := "ytjjbfjjmpapajaa", sum := "7b948e2da3c0cb80b78279fc5fed76cf4e45a3603f48dd6954733d1dba1fbc95", func := "loop.example/loadbalancer/laws.FnExactPrefixHas", spec := "fnExactPrefixHas", apart := false }
def FnExactPrefixHasSaid : Prop := fnExactPrefixHasRow.holds Try.pinned (OpenSpec.ofChange fnExactPrefixHasSpec)

/-- ITS FALSE NEIGHBOUR: 'it returns false'. Refute it at one input. -/
def fnExactPrefixHasWrong : ChangeSpec := { name := "fnExactPrefixHas", fn := fun _ => fun
  | [d1, d2] => { results := [.lit (.bool false)], args := [d1, d2] }
  | _ => none }
def FnExactPrefixHasWrongFalsely : Prop := fnExactPrefixHasRow.holds Try.pinned (OpenSpec.ofChange fnExactPrefixHasWrong)

/-- 'laws.FnPrefixValid': WHATEVER THE INPUT: true; the input reads as it did. -/
def fnPrefixValidSpec : ChangeSpec := { name := "fnPrefixValid", fn := fun _ => fun
  | [d] => { results := [.lit (.bool true)], args := [d] }
  | _ => none }
def fnPrefixValidRow : OpenClaim := { program := "ytjjbfjjmpapajaa", sum := "7b948e2da3c0cb80b78279fc5fed76cf4e45a3603f48dd6954733d1dba1fbc95", func := "loop.example/loadbalancer/laws.FnPrefixValid", spec := "fnPrefixValid", apart := false }
def FnPrefixValidSaid : Prop := fnPrefixValidRow.holds Try.pinned (OpenSpec.ofChange fnPrefixValidSpec)

/-- ITS FALSE NEIGHBOUR: 'it returns false'. Refute it at one input. -/
def fnPrefixValidWrong : ChangeSpec := { name := "fnPrefixValid", fn := fun _ => fun
  | [d] => { results := [.lit (.bool false)], args := [d] }
  | _ => none }
def FnPrefixValidWrongFalsely : Prop := fnPrefixValidRow.holds Try.pinned (OpenSpec.ofChange fnPrefixValidWrong)

/-- 'laws.FnPrefixHas': WHATEVER THE INPUT: true; the input reads as it did. -/
def fnPrefixHasSpec : ChangeSpec := { name := "fnPrefixHas", fn := fun _ => fun
  | [d] => { results := [.lit (.bool true)], args := [d] }
  | _ => none }
def fnPrefixHasRow : OpenClaim := { program := "ytjjbfjjmpapajaa", sum := "7b948e2da3c0cb80b78279fc5fed76cf4e45a3603f48dd6954733d1dba1fbc95", func := "loop.example/loadbalancer/laws.FnPrefixHas", spec := "fnPrefixHas", apart := false }
def FnPrefixHasSaid : Prop := fnPrefixHasRow.holds Try.pinned (OpenSpec.ofChange fnPrefixHasSpec)

/-- ITS FALSE NEIGHBOUR: 'it returns false'. Refute it at one input. -/
def fnPrefixHasWrong : ChangeSpec := { name := "fnPrefixHas", fn := fun _ => fun
  | [d] => { results := [.lit (.bool false)], args := [d] }
  | _ => none }
def FnPrefixHasWrongFalsely : Prop := fnPrefixHasRow.holds Try.pinned (OpenSpec.ofChange fnPrefixHasWrong)

/-- 'laws.FnExactRoutesValid': WHATEVER THE INPUT: true; the input reads as it did. -/
def fnExactRoutesValidSpec : ChangeSpec := { name := "fnExactRoutesValid", fn := fun _ => fun
  | [d] => { results := [.lit (.bool true)], args := [d] }
  | _ => none }
def fnExactRoutesValidRow : OpenClaim := { program := "ytjjbfjjmpapajaa", sum := "7b948e2da3c0cb80b78279fc5fed76cf4e45a3603f48dd6954733d1dba1fbc95", func := "loop.example/loadbalancer/laws.FnExactRoutesValid", spec := "fnExactRoutesValid", apart := false }
def FnExactRoutesValidSaid : Prop := fnExactRoutesValidRow.holds Try.pinned (OpenSpec.ofChange fnExactRoutesValidSpec)

/-- ITS FALSE NEIGHBOUR: 'it returns false'. Refute it at one input. -/
def fnExactRoutesValidWrong : ChangeSpec := { name := "fnExactRoutesValid", fn := fun _ => fun
  | [d] => { results := [.lit (.bool false)], args := [d] }
  | _ => none }
def FnExactRoutesValidWrongFalsely : Prop := fnExactRoutesValidRow.holds Try.pinned (OpenSpec.ofChange fnExactRoutesValidWrong)

/-- 'laws.FnRoutesValid': WHATEVER THE INPUT: true; the input reads as it did. -/
def fnRoutesValidSpec : ChangeSpec := { name := "fnRoutesValid", fn := fun _ => fun
  | [d] => { results := [.lit (.bool true)], args := [d] }
  | _ => none }
def fnRoutesValidRow : OpenClaim := { program := "ytjjbfjjmpapajaa", sum := "7b948e2da3c0cb80b78279fc5fed76cf4e45a3603f48dd6954733d1dba1fbc95", func := "loop.example/loadbalancer/laws.FnRoutesValid", spec := "fnRoutesValid", apart := false }
def FnRoutesValidSaid : Prop := fnRoutesValidRow.holds Try.pinned (OpenSpec.ofChange fnRoutesValidSpec)

/-- ITS FALSE NEIGHBOUR: 'it returns false'. Refute it at one input. -/
def fnRoutesValidWrong : ChangeSpec := { name := "fnRoutesValid", fn := fun _ => fun
  | [d] => { results := [.lit (.bool false)], args := [d] }
  | _ => none }
def FnRoutesValidWrongFalsely : Prop := fnRoutesValidRow.holds Try.pinned (OpenSpec.ofChange fnRoutesValidWrong)

/-- 'laws.FnExactRouteFor': WHATEVER THE INPUT: true; the input reads as it did. -/
def fnExactRouteForSpec : ChangeSpec := { name := "fnExactRouteFor", fn := fun _ => fun
  | [d1, d2] => { results := [.lit (.bool true)], args := [d1, d2] }
  | _ => none }
def fnExactRouteForRow : OpenClaim := { program := "ytjjbfjjmpapajaa", sum := "7b948e2da3c0cb80b78279fc5fed76cf4e45a3603f48dd6954733d1dba1fbc95", func := "loop.example/loadbalancer/laws.FnExactRouteFor", spec := "fnExactRouteFor", apart := false }
def FnExactRouteForSaid : Prop := fnExactRouteForRow.holds Try.pinned (OpenSpec.ofChange fnExactRouteForSpec)

/-- ITS FALSE NEIGHBOUR: 'it returns false'. Refute it at one input. -/
def fnExactRouteForWrong : ChangeSpec := { name := "fnExactRouteFor", fn := fun _ => fun
  | [d1, d2] => { results := [.lit (.bool false)], args := [d1, d2] }
  | _ => none }
def FnExactRouteForWrongFalsely : Prop := fnExactRouteForRow.holds Try.pinned (OpenSpec.ofChange fnExactRouteForWrong)

/-- 'laws.FnRouteFor': WHATEVER THE INPUT: true; the input reads as it did. -/
def fnRouteForSpec : ChangeSpec := { name := "fnRouteFor", fn := fun _ => fun
  | [d] => { results := [.lit (.bool true)], args := [d] }
  | _ => none }
def fnRouteForRow : OpenClaim := { program := "ytjjbfjjmpapajaa", sum := "7b948e2da3c0cb80b78279fc5fed76cf4e45a3603f48dd6954733d1dba1fbc95", func := "loop.example/loadbalancer/laws.FnRouteFor", spec := "fnRouteFor", apart := false }
def FnRouteForSaid : Prop := fnRouteForRow.holds Try.pinned (OpenSpec.ofChange fnRouteForSpec)

/-- ITS FALSE NEIGHBOUR: 'it returns false'. Refute it at one input. -/
def fnRouteForWrong : ChangeSpec := { name := "fnRouteFor", fn := fun _ => fun
  | [d] => { results := [.lit (.bool false)], args := [d] }
  | _ => none }
def FnRouteForWrongFalsely : Prop := fnRouteForRow.holds Try.pinned (OpenSpec.ofChange fnRouteForWrong)

/-- 'laws.FnExactDropRoute': WHATEVER THE INPUT: true; the input reads as it did. -/
def fnExactDropRouteSpec : ChangeSpec := { name := "fnExactDropRoute", fn := fun _ => fun
  | [d1, d2] => { results := [.lit (.bool true)], args := [d1, d2] }
  | _ => none }
def fnExactDropRouteRow : OpenClaim := { program := "ytjjbfjjmpapajaa", sum := "7b948e2da3c0cb80b78279fc5fed76cf4e45a3603f48dd6954733d1dba1fbc95", func := "loop.example/loadbalancer/laws.FnExactDropRoute", spec := "fnExactDropRoute", unfollowed := true, recurses := true, apart := false }
def FnExactDropRouteSaid : Prop := fnExactDropRouteRow.holds Try.pinned (OpenSpec.ofChange fnExactDropRouteSpec)

/-- ITS FALSE NEIGHBOUR: 'it returns false'. Refute it at one input. -/
def fnExactDropRouteWrong : ChangeSpec := { name := "fnExactDropRoute", fn := fun _ => fun
  | [d1, d2] => { results := [.lit (.bool false)], args := [d1, d2] }
  | _ => none }
def FnExactDropRouteWrongFalsely : Prop := fnExactDropRouteRow.holds Try.pinned (OpenSpec.ofChange fnExactDropRouteWrong)

/-- 'laws.FnDropRoute': WHATEVER THE INPUT: true; the input reads as it did. -/
def fnDropRouteSpec : ChangeSpec := { name := "fnDropRoute", fn := fun _ => fun
  | [d] => { results := [.lit (.bool true)], args := [d] }
  | _ => none }
def fnDropRouteRow : OpenClaim := { program := "ytjjbfjjmpapajaa", sum := "7b948e2da3c0cb80b78279fc5fed76cf4e45a3603f48dd6954733d1dba1fbc95", func := "loop.example/loadbalancer/laws.FnDropRoute", spec := "fnDropRoute", unfollowed := true, recurses := true, apart := false }
def FnDropRouteSaid : Prop := fnDropRouteRow.holds Try.pinned (OpenSpec.ofChange fnDropRouteSpec)

/-- ITS FALSE NEIGHBOUR: 'it returns false'. Refute it at one input. -/
def fnDropRouteWrong : ChangeSpec := { name := "fnDropRoute", fn := fun _ => fun
  | [d] => { results := [.lit (.bool false)], args := [d] }
  | _ => none }
def FnDropRouteWrongFalsely : Prop := fnDropRouteRow.holds Try.pinned (OpenSpec.ofChange fnDropRouteWrong)

/- THE SECOND FORM. 'bulk': how many values and letters a reading holds, each counted each time it is reached (what is shared counts as often as it is met; a slice's spare places count too). A statement '..UptoSaid' is the law's where the arguments, and the package variables that the reading takes, are together of bulk at most 1048576: NARROWER than '..Said'. Prove '..Said' where nothing that the law and all that it calls make is longer than what came in: it says more and counts as full. Else prove '..UptoSaid'. A law counts once. -/
mutual
def uptoBulk {H : Type} : DataW H → Nat
  | .lit (.string bytes) => bytes.length + 1
  | .lit _ => 1
  | .nil => 1
  | .ptr d => uptoBulk d + 1
  | .slice elems spare => uptoBulkAll elems + uptoBulkAll spare + 1
  | .agg parts => uptoBulkAll parts + 1
  | .iface _ d => uptoBulk d + 1
  | .map entries => uptoBulkEntries entries + 1
  | .held _ => 1
def uptoBulkAll {H : Type} : List (DataW H) → Nat
  | [] => 0
  | d :: r => uptoBulk d + uptoBulkAll r
def uptoBulkEntries {H : Type} : List (Lit × DataW H) → Nat
  | [] => 0
  | x :: r => uptoBulkEntry x + uptoBulkEntries r
def uptoBulkEntry {H : Type} : Lit × DataW H → Nat
  | (.string bytes, d) => bytes.length + uptoBulk d + 1
  | (_, d) => uptoBulk d + 1
 end
def uptoSmall : (H : Type) → List (DataW H) → Bool := fun _ ds => decide (uptoBulkAll ds ≤ 1048576)
def OpenSpec.upto (s : _root_.Go.ChangeSpec) : _root_.Go.OpenSpec := { _root_.Go.OpenSpec.ofChange s with cond := some uptoSmall }

/-- 'laws.FnExactPrefixValid', WHERE WHAT IT READS IS OF BULK AT MOST 1048576: true; the input reads as it did. -/
def fnExactPrefixValidUptoRow : OpenClaim := { program := "ytjjbfjjmpapajaa", sum := "7b948e2da3c0cb80b78279fc5fed76cf4e45a3603f48dd6954733d1dba1fbc95", func := "loop.example/loadbalancer/laws.FnExactPrefixValid", spec := "fnExactPrefixValid", apart := false, narrowed := true }
def FnExactPrefixValidUptoSaid : Prop := fnExactPrefixValidUptoRow.holds Try.pinned (OpenSpec.upto fnExactPrefixValidSpec)

/-- 'laws.FnExactPrefixHas', WHERE WHAT IT READS IS OF BULK AT MOST 1048576: true; the input reads as it did. -/
def fnExactPrefixHasUptoRow : OpenClaim := { program := "ytjjbfjjmpapajaa", sum := "7b948e2da3c0cb80b78279fc5fed76cf4e45a3603f48dd6954733d1dba1fbc95", func := "loop.example/loadbalancer/laws.FnExactPrefixHas", spec := "fnExactPrefixHas", apart := false, narrowed := true }
def FnExactPrefixHasUptoSaid : Prop := fnExactPrefixHasUptoRow.holds Try.pinned (OpenSpec.upto fnExactPrefixHasSpec)

/-- 'laws.FnPrefixValid', WHERE WHAT IT READS IS OF BULK AT MOST 1048576: true; the input reads as it did. -/
def fnPrefixValidUptoRow : OpenClaim := { program := "ytjjbfjjmpapajaa", sum := "7b948e2da3c0cb80b78279fc5fed76cf4e45a3603f48dd6954733d1dba1fbc95", func := "loop.example/loadbalancer/laws.FnPrefixValid", spec := "fnPrefixValid", apart := false, narrowed := true }
def FnPrefixValidUptoSaid : Prop := fnPrefixValidUptoRow.holds Try.pinned (OpenSpec.upto fnPrefixValidSpec)

/-- 'laws.FnPrefixHas', WHERE WHAT IT READS IS OF BULK AT MOST 1048576: true; the input reads as it did. -/
def fnPrefixHasUptoRow : OpenClaim := { program := "ytjjbfjjmpapajaa", sum := "7b948e2da3c0cb80b78279fc5fed76cf4e45a3603f48dd6954733d1dba1fbc95", func := "loop.example/loadbalancer/laws.FnPrefixHas", spec := "fnPrefixHas", apart := false, narrowed := true }
def FnPrefixHasUptoSaid : Prop := fnPrefixHasUptoRow.holds Try.pinned (OpenSpec.upto fnPrefixHasSpec)

/-- 'laws.FnExactRoutesValid', WHERE WHAT IT READS IS OF BULK AT MOST 1048576: true; the input reads as it did. -/
def fnExactRoutesValidUptoRow : OpenClaim := { program := "ytjjbfjjmpapajaa", sum := "7b948e2da3c0cb80b78279fc5fed76cf4e45a3603f48dd6954733d1dba1fbc95", func := "loop.example/loadbalancer/laws.FnExactRoutesValid", spec := "fnExactRoutesValid", apart := false, narrowed := true }
def FnExactRoutesValidUptoSaid : Prop := fnExactRoutesValidUptoRow.holds Try.pinned (OpenSpec.upto fnExactRoutesValidSpec)

/-- 'laws.FnRoutesValid', WHERE WHAT IT READS IS OF BULK AT MOST 1048576: true; the input reads as it did. -/
def fnRoutesValidUptoRow : OpenClaim := { program := "ytjjbfjjmpapajaa", sum := "7b948e2da3c0cb80b78279fc5fed76cf4e45a3603f48dd6954733d1dba1fbc95", func := "loop.example/loadbalancer/laws.FnRoutesValid", spec := "fnRoutesValid", apart := false, narrowed := true }
def FnRoutesValidUptoSaid : Prop := fnRoutesValidUptoRow.holds Try.pinned (OpenSpec.upto fnRoutesValidSpec)

/-- 'laws.FnExactRouteFor', WHERE WHAT IT READS IS OF BULK AT MOST 1048576: true; the input reads as it did. -/
def fnExactRouteForUptoRow : OpenClaim := { program := "ytjjbfjjmpapajaa", sum := "7b948e2da3c0cb80b78279fc5fed76cf4e45a3603f48dd6954733d1dba1fbc95", func := "loop.example/loadbalancer/laws.FnExactRouteFor", spec := "fnExactRouteFor", apart := false, narrowed := true }
def FnExactRouteForUptoSaid : Prop := fnExactRouteForUptoRow.holds Try.pinned (OpenSpec.upto fnExactRouteForSpec)

/-- 'laws.FnRouteFor', WHERE WHAT IT READS IS OF BULK AT MOST 1048576: true; the input reads as it did. -/
def fnRouteForUptoRow : OpenClaim := { program := "ytjjbfjjmpapajaa", sum := "7b948e2da3c0cb80b78279fc5fed76cf4e45a3603f48dd6954733d1dba1fbc95", func := "loop.example/loadbalancer/laws.FnRouteFor", spec := "fnRouteFor", apart := false, narrowed := true }
def FnRouteForUptoSaid : Prop := fnRouteForUptoRow.holds Try.pinned (OpenSpec.upto fnRouteForSpec)

/-- 'laws.FnExactDropRoute', WHERE WHAT IT READS IS OF BULK AT MOST 1048576: true; the input reads as it did. -/
def fnExactDropRouteUptoRow : OpenClaim := { program := "ytjjbfjjmpapajaa", sum := "7b948e2da3c0cb80b78279fc5fed76cf4e45a3603f48dd6954733d1dba1fbc95", func := "loop.example/loadbalancer/laws.FnExactDropRoute", spec := "fnExactDropRoute", unfollowed := true, recurses := true, apart := false, narrowed := true }
def FnExactDropRouteUptoSaid : Prop := fnExactDropRouteUptoRow.holds Try.pinned (OpenSpec.upto fnExactDropRouteSpec)

/-- 'laws.FnDropRoute', WHERE WHAT IT READS IS OF BULK AT MOST 1048576: true; the input reads as it did. -/
def fnDropRouteUptoRow : OpenClaim := { program := "ytjjbfjjmpapajaa", sum := "7b948e2da3c0cb80b78279fc5fed76cf4e45a3603f48dd6954733d1dba1fbc95", func := "loop.example/loadbalancer/laws.FnDropRoute", spec := "fnDropRoute", unfollowed := true, recurses := true, apart := false, narrowed := true }
def FnDropRouteUptoSaid : Prop := fnDropRouteUptoRow.holds Try.pinned (OpenSpec.upto fnDropRouteSpec)

end Rows
end Go.Proofs.Ytjjbfjjmpapajaa
