/-
  No cell of these rows narrows 'for every input' (looked for: loops, veiled, ifaces, maps, wideKeys, modest, calm, conditions, laid).
  DERIVED. THE GIVEN ROWS OF THIS SEAT. 6 by the template 'for every input the law returns true; each argument reads behind the call as it read before'; 0 by the template 'total and deterministic' (their statements: YtdfnpcjbecbbbaaTotals.lean).
  GIVEN WITH THE SEED: the statements are not yours to turn. If you find one false, say at which input.
  Laid BY PROGRAM, IN A SANDBOX (cutbox-rows.mjs): the forced cells as the released guide's own fill.sh prints them over the translation ca52a21530c08788… (all of the seat's roots in one cut). By AI agents, Wed Nov 11 2026. No macro, syntax, notation, axiom, sorry.
-/
import Derived.Test.YtdfnpcjbecbbbaaChecked
import GoSem.Claim
import GoSem.ClaimJoined
import GoSem.ClaimMapViews
import Derived.JoinedTies
import Derived.KernelRfl
namespace Go.Proofs.Ytdfnpcjbecbbbaa
/- THE CELL 'sum', in the pinned program and in every row, IS THE sha256 OF THE DUMP (.gsa) THAT YtdfnpcjbecbbbaaProg.lean LOADS. Nothing in Lean hashes anything: it is a label: what it is worth is what the hold of that sum in a sandbox is worth. -/
noncomputable def Try.pinned : Pinned := { name := "ytdfnpcjbecbbbaa", sum := "ca52a21530c08788ecc2cb0bb54786f6aae68414d9d0c4264c7e0f8ca85ac4b1", checked := Try.checked }
namespace Rows
def none {H : Type} : Left H := { results := [], args := [] }

/-- 'laws.FnExactBusiestHost': WHATEVER THE INPUT: true; the input reads as it did. -/
def fnExactBusiestHostSpec : ChangeSpec := { name := "fnExactBusiestHost", fn := fun _ => fun
  | [d] => { results := [.lit (.bool true)], args := [d] }
  | _ => none }
def fnExactBusiestHostRow : OpenClaim := { program := "ytdfnpcjbecbbbaa", sum := "ca52a21530c08788ecc2cb0bb54786f6aae68414d9d0c4264c7e0f8ca85ac4b1", func := "loop.example/loadbalancer/laws.FnExactBusiestHost", spec := "fnExactBusiestHost", apart := false }
def FnExactBusiestHostSaid : Prop := fnExactBusiestHostRow.holds Try.pinned (OpenSpec.ofChange fnExactBusiestHostSpec)

/-- ITS FALSE NEIGHBOUR: 'it returns false'. Refute it at one input. -/
def fnExactBusiestHostWrong : ChangeSpec := { name := "fnExactBusiestHost", fn := fun _ => fun
  | [d] => { results := [.lit (.bool false)], args := [d] }
  | _ => none }
def FnExactBusiestHostWrongFalsely : Prop := fnExactBusiestHostRow.holds Try.pinned (OpenSpec.ofChange fnExactBusiestHostWrong)

/-- 'laws.FnBusiestHost': WHATEVER THE INPUT: true; the input reads as it did. -/
def fnBusiestHostSpec : ChangeSpec := { name := "fnBusiestHost", fn := fun _ => fun
  | [d] => { results := [.lit (.bool true)], args := [d] }
  | _ => none }
def fnBusiestHostRow : OpenClaim := { program := "ytdfnpcjbecbbbaa", sum := "ca52a21530c08788ecc2cb0bb54786f6aae68414d9d0c4264c7e0f8ca85ac4b1", func := "loop.example/loadbalancer/laws.FnBusiestHost", spec := "fnBusiestHost", apart := false }
def FnBusiestHostSaid : Prop := fnBusiestHostRow.holds Try.pinned (OpenSpec.ofChange fnBusiestHostSpec)

/-- ITS FALSE NEIGHBOUR: 'it returns false'. Refute it at one input. -/
def fnBusiestHostWrong : ChangeSpec := { name := "fnBusiestHost", fn := fun _ => fun
  | [d] => { results := [.lit (.bool false)], args := [d] }
  | _ => none }
def FnBusiestHostWrongFalsely : Prop := fnBusiestHostRow.holds Try.pinned (OpenSpec.ofChange fnBusiestHostWrong)

/-- 'laws.FnExactAddCounters': WHATEVER THE INPUT: true; the input reads as it did. -/
def fnExactAddCountersSpec : ChangeSpec := { name := "fnExactAddCounters", fn := fun _ => fun
  | [d1, d2] => { results := [.lit (.bool true)], args := [d1, d2] }
  | _ => none }
def fnExactAddCountersRow : OpenClaim := { program := "ytdfnpcjbecbbbaa", sum := "ca52a21530c08788ecc2cb0bb54786f6aae68414d9d0c4264c7e0f8ca85ac4b1", func := "loop.example/loadbalancer/laws.FnExactAddCounters", spec := "fnExactAddCounters", apart := false }
def FnExactAddCountersSaid : Prop := fnExactAddCountersRow.holds Try.pinned (OpenSpec.ofChange fnExactAddCountersSpec)

/-- ITS FALSE NEIGHBOUR: 'it returns false'. Refute it at one input. -/
def fnExactAddCountersWrong : ChangeSpec := { name := "fnExactAddCounters", fn := fun _ => fun
  | [d1, d2] => { results := [.lit (.bool false)], args := [d1, d2] }
  | _ => none }
def FnExactAddCountersWrongFalsely : Prop := fnExactAddCountersRow.holds Try.pinned (OpenSpec.ofChange fnExactAddCountersWrong)

/-- 'laws.FnAddCounters': WHATEVER THE INPUT: true; the input reads as it did. -/
def fnAddCountersSpec : ChangeSpec := { name := "fnAddCounters", fn := fun _ => fun
  | [d] => { results := [.lit (.bool true)], args := [d] }
  | _ => none }
def fnAddCountersRow : OpenClaim := { program := "ytdfnpcjbecbbbaa", sum := "ca52a21530c08788ecc2cb0bb54786f6aae68414d9d0c4264c7e0f8ca85ac4b1", func := "loop.example/loadbalancer/laws.FnAddCounters", spec := "fnAddCounters", apart := false }
def FnAddCountersSaid : Prop := fnAddCountersRow.holds Try.pinned (OpenSpec.ofChange fnAddCountersSpec)

/-- ITS FALSE NEIGHBOUR: 'it returns false'. Refute it at one input. -/
def fnAddCountersWrong : ChangeSpec := { name := "fnAddCounters", fn := fun _ => fun
  | [d] => { results := [.lit (.bool false)], args := [d] }
  | _ => none }
def FnAddCountersWrongFalsely : Prop := fnAddCountersRow.holds Try.pinned (OpenSpec.ofChange fnAddCountersWrong)

/-- 'laws.FnCountPackets': WHATEVER THE INPUT: true; the input reads as it did. -/
def fnCountPacketsSpec : ChangeSpec := { name := "fnCountPackets", fn := fun _ => fun
  | [d] => { results := [.lit (.bool true)], args := [d] }
  | _ => none }
def fnCountPacketsRow : OpenClaim := { program := "ytdfnpcjbecbbbaa", sum := "ca52a21530c08788ecc2cb0bb54786f6aae68414d9d0c4264c7e0f8ca85ac4b1", func := "loop.example/loadbalancer/laws.FnCountPackets", spec := "fnCountPackets", unfollowed := true, recurses := true, apart := false }
def FnCountPacketsSaid : Prop := fnCountPacketsRow.holds Try.pinned (OpenSpec.ofChange fnCountPacketsSpec)

/-- ITS FALSE NEIGHBOUR: 'it returns false'. Refute it at one input. -/
def fnCountPacketsWrong : ChangeSpec := { name := "fnCountPackets", fn := fun _ => fun
  | [d] => { results := [.lit (.bool false)], args := [d] }
  | _ => none }
def FnCountPacketsWrongFalsely : Prop := fnCountPacketsRow.holds Try.pinned (OpenSpec.ofChange fnCountPacketsWrong)

/-- 'laws.FnExactCountPackets': WHATEVER THE INPUT: true; the input reads as it did. -/
def fnExactCountPacketsSpec : ChangeSpec := { name := "fnExactCountPackets", fn := fun _ => fun
  | [d1, d2, d3] => { results := [.lit (.bool true)], args := [d1, d2, d3] }
  | _ => none }
def fnExactCountPacketsRow : OpenClaim := { program := "ytdfnpcjbecbbbaa", sum := "ca52a21530c08788ecc2cb0bb54786f6aae68414d9d0c4264c7e0f8ca85ac4b1", func := "loop.example/loadbalancer/laws.FnExactCountPackets", spec := "fnExactCountPackets", unfollowed := true, recurses := true, apart := false }
def FnExactCountPacketsSaid : Prop := fnExactCountPacketsRow.holds Try.pinned (OpenSpec.ofChange fnExactCountPacketsSpec)

/-- ITS FALSE NEIGHBOUR: 'it returns false'. Refute it at one input. -/
def fnExactCountPacketsWrong : ChangeSpec := { name := "fnExactCountPackets", fn := fun _ => fun
  | [d1, d2, d3] => { results := [.lit (.bool false)], args := [d1, d2, d3] }
  | _ => none }
def FnExactCountPacketsWrongFalsely : Prop := fnExactCountPacketsRow.holds Try.pinned (OpenSpec.ofChange fnExactCountPacketsWrong)

/- THE SECOND FORM. 'bulk': how many values and letters a reading holds, each counted each time it is reached (what is shared counts as often as it is met; a slice's spare places count too). A statement '..UptoSaid' is the law's where the arguments, and the package variables that the reading takes, are together of bulk at most 1048576: NARROWER than '..Said'. Prove '..Said' where nothing that the law and all that it calls make is longer than what came in: it says more and counts as full. Else prove '..UptoSaid'. A law counts once. -/
mutual
def uptoBulk {H : Type} : DataW H → Nat
  | .lit (.string bytes) => bytes.length + 1
  | .lit _ => 1
  | .nil => 1
  | .ptr d => uptoBulk d + 1
  | .slice elems spare => uptoBulkAll elems + uptoBulkAll spare + 1
  | .agg parts => uptoBulkAll parts + 1
  | .iface _ d => uptoBulk d + 1
  | .map entries => uptoBulkEntries entries + 1
  | .held _ => 1
def uptoBulkAll {H : Type} : List (DataW H) → Nat
  | [] => 0
  | d :: r => uptoBulk d + uptoBulkAll r
def uptoBulkEntries {H : Type} : List (Lit × DataW H) → Nat
  | [] => 0
  | x :: r => uptoBulkEntry x + uptoBulkEntries r
def uptoBulkEntry {H : Type} : Lit × DataW H → Nat
  | (.string bytes, d) => bytes.length + uptoBulk d + 1
  | (_, d) => uptoBulk d + 1
 end
def uptoSmall : (H : Type) → List (DataW H) → Bool := fun _ ds => decide (uptoBulkAll ds ≤ 1048576)
def OpenSpec.upto (s : _root_.Go.ChangeSpec) : _root_.Go.OpenSpec := { _root_.Go.OpenSpec.ofChange s with cond := some uptoSmall }

/-- 'laws.FnExactBusiestHost', WHERE WHAT IT READS IS OF BULK AT MOST 1048576: true; the input reads as it did. -/
def fnExactBusiestHostUptoRow : OpenClaim := { program := "ytdfnpcjbecbbbaa", sum := "ca52a21530c08788ecc2cb0bb54786f6aae68414d9d0c4264c7e0f8ca85ac4b1", func := "loop.example/loadbalancer/laws.FnExactBusiestHost", spec := "fnExactBusiestHost", apart := false, narrowed := true }
def FnExactBusiestHostUptoSaid : Prop := fnExactBusiestHostUptoRow.holds Try.pinned (OpenSpec.upto fnExactBusiestHostSpec)

/-- 'laws.FnBusiestHost', WHERE WHAT IT READS IS OF BULK AT MOST 1048576: true; the input reads as it did. -/
def fnBusiestHostUptoRow : OpenClaim := { program := "ytdfnpcjbecbbbaa", sum := "ca52a21530c08788ecc2cb0bb54786f6aae68414d9d0c4264c7e0f8ca85ac4b1", func := "loop.example/loadbalancer/laws.FnBusiestHost", spec := "fnBusiestHost", apart := false, narrowed := true }
def FnBusiestHostUptoSaid : Prop := fnBusiestHostUptoRow.holds Try.pinned (OpenSpec.upto fnBusiestHostSpec)

/-- 'laws.FnExactAddCounters', WHERE WHAT IT READS IS OF BULK AT MOST 1048576: true; the input reads as it did. -/
def fnExactAddCountersUptoRow : OpenClaim := { program := "ytdfnpcjbecbbbaa", sum := "ca52a21530c08788ecc2cb0bb54786f6aae68414d9d0c4264c7e0f8ca85ac4b1", func := "loop.example/loadbalancer/laws.FnExactAddCounters", spec := "fnExactAddCounters", apart := false, narrowed := true }
def FnExactAddCountersUptoSaid : Prop := fnExactAddCountersUptoRow.holds Try.pinned (OpenSpec.upto fnExactAddCountersSpec)

/-- 'laws.FnAddCounters', WHERE WHAT IT READS IS OF BULK AT MOST 1048576: true; the input reads as it did. -/
def fnAddCountersUptoRow : OpenClaim := { program := "ytdfnpcjbecbbbaa", sum := "ca52a21530c08788ecc2cb0bb54786f6aae68414d9d0c4264c7e0f8ca85ac4b1", func := "loop.example/loadbalancer/laws.FnAddCounters", spec := "fnAddCounters", apart := false, narrowed := true }
def FnAddCountersUptoSaid : Prop := fnAddCountersUptoRow.holds Try.pinned (OpenSpec.upto fnAddCountersSpec)

/-- 'laws.FnCountPackets', WHERE WHAT IT READS IS OF BULK AT MOST 1048576: true; the input reads as it did. -/
def fnCountPacketsUptoRow : OpenClaim := { program := "ytdfnpcjbecbbbaa", sum := "ca52a21530c08788ecc2cb0bb54786f6aae68414d9d0c4264c7e0f8ca85ac4b1", func := "loop.example/loadbalancer/laws.FnCountPackets", spec := "fnCountPackets", unfollowed := true, recurses := true, apart := false, narrowed := true }
def FnCountPacketsUptoSaid : Prop := fnCountPacketsUptoRow.holds Try.pinned (OpenSpec.upto fnCountPacketsSpec)

/-- 'laws.FnExactCountPackets', WHERE WHAT IT READS IS OF BULK AT MOST 1048576: true; the input reads as it did. -/
def fnExactCountPacketsUptoRow : OpenClaim := { program := "ytdfnpcjbecbbbaa", sum := "ca52a21530c08788ecc2cb0bb54786f6aae68414d9d0c4264c7e0f8ca85ac4b1", func := "loop.example/loadbalancer/laws.FnExactCountPackets", spec := "fnExactCountPackets", unfollowed := true, recurses := true, apart := false, narrowed := true }
def FnExactCountPacketsUptoSaid : Prop := fnExactCountPacketsUptoRow.holds Try.pinned (OpenSpec.upto fnExactCountPacketsSpec)

end Rows
end Go.Proofs.Ytdfnpcjbecbbbaa
