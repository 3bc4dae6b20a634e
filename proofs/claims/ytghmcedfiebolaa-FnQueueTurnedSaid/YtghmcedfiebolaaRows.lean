/-
  No cell of these rows narrows 'for every input' (looked for: loops, veiled, ifaces, maps, wideKeys, modest, calm, conditions, laid).
  DERIVED. THE GIVEN ROWS OF THIS SEAT. 7 by the template 'for every input the law returns true; each argument reads behind the call as it read before'; 0 by the template 'total and deterministic' (their statements: YtghmcedfiebolaaTotals.lean).
  GIVEN WITH THE SEED: the statements are not yours to turn. If you find one false, say at which input.
  Laid BY PROGRAM, IN A SANDBOX (cutbox-rows.mjs): the forced cells as the released guide's own fill.sh prints them over the translation 4a19af9a97e8ea1c… (all of the seat's roots in one cut). By AI agents, Wed Nov 11 2026. No macro, syntax, notation, axiom, sorry.
-/
import Derived.Test.YtghmcedfiebolaaChecked
import GoSem.Claim
import GoSem.ClaimJoined
import GoSem.ClaimMapViews
import Derived.JoinedTies
import Derived.KernelRfl
namespace Go.Proofs.Ytghmcedfiebolaa
/- THE CELL 'sum', in the pinned program and in every row, IS THE sha256 OF THE DUMP (.gsa) THAT YtghmcedfiebolaaProg.lean LOADS. Nothing in Lean hashes anything: it is a label: what it is worth is what the hold of that sum in a sandbox is worth. -/
noncomputable def Try.pinned : Pinned := { name := "ytghmcedfiebolaa", sum := "4a19af9a97e8ea1cd463e114a30661d04fe87db86bc3274319919be03ae615cd", checked := Try.checked }
namespace Rows
def none {H : Type} : Left H := { results := [], args := [] }

/-- 'laws.FnExactQueuesValid': WHATEVER THE INPUT: true; the input reads as it did. -/
def fnExactQueuesValidSpec : ChangeSpec := { name := "fnExactQueuesValid", fn := fun _ => fun
  | [d1, d2] => { results := [.lit (.bool true)], args := [d1, d2] }
  | _ => none }
def fnExactQueuesValidRow : OpenClaim := { program := "ytghmcedfiebolaa", sum := "4a19af9a97e8ea1cd463e114a30661d04fe87db86bc3274319919be03ae615cd", func := "loop.example/loadbalancer/laws.FnExactQueuesValid", spec := "fnExactQueuesValid", apart := false }
def FnExactQueuesValidSaid : Prop := fnExactQueuesValidRow.holds Try.pinned (OpenSpec.ofChange fnExactQueuesValidSpec)

/-- ITS FALSE NEIGHBOUR: 'it returns false'. Refute it at one input. -/
def fnExactQueuesValidWrong : ChangeSpec := { name := "fnExactQueuesValid", fn := fun _ => fun
  | [d1, d2] => { results := [.lit (.bool false)], args := [d1, d2] }
  | _ => none }
def FnExactQueuesValidWrongFalsely : Prop := fnExactQueuesValidRow.holds Try.pinned (OpenSpec.ofChange fnExactQueuesValidWrong)

/-- 'laws.FnQueuesValid': WHATEVER THE INPUT: true; the input reads as it did. -/
def fnQueuesValidSpec : ChangeSpec := { name := "fnQueuesValid", fn := fun _ => fun
  | [d] => { results := [.lit (.bool true)], args := [d] }
  | _ => none }
def fnQueuesValidRow : OpenClaim := { program := "ytghmcedfiebolaa", sum := "4a19af9a97e8ea1cd463e114a30661d04fe87db86bc3274319919be03ae615cd", func := "loop.example/loadbalancer/laws.FnQueuesValid", spec := "fnQueuesValid", apart := false }
def FnQueuesValidSaid : Prop := fnQueuesValidRow.holds Try.pinned (OpenSpec.ofChange fnQueuesValidSpec)

/-- ITS FALSE NEIGHBOUR: 'it returns false'. Refute it at one input. -/
def fnQueuesValidWrong : ChangeSpec := { name := "fnQueuesValid", fn := fun _ => fun
  | [d] => { results := [.lit (.bool false)], args := [d] }
  | _ => none }
def FnQueuesValidWrongFalsely : Prop := fnQueuesValidRow.holds Try.pinned (OpenSpec.ofChange fnQueuesValidWrong)

/-- 'laws.FnQueueOrder': WHATEVER THE INPUT: true; the input reads as it did. -/
def fnQueueOrderSpec : ChangeSpec := { name := "fnQueueOrder", fn := fun _ => fun
  | [d] => { results := [.lit (.bool true)], args := [d] }
  | _ => none }
def fnQueueOrderRow : OpenClaim := { program := "ytghmcedfiebolaa", sum := "4a19af9a97e8ea1cd463e114a30661d04fe87db86bc3274319919be03ae615cd", func := "loop.example/loadbalancer/laws.FnQueueOrder", spec := "fnQueueOrder", apart := false }
def FnQueueOrderSaid : Prop := fnQueueOrderRow.holds Try.pinned (OpenSpec.ofChange fnQueueOrderSpec)

/-- ITS FALSE NEIGHBOUR: 'it returns false'. Refute it at one input. -/
def fnQueueOrderWrong : ChangeSpec := { name := "fnQueueOrder", fn := fun _ => fun
  | [d] => { results := [.lit (.bool false)], args := [d] }
  | _ => none }
def FnQueueOrderWrongFalsely : Prop := fnQueueOrderRow.holds Try.pinned (OpenSpec.ofChange fnQueueOrderWrong)

/-- 'laws.FnQueueTurned': WHATEVER THE INPUT: true; the input reads as it did. -/
def fnQueueTurnedSpec : ChangeSpec := { name := "fnQueueTurned", fn := fun _ => fun
  | [d] => { results := [.lit (.bool true)], args := [d] }
  | _ => none }
def fnQueueTurnedRow : OpenClaim := { program := "ytghmcedfiebolaa", sum := "4a19af9a97e8ea1cd463e114a30661d04fe87db86bc3274319919be03ae615cd", func := "loop.example/loadbalancer/laws.FnQueueTurned", spec := "fnQueueTurned", apart := false }
def FnQueueTurnedSaid : Prop := fnQueueTurnedRow.holds Try.pinned (OpenSpec.ofChange fnQueueTurnedSpec)

/-- ITS FALSE NEIGHBOUR: 'it returns false'. Refute it at one input. -/
def fnQueueTurnedWrong : ChangeSpec := { name := "fnQueueTurned", fn := fun _ => fun
  | [d] => { results := [.lit (.bool false)], args := [d] }
  | _ => none }
def FnQueueTurnedWrongFalsely : Prop := fnQueueTurnedRow.holds Try.pinned (OpenSpec.ofChange fnQueueTurnedWrong)

/-- 'laws.FnExactQueueBytes': WHATEVER THE INPUT: true; the input reads as it did. -/
def fnExactQueueBytesSpec : ChangeSpec := { name := "fnExactQueueBytes", fn := fun _ => fun
  | [d1, d2, d3, d4] => { results := [.lit (.bool true)], args := [d1, d2, d3, d4] }
  | _ => none }
def fnExactQueueBytesRow : OpenClaim := { program := "ytghmcedfiebolaa", sum := "4a19af9a97e8ea1cd463e114a30661d04fe87db86bc3274319919be03ae615cd", func := "loop.example/loadbalancer/laws.FnExactQueueBytes", spec := "fnExactQueueBytes", apart := false }
def FnExactQueueBytesSaid : Prop := fnExactQueueBytesRow.holds Try.pinned (OpenSpec.ofChange fnExactQueueBytesSpec)

/-- ITS FALSE NEIGHBOUR: 'it returns false'. Refute it at one input. -/
def fnExactQueueBytesWrong : ChangeSpec := { name := "fnExactQueueBytes", fn := fun _ => fun
  | [d1, d2, d3, d4] => { results := [.lit (.bool false)], args := [d1, d2, d3, d4] }
  | _ => none }
def FnExactQueueBytesWrongFalsely : Prop := fnExactQueueBytesRow.holds Try.pinned (OpenSpec.ofChange fnExactQueueBytesWrong)

/-- 'laws.FnQueueBytes': WHATEVER THE INPUT: true; the input reads as it did. -/
def fnQueueBytesSpec : ChangeSpec := { name := "fnQueueBytes", fn := fun _ => fun
  | [d] => { results := [.lit (.bool true)], args := [d] }
  | _ => none }
def fnQueueBytesRow : OpenClaim := { program := "ytghmcedfiebolaa", sum := "4a19af9a97e8ea1cd463e114a30661d04fe87db86bc3274319919be03ae615cd", func := "loop.example/loadbalancer/laws.FnQueueBytes", spec := "fnQueueBytes", apart := false }
def FnQueueBytesSaid : Prop := fnQueueBytesRow.holds Try.pinned (OpenSpec.ofChange fnQueueBytesSpec)

/-- ITS FALSE NEIGHBOUR: 'it returns false'. Refute it at one input. -/
def fnQueueBytesWrong : ChangeSpec := { name := "fnQueueBytes", fn := fun _ => fun
  | [d] => { results := [.lit (.bool false)], args := [d] }
  | _ => none }
def FnQueueBytesWrongFalsely : Prop := fnQueueBytesRow.holds Try.pinned (OpenSpec.ofChange fnQueueBytesWrong)

/-- 'laws.FnExactQueueOrder': WHATEVER THE INPUT: true; the input reads as it did. -/
def fnExactQueueOrderSpec : ChangeSpec := { name := "fnExactQueueOrder", fn := fun _ => fun
  | [d1, d2] => { results := [.lit (.bool true)], args := [d1, d2] }
  | _ => none }
def fnExactQueueOrderRow : OpenClaim := { program := "ytghmcedfiebolaa", sum := "4a19af9a97e8ea1cd463e114a30661d04fe87db86bc3274319919be03ae615cd", func := "loop.example/loadbalancer/laws.FnExactQueueOrder", spec := "fnExactQueueOrder", apart := false }
def FnExactQueueOrderSaid : Prop := fnExactQueueOrderRow.holds Try.pinned (OpenSpec.ofChange fnExactQueueOrderSpec)

/-- ITS FALSE NEIGHBOUR: 'it returns false'. Refute it at one input. -/
def fnExactQueueOrderWrong : ChangeSpec := { name := "fnExactQueueOrder", fn := fun _ => fun
  | [d1, d2] => { results := [.lit (.bool false)], args := [d1, d2] }
  | _ => none }
def FnExactQueueOrderWrongFalsely : Prop := fnExactQueueOrderRow.holds Try.pinned (OpenSpec.ofChange fnExactQueueOrderWrong)

/- THE SECOND FORM. 'bulk': how many values and letters a reading holds, each counted each time it is reached (what is shared counts as often as it is met; a slice's spare places count too). A statement '..UptoSaid' is the law's where the arguments, and the package variables that the reading takes, are together of bulk at most 1048576: NARROWER than '..Said'. Prove '..Said' where nothing that the law and all that it calls make is longer than what came in: it says more and counts as full. Else prove '..UptoSaid'. A law counts once. -/
mutual
def uptoBulk {H : Type} : DataW H → Nat
  | .lit (.string bytes) => bytes.length + 1
  | .lit _ => 1
  | .nil => 1
  | .ptr d => uptoBulk d + 1
  | .slice elems spare => uptoBulkAll elems + uptoBulkAll spare + 1
  | .agg parts => uptoBulkAll parts + 1
  | .iface _ d => uptoBulk d + 1
  | .map entries => uptoBulkEntries entries + 1
  | .held _ => 1
def uptoBulkAll {H : Type} : List (DataW H) → Nat
  | [] => 0
  | d :: r => uptoBulk d + uptoBulkAll r
def uptoBulkEntries {H : Type} : List (Lit × DataW H) → Nat
  | [] => 0
  | x :: r => uptoBulkEntry x + uptoBulkEntries r
def uptoBulkEntry {H : Type} : Lit × DataW H → Nat
  | (.string bytes, d) => bytes.length + uptoBulk d + 1
  | (_, d) => uptoBulk d + 1
 end
def uptoSmall : (H : Type) → List (DataW H) → Bool := fun _ ds => decide (uptoBulkAll ds ≤ 1048576)
def OpenSpec.upto (s : _root_.Go.ChangeSpec) : _root_.Go.OpenSpec := { _root_.Go.OpenSpec.ofChange s with cond := some uptoSmall }

/-- 'laws.FnExactQueuesValid', WHERE WHAT IT READS IS OF BULK AT MOST 1048576: true; the input reads as it did. -/
def fnExactQueuesValidUptoRow : OpenClaim := { program := "ytghmcedfiebolaa", sum := "4a19af9a97e8ea1cd463e114a30661d04fe87db86bc3274319919be03ae615cd", func := "loop.example/loadbalancer/laws.FnExactQueuesValid", spec := "fnExactQueuesValid", apart := false, narrowed := true }
def FnExactQueuesValidUptoSaid : Prop := fnExactQueuesValidUptoRow.holds Try.pinned (OpenSpec.upto fnExactQueuesValidSpec)

/-- 'laws.FnQueuesValid', WHERE WHAT IT READS IS OF BULK AT MOST 1048576: true; the input reads as it did. -/
def fnQueuesValidUptoRow : OpenClaim := { program := "ytghmcedfiebolaa", sum := "4a19af9a97e8ea1cd463e114a30661d04fe87db86bc3274319919be03ae615cd", func := "loop.example/loadbalancer/laws.FnQueuesValid", spec := "fnQueuesValid", apart := false, narrowed := true }
def FnQueuesValidUptoSaid : Prop := fnQueuesValidUptoRow.holds Try.pinned (OpenSpec.upto fnQueuesValidSpec)

/-- 'laws.FnQueueOrder', WHERE WHAT IT READS IS OF BULK AT MOST 1048576: true; the input reads as it did. -/
def fnQueueOrderUptoRow : OpenClaim := { program := "ytghmcedfiebolaa", sum := "4a19af9a97e8ea1cd463e114a30661d04fe87db86bc3274319919be03ae615cd", func := "loop.example/loadbalancer/laws.FnQueueOrder", spec := "fnQueueOrder", apart := false, narrowed := true }
def FnQueueOrderUptoSaid : Prop := fnQueueOrderUptoRow.holds Try.pinned (OpenSpec.upto fnQueueOrderSpec)

/-- 'laws.FnQueueTurned', WHERE WHAT IT READS IS OF BULK AT MOST 1048576: true; the input reads as it did. -/
def fnQueueTurnedUptoRow : OpenClaim := { program := "ytghmcedfiebolaa", sum := "4a19af9a97e8ea1cd463e114a30661d04fe87db86bc3274319919be03ae615cd", func := "loop.example/loadbalancer/laws.FnQueueTurned", spec := "fnQueueTurned", apart := false, narrowed := true }
def FnQueueTurnedUptoSaid : Prop := fnQueueTurnedUptoRow.holds Try.pinned (OpenSpec.upto fnQueueTurnedSpec)

/-- 'laws.FnExactQueueBytes', WHERE WHAT IT READS IS OF BULK AT MOST 1048576: true; the input reads as it did. -/
def fnExactQueueBytesUptoRow : OpenClaim := { program := "ytghmcedfiebolaa", sum := "4a19af9a97e8ea1cd463e114a30661d04fe87db86bc3274319919be03ae615cd", func := "loop.example/loadbalancer/laws.FnExactQueueBytes", spec := "fnExactQueueBytes", apart := false, narrowed := true }
def FnExactQueueBytesUptoSaid : Prop := fnExactQueueBytesUptoRow.holds Try.pinned (OpenSpec.upto fnExactQueueBytesSpec)

/-- 'laws.FnQueueBytes', WHERE WHAT IT READS IS OF BULK AT MOST 1048576: true; the input reads as it did. -/
def fnQueueBytesUptoRow : OpenClaim := { program := "ytghmcedfiebolaa", sum := "4a19af9a97e8ea1cd463e114a30661d04fe87db86bc3274319919be03ae615cd", func := "loop.example/loadbalancer/laws.FnQueueBytes", spec := "fnQueueBytes", apart := false, narrowed := true }
def FnQueueBytesUptoSaid : Prop := fnQueueBytesUptoRow.holds Try.pinned (OpenSpec.upto fnQueueBytesSpec)

/-- 'laws.FnExactQueueOrder', WHERE WHAT IT READS IS OF BULK AT MOST 1048576: true; the input reads as it did. -/
def fnExactQueueOrderUptoRow : OpenClaim := { program := "ytghmcedfiebolaa", sum := "4a19af9a97e8ea1cd463e114a30661d04fe87db86bc3274319919be03ae615cd", func := "loop.example/loadbalancer/laws.FnExactQueueOrder", spec := "fnExactQueueOrder", apart := false, narrowed := true }
def FnExactQueueOrderUptoSaid : Prop := fnExactQueueOrderUptoRow.holds Try.pinned (OpenSpec.upto fnExactQueueOrderSpec)

end Rows
end Go.Proofs.Ytghmcedfiebolaa
