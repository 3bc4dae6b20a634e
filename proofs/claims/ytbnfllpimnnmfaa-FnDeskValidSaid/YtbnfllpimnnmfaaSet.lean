/-
  Sets of flows that a call has made: what stands in one, asked and put in.
-/
import Derived.Test.YtbnfllpimnnmfaaMem
import Derived.Test.YtbnfllpimnnmfaaBase
import Derived.Maps.OwnSet
import Derived.DeepKeys4
namespace Go.Proofs.Ytbnfllpimnnmfaa
open Go Go.ChangeShapes Go.WideShapes Go.RowKit
open Go.WideMaps (KeyLaw)
open Go.ChangeMaps (setBlock)

theorem set_laid : laidOutB Try.prog = true := by kernel_rfl
theorem set_row : (59 : TypeId) < Try.prog.types.size := of_decide_eq_true (by kernel_rfl)
theorem set_wide : (match Try.prog.underlying 59 with | some (.array _ _) | some (.struct _) => true | _ => false) = true := by rw [Try.underlying59]
theorem set_key : Try.prog.keyType 59 = true := by kernel_rfl
set_option maxRecDepth 100000 in
theorem set_keyed : Maps.Keyed Try.prog 59 := Maps.Keyed.of_law (deep_law_laid set_laid (m := 2) (by omega) set_row (by kernel_rfl) set_wide)
theorem set_zero (w : World) : (zeroValue 4).run Try.prog w = .ok (.bool false) w := by kernel_rfl
theorem set_cells : Try.prog.cellsOf 59 = 5 := by kernel_rfl
theorem set_cells1 : Try.prog.cellsOf 3 = 1 := by kernel_rfl

/-- A flow as a value. -/
def flv (a b c d e : Int) : Value := .agg #[.int .i64 a, .int .i64 b, .int .i64 c, .int .i64 d, .int .i64 e]
def wf5 (a b c d e : Int) : Prop := (Lit.int .i64 a).wf = true ∧ (Lit.int .i64 b).wf = true ∧ (Lit.int .i64 c).wf = true ∧ (Lit.int .i64 d).wf = true ∧ (Lit.int .i64 e).wf = true
theorem wf_int {a lo hi : Int} (h : inB a lo hi = true) (hlo : 0 ≤ lo) (hhi : hi ≤ 1000000) : (Lit.int .i64 a).wf = true := by
  simp only [inB, Bool.and_eq_true, decide_eq_true_eq] at h
  simp [Lit.wf, IntKind.min, IntKind.max, IntKind.signed, IntKind.bits]
  omega
theorem key5 {P : Program} {k t : TypeId} {f0 f1 f2 f3 f4 : Field} (hk : P.underlying k = some (.struct #[f0, f1, f2, f3, f4]))
    (t0 : f0.type = t) (t1 : f1.type = t) (t2 : f2.type = t) (t3 : f3.type = t) (t4 : f4.type = t) (o0 : f0.offset = 0) (o1 : f1.offset = 1) (o2 : f2.offset = 2) (o3 : f3.offset = 3) (o4 : f4.offset = 4)
    (hn : (#[f0, f1, f2, f3, f4] : Array Field).all (·.name != "_") = true) (ht : P.underlying t = some (.int .i64)) (hkey : P.keyType k = true) (hc : P.cellsOf k = 5) (hc1 : P.cellsOf t = 1) (hs : k < P.types.size)
    {a b c d e : Int} (h : wf5 a b c d e) : keyOf P k (flv a b c d e) = some (.string (keyBytes [.int .i64 a, .int .i64 b, .int .i64 c, .int .i64 d, .int .i64 e])) := by
  obtain ⟨h1, h2, h3, h4, h5⟩ := h
  have hl : ∀ n x, (Lit.int .i64 x).wf = true → P.keyLits (n + 1) t [.int .i64 x] = some [.int .i64 x] := by
    intro n x hx
    simp [Program.keyLits, ht, hx]
  obtain ⟨n, hz⟩ := Nat.exists_eq_succ_of_ne_zero (Nat.ne_of_gt (Nat.lt_of_le_of_lt (Nat.zero_le _) hs))
  have hfo : (flv a b c d e).formed P k = true := by simp [flv, Value.formed, hk, hc]
  have hce : (flv a b c d e).cells.toList = [.int .i64 a, .int .i64 b, .int .i64 c, .int .i64 d, .int .i64 e] := by simp [flv, Value.cells]
  have hkl : P.keyLits (n + 1 + 1) k [.int .i64 a, .int .i64 b, .int .i64 c, .int .i64 d, .int .i64 e] = some [.int .i64 a, .int .i64 b, .int .i64 c, .int .i64 d, .int .i64 e] := by
    rw [Program.keyLits.eq_def]
    simp only [hk, hc, hn]
    simp [t0, t1, t2, t3, t4, o0, o1, o2, o3, o4, hc1, hl, h1, h2, h3, h4, h5]
  unfold keyOf
  simp only [hk, hkey, hfo, hce, hz, hkl]
  rfl
theorem flv_key {a b c d e : Int} (h : wf5 a b c d e) : ∃ l, keyOf Try.prog 59 (flv a b c d e) = some l :=
  ⟨_, key5 Try.underlying59 rfl rfl rfl rfl rfl rfl rfl rfl rfl rfl (by kernel_rfl) Try.underlying3 set_key set_cells set_cells1 set_row h⟩

/-- Block b of w is a set of at most n flows: S says which. -/
def FSet (w : World) (b n : Nat) (S : Int → Int → Int → Int → Int → Bool) : Prop :=
  ∃ D : DataW Unit, w.ownsMap Try.prog 59 (plainElem Try.prog 4) b n D ∧ Maps.IsMap D ∧
    ∀ x0 x1 x2 x3 x4 l, keyOf Try.prog 59 (flv x0 x1 x2 x3 x4) = some l → D.atKey l (.lit (.bool false)) = .lit (.bool (S x0 x1 x2 x3 x4))

theorem FSet.made (w : World) : FSet (w.alloc (.map #[] 0)) w.heap.size 0 fun _ _ _ _ _ => false :=
  ⟨.map [], World.ownsMap_made w _ _ _, Maps.isMap_empty, fun _ _ _ _ _ _ _ => rfl⟩
theorem FSet.lt {w : World} {b n : Nat} {S : Int → Int → Int → Int → Int → Bool} (h : FSet w b n S) : b < w.heap.size := by
  obtain ⟨D, h, _⟩ := h
  exact h.lt
theorem FSet.below {w w' : World} {b n : Nat} {S : Int → Int → Int → Int → Int → Bool} (h : FSet w b n S) (hb : Below w.heap.size w w') : FSet w' b n S := by
  have hlt := h.lt
  obtain ⟨D, ⟨es, clock, hbl, r⟩, h2⟩ := h
  exact ⟨D, ⟨es, clock, (hb.block b hlt).trans hbl, r⟩, h2⟩
theorem FSet.ask {w : World} {b n : Nat} {S : Int → Int → Int → Int → Int → Bool} (h : FSet w b n S) {x0 x1 x2 x3 x4 : Int} (hw : wf5 x0 x1 x2 x3 x4) :
    (Instr.lookup 79 (.map (some b)) (.agg #[.int .i64 x0, .int .i64 x1, .int .i64 x2, .int .i64 x3, .int .i64 x4]) false).run Try.prog w = .ok (.bool (S x0 x1 x2 x3 x4)) w := by
  obtain ⟨D, h1, _, h3⟩ := h
  obtain ⟨l, hl⟩ := flv_key hw
  obtain ⟨v, ps, hr, hv⟩ := h1.lookup set_keyed Try.underlying79 (set_zero w) (plainElem_bool Try.underlying4 false) hl
  rw [h3 _ _ _ _ _ _ hl] at hv
  have e : v = .bool (S x0 x1 x2 x3 x4) := by
    simp only [plainElem, Try.underlying4] at hv
    split at hv <;> simp_all
  rw [← e]
  exact hr
theorem flv_inj {a b c d e a' b' c' d' e' : Int} {l : Lit} (h : keyOf Try.prog 59 (flv a b c d e) = some l) (h' : keyOf Try.prog 59 (flv a' b' c' d' e') = some l) : a = a' ∧ b = b' ∧ c = c' ∧ d = d' ∧ e = e' := by
  have := set_keyed.inj h h'
  simpa [flv] using this
/-- What stands in the set once the flow is put in. -/
def put5 (S : Int → Int → Int → Int → Int → Bool) (x0 x1 x2 x3 x4 : Int) : Int → Int → Int → Int → Int → Bool :=
  fun a b c d e => if a = x0 ∧ b = x1 ∧ c = x2 ∧ d = x3 ∧ e = x4 then true else S a b c d e
theorem FSet.tell {w : World} {b n : Nat} {S : Int → Int → Int → Int → Int → Bool} (h : FSet w b n S) (hn : n < maxLen) {x0 x1 x2 x3 x4 : Int} (hw : wf5 x0 x1 x2 x3 x4) :
    ∃ w', (Instr.mapUpdate 79 (.map (some b)) (.agg #[.int .i64 x0, .int .i64 x1, .int .i64 x2, .int .i64 x3, .int .i64 x4]) (.bool true)).run Try.prog w = .ok () w' ∧ FSet w' b (n + 1) (put5 S x0 x1 x2 x3 x4) ∧ w.grownBy w' (some b) := by
  obtain ⟨D, h1, h2, h3⟩ := h
  obtain ⟨l, hl⟩ := flv_key hw
  obtain ⟨w', hr, ho, hg⟩ := h1.update set_keyed Try.underlying79 hn hl (plainElem_bool Try.underlying4 true)
  refine ⟨w', hr, ⟨_, ho, h2.put _ _, fun a b c d e l' hl' => ?_⟩, hg⟩
  by_cases he : l' = l
  · subst he
    obtain ⟨rfl, rfl, rfl, rfl, rfl⟩ := flv_inj hl hl'
    rw [Maps.atKey_put_same h2 (set_keyed.key hl)]
    simp [put5]
  · rw [Maps.atKey_put_other he, h3 _ _ _ _ _ _ hl']
    have hne : ¬ (a = x0 ∧ b = x1 ∧ c = x2 ∧ d = x3 ∧ e = x4) := by
      rintro ⟨rfl, rfl, rfl, rfl, rfl⟩
      rw [hl] at hl'
      exact he (Option.some.inj hl').symm
    simp [put5, hne]

/-- A store into the set, at the operation. -/
theorem wpList_tell {w : World} {ops : Array Oper} {rest : List Oper} {o : Oper} {a : Act} {Q : Exit → Act → World → Prop}
    (hg : o.guard = none) (m x v : Operand) (hop : o.op = Op.mapUpdate 79 m x v) {b n : Nat} {S : Int → Int → Int → Int → Int → Bool}
    (hm : a.eval m = .map (some b)) (h : FSet w b n S) (hn : n < maxLen) {x0 x1 x2 x3 x4 : Int} (hx : a.eval x = .agg #[.int .i64 x0, .int .i64 x1, .int .i64 x2, .int .i64 x3, .int .i64 x4]) (hv : a.eval v = .bool true) (hw : wf5 x0 x1 x2 x3 x4)
    (hK : ∀ w', FSet w' b (n + 1) (put5 S x0 x1 x2 x3 x4) → w.grownBy w' (some b) → wpList Try.prog ops Q rest (a.put o.dst undef) w') :
    wpList Try.prog ops Q (o :: rest) a w := by
  refine wpList_plain hg fun K' hK' => ?_
  obtain ⟨w', hrun, r1, r2⟩ := h.tell hn hw
  unfold Oper.wp
  simp [execOp, hop, hm, hx, hv, hrun, Result.andThen]
  exact hK' _ _ (hK w' r1 r2)
end Go.Proofs.Ytbnfllpimnnmfaa
