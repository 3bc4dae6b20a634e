/-
  Slices that a draw makes: rows of plain cells, appended one by one; the reader's block lies apart.
-/
import Derived.Test.YtbnfllpimnnmfaaOwn
import Derived.Test.YtbnfllpimnnmfaaReg
namespace Go.Proofs.Ytbnfllpimnnmfaa
open Go Go.RowKit

/-- A growing slice of n rows of plain cells. -/
def PAcc (w : World) (B : Nat) (t : TypeId) (ks : List Bool) (v : Value) (n : Nat) : Prop := ∃ R, (∀ i, Plain ks (R i)) ∧ Acc w B t ks.length v n R
/-- A slice of n rows of plain cells. -/
def PList (w : World) (B : Nat) (t : TypeId) (ks : List Bool) (v : Value) (n : Nat) : Prop := ∃ A c R, v = .slice A n c ∧ (∀ i, Plain ks (R i)) ∧ Own w B t ks.length A n c R

section
variable {w w' : World} {B : Nat} {t : TypeId} {ks : List Bool} {v : Value} {n : Nat}
theorem PAcc.made (w : World) (t : TypeId) (ks : List Bool) (hB : B ≤ w.heap.size) : PAcc (w.alloc (.cells #[] t)) B t ks (.slice (some ⟨w.heap.size, 0, none⟩) 0 0) 0 :=
  ⟨fun _ => zeros ks, fun _ => plain_zeros ks, Acc.made w t _ (fun _ => (plain_zeros ks).length) hB⟩
theorem PAcc.list (h : PAcc w B t ks v n) : PList w B t ks v n := by
  obtain ⟨R, h1, h2⟩ := h
  obtain ⟨A, c, rfl, h3⟩ := h2.own
  exact ⟨A, c, R, rfl, h1, h3⟩
theorem PAcc.next (h : PAcc w B t ks v n) (hb : Below w.heap.size w w') : PAcc w' B t ks v n := by
  obtain ⟨R, h1, h2⟩ := h
  exact ⟨R, h1, h2.next hb⟩
theorem PAcc.far {g : Nat} (h : PAcc w B t ks v n) (hg : w.grownBy w' (some g)) (hl : g < B) : PAcc w' B t ks v n := by
  obtain ⟨R, h1, h2⟩ := h
  refine ⟨R, h1, h2.kept hg ?_⟩
  cases hv : v.ownBlock with
  | none => exact .inl rfl
  | some k =>
    have := h2.block k hv
    exact .inr (by simp; omega)
theorem PAcc.away {k : Nat} (h : PAcc w B t ks v n) (hg : w.grownBy w' (some k)) (hk : v.ownBlock ≠ some k) : PAcc w' B t ks v n := by
  obtain ⟨R, h1, h2⟩ := h
  exact ⟨R, h1, h2.kept hg (.inr hk)⟩
theorem PAcc.block (h : PAcc w B t ks v n) : ∀ k, v.ownBlock = some k → B ≤ k ∧ k < w.heap.size := by
  obtain ⟨R, h1, h2⟩ := h
  exact h2.block
theorem PAcc.form (h : PAcc w B t ks v n) : ∃ A c, v = .slice A n c ∧ n ≤ c ∧ c ≤ maxLen := by
  obtain ⟨R, h1, h2⟩ := h
  exact h2.form
theorem PList.far {g : Nat} (h : PList w B t ks v n) (hg : w.grownBy w' (some g)) (hl : g < B) : PList w' B t ks v n := by
  obtain ⟨A, c, R, rfl, h1, h2⟩ := h
  exact ⟨A, c, R, rfl, h1, h2.keep fun k hk hlt _ => hg.block k hlt (by simp; omega)⟩
theorem PList.next (h : PList w B t ks v n) (hb : Below w.heap.size w w') : PList w' B t ks v n := by
  obtain ⟨A, c, R, rfl, h1, h2⟩ := h
  exact ⟨A, c, R, rfl, h1, h2.next hb⟩
theorem rowsTo_congr {R R' : Nat → List Value} : ∀ {n : Nat}, (∀ i, i < n → R i = R' i) → rowsTo R n = rowsTo R' n
  | 0, _ => rfl
  | n + 1, h => by rw [rowsTo, rowsTo, rowsTo_congr fun i hi => h i (by omega), h n (by omega)]
theorem plain_cons_int {ks : List Bool} {us : List Value} {x : Int} (hx : -9223372036854775808 ≤ x ∧ x ≤ 9223372036854775807) (h : Plain ks us) : Plain (true :: ks) (.int .i64 x :: us) := ⟨x, us, rfl, WalkArith.wf_i64 (by omega), h⟩
theorem plain_cons_bool {ks : List Bool} {us : List Value} {b : Bool} (h : Plain ks us) : Plain (false :: ks) (.bool b :: us) := ⟨b, us, rfl, h⟩
theorem plain_nil : Plain [] [] := rfl
end

/-- 'append(out, row)', the row of plain cells. -/
theorem wpList_pushP {P : Program} {ops : Array Oper} {rest : List Oper} {o : Oper} {a : Act} {w : World} {Q : Exit → Act → World → Prop} (hgd : o.guard = none) (s x : Operand) (ts : TypeId)
    (ho : o.op = .call { callee := .builtin .append, args := #[s, x], argTypes := #[ts, ts] })
    (e : TypeId) (z : Value) (ks : List Bool) (bytes : Nat) (ht : P.underlying ts = some (.slice e)) (hinfo : (P.info? e).map (fun i => (i.zero, i.size, i.bytes)) = some (some z, ks.length, bytes)) (hzs : z.cells.size = ks.length) (hsz : 0 < ks.length) (hby : bytes ≤ 64)
    {B : Nat} {v : Value} {n : Nat} (hs : a.eval s = v) (H : PAcc w B e ks v n)
    {g c : Nat} {cs : Array Value} (hx : a.eval x = .slice (some ⟨g, 0, none⟩) 1 c) (hg : w.heap[g]? = some (.cells cs e (0, 0))) (hR : Plain ks cs.toList)
    (hn : n ≤ 1000000000) (hB : B ≤ w.heap.size)
    (h : ∀ v' w', PAcc w' B e ks v' (n + 1) → Below B w w' → w.grownBy w' v.ownBlock → wpList P ops Q rest (a.put o.dst v') w') : wpList P ops Q (o :: rest) a w := by
  obtain ⟨R, h1, h2⟩ := H
  have hRn : (fun i => if i < n then R i else cs.toList) n = cs.toList := by simp
  have hP : ∀ i, Plain ks ((fun i => if i < n then R i else cs.toList) i) := fun i => by
    show Plain ks (if i < n then R i else cs.toList)
    split
    · exact h1 i
    · exact hR
  have H' : Acc w B e ks.length v n (fun i => if i < n then R i else cs.toList) :=
    ⟨by rw [← rowsTo_congr (R := R) (fun i hi => by simp [hi])]; exact h2.1, fun i => (hP i).length⟩
  exact wpList_push hgd s x ts ho e z ks.length bytes ht hinfo hzs hsz hby hs H' hx hg hRn.symm (fun u hu => hR.one u (by simpa using hu)) hn hB fun v' w' h3 h4 h5 => h v' w' ⟨_, hP, h3⟩ h4 h5

theorem Rd.lower {w w' : World} {B g : Nat} {A : Option Addr} {n c p L : Nat} (h : Rd w B g A n c p) (hb : Below L w w') (hg : g < L) : Rd w' B g A n c p := by
  have hB := h.2.1
  exact ⟨(hb.block g hg).trans h.1, h.2.1, h.2.2.keep fun a ha => hb.cell (by omega)⟩
theorem grown_low {a w w' : World} {r : Option Nat} (h : a.grownBy w r) (hb : Below a.heap.size w w') : a.grownBy w' r :=
  ⟨hb.os.trans h.os, hb.tape.trans h.tape, hb.output.trans h.output, Nat.le_trans h.size hb.size, fun k hk hne => (hb.block k hk).trans (h.block k hk hne)⟩
/-- What a draw of a list leaves: at most N rows of plain cells, new; the reader moved by at most K, of old memory the reader's block alone turned. -/
def DrawnL (w : World) (B g : Nat) (A : Option Addr) (m c p K N : Nat) (t : TypeId) (ks : List Bool) (e : Ending) (w' : World) : Prop :=
  ∃ v n q, e = .returned v ∧ n ≤ N ∧ PList w' w.heap.size t ks v n ∧ q ≤ p + K ∧ Rd w' B g A m c q ∧ w.grownBy w' (some g)
end Go.Proofs.Ytbnfllpimnnmfaa
