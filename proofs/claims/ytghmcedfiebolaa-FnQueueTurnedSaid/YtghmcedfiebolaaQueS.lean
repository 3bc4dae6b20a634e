/-
  What QueueOrder keeps in memory while it runs.
-/
import Derived.Test.YtghmcedfiebolaaQueD
import Derived.Test.YtghmcedfiebolaaQue2
import Derived.Test.YtghmcedfiebolaaSntT
import Derived.Deep.LoopGhost
namespace Go.Proofs.Ytghmcedfiebolaa
open Go Go.RowKit

/-- A row of n ints. -/
def rowI (f : Nat → Int) (n : Nat) : Array Value := ((List.range n).map fun i => Value.int .i64 (f i)).toArray
theorem rowI_at {f : Nat → Int} {n i : Nat} (hi : i < n) : (rowI f n)[i]? = some (.int .i64 (f i)) := by simp [rowI, hi]
theorem rowI_size (f : Nat → Int) (n : Nat) : (rowI f n).size = n := by simp [rowI]
theorem rowI_set (f : Nat → Int) (n k : Nat) (x : Int) : (rowI f n).setIfInBounds k (.int .i64 x) = rowI (upd f k x) n := by
  apply Array.ext
  · simp [rowI]
  · intro i h1 h2
    have hi : i < n := by simpa [rowI] using h2
    by_cases e : i = k
    · subst e; simp [rowI, upd]
    · simp [rowI, upd, e, Array.getElem_setIfInBounds, Ne.symm e]
theorem rowI_made (n : Nat) : madeCells (Value.int .i64 0).cells n = rowI (fun _ => 0) n := by
  apply Array.ext
  · simp [rowI, size_madeCells]
  · intro i h1 h2
    simp [rowI, madeCells, Value.cells, Nat.mod_one]
theorem upd_cast (f : Nat → Nat) (k x : Nat) : (fun i => ((upd f k x i : Nat) : Int)) = upd (fun i => ((f i : Nat) : Int)) k (x : Int) := by
  funext i; unfold upd; split <;> rfl

/-- The rows of packets sent. -/
def outR (o : Outs) : Nat → List Value := sentR (fun i => ((o.getD i (0, 0)).1 : Nat)) (fun i => ((o.getD i (0, 0)).2 : Nat))
theorem outR_snoc (o : Outs) (x : Nat × Nat) {i : Nat} (hi : i < o.length) : outR o i = outR (o ++ [x]) i := by
  simp [outR, sentR, List.getD_eq_getElem?_getD, List.getElem?_append_left hi]
theorem outR_last (o : Outs) (k p : Nat) : outR (o ++ [(k, p)]) o.length = [.int .i64 (k : Int), .int .i64 (p : Int)] := by
  simp [outR, sentR, List.getD_eq_getElem?_getD]

def QM (w : World) (B gp gh n : Nat) (pl : Nat → Nat) (hv : Nat → Int) (v : Value) (o : Outs) : Prop :=
  w.heap[gp]? = some (.cells (rowI (fun i => (pl i : Nat)) n) 3 (0, 0)) ∧ w.heap[gh]? = some (.cells (rowI hv n) 3 (0, 0)) ∧ Acc w B 39 2 v o.length (outR o)
section
variable {w w' : World} {B gp gh n : Nat} {pl : Nat → Nat} {hv : Nat → Int} {v : Value} {o : Outs}
theorem QM.apart (h : QM w B gp gh n pl hv v o) {k : Nat} (hk : k = gp ∨ k = gh) : v.ownBlock = none ∨ v.ownBlock ≠ some k := by
  obtain ⟨h1, h2, h3⟩ := h
  cases hv : v.ownBlock with
  | none => exact .inl rfl
  | some b =>
    right
    intro e
    cases e
    obtain ⟨cs, h4⟩ := h3.typed hv
    rcases hk with rfl | rfl
    · exact typed_ne h1 h4 (by decide)
    · exact typed_ne h2 h4 (by decide)
theorem QM.lt (h : QM w B gp gh n pl hv v o) : gp < w.heap.size ∧ gh < w.heap.size := ⟨heap_lt h.1, heap_lt h.2.1⟩
theorem QM.next (h : QM w B gp gh n pl hv v o) (hb : Below w.heap.size w w') : QM w' B gp gh n pl hv v o := ⟨(hb.block _ h.lt.1).trans h.1, (hb.block _ h.lt.2).trans h.2.1, h.2.2.next hb⟩
theorem QM.setH (h : QM w B gp gh n pl hv v o) (hne : gp ≠ gh) (k : Nat) (x : Int) : QM (w.setCell ⟨gh, k, none⟩ (.int .i64 x)) B gp gh n pl (upd hv k x) v o := by
  refine ⟨?_, ?_, h.2.2.kept (grown_set w gh k _) (h.apart (.inr rfl))⟩
  · exact (heap_setCell_other w ⟨gh, k, none⟩ gp _ hne).trans h.1
  · have := heap_setCell_same w gh k _ _ (.int .i64 x) h.2.1
    rw [rowI_set] at this
    exact this
theorem QM.setP (h : QM w B gp gh n pl hv v o) (hne : gp ≠ gh) (k x : Nat) : QM (w.setCell ⟨gp, k, none⟩ (.int .i64 (x : Int))) B gp gh n (upd pl k x) hv v o := by
  refine ⟨?_, ?_, h.2.2.kept (grown_set w gp k _) (h.apart (.inl rfl))⟩
  · have := heap_setCell_same w gp k _ _ (.int .i64 (x : Int)) h.1
    rw [rowI_set] at this
    rw [upd_cast]
    exact this
  · exact (heap_setCell_other w ⟨gp, k, none⟩ gh _ (Ne.symm hne)).trans h.2.1
theorem QM.push (h : QM w B gp gh n pl hv v o) (hg : w.grownBy w' v.ownBlock) {v' : Value} {x : Nat × Nat} (hA : Acc w' B 39 2 v' (o.length + 1) (outR (o ++ [x]))) : QM w' B gp gh n pl hv v' (o ++ [x]) := by
  refine ⟨(hg.block _ h.lt.1 ?_).trans h.1, (hg.block _ h.lt.2 ?_).trans h.2.1, by rw [List.length_append]; exact hA⟩
  · rcases h.apart (.inl rfl) with e | e
    · rw [e]; simp
    · exact Ne.symm e
  · rcases h.apart (.inr rfl) with e | e
    · rw [e]; simp
    · exact Ne.symm e
theorem QM.acc (h : QM w B gp gh n pl hv v o) (x : Nat × Nat) : Acc w B 39 2 v o.length (outR (o ++ [x])) := h.2.2.congr (fun i hi => outR_snoc o x hi) (fun _ => rfl)
theorem QM.congr {pl' : Nat → Nat} {hv' : Nat → Int} (h : QM w B gp gh n pl hv v o) (h1 : pl = pl') (h2 : hv = hv') : QM w B gp gh n pl' hv' v o := by subst h1 h2; exact h
/-- The cells of queue k. -/
theorem QM.cells (h : QM w B gp gh n pl hv v o) {k : Nat} (hk : k < n) : w.cell? ⟨gp, k, none⟩ = some (.int .i64 (pl k : Nat)) ∧ w.cell? ⟨gh, k, none⟩ = some (.int .i64 (hv k)) ∧ (∀ i, w.frozen? ⟨gp, i, none⟩ = false) ∧ (∀ i, w.frozen? ⟨gh, i, none⟩ = false) := by
  refine ⟨?_, ?_, (blk h.1).2, (blk h.2.1).2⟩
  · rw [(blk h.1).1, rowI_at hk]
  · rw [(blk h.2.1).1, rowI_at hk]
end
/-- What is sent: nothing, where the queues are invalid. -/
def qoN (n : Nat) (qn : Nat → Nat) (q : Nat → Nat → Int) (m : Nat) (sh : Nat → Int) : Nat := if qvB n qn q m sh then (qOut n qn q sh).length else 0
def qoR (n : Nat) (qn : Nat → Nat) (q : Nat → Nat → Int) (sh : Nat → Int) : Nat → List Value := outR (qOut n qn q sh)
theorem qoN_le (n : Nat) (qn : Nat → Nat) (q : Nat → Nat → Int) (m : Nat) (sh : Nat → Int) : qoN n qn q m sh ≤ 32 := by
  unfold qoN
  split
  · rename_i hv
    obtain ⟨_, _, rfl, _⟩ := qvB_true.1 hv
    rw [(qOut_facts hv).2.2]
    exact plSum_small hv
  · omega
theorem info_sent2 : (Try.prog.info? 39).map (fun i => (i.zero, i.size, i.bytes)) = some (some (.agg #[.int .i64 0, .int .i64 0]), 2, 16) := by kernel_rfl
end Go.Proofs.Ytghmcedfiebolaa
