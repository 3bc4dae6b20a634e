/-
  Slices that a call makes: written in place, handed back.
-/
import Derived.Test.YtbnfllpimnnmfaaMem
import Derived.Maps.AppendAt
import Derived.OwnWalk
namespace Go.Proofs.Ytbnfllpimnnmfaa
open Go Go.RowKit

/-- Only the block that the slice's address names was written; new blocks may be there. -/
structure Wrote (w w' : World) (A : Option Addr) : Prop where
  os : w'.os = w.os
  tape : w'.tape = w.tape
  output : w'.output = w.output
  size : w.heap.size ≤ w'.heap.size
  block : ∀ k, k < w.heap.size → A ≠ some ⟨k, 0, none⟩ → w'.heap[k]? = w.heap[k]?
theorem Wrote.refl (w : World) (A : Option Addr) : Wrote w w A := ⟨rfl, rfl, rfl, Nat.le_refl _, fun _ _ _ => rfl⟩
theorem Wrote.of_grown {w w' : World} {g : Nat} (h : w.grownBy w' (some g)) : Wrote w w' (some ⟨g, 0, none⟩) :=
  ⟨h.os, h.tape, h.output, h.size, fun k hk hne => h.block k hk (fun e => hne (by cases e; rfl))⟩
theorem Wrote.below {w w' : World} {A : Option Addr} (h : Wrote w w' A) {B : Nat} (hB : B ≤ w.heap.size) (hA : ∀ k, A = some ⟨k, 0, none⟩ → B ≤ k) : Below B w w' :=
  ⟨h.os, h.tape, h.output, h.size, fun k hk => h.block k (by omega) (fun e => by have := hA k e; omega)⟩
theorem Own.at_ {w : World} {B : Nat} {t : TypeId} {m : Nat} {A : Option Addr} {n c : Nat} {R : Nat → List Value} (h : Own w B t m A n c R) (hn : 0 < n) : ∃ g, A = some ⟨g, 0, none⟩ ∧ B ≤ g ∧ New w g t m n c R := h.2.2.resolve_left (by omega)
theorem Own.wrote {w w' : World} {B : Nat} {t : TypeId} {m : Nat} {A A' : Option Addr} {n c : Nat} {R : Nat → List Value} (h : Own w B t m A n c R) (hw : Wrote w w' A') (hne : A' ≠ A ∨ A = none) : Own w' B t m A n c R :=
  h.keep fun g _ hg hA => hw.block g hg (fun e => hne.elim (fun hn => hn (e.trans hA.symm)) (fun hn => by rw [hn] at hA; cases hA))
theorem Own.more {w : World} {B B' : Nat} {t : TypeId} {m : Nat} {A : Option Addr} {n c : Nat} {R : Nat → List Value} (h : Own w B t m A n c R) (hB : B' ≤ B) : Own w B' t m A n c R :=
  ⟨h.1, h.2.1, h.2.2.imp id fun ⟨g, h1, h2, h3⟩ => ⟨g, h1, Nat.le_trans hB h2, h3⟩⟩
theorem Own.congr {w : World} {B : Nat} {t : TypeId} {m : Nat} {A : Option Addr} {n c : Nat} {R R' : Nat → List Value} (h : Own w B t m A n c R) (hR : ∀ i, i < n → R i = R' i) : Own w B t m A n c R' :=
  ⟨h.1, h.2.1, h.2.2.imp id fun ⟨g, h1, h2, h3⟩ => ⟨g, h1, h2, h3.congr hR⟩⟩
theorem Own.of_new {w : World} {B g : Nat} {t : TypeId} {m n c : Nat} {R : Nat → List Value} (h : New w g t m n c R) (hc : c ≤ maxLen) (hB : B ≤ g) : Own w B t m (some ⟨g, 0, none⟩) n c R := by
  have h' := h
  obtain ⟨cs, _, _, hn, _⟩ := h'
  exact ⟨hc, hn, .inr ⟨g, rfl, hB, h⟩⟩
theorem Own.nil (w : World) (B : Nat) (t : TypeId) (m : Nat) (A : Option Addr) (c : Nat) (R : Nat → List Value) (hc : c ≤ maxLen) : Own w B t m A 0 c R := ⟨hc, Nat.zero_le _, .inl rfl⟩

/-- What a call hands back that makes a slice of n rows. -/
def Gives (w : World) (t : TypeId) (m n : Nat) (R : Nat → List Value) (e : Ending) (w' : World) : Prop :=
  ∃ A c, e = .returned (.slice A n c) ∧ Own w' w.heap.size t m A n c R ∧ Below w.heap.size w w'

def setsFrom (w : World) (g : Nat) : Nat → List Value → World
  | _, [] => w
  | o, v :: vs => setsFrom (w.setCell ⟨g, o, none⟩ v) g (o + 1) vs
def setsA (cs : Array Value) : Nat → List Value → Array Value
  | _, [] => cs
  | o, v :: vs => setsA (cs.setIfInBounds o v) (o + 1) vs
theorem setsA_size : ∀ (vs : List Value) (cs : Array Value) (o : Nat), (setsA cs o vs).size = cs.size
  | [], _, _ => rfl
  | v :: vs, cs, o => by rw [setsA, setsA_size vs]; simp
theorem setsA_out : ∀ (vs : List Value) (cs : Array Value) (o q : Nat), q < o → (setsA cs o vs)[q]? = cs[q]?
  | [], _, _, _, _ => rfl
  | v :: vs, cs, o, q, h => by
    rw [setsA, setsA_out vs _ _ _ (by omega), Array.getElem?_setIfInBounds_ne (by omega)]
theorem setsA_in : ∀ (vs : List Value) (cs : Array Value) (o j : Nat) (v : Value), o + vs.length ≤ cs.size → vs[j]? = some v → (setsA cs o vs)[o + j]? = some v
  | [], _, _, _, _, _, h => by simp at h
  | u :: vs, cs, o, 0, v, hl, h => by
    have : u = v := by simpa using h
    subst this
    simp at hl
    rw [setsA, setsA_out vs _ _ _ (by omega), Nat.add_zero, Array.getElem?_setIfInBounds_self]
    simp; omega
  | u :: vs, cs, o, j + 1, v, hl, h => by
    simp at hl
    rw [setsA, show o + (j + 1) = (o + 1) + j by omega]
    exact setsA_in vs _ (o + 1) j v (by simp; omega) (by simpa using h)
theorem setsFrom_heap : ∀ (vs : List Value) (w : World) (g o : Nat) (cs : Array Value) (t : TypeId), w.heap[g]? = some (.cells cs t (0, 0)) → (setsFrom w g o vs).heap[g]? = some (.cells (setsA cs o vs) t (0, 0))
  | [], _, _, _, _, _, h => h
  | v :: vs, w, g, o, cs, t, h => setsFrom_heap vs _ g (o + 1) _ t (heap_setCell_same w g o cs t v h)
theorem setsFrom_grown : ∀ (vs : List Value) (a w : World) (g o : Nat), a.grownBy w (some g) → a.grownBy (setsFrom w g o vs) (some g)
  | [], _, _, _, _, h => h
  | v :: vs, a, w, g, o, h => setsFrom_grown vs a _ g (o + 1) ⟨h.os, h.tape, h.output, by simpa [World.setCell] using h.size, fun k hk hne => (heap_setCell_other w ⟨g, o, none⟩ k v (fun e => hne (by rw [e]))).trans (h.block k hk hne)⟩

theorem new_sets {w : World} {g : Nat} {t : TypeId} {m i c : Nat} {R : Nat → List Value} (h : New w g t m i c R) (hi : i < c) (hm : ∀ i, (R i).length = m) : New (setsFrom w g (i * m) (R i)) g t m (i + 1) c R := by
  obtain ⟨cs, h1, h2, h3, h4⟩ := h
  have hle : (i + 1) * m ≤ c * m := Nat.mul_le_mul_right m (by omega)
  rw [Nat.add_mul, Nat.one_mul] at hle
  refine ⟨_, setsFrom_heap _ w g _ cs t h1, by rw [setsA_size]; exact h2, hi, fun i' hi' j v hv => ?_⟩
  have hj : j < m := by rw [← hm i']; exact (List.getElem?_eq_some_iff.1 hv).1
  rcases Nat.lt_or_ge i' i with hlt | hge
  · have : (i' + 1) * m ≤ i * m := Nat.mul_le_mul_right m hlt
    rw [Nat.add_mul, Nat.one_mul] at this
    rw [setsA_out _ _ _ _ (by omega)]
    exact h4 i' hlt j v hv
  · obtain rfl : i' = i := by omega
    exact setsA_in _ _ _ _ _ (by rw [hm]; omega) hv
theorem setsFrom_size : ∀ (vs : List Value) (w : World) (g o : Nat), (setsFrom w g o vs).heap.size = w.heap.size
  | [], _, _, _ => rfl
  | v :: vs, w, g, o => by rw [setsFrom, setsFrom_size vs]; simp [World.setCell]

/-- The first n rows, one behind the other. -/
def rowsTo (R : Nat → List Value) : Nat → List Value
  | 0 => []
  | n + 1 => rowsTo R n ++ R n
theorem rowsTo_length {R : Nat → List Value} {m : Nat} (hm : ∀ i, (R i).length = m) : ∀ n, (rowsTo R n).length = n * m
  | 0 => by simp [rowsTo]
  | n + 1 => by rw [rowsTo, List.length_append, rowsTo_length hm n, hm, Nat.add_mul, Nat.one_mul]
theorem rowsTo_at {R : Nat → List Value} {m : Nat} (hm : ∀ i, (R i).length = m) : ∀ (n i j : Nat) (v : Value), i < n → (R i)[j]? = some v → (rowsTo R n)[i * m + j]? = some v
  | 0, _, _, _, h, _ => absurd h (by omega)
  | n + 1, i, j, v, h, hv => by
    have hj : j < m := by rw [← hm i]; exact (List.getElem?_eq_some_iff.1 hv).1
    have hl := rowsTo_length hm n
    rw [rowsTo]
    rcases Nat.lt_or_ge i n with h1 | h1
    · have : (i + 1) * m ≤ n * m := Nat.mul_le_mul_right m h1
      rw [Nat.add_mul, Nat.one_mul] at this
      rw [List.getElem?_append_left (by omega)]
      exact rowsTo_at hm n i j v h1 hv
    · obtain rfl : i = n := by omega
      rw [List.getElem?_append_right (by omega), hl, show i * m + j - i * m = j by omega]
      exact hv
/-- A slice of n rows that grows by append; it lies, if anywhere, not below block B. -/
def Acc (w : World) (B : Nat) (t : TypeId) (m : Nat) (v : Value) (n : Nat) (R : Nat → List Value) : Prop := w.ownsRow B t m v n (rowsTo R n) ∧ ∀ i, (R i).length = m
section
variable {w w' : World} {B : Nat} {t : TypeId} {m : Nat} {v : Value} {n : Nat} {R : Nat → List Value}
theorem Acc.nil (w : World) (B : Nat) (t : TypeId) (R : Nat → List Value) (hm : ∀ i, (R i).length = m) : Acc w B t m (.slice none 0 0) 0 R := ⟨World.ownsRow_nil w B t m, hm⟩
theorem Acc.made (w : World) (t : TypeId) (R : Nat → List Value) (hm : ∀ i, (R i).length = m) (hB : B ≤ w.heap.size) : Acc (w.alloc (.cells #[] t)) B t m (.slice (some ⟨w.heap.size, 0, none⟩) 0 0) 0 R :=
  ⟨World.ownsRow_made w #[] 0 hB (by unfold maxLen; omega) (by simp), hm⟩
theorem Acc.kept (h : Acc w B t m v n R) {row : Option Nat} (hg : w.grownBy w' row) (hne : v.ownBlock = none ∨ v.ownBlock ≠ row) : Acc w' B t m v n R := ⟨h.1.kept hg hne, h.2⟩
theorem Acc.next (h : Acc w B t m v n R) (hb : Below w.heap.size w w') : Acc w' B t m v n R :=
  h.kept (row := none) ⟨hb.os, hb.tape, hb.output, hb.size, fun k hk _ => hb.block k hk⟩ (by cases hv : v.ownBlock <;> simp)
theorem Acc.own (h : Acc w B t m v n R) : ∃ A c, v = .slice A n c ∧ Own w B t m A n c R := by
  obtain ⟨⟨_, h2⟩, hm⟩ := h
  rcases h2 with ⟨rfl, rfl⟩ | ⟨g, cap, cur, rfl, hb, hg, hn, hc, hs, hx⟩
  · exact ⟨_, _, rfl, Own.nil _ _ _ _ _ _ _ (by unfold maxLen; omega)⟩
  · refine ⟨_, _, rfl, hc, hn, .inr ⟨g, rfl, hb, cur, hg, hs, hn, fun i hi j u hu => ?_⟩⟩
    have h1 := rowsTo_at hm n i j u hi hu
    have h3 : (cur.toList.take (n * m))[i * m + j]? = some u := by rw [hx]; exact h1
    rw [List.getElem?_take] at h3
    split at h3
    · rw [Array.getElem?_toList] at h3; exact h3
    · cases h3
theorem Acc.form (h : Acc w B t m v n R) : ∃ A c, v = .slice A n c ∧ n ≤ c ∧ c ≤ maxLen := by
  obtain ⟨A, c, h1, h2⟩ := h.own
  exact ⟨A, c, h1, h2.2.1, h2.1⟩
theorem Acc.block (h : Acc w B t m v n R) : ∀ k, v.ownBlock = some k → B ≤ k ∧ k < w.heap.size := h.1.lt
end
/-- 'append(out, row)'. -/
theorem wpList_push {P : Program} {ops : Array Oper} {rest : List Oper} {o : Oper} {a : Act} {w : World} {Q : Exit → Act → World → Prop} (hgd : o.guard = none) (s x : Operand) (ts : TypeId)
    (ho : o.op = .call { callee := .builtin .append, args := #[s, x], argTypes := #[ts, ts] })
    (e : TypeId) (z : Value) (m bytes : Nat) (ht : P.underlying ts = some (.slice e)) (hinfo : (P.info? e).map (fun i => (i.zero, i.size, i.bytes)) = some (some z, m, bytes)) (hzs : z.cells.size = m) (hsz : 0 < m) (hby : bytes ≤ 64)
    {B : Nat} {v : Value} {n : Nat} {R : Nat → List Value} (hs : a.eval s = v) (H : Acc w B e m v n R)
    {g c : Nat} {cs : Array Value} (hx : a.eval x = .slice (some ⟨g, 0, none⟩) 1 c) (hg : w.heap[g]? = some (.cells cs e (0, 0))) (hR : cs.toList = R n) (h1 : ∀ u ∈ R n, u.oneCell' = true)
    (hn : n ≤ 1000000000) (hB : B ≤ w.heap.size)
    (h : ∀ v' w', Acc w' B e m v' (n + 1) R → Below B w w' → w.grownBy w' v.ownBlock → wpList P ops Q rest (a.put o.dst v') w') : wpList P ops Q (o :: rest) a w := by
  obtain ⟨i, hi, hzz⟩ := Option.map_eq_some_iff.1 hinfo
  simp only [Prod.mk.injEq] at hzz
  obtain ⟨hz, hsize, hbytes⟩ := hzz
  have hmul : (n + 1) * bytes ≤ (n + 1) * 64 := Nat.mul_le_mul_left _ hby
  refine wpList_append_own w hgd s x ts ho B e i z m bytes ht hi hz hsize hbytes hzs hsz v n (rowsTo R n) hs H.1 ⟨g, 0, none⟩ 1 c (R n) hx (by rw [H.2, Nat.one_mul]) (fun j u hu => ?_) h1 (by unfold maxLen; omega) (by omega) hB (fun v' w' h2 h3 _ => ?_)
  · rw [show (⟨g, 0, none⟩ : Addr).add j = ⟨g, j, none⟩ by unfold Addr.add; split <;> simp_all, (blk hg).1, ← Array.getElem?_toList, hR]
    exact hu
  · refine h v' w' ⟨h2, H.2⟩ ⟨h3.os, h3.tape, h3.output, h3.size, fun k hk => h3.block k (by omega) (fun e => ?_)⟩ h3
    have := (H.block k e.symm).1
    omega
/-- Where a slice of one's own lies. -/
def Lies (A : Option Addr) (n B C : Nat) : Prop := 0 < n → ∃ g, A = some ⟨g, 0, none⟩ ∧ B ≤ g ∧ g < C
theorem Own.lies {w : World} {B : Nat} {t : TypeId} {m : Nat} {A : Option Addr} {n c : Nat} {R : Nat → List Value} (h : Own w B t m A n c R) : Lies A n B w.heap.size := fun hn => by
  obtain ⟨g, h1, h2, h3⟩ := h.at_ hn
  exact ⟨g, h1, h2, h3.lt⟩
/-- Of the old blocks, those from B on, up to C, alone were written. -/
structure WroteIn (w w' : World) (B C : Nat) : Prop where
  os : w'.os = w.os
  tape : w'.tape = w.tape
  output : w'.output = w.output
  size : w.heap.size ≤ w'.heap.size
  block : ∀ k, k < w.heap.size → k < B ∨ C ≤ k → w'.heap[k]? = w.heap[k]?
theorem WroteIn.of {w w' : World} {A : Option Addr} {n B C : Nat} (h : Wrote w w' A) (h0 : n = 0 → w = w') (hl : Lies A n B C) : WroteIn w w' B C :=
  ⟨h.os, h.tape, h.output, h.size, fun k hk hkk => by
    rcases Nat.eq_zero_or_pos n with hn | hn
    · rw [h0 hn]
    · obtain ⟨g, rfl, h1, h2⟩ := hl hn
      exact h.block k hk (fun e => by cases e; omega)⟩
theorem Own.apart {w w' : World} {B B' C' D D' : Nat} {t : TypeId} {m : Nat} {A : Option Addr} {n c : Nat} {R : Nat → List Value} (h : Own w B t m A n c R) (hw : WroteIn w w' B' C') (hl : Lies A n D D') (hd : D' ≤ B' ∨ C' ≤ D) : Own w' B t m A n c R := by
  obtain ⟨h1, h2, h3⟩ := h
  refine ⟨h1, h2, ?_⟩
  rcases h3 with h3 | ⟨g, h4, h5, h6⟩
  · exact .inl h3
  · rcases Nat.eq_zero_or_pos n with hn | hn
    · exact .inl hn
    · obtain ⟨g', h7, h8, h9⟩ := hl hn
      have : g = g' := by rw [h4] at h7; cases h7; rfl
      subst this
      exact .inr ⟨g, h4, h5, h6.keep (hw.block g h6.lt (by omega))⟩
theorem Below.wrote {a w w' : World} {B C : Nat} (h : Below a.heap.size a w) (hw : WroteIn w w' B C) (hB : a.heap.size ≤ B) : Below a.heap.size a w' :=
  ⟨hw.os.trans h.os, hw.tape.trans h.tape, hw.output.trans h.output, Nat.le_trans h.size hw.size, fun k hk => (hw.block k (Nat.lt_of_lt_of_le hk h.size) (by omega)).trans (h.block k hk)⟩
end Go.Proofs.Ytbnfllpimnnmfaa
