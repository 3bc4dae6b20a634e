/-
  Slices of plain structs (ints and bools alone, structs in structs too) in memory: read where they came in, made, written, compared.
-/
import Derived.Test.YtbnfllpimnnmfaaLift
import Derived.Deep.MidRow
import Derived.Deep.Slices
import Derived.Laws.MakeOwn
import Derived.Laws.CopyRow
import Derived.Lib.SmallJoins
namespace Go.Proofs.Ytbnfllpimnnmfaa
open Go Go.ChangeShapes Go.WideShapes Go.RowKit

/-- The cells are plain: an int for every 'true', a bool for every 'false'. -/
def Plain : List Bool → List Value → Prop
  | [], vs => vs = []
  | true :: ks, vs => ∃ n us, vs = .int .i64 n :: us ∧ (Lit.int .i64 n).wf = true ∧ Plain ks us
  | false :: ks, vs => ∃ b us, vs = .bool b :: us ∧ Plain ks us

theorem Plain.length : ∀ {ks : List Bool} {vs : List Value}, Plain ks vs → vs.length = ks.length
  | [], _, h => by subst h; rfl
  | true :: _, _, ⟨_, _, e, _, h⟩ => by subst e; simp [h.length]
  | false :: _, _, ⟨_, _, e, h⟩ => by subst e; simp [h.length]
theorem Plain.append : ∀ {ks ls : List Bool} {vs us : List Value}, Plain ks vs → Plain ls us → Plain (ks ++ ls) (vs ++ us)
  | [], _, _, _, h, k => by subst h; exact k
  | true :: _, _, _, _, ⟨n, _, e, hw, h⟩, k => by subst e; exact ⟨n, _, rfl, hw, h.append k⟩
  | false :: _, _, _, _, ⟨b, _, e, h⟩, k => by subst e; exact ⟨b, _, rfl, h.append k⟩
theorem Plain.one : ∀ {ks : List Bool} {vs : List Value}, Plain ks vs → ∀ v ∈ vs, v.oneCell' = true
  | [], _, h => by subst h; simp
  | true :: _, _, ⟨_, _, e, _, h⟩ => by subst e; intro v hv; rcases List.mem_cons.1 hv with rfl | hv; rfl; exact h.one v hv
  | false :: _, _, ⟨_, _, e, h⟩ => by subst e; intro v hv; rcases List.mem_cons.1 hv with rfl | hv; rfl; exact h.one v hv
def zeros (ks : List Bool) : List Value := ks.map fun k => if k then .int .i64 0 else .bool false
theorem plain_zeros : ∀ ks : List Bool, Plain ks (zeros ks)
  | [] => rfl
  | true :: ks => ⟨0, _, rfl, by decide, plain_zeros ks⟩
  | false :: ks => ⟨false, _, rfl, plain_zeros ks⟩

def flatFs (fl : TypeId → Option (List Bool)) (cells : TypeId → Nat) : Nat → List Field → Option (List Bool)
  | _, [] => some []
  | off, f :: r => match fl f.type with
    | none => none
    | some ks => if f.offset = off ∧ cells f.type = ks.length then (flatFs fl cells (off + ks.length) r).map (ks ++ ·) else none
/-- The cells of a type of ints and bools, structs in structs too. -/
def flatOf (P : Program) : Nat → TypeId → Option (List Bool)
  | 0, _ => none
  | n + 1, t => match P.underlying t with
    | some (.int .i64) => some [true]
    | some .bool => some [false]
    | some (.struct fs) => match flatFs (flatOf P n) P.cellsOf 0 fs.toList with
      | some ks => if P.cellsOf t = ks.length then some ks else none
      | none => none
    | _ => none

section
variable {H : Type} {enc : TypeId × Value → H} {P : Program} {w : World} {base : Nat} {spare : Nat → Bool} {held : Bool}

theorem plain_fs {n m : Nat} (ih : ∀ t ks, flatOf P n t = some ks → ∀ fuel cs x, DataW.trod enc P w base spare held fuel t cs = some x → Plain ks cs) {cs : List Value} :
    ∀ (fl : List Field) (off : Nat) (ks : List Bool), flatFs (flatOf P n) P.cellsOf off fl = some ks →
      (∀ f ∈ fl, ∃ y, DataW.trod enc P w base spare held m f.type ((cs.drop f.offset).take (P.cellsOf f.type)) = some y) → Plain ks ((cs.drop off).take ks.length)
  | [], off, ks, h, _ => by
    have : ks = [] := by simpa [flatFs] using h.symm
    subst this
    simp [Plain]
  | f :: r, off, ks, h, hf => by
    unfold flatFs at h
    split at h
    · cases h
    · rename_i k0 hk0
      split at h
      · rename_i hc
        obtain ⟨k1, h1, rfl⟩ := Option.map_eq_some_iff.1 h
        obtain ⟨y, hy⟩ := hf f List.mem_cons_self
        have p0 := ih _ _ hk0 _ _ _ hy
        rw [hc.1, hc.2] at p0
        have p1 := plain_fs ih r _ k1 h1 (fun g hg => hf g (List.mem_cons_of_mem _ hg))
        have e : (cs.drop off).take (k0 ++ k1).length = (cs.drop off).take k0.length ++ (cs.drop (off + k0.length)).take k1.length := by
          rw [List.length_append, List.take_add, List.drop_drop]
        rw [e]
        exact p0.append p1
      · cases h

theorem plain_of_trod : ∀ (n : Nat) (t : TypeId) (ks : List Bool), flatOf P n t = some ks → ∀ fuel cs x, DataW.trod enc P w base spare held fuel t cs = some x → Plain ks cs
  | 0, _, _, h => by cases h
  | n + 1, t, ks, h => by
    intro fuel cs x hx
    unfold flatOf at h
    split at h
    · rename_i hu
      obtain ⟨z, rfl, _, hw⟩ := DataW.trod_int hu hx
      have : ks = [true] := by simpa using h.symm
      subst this
      exact ⟨z, [], rfl, hw, rfl⟩
    · rename_i hu
      obtain ⟨b, rfl, _⟩ := DataW.trod_bool hu hx
      have : ks = [false] := by simpa using h.symm
      subst this
      exact ⟨b, [], rfl, rfl⟩
    · rename_i fs hu
      obtain ⟨xs, m, _, _, hl, hlen, hf⟩ := DataW.trod_struct hu hx
      split at h
      · rename_i k1 hk1
        split at h
        · rename_i hc
          have : k1 = ks := by simpa using h
          subst this
          have := plain_fs (plain_of_trod n) fs.toList 0 k1 hk1 (fun f hf' => by
            obtain ⟨i, hi, he⟩ := List.getElem_of_mem hf'
            have hg : fs[i]? = some f := by rw [← he]; simp at hi ⊢
            have := hf i f hg
            have hi' : i < xs.length := by rw [hlen]; simpa using hi
            rw [List.getElem?_eq_getElem hi'] at this
            exact ⟨_, this⟩) (cs := cs)
          rw [List.drop_zero, List.take_of_length_le (by omega)] at this
          exact this
        · cases h
      · cases h
    · cases h
end

/-- A slice of n rows: row i is R i; it lies below block B. -/
def Rws (w : World) (B m : Nat) (A : Option Addr) (n c : Nat) (R : Nat → List Value) : Prop :=
  (n ≤ c ∧ c ≤ maxLen) ∧ (0 < n → ∃ b off, A = some ⟨b, off, none⟩ ∧ b < B ∧ ∀ i, i < n → w.rangeAt b (off + i * m) (R i))

theorem Rws.keep {w w' : World} {B m : Nat} {A : Option Addr} {n c : Nat} {R : Nat → List Value} (h : Rws w B m A n c R) (hk : ∀ p : Addr, p.block < B → w'.cell? p = w.cell? p) : Rws w' B m A n c R :=
  ⟨h.1, fun hn => by
    obtain ⟨b, off, e, hb, hc⟩ := h.2 hn
    exact ⟨b, off, e, hb, fun i hi j v hv => (hk _ hb).trans (hc i hi j v hv)⟩⟩
theorem Rws.more {w : World} {B B' m : Nat} {A : Option Addr} {n c : Nat} {R : Nat → List Value} (h : Rws w B m A n c R) (hB : B ≤ B') : Rws w B' m A n c R :=
  ⟨h.1, fun hn => by
    obtain ⟨b, off, e, hb, hc⟩ := h.2 hn
    exact ⟨b, off, e, by omega, hc⟩⟩
theorem Rws.below {w w' : World} {B m : Nat} {A : Option Addr} {n c : Nat} {R : Nat → List Value} (h : Rws w B m A n c R) (hb : Below B w w') : Rws w' B m A n c R := h.keep fun _ hp => hb.cell hp
theorem Rws.next {w w' : World} {m : Nat} {A : Option Addr} {n c : Nat} {R : Nat → List Value} (h : Rws w w.heap.size m A n c R) (hb : Below w.heap.size w w') : Rws w' w'.heap.size m A n c R := (h.below hb).more hb.size
theorem Rws.nil (w : World) (B m : Nat) (R : Nat → List Value) : Rws w B m none 0 0 R := ⟨⟨Nat.le_refl _, by unfold maxLen; omega⟩, fun h => absurd h (by omega)⟩
/-- A slice of no rows. -/
theorem Rws.none_ {w : World} {B m : Nat} {A : Option Addr} {c : Nat} {R : Nat → List Value} (h : c ≤ maxLen) : Rws w B m A 0 c R := ⟨⟨Nat.zero_le _, h⟩, fun h => absurd h (by omega)⟩
theorem Rws.congr {w : World} {B m : Nat} {A : Option Addr} {n c : Nat} {R R' : Nat → List Value} (h : Rws w B m A n c R) (hR : ∀ i, i < n → R i = R' i) : Rws w B m A n c R' :=
  ⟨h.1, fun hn => by
    obtain ⟨b, off, e, hb, hc⟩ := h.2 hn
    exact ⟨b, off, e, hb, fun i hi => by rw [← hR i hi]; exact hc i hi⟩⟩
/-- The rows from k on. -/
theorem Rws.from_ {w : World} {B m : Nat} {b off : Nat} {n c : Nat} {R : Nat → List Value} (h : Rws w B m (some ⟨b, off, none⟩) n c R) (k : Nat) (hk : k < n) : Rws w B m (some ⟨b, off + k * m, none⟩) (n - k) (c - k) (fun i => R (k + i)) := by
  obtain ⟨⟨h1, h2⟩, h3⟩ := h
  refine ⟨⟨by omega, by omega⟩, fun _ => ?_⟩
  obtain ⟨b', off', e, hb, hc⟩ := h3 (by omega)
  cases e
  refine ⟨b, off + k * m, rfl, hb, fun i hi => ?_⟩
  have := hc (k + i) (by omega)
  rw [Nat.add_mul, ← Nat.add_assoc] at this
  exact this
theorem Rws.take {w : World} {B m : Nat} {A : Option Addr} {n c : Nat} {R : Nat → List Value} (h : Rws w B m A n c R) (k : Nat) (hk : k ≤ n) : Rws w B m A k c R :=
  ⟨⟨Nat.le_trans hk h.1.1, h.1.2⟩, fun hn => by
    obtain ⟨b, off, e, hb, hc⟩ := h.2 (by omega)
    exact ⟨b, off, e, hb, fun i hi => hc i (by omega)⟩⟩

section
variable {H : Type} {enc : TypeId × Value → H} {P : Program}
/-- A slice argument of plain structs. -/
theorem rows_of {W : World} {t e : TypeId} (f : Nat) (ks : List Bool) (ht : P.underlying t = some (.slice e)) (hfl : flatOf P f e = some ks) (hc : P.cellsOf e = ks.length) (h0 : 0 < ks.length) {A : Option Addr} {n k : Nat} {d : DataW H} {p : List MemPlace}
    (h : DataW.Trod enc P W 0 (fun _ => true) true t (.slice A n k) d p) : ∃ R, (∀ i, Plain ks (R i)) ∧ Rws W W.heap.size ks.length A n k R := by
  obtain ⟨fuel, hf⟩ := h
  have hf' : DataW.trod enc P W 0 (fun _ => true) true fuel t [.slice A n k] = some (d, p) := by simpa [Value.cells] using hf
  rcases Go.Deep.open_slice ht hf' with ⟨hcs, _⟩ | ⟨a, len, cap, m, q, D, Pl, hcs, _, hl, hm, hmm, _, hx⟩
  · simp only [List.cons.injEq, Value.slice.injEq, and_true] at hcs
    obtain ⟨rfl, rfl, rfl⟩ := hcs
    exact ⟨fun _ => zeros ks, fun _ => plain_zeros ks, Rws.nil _ _ _ _⟩
  · simp only [List.cons.injEq, Value.slice.injEq, and_true] at hcs
    obtain ⟨rfl, rfl, rfl⟩ := hcs
    have hmc : m = k := by simpa using hmm
    subst hmc
    obtain ⟨R, hR⟩ := Go.Deep.choose_lt (α := List Value) (p := fun i cs => W.cells? 0 (a.add (i * P.cellsOf e)) (P.cellsOf e) = some cs ∧ Plain ks cs) (fun i hi => by
      obtain ⟨cs, h1, h2⟩ := hx i hi
      exact ⟨cs, h1, plain_of_trod f e ks hfl _ _ _ h2⟩)
    refine ⟨fun i => if i < m then R i else zeros ks, fun i => ?_, ⟨hl, hm⟩, fun hn => ?_⟩
    · show Plain ks (if i < m then R i else zeros ks)
      split
      · exact (hR i (by assumption)).2
      · exact plain_zeros ks
    · have hcell : ∀ i, i < m → ∀ j v, (R i)[j]? = some v → W.cell? (a.add (i * ks.length + j)) = some v := fun i hi j v hv => by
        obtain ⟨h1, h2⟩ := hR i hi
        obtain ⟨_, h3, h4⟩ := World.cells?_some h1
        have hj : j < P.cellsOf e := by rw [← h3]; exact (List.getElem?_eq_some_iff.1 hv).1
        have := h4 j hj
        rw [hv, hc] at this
        rw [← this]
        congr 1
        unfold Addr.add
        by_cases hi0 : i * ks.length = 0 <;> by_cases hj0 : j = 0 <;> simp [hi0, hj0, Nat.add_assoc]
      obtain ⟨b, off, spot⟩ := a
      have hpl := (hR 0 (by omega)).2
      have hlen := hpl.length
      obtain ⟨v0, hv0⟩ : ∃ v, (R 0)[0]? = some v := ⟨_, List.getElem?_eq_getElem (by omega)⟩
      have hspot : spot = none := by
        have := World.cell?_spot (hcell 0 (by omega) 0 _ hv0)
        simpa [Addr.add] using this
      subst hspot
      refine ⟨b, off, rfl, ?_, fun i hi j v hv => ?_⟩
      · have := cell_lt (hcell 0 (by omega) 0 _ hv0)
        simpa [Addr.add] using this
      · replace hv : (if i < m then R i else zeros ks)[j]? = some v := hv
        rw [if_pos (by omega)] at hv
        have := hcell i (by omega) j v hv
        rw [Go.WideShapes.add_plain, ← Nat.add_assoc] at this
        exact this
/-- A cell that holds such a slice. -/
theorem rows_cell {W : World} {t e : TypeId} (f : Nat) (ks : List Bool) (ht : P.underlying t = some (.slice e)) (hfl : flatOf P f e = some ks) (hc : P.cellsOf e = ks.length) (h0 : 0 < ks.length) {v : Value} {x : DataW H × List MemPlace} {q : Nat}
    (h : DataW.trod enc P W 0 (fun _ => true) true q t [v] = some x) : ∃ A n k, v = .slice A n k ∧ ∃ R, (∀ i, Plain ks (R i)) ∧ Rws W W.heap.size ks.length A n k R := by
  have key : ∃ A n k, v = .slice A n k := by
    rcases Go.Deep.open_slice ht h with ⟨hcs, _⟩ | ⟨a, len, cap, m, q, D, Pl, hcs, _⟩
    · exact ⟨_, _, _, by simpa using hcs⟩
    · exact ⟨_, _, _, by simpa using hcs⟩
  obtain ⟨A, n, k, rfl⟩ := key
  exact ⟨A, n, k, rfl, rows_of (d := x.1) (p := x.2) f ks ht hfl hc h0 ⟨q, by simpa [Value.cells] using h⟩⟩
/-- A struct argument of plain cells. -/
theorem plain_arg {W : World} {t : TypeId} {fs : Array Field} (f : Nat) (ks : List Bool) (ht : P.underlying t = some (.struct fs)) (hfl : flatOf P f t = some ks) {r : Reach} {b0 : Nat} {v : Value} {d : DataW H} {p : List MemPlace} (hv : Value.okWide P W r b0 t v)
    (h : DataW.Trod enc P W 0 (fun _ => true) true t v d p) : ∃ cs, v = .agg cs ∧ Plain ks cs.toList := by
  obtain ⟨cs, rfl, hsz⟩ := okWide_struct ht hv
  obtain ⟨fuel, hf⟩ := h
  exact ⟨cs, rfl, plain_of_trod f t ks hfl _ _ _ (by simpa [Value.cells] using hf)⟩
end

/-- Block g is an array of c rows (element type t); its first n rows are R. -/
def New (w : World) (g : Nat) (t : TypeId) (m n c : Nat) (R : Nat → List Value) : Prop :=
  ∃ cs : Array Value, w.heap[g]? = some (.cells cs t (0, 0)) ∧ cs.size = c * m ∧ n ≤ c ∧ ∀ i, i < n → ∀ j v, (R i)[j]? = some v → cs[i * m + j]? = some v

section
variable {w w' : World} {g : Nat} {t : TypeId} {m n c : Nat} {R R' : Nat → List Value}
theorem New.lt (h : New w g t m n c R) : g < w.heap.size := by
  obtain ⟨cs, h1, _⟩ := h
  exact heap_lt h1
theorem New.keep (h : New w g t m n c R) (hk : w'.heap[g]? = w.heap[g]?) : New w' g t m n c R := by
  obtain ⟨cs, h1, h2⟩ := h
  exact ⟨cs, hk.trans h1, h2⟩
theorem New.below {B : Nat} (h : New w g t m n c R) (hb : Below B w w') (hg : g < B) : New w' g t m n c R := h.keep (hb.block g hg)
theorem New.rows (h : New w g t m n c R) (hc : c ≤ maxLen) {B : Nat} (hB : g < B) : Rws w B m (some ⟨g, 0, none⟩) n c R := by
  obtain ⟨cs, h1, h2, h3, h4⟩ := h
  refine ⟨⟨h3, hc⟩, fun _ => ⟨g, 0, rfl, hB, fun i hi j v hv => ?_⟩⟩
  rw [(blk h1).1, Nat.zero_add]
  exact h4 i hi j v hv
theorem New.free (h : New w g t m n c R) (i : Nat) : w.frozen? ⟨g, i, none⟩ = false := by
  obtain ⟨cs, h1, _⟩ := h
  exact (blk h1).2 i
theorem New.is (h : New w g t m n c R) (i : Nat) (hi : i < c * m) : ∃ v, w.cell? ⟨g, i, none⟩ = some v := by
  obtain ⟨cs, h1, h2, _⟩ := h
  exact ⟨cs[i]'(by omega), by rw [(blk h1).1]; simp [h2, hi]⟩
theorem New.congr (h : New w g t m n c R) (hR : ∀ i, i < n → R i = R' i) : New w g t m n c R' := by
  obtain ⟨cs, h1, h2, h3, h4⟩ := h
  exact ⟨cs, h1, h2, h3, fun i hi => by rw [← hR i hi]; exact h4 i hi⟩
theorem New.fewer (h : New w g t m n c R) (k : Nat) (hk : k ≤ n) : New w g t m k c R := by
  obtain ⟨cs, h1, h2, h3, h4⟩ := h
  exact ⟨cs, h1, h2, by omega, fun i hi => h4 i (by omega)⟩
end

/-- A slice of one's own: no rows, or a block of its own. -/
def Own (w : World) (B : Nat) (t : TypeId) (m : Nat) (A : Option Addr) (n c : Nat) (R : Nat → List Value) : Prop :=
  c ≤ maxLen ∧ n ≤ c ∧ (n = 0 ∨ ∃ g, A = some ⟨g, 0, none⟩ ∧ B ≤ g ∧ New w g t m n c R)
theorem Own.rows {w : World} {B : Nat} {t : TypeId} {m : Nat} {A : Option Addr} {n c : Nat} {R : Nat → List Value} (h : Own w B t m A n c R) : Rws w w.heap.size m A n c R := by
  obtain ⟨h1, h2, rfl | ⟨g, rfl, _, h3⟩⟩ := h
  · exact Rws.none_ h1
  · exact h3.rows h1 h3.lt
theorem Own.keep {w w' : World} {B : Nat} {t : TypeId} {m : Nat} {A : Option Addr} {n c : Nat} {R : Nat → List Value} (h : Own w B t m A n c R) (hk : ∀ g, B ≤ g → g < w.heap.size → A = some ⟨g, 0, none⟩ → w'.heap[g]? = w.heap[g]?) : Own w' B t m A n c R := by
  obtain ⟨h1, h2, h3⟩ := h
  refine ⟨h1, h2, h3.imp id fun ⟨g, h4, h5, h6⟩ => ⟨g, h4, h5, h6.keep (hk g h5 h6.lt h4)⟩⟩
theorem Own.next {w w' : World} {B : Nat} {t : TypeId} {m : Nat} {A : Option Addr} {n c : Nat} {R : Nat → List Value} (h : Own w B t m A n c R) (hb : Below w.heap.size w w') : Own w' B t m A n c R := h.keep fun g _ hg _ => hb.block g hg

theorem setRow_grownM (w : World) (b : Nat) (cs : Array Value) : w.grownBy (w.setRow b cs) (some b) :=
  ⟨rfl, rfl, rfl, by simp, fun k _ hne => by
    simp only [World.setRow, Array.getElem?_modify]
    rw [if_neg (fun e => hne (by rw [e]))]⟩
section
variable {P : Program}
/-- 'make([]T, n)'. -/
theorem run_make_rows (t e : TypeId) (i : TypeInfo) (z : Value) (size : Nat) (ht : P.underlying t = some (.slice e)) (hi : P.info? e = some i) (hz : i.zero = some z) (hsize : i.size = size) (n : Nat) (hbytes : i.bytes * n ≤ 281474976710656) (h63 : n ≤ 9223372036854775807) (w : World) :
    (Instr.makeSlice t (.int .i64 (n : Int)) (.int .i64 (n : Int))).run P w = .ok (.slice (some ⟨w.heap.size, 0, none⟩) n n) (w.alloc (.cells (madeCells z.cells (n * size)) e)) := by
  have hb' : (i.bytes : Int) * (n : Int) ≤ 281474976710656 := by
    have h : ((i.bytes * n : Nat) : Int) ≤ 281474976710656 := by omega
    rwa [Int.natCast_mul] at h
  have hr := run_make (P := P) w t e i z ht hi hz .i64 .i64 n n (by omega) (Int.le_refl _) hb' (by omega)
  simp only [Int.toNat_natCast, hsize] at hr
  exact hr
theorem new_made (w : World) (t : TypeId) (z : Array Value) (m n : Nat) (R : Nat → List Value) : New (w.alloc (.cells (madeCells z (n * m)) t)) w.heap.size t m 0 n R :=
  ⟨_, heap_alloc_new w _, size_madeCells _ _, Nat.zero_le _, fun i hi => absurd hi (by omega)⟩

theorem new_put {w2 : World} {g : Nat} {t : TypeId} {m k c : Nat} {R : Nat → List Value} {cs : Array Value} (h1 : cs.size = c * m) (h2 : k < c) (h3 : ∀ i, i < k → ∀ j v, (R i)[j]? = some v → cs[i * m + j]? = some v) (hm : ∀ i, (R i).length = m)
    (hw : w2.heap[g]? = some (.cells (cs.toList.take (k * m) ++ R k ++ cs.toList.drop (k * m + (R k).length)).toArray t (0, 0))) : New w2 g t m (k + 1) c R := by
  have hle : (k + 1) * m ≤ c * m := Nat.mul_le_mul_right m (by omega)
  rw [Nat.add_mul, Nat.one_mul] at hle
  have hlk : (cs.toList.take (k * m)).length = k * m := by rw [List.length_take, Array.length_toList]; omega
  refine ⟨_, hw, ?_, h2, ?_⟩
  · rw [List.size_toArray, List.length_append, List.length_append, hlk, List.length_drop, hm k, Array.length_toList, h1]; omega
  · intro i hi j v hv
    have hj : j < m := by rw [← hm i]; exact (List.getElem?_eq_some_iff.1 hv).1
    rw [List.getElem?_toArray, List.append_assoc]
    rcases Nat.lt_or_ge i k with h | h
    · have hlt : i * m + j < k * m := by
        have : (i + 1) * m ≤ k * m := Nat.mul_le_mul_right m h
        rw [Nat.add_mul, Nat.one_mul] at this
        omega
      rw [List.getElem?_append_left (by omega), List.getElem?_take, if_pos hlt, Array.getElem?_toList]
      exact h3 i h j v hv
    · obtain rfl : i = k := by omega
      rw [List.getElem?_append_right (by omega), hlk, List.getElem?_append_left (by rw [hm]; omega)]
      rw [show i * m + j - i * m = j by omega]
      exact hv

/-- 'out[k] = v', v the next row. -/
theorem wpList_store_next {ops : Array Oper} {rest : List Oper} {o : Oper} {a : Act} {w : World} {Q : Exit → Act → World → Prop} (hgd : o.guard = none) (ty : TypeId) (x y : Operand) (ho : o.op = .store ty x y)
    {g : Nat} {t : TypeId} {m k c : Nat} {R : Nat → List Value} (v : Value) (hP : New w g t m k c R) (hk : k < c) (hm : ∀ i, (R i).length = m) (hx : a.eval x = .pointer (some ⟨g, k * m, none⟩)) (hy : a.eval y = v) (hv : v.cells.toList = R k)
    (hi : (P.info? ty).map (·.size) = some m) (h1 : ∀ u ∈ R k, u.oneCell' = true)
    (h : ∀ w2 : World, New w2 g t m (k + 1) c R → w.grownBy w2 (some g) → w2.heap.size = w.heap.size → wpList P ops Q rest (a.put o.dst undef) w2) : wpList P ops Q (o :: rest) a w := by
  refine wpList_plain hgd fun K hK => ?_
  obtain ⟨cs, hg, hs, hkc, hcs⟩ := hP
  have hle : (k + 1) * m ≤ c * m := Nat.mul_le_mul_right m (by omega)
  rw [Nat.add_mul, Nat.one_mul] at hle
  have hst := run_storeCells_at P g (k * m) t (R k) 0 cs w hg (by rw [hm]; omega) h1
  have hsv : (storeVar ty ⟨g, k * m, none⟩ v).run P w = .ok () (w.setRow g (cs.toList.take (k * m) ++ R k ++ cs.toList.drop (k * m + (R k).length)).toArray) := by
    cases hq : P.info? ty with
    | none => simp [hq] at hi
    | some i =>
      have hs : i.size = m := by simpa [hq] using hi
      have hvs : v.cells.size = i.size := by rw [hs, ← hm k, ← hv]; simp
      simp only [Nat.add_zero] at hst
      simp [storeVar, sizeOf, typeInfo, hq, hvs, hv, hst]
  unfold Oper.wp execOp
  simp only [ho, hx, hy, Instr.storeAt, Instr.sureAddr, Sem.run_bind, Sem.run_pure, Result.andThen_ok, hsv]
  exact hK _ _ (h _ (new_put hs hk hcs hm (setRow_heap w g cs _ t _ hg)) (setRow_grownM w g _) (by simp))
end
theorem wpList_store_next1 {P : Program} {ops : Array Oper} {rest : List Oper} {o : Oper} {a : Act} {w : World} {Q : Exit → Act → World → Prop} (hgd : o.guard = Option.none) (ty : TypeId) (x y : Operand) (ho : o.op = .store ty x y)
    {g : Nat} {t : TypeId} {k c : Nat} {R : Nat → List Value} (v : Value) (hP : New w g t 1 k c R) (hk : k < c) (hm : ∀ i, (R i).length = 1) (hx : a.eval x = .pointer (some ⟨g, k, Option.none⟩)) (hy : a.eval y = v) (hv : v.cells.toList = R k)
    (hi : (P.info? ty).map (·.size) = some 1) (h1 : ∀ u ∈ R k, u.oneCell' = true)
    (h : ∀ w2 : World, New w2 g t 1 (k + 1) c R → w.grownBy w2 (some g) → w2.heap.size = w.heap.size → wpList P ops Q rest (a.put o.dst undef) w2) : wpList P ops Q (o :: rest) a w :=
  wpList_store_next hgd ty x y ho v hP hk hm (by rw [Nat.mul_one]; exact hx) hy hv hi h1 h
theorem heap_new1 (w : World) (a b : Obj) : ((w.alloc a).alloc b).heap[w.heap.size + 1]? = some b := by
  have := heap_alloc_new (w.alloc a) b
  simpa using this
theorem heap_new2 (w : World) (a b c : Obj) : (((w.alloc a).alloc b).alloc c).heap[w.heap.size + 1 + 1]? = some c := by
  have := heap_alloc_new ((w.alloc a).alloc b) c
  simpa using this
theorem heap_set_far {w : World} {p : Addr} {k : Nat} {o : Obj} (h : w.heap[k]? = some o) (hp : p.block ≠ k) (v : Value) : (w.setCell p v).heap[k]? = some o := (heap_setCell_other w p k v (Ne.symm hp)).trans h
/-- Some cells of a known block are stored. -/
theorem wpList_store_seg {P : Program} {ops : Array Oper} {rest : List Oper} {o : Oper} {a : Act} {w : World} {Q : Exit → Act → World → Prop} (hgd : o.guard = Option.none) (ty : TypeId) (x y : Operand) (ho : o.op = .store ty x y)
    {g i : Nat} {t : TypeId} {old : Array Value} (v : Value) (cells : Array Value) (hb : w.heap[g]? = some (.cells old t (0, 0))) (hx : a.eval x = .pointer (some ⟨g, i, Option.none⟩)) (hy : a.eval y = v)
    (hi : (P.info? ty).map (·.size) = some v.cells.size) (hc : (old.toList.take i ++ v.cells.toList ++ old.toList.drop (i + v.cells.toList.length)).toArray = cells) (hle : decide (i + v.cells.toList.length ≤ old.size) = true) (h1 : v.cells.toList.all (·.oneCell') = true)
    (h : ∀ w2 : World, w2.heap[g]? = some (.cells cells t (0, 0)) → w.grownBy w2 (some g) → w2.heap.size = w.heap.size → wpList P ops Q rest (a.put o.dst undef) w2) : wpList P ops Q (o :: rest) a w := by
  refine wpList_plain hgd fun K hK => ?_
  have hst := run_storeCells_at P g i t v.cells.toList 0 old w hb (by simpa using hle) (List.all_eq_true.1 h1)
  simp only [Nat.add_zero, hc] at hst
  have hsv : (storeVar ty ⟨g, i, Option.none⟩ v).run P w = .ok () (w.setRow g cells) := by
    cases hq : P.info? ty with
    | none => simp [hq] at hi
    | some j =>
      have hs : j.size = v.cells.size := by simpa [hq] using hi
      simp [storeVar, sizeOf, typeInfo, hq, hs, hst]
  unfold Oper.wp execOp
  simp only [ho, hx, hy, Instr.storeAt, Instr.sureAddr, Sem.run_bind, Sem.run_pure, Result.andThen_ok, hsv]
  exact hK _ _ (h _ (setRow_heap w g old _ t _ hb) (setRow_grownM w g _) (by simp))
theorem all_no {f : Nat → Bool} {n i : Nat} (hi : i < n) (h : f i = false) : (List.range n).all f = false := by
  rw [List.all_eq_false]
  exact ⟨i, List.mem_range.2 hi, by simp [h]⟩
theorem all_yes {f : Nat → Bool} {n : Nat} (h : ∀ i, i < n → f i = true) : (List.range n).all f = true := List.all_eq_true.2 fun i hi => h i (List.mem_range.1 hi)
theorem all_get {f : Nat → Bool} {n : Nat} (h : (List.range n).all f = true) {i : Nat} (hi : i < n) : f i = true := List.all_eq_true.1 h i (List.mem_range.2 hi)
theorem upto {p : Nat → Prop} {j : Nat} (h : ∀ i, i < j → p i) (hj : p j) : ∀ i, i < j + 1 → p i := fun i hi => by
  rcases Nat.lt_or_ge i j with h1 | h1
  · exact h i h1
  · obtain rfl : i = j := by omega
    exact hj
/-- What is left of l behind a slice of n. -/
def szI (n : Nat) (l : Int) : Int := if (n : Int) ≤ l then l - n else -1
/-- The least index below n of which F is true; n if there is none. -/
def findTo (F : Nat → Bool) : Nat → Nat
  | 0 => 0
  | n + 1 => if findTo F n < n then findTo F n else if F n then n else n + 1
theorem findTo_none {F : Nat → Bool} : ∀ {n : Nat}, (∀ i, i < n → F i = false) → findTo F n = n
  | 0, _ => rfl
  | n + 1, h => by
    have e := findTo_none (n := n) fun i hi => h i (by omega)
    simp [findTo, e, h n (by omega)]
theorem findTo_hit {F : Nat → Bool} {j : Nat} : ∀ {n : Nat}, j < n → (∀ i, i < j → F i = false) → F j = true → findTo F n = j
  | 0, h, _, _ => absurd h (by omega)
  | n + 1, h, hno, hy => by
    rcases Nat.lt_or_ge j n with h1 | h1
    · have e := findTo_hit h1 hno hy
      simp [findTo, e, h1]
    · obtain rfl : j = n := by omega
      have e := findTo_none hno
      simp [findTo, e, hy]
/-- What a call hands back that makes n rows. -/
def Made (w : World) (t : TypeId) (m n : Nat) (R : Nat → List Value) (e : Ending) (w' : World) : Prop :=
  ∃ g, e = .returned (.slice (some ⟨g, 0, Option.none⟩) n n) ∧ w.heap.size ≤ g ∧ New w' g t m n n R ∧ Below w.heap.size w w'
theorem Below.of_grown {a w w2 : World} {g : Nat} (h : Below a.heap.size a w) (hg : w.grownBy w2 (some g)) (hB : a.heap.size ≤ g) : Below a.heap.size a w2 :=
  ⟨hg.os.trans h.os, hg.tape.trans h.tape, hg.output.trans h.output, Nat.le_trans h.size hg.size, fun k hk => (hg.block k (Nat.lt_of_lt_of_le hk h.size) (by simp; omega)).trans (h.block k hk)⟩
end Go.Proofs.Ytbnfllpimnnmfaa
