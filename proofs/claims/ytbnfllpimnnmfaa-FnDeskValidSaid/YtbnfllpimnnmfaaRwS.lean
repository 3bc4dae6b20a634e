/-
  Rows written in place; a slice of one's own that may grow, out of its block; append of a list onto a new slice.
-/
import Derived.Test.YtbnfllpimnnmfaaOwn
import Derived.Test.YtbnfllpimnnmfaaAll
import Derived.Test.YtbnfllpimnnmfaaFree
namespace Go.Proofs.Ytbnfllpimnnmfaa
open Go Go.RowKit

/-! ### rows written in place -/
theorem seg_get {cs : List Value} {p : Nat} {vs : List Value} (hp : p + vs.length ≤ cs.length) (i : Nat) :
    (cs.take p ++ vs ++ cs.drop (p + vs.length))[i]? = if i < p then cs[i]? else if i < p + vs.length then vs[i - p]? else cs[i]? := by
  have hl : (cs.take p).length = p := by simp; omega
  by_cases h1 : i < p
  · rw [if_pos h1, List.append_assoc, List.getElem?_append_left (by omega), List.getElem?_take, if_pos h1]
  · rw [if_neg h1, List.append_assoc, List.getElem?_append_right (by omega), hl]
    by_cases h2 : i < p + vs.length
    · rw [if_pos h2, List.getElem?_append_left (by omega)]
    · rw [if_neg h2, List.getElem?_append_right (by omega), List.getElem?_drop]
      congr 1
      omega
theorem seg_size {cs : Array Value} {p : Nat} {vs : List Value} (hp : p + vs.length ≤ cs.size) : (cs.toList.take p ++ vs ++ cs.toList.drop (p + vs.length)).toArray.size = cs.size := by
  simp; omega
theorem new_row {w' : World} {g : Nat} {t : TypeId} {m n c k : Nat} {R : Nat → List Value} {cs : Array Value} {row : List Value} (hs : cs.size = c * m) (hnc : n ≤ c) (hcs : ∀ i, i < n → ∀ j v, (R i)[j]? = some v → cs[i * m + j]? = some v)
    (hk : k < n) (hm : ∀ i, (R i).length = m) (hrow : row.length = m) (hw : w'.heap[g]? = some (.cells (cs.toList.take (k * m) ++ row ++ cs.toList.drop (k * m + row.length)).toArray t (0, 0))) :
    New w' g t m n c (fun i => if i = k then row else R i) := by
  have hle : (k + 1) * m ≤ c * m := Nat.mul_le_mul_right m (by omega)
  rw [Nat.add_mul, Nat.one_mul] at hle
  have hp : k * m + row.length ≤ cs.toList.length := by simp; omega
  refine ⟨_, hw, by rw [seg_size (by simpa using hp)]; exact hs, hnc, fun i hi j v hv => ?_⟩
  rw [← Array.getElem?_toList, List.toList_toArray, seg_get hp]
  by_cases hik : i = k
  · subst hik
    simp only [if_true] at hv
    have hj := (List.getElem?_eq_some_iff.1 hv).1
    rw [if_neg (by omega), if_pos (by omega), show i * m + j - i * m = j by omega]
    exact hv
  · simp only [if_neg hik] at hv
    have hj : j < m := by rw [← hm i]; exact (List.getElem?_eq_some_iff.1 hv).1
    have hget := hcs i hi j v hv
    rw [← Array.getElem?_toList] at hget
    rcases Nat.lt_or_gt_of_ne hik with h | h
    · have h2 : (i + 1) * m ≤ k * m := Nat.mul_le_mul_right m (by omega)
      rw [Nat.add_mul, Nat.one_mul] at h2
      rw [if_pos (by omega)]
      exact hget
    · have h2 : (k + 1) * m ≤ i * m := Nat.mul_le_mul_right m (by omega)
      rw [Nat.add_mul, Nat.one_mul] at h2
      rw [if_neg (by omega), if_neg (by omega)]
      exact hget
section
variable {P : Program}
/-- 's[k] = row', in place. -/
theorem wpList_store_row {ops : Array Oper} {rest : List Oper} {o : Oper} {a : Act} {w : World} {Q : Exit → Act → World → Prop} (hgd : o.guard = none) (ty : TypeId) (x y : Operand) (ho : o.op = .store ty x y)
    {g : Nat} {t : TypeId} {m n k c : Nat} {R : Nat → List Value} (v : Value) (hP : New w g t m n c R) (hk : k < n) (hm : ∀ i, (R i).length = m) (hx : a.eval x = .pointer (some ⟨g, k * m, none⟩)) (hy : a.eval y = v) {row : List Value} (hv : v.cells.toList = row) (hrow : row.length = m)
    (hi : (P.info? ty).map (·.size) = some m) (h1 : ∀ u ∈ row, u.oneCell' = true)
    (h : ∀ w2 : World, New w2 g t m n c (fun i => if i = k then row else R i) → w.grownBy w2 (some g) → w2.heap.size = w.heap.size → wpList P ops Q rest (a.put o.dst undef) w2) : wpList P ops Q (o :: rest) a w := by
  refine wpList_plain hgd fun K hK => ?_
  obtain ⟨cs, hg, hs, hnc, hcs⟩ := hP
  have hle : (k + 1) * m ≤ c * m := Nat.mul_le_mul_right m (by omega)
  rw [Nat.add_mul, Nat.one_mul] at hle
  have hst := run_storeCells_at P g (k * m) t row 0 cs w hg (by rw [hrow]; omega) h1
  have hsv : (storeVar ty ⟨g, k * m, none⟩ v).run P w = .ok () (w.setRow g (cs.toList.take (k * m) ++ row ++ cs.toList.drop (k * m + row.length)).toArray) := by
    cases hq : P.info? ty with
    | none => simp [hq] at hi
    | some i =>
      have hs : i.size = m := by simpa [hq] using hi
      have hvs : v.cells.size = i.size := by rw [hs, ← hrow, ← hv]; simp
      simp only [Nat.add_zero] at hst
      simp [storeVar, sizeOf, typeInfo, hq, hvs, hv, hst]
  unfold Oper.wp execOp
  simp only [ho, hx, hy, Instr.storeAt, Instr.sureAddr, Sem.run_bind, Sem.run_pure, Result.andThen_ok, hsv]
  exact hK _ _ (h _ (new_row hs hnc hcs hk hm hrow (setRow_heap w g cs _ t _ hg)) (setRow_grownM w g _) (by simp))
end
theorem rowsTo_of {cs : List Value} {R : Nat → List Value} {m : Nat} (hm : ∀ i, (R i).length = m) : ∀ {n : Nat}, n * m ≤ cs.length → (∀ i, i < n → ∀ j v, (R i)[j]? = some v → cs[i * m + j]? = some v) → cs.take (n * m) = rowsTo R n
  | 0, _, _ => by simp [rowsTo]
  | n + 1, hl, h => by
    have hmm : (n + 1) * m = n * m + m := by rw [Nat.add_mul, Nat.one_mul]
    rw [rowsTo, hmm, List.take_add, rowsTo_of hm (by omega) fun i hi => h i (by omega)]
    congr 1
    apply List.ext_getElem?
    intro q
    rw [List.getElem?_take, List.getElem?_drop]
    by_cases hq : q < m
    · rw [if_pos hq]
      have hq2 : q < (R n).length := by rw [hm]; exact hq
      rw [List.getElem?_eq_getElem hq2]
      exact h n (by omega) q _ (List.getElem?_eq_getElem hq2)
    · rw [if_neg hq, List.getElem?_eq_none (by rw [hm]; omega)]
theorem Acc.of_new {w : World} {B g : Nat} {t : TypeId} {m n c : Nat} {R : Nat → List Value} (h : New w g t m n c R) (hB : B ≤ g) (hc : c ≤ maxLen) (hm : ∀ i, (R i).length = m) : Acc w B t m (.slice (some ⟨g, 0, none⟩) n c) n R := by
  obtain ⟨cs, h1, h2, h3, h4⟩ := h
  have hnc : n * m ≤ c * m := Nat.mul_le_mul_right m h3
  refine ⟨⟨by rw [rowsTo_length hm], .inr ⟨g, c, cs, rfl, hB, h1, h3, hc, h2, ?_⟩⟩, hm⟩
  exact rowsTo_of hm (by simp; omega) fun i hi j v hv => by rw [Array.getElem?_toList]; exact h4 i hi j v hv
theorem Acc.new_ {w : World} {B : Nat} {t : TypeId} {m : Nat} {v : Value} {n : Nat} {R : Nat → List Value} (h : Acc w B t m v n R) (hn : 0 < n) : ∃ g c, v = .slice (some ⟨g, 0, none⟩) n c ∧ B ≤ g ∧ New w g t m n c R ∧ c ≤ maxLen := by
  obtain ⟨A, c, rfl, hO⟩ := h.own
  obtain ⟨g, rfl, h1, h2⟩ := hO.at_ hn
  exact ⟨g, c, rfl, h1, h2, hO.1⟩
theorem Acc.base {w : World} {B B' : Nat} {t : TypeId} {m : Nat} {v : Value} {n : Nat} {R : Nat → List Value} (h : Acc w B t m v n R) (hB : B' ≤ B) : Acc w B' t m v n R := by
  obtain ⟨⟨h2, h3⟩, h4⟩ := h
  exact ⟨⟨h2, h3.imp id fun ⟨g, cap, cur, e, hb, r⟩ => ⟨g, cap, cur, e, by omega, r⟩⟩, h4⟩
/-- A new empty slice. -/
def kbEmp (B0 : Nat) (t : TypeId) : KB := ⟨fun v w => ∃ b, v = .slice (some ⟨b, 0, none⟩) 0 0 ∧ B0 ≤ b ∧ w.heap[b]? = some (.cells #[] t (0, 0)), fun _ _ _ ⟨b, h1, h2, h3⟩ hb => ⟨b, h1, h2, (hb.block b (heap_lt h3)).trans h3⟩⟩
/-- A slice that may grow. -/
def kbAcc (B : Nat) (t : TypeId) (m n : Nat) (R : Nat → List Value) : KB := ⟨fun v w => ∃ A c, v = .slice A n c ∧ Acc w B t m (.slice A n c) n R, fun _ _ _ ⟨A, c, e, h⟩ hb => ⟨A, c, e, h.next hb⟩⟩
/-- 'append([]T{}, list...)', at the operation. -/
theorem wp_copy0 {P : Program} {o : Oper} {a : Act} {w : World} {K : Act → World → Prop} {Q : Exit → Act → World → Prop} (s x : Operand) (ts : TypeId)
    (ho : o.op = .call { callee := .builtin .append, args := #[s, x], argTypes := #[ts, ts] })
    (t : TypeId) (z : Value) (m bytes : Nat) (ht : P.underlying ts = some (.slice t)) (hinfo : (P.info? t).map (fun i => (i.zero, i.size, i.bytes)) = some (some z, m, bytes)) (hzs : z.cells.size = m) (hsz : 0 < m) (hby : bytes ≤ 64)
    {B B2 b : Nat} (hs : a.eval s = .slice (some ⟨b, 0, none⟩) 0 0) (hB : B ≤ b) (hb : w.heap[b]? = some (.cells #[] t (0, 0)))
    {A : Option Addr} {n c : Nat} {R : Nat → List Value} (hx : a.eval x = .slice A n c) (hR : Rws w B2 m A n c R) (hm : ∀ i, (R i).length = m) (h1 : ∀ i, ∀ u ∈ R i, u.oneCell' = true) (hn : n ≤ 500000000)
    (h : ∀ v' w', (∃ A' c', v' = .slice A' n c' ∧ Acc w' B t m (.slice A' n c') n R) → Below w.heap.size w w' → K (a.put o.dst v') w') : o.wp P a w K Q := by
  obtain ⟨i, hi, hzz⟩ := Option.map_eq_some_iff.1 hinfo
  simp only [Prod.mk.injEq] at hzz
  obtain ⟨hz, hsize, hbytes⟩ := hzz
  have hl : (rowsTo R n).length = n * m := rowsTo_length hm n
  have hacc0 : ∀ w', w'.heap[b]? = some (.cells #[] t (0, 0)) → Acc w' B t m (.slice (some ⟨b, 0, none⟩) 0 0) 0 R := fun w' hb' =>
    ⟨⟨by simp [rowsTo], .inr ⟨b, 0, #[], rfl, hB, hb', Nat.le_refl _, by unfold maxLen; omega, by simp, by simp [rowsTo]⟩⟩, hm⟩
  have hbl := heap_lt hb
  rcases Nat.eq_zero_or_pos n with rfl | hpos
  · rcases A with _ | ad
    · have hrun := run_append_of_nil (P := P) w B ts o.type t i m ht hi _ 0 _ (hacc0 w hb).1 c
      unfold Oper.wp execOp
      simp only [ho, resolve, invoke, builtin, Sem.run_bind, Sem.run_pure, Result.andThen_ok, List.map_toArray, List.map_cons, List.map_nil, hs, hx, hrun]
      exact h _ w ⟨_, _, rfl, hacc0 w hb⟩ (Below.refl _ _)
    · have hrun := run_append_room (P := P) w ts o.type t i ht hi b 0 0 #[] hb ad 0 c [] (by simp) (by simp) (by simp) (by omega) (by simp)
      unfold Oper.wp execOp
      simp only [ho, resolve, invoke, builtin, Sem.run_bind, Sem.run_pure, Result.andThen_ok, List.map_toArray, List.map_cons, List.map_nil, hs, hx, hrun]
      have hh := setRow_heap w b #[] (#[].toList.take (0 * i.size) ++ [] ++ #[].toList.drop (0 * i.size + ([] : List Value).length)).toArray t _ hb
      have hh' : (w.setRow b (#[].toList.take (0 * i.size) ++ [] ++ #[].toList.drop (0 * i.size + ([] : List Value).length)).toArray).heap[b]? = some (.cells #[] t (0, 0)) := by
        rw [hh]; simp
      refine h _ _ ⟨_, _, rfl, hacc0 _ hh'⟩ ⟨rfl, rfl, rfl, by simp, fun k hk => ?_⟩
      by_cases hkb : k = b
      · subst hkb; exact hh'.trans hb.symm
      · exact setRow_other w b k _ hkb
  · obtain ⟨bl, off, rfl, hbB, hc⟩ := hR.2 hpos
    have hnews : ∀ j u, (rowsTo R n)[j]? = some u → w.cell? ((⟨bl, off, none⟩ : Addr).add j) = some u := fun j u hu => by
      obtain ⟨i', j', hi', rfl, hu'⟩ := rowsTo_get hm n j u hu
      rw [Go.WideShapes.add_plain]
      have := hc i' hi' j' u hu'
      rw [Nat.add_assoc] at this
      exact this
    have hmul : n * bytes ≤ n * 64 := Nat.mul_le_mul_left _ hby
    have hrun := run_append_grow (P := P) w ts o.type t i z ht hi hz ⟨b, 0, none⟩ 0 0 [] (by simp) (by simp) ⟨bl, off, none⟩ n c (rowsTo R n) (by rw [hl, hsize]) hnews (by omega) (by omega) (growslice_fits (by omega) (by rw [hbytes, Nat.zero_add]; omega))
    rw [Nat.zero_add] at hrun
    have hge := grownCap_ge w n 0 t
    have hgm : grownCap w n 0 t ≤ maxLen := grownCap_le_maxLen w n 0 t (by unfold maxLen; omega)
    unfold Oper.wp execOp
    simp only [ho, resolve, invoke, builtin, Sem.run_bind, Sem.run_pure, Result.andThen_ok, List.map_toArray, List.map_cons, List.map_nil, hs, hx, hrun]
    generalize grownCap w n 0 t = C at *
    refine h _ _ ⟨_, _, rfl, ⟨⟨by rw [hl], .inr ⟨w.heap.size, C, _, rfl, by omega, heap_alloc_new w.drew _, hge, hgm, ?_, ?_⟩⟩, hm⟩⟩ ⟨rfl, rfl, rfl, by simp, fun k hk => heap_alloc_old w.drew _ hk⟩
    · simp only [Array.size_append, List.size_toArray, size_zeroCells, hzs, hl, List.length_nil, Nat.zero_add]
      rw [← Nat.add_mul]
      congr 1
      omega
    · simp only [Array.toList_append, List.nil_append]
      rw [List.take_append_of_le_length (by rw [hl]; exact Nat.le_refl _), List.take_of_length_le (by rw [hl]; exact Nat.le_refl _)]
end Go.Proofs.Ytbnfllpimnnmfaa
