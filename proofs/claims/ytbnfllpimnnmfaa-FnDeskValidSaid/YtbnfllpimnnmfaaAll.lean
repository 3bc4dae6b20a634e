/-
  append of a whole slice onto a slice of one's own.
-/
import Derived.Test.YtbnfllpimnnmfaaOwn
namespace Go.Proofs.Ytbnfllpimnnmfaa
open Go Go.RowKit

theorem rowsTo_get {R : Nat → List Value} {m : Nat} (hm : ∀ i, (R i).length = m) : ∀ (n q : Nat) (u : Value), (rowsTo R n)[q]? = some u → ∃ i j, i < n ∧ q = i * m + j ∧ (R i)[j]? = some u
  | 0, q, u, h => by simp [rowsTo] at h
  | n + 1, q, u, h => by
    have hl := rowsTo_length hm n
    rw [rowsTo] at h
    rcases Nat.lt_or_ge q (n * m) with h1 | h1
    · rw [List.getElem?_append_left (by omega)] at h
      obtain ⟨i, j, h2, h3, h4⟩ := rowsTo_get hm n q u h
      exact ⟨i, j, by omega, h3, h4⟩
    · rw [List.getElem?_append_right (by omega), hl] at h
      exact ⟨n, q - n * m, by omega, by omega, h⟩
/-- n1 rows of R1, then those of R2. -/
def glue (R1 : Nat → List Value) (n1 : Nat) (R2 : Nat → List Value) : Nat → List Value := fun i => if i < n1 then R1 i else R2 (i - n1)
theorem glue_len {R1 R2 : Nat → List Value} {m : Nat} (h1 : ∀ i, (R1 i).length = m) (h2 : ∀ i, (R2 i).length = m) (n1 i : Nat) : (glue R1 n1 R2 i).length = m := by
  unfold glue; split
  · exact h1 i
  · exact h2 _
theorem rowsTo_glue {R1 R2 : Nat → List Value} {n1 : Nat} : ∀ n, rowsTo (glue R1 n1 R2) (n1 + n) = rowsTo R1 n1 ++ rowsTo R2 n
  | 0 => by
    rw [Nat.add_zero]
    have : ∀ k, k ≤ n1 → rowsTo (glue R1 n1 R2) k = rowsTo R1 k := by
      intro k
      induction k with
      | zero => intro _; rfl
      | succ k ih => intro hk; rw [rowsTo, rowsTo, ih (by omega)]; simp [glue, show k < n1 by omega]
    rw [this n1 (Nat.le_refl _)]
    simp [rowsTo]
  | n + 1 => by
    rw [show n1 + (n + 1) = (n1 + n) + 1 by omega, rowsTo, rowsTo_glue n, rowsTo, List.append_assoc]
    congr 2
    simp only [glue, show ¬ n1 + n < n1 by omega, if_false]
    congr 1
    omega

section
variable {P : Program}
theorem run_append_of_nil (w : World) (base : Nat) (t ty e : TypeId) (i : TypeInfo) (size : Nat) (ht : P.underlying t = some (.slice e)) (hi : P.info? e = some i)
    (v : Value) (n : Nat) (xs : List Value) (hown : w.ownsRow base e size v n xs) (c : Nat) : (Builtin.append_ #[t, t] ty #[v, .slice none 0 c]).run P w = .ok v w := by
  rcases hown.2 with ⟨rfl, rfl⟩ | ⟨g, cap, cur, rfl, _, _, hnc, _⟩
  · simp [Builtin.append_, run_underlying ht, sizeOf, typeInfo, hi, Builtin.lenOf, Builtin.firstCells]
  · simp [Builtin.append_, run_underlying ht, sizeOf, typeInfo, hi, Builtin.lenOf, Builtin.firstCells, hnc, storeCells]

theorem wpList_want {ops : Array Oper} {rest : List Oper} {o : Oper} {a : Act} {w : World} {Q : Exit → Act → World → Prop} (hw : Region.wanted o (yielded ops a.tmps) = true)
    (h : ∀ K : Act → World → Prop, (∀ a w, wpList P ops Q rest a w → K a w) → o.wp P a w K Q) : wpList P ops Q (o :: rest) a w := by
  unfold wpList
  rw [if_pos hw]
  exact .inl (h _ fun _ _ h => h)
/-- 'append(out, list...)', behind a guard too. -/
theorem wpList_pushAllW {ops : Array Oper} {rest : List Oper} {o : Oper} {a : Act} {w : World} {Q : Exit → Act → World → Prop} (hwd : Region.wanted o (yielded ops a.tmps) = true) (s x : Operand) (ts : TypeId)
    (ho : o.op = .call { callee := .builtin .append, args := #[s, x], argTypes := #[ts, ts] })
    (e : TypeId) (z : Value) (m bytes : Nat) (ht : P.underlying ts = some (.slice e)) (hinfo : (P.info? e).map (fun i => (i.zero, i.size, i.bytes)) = some (some z, m, bytes)) (hzs : z.cells.size = m) (hsz : 0 < m) (hby : bytes ≤ 64)
    {B B2 : Nat} {v : Value} {n1 n c : Nat} {R1 R2 : Nat → List Value} {A : Option Addr} (hs : a.eval s = v) (H : Acc w B e m v n1 R1) (hx : a.eval x = .slice A n c) (hR : Rws w B2 m A n c R2) (hm : ∀ i, (R2 i).length = m) (h1 : ∀ i, ∀ u ∈ R2 i, u.oneCell' = true)
    (hn1 : n1 ≤ 500000000) (hn : n ≤ 500000000) (hB : B ≤ w.heap.size)
    (h : ∀ v' w', Acc w' B e m v' (n1 + n) (glue R1 n1 R2) → Below B w w' → w.grownBy w' v.ownBlock → wpList P ops Q rest (a.put o.dst v') w') : wpList P ops Q (o :: rest) a w := by
  obtain ⟨i, hi, hzz⟩ := Option.map_eq_some_iff.1 hinfo
  simp only [Prod.mk.injEq] at hzz
  obtain ⟨hz, hsize, hbytes⟩ := hzz
  have hmul : (n1 + n) * bytes ≤ (n1 + n) * 64 := Nat.mul_le_mul_left _ hby
  have hgl := glue_len H.2 hm n1
  rcases A with _ | ad
  · have hn0 : n = 0 := by
      rcases Nat.eq_zero_or_pos n with h0 | h0
      · exact h0
      · obtain ⟨b, off, hA, _⟩ := hR.2 h0
        cases hA
    subst hn0
    refine wpList_want hwd fun K hK => ?_
    have hrun := run_append_of_nil (P := P) w B ts o.type e i m ht hi v n1 _ H.1 c
    unfold Oper.wp execOp
    simp only [ho, resolve, invoke, builtin, Sem.run_bind, Sem.run_pure, Result.andThen_ok, List.map_toArray, List.map_cons, List.map_nil, hs, hx, hrun]
    have hacc : Acc w B e m v (n1 + 0) (glue R1 n1 R2) := ⟨by rw [rowsTo_glue]; simpa [rowsTo] using H.1, hgl⟩
    exact hK _ _ (h v w hacc (Below.refl _ _) (World.grownBy.refl w _))
  · have hl : (rowsTo R2 n).length = n * m := rowsTo_length hm n
    refine wpList_want hwd fun K hK => ?_
    refine wp_append_own w s x ts ho B e i z m bytes ht hi hz hsize hbytes hzs hsz v n1 (rowsTo R1 n1) hs H.1 ad n c (rowsTo R2 n) hx hl (fun j u hu => ?_) (fun u hu => ?_) (by unfold maxLen; omega) (by omega) hB (fun v' w' h2 h3 _ => ?_)
    · obtain ⟨i', j', hi', rfl, hu'⟩ := rowsTo_get hm n j u hu
      obtain ⟨b, off, hA, hb, hc⟩ := hR.2 (by omega)
      cases hA
      rw [Go.WideShapes.add_plain]
      have := hc i' hi' j' u hu'
      rw [Nat.add_assoc] at this
      exact this
    · obtain ⟨j, hj⟩ := List.getElem?_of_mem hu
      obtain ⟨i', j', hi', rfl, hu'⟩ := rowsTo_get hm n j u hj
      exact h1 i' u (List.mem_of_getElem? hu')
    · refine hK _ _ (h v' w' ⟨by rw [rowsTo_glue]; exact h2, hgl⟩ ⟨h3.os, h3.tape, h3.output, h3.size, fun k hk => h3.block k (by omega) (fun e => ?_)⟩ h3)
      have := (H.block k e.symm).1
      omega
theorem wanted_plain {ops : Array Oper} {o : Oper} {tmps : Array Value} (hgd : o.guard = none) : Region.wanted o (yielded ops tmps) = true := by simp [Region.wanted, hgd]
/-- 'append(out, list...)'. -/
theorem wpList_pushAll {ops : Array Oper} {rest : List Oper} {o : Oper} {a : Act} {w : World} {Q : Exit → Act → World → Prop} (hgd : o.guard = none) (s x : Operand) (ts : TypeId)
    (ho : o.op = .call { callee := .builtin .append, args := #[s, x], argTypes := #[ts, ts] })
    (e : TypeId) (z : Value) (m bytes : Nat) (ht : P.underlying ts = some (.slice e)) (hinfo : (P.info? e).map (fun i => (i.zero, i.size, i.bytes)) = some (some z, m, bytes)) (hzs : z.cells.size = m) (hsz : 0 < m) (hby : bytes ≤ 64)
    {B B2 : Nat} {v : Value} {n1 n c : Nat} {R1 R2 : Nat → List Value} {A : Option Addr} (hs : a.eval s = v) (H : Acc w B e m v n1 R1) (hx : a.eval x = .slice A n c) (hR : Rws w B2 m A n c R2) (hm : ∀ i, (R2 i).length = m) (h1 : ∀ i, ∀ u ∈ R2 i, u.oneCell' = true)
    (hn1 : n1 ≤ 500000000) (hn : n ≤ 500000000) (hB : B ≤ w.heap.size)
    (h : ∀ v' w', Acc w' B e m v' (n1 + n) (glue R1 n1 R2) → Below B w w' → w.grownBy w' v.ownBlock → wpList P ops Q rest (a.put o.dst v') w') : wpList P ops Q (o :: rest) a w :=
  wpList_pushAllW (wanted_plain hgd) s x ts ho e z m bytes ht hinfo hzs hsz hby hs H hx hR hm h1 hn1 hn hB h
/-- One row, new: a slice that may grow. -/
theorem Acc.one {w : World} {B : Nat} {t : TypeId} {m : Nat} {cs : Array Value} {R : Nat → List Value} {g : Nat} (hg : w.heap[g]? = some (.cells cs t (0, 0))) (hB : B ≤ g) (hm : ∀ i, (R i).length = m) (hR : cs.toList = R 0) : Acc w B t m (.slice (some ⟨g, 0, none⟩) 1 1) 1 R := by
  have hs : cs.size = m := by rw [← hm 0, ← hR]; simp
  refine ⟨⟨by rw [rowsTo_length hm], .inr ⟨g, 1, cs, rfl, hB, hg, Nat.le_refl _, by unfold maxLen; omega, by omega, ?_⟩⟩, hm⟩
  rw [rowsTo, rowsTo, List.nil_append, ← hR, Nat.one_mul, List.take_of_length_le]
  simp [hs]
end
end Go.Proofs.Ytbnfllpimnnmfaa
