/-
  GetPacket: what its walk needs.
-/
import Derived.Test.YtlnjpjeccpnddaaWra2
import Derived.Laws.IdiomStrings
namespace Go.Proofs.Ytlnjpjeccpnddaa
open Go Go.RowKit

/-- The string of n bytes. -/
def bstr (n : Nat) (z : Nat → Nat) : ByteArray := ⟨((List.range n).map fun i => UInt8.ofNat (z i)).toArray⟩
theorem conv_str {w : World} {B : Nat} {A : Option Addr} {n c : Nat} {z : Nat → Nat} (h : Rws w B 1 A n c (byteR z)) (hz : ∀ i, z i ≤ 255) (hn : 0 < n) : (convert 22 9 (.slice A n c)).run Try.prog w = .ok (.string (bstr n z)) w := by
  obtain ⟨b, off, rfl, _, hc⟩ := h.2 hn
  have hl : ((List.range n).map fun i => UInt8.ofNat (z i)).length = n := by simp
  have := run_convert_bytes_back (P := Try.prog) w 22 9 5 ⟨b, off, none⟩ c ((List.range n).map fun i => UInt8.ofNat (z i)) Try.underlying22 Try.underlying5 Try.underlying9 (fun j hj => by
    rw [hl] at hj
    have h1 := hc j hj 0 _ rfl
    rw [Nat.mul_one, Nat.add_zero] at h1
    have h2 := hz j
    rw [Go.WideShapes.add_plain, h1]
    simp only [List.getElem_map, List.getElem_range, UInt8.toNat_ofNat']
    rw [Nat.mod_eq_of_lt (by omega)])
  rw [hl] at this
  exact this
/-- A new variable. -/
def kbVar (B : Nat) (o : Obj) : KB := ⟨fun v w => ∃ a, v = .pointer (some ⟨a, 0, none⟩) ∧ B ≤ a ∧ w.heap[a]? = some o, fun _ _ _ ⟨a, h1, h2, h3⟩ hb => ⟨a, h1, h2, (hb.block a (heap_lt h3)).trans h3⟩⟩
/-- A packet with a body of its own. -/
def kbPk (B : Nat) (f t k l : Int) (n : Nat) (z : Nat → Nat) : KB :=
  ⟨fun v w => ∃ A c, v = .agg #[.int .i64 f, .int .i64 t, .int .i64 k, .int .i64 l, .slice A n c] ∧ Acc w B 5 1 (.slice A n c) n (byteR z), fun _ _ _ ⟨A, c, e, h⟩ hb => ⟨A, c, e, h.next hb⟩⟩
/-- New rows. -/
def kbOwnP (B : Nat) (t : TypeId) (m n : Nat) (R : Nat → List Value) : KB :=
  ⟨fun v w => ∃ A c, v = .slice A n c ∧ Own w B t m A n c R, fun _ _ _ ⟨A, c, e, h⟩ hb => ⟨A, c, e, h.next hb⟩⟩
section
variable {P : Program}
/-- 'append([]T(nil), list...)', at the operation. -/
theorem wp_copyN {o : Oper} {a : Act} {w : World} {K : Act → World → Prop} {Q : Exit → Act → World → Prop} (x : Operand) (ts : TypeId)
    (ho : o.op = .call { callee := .builtin .append, args := #[.const (.slice none 0 0), x], argTypes := #[ts, ts] })
    (e : TypeId) (z : Value) (m bytes : Nat) (ht : P.underlying ts = some (.slice e)) (hinfo : (P.info? e).map (fun i => (i.zero, i.size, i.bytes)) = some (some z, m, bytes)) (hzs : z.cells.size = m) (hsz : 0 < m) (hby : bytes ≤ 64)
    {B B2 : Nat} {n c : Nat} {R : Nat → List Value} {A : Option Addr} (hx : a.eval x = .slice A n c) (hR : Rws w B2 m A n c R) (hm : ∀ i, (R i).length = m) (h1 : ∀ i, ∀ u ∈ R i, u.oneCell' = true)
    (hn : n ≤ 500000000) (hB : B ≤ w.heap.size)
    (h : ∀ v' w', (∃ A' c', v' = .slice A' n c' ∧ Acc w' B e m (.slice A' n c') n R) → Below w.heap.size w w' → K (a.put o.dst v') w') : o.wp P a w K Q := by
  obtain ⟨i, hi, hzz⟩ := Option.map_eq_some_iff.1 hinfo
  simp only [Prod.mk.injEq] at hzz
  obtain ⟨hz, hsize, hbytes⟩ := hzz
  have hmul : (0 + n) * bytes ≤ (0 + n) * 64 := Nat.mul_le_mul_left _ hby
  have hs : a.eval (.const (.slice none 0 0)) = .slice none 0 0 := rfl
  have H : Acc w w.heap.size e m (.slice none 0 0) 0 R := Acc.nil w _ e R hm
  have fin : ∀ v' w', Acc w' w.heap.size e m v' n R → ∃ A' c', v' = .slice A' n c' ∧ Acc w' B e m (.slice A' n c') n R := fun v' w' ha => by
    obtain ⟨A', c', he, _⟩ := ha.form
    subst he
    obtain ⟨⟨h2, h3⟩, h4⟩ := ha
    exact ⟨A', c', rfl, ⟨h2, h3.imp id fun ⟨g, cap, cur, e, hb, r⟩ => ⟨g, cap, cur, e, by omega, r⟩⟩, h4⟩
  rcases A with _ | ad
  · have hn0 : n = 0 := by
      rcases Nat.eq_zero_or_pos n with h0 | h0
      · exact h0
      · obtain ⟨b, off, hA, _⟩ := hR.2 h0
        cases hA
    subst hn0
    have hrun := run_append_of_nil (P := P) w w.heap.size ts o.type e i m ht hi _ 0 _ H.1 c
    unfold Oper.wp execOp
    simp only [ho, resolve, invoke, builtin, Sem.run_bind, Sem.run_pure, Result.andThen_ok, List.map_toArray, List.map_cons, List.map_nil, hs, hx, hrun]
    exact h _ _ (fin _ _ H) (Below.refl _ _)
  · have hl : (rowsTo R n).length = n * m := rowsTo_length hm n
    refine wp_append_own w (.const (.slice none 0 0)) x ts ho w.heap.size e i z m bytes ht hi hz hsize hbytes hzs hsz _ 0 (rowsTo R 0) hs H.1 ad n c (rowsTo R n) hx hl (fun j u hu => ?_) (fun u hu => ?_) (by unfold maxLen; omega) (by omega) (Nat.le_refl _) (fun v' w' h2 h3 _ => ?_)
    · obtain ⟨i', j', hi', rfl, hu'⟩ := rowsTo_get hm n j u hu
      obtain ⟨b, off, hA, hb, hc⟩ := hR.2 (by omega)
      cases hA
      rw [Go.WideShapes.add_plain]
      have := hc i' hi' j' u hu'
      rw [Nat.add_assoc] at this
      exact this
    · obtain ⟨j, hj⟩ := List.getElem?_of_mem hu
      obtain ⟨i', j', hi', rfl, hu'⟩ := rowsTo_get hm n j u hj
      exact h1 i' u (List.mem_of_getElem? hu')
    · refine h v' w' (fin v' w' ⟨?_, hm⟩) ⟨h3.os, h3.tape, h3.output, h3.size, fun k hk => h3.block k hk (by simp [Value.ownBlock])⟩
      simpa [rowsTo] using h2
end
end Go.Proofs.Ytlnjpjeccpnddaa
