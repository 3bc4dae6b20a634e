/-
  append in the head of a region that draws: the array that grows may be written in place.
-/
import Derived.Test.YtbnfllpimnnmfaaList
namespace Go.Proofs.Ytbnfllpimnnmfaa
open Go Go.RowKit

/-- An array of c rows, the first n of them plain. -/
def arrO (t : TypeId) (ks : List Bool) (n c : Nat) (o : Obj) : Prop :=
  ∃ cs : Array Value, o = .cells cs t (0, 0) ∧ cs.size = c * ks.length ∧ ∃ R, (∀ i, Plain ks (R i)) ∧ cs.toList.take (n * ks.length) = rowsTo R n
theorem pacc_of {w : World} {B b : Nat} {t : TypeId} {ks : List Bool} {n c : Nat} {o : Obj} (hb : w.heap[b]? = some o) (ho : arrO t ks n c o) (hB : B ≤ b) (hn : n ≤ c) (hc : c ≤ maxLen) : PAcc w B t ks (.slice (some ⟨b, 0, none⟩) n c) n := by
  obtain ⟨cs, rfl, hs, R, hR, ht⟩ := ho
  exact ⟨R, hR, ⟨by rw [rowsTo_length fun i => (hR i).length], .inr ⟨b, c, cs, rfl, hB, hb, hn, hc, hs, ht⟩⟩, fun i => (hR i).length⟩
theorem PAcc.arr {w : World} {B b : Nat} {t : TypeId} {ks : List Bool} {n c : Nat} (h : PAcc w B t ks (.slice (some ⟨b, 0, none⟩) n c) n) : (∃ o, w.heap[b]? = some o ∧ arrO t ks n c o) ∧ B ≤ b ∧ n ≤ c ∧ c ≤ maxLen := by
  obtain ⟨R, hR, ⟨_, h2⟩, _⟩ := h
  rcases h2 with ⟨h3, _⟩ | ⟨g, cap, cur, he, hb, hg, hn, hc, hs, hx⟩
  · cases h3
  · cases he
    exact ⟨⟨_, hg, cur, rfl, hs, R, hR, hx⟩, hb, hn, hc⟩
theorem rowsTo_take {R : Nat → List Value} {m : Nat} (hm : ∀ i, (R i).length = m) {k : Nat} : ∀ {n : Nat}, k ≤ n → (rowsTo R n).take (k * m) = rowsTo R k
  | 0, h => by obtain rfl : k = 0 := by omega
               simp [rowsTo]
  | n + 1, h => by
    rcases Nat.lt_or_ge k (n + 1) with h1 | h1
    · have h2 : k * m ≤ n * m := Nat.mul_le_mul_right m (by omega)
      rw [rowsTo, List.take_append_of_le_length (by rw [rowsTo_length hm]; exact h2)]
      exact rowsTo_take hm (by omega)
    · obtain rfl : k = n + 1 := by omega
      rw [List.take_of_length_le (by rw [rowsTo_length hm]; exact Nat.le_refl _)]
theorem arrO_fewer {t : TypeId} {ks : List Bool} {k n c : Nat} {o : Obj} (h : arrO t ks n c o) (hk : k ≤ n) : arrO t ks k c o := by
  obtain ⟨cs, rfl, hs, R, hR, ht⟩ := h
  refine ⟨cs, rfl, hs, R, hR, ?_⟩
  rw [← rowsTo_take (fun i => (hR i).length) hk, ← ht, List.take_take, Nat.min_eq_left (Nat.mul_le_mul_right _ hk)]

theorem PAcc.base {w : World} {B B' : Nat} {t : TypeId} {ks : List Bool} {v : Value} {n : Nat} (h : PAcc w B t ks v n) (hB : B' ≤ B) : PAcc w B' t ks v n := by
  obtain ⟨R, h1, ⟨h2, h3⟩, h4⟩ := h
  refine ⟨R, h1, ⟨h2, h3.imp id ?_⟩, h4⟩
  rintro ⟨g, cap, cur, e, hb, h5⟩
  exact ⟨g, cap, cur, e, by omega, h5⟩
theorem Acc.typed {w : World} {B : Nat} {t : TypeId} {m : Nat} {v : Value} {n : Nat} {R : Nat → List Value} (h : Acc w B t m v n R) {k : Nat} (hk : v.ownBlock = some k) : ∃ cs, w.heap[k]? = some (.cells cs t (0, 0)) := by
  obtain ⟨⟨_, h2⟩, _⟩ := h
  rcases h2 with ⟨rfl, _⟩ | ⟨g, cap, cur, rfl, hb, hg, _⟩
  · cases hk
  · have : g = k := by simpa [Value.ownBlock] using hk
    exact ⟨cur, this ▸ hg⟩
theorem PAcc.typed {w : World} {B : Nat} {t : TypeId} {ks : List Bool} {v : Value} {n : Nat} (h : PAcc w B t ks v n) {k : Nat} (hk : v.ownBlock = some k) : ∃ cs, w.heap[k]? = some (.cells cs t (0, 0)) := by
  obtain ⟨R, _, h2⟩ := h
  exact h2.typed hk
theorem typed_ne {w : World} {t t' : TypeId} {k : Nat} {cs cs' : Array Value} (h : w.heap[k]? = some (.cells cs t (0, 0))) (h' : w.heap[k]? = some (.cells cs' t' (0, 0))) (hne : t ≠ t') : False := by
  rw [h] at h'
  cases h'
  exact hne rfl
theorem Acc.far {w w' : World} {B : Nat} {t : TypeId} {m : Nat} {v : Value} {n : Nat} {R : Nat → List Value} {g : Nat} (h : Acc w B t m v n R) (hg : w.grownBy w' (some g)) (hl : g < B) : Acc w' B t m v n R := by
  refine h.kept hg ?_
  cases hv : v.ownBlock with
  | none => exact .inl rfl
  | some k =>
    have := h.block k hv
    exact .inr (by simp; omega)
theorem PAcc.kept {w w' : World} {B : Nat} {t : TypeId} {ks : List Bool} {v : Value} {n : Nat} (h : PAcc w B t ks v n) {row : Option Nat} (hg : w.grownBy w' row) (hne : v.ownBlock = none ∨ v.ownBlock ≠ row) : PAcc w' B t ks v n := by
  obtain ⟨R, h1, h2⟩ := h
  exact ⟨R, h1, h2.kept hg hne⟩
theorem Rd.pushed {w w' : World} {B g zb : Nat} {A : Option Addr} {n c p : Nat} (h : Rd w B g A n c p) (hO : ∀ k, k < w.heap.size → k ≠ zb → w'.heap[k]? = w.heap[k]?) (hzg : zb ≠ g) (hBz : B ≤ zb) : Rd w' B g A n c p := by
  have hlt := h.lt
  have hB := h.2.1
  exact ⟨(hO g hlt (Ne.symm hzg)).trans h.1, h.2.1, h.2.2.keep fun a ha => World.cell?_of_block (hO _ (by omega) (by omega))⟩

section
variable {P : Program} {g zb : Nat} {t : TypeId} {ks : List Bool} {n c : Nat} {w w' : World} {B : Nat}
/-- What the slice is, wherever the array was turned in between. -/
theorem pacc_turned (h : PAcc w B t ks (.slice (some ⟨zb, 0, none⟩) n c) n) (hT : Turns g zb (arrO t ks (n + 1) c) w w') (hzg : zb ≠ g) : PAcc w' B t ks (.slice (some ⟨zb, 0, none⟩) n c) n := by
  obtain ⟨⟨o, ho, ha⟩, hB, hn, hc⟩ := h.arr
  rcases hT.at_z (heap_lt ho) hzg with he | ⟨o', hO, he⟩
  · exact pacc_of (he.trans ho) ha hB hn hc
  · exact pacc_of he (arrO_fewer hO (Nat.le_succ _)) hB hn hc
/-- The slice behind the append. -/
def kGrow (g zb : Nat) (t : TypeId) (ks : List Bool) (n c B : Nat) : KP g zb (arrO t ks (n + 1) c) :=
  ⟨fun v w => ∃ b c', v = .slice (some ⟨b, 0, none⟩) (n + 1) c' ∧ b ≠ g ∧ (b = zb → c' = c) ∧ (b = zb ∨ B ≤ b) ∧ PAcc w 0 t ks v (n + 1), fun v w w' ⟨b, c', h1, h2, h3, h4, h5⟩ hT => by
    subst h1
    refine ⟨b, c', rfl, h2, h3, h4, ?_⟩
    obtain ⟨⟨o, ho, ha⟩, hB, hn, hc⟩ := h5.arr
    by_cases hz : b = zb
    · subst hz
      have := h3 rfl
      subst this
      rcases hT.at_z (heap_lt ho) h2 with he | ⟨o', hO, he⟩
      · exact pacc_of (he.trans ho) ha hB hn hc
      · exact pacc_of he hO hB hn hc
    · exact pacc_of (hT.keep ho h2 hz) ha hB hn hc⟩
theorem wp_push {o : Oper} {a : Act} {K : Act → World → Prop} {Q : Exit → Act → World → Prop} (s x : Operand) (ts : TypeId)
    (ho : o.op = .call { callee := .builtin .append, args := #[s, x], argTypes := #[ts, ts] })
    (z : Value) (bytes : Nat) (ht : P.underlying ts = some (.slice t)) (hinfo : (P.info? t).map (fun i => (i.zero, i.size, i.bytes)) = some (some z, ks.length, bytes)) (hzs : z.cells.size = ks.length) (hsz : 0 < ks.length) (hby : bytes ≤ 64)
    (hs : a.eval s = .slice (some ⟨zb, 0, none⟩) n c) (H : PAcc w 0 t ks (.slice (some ⟨zb, 0, none⟩) n c) n) (hzg : zb ≠ g)
    {b c1 : Nat} {cs : Array Value} (hx : a.eval x = .slice (some ⟨b, 0, none⟩) 1 c1) (hb : w.heap[b]? = some (.cells cs t (0, 0))) (hR : Plain ks cs.toList)
    (hn : n ≤ 1000000000) (hg : g < w.heap.size) (hB : B ≤ w.heap.size)
    (h : ∀ v' w', (kGrow g zb t ks n c B).p v' w' → Turns g zb (arrO t ks (n + 1) c) w w' → (∀ k, k < w.heap.size → k ≠ zb → w'.heap[k]? = w.heap[k]?) → K (a.put o.dst v') w') : o.wp P a w K Q := by
  obtain ⟨i, hi, hzz⟩ := Option.map_eq_some_iff.1 hinfo
  simp only [Prod.mk.injEq] at hzz
  obtain ⟨hz, hsize, hbytes⟩ := hzz
  have hmul : (n + 1) * bytes ≤ (n + 1) * 64 := Nat.mul_le_mul_left _ hby
  obtain ⟨⟨ob, hob, cur, rfl, hcs, R, hRp, htake⟩, _, hnc, hcm⟩ := H.arr
  have hl : cs.toList.length = 1 * i.size := by rw [hR.length, hsize, Nat.one_mul]
  have hcl : cs.toList.length = ks.length := hR.length
  have hnews : ∀ j u, cs.toList[j]? = some u → w.cell? ((⟨b, 0, none⟩ : Addr).add j) = some u := fun j u hu => by
    rw [show (⟨b, 0, none⟩ : Addr).add j = ⟨b, j, none⟩ by unfold Addr.add; split <;> simp_all, (blk hb).1, ← Array.getElem?_toList]
    exact hu
  have hlen : (rowsTo R n).length = n * ks.length := rowsTo_length (fun i => (hRp i).length) n
  have hP : ∀ i, Plain ks ((fun i => if i < n then R i else cs.toList) i) := fun i => by
    show Plain ks (if i < n then R i else cs.toList)
    split
    · exact hRp i
    · exact hR
  have hrt : rowsTo (fun i => if i < n then R i else cs.toList) (n + 1) = rowsTo R n ++ cs.toList := by
    rw [rowsTo, rowsTo_congr (R' := R) fun i hi => by simp [hi]]
    simp
  have hmm : (n + 1) * ks.length = n * ks.length + ks.length := by rw [Nat.add_mul, Nat.one_mul]
  by_cases hroom : n + 1 ≤ c
  · have hle : (n + 1) * ks.length ≤ c * ks.length := Nat.mul_le_mul_right _ hroom
    have hrun := run_append_room (P := P) w ts o.type t i ht hi zb n c cur hob ⟨b, 0, none⟩ 1 c1 cs.toList hl hnews (fun u hu => hR.one u hu) hroom (by rw [hcl, hsize, hcs]; omega)
    rw [hsize] at hrun
    unfold Oper.wp execOp
    simp only [ho, resolve, invoke, builtin, Sem.run_bind, Sem.run_pure, Result.andThen_ok, List.map_toArray, List.map_cons, List.map_nil, hs, hx, hrun]
    have hO : arrO t ks (n + 1) c (.cells (cur.toList.take (n * ks.length) ++ cs.toList ++ cur.toList.drop (n * ks.length + cs.toList.length)).toArray t (0, 0)) := by
      refine ⟨_, rfl, ?_, _, hP, ?_⟩
      · simp only [List.size_toArray, List.length_append, List.length_take, List.length_drop, Array.length_toList]
        have := hcl
        simp only [Array.length_toList] at this
        omega
      · rw [hrt, htake]
        simp only
        rw [List.take_append_of_le_length (by rw [List.length_append, hlen, hcl, hmm]; exact Nat.le_refl _), List.take_of_length_le (by rw [List.length_append, hlen, hcl, hmm]; exact Nat.le_refl _)]
    have hh := setRow_heap w zb cur (cur.toList.take (n * ks.length) ++ cs.toList ++ cur.toList.drop (n * ks.length + cs.toList.length)).toArray t _ hob
    refine h _ _ ⟨zb, c, rfl, hzg, fun _ => rfl, .inl rfl, pacc_of hh hO (Nat.zero_le _) hroom hcm⟩ ⟨rfl, rfl, rfl, by simp, fun k hk hne => ?_⟩ fun k hk hne => setRow_other w zb k _ hne
    by_cases hkz : k = zb
    · subst hkz
      exact .inr ⟨rfl, _, hO, hh⟩
    · exact .inl (setRow_other w zb k _ hkz)
  · have hnc' : n = c := by omega
    have holds : ∀ j u, (rowsTo R n)[j]? = some u → w.cell? ((⟨zb, 0, none⟩ : Addr).add j) = some u := fun j u hu => by
      rw [show (⟨zb, 0, none⟩ : Addr).add j = ⟨zb, j, none⟩ by unfold Addr.add; split <;> simp_all, (blk hob).1, ← Array.getElem?_toList]
      rw [← htake, List.getElem?_take] at hu
      split at hu
      · exact hu
      · cases hu
    have hrun := run_append_grow (P := P) w ts o.type t i z ht hi hz ⟨zb, 0, none⟩ n c (rowsTo R n) (by rw [hlen, hsize]) holds ⟨b, 0, none⟩ 1 c1 cs.toList hl hnews (by omega) (by omega) (growslice_fits (by omega) (by rw [hbytes]; omega))
    have hge := grownCap_ge w (n + 1) c t
    have hgm : grownCap w (n + 1) c t ≤ maxLen := grownCap_le_maxLen w (n + 1) c t (by unfold maxLen; omega)
    unfold Oper.wp execOp
    simp only [ho, resolve, invoke, builtin, Sem.run_bind, Sem.run_pure, Result.andThen_ok, List.map_toArray, List.map_cons, List.map_nil, hs, hx, hrun]
    generalize grownCap w (n + 1) c t = C at *
    have hO : arrO t ks (n + 1) C (.cells ((rowsTo R n).toArray ++ cs.toList.toArray ++ Builtin.zeroCells z.cells (C - (n + 1))) t (0, 0)) := by
      refine ⟨_, rfl, ?_, _, hP, ?_⟩
      · simp only [Array.size_append, List.size_toArray, size_zeroCells, hzs, hlen, hcl]
        rw [← hmm, ← Nat.add_mul]
        congr 1
        omega
      · rw [hrt]
        simp only [Array.toList_append, List.append_assoc]
        rw [← List.append_assoc]
        rw [List.take_append_of_le_length (by rw [List.length_append, hlen, hcl, hmm]; exact Nat.le_refl _), List.take_of_length_le (by rw [List.length_append, hlen, hcl, hmm]; exact Nat.le_refl _)]
    refine h _ _ ⟨w.heap.size, C, rfl, by omega, fun e => absurd (heap_lt hob) (by omega), .inr hB, pacc_of (heap_alloc_new w.drew _) hO (Nat.zero_le _) hge hgm⟩ ⟨rfl, rfl, rfl, by simp, fun k hk hne => .inl (heap_alloc_old w.drew _ hk)⟩ fun k hk _ => heap_alloc_old w.drew _ hk
end

/-- A new slice of no elements. -/
def kEmp (g z : Nat) (O : Obj → Prop) (B0 : Nat) (e : TypeId) : KP g z O :=
  ⟨fun v w => ∃ b, v = .slice (some ⟨b, 0, none⟩) 0 0 ∧ (b ≠ g ∧ b ≠ z) ∧ B0 ≤ b ∧ w.heap[b]? = some (.cells #[] e (0, 0)), fun _ _ _ ⟨b, h1, h2, h3, h4⟩ hg => ⟨b, h1, h2, h3, hg.keep h4 h2.1 h2.2⟩⟩
/-- A struct with such a slice in it. -/
def kAgE (g z : Nat) (O : Obj → Prop) (B0 : Nat) (e : TypeId) (R : Value → Value → Prop) : KP g z O :=
  ⟨fun v w => ∃ b, (b ≠ g ∧ b ≠ z) ∧ B0 ≤ b ∧ w.heap[b]? = some (.cells #[] e (0, 0)) ∧ R (.slice (some ⟨b, 0, none⟩) 0 0) v, fun _ _ _ ⟨b, h2, h3, h4, h5⟩ hg => ⟨b, h2, h3, hg.keep h4 h2.1 h2.2, h5⟩⟩

theorem Acc.congr {w : World} {B : Nat} {t : TypeId} {m : Nat} {v : Value} {n : Nat} {R R' : Nat → List Value} (h : Acc w B t m v n R) (hR : ∀ i, i < n → R i = R' i) (hm : ∀ i, (R' i).length = m) : Acc w B t m v n R' :=
  ⟨by rw [← rowsTo_congr hR]; exact h.1, hm⟩
theorem Acc.at_ {w : World} {B : Nat} {t : TypeId} {m : Nat} {v : Value} {n : Nat} {R : Nat → List Value} (h : Acc w B t m v n R) (hn : 0 < n) : ∃ b c cs, v = .slice (some ⟨b, 0, none⟩) n c ∧ B ≤ b ∧ w.heap[b]? = some (.cells cs t (0, 0)) := by
  obtain ⟨⟨_, h2⟩, _⟩ := h
  rcases h2 with ⟨_, h3⟩ | ⟨g, cap, cur, rfl, hb, hg, _⟩
  · omega
  · exact ⟨g, cap, cur, rfl, hb, hg⟩
theorem PAcc.at_ {w : World} {B : Nat} {t : TypeId} {ks : List Bool} {v : Value} {n : Nat} (h : PAcc w B t ks v n) (hn : 0 < n) : ∃ b c, v = .slice (some ⟨b, 0, none⟩) n c ∧ B ≤ b ∧ b < w.heap.size := by
  obtain ⟨R, _, ⟨_, h2⟩, _⟩ := h
  rcases h2 with ⟨_, h3⟩ | ⟨g, cap, cur, rfl, hb, hg, _⟩
  · omega
  · exact ⟨g, cap, rfl, hb, heap_lt hg⟩
/-- Rows apart from the reader stay where the reader alone turns. -/
theorem Rws.away {w w' : World} {mm : Nat} {A : Option Addr} {n c g : Nat} {R : Nat → List Value} (h : Rws w w.heap.size mm A n c R) (hg : w.grownBy w' (some g)) (hne : ∀ b off, A = some ⟨b, off, none⟩ → b ≠ g) : Rws w' w'.heap.size mm A n c R := by
  refine ⟨h.1, fun hn => ?_⟩
  obtain ⟨b, off, e, hb, hc⟩ := h.2 hn
  refine ⟨b, off, e, Nat.lt_of_lt_of_le hb hg.size, fun i hi j v hv => ?_⟩
  exact (World.cell?_of_block (w := w) (a := ⟨b, _, none⟩) (hg.block b hb (by simpa using hne b off e))).trans (hc i hi j v hv)
theorem below_new (w : World) (o : Obj) : Below w.heap.size w (w.alloc o) := (Below.refl _ _).alloc (Nat.le_refl _) o

/-- 'append(out, row)', the row of plain cells; it tells where the new slice lies. -/
theorem wpList_pushPA {P : Program} {ops : Array Oper} {rest : List Oper} {o : Oper} {a : Act} {w : World} {Q : Exit → Act → World → Prop} (hgd : o.guard = none) (s x : Operand) (ts : TypeId)
    (ho : o.op = .call { callee := .builtin .append, args := #[s, x], argTypes := #[ts, ts] })
    (e : TypeId) (z : Value) (ks : List Bool) (bytes : Nat) (ht : P.underlying ts = some (.slice e)) (hinfo : (P.info? e).map (fun i => (i.zero, i.size, i.bytes)) = some (some z, ks.length, bytes)) (hzs : z.cells.size = ks.length) (hsz : 0 < ks.length) (hby : bytes ≤ 64)
    {B : Nat} {v : Value} {n : Nat} (hs : a.eval s = v) (H : PAcc w B e ks v n)
    {g c : Nat} {cs : Array Value} (hx : a.eval x = .slice (some ⟨g, 0, none⟩) 1 c) (hg : w.heap[g]? = some (.cells cs e (0, 0))) (hR : Plain ks cs.toList)
    (hn : n ≤ 1000000000) (hB : B ≤ w.heap.size)
    (h : ∀ v' w', PAcc w' B e ks v' (n + 1) → Below B w w' → w.grownBy w' v.ownBlock → (v'.ownBlock = v.ownBlock ∨ v'.ownBlock = some w.heap.size) → wpList P ops Q rest (a.put o.dst v') w') : wpList P ops Q (o :: rest) a w := by
  obtain ⟨R, h1, h2⟩ := H
  obtain ⟨i, hi, hzz⟩ := Option.map_eq_some_iff.1 hinfo
  simp only [Prod.mk.injEq] at hzz
  obtain ⟨hz, hsize, hbytes⟩ := hzz
  have hmul : (n + 1) * bytes ≤ (n + 1) * 64 := Nat.mul_le_mul_left _ hby
  have hP : ∀ i, Plain ks ((fun i => if i < n then R i else cs.toList) i) := fun i => by
    show Plain ks (if i < n then R i else cs.toList)
    split
    · exact h1 i
    · exact hR
  have hrt : rowsTo (fun i => if i < n then R i else cs.toList) (n + 1) = rowsTo R n ++ cs.toList := by
    rw [rowsTo, rowsTo_congr (R' := R) fun i hi => by simp [hi]]
    simp
  refine wpList_append_own_at w hgd s x ts ho B e i z ks.length bytes ht hi hz hsize hbytes hzs hsz v n (rowsTo R n) hs h2.1 ⟨g, 0, none⟩ 1 c cs.toList hx (by rw [hR.length, Nat.one_mul]) (fun j u hu => ?_) (fun u hu => hR.one u hu) (by unfold maxLen; omega) (by omega) hB (fun v' w' h3 h4 _ h6 => ?_)
  · rw [show (⟨g, 0, none⟩ : Addr).add j = ⟨g, j, none⟩ by unfold Addr.add; split <;> simp_all, (blk hg).1, ← Array.getElem?_toList]
    exact hu
  · refine h v' w' ⟨_, hP, by rw [hrt]; exact h3, fun i => (hP i).length⟩ ⟨h4.os, h4.tape, h4.output, h4.size, fun k hk => h4.block k (by omega) (fun e => ?_)⟩ h4 h6
    have := (h2.block k e.symm).1
    omega
end Go.Proofs.Ytbnfllpimnnmfaa
