/-
  PutPacket: a packet's bytes.
-/
import Derived.Test.YtlnjpjeccpnddaaSum
namespace Go.Proofs.Ytlnjpjeccpnddaa
open Go Go.RowKit

theorem pktB_bd {f t k l : Int} {n : Nat} (h : pktB f t k l n = true) : (0 ≤ f ∧ f ≤ 255) ∧ (0 ≤ t ∧ t ≤ 255) ∧ (1 ≤ k ∧ k ≤ 3) ∧ (0 ≤ l ∧ l ≤ 64) ∧ n ≤ 80 := by
  simp only [pktB, Bool.and_eq_true, decide_eq_true_eq] at h
  exact ⟨inB_true.1 h.1.1.1.1, inB_true.1 h.1.1.1.2, inB_true.1 h.1.1.2, inB_true.1 h.1.2, by omega⟩
/-- A packet's bytes but the check byte. -/
def tB (n k l f t : Nat) (z : Nat → Nat) (i : Nat) : Nat := if i = 0 then 6 + n else if i = 1 then k else if i = 2 then l else if i = 3 then f else if i = 4 then t else z (i - 5)
/-- A packet's bytes. -/
def pB (n k l f t : Nat) (z : Nat → Nat) (i : Nat) : Nat := if i < 3 then tB n k l f t z i else if i = 3 then (sumOf (tB n k l f t z) (n + 5)).toNat else tB n k l f t z (i - 1)
theorem glue_byte (a b : Nat → Nat) (m : Nat) : glue (byteR a) m (byteR b) = byteR (fun i => if i < m then a i else b (i - m)) := by
  funext i
  simp only [glue, byteR]
  split <;> simp [*]
theorem Rws.part {w : World} {B m b off n c : Nat} {R : Nat → List Value} (h : Rws w B m (some ⟨b, off, none⟩) n c R) (j n2 c2 : Nat) (hn : j + n2 ≤ n) (hc : n2 ≤ c2) (hc2 : c2 ≤ c) : Rws w B m (some ⟨b, off + j * m, none⟩) n2 c2 (fun i => R (i + j)) := by
  refine ⟨⟨hc, Nat.le_trans hc2 h.1.2⟩, fun h0 => ?_⟩
  obtain ⟨b', o', e, hb, hr⟩ := h.2 (by omega)
  cases e
  refine ⟨b, off + j * m, rfl, hb, fun i hi => ?_⟩
  have := hr (i + j) (by omega)
  rw [show off + j * m + i * m = off + (i + j) * m by rw [Nat.add_mul]; omega]
  exact this
theorem rowsTo_ofB {cs : List Value} {R : Nat → List Value} {m : Nat} (hm : ∀ i, (R i).length = m) : ∀ {n : Nat}, n * m ≤ cs.length → (∀ i, i < n → ∀ j v, (R i)[j]? = some v → cs[i * m + j]? = some v) → cs.take (n * m) = rowsTo R n
  | 0, _, _ => by simp [rowsTo]
  | n + 1, hl, h => by
    have hmm : (n + 1) * m = n * m + m := by rw [Nat.add_mul, Nat.one_mul]
    rw [rowsTo, hmm, List.take_add, rowsTo_ofB hm (by omega) fun i hi => h i (by omega)]
    congr 1
    apply List.ext_getElem?
    intro q
    rw [List.getElem?_take, List.getElem?_drop]
    by_cases hq : q < m
    · rw [if_pos hq]
      have hq2 : q < (R n).length := by rw [hm]; exact hq
      rw [List.getElem?_eq_getElem hq2]
      exact h n (by omega) q _ (List.getElem?_eq_getElem hq2)
    · rw [if_neg hq, List.getElem?_eq_none (by rw [hm]; omega)]
theorem Acc.of_newB {w : World} {B g : Nat} {t : TypeId} {m n c : Nat} {R : Nat → List Value} (h : New w g t m n c R) (hB : B ≤ g) (hc : c ≤ maxLen) (hm : ∀ i, (R i).length = m) : Acc w B t m (.slice (some ⟨g, 0, none⟩) n c) n R := by
  obtain ⟨cs, h1, h2, h3, h4⟩ := h
  have hnc : n * m ≤ c * m := Nat.mul_le_mul_right m h3
  refine ⟨⟨by rw [rowsTo_length hm], .inr ⟨g, c, cs, rfl, hB, h1, h3, hc, h2, ?_⟩⟩, hm⟩
  exact rowsTo_ofB hm (by simp; omega) fun i hi j v hv => by rw [Array.getElem?_toList]; exact h4 i hi j v hv
theorem slice_h (w : World) (a : Addr) (len cap h : Nat) (h2 : h ≤ cap) : (Instr.slice 22 (.slice (some a) len cap) none (some (.int .i64 h)) none).run Try.prog w = .ok (.slice (some a) h cap) w := by
  have ht : Try.prog.underlying 22 = some (.slice (Try.prog.elem 22)) := by kernel_rfl
  have he : Try.prog.elem 22 = 5 := by kernel_rfl
  rw [run_slice_h w _ _ _ _ ht .i64 h (by omega) (by omega), he]
  simp [sliced, go_sem, Addr.add]
theorem slice_l (w : World) (b off len cap l : Nat) (h2 : l ≤ len) (h3 : l < cap) : (Instr.slice 22 (.slice (some ⟨b, off, none⟩) len cap) (some (.int .i64 l)) none none).run Try.prog w = .ok (.slice (some ⟨b, off + l * 1, none⟩) (len - l) (cap - l)) w := by
  have ht : Try.prog.underlying 22 = some (.slice (Try.prog.elem 22)) := by kernel_rfl
  have he : Try.prog.elem 22 = 5 := by kernel_rfl
  have hne : cap ≠ l := by omega
  rw [run_slice_l w _ _ _ _ ht .i64 l (by omega) (by omega), he]
  simp [sliced, go_sem, Addr.add, hne]
theorem t_full (n k l f t : Nat) (z : Nat → Nat) : glue (byteR (tB n k l f t z)) 5 (byteR z) = byteR (tB n k l f t z) := by
  rw [glue_byte]
  congr 1
  funext i
  split
  · rfl
  · simp only [tB]
    rw [if_neg (by omega), if_neg (by omega), if_neg (by omega), if_neg (by omega), if_neg (by omega)]
theorem tB_le {n k l f t : Nat} {z : Nat → Nat} (hn : n ≤ 80) (hk : k ≤ 255) (hl : l ≤ 255) (hf : f ≤ 255) (ht : t ≤ 255) (hz : ∀ i, z i ≤ 255) (i : Nat) : tB n k l f t z i ≤ 255 := by
  simp only [tB]
  repeat' split
  all_goals first | omega | exact hz _
theorem sumOf_bd (z : Nat → Nat) (n : Nat) : 1 ≤ sumOf z n ∧ sumOf z n ≤ 255 := by
  simp only [sumOf]; omega
theorem new_b1 (w : World) (x : Nat) : New (w.alloc (.cells #[.int .u8 (x : Nat)] 5)) w.heap.size 5 1 1 1 (byteR (fun _ => x)) := by
  refine ⟨_, heap_alloc_new w _, rfl, Nat.le_refl _, fun i hi j v hv => ?_⟩
  obtain rfl : i = 0 := by omega
  have hj : j = 0 := by
    rcases j with _ | j
    · rfl
    · simp [byteR] at hv
  subst hj
  simpa [byteR] using hv
theorem new_t5 (w : World) (n k l f t : Nat) (z : Nat → Nat) : New (w.alloc (.cells #[.int .u8 (6 + (n : Int)), .int .u8 (k : Nat), .int .u8 (l : Nat), .int .u8 (f : Nat), .int .u8 (t : Nat)] 5)) w.heap.size 5 1 5 5 (byteR (tB n k l f t z)) := by
  refine ⟨_, heap_alloc_new w _, rfl, Nat.le_refl _, fun i hi j v hv => ?_⟩
  have hj : j = 0 := by
    rcases j with _ | j
    · rfl
    · simp [byteR] at hv
  subst hj
  rcases (show i = 0 ∨ i = 1 ∨ i = 2 ∨ i = 3 ∨ i = 4 by omega) with rfl | rfl | rfl | rfl | rfl <;> simpa [byteR, tB] using hv
theorem Acc.baseB {w : World} {B B' : Nat} {t : TypeId} {m : Nat} {v : Value} {n : Nat} {R : Nat → List Value} (h : Acc w B t m v n R) (hB : B' ≤ B) : Acc w B' t m v n R := by
  obtain ⟨⟨h2, h3⟩, h4⟩ := h
  exact ⟨⟨h2, h3.imp id fun ⟨g, cap, cur, e, hb, r⟩ => ⟨g, cap, cur, e, by omega, r⟩⟩, h4⟩
theorem bel_ndP (w : World) (o : Obj) : Below w.heap.size w (w.alloc o) := (Below.refl _ _).alloc (Nat.le_refl _) o
set_option maxHeartbeats 8000000 in
theorem implPutPacket_yes {w : World} {B : Nat} {A : Option Addr} {n c : Nat} {z : Nat → Nat} (f t k l : Nat) (h : Rws w B 1 A n c (byteR z)) (hz : ∀ i, z i ≤ 255) (hB : B ≤ w.heap.size) (hv : pktB f t k l n = true) :
    Calls Try.prog 35 #[.agg #[.int .i64 (f : Nat), .int .i64 (t : Nat), .int .i64 (k : Nat), .int .i64 (l : Nat), .slice A n c]] w fun e w' => ∃ v, e = .returned v ∧ Acc w' w.heap.size 5 1 v (n + 6) (byteR (pB n k l f t z)) ∧ Below w.heap.size w w' := by
  have HV := Lib.hid hv
  obtain ⟨⟨hf0, hf1⟩, ⟨ht0, ht1⟩, ⟨hk0, hk1⟩, ⟨hl0, hl1⟩, hn8⟩ := pktB_bd hv
  have HH := Lib.hid h
  have hnc := h.1
  unfold maxLen at hnc
  clear hv h
  go_enter Try.func35, Try.ntmps35
  go_wp2_with fail
  refine (implPacketValid_any _ _ _ _ _).mono ?_
  rintro e w1 ⟨rfl, hb1⟩
  rw [HV.out]
  have q1 := (hb1.block w.heap.size (by simp)).trans (heap_alloc_new w (.cells #[.int .i64 (f : Nat), .int .i64 (t : Nat), .int .i64 (k : Nat), .int .i64 (l : Nat), .slice A n c] 24))
  have hB1 : Below w.heap.size w w1 := Below.tr (show Below w.heap.size w (w.alloc (.cells #[.int .i64 (f : Nat), .int .i64 (t : Nat), .int .i64 (k : Nat), .int .i64 (l : Nat), .slice A n c] 24)) by (repeat (first | exact Below.refl _ _ | assumption | refine Below.al ?_ _ | refine Below.dr ?_ | (refine Below.st ?_ (by simp <;> omega) _) | (refine Below.tr ?_ (by assumption))))) hb1
  obtain ⟨k1, u1⟩ := blk q1
  have l1 := heap_lt q1
  have hA0 := Acc.of_newB (new_t5 w1 n k l f t z) (show w.heap.size ≤ w1.heap.size by omega) (by unfold maxLen; omega) (fun _ => rfl)
  clear hb1
  go_wp2_with (at_builtin; refine wpList_pushAll rfl (.tmp 25) (.tmp 27) 22 rfl 5 _ 1 1 Try.underlying22 info_byte (by decide) (by decide) (by decide) rfl hA0 rfl (HH.out.below ((Below.tr hB1 (show Below w1.heap.size w1 _ by (repeat (first | exact Below.refl _ _ | assumption | refine Below.al ?_ _ | refine Below.dr ?_ | (refine Below.st ?_ (by simp <;> omega) _) | (refine Below.tr ?_ (by assumption)))))).mono hB)) (fun _ => rfl) (byteR_one _) (by omega) (by omega) (by simp <;> omega) ?_; intro v2 w2 hA2 hb2 hg2)
  rw [t_full] at hA2
  obtain ⟨A2, c2, e2, hO2⟩ := hA2.own
  subst e2
  have hc2 := hO2.1
  have hcc := hO2.2.1
  unfold maxLen at hc2
  obtain ⟨g2, rfl, hg2b, hN2⟩ := hO2.at_ (by omega)
  have hR2 := hO2.rows
  have h3c : (3 : Int) ≤ (c2 : Int) := by omega
  have h3n : (3 : Int) ≤ ((5 + n : Nat) : Int) := by omega
  have hB2 : Below w.heap.size w w2 := (hB1.trans ((show Below w1.heap.size w1 (w1.alloc (.cells #[.int .u8 (6 + (n : Int)), .int .u8 (k : Nat), .int .u8 (l : Nat), .int .u8 (f : Nat), .int .u8 (t : Nat)] 5)) by (repeat (first | exact Below.refl _ _ | assumption | refine Below.al ?_ _ | refine Below.dr ?_ | (refine Below.st ?_ (by simp <;> omega) _) | (refine Below.tr ?_ (by assumption))))).mono hB1.size)).trans hb2
  have hs2 := hB2.size
  have hsl : ∀ W : World, (Instr.slice 22 (.slice (some ⟨g2, 0, none⟩) (5 + n) c2) none (some (.int .i64 3)) none).run Try.prog W = .ok (.slice (some ⟨g2, 0, none⟩) 3 c2) W := fun W => slice_h W ⟨g2, 0, none⟩ (5 + n) c2 3 (by omega)
  have hsl2 : ∀ W : World, (Instr.slice 22 (.slice (some ⟨g2, 0, none⟩) (5 + n) c2) (some (.int .i64 3)) none none).run Try.prog W = .ok (.slice (some ⟨g2, 3, none⟩) (5 + n - 3) (c2 - 3)) W := fun W => by have := slice_l W g2 0 (5 + n) c2 3 (by omega) (by omega); simpa using this
  go_wp2_with (first | (simp only [hsl]) | (at_builtin; refine wpList_pushAll rfl (.const (.slice none 0 0)) (.tmp 30) 22 rfl 5 _ 1 1 Try.underlying22 info_byte (by decide) (by decide) (by decide) rfl (Acc.nil _ w2.heap.size 5 (byteR z) (fun _ => rfl)) rfl (hR2.part 0 3 c2 (by omega) (by omega) (by omega)) (fun i => rfl) (fun i => byteR_one _ _) (by omega) (by omega) (by omega) ?_; intro v3 w3 hA3 hb3 hg3))
  rw [Nat.zero_add, glue_zero] at hA3
  have hg2l := hN2.lt
  have hB3 := Below.tr hB2 hb3
  have hs3 := hB3.size
  have hs23 := hb3.size
  have hN3 := hN2.keep (hb3.block g2 hg2l)
  have hR3 := Lib.hid (hN3.rows (by unfold maxLen; omega) hN3.lt)
  obtain ⟨sN, hsN⟩ : ∃ sN : Nat, sumOf (tB n k l f t z) (5 + n) = (sN : Int) := ⟨_, (Int.toNat_of_nonneg (by have := sumOf_bd (tB n k l f t z) (5 + n); omega)).symm⟩
  have hsb : 1 ≤ sN ∧ sN ≤ 255 := by have := sumOf_bd (tB n k l f t z) (5 + n); omega
  have HS := Lib.hid hsN
  clear hsN
  go_wp2_with fail
  refine (implSumOf_any hR3.out (fun i => tB_le (by omega) (by omega) (by omega) (by omega) (by omega) hz i) (by omega)).mono ?_
  rintro e w4 ⟨rfl, rfl⟩
  rw [HS.out]
  go_wp2_with (first | (simp only [hsl2]) | (at_builtin; refine wpList_pushAll rfl (.tmp 32) (.tmp 36) 22 rfl 5 _ 1 1 Try.underlying22 info_byte (by decide) (by decide) (by decide) rfl (hA3.next (bel_ndP _ _)) rfl ((new_b1 _ sN).rows (B := w4.heap.size + 1) (by unfold maxLen; omega) (by simp)) (fun _ => rfl) (byteR_one _) (by omega) (by omega) (by simp; omega) ?_; intro v5 w5 hA5 hb5 hg5; have hb35 := ((bel_ndP w4 (.cells #[.int .u8 (sN : Nat)] 5)).mono hs23).trans hb5; have hN5 := hN3.keep (hb35.block g2 hg2l); have hs35 := hb35.size; have hR5 := hN5.rows (by unfold maxLen; omega) hN5.lt) | (at_builtin; refine wpList_pushAll rfl (.tmp 38) (.tmp 40) 22 rfl 5 _ 1 1 Try.underlying22 info_byte (by decide) (by decide) (by decide) rfl hA5 rfl (hR5.part 3 (5 + n - 3) (c2 - 3) (by omega) (by omega) (by omega)) (fun i => rfl) (fun i => byteR_one _ _) (by omega) (by omega) (by omega) ?_; intro v6 w6 hA6 hb6 hg6))
  go_ret
  refine ⟨v6, rfl, ?_, ?_⟩
  · have e1 : 3 + 1 + (5 + n - 3) = n + 6 := by omega
    have e2 : (glue (glue (fun i => byteR (tB n k l f t z) (i + 0)) 3 (byteR fun _ => sN)) (3 + 1) fun i => byteR (tB n k l f t z) (i + 3)) = byteR (pB n k l f t z) := by
      have hs := HS.out
      rw [show 5 + n = n + 5 by omega] at hs
      funext i
      simp only [glue, byteR, pB, hs, Int.toNat_natCast]
      by_cases h1 : i < 3
      · simp [h1, show i < 3 + 1 by omega]
      · by_cases h2 : i = 3
        · subst h2; simp
        · simp [h1, h2, show ¬ i < 3 + 1 by omega, show i - (3 + 1) + 3 = i - 1 by omega]
    rw [e1, e2] at hA6
    exact hA6.baseB hs2
  · exact (hB3.trans (hb35.mono hs2)).trans (hb6.mono hs2)
end Go.Proofs.Ytlnjpjeccpnddaa
