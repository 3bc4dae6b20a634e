/-
  PutPacket: a packet's bytes, in the program and in the reference.
-/
import Derived.Test.YtlnjpjeccpnddaaPut
import Derived.Test.YtlnjpjeccpnddaaRwS
namespace Go.Proofs.Ytlnjpjeccpnddaa
open Go Go.RowKit

/-- The rows from j on. -/
abbrev offR (R : Nat → List Value) (j : Nat) : Nat → List Value := fun i => R (i + j)
/-- A packet's bytes, 0 in the place of the check byte. -/
def uB (n k l f t : Nat) (z : Nat → Nat) (i : Nat) : Nat := if i < 3 then tB n k l f t z i else if i = 3 then 0 else tB n k l f t z (i - 1)
theorem new_u6 (w : World) (n k l f t : Nat) (z : Nat → Nat) : New (w.alloc (.cells #[.int .u8 (6 + (n : Int)), .int .u8 (k : Nat), .int .u8 (l : Nat), .int .u8 0, .int .u8 (f : Nat), .int .u8 (t : Nat)] 5)) w.heap.size 5 1 6 6 (byteR (uB n k l f t z)) := by
  refine ⟨_, heap_alloc_new w _, rfl, Nat.le_refl _, fun i hi j v hv => ?_⟩
  have hj : j = 0 := by
    rcases j with _ | j
    · rfl
    · simp [byteR] at hv
  subst hj
  rcases (show i = 0 ∨ i = 1 ∨ i = 2 ∨ i = 3 ∨ i = 4 ∨ i = 5 by omega) with rfl | rfl | rfl | rfl | rfl | rfl <;> simpa [byteR, uB, tB] using hv
theorem u_full (n k l f t : Nat) (z : Nat → Nat) : glue (byteR (uB n k l f t z)) 6 (byteR z) = byteR (uB n k l f t z) := by
  rw [glue_byte]
  congr 1
  funext i
  split
  · rfl
  · simp only [uB, tB]
    rw [if_neg (by omega), if_neg (by omega), if_neg (by omega), if_neg (by omega), if_neg (by omega), if_neg (by omega), if_neg (by omega)]
    congr 1
theorem u_rest (n k l f t : Nat) (z : Nat → Nat) : glue (fun i => byteR (uB n k l f t z) (i + 0)) 3 (fun i => byteR (uB n k l f t z) (i + 4)) = byteR (tB n k l f t z) := by
  funext i
  simp only [glue, byteR, uB]
  by_cases h : i < 3
  · simp [h]
  · simp [h, show ¬ i - 3 + 4 < 3 by omega, show ¬ i - 3 + 4 = 3 by omega, show i - 3 + 4 - 1 = i by omega]
theorem p_sum (n k l f t : Nat) (z : Nat → Nat) (i : Nat) : (if i = 3 then [.int .u8 ((sumOf (tB n k l f t z) (n + 5)).toNat : Int)] else byteR (uB n k l f t z) i) = byteR (pB n k l f t z) i := by
  simp only [byteR, uB, pB]
  by_cases h : i = 3
  · subst h; simp
  · by_cases h1 : i < 3 <;> simp [h, h1]
theorem slice_h3 (w : World) (a : Addr) (len cap : Nat) (h2 : 3 ≤ cap) : (Instr.slice 22 (.slice (some a) len cap) none (some (.int .i64 3)) none).run Try.prog w = .ok (.slice (some a) 3 cap) w := slice_h w a len cap 3 h2
theorem slice_l4 (w : World) (b len cap : Nat) (h2 : 4 ≤ len) (h3 : 4 < cap) : (Instr.slice 22 (.slice (some ⟨b, 0, none⟩) len cap) (some (.int .i64 4)) none none).run Try.prog w = .ok (.slice (some ⟨b, 4, none⟩) (len - 4) (cap - 4)) w := by
  have := slice_l w b 0 len cap 4 h2 h3
  simpa using this
set_option maxHeartbeats 8000000 in
theorem specPutPacket_yes {w : World} {B : Nat} {A : Option Addr} {n c : Nat} {z : Nat → Nat} (f t k l : Nat) (h : Rws w B 1 A n c (byteR z)) (hz : ∀ i, z i ≤ 255) (hB : B ≤ w.heap.size) (hv : pktB f t k l n = true) :
    Calls Try.prog 37 #[.agg #[.int .i64 (f : Nat), .int .i64 (t : Nat), .int .i64 (k : Nat), .int .i64 (l : Nat), .slice A n c]] w (Gives w 5 1 (n + 6) (byteR (pB n k l f t z))) := by
  have HV := Lib.hid hv
  obtain ⟨⟨hf0, hf1⟩, ⟨ht0, ht1⟩, ⟨hk0, hk1⟩, ⟨hl0, hl1⟩, hn8⟩ := pktB_bd hv
  have HH := Lib.hid h
  have hnc := h.1
  unfold maxLen at hnc
  clear hv h
  go_enter Try.func37, Try.ntmps37
  go_wp2_with fail
  refine (specPacketValid_any _ _ _ _ _).mono ?_
  rintro e w1 ⟨rfl, hb1⟩
  rw [HV.out]
  have q1 := (hb1.block w.heap.size (by simp)).trans (heap_alloc_new w (.cells #[.int .i64 (f : Nat), .int .i64 (t : Nat), .int .i64 (k : Nat), .int .i64 (l : Nat), .slice A n c] 24))
  have hB1 : Below w.heap.size w w1 := Below.tr (show Below w.heap.size w (w.alloc (.cells #[.int .i64 (f : Nat), .int .i64 (t : Nat), .int .i64 (k : Nat), .int .i64 (l : Nat), .slice A n c] 24)) by (repeat (first | exact Below.refl _ _ | assumption | refine Below.al ?_ _ | refine Below.dr ?_ | (refine Below.st ?_ (by simp <;> omega) _) | (refine Below.tr ?_ (by assumption))))) hb1
  obtain ⟨k1, u1⟩ := blk q1
  have l1 := heap_lt q1
  have hA0 := Acc.of_newB (new_u6 w1 n k l f t z) (show w.heap.size ≤ w1.heap.size by omega) (by unfold maxLen; omega) (fun _ => rfl)
  clear hb1
  go_wp2_with (at_builtin; refine wpList_pushAll rfl (.tmp 27) (.tmp 29) 22 rfl 5 _ 1 1 Try.underlying22 info_byte (by decide) (by decide) (by decide) rfl hA0 rfl (HH.out.below ((Below.tr hB1 (show Below w1.heap.size w1 _ by (repeat (first | exact Below.refl _ _ | assumption | refine Below.al ?_ _ | refine Below.dr ?_ | (refine Below.st ?_ (by simp <;> omega) _) | (refine Below.tr ?_ (by assumption)))))).mono hB)) (fun _ => rfl) (byteR_one _) (by omega) (by omega) (by simp <;> omega) ?_; intro v2 w2 hA2 hb2 hg2)
  rw [u_full] at hA2
  obtain ⟨A2, c2, e2, hO2⟩ := hA2.own
  subst e2
  have hc2 := hO2.1
  have hcc := hO2.2.1
  have hc2m := hO2.1
  unfold maxLen at hc2
  obtain ⟨g2, rfl, hg2b, hN2⟩ := hO2.at_ (by omega)
  have hg2l := hN2.lt
  have hB2 : Below w.heap.size w w2 := (hB1.trans ((show Below w1.heap.size w1 (w1.alloc (.cells #[.int .u8 (6 + (n : Int)), .int .u8 (k : Nat), .int .u8 (l : Nat), .int .u8 0, .int .u8 (f : Nat), .int .u8 (t : Nat)] 5)) by (repeat (first | exact Below.refl _ _ | assumption | refine Below.al ?_ _ | refine Below.dr ?_ | (refine Below.st ?_ (by simp <;> omega) _) | (refine Below.tr ?_ (by assumption))))).mono hB1.size)).trans hb2
  have hs2 := hB2.size
  have hsl : ∀ W : World, (Instr.slice 22 (.slice (some ⟨g2, 0, none⟩) (6 + n) c2) none (some (.int .i64 3)) none).run Try.prog W = .ok (.slice (some ⟨g2, 0, none⟩) 3 c2) W := fun W => slice_h3 W ⟨g2, 0, none⟩ (6 + n) c2 (by omega)
  have hsl2 : ∀ W : World, (Instr.slice 22 (.slice (some ⟨g2, 0, none⟩) (6 + n) c2) (some (.int .i64 4)) none none).run Try.prog W = .ok (.slice (some ⟨g2, 4, none⟩) (6 + n - 4) (c2 - 4)) W := fun W => slice_l4 W g2 (6 + n) c2 (by omega) (by omega)
  have HN2 := Lib.hid hN2
  clear hb2 hg2 hA0 k1 u1
  refine wp_region_free (ds := [(0, 31), (1, 32), (2, 33), (3, 34), (4, 35), (5, 36)]) 6 (by kernel_rfl) (by kernel_rfl) (by first | exact .inl rfl | exact .inr (by kernel_rfl)) (by rfl) rfl rfl ?_
  refine free_cons (kbEmp w2.heap.size 5) ?_ ?_
  · intro a' w' hLe hfr hdep
    refine wpOp_plain rfl rfl (fun K hK => ?_)
    go_simp
    exact hK _ _ ⟨_, rfl, (Below.refl _ _).alloc (Nat.le_refl _) _, ⟨_, rfl, by have := hLe.size; (try simp at this); omega, heap_alloc_new _ _⟩⟩
  apply free_is
  · intro a' w' hLe hfr hdep
    have e3 := hfr 3 rfl
    conv at e3 => rhs; whnf
    have f3 := e3; simp only [Array.getD_eq_getD_getElem?] at f3
    refine wpOp_plain rfl rfl (fun K hK => ?_)
    go_simp
    exact hK _ _ ⟨_, rfl, Below.refl _ _, rfl⟩
  apply free_is
  · intro a' w' hLe hfr hdep
    have e32 : a'.tmps.getD 32 undef = _ := hdep 1 32 (Nat.le_of_ble_eq_true rfl) rfl rfl
    conv at e32 => rhs; whnf
    have f32 := e32; simp only [Array.getD_eq_getD_getElem?] at f32
    refine wpOp_plain rfl rfl (fun K hK => ?_)
    go_simp
    exact hK _ _ ⟨_, rfl, Below.refl _ _, rfl⟩
  refine free_cons (kbAcc w2.heap.size 5 1 3 (offR (byteR (uB n k l f t z)) 0)) ?_ ?_
  · intro a' w' hLe hfr hdep
    obtain ⟨b31, e31, hb31, hh31⟩ := hdep 0 31 (Nat.le_of_ble_eq_true rfl) rfl rfl
    have f31 := e31; simp only [Array.getD_eq_getD_getElem?] at f31
    have e33 : a'.tmps.getD 33 undef = _ := hdep 2 33 (Nat.le_of_ble_eq_true rfl) rfl rfl
    conv at e33 => rhs; whnf
    have f33 := e33; simp only [Array.getD_eq_getD_getElem?] at f33
    have kc := fun i => keepc hLe (g2) (by (try simp) <;> omega) i
    have kf := fun i => keepf hLe (g2) (by (try simp) <;> omega) i
    have kz : g2 < w'.heap.size := (by have := hLe.size; (try simp at this); omega)
    refine wpOp_plain rfl rfl (fun K hK => ?_)
    refine wp_copy0 (.tmp 31) (.tmp 33) 22 rfl 5 _ 1 1 Try.underlying22 info_byte (by decide) (by decide) (by decide) e31 hb31 hh31 e33 (((HN2.out.below hLe hg2l).rows hc2m (Nat.lt_of_lt_of_le hg2l hLe.size)).part 0 3 c2 (by omega) (by omega) (by omega)) (fun _ => rfl) (fun i => byteR_one _ _) (by omega) ?_
    intro v2 w2 hv2 hb
    exact hK _ _ ⟨_, rfl, hb, hv2⟩
  apply free_is
  · intro a' w' hLe hfr hdep
    have e3 := hfr 3 rfl
    conv at e3 => rhs; whnf
    have f3 := e3; simp only [Array.getD_eq_getD_getElem?] at f3
    refine wpOp_plain rfl rfl (fun K hK => ?_)
    go_simp
    exact hK _ _ ⟨_, rfl, Below.refl _ _, rfl⟩
  apply free_is
  · intro a' w' hLe hfr hdep
    have e35 : a'.tmps.getD 35 undef = _ := hdep 4 35 (Nat.le_of_ble_eq_true rfl) rfl rfl
    conv at e35 => rhs; whnf
    have f35 := e35; simp only [Array.getD_eq_getD_getElem?] at f35
    refine wpOp_plain rfl rfl (fun K hK => ?_)
    go_simp
    exact hK _ _ ⟨_, rfl, Below.refl _ _, rfl⟩
  apply free_nil
  intro vs w5 hb5 hT5
  obtain ⟨b31, e31, hb31, hh31⟩ := hT5 0 31 rfl
  have e32 : vs 1 = _ := hT5 1 32 rfl
  conv at e32 => rhs; whnf
  have e33 : vs 2 = _ := hT5 2 33 rfl
  conv at e33 => rhs; whnf
  obtain ⟨A34, c34, e34, hA34⟩ := hT5 3 34 rfl
  have e35 : vs 4 = _ := hT5 4 35 rfl
  conv at e35 => rhs; whnf
  have e36 : vs 5 = _ := hT5 5 36 rfl
  conv at e36 => rhs; whnf
  simp only [putAll, List.drop_succ_cons, List.drop_zero, e31, e32, e33, e34, e35, e36]
  clear hT5 e31 e32 e33 e34 e35 e36
  go_simp
  have hs5 := hb5.size
  have hN5 := HN2.out.below hb5 hg2l
  have hp5 := (hN5.rows hc2m (Nat.lt_of_lt_of_le hg2l hs5)).part 4 (6 + n - 4) (c2 - 4) (by omega) (by omega) (by omega)
  go_wp2_with (at_builtin; refine wpList_pushAll rfl (.tmp 34) (.tmp 36) 22 rfl 5 _ 1 1 Try.underlying22 info_byte (by decide) (by decide) (by decide) rfl hA34 rfl hp5 (fun i => rfl) (fun i => byteR_one _ _) (by omega) (by omega) hs5 ?_; intro v6 w6 hA6 hb6 hg6; obtain ⟨A6, c6, he6, hO6⟩ := hA6.own; subst he6)
  have hs6 := hb6.size
  have hb26 := hb5.trans hb6
  have e1 : 3 + (6 + n - 4) = n + 5 := by omega
  have hR6 := hO6.rows
  rw [show glue (offR (byteR (uB n k l f t z)) 0) 3 (fun i => byteR (uB n k l f t z) (i + 4)) = byteR (tB n k l f t z) from u_rest n k l f t z] at hR6
  rw [e1] at hR6
  rw [e1]
  have HR6 := Lib.hid hR6
  clear hA34 hA6 hO6 hp5 hN5 hR6 hsl2 hsl hg6
  obtain ⟨sN, hsN⟩ : ∃ sN : Nat, sumOf (tB n k l f t z) (n + 5) = (sN : Int) := ⟨_, (Int.toNat_of_nonneg (by have := sumOf_bd (tB n k l f t z) (n + 5); omega)).symm⟩
  have hsb : 1 ≤ sN ∧ sN ≤ 255 := by have := sumOf_bd (tB n k l f t z) (n + 5); omega
  have HS := Lib.hid hsN
  clear hsN e1
  refine (specSumOf_any HR6.out (fun i => tB_le (by omega) (by omega) (by omega) (by omega) (by omega) hz i) (by omega)).mono ?_
  rintro e w7 ⟨rfl, rfl⟩
  rw [HS.out]
  have hN7 := HN2.out.below hb26 hg2l
  have HN7 := Lib.hid hN7
  have h3n : (3 : Int) < ((6 + n : Nat) : Int) := by omega
  clear hN7
  go_wp2_with (refine wpList_store_row rfl 5 (.tmp 42) (.tmp 41) rfl (.int .u8 (sN : Nat)) HN7.out (k := 3) (by omega) (fun _ => rfl) rfl rfl (row := [.int .u8 (sN : Nat)]) rfl rfl (by kernel_rfl) (by simp [Value.oneCell']) ?_; intro w8 hN8 hg8 hs8)
  go_ret
  have hB8 : Below w.heap.size w w8 := (hB2.trans (hb26.mono hs2)).trans (below_grown hg8 (by omega) hg2b)
  refine ⟨some ⟨g2, 0, none⟩, c2, by rw [show n + 6 = 6 + n by omega] <;> rfl, ?_, hB8⟩
  rw [show n + 6 = 6 + n by omega]
  refine (Own.of_new hN8 hc2m hg2b).congr fun i _ => ?_
  rw [← p_sum, HS.out]
  rfl
end Go.Proofs.Ytlnjpjeccpnddaa
