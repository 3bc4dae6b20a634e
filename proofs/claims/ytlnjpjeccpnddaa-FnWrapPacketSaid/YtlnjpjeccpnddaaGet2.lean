/-
  GetPacket on a packet's bytes; UnwrapPacket on a wrapped packet.
-/
import Derived.Test.YtlnjpjeccpnddaaGet1
namespace Go.Proofs.Ytlnjpjeccpnddaa
open Go Go.RowKit

theorem pB_le {n k l f t : Nat} {z : Nat → Nat} (hn : n ≤ 80) (hk : k ≤ 255) (hl : l ≤ 255) (hf : f ≤ 255) (ht : t ≤ 255) (hz : ∀ i, z i ≤ 255) (i : Nat) : pB n k l f t z i ≤ 255 := by
  have h := fun i => tB_le (n := n) (k := k) (l := l) (f := f) (t := t) (z := z) hn hk hl hf ht hz i
  have hs := sumOf_bd (tB n k l f t z) (n + 5)
  unfold pB
  split
  · exact h _
  · split
    · omega
    · exact h _
theorem pB_body (n k l f t : Nat) (z : Nat → Nat) : (fun i => byteR (pB n k l f t z) (i + 6)) = byteR z := by
  funext i
  simp only [byteR, pB, tB]
  rw [if_neg (by omega), if_neg (by omega), if_neg (by omega), if_neg (by omega), if_neg (by omega), if_neg (by omega), if_neg (by omega)]
  rw [show i + 6 - 1 - 5 = i by omega]
set_option maxHeartbeats 8000000 in
theorem implGetPacket_yes {w : World} {B : Nat} {A : Option Addr} {n c : Nat} {z : Nat → Nat} (f t k l : Nat) (h : Rws w B 1 A (n + 6) c (byteR (pB n k l f t z))) (hz : ∀ i, z i ≤ 255) (hB : B ≤ w.heap.size) (hv : pktB f t k l n = true) :
    Calls Try.prog 38 #[.slice A (n + 6) c] w (HopV w f t k l n true z) := by
  have HV := Lib.hid hv
  obtain ⟨⟨hf0, hf1⟩, ⟨ht0, ht1⟩, ⟨hk0, hk1⟩, ⟨hl0, hl1⟩, hn8⟩ := pktB_bd hv
  have hZ := fun i => pB_le (n := n) (k := k) (l := l) (f := f) (t := t) (z := z) hn8 (by omega) (by omega) (by omega) (by omega) hz i
  have hnc := h.1
  have hcm := h.1.2
  unfold maxLen at hnc
  obtain ⟨bl, off, rfl, hbB, hc⟩ := h.2 (by omega)
  have hbl : bl < w.heap.size := by omega
  have p1 : w.cell? ⟨bl, off + 1, none⟩ = some (.int .u8 (k : Nat)) := hc 1 (by omega) 0 _ rfl
  have p2 : w.cell? ⟨bl, off + 2, none⟩ = some (.int .u8 (l : Nat)) := hc 2 (by omega) 0 _ rfl
  have p4 : w.cell? ⟨bl, off + 4, none⟩ = some (.int .u8 (f : Nat)) := hc 4 (by omega) 0 _ rfl
  have p5 : w.cell? ⟨bl, off + 5, none⟩ = some (.int .u8 (t : Nat)) := hc 5 (by omega) 0 _ rfl
  obtain ⟨A6, hsl, hR6⟩ : ∃ A6, (∀ W : World, (Instr.slice 22 (.slice (some ⟨bl, off, none⟩) (n + 6) c) (some (.int .i64 6)) none none).run Try.prog W = .ok (.slice A6 n (c - 6)) W) ∧ Rws w B 1 A6 n (c - 6) (byteR z) := by
    by_cases hc6 : c = 6
    · obtain rfl : n = 0 := by omega
      subst hc6
      refine ⟨some ⟨bl, off, none⟩, fun W => ?_, Rws.none_ (by unfold maxLen; omega)⟩
      have ht : Try.prog.underlying 22 = some (.slice (Try.prog.elem 22)) := by kernel_rfl
      have he : Try.prog.elem 22 = 5 := by kernel_rfl
      rw [run_slice_l W _ _ _ _ ht .i64 6 (by omega) (by omega), he]
      simp [sliced, go_sem]
    · refine ⟨some ⟨bl, off + 6 * 1, none⟩, fun W => ?_, ?_⟩
      · have := slice_l W bl off (n + 6) c 6 (by omega) (by omega)
        rw [show n + 6 - 6 = n by omega] at this
        exact this
      · have := h.part 6 n (c - 6) (by omega) (by omega) (by omega)
        rwa [pB_body] at this
  have H6 := Lib.hid hR6
  have H0 := Lib.hid h
  have HZ := Lib.hid hZ
  have Hz := Lib.hid hz
  have h6 : ((n : Int) + 6 < 6) = False := by simp; omega
  have i1 : (1 : Int) < (n : Int) + 6 := by omega
  have i2 : (2 : Int) < (n : Int) + 6 := by omega
  have i4 : (4 : Int) < (n : Int) + 6 := by omega
  have i5 : (5 : Int) < (n : Int) + 6 := by omega
  have wf : IntKind.i64.wrap (f : Int) = (f : Int) := IntWalk.i64_in _ (by omega)
  have wt : IntKind.i64.wrap (t : Int) = (t : Int) := IntWalk.i64_in _ (by omega)
  have wk : IntKind.i64.wrap (k : Int) = (k : Int) := IntWalk.i64_in _ (by omega)
  have wl : IntKind.i64.wrap (l : Int) = (l : Int) := IntWalk.i64_in _ (by omega)
  clear hR6 h hv hc hz hZ
  go_enter Try.func38, Try.ntmps38
  go_wp2
  refine wp_region_free (ds := [(0, 9), (1, 10), (2, 11), (3, 12), (4, 13), (5, 14), (6, 15), (7, 16), (8, 17), (9, 18), (10, 19), (11, 20), (12, 21), (13, 22), (14, 23), (15, 24), (16, 25), (17, 26), (18, 27), (19, 28), (20, 4)]) 21 (by kernel_rfl) (by kernel_rfl) (by first | exact .inl rfl | exact .inr (by kernel_rfl)) (by rfl) rfl rfl ?_
  apply free_is
  · intro a' w' hLe hfr hdep
    have e0 := hfr 0 rfl
    conv at e0 => rhs; whnf
    have f0 := e0; simp only [Array.getD_eq_getD_getElem?] at f0
    refine wpOp_plain rfl rfl (fun K hK => ?_)
    go_simp
    exact hK _ _ ⟨_, rfl, Below.refl _ _, rfl⟩
  apply free_is
  · intro a' w' hLe hfr hdep
    have e9 : a'.tmps.getD 9 undef = _ := hdep 0 9 (Nat.le_of_ble_eq_true rfl) rfl rfl
    conv at e9 => rhs; whnf
    have f9 := e9; simp only [Array.getD_eq_getD_getElem?] at f9
    refine wpOp_plain rfl rfl (fun K hK => ?_)
    go_simp
    exact hK _ _ ⟨_, rfl, Below.refl _ _, rfl⟩
  apply free_is
  · intro a' w' hLe hfr hdep
    have e10 : a'.tmps.getD 10 undef = _ := hdep 1 10 (Nat.le_of_ble_eq_true rfl) rfl rfl
    conv at e10 => rhs; whnf
    have f10 := e10; simp only [Array.getD_eq_getD_getElem?] at f10
    have kc := fun i => keepc hLe (bl) (by (try simp) <;> omega) i
    have kf := fun i => keepf hLe (bl) (by (try simp) <;> omega) i
    have kz : bl < w'.heap.size := (by have := hLe.size; (try simp at this); omega)
    have kc := fun i => keepc hLe (w.heap.size) (by (try simp) <;> omega) i
    have kf := fun i => keepf hLe (w.heap.size) (by (try simp) <;> omega) i
    have kz : w.heap.size < w'.heap.size := (by have := hLe.size; (try simp at this); omega)
    refine wpOp_plain rfl rfl (fun K hK => ?_)
    go_simp
    exact hK _ _ ⟨_, rfl, Below.refl _ _, rfl⟩
  apply free_is
  · intro a' w' hLe hfr hdep
    have e11 : a'.tmps.getD 11 undef = _ := hdep 2 11 (Nat.le_of_ble_eq_true rfl) rfl rfl
    conv at e11 => rhs; whnf
    have f11 := e11; simp only [Array.getD_eq_getD_getElem?] at f11
    refine wpOp_plain rfl rfl (fun K hK => ?_)
    go_simp
    exact hK _ _ ⟨_, rfl, Below.refl _ _, rfl⟩
  apply free_is
  · intro a' w' hLe hfr hdep
    have e0 := hfr 0 rfl
    conv at e0 => rhs; whnf
    have f0 := e0; simp only [Array.getD_eq_getD_getElem?] at f0
    refine wpOp_plain rfl rfl (fun K hK => ?_)
    go_simp
    exact hK _ _ ⟨_, rfl, Below.refl _ _, rfl⟩
  apply free_is
  · intro a' w' hLe hfr hdep
    have e13 : a'.tmps.getD 13 undef = _ := hdep 4 13 (Nat.le_of_ble_eq_true rfl) rfl rfl
    conv at e13 => rhs; whnf
    have f13 := e13; simp only [Array.getD_eq_getD_getElem?] at f13
    refine wpOp_plain rfl rfl (fun K hK => ?_)
    go_simp
    exact hK _ _ ⟨_, rfl, Below.refl _ _, rfl⟩
  apply free_is
  · intro a' w' hLe hfr hdep
    have e14 : a'.tmps.getD 14 undef = _ := hdep 5 14 (Nat.le_of_ble_eq_true rfl) rfl rfl
    conv at e14 => rhs; whnf
    have f14 := e14; simp only [Array.getD_eq_getD_getElem?] at f14
    have kc := fun i => keepc hLe (bl) (by (try simp) <;> omega) i
    have kf := fun i => keepf hLe (bl) (by (try simp) <;> omega) i
    have kz : bl < w'.heap.size := (by have := hLe.size; (try simp at this); omega)
    have kc := fun i => keepc hLe (w.heap.size) (by (try simp) <;> omega) i
    have kf := fun i => keepf hLe (w.heap.size) (by (try simp) <;> omega) i
    have kz : w.heap.size < w'.heap.size := (by have := hLe.size; (try simp at this); omega)
    refine wpOp_plain rfl rfl (fun K hK => ?_)
    go_simp
    exact hK _ _ ⟨_, rfl, Below.refl _ _, rfl⟩
  apply free_is
  · intro a' w' hLe hfr hdep
    have e15 : a'.tmps.getD 15 undef = _ := hdep 6 15 (Nat.le_of_ble_eq_true rfl) rfl rfl
    conv at e15 => rhs; whnf
    have f15 := e15; simp only [Array.getD_eq_getD_getElem?] at f15
    refine wpOp_plain rfl rfl (fun K hK => ?_)
    go_simp
    exact hK _ _ ⟨_, rfl, Below.refl _ _, rfl⟩
  apply free_is
  · intro a' w' hLe hfr hdep
    have e0 := hfr 0 rfl
    conv at e0 => rhs; whnf
    have f0 := e0; simp only [Array.getD_eq_getD_getElem?] at f0
    refine wpOp_plain rfl rfl (fun K hK => ?_)
    go_simp
    exact hK _ _ ⟨_, rfl, Below.refl _ _, rfl⟩
  apply free_is
  · intro a' w' hLe hfr hdep
    have e17 : a'.tmps.getD 17 undef = _ := hdep 8 17 (Nat.le_of_ble_eq_true rfl) rfl rfl
    conv at e17 => rhs; whnf
    have f17 := e17; simp only [Array.getD_eq_getD_getElem?] at f17
    refine wpOp_plain rfl rfl (fun K hK => ?_)
    go_simp
    exact hK _ _ ⟨_, rfl, Below.refl _ _, rfl⟩
  apply free_is
  · intro a' w' hLe hfr hdep
    have e18 : a'.tmps.getD 18 undef = _ := hdep 9 18 (Nat.le_of_ble_eq_true rfl) rfl rfl
    conv at e18 => rhs; whnf
    have f18 := e18; simp only [Array.getD_eq_getD_getElem?] at f18
    have kc := fun i => keepc hLe (bl) (by (try simp) <;> omega) i
    have kf := fun i => keepf hLe (bl) (by (try simp) <;> omega) i
    have kz : bl < w'.heap.size := (by have := hLe.size; (try simp at this); omega)
    have kc := fun i => keepc hLe (w.heap.size) (by (try simp) <;> omega) i
    have kf := fun i => keepf hLe (w.heap.size) (by (try simp) <;> omega) i
    have kz : w.heap.size < w'.heap.size := (by have := hLe.size; (try simp at this); omega)
    refine wpOp_plain rfl rfl (fun K hK => ?_)
    go_simp
    exact hK _ _ ⟨_, rfl, Below.refl _ _, rfl⟩
  apply free_is
  · intro a' w' hLe hfr hdep
    have e19 : a'.tmps.getD 19 undef = _ := hdep 10 19 (Nat.le_of_ble_eq_true rfl) rfl rfl
    conv at e19 => rhs; whnf
    have f19 := e19; simp only [Array.getD_eq_getD_getElem?] at f19
    refine wpOp_plain rfl rfl (fun K hK => ?_)
    go_simp
    exact hK _ _ ⟨_, rfl, Below.refl _ _, rfl⟩
  apply free_is
  · intro a' w' hLe hfr hdep
    have e0 := hfr 0 rfl
    conv at e0 => rhs; whnf
    have f0 := e0; simp only [Array.getD_eq_getD_getElem?] at f0
    refine wpOp_plain rfl rfl (fun K hK => ?_)
    go_simp
    exact hK _ _ ⟨_, rfl, Below.refl _ _, rfl⟩
  apply free_is
  · intro a' w' hLe hfr hdep
    have e21 : a'.tmps.getD 21 undef = _ := hdep 12 21 (Nat.le_of_ble_eq_true rfl) rfl rfl
    conv at e21 => rhs; whnf
    have f21 := e21; simp only [Array.getD_eq_getD_getElem?] at f21
    refine wpOp_plain rfl rfl (fun K hK => ?_)
    go_simp
    exact hK _ _ ⟨_, rfl, Below.refl _ _, rfl⟩
  apply free_is
  · intro a' w' hLe hfr hdep
    have e22 : a'.tmps.getD 22 undef = _ := hdep 13 22 (Nat.le_of_ble_eq_true rfl) rfl rfl
    conv at e22 => rhs; whnf
    have f22 := e22; simp only [Array.getD_eq_getD_getElem?] at f22
    have kc := fun i => keepc hLe (bl) (by (try simp) <;> omega) i
    have kf := fun i => keepf hLe (bl) (by (try simp) <;> omega) i
    have kz : bl < w'.heap.size := (by have := hLe.size; (try simp at this); omega)
    have kc := fun i => keepc hLe (w.heap.size) (by (try simp) <;> omega) i
    have kf := fun i => keepf hLe (w.heap.size) (by (try simp) <;> omega) i
    have kz : w.heap.size < w'.heap.size := (by have := hLe.size; (try simp at this); omega)
    refine wpOp_plain rfl rfl (fun K hK => ?_)
    go_simp
    exact hK _ _ ⟨_, rfl, Below.refl _ _, rfl⟩
  apply free_is
  · intro a' w' hLe hfr hdep
    have e23 : a'.tmps.getD 23 undef = _ := hdep 14 23 (Nat.le_of_ble_eq_true rfl) rfl rfl
    conv at e23 => rhs; whnf
    have f23 := e23; simp only [Array.getD_eq_getD_getElem?] at f23
    refine wpOp_plain rfl rfl (fun K hK => ?_)
    go_simp
    exact hK _ _ ⟨_, rfl, Below.refl _ _, rfl⟩
  apply free_is
  · intro a' w' hLe hfr hdep
    have e0 := hfr 0 rfl
    conv at e0 => rhs; whnf
    have f0 := e0; simp only [Array.getD_eq_getD_getElem?] at f0
    refine wpOp_plain rfl rfl (fun K hK => ?_)
    go_simp
    exact hK _ _ ⟨_, rfl, Below.refl _ _, rfl⟩
  apply free_is
  · intro a' w' hLe hfr hdep
    have e25 : a'.tmps.getD 25 undef = _ := hdep 16 25 (Nat.le_of_ble_eq_true rfl) rfl rfl
    conv at e25 => rhs; whnf
    have f25 := e25; simp only [Array.getD_eq_getD_getElem?] at f25
    refine wpOp_plain rfl rfl (fun K hK => ?_)
    go_simp
    exact hK _ _ ⟨_, rfl, Below.refl _ _, rfl⟩
  refine free_cons (kbAcc w.heap.size 5 1 n (byteR z)) ?_ ?_
  · intro a' w' hLe hfr hdep
    have e26 : a'.tmps.getD 26 undef = _ := hdep 17 26 (Nat.le_of_ble_eq_true rfl) rfl rfl
    conv at e26 => rhs; whnf
    have f26 := e26; simp only [Array.getD_eq_getD_getElem?] at f26
    have kc := fun i => keepc hLe (bl) (by (try simp) <;> omega) i
    have kf := fun i => keepf hLe (bl) (by (try simp) <;> omega) i
    have kz : bl < w'.heap.size := (by have := hLe.size; (try simp at this); omega)
    have kc := fun i => keepc hLe (w.heap.size) (by (try simp) <;> omega) i
    have kf := fun i => keepf hLe (w.heap.size) (by (try simp) <;> omega) i
    have kz : w.heap.size < w'.heap.size := (by have := hLe.size; (try simp at this); omega)
    refine wpOp_plain rfl rfl (fun K hK => ?_)
    refine wp_copyN (.tmp 26) 22 rfl 5 _ 1 1 Try.underlying22 info_byte (by decide) (by decide) (by decide) e26 (H6.out.below ((Below.tr (below_new' w (.cells #[.int .i64 0, .int .i64 0, .int .i64 0, .int .i64 0, .slice none 0 0] 24)) hLe).mono hB)) (fun _ => rfl) (byteR_one _) (by omega) (show w.heap.size ≤ _ by have := hLe.size; simp at this; omega) ?_
    intro v2 w2 hv2 hb
    exact hK _ _ ⟨_, rfl, hb, hv2⟩
  refine free_cons (kbPk w.heap.size f t k l n z) ?_ ?_
  · intro a' w' hLe hfr hdep
    have e12 : a'.tmps.getD 12 undef = _ := hdep 3 12 (Nat.le_of_ble_eq_true rfl) rfl rfl
    conv at e12 => rhs; whnf
    have f12 := e12; simp only [Array.getD_eq_getD_getElem?] at f12
    have e16 : a'.tmps.getD 16 undef = _ := hdep 7 16 (Nat.le_of_ble_eq_true rfl) rfl rfl
    conv at e16 => rhs; whnf
    have f16 := e16; simp only [Array.getD_eq_getD_getElem?] at f16
    have e20 : a'.tmps.getD 20 undef = _ := hdep 11 20 (Nat.le_of_ble_eq_true rfl) rfl rfl
    conv at e20 => rhs; whnf
    have f20 := e20; simp only [Array.getD_eq_getD_getElem?] at f20
    have e24 : a'.tmps.getD 24 undef = _ := hdep 15 24 (Nat.le_of_ble_eq_true rfl) rfl rfl
    conv at e24 => rhs; whnf
    have f24 := e24; simp only [Array.getD_eq_getD_getElem?] at f24
    obtain ⟨A27, c27, e27, hA27⟩ := hdep 18 27 (Nat.le_of_ble_eq_true rfl) rfl rfl
    have f27 := e27; simp only [Array.getD_eq_getD_getElem?] at f27
    refine wpOp_plain rfl rfl (fun K hK => ?_)
    go_simp
    exact hK _ _ ⟨_, rfl, Below.refl _ _, ⟨A27, c27, rfl, hA27⟩⟩
  refine free_cons (kbVar (w.heap.size + 1) (.cells #[.int .i64 0, .int .i64 0, .int .i64 0, .int .i64 0, .slice none 0 0] 24 (0, 0))) ?_ ?_
  · intro a' w' hLe hfr hdep
    refine wpOp_plain rfl rfl (fun K hK => ?_)
    go_simp
    exact hK _ _ ⟨_, rfl, (Below.refl _ _).alloc (Nat.le_refl _) _, ⟨_, rfl, by have := hLe.size; (try simp at this); omega, heap_alloc_new _ _⟩⟩
  apply free_nil
  intro vs w3 hb3 hT3
  have e9 : vs 0 = _ := hT3 0 9 rfl
  conv at e9 => rhs; whnf
  have e10 : vs 1 = _ := hT3 1 10 rfl
  conv at e10 => rhs; whnf
  have e11 : vs 2 = _ := hT3 2 11 rfl
  conv at e11 => rhs; whnf
  have e12 : vs 3 = _ := hT3 3 12 rfl
  conv at e12 => rhs; whnf
  have e13 : vs 4 = _ := hT3 4 13 rfl
  conv at e13 => rhs; whnf
  have e14 : vs 5 = _ := hT3 5 14 rfl
  conv at e14 => rhs; whnf
  have e15 : vs 6 = _ := hT3 6 15 rfl
  conv at e15 => rhs; whnf
  have e16 : vs 7 = _ := hT3 7 16 rfl
  conv at e16 => rhs; whnf
  have e17 : vs 8 = _ := hT3 8 17 rfl
  conv at e17 => rhs; whnf
  have e18 : vs 9 = _ := hT3 9 18 rfl
  conv at e18 => rhs; whnf
  have e19 : vs 10 = _ := hT3 10 19 rfl
  conv at e19 => rhs; whnf
  have e20 : vs 11 = _ := hT3 11 20 rfl
  conv at e20 => rhs; whnf
  have e21 : vs 12 = _ := hT3 12 21 rfl
  conv at e21 => rhs; whnf
  have e22 : vs 13 = _ := hT3 13 22 rfl
  conv at e22 => rhs; whnf
  have e23 : vs 14 = _ := hT3 14 23 rfl
  conv at e23 => rhs; whnf
  have e24 : vs 15 = _ := hT3 15 24 rfl
  conv at e24 => rhs; whnf
  have e25 : vs 16 = _ := hT3 16 25 rfl
  conv at e25 => rhs; whnf
  have e26 : vs 17 = _ := hT3 17 26 rfl
  conv at e26 => rhs; whnf
  obtain ⟨A27, c27, e27, hA27⟩ := hT3 18 27 rfl
  obtain ⟨A28, c28, e28, hA28⟩ := hT3 19 28 rfl
  obtain ⟨a4, e4, ha4, hh4⟩ := hT3 20 4 rfl
  simp only [putAll, List.drop_succ_cons, List.drop_zero, e9, e10, e11, e12, e13, e14, e15, e16, e17, e18, e19, e20, e21, e22, e23, e24, e25, e26, e27, e28, e4]
  clear hT3 e9 e10 e11 e12 e13 e14 e15 e16 e17 e18 e19 e20 e21 e22 e23 e24 e25 e26 e27 e28 e4
  go_simp
  obtain ⟨Ab, cb, eb, hOb⟩ := hA28.own
  cases eb
  have hB3 : Below w.heap.size w w3 := Below.tr (below_new' w (.cells #[.int .i64 0, .int .i64 0, .int .i64 0, .int .i64 0, .slice none 0 0] 24)) hb3
  have hs3 := hb3.size
  simp at hs3
  have hz3 := (hb3.block w.heap.size (by simp)).trans (heap_alloc_new w (.cells #[.int .i64 0, .int .i64 0, .int .i64 0, .int .i64 0, .slice none 0 0] 24))
  have ha4l := heap_lt hh4
  clear hA27 hA28 p1 p2 p4 p5 hsl hb3
  go_wp2_with (refine wpList_store_var rfl 24 (.tmp 4) (.tmp 28) rfl #[.int .i64 (f : Nat), .int .i64 (t : Nat), .int .i64 (k : Nat), .int .i64 (l : Nat), .slice A28 n c28] hh4 rfl rfl (by kernel_rfl) rfl rfl ?_; intro w5 hh5 hg5 hs5; obtain ⟨k5, f5⟩ := blk hh5)
  have hO5 := own_farP hOb hg5 hh4
  have hz5 := heap_far hz3 hg5 (by omega)
  have hB5 : Below w.heap.size w w5 := Below.of_grown hB3 hg5 (by omega)
  have hB5s := hB5.size
  have H5 := Lib.hid (H0.out.below (hB5.mono hB))
  have hR5 := Lib.hid hO5.rows
  have ha5l := heap_lt hh5
  have hv := HV.out
  clear hg5 hOb hz3 hh4 H0 H6
  refine wp_region_free (ds := [(0, 29), (1, 30), (2, 31), (3, 32), (4, 33), (5, 34), (6, 35), (7, 36), (8, 37), (9, 38), (10, 39)]) 11 (by kernel_rfl) (by kernel_rfl) (by first | exact .inl rfl | exact .inr (by kernel_rfl)) (by rfl) rfl rfl ?_
  apply free_is
  · intro a' w' hLe hfr hdep
    have e4 := hfr 4 rfl
    conv at e4 => rhs; whnf
    have f4 := e4; simp only [Array.getD_eq_getD_getElem?] at f4
    have kc := fun i => keepc hLe (a4) (by (try simp) <;> omega) i
    have kf := fun i => keepf hLe (a4) (by (try simp) <;> omega) i
    have kz : a4 < w'.heap.size := (by have := hLe.size; (try simp at this); omega)
    refine wpOp_plain rfl rfl (fun K hK => ?_)
    go_simp
    exact hK _ _ ⟨_, rfl, Below.refl _ _, rfl⟩
  apply free_is
  · intro a' w' hLe hfr hdep
    have e29 : a'.tmps.getD 29 undef = _ := hdep 0 29 (Nat.le_of_ble_eq_true rfl) rfl rfl
    conv at e29 => rhs; whnf
    have f29 := e29; simp only [Array.getD_eq_getD_getElem?] at f29
    have kc := fun i => keepc hLe (a4) (by (try simp) <;> omega) i
    have kf := fun i => keepf hLe (a4) (by (try simp) <;> omega) i
    have kz : a4 < w'.heap.size := (by have := hLe.size; (try simp at this); omega)
    refine wpOp_plain rfl rfl (fun K hK => ?_)
    go_simp
    refine (implPacketValid_any _ _ _ _ _).mono ?_
    rintro e w2 ⟨rfl, hb⟩
    exact hK _ _ ⟨_, rfl, hb, rfl⟩
  apply free_is
  · intro a' w' hLe hfr hdep
    have e30 : a'.tmps.getD 30 undef = _ := hdep 1 30 (Nat.le_of_ble_eq_true rfl) rfl rfl
    conv at e30 => rhs; whnf
    have f30 := e30; simp only [Array.getD_eq_getD_getElem?] at f30
    refine wpOp_plain rfl rfl (fun K hK => ?_)
    go_simp
    exact hK _ _ ⟨_, rfl, Below.refl _ _, rfl⟩
  apply free_is
  · intro a' w' hLe hfr hdep
    have e31 : a'.tmps.getD 31 undef = _ := hdep 2 31 (Nat.le_of_ble_eq_true rfl) rfl rfl
    conv at e31 => rhs; whnf
    have f31 := e31; simp only [Array.getD_eq_getD_getElem?] at f31
    refine wpOp_plain rfl rfl (fun K hK => ?_)
    go_simp
    exact hK _ _ ⟨_, rfl, Below.refl _ _, rfl⟩
  apply free_is
  · intro a' w' hLe hfr hdep
    have e32 : a'.tmps.getD 32 undef = _ := hdep 3 32 (Nat.le_of_ble_eq_true rfl) rfl rfl
    conv at e32 => rhs; whnf
    have f32 := e32; simp only [Array.getD_eq_getD_getElem?] at f32
    have e4 := hfr 4 rfl
    conv at e4 => rhs; whnf
    have f4 := e4; simp only [Array.getD_eq_getD_getElem?] at f4
    have kc := fun i => keepc hLe (a4) (by (try simp) <;> omega) i
    have kf := fun i => keepf hLe (a4) (by (try simp) <;> omega) i
    have kz : a4 < w'.heap.size := (by have := hLe.size; (try simp at this); omega)
    refine wpOp_yes rfl rfl rfl e32 (fun K hK => ?_)
    go_simp
    exact hK _ _ ⟨_, rfl, Below.refl _ _, rfl⟩
  refine free_cons (kbOwnP w5.heap.size 5 1 (n + 6) (byteR (pB n k l f t z))) ?_ ?_
  · intro a' w' hLe hfr hdep
    have e32 : a'.tmps.getD 32 undef = _ := hdep 3 32 (Nat.le_of_ble_eq_true rfl) rfl rfl
    conv at e32 => rhs; whnf
    have f32 := e32; simp only [Array.getD_eq_getD_getElem?] at f32
    have e33 : a'.tmps.getD 33 undef = _ := hdep 4 33 (Nat.le_of_ble_eq_true rfl) rfl rfl
    conv at e33 => rhs; whnf
    have f33 := e33; simp only [Array.getD_eq_getD_getElem?] at f33
    have kc := fun i => keepc hLe (a4) (by (try simp) <;> omega) i
    have kf := fun i => keepf hLe (a4) (by (try simp) <;> omega) i
    have kz : a4 < w'.heap.size := (by have := hLe.size; (try simp at this); omega)
    refine wpOp_yes rfl rfl rfl e32 (fun K hK => ?_)
    go_simp
    refine (implPutPacket_yesG f t k l (hR5.out.below hLe) Hz.out hLe.size HV.out).mono ?_
    rintro e w2 ⟨Ar, cr, rfl, hO, hb⟩
    exact hK _ _ ⟨_, rfl, hb, ⟨Ar, cr, rfl, hO.more hLe.size⟩⟩
  apply free_is
  · intro a' w' hLe hfr hdep
    have e32 : a'.tmps.getD 32 undef = _ := hdep 3 32 (Nat.le_of_ble_eq_true rfl) rfl rfl
    conv at e32 => rhs; whnf
    have f32 := e32; simp only [Array.getD_eq_getD_getElem?] at f32
    obtain ⟨A34, c34, e34, hO34⟩ := hdep 5 34 (Nat.le_of_ble_eq_true rfl) rfl rfl
    have f34 := e34; simp only [Array.getD_eq_getD_getElem?] at f34
    have hcv := conv_str hO34.rows HZ.out (by omega)
    refine wpOp_yes rfl rfl rfl e32 (fun K hK => ?_)
    go_simp
    exact hK _ _ ⟨_, rfl, Below.refl _ _, rfl⟩
  apply free_is
  · intro a' w' hLe hfr hdep
    have e32 : a'.tmps.getD 32 undef = _ := hdep 3 32 (Nat.le_of_ble_eq_true rfl) rfl rfl
    conv at e32 => rhs; whnf
    have f32 := e32; simp only [Array.getD_eq_getD_getElem?] at f32
    have e0 := hfr 0 rfl
    conv at e0 => rhs; whnf
    have f0 := e0; simp only [Array.getD_eq_getD_getElem?] at f0
    refine wpOp_yes rfl rfl rfl e32 (fun K hK => ?_)
    go_simp
    exact hK _ _ ⟨_, rfl, Below.refl _ _, rfl⟩
  apply free_is
  · intro a' w' hLe hfr hdep
    have e32 : a'.tmps.getD 32 undef = _ := hdep 3 32 (Nat.le_of_ble_eq_true rfl) rfl rfl
    conv at e32 => rhs; whnf
    have f32 := e32; simp only [Array.getD_eq_getD_getElem?] at f32
    have e36 : a'.tmps.getD 36 undef = _ := hdep 7 36 (Nat.le_of_ble_eq_true rfl) rfl rfl
    conv at e36 => rhs; whnf
    have f36 := e36; simp only [Array.getD_eq_getD_getElem?] at f36
    have hcv := conv_str (H5.out.below (hLe.mono (by omega))) HZ.out (by omega)
    refine wpOp_yes rfl rfl rfl e32 (fun K hK => ?_)
    go_simp
    exact hK _ _ ⟨_, rfl, Below.refl _ _, rfl⟩
  apply free_is
  · intro a' w' hLe hfr hdep
    have e32 : a'.tmps.getD 32 undef = _ := hdep 3 32 (Nat.le_of_ble_eq_true rfl) rfl rfl
    conv at e32 => rhs; whnf
    have f32 := e32; simp only [Array.getD_eq_getD_getElem?] at f32
    have e35 : a'.tmps.getD 35 undef = _ := hdep 6 35 (Nat.le_of_ble_eq_true rfl) rfl rfl
    conv at e35 => rhs; whnf
    have f35 := e35; simp only [Array.getD_eq_getD_getElem?] at f35
    have e37 : a'.tmps.getD 37 undef = _ := hdep 8 37 (Nat.le_of_ble_eq_true rfl) rfl rfl
    conv at e37 => rhs; whnf
    have f37 := e37; simp only [Array.getD_eq_getD_getElem?] at f37
    refine wpOp_yes rfl rfl rfl e32 (fun K hK => ?_)
    go_simp
    exact hK _ _ ⟨_, rfl, Below.refl _ _, rfl⟩
  apply free_is
  · intro a' w' hLe hfr hdep
    have e32 : a'.tmps.getD 32 undef = _ := hdep 3 32 (Nat.le_of_ble_eq_true rfl) rfl rfl
    conv at e32 => rhs; whnf
    have f32 := e32; simp only [Array.getD_eq_getD_getElem?] at f32
    have e38 : a'.tmps.getD 38 undef = _ := hdep 9 38 (Nat.le_of_ble_eq_true rfl) rfl rfl
    conv at e38 => rhs; whnf
    have f38 := e38; simp only [Array.getD_eq_getD_getElem?] at f38
    refine wpOp_plain rfl rfl (fun K hK => ?_)
    go_simp
    exact hK _ _ ⟨_, rfl, Below.refl _ _, rfl⟩
  apply free_nil
  intro vs w8 hb8 hT8
  have e29 : vs 0 = _ := hT8 0 29 rfl
  conv at e29 => rhs; whnf
  have e30 : vs 1 = _ := hT8 1 30 rfl
  conv at e30 => rhs; whnf
  have e31 : vs 2 = _ := hT8 2 31 rfl
  conv at e31 => rhs; whnf
  have e32 : vs 3 = _ := hT8 3 32 rfl
  conv at e32 => rhs; whnf
  have e33 : vs 4 = _ := hT8 4 33 rfl
  conv at e33 => rhs; whnf
  obtain ⟨A34, c34, e34, hO34⟩ := hT8 5 34 rfl
  have e35 : vs 6 = _ := hT8 6 35 rfl
  conv at e35 => rhs; whnf
  have e36 : vs 7 = _ := hT8 7 36 rfl
  conv at e36 => rhs; whnf
  have e37 : vs 8 = _ := hT8 8 37 rfl
  conv at e37 => rhs; whnf
  have e38 : vs 9 = _ := hT8 9 38 rfl
  conv at e38 => rhs; whnf
  have e39 : vs 10 = _ := hT8 10 39 rfl
  conv at e39 => rhs; whnf
  simp only [putAll, List.drop_succ_cons, List.drop_zero, e29, e30, e31, e32, e33, e34, e35, e36, e37, e38, e39]
  clear hT8 e29 e30 e31 e32 e33 e34 e35 e36 e37 e38 e39
  go_simp
  have hh8 := (hb8.block a4 ha5l).trans hh5
  obtain ⟨k8, f8⟩ := blk hh8
  have hz8 := (hb8.block w.heap.size (by omega)).trans hz5
  have hO8 := hO5.next hb8
  have hB8 := Below.tr hB5 hb8
  have hs8 := hb8.size
  have ha8l := heap_lt hh8
  go_wp2_with (refine wpList_store_var rfl 24 (.tmp 2) (.tmp 41) rfl #[.int .i64 (f : Nat), .int .i64 (t : Nat), .int .i64 (k : Nat), .int .i64 (l : Nat), .slice A28 n c28] hz8 rfl rfl (by kernel_rfl) rfl rfl ?_; intro w9 hh9 hg9 hs9; obtain ⟨k9, f9⟩ := blk hh9)
  have hO9 := own_farP hO8 hg9 hz8
  refine bodyPost_ret (v := .tuple #[.agg #[.int .i64 (f : Nat), .int .i64 (t : Nat), .int .i64 (k : Nat), .int .i64 (l : Nat), .slice A28 n c28], .bool true]) (by simp [results, Try.results38, go_sem, k9]) rfl ⟨A28, c28, rfl, hO9, Below.of_grown hB8 hg9 (by omega)⟩
end Go.Proofs.Ytlnjpjeccpnddaa
