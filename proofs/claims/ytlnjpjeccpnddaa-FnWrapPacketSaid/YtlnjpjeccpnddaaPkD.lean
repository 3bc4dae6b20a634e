/-
  Drawn packets.
-/
import Derived.Test.YtlnjpjeccpnddaaByD
import Derived.Test.YtlnjpjeccpnddaaPkt
namespace Go.Proofs.Ytlnjpjeccpnddaa
open Go Go.RowKit

/-- New bytes, at most twelve. -/
def kByt (g z : Nat) (O : Obj → Prop) (B0 : Nat) : KP g z O :=
  ⟨fun v w => ∃ b n c zf, v = .slice (some ⟨b, 0, none⟩) n c ∧ n ≤ 12 ∧ c ≤ maxLen ∧ (b ≠ g ∧ b ≠ z) ∧ B0 ≤ b ∧ New w b 5 1 n c (byteR (cap zf)),
   fun _ _ _ ⟨b, n, c, zf, h1, h2, h3, h4, h5, h6⟩ hg => ⟨b, n, c, zf, h1, h2, h3, h4, h5, by obtain ⟨cs, q1, q2⟩ := h6; exact ⟨cs, hg.keep q1 h4.1 h4.2, q2⟩⟩⟩
/-- A struct with such bytes in it. -/
def kAgB (g z : Nat) (O : Obj → Prop) (B0 : Nat) (R : Value → Value → Prop) : KP g z O :=
  ⟨fun v w => ∃ b n c zf, n ≤ 12 ∧ c ≤ maxLen ∧ (b ≠ g ∧ b ≠ z) ∧ B0 ≤ b ∧ New w b 5 1 n c (byteR (cap zf)) ∧ R (.slice (some ⟨b, 0, none⟩) n c) v,
   fun _ _ _ ⟨b, n, c, zf, h2, h3, h4, h5, h6, h7⟩ hg => ⟨b, n, c, zf, h2, h3, h4, h5, by obtain ⟨cs, q1, q2⟩ := h6; exact ⟨cs, hg.keep q1 h4.1 h4.2, q2⟩, h7⟩⟩
theorem acc_new {w : World} {B b n c : Nat} {z : Nat → Nat} (h : Acc w B 5 1 (.slice (some ⟨b, 0, none⟩) n c) n (byteR z)) : New w b 5 1 n c (byteR z) ∧ B ≤ b ∧ c ≤ maxLen := by
  rcases Nat.eq_zero_or_pos n with rfl | hn
  · obtain ⟨⟨_, h2⟩, _⟩ := h
    rcases h2 with ⟨e, _⟩ | ⟨g, cap, cur, e, hb, hg, hnc, hcm, hs, _⟩
    · cases e
    · cases e
      exact ⟨⟨cur, hg, hs, Nat.zero_le _, fun i hi => absurd hi (by omega)⟩, hb, hcm⟩
  · obtain ⟨A, c', e, hO⟩ := h.own
    cases e
    obtain ⟨g, e, hB, hN⟩ := hO.at_ hn
    cases e
    exact ⟨hN, hB, hO.1⟩
theorem l20Bytes_d {w : World} {B g : Nat} {A : Option Addr} {m c p B0 : Nat} (h : Rd w B g A m c p) (hp2 : p ≤ 600000000) (hB0 : B0 ≤ w.heap.size) :
    Calls Try.prog 39 #[(.pointer (some ⟨g, 0, none⟩)), .int .i64 12] w (Drawn w B g A m c p 201 (kByt g g (fun _ => False) B0)) := by
  have hlt := h.lt
  refine (l20Bytes_any h 12 (by omega) hp2).mono ?_
  rintro e w' ⟨b, n, k, q, z, rfl, hn, hb, hA, hq, hr, hg⟩
  obtain ⟨hN, h1, h2⟩ := acc_new hA
  exact ⟨_, q, rfl, ⟨b, n, k, z, rfl, hn, h2, ⟨by omega, by omega⟩, by omega, hN⟩, hq, hr, hg⟩
theorem make80 (W : World) : (Instr.makeSlice 22 (.int .i64 80) (.int .i64 80)).run Try.prog W = .ok (.slice (some ⟨W.heap.size, 0, none⟩) 80 80) (W.alloc (.cells (madeCells #[.int .u8 0] 80) 5)) := by
  obtain ⟨iT, hi, hz, hs, hb⟩ := info_parts info_byte
  exact run_make_rows (P := Try.prog) 22 5 iT _ 1 Try.underlying22 hi hz hs 80 (by rw [hb]; omega) (by omega) W
theorem make81 (W : World) : (Instr.makeSlice 22 (.int .i64 81) (.int .i64 81)).run Try.prog W = .ok (.slice (some ⟨W.heap.size, 0, none⟩) 81 81) (W.alloc (.cells (madeCells #[.int .u8 0] 81) 5)) := by
  obtain ⟨iT, hi, hz, hs, hb⟩ := info_parts info_byte
  exact run_make_rows (P := Try.prog) 22 5 iT _ 1 Try.underlying22 hi hz hs 81 (by rw [hb]; omega) (by omega) W
theorem new80 (W : World) : New (W.alloc (.cells (madeCells #[.int .u8 0] 80) 5)) W.heap.size 5 1 80 80 (byteR (cap fun _ => 0)) := new_zero W 5 #[.int .u8 0] 1 80 rfl (by omega)
theorem new81 (W : World) : New (W.alloc (.cells (madeCells #[.int .u8 0] 81) 5)) W.heap.size 5 1 81 81 (byteR (cap fun _ => 0)) := new_zero W 5 #[.int .u8 0] 1 81 rfl (by omega)
theorem heap_keep (w : World) (o : Obj) {k : Nat} (hk : k < w.heap.size) : (w.alloc o).heap[k]? = w.heap[k]? := (below_new w o).block k hk
/-- A drawn packet. -/
def DrawnK (w : World) (B g : Nat) (A : Option Addr) (m c p K : Nat) (e : Ending) (w' : World) : Prop :=
  ∃ f t k l : Int, ∃ b n cc z q, e = .returned (.agg #[.int .i64 f, .int .i64 t, .int .i64 k, .int .i64 l, .slice (some ⟨b, 0, none⟩) n cc]) ∧ n ≤ 81 ∧ cc ≤ maxLen ∧ w.heap.size ≤ b ∧ New w' b 5 1 n cc (byteR (cap z)) ∧ q ≤ p + K ∧ Rd w' B g A m c q ∧ w.grownBy w' (some g)

set_option maxRecDepth 20000 in
set_option maxHeartbeats 16000000 in
theorem l20Packet_any {w : World} {B g : Nat} {A : Option Addr} {m c p : Nat} (h : Rd w B g A m c p) (n : Int) (hn : -1000000 ≤ n) (hp2 : p ≤ 500000000) :
    Calls Try.prog 21 #[(.pointer (some ⟨g, 0, none⟩)), .int .i64 n] w (DrawnK w B g A m c p 10000) := by
  have hlt := h.lt
  have hBg := h.2.1
  go_enter Try.func21, Try.ntmps21
  have hr0 := h.alloc (.cells #[.int .i64 0, .int .i64 0, .int .i64 0, .int .i64 0, .slice none 0 0] 24)
  have hZ0 := heap_alloc_new w (.cells #[.int .i64 0, .int .i64 0, .int .i64 0, .int .i64 0, .slice none 0 0] 24)
  have hG0 := grown_alloc (grown_refl w (some g)) (.cells #[.int .i64 0, .int .i64 0, .int .i64 0, .int .i64 0, .slice none 0 0] 24)
  have hg0 : g < (w.alloc (.cells #[.int .i64 0, .int .i64 0, .int .i64 0, .int .i64 0, .slice none 0 0] 24)).heap.size := by simp; omega
  go_upto_region 1 with (fail)
  refine wp_region_draws (ds := [(0, 6), (1, 7), (2, 8), (3, 9), (4, 10), (5, 11), (6, 12), (7, 13), (8, 14), (9, 15), (10, 16), (11, 17), (12, 18), (13, 19), (14, 20), (15, 21), (16, 22), (17, 23), (18, 5)]) (B := B) (g := g) (z := g) (O := fun _ => False) (A := A) (m := m) (c := c) (p := _) 19 201 [kIs g g (fun _ => False) (.pointer (some ⟨g, 0, none⟩)), kInt g g (fun _ => False) 0 255, kIs g g (fun _ => False) (.pointer (some ⟨g, 0, none⟩)), kInt g g (fun _ => False) 0 3, kIs g g (fun _ => False) (.pointer (some ⟨g, 0, none⟩)), kInt g g (fun _ => False) 0 2, kInt g g (fun _ => False) 1 3, kIs g g (fun _ => False) (.pointer (some ⟨g, 0, none⟩)), kInt g g (fun _ => False) 0 64, kArr g g (fun _ => False) 3 2 (fun cs => ∃ y0 : Int, 0 ≤ y0 ∧ y0 ≤ 64 ∧ cs = #[.int .i64 y0, .int .i64 0]), kIs g g (fun _ => False) (.pointer (some ⟨g, 0, none⟩)), kInt g g (fun _ => False) 0 3, kInt g g (fun _ => False) 0 1, kCell g g (fun _ => False) (fun v => ∃ y0 : Int, 0 ≤ y0 ∧ y0 ≤ 64 ∧ v = .int .i64 y0), kInt g g (fun _ => False) 0 64, kIs g g (fun _ => False) (.pointer (some ⟨g, 0, none⟩)), kByt g g (fun _ => False) (w.heap.size + 1), kAgB g g (fun _ => False) (w.heap.size + 1) (fun s v => ∃ y0 : Int, ∃ y1 : Int, ∃ y2 : Int, ∃ y3 : Int, 0 ≤ y0 ∧ y0 ≤ 255 ∧ 0 ≤ y1 ∧ y1 ≤ 3 ∧ 1 ≤ y2 ∧ y2 ≤ 3 ∧ 0 ≤ y3 ∧ y3 ≤ 64 ∧ v = .agg #[.int .i64 y0, .int .i64 y1, .int .i64 y2, .int .i64 y3, s]), kNew g g (fun _ => False) (w.heap.size + 1) 24 #[.int .i64 0, .int .i64 0, .int .i64 0, .int .i64 0, .slice none 0 0]] (by kernel_rfl) (by kernel_rfl) (by first | exact .inl rfl | exact .inr (by kernel_rfl)) hr0 (Rd.lt hr0) (by rfl) ?_ rfl rfl ?_
  · refine each_cons ?_ ( each_cons ?_ ( each_cons ?_ ( each_cons ?_ ( each_cons ?_ ( each_cons ?_ ( each_cons ?_ ( each_cons ?_ ( each_cons ?_ ( each_cons ?_ ( each_cons ?_ ( each_cons ?_ ( each_cons ?_ ( each_cons ?_ ( each_cons ?_ ( each_cons ?_ ( each_cons ?_ ( each_cons ?_ ( each_cons ?_ ( each_nil)))))))))))))))))))
    · intro q a' w' hq hRd hLe hzl hfr hdep
      have e0 : a'.tmps.getD 0 undef = .pointer (some ⟨g, 0, none⟩) := hfr 0 rfl
      have f0 := e0; simp only [Array.getD_eq_getD_getElem?] at f0
      refine wpOp_plain rfl rfl (fun K hK => ?_)
      go_simp
      exact hK _ _ ⟨_, q, rfl, by omega, hRd, Turns.refl _, rfl, nofun⟩
    · intro q a' w' hq hRd hLe hzl hfr hdep
      have e6 : a'.tmps.getD 6 undef = .pointer (some ⟨g, 0, none⟩) := hdep 0 _ 6 rfl rfl rfl
      have f6 := e6; simp only [Array.getD_eq_getD_getElem?] at f6
      refine wpOp_plain rfl rfl (fun K hK => ?_)
      go_simp
      refine (pick_any hRd _ (by omega)).mono ?_
      rintro e w2 ⟨k, rfl, hk, hr, hg, hs⟩
      have hk1 := hk.1; have hk2 := hk.2.1; have hk3 := hk.2.2
      exact hK _ _ ⟨_, _, rfl, by omega, hr, Turns.of_grown hg, ⟨k, rfl, by omega, by omega⟩, nofun⟩
    · intro q a' w' hq hRd hLe hzl hfr hdep
      have e0 : a'.tmps.getD 0 undef = .pointer (some ⟨g, 0, none⟩) := hfr 0 rfl
      have f0 := e0; simp only [Array.getD_eq_getD_getElem?] at f0
      refine wpOp_plain rfl rfl (fun K hK => ?_)
      go_simp
      exact hK _ _ ⟨_, q, rfl, by omega, hRd, Turns.refl _, rfl, nofun⟩
    · intro q a' w' hq hRd hLe hzl hfr hdep
      have e8 : a'.tmps.getD 8 undef = .pointer (some ⟨g, 0, none⟩) := hdep 2 _ 8 rfl rfl rfl
      have f8 := e8; simp only [Array.getD_eq_getD_getElem?] at f8
      refine wpOp_plain rfl rfl (fun K hK => ?_)
      go_simp
      refine (pick_any hRd _ (by omega)).mono ?_
      rintro e w2 ⟨k, rfl, hk, hr, hg, hs⟩
      have hk1 := hk.1; have hk2 := hk.2.1; have hk3 := hk.2.2
      exact hK _ _ ⟨_, _, rfl, by omega, hr, Turns.of_grown hg, ⟨k, rfl, by omega, by omega⟩, nofun⟩
    · intro q a' w' hq hRd hLe hzl hfr hdep
      have e0 : a'.tmps.getD 0 undef = .pointer (some ⟨g, 0, none⟩) := hfr 0 rfl
      have f0 := e0; simp only [Array.getD_eq_getD_getElem?] at f0
      refine wpOp_plain rfl rfl (fun K hK => ?_)
      go_simp
      exact hK _ _ ⟨_, q, rfl, by omega, hRd, Turns.refl _, rfl, nofun⟩
    · intro q a' w' hq hRd hLe hzl hfr hdep
      have e10 : a'.tmps.getD 10 undef = .pointer (some ⟨g, 0, none⟩) := hdep 4 _ 10 rfl rfl rfl
      have f10 := e10; simp only [Array.getD_eq_getD_getElem?] at f10
      refine wpOp_plain rfl rfl (fun K hK => ?_)
      go_simp
      refine (pick_any hRd _ (by omega)).mono ?_
      rintro e w2 ⟨k, rfl, hk, hr, hg, hs⟩
      have hk1 := hk.1; have hk2 := hk.2.1; have hk3 := hk.2.2
      exact hK _ _ ⟨_, _, rfl, by omega, hr, Turns.of_grown hg, ⟨k, rfl, by omega, by omega⟩, nofun⟩
    · intro q a' w' hq hRd hLe hzl hfr hdep
      obtain ⟨x11, e11, b11, c11⟩ : (kInt g g (fun _ => False) 0 2).p (a'.tmps.getD 11 undef) w' := hdep 5 _ 11 rfl rfl rfl
      have f11 := e11; simp only [Array.getD_eq_getD_getElem?] at f11
      have r12 : IntKind.i64.wrap (1 + x11) = 1 + x11 := IntWalk.i64_in _ (by omega)
      refine wpOp_plain rfl rfl (fun K hK => ?_)
      go_simp
      exact hK _ _ ⟨_, q, rfl, by omega, hRd, Turns.refl _, ⟨_, rfl, by omega, by omega⟩, nofun⟩
    · intro q a' w' hq hRd hLe hzl hfr hdep
      have e0 : a'.tmps.getD 0 undef = .pointer (some ⟨g, 0, none⟩) := hfr 0 rfl
      have f0 := e0; simp only [Array.getD_eq_getD_getElem?] at f0
      refine wpOp_plain rfl rfl (fun K hK => ?_)
      go_simp
      exact hK _ _ ⟨_, q, rfl, by omega, hRd, Turns.refl _, rfl, nofun⟩
    · intro q a' w' hq hRd hLe hzl hfr hdep
      have e13 : a'.tmps.getD 13 undef = .pointer (some ⟨g, 0, none⟩) := hdep 7 _ 13 rfl rfl rfl
      have f13 := e13; simp only [Array.getD_eq_getD_getElem?] at f13
      refine wpOp_plain rfl rfl (fun K hK => ?_)
      go_simp
      refine (pick_any hRd _ (by omega)).mono ?_
      rintro e w2 ⟨k, rfl, hk, hr, hg, hs⟩
      have hk1 := hk.1; have hk2 := hk.2.1; have hk3 := hk.2.2
      exact hK _ _ ⟨_, _, rfl, by omega, hr, Turns.of_grown hg, ⟨k, rfl, by omega, by omega⟩, nofun⟩
    · intro q a' w' hq hRd hLe hzl hfr hdep
      obtain ⟨x14, e14, b14, c14⟩ : (kInt g g (fun _ => False) 0 64).p (a'.tmps.getD 14 undef) w' := hdep 8 _ 14 rfl rfl rfl
      have f14 := e14; simp only [Array.getD_eq_getD_getElem?] at f14
      refine wpOp_plain rfl rfl (fun K hK => ?_)
      go_simp
      exact hK _ _ ⟨_, q, rfl, by omega, hRd.alloc _, Turns.alloc _ _, ⟨_, _, rfl, by have := hRd.lt; omega, heap_alloc_new _ _, x14, by omega, by omega, rfl⟩, nofun⟩
    · intro q a' w' hq hRd hLe hzl hfr hdep
      have e0 : a'.tmps.getD 0 undef = .pointer (some ⟨g, 0, none⟩) := hfr 0 rfl
      have f0 := e0; simp only [Array.getD_eq_getD_getElem?] at f0
      refine wpOp_plain rfl rfl (fun K hK => ?_)
      go_simp
      exact hK _ _ ⟨_, q, rfl, by omega, hRd, Turns.refl _, rfl, nofun⟩
    · intro q a' w' hq hRd hLe hzl hfr hdep
      have e16 : a'.tmps.getD 16 undef = .pointer (some ⟨g, 0, none⟩) := hdep 10 _ 16 rfl rfl rfl
      have f16 := e16; simp only [Array.getD_eq_getD_getElem?] at f16
      refine wpOp_plain rfl rfl (fun K hK => ?_)
      go_simp
      refine (pick_any hRd _ (by omega)).mono ?_
      rintro e w2 ⟨k, rfl, hk, hr, hg, hs⟩
      have hk1 := hk.1; have hk2 := hk.2.1; have hk3 := hk.2.2
      exact hK _ _ ⟨_, _, rfl, by omega, hr, Turns.of_grown hg, ⟨k, rfl, by omega, by omega⟩, nofun⟩
    · intro q a' w' hq hRd hLe hzl hfr hdep
      obtain ⟨x17, e17, b17, c17⟩ : (kInt g g (fun _ => False) 0 3).p (a'.tmps.getD 17 undef) w' := hdep 11 _ 17 rfl rfl rfl
      have f17 := e17; simp only [Array.getD_eq_getD_getElem?] at f17
      have r18 : IntKind.i64.wrap (x17.tdiv 3) = x17 / 3 := by rw [Int.tdiv_eq_ediv_of_nonneg (by omega)]; exact IntWalk.i64_in _ (by omega)
      refine wpOp_plain rfl rfl (fun K hK => ?_)
      go_simp
      exact hK _ _ ⟨_, q, rfl, by omega, hRd, Turns.refl _, ⟨_, rfl, by omega, by omega⟩, nofun⟩
    · intro q a' w' hq hRd hLe hzl hfr hdep
      obtain ⟨a15, cs15, e15, hb15, hh15, y15_0, by15_0, cy15_0, rfl⟩ : (kArr g g (fun _ => False) 3 2 (fun cs => ∃ y0 : Int, 0 ≤ y0 ∧ y0 ≤ 64 ∧ cs = #[.int .i64 y0, .int .i64 0])).p (a'.tmps.getD 15 undef) w' := hdep 9 _ 15 rfl rfl rfl
      have f15 := e15; simp only [Array.getD_eq_getD_getElem?] at f15
      obtain ⟨x18, e18, b18, c18⟩ : (kInt g g (fun _ => False) 0 1).p (a'.tmps.getD 18 undef) w' := hdep 12 _ 18 rfl rfl rfl
      have f18 := e18; simp only [Array.getD_eq_getD_getElem?] at f18
      rcases (show x18 = 0 ∨ x18 = 1 by omega) with rfl | rfl
      · refine wpOp_plain rfl rfl (fun K hK => ?_)
        go_simp
        exact hK _ _ ⟨_, q, rfl, by omega, hRd, Turns.refl _, ⟨_, _, _, rfl, hb15, (cell_of_row _ _ 0 _ _ _ hh15).trans rfl, y15_0, by omega, by omega, rfl⟩, nofun⟩
      · refine wpOp_plain rfl rfl (fun K hK => ?_)
        go_simp
        exact hK _ _ ⟨_, q, rfl, by omega, hRd, Turns.refl _, ⟨_, _, _, rfl, hb15, (cell_of_row _ _ 1 _ _ _ hh15).trans rfl, 0, by omega, by omega, rfl⟩, nofun⟩
    · intro q a' w' hq hRd hLe hzl hfr hdep
      obtain ⟨a19, o19, v19, e19, hb19, hc19, y19_0, by19_0, cy19_0, rfl⟩ : (kCell g g (fun _ => False) (fun v => ∃ y0 : Int, 0 ≤ y0 ∧ y0 ≤ 64 ∧ v = .int .i64 y0)).p (a'.tmps.getD 19 undef) w' := hdep 13 _ 19 rfl rfl rfl
      have f19 := e19; simp only [Array.getD_eq_getD_getElem?] at f19
      refine wpOp_plain rfl rfl (fun K hK => ?_)
      go_simp
      exact hK _ _ ⟨_, q, rfl, by omega, hRd, Turns.refl _, ⟨_, rfl, by omega, by omega⟩, nofun⟩
    · intro q a' w' hq hRd hLe hzl hfr hdep
      have e0 : a'.tmps.getD 0 undef = .pointer (some ⟨g, 0, none⟩) := hfr 0 rfl
      have f0 := e0; simp only [Array.getD_eq_getD_getElem?] at f0
      refine wpOp_plain rfl rfl (fun K hK => ?_)
      go_simp
      exact hK _ _ ⟨_, q, rfl, by omega, hRd, Turns.refl _, rfl, nofun⟩
    · intro q a' w' hq hRd hLe hzl hfr hdep
      have e21 : a'.tmps.getD 21 undef = .pointer (some ⟨g, 0, none⟩) := hdep 15 _ 21 rfl rfl rfl
      have f21 := e21; simp only [Array.getD_eq_getD_getElem?] at f21
      refine wpOp_plain rfl rfl (fun K hK => ?_)
      go_simp
      refine (l20Bytes_d hRd (by omega) (by have := hLe.size; (try simp at this); omega)).mono ?_
      rintro e w2 ⟨v, q2, rfl, hv, hq2, hr, hg⟩
      exact hK _ _ ⟨_, _, rfl, by omega, hr, Turns.of_grown hg, hv, nofun⟩
    · intro q a' w' hq hRd hLe hzl hfr hdep
      obtain ⟨x7, e7, b7, c7⟩ : (kInt g g (fun _ => False) 0 255).p (a'.tmps.getD 7 undef) w' := hdep 1 _ 7 rfl rfl rfl
      have f7 := e7; simp only [Array.getD_eq_getD_getElem?] at f7
      obtain ⟨x9, e9, b9, c9⟩ : (kInt g g (fun _ => False) 0 3).p (a'.tmps.getD 9 undef) w' := hdep 3 _ 9 rfl rfl rfl
      have f9 := e9; simp only [Array.getD_eq_getD_getElem?] at f9
      obtain ⟨x12, e12, b12, c12⟩ : (kInt g g (fun _ => False) 1 3).p (a'.tmps.getD 12 undef) w' := hdep 6 _ 12 rfl rfl rfl
      have f12 := e12; simp only [Array.getD_eq_getD_getElem?] at f12
      obtain ⟨x20, e20, b20, c20⟩ : (kInt g g (fun _ => False) 0 64).p (a'.tmps.getD 20 undef) w' := hdep 14 _ 20 rfl rfl rfl
      have f20 := e20; simp only [Array.getD_eq_getD_getElem?] at f20
      obtain ⟨a22, n22, k22, z22, e22, hl22, hm22, hb22, hB22, hN22⟩ : (kByt g g (fun _ => False) (w.heap.size + 1)).p (a'.tmps.getD 22 undef) w' := hdep 16 _ 22 rfl rfl rfl
      have f22 := e22; simp only [Array.getD_eq_getD_getElem?] at f22
      refine wpOp_plain rfl rfl (fun K hK => ?_)
      go_simp
      exact hK _ _ ⟨_, q, rfl, by omega, hRd, Turns.refl _, ⟨a22, n22, k22, z22, hl22, hm22, hb22, hB22, hN22, x7, x9, x12, x20, by omega, by omega, by omega, by omega, by omega, by omega, by omega, by omega, rfl⟩, nofun⟩
    · intro q a' w' hq hRd hLe hzl hfr hdep
      refine wpOp_plain rfl rfl (fun K hK => ?_)
      go_simp
      exact hK _ _ ⟨_, q, rfl, by omega, hRd.alloc _, Turns.alloc _ _, ⟨_, rfl, by have := hRd.lt; omega, by have := hLe.size; (try simp at this); omega, heap_alloc_new _ _⟩, nofun⟩
  intro vs w1 q1 hq1 hr1 hg1 hT1 hN1
  replace hg1 := hg1.grown
  obtain ⟨a5, e5, hb5, hB5, hh5⟩ : (kNew g g (fun _ => False) (w.heap.size + 1) 24 #[.int .i64 0, .int .i64 0, .int .i64 0, .int .i64 0, .slice none 0 0]).p (vs 18) w1 := hT1 18 5 rfl
  obtain ⟨a23, n23, k23, z23, hl23, hm23, hb23, hB23, hN23, x23_0, x23_1, x23_2, x23_3, bx23_0, cx23_0, bx23_1, cx23_1, bx23_2, cx23_2, bx23_3, cx23_3, e23⟩ : (kAgB g g (fun _ => False) (w.heap.size + 1) (fun s v => ∃ y0 : Int, ∃ y1 : Int, ∃ y2 : Int, ∃ y3 : Int, 0 ≤ y0 ∧ y0 ≤ 255 ∧ 0 ≤ y1 ∧ y1 ≤ 3 ∧ 1 ≤ y2 ∧ y2 ≤ 3 ∧ 0 ≤ y3 ∧ y3 ≤ 64 ∧ v = .agg #[.int .i64 y0, .int .i64 y1, .int .i64 y2, .int .i64 y3, s])).p (vs 17) w1 := hT1 17 23 rfl
  clear hT1 hN1
  simp only [putAll, List.drop_succ_cons, List.drop_zero, e5, e23]
  clear e5 e23
  go_simp
  have hZ1 := heap_far hZ0 hg1 (by omega)
  have hG1 := grown_trans hG0 hg1
  have hs1 := hG1.size
  clear hZ0 hG0 hr0 hg1
  have hne : a23 ≠ a5 := by
    intro e
    subst e
    obtain ⟨cs, q1, _⟩ := hN23
    exact typed_ne q1 hh5 (by decide)
  refine wpList_store_var rfl 24 (.tmp 5) (.tmp 23) rfl #[.int .i64 x23_0, .int .i64 x23_1, .int .i64 x23_2, .int .i64 x23_3, .slice (some ⟨a23, 0, none⟩) n23 k23] hh5 rfl rfl (by kernel_rfl) rfl rfl ?_
  intro w2 hh2 hg2 hs2
  have hZ2 := heap_far hZ1 hg2 (by omega)
  have hr2 := hr1.far hg2 hb5.1 (by omega)
  have hG2 := grown_far hG1 hg2 (by omega)
  have hN2 := hN23.keep (hg2.block _ hN23.lt (by simpa using hne))
  have hx0 := heap_lt hh2
  clear hZ1 hr1 hG1 hh5 hN23 hg2 hs2 hs1
  go_wp2_with fail
  refine (odd_any hr2 _ hn (by omega)).mono ?_
  rintro e w3 ⟨od, q3, rfl, hq3, hr3, hg3, hs3, hy3⟩
  have hZ3 := heap_far hZ2 hg3 (by omega)
  have hX3 := heap_far hh2 hg3 hb5.1
  have hN3 := hN2.keep (hg3.block _ hN2.lt (by simpa using hb23.1))
  have hG3 := grown_trans hG2 hg3
  have hsz3 := hG3.size
  clear hs3 hg3 hr2 hZ2 hh2 hN2 hG2 hy3
  cases od with
  | false =>
    have hX := hX3
    have hZ := hZ3
    have hN := hN3
    have hr := hr3
    have hG := hG3
    clear hX3 hZ3 hN3 hr3 hG3
    obtain ⟨kX, fX⟩ := blk hX
    have hXl := heap_lt hX
    have hgl := hr.lt
    have hsG := hG.size
    (try go_wp2_with fail)
    refine (odd_any hr _ (by omega) (by omega)).mono ?_
    rintro e w8 ⟨od2, q8, rfl, hq8, hr8, hg8, hs8, hy8⟩
    have hX8 := heap_far hX hg8 hb5.1
    have hZ8 := heap_far hZ hg8 (by omega)
    have hN8 := hN.keep (hg8.block _ hN.lt (by simp; omega))
    have hG8 := grown_trans hG hg8
    have hsG8 := hG8.size
    have hXl8 := heap_lt hX8
    have hgl8 := hr8.lt
    clear hX hZ hN hr hG hg8 hs8 hy8 kX fX
    cases od2 with
    | false =>
      have hX := hX8
      have hZ := hZ8
      have hN := hN8
      have hr := hr8
      have hG := hG8
      obtain ⟨kX, fX⟩ := blk hX
      go_wp2_with (refine wpList_store_var rfl 24 (.tmp 4) (.tmp 54) rfl _ hZ rfl rfl (by kernel_rfl) rfl rfl ?_; intro w9 hh9 hg9 hs9; obtain ⟨k9, f9⟩ := blk hh9)
      have hr9 := hr.far hg9 (show w.heap.size ≠ g by omega) (by omega)
      have hG9 := grown_far hG hg9 (Nat.le_refl _)
      have hN9 := hN.keep (hg9.block _ hN.lt (by simp; omega))
      refine bodyPost_ret (v := .agg #[.int .i64 x23_0, .int .i64 x23_1, .int .i64 x23_2, .int .i64 x23_3, .slice (some ⟨a23, 0, none⟩) (n23) (k23)]) (by simp [results, Try.results21, go_sem, k9]) rfl ⟨_, _, _, _, _, _, _, _, _, rfl, by omega, by first | assumption | (unfold maxLen; omega), by omega, hN9, by omega, hr9, hG9⟩
    | true =>
      have hmk := make80
      have hXa := (heap_alloc_old w8 (.cells (madeCells #[.int .u8 0] 80) 5) hXl8).trans hX8
      have hZa := (heap_alloc_old w8 (.cells (madeCells #[.int .u8 0] 80) 5) (show w.heap.size < w8.heap.size by omega)).trans hZ8
      have hNa := new80 w8
      have hra := hr8.alloc (.cells (madeCells #[.int .u8 0] 80) 5)
      have hGa := grown_alloc hG8 (.cells (madeCells #[.int .u8 0] 80) 5)
      have hsa : (w8.alloc (.cells (madeCells #[.int .u8 0] 80) 5)).heap.size = w8.heap.size + 1 := by simp
      clear hX8 hZ8 hN8 hr8 hG8
      go_wp2_with (first | (refine wpList_store_at rfl 22 (.tmp 53) (.tmp 52) rfl (.slice (some ⟨w8.heap.size, 0, none⟩) 80 80) #[.int .i64 x23_0, .int .i64 x23_1, .int .i64 x23_2, .int .i64 x23_3, .slice (some ⟨w8.heap.size, 0, none⟩) 80 80] hXa rfl rfl (by kernel_rfl) rfl rfl (by simp) rfl ?_; intro w7 hX hg7 hs7; have hZ := heap_far hZa hg7 (by omega); obtain ⟨kX, fX⟩ := blk hX) | (refine wpList_store_var rfl 24 (.tmp 4) (.tmp 54) rfl _ hZ rfl rfl (by kernel_rfl) rfl rfl ?_; intro w9 hh9 hg9 hs9; obtain ⟨k9, f9⟩ := blk hh9))
      have hr7 := hra.far hg7 hb5.1 (by omega)
      have hG7 := grown_far hGa hg7 (by omega)
      have hN7 := hNa.keep (hg7.block _ hNa.lt (by simp; omega))
      have hsG7 := hG7.size
      have hr9 := hr7.far hg9 (show w.heap.size ≠ g by omega) (by omega)
      have hG9 := grown_far hG7 hg9 (Nat.le_refl _)
      have hN9 := hN7.keep (hg9.block _ hN7.lt (by simp; omega))
      refine bodyPost_ret (v := .agg #[.int .i64 x23_0, .int .i64 x23_1, .int .i64 x23_2, .int .i64 x23_3, .slice (some ⟨w8.heap.size, 0, none⟩) 80 80]) (by simp [results, Try.results21, go_sem, k9]) rfl ⟨_, _, _, _, _, _, _, _, _, rfl, by omega, by unfold maxLen; omega, by omega, hN9, by omega, hr9, hG9⟩
  | true =>
    go_wp2_with fail
    refine (pick_any hr3 _ (by omega)).mono ?_
    rintro e w4 ⟨k4, rfl, hk, hr4, hg4, hs4⟩
    have hk5 := hk.1; have hk6 := hk.2.1 (by omega); clear hk
    have hZ4 := heap_far hZ3 hg4 (by omega)
    have hX4 := heap_far hX3 hg4 hb5.1
    have hN4 := hN3.keep (hg4.block _ hN3.lt (by simpa using hb23.1))
    have hG4 := grown_trans hG3 hg4
    have hsz4 := hG4.size
    have hXl4 := heap_lt hX4
    have hg4l := hr4.lt
    clear hs4 hg4 hr3 hZ3 hX3 hN3 hG3
    rcases (show k4 = 0 ∨ k4 = 1 ∨ k4 = 2 ∨ k4 = 3 by omega) with rfl | rfl | rfl | rfl
    · go_wp2_with (refine wpList_store_at rfl 3 (.tmp 33) (.const (.int .i64 256)) rfl (.int .i64 256) #[.int .i64 256, .int .i64 x23_1, .int .i64 x23_2, .int .i64 x23_3, .slice (some ⟨a23, 0, none⟩) n23 k23] hX4 rfl rfl (by kernel_rfl) rfl rfl (by simp) rfl ?_; intro w7 hX hg7 hs7)
      have hZ := heap_far hZ4 hg7 (by omega)
      have hN := hN4.keep (hg7.block _ hN4.lt (by simpa using hne))
      have hr := hr4.far hg7 hb5.1 (by omega)
      have hG := grown_far hG4 hg7 (by omega)
      clear hX4 hZ4 hN4 hr4 hG4 hg7 hs7
      obtain ⟨kX, fX⟩ := blk hX
      have hXl := heap_lt hX
      have hgl := hr.lt
      have hsG := hG.size
      (try go_wp2_with fail)
      refine (odd_any hr _ (by omega) (by omega)).mono ?_
      rintro e w8 ⟨od2, q8, rfl, hq8, hr8, hg8, hs8, hy8⟩
      have hX8 := heap_far hX hg8 hb5.1
      have hZ8 := heap_far hZ hg8 (by omega)
      have hN8 := hN.keep (hg8.block _ hN.lt (by simp; omega))
      have hG8 := grown_trans hG hg8
      have hsG8 := hG8.size
      have hXl8 := heap_lt hX8
      have hgl8 := hr8.lt
      clear hX hZ hN hr hG hg8 hs8 hy8 kX fX
      cases od2 with
      | false =>
        have hX := hX8
        have hZ := hZ8
        have hN := hN8
        have hr := hr8
        have hG := hG8
        obtain ⟨kX, fX⟩ := blk hX
        go_wp2_with (refine wpList_store_var rfl 24 (.tmp 4) (.tmp 54) rfl _ hZ rfl rfl (by kernel_rfl) rfl rfl ?_; intro w9 hh9 hg9 hs9; obtain ⟨k9, f9⟩ := blk hh9)
        have hr9 := hr.far hg9 (show w.heap.size ≠ g by omega) (by omega)
        have hG9 := grown_far hG hg9 (Nat.le_refl _)
        have hN9 := hN.keep (hg9.block _ hN.lt (by simp; omega))
        refine bodyPost_ret (v := .agg #[.int .i64 256, .int .i64 x23_1, .int .i64 x23_2, .int .i64 x23_3, .slice (some ⟨a23, 0, none⟩) (n23) (k23)]) (by simp [results, Try.results21, go_sem, k9]) rfl ⟨_, _, _, _, _, _, _, _, _, rfl, by omega, by first | assumption | (unfold maxLen; omega), by omega, hN9, by omega, hr9, hG9⟩
      | true =>
        have hmk := make80
        have hXa := (heap_alloc_old w8 (.cells (madeCells #[.int .u8 0] 80) 5) hXl8).trans hX8
        have hZa := (heap_alloc_old w8 (.cells (madeCells #[.int .u8 0] 80) 5) (show w.heap.size < w8.heap.size by omega)).trans hZ8
        have hNa := new80 w8
        have hra := hr8.alloc (.cells (madeCells #[.int .u8 0] 80) 5)
        have hGa := grown_alloc hG8 (.cells (madeCells #[.int .u8 0] 80) 5)
        have hsa : (w8.alloc (.cells (madeCells #[.int .u8 0] 80) 5)).heap.size = w8.heap.size + 1 := by simp
        clear hX8 hZ8 hN8 hr8 hG8
        go_wp2_with (first | (refine wpList_store_at rfl 22 (.tmp 53) (.tmp 52) rfl (.slice (some ⟨w8.heap.size, 0, none⟩) 80 80) #[.int .i64 256, .int .i64 x23_1, .int .i64 x23_2, .int .i64 x23_3, .slice (some ⟨w8.heap.size, 0, none⟩) 80 80] hXa rfl rfl (by kernel_rfl) rfl rfl (by simp) rfl ?_; intro w7 hX hg7 hs7; have hZ := heap_far hZa hg7 (by omega); obtain ⟨kX, fX⟩ := blk hX) | (refine wpList_store_var rfl 24 (.tmp 4) (.tmp 54) rfl _ hZ rfl rfl (by kernel_rfl) rfl rfl ?_; intro w9 hh9 hg9 hs9; obtain ⟨k9, f9⟩ := blk hh9))
        have hr7 := hra.far hg7 hb5.1 (by omega)
        have hG7 := grown_far hGa hg7 (by omega)
        have hN7 := hNa.keep (hg7.block _ hNa.lt (by simp; omega))
        have hsG7 := hG7.size
        have hr9 := hr7.far hg9 (show w.heap.size ≠ g by omega) (by omega)
        have hG9 := grown_far hG7 hg9 (Nat.le_refl _)
        have hN9 := hN7.keep (hg9.block _ hN7.lt (by simp; omega))
        refine bodyPost_ret (v := .agg #[.int .i64 256, .int .i64 x23_1, .int .i64 x23_2, .int .i64 x23_3, .slice (some ⟨w8.heap.size, 0, none⟩) 80 80]) (by simp [results, Try.results21, go_sem, k9]) rfl ⟨_, _, _, _, _, _, _, _, _, rfl, by omega, by unfold maxLen; omega, by omega, hN9, by omega, hr9, hG9⟩
    · go_wp2_with fail
      refine (pick_any (hr4.alloc _) _ (by omega)).mono ?_
      rintro e w5 ⟨k5, rfl, hk, hr5, hg5, hs5⟩
      have hk7 := hk.1; have hk8 := hk.2.1 (by omega); clear hk
      have hX5 := heap_far ((heap_alloc_old w4 (.cells #[.int .i64 0, .int .i64 4] 3) hXl4).trans hX4) hg5 hb5.1
      have hZ5 := heap_far ((heap_alloc_old w4 (.cells #[.int .i64 0, .int .i64 4] 3) (show w.heap.size < w4.heap.size by omega)).trans hZ4) hg5 (by omega)
      have hN5 := (hN4.keep (w' := w4.alloc (.cells #[.int .i64 0, .int .i64 4] 3)) (heap_keep _ _ hN4.lt)).keep (hg5.block _ (Nat.lt_of_lt_of_le hN4.lt (by simp)) (by simpa using hb23.1))
      have hG5 := grown_trans (grown_alloc hG4 (.cells #[.int .i64 0, .int .i64 4] 3)) hg5
      have hAr := heap_far (heap_alloc_new w4 (.cells #[.int .i64 0, .int .i64 4] 3)) hg5 (show w4.heap.size ≠ g by omega)
      obtain ⟨kA, fA⟩ := blk hAr
      have hAl := heap_lt hAr
      have hXl5 := heap_lt hX5
      have hg5l := hr5.lt
      have hsz5 := hG5.size
      clear hX4 hZ4 hN4 hG4 hr4 hg5 hs5
      rcases (show k5 = 0 ∨ k5 = 1 by omega) with rfl | rfl
      · go_wp2_with (refine wpList_store_at rfl 3 (.tmp 41) (.tmp 40) rfl (.int .i64 0) #[.int .i64 x23_0, .int .i64 x23_1, .int .i64 0, .int .i64 x23_3, .slice (some ⟨a23, 0, none⟩) n23 k23] hX5 rfl rfl (by kernel_rfl) rfl rfl (by simp) rfl ?_; intro w7 hX hg7 hs7)
        have hZ := heap_far hZ5 hg7 (by omega)
        have hN := hN5.keep (hg7.block _ hN5.lt (by simpa using hne))
        have hr := hr5.far hg7 hb5.1 (by omega)
        have hG := grown_far hG5 hg7 (by omega)
        clear hX5 hZ5 hN5 hr5 hG5 hg7 hs7
        obtain ⟨kX, fX⟩ := blk hX
        have hXl := heap_lt hX
        have hgl := hr.lt
        have hsG := hG.size
        (try go_wp2_with fail)
        refine (odd_any hr _ (by omega) (by omega)).mono ?_
        rintro e w8 ⟨od2, q8, rfl, hq8, hr8, hg8, hs8, hy8⟩
        have hX8 := heap_far hX hg8 hb5.1
        have hZ8 := heap_far hZ hg8 (by omega)
        have hN8 := hN.keep (hg8.block _ hN.lt (by simp; omega))
        have hG8 := grown_trans hG hg8
        have hsG8 := hG8.size
        have hXl8 := heap_lt hX8
        have hgl8 := hr8.lt
        clear hX hZ hN hr hG hg8 hs8 hy8 kX fX
        cases od2 with
        | false =>
          have hX := hX8
          have hZ := hZ8
          have hN := hN8
          have hr := hr8
          have hG := hG8
          obtain ⟨kX, fX⟩ := blk hX
          go_wp2_with (refine wpList_store_var rfl 24 (.tmp 4) (.tmp 54) rfl _ hZ rfl rfl (by kernel_rfl) rfl rfl ?_; intro w9 hh9 hg9 hs9; obtain ⟨k9, f9⟩ := blk hh9)
          have hr9 := hr.far hg9 (show w.heap.size ≠ g by omega) (by omega)
          have hG9 := grown_far hG hg9 (Nat.le_refl _)
          have hN9 := hN.keep (hg9.block _ hN.lt (by simp; omega))
          refine bodyPost_ret (v := .agg #[.int .i64 x23_0, .int .i64 x23_1, .int .i64 0, .int .i64 x23_3, .slice (some ⟨a23, 0, none⟩) (n23) (k23)]) (by simp [results, Try.results21, go_sem, k9]) rfl ⟨_, _, _, _, _, _, _, _, _, rfl, by omega, by first | assumption | (unfold maxLen; omega), by omega, hN9, by omega, hr9, hG9⟩
        | true =>
          have hmk := make80
          have hXa := (heap_alloc_old w8 (.cells (madeCells #[.int .u8 0] 80) 5) hXl8).trans hX8
          have hZa := (heap_alloc_old w8 (.cells (madeCells #[.int .u8 0] 80) 5) (show w.heap.size < w8.heap.size by omega)).trans hZ8
          have hNa := new80 w8
          have hra := hr8.alloc (.cells (madeCells #[.int .u8 0] 80) 5)
          have hGa := grown_alloc hG8 (.cells (madeCells #[.int .u8 0] 80) 5)
          have hsa : (w8.alloc (.cells (madeCells #[.int .u8 0] 80) 5)).heap.size = w8.heap.size + 1 := by simp
          clear hX8 hZ8 hN8 hr8 hG8
          go_wp2_with (first | (refine wpList_store_at rfl 22 (.tmp 53) (.tmp 52) rfl (.slice (some ⟨w8.heap.size, 0, none⟩) 80 80) #[.int .i64 x23_0, .int .i64 x23_1, .int .i64 0, .int .i64 x23_3, .slice (some ⟨w8.heap.size, 0, none⟩) 80 80] hXa rfl rfl (by kernel_rfl) rfl rfl (by simp) rfl ?_; intro w7 hX hg7 hs7; have hZ := heap_far hZa hg7 (by omega); obtain ⟨kX, fX⟩ := blk hX) | (refine wpList_store_var rfl 24 (.tmp 4) (.tmp 54) rfl _ hZ rfl rfl (by kernel_rfl) rfl rfl ?_; intro w9 hh9 hg9 hs9; obtain ⟨k9, f9⟩ := blk hh9))
          have hr7 := hra.far hg7 hb5.1 (by omega)
          have hG7 := grown_far hGa hg7 (by omega)
          have hN7 := hNa.keep (hg7.block _ hNa.lt (by simp; omega))
          have hsG7 := hG7.size
          have hr9 := hr7.far hg9 (show w.heap.size ≠ g by omega) (by omega)
          have hG9 := grown_far hG7 hg9 (Nat.le_refl _)
          have hN9 := hN7.keep (hg9.block _ hN7.lt (by simp; omega))
          refine bodyPost_ret (v := .agg #[.int .i64 x23_0, .int .i64 x23_1, .int .i64 0, .int .i64 x23_3, .slice (some ⟨w8.heap.size, 0, none⟩) 80 80]) (by simp [results, Try.results21, go_sem, k9]) rfl ⟨_, _, _, _, _, _, _, _, _, rfl, by omega, by unfold maxLen; omega, by omega, hN9, by omega, hr9, hG9⟩
      · go_wp2_with (refine wpList_store_at rfl 3 (.tmp 41) (.tmp 40) rfl (.int .i64 4) #[.int .i64 x23_0, .int .i64 x23_1, .int .i64 4, .int .i64 x23_3, .slice (some ⟨a23, 0, none⟩) n23 k23] hX5 rfl rfl (by kernel_rfl) rfl rfl (by simp) rfl ?_; intro w7 hX hg7 hs7)
        have hZ := heap_far hZ5 hg7 (by omega)
        have hN := hN5.keep (hg7.block _ hN5.lt (by simpa using hne))
        have hr := hr5.far hg7 hb5.1 (by omega)
        have hG := grown_far hG5 hg7 (by omega)
        clear hX5 hZ5 hN5 hr5 hG5 hg7 hs7
        obtain ⟨kX, fX⟩ := blk hX
        have hXl := heap_lt hX
        have hgl := hr.lt
        have hsG := hG.size
        (try go_wp2_with fail)
        refine (odd_any hr _ (by omega) (by omega)).mono ?_
        rintro e w8 ⟨od2, q8, rfl, hq8, hr8, hg8, hs8, hy8⟩
        have hX8 := heap_far hX hg8 hb5.1
        have hZ8 := heap_far hZ hg8 (by omega)
        have hN8 := hN.keep (hg8.block _ hN.lt (by simp; omega))
        have hG8 := grown_trans hG hg8
        have hsG8 := hG8.size
        have hXl8 := heap_lt hX8
        have hgl8 := hr8.lt
        clear hX hZ hN hr hG hg8 hs8 hy8 kX fX
        cases od2 with
        | false =>
          have hX := hX8
          have hZ := hZ8
          have hN := hN8
          have hr := hr8
          have hG := hG8
          obtain ⟨kX, fX⟩ := blk hX
          go_wp2_with (refine wpList_store_var rfl 24 (.tmp 4) (.tmp 54) rfl _ hZ rfl rfl (by kernel_rfl) rfl rfl ?_; intro w9 hh9 hg9 hs9; obtain ⟨k9, f9⟩ := blk hh9)
          have hr9 := hr.far hg9 (show w.heap.size ≠ g by omega) (by omega)
          have hG9 := grown_far hG hg9 (Nat.le_refl _)
          have hN9 := hN.keep (hg9.block _ hN.lt (by simp; omega))
          refine bodyPost_ret (v := .agg #[.int .i64 x23_0, .int .i64 x23_1, .int .i64 4, .int .i64 x23_3, .slice (some ⟨a23, 0, none⟩) (n23) (k23)]) (by simp [results, Try.results21, go_sem, k9]) rfl ⟨_, _, _, _, _, _, _, _, _, rfl, by omega, by first | assumption | (unfold maxLen; omega), by omega, hN9, by omega, hr9, hG9⟩
        | true =>
          have hmk := make80
          have hXa := (heap_alloc_old w8 (.cells (madeCells #[.int .u8 0] 80) 5) hXl8).trans hX8
          have hZa := (heap_alloc_old w8 (.cells (madeCells #[.int .u8 0] 80) 5) (show w.heap.size < w8.heap.size by omega)).trans hZ8
          have hNa := new80 w8
          have hra := hr8.alloc (.cells (madeCells #[.int .u8 0] 80) 5)
          have hGa := grown_alloc hG8 (.cells (madeCells #[.int .u8 0] 80) 5)
          have hsa : (w8.alloc (.cells (madeCells #[.int .u8 0] 80) 5)).heap.size = w8.heap.size + 1 := by simp
          clear hX8 hZ8 hN8 hr8 hG8
          go_wp2_with (first | (refine wpList_store_at rfl 22 (.tmp 53) (.tmp 52) rfl (.slice (some ⟨w8.heap.size, 0, none⟩) 80 80) #[.int .i64 x23_0, .int .i64 x23_1, .int .i64 4, .int .i64 x23_3, .slice (some ⟨w8.heap.size, 0, none⟩) 80 80] hXa rfl rfl (by kernel_rfl) rfl rfl (by simp) rfl ?_; intro w7 hX hg7 hs7; have hZ := heap_far hZa hg7 (by omega); obtain ⟨kX, fX⟩ := blk hX) | (refine wpList_store_var rfl 24 (.tmp 4) (.tmp 54) rfl _ hZ rfl rfl (by kernel_rfl) rfl rfl ?_; intro w9 hh9 hg9 hs9; obtain ⟨k9, f9⟩ := blk hh9))
          have hr7 := hra.far hg7 hb5.1 (by omega)
          have hG7 := grown_far hGa hg7 (by omega)
          have hN7 := hNa.keep (hg7.block _ hNa.lt (by simp; omega))
          have hsG7 := hG7.size
          have hr9 := hr7.far hg9 (show w.heap.size ≠ g by omega) (by omega)
          have hG9 := grown_far hG7 hg9 (Nat.le_refl _)
          have hN9 := hN7.keep (hg9.block _ hN7.lt (by simp; omega))
          refine bodyPost_ret (v := .agg #[.int .i64 x23_0, .int .i64 x23_1, .int .i64 4, .int .i64 x23_3, .slice (some ⟨w8.heap.size, 0, none⟩) 80 80]) (by simp [results, Try.results21, go_sem, k9]) rfl ⟨_, _, _, _, _, _, _, _, _, rfl, by omega, by unfold maxLen; omega, by omega, hN9, by omega, hr9, hG9⟩
    · go_wp2_with fail
      refine (pick_any (hr4.alloc _) _ (by omega)).mono ?_
      rintro e w5 ⟨k5, rfl, hk, hr5, hg5, hs5⟩
      have hk7 := hk.1; have hk8 := hk.2.1 (by omega); clear hk
      have hX5 := heap_far ((heap_alloc_old w4 (.cells #[.int .i64 (-1), .int .i64 65] 3) hXl4).trans hX4) hg5 hb5.1
      have hZ5 := heap_far ((heap_alloc_old w4 (.cells #[.int .i64 (-1), .int .i64 65] 3) (show w.heap.size < w4.heap.size by omega)).trans hZ4) hg5 (by omega)
      have hN5 := (hN4.keep (w' := w4.alloc (.cells #[.int .i64 (-1), .int .i64 65] 3)) (heap_keep _ _ hN4.lt)).keep (hg5.block _ (Nat.lt_of_lt_of_le hN4.lt (by simp)) (by simpa using hb23.1))
      have hG5 := grown_trans (grown_alloc hG4 (.cells #[.int .i64 (-1), .int .i64 65] 3)) hg5
      have hAr := heap_far (heap_alloc_new w4 (.cells #[.int .i64 (-1), .int .i64 65] 3)) hg5 (show w4.heap.size ≠ g by omega)
      obtain ⟨kA, fA⟩ := blk hAr
      have hAl := heap_lt hAr
      have hXl5 := heap_lt hX5
      have hg5l := hr5.lt
      have hsz5 := hG5.size
      clear hX4 hZ4 hN4 hG4 hr4 hg5 hs5
      rcases (show k5 = 0 ∨ k5 = 1 by omega) with rfl | rfl
      · go_wp2_with (refine wpList_store_at rfl 3 (.tmp 49) (.tmp 48) rfl (.int .i64 (-1)) #[.int .i64 x23_0, .int .i64 x23_1, .int .i64 x23_2, .int .i64 (-1), .slice (some ⟨a23, 0, none⟩) n23 k23] hX5 rfl rfl (by kernel_rfl) rfl rfl (by simp) rfl ?_; intro w7 hX hg7 hs7)
        have hZ := heap_far hZ5 hg7 (by omega)
        have hN := hN5.keep (hg7.block _ hN5.lt (by simpa using hne))
        have hr := hr5.far hg7 hb5.1 (by omega)
        have hG := grown_far hG5 hg7 (by omega)
        clear hX5 hZ5 hN5 hr5 hG5 hg7 hs7
        obtain ⟨kX, fX⟩ := blk hX
        have hXl := heap_lt hX
        have hgl := hr.lt
        have hsG := hG.size
        (try go_wp2_with fail)
        refine (odd_any hr _ (by omega) (by omega)).mono ?_
        rintro e w8 ⟨od2, q8, rfl, hq8, hr8, hg8, hs8, hy8⟩
        have hX8 := heap_far hX hg8 hb5.1
        have hZ8 := heap_far hZ hg8 (by omega)
        have hN8 := hN.keep (hg8.block _ hN.lt (by simp; omega))
        have hG8 := grown_trans hG hg8
        have hsG8 := hG8.size
        have hXl8 := heap_lt hX8
        have hgl8 := hr8.lt
        clear hX hZ hN hr hG hg8 hs8 hy8 kX fX
        cases od2 with
        | false =>
          have hX := hX8
          have hZ := hZ8
          have hN := hN8
          have hr := hr8
          have hG := hG8
          obtain ⟨kX, fX⟩ := blk hX
          go_wp2_with (refine wpList_store_var rfl 24 (.tmp 4) (.tmp 54) rfl _ hZ rfl rfl (by kernel_rfl) rfl rfl ?_; intro w9 hh9 hg9 hs9; obtain ⟨k9, f9⟩ := blk hh9)
          have hr9 := hr.far hg9 (show w.heap.size ≠ g by omega) (by omega)
          have hG9 := grown_far hG hg9 (Nat.le_refl _)
          have hN9 := hN.keep (hg9.block _ hN.lt (by simp; omega))
          refine bodyPost_ret (v := .agg #[.int .i64 x23_0, .int .i64 x23_1, .int .i64 x23_2, .int .i64 (-1), .slice (some ⟨a23, 0, none⟩) (n23) (k23)]) (by simp [results, Try.results21, go_sem, k9]) rfl ⟨_, _, _, _, _, _, _, _, _, rfl, by omega, by first | assumption | (unfold maxLen; omega), by omega, hN9, by omega, hr9, hG9⟩
        | true =>
          have hmk := make80
          have hXa := (heap_alloc_old w8 (.cells (madeCells #[.int .u8 0] 80) 5) hXl8).trans hX8
          have hZa := (heap_alloc_old w8 (.cells (madeCells #[.int .u8 0] 80) 5) (show w.heap.size < w8.heap.size by omega)).trans hZ8
          have hNa := new80 w8
          have hra := hr8.alloc (.cells (madeCells #[.int .u8 0] 80) 5)
          have hGa := grown_alloc hG8 (.cells (madeCells #[.int .u8 0] 80) 5)
          have hsa : (w8.alloc (.cells (madeCells #[.int .u8 0] 80) 5)).heap.size = w8.heap.size + 1 := by simp
          clear hX8 hZ8 hN8 hr8 hG8
          go_wp2_with (first | (refine wpList_store_at rfl 22 (.tmp 53) (.tmp 52) rfl (.slice (some ⟨w8.heap.size, 0, none⟩) 80 80) #[.int .i64 x23_0, .int .i64 x23_1, .int .i64 x23_2, .int .i64 (-1), .slice (some ⟨w8.heap.size, 0, none⟩) 80 80] hXa rfl rfl (by kernel_rfl) rfl rfl (by simp) rfl ?_; intro w7 hX hg7 hs7; have hZ := heap_far hZa hg7 (by omega); obtain ⟨kX, fX⟩ := blk hX) | (refine wpList_store_var rfl 24 (.tmp 4) (.tmp 54) rfl _ hZ rfl rfl (by kernel_rfl) rfl rfl ?_; intro w9 hh9 hg9 hs9; obtain ⟨k9, f9⟩ := blk hh9))
          have hr7 := hra.far hg7 hb5.1 (by omega)
          have hG7 := grown_far hGa hg7 (by omega)
          have hN7 := hNa.keep (hg7.block _ hNa.lt (by simp; omega))
          have hsG7 := hG7.size
          have hr9 := hr7.far hg9 (show w.heap.size ≠ g by omega) (by omega)
          have hG9 := grown_far hG7 hg9 (Nat.le_refl _)
          have hN9 := hN7.keep (hg9.block _ hN7.lt (by simp; omega))
          refine bodyPost_ret (v := .agg #[.int .i64 x23_0, .int .i64 x23_1, .int .i64 x23_2, .int .i64 (-1), .slice (some ⟨w8.heap.size, 0, none⟩) 80 80]) (by simp [results, Try.results21, go_sem, k9]) rfl ⟨_, _, _, _, _, _, _, _, _, rfl, by omega, by unfold maxLen; omega, by omega, hN9, by omega, hr9, hG9⟩
      · go_wp2_with (refine wpList_store_at rfl 3 (.tmp 49) (.tmp 48) rfl (.int .i64 65) #[.int .i64 x23_0, .int .i64 x23_1, .int .i64 x23_2, .int .i64 65, .slice (some ⟨a23, 0, none⟩) n23 k23] hX5 rfl rfl (by kernel_rfl) rfl rfl (by simp) rfl ?_; intro w7 hX hg7 hs7)
        have hZ := heap_far hZ5 hg7 (by omega)
        have hN := hN5.keep (hg7.block _ hN5.lt (by simpa using hne))
        have hr := hr5.far hg7 hb5.1 (by omega)
        have hG := grown_far hG5 hg7 (by omega)
        clear hX5 hZ5 hN5 hr5 hG5 hg7 hs7
        obtain ⟨kX, fX⟩ := blk hX
        have hXl := heap_lt hX
        have hgl := hr.lt
        have hsG := hG.size
        (try go_wp2_with fail)
        refine (odd_any hr _ (by omega) (by omega)).mono ?_
        rintro e w8 ⟨od2, q8, rfl, hq8, hr8, hg8, hs8, hy8⟩
        have hX8 := heap_far hX hg8 hb5.1
        have hZ8 := heap_far hZ hg8 (by omega)
        have hN8 := hN.keep (hg8.block _ hN.lt (by simp; omega))
        have hG8 := grown_trans hG hg8
        have hsG8 := hG8.size
        have hXl8 := heap_lt hX8
        have hgl8 := hr8.lt
        clear hX hZ hN hr hG hg8 hs8 hy8 kX fX
        cases od2 with
        | false =>
          have hX := hX8
          have hZ := hZ8
          have hN := hN8
          have hr := hr8
          have hG := hG8
          obtain ⟨kX, fX⟩ := blk hX
          go_wp2_with (refine wpList_store_var rfl 24 (.tmp 4) (.tmp 54) rfl _ hZ rfl rfl (by kernel_rfl) rfl rfl ?_; intro w9 hh9 hg9 hs9; obtain ⟨k9, f9⟩ := blk hh9)
          have hr9 := hr.far hg9 (show w.heap.size ≠ g by omega) (by omega)
          have hG9 := grown_far hG hg9 (Nat.le_refl _)
          have hN9 := hN.keep (hg9.block _ hN.lt (by simp; omega))
          refine bodyPost_ret (v := .agg #[.int .i64 x23_0, .int .i64 x23_1, .int .i64 x23_2, .int .i64 65, .slice (some ⟨a23, 0, none⟩) (n23) (k23)]) (by simp [results, Try.results21, go_sem, k9]) rfl ⟨_, _, _, _, _, _, _, _, _, rfl, by omega, by first | assumption | (unfold maxLen; omega), by omega, hN9, by omega, hr9, hG9⟩
        | true =>
          have hmk := make80
          have hXa := (heap_alloc_old w8 (.cells (madeCells #[.int .u8 0] 80) 5) hXl8).trans hX8
          have hZa := (heap_alloc_old w8 (.cells (madeCells #[.int .u8 0] 80) 5) (show w.heap.size < w8.heap.size by omega)).trans hZ8
          have hNa := new80 w8
          have hra := hr8.alloc (.cells (madeCells #[.int .u8 0] 80) 5)
          have hGa := grown_alloc hG8 (.cells (madeCells #[.int .u8 0] 80) 5)
          have hsa : (w8.alloc (.cells (madeCells #[.int .u8 0] 80) 5)).heap.size = w8.heap.size + 1 := by simp
          clear hX8 hZ8 hN8 hr8 hG8
          go_wp2_with (first | (refine wpList_store_at rfl 22 (.tmp 53) (.tmp 52) rfl (.slice (some ⟨w8.heap.size, 0, none⟩) 80 80) #[.int .i64 x23_0, .int .i64 x23_1, .int .i64 x23_2, .int .i64 65, .slice (some ⟨w8.heap.size, 0, none⟩) 80 80] hXa rfl rfl (by kernel_rfl) rfl rfl (by simp) rfl ?_; intro w7 hX hg7 hs7; have hZ := heap_far hZa hg7 (by omega); obtain ⟨kX, fX⟩ := blk hX) | (refine wpList_store_var rfl 24 (.tmp 4) (.tmp 54) rfl _ hZ rfl rfl (by kernel_rfl) rfl rfl ?_; intro w9 hh9 hg9 hs9; obtain ⟨k9, f9⟩ := blk hh9))
          have hr7 := hra.far hg7 hb5.1 (by omega)
          have hG7 := grown_far hGa hg7 (by omega)
          have hN7 := hNa.keep (hg7.block _ hNa.lt (by simp; omega))
          have hsG7 := hG7.size
          have hr9 := hr7.far hg9 (show w.heap.size ≠ g by omega) (by omega)
          have hG9 := grown_far hG7 hg9 (Nat.le_refl _)
          have hN9 := hN7.keep (hg9.block _ hN7.lt (by simp; omega))
          refine bodyPost_ret (v := .agg #[.int .i64 x23_0, .int .i64 x23_1, .int .i64 x23_2, .int .i64 65, .slice (some ⟨w8.heap.size, 0, none⟩) 80 80]) (by simp [results, Try.results21, go_sem, k9]) rfl ⟨_, _, _, _, _, _, _, _, _, rfl, by omega, by unfold maxLen; omega, by omega, hN9, by omega, hr9, hG9⟩
    · have hmk := make81
      have hXa := (heap_alloc_old w4 (.cells (madeCells #[.int .u8 0] 81) 5) hXl4).trans hX4
      have hZa := (heap_alloc_old w4 (.cells (madeCells #[.int .u8 0] 81) 5) (show w.heap.size < w4.heap.size by omega)).trans hZ4
      have hNa := new81 w4
      have hra := hr4.alloc (.cells (madeCells #[.int .u8 0] 81) 5)
      have hGa := grown_alloc hG4 (.cells (madeCells #[.int .u8 0] 81) 5)
      have hnea : w4.heap.size ≠ a5 := by omega
      clear hX4 hZ4 hN4 hr4 hG4
      go_wp2_with (refine wpList_store_at rfl 22 (.tmp 30) (.tmp 29) rfl (.slice (some ⟨w4.heap.size, 0, none⟩) 81 81) #[.int .i64 x23_0, .int .i64 x23_1, .int .i64 x23_2, .int .i64 x23_3, .slice (some ⟨w4.heap.size, 0, none⟩) 81 81] hXa rfl rfl (by kernel_rfl) rfl rfl (by simp) rfl ?_; intro w7 hX hg7 hs7)
      have hZ := heap_far hZa hg7 (by omega)
      have hN := hNa.keep (hg7.block _ hNa.lt (by simpa using hnea))
      have hr := hra.far hg7 hb5.1 (by omega)
      have hG := grown_far hGa hg7 (by omega)
      clear hXa hZa hNa hra hGa hg7 hs7 hmk
      have hcc : 81 ≤ maxLen := by unfold maxLen; omega
      obtain ⟨kX, fX⟩ := blk hX
      have hXl := heap_lt hX
      have hgl := hr.lt
      have hsG := hG.size
      (try go_wp2_with fail)
      refine (odd_any hr _ (by omega) (by omega)).mono ?_
      rintro e w8 ⟨od2, q8, rfl, hq8, hr8, hg8, hs8, hy8⟩
      have hX8 := heap_far hX hg8 hb5.1
      have hZ8 := heap_far hZ hg8 (by omega)
      have hN8 := hN.keep (hg8.block _ hN.lt (by simp; omega))
      have hG8 := grown_trans hG hg8
      have hsG8 := hG8.size
      have hXl8 := heap_lt hX8
      have hgl8 := hr8.lt
      clear hX hZ hN hr hG hg8 hs8 hy8 kX fX
      cases od2 with
      | false =>
        have hX := hX8
        have hZ := hZ8
        have hN := hN8
        have hr := hr8
        have hG := hG8
        obtain ⟨kX, fX⟩ := blk hX
        go_wp2_with (refine wpList_store_var rfl 24 (.tmp 4) (.tmp 54) rfl _ hZ rfl rfl (by kernel_rfl) rfl rfl ?_; intro w9 hh9 hg9 hs9; obtain ⟨k9, f9⟩ := blk hh9)
        have hr9 := hr.far hg9 (show w.heap.size ≠ g by omega) (by omega)
        have hG9 := grown_far hG hg9 (Nat.le_refl _)
        have hN9 := hN.keep (hg9.block _ hN.lt (by simp; omega))
        refine bodyPost_ret (v := .agg #[.int .i64 x23_0, .int .i64 x23_1, .int .i64 x23_2, .int .i64 x23_3, .slice (some ⟨w4.heap.size, 0, none⟩) (81) (81)]) (by simp [results, Try.results21, go_sem, k9]) rfl ⟨_, _, _, _, _, _, _, _, _, rfl, by omega, by first | assumption | (unfold maxLen; omega), by omega, hN9, by omega, hr9, hG9⟩
      | true =>
        have hmk := make80
        have hXa := (heap_alloc_old w8 (.cells (madeCells #[.int .u8 0] 80) 5) hXl8).trans hX8
        have hZa := (heap_alloc_old w8 (.cells (madeCells #[.int .u8 0] 80) 5) (show w.heap.size < w8.heap.size by omega)).trans hZ8
        have hNa := new80 w8
        have hra := hr8.alloc (.cells (madeCells #[.int .u8 0] 80) 5)
        have hGa := grown_alloc hG8 (.cells (madeCells #[.int .u8 0] 80) 5)
        have hsa : (w8.alloc (.cells (madeCells #[.int .u8 0] 80) 5)).heap.size = w8.heap.size + 1 := by simp
        clear hX8 hZ8 hN8 hr8 hG8
        go_wp2_with (first | (refine wpList_store_at rfl 22 (.tmp 53) (.tmp 52) rfl (.slice (some ⟨w8.heap.size, 0, none⟩) 80 80) #[.int .i64 x23_0, .int .i64 x23_1, .int .i64 x23_2, .int .i64 x23_3, .slice (some ⟨w8.heap.size, 0, none⟩) 80 80] hXa rfl rfl (by kernel_rfl) rfl rfl (by simp) rfl ?_; intro w7 hX hg7 hs7; have hZ := heap_far hZa hg7 (by omega); obtain ⟨kX, fX⟩ := blk hX) | (refine wpList_store_var rfl 24 (.tmp 4) (.tmp 54) rfl _ hZ rfl rfl (by kernel_rfl) rfl rfl ?_; intro w9 hh9 hg9 hs9; obtain ⟨k9, f9⟩ := blk hh9))
        have hr7 := hra.far hg7 hb5.1 (by omega)
        have hG7 := grown_far hGa hg7 (by omega)
        have hN7 := hNa.keep (hg7.block _ hNa.lt (by simp; omega))
        have hsG7 := hG7.size
        have hr9 := hr7.far hg9 (show w.heap.size ≠ g by omega) (by omega)
        have hG9 := grown_far hG7 hg9 (Nat.le_refl _)
        have hN9 := hN7.keep (hg9.block _ hN7.lt (by simp; omega))
        refine bodyPost_ret (v := .agg #[.int .i64 x23_0, .int .i64 x23_1, .int .i64 x23_2, .int .i64 x23_3, .slice (some ⟨w8.heap.size, 0, none⟩) 80 80]) (by simp [results, Try.results21, go_sem, k9]) rfl ⟨_, _, _, _, _, _, _, _, _, rfl, by omega, by unfold maxLen; omega, by omega, hN9, by omega, hr9, hG9⟩
end Go.Proofs.Ytlnjpjeccpnddaa
