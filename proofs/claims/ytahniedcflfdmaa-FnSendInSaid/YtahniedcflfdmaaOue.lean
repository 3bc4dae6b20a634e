/-
  The drawn outlet: what l20Outlet hands over.
-/
import Derived.Test.YtahniedcflfdmaaOud
import Derived.Deep.CutRange
namespace Go.Proofs.Ytahniedcflfdmaa
open Go Go.RowKit

theorem info_flowL : (Try.prog.info? 39).map (fun i => (i.zero, i.size, i.bytes)) = some (some (.agg #[.int .i64 0, .int .i64 0, .int .i64 0, .int .i64 0, .int .i64 0]), [true, true, true, true, true].length, 40) := by kernel_rfl
theorem plain5 {a b c d e : Int} (h : (-100000 ≤ a ∧ a ≤ 100000) ∧ (-100000 ≤ b ∧ b ≤ 100000) ∧ (-100000 ≤ c ∧ c ≤ 100000) ∧ (-100000 ≤ d ∧ d ≤ 100000) ∧ (-100000 ≤ e ∧ e ≤ 100000)) : Plain [true, true, true, true, true] (#[Value.int .i64 a, .int .i64 b, .int .i64 c, .int .i64 d, .int .i64 e]).toList :=
  plain_cons_int (by omega) (plain_cons_int (by omega) (plain_cons_int (by omega) (plain_cons_int (by omega) (plain_cons_int (by omega) plain_nil))))
theorem noB_iff {a b c d e : Nat → Int} {k : Nat} : noB a b c d e k = true ↔ a k = 0 ∧ b k = 0 ∧ c k = 0 ∧ d k = 0 ∧ e k = 0 := by simp [noB, and_assoc]
theorem flowB_bd {a b c d e : Int} (h : flowB a b c d e = true) : (0 ≤ a ∧ a ≤ 255) ∧ (0 ≤ b ∧ b ≤ 999) ∧ (0 ≤ c ∧ c ≤ 255) ∧ (0 ≤ d ∧ d ≤ 999) ∧ (1 ≤ e ∧ e ≤ 2) := by
  simp only [flowB, Bool.and_eq_true] at h
  exact ⟨inB_true.1 h.1.1.1.1, inB_true.1 h.1.1.2, inB_true.1 h.1.1.1.2, inB_true.1 h.1.2, inB_true.1 h.2⟩
theorem good_pacc {w : World} {W0 : Nat} {x0 x1 : Int} {n : Nat} {A : Option Addr} {c : Nat} (h : GoodO w W0 x0 x1 n A c) : PAcc w W0 39 [true, true, true, true, true] (.slice A n c) n := by
  obtain ⟨f0, f1, f2, f3, f4, h1, h2⟩ := h
  refine ⟨fun i => if i < n then flowR f0 f1 f2 f3 f4 i else zeros [true, true, true, true, true], fun i => ?_, h1.congr (fun i hi => by simp [hi]) fun i => ?_⟩
  · show Plain [true, true, true, true, true] (if i < n then flowR f0 f1 f2 f3 f4 i else zeros [true, true, true, true, true])
    split
    · rename_i hi
      have h3 := outB_sloB h2 hi
      rw [sloB_iff] at h3
      rcases h3 with h3 | ⟨h3, _⟩
      · obtain ⟨e0, e1, e2, e3, e4⟩ := noB_iff.1 h3
        exact plain5 (a := f0 i) (b := f1 i) (c := f2 i) (d := f3 i) (e := f4 i) (by omega)
      · have := flowB_bd h3
        exact plain5 (a := f0 i) (b := f1 i) (c := f2 i) (d := f3 i) (e := f4 i) (by omega)
    · exact plain_zeros _
  · show (if i < n then flowR f0 f1 f2 f3 f4 i else zeros [true, true, true, true, true]).length = 5
    split <;> rfl
/-- What the drawing of an outlet leaves. -/
def DrawnO (w : World) (B g : Nat) (A : Option Addr) (m c p K : Nat) (e : Ending) (w' : World) : Prop :=
  ∃ x0 x1 : Int, ∃ A1 n1 c1 q, e = .returned (.agg #[.int .i64 x0, .int .i64 x1, .slice A1 n1 c1]) ∧ 1 ≤ n1 ∧ n1 ≤ 9 ∧ PAcc w' w.heap.size 39 [true, true, true, true, true] (.slice A1 n1 c1) n1 ∧ q ≤ p + K ∧ Rd w' B g A m c q ∧ w.grownBy w' (some g)
/-- CloseOut of the reference at a valid outlet. -/
theorem closeO_b {w : World} {W0 : Nat} {x0 x1 : Int} {A1 : Option Addr} {n1 c1 : Nat} (hA : GoodO w W0 x0 x1 n1 A1 c1) (y0 y1 y2 y3 y4 : Int) :
    Calls Try.prog 22 #[.agg #[.int .i64 x0, .int .i64 x1, .slice A1 n1 c1], .agg #[.int .i64 y0, .int .i64 y1, .int .i64 y2, .int .i64 y3, .int .i64 y4]] w fun e w' => ∃ A2 c2, e = .returned (.agg #[.int .i64 x0, .int .i64 x1, .slice A2 n1 c2]) ∧ GoodO w' w.heap.size x0 x1 n1 A2 c2 ∧ Below w.heap.size w w' := by
  obtain ⟨f0, f1, f2, f3, f4, h1, h2⟩ := hA
  obtain ⟨A', c', e, hO⟩ := h1.own
  cases e
  have hn8 := outB_first h2
  refine (specCloseOut_any x0 x1 y0 y1 y2 y3 y4 hO.rows (Nat.le_refl _) (by omega)).mono ?_
  rintro e w' ⟨A2, c2, rfl, hA2, hb⟩
  rw [h2] at hA2 ⊢
  refine ⟨A2, c2, rfl, ?_, hb⟩
  rcases plF_cases (a := f0) (b := f1) (c := f2) (d := f3) (e := f4) (y0 := y0) (y1 := y1) (y2 := y2) (y3 := y3) (y4 := y4) n1 with ⟨hp, _⟩ | ⟨k, _, hp, _⟩
  · rw [hp] at hA2
    simp only [setC_no] at hA2
    exact ⟨_, _, _, _, _, hA2, h2⟩
  · rw [hp] at hA2
    exact ⟨_, _, _, _, _, hA2, outB_zero h2⟩
def kbGood (W0 : Nat) (x0 x1 : Int) (n : Nat) : KB :=
  ⟨fun v w => ∃ A c, v = .agg #[.int .i64 x0, .int .i64 x1, .slice A n c] ∧ GoodO w W0 x0 x1 n A c, fun _ _ _ ⟨A, c, h1, h2⟩ hb => ⟨A, c, h1, h2.kept (row := none) ⟨hb.os, hb.tape, hb.output, hb.size, fun k hk _ => hb.block k hk⟩ (fun k e => by cases e)⟩⟩
theorem GoodO.base {w : World} {W0 W1 : Nat} {x0 x1 : Int} {n : Nat} {A : Option Addr} {c : Nat} (h : GoodO w W0 x0 x1 n A c) (hW : W1 ≤ W0) : GoodO w W1 x0 x1 n A c := by
  obtain ⟨f0, f1, f2, f3, f4, h1, h2⟩ := h
  exact ⟨f0, f1, f2, f3, f4, h1.base hW, h2⟩
theorem GoodO.below {w w' : World} {W0 : Nat} {x0 x1 : Int} {n : Nat} {A : Option Addr} {c : Nat} (h : GoodO w W0 x0 x1 n A c) (hb : Below w.heap.size w w') : GoodO w' W0 x0 x1 n A c :=
  h.kept (row := none) ⟨hb.os, hb.tape, hb.output, hb.size, fun k hk _ => hb.block k hk⟩ (fun k e => by cases e)

set_option maxRecDepth 20000 in
set_option maxHeartbeats 16000000 in
theorem l20Outlet_any {w : World} {B g : Nat} {A : Option Addr} {m c p : Nat} (h : Rd w B g A m c p) (n : Int) (hn : -1000000 ≤ n) (hp2 : p ≤ 500000000) :
    Calls Try.prog 32 #[(.pointer (some ⟨g, 0, none⟩)), .int .i64 n] w (DrawnO w B g A m c p 8000) := by
  have hlt := h.lt
  have hBg := h.2.1
  have hgW : g < w.heap.size + 1 := by omega
  go_enter Try.func32, Try.ntmps32
  have hr0 := h.alloc (.cells #[.int .i64 0, .int .i64 0, .slice none 0 0] 29)
  have hZ0 := heap_alloc_new w (.cells #[.int .i64 0, .int .i64 0, .slice none 0 0] 29)
  have hG0 := grown_alloc (grown_refl w (some g)) (.cells #[.int .i64 0, .int .i64 0, .slice none 0 0] 29)
  go_upto_region 1 with (fail)
  refine wp_region_draws (ds := [(0, 10), (1, 11), (2, 12), (3, 13), (4, 14), (5, 15), (6, 16), (7, 17), (8, 18), (9, 19), (10, 20), (11, 21), (12, 22), (13, 23), (14, 5)]) (B := B) (g := g) (z := g) (O := fun _ => False) (A := A) (m := m) (c := c) (p := _) 15 1 [kIs g g (fun _ => False) (.pointer (some ⟨g, 0, none⟩)), kInt g g (fun _ => False) 0 255, kIs g g (fun _ => False) (.pointer (some ⟨g, 0, none⟩)), kInt g g (fun _ => False) 0 255, kArr g g (fun _ => False) 3 3 (fun cs => ∃ y0 : Int, 0 ≤ y0 ∧ y0 ≤ 255 ∧ cs = #[.int .i64 500, .int .i64 y0, .int .i64 992]), kIs g g (fun _ => False) (.pointer (some ⟨g, 0, none⟩)), kInt g g (fun _ => False) 0 2, kCell g g (fun _ => False) (fun v => ∃ y0 : Int, 0 ≤ y0 ∧ y0 ≤ 992 ∧ v = .int .i64 y0), kInt g g (fun _ => False) 0 992, kIs g g (fun _ => False) (.pointer (some ⟨g, 0, none⟩)), kInt g g (fun _ => False) 0 4, kInt g g (fun _ => False) 1 5, kMk g g (fun _ => False) (w.heap.size + 1) 39 5 [.int .i64 0, .int .i64 0, .int .i64 0, .int .i64 0, .int .i64 0] 1 5, kAgG g g (fun _ => False) (kMk g g (fun _ => False) (w.heap.size + 1) 39 5 [.int .i64 0, .int .i64 0, .int .i64 0, .int .i64 0, .int .i64 0] 1 5) (fun s v => ∃ y0 : Int, ∃ y1 : Int, 0 ≤ y0 ∧ y0 ≤ 255 ∧ 0 ≤ y1 ∧ y1 ≤ 992 ∧ v = .agg #[.int .i64 y0, .int .i64 y1, s]), kNew g g (fun _ => False) (w.heap.size + 1) 29 #[.int .i64 0, .int .i64 0, .slice none 0 0]] (by kernel_rfl) (by kernel_rfl) (by first | exact .inl rfl | exact .inr (by kernel_rfl)) hr0 (Rd.lt hr0) (by rfl) ?_ rfl rfl ?_
  · refine each_cons ?_ ( each_cons ?_ ( each_cons ?_ ( each_cons ?_ ( each_cons ?_ ( each_cons ?_ ( each_cons ?_ ( each_cons ?_ ( each_cons ?_ ( each_cons ?_ ( each_cons ?_ ( each_cons ?_ ( each_cons ?_ ( each_cons ?_ ( each_cons ?_ ( each_nil)))))))))))))))
    · intro q a' w' hq hRd hLe hzl hfr hdep
      have e0 : a'.tmps.getD 0 undef = .pointer (some ⟨g, 0, none⟩) := hfr 0 rfl
      have f0 := e0; simp only [Array.getD_eq_getD_getElem?] at f0
      refine wpOp_plain rfl rfl (fun K hK => ?_)
      go_simp
      exact hK _ _ ⟨_, q, rfl, by omega, hRd, Turns.refl _, rfl, nofun⟩
    · intro q a' w' hq hRd hLe hzl hfr hdep
      have e10 : a'.tmps.getD 10 undef = .pointer (some ⟨g, 0, none⟩) := hdep 0 _ 10 rfl rfl rfl
      have f10 := e10; simp only [Array.getD_eq_getD_getElem?] at f10
      refine wpOp_plain rfl rfl (fun K hK => ?_)
      go_simp
      refine (pick_any hRd _ (by omega)).mono ?_
      rintro e w2 ⟨k, rfl, hk, hr, hg, hs⟩
      have hk1 := hk.1; have hk2 := hk.2.1; have hk3 := hk.2.2
      exact hK _ _ ⟨_, _, rfl, by omega, hr, Turns.of_grown hg, ⟨k, rfl, by omega, by omega⟩, nofun⟩
    · intro q a' w' hq hRd hLe hzl hfr hdep
      have e0 : a'.tmps.getD 0 undef = .pointer (some ⟨g, 0, none⟩) := hfr 0 rfl
      have f0 := e0; simp only [Array.getD_eq_getD_getElem?] at f0
      refine wpOp_plain rfl rfl (fun K hK => ?_)
      go_simp
      exact hK _ _ ⟨_, q, rfl, by omega, hRd, Turns.refl _, rfl, nofun⟩
    · intro q a' w' hq hRd hLe hzl hfr hdep
      have e12 : a'.tmps.getD 12 undef = .pointer (some ⟨g, 0, none⟩) := hdep 2 _ 12 rfl rfl rfl
      have f12 := e12; simp only [Array.getD_eq_getD_getElem?] at f12
      refine wpOp_plain rfl rfl (fun K hK => ?_)
      go_simp
      refine (pick_any hRd _ (by omega)).mono ?_
      rintro e w2 ⟨k, rfl, hk, hr, hg, hs⟩
      have hk1 := hk.1; have hk2 := hk.2.1; have hk3 := hk.2.2
      exact hK _ _ ⟨_, _, rfl, by omega, hr, Turns.of_grown hg, ⟨k, rfl, by omega, by omega⟩, nofun⟩
    · intro q a' w' hq hRd hLe hzl hfr hdep
      obtain ⟨x13, e13, b13, c13⟩ : (kInt g g (fun _ => False) 0 255).p (a'.tmps.getD 13 undef) w' := hdep 3 _ 13 rfl rfl rfl
      have f13 := e13; simp only [Array.getD_eq_getD_getElem?] at f13
      refine wpOp_plain rfl rfl (fun K hK => ?_)
      go_simp
      exact hK _ _ ⟨_, q, rfl, by omega, hRd.alloc _, Turns.alloc _ _, ⟨_, _, rfl, by have := hRd.lt; omega, heap_alloc_new _ _, x13, by omega, by omega, rfl⟩, nofun⟩
    · intro q a' w' hq hRd hLe hzl hfr hdep
      have e0 : a'.tmps.getD 0 undef = .pointer (some ⟨g, 0, none⟩) := hfr 0 rfl
      have f0 := e0; simp only [Array.getD_eq_getD_getElem?] at f0
      refine wpOp_plain rfl rfl (fun K hK => ?_)
      go_simp
      exact hK _ _ ⟨_, q, rfl, by omega, hRd, Turns.refl _, rfl, nofun⟩
    · intro q a' w' hq hRd hLe hzl hfr hdep
      have e15 : a'.tmps.getD 15 undef = .pointer (some ⟨g, 0, none⟩) := hdep 5 _ 15 rfl rfl rfl
      have f15 := e15; simp only [Array.getD_eq_getD_getElem?] at f15
      refine wpOp_plain rfl rfl (fun K hK => ?_)
      go_simp
      refine (pick_any hRd _ (by omega)).mono ?_
      rintro e w2 ⟨k, rfl, hk, hr, hg, hs⟩
      have hk1 := hk.1; have hk2 := hk.2.1; have hk3 := hk.2.2
      exact hK _ _ ⟨_, _, rfl, by omega, hr, Turns.of_grown hg, ⟨k, rfl, by omega, by omega⟩, nofun⟩
    · intro q a' w' hq hRd hLe hzl hfr hdep
      obtain ⟨a14, cs14, e14, hb14, hh14, y14_1, by14_1, cy14_1, rfl⟩ : (kArr g g (fun _ => False) 3 3 (fun cs => ∃ y0 : Int, 0 ≤ y0 ∧ y0 ≤ 255 ∧ cs = #[.int .i64 500, .int .i64 y0, .int .i64 992])).p (a'.tmps.getD 14 undef) w' := hdep 4 _ 14 rfl rfl rfl
      have f14 := e14; simp only [Array.getD_eq_getD_getElem?] at f14
      obtain ⟨x16, e16, b16, c16⟩ : (kInt g g (fun _ => False) 0 2).p (a'.tmps.getD 16 undef) w' := hdep 6 _ 16 rfl rfl rfl
      have f16 := e16; simp only [Array.getD_eq_getD_getElem?] at f16
      rcases (show x16 = 0 ∨ x16 = 1 ∨ x16 = 2 by omega) with rfl | rfl | rfl
      · refine wpOp_plain rfl rfl (fun K hK => ?_)
        go_simp
        exact hK _ _ ⟨_, q, rfl, by omega, hRd, Turns.refl _, ⟨_, _, _, rfl, hb14, (cell_of_row _ _ 0 _ _ _ hh14).trans rfl, 500, by omega, by omega, rfl⟩, nofun⟩
      · refine wpOp_plain rfl rfl (fun K hK => ?_)
        go_simp
        exact hK _ _ ⟨_, q, rfl, by omega, hRd, Turns.refl _, ⟨_, _, _, rfl, hb14, (cell_of_row _ _ 1 _ _ _ hh14).trans rfl, y14_1, by omega, by omega, rfl⟩, nofun⟩
      · refine wpOp_plain rfl rfl (fun K hK => ?_)
        go_simp
        exact hK _ _ ⟨_, q, rfl, by omega, hRd, Turns.refl _, ⟨_, _, _, rfl, hb14, (cell_of_row _ _ 2 _ _ _ hh14).trans rfl, 992, by omega, by omega, rfl⟩, nofun⟩
    · intro q a' w' hq hRd hLe hzl hfr hdep
      obtain ⟨a17, o17, v17, e17, hb17, hc17, y17_0, by17_0, cy17_0, rfl⟩ : (kCell g g (fun _ => False) (fun v => ∃ y0 : Int, 0 ≤ y0 ∧ y0 ≤ 992 ∧ v = .int .i64 y0)).p (a'.tmps.getD 17 undef) w' := hdep 7 _ 17 rfl rfl rfl
      have f17 := e17; simp only [Array.getD_eq_getD_getElem?] at f17
      refine wpOp_plain rfl rfl (fun K hK => ?_)
      go_simp
      exact hK _ _ ⟨_, q, rfl, by omega, hRd, Turns.refl _, ⟨_, rfl, by omega, by omega⟩, nofun⟩
    · intro q a' w' hq hRd hLe hzl hfr hdep
      have e0 : a'.tmps.getD 0 undef = .pointer (some ⟨g, 0, none⟩) := hfr 0 rfl
      have f0 := e0; simp only [Array.getD_eq_getD_getElem?] at f0
      refine wpOp_plain rfl rfl (fun K hK => ?_)
      go_simp
      exact hK _ _ ⟨_, q, rfl, by omega, hRd, Turns.refl _, rfl, nofun⟩
    · intro q a' w' hq hRd hLe hzl hfr hdep
      have e19 : a'.tmps.getD 19 undef = .pointer (some ⟨g, 0, none⟩) := hdep 9 _ 19 rfl rfl rfl
      have f19 := e19; simp only [Array.getD_eq_getD_getElem?] at f19
      refine wpOp_plain rfl rfl (fun K hK => ?_)
      go_simp
      refine (pick_any hRd _ (by omega)).mono ?_
      rintro e w2 ⟨k, rfl, hk, hr, hg, hs⟩
      have hk1 := hk.1; have hk2 := hk.2.1; have hk3 := hk.2.2
      exact hK _ _ ⟨_, _, rfl, by omega, hr, Turns.of_grown hg, ⟨k, rfl, by omega, by omega⟩, nofun⟩
    · intro q a' w' hq hRd hLe hzl hfr hdep
      obtain ⟨x20, e20, b20, c20⟩ : (kInt g g (fun _ => False) 0 4).p (a'.tmps.getD 20 undef) w' := hdep 10 _ 20 rfl rfl rfl
      have f20 := e20; simp only [Array.getD_eq_getD_getElem?] at f20
      have r21 : IntKind.i64.wrap (1 + x20) = 1 + x20 := IntWalk.i64_in _ (by omega)
      refine wpOp_plain rfl rfl (fun K hK => ?_)
      go_simp
      exact hK _ _ ⟨_, q, rfl, by omega, hRd, Turns.refl _, ⟨_, rfl, by omega, by omega⟩, nofun⟩
    · intro q a' w' hq hRd hLe hzl hfr hdep
      obtain ⟨x21, e21, b21, c21⟩ : (kInt g g (fun _ => False) 1 5).p (a'.tmps.getD 21 undef) w' := hdep 11 _ 21 rfl rfl rfl
      have f21 := e21; simp only [Array.getD_eq_getD_getElem?] at f21
      obtain ⟨kk, rfl⟩ := Int.eq_ofNat_of_zero_le (show 0 ≤ x21 by omega)
      obtain ⟨iT, hi, hzz⟩ := Option.map_eq_some_iff.1 info_flowP
      simp only [Prod.mk.injEq] at hzz
      obtain ⟨hz, hs, hb⟩ := hzz
      have hmk := run_make_rows (P := Try.prog) 27 39 iT _ 5 Try.underlying27 hi hz hs kk (by rw [hb]; omega) (by omega)
      refine wpOp_plain rfl rfl (fun K hK => ?_)
      go_simp
      exact hK _ _ ⟨_, q, rfl, by omega, hRd.alloc _, Turns.alloc _ _, ⟨_, kk, rfl, by have := hRd.lt; omega, by have := hLe.size; (try simp at this); omega, by omega, by omega, new_zero _ _ _ _ _ rfl (by omega)⟩, nofun⟩
    · intro q a' w' hq hRd hLe hzl hfr hdep
      obtain ⟨x11, e11, b11, c11⟩ : (kInt g g (fun _ => False) 0 255).p (a'.tmps.getD 11 undef) w' := hdep 1 _ 11 rfl rfl rfl
      have f11 := e11; simp only [Array.getD_eq_getD_getElem?] at f11
      obtain ⟨x18, e18, b18, c18⟩ : (kInt g g (fun _ => False) 0 992).p (a'.tmps.getD 18 undef) w' := hdep 8 _ 18 rfl rfl rfl
      have f18 := e18; simp only [Array.getD_eq_getD_getElem?] at f18
      obtain ⟨b22, n22, e22, hb22, hB22, hl22, hu22, hN22⟩ : (kMk g g (fun _ => False) (w.heap.size + 1) 39 5 [.int .i64 0, .int .i64 0, .int .i64 0, .int .i64 0, .int .i64 0] 1 5).p (a'.tmps.getD 22 undef) w' := hdep 12 _ 22 rfl rfl rfl
      have f22 := e22; simp only [Array.getD_eq_getD_getElem?] at f22
      refine wpOp_plain rfl rfl (fun K hK => ?_)
      go_simp
      exact hK _ _ ⟨_, q, rfl, by omega, hRd, Turns.refl _, ⟨_, ⟨_, _, rfl, hb22, hB22, hl22, hu22, hN22⟩, x11, x18, by omega, by omega, by omega, by omega, rfl⟩, nofun⟩
    · intro q a' w' hq hRd hLe hzl hfr hdep
      refine wpOp_plain rfl rfl (fun K hK => ?_)
      go_simp
      exact hK _ _ ⟨_, q, rfl, by omega, hRd.alloc _, Turns.alloc _ _, ⟨_, rfl, by have := hRd.lt; omega, by have := hLe.size; (try simp at this); omega, heap_alloc_new _ _⟩, nofun⟩
  intro vs w1 q1 hq1 hr1 hg1 hT1 hN1
  replace hg1 := hg1.grown
  obtain ⟨a5, e5, hb5, hB5, hh5⟩ : (kNew g g (fun _ => False) (w.heap.size + 1) 29 #[.int .i64 0, .int .i64 0, .slice none 0 0]).p (vs 14) w1 := hT1 14 5 rfl
  obtain ⟨_, ⟨b23, n23, rfl, hb23, hB23, hl23, hu23, hN23⟩, x23_0, x23_1, bx23_0, cx23_0, bx23_1, cx23_1, e23⟩ : (kAgG g g (fun _ => False) (kMk g g (fun _ => False) (w.heap.size + 1) 39 5 [.int .i64 0, .int .i64 0, .int .i64 0, .int .i64 0, .int .i64 0] 1 5) (fun s v => ∃ y0 : Int, ∃ y1 : Int, 0 ≤ y0 ∧ y0 ≤ 255 ∧ 0 ≤ y1 ∧ y1 ≤ 992 ∧ v = .agg #[.int .i64 y0, .int .i64 y1, s])).p (vs 13) w1 := hT1 13 23 rfl
  clear hT1 hN1
  simp only [putAll, List.drop_succ_cons, List.drop_zero, e5, e23]
  clear e5 e23
  go_simp
  have hZ1 := heap_far hZ0 hg1 (by omega)
  have hG1 := grown_trans hG0 hg1
  have hs1 := hG1.size
  clear hZ0 hG0 hr0 hg1
  refine wpList_store_var rfl 29 (.tmp 5) (.tmp 23) rfl #[.int .i64 x23_0, .int .i64 x23_1, .slice (some ⟨b23, 0, none⟩) n23 n23] hh5 rfl rfl (by kernel_rfl) rfl rfl ?_
  intro w2 hh2 hg2 hs2
  have hne : b23 ≠ a5 := by
    intro e
    obtain ⟨cs, h1, _⟩ := hN23
    rw [e] at h1
    exact typed_ne h1 hh5 (by decide)
  have hZ2 := heap_far hZ1 hg2 (by omega)
  have hr2 := hr1.far hg2 hb5.1 (by omega)
  have hG2 := grown_far hG1 hg2 (by omega)
  have hN2 := hN23.keep (hg2.block b23 hN23.lt (by simpa using hne))
  have hP2 : GoodO w2 (w.heap.size + 1) x23_0 x23_1 n23 (some ⟨b23, 0, none⟩) n23 := ⟨fun _ => 0, fun _ => 0, fun _ => 0, fun _ => 0, fun _ => 0, Acc.of_new hN2 hB23 (by unfold maxLen; omega) (fun _ => rfl), zero_valid (by omega) (by omega) (by omega)⟩
  have hx0 := heap_lt hh2
  clear hZ1 hr1 hG1 hh5 hg2 hs2 hs1 hN23 hN2
  go_wp2_with fail
  refine (pick_any hr2 _ (by omega)).mono ?_
  rintro e w3 ⟨k0, rfl, hk, hr3, hg3, hs3⟩
  have hk1 := hk.1; have hk2 := hk.2.1 (by omega); clear hk
  have hZ3 := heap_far hZ2 hg3 (by omega)
  have hX3 := heap_far hh2 hg3 hb5.1
  have hP3 := hP2.far hg3 hgW
  have hG3 := grown_trans hG2 hg3
  clear hZ2 hr2 hG2 hh2 hg3 hs3 hP2
  go_wp2_with fail
  go_loopw [6, 7, 8, 9] (fun i _ _ _ wr => ∃ (k : Int) (q : Nat) (A1 : Option Addr) (c1 : Nat), i = .int .i64 k ∧ 0 ≤ k ∧ k ≤ 6 ∧ wr.heap[w.heap.size]? = some (.cells #[.int .i64 0, .int .i64 0, .slice none 0 0] 29) ∧ wr.heap[a5]? = some (.cells #[.int .i64 x23_0, .int .i64 x23_1, .slice A1 n23 c1] 29 (0, 0)) ∧ GoodO wr (w.heap.size + 1) x23_0 x23_1 n23 A1 c1 ∧ Rd wr B g A m c q ∧ (q : Int) ≤ p + 20 + 1100 * (6 - k) ∧ w.grownBy wr (some g)) (fun i _ _ _ _ => (intOf i).toNat)
  case atStart => exact ⟨k0, _, _, _, rfl, hk1, by omega, hZ3, hX3, hP3, hr3, by omega, hG3⟩
  case round =>
    obtain ⟨k, q, A1, c1, rfl, hk3, hk4, hZ, hX, hP, hr, hq, hG⟩ := hrel
    clear hZ3 hX3 hP3 hr3 hG3
    have hXl := heap_lt hX
    have hZl := heap_lt hZ
    have hsz := hG.size
    have hgw := hr.lt
    by_cases hlt2 : 0 < k
    · have hw1 : IntKind.i64.wrap (k - 1) = k - 1 := IntWalk.i64_in _ (by omega)
      go_upto_region 5 with (fail)
      go_cut [7, 8, 9] from 26 to 39 (fun s7 _ s9 wx => ∃ (b : Bool) (a7 : Nat) (A2 : Option Addr) (c2 q2 : Nat), s7 = .pointer (some ⟨a7, 0, none⟩) ∧ s9 = .bool b ∧ a7 ≠ a5 ∧ wx.heap[w.heap.size]? = some (.cells #[.int .i64 0, .int .i64 0, .slice none 0 0] 29) ∧ wx.heap[a5]? = some (.cells #[.int .i64 x23_0, .int .i64 x23_1, .slice A1 n23 c1] 29 (0, 0)) ∧ wx.heap[a7]? = some (.cells #[.int .i64 x23_0, .int .i64 x23_1, .slice A2 n23 c2] 29 (0, 0)) ∧
        GoodO wx (w.heap.size + 1) x23_0 x23_1 n23 A1 c1 ∧ GoodO wx (w.heap.size + 1) x23_0 x23_1 n23 A2 c2 ∧ Rd wx B g A m c q2 ∧ (q2 : Int) ≤ q + 1010 ∧ w.grownBy wx (some g))
      case first =>
        refine wp_region_drawsM (ds := [(0, 31), (1, 32), (2, 33), (3, 34), (4, 30), (5, 35), (6, 36), (7, 37), (8, 7), (9, 8)]) (cs := [([(0, 31), (1, 32), (2, 33), (3, 34), (4, 30), (5, 35), (6, 36), (8, 7), (9, 8)], [10, 7, 11, 12]), ([(0, 31), (1, 32), (2, 33), (3, 34), (4, 30), (5, 35), (6, 36), (8, 7), (9, 8)], [10, 11, 7, 12]), ([(0, 31), (1, 32), (2, 33), (3, 34), (4, 30), (5, 35), (7, 37), (8, 7), (9, 8)], [10, 6, 11, 12]), ([(0, 31), (1, 32), (2, 33), (3, 34), (4, 30), (5, 35), (8, 7), (9, 8)], [10, 6, 7, 11, 12]), ([(0, 31), (1, 32), (2, 33), (3, 34), (4, 30), (5, 35), (8, 7), (9, 8)], [10, 6, 11, 7, 12]), ([(0, 31), (1, 32), (2, 33), (3, 34), (4, 30), (5, 35), (8, 7), (9, 8)], [10, 7, 6, 11, 12])]) (B := B) (g := g) (z := g) (O := fun _ => False) (A := A) (m := m) (c := c) (p := _) 10 [6, 7] 101 [kIs g g (fun _ => False) (.agg #[.int .i64 x23_0, .int .i64 x23_1, .slice A1 n23 c1]), kIs g g (fun _ => False) (.pointer (some ⟨g, 0, none⟩)), kVal g g (fun _ => False) (fun v => ∃ y0 : Int, ∃ y1 : Int, ∃ y2 : Int, ∃ y3 : Int, ∃ y4 : Int, 0 ≤ y0 ∧ y0 ≤ 255 ∧ 0 ≤ y1 ∧ y1 ≤ 999 ∧ 0 ≤ y2 ∧ y2 ≤ 255 ∧ 0 ≤ y3 ∧ y3 ≤ 999 ∧ 1 ≤ y4 ∧ y4 ≤ 2 ∧ v = .agg #[.int .i64 y0, .int .i64 y1, .int .i64 y2, .int .i64 y3, .int .i64 y4]), kSent g (w.heap.size + 1) hgW x23_0 x23_1 n23, kSent g (w.heap.size + 1) hgW x23_0 x23_1 n23, kOutA g (w.heap.size + 1) hgW x23_0 x23_1 n23, kFl5 g, kBool g g (fun _ => False), kNew g g (fun _ => False) (wr.heap.size) 29 #[.int .i64 0, .int .i64 0, .slice none 0 0], kNew g g (fun _ => False) (wr.heap.size) 39 #[.int .i64 0, .int .i64 0, .int .i64 0, .int .i64 0, .int .i64 0]] (by kernel_rfl) (by kernel_rfl) hr (Rd.lt hr) (by rfl) ?_ rfl (by kernel_rfl) rfl ?_ ?_
        · refine each_cons ?_ ( each_cons ?_ ( each_cons ?_ ( each_cons ?_ ( each_cons ?_ ( each_cons ?_ ( each_cons ?_ ( each_cons ?_ ( each_cons ?_ ( each_cons ?_ ( each_nil))))))))))
          · intro q a' w' hq hRd hLe hzl hfr hdep
            have e5 : a'.tmps.getD 5 undef = .pointer (some ⟨a5, 0, none⟩) := hfr 5 rfl
            have f5 := e5; simp only [Array.getD_eq_getD_getElem?] at f5
            have hhx := hLe.keep hX hb5.1 hb5.2
            obtain ⟨kx, fx⟩ := blk hhx; clear hhx
            refine wpOp_plain rfl rfl (fun K hK => ?_)
            go_simp
            exact hK _ _ ⟨_, q, rfl, by omega, hRd, Turns.refl _, rfl, nofun⟩
          · intro q a' w' hq hRd hLe hzl hfr hdep
            have e0 : a'.tmps.getD 0 undef = .pointer (some ⟨g, 0, none⟩) := hfr 0 rfl
            have f0 := e0; simp only [Array.getD_eq_getD_getElem?] at f0
            refine wpOp_plain rfl rfl (fun K hK => ?_)
            go_simp
            exact hK _ _ ⟨_, q, rfl, by omega, hRd, Turns.refl _, rfl, nofun⟩
          · intro q a' w' hq hRd hLe hzl hfr hdep
            have e32 : a'.tmps.getD 32 undef = .pointer (some ⟨g, 0, none⟩) := hdep 1 _ 32 rfl rfl rfl
            have f32 := e32; simp only [Array.getD_eq_getD_getElem?] at f32
            refine wpOp_plain rfl rfl (fun K hK => ?_)
            go_simp
            refine (l20Flow0_any hRd (by omega)).mono ?_
            rintro e w2 ⟨v, q2, rfl, ⟨u0, u1, u2, u3, u4, rfl, v0, v1, v2, v3, v4⟩, hq2, hr, hg⟩
            exact hK _ _ ⟨_, _, rfl, by omega, hr, Turns.of_grown hg, ⟨u0, u1, u2, u3, u4, v0.1, v0.2, v1.1, v1.2, v2.1, v2.2, v3.1, v3.2, v4.1, v4.2, rfl⟩, nofun⟩
          · intro q a' w' hq hRd hLe hzl hfr hdep
            have e31 : a'.tmps.getD 31 undef = .agg #[.int .i64 x23_0, .int .i64 x23_1, .slice A1 n23 c1] := hdep 0 _ 31 rfl rfl rfl
            have f31 := e31; simp only [Array.getD_eq_getD_getElem?] at f31
            obtain ⟨x33_0, x33_1, x33_2, x33_3, x33_4, bx33_0, cx33_0, bx33_1, cx33_1, bx33_2, cx33_2, bx33_3, cx33_3, bx33_4, cx33_4, e33⟩ : (kVal g g (fun _ => False) (fun v => ∃ y0 : Int, ∃ y1 : Int, ∃ y2 : Int, ∃ y3 : Int, ∃ y4 : Int, 0 ≤ y0 ∧ y0 ≤ 255 ∧ 0 ≤ y1 ∧ y1 ≤ 999 ∧ 0 ≤ y2 ∧ y2 ≤ 255 ∧ 0 ≤ y3 ∧ y3 ≤ 999 ∧ 1 ≤ y4 ∧ y4 ≤ 2 ∧ v = .agg #[.int .i64 y0, .int .i64 y1, .int .i64 y2, .int .i64 y3, .int .i64 y4])).p (a'.tmps.getD 33 undef) w' := hdep 2 _ 33 rfl rfl rfl
            have f33 := e33; simp only [Array.getD_eq_getD_getElem?] at f33
            refine wpOp_plain rfl rfl (fun K hK => ?_)
            go_simp
            refine (sendO_d hRd hgW (by have := hLe.size; omega) (hP.far hLe.grown hgW) (by omega)).mono ?_
            rintro e w2 ⟨v, q2, rfl, hv, hq2, hr, hg⟩
            exact hK _ _ ⟨_, _, rfl, by omega, hr, Turns.of_grown hg, hv, nofun⟩
          · intro q a' w' hq hRd hLe hzl hfr hdep
            obtain ⟨A34, c34, z340, z341, z342, z343, z344, o34, e34, hP34⟩ : (kSent g (w.heap.size + 1) hgW x23_0 x23_1 n23).p (a'.tmps.getD 34 undef) w' := hdep 3 _ 34 rfl rfl rfl
            have f34 := e34; simp only [Array.getD_eq_getD_getElem?] at f34
            refine wpOp_plain rfl rfl (fun K hK => ?_)
            go_simp
            exact hK _ _ ⟨_, q, rfl, by omega, hRd, Turns.refl _, ⟨_, _, _, _, _, _, _, _, rfl, hP34⟩, nofun⟩
          · intro q a' w' hq hRd hLe hzl hfr hdep
            obtain ⟨A30, c30, z300, z301, z302, z303, z304, o30, e30, hP30⟩ : (kSent g (w.heap.size + 1) hgW x23_0 x23_1 n23).p (a'.tmps.getD 30 undef) w' := hdep 4 _ 30 rfl rfl rfl
            have f30 := e30; simp only [Array.getD_eq_getD_getElem?] at f30
            refine wpOp_plain rfl rfl (fun K hK => ?_)
            go_simp
            exact hK _ _ ⟨_, q, rfl, by omega, hRd, Turns.refl _, ⟨_, _, rfl, hP30⟩, nofun⟩
          · intro q a' w' hq hRd hLe hzl hfr hdep
            obtain ⟨A30, c30, z300, z301, z302, z303, z304, o30, e30, hP30⟩ : (kSent g (w.heap.size + 1) hgW x23_0 x23_1 n23).p (a'.tmps.getD 30 undef) w' := hdep 4 _ 30 rfl rfl rfl
            have f30 := e30; simp only [Array.getD_eq_getD_getElem?] at f30
            refine wpOp_plain rfl rfl (fun K hK => ?_)
            go_simp
            exact hK _ _ ⟨_, q, rfl, by omega, hRd, Turns.refl _, ⟨_, _, _, _, _, rfl⟩, nofun⟩
          · intro q a' w' hq hRd hLe hzl hfr hdep
            obtain ⟨A30, c30, z300, z301, z302, z303, z304, o30, e30, hP30⟩ : (kSent g (w.heap.size + 1) hgW x23_0 x23_1 n23).p (a'.tmps.getD 30 undef) w' := hdep 4 _ 30 rfl rfl rfl
            have f30 := e30; simp only [Array.getD_eq_getD_getElem?] at f30
            refine wpOp_plain rfl rfl (fun K hK => ?_)
            go_simp
            exact hK _ _ ⟨_, q, rfl, by omega, hRd, Turns.refl _, ⟨_, rfl⟩, nofun⟩
          · intro q a' w' hq hRd hLe hzl hfr hdep
            refine wpOp_plain rfl rfl (fun K hK => ?_)
            go_simp
            exact hK _ _ ⟨_, q, rfl, by omega, hRd.alloc _, Turns.alloc _ _, ⟨_, rfl, by have := hRd.lt; omega, by have := hLe.size; (try simp at this); omega, heap_alloc_new _ _⟩, nofun⟩
          · intro q a' w' hq hRd hLe hzl hfr hdep
            refine wpOp_plain rfl rfl (fun K hK => ?_)
            go_simp
            exact hK _ _ ⟨_, q, rfl, by omega, hRd.alloc _, Turns.alloc _ _, ⟨_, rfl, by have := hRd.lt; omega, by have := hLe.size; (try simp at this); omega, heap_alloc_new _ _⟩, nofun⟩
        rotate_left
        intro e he
        simp only [List.mem_cons, List.not_mem_nil, or_false] at he
        rcases he with rfl | rfl | rfl | rfl | rfl | rfl
        all_goals
          intro vs w4 q4 hq4 hr4 hg4 hT4
          (try intro hN4)
          (try simp only [List.filterMap_cons, List.filterMap_nil, List.getElem?_cons_succ, List.getElem?_cons_zero])
          replace hg4 := hg4.grown
          obtain ⟨A30, c30, z300, z301, z302, z303, z304, o30, e30, hP30⟩ : (kSent g (w.heap.size + 1) hgW x23_0 x23_1 n23).p (vs 4) w4 := hT4 4 30 rfl
          obtain ⟨A35, c35, e35, hP35⟩ : (kOutA g (w.heap.size + 1) hgW x23_0 x23_1 n23).p (vs 5) w4 := hT4 5 35 rfl
          obtain ⟨a7, e7, hb7, hB7, hh7⟩ : (kNew g g (fun _ => False) (wr.heap.size) 29 #[.int .i64 0, .int .i64 0, .slice none 0 0]).p (vs 8) w4 := hT4 8 7 rfl
          obtain ⟨a8, e8, hb8, hB8, hh8⟩ : (kNew g g (fun _ => False) (wr.heap.size) 39 #[.int .i64 0, .int .i64 0, .int .i64 0, .int .i64 0, .int .i64 0]).p (vs 9) w4 := hT4 9 8 rfl
          (try (obtain ⟨z360, z361, z362, z363, z364, e36⟩ : (kFl5 g).p (vs 6) w4 := hT4 6 36 rfl))
          (try (obtain ⟨x37, e37⟩ : (kBool g g (fun _ => False)).p (vs 7) w4 := hT4 7 37 rfl))
          clear hT4; (try clear hN4)
          simp only [putAll, List.drop_succ_cons, List.drop_zero, e30, e35, e7, e8]
          (try (simp only [e36]; clear e36))
          (try (simp only [e37]; clear e37))
          clear e30 e35 e7 e8
          go_simp
        all_goals
          clear hP30
          have hne78 : a7 ≠ a8 := fun e => by rw [e] at hh7; exact typed_ne hh7 hh8 (by decide)
          have h75 : a7 ≠ a5 := by omega
          have h85 : a8 ≠ a5 := by omega
          have hZ4 := heap_far hZ hg4 (by omega)
          have hX4 := heap_far hX hg4 hb5.1
          have hG4 := grown_trans hG hg4
          have hz4 := hG4.size
          have hP4 := hP.far hg4 hgW
          have hPb : ∀ b, (Value.slice A1 n23 c1).ownBlock = some b → b < wr.heap.size := fun b hb => (hP.blk hb).2.1
          have hn35 := hP35.ne hh8
          have hm35 : (Value.slice A35 n23 c35).ownBlock ≠ some a7 := fun e => by obtain ⟨_, _, cs, h1⟩ := hP35.good.blk e; exact typed_ne h1 hh7 (by decide)
          clear hg4 hZ hX hP hr hG
          refine wpList_store_var rfl 29 (.tmp 7) (.tmp 35) rfl #[.int .i64 x23_0, .int .i64 x23_1, .slice A35 n23 c35] hh7 rfl rfl (by kernel_rfl) rfl rfl ?_
          intro w5 hh5 hg5 hs5
          have hy5 := heap_far hh8 hg5 (Ne.symm hne78)
          repeat (first | refine wpList_extract rfl (.tmp 30) 1 rfl _ rfl _ rfl ?_ | refine wpList_extract rfl (.tmp 30) 2 rfl _ rfl _ rfl ?_ | (refine wpList_store_var rfl 39 (.tmp 8) (.tmp 36) rfl #[.int .i64 z360, .int .i64 z361, .int .i64 z362, .int .i64 z363, .int .i64 z364] hy5 rfl rfl (by kernel_rfl) rfl rfl ?_; intro w6 hh6 hg6 hs6) | (refine wpList_store_var rfl 39 (.tmp 8) (.tmp 36) rfl #[.int .i64 z300, .int .i64 z301, .int .i64 z302, .int .i64 z303, .int .i64 z304] hy5 rfl rfl (by kernel_rfl) rfl rfl ?_; intro w6 hh6 hg6 hs6))
          go_wp2_with fail
          have hX5 := heap_far hX4 hg5 (Ne.symm h75)
          have hZ5 := heap_far hZ4 hg5 (by omega)
          have hh56 := heap_far hh5 hg6 hne78
          have hX6 := heap_far hX5 hg6 (Ne.symm h85)
          have hZ6 := heap_far hZ5 hg6 (by omega)
          have hr5 := hr4.far hg5 (by omega) (by omega)
          have hr6 := hr5.far hg6 (by omega) (by omega)
          have hG5 := grown_far hG4 hg5 (by omega)
          have hG6 := grown_far hG5 hg6 (by omega)
          have hP5 := (hP35.keptN hg5 (.inr hm35)).keptN hg6 (.inr hn35)
          have hO5 := (hP4.keptN hg5 (.inr fun e => by have := hPb _ e; omega)).keptN hg6 (.inr fun e => by have := hPb _ e; omega)
          go_meet
          exact ⟨_, a7, A35, c35, _, rfl, rfl, h75, hZ6, hX6, hh56, hO5, hP5.good, hr6, by omega, hG6⟩
      case rest =>
        obtain ⟨b, a7, A2, c2, q2, rfl, rfl, h75, hZ6, hX6, hh7, hO6, hP6, hr6, hq6, hG6⟩ := hcut
        clear hZ hX hP hr hG
        have hz6 := hG6.size
        have hm45 : (Value.slice A2 n23 c2).ownBlock ≠ some a5 := fun e => by obtain ⟨_, _, cs, h1⟩ := hP6.blk e; exact typed_ne h1 hX6 (by decide)
        cases b with
        | false =>
          go_wp2_with fail
          go_roundw
          case rel => exact ⟨k - 1, _, A1, c1, rfl, by omega, by omega, hZ6, hX6, hO6, hr6, by omega, hG6⟩
          case measure => simp [intOf]; omega
        | true =>
          obtain ⟨kk6, ff6⟩ := blk hh7
          have h7s6 := heap_lt hh7
          go_wp2_with (refine wpList_store_var rfl 29 (.tmp 5) (.tmp 39) rfl #[.int .i64 x23_0, .int .i64 x23_1, .slice A2 n23 c2] hX6 rfl rfl (by kernel_rfl) rfl rfl ?_; intro w7 hX7 hg7 hs7; have hZ7 := heap_far hZ6 hg7 (by omega))
          go_roundw
          case rel => exact ⟨k - 1, _, A2, c2, rfl, by omega, by omega, hZ7, hX7, hP6.keptN hg7 (.inr hm45), hr6.far hg7 hb5.1 (by omega), by omega, grown_far hG6 hg7 (by omega)⟩
          case measure => simp [intOf]; omega
    · obtain rfl : k = 0 := by omega
      have hn8 : 1 ≤ n23 ∧ n23 ≤ 5 := by omega
      have hq2 : q ≤ p + 6620 := by omega
      clear hk3 hk4 hq
      go_wp2_with fail
      refine (pick_any hr _ (by omega)).mono ?_
      rintro e w3 ⟨k3, rfl, hk, hr3, hg3, hs3⟩
      have hk1 := hk.1
      clear hk hs3
      have hZ3 := heap_far hZ hg3 (by omega)
      have hX3 := heap_far hX hg3 hb5.1
      have hP3 := hP.far hg3 hgW
      have hG3 := grown_trans hG hg3
      have hz3 := hG3.size
      have hX3l := heap_lt hX3
      have hZ3l := heap_lt hZ3
      clear hg3 hZ hX hP hr hG
      go_upto_if 42 with (fail)
      go_cut [] from 43 to 48 (fun wx => ∃ A2 c2, wx.heap[w.heap.size]? = some (.cells #[.int .i64 0, .int .i64 0, .slice none 0 0] 29) ∧ wx.heap[a5]? = some (.cells #[.int .i64 x23_0, .int .i64 x23_1, .slice A2 n23 c2] 29 (0, 0)) ∧ GoodO wx (w.heap.size + 1) x23_0 x23_1 n23 A2 c2 ∧ Rd wx B g A m c (q + 1) ∧ w.grownBy wx (some g))
      case first =>
        by_cases h0 : k3 = 0
        · subst h0
          obtain ⟨g0, g1, g2, g3, g4, hA3, ho3⟩ := hP3
          obtain ⟨gb, cb, eb, hBb, hN, hcb⟩ := hA3.new_ (by omega)
          cases eb
          have hgb := hN.lt
          have r0 : w3.cell? ⟨gb, 0, none⟩ = some (.int .i64 (g0 0)) := by have := (hN.rows hcb hN.lt).2 (by omega); obtain ⟨b, off, e, _, hc⟩ := this; cases e; exact hc 0 (by omega) 0 _ rfl
          have r1 : w3.cell? ⟨gb, 1, none⟩ = some (.int .i64 (g1 0)) := by have := (hN.rows hcb hN.lt).2 (by omega); obtain ⟨b, off, e, _, hc⟩ := this; cases e; exact hc 0 (by omega) 1 _ rfl
          have r2 : w3.cell? ⟨gb, 2, none⟩ = some (.int .i64 (g2 0)) := by have := (hN.rows hcb hN.lt).2 (by omega); obtain ⟨b, off, e, _, hc⟩ := this; cases e; exact hc 0 (by omega) 2 _ rfl
          have r3 : w3.cell? ⟨gb, 3, none⟩ = some (.int .i64 (g3 0)) := by have := (hN.rows hcb hN.lt).2 (by omega); obtain ⟨b, off, e, _, hc⟩ := this; cases e; exact hc 0 (by omega) 3 _ rfl
          have r4 : w3.cell? ⟨gb, 4, none⟩ = some (.int .i64 (g4 0)) := by have := (hN.rows hcb hN.lt).2 (by omega); obtain ⟨b, off, e, _, hc⟩ := this; cases e; exact hc 0 (by omega) 4 _ rfl
          have hPg : RowKit.Hid (GoodO w3 (w.heap.size + 1) x23_0 x23_1 n23 (some ⟨gb, 0, none⟩) c1) := Lib.hid ⟨g0, g1, g2, g3, g4, hA3, ho3⟩
          have hn0 : 0 < n23 := by omega
          obtain ⟨kX3, fX3⟩ := blk hX3
          clear hA3 ho3 hN
          go_upto_region 9 with (fail)
          refine wp_region_free (ds := [(0, 43), (1, 44), (2, 45), (3, 46), (4, 47), (5, 48)]) 6 (by kernel_rfl) (by kernel_rfl) (by first | exact .inl rfl | exact .inr (by kernel_rfl)) (by rfl) rfl rfl ?_
          apply free_is
          · intro a' w' hLe hfr hdep
            have e5 := hfr 5 rfl
            conv at e5 => rhs; whnf
            have f5 := e5; simp only [Array.getD_eq_getD_getElem?] at f5
            have kc := fun i => keepc hLe (a5) (by (try simp) <;> omega) i
            have kf := fun i => keepf hLe (a5) (by (try simp) <;> omega) i
            have kz : a5 < w'.heap.size := (by have := hLe.size; (try simp at this); omega)
            have kc := fun i => keepc hLe (gb) (by (try simp) <;> omega) i
            have kf := fun i => keepf hLe (gb) (by (try simp) <;> omega) i
            have kz : gb < w'.heap.size := (by have := hLe.size; (try simp at this); omega)
            refine wpOp_plain rfl rfl (fun K hK => ?_)
            go_simp
            exact hK _ _ ⟨_, rfl, Below.refl _ _, rfl⟩
          apply free_is
          · intro a' w' hLe hfr hdep
            have e5 := hfr 5 rfl
            conv at e5 => rhs; whnf
            have f5 := e5; simp only [Array.getD_eq_getD_getElem?] at f5
            refine wpOp_plain rfl rfl (fun K hK => ?_)
            go_simp
            exact hK _ _ ⟨_, rfl, Below.refl _ _, rfl⟩
          apply free_is
          · intro a' w' hLe hfr hdep
            have e44 : a'.tmps.getD 44 undef = _ := hdep 1 44 (Nat.le_of_ble_eq_true rfl) rfl rfl
            conv at e44 => rhs; whnf
            have f44 := e44; simp only [Array.getD_eq_getD_getElem?] at f44
            have kc := fun i => keepc hLe (a5) (by (try simp) <;> omega) i
            have kf := fun i => keepf hLe (a5) (by (try simp) <;> omega) i
            have kz : a5 < w'.heap.size := (by have := hLe.size; (try simp at this); omega)
            have kc := fun i => keepc hLe (gb) (by (try simp) <;> omega) i
            have kf := fun i => keepf hLe (gb) (by (try simp) <;> omega) i
            have kz : gb < w'.heap.size := (by have := hLe.size; (try simp at this); omega)
            refine wpOp_plain rfl rfl (fun K hK => ?_)
            go_simp
            exact hK _ _ ⟨_, rfl, Below.refl _ _, rfl⟩
          apply free_is
          · intro a' w' hLe hfr hdep
            have e45 : a'.tmps.getD 45 undef = _ := hdep 2 45 (Nat.le_of_ble_eq_true rfl) rfl rfl
            conv at e45 => rhs; whnf
            have f45 := e45; simp only [Array.getD_eq_getD_getElem?] at f45
            refine wpOp_plain rfl rfl (fun K hK => ?_)
            go_simp
            exact hK _ _ ⟨_, rfl, Below.refl _ _, rfl⟩
          apply free_is
          · intro a' w' hLe hfr hdep
            have e46 : a'.tmps.getD 46 undef = _ := hdep 3 46 (Nat.le_of_ble_eq_true rfl) rfl rfl
            conv at e46 => rhs; whnf
            have f46 := e46; simp only [Array.getD_eq_getD_getElem?] at f46
            have kc := fun i => keepc hLe (a5) (by (try simp) <;> omega) i
            have kf := fun i => keepf hLe (a5) (by (try simp) <;> omega) i
            have kz : a5 < w'.heap.size := (by have := hLe.size; (try simp at this); omega)
            have kc := fun i => keepc hLe (gb) (by (try simp) <;> omega) i
            have kf := fun i => keepf hLe (gb) (by (try simp) <;> omega) i
            have kz : gb < w'.heap.size := (by have := hLe.size; (try simp at this); omega)
            refine wpOp_plain rfl rfl (fun K hK => ?_)
            go_simp
            exact hK _ _ ⟨_, rfl, Below.refl _ _, rfl⟩
          refine free_cons (kbGood w3.heap.size x23_0 x23_1 n23) ?_ ?_
          · intro a' w' hLe hfr hdep
            have e43 : a'.tmps.getD 43 undef = _ := hdep 0 43 (Nat.le_of_ble_eq_true rfl) rfl rfl
            conv at e43 => rhs; whnf
            have f43 := e43; simp only [Array.getD_eq_getD_getElem?] at f43
            have e47 : a'.tmps.getD 47 undef = _ := hdep 4 47 (Nat.le_of_ble_eq_true rfl) rfl rfl
            conv at e47 => rhs; whnf
            have f47 := e47; simp only [Array.getD_eq_getD_getElem?] at f47
            have kc := fun i => keepc hLe (a5) (by (try simp) <;> omega) i
            have kf := fun i => keepf hLe (a5) (by (try simp) <;> omega) i
            have kz : a5 < w'.heap.size := (by have := hLe.size; (try simp at this); omega)
            have kc := fun i => keepc hLe (gb) (by (try simp) <;> omega) i
            have kf := fun i => keepf hLe (gb) (by (try simp) <;> omega) i
            have kz : gb < w'.heap.size := (by have := hLe.size; (try simp at this); omega)
            refine wpOp_plain rfl rfl (fun K hK => ?_)
            go_simp
            refine (closeO_b (hPg.out.below hLe) _ _ _ _ _).mono ?_
            rintro e w2 ⟨A2, c2, rfl, hGd, hb⟩
            exact hK _ _ ⟨_, rfl, hb, ⟨A2, c2, rfl, hGd.base hLe.size⟩⟩
          apply free_nil
          intro vs w55 hb55 hT55
          have e43 : vs 0 = _ := hT55 0 43 rfl
          conv at e43 => rhs; whnf
          have e44 : vs 1 = _ := hT55 1 44 rfl
          conv at e44 => rhs; whnf
          have e45 : vs 2 = _ := hT55 2 45 rfl
          conv at e45 => rhs; whnf
          have e46 : vs 3 = _ := hT55 3 46 rfl
          conv at e46 => rhs; whnf
          have e47 : vs 4 = _ := hT55 4 47 rfl
          conv at e47 => rhs; whnf
          obtain ⟨A48, c48, e48, hP48⟩ := hT55 5 48 rfl
          simp only [putAll, List.drop_succ_cons, List.drop_zero, e43, e44, e45, e46, e47, e48]
          clear hT55 e43 e44 e45 e46 e47 e48
          go_simp
          have hX5 := (hb55.block a5 hX3l).trans hX3
          have hZ5 := (hb55.block w.heap.size hZ3l).trans hZ3
          have hr5 := hr3.below hb55
          have hG5 := grown_low hG3 (hb55.mono hz3)
          have hs5 := hb55.size
          go_wp2_with (refine wpList_store_var rfl 29 (.tmp 5) (.tmp 48) rfl #[.int .i64 x23_0, .int .i64 x23_1, .slice A48 n23 c48] hX5 rfl rfl (by kernel_rfl) rfl rfl ?_; intro w7 hX7 hg7 hs7)
          have hm5 : (Value.slice A48 n23 c48).ownBlock ≠ some a5 := fun e => by have := (hP48.blk e).1; omega
          go_meet
          exact ⟨A48, c48, heap_far hZ5 hg7 (by omega), hX7, (hP48.keptN hg7 (.inr hm5)).base (by omega), hr5.far hg7 hb5.1 (by omega), grown_far hG5 hg7 (by omega)⟩
        · have hk6 : (k3 == 0) = false := by simpa using h0
          go_wp2_with fail
          go_meet
          exact ⟨A1, c1, hZ3, hX3, hP3, hr3, hG3⟩
      case rest =>
        obtain ⟨A2, c2, hZ4, hX4, hP4, hr4, hG4⟩ := hcut
        clear hZ3 hX3 hP3 hr3 hG3 hz3 hX3l hZ3l
        go_wp2_with fail
        refine (odd_any hr4 _ hn (by omega)).mono ?_
        rintro e w5 ⟨od, q5, rfl, hq5, hr5, hg5, hs5, hy5⟩
        have hZ5 := heap_far hZ4 hg5 (by omega)
        have hX5 := heap_far hX4 hg5 hb5.1
        have hP5 := hP4.far hg5 hgW
        have hG5 := grown_trans hG4 hg5
        have hz5 := hG5.size
        clear hs5 hy5 hg5 hZ4 hX4 hP4 hr4 hG4
        have hPP5 := good_pacc hP5
        cases od with
        | false =>
          have hX := hX5
          have hZ := hZ5
          have hP := hPP5
          have hr := hr5
          have hG := hG5
          obtain ⟨k1, f1⟩ := blk hX
          go_wp2_with (refine wpList_store_var rfl 29 (.tmp 4) (.tmp 76) rfl _ hZ rfl rfl (by kernel_rfl) rfl rfl ?_)
          intro w9 hh9 hg9 hs9
          have hr9 := hr.far hg9 (show w.heap.size ≠ g by omega) (by omega)
          have hG9 := grown_far hG hg9 (Nat.le_refl _)
          have hP9 := hP.kept hg9 (.inr fun e => by have := (hP.block _ e).1; omega)
          obtain ⟨k9, f9⟩ := blk hh9
          go_wp2
          refine bodyPost_ret (v := .agg #[.int .i64 (x23_0), .int .i64 (x23_1), .slice (A2) (n23) (c2)]) (by simp [results, Try.results32, go_sem, k9]) rfl ⟨_, _, _, _, _, _, rfl, by omega, by omega, hP9.base (by omega), by omega, hr9, hG9⟩
        | true =>
        go_wp2_with fail
        refine (pick_any hr5 _ (by omega)).mono ?_
        rintro e w6 ⟨k4, rfl, hk, hr6, hg6, hs6⟩
        have hk5 := hk.1; have hk6 := hk.2.1 (by omega); clear hk
        have hZ6 := heap_far hZ5 hg6 (by omega)
        have hX6 := heap_far hX5 hg6 hb5.1
        have hP6 := hPP5.far hg6 hgW
        have hG6 := grown_trans hG5 hg6
        have hz6 := hG6.size
        have hX6l := heap_lt hX6
        have hZ6l := heap_lt hZ6
        have hg6l := hr6.lt
        have hPx : (Value.slice A2 n23 c2).ownBlock ≠ some a5 := fun e => by obtain ⟨cs, h1⟩ := hP6.typed e; exact typed_ne h1 hX6 (by decide)
        clear hs6 hg6 hZ5 hX5 hP5 hPP5 hr5 hG5
        rcases (show k4 = 0 ∨ k4 = 1 ∨ k4 = 2 ∨ k4 = 3 by omega) with rfl | rfl | rfl | rfl
        · go_wp2_with (first | (refine wpList_store_at rfl 3 (.tmp 58) (.const (.int .i64 256)) rfl (.int .i64 256) #[.int .i64 256, .int .i64 x23_1, .slice A2 n23 c2] hX6 rfl rfl (by kernel_rfl) rfl rfl (by simp) rfl ?_; intro w7 hX hg7 hs7; have hZ := heap_far hZ6 hg7 (by omega); obtain ⟨k1, f1⟩ := blk hX; have lx := heap_lt hX) | (refine wpList_store_var rfl 29 (.tmp 4) (.tmp 76) rfl #[.int .i64 (256), .int .i64 (x23_1), .slice (A2) (n23) (c2)] hZ rfl rfl (by kernel_rfl) rfl rfl ?_; intro w9 hh9 hg9 hs9))
          have hP := hP6.kept hg7 (.inr hPx)
          have hr := hr6.far hg7 hb5.1 (by omega)
          have hG := grown_far hG6 hg7 (by omega)
          have hr9 := hr.far hg9 (show w.heap.size ≠ g by omega) (by omega)
          have hG9 := grown_far hG hg9 (Nat.le_refl _)
          have hP9 := hP.kept hg9 (.inr fun e => by have := (hP.block _ e).1; omega)
          obtain ⟨k9, f9⟩ := blk hh9
          refine bodyPost_ret (v := .agg #[.int .i64 (256), .int .i64 (x23_1), .slice (A2) (n23) (c2)]) (by simp [results, Try.results32, go_sem, k9]) rfl ⟨_, _, _, _, _, _, rfl, by omega, by omega, hP9.base (by omega), by omega, hr9, hG9⟩
        · go_wp2_with fail
          refine (pick_any (hr6.alloc _) _ (by omega)).mono ?_
          rintro e w7 ⟨k7, rfl, hk, hr7, hg7, hs7⟩
          have hk8 := hk.1; have hk9 := hk.2.1 (by omega); clear hk
          have hq7 := heap_far (heap_alloc_new w6 (.cells #[.int .i64 (-1), .int .i64 1000] 3)) hg7 (by omega)
          have hZ7 := heap_far ((heap_alloc_old w6 (.cells #[.int .i64 (-1), .int .i64 1000] 3) hZ6l).trans hZ6) hg7 (by omega)
          have hX7 := heap_far ((heap_alloc_old w6 (.cells #[.int .i64 (-1), .int .i64 1000] 3) hX6l).trans hX6) hg7 hb5.1
          have hP7 := (hP6.next (below_bo w6 (.cells #[.int .i64 (-1), .int .i64 1000] 3))).far hg7 hgW
          have hG7 := grown_trans (grown_alloc hG6 (.cells #[.int .i64 (-1), .int .i64 1000] 3)) hg7
          obtain ⟨kq7, fq7⟩ := blk hq7
          have hq7l := heap_lt hq7
          have hX7l := heap_lt hX7
          clear hs7 hg7 hZ6 hX6 hP6 hr6 hG6
          rcases (show k7 = 0 ∨ k7 = 1 by omega) with rfl | rfl
          · go_wp2_with (first | (refine wpList_store_at rfl 3 (.tmp 66) (.tmp 65) rfl (.int .i64 (-1)) #[.int .i64 x23_0, .int .i64 (-1), .slice A2 n23 c2] hX7 rfl rfl (by kernel_rfl) rfl rfl (by simp) rfl ?_; intro w8 hX hg8 hs8; have hZ := heap_far hZ7 hg8 (by omega); obtain ⟨k1, f1⟩ := blk hX; have lx := heap_lt hX) | (refine wpList_store_var rfl 29 (.tmp 4) (.tmp 76) rfl #[.int .i64 (x23_0), .int .i64 (-1), .slice (A2) (n23) (c2)] hZ rfl rfl (by kernel_rfl) rfl rfl ?_; intro w9 hh9 hg9 hs9))
            have hP := hP7.kept hg8 (.inr hPx)
            have hr := hr7.far hg8 hb5.1 (by omega)
            have hG := grown_far hG7 hg8 (by omega)
            have hr9 := hr.far hg9 (show w.heap.size ≠ g by omega) (by omega)
            have hG9 := grown_far hG hg9 (Nat.le_refl _)
            have hP9 := hP.kept hg9 (.inr fun e => by have := (hP.block _ e).1; omega)
            obtain ⟨k9, f9⟩ := blk hh9
            refine bodyPost_ret (v := .agg #[.int .i64 (x23_0), .int .i64 (-1), .slice (A2) (n23) (c2)]) (by simp [results, Try.results32, go_sem, k9]) rfl ⟨_, _, _, _, _, _, rfl, by omega, by omega, hP9.base (by omega), by omega, hr9, hG9⟩
          · go_wp2_with (first | (refine wpList_store_at rfl 3 (.tmp 66) (.tmp 65) rfl (.int .i64 1000) #[.int .i64 x23_0, .int .i64 1000, .slice A2 n23 c2] hX7 rfl rfl (by kernel_rfl) rfl rfl (by simp) rfl ?_; intro w8 hX hg8 hs8; have hZ := heap_far hZ7 hg8 (by omega); obtain ⟨k1, f1⟩ := blk hX; have lx := heap_lt hX) | (refine wpList_store_var rfl 29 (.tmp 4) (.tmp 76) rfl #[.int .i64 (x23_0), .int .i64 (1000), .slice (A2) (n23) (c2)] hZ rfl rfl (by kernel_rfl) rfl rfl ?_; intro w9 hh9 hg9 hs9))
            have hP := hP7.kept hg8 (.inr hPx)
            have hr := hr7.far hg8 hb5.1 (by omega)
            have hG := grown_far hG7 hg8 (by omega)
            have hr9 := hr.far hg9 (show w.heap.size ≠ g by omega) (by omega)
            have hG9 := grown_far hG hg9 (Nat.le_refl _)
            have hP9 := hP.kept hg9 (.inr fun e => by have := (hP.block _ e).1; omega)
            obtain ⟨k9, f9⟩ := blk hh9
            refine bodyPost_ret (v := .agg #[.int .i64 (x23_0), .int .i64 (1000), .slice (A2) (n23) (c2)]) (by simp [results, Try.results32, go_sem, k9]) rfl ⟨_, _, _, _, _, _, rfl, by omega, by omega, hP9.base (by omega), by omega, hr9, hG9⟩
        · obtain ⟨b, cb, eb, hBb, hbl⟩ := hP6.at_ (by omega)
          cases eb
          have PH := hP6.base (B' := 0) (Nat.zero_le _)
          obtain ⟨⟨o0, hz0, _⟩, _, hnc0, hcm0⟩ := PH.arr
          have hbX : b ≠ a5 := fun e => hPx (by rw [← e]; rfl)
          have hbg : b ≠ g := by omega
          have hBz : B ≤ b := by omega
          have hXz : a5 ≠ g ∧ a5 ≠ b := ⟨hb5.1, Ne.symm hbX⟩
          go_upto_region 18 with (fail)
          refine wp_region_draws (ds := [(0, 69), (1, 70), (2, 71), (3, 72), (4, 73), (5, 74), (6, 75)]) (B := B) (g := g) (z := b) (O := arrO 39 [true, true, true, true, true] (n23 + 1) c2) (A := A) (m := m) (c := c) (p := _) 7 101 [kIs g (b) (arrO 39 [true, true, true, true, true] (n23 + 1) c2) (.pointer (some ⟨a5, 2, none⟩)), kIs g (b) (arrO 39 [true, true, true, true, true] (n23 + 1) c2) (.slice (some ⟨b, 0, none⟩) n23 c2), kIs g (b) (arrO 39 [true, true, true, true, true] (n23 + 1) c2) (.pointer (some ⟨g, 0, none⟩)), kVal g (b) (arrO 39 [true, true, true, true, true] (n23 + 1) c2) (fun v => ∃ y0 : Int, ∃ y1 : Int, ∃ y2 : Int, ∃ y3 : Int, ∃ y4 : Int, (-1) ≤ y0 ∧ y0 ≤ 1000 ∧ (-1) ≤ y1 ∧ y1 ≤ 1000 ∧ (-1) ≤ y2 ∧ y2 ≤ 1000 ∧ (-1) ≤ y3 ∧ y3 ≤ 1000 ∧ (-1) ≤ y4 ∧ y4 ≤ 1000 ∧ v = .agg #[.int .i64 y0, .int .i64 y1, .int .i64 y2, .int .i64 y3, .int .i64 y4]), kArr g (b) (arrO 39 [true, true, true, true, true] (n23 + 1) c2) 39 1 (fun cs => ∃ y0 : Int, ∃ y1 : Int, ∃ y2 : Int, ∃ y3 : Int, ∃ y4 : Int, (-1) ≤ y0 ∧ y0 ≤ 1000 ∧ (-1) ≤ y1 ∧ y1 ≤ 1000 ∧ (-1) ≤ y2 ∧ y2 ≤ 1000 ∧ (-1) ≤ y3 ∧ y3 ≤ 1000 ∧ (-1) ≤ y4 ∧ y4 ≤ 1000 ∧ cs = #[.int .i64 y0, .int .i64 y1, .int .i64 y2, .int .i64 y3, .int .i64 y4]), kGrow g (b) 39 [true, true, true, true, true] (n23) (c2) (w6.heap.size), kIs g (b) (arrO 39 [true, true, true, true, true] (n23 + 1) c2) (.pointer (some ⟨a5, 2, none⟩))] (by kernel_rfl) (by kernel_rfl) (by first | exact .inl rfl | exact .inr (by kernel_rfl)) hr6 (heap_lt hz0) (by rfl) ?_ rfl rfl ?_
          · refine each_cons ?_ ( each_cons ?_ ( each_cons ?_ ( each_cons ?_ ( each_cons ?_ ( each_cons ?_ ( each_cons ?_ ( each_nil)))))))
            · intro q a' w' hq hRd hLe hzl hfr hdep
              have e5 : a'.tmps.getD 5 undef = .pointer (some ⟨a5, 0, none⟩) := hfr 5 rfl
              have f5 := e5; simp only [Array.getD_eq_getD_getElem?] at f5
              refine wpOp_plain rfl rfl (fun K hK => ?_)
              go_simp
              exact hK _ _ ⟨_, q, rfl, by omega, hRd, Turns.refl _, rfl, nofun⟩
            · intro q a' w' hq hRd hLe hzl hfr hdep
              have e69 : a'.tmps.getD 69 undef = .pointer (some ⟨a5, 2, none⟩) := hdep 0 _ 69 rfl rfl rfl
              have f69 := e69; simp only [Array.getD_eq_getD_getElem?] at f69
              have hhx := hLe.keep hX6 hXz.1 hXz.2
              obtain ⟨kx, fx⟩ := blk hhx; clear hhx
              refine wpOp_plain rfl rfl (fun K hK => ?_)
              go_simp
              exact hK _ _ ⟨_, q, rfl, by omega, hRd, Turns.refl _, rfl, nofun⟩
            · intro q a' w' hq hRd hLe hzl hfr hdep
              have e0 : a'.tmps.getD 0 undef = .pointer (some ⟨g, 0, none⟩) := hfr 0 rfl
              have f0 := e0; simp only [Array.getD_eq_getD_getElem?] at f0
              refine wpOp_plain rfl rfl (fun K hK => ?_)
              go_simp
              exact hK _ _ ⟨_, q, rfl, by omega, hRd, Turns.refl _, rfl, nofun⟩
            · intro q a' w' hq hRd hLe hzl hfr hdep
              have e71 : a'.tmps.getD 71 undef = .pointer (some ⟨g, 0, none⟩) := hdep 2 _ 71 rfl rfl rfl
              have f71 := e71; simp only [Array.getD_eq_getD_getElem?] at f71
              refine wpOp_plain rfl rfl (fun K hK => ?_)
              go_simp
              refine (l20Flow_any hRd _ (by omega) (by omega)).mono ?_
              rintro e w2 ⟨v, q2, rfl, ⟨u0, u1, u2, u3, u4, rfl, v0, v1, v2, v3, v4⟩, hq2, hr, hg⟩
              exact hK _ _ ⟨_, _, rfl, by omega, hr, Turns.of_grown hg, ⟨u0, u1, u2, u3, u4, v0.1, v0.2, v1.1, v1.2, v2.1, v2.2, v3.1, v3.2, v4.1, v4.2, rfl⟩, nofun⟩
            · intro q a' w' hq hRd hLe hzl hfr hdep
              obtain ⟨x72_0, x72_1, x72_2, x72_3, x72_4, bx72_0, cx72_0, bx72_1, cx72_1, bx72_2, cx72_2, bx72_3, cx72_3, bx72_4, cx72_4, e72⟩ : (kVal g (b) (arrO 39 [true, true, true, true, true] (n23 + 1) c2) (fun v => ∃ y0 : Int, ∃ y1 : Int, ∃ y2 : Int, ∃ y3 : Int, ∃ y4 : Int, (-1) ≤ y0 ∧ y0 ≤ 1000 ∧ (-1) ≤ y1 ∧ y1 ≤ 1000 ∧ (-1) ≤ y2 ∧ y2 ≤ 1000 ∧ (-1) ≤ y3 ∧ y3 ≤ 1000 ∧ (-1) ≤ y4 ∧ y4 ≤ 1000 ∧ v = .agg #[.int .i64 y0, .int .i64 y1, .int .i64 y2, .int .i64 y3, .int .i64 y4])).p (a'.tmps.getD 72 undef) w' := hdep 3 _ 72 rfl rfl rfl
              have f72 := e72; simp only [Array.getD_eq_getD_getElem?] at f72
              refine wpOp_plain rfl rfl (fun K hK => ?_)
              go_simp
              exact hK _ _ ⟨_, q, rfl, by omega, hRd.alloc _, Turns.alloc _ _, ⟨_, _, rfl, by have := hRd.lt; omega, heap_alloc_new _ _, x72_0, x72_1, x72_2, x72_3, x72_4, by omega, by omega, by omega, by omega, by omega, by omega, by omega, by omega, by omega, by omega, rfl⟩, nofun⟩
            · intro q a' w' hq hRd hLe hzl hfr hdep
              have e70 : a'.tmps.getD 70 undef = .slice (some ⟨b, 0, none⟩) n23 c2 := hdep 1 _ 70 rfl rfl rfl
              have f70 := e70; simp only [Array.getD_eq_getD_getElem?] at f70
              obtain ⟨a73, cs73, e73, hb73, hh73, y73_0, y73_1, y73_2, y73_3, y73_4, by73_0, cy73_0, by73_1, cy73_1, by73_2, cy73_2, by73_3, cy73_3, by73_4, cy73_4, rfl⟩ : (kArr g (b) (arrO 39 [true, true, true, true, true] (n23 + 1) c2) 39 1 (fun cs => ∃ y0 : Int, ∃ y1 : Int, ∃ y2 : Int, ∃ y3 : Int, ∃ y4 : Int, (-1) ≤ y0 ∧ y0 ≤ 1000 ∧ (-1) ≤ y1 ∧ y1 ≤ 1000 ∧ (-1) ≤ y2 ∧ y2 ≤ 1000 ∧ (-1) ≤ y3 ∧ y3 ≤ 1000 ∧ (-1) ≤ y4 ∧ y4 ≤ 1000 ∧ cs = #[.int .i64 y0, .int .i64 y1, .int .i64 y2, .int .i64 y3, .int .i64 y4])).p (a'.tmps.getD 73 undef) w' := hdep 4 _ 73 rfl rfl rfl
              have f73 := e73; simp only [Array.getD_eq_getD_getElem?] at f73
              refine wpOp_plain rfl rfl (fun K hK => ?_)
              refine wp_push (g := g) (zb := b) (B := w6.heap.size) (n := n23) (c := c2) (ks := [true, true, true, true, true]) (.tmp 70) (.tmp 73) 27 rfl _ 40 Try.underlying27 info_flowL (by decide) (by decide) (by decide) e70 (pacc_turned PH hLe hbg) hbg e73 hh73 (plain5 (by omega)) (by omega) hRd.lt (by have := hLe.size; omega) ?_
              intro v2 w2 hv2 hT2 hO2
              exact hK _ _ ⟨_, q, rfl, by omega, hRd.pushed hO2 hbg hBz, hT2, hv2, nofun⟩
            · intro q a' w' hq hRd hLe hzl hfr hdep
              have e5 : a'.tmps.getD 5 undef = .pointer (some ⟨a5, 0, none⟩) := hfr 5 rfl
              have f5 := e5; simp only [Array.getD_eq_getD_getElem?] at f5
              refine wpOp_plain rfl rfl (fun K hK => ?_)
              go_simp
              exact hK _ _ ⟨_, q, rfl, by omega, hRd, Turns.refl _, rfl, nofun⟩
          intro vs w7 q7 hq7 hr7 hg7 hT7 hN7
          obtain h74 : (kGrow g (b) 39 [true, true, true, true, true] (n23) (c2) (w6.heap.size)).p (vs 5) w7 := hT7 5 74 rfl
          have e75 : vs 6 = .pointer (some ⟨a5, 2, none⟩) := hT7 6 75 rfl
          clear hT7 hN7
          simp only [putAll, List.drop_succ_cons, List.drop_zero, e75]
          clear e75
          go_simp
          obtain ⟨b', c', hv, hb'g, hb'c, hb'B, hP'⟩ := h74
          have hb'l := (hP'.block b' (by rw [hv]; rfl)).2
          rw [hv] at hP' ⊢
          have hX7 := hg7.keep hX6 hXz.1 hXz.2
          have hZ7 := hg7.keep hZ6 (by omega) (by omega)
          have hs7 := hg7.size
          have hbX7 : b' ≠ a5 := fun e => by
            obtain ⟨c2, h2⟩ := hP'.typed (k := b') rfl
            rw [e] at h2
            exact typed_ne h2 hX7 (by decide)
          have hG7 : w.grownBy w7 (some g) := ⟨hg7.os.trans hG6.os, hg7.tape.trans hG6.tape, hg7.output.trans hG6.output, by omega, fun k hk hne => by
            have h1 : k ≠ g := by simpa using hne
            rcases hg7.block k (by omega) h1 with h2 | ⟨h2, _⟩
            · exact h2.trans (hG6.block k hk hne)
            · omega⟩
          refine wpList_store_at rfl 27 (.tmp 75) (.tmp 74) rfl (.slice (some ⟨b', 0, none⟩) (n23 + 1) c') #[.int .i64 x23_0, .int .i64 x23_1, .slice (some ⟨b', 0, none⟩) (n23 + 1) c'] hX7 rfl rfl (by kernel_rfl) rfl rfl (by simp) rfl ?_
          intro w8 hX hg8 hs8
          have hZ := heap_far hZ7 hg8 (by omega)
          have hP := hP'.kept hg8 (.inr (by simpa [Value.ownBlock] using hbX7))
          have hr := hr7.far hg8 hb5.1 (by omega)
          have hG := grown_far hG7 hg8 (by omega)
          have hb'lo : w.heap.size + 1 ≤ b' := by omega
          clear hX6 hZ6 hP6 hr6 hG6 hX7 hZ7 hr7 hG7 hg7 hg8 hb'c hb'B hP'
          have hP' : PAcc w8 (w.heap.size + 1) 39 [true, true, true, true, true] (.slice (some ⟨b', 0, none⟩) (n23 + 1) c') (n23 + 1) := by
            obtain ⟨⟨o, ho, ha⟩, _, h3, h4⟩ := hP.arr
            exact pacc_of ho ha hb'lo h3 h4
          clear hP
          have hP := hP'
          obtain ⟨k1, f1⟩ := blk hX
          go_wp2_with (refine wpList_store_var rfl 29 (.tmp 4) (.tmp 76) rfl _ hZ rfl rfl (by kernel_rfl) rfl rfl ?_)
          intro w9 hh9 hg9 hs9
          have hr9 := hr.far hg9 (show w.heap.size ≠ g by omega) (by omega)
          have hG9 := grown_far hG hg9 (Nat.le_refl _)
          have hP9 := hP.kept hg9 (.inr fun e => by have := (hP.block _ e).1; omega)
          obtain ⟨k9, f9⟩ := blk hh9
          go_wp2
          refine bodyPost_ret (v := .agg #[.int .i64 (x23_0), .int .i64 (x23_1), .slice ((some ⟨b', 0, none⟩)) (n23 + 1) (c')]) (by simp [results, Try.results32, go_sem, k9]) rfl ⟨_, _, _, _, _, _, rfl, by omega, by omega, hP9.base (by omega), by omega, hr9, hG9⟩
        · obtain ⟨iT, hi, hzz⟩ := Option.map_eq_some_iff.1 info_flowP
          simp only [Prod.mk.injEq] at hzz
          obtain ⟨hz, hs, hbt⟩ := hzz
          have hmk := run_make_rows (P := Try.prog) 27 39 iT _ 5 Try.underlying27 hi hz hs 9 (by rw [hbt]; omega) (by omega) w6
          have hN := new_zero w6 39 (Value.agg #[.int .i64 0, .int .i64 0, .int .i64 0, .int .i64 0, .int .i64 0]).cells 5 9 rfl (by omega)
          obtain ⟨M, hM⟩ : ∃ M : World, M = w6.alloc (.cells (madeCells (Value.agg #[.int .i64 0, .int .i64 0, .int .i64 0, .int .i64 0, .int .i64 0]).cells (9 * 5)) 39) := ⟨_, rfl⟩
          have hbM : Below w6.heap.size w6 M := by rw [hM]; exact below_bo _ _
          have hMs : w6.heap.size < M.heap.size := by rw [hM]; simp
          have hmk2 : (Instr.makeSlice 27 (.int .i64 9) (.int .i64 9)).run Try.prog w6 = .ok (.slice (some ⟨w6.heap.size, 0, none⟩) 9 9) M := by rw [hM]; exact hmk
          rw [← hM] at hN
          clear hmk hM
          have hXM := (hbM.block a5 hX6l).trans hX6
          have hZM := (hbM.block w.heap.size hZ6l).trans hZ6
          have hrM := hr6.below hbM
          have hGM := grown_low hG6 (hbM.mono hz6)
          have hPM : PAcc M (w.heap.size + 1) 39 [true, true, true, true, true] (.slice (some ⟨w6.heap.size, 0, none⟩) 9 9) 9 := ⟨fun _ => zeros [true, true, true, true, true], fun _ => plain_zeros _, Acc.of_new hN (by omega) (by unfold maxLen; omega) (fun _ => rfl)⟩
          clear hX6 hZ6 hP6 hr6 hG6 hi hz hs hbt hN
          go_wp2_with (first | (refine wpList_store_at rfl 27 (.tmp 55) (.tmp 54) rfl (.slice (some ⟨w6.heap.size, 0, none⟩) 9 9) #[.int .i64 x23_0, .int .i64 x23_1, .slice (some ⟨w6.heap.size, 0, none⟩) 9 9] hXM rfl rfl (by kernel_rfl) rfl rfl (by simp) rfl ?_; intro w8 hX hg8 hs8; have hZ := heap_far hZM hg8 (by omega); obtain ⟨k1, f1⟩ := blk hX; have lx := heap_lt hX) | (refine wpList_store_var rfl 29 (.tmp 4) (.tmp 76) rfl #[.int .i64 (x23_0), .int .i64 (x23_1), .slice ((some ⟨w6.heap.size, 0, none⟩)) (9) (9)] hZ rfl rfl (by kernel_rfl) rfl rfl ?_; intro w9 hh9 hg9 hs9))
          have hP := hPM.kept hg8 (.inr (by simp [Value.ownBlock]; omega))
          have hr := hrM.far hg8 hb5.1 (by omega)
          have hG := grown_far hGM hg8 (by omega)
          have hr9 := hr.far hg9 (show w.heap.size ≠ g by omega) (by omega)
          have hG9 := grown_far hG hg9 (Nat.le_refl _)
          have hP9 := hP.kept hg9 (.inr fun e => by have := (hP.block _ e).1; omega)
          obtain ⟨k9, f9⟩ := blk hh9
          refine bodyPost_ret (v := .agg #[.int .i64 (x23_0), .int .i64 (x23_1), .slice ((some ⟨w6.heap.size, 0, none⟩)) (9) (9)]) (by simp [results, Try.results32, go_sem, k9]) rfl ⟨_, _, _, _, _, _, rfl, by omega, by omega, hP9.base (by omega), by omega, hr9, hG9⟩
end Go.Proofs.Ytahniedcflfdmaa
