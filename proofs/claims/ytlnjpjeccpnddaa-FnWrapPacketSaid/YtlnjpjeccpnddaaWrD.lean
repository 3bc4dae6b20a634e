/-
  What DrawWrapPacket draws.
-/
import Derived.Test.YtlnjpjeccpnddaaHpL
namespace Go.Proofs.Ytlnjpjeccpnddaa
open Go Go.RowKit

/-- A drawn packet, and two addresses. -/
def DrawnWr (w : World) (e : Ending) (w' : World) : Prop :=
  ∃ f t k l x y : Int, ∃ b n cc z, e = .returned (.tuple #[.agg #[.int .i64 f, .int .i64 t, .int .i64 k, .int .i64 l, .slice (some ⟨b, 0, none⟩) n cc], .int .i64 x, .int .i64 y]) ∧ n ≤ 81 ∧ (-1 ≤ y ∧ y ≤ 256) ∧ Own w' w.heap.size 5 1 (some ⟨b, 0, none⟩) n cc (byteR (cap z)) ∧ Below w.heap.size w w'
set_option maxRecDepth 20000 in
set_option maxHeartbeats 8000000 in
theorem drawWrapPacket_any {w : World} {A : Option Addr} {n c : Nat} (h : Bytes w w.heap.size A n c) :
    Calls Try.prog 17 #[.slice A n c] w (DrawnWr w) := by
  go_enter Try.func17, Try.ntmps17
  go_wp2_with fail
  refine (open_any (h.alloc (Nat.le_refl _) _) (by simp)).mono ?_
  rintro e w1 ⟨m, g, rfl, hgl, hr1, hb1, hs1⟩
  have hB1 : Below w.heap.size w w1 := (below_new w _).trans (hb1.mono (by simp))
  have hz1 := (hb1.block w.heap.size (by simp)).trans (heap_alloc_new w _)
  have hs2 := hb1.size
  simp at hgl hs2
  clear hs1
  go_wp2_with fail
  refine (l20Packet_any hr1 _ (by omega) (by omega)).mono ?_
  rintro e w2 ⟨f, t, k, l, b, n1, cc, z, q, rfl, h1, h2, h3, hN, h4, h5, h6⟩
  have hz2 := heap_far hz1 h6 (by omega)
  have hs3 := h6.size
  have hB2 : Below w.heap.size w w2 := hB1.trans (below_grown h6 hB1.size (by omega))
  have hnz : b ≠ w.heap.size := fun e => by
    subst e
    obtain ⟨cs, q1, _⟩ := hN
    exact typed_ne q1 hz2 (by decide)
  have hng : b ≠ g := fun e => by
    subst e
    obtain ⟨cs, q1, _⟩ := hN
    exact typed_ne q1 h5.1 (by decide)
  have hgs : g < w2.heap.size := h5.lt
  have hz3 := (heap_alloc_old w2 (.cells #[.int .i64 f, .int .i64 t, .int .i64 k, .int .i64 l, .slice (some ⟨b, 0, none⟩) n1 cc] 24) (heap_lt hz2)).trans hz2
  have hh6 := heap_alloc_new w2 (.cells #[.int .i64 f, .int .i64 t, .int .i64 k, .int .i64 l, .slice (some ⟨b, 0, none⟩) n1 cc] 24)
  have hr3 := h5.alloc (.cells #[.int .i64 f, .int .i64 t, .int .i64 k, .int .i64 l, .slice (some ⟨b, 0, none⟩) n1 cc] 24)
  have hB3 := Below.al hB2 (.cells #[.int .i64 f, .int .i64 t, .int .i64 k, .int .i64 l, .slice (some ⟨b, 0, none⟩) n1 cc] 24)
  have hN3 := hN.below (below_new w2 (.cells #[.int .i64 f, .int .i64 t, .int .i64 k, .int .i64 l, .slice (some ⟨b, 0, none⟩) n1 cc] 24)) hN.lt
  have hbl := hN3.lt
  have hb6 : w2.heap.size ≠ g ∧ w2.heap.size ≠ w.heap.size := by have := hB2.size; have := heap_lt hz2; omega
  have hne : w.heap.size ≠ g := by omega
  obtain ⟨B, hBe⟩ : ∃ B, B = w.heap.size := ⟨_, rfl⟩
  rw [← hBe] at hr3
  have hBle : B ≤ w.heap.size := by omega
  clear hz1 h6 hz2 hN hBe h5
  go_upto_region 3 with (fail)
  refine wp_region_draws (ds := [(0, 11), (1, 12), (2, 13), (3, 14), (4, 15), (5, 16), (6, 17), (7, 18), (8, 19), (9, 20), (10, 21), (11, 22), (12, 23), (13, 24), (14, 25), (15, 26), (16, 27), (18, 3), (19, 4)]) (B := B) (g := g) (z := w.heap.size) (O := (· = .cells #[.int .i64 f, .int .i64 t, .int .i64 k, .int .i64 l, .slice (some ⟨b, 0, none⟩) n1 cc] 24 (0, 0))) (A := A) (m := m) (c := c) (p := _) 20 1 [kIs g (w.heap.size) ((· = .cells #[.int .i64 f, .int .i64 t, .int .i64 k, .int .i64 l, .slice (some ⟨b, 0, none⟩) n1 cc] 24 (0, 0))) (.agg #[.int .i64 f, .int .i64 t, .int .i64 k, .int .i64 l, .slice (some ⟨b, 0, none⟩) n1 cc]), kIs g (w.heap.size) ((· = .cells #[.int .i64 f, .int .i64 t, .int .i64 k, .int .i64 l, .slice (some ⟨b, 0, none⟩) n1 cc] 24 (0, 0))) (.pointer (some ⟨g, 0, none⟩)), kInt g (w.heap.size) ((· = .cells #[.int .i64 f, .int .i64 t, .int .i64 k, .int .i64 l, .slice (some ⟨b, 0, none⟩) n1 cc] 24 (0, 0))) 0 255, kArr g (w.heap.size) ((· = .cells #[.int .i64 f, .int .i64 t, .int .i64 k, .int .i64 l, .slice (some ⟨b, 0, none⟩) n1 cc] 24 (0, 0))) 3 2 (fun cs => ∃ y0 : Int, 0 ≤ y0 ∧ y0 ≤ 255 ∧ cs = #[.int .i64 y0, .int .i64 256]), kIs g (w.heap.size) ((· = .cells #[.int .i64 f, .int .i64 t, .int .i64 k, .int .i64 l, .slice (some ⟨b, 0, none⟩) n1 cc] 24 (0, 0))) (.pointer (some ⟨g, 0, none⟩)), kInt g (w.heap.size) ((· = .cells #[.int .i64 f, .int .i64 t, .int .i64 k, .int .i64 l, .slice (some ⟨b, 0, none⟩) n1 cc] 24 (0, 0))) 0 13, kInt g (w.heap.size) ((· = .cells #[.int .i64 f, .int .i64 t, .int .i64 k, .int .i64 l, .slice (some ⟨b, 0, none⟩) n1 cc] 24 (0, 0))) 0 1, kCell g (w.heap.size) ((· = .cells #[.int .i64 f, .int .i64 t, .int .i64 k, .int .i64 l, .slice (some ⟨b, 0, none⟩) n1 cc] 24 (0, 0))) (fun v => ∃ y0 : Int, 0 ≤ y0 ∧ y0 ≤ 256 ∧ v = .int .i64 y0), kInt g (w.heap.size) ((· = .cells #[.int .i64 f, .int .i64 t, .int .i64 k, .int .i64 l, .slice (some ⟨b, 0, none⟩) n1 cc] 24 (0, 0))) 0 256, kIs g (w.heap.size) ((· = .cells #[.int .i64 f, .int .i64 t, .int .i64 k, .int .i64 l, .slice (some ⟨b, 0, none⟩) n1 cc] 24 (0, 0))) (.pointer (some ⟨g, 0, none⟩)), kInt g (w.heap.size) ((· = .cells #[.int .i64 f, .int .i64 t, .int .i64 k, .int .i64 l, .slice (some ⟨b, 0, none⟩) n1 cc] 24 (0, 0))) 0 255, kArr g (w.heap.size) ((· = .cells #[.int .i64 f, .int .i64 t, .int .i64 k, .int .i64 l, .slice (some ⟨b, 0, none⟩) n1 cc] 24 (0, 0))) 3 2 (fun cs => ∃ y0 : Int, 0 ≤ y0 ∧ y0 ≤ 255 ∧ cs = #[.int .i64 y0, .int .i64 (-1)]), kIs g (w.heap.size) ((· = .cells #[.int .i64 f, .int .i64 t, .int .i64 k, .int .i64 l, .slice (some ⟨b, 0, none⟩) n1 cc] 24 (0, 0))) (.pointer (some ⟨g, 0, none⟩)), kInt g (w.heap.size) ((· = .cells #[.int .i64 f, .int .i64 t, .int .i64 k, .int .i64 l, .slice (some ⟨b, 0, none⟩) n1 cc] 24 (0, 0))) 0 13, kInt g (w.heap.size) ((· = .cells #[.int .i64 f, .int .i64 t, .int .i64 k, .int .i64 l, .slice (some ⟨b, 0, none⟩) n1 cc] 24 (0, 0))) 0 1, kCell g (w.heap.size) ((· = .cells #[.int .i64 f, .int .i64 t, .int .i64 k, .int .i64 l, .slice (some ⟨b, 0, none⟩) n1 cc] 24 (0, 0))) (fun v => ∃ y0 : Int, (-1) ≤ y0 ∧ y0 ≤ 255 ∧ v = .int .i64 y0), kInt g (w.heap.size) ((· = .cells #[.int .i64 f, .int .i64 t, .int .i64 k, .int .i64 l, .slice (some ⟨b, 0, none⟩) n1 cc] 24 (0, 0))) (-1) 255, kSet g (w.heap.size) ((· = .cells #[.int .i64 f, .int .i64 t, .int .i64 k, .int .i64 l, .slice (some ⟨b, 0, none⟩) n1 cc] 24 (0, 0))) hne, kInt g (w.heap.size) ((· = .cells #[.int .i64 f, .int .i64 t, .int .i64 k, .int .i64 l, .slice (some ⟨b, 0, none⟩) n1 cc] 24 (0, 0))) 0 256, kInt g (w.heap.size) ((· = .cells #[.int .i64 f, .int .i64 t, .int .i64 k, .int .i64 l, .slice (some ⟨b, 0, none⟩) n1 cc] 24 (0, 0))) (-1) 255] (by kernel_rfl) (by kernel_rfl) (by first | exact .inl rfl | exact .inr (by kernel_rfl)) hr3 (heap_lt hz3) (by rfl) ?_ rfl rfl ?_
  · refine each_cons ?_ ( each_cons ?_ ( each_cons ?_ ( each_cons ?_ ( each_cons ?_ ( each_cons ?_ ( each_cons ?_ ( each_cons ?_ ( each_cons ?_ ( each_cons ?_ ( each_cons ?_ ( each_cons ?_ ( each_cons ?_ ( each_cons ?_ ( each_cons ?_ ( each_cons ?_ ( each_cons ?_ ( each_cons ?_ ( each_cons ?_ ( each_cons ?_ ( each_nil))))))))))))))))))))
    · intro q a' w' hq hRd hLe hzl hfr hdep
      have e6 : a'.tmps.getD 6 undef = .pointer (some ⟨w2.heap.size, 0, none⟩) := hfr 6 rfl
      have f6 := e6; simp only [Array.getD_eq_getD_getElem?] at f6
      have hhx := hLe.keep hh6 hb6.1 hb6.2
      obtain ⟨kx, fx⟩ := blk hhx; clear hhx
      refine wpOp_plain rfl rfl (fun K hK => ?_)
      go_simp
      exact hK _ _ ⟨_, q, rfl, by omega, hRd, Turns.refl _, rfl, nofun⟩
    · intro q a' w' hq hRd hLe hzl hfr hdep
      have e5 : a'.tmps.getD 5 undef = .pointer (some ⟨g, 0, none⟩) := hfr 5 rfl
      have f5 := e5; simp only [Array.getD_eq_getD_getElem?] at f5
      refine wpOp_plain rfl rfl (fun K hK => ?_)
      go_simp
      exact hK _ _ ⟨_, q, rfl, by omega, hRd, Turns.refl _, rfl, nofun⟩
    · intro q a' w' hq hRd hLe hzl hfr hdep
      have e12 : a'.tmps.getD 12 undef = .pointer (some ⟨g, 0, none⟩) := hdep 1 _ 12 rfl rfl rfl
      have f12 := e12; simp only [Array.getD_eq_getD_getElem?] at f12
      refine wpOp_plain rfl rfl (fun K hK => ?_)
      go_simp
      refine (pick_any hRd _ (by omega)).mono ?_
      rintro e w2 ⟨k, rfl, hk, hr, hg, hs⟩
      have hk1 := hk.1; have hk2 := hk.2.1; have hk3 := hk.2.2
      exact hK _ _ ⟨_, _, rfl, by omega, hr, Turns.of_grown hg, ⟨k, rfl, by omega, by omega⟩, nofun⟩
    · intro q a' w' hq hRd hLe hzl hfr hdep
      obtain ⟨x13, e13, b13, c13⟩ : (kInt g (w.heap.size) ((· = .cells #[.int .i64 f, .int .i64 t, .int .i64 k, .int .i64 l, .slice (some ⟨b, 0, none⟩) n1 cc] 24 (0, 0))) 0 255).p (a'.tmps.getD 13 undef) w' := hdep 2 _ 13 rfl rfl rfl
      have f13 := e13; simp only [Array.getD_eq_getD_getElem?] at f13
      refine wpOp_plain rfl rfl (fun K hK => ?_)
      go_simp
      exact hK _ _ ⟨_, q, rfl, by omega, hRd.alloc _, Turns.alloc _ _, ⟨_, _, rfl, by have := hRd.lt; omega, heap_alloc_new _ _, x13, by omega, by omega, rfl⟩, nofun⟩
    · intro q a' w' hq hRd hLe hzl hfr hdep
      have e5 : a'.tmps.getD 5 undef = .pointer (some ⟨g, 0, none⟩) := hfr 5 rfl
      have f5 := e5; simp only [Array.getD_eq_getD_getElem?] at f5
      refine wpOp_plain rfl rfl (fun K hK => ?_)
      go_simp
      exact hK _ _ ⟨_, q, rfl, by omega, hRd, Turns.refl _, rfl, nofun⟩
    · intro q a' w' hq hRd hLe hzl hfr hdep
      have e15 : a'.tmps.getD 15 undef = .pointer (some ⟨g, 0, none⟩) := hdep 4 _ 15 rfl rfl rfl
      have f15 := e15; simp only [Array.getD_eq_getD_getElem?] at f15
      refine wpOp_plain rfl rfl (fun K hK => ?_)
      go_simp
      refine (pick_any hRd _ (by omega)).mono ?_
      rintro e w2 ⟨k, rfl, hk, hr, hg, hs⟩
      have hk1 := hk.1; have hk2 := hk.2.1; have hk3 := hk.2.2
      exact hK _ _ ⟨_, _, rfl, by omega, hr, Turns.of_grown hg, ⟨k, rfl, by omega, by omega⟩, nofun⟩
    · intro q a' w' hq hRd hLe hzl hfr hdep
      obtain ⟨x16, e16, b16, c16⟩ : (kInt g (w.heap.size) ((· = .cells #[.int .i64 f, .int .i64 t, .int .i64 k, .int .i64 l, .slice (some ⟨b, 0, none⟩) n1 cc] 24 (0, 0))) 0 13).p (a'.tmps.getD 16 undef) w' := hdep 5 _ 16 rfl rfl rfl
      have f16 := e16; simp only [Array.getD_eq_getD_getElem?] at f16
      have r17 : IntKind.i64.wrap (x16.tdiv 13) = x16 / 13 := by rw [Int.tdiv_eq_ediv_of_nonneg (by omega)]; exact IntWalk.i64_in _ (by omega)
      refine wpOp_plain rfl rfl (fun K hK => ?_)
      go_simp
      exact hK _ _ ⟨_, q, rfl, by omega, hRd, Turns.refl _, ⟨_, rfl, by omega, by omega⟩, nofun⟩
    · intro q a' w' hq hRd hLe hzl hfr hdep
      obtain ⟨a14, cs14, e14, hb14, hh14, y14_0, by14_0, cy14_0, rfl⟩ : (kArr g (w.heap.size) ((· = .cells #[.int .i64 f, .int .i64 t, .int .i64 k, .int .i64 l, .slice (some ⟨b, 0, none⟩) n1 cc] 24 (0, 0))) 3 2 (fun cs => ∃ y0 : Int, 0 ≤ y0 ∧ y0 ≤ 255 ∧ cs = #[.int .i64 y0, .int .i64 256])).p (a'.tmps.getD 14 undef) w' := hdep 3 _ 14 rfl rfl rfl
      have f14 := e14; simp only [Array.getD_eq_getD_getElem?] at f14
      obtain ⟨x17, e17, b17, c17⟩ : (kInt g (w.heap.size) ((· = .cells #[.int .i64 f, .int .i64 t, .int .i64 k, .int .i64 l, .slice (some ⟨b, 0, none⟩) n1 cc] 24 (0, 0))) 0 1).p (a'.tmps.getD 17 undef) w' := hdep 6 _ 17 rfl rfl rfl
      have f17 := e17; simp only [Array.getD_eq_getD_getElem?] at f17
      rcases (show x17 = 0 ∨ x17 = 1 by omega) with rfl | rfl
      · refine wpOp_plain rfl rfl (fun K hK => ?_)
        go_simp
        exact hK _ _ ⟨_, q, rfl, by omega, hRd, Turns.refl _, ⟨_, _, _, rfl, hb14, (cell_of_row _ _ 0 _ _ _ hh14).trans rfl, y14_0, by omega, by omega, rfl⟩, nofun⟩
      · refine wpOp_plain rfl rfl (fun K hK => ?_)
        go_simp
        exact hK _ _ ⟨_, q, rfl, by omega, hRd, Turns.refl _, ⟨_, _, _, rfl, hb14, (cell_of_row _ _ 1 _ _ _ hh14).trans rfl, 256, by omega, by omega, rfl⟩, nofun⟩
    · intro q a' w' hq hRd hLe hzl hfr hdep
      obtain ⟨a18, o18, v18, e18, hb18, hc18, y18_0, by18_0, cy18_0, rfl⟩ : (kCell g (w.heap.size) ((· = .cells #[.int .i64 f, .int .i64 t, .int .i64 k, .int .i64 l, .slice (some ⟨b, 0, none⟩) n1 cc] 24 (0, 0))) (fun v => ∃ y0 : Int, 0 ≤ y0 ∧ y0 ≤ 256 ∧ v = .int .i64 y0)).p (a'.tmps.getD 18 undef) w' := hdep 7 _ 18 rfl rfl rfl
      have f18 := e18; simp only [Array.getD_eq_getD_getElem?] at f18
      refine wpOp_plain rfl rfl (fun K hK => ?_)
      go_simp
      exact hK _ _ ⟨_, q, rfl, by omega, hRd, Turns.refl _, ⟨_, rfl, by omega, by omega⟩, nofun⟩
    · intro q a' w' hq hRd hLe hzl hfr hdep
      have e5 : a'.tmps.getD 5 undef = .pointer (some ⟨g, 0, none⟩) := hfr 5 rfl
      have f5 := e5; simp only [Array.getD_eq_getD_getElem?] at f5
      refine wpOp_plain rfl rfl (fun K hK => ?_)
      go_simp
      exact hK _ _ ⟨_, q, rfl, by omega, hRd, Turns.refl _, rfl, nofun⟩
    · intro q a' w' hq hRd hLe hzl hfr hdep
      have e20 : a'.tmps.getD 20 undef = .pointer (some ⟨g, 0, none⟩) := hdep 9 _ 20 rfl rfl rfl
      have f20 := e20; simp only [Array.getD_eq_getD_getElem?] at f20
      refine wpOp_plain rfl rfl (fun K hK => ?_)
      go_simp
      refine (pick_any hRd _ (by omega)).mono ?_
      rintro e w2 ⟨k, rfl, hk, hr, hg, hs⟩
      have hk1 := hk.1; have hk2 := hk.2.1; have hk3 := hk.2.2
      exact hK _ _ ⟨_, _, rfl, by omega, hr, Turns.of_grown hg, ⟨k, rfl, by omega, by omega⟩, nofun⟩
    · intro q a' w' hq hRd hLe hzl hfr hdep
      obtain ⟨x21, e21, b21, c21⟩ : (kInt g (w.heap.size) ((· = .cells #[.int .i64 f, .int .i64 t, .int .i64 k, .int .i64 l, .slice (some ⟨b, 0, none⟩) n1 cc] 24 (0, 0))) 0 255).p (a'.tmps.getD 21 undef) w' := hdep 10 _ 21 rfl rfl rfl
      have f21 := e21; simp only [Array.getD_eq_getD_getElem?] at f21
      refine wpOp_plain rfl rfl (fun K hK => ?_)
      go_simp
      exact hK _ _ ⟨_, q, rfl, by omega, hRd.alloc _, Turns.alloc _ _, ⟨_, _, rfl, by have := hRd.lt; omega, heap_alloc_new _ _, x21, by omega, by omega, rfl⟩, nofun⟩
    · intro q a' w' hq hRd hLe hzl hfr hdep
      have e5 : a'.tmps.getD 5 undef = .pointer (some ⟨g, 0, none⟩) := hfr 5 rfl
      have f5 := e5; simp only [Array.getD_eq_getD_getElem?] at f5
      refine wpOp_plain rfl rfl (fun K hK => ?_)
      go_simp
      exact hK _ _ ⟨_, q, rfl, by omega, hRd, Turns.refl _, rfl, nofun⟩
    · intro q a' w' hq hRd hLe hzl hfr hdep
      have e23 : a'.tmps.getD 23 undef = .pointer (some ⟨g, 0, none⟩) := hdep 12 _ 23 rfl rfl rfl
      have f23 := e23; simp only [Array.getD_eq_getD_getElem?] at f23
      refine wpOp_plain rfl rfl (fun K hK => ?_)
      go_simp
      refine (pick_any hRd _ (by omega)).mono ?_
      rintro e w2 ⟨k, rfl, hk, hr, hg, hs⟩
      have hk1 := hk.1; have hk2 := hk.2.1; have hk3 := hk.2.2
      exact hK _ _ ⟨_, _, rfl, by omega, hr, Turns.of_grown hg, ⟨k, rfl, by omega, by omega⟩, nofun⟩
    · intro q a' w' hq hRd hLe hzl hfr hdep
      obtain ⟨x24, e24, b24, c24⟩ : (kInt g (w.heap.size) ((· = .cells #[.int .i64 f, .int .i64 t, .int .i64 k, .int .i64 l, .slice (some ⟨b, 0, none⟩) n1 cc] 24 (0, 0))) 0 13).p (a'.tmps.getD 24 undef) w' := hdep 13 _ 24 rfl rfl rfl
      have f24 := e24; simp only [Array.getD_eq_getD_getElem?] at f24
      have r25 : IntKind.i64.wrap (x24.tdiv 13) = x24 / 13 := by rw [Int.tdiv_eq_ediv_of_nonneg (by omega)]; exact IntWalk.i64_in _ (by omega)
      refine wpOp_plain rfl rfl (fun K hK => ?_)
      go_simp
      exact hK _ _ ⟨_, q, rfl, by omega, hRd, Turns.refl _, ⟨_, rfl, by omega, by omega⟩, nofun⟩
    · intro q a' w' hq hRd hLe hzl hfr hdep
      obtain ⟨a22, cs22, e22, hb22, hh22, y22_0, by22_0, cy22_0, rfl⟩ : (kArr g (w.heap.size) ((· = .cells #[.int .i64 f, .int .i64 t, .int .i64 k, .int .i64 l, .slice (some ⟨b, 0, none⟩) n1 cc] 24 (0, 0))) 3 2 (fun cs => ∃ y0 : Int, 0 ≤ y0 ∧ y0 ≤ 255 ∧ cs = #[.int .i64 y0, .int .i64 (-1)])).p (a'.tmps.getD 22 undef) w' := hdep 11 _ 22 rfl rfl rfl
      have f22 := e22; simp only [Array.getD_eq_getD_getElem?] at f22
      obtain ⟨x25, e25, b25, c25⟩ : (kInt g (w.heap.size) ((· = .cells #[.int .i64 f, .int .i64 t, .int .i64 k, .int .i64 l, .slice (some ⟨b, 0, none⟩) n1 cc] 24 (0, 0))) 0 1).p (a'.tmps.getD 25 undef) w' := hdep 14 _ 25 rfl rfl rfl
      have f25 := e25; simp only [Array.getD_eq_getD_getElem?] at f25
      rcases (show x25 = 0 ∨ x25 = 1 by omega) with rfl | rfl
      · refine wpOp_plain rfl rfl (fun K hK => ?_)
        go_simp
        exact hK _ _ ⟨_, q, rfl, by omega, hRd, Turns.refl _, ⟨_, _, _, rfl, hb22, (cell_of_row _ _ 0 _ _ _ hh22).trans rfl, y22_0, by omega, by omega, rfl⟩, nofun⟩
      · refine wpOp_plain rfl rfl (fun K hK => ?_)
        go_simp
        exact hK _ _ ⟨_, q, rfl, by omega, hRd, Turns.refl _, ⟨_, _, _, rfl, hb22, (cell_of_row _ _ 1 _ _ _ hh22).trans rfl, (-1), by omega, by omega, rfl⟩, nofun⟩
    · intro q a' w' hq hRd hLe hzl hfr hdep
      obtain ⟨a26, o26, v26, e26, hb26, hc26, y26_0, by26_0, cy26_0, rfl⟩ : (kCell g (w.heap.size) ((· = .cells #[.int .i64 f, .int .i64 t, .int .i64 k, .int .i64 l, .slice (some ⟨b, 0, none⟩) n1 cc] 24 (0, 0))) (fun v => ∃ y0 : Int, (-1) ≤ y0 ∧ y0 ≤ 255 ∧ v = .int .i64 y0)).p (a'.tmps.getD 26 undef) w' := hdep 15 _ 26 rfl rfl rfl
      have f26 := e26; simp only [Array.getD_eq_getD_getElem?] at f26
      refine wpOp_plain rfl rfl (fun K hK => ?_)
      go_simp
      exact hK _ _ ⟨_, q, rfl, by omega, hRd, Turns.refl _, ⟨_, rfl, by omega, by omega⟩, nofun⟩
    · intro q a' w' hq hRd hLe hzl hfr hdep
      have e2 : a'.tmps.getD 2 undef = .pointer (some ⟨w.heap.size, 0, none⟩) := hfr 2 rfl
      have f2 := e2; simp only [Array.getD_eq_getD_getElem?] at f2
      have e11 : a'.tmps.getD 11 undef = .agg #[.int .i64 f, .int .i64 t, .int .i64 k, .int .i64 l, .slice (some ⟨b, 0, none⟩) n1 cc] := hdep 0 _ 11 rfl rfl rfl
      have f11 := e11; simp only [Array.getD_eq_getD_getElem?] at f11
      refine wpOp_plain rfl rfl (fun K hK => ?_)
      refine wp_store_z (cells := #[.int .i64 f, .int .i64 t, .int .i64 k, .int .i64 l, .slice (some ⟨b, 0, none⟩) n1 cc]) 24 (.tmp 2) (.tmp 11) rfl hLe hz3 hne (fun o ho => ⟨_, ho, rfl⟩) e2 e11 (by kernel_rfl) rfl rfl ?_
      intro w2 hh2 hg2
      exact hK _ _ ⟨_, q, rfl, by omega, hRd.far hg2 hne (by omega), Turns.set_z hh2 rfl hg2, ⟨rfl, _, rfl, hh2⟩, fun _ => rfl⟩
    · intro q a' w' hq hRd hLe hzl hfr hdep
      obtain ⟨x19, e19, b19, c19⟩ : (kInt g (w.heap.size) ((· = .cells #[.int .i64 f, .int .i64 t, .int .i64 k, .int .i64 l, .slice (some ⟨b, 0, none⟩) n1 cc] 24 (0, 0))) 0 256).p (a'.tmps.getD 19 undef) w' := hdep 8 _ 19 rfl rfl rfl
      have f19 := e19; simp only [Array.getD_eq_getD_getElem?] at f19
      refine wpOp_plain rfl rfl (fun K hK => ?_)
      go_simp
      exact hK _ _ ⟨_, q, rfl, by omega, hRd, Turns.refl _, ⟨_, rfl, b19, c19⟩, nofun⟩
    · intro q a' w' hq hRd hLe hzl hfr hdep
      obtain ⟨x27, e27, b27, c27⟩ : (kInt g (w.heap.size) ((· = .cells #[.int .i64 f, .int .i64 t, .int .i64 k, .int .i64 l, .slice (some ⟨b, 0, none⟩) n1 cc] 24 (0, 0))) (-1) 255).p (a'.tmps.getD 27 undef) w' := hdep 16 _ 27 rfl rfl rfl
      have f27 := e27; simp only [Array.getD_eq_getD_getElem?] at f27
      refine wpOp_plain rfl rfl (fun K hK => ?_)
      go_simp
      exact hK _ _ ⟨_, q, rfl, by omega, hRd, Turns.refl _, ⟨_, rfl, b27, c27⟩, nofun⟩
  intro vs w3 q3 hq3 hr3 hg3 hT3 hN3
  obtain ⟨_, oz3, ho3, hz3⟩ := hN3 17 rfl
  obtain ⟨x3, e3, b3, c3⟩ : (kInt g (w.heap.size) ((· = .cells #[.int .i64 f, .int .i64 t, .int .i64 k, .int .i64 l, .slice (some ⟨b, 0, none⟩) n1 cc] 24 (0, 0))) 0 256).p (vs 18) w3 := hT3 18 3 rfl
  obtain ⟨x4, e4, b4, c4⟩ : (kInt g (w.heap.size) ((· = .cells #[.int .i64 f, .int .i64 t, .int .i64 k, .int .i64 l, .slice (some ⟨b, 0, none⟩) n1 cc] 24 (0, 0))) (-1) 255).p (vs 19) w3 := hT3 19 4 rfl
  clear hT3 hN3
  simp only [putAll, List.drop_succ_cons, List.drop_zero, e3, e4]
  clear e3 e4
  go_simp
  subst ho3
  have hN9 : New w3 b 5 1 n1 cc (byteR (cap z)) := by
    obtain ⟨cs, q1, q2⟩ := hN3
    exact ⟨cs, hg3.keep q1 hng hnz, q2⟩
  have hB9 : Below w.heap.size w w3 := hB3.trans (hg3.below hB3.size (by omega) (Nat.le_refl _))
  obtain ⟨k9, f9⟩ := blk hz3
  go_wp2_with fail
  refine bodyPost_ret (v := .tuple #[.agg #[.int .i64 f, .int .i64 t, .int .i64 k, .int .i64 l, .slice (some ⟨b, 0, none⟩) n1 cc], .int .i64 x3, .int .i64 x4]) (by simp [results, Try.results17, go_sem, k9]) rfl ⟨f, t, k, l, x3, x4, b, n1, cc, z, rfl, h1, by omega, Own.of_new hN9 h2 (by omega), hB9⟩
end Go.Proofs.Ytlnjpjeccpnddaa
