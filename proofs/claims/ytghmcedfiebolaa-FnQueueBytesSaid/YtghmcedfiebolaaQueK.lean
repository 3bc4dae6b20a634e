/-
  The law 'sent bytes add up': its walk.
-/
import Derived.Test.YtghmcedfiebolaaQueC
import Derived.Test.YtghmcedfiebolaaQueL
namespace Go.Proofs.Ytghmcedfiebolaa
open Go Go.RowKit Go.Joins

/-- Queues, shares, a queue and a number. -/
def DrawnQB (w : World) (e : Ending) (w' : World) : Prop :=
  ∃ A1 n1 c1 qn q A2 n2 c2 sh, ∃ qu many : Int, e = .returned (.tuple #[.slice A1 n1 c1, .slice A2 n2 c2, .int .i64 qu, .int .i64 many]) ∧ n1 ≤ 5 ∧ n2 ≤ 6 ∧ Qs w' w'.heap.size A1 n1 c1 qn q ∧ Rws w' w'.heap.size 1 A2 n2 c2 (intR sh) ∧
    -1 ≤ qu ∧ qu ≤ 4 ∧ -1 ≤ many ∧ many ≤ 100 ∧ Below w.heap.size w w'
set_option maxRecDepth 20000 in
set_option maxHeartbeats 4000000 in
theorem drawQueueBytes_any {w : World} {A : Option Addr} {n c : Nat} (h : Bytes w w.heap.size A n c) :
    Calls Try.prog 25 #[.slice A n c] w (DrawnQB w) := by
  go_enter Try.func25, Try.ntmps25
  go_wp2_with fail
  refine (open_any h (Nat.le_refl _)).mono ?_
  rintro e w1 ⟨m, g, rfl, hgl, hr1, hb1, hs1⟩
  have hs2 := hb1.size
  clear hs1
  go_wp2_with fail
  refine (l20Queues_any hr1 _ (by omega) (by omega)).mono ?_
  rintro e w2 ⟨A1, n1, c1, qn, q, A2, n2, c2, sh, pos, rfl, h1, h2, h3, h4, h5, h6, h7, h8, h9⟩
  have H9 := Lib.hid h9
  clear h9
  have H4 := Lib.hid h4
  have H5 := Lib.hid h5
  have hg2 := h7.lt
  have hb2 : Below w.heap.size w w2 := hb1.trans (below_grown h8 hs2 hgl)
  obtain ⟨B, hBe⟩ : ∃ B, B = w.heap.size := ⟨_, rfl⟩
  rw [← hBe] at h7
  clear h3 h4 h5 h8
  go_upto_region 3 with (fail)
  refine wp_region_draws (ds := [(0, 16), (1, 17), (2, 18), (3, 19), (4, 20), (5, 21), (6, 22), (7, 23), (8, 24), (9, 25), (10, 26), (11, 27), (12, 28), (13, 29), (14, 30), (15, 31), (16, 32), (17, 33), (18, 2), (19, 3), (20, 4), (21, 5)]) (B := B) (g := g) (z := g) (O := fun _ => False) (A := A) (m := m) (c := c) (p := _) 22 10 [kIs g g (fun _ => False) (.slice A1 n1 c1), kIs g g (fun _ => False) (.slice A2 n2 c2), kIs g g (fun _ => False) (.pointer (some ⟨g, 0, none⟩)), kInt g g (fun _ => False) 0 4, kIs g g (fun _ => False) (.pointer (some ⟨g, 0, none⟩)), kInt g g (fun _ => False) 0 13, kInt g g (fun _ => False) 0 1, kInt g g (fun _ => False) (-1) 4, kIs g g (fun _ => False) (.pointer (some ⟨g, 0, none⟩)), kInt g g (fun _ => False) 0 11, kArr g g (fun _ => False) 3 3 (fun cs => ∃ y0 : Int, 0 ≤ y0 ∧ y0 ≤ 11 ∧ cs = #[.int .i64 y0, .int .i64 100, .int .i64 (-1)]), kArr g g (fun _ => False) 3 5 (fun cs => cs = #[.int .i64 0, .int .i64 0, .int .i64 0, .int .i64 1, .int .i64 2]), kIs g g (fun _ => False) (.pointer (some ⟨g, 0, none⟩)), kInt g g (fun _ => False) 0 4, kCell g g (fun _ => False) (fun v => ∃ y0 : Int, 0 ≤ y0 ∧ y0 ≤ 2 ∧ v = .int .i64 y0), kInt g g (fun _ => False) 0 2, kCell g g (fun _ => False) (fun v => ∃ y0 : Int, (-1) ≤ y0 ∧ y0 ≤ 100 ∧ v = .int .i64 y0), kInt g g (fun _ => False) (-1) 100, kIs g g (fun _ => False) (.slice A1 n1 c1), kIs g g (fun _ => False) (.slice A2 n2 c2), kInt g g (fun _ => False) (-1) 4, kInt g g (fun _ => False) (-1) 100] (by kernel_rfl) (by kernel_rfl) (by first | exact .inl rfl | exact .inr (by kernel_rfl)) h7 (Rd.lt h7) (by rfl) ?_ rfl rfl ?_
  · refine each_cons ?_ ( each_cons ?_ ( each_cons ?_ ( each_cons ?_ ( each_cons ?_ ( each_cons ?_ ( each_cons ?_ ( each_cons ?_ ( each_cons ?_ ( each_cons ?_ ( each_cons ?_ ( each_cons ?_ ( each_cons ?_ ( each_cons ?_ ( each_cons ?_ ( each_cons ?_ ( each_cons ?_ ( each_cons ?_ ( each_cons ?_ ( each_cons ?_ ( each_cons ?_ ( each_cons ?_ ( each_nil))))))))))))))))))))))
    · intro q a' w' hq hRd hLe hzl hfr hdep
      have e7 : a'.tmps.getD 7 undef = .slice A1 n1 c1 := hfr 7 rfl
      have f7 := e7; simp only [Array.getD_eq_getD_getElem?] at f7
      refine wpOp_plain rfl rfl (fun K hK => ?_)
      go_simp
      exact hK _ _ ⟨_, q, rfl, by omega, hRd, Turns.refl _, rfl, nofun⟩
    · intro q a' w' hq hRd hLe hzl hfr hdep
      have e8 : a'.tmps.getD 8 undef = .slice A2 n2 c2 := hfr 8 rfl
      have f8 := e8; simp only [Array.getD_eq_getD_getElem?] at f8
      refine wpOp_plain rfl rfl (fun K hK => ?_)
      go_simp
      exact hK _ _ ⟨_, q, rfl, by omega, hRd, Turns.refl _, rfl, nofun⟩
    · intro q a' w' hq hRd hLe hzl hfr hdep
      have e6 : a'.tmps.getD 6 undef = .pointer (some ⟨g, 0, none⟩) := hfr 6 rfl
      have f6 := e6; simp only [Array.getD_eq_getD_getElem?] at f6
      refine wpOp_plain rfl rfl (fun K hK => ?_)
      go_simp
      exact hK _ _ ⟨_, q, rfl, by omega, hRd, Turns.refl _, rfl, nofun⟩
    · intro q a' w' hq hRd hLe hzl hfr hdep
      have e18 : a'.tmps.getD 18 undef = .pointer (some ⟨g, 0, none⟩) := hdep 2 _ 18 rfl rfl rfl
      have f18 := e18; simp only [Array.getD_eq_getD_getElem?] at f18
      refine wpOp_plain rfl rfl (fun K hK => ?_)
      go_simp
      refine (pick_any hRd _ (by omega)).mono ?_
      rintro e w2 ⟨k, rfl, hk, hr, hg, hs⟩
      have hk1 := hk.1; have hk2 := hk.2.1; have hk3 := hk.2.2
      exact hK _ _ ⟨_, _, rfl, by omega, hr, Turns.of_grown hg, ⟨k, rfl, by omega, by omega⟩, nofun⟩
    · intro q a' w' hq hRd hLe hzl hfr hdep
      have e6 : a'.tmps.getD 6 undef = .pointer (some ⟨g, 0, none⟩) := hfr 6 rfl
      have f6 := e6; simp only [Array.getD_eq_getD_getElem?] at f6
      refine wpOp_plain rfl rfl (fun K hK => ?_)
      go_simp
      exact hK _ _ ⟨_, q, rfl, by omega, hRd, Turns.refl _, rfl, nofun⟩
    · intro q a' w' hq hRd hLe hzl hfr hdep
      have e20 : a'.tmps.getD 20 undef = .pointer (some ⟨g, 0, none⟩) := hdep 4 _ 20 rfl rfl rfl
      have f20 := e20; simp only [Array.getD_eq_getD_getElem?] at f20
      refine wpOp_plain rfl rfl (fun K hK => ?_)
      go_simp
      refine (pick_any hRd _ (by omega)).mono ?_
      rintro e w2 ⟨k, rfl, hk, hr, hg, hs⟩
      have hk1 := hk.1; have hk2 := hk.2.1; have hk3 := hk.2.2
      exact hK _ _ ⟨_, _, rfl, by omega, hr, Turns.of_grown hg, ⟨k, rfl, by omega, by omega⟩, nofun⟩
    · intro q a' w' hq hRd hLe hzl hfr hdep
      obtain ⟨x21, e21, b21, c21⟩ : (kInt g g (fun _ => False) 0 13).p (a'.tmps.getD 21 undef) w' := hdep 5 _ 21 rfl rfl rfl
      have f21 := e21; simp only [Array.getD_eq_getD_getElem?] at f21
      have r22 : IntKind.i64.wrap (x21.tdiv 13) = x21 / 13 := by rw [Int.tdiv_eq_ediv_of_nonneg (by omega)]; exact IntWalk.i64_in _ (by omega)
      refine wpOp_plain rfl rfl (fun K hK => ?_)
      go_simp
      exact hK _ _ ⟨_, q, rfl, by omega, hRd, Turns.refl _, ⟨_, rfl, by omega, by omega⟩, nofun⟩
    · intro q a' w' hq hRd hLe hzl hfr hdep
      obtain ⟨x19, e19, b19, c19⟩ : (kInt g g (fun _ => False) 0 4).p (a'.tmps.getD 19 undef) w' := hdep 3 _ 19 rfl rfl rfl
      have f19 := e19; simp only [Array.getD_eq_getD_getElem?] at f19
      obtain ⟨x22, e22, b22, c22⟩ : (kInt g g (fun _ => False) 0 1).p (a'.tmps.getD 22 undef) w' := hdep 6 _ 22 rfl rfl rfl
      have f22 := e22; simp only [Array.getD_eq_getD_getElem?] at f22
      have r23 : IntKind.i64.wrap (x19 - x22) = x19 - x22 := IntWalk.i64_in _ (by omega)
      refine wpOp_plain rfl rfl (fun K hK => ?_)
      go_simp
      exact hK _ _ ⟨_, q, rfl, by omega, hRd, Turns.refl _, ⟨_, rfl, by omega, by omega⟩, nofun⟩
    · intro q a' w' hq hRd hLe hzl hfr hdep
      have e6 : a'.tmps.getD 6 undef = .pointer (some ⟨g, 0, none⟩) := hfr 6 rfl
      have f6 := e6; simp only [Array.getD_eq_getD_getElem?] at f6
      refine wpOp_plain rfl rfl (fun K hK => ?_)
      go_simp
      exact hK _ _ ⟨_, q, rfl, by omega, hRd, Turns.refl _, rfl, nofun⟩
    · intro q a' w' hq hRd hLe hzl hfr hdep
      have e24 : a'.tmps.getD 24 undef = .pointer (some ⟨g, 0, none⟩) := hdep 8 _ 24 rfl rfl rfl
      have f24 := e24; simp only [Array.getD_eq_getD_getElem?] at f24
      refine wpOp_plain rfl rfl (fun K hK => ?_)
      go_simp
      refine (pick_any hRd _ (by omega)).mono ?_
      rintro e w2 ⟨k, rfl, hk, hr, hg, hs⟩
      have hk1 := hk.1; have hk2 := hk.2.1; have hk3 := hk.2.2
      exact hK _ _ ⟨_, _, rfl, by omega, hr, Turns.of_grown hg, ⟨k, rfl, by omega, by omega⟩, nofun⟩
    · intro q a' w' hq hRd hLe hzl hfr hdep
      obtain ⟨x25, e25, b25, c25⟩ : (kInt g g (fun _ => False) 0 11).p (a'.tmps.getD 25 undef) w' := hdep 9 _ 25 rfl rfl rfl
      have f25 := e25; simp only [Array.getD_eq_getD_getElem?] at f25
      refine wpOp_plain rfl rfl (fun K hK => ?_)
      go_simp
      exact hK _ _ ⟨_, q, rfl, by omega, hRd.alloc _, Turns.alloc _ _, ⟨_, _, rfl, by have := hRd.lt; omega, heap_alloc_new _ _, x25, by omega, by omega, rfl⟩, nofun⟩
    · intro q a' w' hq hRd hLe hzl hfr hdep
      refine wpOp_plain rfl rfl (fun K hK => ?_)
      go_simp
      exact hK _ _ ⟨_, q, rfl, by omega, hRd.alloc _, Turns.alloc _ _, ⟨_, _, rfl, by have := hRd.lt; omega, heap_alloc_new _ _, rfl⟩, nofun⟩
    · intro q a' w' hq hRd hLe hzl hfr hdep
      have e6 : a'.tmps.getD 6 undef = .pointer (some ⟨g, 0, none⟩) := hfr 6 rfl
      have f6 := e6; simp only [Array.getD_eq_getD_getElem?] at f6
      refine wpOp_plain rfl rfl (fun K hK => ?_)
      go_simp
      exact hK _ _ ⟨_, q, rfl, by omega, hRd, Turns.refl _, rfl, nofun⟩
    · intro q a' w' hq hRd hLe hzl hfr hdep
      have e28 : a'.tmps.getD 28 undef = .pointer (some ⟨g, 0, none⟩) := hdep 12 _ 28 rfl rfl rfl
      have f28 := e28; simp only [Array.getD_eq_getD_getElem?] at f28
      refine wpOp_plain rfl rfl (fun K hK => ?_)
      go_simp
      refine (pick_any hRd _ (by omega)).mono ?_
      rintro e w2 ⟨k, rfl, hk, hr, hg, hs⟩
      have hk1 := hk.1; have hk2 := hk.2.1; have hk3 := hk.2.2
      exact hK _ _ ⟨_, _, rfl, by omega, hr, Turns.of_grown hg, ⟨k, rfl, by omega, by omega⟩, nofun⟩
    · intro q a' w' hq hRd hLe hzl hfr hdep
      obtain ⟨a27, cs27, e27, hb27, hh27, rfl⟩ : (kArr g g (fun _ => False) 3 5 (fun cs => cs = #[.int .i64 0, .int .i64 0, .int .i64 0, .int .i64 1, .int .i64 2])).p (a'.tmps.getD 27 undef) w' := hdep 11 _ 27 rfl rfl rfl
      have f27 := e27; simp only [Array.getD_eq_getD_getElem?] at f27
      obtain ⟨x29, e29, b29, c29⟩ : (kInt g g (fun _ => False) 0 4).p (a'.tmps.getD 29 undef) w' := hdep 13 _ 29 rfl rfl rfl
      have f29 := e29; simp only [Array.getD_eq_getD_getElem?] at f29
      rcases (show x29 = 0 ∨ x29 = 1 ∨ x29 = 2 ∨ x29 = 3 ∨ x29 = 4 by omega) with rfl | rfl | rfl | rfl | rfl
      · refine wpOp_plain rfl rfl (fun K hK => ?_)
        go_simp
        exact hK _ _ ⟨_, q, rfl, by omega, hRd, Turns.refl _, ⟨_, _, _, rfl, hb27, (cell_of_row _ _ 0 _ _ _ hh27).trans rfl, 0, by omega, by omega, rfl⟩, nofun⟩
      · refine wpOp_plain rfl rfl (fun K hK => ?_)
        go_simp
        exact hK _ _ ⟨_, q, rfl, by omega, hRd, Turns.refl _, ⟨_, _, _, rfl, hb27, (cell_of_row _ _ 1 _ _ _ hh27).trans rfl, 0, by omega, by omega, rfl⟩, nofun⟩
      · refine wpOp_plain rfl rfl (fun K hK => ?_)
        go_simp
        exact hK _ _ ⟨_, q, rfl, by omega, hRd, Turns.refl _, ⟨_, _, _, rfl, hb27, (cell_of_row _ _ 2 _ _ _ hh27).trans rfl, 0, by omega, by omega, rfl⟩, nofun⟩
      · refine wpOp_plain rfl rfl (fun K hK => ?_)
        go_simp
        exact hK _ _ ⟨_, q, rfl, by omega, hRd, Turns.refl _, ⟨_, _, _, rfl, hb27, (cell_of_row _ _ 3 _ _ _ hh27).trans rfl, 1, by omega, by omega, rfl⟩, nofun⟩
      · refine wpOp_plain rfl rfl (fun K hK => ?_)
        go_simp
        exact hK _ _ ⟨_, q, rfl, by omega, hRd, Turns.refl _, ⟨_, _, _, rfl, hb27, (cell_of_row _ _ 4 _ _ _ hh27).trans rfl, 2, by omega, by omega, rfl⟩, nofun⟩
    · intro q a' w' hq hRd hLe hzl hfr hdep
      obtain ⟨a30, o30, v30, e30, hb30, hc30, y30_0, by30_0, cy30_0, rfl⟩ : (kCell g g (fun _ => False) (fun v => ∃ y0 : Int, 0 ≤ y0 ∧ y0 ≤ 2 ∧ v = .int .i64 y0)).p (a'.tmps.getD 30 undef) w' := hdep 14 _ 30 rfl rfl rfl
      have f30 := e30; simp only [Array.getD_eq_getD_getElem?] at f30
      refine wpOp_plain rfl rfl (fun K hK => ?_)
      go_simp
      exact hK _ _ ⟨_, q, rfl, by omega, hRd, Turns.refl _, ⟨_, rfl, by omega, by omega⟩, nofun⟩
    · intro q a' w' hq hRd hLe hzl hfr hdep
      obtain ⟨a26, cs26, e26, hb26, hh26, y26_0, by26_0, cy26_0, rfl⟩ : (kArr g g (fun _ => False) 3 3 (fun cs => ∃ y0 : Int, 0 ≤ y0 ∧ y0 ≤ 11 ∧ cs = #[.int .i64 y0, .int .i64 100, .int .i64 (-1)])).p (a'.tmps.getD 26 undef) w' := hdep 10 _ 26 rfl rfl rfl
      have f26 := e26; simp only [Array.getD_eq_getD_getElem?] at f26
      obtain ⟨x31, e31, b31, c31⟩ : (kInt g g (fun _ => False) 0 2).p (a'.tmps.getD 31 undef) w' := hdep 15 _ 31 rfl rfl rfl
      have f31 := e31; simp only [Array.getD_eq_getD_getElem?] at f31
      rcases (show x31 = 0 ∨ x31 = 1 ∨ x31 = 2 by omega) with rfl | rfl | rfl
      · refine wpOp_plain rfl rfl (fun K hK => ?_)
        go_simp
        exact hK _ _ ⟨_, q, rfl, by omega, hRd, Turns.refl _, ⟨_, _, _, rfl, hb26, (cell_of_row _ _ 0 _ _ _ hh26).trans rfl, y26_0, by omega, by omega, rfl⟩, nofun⟩
      · refine wpOp_plain rfl rfl (fun K hK => ?_)
        go_simp
        exact hK _ _ ⟨_, q, rfl, by omega, hRd, Turns.refl _, ⟨_, _, _, rfl, hb26, (cell_of_row _ _ 1 _ _ _ hh26).trans rfl, 100, by omega, by omega, rfl⟩, nofun⟩
      · refine wpOp_plain rfl rfl (fun K hK => ?_)
        go_simp
        exact hK _ _ ⟨_, q, rfl, by omega, hRd, Turns.refl _, ⟨_, _, _, rfl, hb26, (cell_of_row _ _ 2 _ _ _ hh26).trans rfl, (-1), by omega, by omega, rfl⟩, nofun⟩
    · intro q a' w' hq hRd hLe hzl hfr hdep
      obtain ⟨a32, o32, v32, e32, hb32, hc32, y32_0, by32_0, cy32_0, rfl⟩ : (kCell g g (fun _ => False) (fun v => ∃ y0 : Int, (-1) ≤ y0 ∧ y0 ≤ 100 ∧ v = .int .i64 y0)).p (a'.tmps.getD 32 undef) w' := hdep 16 _ 32 rfl rfl rfl
      have f32 := e32; simp only [Array.getD_eq_getD_getElem?] at f32
      refine wpOp_plain rfl rfl (fun K hK => ?_)
      go_simp
      exact hK _ _ ⟨_, q, rfl, by omega, hRd, Turns.refl _, ⟨_, rfl, by omega, by omega⟩, nofun⟩
    · intro q a' w' hq hRd hLe hzl hfr hdep
      have e16 : a'.tmps.getD 16 undef = .slice A1 n1 c1 := hdep 0 _ 16 rfl rfl rfl
      have f16 := e16; simp only [Array.getD_eq_getD_getElem?] at f16
      refine wpOp_plain rfl rfl (fun K hK => ?_)
      go_simp
      exact hK _ _ ⟨_, q, rfl, by omega, hRd, Turns.refl _, rfl, nofun⟩
    · intro q a' w' hq hRd hLe hzl hfr hdep
      have e17 : a'.tmps.getD 17 undef = .slice A2 n2 c2 := hdep 1 _ 17 rfl rfl rfl
      have f17 := e17; simp only [Array.getD_eq_getD_getElem?] at f17
      refine wpOp_plain rfl rfl (fun K hK => ?_)
      go_simp
      exact hK _ _ ⟨_, q, rfl, by omega, hRd, Turns.refl _, rfl, nofun⟩
    · intro q a' w' hq hRd hLe hzl hfr hdep
      obtain ⟨x23, e23, b23, c23⟩ : (kInt g g (fun _ => False) (-1) 4).p (a'.tmps.getD 23 undef) w' := hdep 7 _ 23 rfl rfl rfl
      have f23 := e23; simp only [Array.getD_eq_getD_getElem?] at f23
      refine wpOp_plain rfl rfl (fun K hK => ?_)
      go_simp
      exact hK _ _ ⟨_, q, rfl, by omega, hRd, Turns.refl _, ⟨_, rfl, b23, c23⟩, nofun⟩
    · intro q a' w' hq hRd hLe hzl hfr hdep
      obtain ⟨x33, e33, b33, c33⟩ : (kInt g g (fun _ => False) (-1) 100).p (a'.tmps.getD 33 undef) w' := hdep 17 _ 33 rfl rfl rfl
      have f33 := e33; simp only [Array.getD_eq_getD_getElem?] at f33
      refine wpOp_plain rfl rfl (fun K hK => ?_)
      go_simp
      exact hK _ _ ⟨_, q, rfl, by omega, hRd, Turns.refl _, ⟨_, rfl, b33, c33⟩, nofun⟩
  intro vs w4 q4 hq4 hr4 hg4 hT4 hN4
  replace hg4 := hg4.grown
  have e2 : vs 18 = .slice A1 n1 c1 := hT4 18 2 rfl
  have e3 : vs 19 = .slice A2 n2 c2 := hT4 19 3 rfl
  obtain ⟨x4, e4, b4, c4⟩ : (kInt g g (fun _ => False) (-1) 4).p (vs 20) w4 := hT4 20 4 rfl
  obtain ⟨x5, e5, b5, c5⟩ : (kInt g g (fun _ => False) (-1) 100).p (vs 21) w4 := hT4 21 5 rfl
  clear hT4 hN4
  simp only [putAll, List.drop_succ_cons, List.drop_zero, e2, e3, e4, e5]
  clear e2 e3 e4 e5
  go_simp
  have hB4 : Below w.heap.size w w4 := hb2.trans (below_grown hg4 hb2.size hgl)
  go_wp2
  refine bodyPost_ret (v := .tuple #[.slice A1 n1 c1, .slice A2 n2 c2, .int .i64 x4, .int .i64 x5]) (by simp [results, Try.results25, go_sem]) rfl ?_
  obtain ⟨k1, k2⟩ := H9.out w4 hg4
  exact ⟨A1, n1, c1, qn, q, A2, n2, c2, sh, x4, x5, rfl, h1, h2, k1, k2, b4, c4, b5, c5, hB4⟩

theorem qbV_neg {n m : Nat} {qn : Nat → Nat} {q : Nat → Nat → Int} {sh : Nat → Int} {qu many : Int} (h : (qvB n qn q m sh && inB qu 0 ((n : Int) - 1) && decide (0 ≤ many)) = false) : qbV n qn q m sh qu many = -1 := qbV_no h
theorem sent_mono {n : Nat} {qn : Nat → Nat} {q : Nat → Nat → Int} {sh : Nat → Int} {k : Nat} (hv : qvB n qn q n sh = true) (hk : k < n) (i : Nat) : sentTo q (qOut n qn q sh) k i ≤ sentTo q (qOut n qn q sh) k (i + 1) := by
  obtain ⟨_, _, _, hv4⟩ := qvB_true.1 hv
  obtain ⟨_, _, _, v4⟩ := hv4 k hk
  have h1 := (qOut_facts hv).2.1 k hk
  have h2 := cnt_take_le (o := qOut n qn q sh) (k := k) (i + 1)
  unfold sentTo
  exact sumTo_mono (n := qn k) (fun j hj => by have := v4 j hj; omega) (cnt_take_mono (by omega)) (by omega)
theorem sent_whole {n : Nat} {qn : Nat → Nat} {q : Nat → Nat → Int} {sh : Nat → Int} {k : Nat} (hv : qvB n qn q n sh = true) (hk : k < n) {i : Nat} (hi : 32 ≤ i) : sentTo q (qOut n qn q sh) k i = sumTo (q k) (qn k) := by
  have h1 := (qOut_facts hv)
  have h2 := plSum_small hv
  unfold sentTo
  rw [List.take_of_length_le (by omega), h1.2.1 k hk]

set_option maxRecDepth 20000 in
set_option maxHeartbeats 8000000 in
theorem queueBytes_walk {w : World} {A : Option Addr} {n c : Nat} (h : Bytes w w.heap.size A n c) :
    Calls Try.prog 8 #[.slice A n c] w (Truly w) := by
  by_cases hn : 1048576 < n
  · have hd : decide ((1048576 : Int) < (n : Int)) = true := by simp; omega
    go_enter Try.func8, Try.ntmps8
    go_wp2
    go_ret
    exact ⟨rfl, Below.refl _ _⟩
  have hd : decide ((1048576 : Int) < (n : Int)) = false := by simp; omega
  clear hn
  go_enter Try.func8, Try.ntmps8
  go_wp2_with fail
  refine (drawQueueBytes_any h).mono ?_
  rintro e w1 ⟨A1, n1, c1, qn, q, A2, n2, c2, sh, qu, many, rfl, h1, h2, h4, h5, u1, u2, u3, u4, hb1⟩
  have H4 := Lib.hid h4
  have H5 := Lib.hid h5
  have hnc := h4.len
  unfold maxLen at hnc
  clear h4 h5 hd
  go_wp2_with fail
  refine (implQueueBytes_any qu many H4.out H5.out (Nat.le_refl _) (by omega)).mono ?_
  rintro e w2 ⟨rfl, hb2⟩
  have H4b := Lib.hid (H4.out.next hb2)
  have H5b := Lib.hid (H5.out.next hb2)
  have hB2 := Below.tr hb1 hb2
  clear H4 H5
  go_wp2_with fail
  refine (specQueueBytes_any qu many H4b.out H5b.out (Nat.le_refl _) (by omega)).mono ?_
  rintro e w3 ⟨rfl, hb3⟩
  have H4c := Lib.hid (H4b.out.next hb3)
  have H5c := Lib.hid (H5b.out.next hb3)
  have hB3 := Below.tr hB2 hb3
  clear H4b H5b hb2 hb3 hB2 hb1
  cases hc : (qvB n1 qn q n2 sh && inB qu 0 ((n1 : Int) - 1) && decide (0 ≤ many)) with
  | false =>
    rw [qbV_neg hc]
    clear hc
    go_wp2_with (go_at_call 18; refine (alive_any _).mono ?_; rintro e wa ⟨rfl, hba⟩)
    go_ret
    exact ⟨rfl, Below.tr hB3 (by (repeat (first | exact Below.refl _ _ | assumption | refine Below.al ?_ _ | refine Below.dr ?_ | (refine Below.st ?_ (by simp <;> omega) _) | (refine Below.tr ?_ (by assumption)))))⟩
  | true =>
    simp only [Bool.and_eq_true, decide_eq_true_eq] at hc
    obtain ⟨⟨hv, hi⟩, h0⟩ := hc
    have hi2 := inB_true.1 hi
    obtain ⟨K, rfl⟩ := Int.eq_ofNat_of_zero_le hi2.1
    obtain ⟨M, rfl⟩ := Int.eq_ofNat_of_zero_le h0
    obtain ⟨v1, v2, hmn, v4⟩ := qvB_true.1 hv
    subst hmn
    have hK : K < n2 := by omega
    have hbd := sent_bounds hv hK M
    have hmo := sent_mono hv hK M
    have hbd2 := sent_bounds hv hK (M + 1)
    obtain ⟨v5, _, _, v6⟩ := v4 K hK
    have Hv6 := Lib.hid v6
    have hV := Lib.hid hv
    rw [qbV_yes hv hK]
    have hV1 := Lib.hid (qbV_yes (M := 1000) hv hK)
    have hV2 := Lib.hid (qbV_yes (M := M + 1) hv hK)
    have hV3 := Lib.hid (qbV_yes (M := 0) hv hK)
    have hW := Lib.hid (sent_whole hv hK (i := 1000) (by omega))
    obtain ⟨QA, qc, ⟨_, hrow⟩, HI⟩ := H4c.out
    have hRow := Lib.hid hrow
    have hI := Lib.hid HI
    have hd0 : decide (sentTo q (qOut n2 qn q sh) K M < 0) = false := by simp; omega
    clear hv v4 v6 hi hi2 h0 hrow HI
    go_wp2_with fail
    go_loop [8, 9] (fun su i => ∃ j : Nat, j ≤ qn K ∧ i = .int .i64 j ∧ su = .int .i64 (sumTo (q K) j)) (fun _ i => qn K - (intOf i).toNat)
    case atStart => exact ⟨0, by omega, rfl, rfl⟩
    case round =>
      obtain ⟨j, hj, rfl, rfl⟩ := hrel
      obtain ⟨bl, off, rfl, hbl, hc⟩ := hRow.out (by omega)
      have hr := hc K hK
      rw [Nat.mul_one] at hr
      have q0 : w3.cell? ⟨bl, off + K, none⟩ = some (.slice (QA K) (qn K) (qc K)) := hr 0 _ rfl
      have hIK := Lib.hid (hI.out K hK)
      have hqc := (hI.out K hK).1
      have hsl := sumTo_le (f := q K) (n := qn K) (b := 50) (fun i hi => (Hv6.out i hi).2) hj
      have hsn := sumTo_nn (f := q K) (n := qn K) (fun i hi => by have := Hv6.out i hi; omega) hj
      have hsl2 : sumTo (q K) j ≤ 400 := by omega
      unfold maxLen at hqc
      clear hr hc hsl
      generalize QA K = Ak at *
      generalize qc K = ck at *
      by_cases hjl : j < qn K
      · obtain ⟨b2, o2, rfl, hb2, hc2⟩ := hIK.out.2 (by omega)
        have hr2 := hc2 j hjl
        rw [Nat.mul_one] at hr2
        have z0 : w3.cell? ⟨b2, o2 + j, none⟩ = some (.int .i64 (q K j)) := hr2 0 _ rfl
        obtain ⟨s1, s2⟩ := Hv6.out j hjl
        have HSS := Lib.hid (show sumTo (q K) (j + 1) = sumTo (q K) j + q K j from rfl)
        clear hr2 hc2
        go_wp2
        go_round
        case rel => exact ⟨j + 1, by omega, by go_num, by rw [HSS.out]⟩
        case measure => simp [intOf]; omega
      · obtain rfl : j = qn K := by omega
        go_wp2_with fail
        refine (implQueueBytes_any (K : Int) 1000 H4c.out H5c.out (Nat.le_refl _) (by omega)).mono ?_
        rintro e w4 ⟨rfl, hb4⟩
        have e1 : qbV n2 qn q n2 sh (K : Int) 1000 = sumTo (q K) (qn K) := hV1.out.trans hW.out
        rw [e1]
        have H4d := Lib.hid (H4c.out.next hb4)
        have H5d := Lib.hid (H5c.out.next hb4)
        have hB4 := Below.tr hB3 hb4
        clear e1 q0
        go_wp2_with fail
        refine (implQueueBytes_any (K : Int) ((M : Int) + 1) H4d.out H5d.out (Nat.le_refl _) (by omega)).mono ?_
        rintro e w5 ⟨rfl, hb5⟩
        have e2 : qbV n2 qn q n2 sh (K : Int) ((M : Int) + 1) = sentTo q (qOut n2 qn q sh) K (M + 1) := by
          have := hV2.out
          simpa using this
        rw [e2]
        have hd1 : decide (sentTo q (qOut n2 qn q sh) K M ≤ sentTo q (qOut n2 qn q sh) K (M + 1)) = true := by simpa using hmo
        have H4e := Lib.hid (H4d.out.next hb5)
        have H5e := Lib.hid (H5d.out.next hb5)
        have hB5 := Below.tr hB4 hb5
        clear e2
        go_wp2_with fail
        refine (implQueueBytes_any (K : Int) 0 H4e.out H5e.out (Nat.le_refl _) (by omega)).mono ?_
        rintro e w6 ⟨rfl, hb6⟩
        have e3 : qbV n2 qn q n2 sh (K : Int) 0 = 0 := by
          have := hV3.out
          simpa [sentTo, cnt, sumTo] using this
        rw [e3]
        clear e3
        go_wp2
        go_ret
        exact ⟨rfl, Below.tr hB5 hb6⟩
end Go.Proofs.Ytghmcedfiebolaa
