/-
  The drawn flow: five small numbers.
-/
import Derived.Test.YtbnfllpimnnmfaaReg
namespace Go.Proofs.Ytbnfllpimnnmfaa
open Go.RowKit

/-- A flow whose fields lie in small bounds. -/
def flowD (v : Value) : Prop := ∃ f0 f1 f2 f3 f4 : Int, v = .agg #[.int .i64 f0, .int .i64 f1, .int .i64 f2, .int .i64 f3, .int .i64 f4] ∧ (-1 ≤ f0 ∧ f0 ≤ 1000) ∧ (-1 ≤ f1 ∧ f1 ≤ 1000) ∧ (-1 ≤ f2 ∧ f2 ≤ 1000) ∧ (-1 ≤ f3 ∧ f3 ≤ 1000) ∧ (-1 ≤ f4 ∧ f4 ≤ 1000)

set_option maxHeartbeats 8000000 in
theorem l20Flow_any {w : World} {B g : Nat} {A : Option Addr} {m c p : Nat} (h : Rd w B g A m c p) (n : Int) (hn : -1000000 ≤ n) (hp2 : p ≤ 1000000000) :
    Calls Try.prog 68 #[(.pointer (some ⟨g, 0, none⟩)), .int .i64 n] w (Drawn w B g A m c p 100 (kVal g g (fun _ => False) flowD)) := by
  have hlt := h.lt
  have hBg := h.2.1
  have hzg : w.heap.size ≠ g := by omega
  go_enter Try.func68, Try.ntmps68
  go_wp2
  refine wp_region_draws (ds := [(0, 6), (1, 7), (2, 8), (3, 9), (4, 10), (5, 11), (6, 12), (7, 13), (8, 14), (9, 15), (10, 16), (11, 17), (12, 18), (13, 19), (14, 20), (15, 21), (16, 22), (17, 23), (18, 24), (19, 25), (20, 26), (21, 27), (22, 28), (23, 29), (24, 30), (25, 31), (26, 32), (27, 5)]) (B := B) (g := g) (z := g) (O := fun _ => False) (A := A) (m := m) (c := c) (p := _) 28 1 [kIs g g (fun _ => False) (.pointer (some ⟨g, 0, none⟩)), kInt g g (fun _ => False) 0 3, kIs g g (fun _ => False) (.pointer (some ⟨g, 0, none⟩)), kInt g g (fun _ => False) 0 255, kArr g g (fun _ => False) 3 3 (fun cs => ∃ y0 : Int, 0 ≤ y0 ∧ y0 ≤ 255 ∧ cs = #[.int .i64 80, .int .i64 443, .int .i64 y0]), kIs g g (fun _ => False) (.pointer (some ⟨g, 0, none⟩)), kInt g g (fun _ => False) 0 2, kCell g g (fun _ => False) (fun v => ∃ y0 : Int, 0 ≤ y0 ∧ y0 ≤ 443 ∧ v = .int .i64 y0), kInt g g (fun _ => False) 0 443, kIs g g (fun _ => False) (.pointer (some ⟨g, 0, none⟩)), kInt g g (fun _ => False) 0 3, kArr g g (fun _ => False) 3 2 (fun cs => ∃ y0 : Int, 0 ≤ y0 ∧ y0 ≤ 3 ∧ cs = #[.int .i64 y0, .int .i64 255]), kIs g g (fun _ => False) (.pointer (some ⟨g, 0, none⟩)), kInt g g (fun _ => False) 0 5, kInt g g (fun _ => False) 0 1, kCell g g (fun _ => False) (fun v => ∃ y0 : Int, 0 ≤ y0 ∧ y0 ≤ 255 ∧ v = .int .i64 y0), kInt g g (fun _ => False) 0 255, kArr g g (fun _ => False) 3 2 (fun cs => cs = #[.int .i64 80, .int .i64 999]), kIs g g (fun _ => False) (.pointer (some ⟨g, 0, none⟩)), kInt g g (fun _ => False) 0 5, kInt g g (fun _ => False) 0 1, kCell g g (fun _ => False) (fun v => ∃ y0 : Int, 80 ≤ y0 ∧ y0 ≤ 999 ∧ v = .int .i64 y0), kInt g g (fun _ => False) 80 999, kIs g g (fun _ => False) (.pointer (some ⟨g, 0, none⟩)), kInt g g (fun _ => False) 0 1, kInt g g (fun _ => False) 1 2, kVal g g (fun _ => False) (fun v => ∃ y0 : Int, ∃ y1 : Int, ∃ y2 : Int, ∃ y3 : Int, ∃ y4 : Int, 0 ≤ y0 ∧ y0 ≤ 3 ∧ 0 ≤ y1 ∧ y1 ≤ 443 ∧ 0 ≤ y2 ∧ y2 ≤ 255 ∧ 80 ≤ y3 ∧ y3 ≤ 999 ∧ 1 ≤ y4 ∧ y4 ≤ 2 ∧ v = .agg #[.int .i64 y0, .int .i64 y1, .int .i64 y2, .int .i64 y3, .int .i64 y4]), kNew g g (fun _ => False) (w.heap.size + 1) 59 #[.int .i64 0, .int .i64 0, .int .i64 0, .int .i64 0, .int .i64 0]] (by kernel_rfl) (by kernel_rfl) (by first | exact .inl rfl | exact .inr (by kernel_rfl)) (h.alloc _) (Rd.lt (h.alloc _)) (by rfl) ?_ rfl rfl ?_
  · refine each_cons ?_ ( each_cons ?_ ( each_cons ?_ ( each_cons ?_ ( each_cons ?_ ( each_cons ?_ ( each_cons ?_ ( each_cons ?_ ( each_cons ?_ ( each_cons ?_ ( each_cons ?_ ( each_cons ?_ ( each_cons ?_ ( each_cons ?_ ( each_cons ?_ ( each_cons ?_ ( each_cons ?_ ( each_cons ?_ ( each_cons ?_ ( each_cons ?_ ( each_cons ?_ ( each_cons ?_ ( each_cons ?_ ( each_cons ?_ ( each_cons ?_ ( each_cons ?_ ( each_cons ?_ ( each_cons ?_ ( each_nil))))))))))))))))))))))))))))
    · intro q a' w' hq hRd hLe hzl hfr hdep
      have e0 : a'.tmps.getD 0 undef = .pointer (some ⟨g, 0, none⟩) := hfr 0 rfl
      have f0 := e0; simp only [Array.getD_eq_getD_getElem?] at f0
      refine wpOp_plain rfl rfl (fun K hK => ?_)
      go_simp
      exact hK _ _ ⟨_, q, rfl, by omega, hRd, Turns.refl _, rfl, nofun⟩
    · intro q a' w' hq hRd hLe hzl hfr hdep
      have e6 : a'.tmps.getD 6 undef = .pointer (some ⟨g, 0, none⟩) := hdep 0 _ 6 rfl rfl rfl
      have f6 := e6; simp only [Array.getD_eq_getD_getElem?] at f6
      refine wpOp_plain rfl rfl (fun K hK => ?_)
      go_simp
      refine (pick_any hRd _ (by omega)).mono ?_
      rintro e w2 ⟨k, rfl, hk, hr, hg, hs⟩
      have hk1 := hk.1; have hk2 := hk.2.1; have hk3 := hk.2.2
      exact hK _ _ ⟨_, _, rfl, by omega, hr, Turns.of_grown hg, ⟨k, rfl, by omega, by omega⟩, nofun⟩
    · intro q a' w' hq hRd hLe hzl hfr hdep
      have e0 : a'.tmps.getD 0 undef = .pointer (some ⟨g, 0, none⟩) := hfr 0 rfl
      have f0 := e0; simp only [Array.getD_eq_getD_getElem?] at f0
      refine wpOp_plain rfl rfl (fun K hK => ?_)
      go_simp
      exact hK _ _ ⟨_, q, rfl, by omega, hRd, Turns.refl _, rfl, nofun⟩
    · intro q a' w' hq hRd hLe hzl hfr hdep
      have e8 : a'.tmps.getD 8 undef = .pointer (some ⟨g, 0, none⟩) := hdep 2 _ 8 rfl rfl rfl
      have f8 := e8; simp only [Array.getD_eq_getD_getElem?] at f8
      refine wpOp_plain rfl rfl (fun K hK => ?_)
      go_simp
      refine (pick_any hRd _ (by omega)).mono ?_
      rintro e w2 ⟨k, rfl, hk, hr, hg, hs⟩
      have hk1 := hk.1; have hk2 := hk.2.1; have hk3 := hk.2.2
      exact hK _ _ ⟨_, _, rfl, by omega, hr, Turns.of_grown hg, ⟨k, rfl, by omega, by omega⟩, nofun⟩
    · intro q a' w' hq hRd hLe hzl hfr hdep
      obtain ⟨x9, e9, b9, c9⟩ : (kInt g g (fun _ => False) 0 255).p (a'.tmps.getD 9 undef) w' := hdep 3 _ 9 rfl rfl rfl
      have f9 := e9; simp only [Array.getD_eq_getD_getElem?] at f9
      refine wpOp_plain rfl rfl (fun K hK => ?_)
      go_simp
      exact hK _ _ ⟨_, q, rfl, by omega, hRd.alloc _, Turns.alloc _ _, ⟨_, _, rfl, by have := hRd.lt; omega, heap_alloc_new _ _, x9, by omega, by omega, rfl⟩, nofun⟩
    · intro q a' w' hq hRd hLe hzl hfr hdep
      have e0 : a'.tmps.getD 0 undef = .pointer (some ⟨g, 0, none⟩) := hfr 0 rfl
      have f0 := e0; simp only [Array.getD_eq_getD_getElem?] at f0
      refine wpOp_plain rfl rfl (fun K hK => ?_)
      go_simp
      exact hK _ _ ⟨_, q, rfl, by omega, hRd, Turns.refl _, rfl, nofun⟩
    · intro q a' w' hq hRd hLe hzl hfr hdep
      have e11 : a'.tmps.getD 11 undef = .pointer (some ⟨g, 0, none⟩) := hdep 5 _ 11 rfl rfl rfl
      have f11 := e11; simp only [Array.getD_eq_getD_getElem?] at f11
      refine wpOp_plain rfl rfl (fun K hK => ?_)
      go_simp
      refine (pick_any hRd _ (by omega)).mono ?_
      rintro e w2 ⟨k, rfl, hk, hr, hg, hs⟩
      have hk1 := hk.1; have hk2 := hk.2.1; have hk3 := hk.2.2
      exact hK _ _ ⟨_, _, rfl, by omega, hr, Turns.of_grown hg, ⟨k, rfl, by omega, by omega⟩, nofun⟩
    · intro q a' w' hq hRd hLe hzl hfr hdep
      obtain ⟨a10, cs10, e10, hb10, hh10, y10_2, by10_2, cy10_2, rfl⟩ : (kArr g g (fun _ => False) 3 3 (fun cs => ∃ y0 : Int, 0 ≤ y0 ∧ y0 ≤ 255 ∧ cs = #[.int .i64 80, .int .i64 443, .int .i64 y0])).p (a'.tmps.getD 10 undef) w' := hdep 4 _ 10 rfl rfl rfl
      have f10 := e10; simp only [Array.getD_eq_getD_getElem?] at f10
      obtain ⟨x12, e12, b12, c12⟩ : (kInt g g (fun _ => False) 0 2).p (a'.tmps.getD 12 undef) w' := hdep 6 _ 12 rfl rfl rfl
      have f12 := e12; simp only [Array.getD_eq_getD_getElem?] at f12
      rcases (show x12 = 0 ∨ x12 = 1 ∨ x12 = 2 by omega) with rfl | rfl | rfl
      · refine wpOp_plain rfl rfl (fun K hK => ?_)
        go_simp
        exact hK _ _ ⟨_, q, rfl, by omega, hRd, Turns.refl _, ⟨_, _, _, rfl, hb10, (cell_of_row _ _ 0 _ _ _ hh10).trans rfl, 80, by omega, by omega, rfl⟩, nofun⟩
      · refine wpOp_plain rfl rfl (fun K hK => ?_)
        go_simp
        exact hK _ _ ⟨_, q, rfl, by omega, hRd, Turns.refl _, ⟨_, _, _, rfl, hb10, (cell_of_row _ _ 1 _ _ _ hh10).trans rfl, 443, by omega, by omega, rfl⟩, nofun⟩
      · refine wpOp_plain rfl rfl (fun K hK => ?_)
        go_simp
        exact hK _ _ ⟨_, q, rfl, by omega, hRd, Turns.refl _, ⟨_, _, _, rfl, hb10, (cell_of_row _ _ 2 _ _ _ hh10).trans rfl, y10_2, by omega, by omega, rfl⟩, nofun⟩
    · intro q a' w' hq hRd hLe hzl hfr hdep
      obtain ⟨a13, o13, v13, e13, hb13, hc13, y13_0, by13_0, cy13_0, rfl⟩ : (kCell g g (fun _ => False) (fun v => ∃ y0 : Int, 0 ≤ y0 ∧ y0 ≤ 443 ∧ v = .int .i64 y0)).p (a'.tmps.getD 13 undef) w' := hdep 7 _ 13 rfl rfl rfl
      have f13 := e13; simp only [Array.getD_eq_getD_getElem?] at f13
      refine wpOp_plain rfl rfl (fun K hK => ?_)
      go_simp
      exact hK _ _ ⟨_, q, rfl, by omega, hRd, Turns.refl _, ⟨_, rfl, by omega, by omega⟩, nofun⟩
    · intro q a' w' hq hRd hLe hzl hfr hdep
      have e0 : a'.tmps.getD 0 undef = .pointer (some ⟨g, 0, none⟩) := hfr 0 rfl
      have f0 := e0; simp only [Array.getD_eq_getD_getElem?] at f0
      refine wpOp_plain rfl rfl (fun K hK => ?_)
      go_simp
      exact hK _ _ ⟨_, q, rfl, by omega, hRd, Turns.refl _, rfl, nofun⟩
    · intro q a' w' hq hRd hLe hzl hfr hdep
      have e15 : a'.tmps.getD 15 undef = .pointer (some ⟨g, 0, none⟩) := hdep 9 _ 15 rfl rfl rfl
      have f15 := e15; simp only [Array.getD_eq_getD_getElem?] at f15
      refine wpOp_plain rfl rfl (fun K hK => ?_)
      go_simp
      refine (pick_any hRd _ (by omega)).mono ?_
      rintro e w2 ⟨k, rfl, hk, hr, hg, hs⟩
      have hk1 := hk.1; have hk2 := hk.2.1; have hk3 := hk.2.2
      exact hK _ _ ⟨_, _, rfl, by omega, hr, Turns.of_grown hg, ⟨k, rfl, by omega, by omega⟩, nofun⟩
    · intro q a' w' hq hRd hLe hzl hfr hdep
      obtain ⟨x16, e16, b16, c16⟩ : (kInt g g (fun _ => False) 0 3).p (a'.tmps.getD 16 undef) w' := hdep 10 _ 16 rfl rfl rfl
      have f16 := e16; simp only [Array.getD_eq_getD_getElem?] at f16
      refine wpOp_plain rfl rfl (fun K hK => ?_)
      go_simp
      exact hK _ _ ⟨_, q, rfl, by omega, hRd.alloc _, Turns.alloc _ _, ⟨_, _, rfl, by have := hRd.lt; omega, heap_alloc_new _ _, x16, by omega, by omega, rfl⟩, nofun⟩
    · intro q a' w' hq hRd hLe hzl hfr hdep
      have e0 : a'.tmps.getD 0 undef = .pointer (some ⟨g, 0, none⟩) := hfr 0 rfl
      have f0 := e0; simp only [Array.getD_eq_getD_getElem?] at f0
      refine wpOp_plain rfl rfl (fun K hK => ?_)
      go_simp
      exact hK _ _ ⟨_, q, rfl, by omega, hRd, Turns.refl _, rfl, nofun⟩
    · intro q a' w' hq hRd hLe hzl hfr hdep
      have e18 : a'.tmps.getD 18 undef = .pointer (some ⟨g, 0, none⟩) := hdep 12 _ 18 rfl rfl rfl
      have f18 := e18; simp only [Array.getD_eq_getD_getElem?] at f18
      refine wpOp_plain rfl rfl (fun K hK => ?_)
      go_simp
      refine (pick_any hRd _ (by omega)).mono ?_
      rintro e w2 ⟨k, rfl, hk, hr, hg, hs⟩
      have hk1 := hk.1; have hk2 := hk.2.1; have hk3 := hk.2.2
      exact hK _ _ ⟨_, _, rfl, by omega, hr, Turns.of_grown hg, ⟨k, rfl, by omega, by omega⟩, nofun⟩
    · intro q a' w' hq hRd hLe hzl hfr hdep
      obtain ⟨x19, e19, b19, c19⟩ : (kInt g g (fun _ => False) 0 5).p (a'.tmps.getD 19 undef) w' := hdep 13 _ 19 rfl rfl rfl
      have f19 := e19; simp only [Array.getD_eq_getD_getElem?] at f19
      have r20 : IntKind.i64.wrap (x19.tdiv 5) = x19 / 5 := by rw [Int.tdiv_eq_ediv_of_nonneg (by omega)]; exact IntWalk.i64_in _ (by omega)
      refine wpOp_plain rfl rfl (fun K hK => ?_)
      go_simp
      exact hK _ _ ⟨_, q, rfl, by omega, hRd, Turns.refl _, ⟨_, rfl, by omega, by omega⟩, nofun⟩
    · intro q a' w' hq hRd hLe hzl hfr hdep
      obtain ⟨a17, cs17, e17, hb17, hh17, y17_0, by17_0, cy17_0, rfl⟩ : (kArr g g (fun _ => False) 3 2 (fun cs => ∃ y0 : Int, 0 ≤ y0 ∧ y0 ≤ 3 ∧ cs = #[.int .i64 y0, .int .i64 255])).p (a'.tmps.getD 17 undef) w' := hdep 11 _ 17 rfl rfl rfl
      have f17 := e17; simp only [Array.getD_eq_getD_getElem?] at f17
      obtain ⟨x20, e20, b20, c20⟩ : (kInt g g (fun _ => False) 0 1).p (a'.tmps.getD 20 undef) w' := hdep 14 _ 20 rfl rfl rfl
      have f20 := e20; simp only [Array.getD_eq_getD_getElem?] at f20
      rcases (show x20 = 0 ∨ x20 = 1 by omega) with rfl | rfl
      · refine wpOp_plain rfl rfl (fun K hK => ?_)
        go_simp
        exact hK _ _ ⟨_, q, rfl, by omega, hRd, Turns.refl _, ⟨_, _, _, rfl, hb17, (cell_of_row _ _ 0 _ _ _ hh17).trans rfl, y17_0, by omega, by omega, rfl⟩, nofun⟩
      · refine wpOp_plain rfl rfl (fun K hK => ?_)
        go_simp
        exact hK _ _ ⟨_, q, rfl, by omega, hRd, Turns.refl _, ⟨_, _, _, rfl, hb17, (cell_of_row _ _ 1 _ _ _ hh17).trans rfl, 255, by omega, by omega, rfl⟩, nofun⟩
    · intro q a' w' hq hRd hLe hzl hfr hdep
      obtain ⟨a21, o21, v21, e21, hb21, hc21, y21_0, by21_0, cy21_0, rfl⟩ : (kCell g g (fun _ => False) (fun v => ∃ y0 : Int, 0 ≤ y0 ∧ y0 ≤ 255 ∧ v = .int .i64 y0)).p (a'.tmps.getD 21 undef) w' := hdep 15 _ 21 rfl rfl rfl
      have f21 := e21; simp only [Array.getD_eq_getD_getElem?] at f21
      refine wpOp_plain rfl rfl (fun K hK => ?_)
      go_simp
      exact hK _ _ ⟨_, q, rfl, by omega, hRd, Turns.refl _, ⟨_, rfl, by omega, by omega⟩, nofun⟩
    · intro q a' w' hq hRd hLe hzl hfr hdep
      refine wpOp_plain rfl rfl (fun K hK => ?_)
      go_simp
      exact hK _ _ ⟨_, q, rfl, by omega, hRd.alloc _, Turns.alloc _ _, ⟨_, _, rfl, by have := hRd.lt; omega, heap_alloc_new _ _, rfl⟩, nofun⟩
    · intro q a' w' hq hRd hLe hzl hfr hdep
      have e0 : a'.tmps.getD 0 undef = .pointer (some ⟨g, 0, none⟩) := hfr 0 rfl
      have f0 := e0; simp only [Array.getD_eq_getD_getElem?] at f0
      refine wpOp_plain rfl rfl (fun K hK => ?_)
      go_simp
      exact hK _ _ ⟨_, q, rfl, by omega, hRd, Turns.refl _, rfl, nofun⟩
    · intro q a' w' hq hRd hLe hzl hfr hdep
      have e24 : a'.tmps.getD 24 undef = .pointer (some ⟨g, 0, none⟩) := hdep 18 _ 24 rfl rfl rfl
      have f24 := e24; simp only [Array.getD_eq_getD_getElem?] at f24
      refine wpOp_plain rfl rfl (fun K hK => ?_)
      go_simp
      refine (pick_any hRd _ (by omega)).mono ?_
      rintro e w2 ⟨k, rfl, hk, hr, hg, hs⟩
      have hk1 := hk.1; have hk2 := hk.2.1; have hk3 := hk.2.2
      exact hK _ _ ⟨_, _, rfl, by omega, hr, Turns.of_grown hg, ⟨k, rfl, by omega, by omega⟩, nofun⟩
    · intro q a' w' hq hRd hLe hzl hfr hdep
      obtain ⟨x25, e25, b25, c25⟩ : (kInt g g (fun _ => False) 0 5).p (a'.tmps.getD 25 undef) w' := hdep 19 _ 25 rfl rfl rfl
      have f25 := e25; simp only [Array.getD_eq_getD_getElem?] at f25
      have r26 : IntKind.i64.wrap (x25.tdiv 5) = x25 / 5 := by rw [Int.tdiv_eq_ediv_of_nonneg (by omega)]; exact IntWalk.i64_in _ (by omega)
      refine wpOp_plain rfl rfl (fun K hK => ?_)
      go_simp
      exact hK _ _ ⟨_, q, rfl, by omega, hRd, Turns.refl _, ⟨_, rfl, by omega, by omega⟩, nofun⟩
    · intro q a' w' hq hRd hLe hzl hfr hdep
      obtain ⟨a23, cs23, e23, hb23, hh23, rfl⟩ : (kArr g g (fun _ => False) 3 2 (fun cs => cs = #[.int .i64 80, .int .i64 999])).p (a'.tmps.getD 23 undef) w' := hdep 17 _ 23 rfl rfl rfl
      have f23 := e23; simp only [Array.getD_eq_getD_getElem?] at f23
      obtain ⟨x26, e26, b26, c26⟩ : (kInt g g (fun _ => False) 0 1).p (a'.tmps.getD 26 undef) w' := hdep 20 _ 26 rfl rfl rfl
      have f26 := e26; simp only [Array.getD_eq_getD_getElem?] at f26
      rcases (show x26 = 0 ∨ x26 = 1 by omega) with rfl | rfl
      · refine wpOp_plain rfl rfl (fun K hK => ?_)
        go_simp
        exact hK _ _ ⟨_, q, rfl, by omega, hRd, Turns.refl _, ⟨_, _, _, rfl, hb23, (cell_of_row _ _ 0 _ _ _ hh23).trans rfl, 80, by omega, by omega, rfl⟩, nofun⟩
      · refine wpOp_plain rfl rfl (fun K hK => ?_)
        go_simp
        exact hK _ _ ⟨_, q, rfl, by omega, hRd, Turns.refl _, ⟨_, _, _, rfl, hb23, (cell_of_row _ _ 1 _ _ _ hh23).trans rfl, 999, by omega, by omega, rfl⟩, nofun⟩
    · intro q a' w' hq hRd hLe hzl hfr hdep
      obtain ⟨a27, o27, v27, e27, hb27, hc27, y27_0, by27_0, cy27_0, rfl⟩ : (kCell g g (fun _ => False) (fun v => ∃ y0 : Int, 80 ≤ y0 ∧ y0 ≤ 999 ∧ v = .int .i64 y0)).p (a'.tmps.getD 27 undef) w' := hdep 21 _ 27 rfl rfl rfl
      have f27 := e27; simp only [Array.getD_eq_getD_getElem?] at f27
      refine wpOp_plain rfl rfl (fun K hK => ?_)
      go_simp
      exact hK _ _ ⟨_, q, rfl, by omega, hRd, Turns.refl _, ⟨_, rfl, by omega, by omega⟩, nofun⟩
    · intro q a' w' hq hRd hLe hzl hfr hdep
      have e0 : a'.tmps.getD 0 undef = .pointer (some ⟨g, 0, none⟩) := hfr 0 rfl
      have f0 := e0; simp only [Array.getD_eq_getD_getElem?] at f0
      refine wpOp_plain rfl rfl (fun K hK => ?_)
      go_simp
      exact hK _ _ ⟨_, q, rfl, by omega, hRd, Turns.refl _, rfl, nofun⟩
    · intro q a' w' hq hRd hLe hzl hfr hdep
      have e29 : a'.tmps.getD 29 undef = .pointer (some ⟨g, 0, none⟩) := hdep 23 _ 29 rfl rfl rfl
      have f29 := e29; simp only [Array.getD_eq_getD_getElem?] at f29
      refine wpOp_plain rfl rfl (fun K hK => ?_)
      go_simp
      refine (pick_any hRd _ (by omega)).mono ?_
      rintro e w2 ⟨k, rfl, hk, hr, hg, hs⟩
      have hk1 := hk.1; have hk2 := hk.2.1; have hk3 := hk.2.2
      exact hK _ _ ⟨_, _, rfl, by omega, hr, Turns.of_grown hg, ⟨k, rfl, by omega, by omega⟩, nofun⟩
    · intro q a' w' hq hRd hLe hzl hfr hdep
      obtain ⟨x30, e30, b30, c30⟩ : (kInt g g (fun _ => False) 0 1).p (a'.tmps.getD 30 undef) w' := hdep 24 _ 30 rfl rfl rfl
      have f30 := e30; simp only [Array.getD_eq_getD_getElem?] at f30
      have r31 : IntKind.i64.wrap (1 + x30) = 1 + x30 := IntWalk.i64_in _ (by omega)
      refine wpOp_plain rfl rfl (fun K hK => ?_)
      go_simp
      exact hK _ _ ⟨_, q, rfl, by omega, hRd, Turns.refl _, ⟨_, rfl, by omega, by omega⟩, nofun⟩
    · intro q a' w' hq hRd hLe hzl hfr hdep
      obtain ⟨x7, e7, b7, c7⟩ : (kInt g g (fun _ => False) 0 3).p (a'.tmps.getD 7 undef) w' := hdep 1 _ 7 rfl rfl rfl
      have f7 := e7; simp only [Array.getD_eq_getD_getElem?] at f7
      obtain ⟨x14, e14, b14, c14⟩ : (kInt g g (fun _ => False) 0 443).p (a'.tmps.getD 14 undef) w' := hdep 8 _ 14 rfl rfl rfl
      have f14 := e14; simp only [Array.getD_eq_getD_getElem?] at f14
      obtain ⟨x22, e22, b22, c22⟩ : (kInt g g (fun _ => False) 0 255).p (a'.tmps.getD 22 undef) w' := hdep 16 _ 22 rfl rfl rfl
      have f22 := e22; simp only [Array.getD_eq_getD_getElem?] at f22
      obtain ⟨x28, e28, b28, c28⟩ : (kInt g g (fun _ => False) 80 999).p (a'.tmps.getD 28 undef) w' := hdep 22 _ 28 rfl rfl rfl
      have f28 := e28; simp only [Array.getD_eq_getD_getElem?] at f28
      obtain ⟨x31, e31, b31, c31⟩ : (kInt g g (fun _ => False) 1 2).p (a'.tmps.getD 31 undef) w' := hdep 25 _ 31 rfl rfl rfl
      have f31 := e31; simp only [Array.getD_eq_getD_getElem?] at f31
      refine wpOp_plain rfl rfl (fun K hK => ?_)
      go_simp
      exact hK _ _ ⟨_, q, rfl, by omega, hRd, Turns.refl _, ⟨x7, x14, x22, x28, x31, by omega, by omega, by omega, by omega, by omega, by omega, by omega, by omega, by omega, by omega, rfl⟩, nofun⟩
    · intro q a' w' hq hRd hLe hzl hfr hdep
      refine wpOp_plain rfl rfl (fun K hK => ?_)
      go_simp
      exact hK _ _ ⟨_, q, rfl, by omega, hRd.alloc _, Turns.alloc _ _, ⟨_, rfl, by have := hRd.lt; omega, by have := hLe.size; (try simp at this); omega, heap_alloc_new _ _⟩, nofun⟩
  intro vs w1 q1 hq1 hr1 hg1 hT1 hN1
  replace hg1 := hg1.grown
  obtain ⟨a5, e5, hb5, hB5, hh5⟩ : (kNew g g (fun _ => False) (w.heap.size + 1) 59 #[.int .i64 0, .int .i64 0, .int .i64 0, .int .i64 0, .int .i64 0]).p (vs 27) w1 := hT1 27 5 rfl
  obtain ⟨x32_0, x32_1, x32_2, x32_3, x32_4, bx32_0, cx32_0, bx32_1, cx32_1, bx32_2, cx32_2, bx32_3, cx32_3, bx32_4, cx32_4, e32⟩ : (kVal g g (fun _ => False) (fun v => ∃ y0 : Int, ∃ y1 : Int, ∃ y2 : Int, ∃ y3 : Int, ∃ y4 : Int, 0 ≤ y0 ∧ y0 ≤ 3 ∧ 0 ≤ y1 ∧ y1 ≤ 443 ∧ 0 ≤ y2 ∧ y2 ≤ 255 ∧ 80 ≤ y3 ∧ y3 ≤ 999 ∧ 1 ≤ y4 ∧ y4 ≤ 2 ∧ v = .agg #[.int .i64 y0, .int .i64 y1, .int .i64 y2, .int .i64 y3, .int .i64 y4])).p (vs 26) w1 := hT1 26 32 rfl
  clear hT1 hN1
  simp only [putAll, List.drop_succ_cons, List.drop_zero, e5, e32]
  clear e5 e32
  go_simp
  have hza : w.heap.size ≠ a5 := by omega
  have hz1 := heap_far (heap_alloc_new w _) hg1 hzg
  have hG1 := grown_trans (grown_alloc (grown_refl w _) _) hg1
  refine wpList_store_var rfl 59 (.tmp 5) (.tmp 32) rfl #[.int .i64 x32_0, .int .i64 x32_1, .int .i64 x32_2, .int .i64 x32_3, .int .i64 x32_4] hh5 rfl rfl (by kernel_rfl) rfl rfl ?_
  intro w2 hh2 hgs2 hs2
  have hr2 := hr1.far hgs2 hb5.1 (by omega)
  have hz2 := heap_far hz1 hgs2 hza
  have hG2 := grown_far hG1 hgs2 (by omega)
  go_wp2_with fail
  refine (odd_any hr2 _ hn (by omega)).mono ?_
  rintro e w5 ⟨od, q5, rfl, hq5, hr5, hg5, hs5, hy5⟩
  have hh5 := heap_far hh2 hg5 hb5.1; have hz5 := heap_far hz2 hg5 hzg; have hG5 := grown_trans hG2 hg5
  cases od with
  | false =>
    obtain ⟨kx, fx⟩ := blk hh5
    obtain ⟨kz, fz⟩ := blk hz5
    go_wp2_with (refine wpList_store_var rfl 59 (.tmp 4) (.tmp 58) rfl #[.int .i64 x32_0, .int .i64 x32_1, .int .i64 x32_2, .int .i64 x32_3, .int .i64 x32_4] hz5 rfl rfl (by kernel_rfl) rfl rfl ?_ ; intro w9 hh9 hg9 hs9; obtain ⟨k9, f9⟩ := blk hh9; have hr9 := hr5.far hg9 hzg (by omega); have hG9 := grown_far hG5 hg9 (Nat.le_refl _))
    refine bodyPost_ret (v := .agg #[.int .i64 x32_0, .int .i64 x32_1, .int .i64 x32_2, .int .i64 x32_3, .int .i64 x32_4]) (by simp [results, Try.results68, go_sem, k9]) rfl ⟨_, _, rfl, ⟨_, _, _, _, _, rfl, by omega, by omega, by omega, by omega, by omega⟩, by omega, hr9, hG9⟩
  | true =>
    go_wp2_with fail
    refine (pick_any hr5 _ (by omega)).mono ?_
    rintro e w6 ⟨k, rfl, hk, hr6, hg6, hs6⟩
    have hh6 := heap_far hh5 hg6 hb5.1; have hz6 := heap_far hz5 hg6 hzg; have hG6 := grown_trans hG5 hg6
    have hk1 := hk.1; have hk2 := hk.2.1 (by omega); clear hk
    rcases (show k = 0 ∨ k = 1 ∨ k = 2 ∨ k = 3 by omega) with rfl | rfl | rfl | rfl
    · go_upto_region 6 with (fail)
      refine wp_region_draws (ds := [(0, 41), (1, 42), (2, 43), (3, 44), (4, 45), (5, 46)]) (B := B) (g := g) (z := g) (O := fun _ => False) (A := A) (m := m) (c := c) (p := _) 6 1 [kArr g g (fun _ => False) 3 2 (fun cs => cs = #[.int .i64 (-1), .int .i64 256]), kIs g g (fun _ => False) (.pointer (some ⟨g, 0, none⟩)), kInt g g (fun _ => False) 0 1, kCell g g (fun _ => False) (fun v => ∃ y0 : Int, (-1) ≤ y0 ∧ y0 ≤ 256 ∧ v = .int .i64 y0), kInt g g (fun _ => False) (-1) 256, kIs g g (fun _ => False) (.pointer (some ⟨a5, 0, none⟩))] (by kernel_rfl) (by kernel_rfl) (by first | exact .inl rfl | exact .inr (by kernel_rfl)) hr6 (Rd.lt hr6) (by rfl) ?_ rfl rfl ?_
      · refine each_cons ?_ ( each_cons ?_ ( each_cons ?_ ( each_cons ?_ ( each_cons ?_ ( each_cons ?_ ( each_nil))))))
        · intro q a' w' hq hRd hLe hzl hfr hdep
          refine wpOp_plain rfl rfl (fun K hK => ?_)
          go_simp
          exact hK _ _ ⟨_, q, rfl, by omega, hRd.alloc _, Turns.alloc _ _, ⟨_, _, rfl, by have := hRd.lt; omega, heap_alloc_new _ _, rfl⟩, nofun⟩
        · intro q a' w' hq hRd hLe hzl hfr hdep
          have e0 : a'.tmps.getD 0 undef = .pointer (some ⟨g, 0, none⟩) := hfr 0 rfl
          have f0 := e0; simp only [Array.getD_eq_getD_getElem?] at f0
          refine wpOp_plain rfl rfl (fun K hK => ?_)
          go_simp
          exact hK _ _ ⟨_, q, rfl, by omega, hRd, Turns.refl _, rfl, nofun⟩
        · intro q a' w' hq hRd hLe hzl hfr hdep
          have e42 : a'.tmps.getD 42 undef = .pointer (some ⟨g, 0, none⟩) := hdep 1 _ 42 rfl rfl rfl
          have f42 := e42; simp only [Array.getD_eq_getD_getElem?] at f42
          refine wpOp_plain rfl rfl (fun K hK => ?_)
          go_simp
          refine (pick_any hRd _ (by omega)).mono ?_
          rintro e w2 ⟨k, rfl, hk, hr, hg, hs⟩
          have hk1 := hk.1; have hk2 := hk.2.1; have hk3 := hk.2.2
          exact hK _ _ ⟨_, _, rfl, by omega, hr, Turns.of_grown hg, ⟨k, rfl, by omega, by omega⟩, nofun⟩
        · intro q a' w' hq hRd hLe hzl hfr hdep
          obtain ⟨a41, cs41, e41, hb41, hh41, rfl⟩ : (kArr g g (fun _ => False) 3 2 (fun cs => cs = #[.int .i64 (-1), .int .i64 256])).p (a'.tmps.getD 41 undef) w' := hdep 0 _ 41 rfl rfl rfl
          have f41 := e41; simp only [Array.getD_eq_getD_getElem?] at f41
          obtain ⟨x43, e43, b43, c43⟩ : (kInt g g (fun _ => False) 0 1).p (a'.tmps.getD 43 undef) w' := hdep 2 _ 43 rfl rfl rfl
          have f43 := e43; simp only [Array.getD_eq_getD_getElem?] at f43
          rcases (show x43 = 0 ∨ x43 = 1 by omega) with rfl | rfl
          · refine wpOp_plain rfl rfl (fun K hK => ?_)
            go_simp
            exact hK _ _ ⟨_, q, rfl, by omega, hRd, Turns.refl _, ⟨_, _, _, rfl, hb41, (cell_of_row _ _ 0 _ _ _ hh41).trans rfl, (-1), by omega, by omega, rfl⟩, nofun⟩
          · refine wpOp_plain rfl rfl (fun K hK => ?_)
            go_simp
            exact hK _ _ ⟨_, q, rfl, by omega, hRd, Turns.refl _, ⟨_, _, _, rfl, hb41, (cell_of_row _ _ 1 _ _ _ hh41).trans rfl, 256, by omega, by omega, rfl⟩, nofun⟩
        · intro q a' w' hq hRd hLe hzl hfr hdep
          obtain ⟨a44, o44, v44, e44, hb44, hc44, y44_0, by44_0, cy44_0, rfl⟩ : (kCell g g (fun _ => False) (fun v => ∃ y0 : Int, (-1) ≤ y0 ∧ y0 ≤ 256 ∧ v = .int .i64 y0)).p (a'.tmps.getD 44 undef) w' := hdep 3 _ 44 rfl rfl rfl
          have f44 := e44; simp only [Array.getD_eq_getD_getElem?] at f44
          refine wpOp_plain rfl rfl (fun K hK => ?_)
          go_simp
          exact hK _ _ ⟨_, q, rfl, by omega, hRd, Turns.refl _, ⟨_, rfl, by omega, by omega⟩, nofun⟩
        · intro q a' w' hq hRd hLe hzl hfr hdep
          have e5 : a'.tmps.getD 5 undef = .pointer (some ⟨a5, 0, none⟩) := hfr 5 rfl
          have f5 := e5; simp only [Array.getD_eq_getD_getElem?] at f5
          refine wpOp_plain rfl rfl (fun K hK => ?_)
          go_simp
          exact hK _ _ ⟨_, q, rfl, by omega, hRd, Turns.refl _, rfl, nofun⟩
      intro vs w7 q7 hq7 hr7 hg7 hT7 hN7
      replace hg7 := hg7.grown
      obtain ⟨x45, e45, b45, c45⟩ : (kInt g g (fun _ => False) (-1) 256).p (vs 4) w7 := hT7 4 45 rfl
      have e46 : vs 5 = .pointer (some ⟨a5, 0, none⟩) := hT7 5 46 rfl
      clear hT7 hN7
      simp only [putAll, List.drop_succ_cons, List.drop_zero, e45, e46]
      clear e45 e46
      go_simp
      have hh7 := heap_far hh6 hg7 hb5.1; have hz7 := heap_far hz6 hg7 hzg; have hG7 := grown_trans hG6 hg7
      refine wpList_store_at rfl 3 (.tmp 46) (.tmp 45) rfl (.int .i64 x45) #[.int .i64 x45, .int .i64 x32_1, .int .i64 x32_2, .int .i64 x32_3, .int .i64 x32_4] hh7 rfl rfl (by kernel_rfl) rfl rfl (by simp) rfl ?_; intro w8 hh8 hgs8 hs8; have hr8 := hr7.far hgs8 hb5.1 (by omega); have hz8 := heap_far hz7 hgs8 hza; have hG8 := grown_far hG7 hgs8 (by omega)
      obtain ⟨kx, fx⟩ := blk hh8
      obtain ⟨kz, fz⟩ := blk hz8
      go_wp2_with (refine wpList_store_var rfl 59 (.tmp 4) (.tmp 58) rfl #[.int .i64 x45, .int .i64 x32_1, .int .i64 x32_2, .int .i64 x32_3, .int .i64 x32_4] hz8 rfl rfl (by kernel_rfl) rfl rfl ?_ ; intro w9 hh9 hg9 hs9; obtain ⟨k9, f9⟩ := blk hh9; have hr9 := hr8.far hg9 hzg (by omega); have hG9 := grown_far hG8 hg9 (Nat.le_refl _))
      refine bodyPost_ret (v := .agg #[.int .i64 x45, .int .i64 x32_1, .int .i64 x32_2, .int .i64 x32_3, .int .i64 x32_4]) (by simp [results, Try.results68, go_sem, k9]) rfl ⟨_, _, rfl, ⟨_, _, _, _, _, rfl, by omega, by omega, by omega, by omega, by omega⟩, by omega, hr9, hG9⟩
    · go_upto_region 8 with (fail)
      refine wp_region_draws (ds := [(0, 49)]) (B := B) (g := g) (z := g) (O := fun _ => False) (A := A) (m := m) (c := c) (p := _) 1 1 [kIs g g (fun _ => False) (.pointer (some ⟨a5, 3, none⟩))] (by kernel_rfl) (by kernel_rfl) (by first | exact .inl rfl | exact .inr (by kernel_rfl)) hr6 (Rd.lt hr6) (by rfl) ?_ rfl rfl ?_
      · refine each_cons ?_ ( each_nil)
        · intro q a' w' hq hRd hLe hzl hfr hdep
          have e5 : a'.tmps.getD 5 undef = .pointer (some ⟨a5, 0, none⟩) := hfr 5 rfl
          have f5 := e5; simp only [Array.getD_eq_getD_getElem?] at f5
          refine wpOp_plain rfl rfl (fun K hK => ?_)
          go_simp
          exact hK _ _ ⟨_, q, rfl, by omega, hRd, Turns.refl _, rfl, nofun⟩
      intro vs w7 q7 hq7 hr7 hg7 hT7 hN7
      replace hg7 := hg7.grown
      have e49 : vs 0 = .pointer (some ⟨a5, 3, none⟩) := hT7 0 49 rfl
      clear hT7 hN7
      simp only [putAll, List.drop_succ_cons, List.drop_zero, e49]
      clear e49
      go_simp
      have hh7 := heap_far hh6 hg7 hb5.1; have hz7 := heap_far hz6 hg7 hzg; have hG7 := grown_trans hG6 hg7
      refine wpList_store_at rfl 3 (.tmp 49) (.const (.int .i64 1000)) rfl (.int .i64 1000) #[.int .i64 x32_0, .int .i64 x32_1, .int .i64 x32_2, .int .i64 1000, .int .i64 x32_4] hh7 rfl rfl (by kernel_rfl) rfl rfl (by simp) rfl ?_; intro w8 hh8 hgs8 hs8; have hr8 := hr7.far hgs8 hb5.1 (by omega); have hz8 := heap_far hz7 hgs8 hza; have hG8 := grown_far hG7 hgs8 (by omega)
      obtain ⟨kx, fx⟩ := blk hh8
      obtain ⟨kz, fz⟩ := blk hz8
      go_wp2_with (refine wpList_store_var rfl 59 (.tmp 4) (.tmp 58) rfl #[.int .i64 x32_0, .int .i64 x32_1, .int .i64 x32_2, .int .i64 1000, .int .i64 x32_4] hz8 rfl rfl (by kernel_rfl) rfl rfl ?_ ; intro w9 hh9 hg9 hs9; obtain ⟨k9, f9⟩ := blk hh9; have hr9 := hr8.far hg9 hzg (by omega); have hG9 := grown_far hG8 hg9 (Nat.le_refl _))
      refine bodyPost_ret (v := .agg #[.int .i64 x32_0, .int .i64 x32_1, .int .i64 x32_2, .int .i64 1000, .int .i64 x32_4]) (by simp [results, Try.results68, go_sem, k9]) rfl ⟨_, _, rfl, ⟨_, _, _, _, _, rfl, by omega, by omega, by omega, by omega, by omega⟩, by omega, hr9, hG9⟩
    · go_upto_region 10 with (fail)
      refine wp_region_draws (ds := [(0, 52), (1, 53), (2, 54), (3, 55), (4, 56), (5, 57)]) (B := B) (g := g) (z := g) (O := fun _ => False) (A := A) (m := m) (c := c) (p := _) 6 1 [kArr g g (fun _ => False) 3 2 (fun cs => cs = #[.int .i64 0, .int .i64 3]), kIs g g (fun _ => False) (.pointer (some ⟨g, 0, none⟩)), kInt g g (fun _ => False) 0 1, kCell g g (fun _ => False) (fun v => ∃ y0 : Int, 0 ≤ y0 ∧ y0 ≤ 3 ∧ v = .int .i64 y0), kInt g g (fun _ => False) 0 3, kIs g g (fun _ => False) (.pointer (some ⟨a5, 4, none⟩))] (by kernel_rfl) (by kernel_rfl) (by first | exact .inl rfl | exact .inr (by kernel_rfl)) hr6 (Rd.lt hr6) (by rfl) ?_ rfl rfl ?_
      · refine each_cons ?_ ( each_cons ?_ ( each_cons ?_ ( each_cons ?_ ( each_cons ?_ ( each_cons ?_ ( each_nil))))))
        · intro q a' w' hq hRd hLe hzl hfr hdep
          refine wpOp_plain rfl rfl (fun K hK => ?_)
          go_simp
          exact hK _ _ ⟨_, q, rfl, by omega, hRd.alloc _, Turns.alloc _ _, ⟨_, _, rfl, by have := hRd.lt; omega, heap_alloc_new _ _, rfl⟩, nofun⟩
        · intro q a' w' hq hRd hLe hzl hfr hdep
          have e0 : a'.tmps.getD 0 undef = .pointer (some ⟨g, 0, none⟩) := hfr 0 rfl
          have f0 := e0; simp only [Array.getD_eq_getD_getElem?] at f0
          refine wpOp_plain rfl rfl (fun K hK => ?_)
          go_simp
          exact hK _ _ ⟨_, q, rfl, by omega, hRd, Turns.refl _, rfl, nofun⟩
        · intro q a' w' hq hRd hLe hzl hfr hdep
          have e53 : a'.tmps.getD 53 undef = .pointer (some ⟨g, 0, none⟩) := hdep 1 _ 53 rfl rfl rfl
          have f53 := e53; simp only [Array.getD_eq_getD_getElem?] at f53
          refine wpOp_plain rfl rfl (fun K hK => ?_)
          go_simp
          refine (pick_any hRd _ (by omega)).mono ?_
          rintro e w2 ⟨k, rfl, hk, hr, hg, hs⟩
          have hk1 := hk.1; have hk2 := hk.2.1; have hk3 := hk.2.2
          exact hK _ _ ⟨_, _, rfl, by omega, hr, Turns.of_grown hg, ⟨k, rfl, by omega, by omega⟩, nofun⟩
        · intro q a' w' hq hRd hLe hzl hfr hdep
          obtain ⟨a52, cs52, e52, hb52, hh52, rfl⟩ : (kArr g g (fun _ => False) 3 2 (fun cs => cs = #[.int .i64 0, .int .i64 3])).p (a'.tmps.getD 52 undef) w' := hdep 0 _ 52 rfl rfl rfl
          have f52 := e52; simp only [Array.getD_eq_getD_getElem?] at f52
          obtain ⟨x54, e54, b54, c54⟩ : (kInt g g (fun _ => False) 0 1).p (a'.tmps.getD 54 undef) w' := hdep 2 _ 54 rfl rfl rfl
          have f54 := e54; simp only [Array.getD_eq_getD_getElem?] at f54
          rcases (show x54 = 0 ∨ x54 = 1 by omega) with rfl | rfl
          · refine wpOp_plain rfl rfl (fun K hK => ?_)
            go_simp
            exact hK _ _ ⟨_, q, rfl, by omega, hRd, Turns.refl _, ⟨_, _, _, rfl, hb52, (cell_of_row _ _ 0 _ _ _ hh52).trans rfl, 0, by omega, by omega, rfl⟩, nofun⟩
          · refine wpOp_plain rfl rfl (fun K hK => ?_)
            go_simp
            exact hK _ _ ⟨_, q, rfl, by omega, hRd, Turns.refl _, ⟨_, _, _, rfl, hb52, (cell_of_row _ _ 1 _ _ _ hh52).trans rfl, 3, by omega, by omega, rfl⟩, nofun⟩
        · intro q a' w' hq hRd hLe hzl hfr hdep
          obtain ⟨a55, o55, v55, e55, hb55, hc55, y55_0, by55_0, cy55_0, rfl⟩ : (kCell g g (fun _ => False) (fun v => ∃ y0 : Int, 0 ≤ y0 ∧ y0 ≤ 3 ∧ v = .int .i64 y0)).p (a'.tmps.getD 55 undef) w' := hdep 3 _ 55 rfl rfl rfl
          have f55 := e55; simp only [Array.getD_eq_getD_getElem?] at f55
          refine wpOp_plain rfl rfl (fun K hK => ?_)
          go_simp
          exact hK _ _ ⟨_, q, rfl, by omega, hRd, Turns.refl _, ⟨_, rfl, by omega, by omega⟩, nofun⟩
        · intro q a' w' hq hRd hLe hzl hfr hdep
          have e5 : a'.tmps.getD 5 undef = .pointer (some ⟨a5, 0, none⟩) := hfr 5 rfl
          have f5 := e5; simp only [Array.getD_eq_getD_getElem?] at f5
          refine wpOp_plain rfl rfl (fun K hK => ?_)
          go_simp
          exact hK _ _ ⟨_, q, rfl, by omega, hRd, Turns.refl _, rfl, nofun⟩
      intro vs w7 q7 hq7 hr7 hg7 hT7 hN7
      replace hg7 := hg7.grown
      obtain ⟨x56, e56, b56, c56⟩ : (kInt g g (fun _ => False) 0 3).p (vs 4) w7 := hT7 4 56 rfl
      have e57 : vs 5 = .pointer (some ⟨a5, 4, none⟩) := hT7 5 57 rfl
      clear hT7 hN7
      simp only [putAll, List.drop_succ_cons, List.drop_zero, e56, e57]
      clear e56 e57
      go_simp
      have hh7 := heap_far hh6 hg7 hb5.1; have hz7 := heap_far hz6 hg7 hzg; have hG7 := grown_trans hG6 hg7
      refine wpList_store_at rfl 3 (.tmp 57) (.tmp 56) rfl (.int .i64 x56) #[.int .i64 x32_0, .int .i64 x32_1, .int .i64 x32_2, .int .i64 x32_3, .int .i64 x56] hh7 rfl rfl (by kernel_rfl) rfl rfl (by simp) rfl ?_; intro w8 hh8 hgs8 hs8; have hr8 := hr7.far hgs8 hb5.1 (by omega); have hz8 := heap_far hz7 hgs8 hza; have hG8 := grown_far hG7 hgs8 (by omega)
      obtain ⟨kx, fx⟩ := blk hh8
      obtain ⟨kz, fz⟩ := blk hz8
      go_wp2_with (refine wpList_store_var rfl 59 (.tmp 4) (.tmp 58) rfl #[.int .i64 x32_0, .int .i64 x32_1, .int .i64 x32_2, .int .i64 x32_3, .int .i64 x56] hz8 rfl rfl (by kernel_rfl) rfl rfl ?_ ; intro w9 hh9 hg9 hs9; obtain ⟨k9, f9⟩ := blk hh9; have hr9 := hr8.far hg9 hzg (by omega); have hG9 := grown_far hG8 hg9 (Nat.le_refl _))
      refine bodyPost_ret (v := .agg #[.int .i64 x32_0, .int .i64 x32_1, .int .i64 x32_2, .int .i64 x32_3, .int .i64 x56]) (by simp [results, Try.results68, go_sem, k9]) rfl ⟨_, _, rfl, ⟨_, _, _, _, _, rfl, by omega, by omega, by omega, by omega, by omega⟩, by omega, hr9, hG9⟩
    · go_upto_region 4 with (fail)
      refine wp_region_draws (ds := [(0, 38)]) (B := B) (g := g) (z := g) (O := fun _ => False) (A := A) (m := m) (c := c) (p := _) 1 1 [kIs g g (fun _ => False) (.pointer (some ⟨a5, 2, none⟩))] (by kernel_rfl) (by kernel_rfl) (by first | exact .inl rfl | exact .inr (by kernel_rfl)) hr6 (Rd.lt hr6) (by rfl) ?_ rfl rfl ?_
      · refine each_cons ?_ ( each_nil)
        · intro q a' w' hq hRd hLe hzl hfr hdep
          have e5 : a'.tmps.getD 5 undef = .pointer (some ⟨a5, 0, none⟩) := hfr 5 rfl
          have f5 := e5; simp only [Array.getD_eq_getD_getElem?] at f5
          refine wpOp_plain rfl rfl (fun K hK => ?_)
          go_simp
          exact hK _ _ ⟨_, q, rfl, by omega, hRd, Turns.refl _, rfl, nofun⟩
      intro vs w7 q7 hq7 hr7 hg7 hT7 hN7
      replace hg7 := hg7.grown
      have e38 : vs 0 = .pointer (some ⟨a5, 2, none⟩) := hT7 0 38 rfl
      clear hT7 hN7
      simp only [putAll, List.drop_succ_cons, List.drop_zero, e38]
      clear e38
      go_simp
      have hh7 := heap_far hh6 hg7 hb5.1; have hz7 := heap_far hz6 hg7 hzg; have hG7 := grown_trans hG6 hg7
      refine wpList_store_at rfl 3 (.tmp 38) (.const (.int .i64 (-1))) rfl (.int .i64 (-1)) #[.int .i64 x32_0, .int .i64 x32_1, .int .i64 (-1), .int .i64 x32_3, .int .i64 x32_4] hh7 rfl rfl (by kernel_rfl) rfl rfl (by simp) rfl ?_; intro w8 hh8 hgs8 hs8; have hr8 := hr7.far hgs8 hb5.1 (by omega); have hz8 := heap_far hz7 hgs8 hza; have hG8 := grown_far hG7 hgs8 (by omega)
      obtain ⟨kx, fx⟩ := blk hh8
      obtain ⟨kz, fz⟩ := blk hz8
      go_wp2_with (refine wpList_store_var rfl 59 (.tmp 4) (.tmp 58) rfl #[.int .i64 x32_0, .int .i64 x32_1, .int .i64 (-1), .int .i64 x32_3, .int .i64 x32_4] hz8 rfl rfl (by kernel_rfl) rfl rfl ?_ ; intro w9 hh9 hg9 hs9; obtain ⟨k9, f9⟩ := blk hh9; have hr9 := hr8.far hg9 hzg (by omega); have hG9 := grown_far hG8 hg9 (Nat.le_refl _))
      refine bodyPost_ret (v := .agg #[.int .i64 x32_0, .int .i64 x32_1, .int .i64 (-1), .int .i64 x32_3, .int .i64 x32_4]) (by simp [results, Try.results68, go_sem, k9]) rfl ⟨_, _, rfl, ⟨_, _, _, _, _, rfl, by omega, by omega, by omega, by omega, by omega⟩, by omega, hr9, hG9⟩
/-- A drawn flow that is valid. -/
def flowV (v : Value) : Prop := ∃ f0 f1 f2 f3 f4 : Int, v = .agg #[.int .i64 f0, .int .i64 f1, .int .i64 f2, .int .i64 f3, .int .i64 f4] ∧ (0 ≤ f0 ∧ f0 ≤ 255) ∧ (0 ≤ f1 ∧ f1 ≤ 999) ∧ (0 ≤ f2 ∧ f2 ≤ 255) ∧ (0 ≤ f3 ∧ f3 ≤ 999) ∧ (1 ≤ f4 ∧ f4 ≤ 2)
set_option maxHeartbeats 8000000 in
theorem l20Flow0_any {w : World} {B g : Nat} {A : Option Addr} {m c p : Nat} (h : Rd w B g A m c p) (hp2 : p ≤ 1000000000) :
    Calls Try.prog 68 #[(.pointer (some ⟨g, 0, none⟩)), .int .i64 0] w (Drawn w B g A m c p 100 (kVal g g (fun _ => False) flowV)) := by
  have hlt := h.lt
  have hBg := h.2.1
  have hzg : w.heap.size ≠ g := by omega
  go_enter Try.func68, Try.ntmps68
  go_wp2
  refine wp_region_draws (ds := [(0, 6), (1, 7), (2, 8), (3, 9), (4, 10), (5, 11), (6, 12), (7, 13), (8, 14), (9, 15), (10, 16), (11, 17), (12, 18), (13, 19), (14, 20), (15, 21), (16, 22), (17, 23), (18, 24), (19, 25), (20, 26), (21, 27), (22, 28), (23, 29), (24, 30), (25, 31), (26, 32), (27, 5)]) (B := B) (g := g) (z := g) (O := fun _ => False) (A := A) (m := m) (c := c) (p := _) 28 1 [kIs g g (fun _ => False) (.pointer (some ⟨g, 0, none⟩)), kInt g g (fun _ => False) 0 3, kIs g g (fun _ => False) (.pointer (some ⟨g, 0, none⟩)), kInt g g (fun _ => False) 0 255, kArr g g (fun _ => False) 3 3 (fun cs => ∃ y0 : Int, 0 ≤ y0 ∧ y0 ≤ 255 ∧ cs = #[.int .i64 80, .int .i64 443, .int .i64 y0]), kIs g g (fun _ => False) (.pointer (some ⟨g, 0, none⟩)), kInt g g (fun _ => False) 0 2, kCell g g (fun _ => False) (fun v => ∃ y0 : Int, 0 ≤ y0 ∧ y0 ≤ 443 ∧ v = .int .i64 y0), kInt g g (fun _ => False) 0 443, kIs g g (fun _ => False) (.pointer (some ⟨g, 0, none⟩)), kInt g g (fun _ => False) 0 3, kArr g g (fun _ => False) 3 2 (fun cs => ∃ y0 : Int, 0 ≤ y0 ∧ y0 ≤ 3 ∧ cs = #[.int .i64 y0, .int .i64 255]), kIs g g (fun _ => False) (.pointer (some ⟨g, 0, none⟩)), kInt g g (fun _ => False) 0 5, kInt g g (fun _ => False) 0 1, kCell g g (fun _ => False) (fun v => ∃ y0 : Int, 0 ≤ y0 ∧ y0 ≤ 255 ∧ v = .int .i64 y0), kInt g g (fun _ => False) 0 255, kArr g g (fun _ => False) 3 2 (fun cs => cs = #[.int .i64 80, .int .i64 999]), kIs g g (fun _ => False) (.pointer (some ⟨g, 0, none⟩)), kInt g g (fun _ => False) 0 5, kInt g g (fun _ => False) 0 1, kCell g g (fun _ => False) (fun v => ∃ y0 : Int, 80 ≤ y0 ∧ y0 ≤ 999 ∧ v = .int .i64 y0), kInt g g (fun _ => False) 80 999, kIs g g (fun _ => False) (.pointer (some ⟨g, 0, none⟩)), kInt g g (fun _ => False) 0 1, kInt g g (fun _ => False) 1 2, kVal g g (fun _ => False) (fun v => ∃ y0 : Int, ∃ y1 : Int, ∃ y2 : Int, ∃ y3 : Int, ∃ y4 : Int, 0 ≤ y0 ∧ y0 ≤ 3 ∧ 0 ≤ y1 ∧ y1 ≤ 443 ∧ 0 ≤ y2 ∧ y2 ≤ 255 ∧ 80 ≤ y3 ∧ y3 ≤ 999 ∧ 1 ≤ y4 ∧ y4 ≤ 2 ∧ v = .agg #[.int .i64 y0, .int .i64 y1, .int .i64 y2, .int .i64 y3, .int .i64 y4]), kNew g g (fun _ => False) (w.heap.size + 1) 59 #[.int .i64 0, .int .i64 0, .int .i64 0, .int .i64 0, .int .i64 0]] (by kernel_rfl) (by kernel_rfl) (by first | exact .inl rfl | exact .inr (by kernel_rfl)) (h.alloc _) (Rd.lt (h.alloc _)) (by rfl) ?_ rfl rfl ?_
  · refine each_cons ?_ ( each_cons ?_ ( each_cons ?_ ( each_cons ?_ ( each_cons ?_ ( each_cons ?_ ( each_cons ?_ ( each_cons ?_ ( each_cons ?_ ( each_cons ?_ ( each_cons ?_ ( each_cons ?_ ( each_cons ?_ ( each_cons ?_ ( each_cons ?_ ( each_cons ?_ ( each_cons ?_ ( each_cons ?_ ( each_cons ?_ ( each_cons ?_ ( each_cons ?_ ( each_cons ?_ ( each_cons ?_ ( each_cons ?_ ( each_cons ?_ ( each_cons ?_ ( each_cons ?_ ( each_cons ?_ ( each_nil))))))))))))))))))))))))))))
    · intro q a' w' hq hRd hLe hzl hfr hdep
      have e0 : a'.tmps.getD 0 undef = .pointer (some ⟨g, 0, none⟩) := hfr 0 rfl
      have f0 := e0; simp only [Array.getD_eq_getD_getElem?] at f0
      refine wpOp_plain rfl rfl (fun K hK => ?_)
      go_simp
      exact hK _ _ ⟨_, q, rfl, by omega, hRd, Turns.refl _, rfl, nofun⟩
    · intro q a' w' hq hRd hLe hzl hfr hdep
      have e6 : a'.tmps.getD 6 undef = .pointer (some ⟨g, 0, none⟩) := hdep 0 _ 6 rfl rfl rfl
      have f6 := e6; simp only [Array.getD_eq_getD_getElem?] at f6
      refine wpOp_plain rfl rfl (fun K hK => ?_)
      go_simp
      refine (pick_any hRd _ (by omega)).mono ?_
      rintro e w2 ⟨k, rfl, hk, hr, hg, hs⟩
      have hk1 := hk.1; have hk2 := hk.2.1; have hk3 := hk.2.2
      exact hK _ _ ⟨_, _, rfl, by omega, hr, Turns.of_grown hg, ⟨k, rfl, by omega, by omega⟩, nofun⟩
    · intro q a' w' hq hRd hLe hzl hfr hdep
      have e0 : a'.tmps.getD 0 undef = .pointer (some ⟨g, 0, none⟩) := hfr 0 rfl
      have f0 := e0; simp only [Array.getD_eq_getD_getElem?] at f0
      refine wpOp_plain rfl rfl (fun K hK => ?_)
      go_simp
      exact hK _ _ ⟨_, q, rfl, by omega, hRd, Turns.refl _, rfl, nofun⟩
    · intro q a' w' hq hRd hLe hzl hfr hdep
      have e8 : a'.tmps.getD 8 undef = .pointer (some ⟨g, 0, none⟩) := hdep 2 _ 8 rfl rfl rfl
      have f8 := e8; simp only [Array.getD_eq_getD_getElem?] at f8
      refine wpOp_plain rfl rfl (fun K hK => ?_)
      go_simp
      refine (pick_any hRd _ (by omega)).mono ?_
      rintro e w2 ⟨k, rfl, hk, hr, hg, hs⟩
      have hk1 := hk.1; have hk2 := hk.2.1; have hk3 := hk.2.2
      exact hK _ _ ⟨_, _, rfl, by omega, hr, Turns.of_grown hg, ⟨k, rfl, by omega, by omega⟩, nofun⟩
    · intro q a' w' hq hRd hLe hzl hfr hdep
      obtain ⟨x9, e9, b9, c9⟩ : (kInt g g (fun _ => False) 0 255).p (a'.tmps.getD 9 undef) w' := hdep 3 _ 9 rfl rfl rfl
      have f9 := e9; simp only [Array.getD_eq_getD_getElem?] at f9
      refine wpOp_plain rfl rfl (fun K hK => ?_)
      go_simp
      exact hK _ _ ⟨_, q, rfl, by omega, hRd.alloc _, Turns.alloc _ _, ⟨_, _, rfl, by have := hRd.lt; omega, heap_alloc_new _ _, x9, by omega, by omega, rfl⟩, nofun⟩
    · intro q a' w' hq hRd hLe hzl hfr hdep
      have e0 : a'.tmps.getD 0 undef = .pointer (some ⟨g, 0, none⟩) := hfr 0 rfl
      have f0 := e0; simp only [Array.getD_eq_getD_getElem?] at f0
      refine wpOp_plain rfl rfl (fun K hK => ?_)
      go_simp
      exact hK _ _ ⟨_, q, rfl, by omega, hRd, Turns.refl _, rfl, nofun⟩
    · intro q a' w' hq hRd hLe hzl hfr hdep
      have e11 : a'.tmps.getD 11 undef = .pointer (some ⟨g, 0, none⟩) := hdep 5 _ 11 rfl rfl rfl
      have f11 := e11; simp only [Array.getD_eq_getD_getElem?] at f11
      refine wpOp_plain rfl rfl (fun K hK => ?_)
      go_simp
      refine (pick_any hRd _ (by omega)).mono ?_
      rintro e w2 ⟨k, rfl, hk, hr, hg, hs⟩
      have hk1 := hk.1; have hk2 := hk.2.1; have hk3 := hk.2.2
      exact hK _ _ ⟨_, _, rfl, by omega, hr, Turns.of_grown hg, ⟨k, rfl, by omega, by omega⟩, nofun⟩
    · intro q a' w' hq hRd hLe hzl hfr hdep
      obtain ⟨a10, cs10, e10, hb10, hh10, y10_2, by10_2, cy10_2, rfl⟩ : (kArr g g (fun _ => False) 3 3 (fun cs => ∃ y0 : Int, 0 ≤ y0 ∧ y0 ≤ 255 ∧ cs = #[.int .i64 80, .int .i64 443, .int .i64 y0])).p (a'.tmps.getD 10 undef) w' := hdep 4 _ 10 rfl rfl rfl
      have f10 := e10; simp only [Array.getD_eq_getD_getElem?] at f10
      obtain ⟨x12, e12, b12, c12⟩ : (kInt g g (fun _ => False) 0 2).p (a'.tmps.getD 12 undef) w' := hdep 6 _ 12 rfl rfl rfl
      have f12 := e12; simp only [Array.getD_eq_getD_getElem?] at f12
      rcases (show x12 = 0 ∨ x12 = 1 ∨ x12 = 2 by omega) with rfl | rfl | rfl
      · refine wpOp_plain rfl rfl (fun K hK => ?_)
        go_simp
        exact hK _ _ ⟨_, q, rfl, by omega, hRd, Turns.refl _, ⟨_, _, _, rfl, hb10, (cell_of_row _ _ 0 _ _ _ hh10).trans rfl, 80, by omega, by omega, rfl⟩, nofun⟩
      · refine wpOp_plain rfl rfl (fun K hK => ?_)
        go_simp
        exact hK _ _ ⟨_, q, rfl, by omega, hRd, Turns.refl _, ⟨_, _, _, rfl, hb10, (cell_of_row _ _ 1 _ _ _ hh10).trans rfl, 443, by omega, by omega, rfl⟩, nofun⟩
      · refine wpOp_plain rfl rfl (fun K hK => ?_)
        go_simp
        exact hK _ _ ⟨_, q, rfl, by omega, hRd, Turns.refl _, ⟨_, _, _, rfl, hb10, (cell_of_row _ _ 2 _ _ _ hh10).trans rfl, y10_2, by omega, by omega, rfl⟩, nofun⟩
    · intro q a' w' hq hRd hLe hzl hfr hdep
      obtain ⟨a13, o13, v13, e13, hb13, hc13, y13_0, by13_0, cy13_0, rfl⟩ : (kCell g g (fun _ => False) (fun v => ∃ y0 : Int, 0 ≤ y0 ∧ y0 ≤ 443 ∧ v = .int .i64 y0)).p (a'.tmps.getD 13 undef) w' := hdep 7 _ 13 rfl rfl rfl
      have f13 := e13; simp only [Array.getD_eq_getD_getElem?] at f13
      refine wpOp_plain rfl rfl (fun K hK => ?_)
      go_simp
      exact hK _ _ ⟨_, q, rfl, by omega, hRd, Turns.refl _, ⟨_, rfl, by omega, by omega⟩, nofun⟩
    · intro q a' w' hq hRd hLe hzl hfr hdep
      have e0 : a'.tmps.getD 0 undef = .pointer (some ⟨g, 0, none⟩) := hfr 0 rfl
      have f0 := e0; simp only [Array.getD_eq_getD_getElem?] at f0
      refine wpOp_plain rfl rfl (fun K hK => ?_)
      go_simp
      exact hK _ _ ⟨_, q, rfl, by omega, hRd, Turns.refl _, rfl, nofun⟩
    · intro q a' w' hq hRd hLe hzl hfr hdep
      have e15 : a'.tmps.getD 15 undef = .pointer (some ⟨g, 0, none⟩) := hdep 9 _ 15 rfl rfl rfl
      have f15 := e15; simp only [Array.getD_eq_getD_getElem?] at f15
      refine wpOp_plain rfl rfl (fun K hK => ?_)
      go_simp
      refine (pick_any hRd _ (by omega)).mono ?_
      rintro e w2 ⟨k, rfl, hk, hr, hg, hs⟩
      have hk1 := hk.1; have hk2 := hk.2.1; have hk3 := hk.2.2
      exact hK _ _ ⟨_, _, rfl, by omega, hr, Turns.of_grown hg, ⟨k, rfl, by omega, by omega⟩, nofun⟩
    · intro q a' w' hq hRd hLe hzl hfr hdep
      obtain ⟨x16, e16, b16, c16⟩ : (kInt g g (fun _ => False) 0 3).p (a'.tmps.getD 16 undef) w' := hdep 10 _ 16 rfl rfl rfl
      have f16 := e16; simp only [Array.getD_eq_getD_getElem?] at f16
      refine wpOp_plain rfl rfl (fun K hK => ?_)
      go_simp
      exact hK _ _ ⟨_, q, rfl, by omega, hRd.alloc _, Turns.alloc _ _, ⟨_, _, rfl, by have := hRd.lt; omega, heap_alloc_new _ _, x16, by omega, by omega, rfl⟩, nofun⟩
    · intro q a' w' hq hRd hLe hzl hfr hdep
      have e0 : a'.tmps.getD 0 undef = .pointer (some ⟨g, 0, none⟩) := hfr 0 rfl
      have f0 := e0; simp only [Array.getD_eq_getD_getElem?] at f0
      refine wpOp_plain rfl rfl (fun K hK => ?_)
      go_simp
      exact hK _ _ ⟨_, q, rfl, by omega, hRd, Turns.refl _, rfl, nofun⟩
    · intro q a' w' hq hRd hLe hzl hfr hdep
      have e18 : a'.tmps.getD 18 undef = .pointer (some ⟨g, 0, none⟩) := hdep 12 _ 18 rfl rfl rfl
      have f18 := e18; simp only [Array.getD_eq_getD_getElem?] at f18
      refine wpOp_plain rfl rfl (fun K hK => ?_)
      go_simp
      refine (pick_any hRd _ (by omega)).mono ?_
      rintro e w2 ⟨k, rfl, hk, hr, hg, hs⟩
      have hk1 := hk.1; have hk2 := hk.2.1; have hk3 := hk.2.2
      exact hK _ _ ⟨_, _, rfl, by omega, hr, Turns.of_grown hg, ⟨k, rfl, by omega, by omega⟩, nofun⟩
    · intro q a' w' hq hRd hLe hzl hfr hdep
      obtain ⟨x19, e19, b19, c19⟩ : (kInt g g (fun _ => False) 0 5).p (a'.tmps.getD 19 undef) w' := hdep 13 _ 19 rfl rfl rfl
      have f19 := e19; simp only [Array.getD_eq_getD_getElem?] at f19
      have r20 : IntKind.i64.wrap (x19.tdiv 5) = x19 / 5 := by rw [Int.tdiv_eq_ediv_of_nonneg (by omega)]; exact IntWalk.i64_in _ (by omega)
      refine wpOp_plain rfl rfl (fun K hK => ?_)
      go_simp
      exact hK _ _ ⟨_, q, rfl, by omega, hRd, Turns.refl _, ⟨_, rfl, by omega, by omega⟩, nofun⟩
    · intro q a' w' hq hRd hLe hzl hfr hdep
      obtain ⟨a17, cs17, e17, hb17, hh17, y17_0, by17_0, cy17_0, rfl⟩ : (kArr g g (fun _ => False) 3 2 (fun cs => ∃ y0 : Int, 0 ≤ y0 ∧ y0 ≤ 3 ∧ cs = #[.int .i64 y0, .int .i64 255])).p (a'.tmps.getD 17 undef) w' := hdep 11 _ 17 rfl rfl rfl
      have f17 := e17; simp only [Array.getD_eq_getD_getElem?] at f17
      obtain ⟨x20, e20, b20, c20⟩ : (kInt g g (fun _ => False) 0 1).p (a'.tmps.getD 20 undef) w' := hdep 14 _ 20 rfl rfl rfl
      have f20 := e20; simp only [Array.getD_eq_getD_getElem?] at f20
      rcases (show x20 = 0 ∨ x20 = 1 by omega) with rfl | rfl
      · refine wpOp_plain rfl rfl (fun K hK => ?_)
        go_simp
        exact hK _ _ ⟨_, q, rfl, by omega, hRd, Turns.refl _, ⟨_, _, _, rfl, hb17, (cell_of_row _ _ 0 _ _ _ hh17).trans rfl, y17_0, by omega, by omega, rfl⟩, nofun⟩
      · refine wpOp_plain rfl rfl (fun K hK => ?_)
        go_simp
        exact hK _ _ ⟨_, q, rfl, by omega, hRd, Turns.refl _, ⟨_, _, _, rfl, hb17, (cell_of_row _ _ 1 _ _ _ hh17).trans rfl, 255, by omega, by omega, rfl⟩, nofun⟩
    · intro q a' w' hq hRd hLe hzl hfr hdep
      obtain ⟨a21, o21, v21, e21, hb21, hc21, y21_0, by21_0, cy21_0, rfl⟩ : (kCell g g (fun _ => False) (fun v => ∃ y0 : Int, 0 ≤ y0 ∧ y0 ≤ 255 ∧ v = .int .i64 y0)).p (a'.tmps.getD 21 undef) w' := hdep 15 _ 21 rfl rfl rfl
      have f21 := e21; simp only [Array.getD_eq_getD_getElem?] at f21
      refine wpOp_plain rfl rfl (fun K hK => ?_)
      go_simp
      exact hK _ _ ⟨_, q, rfl, by omega, hRd, Turns.refl _, ⟨_, rfl, by omega, by omega⟩, nofun⟩
    · intro q a' w' hq hRd hLe hzl hfr hdep
      refine wpOp_plain rfl rfl (fun K hK => ?_)
      go_simp
      exact hK _ _ ⟨_, q, rfl, by omega, hRd.alloc _, Turns.alloc _ _, ⟨_, _, rfl, by have := hRd.lt; omega, heap_alloc_new _ _, rfl⟩, nofun⟩
    · intro q a' w' hq hRd hLe hzl hfr hdep
      have e0 : a'.tmps.getD 0 undef = .pointer (some ⟨g, 0, none⟩) := hfr 0 rfl
      have f0 := e0; simp only [Array.getD_eq_getD_getElem?] at f0
      refine wpOp_plain rfl rfl (fun K hK => ?_)
      go_simp
      exact hK _ _ ⟨_, q, rfl, by omega, hRd, Turns.refl _, rfl, nofun⟩
    · intro q a' w' hq hRd hLe hzl hfr hdep
      have e24 : a'.tmps.getD 24 undef = .pointer (some ⟨g, 0, none⟩) := hdep 18 _ 24 rfl rfl rfl
      have f24 := e24; simp only [Array.getD_eq_getD_getElem?] at f24
      refine wpOp_plain rfl rfl (fun K hK => ?_)
      go_simp
      refine (pick_any hRd _ (by omega)).mono ?_
      rintro e w2 ⟨k, rfl, hk, hr, hg, hs⟩
      have hk1 := hk.1; have hk2 := hk.2.1; have hk3 := hk.2.2
      exact hK _ _ ⟨_, _, rfl, by omega, hr, Turns.of_grown hg, ⟨k, rfl, by omega, by omega⟩, nofun⟩
    · intro q a' w' hq hRd hLe hzl hfr hdep
      obtain ⟨x25, e25, b25, c25⟩ : (kInt g g (fun _ => False) 0 5).p (a'.tmps.getD 25 undef) w' := hdep 19 _ 25 rfl rfl rfl
      have f25 := e25; simp only [Array.getD_eq_getD_getElem?] at f25
      have r26 : IntKind.i64.wrap (x25.tdiv 5) = x25 / 5 := by rw [Int.tdiv_eq_ediv_of_nonneg (by omega)]; exact IntWalk.i64_in _ (by omega)
      refine wpOp_plain rfl rfl (fun K hK => ?_)
      go_simp
      exact hK _ _ ⟨_, q, rfl, by omega, hRd, Turns.refl _, ⟨_, rfl, by omega, by omega⟩, nofun⟩
    · intro q a' w' hq hRd hLe hzl hfr hdep
      obtain ⟨a23, cs23, e23, hb23, hh23, rfl⟩ : (kArr g g (fun _ => False) 3 2 (fun cs => cs = #[.int .i64 80, .int .i64 999])).p (a'.tmps.getD 23 undef) w' := hdep 17 _ 23 rfl rfl rfl
      have f23 := e23; simp only [Array.getD_eq_getD_getElem?] at f23
      obtain ⟨x26, e26, b26, c26⟩ : (kInt g g (fun _ => False) 0 1).p (a'.tmps.getD 26 undef) w' := hdep 20 _ 26 rfl rfl rfl
      have f26 := e26; simp only [Array.getD_eq_getD_getElem?] at f26
      rcases (show x26 = 0 ∨ x26 = 1 by omega) with rfl | rfl
      · refine wpOp_plain rfl rfl (fun K hK => ?_)
        go_simp
        exact hK _ _ ⟨_, q, rfl, by omega, hRd, Turns.refl _, ⟨_, _, _, rfl, hb23, (cell_of_row _ _ 0 _ _ _ hh23).trans rfl, 80, by omega, by omega, rfl⟩, nofun⟩
      · refine wpOp_plain rfl rfl (fun K hK => ?_)
        go_simp
        exact hK _ _ ⟨_, q, rfl, by omega, hRd, Turns.refl _, ⟨_, _, _, rfl, hb23, (cell_of_row _ _ 1 _ _ _ hh23).trans rfl, 999, by omega, by omega, rfl⟩, nofun⟩
    · intro q a' w' hq hRd hLe hzl hfr hdep
      obtain ⟨a27, o27, v27, e27, hb27, hc27, y27_0, by27_0, cy27_0, rfl⟩ : (kCell g g (fun _ => False) (fun v => ∃ y0 : Int, 80 ≤ y0 ∧ y0 ≤ 999 ∧ v = .int .i64 y0)).p (a'.tmps.getD 27 undef) w' := hdep 21 _ 27 rfl rfl rfl
      have f27 := e27; simp only [Array.getD_eq_getD_getElem?] at f27
      refine wpOp_plain rfl rfl (fun K hK => ?_)
      go_simp
      exact hK _ _ ⟨_, q, rfl, by omega, hRd, Turns.refl _, ⟨_, rfl, by omega, by omega⟩, nofun⟩
    · intro q a' w' hq hRd hLe hzl hfr hdep
      have e0 : a'.tmps.getD 0 undef = .pointer (some ⟨g, 0, none⟩) := hfr 0 rfl
      have f0 := e0; simp only [Array.getD_eq_getD_getElem?] at f0
      refine wpOp_plain rfl rfl (fun K hK => ?_)
      go_simp
      exact hK _ _ ⟨_, q, rfl, by omega, hRd, Turns.refl _, rfl, nofun⟩
    · intro q a' w' hq hRd hLe hzl hfr hdep
      have e29 : a'.tmps.getD 29 undef = .pointer (some ⟨g, 0, none⟩) := hdep 23 _ 29 rfl rfl rfl
      have f29 := e29; simp only [Array.getD_eq_getD_getElem?] at f29
      refine wpOp_plain rfl rfl (fun K hK => ?_)
      go_simp
      refine (pick_any hRd _ (by omega)).mono ?_
      rintro e w2 ⟨k, rfl, hk, hr, hg, hs⟩
      have hk1 := hk.1; have hk2 := hk.2.1; have hk3 := hk.2.2
      exact hK _ _ ⟨_, _, rfl, by omega, hr, Turns.of_grown hg, ⟨k, rfl, by omega, by omega⟩, nofun⟩
    · intro q a' w' hq hRd hLe hzl hfr hdep
      obtain ⟨x30, e30, b30, c30⟩ : (kInt g g (fun _ => False) 0 1).p (a'.tmps.getD 30 undef) w' := hdep 24 _ 30 rfl rfl rfl
      have f30 := e30; simp only [Array.getD_eq_getD_getElem?] at f30
      have r31 : IntKind.i64.wrap (1 + x30) = 1 + x30 := IntWalk.i64_in _ (by omega)
      refine wpOp_plain rfl rfl (fun K hK => ?_)
      go_simp
      exact hK _ _ ⟨_, q, rfl, by omega, hRd, Turns.refl _, ⟨_, rfl, by omega, by omega⟩, nofun⟩
    · intro q a' w' hq hRd hLe hzl hfr hdep
      obtain ⟨x7, e7, b7, c7⟩ : (kInt g g (fun _ => False) 0 3).p (a'.tmps.getD 7 undef) w' := hdep 1 _ 7 rfl rfl rfl
      have f7 := e7; simp only [Array.getD_eq_getD_getElem?] at f7
      obtain ⟨x14, e14, b14, c14⟩ : (kInt g g (fun _ => False) 0 443).p (a'.tmps.getD 14 undef) w' := hdep 8 _ 14 rfl rfl rfl
      have f14 := e14; simp only [Array.getD_eq_getD_getElem?] at f14
      obtain ⟨x22, e22, b22, c22⟩ : (kInt g g (fun _ => False) 0 255).p (a'.tmps.getD 22 undef) w' := hdep 16 _ 22 rfl rfl rfl
      have f22 := e22; simp only [Array.getD_eq_getD_getElem?] at f22
      obtain ⟨x28, e28, b28, c28⟩ : (kInt g g (fun _ => False) 80 999).p (a'.tmps.getD 28 undef) w' := hdep 22 _ 28 rfl rfl rfl
      have f28 := e28; simp only [Array.getD_eq_getD_getElem?] at f28
      obtain ⟨x31, e31, b31, c31⟩ : (kInt g g (fun _ => False) 1 2).p (a'.tmps.getD 31 undef) w' := hdep 25 _ 31 rfl rfl rfl
      have f31 := e31; simp only [Array.getD_eq_getD_getElem?] at f31
      refine wpOp_plain rfl rfl (fun K hK => ?_)
      go_simp
      exact hK _ _ ⟨_, q, rfl, by omega, hRd, Turns.refl _, ⟨x7, x14, x22, x28, x31, by omega, by omega, by omega, by omega, by omega, by omega, by omega, by omega, by omega, by omega, rfl⟩, nofun⟩
    · intro q a' w' hq hRd hLe hzl hfr hdep
      refine wpOp_plain rfl rfl (fun K hK => ?_)
      go_simp
      exact hK _ _ ⟨_, q, rfl, by omega, hRd.alloc _, Turns.alloc _ _, ⟨_, rfl, by have := hRd.lt; omega, by have := hLe.size; (try simp at this); omega, heap_alloc_new _ _⟩, nofun⟩
  intro vs w1 q1 hq1 hr1 hg1 hT1 hN1
  replace hg1 := hg1.grown
  obtain ⟨a5, e5, hb5, hB5, hh5⟩ : (kNew g g (fun _ => False) (w.heap.size + 1) 59 #[.int .i64 0, .int .i64 0, .int .i64 0, .int .i64 0, .int .i64 0]).p (vs 27) w1 := hT1 27 5 rfl
  obtain ⟨x32_0, x32_1, x32_2, x32_3, x32_4, bx32_0, cx32_0, bx32_1, cx32_1, bx32_2, cx32_2, bx32_3, cx32_3, bx32_4, cx32_4, e32⟩ : (kVal g g (fun _ => False) (fun v => ∃ y0 : Int, ∃ y1 : Int, ∃ y2 : Int, ∃ y3 : Int, ∃ y4 : Int, 0 ≤ y0 ∧ y0 ≤ 3 ∧ 0 ≤ y1 ∧ y1 ≤ 443 ∧ 0 ≤ y2 ∧ y2 ≤ 255 ∧ 80 ≤ y3 ∧ y3 ≤ 999 ∧ 1 ≤ y4 ∧ y4 ≤ 2 ∧ v = .agg #[.int .i64 y0, .int .i64 y1, .int .i64 y2, .int .i64 y3, .int .i64 y4])).p (vs 26) w1 := hT1 26 32 rfl
  clear hT1 hN1
  simp only [putAll, List.drop_succ_cons, List.drop_zero, e5, e32]
  clear e5 e32
  go_simp
  have hza : w.heap.size ≠ a5 := by omega
  have hz1 := heap_far (heap_alloc_new w _) hg1 hzg
  have hG1 := grown_trans (grown_alloc (grown_refl w _) _) hg1
  refine wpList_store_var rfl 59 (.tmp 5) (.tmp 32) rfl #[.int .i64 x32_0, .int .i64 x32_1, .int .i64 x32_2, .int .i64 x32_3, .int .i64 x32_4] hh5 rfl rfl (by kernel_rfl) rfl rfl ?_
  intro w2 hh2 hgs2 hs2
  have hr2 := hr1.far hgs2 hb5.1 (by omega)
  have hz2 := heap_far hz1 hgs2 hza
  have hG2 := grown_far hG1 hgs2 (by omega)
  go_wp2_with fail
  refine (odd_any hr2 _ (by omega) (by omega)).mono ?_
  rintro e w5 ⟨od, q5, rfl, hq5, hr5, hg5, hs5, hy5⟩
  obtain rfl := hy5 (by omega)
  have hh5 := heap_far hh2 hg5 hb5.1; have hz5 := heap_far hz2 hg5 hzg; have hG5 := grown_trans hG2 hg5
  obtain ⟨kx, fx⟩ := blk hh5
  obtain ⟨kz, fz⟩ := blk hz5
  go_wp2_with (refine wpList_store_var rfl 59 (.tmp 4) (.tmp 58) rfl #[.int .i64 x32_0, .int .i64 x32_1, .int .i64 x32_2, .int .i64 x32_3, .int .i64 x32_4] hz5 rfl rfl (by kernel_rfl) rfl rfl ?_ ; intro w9 hh9 hg9 hs9; obtain ⟨k9, f9⟩ := blk hh9; have hr9 := hr5.far hg9 hzg (by omega); have hG9 := grown_far hG5 hg9 (Nat.le_refl _))
  refine bodyPost_ret (v := .agg #[.int .i64 x32_0, .int .i64 x32_1, .int .i64 x32_2, .int .i64 x32_3, .int .i64 x32_4]) (by simp [results, Try.results68, go_sem, k9]) rfl ⟨_, _, rfl, ⟨_, _, _, _, _, rfl, by omega, by omega, by omega, by omega, by omega⟩, by omega, hr9, hG9⟩
end Go.Proofs.Ytbnfllpimnnmfaa
