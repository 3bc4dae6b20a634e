/-
  The drawn sender: whatever the code, its fields lie in small bounds.
-/
import Derived.Test.YtejfmhiogafhiaaReg
import Derived.Test.YtejfmhiogafhiaaSnd2
namespace Go.Proofs.Ytejfmhiogafhiaa
open Go.RowKit

/-- A sender whose fields lie in small bounds. -/
def sndR (v : Value) : Prop := ∃ f n r : Int, v = .agg #[.int .i64 f, .int .i64 n, .int .i64 r] ∧ -1 ≤ f ∧ f ≤ 100001 ∧ -2 ≤ n ∧ n ≤ 110000 ∧ 0 ≤ r ∧ r ≤ 1001

set_option maxHeartbeats 4000000 in
theorem l20Sender_any {w : World} {B g : Nat} {A : Option Addr} {m c p : Nat} (h : Rd w B g A m c p) (n : Int) (hn : -1000000 ≤ n) (hp2 : p ≤ 1000000000) :
    Calls Try.prog 29 #[(.pointer (some ⟨g, 0, none⟩)), .int .i64 n] w (Drawn w B g A m c p 100 (kVal g g (fun _ => False) sndR)) := by
  have hlt := h.lt
  have hBg := h.2.1
  have hzg : w.heap.size ≠ g := by omega
  go_enter Try.func29, Try.ntmps29
  go_wp2
  refine wp_region_draws (ds := [(0, 6), (1, 7), (2, 8), (3, 9), (4, 10), (5, 11), (6, 12), (7, 13), (8, 14), (9, 15), (10, 16), (11, 17), (12, 5)]) (B := B) (g := g) (z := g) (O := fun _ => False) (A := A) (m := m) (c := c) (p := _) 13 1 [kIs g g (fun _ => False) (.pointer (some ⟨g, 0, none⟩)), kInt g g (fun _ => False) 0 255, kArr g g (fun _ => False) 3 2 (fun cs => ∃ y0 : Int, 0 ≤ y0 ∧ y0 ≤ 255 ∧ cs = #[.int .i64 y0, .int .i64 100000]), kIs g g (fun _ => False) (.pointer (some ⟨g, 0, none⟩)), kInt g g (fun _ => False) 0 8, kInt g g (fun _ => False) 0 1, kCell g g (fun _ => False) (fun v => ∃ y0 : Int, 0 ≤ y0 ∧ y0 ≤ 100000 ∧ v = .int .i64 y0), kInt g g (fun _ => False) 0 100000, kIs g g (fun _ => False) (.pointer (some ⟨g, 0, none⟩)), kInt g g (fun _ => False) 0 19, kInt g g (fun _ => False) 1 20, kVal g g (fun _ => False) (fun v => ∃ y0 : Int, ∃ y1 : Int, 0 ≤ y0 ∧ y0 ≤ 100000 ∧ 1 ≤ y1 ∧ y1 ≤ 20 ∧ v = .agg #[.int .i64 y0, .int .i64 0, .int .i64 y1]), kNew g g (fun _ => False) (w.heap.size + 1) 25 #[.int .i64 0, .int .i64 0, .int .i64 0]] (by kernel_rfl) (by kernel_rfl) (by first | exact .inl rfl | exact .inr (by kernel_rfl)) (h.alloc _) (Rd.lt (h.alloc _)) (by rfl) ?_ rfl rfl ?_
  · refine each_cons ?_ ( each_cons ?_ ( each_cons ?_ ( each_cons ?_ ( each_cons ?_ ( each_cons ?_ ( each_cons ?_ ( each_cons ?_ ( each_cons ?_ ( each_cons ?_ ( each_cons ?_ ( each_cons ?_ ( each_cons ?_ ( each_nil)))))))))))))
    · intro q a' w' hq hRd hLe hzl hfr hdep
      have e0 : a'.tmps.getD 0 undef = .pointer (some ⟨g, 0, none⟩) := hfr 0 rfl
      have f0 := e0; simp only [Array.getD_eq_getD_getElem?] at f0
      refine wpOp_plain rfl rfl (fun K hK => ?_)
      go_simp
      exact hK _ _ ⟨_, q, rfl, by omega, hRd, Turns.refl _, rfl, nofun⟩
    · intro q a' w' hq hRd hLe hzl hfr hdep
      have e6 : a'.tmps.getD 6 undef = .pointer (some ⟨g, 0, none⟩) := hdep 0 _ 6 rfl rfl rfl
      have f6 := e6; simp only [Array.getD_eq_getD_getElem?] at f6
      refine wpOp_plain rfl rfl (fun K hK => ?_)
      go_simp
      refine (pick_any hRd _ (by omega)).mono ?_
      rintro e w2 ⟨k, rfl, hk, hr, hg, hs⟩
      have hk1 := hk.1; have hk2 := hk.2.1; have hk3 := hk.2.2
      exact hK _ _ ⟨_, _, rfl, by omega, hr, Turns.of_grown hg, ⟨k, rfl, by omega, by omega⟩, nofun⟩
    · intro q a' w' hq hRd hLe hzl hfr hdep
      obtain ⟨x7, e7, b7, c7⟩ : (kInt g g (fun _ => False) 0 255).p (a'.tmps.getD 7 undef) w' := hdep 1 _ 7 rfl rfl rfl
      have f7 := e7; simp only [Array.getD_eq_getD_getElem?] at f7
      refine wpOp_plain rfl rfl (fun K hK => ?_)
      go_simp
      exact hK _ _ ⟨_, q, rfl, by omega, hRd.alloc _, Turns.alloc _ _, ⟨_, _, rfl, by have := hRd.lt; omega, heap_alloc_new _ _, x7, by omega, by omega, rfl⟩, nofun⟩
    · intro q a' w' hq hRd hLe hzl hfr hdep
      have e0 : a'.tmps.getD 0 undef = .pointer (some ⟨g, 0, none⟩) := hfr 0 rfl
      have f0 := e0; simp only [Array.getD_eq_getD_getElem?] at f0
      refine wpOp_plain rfl rfl (fun K hK => ?_)
      go_simp
      exact hK _ _ ⟨_, q, rfl, by omega, hRd, Turns.refl _, rfl, nofun⟩
    · intro q a' w' hq hRd hLe hzl hfr hdep
      have e9 : a'.tmps.getD 9 undef = .pointer (some ⟨g, 0, none⟩) := hdep 3 _ 9 rfl rfl rfl
      have f9 := e9; simp only [Array.getD_eq_getD_getElem?] at f9
      refine wpOp_plain rfl rfl (fun K hK => ?_)
      go_simp
      refine (pick_any hRd _ (by omega)).mono ?_
      rintro e w2 ⟨k, rfl, hk, hr, hg, hs⟩
      have hk1 := hk.1; have hk2 := hk.2.1; have hk3 := hk.2.2
      exact hK _ _ ⟨_, _, rfl, by omega, hr, Turns.of_grown hg, ⟨k, rfl, by omega, by omega⟩, nofun⟩
    · intro q a' w' hq hRd hLe hzl hfr hdep
      obtain ⟨x10, e10, b10, c10⟩ : (kInt g g (fun _ => False) 0 8).p (a'.tmps.getD 10 undef) w' := hdep 4 _ 10 rfl rfl rfl
      have f10 := e10; simp only [Array.getD_eq_getD_getElem?] at f10
      have r11 : IntKind.i64.wrap (x10.tdiv 8) = x10 / 8 := by rw [Int.tdiv_eq_ediv_of_nonneg (by omega)]; exact IntWalk.i64_in _ (by omega)
      refine wpOp_plain rfl rfl (fun K hK => ?_)
      go_simp
      exact hK _ _ ⟨_, q, rfl, by omega, hRd, Turns.refl _, ⟨_, rfl, by omega, by omega⟩, nofun⟩
    · intro q a' w' hq hRd hLe hzl hfr hdep
      obtain ⟨a8, cs8, e8, hb8, hh8, y8_0, by8_0, cy8_0, rfl⟩ : (kArr g g (fun _ => False) 3 2 (fun cs => ∃ y0 : Int, 0 ≤ y0 ∧ y0 ≤ 255 ∧ cs = #[.int .i64 y0, .int .i64 100000])).p (a'.tmps.getD 8 undef) w' := hdep 2 _ 8 rfl rfl rfl
      have f8 := e8; simp only [Array.getD_eq_getD_getElem?] at f8
      obtain ⟨x11, e11, b11, c11⟩ : (kInt g g (fun _ => False) 0 1).p (a'.tmps.getD 11 undef) w' := hdep 5 _ 11 rfl rfl rfl
      have f11 := e11; simp only [Array.getD_eq_getD_getElem?] at f11
      rcases (show x11 = 0 ∨ x11 = 1 by omega) with rfl | rfl
      · refine wpOp_plain rfl rfl (fun K hK => ?_)
        go_simp
        exact hK _ _ ⟨_, q, rfl, by omega, hRd, Turns.refl _, ⟨_, _, _, rfl, hb8, (cell_of_row _ _ 0 _ _ _ hh8).trans rfl, y8_0, by omega, by omega, rfl⟩, nofun⟩
      · refine wpOp_plain rfl rfl (fun K hK => ?_)
        go_simp
        exact hK _ _ ⟨_, q, rfl, by omega, hRd, Turns.refl _, ⟨_, _, _, rfl, hb8, (cell_of_row _ _ 1 _ _ _ hh8).trans rfl, 100000, by omega, by omega, rfl⟩, nofun⟩
    · intro q a' w' hq hRd hLe hzl hfr hdep
      obtain ⟨a12, o12, v12, e12, hb12, hc12, y12_0, by12_0, cy12_0, rfl⟩ : (kCell g g (fun _ => False) (fun v => ∃ y0 : Int, 0 ≤ y0 ∧ y0 ≤ 100000 ∧ v = .int .i64 y0)).p (a'.tmps.getD 12 undef) w' := hdep 6 _ 12 rfl rfl rfl
      have f12 := e12; simp only [Array.getD_eq_getD_getElem?] at f12
      refine wpOp_plain rfl rfl (fun K hK => ?_)
      go_simp
      exact hK _ _ ⟨_, q, rfl, by omega, hRd, Turns.refl _, ⟨_, rfl, by omega, by omega⟩, nofun⟩
    · intro q a' w' hq hRd hLe hzl hfr hdep
      have e0 : a'.tmps.getD 0 undef = .pointer (some ⟨g, 0, none⟩) := hfr 0 rfl
      have f0 := e0; simp only [Array.getD_eq_getD_getElem?] at f0
      refine wpOp_plain rfl rfl (fun K hK => ?_)
      go_simp
      exact hK _ _ ⟨_, q, rfl, by omega, hRd, Turns.refl _, rfl, nofun⟩
    · intro q a' w' hq hRd hLe hzl hfr hdep
      have e14 : a'.tmps.getD 14 undef = .pointer (some ⟨g, 0, none⟩) := hdep 8 _ 14 rfl rfl rfl
      have f14 := e14; simp only [Array.getD_eq_getD_getElem?] at f14
      refine wpOp_plain rfl rfl (fun K hK => ?_)
      go_simp
      refine (pick_any hRd _ (by omega)).mono ?_
      rintro e w2 ⟨k, rfl, hk, hr, hg, hs⟩
      have hk1 := hk.1; have hk2 := hk.2.1; have hk3 := hk.2.2
      exact hK _ _ ⟨_, _, rfl, by omega, hr, Turns.of_grown hg, ⟨k, rfl, by omega, by omega⟩, nofun⟩
    · intro q a' w' hq hRd hLe hzl hfr hdep
      obtain ⟨x15, e15, b15, c15⟩ : (kInt g g (fun _ => False) 0 19).p (a'.tmps.getD 15 undef) w' := hdep 9 _ 15 rfl rfl rfl
      have f15 := e15; simp only [Array.getD_eq_getD_getElem?] at f15
      have r16 : IntKind.i64.wrap (1 + x15) = 1 + x15 := IntWalk.i64_in _ (by omega)
      refine wpOp_plain rfl rfl (fun K hK => ?_)
      go_simp
      exact hK _ _ ⟨_, q, rfl, by omega, hRd, Turns.refl _, ⟨_, rfl, by omega, by omega⟩, nofun⟩
    · intro q a' w' hq hRd hLe hzl hfr hdep
      obtain ⟨x13, e13, b13, c13⟩ : (kInt g g (fun _ => False) 0 100000).p (a'.tmps.getD 13 undef) w' := hdep 7 _ 13 rfl rfl rfl
      have f13 := e13; simp only [Array.getD_eq_getD_getElem?] at f13
      obtain ⟨x16, e16, b16, c16⟩ : (kInt g g (fun _ => False) 1 20).p (a'.tmps.getD 16 undef) w' := hdep 10 _ 16 rfl rfl rfl
      have f16 := e16; simp only [Array.getD_eq_getD_getElem?] at f16
      refine wpOp_plain rfl rfl (fun K hK => ?_)
      go_simp
      exact hK _ _ ⟨_, q, rfl, by omega, hRd, Turns.refl _, ⟨x13, x16, by omega, by omega, by omega, by omega, rfl⟩, nofun⟩
    · intro q a' w' hq hRd hLe hzl hfr hdep
      refine wpOp_plain rfl rfl (fun K hK => ?_)
      go_simp
      exact hK _ _ ⟨_, q, rfl, by omega, hRd.alloc _, Turns.alloc _ _, ⟨_, rfl, by have := hRd.lt; omega, by have := hLe.size; (try simp at this); omega, heap_alloc_new _ _⟩, nofun⟩
  intro vs w1 q1 hq1 hr1 hg1 hT1 hN1
  replace hg1 := hg1.grown
  obtain ⟨a5, e5, hb5, hB5, hh5⟩ : (kNew g g (fun _ => False) (w.heap.size + 1) 25 #[.int .i64 0, .int .i64 0, .int .i64 0]).p (vs 12) w1 := hT1 12 5 rfl
  obtain ⟨x17_0, x17_2, bx17_0, cx17_0, bx17_2, cx17_2, e17⟩ : (kVal g g (fun _ => False) (fun v => ∃ y0 : Int, ∃ y1 : Int, 0 ≤ y0 ∧ y0 ≤ 100000 ∧ 1 ≤ y1 ∧ y1 ≤ 20 ∧ v = .agg #[.int .i64 y0, .int .i64 0, .int .i64 y1])).p (vs 11) w1 := hT1 11 17 rfl
  clear hT1 hN1
  simp only [putAll, List.drop_succ_cons, List.drop_zero, e5, e17]
  clear e5 e17
  go_simp
  have hza : w.heap.size ≠ a5 := by omega
  have hz1 := heap_far (heap_alloc_new w _) hg1 hzg
  have hG1 := grown_trans (grown_alloc (grown_refl w _) _) hg1
  refine wpList_store_var rfl 25 (.tmp 5) (.tmp 17) rfl #[.int .i64 x17_0, .int .i64 0, .int .i64 x17_2] hh5 rfl rfl (by kernel_rfl) rfl rfl ?_
  intro w2 hh2 hgs2 hs2
  have hr2 := hr1.far hgs2 hb5.1 (by omega)
  have hz2 := heap_far hz1 hgs2 hza
  have hG2 := grown_far hG1 hgs2 (by omega)
  go_wp2_with fail
  refine wp_region_draws (ds := [(0, 18), (1, 19), (2, 20), (3, 21), (4, 22), (5, 23), (6, 24), (7, 25), (8, 26)]) (B := B) (g := g) (z := g) (O := fun _ => False) (A := A) (m := m) (c := c) (p := _) 9 1 [kIs g g (fun _ => False) (.pointer (some ⟨a5, 0, none⟩)), kIs g g (fun _ => False) (.int .i64 x17_0), kIs g g (fun _ => False) (.pointer (some ⟨g, 0, none⟩)), kIs g g (fun _ => False) (.pointer (some ⟨a5, 2, none⟩)), kIs g g (fun _ => False) (.int .i64 x17_2), kInt g g (fun _ => False) 2 21, kInt g g (fun _ => False) 0 20, kInt g g (fun _ => False) 0 100020, kIs g g (fun _ => False) (.pointer (some ⟨a5, 1, none⟩))] (by kernel_rfl) (by kernel_rfl) (by first | exact .inl rfl | exact .inr (by kernel_rfl)) hr2 (Rd.lt hr2) (by rfl) ?_ rfl rfl ?_
  · refine each_cons ?_ ( each_cons ?_ ( each_cons ?_ ( each_cons ?_ ( each_cons ?_ ( each_cons ?_ ( each_cons ?_ ( each_cons ?_ ( each_cons ?_ ( each_nil)))))))))
    · intro q a' w' hq hRd hLe hzl hfr hdep
      have e5 : a'.tmps.getD 5 undef = .pointer (some ⟨a5, 0, none⟩) := hfr 5 rfl
      have f5 := e5; simp only [Array.getD_eq_getD_getElem?] at f5
      refine wpOp_plain rfl rfl (fun K hK => ?_)
      go_simp
      exact hK _ _ ⟨_, q, rfl, by omega, hRd, Turns.refl _, rfl, nofun⟩
    · intro q a' w' hq hRd hLe hzl hfr hdep
      have e18 : a'.tmps.getD 18 undef = .pointer (some ⟨a5, 0, none⟩) := hdep 0 _ 18 rfl rfl rfl
      have f18 := e18; simp only [Array.getD_eq_getD_getElem?] at f18
      have hhx := hLe.keep hh2 hb5.1 hb5.2
      obtain ⟨kx, fx⟩ := blk hhx; clear hhx
      refine wpOp_plain rfl rfl (fun K hK => ?_)
      go_simp
      exact hK _ _ ⟨_, q, rfl, by omega, hRd, Turns.refl _, rfl, nofun⟩
    · intro q a' w' hq hRd hLe hzl hfr hdep
      have e0 : a'.tmps.getD 0 undef = .pointer (some ⟨g, 0, none⟩) := hfr 0 rfl
      have f0 := e0; simp only [Array.getD_eq_getD_getElem?] at f0
      refine wpOp_plain rfl rfl (fun K hK => ?_)
      go_simp
      exact hK _ _ ⟨_, q, rfl, by omega, hRd, Turns.refl _, rfl, nofun⟩
    · intro q a' w' hq hRd hLe hzl hfr hdep
      have e5 : a'.tmps.getD 5 undef = .pointer (some ⟨a5, 0, none⟩) := hfr 5 rfl
      have f5 := e5; simp only [Array.getD_eq_getD_getElem?] at f5
      refine wpOp_plain rfl rfl (fun K hK => ?_)
      go_simp
      exact hK _ _ ⟨_, q, rfl, by omega, hRd, Turns.refl _, rfl, nofun⟩
    · intro q a' w' hq hRd hLe hzl hfr hdep
      have e21 : a'.tmps.getD 21 undef = .pointer (some ⟨a5, 2, none⟩) := hdep 3 _ 21 rfl rfl rfl
      have f21 := e21; simp only [Array.getD_eq_getD_getElem?] at f21
      have hhx := hLe.keep hh2 hb5.1 hb5.2
      obtain ⟨kx, fx⟩ := blk hhx; clear hhx
      refine wpOp_plain rfl rfl (fun K hK => ?_)
      go_simp
      exact hK _ _ ⟨_, q, rfl, by omega, hRd, Turns.refl _, rfl, nofun⟩
    · intro q a' w' hq hRd hLe hzl hfr hdep
      have e22 : a'.tmps.getD 22 undef = .int .i64 x17_2 := hdep 4 _ 22 rfl rfl rfl
      have f22 := e22; simp only [Array.getD_eq_getD_getElem?] at f22
      have r23 : IntKind.i64.wrap (x17_2 + 1) = x17_2 + 1 := IntWalk.i64_in _ (by omega)
      refine wpOp_plain rfl rfl (fun K hK => ?_)
      go_simp
      exact hK _ _ ⟨_, q, rfl, by omega, hRd, Turns.refl _, ⟨_, rfl, by omega, by omega⟩, nofun⟩
    · intro q a' w' hq hRd hLe hzl hfr hdep
      have e20 : a'.tmps.getD 20 undef = .pointer (some ⟨g, 0, none⟩) := hdep 2 _ 20 rfl rfl rfl
      have f20 := e20; simp only [Array.getD_eq_getD_getElem?] at f20
      obtain ⟨x23, e23, b23, c23⟩ : (kInt g g (fun _ => False) 2 21).p (a'.tmps.getD 23 undef) w' := hdep 5 _ 23 rfl rfl rfl
      have f23 := e23; simp only [Array.getD_eq_getD_getElem?] at f23
      refine wpOp_plain rfl rfl (fun K hK => ?_)
      go_simp
      refine (pick_any hRd _ (by omega)).mono ?_
      rintro e w2 ⟨k, rfl, hk, hr, hg, hs⟩
      have hk1 := hk.1; have hk2 := hk.2.1; have hk3 := hk.2.2
      exact hK _ _ ⟨_, _, rfl, by omega, hr, Turns.of_grown hg, ⟨k, rfl, by omega, by omega⟩, nofun⟩
    · intro q a' w' hq hRd hLe hzl hfr hdep
      have e19 : a'.tmps.getD 19 undef = .int .i64 x17_0 := hdep 1 _ 19 rfl rfl rfl
      have f19 := e19; simp only [Array.getD_eq_getD_getElem?] at f19
      obtain ⟨x24, e24, b24, c24⟩ : (kInt g g (fun _ => False) 0 20).p (a'.tmps.getD 24 undef) w' := hdep 6 _ 24 rfl rfl rfl
      have f24 := e24; simp only [Array.getD_eq_getD_getElem?] at f24
      have r25 : IntKind.i64.wrap (x17_0 + x24) = x17_0 + x24 := IntWalk.i64_in _ (by omega)
      refine wpOp_plain rfl rfl (fun K hK => ?_)
      go_simp
      exact hK _ _ ⟨_, q, rfl, by omega, hRd, Turns.refl _, ⟨_, rfl, by omega, by omega⟩, nofun⟩
    · intro q a' w' hq hRd hLe hzl hfr hdep
      have e5 : a'.tmps.getD 5 undef = .pointer (some ⟨a5, 0, none⟩) := hfr 5 rfl
      have f5 := e5; simp only [Array.getD_eq_getD_getElem?] at f5
      refine wpOp_plain rfl rfl (fun K hK => ?_)
      go_simp
      exact hK _ _ ⟨_, q, rfl, by omega, hRd, Turns.refl _, rfl, nofun⟩
  intro vs w3 q3 hq3 hr3 hg3 hT3 hN3
  replace hg3 := hg3.grown
  obtain ⟨x25, e25, b25, c25⟩ : (kInt g g (fun _ => False) 0 100020).p (vs 7) w3 := hT3 7 25 rfl
  have e26 : vs 8 = .pointer (some ⟨a5, 1, none⟩) := hT3 8 26 rfl
  clear hT3 hN3
  simp only [putAll, List.drop_succ_cons, List.drop_zero, e25, e26]
  clear e25 e26
  go_simp
  have hh3 := heap_far hh2 hg3 hb5.1; have hz3 := heap_far hz2 hg3 hzg; have hG3 := grown_trans hG2 hg3
  refine wpList_store_at rfl 3 (.tmp 26) (.tmp 25) rfl (.int .i64 x25) #[.int .i64 x17_0, .int .i64 x25, .int .i64 x17_2] hh3 rfl rfl (by kernel_rfl) rfl rfl (by simp) rfl ?_; intro w4 hh4 hgs4 hs4; have hr4 := hr3.far hgs4 hb5.1 (by omega); have hz4 := heap_far hz3 hgs4 hza; have hG4 := grown_far hG3 hgs4 (by omega)
  go_wp2_with fail
  refine (odd_any hr4 _ hn (by omega)).mono ?_
  rintro e w5 ⟨od, q5, rfl, hq5, hr5, hg5, hs5, hy5⟩
  have hh5 := heap_far hh4 hg5 hb5.1; have hz5 := heap_far hz4 hg5 hzg; have hG5 := grown_trans hG4 hg5
  cases od with
  | false =>
    obtain ⟨kx, fx⟩ := blk hh5
    obtain ⟨kz, fz⟩ := blk hz5
    go_wp2_with (refine wpList_store_var rfl 25 (.tmp 4) (.tmp 60) rfl #[.int .i64 x17_0, .int .i64 x25, .int .i64 x17_2] hz5 rfl rfl (by kernel_rfl) rfl rfl ?_ ; intro w9 hh9 hg9 hs9; obtain ⟨k9, f9⟩ := blk hh9; have hr9 := hr5.far hg9 hzg (by omega); have hG9 := grown_far hG5 hg9 (Nat.le_refl _))
    refine bodyPost_ret (v := .agg #[.int .i64 x17_0, .int .i64 x25, .int .i64 x17_2]) (by simp [results, Try.results29, go_sem, k9]) rfl ⟨_, _, rfl, ⟨_, _, _, rfl, by omega, by omega, by omega, by omega, by omega, by omega⟩, by omega, hr9, hG9⟩
  | true =>
    go_wp2_with fail
    refine (pick_any hr5 _ (by omega)).mono ?_
    rintro e w6 ⟨k, rfl, hk, hr6, hg6, hs6⟩
    have hh6 := heap_far hh5 hg6 hb5.1; have hz6 := heap_far hz5 hg6 hzg; have hG6 := grown_trans hG5 hg6
    have hk1 := hk.1; have hk2 := hk.2.1 (by omega); clear hk
    rcases (show k = 0 ∨ k = 1 ∨ k = 2 by omega) with rfl | rfl | rfl
    · go_upto_region 7 with (fail)
      refine wp_region_draws (ds := [(0, 40), (1, 41), (2, 42), (3, 43), (4, 44), (5, 45)]) (B := B) (g := g) (z := g) (O := fun _ => False) (A := A) (m := m) (c := c) (p := _) 6 1 [kArr g g (fun _ => False) 3 2 (fun cs => cs = #[.int .i64 (-1), .int .i64 100001]), kIs g g (fun _ => False) (.pointer (some ⟨g, 0, none⟩)), kInt g g (fun _ => False) 0 1, kCell g g (fun _ => False) (fun v => ∃ y0 : Int, (-1) ≤ y0 ∧ y0 ≤ 100001 ∧ v = .int .i64 y0), kInt g g (fun _ => False) (-1) 100001, kIs g g (fun _ => False) (.pointer (some ⟨a5, 0, none⟩))] (by kernel_rfl) (by kernel_rfl) (by first | exact .inl rfl | exact .inr (by kernel_rfl)) hr6 (Rd.lt hr6) (by rfl) ?_ rfl rfl ?_
      · refine each_cons ?_ ( each_cons ?_ ( each_cons ?_ ( each_cons ?_ ( each_cons ?_ ( each_cons ?_ ( each_nil))))))
        · intro q a' w' hq hRd hLe hzl hfr hdep
          refine wpOp_plain rfl rfl (fun K hK => ?_)
          go_simp
          exact hK _ _ ⟨_, q, rfl, by omega, hRd.alloc _, Turns.alloc _ _, ⟨_, _, rfl, by have := hRd.lt; omega, heap_alloc_new _ _, rfl⟩, nofun⟩
        · intro q a' w' hq hRd hLe hzl hfr hdep
          have e0 : a'.tmps.getD 0 undef = .pointer (some ⟨g, 0, none⟩) := hfr 0 rfl
          have f0 := e0; simp only [Array.getD_eq_getD_getElem?] at f0
          refine wpOp_plain rfl rfl (fun K hK => ?_)
          go_simp
          exact hK _ _ ⟨_, q, rfl, by omega, hRd, Turns.refl _, rfl, nofun⟩
        · intro q a' w' hq hRd hLe hzl hfr hdep
          have e41 : a'.tmps.getD 41 undef = .pointer (some ⟨g, 0, none⟩) := hdep 1 _ 41 rfl rfl rfl
          have f41 := e41; simp only [Array.getD_eq_getD_getElem?] at f41
          refine wpOp_plain rfl rfl (fun K hK => ?_)
          go_simp
          refine (pick_any hRd _ (by omega)).mono ?_
          rintro e w2 ⟨k, rfl, hk, hr, hg, hs⟩
          have hk1 := hk.1; have hk2 := hk.2.1; have hk3 := hk.2.2
          exact hK _ _ ⟨_, _, rfl, by omega, hr, Turns.of_grown hg, ⟨k, rfl, by omega, by omega⟩, nofun⟩
        · intro q a' w' hq hRd hLe hzl hfr hdep
          obtain ⟨a40, cs40, e40, hb40, hh40, rfl⟩ : (kArr g g (fun _ => False) 3 2 (fun cs => cs = #[.int .i64 (-1), .int .i64 100001])).p (a'.tmps.getD 40 undef) w' := hdep 0 _ 40 rfl rfl rfl
          have f40 := e40; simp only [Array.getD_eq_getD_getElem?] at f40
          obtain ⟨x42, e42, b42, c42⟩ : (kInt g g (fun _ => False) 0 1).p (a'.tmps.getD 42 undef) w' := hdep 2 _ 42 rfl rfl rfl
          have f42 := e42; simp only [Array.getD_eq_getD_getElem?] at f42
          rcases (show x42 = 0 ∨ x42 = 1 by omega) with rfl | rfl
          · refine wpOp_plain rfl rfl (fun K hK => ?_)
            go_simp
            exact hK _ _ ⟨_, q, rfl, by omega, hRd, Turns.refl _, ⟨_, _, _, rfl, hb40, (cell_of_row _ _ 0 _ _ _ hh40).trans rfl, (-1), by omega, by omega, rfl⟩, nofun⟩
          · refine wpOp_plain rfl rfl (fun K hK => ?_)
            go_simp
            exact hK _ _ ⟨_, q, rfl, by omega, hRd, Turns.refl _, ⟨_, _, _, rfl, hb40, (cell_of_row _ _ 1 _ _ _ hh40).trans rfl, 100001, by omega, by omega, rfl⟩, nofun⟩
        · intro q a' w' hq hRd hLe hzl hfr hdep
          obtain ⟨a43, o43, v43, e43, hb43, hc43, y43_0, by43_0, cy43_0, rfl⟩ : (kCell g g (fun _ => False) (fun v => ∃ y0 : Int, (-1) ≤ y0 ∧ y0 ≤ 100001 ∧ v = .int .i64 y0)).p (a'.tmps.getD 43 undef) w' := hdep 3 _ 43 rfl rfl rfl
          have f43 := e43; simp only [Array.getD_eq_getD_getElem?] at f43
          refine wpOp_plain rfl rfl (fun K hK => ?_)
          go_simp
          exact hK _ _ ⟨_, q, rfl, by omega, hRd, Turns.refl _, ⟨_, rfl, by omega, by omega⟩, nofun⟩
        · intro q a' w' hq hRd hLe hzl hfr hdep
          have e5 : a'.tmps.getD 5 undef = .pointer (some ⟨a5, 0, none⟩) := hfr 5 rfl
          have f5 := e5; simp only [Array.getD_eq_getD_getElem?] at f5
          refine wpOp_plain rfl rfl (fun K hK => ?_)
          go_simp
          exact hK _ _ ⟨_, q, rfl, by omega, hRd, Turns.refl _, rfl, nofun⟩
      intro vs w7 q7 hq7 hr7 hg7 hT7 hN7
      replace hg7 := hg7.grown
      obtain ⟨x44, e44, b44, c44⟩ : (kInt g g (fun _ => False) (-1) 100001).p (vs 4) w7 := hT7 4 44 rfl
      have e45 : vs 5 = .pointer (some ⟨a5, 0, none⟩) := hT7 5 45 rfl
      clear hT7 hN7
      simp only [putAll, List.drop_succ_cons, List.drop_zero, e44, e45]
      clear e44 e45
      go_simp
      have hh7 := heap_far hh6 hg7 hb5.1; have hz7 := heap_far hz6 hg7 hzg; have hG7 := grown_trans hG6 hg7
      refine wpList_store_at rfl 3 (.tmp 45) (.tmp 44) rfl (.int .i64 x44) #[.int .i64 x44, .int .i64 x25, .int .i64 x17_2] hh7 rfl rfl (by kernel_rfl) rfl rfl (by simp) rfl ?_; intro w8 hh8 hgs8 hs8; have hr8 := hr7.far hgs8 hb5.1 (by omega); have hz8 := heap_far hz7 hgs8 hza; have hG8 := grown_far hG7 hgs8 (by omega)
      obtain ⟨kx, fx⟩ := blk hh8
      obtain ⟨kz, fz⟩ := blk hz8
      go_wp2_with (refine wpList_store_var rfl 25 (.tmp 4) (.tmp 60) rfl #[.int .i64 x44, .int .i64 x25, .int .i64 x17_2] hz8 rfl rfl (by kernel_rfl) rfl rfl ?_ ; intro w9 hh9 hg9 hs9; obtain ⟨k9, f9⟩ := blk hh9; have hr9 := hr8.far hg9 hzg (by omega); have hG9 := grown_far hG8 hg9 (Nat.le_refl _))
      refine bodyPost_ret (v := .agg #[.int .i64 x44, .int .i64 x25, .int .i64 x17_2]) (by simp [results, Try.results29, go_sem, k9]) rfl ⟨_, _, rfl, ⟨_, _, _, rfl, by omega, by omega, by omega, by omega, by omega, by omega⟩, by omega, hr9, hG9⟩
    · go_upto_region 9 with (fail)
      refine wp_region_draws (ds := [(0, 48), (1, 49), (2, 50), (3, 51), (4, 52), (5, 53), (6, 54), (7, 55), (8, 56), (9, 57), (10, 58), (11, 59)]) (B := B) (g := g) (z := g) (O := fun _ => False) (A := A) (m := m) (c := c) (p := _) 12 1 [kIs g g (fun _ => False) (.pointer (some ⟨a5, 0, none⟩)), kIs g g (fun _ => False) (.int .i64 x17_0), kIs g g (fun _ => False) (.pointer (some ⟨a5, 2, none⟩)), kIs g g (fun _ => False) (.int .i64 x17_2), kInt g g (fun _ => False) 2 21, kArr g g (fun _ => False) 3 2 (fun cs => ∃ y0 : Int, 2 ≤ y0 ∧ y0 ≤ 21 ∧ cs = #[.int .i64 (-1), .int .i64 y0]), kIs g g (fun _ => False) (.pointer (some ⟨g, 0, none⟩)), kInt g g (fun _ => False) 0 1, kCell g g (fun _ => False) (fun v => ∃ y0 : Int, (-1) ≤ y0 ∧ y0 ≤ 21 ∧ v = .int .i64 y0), kInt g g (fun _ => False) (-1) 21, kInt g g (fun _ => False) (-1) 100021, kIs g g (fun _ => False) (.pointer (some ⟨a5, 1, none⟩))] (by kernel_rfl) (by kernel_rfl) (by first | exact .inl rfl | exact .inr (by kernel_rfl)) hr6 (Rd.lt hr6) (by rfl) ?_ rfl rfl ?_
      · refine each_cons ?_ ( each_cons ?_ ( each_cons ?_ ( each_cons ?_ ( each_cons ?_ ( each_cons ?_ ( each_cons ?_ ( each_cons ?_ ( each_cons ?_ ( each_cons ?_ ( each_cons ?_ ( each_cons ?_ ( each_nil))))))))))))
        · intro q a' w' hq hRd hLe hzl hfr hdep
          have e5 : a'.tmps.getD 5 undef = .pointer (some ⟨a5, 0, none⟩) := hfr 5 rfl
          have f5 := e5; simp only [Array.getD_eq_getD_getElem?] at f5
          refine wpOp_plain rfl rfl (fun K hK => ?_)
          go_simp
          exact hK _ _ ⟨_, q, rfl, by omega, hRd, Turns.refl _, rfl, nofun⟩
        · intro q a' w' hq hRd hLe hzl hfr hdep
          have e48 : a'.tmps.getD 48 undef = .pointer (some ⟨a5, 0, none⟩) := hdep 0 _ 48 rfl rfl rfl
          have f48 := e48; simp only [Array.getD_eq_getD_getElem?] at f48
          have hhx := hLe.keep hh6 hb5.1 hb5.2
          obtain ⟨kx, fx⟩ := blk hhx; clear hhx
          refine wpOp_plain rfl rfl (fun K hK => ?_)
          go_simp
          exact hK _ _ ⟨_, q, rfl, by omega, hRd, Turns.refl _, rfl, nofun⟩
        · intro q a' w' hq hRd hLe hzl hfr hdep
          have e5 : a'.tmps.getD 5 undef = .pointer (some ⟨a5, 0, none⟩) := hfr 5 rfl
          have f5 := e5; simp only [Array.getD_eq_getD_getElem?] at f5
          refine wpOp_plain rfl rfl (fun K hK => ?_)
          go_simp
          exact hK _ _ ⟨_, q, rfl, by omega, hRd, Turns.refl _, rfl, nofun⟩
        · intro q a' w' hq hRd hLe hzl hfr hdep
          have e50 : a'.tmps.getD 50 undef = .pointer (some ⟨a5, 2, none⟩) := hdep 2 _ 50 rfl rfl rfl
          have f50 := e50; simp only [Array.getD_eq_getD_getElem?] at f50
          have hhx := hLe.keep hh6 hb5.1 hb5.2
          obtain ⟨kx, fx⟩ := blk hhx; clear hhx
          refine wpOp_plain rfl rfl (fun K hK => ?_)
          go_simp
          exact hK _ _ ⟨_, q, rfl, by omega, hRd, Turns.refl _, rfl, nofun⟩
        · intro q a' w' hq hRd hLe hzl hfr hdep
          have e51 : a'.tmps.getD 51 undef = .int .i64 x17_2 := hdep 3 _ 51 rfl rfl rfl
          have f51 := e51; simp only [Array.getD_eq_getD_getElem?] at f51
          have r52 : IntKind.i64.wrap (x17_2 + 1) = x17_2 + 1 := IntWalk.i64_in _ (by omega)
          refine wpOp_plain rfl rfl (fun K hK => ?_)
          go_simp
          exact hK _ _ ⟨_, q, rfl, by omega, hRd, Turns.refl _, ⟨_, rfl, by omega, by omega⟩, nofun⟩
        · intro q a' w' hq hRd hLe hzl hfr hdep
          obtain ⟨x52, e52, b52, c52⟩ : (kInt g g (fun _ => False) 2 21).p (a'.tmps.getD 52 undef) w' := hdep 4 _ 52 rfl rfl rfl
          have f52 := e52; simp only [Array.getD_eq_getD_getElem?] at f52
          refine wpOp_plain rfl rfl (fun K hK => ?_)
          go_simp
          exact hK _ _ ⟨_, q, rfl, by omega, hRd.alloc _, Turns.alloc _ _, ⟨_, _, rfl, by have := hRd.lt; omega, heap_alloc_new _ _, x52, by omega, by omega, rfl⟩, nofun⟩
        · intro q a' w' hq hRd hLe hzl hfr hdep
          have e0 : a'.tmps.getD 0 undef = .pointer (some ⟨g, 0, none⟩) := hfr 0 rfl
          have f0 := e0; simp only [Array.getD_eq_getD_getElem?] at f0
          refine wpOp_plain rfl rfl (fun K hK => ?_)
          go_simp
          exact hK _ _ ⟨_, q, rfl, by omega, hRd, Turns.refl _, rfl, nofun⟩
        · intro q a' w' hq hRd hLe hzl hfr hdep
          have e54 : a'.tmps.getD 54 undef = .pointer (some ⟨g, 0, none⟩) := hdep 6 _ 54 rfl rfl rfl
          have f54 := e54; simp only [Array.getD_eq_getD_getElem?] at f54
          refine wpOp_plain rfl rfl (fun K hK => ?_)
          go_simp
          refine (pick_any hRd _ (by omega)).mono ?_
          rintro e w2 ⟨k, rfl, hk, hr, hg, hs⟩
          have hk1 := hk.1; have hk2 := hk.2.1; have hk3 := hk.2.2
          exact hK _ _ ⟨_, _, rfl, by omega, hr, Turns.of_grown hg, ⟨k, rfl, by omega, by omega⟩, nofun⟩
        · intro q a' w' hq hRd hLe hzl hfr hdep
          obtain ⟨a53, cs53, e53, hb53, hh53, y53_1, by53_1, cy53_1, rfl⟩ : (kArr g g (fun _ => False) 3 2 (fun cs => ∃ y0 : Int, 2 ≤ y0 ∧ y0 ≤ 21 ∧ cs = #[.int .i64 (-1), .int .i64 y0])).p (a'.tmps.getD 53 undef) w' := hdep 5 _ 53 rfl rfl rfl
          have f53 := e53; simp only [Array.getD_eq_getD_getElem?] at f53
          obtain ⟨x55, e55, b55, c55⟩ : (kInt g g (fun _ => False) 0 1).p (a'.tmps.getD 55 undef) w' := hdep 7 _ 55 rfl rfl rfl
          have f55 := e55; simp only [Array.getD_eq_getD_getElem?] at f55
          rcases (show x55 = 0 ∨ x55 = 1 by omega) with rfl | rfl
          · refine wpOp_plain rfl rfl (fun K hK => ?_)
            go_simp
            exact hK _ _ ⟨_, q, rfl, by omega, hRd, Turns.refl _, ⟨_, _, _, rfl, hb53, (cell_of_row _ _ 0 _ _ _ hh53).trans rfl, (-1), by omega, by omega, rfl⟩, nofun⟩
          · refine wpOp_plain rfl rfl (fun K hK => ?_)
            go_simp
            exact hK _ _ ⟨_, q, rfl, by omega, hRd, Turns.refl _, ⟨_, _, _, rfl, hb53, (cell_of_row _ _ 1 _ _ _ hh53).trans rfl, y53_1, by omega, by omega, rfl⟩, nofun⟩
        · intro q a' w' hq hRd hLe hzl hfr hdep
          obtain ⟨a56, o56, v56, e56, hb56, hc56, y56_0, by56_0, cy56_0, rfl⟩ : (kCell g g (fun _ => False) (fun v => ∃ y0 : Int, (-1) ≤ y0 ∧ y0 ≤ 21 ∧ v = .int .i64 y0)).p (a'.tmps.getD 56 undef) w' := hdep 8 _ 56 rfl rfl rfl
          have f56 := e56; simp only [Array.getD_eq_getD_getElem?] at f56
          refine wpOp_plain rfl rfl (fun K hK => ?_)
          go_simp
          exact hK _ _ ⟨_, q, rfl, by omega, hRd, Turns.refl _, ⟨_, rfl, by omega, by omega⟩, nofun⟩
        · intro q a' w' hq hRd hLe hzl hfr hdep
          have e49 : a'.tmps.getD 49 undef = .int .i64 x17_0 := hdep 1 _ 49 rfl rfl rfl
          have f49 := e49; simp only [Array.getD_eq_getD_getElem?] at f49
          obtain ⟨x57, e57, b57, c57⟩ : (kInt g g (fun _ => False) (-1) 21).p (a'.tmps.getD 57 undef) w' := hdep 9 _ 57 rfl rfl rfl
          have f57 := e57; simp only [Array.getD_eq_getD_getElem?] at f57
          have r58 : IntKind.i64.wrap (x17_0 + x57) = x17_0 + x57 := IntWalk.i64_in _ (by omega)
          refine wpOp_plain rfl rfl (fun K hK => ?_)
          go_simp
          exact hK _ _ ⟨_, q, rfl, by omega, hRd, Turns.refl _, ⟨_, rfl, by omega, by omega⟩, nofun⟩
        · intro q a' w' hq hRd hLe hzl hfr hdep
          have e5 : a'.tmps.getD 5 undef = .pointer (some ⟨a5, 0, none⟩) := hfr 5 rfl
          have f5 := e5; simp only [Array.getD_eq_getD_getElem?] at f5
          refine wpOp_plain rfl rfl (fun K hK => ?_)
          go_simp
          exact hK _ _ ⟨_, q, rfl, by omega, hRd, Turns.refl _, rfl, nofun⟩
      intro vs w7 q7 hq7 hr7 hg7 hT7 hN7
      replace hg7 := hg7.grown
      obtain ⟨x58, e58, b58, c58⟩ : (kInt g g (fun _ => False) (-1) 100021).p (vs 10) w7 := hT7 10 58 rfl
      have e59 : vs 11 = .pointer (some ⟨a5, 1, none⟩) := hT7 11 59 rfl
      clear hT7 hN7
      simp only [putAll, List.drop_succ_cons, List.drop_zero, e58, e59]
      clear e58 e59
      go_simp
      have hh7 := heap_far hh6 hg7 hb5.1; have hz7 := heap_far hz6 hg7 hzg; have hG7 := grown_trans hG6 hg7
      refine wpList_store_at rfl 3 (.tmp 59) (.tmp 58) rfl (.int .i64 x58) #[.int .i64 x17_0, .int .i64 x58, .int .i64 x17_2] hh7 rfl rfl (by kernel_rfl) rfl rfl (by simp) rfl ?_; intro w8 hh8 hgs8 hs8; have hr8 := hr7.far hgs8 hb5.1 (by omega); have hz8 := heap_far hz7 hgs8 hza; have hG8 := grown_far hG7 hgs8 (by omega)
      obtain ⟨kx, fx⟩ := blk hh8
      obtain ⟨kz, fz⟩ := blk hz8
      go_wp2_with (refine wpList_store_var rfl 25 (.tmp 4) (.tmp 60) rfl #[.int .i64 x17_0, .int .i64 x58, .int .i64 x17_2] hz8 rfl rfl (by kernel_rfl) rfl rfl ?_ ; intro w9 hh9 hg9 hs9; obtain ⟨k9, f9⟩ := blk hh9; have hr9 := hr8.far hg9 hzg (by omega); have hG9 := grown_far hG8 hg9 (Nat.le_refl _))
      refine bodyPost_ret (v := .agg #[.int .i64 x17_0, .int .i64 x58, .int .i64 x17_2]) (by simp [results, Try.results29, go_sem, k9]) rfl ⟨_, _, rfl, ⟨_, _, _, rfl, by omega, by omega, by omega, by omega, by omega, by omega⟩, by omega, hr9, hG9⟩
    · go_upto_region 5 with (fail)
      refine wp_region_draws (ds := [(0, 32), (1, 33), (2, 34), (3, 35), (4, 36), (5, 37)]) (B := B) (g := g) (z := g) (O := fun _ => False) (A := A) (m := m) (c := c) (p := _) 6 1 [kArr g g (fun _ => False) 3 2 (fun cs => cs = #[.int .i64 0, .int .i64 1001]), kIs g g (fun _ => False) (.pointer (some ⟨g, 0, none⟩)), kInt g g (fun _ => False) 0 1, kCell g g (fun _ => False) (fun v => ∃ y0 : Int, 0 ≤ y0 ∧ y0 ≤ 1001 ∧ v = .int .i64 y0), kInt g g (fun _ => False) 0 1001, kIs g g (fun _ => False) (.pointer (some ⟨a5, 2, none⟩))] (by kernel_rfl) (by kernel_rfl) (by first | exact .inl rfl | exact .inr (by kernel_rfl)) hr6 (Rd.lt hr6) (by rfl) ?_ rfl rfl ?_
      · refine each_cons ?_ ( each_cons ?_ ( each_cons ?_ ( each_cons ?_ ( each_cons ?_ ( each_cons ?_ ( each_nil))))))
        · intro q a' w' hq hRd hLe hzl hfr hdep
          refine wpOp_plain rfl rfl (fun K hK => ?_)
          go_simp
          exact hK _ _ ⟨_, q, rfl, by omega, hRd.alloc _, Turns.alloc _ _, ⟨_, _, rfl, by have := hRd.lt; omega, heap_alloc_new _ _, rfl⟩, nofun⟩
        · intro q a' w' hq hRd hLe hzl hfr hdep
          have e0 : a'.tmps.getD 0 undef = .pointer (some ⟨g, 0, none⟩) := hfr 0 rfl
          have f0 := e0; simp only [Array.getD_eq_getD_getElem?] at f0
          refine wpOp_plain rfl rfl (fun K hK => ?_)
          go_simp
          exact hK _ _ ⟨_, q, rfl, by omega, hRd, Turns.refl _, rfl, nofun⟩
        · intro q a' w' hq hRd hLe hzl hfr hdep
          have e33 : a'.tmps.getD 33 undef = .pointer (some ⟨g, 0, none⟩) := hdep 1 _ 33 rfl rfl rfl
          have f33 := e33; simp only [Array.getD_eq_getD_getElem?] at f33
          refine wpOp_plain rfl rfl (fun K hK => ?_)
          go_simp
          refine (pick_any hRd _ (by omega)).mono ?_
          rintro e w2 ⟨k, rfl, hk, hr, hg, hs⟩
          have hk1 := hk.1; have hk2 := hk.2.1; have hk3 := hk.2.2
          exact hK _ _ ⟨_, _, rfl, by omega, hr, Turns.of_grown hg, ⟨k, rfl, by omega, by omega⟩, nofun⟩
        · intro q a' w' hq hRd hLe hzl hfr hdep
          obtain ⟨a32, cs32, e32, hb32, hh32, rfl⟩ : (kArr g g (fun _ => False) 3 2 (fun cs => cs = #[.int .i64 0, .int .i64 1001])).p (a'.tmps.getD 32 undef) w' := hdep 0 _ 32 rfl rfl rfl
          have f32 := e32; simp only [Array.getD_eq_getD_getElem?] at f32
          obtain ⟨x34, e34, b34, c34⟩ : (kInt g g (fun _ => False) 0 1).p (a'.tmps.getD 34 undef) w' := hdep 2 _ 34 rfl rfl rfl
          have f34 := e34; simp only [Array.getD_eq_getD_getElem?] at f34
          rcases (show x34 = 0 ∨ x34 = 1 by omega) with rfl | rfl
          · refine wpOp_plain rfl rfl (fun K hK => ?_)
            go_simp
            exact hK _ _ ⟨_, q, rfl, by omega, hRd, Turns.refl _, ⟨_, _, _, rfl, hb32, (cell_of_row _ _ 0 _ _ _ hh32).trans rfl, 0, by omega, by omega, rfl⟩, nofun⟩
          · refine wpOp_plain rfl rfl (fun K hK => ?_)
            go_simp
            exact hK _ _ ⟨_, q, rfl, by omega, hRd, Turns.refl _, ⟨_, _, _, rfl, hb32, (cell_of_row _ _ 1 _ _ _ hh32).trans rfl, 1001, by omega, by omega, rfl⟩, nofun⟩
        · intro q a' w' hq hRd hLe hzl hfr hdep
          obtain ⟨a35, o35, v35, e35, hb35, hc35, y35_0, by35_0, cy35_0, rfl⟩ : (kCell g g (fun _ => False) (fun v => ∃ y0 : Int, 0 ≤ y0 ∧ y0 ≤ 1001 ∧ v = .int .i64 y0)).p (a'.tmps.getD 35 undef) w' := hdep 3 _ 35 rfl rfl rfl
          have f35 := e35; simp only [Array.getD_eq_getD_getElem?] at f35
          refine wpOp_plain rfl rfl (fun K hK => ?_)
          go_simp
          exact hK _ _ ⟨_, q, rfl, by omega, hRd, Turns.refl _, ⟨_, rfl, by omega, by omega⟩, nofun⟩
        · intro q a' w' hq hRd hLe hzl hfr hdep
          have e5 : a'.tmps.getD 5 undef = .pointer (some ⟨a5, 0, none⟩) := hfr 5 rfl
          have f5 := e5; simp only [Array.getD_eq_getD_getElem?] at f5
          refine wpOp_plain rfl rfl (fun K hK => ?_)
          go_simp
          exact hK _ _ ⟨_, q, rfl, by omega, hRd, Turns.refl _, rfl, nofun⟩
      intro vs w7 q7 hq7 hr7 hg7 hT7 hN7
      replace hg7 := hg7.grown
      obtain ⟨x36, e36, b36, c36⟩ : (kInt g g (fun _ => False) 0 1001).p (vs 4) w7 := hT7 4 36 rfl
      have e37 : vs 5 = .pointer (some ⟨a5, 2, none⟩) := hT7 5 37 rfl
      clear hT7 hN7
      simp only [putAll, List.drop_succ_cons, List.drop_zero, e36, e37]
      clear e36 e37
      go_simp
      have hh7 := heap_far hh6 hg7 hb5.1; have hz7 := heap_far hz6 hg7 hzg; have hG7 := grown_trans hG6 hg7
      refine wpList_store_at rfl 3 (.tmp 37) (.tmp 36) rfl (.int .i64 x36) #[.int .i64 x17_0, .int .i64 x25, .int .i64 x36] hh7 rfl rfl (by kernel_rfl) rfl rfl (by simp) rfl ?_; intro w8 hh8 hgs8 hs8; have hr8 := hr7.far hgs8 hb5.1 (by omega); have hz8 := heap_far hz7 hgs8 hza; have hG8 := grown_far hG7 hgs8 (by omega)
      obtain ⟨kx, fx⟩ := blk hh8
      obtain ⟨kz, fz⟩ := blk hz8
      go_wp2_with (refine wpList_store_var rfl 25 (.tmp 4) (.tmp 60) rfl #[.int .i64 x17_0, .int .i64 x25, .int .i64 x36] hz8 rfl rfl (by kernel_rfl) rfl rfl ?_ ; intro w9 hh9 hg9 hs9; obtain ⟨k9, f9⟩ := blk hh9; have hr9 := hr8.far hg9 hzg (by omega); have hG9 := grown_far hG8 hg9 (Nat.le_refl _))
      refine bodyPost_ret (v := .agg #[.int .i64 x17_0, .int .i64 x25, .int .i64 x36]) (by simp [results, Try.results29, go_sem, k9]) rfl ⟨_, _, rfl, ⟨_, _, _, rfl, by omega, by omega, by omega, by omega, by omega, by omega⟩, by omega, hr9, hG9⟩
end Go.Proofs.Ytejfmhiogafhiaa
