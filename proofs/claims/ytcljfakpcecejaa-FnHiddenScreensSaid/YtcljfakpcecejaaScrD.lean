/-
  The drawn screens.
-/
import Derived.Test.YtcljfakpcecejaaList
import Derived.Test.YtcljfakpcecejaaPfxD
import Derived.Test.YtcljfakpcecejaaFlwD
namespace Go.Proofs.Ytcljfakpcecejaa
open Go.RowKit

theorem info_screenL : (Try.prog.info? 31).map (fun i => (i.zero, i.size, i.bytes)) = some (some (.agg #[.int .i64 0, .int .i64 0, .int .i64 0, .int .i64 0, .int .i64 0, .bool false]), [true, true, true, true, true, false].length, 48) := by kernel_rfl
theorem plain6 {a b c d e : Int} {f : Bool} (h : (-100000 ≤ a ∧ a ≤ 100000) ∧ (-100000 ≤ b ∧ b ≤ 100000) ∧ (-100000 ≤ c ∧ c ≤ 100000) ∧ (-100000 ≤ d ∧ d ≤ 100000) ∧ (-100000 ≤ e ∧ e ≤ 100000)) :
    Plain [true, true, true, true, true, false] [.int .i64 a, .int .i64 b, .int .i64 c, .int .i64 d, .int .i64 e, .bool f] :=
  plain_cons_int (by omega) (plain_cons_int (by omega) (plain_cons_int (by omega) (plain_cons_int (by omega) (plain_cons_int (by omega) (plain_cons_bool plain_nil)))))

set_option maxHeartbeats 8000000 in
theorem l20Screens_any {w : World} {B g : Nat} {A : Option Addr} {m c p : Nat} (h : Rd w B g A m c p) (n : Int) (hn : -1000000 ≤ n) (hp2 : p ≤ 500000000) :
    Calls Try.prog 41 #[(.pointer (some ⟨g, 0, none⟩)), .int .i64 n] w (DrawnL w B g A m c p 1000 6 31 [true, true, true, true, true, false]) := by
  have hlt := h.lt
  have hBg := h.2.1
  go_enter Try.func41, Try.ntmps41
  go_wp2_with fail
  have hP0 : PAcc (w.alloc (.cells #[] 31)) w.heap.size 31 [true, true, true, true, true, false] (.slice (some ⟨w.heap.size, 0, none⟩) 0 0) 0 := PAcc.made w _ _ (Nat.le_refl _)
  refine (pick_any (h.alloc _) _ (by omega)).mono ?_
  rintro e w1 ⟨k, rfl, hk, hr1, hg1, hs1⟩
  have hk1 := hk.1; have hk2 := hk.2.1 (by omega); clear hk
  have hP1 := hP0.far hg1 hlt
  have hG1 := grown_trans (grown_alloc (grown_refl w _) _) hg1
  clear hP0 hg1 hs1
  go_wp2_with fail
  go_loopw [5, 6] (fun v i wr => ∃ (nn q : Nat) (k : Int), 0 ≤ k ∧ (nn : Int) + k ≤ 5 ∧ i = .int .i64 k ∧ PAcc wr w.heap.size 31 [true, true, true, true, true, false] v nn ∧ Rd wr B g A m c q ∧ q ≤ p + 1 + 150 * nn ∧ w.grownBy wr (some g)) (fun _ i _ => (intOf i).toNat)
  case atStart => exact ⟨0, p + 1, k, hk1, by omega, rfl, hP1, hr1, by omega, hG1⟩
  case round =>
    rename_i v _
    obtain ⟨nn, q, k, hk1, hk2, rfl, hP, hr, hq, hG⟩ := hrel
    obtain ⟨A', c', rfl, hnc, hcm⟩ := hP.form
    by_cases hlt2 : 0 < k
    · go_upto_region 5 with (fail)
      have hgw : g < wr.heap.size := hr.lt
      have hsw := hG.size
      refine wp_region_draws (ds := [(0, 16), (1, 17), (2, 18), (3, 19), (4, 20), (5, 21), (6, 22)]) (B := B) (g := g) (z := g) (O := fun _ => False) (A := A) (m := m) (c := c) (p := _) 7 1 [kIs g g (fun _ => False) (.pointer (some ⟨g, 0, none⟩)), kInt g g (fun _ => False) 0 255, kArr g g (fun _ => False) 3 3 (fun cs => ∃ y0 : Int, 0 ≤ y0 ∧ y0 ≤ 255 ∧ cs = #[.int .i64 0, .int .i64 80, .int .i64 y0]), kIs g g (fun _ => False) (.pointer (some ⟨g, 0, none⟩)), kInt g g (fun _ => False) 0 2, kCell g g (fun _ => False) (fun v => ∃ y0 : Int, 0 ≤ y0 ∧ y0 ≤ 255 ∧ v = .int .i64 y0), kInt g g (fun _ => False) 0 255] (by kernel_rfl) (by kernel_rfl) (by first | exact .inl rfl | exact .inr (by kernel_rfl)) hr (Rd.lt hr) (by rfl) ?_ rfl rfl ?_
      · refine each_cons ?_ ( each_cons ?_ ( each_cons ?_ ( each_cons ?_ ( each_cons ?_ ( each_cons ?_ ( each_cons ?_ ( each_nil)))))))
        · intro q a' w' hq hRd hLe hzl hfr hdep
          have e0 : a'.tmps.getD 0 undef = .pointer (some ⟨g, 0, none⟩) := hfr 0 rfl
          have f0 := e0; simp only [Array.getD_eq_getD_getElem?] at f0
          refine wpOp_plain rfl rfl (fun K hK => ?_)
          go_simp
          exact hK _ _ ⟨_, q, rfl, by omega, hRd, Turns.refl _, rfl, nofun⟩
        · intro q a' w' hq hRd hLe hzl hfr hdep
          have e16 : a'.tmps.getD 16 undef = .pointer (some ⟨g, 0, none⟩) := hdep 0 _ 16 rfl rfl rfl
          have f16 := e16; simp only [Array.getD_eq_getD_getElem?] at f16
          refine wpOp_plain rfl rfl (fun K hK => ?_)
          go_simp
          refine (pick_any hRd _ (by omega)).mono ?_
          rintro e w2 ⟨k, rfl, hk, hr, hg, hs⟩
          have hk1 := hk.1; have hk2 := hk.2.1; have hk3 := hk.2.2
          exact hK _ _ ⟨_, _, rfl, by omega, hr, Turns.of_grown hg, ⟨k, rfl, by omega, by omega⟩, nofun⟩
        · intro q a' w' hq hRd hLe hzl hfr hdep
          obtain ⟨x17, e17, b17, c17⟩ : (kInt g g (fun _ => False) 0 255).p (a'.tmps.getD 17 undef) w' := hdep 1 _ 17 rfl rfl rfl
          have f17 := e17; simp only [Array.getD_eq_getD_getElem?] at f17
          refine wpOp_plain rfl rfl (fun K hK => ?_)
          go_simp
          exact hK _ _ ⟨_, q, rfl, by omega, hRd.alloc _, Turns.alloc _ _, ⟨_, _, rfl, by have := hRd.lt; omega, heap_alloc_new _ _, x17, by omega, by omega, rfl⟩, nofun⟩
        · intro q a' w' hq hRd hLe hzl hfr hdep
          have e0 : a'.tmps.getD 0 undef = .pointer (some ⟨g, 0, none⟩) := hfr 0 rfl
          have f0 := e0; simp only [Array.getD_eq_getD_getElem?] at f0
          refine wpOp_plain rfl rfl (fun K hK => ?_)
          go_simp
          exact hK _ _ ⟨_, q, rfl, by omega, hRd, Turns.refl _, rfl, nofun⟩
        · intro q a' w' hq hRd hLe hzl hfr hdep
          have e19 : a'.tmps.getD 19 undef = .pointer (some ⟨g, 0, none⟩) := hdep 3 _ 19 rfl rfl rfl
          have f19 := e19; simp only [Array.getD_eq_getD_getElem?] at f19
          refine wpOp_plain rfl rfl (fun K hK => ?_)
          go_simp
          refine (pick_any hRd _ (by omega)).mono ?_
          rintro e w2 ⟨k, rfl, hk, hr, hg, hs⟩
          have hk1 := hk.1; have hk2 := hk.2.1; have hk3 := hk.2.2
          exact hK _ _ ⟨_, _, rfl, by omega, hr, Turns.of_grown hg, ⟨k, rfl, by omega, by omega⟩, nofun⟩
        · intro q a' w' hq hRd hLe hzl hfr hdep
          obtain ⟨a18, cs18, e18, hb18, hh18, y18_2, by18_2, cy18_2, rfl⟩ : (kArr g g (fun _ => False) 3 3 (fun cs => ∃ y0 : Int, 0 ≤ y0 ∧ y0 ≤ 255 ∧ cs = #[.int .i64 0, .int .i64 80, .int .i64 y0])).p (a'.tmps.getD 18 undef) w' := hdep 2 _ 18 rfl rfl rfl
          have f18 := e18; simp only [Array.getD_eq_getD_getElem?] at f18
          obtain ⟨x20, e20, b20, c20⟩ : (kInt g g (fun _ => False) 0 2).p (a'.tmps.getD 20 undef) w' := hdep 4 _ 20 rfl rfl rfl
          have f20 := e20; simp only [Array.getD_eq_getD_getElem?] at f20
          rcases (show x20 = 0 ∨ x20 = 1 ∨ x20 = 2 by omega) with rfl | rfl | rfl
          · refine wpOp_plain rfl rfl (fun K hK => ?_)
            go_simp
            exact hK _ _ ⟨_, q, rfl, by omega, hRd, Turns.refl _, ⟨_, _, _, rfl, hb18, (cell_of_row _ _ 0 _ _ _ hh18).trans rfl, 0, by omega, by omega, rfl⟩, nofun⟩
          · refine wpOp_plain rfl rfl (fun K hK => ?_)
            go_simp
            exact hK _ _ ⟨_, q, rfl, by omega, hRd, Turns.refl _, ⟨_, _, _, rfl, hb18, (cell_of_row _ _ 1 _ _ _ hh18).trans rfl, 80, by omega, by omega, rfl⟩, nofun⟩
          · refine wpOp_plain rfl rfl (fun K hK => ?_)
            go_simp
            exact hK _ _ ⟨_, q, rfl, by omega, hRd, Turns.refl _, ⟨_, _, _, rfl, hb18, (cell_of_row _ _ 2 _ _ _ hh18).trans rfl, y18_2, by omega, by omega, rfl⟩, nofun⟩
        · intro q a' w' hq hRd hLe hzl hfr hdep
          obtain ⟨a21, o21, v21, e21, hb21, hc21, y21_0, by21_0, cy21_0, rfl⟩ : (kCell g g (fun _ => False) (fun v => ∃ y0 : Int, 0 ≤ y0 ∧ y0 ≤ 255 ∧ v = .int .i64 y0)).p (a'.tmps.getD 21 undef) w' := hdep 5 _ 21 rfl rfl rfl
          have f21 := e21; simp only [Array.getD_eq_getD_getElem?] at f21
          refine wpOp_plain rfl rfl (fun K hK => ?_)
          go_simp
          exact hK _ _ ⟨_, q, rfl, by omega, hRd, Turns.refl _, ⟨_, rfl, by omega, by omega⟩, nofun⟩
      intro vs w5 q5 hq5 hr5 hg5 hT5 hN5
      replace hg5 := hg5.grown
      obtain ⟨x22, e22, b22, c22⟩ : (kInt g g (fun _ => False) 0 255).p (vs 6) w5 := hT5 6 22 rfl
      clear hT5 hN5
      simp only [putAll, List.drop_succ_cons, List.drop_zero, e22]
      clear e22
      go_simp
      have hs5 := hg5.size
      have hP5 := hP.far hg5 hlt
      have hG5 := grown_trans hG hg5
      clear hg5
      go_upto_region 6 with (fail)
      refine wp_region_draws (ds := [(0, 23), (1, 24), (2, 25), (3, 26), (4, 27), (5, 28), (6, 29), (7, 30), (8, 31), (9, 32), (10, 33), (11, 34), (12, 35), (13, 36), (14, 37), (15, 38), (16, 39), (17, 40), (18, 41), (19, 42), (20, 43), (21, 44), (22, 45), (23, 46), (24, 8)]) (B := B) (g := g) (z := g) (O := fun _ => False) (A := A) (m := m) (c := c) (p := _) 25 1 [kArr g g (fun _ => False) 3 4 (fun cs => cs = #[.int .i64 0, .int .i64 6, .int .i64 7, .int .i64 8]), kIs g g (fun _ => False) (.pointer (some ⟨g, 0, none⟩)), kInt g g (fun _ => False) 0 3, kCell g g (fun _ => False) (fun v => ∃ y0 : Int, 0 ≤ y0 ∧ y0 ≤ 8 ∧ v = .int .i64 y0), kInt g g (fun _ => False) 0 8, kVal g g (fun _ => False) (fun v => ∃ y0 : Int, 0 ≤ y0 ∧ y0 ≤ 8 ∧ v = .agg #[.int .i64 0, .int .i64 y0]), kIs g g (fun _ => False) (.int .i64 x22), kIs g g (fun _ => False) (.int .i64 x22), kIs g g (fun _ => False) (.int .i64 x22), kIs g g (fun _ => False) (.pointer (some ⟨g, 0, none⟩)), kInt g g (fun _ => False) 0 255, kInt g g (fun _ => False) 0 510, kInt g g (fun _ => False) 0 510, kArr g g (fun _ => False) 3 3 (fun cs => ∃ y0 : Int, ∃ y1 : Int, 0 ≤ y0 ∧ y0 ≤ 255 ∧ 0 ≤ y1 ∧ y1 ≤ 510 ∧ cs = #[.int .i64 y0, .int .i64 999, .int .i64 y1]), kIs g g (fun _ => False) (.pointer (some ⟨g, 0, none⟩)), kInt g g (fun _ => False) 0 2, kCell g g (fun _ => False) (fun v => ∃ y0 : Int, 0 ≤ y0 ∧ y0 ≤ 999 ∧ v = .int .i64 y0), kInt g g (fun _ => False) 0 999, kIs g g (fun _ => False) (.pointer (some ⟨g, 0, none⟩)), kInt g g (fun _ => False) 0 2, kIs g g (fun _ => False) (.pointer (some ⟨g, 0, none⟩)), kInt g g (fun _ => False) 0 1, kBool g g (fun _ => False), kVal g g (fun _ => False) (fun v => ∃ y0 : Int, ∃ y1 : Int, ∃ y2 : Int, ∃ y3 : Int, ∃ y4 : Bool, 0 ≤ y0 ∧ y0 ≤ 8 ∧ 0 ≤ y1 ∧ y1 ≤ 255 ∧ 0 ≤ y2 ∧ y2 ≤ 999 ∧ 0 ≤ y3 ∧ y3 ≤ 2 ∧ v = .agg #[.int .i64 0, .int .i64 y0, .int .i64 y1, .int .i64 y2, .int .i64 y3, .bool y4]), kNew g g (fun _ => False) (wr.heap.size) 31 #[.int .i64 0, .int .i64 0, .int .i64 0, .int .i64 0, .int .i64 0, .bool false]] (by kernel_rfl) (by kernel_rfl) (by first | exact .inl rfl | exact .inr (by kernel_rfl)) hr5 (Rd.lt hr5) (by rfl) ?_ rfl rfl ?_
      · refine each_cons ?_ ( each_cons ?_ ( each_cons ?_ ( each_cons ?_ ( each_cons ?_ ( each_cons ?_ ( each_cons ?_ ( each_cons ?_ ( each_cons ?_ ( each_cons ?_ ( each_cons ?_ ( each_cons ?_ ( each_cons ?_ ( each_cons ?_ ( each_cons ?_ ( each_cons ?_ ( each_cons ?_ ( each_cons ?_ ( each_cons ?_ ( each_cons ?_ ( each_cons ?_ ( each_cons ?_ ( each_cons ?_ ( each_cons ?_ ( each_cons ?_ ( each_nil)))))))))))))))))))))))))
        · intro q a' w' hq hRd hLe hzl hfr hdep
          refine wpOp_plain rfl rfl (fun K hK => ?_)
          go_simp
          exact hK _ _ ⟨_, q, rfl, by omega, hRd.alloc _, Turns.alloc _ _, ⟨_, _, rfl, by have := hRd.lt; omega, heap_alloc_new _ _, rfl⟩, nofun⟩
        · intro q a' w' hq hRd hLe hzl hfr hdep
          have e0 : a'.tmps.getD 0 undef = .pointer (some ⟨g, 0, none⟩) := hfr 0 rfl
          have f0 := e0; simp only [Array.getD_eq_getD_getElem?] at f0
          refine wpOp_plain rfl rfl (fun K hK => ?_)
          go_simp
          exact hK _ _ ⟨_, q, rfl, by omega, hRd, Turns.refl _, rfl, nofun⟩
        · intro q a' w' hq hRd hLe hzl hfr hdep
          have e24 : a'.tmps.getD 24 undef = .pointer (some ⟨g, 0, none⟩) := hdep 1 _ 24 rfl rfl rfl
          have f24 := e24; simp only [Array.getD_eq_getD_getElem?] at f24
          refine wpOp_plain rfl rfl (fun K hK => ?_)
          go_simp
          refine (pick_any hRd _ (by omega)).mono ?_
          rintro e w2 ⟨k, rfl, hk, hr, hg, hs⟩
          have hk1 := hk.1; have hk2 := hk.2.1; have hk3 := hk.2.2
          exact hK _ _ ⟨_, _, rfl, by omega, hr, Turns.of_grown hg, ⟨k, rfl, by omega, by omega⟩, nofun⟩
        · intro q a' w' hq hRd hLe hzl hfr hdep
          obtain ⟨a23, cs23, e23, hb23, hh23, rfl⟩ : (kArr g g (fun _ => False) 3 4 (fun cs => cs = #[.int .i64 0, .int .i64 6, .int .i64 7, .int .i64 8])).p (a'.tmps.getD 23 undef) w' := hdep 0 _ 23 rfl rfl rfl
          have f23 := e23; simp only [Array.getD_eq_getD_getElem?] at f23
          obtain ⟨x25, e25, b25, c25⟩ : (kInt g g (fun _ => False) 0 3).p (a'.tmps.getD 25 undef) w' := hdep 2 _ 25 rfl rfl rfl
          have f25 := e25; simp only [Array.getD_eq_getD_getElem?] at f25
          rcases (show x25 = 0 ∨ x25 = 1 ∨ x25 = 2 ∨ x25 = 3 by omega) with rfl | rfl | rfl | rfl
          · refine wpOp_plain rfl rfl (fun K hK => ?_)
            go_simp
            exact hK _ _ ⟨_, q, rfl, by omega, hRd, Turns.refl _, ⟨_, _, _, rfl, hb23, (cell_of_row _ _ 0 _ _ _ hh23).trans rfl, 0, by omega, by omega, rfl⟩, nofun⟩
          · refine wpOp_plain rfl rfl (fun K hK => ?_)
            go_simp
            exact hK _ _ ⟨_, q, rfl, by omega, hRd, Turns.refl _, ⟨_, _, _, rfl, hb23, (cell_of_row _ _ 1 _ _ _ hh23).trans rfl, 6, by omega, by omega, rfl⟩, nofun⟩
          · refine wpOp_plain rfl rfl (fun K hK => ?_)
            go_simp
            exact hK _ _ ⟨_, q, rfl, by omega, hRd, Turns.refl _, ⟨_, _, _, rfl, hb23, (cell_of_row _ _ 2 _ _ _ hh23).trans rfl, 7, by omega, by omega, rfl⟩, nofun⟩
          · refine wpOp_plain rfl rfl (fun K hK => ?_)
            go_simp
            exact hK _ _ ⟨_, q, rfl, by omega, hRd, Turns.refl _, ⟨_, _, _, rfl, hb23, (cell_of_row _ _ 3 _ _ _ hh23).trans rfl, 8, by omega, by omega, rfl⟩, nofun⟩
        · intro q a' w' hq hRd hLe hzl hfr hdep
          obtain ⟨a26, o26, v26, e26, hb26, hc26, y26_0, by26_0, cy26_0, rfl⟩ : (kCell g g (fun _ => False) (fun v => ∃ y0 : Int, 0 ≤ y0 ∧ y0 ≤ 8 ∧ v = .int .i64 y0)).p (a'.tmps.getD 26 undef) w' := hdep 3 _ 26 rfl rfl rfl
          have f26 := e26; simp only [Array.getD_eq_getD_getElem?] at f26
          refine wpOp_plain rfl rfl (fun K hK => ?_)
          go_simp
          exact hK _ _ ⟨_, q, rfl, by omega, hRd, Turns.refl _, ⟨_, rfl, by omega, by omega⟩, nofun⟩
        · intro q a' w' hq hRd hLe hzl hfr hdep
          obtain ⟨x27, e27, b27, c27⟩ : (kInt g g (fun _ => False) 0 8).p (a'.tmps.getD 27 undef) w' := hdep 4 _ 27 rfl rfl rfl
          have f27 := e27; simp only [Array.getD_eq_getD_getElem?] at f27
          refine wpOp_plain rfl rfl (fun K hK => ?_)
          go_simp
          exact hK _ _ ⟨_, q, rfl, by omega, hRd, Turns.refl _, ⟨x27, by omega, by omega, rfl⟩, nofun⟩
        · intro q a' w' hq hRd hLe hzl hfr hdep
          have e7 : a'.tmps.getD 7 undef = .int .i64 x22 := hfr 7 rfl
          have f7 := e7; simp only [Array.getD_eq_getD_getElem?] at f7
          refine wpOp_plain rfl rfl (fun K hK => ?_)
          go_simp
          exact hK _ _ ⟨_, q, rfl, by omega, hRd, Turns.refl _, rfl, nofun⟩
        · intro q a' w' hq hRd hLe hzl hfr hdep
          have e7 : a'.tmps.getD 7 undef = .int .i64 x22 := hfr 7 rfl
          have f7 := e7; simp only [Array.getD_eq_getD_getElem?] at f7
          refine wpOp_plain rfl rfl (fun K hK => ?_)
          go_simp
          exact hK _ _ ⟨_, q, rfl, by omega, hRd, Turns.refl _, rfl, nofun⟩
        · intro q a' w' hq hRd hLe hzl hfr hdep
          have e7 : a'.tmps.getD 7 undef = .int .i64 x22 := hfr 7 rfl
          have f7 := e7; simp only [Array.getD_eq_getD_getElem?] at f7
          refine wpOp_plain rfl rfl (fun K hK => ?_)
          go_simp
          exact hK _ _ ⟨_, q, rfl, by omega, hRd, Turns.refl _, rfl, nofun⟩
        · intro q a' w' hq hRd hLe hzl hfr hdep
          have e0 : a'.tmps.getD 0 undef = .pointer (some ⟨g, 0, none⟩) := hfr 0 rfl
          have f0 := e0; simp only [Array.getD_eq_getD_getElem?] at f0
          refine wpOp_plain rfl rfl (fun K hK => ?_)
          go_simp
          exact hK _ _ ⟨_, q, rfl, by omega, hRd, Turns.refl _, rfl, nofun⟩
        · intro q a' w' hq hRd hLe hzl hfr hdep
          have e32 : a'.tmps.getD 32 undef = .pointer (some ⟨g, 0, none⟩) := hdep 9 _ 32 rfl rfl rfl
          have f32 := e32; simp only [Array.getD_eq_getD_getElem?] at f32
          refine wpOp_plain rfl rfl (fun K hK => ?_)
          go_simp
          refine (pick_any hRd _ (by omega)).mono ?_
          rintro e w2 ⟨k, rfl, hk, hr, hg, hs⟩
          have hk1 := hk.1; have hk2 := hk.2.1; have hk3 := hk.2.2
          exact hK _ _ ⟨_, _, rfl, by omega, hr, Turns.of_grown hg, ⟨k, rfl, by omega, by omega⟩, nofun⟩
        · intro q a' w' hq hRd hLe hzl hfr hdep
          have e31 : a'.tmps.getD 31 undef = .int .i64 x22 := hdep 8 _ 31 rfl rfl rfl
          have f31 := e31; simp only [Array.getD_eq_getD_getElem?] at f31
          obtain ⟨x33, e33, b33, c33⟩ : (kInt g g (fun _ => False) 0 255).p (a'.tmps.getD 33 undef) w' := hdep 10 _ 33 rfl rfl rfl
          have f33 := e33; simp only [Array.getD_eq_getD_getElem?] at f33
          have r34 : IntKind.i64.wrap (x22 + x33) = x22 + x33 := IntWalk.i64_in _ (by omega)
          refine wpOp_plain rfl rfl (fun K hK => ?_)
          go_simp
          exact hK _ _ ⟨_, q, rfl, by omega, hRd, Turns.refl _, ⟨_, rfl, by omega, by omega⟩, nofun⟩
        · intro q a' w' hq hRd hLe hzl hfr hdep
          obtain ⟨x34, e34, b34, c34⟩ : (kInt g g (fun _ => False) 0 510).p (a'.tmps.getD 34 undef) w' := hdep 11 _ 34 rfl rfl rfl
          have f34 := e34; simp only [Array.getD_eq_getD_getElem?] at f34
          refine wpOp_plain rfl rfl (fun K hK => ?_)
          go_simp
          (try (split <;> (try go_simp)))
          all_goals exact hK _ _ ⟨_, q, rfl, by omega, hRd, Turns.refl _, ⟨_, rfl, by omega, by omega⟩, nofun⟩
        · intro q a' w' hq hRd hLe hzl hfr hdep
          have e30 : a'.tmps.getD 30 undef = .int .i64 x22 := hdep 7 _ 30 rfl rfl rfl
          have f30 := e30; simp only [Array.getD_eq_getD_getElem?] at f30
          obtain ⟨x35, e35, b35, c35⟩ : (kInt g g (fun _ => False) 0 510).p (a'.tmps.getD 35 undef) w' := hdep 12 _ 35 rfl rfl rfl
          have f35 := e35; simp only [Array.getD_eq_getD_getElem?] at f35
          refine wpOp_plain rfl rfl (fun K hK => ?_)
          go_simp
          exact hK _ _ ⟨_, q, rfl, by omega, hRd.alloc _, Turns.alloc _ _, ⟨_, _, rfl, by have := hRd.lt; omega, heap_alloc_new _ _, x22, x35, by omega, by omega, by omega, by omega, rfl⟩, nofun⟩
        · intro q a' w' hq hRd hLe hzl hfr hdep
          have e0 : a'.tmps.getD 0 undef = .pointer (some ⟨g, 0, none⟩) := hfr 0 rfl
          have f0 := e0; simp only [Array.getD_eq_getD_getElem?] at f0
          refine wpOp_plain rfl rfl (fun K hK => ?_)
          go_simp
          exact hK _ _ ⟨_, q, rfl, by omega, hRd, Turns.refl _, rfl, nofun⟩
        · intro q a' w' hq hRd hLe hzl hfr hdep
          have e37 : a'.tmps.getD 37 undef = .pointer (some ⟨g, 0, none⟩) := hdep 14 _ 37 rfl rfl rfl
          have f37 := e37; simp only [Array.getD_eq_getD_getElem?] at f37
          refine wpOp_plain rfl rfl (fun K hK => ?_)
          go_simp
          refine (pick_any hRd _ (by omega)).mono ?_
          rintro e w2 ⟨k, rfl, hk, hr, hg, hs⟩
          have hk1 := hk.1; have hk2 := hk.2.1; have hk3 := hk.2.2
          exact hK _ _ ⟨_, _, rfl, by omega, hr, Turns.of_grown hg, ⟨k, rfl, by omega, by omega⟩, nofun⟩
        · intro q a' w' hq hRd hLe hzl hfr hdep
          obtain ⟨a36, cs36, e36, hb36, hh36, y36_0, y36_2, by36_0, cy36_0, by36_2, cy36_2, rfl⟩ : (kArr g g (fun _ => False) 3 3 (fun cs => ∃ y0 : Int, ∃ y1 : Int, 0 ≤ y0 ∧ y0 ≤ 255 ∧ 0 ≤ y1 ∧ y1 ≤ 510 ∧ cs = #[.int .i64 y0, .int .i64 999, .int .i64 y1])).p (a'.tmps.getD 36 undef) w' := hdep 13 _ 36 rfl rfl rfl
          have f36 := e36; simp only [Array.getD_eq_getD_getElem?] at f36
          obtain ⟨x38, e38, b38, c38⟩ : (kInt g g (fun _ => False) 0 2).p (a'.tmps.getD 38 undef) w' := hdep 15 _ 38 rfl rfl rfl
          have f38 := e38; simp only [Array.getD_eq_getD_getElem?] at f38
          rcases (show x38 = 0 ∨ x38 = 1 ∨ x38 = 2 by omega) with rfl | rfl | rfl
          · refine wpOp_plain rfl rfl (fun K hK => ?_)
            go_simp
            exact hK _ _ ⟨_, q, rfl, by omega, hRd, Turns.refl _, ⟨_, _, _, rfl, hb36, (cell_of_row _ _ 0 _ _ _ hh36).trans rfl, y36_0, by omega, by omega, rfl⟩, nofun⟩
          · refine wpOp_plain rfl rfl (fun K hK => ?_)
            go_simp
            exact hK _ _ ⟨_, q, rfl, by omega, hRd, Turns.refl _, ⟨_, _, _, rfl, hb36, (cell_of_row _ _ 1 _ _ _ hh36).trans rfl, 999, by omega, by omega, rfl⟩, nofun⟩
          · refine wpOp_plain rfl rfl (fun K hK => ?_)
            go_simp
            exact hK _ _ ⟨_, q, rfl, by omega, hRd, Turns.refl _, ⟨_, _, _, rfl, hb36, (cell_of_row _ _ 2 _ _ _ hh36).trans rfl, y36_2, by omega, by omega, rfl⟩, nofun⟩
        · intro q a' w' hq hRd hLe hzl hfr hdep
          obtain ⟨a39, o39, v39, e39, hb39, hc39, y39_0, by39_0, cy39_0, rfl⟩ : (kCell g g (fun _ => False) (fun v => ∃ y0 : Int, 0 ≤ y0 ∧ y0 ≤ 999 ∧ v = .int .i64 y0)).p (a'.tmps.getD 39 undef) w' := hdep 16 _ 39 rfl rfl rfl
          have f39 := e39; simp only [Array.getD_eq_getD_getElem?] at f39
          refine wpOp_plain rfl rfl (fun K hK => ?_)
          go_simp
          exact hK _ _ ⟨_, q, rfl, by omega, hRd, Turns.refl _, ⟨_, rfl, by omega, by omega⟩, nofun⟩
        · intro q a' w' hq hRd hLe hzl hfr hdep
          have e0 : a'.tmps.getD 0 undef = .pointer (some ⟨g, 0, none⟩) := hfr 0 rfl
          have f0 := e0; simp only [Array.getD_eq_getD_getElem?] at f0
          refine wpOp_plain rfl rfl (fun K hK => ?_)
          go_simp
          exact hK _ _ ⟨_, q, rfl, by omega, hRd, Turns.refl _, rfl, nofun⟩
        · intro q a' w' hq hRd hLe hzl hfr hdep
          have e41 : a'.tmps.getD 41 undef = .pointer (some ⟨g, 0, none⟩) := hdep 18 _ 41 rfl rfl rfl
          have f41 := e41; simp only [Array.getD_eq_getD_getElem?] at f41
          refine wpOp_plain rfl rfl (fun K hK => ?_)
          go_simp
          refine (pick_any hRd _ (by omega)).mono ?_
          rintro e w2 ⟨k, rfl, hk, hr, hg, hs⟩
          have hk1 := hk.1; have hk2 := hk.2.1; have hk3 := hk.2.2
          exact hK _ _ ⟨_, _, rfl, by omega, hr, Turns.of_grown hg, ⟨k, rfl, by omega, by omega⟩, nofun⟩
        · intro q a' w' hq hRd hLe hzl hfr hdep
          have e0 : a'.tmps.getD 0 undef = .pointer (some ⟨g, 0, none⟩) := hfr 0 rfl
          have f0 := e0; simp only [Array.getD_eq_getD_getElem?] at f0
          refine wpOp_plain rfl rfl (fun K hK => ?_)
          go_simp
          exact hK _ _ ⟨_, q, rfl, by omega, hRd, Turns.refl _, rfl, nofun⟩
        · intro q a' w' hq hRd hLe hzl hfr hdep
          have e43 : a'.tmps.getD 43 undef = .pointer (some ⟨g, 0, none⟩) := hdep 20 _ 43 rfl rfl rfl
          have f43 := e43; simp only [Array.getD_eq_getD_getElem?] at f43
          refine wpOp_plain rfl rfl (fun K hK => ?_)
          go_simp
          refine (pick_any hRd _ (by omega)).mono ?_
          rintro e w2 ⟨k, rfl, hk, hr, hg, hs⟩
          have hk1 := hk.1; have hk2 := hk.2.1; have hk3 := hk.2.2
          exact hK _ _ ⟨_, _, rfl, by omega, hr, Turns.of_grown hg, ⟨k, rfl, by omega, by omega⟩, nofun⟩
        · intro q a' w' hq hRd hLe hzl hfr hdep
          obtain ⟨x44, e44, b44, c44⟩ : (kInt g g (fun _ => False) 0 1).p (a'.tmps.getD 44 undef) w' := hdep 21 _ 44 rfl rfl rfl
          have f44 := e44; simp only [Array.getD_eq_getD_getElem?] at f44
          refine wpOp_plain rfl rfl (fun K hK => ?_)
          go_simp
          exact hK _ _ ⟨_, q, rfl, by omega, hRd, Turns.refl _, ⟨_, rfl⟩, nofun⟩
        · intro q a' w' hq hRd hLe hzl hfr hdep
          obtain ⟨x28_1, bx28_1, cx28_1, e28⟩ : (kVal g g (fun _ => False) (fun v => ∃ y0 : Int, 0 ≤ y0 ∧ y0 ≤ 8 ∧ v = .agg #[.int .i64 0, .int .i64 y0])).p (a'.tmps.getD 28 undef) w' := hdep 5 _ 28 rfl rfl rfl
          have f28 := e28; simp only [Array.getD_eq_getD_getElem?] at f28
          have e29 : a'.tmps.getD 29 undef = .int .i64 x22 := hdep 6 _ 29 rfl rfl rfl
          have f29 := e29; simp only [Array.getD_eq_getD_getElem?] at f29
          obtain ⟨x40, e40, b40, c40⟩ : (kInt g g (fun _ => False) 0 999).p (a'.tmps.getD 40 undef) w' := hdep 17 _ 40 rfl rfl rfl
          have f40 := e40; simp only [Array.getD_eq_getD_getElem?] at f40
          obtain ⟨x42, e42, b42, c42⟩ : (kInt g g (fun _ => False) 0 2).p (a'.tmps.getD 42 undef) w' := hdep 19 _ 42 rfl rfl rfl
          have f42 := e42; simp only [Array.getD_eq_getD_getElem?] at f42
          obtain ⟨x45, e45⟩ : (kBool g g (fun _ => False)).p (a'.tmps.getD 45 undef) w' := hdep 22 _ 45 rfl rfl rfl
          have f45 := e45; simp only [Array.getD_eq_getD_getElem?] at f45
          refine wpOp_plain rfl rfl (fun K hK => ?_)
          go_simp
          exact hK _ _ ⟨_, q, rfl, by omega, hRd, Turns.refl _, ⟨x28_1, x22, x40, x42, x45, by omega, by omega, by omega, by omega, by omega, by omega, by omega, by omega, rfl⟩, nofun⟩
        · intro q a' w' hq hRd hLe hzl hfr hdep
          refine wpOp_plain rfl rfl (fun K hK => ?_)
          go_simp
          exact hK _ _ ⟨_, q, rfl, by omega, hRd.alloc _, Turns.alloc _ _, ⟨_, rfl, by have := hRd.lt; omega, by have := hLe.size; (try simp at this); omega, heap_alloc_new _ _⟩, nofun⟩
      intro vs w6 q6 hq6 hr6 hg6 hT6 hN6
      replace hg6 := hg6.grown
      obtain ⟨a8, e8, hb8, hB8, hh8⟩ : (kNew g g (fun _ => False) (wr.heap.size) 31 #[.int .i64 0, .int .i64 0, .int .i64 0, .int .i64 0, .int .i64 0, .bool false]).p (vs 24) w6 := hT6 24 8 rfl
      obtain ⟨x46_1, x46_2, x46_3, x46_4, x46_5, bx46_1, cx46_1, bx46_2, cx46_2, bx46_3, cx46_3, bx46_4, cx46_4, e46⟩ : (kVal g g (fun _ => False) (fun v => ∃ y0 : Int, ∃ y1 : Int, ∃ y2 : Int, ∃ y3 : Int, ∃ y4 : Bool, 0 ≤ y0 ∧ y0 ≤ 8 ∧ 0 ≤ y1 ∧ y1 ≤ 255 ∧ 0 ≤ y2 ∧ y2 ≤ 999 ∧ 0 ≤ y3 ∧ y3 ≤ 2 ∧ v = .agg #[.int .i64 0, .int .i64 y0, .int .i64 y1, .int .i64 y2, .int .i64 y3, .bool y4])).p (vs 23) w6 := hT6 23 46 rfl
      clear hT6 hN6
      simp only [putAll, List.drop_succ_cons, List.drop_zero, e8, e46]
      clear e8 e46
      go_simp
      have hs6 := hg6.size
      have hP6 := hP5.far hg6 hlt
      have hG6 := grown_trans hG5 hg6
      clear hg6
      refine wpList_store_var rfl 31 (.tmp 8) (.tmp 46) rfl #[.int .i64 0, .int .i64 x46_1, .int .i64 x46_2, .int .i64 x46_3, .int .i64 x46_4, .bool x46_5] hh8 rfl rfl (by kernel_rfl) rfl rfl ?_
      intro w7 hh7 hgs7 hs7
      have hne : Value.ownBlock (.slice A' nn c') ≠ some a8 := fun e => by have := (hP.block a8 e).2; omega
      have hr7 := hr6.far hgs7 hb8.1 (by omega)
      have hP7 := hP6.away hgs7 hne
      have hG7 := grown_far hG6 hgs7 (by omega)
      clear hgs7 hP6 hP5 hG5 hG6 hh8 hs7
      go_wp2_with fail
      refine (pick_any hr7 _ (by omega)).mono ?_
      rintro e w8 ⟨k2, rfl, hk, hr8, hg8, hs8⟩
      clear hk
      have hh8 := heap_far hh7 hg8 hb8.1
      have hP8 := hP7.far hg8 hlt
      have hG8 := grown_trans hG7 hg8
      have hs9 := hg8.size
      clear hg8 hh7 hP7 hG7 hs8
      by_cases hk0 : k2 = 0
      · subst hk0
        go_upto_region 8 with (fail)
        go_wp2_with fail
        refine (l20Prefix_any hr8 _ (by omega) (by omega)).mono ?_
        rintro e wa ⟨v2, qa, rfl, ⟨pb, pk, rfl, u1, u2, u3, u4⟩, hqa, hra, hga⟩
        have hha := heap_far hh8 hga hb8.1
        have hPa := hP8.far hga hlt
        have hGa := grown_trans hG8 hga
        have hsa := hga.size
        clear hga
        go_wp2_with (refine wpList_store_seg rfl 29 (.tmp 52) (.tmp 51) rfl (.agg #[.int .i64 pb, .int .i64 pk]) #[.int .i64 pb, .int .i64 pk, .int .i64 x46_2, .int .i64 x46_3, .int .i64 x46_4, .bool x46_5] hha rfl rfl (by kernel_rfl) rfl rfl rfl ?_)
        intro wb hhb hgb hsb
        have hrb := hra.far hgb hb8.1 (by omega)
        have hPb := hPa.away hgb hne
        have hGb := grown_far hGa hgb (by omega)
        obtain ⟨kb, fb⟩ := blk hhb
        clear hsb
        go_wp2_with (at_builtin; refine wpList_pushP rfl (.tmp 53) (.tmp 55) 37 rfl 31 _ [true, true, true, true, true, false] 48 Try.underlying37 info_screenL (by decide) (by decide) (by decide) rfl (hPb.next (Below.al (Below.refl _ _) _)) rfl (heap_alloc_new _ _) (plain6 (a := pb) (b := pk) (c := x46_2) (d := x46_3) (e := x46_4) (f := x46_5) (by omega)) (by omega) (by have := hGb.size; simp <;> omega) ?_; intro v' w' hP' hB' hg')
        go_roundw
        case rel => exact ⟨nn + 1, qa, k - 1, by omega, by omega, rfl, hP', (Rd.alloc hrb _).lower hB' hlt, by omega, grown_low (grown_alloc hGb _) hB'⟩
        case measure => simp [intOf]; omega
      · have hk3 : (k2 == 0) = false := by simpa using hk0
        obtain ⟨kb, fb⟩ := blk hh8
        go_wp2_with (at_builtin; refine wpList_pushP rfl (.tmp 53) (.tmp 55) 37 rfl 31 _ [true, true, true, true, true, false] 48 Try.underlying37 info_screenL (by decide) (by decide) (by decide) rfl (hP8.next (Below.al (Below.refl _ _) _)) rfl (heap_alloc_new _ _) (plain6 (a := 0) (b := x46_1) (c := x46_2) (d := x46_3) (e := x46_4) (f := x46_5) (by omega)) (by omega) (by have := hG8.size; simp <;> omega) ?_; intro v' w' hP' hB' hg')
        go_roundw
        case rel => exact ⟨nn + 1, q6 + 1, k - 1, by omega, by omega, rfl, hP', (Rd.alloc hr8 _).lower hB' hlt, by omega, grown_low (grown_alloc hG8 _) hB'⟩
        case measure => simp [intOf]; omega
    · obtain rfl : k = 0 := by omega
      go_wp2_with fail
      refine (odd_any hr _ hn (by omega)).mono ?_
      rintro e w5 ⟨od, q5, rfl, hq5, hr5, hg5, hs5, hy5⟩
      have hP5 := hP.far hg5 hlt
      have hG5 := grown_trans hG hg5
      have hsz5 := hG5.size
      clear hs5
      cases od with
      | false =>
        go_wp2
        go_ret
        exact ⟨_, nn, q5, rfl, by omega, hP5.list, by omega, hr5, hG5⟩
      | true =>
        go_upto_region 11 with (fail)
        refine wp_region_draws (ds := [(0, 60), (1, 61), (2, 62), (3, 63), (4, 64), (5, 65), (6, 66), (7, 67), (8, 68), (9, 69), (10, 70), (11, 71)]) (B := B) (g := g) (z := g) (O := fun _ => False) (A := A) (m := m) (c := c) (p := _) 12 1 [kIs g g (fun _ => False) (.slice A' nn c'), kVal g g (fun _ => False) (fun v => v = .agg #[.int .i64 0, .int .i64 0, .int .i64 5, .int .i64 4, .int .i64 0, .bool false]), kVal g g (fun _ => False) (fun v => v = .agg #[.int .i64 1, .int .i64 1]), kVal g g (fun _ => False) (fun v => v = .agg #[.int .i64 1, .int .i64 1, .int .i64 0, .int .i64 0, .int .i64 0, .bool false]), kVal g g (fun _ => False) (fun v => v = .agg #[.int .i64 0, .int .i64 0, .int .i64 0, .int .i64 1000, .int .i64 0, .bool false]), kVal g g (fun _ => False) (fun v => v = .agg #[.int .i64 0, .int .i64 0, .int .i64 0, .int .i64 0, .int .i64 3, .bool false]), kArr g g (fun _ => False) 31 4 (fun cs => cs = #[.int .i64 0, .int .i64 0, .int .i64 5, .int .i64 4, .int .i64 0, .bool false, .int .i64 1, .int .i64 1, .int .i64 0, .int .i64 0, .int .i64 0, .bool false, .int .i64 0, .int .i64 0, .int .i64 0, .int .i64 1000, .int .i64 0, .bool false, .int .i64 0, .int .i64 0, .int .i64 0, .int .i64 0, .int .i64 3, .bool false]), kIs g g (fun _ => False) (.pointer (some ⟨g, 0, none⟩)), kInt g g (fun _ => False) 0 3, kElt g g (fun _ => False) (fun xs => ∃ y0 : Int, ∃ y1 : Int, ∃ y2 : Int, ∃ y3 : Int, ∃ y4 : Int, 0 ≤ y0 ∧ y0 ≤ 1 ∧ 0 ≤ y1 ∧ y1 ≤ 1 ∧ 0 ≤ y2 ∧ y2 ≤ 5 ∧ 0 ≤ y3 ∧ y3 ≤ 1000 ∧ 0 ≤ y4 ∧ y4 ≤ 3 ∧ xs = [.int .i64 y0, .int .i64 y1, .int .i64 y2, .int .i64 y3, .int .i64 y4, .bool false]), kVal g g (fun _ => False) (fun v => ∃ y0 : Int, ∃ y1 : Int, ∃ y2 : Int, ∃ y3 : Int, ∃ y4 : Int, 0 ≤ y0 ∧ y0 ≤ 1 ∧ 0 ≤ y1 ∧ y1 ≤ 1 ∧ 0 ≤ y2 ∧ y2 ≤ 5 ∧ 0 ≤ y3 ∧ y3 ≤ 1000 ∧ 0 ≤ y4 ∧ y4 ≤ 3 ∧ v = .agg #[.int .i64 y0, .int .i64 y1, .int .i64 y2, .int .i64 y3, .int .i64 y4, .bool false]), kArr g g (fun _ => False) 31 1 (fun cs => ∃ y0 : Int, ∃ y1 : Int, ∃ y2 : Int, ∃ y3 : Int, ∃ y4 : Int, 0 ≤ y0 ∧ y0 ≤ 1 ∧ 0 ≤ y1 ∧ y1 ≤ 1 ∧ 0 ≤ y2 ∧ y2 ≤ 5 ∧ 0 ≤ y3 ∧ y3 ≤ 1000 ∧ 0 ≤ y4 ∧ y4 ≤ 3 ∧ cs = #[.int .i64 y0, .int .i64 y1, .int .i64 y2, .int .i64 y3, .int .i64 y4, .bool false])] (by kernel_rfl) (by kernel_rfl) (by first | exact .inl rfl | exact .inr (by kernel_rfl)) hr5 (Rd.lt hr5) (by rfl) ?_ rfl rfl ?_
        · refine each_cons ?_ ( each_cons ?_ ( each_cons ?_ ( each_cons ?_ ( each_cons ?_ ( each_cons ?_ ( each_cons ?_ ( each_cons ?_ ( each_cons ?_ ( each_cons ?_ ( each_cons ?_ ( each_cons ?_ ( each_nil))))))))))))
          · intro q a' w' hq hRd hLe hzl hfr hdep
            have e5 : a'.tmps.getD 5 undef = .slice A' nn c' := hfr 5 rfl
            have f5 := e5; simp only [Array.getD_eq_getD_getElem?] at f5
            refine wpOp_plain rfl rfl (fun K hK => ?_)
            go_simp
            exact hK _ _ ⟨_, q, rfl, by omega, hRd, Turns.refl _, rfl, nofun⟩
          · intro q a' w' hq hRd hLe hzl hfr hdep
            refine wpOp_plain rfl rfl (fun K hK => ?_)
            go_simp
            exact hK _ _ ⟨_, q, rfl, by omega, hRd, Turns.refl _, rfl, nofun⟩
          · intro q a' w' hq hRd hLe hzl hfr hdep
            refine wpOp_plain rfl rfl (fun K hK => ?_)
            go_simp
            exact hK _ _ ⟨_, q, rfl, by omega, hRd, Turns.refl _, rfl, nofun⟩
          · intro q a' w' hq hRd hLe hzl hfr hdep
            have e62 : a'.tmps.getD 62 undef = .agg #[.int .i64 1, .int .i64 1] := hdep 2 _ 62 rfl rfl rfl
            have f62 := e62; simp only [Array.getD_eq_getD_getElem?] at f62
            refine wpOp_plain rfl rfl (fun K hK => ?_)
            go_simp
            exact hK _ _ ⟨_, q, rfl, by omega, hRd, Turns.refl _, rfl, nofun⟩
          · intro q a' w' hq hRd hLe hzl hfr hdep
            refine wpOp_plain rfl rfl (fun K hK => ?_)
            go_simp
            exact hK _ _ ⟨_, q, rfl, by omega, hRd, Turns.refl _, rfl, nofun⟩
          · intro q a' w' hq hRd hLe hzl hfr hdep
            refine wpOp_plain rfl rfl (fun K hK => ?_)
            go_simp
            exact hK _ _ ⟨_, q, rfl, by omega, hRd, Turns.refl _, rfl, nofun⟩
          · intro q a' w' hq hRd hLe hzl hfr hdep
            have e61 : a'.tmps.getD 61 undef = .agg #[.int .i64 0, .int .i64 0, .int .i64 5, .int .i64 4, .int .i64 0, .bool false] := hdep 1 _ 61 rfl rfl rfl
            have f61 := e61; simp only [Array.getD_eq_getD_getElem?] at f61
            have e63 : a'.tmps.getD 63 undef = .agg #[.int .i64 1, .int .i64 1, .int .i64 0, .int .i64 0, .int .i64 0, .bool false] := hdep 3 _ 63 rfl rfl rfl
            have f63 := e63; simp only [Array.getD_eq_getD_getElem?] at f63
            have e64 : a'.tmps.getD 64 undef = .agg #[.int .i64 0, .int .i64 0, .int .i64 0, .int .i64 1000, .int .i64 0, .bool false] := hdep 4 _ 64 rfl rfl rfl
            have f64 := e64; simp only [Array.getD_eq_getD_getElem?] at f64
            have e65 : a'.tmps.getD 65 undef = .agg #[.int .i64 0, .int .i64 0, .int .i64 0, .int .i64 0, .int .i64 3, .bool false] := hdep 5 _ 65 rfl rfl rfl
            have f65 := e65; simp only [Array.getD_eq_getD_getElem?] at f65
            refine wpOp_plain rfl rfl (fun K hK => ?_)
            go_simp
            exact hK _ _ ⟨_, q, rfl, by omega, hRd.alloc _, Turns.alloc _ _, ⟨_, _, rfl, by have := hRd.lt; omega, heap_alloc_new _ _, rfl⟩, nofun⟩
          · intro q a' w' hq hRd hLe hzl hfr hdep
            have e0 : a'.tmps.getD 0 undef = .pointer (some ⟨g, 0, none⟩) := hfr 0 rfl
            have f0 := e0; simp only [Array.getD_eq_getD_getElem?] at f0
            refine wpOp_plain rfl rfl (fun K hK => ?_)
            go_simp
            exact hK _ _ ⟨_, q, rfl, by omega, hRd, Turns.refl _, rfl, nofun⟩
          · intro q a' w' hq hRd hLe hzl hfr hdep
            have e67 : a'.tmps.getD 67 undef = .pointer (some ⟨g, 0, none⟩) := hdep 7 _ 67 rfl rfl rfl
            have f67 := e67; simp only [Array.getD_eq_getD_getElem?] at f67
            refine wpOp_plain rfl rfl (fun K hK => ?_)
            go_simp
            refine (pick_any hRd _ (by omega)).mono ?_
            rintro e w2 ⟨k, rfl, hk, hr, hg, hs⟩
            have hk1 := hk.1; have hk2 := hk.2.1; have hk3 := hk.2.2
            exact hK _ _ ⟨_, _, rfl, by omega, hr, Turns.of_grown hg, ⟨k, rfl, by omega, by omega⟩, nofun⟩
          · intro q a' w' hq hRd hLe hzl hfr hdep
            obtain ⟨a66, cs66, e66, hb66, hh66, rfl⟩ : (kArr g g (fun _ => False) 31 4 (fun cs => cs = #[.int .i64 0, .int .i64 0, .int .i64 5, .int .i64 4, .int .i64 0, .bool false, .int .i64 1, .int .i64 1, .int .i64 0, .int .i64 0, .int .i64 0, .bool false, .int .i64 0, .int .i64 0, .int .i64 0, .int .i64 1000, .int .i64 0, .bool false, .int .i64 0, .int .i64 0, .int .i64 0, .int .i64 0, .int .i64 3, .bool false])).p (a'.tmps.getD 66 undef) w' := hdep 6 _ 66 rfl rfl rfl
            have f66 := e66; simp only [Array.getD_eq_getD_getElem?] at f66
            obtain ⟨x68, e68, b68, c68⟩ : (kInt g g (fun _ => False) 0 3).p (a'.tmps.getD 68 undef) w' := hdep 8 _ 68 rfl rfl rfl
            have f68 := e68; simp only [Array.getD_eq_getD_getElem?] at f68
            rcases (show x68 = 0 ∨ x68 = 1 ∨ x68 = 2 ∨ x68 = 3 by omega) with rfl | rfl | rfl | rfl
            · refine wpOp_plain rfl rfl (fun K hK => ?_)
              go_simp
              exact hK _ _ ⟨_, q, rfl, by omega, hRd, Turns.refl _, ⟨_, _, [.int .i64 0, .int .i64 0, .int .i64 5, .int .i64 4, .int .i64 0, .bool false], rfl, hb66, fun i hi => by (rw [(blk hh66).1]; match i, hi with | 0, _ => rfl | 1, _ => rfl | 2, _ => rfl | 3, _ => rfl | 4, _ => rfl | 5, _ => rfl), 0, 0, 5, 4, 0, by omega, by omega, by omega, by omega, by omega, by omega, by omega, by omega, by omega, by omega, rfl⟩, nofun⟩
            · refine wpOp_plain rfl rfl (fun K hK => ?_)
              go_simp
              exact hK _ _ ⟨_, q, rfl, by omega, hRd, Turns.refl _, ⟨_, _, [.int .i64 1, .int .i64 1, .int .i64 0, .int .i64 0, .int .i64 0, .bool false], rfl, hb66, fun i hi => by (rw [(blk hh66).1]; match i, hi with | 0, _ => rfl | 1, _ => rfl | 2, _ => rfl | 3, _ => rfl | 4, _ => rfl | 5, _ => rfl), 1, 1, 0, 0, 0, by omega, by omega, by omega, by omega, by omega, by omega, by omega, by omega, by omega, by omega, rfl⟩, nofun⟩
            · refine wpOp_plain rfl rfl (fun K hK => ?_)
              go_simp
              exact hK _ _ ⟨_, q, rfl, by omega, hRd, Turns.refl _, ⟨_, _, [.int .i64 0, .int .i64 0, .int .i64 0, .int .i64 1000, .int .i64 0, .bool false], rfl, hb66, fun i hi => by (rw [(blk hh66).1]; match i, hi with | 0, _ => rfl | 1, _ => rfl | 2, _ => rfl | 3, _ => rfl | 4, _ => rfl | 5, _ => rfl), 0, 0, 0, 1000, 0, by omega, by omega, by omega, by omega, by omega, by omega, by omega, by omega, by omega, by omega, rfl⟩, nofun⟩
            · refine wpOp_plain rfl rfl (fun K hK => ?_)
              go_simp
              exact hK _ _ ⟨_, q, rfl, by omega, hRd, Turns.refl _, ⟨_, _, [.int .i64 0, .int .i64 0, .int .i64 0, .int .i64 0, .int .i64 3, .bool false], rfl, hb66, fun i hi => by (rw [(blk hh66).1]; match i, hi with | 0, _ => rfl | 1, _ => rfl | 2, _ => rfl | 3, _ => rfl | 4, _ => rfl | 5, _ => rfl), 0, 0, 0, 0, 3, by omega, by omega, by omega, by omega, by omega, by omega, by omega, by omega, by omega, by omega, rfl⟩, nofun⟩
          · intro q a' w' hq hRd hLe hzl hfr hdep
            obtain ⟨a69, o69, xs69, e69, hb69, hc69, y69_0, y69_1, y69_2, y69_3, y69_4, by69_0, cy69_0, by69_1, cy69_1, by69_2, cy69_2, by69_3, cy69_3, by69_4, cy69_4, rfl⟩ : (kElt g g (fun _ => False) (fun xs => ∃ y0 : Int, ∃ y1 : Int, ∃ y2 : Int, ∃ y3 : Int, ∃ y4 : Int, 0 ≤ y0 ∧ y0 ≤ 1 ∧ 0 ≤ y1 ∧ y1 ≤ 1 ∧ 0 ≤ y2 ∧ y2 ≤ 5 ∧ 0 ≤ y3 ∧ y3 ≤ 1000 ∧ 0 ≤ y4 ∧ y4 ≤ 3 ∧ xs = [.int .i64 y0, .int .i64 y1, .int .i64 y2, .int .i64 y3, .int .i64 y4, .bool false])).p (a'.tmps.getD 69 undef) w' := hdep 9 _ 69 rfl rfl rfl
            have f69 := e69; simp only [Array.getD_eq_getD_getElem?] at f69
            have hc69_0 := hc69 0 (by simp); simp at hc69_0
            have hc69_1 := hc69 1 (by simp); simp at hc69_1
            have hc69_2 := hc69 2 (by simp); simp at hc69_2
            have hc69_3 := hc69 3 (by simp); simp at hc69_3
            have hc69_4 := hc69 4 (by simp); simp at hc69_4
            have hc69_5 := hc69 5 (by simp); simp at hc69_5
            refine wpOp_plain rfl rfl (fun K hK => ?_)
            go_simp
            exact hK _ _ ⟨_, q, rfl, by omega, hRd, Turns.refl _, ⟨y69_0, y69_1, y69_2, y69_3, y69_4, by omega, by omega, by omega, by omega, by omega, by omega, by omega, by omega, by omega, by omega, rfl⟩, nofun⟩
          · intro q a' w' hq hRd hLe hzl hfr hdep
            obtain ⟨x70_0, x70_1, x70_2, x70_3, x70_4, bx70_0, cx70_0, bx70_1, cx70_1, bx70_2, cx70_2, bx70_3, cx70_3, bx70_4, cx70_4, e70⟩ : (kVal g g (fun _ => False) (fun v => ∃ y0 : Int, ∃ y1 : Int, ∃ y2 : Int, ∃ y3 : Int, ∃ y4 : Int, 0 ≤ y0 ∧ y0 ≤ 1 ∧ 0 ≤ y1 ∧ y1 ≤ 1 ∧ 0 ≤ y2 ∧ y2 ≤ 5 ∧ 0 ≤ y3 ∧ y3 ≤ 1000 ∧ 0 ≤ y4 ∧ y4 ≤ 3 ∧ v = .agg #[.int .i64 y0, .int .i64 y1, .int .i64 y2, .int .i64 y3, .int .i64 y4, .bool false])).p (a'.tmps.getD 70 undef) w' := hdep 10 _ 70 rfl rfl rfl
            have f70 := e70; simp only [Array.getD_eq_getD_getElem?] at f70
            refine wpOp_plain rfl rfl (fun K hK => ?_)
            go_simp
            exact hK _ _ ⟨_, q, rfl, by omega, hRd.alloc _, Turns.alloc _ _, ⟨_, _, rfl, by have := hRd.lt; omega, heap_alloc_new _ _, x70_0, x70_1, x70_2, x70_3, x70_4, by omega, by omega, by omega, by omega, by omega, by omega, by omega, by omega, by omega, by omega, rfl⟩, nofun⟩
        intro vs w6 q6 hq6 hr6 hg6 hT6 hN6
        replace hg6 := hg6.grown
        have e60 : vs 0 = .slice A' nn c' := hT6 0 60 rfl
        obtain ⟨a71, cs71, e71, hb71, hh71, y71_0, y71_1, y71_2, y71_3, y71_4, by71_0, cy71_0, by71_1, cy71_1, by71_2, cy71_2, by71_3, cy71_3, by71_4, cy71_4, rfl⟩ : (kArr g g (fun _ => False) 31 1 (fun cs => ∃ y0 : Int, ∃ y1 : Int, ∃ y2 : Int, ∃ y3 : Int, ∃ y4 : Int, 0 ≤ y0 ∧ y0 ≤ 1 ∧ 0 ≤ y1 ∧ y1 ≤ 1 ∧ 0 ≤ y2 ∧ y2 ≤ 5 ∧ 0 ≤ y3 ∧ y3 ≤ 1000 ∧ 0 ≤ y4 ∧ y4 ≤ 3 ∧ cs = #[.int .i64 y0, .int .i64 y1, .int .i64 y2, .int .i64 y3, .int .i64 y4, .bool false])).p (vs 11) w6 := hT6 11 71 rfl
        clear hT6 hN6
        simp only [putAll, List.drop_succ_cons, List.drop_zero, e60, e71]
        clear e60 e71
        go_simp
        have hP6 := hP5.far hg6 hlt
        have hG6 := grown_trans hG5 hg6
        have hsz6 := hG6.size
        refine wpList_pushP rfl (.tmp 60) (.tmp 71) 37 rfl 31 _ [true, true, true, true, true, false] 48 Try.underlying37 info_screenL (by decide) (by decide) (by decide) rfl hP6 rfl hh71 (plain6 (a := y71_0) (b := y71_1) (c := y71_2) (d := y71_3) (e := y71_4) (f := false) (by omega)) (by omega) (by omega) ?_
        intro v' w' hP' hB' hg'
        go_wp2
        go_ret
        exact ⟨_, nn + 1, q6, rfl, by omega, hP'.list, by omega, hr6.lower hB' hlt, grown_low hG6 hB'⟩
end Go.Proofs.Ytcljfakpcecejaa
