/-
  The drawn pool.
-/
import Derived.Test.YtbnfllpimnnmfaaList
import Derived.Test.YtbnfllpimnnmfaaPush
import Derived.Test.YtbnfllpimnnmfaaAll
namespace Go.Proofs.Ytbnfllpimnnmfaa
open Go Go.RowKit

theorem info_hostP : (Try.prog.info? 78).map (fun i => (i.zero, i.size, i.bytes)) = some (some (.agg #[.int .i64 0, .int .i64 0, .int .i64 0]), [true, true, true].length, 24) := by kernel_rfl
theorem plainH {a b c : Int} (h : (-100000 ≤ a ∧ a ≤ 100000) ∧ (-100000 ≤ b ∧ b ≤ 100000) ∧ (-100000 ≤ c ∧ c ≤ 100000)) : Plain [true, true, true] [.int .i64 a, .int .i64 b, .int .i64 c] :=
  plain_cons_int (by omega) (plain_cons_int (by omega) (plain_cons_int (by omega) plain_nil))
theorem Acc.list {w : World} {B : Nat} {t : TypeId} {ks : List Bool} {v : Value} {n : Nat} {R : Nat → List Value} (h : Acc w B t ks.length v n R) (hR : ∀ i, Plain ks (R i)) : PList w B t ks v n := by
  obtain ⟨A, c, rfl, h3⟩ := h.own
  exact ⟨A, c, R, rfl, hR, h3⟩
set_option maxHeartbeats 8000000 in
theorem l20PoolN_any {w : World} {B g : Nat} {A : Option Addr} {m c p : Nat} (h : Rd w B g A m c p) (n : Int) (hn : -1000000 ≤ n) (hp2 : p ≤ 500000000) :
    Calls Try.prog 56 #[(.pointer (some ⟨g, 0, none⟩)), .int .i64 n] w (DrawnL w B g A m c p 200 7 78 [true, true, true]) := by
  have hlt := h.lt
  have hBg := h.2.1
  go_enter Try.func56, Try.ntmps56
  go_wp2_with fail
  have hP0 : PAcc (w.alloc (.cells #[] 78)) w.heap.size 78 [true, true, true] (.slice (some ⟨w.heap.size, 0, none⟩) 0 0) 0 := PAcc.made w _ _ (Nat.le_refl _)
  refine (pick_any (h.alloc _) _ (by omega)).mono ?_
  rintro e w1 ⟨k, rfl, hk, hr1, hg1, hs1⟩
  have hk1 := hk.1; have hk2 := hk.2.1 (by omega); clear hk
  have hP1 := hP0.far hg1 hlt
  have hG1 := grown_trans (grown_alloc (grown_refl w _) _) hg1
  clear hP0 hg1 hs1
  go_wp2_with fail
  go_loopw [5, 6, 7] (fun v t i wr => ∃ (nn q : Nat) (k at' : Int), 0 ≤ k ∧ (nn : Int) + k ≤ 5 ∧ i = .int .i64 k ∧ t = .int .i64 at' ∧ 0 ≤ at' ∧ at' ≤ 5 * nn ∧ PAcc wr w.heap.size 78 [true, true, true] v nn ∧ Rd wr B g A m c q ∧ q ≤ p + 1 + 30 * nn ∧ w.grownBy wr (some g)) (fun _ _ i _ => (intOf i).toNat)
  case atStart => exact ⟨0, p + 1, k, 0, hk1, by omega, rfl, rfl, by omega, by omega, hP1, hr1, by omega, hG1⟩
  case round =>
    obtain ⟨nn, q, k, at', hk1, hk2, rfl, rfl, ha0, ha1, hP, hr, hq, hG⟩ := hrel
    obtain ⟨A', c', rfl, hnc, hcm⟩ := hP.form
    by_cases hlt2 : 0 < k
    · go_wp2_with fail
      refine (pick_any hr _ (by omega)).mono ?_
      rintro e w2 ⟨k2, rfl, hk, hr2, hg2, hs2⟩
      have hk3 := hk.1; have hk4 := hk.2.1 (by omega); clear hk
      have hP2 := hP.far hg2 hlt
      have hG2 := grown_trans hG hg2
      have hgw : g < w2.heap.size := hr2.lt
      have hsw := hG2.size
      clear hg2 hs2
      have hx : IntKind.i64.wrap (at' + k2) = at' + k2 := IntWalk.i64_in _ (by omega)
      have hy : IntKind.i64.wrap (at' + k2 + 1) = at' + k2 + 1 := IntWalk.i64_in _ (by omega)
      go_upto_region 7 with (fail)
      refine wp_region_draws (ds := [(0, 19), (1, 20), (2, 21), (3, 22), (4, 23), (5, 24), (6, 25), (7, 26), (8, 27), (9, 28), (10, 29), (11, 30), (12, 31), (13, 32), (14, 33), (15, 34), (16, 35)]) (B := B) (g := g) (z := g) (O := fun _ => False) (A := A) (m := m) (c := c) (p := _) 17 1 [kIs g g (fun _ => False) (.slice A' nn c'), kIs g g (fun _ => False) (.int .i64 (at' + k2)), kIs g g (fun _ => False) (.pointer (some ⟨g, 0, none⟩)), kInt g g (fun _ => False) 0 4, kInt g g (fun _ => False) 1 5, kArr g g (fun _ => False) 3 2 (fun cs => ∃ y0 : Int, 1 ≤ y0 ∧ y0 ≤ 5 ∧ cs = #[.int .i64 1, .int .i64 y0]), kIs g g (fun _ => False) (.pointer (some ⟨g, 0, none⟩)), kInt g g (fun _ => False) 0 1, kCell g g (fun _ => False) (fun v => ∃ y0 : Int, 1 ≤ y0 ∧ y0 ≤ 5 ∧ v = .int .i64 y0), kInt g g (fun _ => False) 1 5, kArr g g (fun _ => False) 3 5 (fun cs => cs = #[.int .i64 1, .int .i64 1, .int .i64 1, .int .i64 0, .int .i64 2]), kIs g g (fun _ => False) (.pointer (some ⟨g, 0, none⟩)), kInt g g (fun _ => False) 0 4, kCell g g (fun _ => False) (fun v => ∃ y0 : Int, 0 ≤ y0 ∧ y0 ≤ 2 ∧ v = .int .i64 y0), kInt g g (fun _ => False) 0 2, kVal g g (fun _ => False) (fun v => ∃ y0 : Int, ∃ y1 : Int, 1 ≤ y0 ∧ y0 ≤ 5 ∧ 0 ≤ y1 ∧ y1 ≤ 2 ∧ v = .agg #[.int .i64 (at' + k2), .int .i64 y0, .int .i64 y1]), kArr g g (fun _ => False) 78 1 (fun cs => ∃ y0 : Int, ∃ y1 : Int, 1 ≤ y0 ∧ y0 ≤ 5 ∧ 0 ≤ y1 ∧ y1 ≤ 2 ∧ cs = #[.int .i64 (at' + k2), .int .i64 y0, .int .i64 y1])] (by kernel_rfl) (by kernel_rfl) (by first | exact .inl rfl | exact .inr (by kernel_rfl)) hr2 (Rd.lt hr2) (by rfl) ?_ rfl rfl ?_
      · refine each_cons ?_ ( each_cons ?_ ( each_cons ?_ ( each_cons ?_ ( each_cons ?_ ( each_cons ?_ ( each_cons ?_ ( each_cons ?_ ( each_cons ?_ ( each_cons ?_ ( each_cons ?_ ( each_cons ?_ ( each_cons ?_ ( each_cons ?_ ( each_cons ?_ ( each_cons ?_ ( each_cons ?_ ( each_nil)))))))))))))))))
        · intro q a' w' hq hRd hLe hzl hfr hdep
          have e5 : a'.tmps.getD 5 undef = .slice A' nn c' := hfr 5 rfl
          have f5 := e5; simp only [Array.getD_eq_getD_getElem?] at f5
          refine wpOp_plain rfl rfl (fun K hK => ?_)
          go_simp
          exact hK _ _ ⟨_, q, rfl, by omega, hRd, Turns.refl _, rfl, nofun⟩
        · intro q a' w' hq hRd hLe hzl hfr hdep
          have e6 : a'.tmps.getD 6 undef = .int .i64 (at' + k2) := hfr 6 rfl
          have f6 := e6; simp only [Array.getD_eq_getD_getElem?] at f6
          refine wpOp_plain rfl rfl (fun K hK => ?_)
          go_simp
          exact hK _ _ ⟨_, q, rfl, by omega, hRd, Turns.refl _, rfl, nofun⟩
        · intro q a' w' hq hRd hLe hzl hfr hdep
          have e0 : a'.tmps.getD 0 undef = .pointer (some ⟨g, 0, none⟩) := hfr 0 rfl
          have f0 := e0; simp only [Array.getD_eq_getD_getElem?] at f0
          refine wpOp_plain rfl rfl (fun K hK => ?_)
          go_simp
          exact hK _ _ ⟨_, q, rfl, by omega, hRd, Turns.refl _, rfl, nofun⟩
        · intro q a' w' hq hRd hLe hzl hfr hdep
          have e21 : a'.tmps.getD 21 undef = .pointer (some ⟨g, 0, none⟩) := hdep 2 _ 21 rfl rfl rfl
          have f21 := e21; simp only [Array.getD_eq_getD_getElem?] at f21
          refine wpOp_plain rfl rfl (fun K hK => ?_)
          go_simp
          refine (pick_any hRd _ (by omega)).mono ?_
          rintro e w2 ⟨k, rfl, hk, hr, hg, hs⟩
          have hk1 := hk.1; have hk2 := hk.2.1; have hk3 := hk.2.2
          exact hK _ _ ⟨_, _, rfl, by omega, hr, Turns.of_grown hg, ⟨k, rfl, by omega, by omega⟩, nofun⟩
        · intro q a' w' hq hRd hLe hzl hfr hdep
          obtain ⟨x22, e22, b22, c22⟩ : (kInt g g (fun _ => False) 0 4).p (a'.tmps.getD 22 undef) w' := hdep 3 _ 22 rfl rfl rfl
          have f22 := e22; simp only [Array.getD_eq_getD_getElem?] at f22
          have r23 : IntKind.i64.wrap (1 + x22) = 1 + x22 := IntWalk.i64_in _ (by omega)
          refine wpOp_plain rfl rfl (fun K hK => ?_)
          go_simp
          exact hK _ _ ⟨_, q, rfl, by omega, hRd, Turns.refl _, ⟨_, rfl, by omega, by omega⟩, nofun⟩
        · intro q a' w' hq hRd hLe hzl hfr hdep
          obtain ⟨x23, e23, b23, c23⟩ : (kInt g g (fun _ => False) 1 5).p (a'.tmps.getD 23 undef) w' := hdep 4 _ 23 rfl rfl rfl
          have f23 := e23; simp only [Array.getD_eq_getD_getElem?] at f23
          refine wpOp_plain rfl rfl (fun K hK => ?_)
          go_simp
          exact hK _ _ ⟨_, q, rfl, by omega, hRd.alloc _, Turns.alloc _ _, ⟨_, _, rfl, by have := hRd.lt; omega, heap_alloc_new _ _, x23, by omega, by omega, rfl⟩, nofun⟩
        · intro q a' w' hq hRd hLe hzl hfr hdep
          have e0 : a'.tmps.getD 0 undef = .pointer (some ⟨g, 0, none⟩) := hfr 0 rfl
          have f0 := e0; simp only [Array.getD_eq_getD_getElem?] at f0
          refine wpOp_plain rfl rfl (fun K hK => ?_)
          go_simp
          exact hK _ _ ⟨_, q, rfl, by omega, hRd, Turns.refl _, rfl, nofun⟩
        · intro q a' w' hq hRd hLe hzl hfr hdep
          have e25 : a'.tmps.getD 25 undef = .pointer (some ⟨g, 0, none⟩) := hdep 6 _ 25 rfl rfl rfl
          have f25 := e25; simp only [Array.getD_eq_getD_getElem?] at f25
          refine wpOp_plain rfl rfl (fun K hK => ?_)
          go_simp
          refine (pick_any hRd _ (by omega)).mono ?_
          rintro e w2 ⟨k, rfl, hk, hr, hg, hs⟩
          have hk1 := hk.1; have hk2 := hk.2.1; have hk3 := hk.2.2
          exact hK _ _ ⟨_, _, rfl, by omega, hr, Turns.of_grown hg, ⟨k, rfl, by omega, by omega⟩, nofun⟩
        · intro q a' w' hq hRd hLe hzl hfr hdep
          obtain ⟨a24, cs24, e24, hb24, hh24, y24_1, by24_1, cy24_1, rfl⟩ : (kArr g g (fun _ => False) 3 2 (fun cs => ∃ y0 : Int, 1 ≤ y0 ∧ y0 ≤ 5 ∧ cs = #[.int .i64 1, .int .i64 y0])).p (a'.tmps.getD 24 undef) w' := hdep 5 _ 24 rfl rfl rfl
          have f24 := e24; simp only [Array.getD_eq_getD_getElem?] at f24
          obtain ⟨x26, e26, b26, c26⟩ : (kInt g g (fun _ => False) 0 1).p (a'.tmps.getD 26 undef) w' := hdep 7 _ 26 rfl rfl rfl
          have f26 := e26; simp only [Array.getD_eq_getD_getElem?] at f26
          rcases (show x26 = 0 ∨ x26 = 1 by omega) with rfl | rfl
          · refine wpOp_plain rfl rfl (fun K hK => ?_)
            go_simp
            exact hK _ _ ⟨_, q, rfl, by omega, hRd, Turns.refl _, ⟨_, _, _, rfl, hb24, (cell_of_row _ _ 0 _ _ _ hh24).trans rfl, 1, by omega, by omega, rfl⟩, nofun⟩
          · refine wpOp_plain rfl rfl (fun K hK => ?_)
            go_simp
            exact hK _ _ ⟨_, q, rfl, by omega, hRd, Turns.refl _, ⟨_, _, _, rfl, hb24, (cell_of_row _ _ 1 _ _ _ hh24).trans rfl, y24_1, by omega, by omega, rfl⟩, nofun⟩
        · intro q a' w' hq hRd hLe hzl hfr hdep
          obtain ⟨a27, o27, v27, e27, hb27, hc27, y27_0, by27_0, cy27_0, rfl⟩ : (kCell g g (fun _ => False) (fun v => ∃ y0 : Int, 1 ≤ y0 ∧ y0 ≤ 5 ∧ v = .int .i64 y0)).p (a'.tmps.getD 27 undef) w' := hdep 8 _ 27 rfl rfl rfl
          have f27 := e27; simp only [Array.getD_eq_getD_getElem?] at f27
          refine wpOp_plain rfl rfl (fun K hK => ?_)
          go_simp
          exact hK _ _ ⟨_, q, rfl, by omega, hRd, Turns.refl _, ⟨_, rfl, by omega, by omega⟩, nofun⟩
        · intro q a' w' hq hRd hLe hzl hfr hdep
          refine wpOp_plain rfl rfl (fun K hK => ?_)
          go_simp
          exact hK _ _ ⟨_, q, rfl, by omega, hRd.alloc _, Turns.alloc _ _, ⟨_, _, rfl, by have := hRd.lt; omega, heap_alloc_new _ _, rfl⟩, nofun⟩
        · intro q a' w' hq hRd hLe hzl hfr hdep
          have e0 : a'.tmps.getD 0 undef = .pointer (some ⟨g, 0, none⟩) := hfr 0 rfl
          have f0 := e0; simp only [Array.getD_eq_getD_getElem?] at f0
          refine wpOp_plain rfl rfl (fun K hK => ?_)
          go_simp
          exact hK _ _ ⟨_, q, rfl, by omega, hRd, Turns.refl _, rfl, nofun⟩
        · intro q a' w' hq hRd hLe hzl hfr hdep
          have e30 : a'.tmps.getD 30 undef = .pointer (some ⟨g, 0, none⟩) := hdep 11 _ 30 rfl rfl rfl
          have f30 := e30; simp only [Array.getD_eq_getD_getElem?] at f30
          refine wpOp_plain rfl rfl (fun K hK => ?_)
          go_simp
          refine (pick_any hRd _ (by omega)).mono ?_
          rintro e w2 ⟨k, rfl, hk, hr, hg, hs⟩
          have hk1 := hk.1; have hk2 := hk.2.1; have hk3 := hk.2.2
          exact hK _ _ ⟨_, _, rfl, by omega, hr, Turns.of_grown hg, ⟨k, rfl, by omega, by omega⟩, nofun⟩
        · intro q a' w' hq hRd hLe hzl hfr hdep
          obtain ⟨a29, cs29, e29, hb29, hh29, rfl⟩ : (kArr g g (fun _ => False) 3 5 (fun cs => cs = #[.int .i64 1, .int .i64 1, .int .i64 1, .int .i64 0, .int .i64 2])).p (a'.tmps.getD 29 undef) w' := hdep 10 _ 29 rfl rfl rfl
          have f29 := e29; simp only [Array.getD_eq_getD_getElem?] at f29
          obtain ⟨x31, e31, b31, c31⟩ : (kInt g g (fun _ => False) 0 4).p (a'.tmps.getD 31 undef) w' := hdep 12 _ 31 rfl rfl rfl
          have f31 := e31; simp only [Array.getD_eq_getD_getElem?] at f31
          rcases (show x31 = 0 ∨ x31 = 1 ∨ x31 = 2 ∨ x31 = 3 ∨ x31 = 4 by omega) with rfl | rfl | rfl | rfl | rfl
          · refine wpOp_plain rfl rfl (fun K hK => ?_)
            go_simp
            exact hK _ _ ⟨_, q, rfl, by omega, hRd, Turns.refl _, ⟨_, _, _, rfl, hb29, (cell_of_row _ _ 0 _ _ _ hh29).trans rfl, 1, by omega, by omega, rfl⟩, nofun⟩
          · refine wpOp_plain rfl rfl (fun K hK => ?_)
            go_simp
            exact hK _ _ ⟨_, q, rfl, by omega, hRd, Turns.refl _, ⟨_, _, _, rfl, hb29, (cell_of_row _ _ 1 _ _ _ hh29).trans rfl, 1, by omega, by omega, rfl⟩, nofun⟩
          · refine wpOp_plain rfl rfl (fun K hK => ?_)
            go_simp
            exact hK _ _ ⟨_, q, rfl, by omega, hRd, Turns.refl _, ⟨_, _, _, rfl, hb29, (cell_of_row _ _ 2 _ _ _ hh29).trans rfl, 1, by omega, by omega, rfl⟩, nofun⟩
          · refine wpOp_plain rfl rfl (fun K hK => ?_)
            go_simp
            exact hK _ _ ⟨_, q, rfl, by omega, hRd, Turns.refl _, ⟨_, _, _, rfl, hb29, (cell_of_row _ _ 3 _ _ _ hh29).trans rfl, 0, by omega, by omega, rfl⟩, nofun⟩
          · refine wpOp_plain rfl rfl (fun K hK => ?_)
            go_simp
            exact hK _ _ ⟨_, q, rfl, by omega, hRd, Turns.refl _, ⟨_, _, _, rfl, hb29, (cell_of_row _ _ 4 _ _ _ hh29).trans rfl, 2, by omega, by omega, rfl⟩, nofun⟩
        · intro q a' w' hq hRd hLe hzl hfr hdep
          obtain ⟨a32, o32, v32, e32, hb32, hc32, y32_0, by32_0, cy32_0, rfl⟩ : (kCell g g (fun _ => False) (fun v => ∃ y0 : Int, 0 ≤ y0 ∧ y0 ≤ 2 ∧ v = .int .i64 y0)).p (a'.tmps.getD 32 undef) w' := hdep 13 _ 32 rfl rfl rfl
          have f32 := e32; simp only [Array.getD_eq_getD_getElem?] at f32
          refine wpOp_plain rfl rfl (fun K hK => ?_)
          go_simp
          exact hK _ _ ⟨_, q, rfl, by omega, hRd, Turns.refl _, ⟨_, rfl, by omega, by omega⟩, nofun⟩
        · intro q a' w' hq hRd hLe hzl hfr hdep
          have e20 : a'.tmps.getD 20 undef = .int .i64 (at' + k2) := hdep 1 _ 20 rfl rfl rfl
          have f20 := e20; simp only [Array.getD_eq_getD_getElem?] at f20
          obtain ⟨x28, e28, b28, c28⟩ : (kInt g g (fun _ => False) 1 5).p (a'.tmps.getD 28 undef) w' := hdep 9 _ 28 rfl rfl rfl
          have f28 := e28; simp only [Array.getD_eq_getD_getElem?] at f28
          obtain ⟨x33, e33, b33, c33⟩ : (kInt g g (fun _ => False) 0 2).p (a'.tmps.getD 33 undef) w' := hdep 14 _ 33 rfl rfl rfl
          have f33 := e33; simp only [Array.getD_eq_getD_getElem?] at f33
          refine wpOp_plain rfl rfl (fun K hK => ?_)
          go_simp
          exact hK _ _ ⟨_, q, rfl, by omega, hRd, Turns.refl _, ⟨x28, x33, by omega, by omega, by omega, by omega, rfl⟩, nofun⟩
        · intro q a' w' hq hRd hLe hzl hfr hdep
          obtain ⟨x34_1, x34_2, bx34_1, cx34_1, bx34_2, cx34_2, e34⟩ : (kVal g g (fun _ => False) (fun v => ∃ y0 : Int, ∃ y1 : Int, 1 ≤ y0 ∧ y0 ≤ 5 ∧ 0 ≤ y1 ∧ y1 ≤ 2 ∧ v = .agg #[.int .i64 (at' + k2), .int .i64 y0, .int .i64 y1])).p (a'.tmps.getD 34 undef) w' := hdep 15 _ 34 rfl rfl rfl
          have f34 := e34; simp only [Array.getD_eq_getD_getElem?] at f34
          refine wpOp_plain rfl rfl (fun K hK => ?_)
          go_simp
          exact hK _ _ ⟨_, q, rfl, by omega, hRd.alloc _, Turns.alloc _ _, ⟨_, _, rfl, by have := hRd.lt; omega, heap_alloc_new _ _, x34_1, x34_2, by omega, by omega, by omega, by omega, rfl⟩, nofun⟩
      intro vs w7 q7 hq7 hr7 hg7 hT7 hN7
      replace hg7 := hg7.grown
      have e19 : vs 0 = .slice A' nn c' := hT7 0 19 rfl
      obtain ⟨a35, cs35, e35, hb35, hh35, y35_1, y35_2, by35_1, cy35_1, by35_2, cy35_2, rfl⟩ : (kArr g g (fun _ => False) 78 1 (fun cs => ∃ y0 : Int, ∃ y1 : Int, 1 ≤ y0 ∧ y0 ≤ 5 ∧ 0 ≤ y1 ∧ y1 ≤ 2 ∧ cs = #[.int .i64 (at' + k2), .int .i64 y0, .int .i64 y1])).p (vs 16) w7 := hT7 16 35 rfl
      clear hT7 hN7
      simp only [putAll, List.drop_succ_cons, List.drop_zero, e19, e35]
      clear e19 e35
      go_simp
      have hP7 := hP2.far hg7 hlt
      have hG7 := grown_trans hG2 hg7
      have hsz7 := hG7.size
      clear hg7
      refine wpList_pushP rfl (.tmp 19) (.tmp 35) 32 rfl 78 _ [true, true, true] 24 Try.underlying32 info_hostP (by decide) (by decide) (by decide) rfl hP7 rfl hh35 (plainH (by omega)) (by omega) (by omega) ?_
      intro v' w' hP' hB' hg'
      go_wp2_with fail
      go_roundw
      case rel => exact ⟨nn + 1, q7, k - 1, at' + k2 + 1, by omega, by omega, rfl, by first | rfl | go_num, by omega, by omega, hP', hr7.lower hB' hlt, by omega, grown_low hG7 hB'⟩
      case measure => simp [intOf]; omega
    · obtain rfl : k = 0 := by omega
      go_wp2_with fail
      refine (odd_any hr _ hn (by omega)).mono ?_
      rintro e w5 ⟨od, q5, rfl, hq5, hr5, hg5, hs5, hy5⟩
      have hP5 := hP.far hg5 hlt
      have hG5 := grown_trans hG hg5
      have hl5 := hr5.lt
      have hz5 := hG5.size
      clear hs5 hg5 hy5
      cases od with
      | false =>
        go_wp2_with fail
        go_ret
        exact ⟨_, nn, q5, rfl, by omega, hP5.list, by omega, hr5, hG5⟩
      | true =>
      go_wp2_with fail
      refine (pick_any hr5 _ (by omega)).mono ?_
      rintro e w6 ⟨k3, rfl, hk, hr6, hg6, hs6⟩
      have hP6 := hP5.far hg6 hlt
      have hG6 := grown_trans hG5 hg6
      have hl6 := hr6.lt
      have hz6 := hG6.size
      have hk3 := hk.1; have hk4 := hk.2.1 (by omega); clear hk hg6 hs6
      rcases (show k3 = 0 ∨ k3 = 1 ∨ k3 = 2 ∨ k3 = 3 by omega) with rfl | rfl | rfl | rfl
      · go_wp2_with (at_builtin; refine wpList_pushP rfl (.tmp 53) (.tmp 55) 32 rfl 78 _ [true, true, true] 24 Try.underlying32 info_hostP (by decide) (by decide) (by decide) rfl (hP6.next (Below.al (Below.refl _ _) _)) rfl (heap_alloc_new _ _) (plainH (by omega)) (by omega) (by simp; omega) ?_; intro v' w' hP' hB' hg')
        go_ret
        have hb6 := (Below.al (Below.refl w6.heap.size w6) (.cells #[.int .i64 31, .int .i64 1, .int .i64 0] 78)).mono hz6
        exact ⟨_, nn + 1, _, rfl, by omega, hP'.list, by omega, (hr6.alloc _).lower hB' hlt, grown_low hG6 (hb6.trans hB')⟩
      · go_wp2_with fail
        have hP6a := hP6.next (Below.al (Below.refl _ _) (.cells #[.int .i64 0, .int .i64 6] 3))
        refine (pick_any (hr6.alloc _) _ (by omega)).mono ?_
        rintro e w7 ⟨k4, rfl, hk, hr7, hg7, hs7⟩
        have hk5 := hk.1; have hk6 := hk.2.1 (by omega); clear hk hs7
        have hP7 := hP6a.far hg7 hlt
        have hG7 := grown_trans (grown_alloc hG6 _) hg7
        have hz7 := hG7.size
        have hh7 := heap_far (heap_alloc_new w6 (.cells #[.int .i64 0, .int .i64 6] 3)) hg7 (by omega)
        obtain ⟨c7, f7⟩ := blk hh7
        have hl7 := heap_lt hh7
        clear hg7 hh7 hP6a
        rcases (show k4 = 0 ∨ k4 = 1 by omega) with rfl | rfl
        all_goals
          go_wp2_with (at_builtin; refine wpList_pushP rfl (.tmp 59) (.tmp 67) 32 rfl 78 _ [true, true, true] 24 Try.underlying32 info_hostP (by decide) (by decide) (by decide) rfl (hP7.next (Below.al (Below.refl _ _) _)) rfl (heap_alloc_new _ _) (plainH (by omega)) (by omega) (by simp; omega) ?_; intro v' w' hP' hB' hg')
          go_ret
          exact ⟨_, nn + 1, _, rfl, by omega, hP'.list, by omega, (hr7.alloc _).lower hB' hlt, grown_low hG7 ((((Below.refl w.heap.size w7).alloc hz7 _)).trans hB')⟩
      · go_wp2_with (at_builtin; refine wpList_pushP rfl (.tmp 71) (.tmp 74) 32 rfl 78 _ [true, true, true] 24 Try.underlying32 info_hostP (by decide) (by decide) (by decide) rfl (hP6.next (Below.al (Below.refl _ _) _)) rfl (heap_alloc_new _ _) (plainH (by omega)) (by omega) (by simp; omega) ?_; intro v' w' hP' hB' hg')
        go_ret
        exact ⟨_, nn + 1, _, rfl, by omega, hP'.list, by omega, (hr6.alloc _).lower hB' hlt, grown_low hG6 (((Below.refl w.heap.size w6).alloc hz6 _).trans hB')⟩
      · obtain ⟨R, hR, hA⟩ := hP6
        have hRw : Rws (w6.alloc (.cells #[.int .i64 at', .int .i64 1, .int .i64 0, .int .i64 at', .int .i64 1, .int .i64 0] 78)) (w6.heap.size + 1) 3 (some ⟨w6.heap.size, 0, none⟩) 2 2 (fun _ => [.int .i64 at', .int .i64 1, .int .i64 0]) := by
          refine New.rows (t := 78) ⟨_, heap_alloc_new _ _, rfl, Nat.le_refl _, fun i hi j v hv => ?_⟩ (by unfold maxLen; omega) (by omega)
          match i, hi, j with
          | 0, _, 0 => exact hv
          | 0, _, 1 => exact hv
          | 0, _, 2 => exact hv
          | 0, _, j + 3 => simp at hv
          | 1, _, 0 => exact hv
          | 1, _, 1 => exact hv
          | 1, _, 2 => exact hv
          | 1, _, j + 3 => simp at hv
        go_wp2_with (at_builtin; refine wpList_pushAll rfl (.tmp 44) (.tmp 49) 32 rfl 78 _ 3 24 Try.underlying32 info_hostP (by decide) (by decide) (by decide) rfl (hA.next (Below.al (Below.refl _ _) _)) rfl hRw (fun _ => rfl) (fun _ u hu => by simp at hu; rcases hu with rfl | rfl | rfl <;> rfl) (by omega) (by omega) (by simp; omega) ?_; intro v' w' hA' hB' hg')
        go_ret
        have hRR : ∀ i, Plain [true, true, true] (glue R nn (fun _ => [.int .i64 at', .int .i64 1, .int .i64 0]) i) := fun i => by
          unfold glue
          split
          · exact hR i
          · exact plainH (by omega)
        exact ⟨_, nn + 2, _, rfl, by omega, Acc.list (ks := [true, true, true]) hA' hRR, by omega, (hr6.alloc _).lower hB' hlt, grown_low hG6 (((Below.refl w.heap.size w6).alloc hz6 _).trans hB')⟩
end Go.Proofs.Ytbnfllpimnnmfaa
