/-
  The drawn routes.
-/
import Derived.Test.YtgoijpbkgkjfeaaRtA
import Derived.Test.YtgoijpbkgkjfeaaPfxD
namespace Go.Proofs.Ytgoijpbkgkjfeaa
open Go.RowKit Go.Joins

theorem plain3 {a b c : Int} (h : (-100000 ≤ a ∧ a ≤ 100000) ∧ (-100000 ≤ b ∧ b ≤ 100000) ∧ (-100000 ≤ c ∧ c ≤ 100000)) : Plain [true, true, true] [.int .i64 a, .int .i64 b, .int .i64 c] :=
  plain_cons_int (by omega) (plain_cons_int (by omega) (plain_cons_int (by omega) plain_nil))
theorem grown_below2 {a w w' : World} {g : Nat} (h : a.grownBy w (some g)) (hb : Below w.heap.size w w') : a.grownBy w' (some g) := grown_low h (hb.mono h.size)
set_option maxHeartbeats 8000000 in
theorem l20Routes_any {w : World} {B g : Nat} {A : Option Addr} {m c p : Nat} (h : Rd w B g A m c p) (n : Int) (hn : -1000000 ≤ n) (hp2 : p ≤ 500000000) :
    Calls Try.prog 22 #[(.pointer (some ⟨g, 0, none⟩)), .int .i64 n] w (DrawnL w B g A m c p 1000 7 27 [true, true, true]) := by
  have hlt := h.lt
  have hBg := h.2.1
  go_enter Try.func22, Try.ntmps22
  go_wp2_with fail
  have hP0 : PAcc (w.alloc (.cells #[] 27)) w.heap.size 27 [true, true, true] (.slice (some ⟨w.heap.size, 0, none⟩) 0 0) 0 := PAcc.made w _ _ (Nat.le_refl _)
  refine (pick_any (h.alloc _) _ (by omega)).mono ?_
  rintro e w1 ⟨k, rfl, hk, hr1, hg1, hs1⟩
  have hk1 := hk.1; have hk2 := hk.2.1 (by omega); clear hk
  have hP1 := hP0.far hg1 hlt
  have hG1 := grown_trans (grown_alloc (grown_refl w _) _) hg1
  clear hP0 hg1 hs1
  go_wp2_with fail
  go_loopw [5, 6] (fun v i wr => ∃ (nn q : Nat) (k : Int), 0 ≤ k ∧ (nn : Int) + k ≤ 6 ∧ i = .int .i64 k ∧ PAcc wr w.heap.size 27 [true, true, true] v nn ∧ Rd wr B g A m c q ∧ (q : Int) + 100 * k ≤ p + 701 ∧ w.grownBy wr (some g)) (fun _ i _ => (intOf i).toNat)
  case atStart => exact ⟨0, p + 1, k, hk1, by omega, rfl, hP1, hr1, by omega, hG1⟩
  case round =>
    rename_i v _
    obtain ⟨nn, q, k, hk1, hk2, rfl, hP, hr, hq, hG⟩ := hrel
    obtain ⟨A', c', rfl, hnc, hcm⟩ := hP.form
    have hsw := hG.size
    by_cases hlt2 : 0 < k
    · go_wp2_with fail
      refine (l20Prefix_any hr _ (by omega) (by omega)).mono ?_
      rintro e w5 ⟨v, q5, rfl, ⟨pb, pk, rfl, u1, u2, u3, u4⟩, hq5, hr5, hg5⟩
      have hP5 := hP.far hg5 hlt
      have hG5 := grown_trans hG hg5
      have hs5 := hg5.size
      clear hg5
      go_wp2_with fail
      refine (pick_any hr5 _ (by omega)).mono ?_
      rintro e w6 ⟨x, rfl, hx, hr6, hg6, hs6⟩
      have hx1 := hx.1; have hx2 := hx.2.1 (by omega); clear hx
      have hP6 := hP5.far hg6 hlt
      have hG6 := grown_trans hG5 hg6
      have hs7 := hg6.size
      clear hg6 hs6 hP5 hG5
      go_wp2_with fail
      obtain ⟨A6, c6, R6, he6, hp6, hO6⟩ := hP6.list
      cases he6
      refine (specAddRoute_weak pb pk x (plain3 (by omega)) hp6 hO6.rows (Nat.le_refl _) (by omega)).mono ?_
      rintro e w7 ⟨A7, n7, c7, ok7, rfl, hn7, hP7, hb7⟩
      have hr7 := hr6.below hb7
      have hG7 := grown_below2 hG6 hb7
      clear hP6 hO6 hp6
      go_wp2
      go_roundw
      case rel => exact ⟨n7, q5 + 1, k - 1, by omega, by omega, rfl, hP7.more (by omega), hr7, by omega, hG7⟩
      case measure => simp [intOf]; omega
    · obtain rfl : k = 0 := by omega
      go_wp2_with fail
      refine (odd_any hr _ hn (by omega)).mono ?_
      rintro e w5 ⟨od, q5, rfl, hq5, hr5, hg5, hs5, hy5⟩
      have hP5 := hP.far hg5 hlt
      have hG5 := grown_trans hG hg5
      have hsz5 := hG5.size
      clear hs5
      cases od with
      | false =>
        go_wp2
        go_ret
        exact ⟨_, nn, q5, rfl, by omega, hP5.list, by omega, hr5, hG5⟩
      | true =>
        go_upto_region 8 with (fail)
        refine wp_region_draws (ds := [(0, 30), (1, 31), (2, 32), (3, 33), (4, 34), (5, 35), (6, 36), (7, 37), (8, 38), (9, 39), (10, 40), (11, 41)]) (B := B) (g := g) (z := g) (O := fun _ => False) (A := A) (m := m) (c := c) (p := _) 12 1 [kIs g g (fun _ => False) (.slice A' nn c'), kVal g g (fun _ => False) (fun v => v = .agg #[.int .i64 1, .int .i64 3]), kVal g g (fun _ => False) (fun v => v = .agg #[.int .i64 1, .int .i64 3, .int .i64 0]), kVal g g (fun _ => False) (fun v => v = .agg #[.int .i64 255, .int .i64 8]), kVal g g (fun _ => False) (fun v => v = .agg #[.int .i64 255, .int .i64 8, .int .i64 (-1)]), kVal g g (fun _ => False) (fun v => v = .agg #[.int .i64 0, .int .i64 0, .int .i64 0]), kArr g g (fun _ => False) 27 3 (fun cs => cs = #[.int .i64 1, .int .i64 3, .int .i64 0, .int .i64 255, .int .i64 8, .int .i64 (-1), .int .i64 0, .int .i64 0, .int .i64 0]), kIs g g (fun _ => False) (.pointer (some ⟨g, 0, none⟩)), kInt g g (fun _ => False) 0 2, kElt g g (fun _ => False) (fun xs => ∃ y0 : Int, ∃ y1 : Int, ∃ y2 : Int, 0 ≤ y0 ∧ y0 ≤ 255 ∧ 0 ≤ y1 ∧ y1 ≤ 8 ∧ (-1) ≤ y2 ∧ y2 ≤ 0 ∧ xs = [.int .i64 y0, .int .i64 y1, .int .i64 y2]), kVal g g (fun _ => False) (fun v => ∃ y0 : Int, ∃ y1 : Int, ∃ y2 : Int, 0 ≤ y0 ∧ y0 ≤ 255 ∧ 0 ≤ y1 ∧ y1 ≤ 8 ∧ (-1) ≤ y2 ∧ y2 ≤ 0 ∧ v = .agg #[.int .i64 y0, .int .i64 y1, .int .i64 y2]), kArr g g (fun _ => False) 27 1 (fun cs => ∃ y0 : Int, ∃ y1 : Int, ∃ y2 : Int, 0 ≤ y0 ∧ y0 ≤ 255 ∧ 0 ≤ y1 ∧ y1 ≤ 8 ∧ (-1) ≤ y2 ∧ y2 ≤ 0 ∧ cs = #[.int .i64 y0, .int .i64 y1, .int .i64 y2])] (by kernel_rfl) (by kernel_rfl) (by first | exact .inl rfl | exact .inr (by kernel_rfl)) hr5 (Rd.lt hr5) (by rfl) ?_ rfl rfl ?_
        · refine each_cons ?_ ( each_cons ?_ ( each_cons ?_ ( each_cons ?_ ( each_cons ?_ ( each_cons ?_ ( each_cons ?_ ( each_cons ?_ ( each_cons ?_ ( each_cons ?_ ( each_cons ?_ ( each_cons ?_ ( each_nil))))))))))))
          · intro q a' w' hq hRd hLe hzl hfr hdep
            have e5 : a'.tmps.getD 5 undef = .slice A' nn c' := hfr 5 rfl
            have f5 := e5; simp only [Array.getD_eq_getD_getElem?] at f5
            refine wpOp_plain rfl rfl (fun K hK => ?_)
            go_simp
            exact hK _ _ ⟨_, q, rfl, by omega, hRd, Turns.refl _, rfl, nofun⟩
          · intro q a' w' hq hRd hLe hzl hfr hdep
            refine wpOp_plain rfl rfl (fun K hK => ?_)
            go_simp
            exact hK _ _ ⟨_, q, rfl, by omega, hRd, Turns.refl _, rfl, nofun⟩
          · intro q a' w' hq hRd hLe hzl hfr hdep
            have e31 : a'.tmps.getD 31 undef = .agg #[.int .i64 1, .int .i64 3] := hdep 1 _ 31 rfl rfl rfl
            have f31 := e31; simp only [Array.getD_eq_getD_getElem?] at f31
            refine wpOp_plain rfl rfl (fun K hK => ?_)
            go_simp
            exact hK _ _ ⟨_, q, rfl, by omega, hRd, Turns.refl _, rfl, nofun⟩
          · intro q a' w' hq hRd hLe hzl hfr hdep
            refine wpOp_plain rfl rfl (fun K hK => ?_)
            go_simp
            exact hK _ _ ⟨_, q, rfl, by omega, hRd, Turns.refl _, rfl, nofun⟩
          · intro q a' w' hq hRd hLe hzl hfr hdep
            have e33 : a'.tmps.getD 33 undef = .agg #[.int .i64 255, .int .i64 8] := hdep 3 _ 33 rfl rfl rfl
            have f33 := e33; simp only [Array.getD_eq_getD_getElem?] at f33
            refine wpOp_plain rfl rfl (fun K hK => ?_)
            go_simp
            exact hK _ _ ⟨_, q, rfl, by omega, hRd, Turns.refl _, rfl, nofun⟩
          · intro q a' w' hq hRd hLe hzl hfr hdep
            refine wpOp_plain rfl rfl (fun K hK => ?_)
            go_simp
            exact hK _ _ ⟨_, q, rfl, by omega, hRd, Turns.refl _, rfl, nofun⟩
          · intro q a' w' hq hRd hLe hzl hfr hdep
            have e32 : a'.tmps.getD 32 undef = .agg #[.int .i64 1, .int .i64 3, .int .i64 0] := hdep 2 _ 32 rfl rfl rfl
            have f32 := e32; simp only [Array.getD_eq_getD_getElem?] at f32
            have e34 : a'.tmps.getD 34 undef = .agg #[.int .i64 255, .int .i64 8, .int .i64 (-1)] := hdep 4 _ 34 rfl rfl rfl
            have f34 := e34; simp only [Array.getD_eq_getD_getElem?] at f34
            have e35 : a'.tmps.getD 35 undef = .agg #[.int .i64 0, .int .i64 0, .int .i64 0] := hdep 5 _ 35 rfl rfl rfl
            have f35 := e35; simp only [Array.getD_eq_getD_getElem?] at f35
            refine wpOp_plain rfl rfl (fun K hK => ?_)
            go_simp
            exact hK _ _ ⟨_, q, rfl, by omega, hRd.alloc _, Turns.alloc _ _, ⟨_, _, rfl, by have := hRd.lt; omega, heap_alloc_new _ _, rfl⟩, nofun⟩
          · intro q a' w' hq hRd hLe hzl hfr hdep
            have e0 : a'.tmps.getD 0 undef = .pointer (some ⟨g, 0, none⟩) := hfr 0 rfl
            have f0 := e0; simp only [Array.getD_eq_getD_getElem?] at f0
            refine wpOp_plain rfl rfl (fun K hK => ?_)
            go_simp
            exact hK _ _ ⟨_, q, rfl, by omega, hRd, Turns.refl _, rfl, nofun⟩
          · intro q a' w' hq hRd hLe hzl hfr hdep
            have e37 : a'.tmps.getD 37 undef = .pointer (some ⟨g, 0, none⟩) := hdep 7 _ 37 rfl rfl rfl
            have f37 := e37; simp only [Array.getD_eq_getD_getElem?] at f37
            refine wpOp_plain rfl rfl (fun K hK => ?_)
            go_simp
            refine (pick_any hRd _ (by omega)).mono ?_
            rintro e w2 ⟨k, rfl, hk, hr, hg, hs⟩
            have hk1 := hk.1; have hk2 := hk.2.1; have hk3 := hk.2.2
            exact hK _ _ ⟨_, _, rfl, by omega, hr, Turns.of_grown hg, ⟨k, rfl, by omega, by omega⟩, nofun⟩
          · intro q a' w' hq hRd hLe hzl hfr hdep
            obtain ⟨a36, cs36, e36, hb36, hh36, rfl⟩ : (kArr g g (fun _ => False) 27 3 (fun cs => cs = #[.int .i64 1, .int .i64 3, .int .i64 0, .int .i64 255, .int .i64 8, .int .i64 (-1), .int .i64 0, .int .i64 0, .int .i64 0])).p (a'.tmps.getD 36 undef) w' := hdep 6 _ 36 rfl rfl rfl
            have f36 := e36; simp only [Array.getD_eq_getD_getElem?] at f36
            obtain ⟨x38, e38, b38, c38⟩ : (kInt g g (fun _ => False) 0 2).p (a'.tmps.getD 38 undef) w' := hdep 8 _ 38 rfl rfl rfl
            have f38 := e38; simp only [Array.getD_eq_getD_getElem?] at f38
            rcases (show x38 = 0 ∨ x38 = 1 ∨ x38 = 2 by omega) with rfl | rfl | rfl
            · refine wpOp_plain rfl rfl (fun K hK => ?_)
              go_simp
              exact hK _ _ ⟨_, q, rfl, by omega, hRd, Turns.refl _, ⟨_, _, [.int .i64 1, .int .i64 3, .int .i64 0], rfl, hb36, fun i hi => by (rw [(blk hh36).1]; match i, hi with | 0, _ => rfl | 1, _ => rfl | 2, _ => rfl), 1, 3, 0, by omega, by omega, by omega, by omega, by omega, by omega, rfl⟩, nofun⟩
            · refine wpOp_plain rfl rfl (fun K hK => ?_)
              go_simp
              exact hK _ _ ⟨_, q, rfl, by omega, hRd, Turns.refl _, ⟨_, _, [.int .i64 255, .int .i64 8, .int .i64 (-1)], rfl, hb36, fun i hi => by (rw [(blk hh36).1]; match i, hi with | 0, _ => rfl | 1, _ => rfl | 2, _ => rfl), 255, 8, (-1), by omega, by omega, by omega, by omega, by omega, by omega, rfl⟩, nofun⟩
            · refine wpOp_plain rfl rfl (fun K hK => ?_)
              go_simp
              exact hK _ _ ⟨_, q, rfl, by omega, hRd, Turns.refl _, ⟨_, _, [.int .i64 0, .int .i64 0, .int .i64 0], rfl, hb36, fun i hi => by (rw [(blk hh36).1]; match i, hi with | 0, _ => rfl | 1, _ => rfl | 2, _ => rfl), 0, 0, 0, by omega, by omega, by omega, by omega, by omega, by omega, rfl⟩, nofun⟩
          · intro q a' w' hq hRd hLe hzl hfr hdep
            obtain ⟨a39, o39, xs39, e39, hb39, hc39, y39_0, y39_1, y39_2, by39_0, cy39_0, by39_1, cy39_1, by39_2, cy39_2, rfl⟩ : (kElt g g (fun _ => False) (fun xs => ∃ y0 : Int, ∃ y1 : Int, ∃ y2 : Int, 0 ≤ y0 ∧ y0 ≤ 255 ∧ 0 ≤ y1 ∧ y1 ≤ 8 ∧ (-1) ≤ y2 ∧ y2 ≤ 0 ∧ xs = [.int .i64 y0, .int .i64 y1, .int .i64 y2])).p (a'.tmps.getD 39 undef) w' := hdep 9 _ 39 rfl rfl rfl
            have f39 := e39; simp only [Array.getD_eq_getD_getElem?] at f39
            have hc39_0 := hc39 0 (by simp); simp at hc39_0
            have hc39_1 := hc39 1 (by simp); simp at hc39_1
            have hc39_2 := hc39 2 (by simp); simp at hc39_2
            refine wpOp_plain rfl rfl (fun K hK => ?_)
            go_simp
            exact hK _ _ ⟨_, q, rfl, by omega, hRd, Turns.refl _, ⟨y39_0, y39_1, y39_2, by omega, by omega, by omega, by omega, by omega, by omega, rfl⟩, nofun⟩
          · intro q a' w' hq hRd hLe hzl hfr hdep
            obtain ⟨x40_0, x40_1, x40_2, bx40_0, cx40_0, bx40_1, cx40_1, bx40_2, cx40_2, e40⟩ : (kVal g g (fun _ => False) (fun v => ∃ y0 : Int, ∃ y1 : Int, ∃ y2 : Int, 0 ≤ y0 ∧ y0 ≤ 255 ∧ 0 ≤ y1 ∧ y1 ≤ 8 ∧ (-1) ≤ y2 ∧ y2 ≤ 0 ∧ v = .agg #[.int .i64 y0, .int .i64 y1, .int .i64 y2])).p (a'.tmps.getD 40 undef) w' := hdep 10 _ 40 rfl rfl rfl
            have f40 := e40; simp only [Array.getD_eq_getD_getElem?] at f40
            refine wpOp_plain rfl rfl (fun K hK => ?_)
            go_simp
            exact hK _ _ ⟨_, q, rfl, by omega, hRd.alloc _, Turns.alloc _ _, ⟨_, _, rfl, by have := hRd.lt; omega, heap_alloc_new _ _, x40_0, x40_1, x40_2, by omega, by omega, by omega, by omega, by omega, by omega, rfl⟩, nofun⟩
        intro vs w6 q6 hq6 hr6 hg6 hT6 hN6
        replace hg6 := hg6.grown
        have e30 : vs 0 = .slice A' nn c' := hT6 0 30 rfl
        obtain ⟨a41, cs41, e41, hb41, hh41, y41_0, y41_1, y41_2, by41_0, cy41_0, by41_1, cy41_1, by41_2, cy41_2, rfl⟩ : (kArr g g (fun _ => False) 27 1 (fun cs => ∃ y0 : Int, ∃ y1 : Int, ∃ y2 : Int, 0 ≤ y0 ∧ y0 ≤ 255 ∧ 0 ≤ y1 ∧ y1 ≤ 8 ∧ (-1) ≤ y2 ∧ y2 ≤ 0 ∧ cs = #[.int .i64 y0, .int .i64 y1, .int .i64 y2])).p (vs 11) w6 := hT6 11 41 rfl
        clear hT6 hN6
        simp only [putAll, List.drop_succ_cons, List.drop_zero, e30, e41]
        clear e30 e41
        go_simp
        have hP6 := hP5.far hg6 hlt
        have hG6 := grown_trans hG5 hg6
        have hsz6 := hG6.size
        refine wpList_pushP rfl (.tmp 30) (.tmp 41) 23 rfl 27 _ [true, true, true] 24 Try.underlying23 info_routeL (by decide) (by decide) (by decide) rfl hP6 rfl hh41 (plain3 (a := y41_0) (b := y41_1) (c := y41_2) (by omega)) (by omega) (by omega) ?_
        intro v' w' hP' hB' hg'
        go_wp2
        go_ret
        exact ⟨_, nn + 1, q6, rfl, by omega, hP'.list, by omega, hr6.lower hB' hlt, grown_low hG6 hB'⟩
end Go.Proofs.Ytgoijpbkgkjfeaa
