/-
  What DrawDropRoute draws: routes and a prefix.
-/
import Derived.Test.YtjjbfjjmpapajaaRtD
import Derived.Test.YtjjbfjjmpapajaaPfxD
import Derived.Test.YtjjbfjjmpapajaaRtT
namespace Go.Proofs.Ytjjbfjjmpapajaa
open Go Go.RowKit

theorem Own.far4 {w w' : World} {B g : Nat} {t : TypeId} {m : Nat} {A : Option Addr} {n c : Nat} {R : Nat → List Value} (h : Own w B t m A n c R) (hg : w.grownBy w' (some g)) (hl : g < B) : Own w' B t m A n c R :=
  h.keep fun k hk hlt _ => hg.block k hlt (by simp; omega)
theorem below_al1 (w : World) (o : Obj) : Below w.heap.size w (w.alloc o) := (Below.refl _ _).alloc (Nat.le_refl _) o
/-- Routes and a prefix. -/
def RtsPfx (w : World) (e : Ending) (w' : World) : Prop :=
  ∃ A n c, ∃ b k hh : Nat → Int, ∃ x y : Int, e = .returned (.tuple #[.slice A n c, .agg #[.int .i64 x, .int .i64 y]]) ∧ n ≤ 7 ∧ Own w' w.heap.size 45 3 A n c (routeR b k hh) ∧ Below w.heap.size w w'
set_option maxHeartbeats 8000000 in
theorem drawDropRoute_any {w : World} {A : Option Addr} {n c : Nat} (h : Bytes w w.heap.size A n c) :
    Calls Try.prog 34 #[.slice A n c] w (RtsPfx w) := by
  go_enter Try.func34, Try.ntmps34
  go_wp2_with fail
  refine (open_any (h.alloc (Nat.le_refl _) _) (by simp)).mono ?_
  rintro e w1 ⟨m, g, rfl, hgl, hr1, hb1, hs1⟩
  have hz1 := (hb1.block w.heap.size (by simp)).trans (heap_alloc_new w _)
  have hB1 : Below w.heap.size w w1 := (below_al1 w _).trans (hb1.mono (by simp))
  have hs2 := hB1.size
  simp at hgl
  have hzl := heap_lt hz1
  clear hs1 hb1
  go_wp2_with fail
  refine (l20Routes_any hr1 _ (by omega) (by omega)).mono ?_
  rintro e w2 ⟨v, nn, q, rfl, hn, ⟨A', c', R, rfl, hR, hO⟩, hq, hr2, hg2⟩
  have hz2 := heap_far hz1 hg2 (by omega)
  have hB2 : Below w.heap.size w w2 := hB1.trans (below_grown hg2 hs2 (by omega))
  have hg1 : g < w1.heap.size := hr1.lt
  have hs3 := hg2.size
  obtain ⟨b, k, hh, rfl⟩ := routeR_of hR
  clear hg2 hR hz1
  obtain ⟨B, hBe⟩ : ∃ B, B = w.heap.size := ⟨_, rfl⟩
  rw [← hBe] at hr2
  rcases Nat.eq_zero_or_pos nn with rfl | hpos
  · go_wp2_with fail
    refine (l20Prefix_any hr2 _ (by omega) (by omega)).mono ?_
    rintro e w5 ⟨v, q5, rfl, ⟨x, y, rfl, hxy⟩, hq5, hr5, hg5⟩
    have hz5 := heap_far hz2 hg5 (by omega)
    have hO5 := hO.far4 hg5 hg1
    have hB5 : Below w.heap.size w w5 := hB2.trans (below_grown hg5 hB2.size (by omega))
    clear hxy hg5
    go_wp2_with (refine wpList_store_var rfl 25 (.tmp 3) (.tmp 29) rfl #[.int .i64 x, .int .i64 y] hz5 rfl rfl (by kernel_rfl) rfl rfl ?_; intro w9 hh9 hg9 hs9; obtain ⟨k9, f9⟩ := blk hh9)
    have hO9 := hO5.keep (w' := w9) fun k hk hlt _ => hg9.block k hlt (by simp; omega)
    refine bodyPost_ret (v := .tuple #[.slice A' 0 c', .agg #[.int .i64 x, .int .i64 y]]) (by simp [results, Try.results34, go_sem, k9]) rfl ⟨A', 0, c', b, k, hh, x, y, rfl, by omega, hO9.more (by omega), hB5.trans (below_grown hg9 hB5.size (Nat.le_refl _))⟩
  · have hpz : decide ((0 : Int) < (nn : Int)) = true := by simp; omega
    go_wp2_with fail
    refine (pick_any hr2 _ (by omega)).mono ?_
    rintro e w3 ⟨k0, rfl, hk, hr3, hg3, hs4⟩
    clear hk
    have hz3 := heap_far hz2 hg3 (by omega)
    have hO3 := hO.far4 hg3 hg1
    have hB3 := hB2.trans (below_grown hg3 hB2.size (by omega))
    have hs5 := hg3.size
    clear hg3 hs4 hO hz2
    by_cases hk0 : k0 = 0
    · subst hk0
      obtain ⟨g', rfl, hBg', hN⟩ := hO3.at_ hpos
      have hrw := (hO3.rows.2 hpos)
      obtain ⟨bl, off, he, hbl, hc⟩ := hrw
      cases he
      have hne : g' ≠ g := by omega
      have hzg : w.heap.size ≠ g := by omega
      have hlz : g' ≠ w.heap.size := by omega
      go_upto_region 4 with (fail)
      refine wp_region_draws (ds := [(0, 18), (1, 19), (2, 20), (3, 21), (4, 22), (5, 23), (6, 24), (7, 25), (8, 26), (9, 2)]) (B := B) (g := g) (z := w.heap.size) (O := fun o => ∃ x0 x1 : Int, o = .cells #[.int .i64 x0, .int .i64 x1] 25 (0, 0)) (A := A) (m := m) (c := c) (p := _) 11 1 [kIs g (w.heap.size) (fun o => ∃ x0 x1 : Int, o = .cells #[.int .i64 x0, .int .i64 x1] 25 (0, 0)) (.slice (some ⟨g', 0, none⟩) nn c'), kIs g (w.heap.size) (fun o => ∃ x0 x1 : Int, o = .cells #[.int .i64 x0, .int .i64 x1] 25 (0, 0)) (.slice (some ⟨g', 0, none⟩) nn c'), kIs g (w.heap.size) (fun o => ∃ x0 x1 : Int, o = .cells #[.int .i64 x0, .int .i64 x1] 25 (0, 0)) (.pointer (some ⟨g, 0, none⟩)), kIs g (w.heap.size) (fun o => ∃ x0 x1 : Int, o = .cells #[.int .i64 x0, .int .i64 x1] 25 (0, 0)) (.slice (some ⟨g', 0, none⟩) nn c'), kIs g (w.heap.size) (fun o => ∃ x0 x1 : Int, o = .cells #[.int .i64 x0, .int .i64 x1] 25 (0, 0)) (.int .i64 (nn : Nat)), kVal g (w.heap.size) (fun o => ∃ x0 x1 : Int, o = .cells #[.int .i64 x0, .int .i64 x1] 25 (0, 0)) (fun v => ∃ k : Int, v = .int .i64 k ∧ 0 ≤ k ∧ k < (nn : Int)), kVal g (w.heap.size) (fun o => ∃ x0 x1 : Int, o = .cells #[.int .i64 x0, .int .i64 x1] 25 (0, 0)) (fun v => ∃ i : Nat, i < nn ∧ v = .pointer (some ⟨g', i * 3, none⟩)), kVal g (w.heap.size) (fun o => ∃ x0 x1 : Int, o = .cells #[.int .i64 x0, .int .i64 x1] 25 (0, 0)) (fun v => ∃ i : Nat, i < nn ∧ v = .pointer (some ⟨g', i * 3, none⟩)), kVal g (w.heap.size) (fun o => ∃ x0 x1 : Int, o = .cells #[.int .i64 x0, .int .i64 x1] 25 (0, 0)) (fun v => ∃ i : Nat, i < nn ∧ v = .agg #[.int .i64 (b i), .int .i64 (k i)]), kIs g (w.heap.size) (fun o => ∃ x0 x1 : Int, o = .cells #[.int .i64 x0, .int .i64 x1] 25 (0, 0)) (.slice (some ⟨g', 0, none⟩) nn c'), kSet g (w.heap.size) (fun o => ∃ x0 x1 : Int, o = .cells #[.int .i64 x0, .int .i64 x1] 25 (0, 0)) hzg] (by kernel_rfl) (by kernel_rfl) (by first | exact .inl rfl | exact .inr (by kernel_rfl)) hr3 (heap_lt hz3) (by rfl) ?_ rfl rfl ?_
      · refine each_cons ?_ ( each_cons ?_ ( each_cons ?_ ( each_cons ?_ ( each_cons ?_ ( each_cons ?_ ( each_cons ?_ ( each_cons ?_ ( each_cons ?_ ( each_cons ?_ ( each_cons ?_ ( each_nil)))))))))))
        · intro q a' w' hq hRd hLe hzl hfr hdep
          have e5 : a'.tmps.getD 5 undef = .slice (some ⟨g', 0, none⟩) nn c' := hfr 5 rfl
          have f5 := e5; simp only [Array.getD_eq_getD_getElem?] at f5
          refine wpOp_plain rfl rfl (fun K hK => ?_)
          go_simp
          exact hK _ _ ⟨_, q, rfl, by omega, hRd, Turns.refl _, rfl, nofun⟩
        · intro q a' w' hq hRd hLe hzl hfr hdep
          have e5 : a'.tmps.getD 5 undef = .slice (some ⟨g', 0, none⟩) nn c' := hfr 5 rfl
          have f5 := e5; simp only [Array.getD_eq_getD_getElem?] at f5
          refine wpOp_plain rfl rfl (fun K hK => ?_)
          go_simp
          exact hK _ _ ⟨_, q, rfl, by omega, hRd, Turns.refl _, rfl, nofun⟩
        · intro q a' w' hq hRd hLe hzl hfr hdep
          have e4 : a'.tmps.getD 4 undef = .pointer (some ⟨g, 0, none⟩) := hfr 4 rfl
          have f4 := e4; simp only [Array.getD_eq_getD_getElem?] at f4
          refine wpOp_plain rfl rfl (fun K hK => ?_)
          go_simp
          exact hK _ _ ⟨_, q, rfl, by omega, hRd, Turns.refl _, rfl, nofun⟩
        · intro q a' w' hq hRd hLe hzl hfr hdep
          have e5 : a'.tmps.getD 5 undef = .slice (some ⟨g', 0, none⟩) nn c' := hfr 5 rfl
          have f5 := e5; simp only [Array.getD_eq_getD_getElem?] at f5
          refine wpOp_plain rfl rfl (fun K hK => ?_)
          go_simp
          exact hK _ _ ⟨_, q, rfl, by omega, hRd, Turns.refl _, rfl, nofun⟩
        · intro q a' w' hq hRd hLe hzl hfr hdep
          have e21 : a'.tmps.getD 21 undef = .slice (some ⟨g', 0, none⟩) nn c' := hdep 3 _ 21 rfl rfl rfl
          have f21 := e21; simp only [Array.getD_eq_getD_getElem?] at f21
          refine wpOp_plain rfl rfl (fun K hK => ?_)
          go_simp
          exact hK _ _ ⟨_, q, rfl, by omega, hRd, Turns.refl _, rfl, nofun⟩
        · intro q a' w' hq hRd hLe hzl hfr hdep
          have e20 : a'.tmps.getD 20 undef = .pointer (some ⟨g, 0, none⟩) := hdep 2 _ 20 rfl rfl rfl
          have f20 := e20; simp only [Array.getD_eq_getD_getElem?] at f20
          have e22 : a'.tmps.getD 22 undef = .int .i64 (nn : Nat) := hdep 4 _ 22 rfl rfl rfl
          have f22 := e22; simp only [Array.getD_eq_getD_getElem?] at f22
          refine wpOp_plain rfl rfl (fun K hK => ?_)
          go_simp
          refine (pick_any hRd _ (by omega)).mono ?_
          rintro e w2 ⟨k, rfl, hk, hr, hg, hs⟩
          have hk1 := hk.1; have hk2 := hk.2.1; have hk3 := hk.2.2
          exact hK _ _ ⟨_, _, rfl, by omega, hr, Turns.of_grown hg, ⟨k, rfl, by omega, by omega⟩, nofun⟩
        · intro q a' w' hq hRd hLe hzl hfr hdep
          have e19 : a'.tmps.getD 19 undef = .slice (some ⟨g', 0, none⟩) nn c' := hdep 1 _ 19 rfl rfl rfl
          have f19 := e19; simp only [Array.getD_eq_getD_getElem?] at f19
          obtain ⟨x23, e23, b23, c23⟩ : (kVal g (w.heap.size) (fun o => ∃ x0 x1 : Int, o = .cells #[.int .i64 x0, .int .i64 x1] 25 (0, 0)) (fun v => ∃ k : Int, v = .int .i64 k ∧ 0 ≤ k ∧ k < (nn : Int))).p (a'.tmps.getD 23 undef) w' := hdep 5 _ 23 rfl rfl rfl
          have f23 := e23; simp only [Array.getD_eq_getD_getElem?] at f23
          obtain ⟨i23, rfl⟩ := Int.eq_ofNat_of_zero_le b23
          refine wpOp_plain rfl rfl (fun K hK => ?_)
          go_simp
          exact hK _ _ ⟨_, q, rfl, by omega, hRd, Turns.refl _, ⟨i23, by omega, rfl⟩, nofun⟩
        · intro q a' w' hq hRd hLe hzl hfr hdep
          obtain ⟨i24, h24, e24⟩ : (kVal g (w.heap.size) (fun o => ∃ x0 x1 : Int, o = .cells #[.int .i64 x0, .int .i64 x1] 25 (0, 0)) (fun v => ∃ i : Nat, i < nn ∧ v = .pointer (some ⟨g', i * 3, none⟩))).p (a'.tmps.getD 24 undef) w' := hdep 6 _ 24 rfl rfl rfl
          have f24 := e24; simp only [Array.getD_eq_getD_getElem?] at f24
          refine wpOp_plain rfl rfl (fun K hK => ?_)
          go_simp
          exact hK _ _ ⟨_, q, rfl, by omega, hRd, Turns.refl _, ⟨i24, h24, rfl⟩, nofun⟩
        · intro q a' w' hq hRd hLe hzl hfr hdep
          obtain ⟨i25, h25, e25⟩ : (kVal g (w.heap.size) (fun o => ∃ x0 x1 : Int, o = .cells #[.int .i64 x0, .int .i64 x1] 25 (0, 0)) (fun v => ∃ i : Nat, i < nn ∧ v = .pointer (some ⟨g', i * 3, none⟩))).p (a'.tmps.getD 25 undef) w' := hdep 7 _ 25 rfl rfl rfl
          have f25 := e25; simp only [Array.getD_eq_getD_getElem?] at f25
          have kx := fun i => World.cell?_of_block (w := _) (w' := w') (a := ⟨g', i, none⟩) ((hLe.block _ hbl hne).resolve_right fun e => hlz e.1)
          have qx0 := (kx _).trans (hc i25 h25 0 _ rfl); simp only [Nat.zero_add, Nat.add_zero, List.length, Nat.reduceAdd] at qx0
          have qx1 := (kx _).trans (hc i25 h25 1 _ rfl); simp only [Nat.zero_add, Nat.add_zero, List.length, Nat.reduceAdd] at qx1
          clear kx
          refine wpOp_plain rfl rfl (fun K hK => ?_)
          go_simp
          exact hK _ _ ⟨_, q, rfl, by omega, hRd, Turns.refl _, ⟨i25, h25, rfl⟩, nofun⟩
        · intro q a' w' hq hRd hLe hzl hfr hdep
          have e18 : a'.tmps.getD 18 undef = .slice (some ⟨g', 0, none⟩) nn c' := hdep 0 _ 18 rfl rfl rfl
          have f18 := e18; simp only [Array.getD_eq_getD_getElem?] at f18
          refine wpOp_plain rfl rfl (fun K hK => ?_)
          go_simp
          exact hK _ _ ⟨_, q, rfl, by omega, hRd, Turns.refl _, rfl, nofun⟩
        · intro q a' w' hq hRd hLe hzl hfr hdep
          have e3 : a'.tmps.getD 3 undef = .pointer (some ⟨w.heap.size, 0, none⟩) := hfr 3 rfl
          have f3 := e3; simp only [Array.getD_eq_getD_getElem?] at f3
          obtain ⟨i26, h26, e26⟩ : (kVal g (w.heap.size) (fun o => ∃ x0 x1 : Int, o = .cells #[.int .i64 x0, .int .i64 x1] 25 (0, 0)) (fun v => ∃ i : Nat, i < nn ∧ v = .agg #[.int .i64 (b i), .int .i64 (k i)])).p (a'.tmps.getD 26 undef) w' := hdep 8 _ 26 rfl rfl rfl
          have f26 := e26; simp only [Array.getD_eq_getD_getElem?] at f26
          refine wpOp_plain rfl rfl (fun K hK => ?_)
          refine wp_store_z (cells := #[.int .i64 (b i26), .int .i64 (k i26)]) 25 (.tmp 3) (.tmp 26) rfl hLe hz3 hzg (fun o ⟨_, _, ho⟩ => ⟨_, ho, rfl⟩) e3 e26 (by kernel_rfl) rfl rfl ?_
          intro w2 hh2 hg2
          exact hK _ _ ⟨_, q, rfl, by omega, hRd.far hg2 hzg (by omega), Turns.set_z hh2 ⟨_, _, rfl⟩ hg2, ⟨rfl, _, ⟨_, _, rfl⟩, hh2⟩, fun _ => rfl⟩
      intro vs w4 q4 hq4 hr4 hg4 hT4 hN4
      obtain ⟨_, oz4, ho4, hz4⟩ := hN4 10 rfl
      have e2 : vs 9 = .slice (some ⟨g', 0, none⟩) nn c' := hT4 9 2 rfl
      clear hT4 hN4
      simp only [putAll, List.drop_succ_cons, List.drop_zero, e2]
      clear e2
      go_simp
      obtain ⟨x0, x1, rfl⟩ := ho4
      have hB4 : Below w.heap.size w w4 := hB3.trans (hg4.below hB3.size (by omega) (Nat.le_refl _))
      obtain ⟨cs, hcs, hN2⟩ := hN
      have hN4 : New w4 g' 45 3 nn c' (routeR b k hh) := ⟨cs, hg4.keep hcs hne hlz, hN2⟩
      obtain ⟨k8, f8⟩ := blk hz4
      go_wp2_with fail
      refine bodyPost_ret (v := .tuple #[.slice (some ⟨g', 0, none⟩) nn c', .agg #[.int .i64 x0, .int .i64 x1]]) (by simp [results, Try.results34, go_sem, k8]) rfl ⟨_, nn, c', b, k, hh, x0, x1, rfl, by omega, Own.of_new hN4 hO3.1 (by omega), hB4⟩
    · have hk3 : (k0 == 0) = false := by simpa using hk0
      go_wp2_with fail
      refine (l20Prefix_any hr3 _ (by omega) (by omega)).mono ?_
      rintro e w5 ⟨v, q5, rfl, ⟨x, y, rfl, hxy⟩, hq5, hr5, hg5⟩
      have hz5 := heap_far hz3 hg5 (by omega)
      have hO5 := hO3.far4 hg5 hg1
      have hB5 : Below w.heap.size w w5 := hB3.trans (below_grown hg5 hB3.size (by omega))
      clear hxy hg5
      go_wp2_with (refine wpList_store_var rfl 25 (.tmp 3) (.tmp 29) rfl #[.int .i64 x, .int .i64 y] hz5 rfl rfl (by kernel_rfl) rfl rfl ?_; intro w9 hh9 hg9 hs9; obtain ⟨k9, f9⟩ := blk hh9)
      have hO9 := hO5.keep (w' := w9) fun k hk hlt _ => hg9.block k hlt (by simp; omega)
      refine bodyPost_ret (v := .tuple #[.slice A' nn c', .agg #[.int .i64 x, .int .i64 y]]) (by simp [results, Try.results34, go_sem, k9]) rfl ⟨A', nn, c', b, k, hh, x, y, rfl, by omega, hO9.more (by omega), hB5.trans (below_grown hg9 hB5.size (Nat.le_refl _))⟩
end Go.Proofs.Ytjjbfjjmpapajaa
