/-
  What the drawing of routes and an address hands over.
-/
import Derived.Test.YtjjbfjjmpapajaaRtE
import Derived.Test.YtjjbfjjmpapajaaRf
namespace Go.Proofs.Ytjjbfjjmpapajaa
open Go.RowKit Go.Joins

/-- A list of at most N rows of plain cells, and a number. -/
def ListInt (w : World) (N : Nat) (t : TypeId) (ks : List Bool) (e : Ending) (w' : World) : Prop :=
  ∃ A n c R, ∃ x : Int, e = .returned (.tuple #[.slice A n c, .int .i64 x]) ∧ n ≤ N ∧ (∀ i, Plain ks (R i)) ∧ Own w' w.heap.size t ks.length A n c R ∧ Below w.heap.size w w'
theorem Own.far {w w' : World} {B g : Nat} {t : TypeId} {m : Nat} {A : Option Addr} {n c : Nat} {R : Nat → List Value} (h : Own w B t m A n c R) (hg : w.grownBy w' (some g)) (hl : g < B) : Own w' B t m A n c R :=
  h.keep fun k hk hlt _ => hg.block k hlt (by simp; omega)

set_option maxHeartbeats 8000000 in
theorem drawRouteFor_any {w : World} {A : Option Addr} {n c : Nat} (h : Bytes w w.heap.size A n c) :
    Calls Try.prog 29 #[.slice A n c] w (ListInt w 7 45 [true, true, true]) := by
  go_enter Try.func29, Try.ntmps29
  go_wp2_with fail
  refine (open_any h (Nat.le_refl _)).mono ?_
  rintro e w1 ⟨m, g, rfl, hgl, hr1, hb1, hs1⟩
  have hs2 := hb1.size
  clear hs1
  go_wp2_with fail
  refine (l20Routes_any hr1 _ (by omega) (by omega)).mono ?_
  rintro e w2 ⟨v, nn, q, rfl, hn, ⟨A', c', R, rfl, hR, hO⟩, hq, hr2, hg2⟩
  have hB2 : Below w.heap.size w w2 := hb1.trans (below_grown hg2 hs2 hgl)
  have hg1 : g < w1.heap.size := hr1.lt
  obtain ⟨b, k, hh, rfl⟩ := routeR_of hR
  have HR := Lib.hid hR
  clear hg2 hR
  obtain ⟨B, hBe⟩ : ∃ B, B = w.heap.size := ⟨_, rfl⟩
  rw [← hBe] at hr2
  rcases Nat.eq_zero_or_pos nn with rfl | hpos
  · go_wp2_with fail
    refine (pick_any hr2 _ (by omega)).mono ?_
    rintro e w4 ⟨x1, rfl, hx1, hr4, hg4, hs4⟩
    go_wp2_with fail
    refine (pick_any hr4 _ (by omega)).mono ?_
    rintro e w5 ⟨x2, rfl, hx2, hr5, hg5, hs5⟩
    go_wp2
    go_ret2
    have hBa := hB2.trans (below_grown hg4 hB2.size hgl)
    exact ⟨A', 0, c', routeR b k hh, _, rfl, by omega, HR.out, ((hO.far hg4 hg1).far hg5 hg1).more hs2, hBa.trans (below_grown hg5 hBa.size hgl)⟩
  · have hpz : decide ((0 : Int) < (nn : Int)) = true := by simp; omega
    go_wp2_with fail
    refine (pick_any hr2 _ (by omega)).mono ?_
    rintro e w3 ⟨k0, rfl, hk, hr3, hg3, hs3⟩
    clear hk
    have hO3 := hO.far hg3 hg1
    have hB3 := hB2.trans (below_grown hg3 hB2.size hgl)
    clear hg3 hs3 hO
    by_cases hk0 : k0 = 0
    · subst hk0
      obtain ⟨g', rfl, hBg', hN⟩ := hO3.at_ hpos
      have hrw := (hO3.rows.2 hpos)
      obtain ⟨bl, off, he, hbl, hc⟩ := hrw
      cases he
      have hne : g' ≠ g := by omega
      go_upto_region 4 with (fail)
      refine wp_region_draws (ds := [(0, 18), (1, 19), (2, 20), (3, 21), (4, 22), (5, 23), (6, 24), (7, 25), (8, 26), (9, 27), (10, 28), (11, 29), (12, 30), (13, 2), (14, 3)]) (B := B) (g := g) (z := g) (O := fun _ => False) (A := A) (m := m) (c := c) (p := _) 15 1 [kIs g g (fun _ => False) (.slice (some ⟨g', 0, none⟩) nn c'), kIs g g (fun _ => False) (.slice (some ⟨g', 0, none⟩) nn c'), kIs g g (fun _ => False) (.pointer (some ⟨g, 0, none⟩)), kIs g g (fun _ => False) (.slice (some ⟨g', 0, none⟩) nn c'), kIs g g (fun _ => False) (.int .i64 (nn : Nat)), kVal g g (fun _ => False) (fun v => ∃ k : Int, v = .int .i64 k ∧ 0 ≤ k ∧ k < (nn : Int)), kVal g g (fun _ => False) (fun v => ∃ i : Nat, i < nn ∧ v = .pointer (some ⟨g', i * 3, none⟩)), kVal g g (fun _ => False) (fun v => ∃ i : Nat, i < nn ∧ v = .pointer (some ⟨g', i * 3, none⟩)), kVal g g (fun _ => False) (fun v => ∃ i : Nat, i < nn ∧ v = .pointer (some ⟨g', i * 3, none⟩)), kVal g g (fun _ => False) (fun v => ∃ k : Int, v = .int .i64 k), kIs g g (fun _ => False) (.pointer (some ⟨g, 0, none⟩)), kInt g g (fun _ => False) 0 2, kVal g g (fun _ => False) (fun v => ∃ k : Int, v = .int .i64 k), kIs g g (fun _ => False) (.slice (some ⟨g', 0, none⟩) nn c'), kVal g g (fun _ => False) (fun v => ∃ k : Int, v = .int .i64 k)] (by kernel_rfl) (by kernel_rfl) (by first | exact .inl rfl | exact .inr (by kernel_rfl)) hr3 (Rd.lt hr3) (by rfl) ?_ rfl rfl ?_
      · refine each_cons ?_ ( each_cons ?_ ( each_cons ?_ ( each_cons ?_ ( each_cons ?_ ( each_cons ?_ ( each_cons ?_ ( each_cons ?_ ( each_cons ?_ ( each_cons ?_ ( each_cons ?_ ( each_cons ?_ ( each_cons ?_ ( each_cons ?_ ( each_cons ?_ ( each_nil)))))))))))))))
        · intro q a' w' hq hRd hLe hzl hfr hdep
          have e5 : a'.tmps.getD 5 undef = .slice (some ⟨g', 0, none⟩) nn c' := hfr 5 rfl
          have f5 := e5; simp only [Array.getD_eq_getD_getElem?] at f5
          refine wpOp_plain rfl rfl (fun K hK => ?_)
          go_simp
          exact hK _ _ ⟨_, q, rfl, by omega, hRd, Turns.refl _, rfl, nofun⟩
        · intro q a' w' hq hRd hLe hzl hfr hdep
          have e5 : a'.tmps.getD 5 undef = .slice (some ⟨g', 0, none⟩) nn c' := hfr 5 rfl
          have f5 := e5; simp only [Array.getD_eq_getD_getElem?] at f5
          refine wpOp_plain rfl rfl (fun K hK => ?_)
          go_simp
          exact hK _ _ ⟨_, q, rfl, by omega, hRd, Turns.refl _, rfl, nofun⟩
        · intro q a' w' hq hRd hLe hzl hfr hdep
          have e4 : a'.tmps.getD 4 undef = .pointer (some ⟨g, 0, none⟩) := hfr 4 rfl
          have f4 := e4; simp only [Array.getD_eq_getD_getElem?] at f4
          refine wpOp_plain rfl rfl (fun K hK => ?_)
          go_simp
          exact hK _ _ ⟨_, q, rfl, by omega, hRd, Turns.refl _, rfl, nofun⟩
        · intro q a' w' hq hRd hLe hzl hfr hdep
          have e5 : a'.tmps.getD 5 undef = .slice (some ⟨g', 0, none⟩) nn c' := hfr 5 rfl
          have f5 := e5; simp only [Array.getD_eq_getD_getElem?] at f5
          refine wpOp_plain rfl rfl (fun K hK => ?_)
          go_simp
          exact hK _ _ ⟨_, q, rfl, by omega, hRd, Turns.refl _, rfl, nofun⟩
        · intro q a' w' hq hRd hLe hzl hfr hdep
          have e21 : a'.tmps.getD 21 undef = .slice (some ⟨g', 0, none⟩) nn c' := hdep 3 _ 21 rfl rfl rfl
          have f21 := e21; simp only [Array.getD_eq_getD_getElem?] at f21
          refine wpOp_plain rfl rfl (fun K hK => ?_)
          go_simp
          exact hK _ _ ⟨_, q, rfl, by omega, hRd, Turns.refl _, rfl, nofun⟩
        · intro q a' w' hq hRd hLe hzl hfr hdep
          have e20 : a'.tmps.getD 20 undef = .pointer (some ⟨g, 0, none⟩) := hdep 2 _ 20 rfl rfl rfl
          have f20 := e20; simp only [Array.getD_eq_getD_getElem?] at f20
          have e22 : a'.tmps.getD 22 undef = .int .i64 (nn : Nat) := hdep 4 _ 22 rfl rfl rfl
          have f22 := e22; simp only [Array.getD_eq_getD_getElem?] at f22
          refine wpOp_plain rfl rfl (fun K hK => ?_)
          go_simp
          refine (pick_any hRd _ (by omega)).mono ?_
          rintro e w2 ⟨k, rfl, hk, hr, hg, hs⟩
          have hk1 := hk.1; have hk2 := hk.2.1; have hk3 := hk.2.2
          exact hK _ _ ⟨_, _, rfl, by omega, hr, Turns.of_grown hg, ⟨k, rfl, by omega, by omega⟩, nofun⟩
        · intro q a' w' hq hRd hLe hzl hfr hdep
          have e19 : a'.tmps.getD 19 undef = .slice (some ⟨g', 0, none⟩) nn c' := hdep 1 _ 19 rfl rfl rfl
          have f19 := e19; simp only [Array.getD_eq_getD_getElem?] at f19
          obtain ⟨x23, e23, b23, c23⟩ : (kVal g g (fun _ => False) (fun v => ∃ k : Int, v = .int .i64 k ∧ 0 ≤ k ∧ k < (nn : Int))).p (a'.tmps.getD 23 undef) w' := hdep 5 _ 23 rfl rfl rfl
          have f23 := e23; simp only [Array.getD_eq_getD_getElem?] at f23
          obtain ⟨i23, rfl⟩ := Int.eq_ofNat_of_zero_le b23
          refine wpOp_plain rfl rfl (fun K hK => ?_)
          go_simp
          exact hK _ _ ⟨_, q, rfl, by omega, hRd, Turns.refl _, ⟨i23, by omega, rfl⟩, nofun⟩
        · intro q a' w' hq hRd hLe hzl hfr hdep
          obtain ⟨i24, h24, e24⟩ : (kVal g g (fun _ => False) (fun v => ∃ i : Nat, i < nn ∧ v = .pointer (some ⟨g', i * 3, none⟩))).p (a'.tmps.getD 24 undef) w' := hdep 6 _ 24 rfl rfl rfl
          have f24 := e24; simp only [Array.getD_eq_getD_getElem?] at f24
          refine wpOp_plain rfl rfl (fun K hK => ?_)
          go_simp
          exact hK _ _ ⟨_, q, rfl, by omega, hRd, Turns.refl _, ⟨i24, h24, rfl⟩, nofun⟩
        · intro q a' w' hq hRd hLe hzl hfr hdep
          obtain ⟨i25, h25, e25⟩ : (kVal g g (fun _ => False) (fun v => ∃ i : Nat, i < nn ∧ v = .pointer (some ⟨g', i * 3, none⟩))).p (a'.tmps.getD 25 undef) w' := hdep 7 _ 25 rfl rfl rfl
          have f25 := e25; simp only [Array.getD_eq_getD_getElem?] at f25
          refine wpOp_plain rfl rfl (fun K hK => ?_)
          go_simp
          exact hK _ _ ⟨_, q, rfl, by omega, hRd, Turns.refl _, ⟨i25, h25, rfl⟩, nofun⟩
        · intro q a' w' hq hRd hLe hzl hfr hdep
          obtain ⟨i26, h26, e26⟩ : (kVal g g (fun _ => False) (fun v => ∃ i : Nat, i < nn ∧ v = .pointer (some ⟨g', i * 3, none⟩))).p (a'.tmps.getD 26 undef) w' := hdep 8 _ 26 rfl rfl rfl
          have f26 := e26; simp only [Array.getD_eq_getD_getElem?] at f26
          have kx := fun i => World.cell?_of_block (w := _) (w' := w') (a := ⟨g', i, none⟩) ((hLe.block _ hbl hne).resolve_right fun e => hne e.1)
          have qx0 := (kx _).trans (hc i26 h26 0 _ rfl); simp only [Nat.zero_add, Nat.add_zero, List.length, Nat.reduceAdd] at qx0
          clear kx
          refine wpOp_plain rfl rfl (fun K hK => ?_)
          go_simp
          exact hK _ _ ⟨_, q, rfl, by omega, hRd, Turns.refl _, ⟨_, rfl⟩, nofun⟩
        · intro q a' w' hq hRd hLe hzl hfr hdep
          have e4 : a'.tmps.getD 4 undef = .pointer (some ⟨g, 0, none⟩) := hfr 4 rfl
          have f4 := e4; simp only [Array.getD_eq_getD_getElem?] at f4
          refine wpOp_plain rfl rfl (fun K hK => ?_)
          go_simp
          exact hK _ _ ⟨_, q, rfl, by omega, hRd, Turns.refl _, rfl, nofun⟩
        · intro q a' w' hq hRd hLe hzl hfr hdep
          have e28 : a'.tmps.getD 28 undef = .pointer (some ⟨g, 0, none⟩) := hdep 10 _ 28 rfl rfl rfl
          have f28 := e28; simp only [Array.getD_eq_getD_getElem?] at f28
          refine wpOp_plain rfl rfl (fun K hK => ?_)
          go_simp
          refine (pick_any hRd _ (by omega)).mono ?_
          rintro e w2 ⟨k, rfl, hk, hr, hg, hs⟩
          have hk1 := hk.1; have hk2 := hk.2.1; have hk3 := hk.2.2
          exact hK _ _ ⟨_, _, rfl, by omega, hr, Turns.of_grown hg, ⟨k, rfl, by omega, by omega⟩, nofun⟩
        · intro q a' w' hq hRd hLe hzl hfr hdep
          obtain ⟨x27, e27⟩ : (kVal g g (fun _ => False) (fun v => ∃ k : Int, v = .int .i64 k)).p (a'.tmps.getD 27 undef) w' := hdep 9 _ 27 rfl rfl rfl
          have f27 := e27; simp only [Array.getD_eq_getD_getElem?] at f27
          obtain ⟨x29, e29, b29, c29⟩ : (kInt g g (fun _ => False) 0 2).p (a'.tmps.getD 29 undef) w' := hdep 11 _ 29 rfl rfl rfl
          have f29 := e29; simp only [Array.getD_eq_getD_getElem?] at f29
          refine wpOp_plain rfl rfl (fun K hK => ?_)
          go_simp
          exact hK _ _ ⟨_, q, rfl, by omega, hRd, Turns.refl _, ⟨_, rfl⟩, nofun⟩
        · intro q a' w' hq hRd hLe hzl hfr hdep
          have e18 : a'.tmps.getD 18 undef = .slice (some ⟨g', 0, none⟩) nn c' := hdep 0 _ 18 rfl rfl rfl
          have f18 := e18; simp only [Array.getD_eq_getD_getElem?] at f18
          refine wpOp_plain rfl rfl (fun K hK => ?_)
          go_simp
          exact hK _ _ ⟨_, q, rfl, by omega, hRd, Turns.refl _, rfl, nofun⟩
        · intro q a' w' hq hRd hLe hzl hfr hdep
          obtain ⟨x30, e30⟩ : (kVal g g (fun _ => False) (fun v => ∃ k : Int, v = .int .i64 k)).p (a'.tmps.getD 30 undef) w' := hdep 12 _ 30 rfl rfl rfl
          have f30 := e30; simp only [Array.getD_eq_getD_getElem?] at f30
          refine wpOp_plain rfl rfl (fun K hK => ?_)
          go_simp
          exact hK _ _ ⟨_, q, rfl, by omega, hRd, Turns.refl _, ⟨_, rfl⟩, nofun⟩
      intro vs w4 q4 hq4 hr4 hg4 hT4 hN4
      replace hg4 := hg4.grown
      have e2 : vs 13 = .slice (some ⟨g', 0, none⟩) nn c' := hT4 13 2 rfl
      obtain ⟨x3, e3⟩ : (kVal g g (fun _ => False) (fun v => ∃ k : Int, v = .int .i64 k)).p (vs 14) w4 := hT4 14 3 rfl
      clear hT4 hN4
      simp only [putAll, List.drop_succ_cons, List.drop_zero, e2, e3]
      clear e2 e3
      go_simp
      go_wp2
      go_ret2
      exact ⟨_, nn, c', routeR b k hh, x3, rfl, by omega, HR.out, (hO3.far hg4 hg1).more hs2, hB3.trans (below_grown hg4 hB3.size hgl)⟩
    · have hk3 : (k0 == 0) = false := by simpa using hk0
      go_wp2_with fail
      refine (pick_any hr3 _ (by omega)).mono ?_
      rintro e w4 ⟨x1, rfl, hx1, hr4, hg4, hs4⟩
      go_wp2_with fail
      refine (pick_any hr4 _ (by omega)).mono ?_
      rintro e w5 ⟨x2, rfl, hx2, hr5, hg5, hs5⟩
      go_wp2
      go_ret2
      have hBa := hB3.trans (below_grown hg4 hB3.size hgl)
      exact ⟨A', nn, c', routeR b k hh, _, rfl, by omega, HR.out, ((hO3.far hg4 hg1).far hg5 hg1).more hs2, hBa.trans (below_grown hg5 hBa.size hgl)⟩
end Go.Proofs.Ytjjbfjjmpapajaa
