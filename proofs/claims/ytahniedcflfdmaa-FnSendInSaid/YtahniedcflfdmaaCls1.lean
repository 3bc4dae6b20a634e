/-
  What DrawSendOut and DrawCloseOut draw: an outlet and a flow.
-/
import Derived.Test.YtahniedcflfdmaaOuv
namespace Go.Proofs.Ytahniedcflfdmaa
open Go Go.RowKit

/-- A drawn outlet and a drawn flow. -/
def OutFlow (w : World) (e : Ending) (w' : World) : Prop :=
  ∃ x0 x1 : Int, ∃ b n c, ∃ f0 f1 f2 f3 f4 : Nat → Int, ∃ y0 y1 y2 y3 y4 : Int, e = .returned (.tuple #[.agg #[.int .i64 x0, .int .i64 x1, .slice (some ⟨b, 0, none⟩) n c], .agg #[.int .i64 y0, .int .i64 y1, .int .i64 y2, .int .i64 y3, .int .i64 y4]]) ∧ 1 ≤ n ∧ n ≤ 9 ∧ w.heap.size ≤ b ∧ Rws w' w'.heap.size 5 (some ⟨b, 0, none⟩) n c (flowR f0 f1 f2 f3 f4) ∧ Below w.heap.size w w'
theorem rws_far {w w' : World} {b n c k : Nat} {R : Nat → List Value} (h : Rws w w.heap.size 5 (some ⟨b, 0, none⟩) n c R) (hg : w.grownBy w' (some k)) (hne : b ≠ k) : Rws w' w'.heap.size 5 (some ⟨b, 0, none⟩) n c R :=
  ⟨h.1, fun h0 => by
    obtain ⟨b2, o2, e2, h2, h3⟩ := h.2 h0
    cases e2
    exact ⟨b, 0, rfl, Nat.lt_of_lt_of_le h2 hg.size, fun i hi j v hv => (World.cell?_of_block (w := _) (w' := w') (a := ⟨b, _, none⟩) (hg.block b h2 (by simpa using hne))).trans (h3 i hi j v hv)⟩⟩
set_option maxRecDepth 20000 in
set_option maxHeartbeats 8000000 in
theorem drawSendOut_any {w : World} {A : Option Addr} {n c : Nat} (h : Bytes w w.heap.size A n c) :
    Calls Try.prog 36 #[.slice A n c] w (OutFlow w) := by
  go_enter Try.func36, Try.ntmps36
  go_wp2_with fail
  refine (open_any ((h.alloc (Nat.le_refl _) (.cells #[.int .i64 0, .int .i64 0, .slice none 0 0] 29)).alloc (by simp) (.cells #[.int .i64 0, .int .i64 0, .int .i64 0, .int .i64 0, .int .i64 0] 39)) (by simp <;> omega)).mono ?_
  rintro e w1 ⟨m, g, rfl, hgl, hr1, hb1, hs1⟩
  have hz1 := (hb1.block w.heap.size (by simp; omega)).trans ((heap_alloc_old _ _ (by simp)).trans (heap_alloc_new w (.cells #[.int .i64 0, .int .i64 0, .slice none 0 0] 29)))
  have hy1 := (hb1.block (w.heap.size + 1) (by simp)).trans (heap_new1 w (.cells #[.int .i64 0, .int .i64 0, .slice none 0 0] 29) (.cells #[.int .i64 0, .int .i64 0, .int .i64 0, .int .i64 0, .int .i64 0] 39))
  have hB1 : Below w.heap.size w w1 := Below.tr (show Below w.heap.size w _ by (repeat (first | exact Below.refl _ _ | assumption | refine Below.al ?_ _ | refine Below.dr ?_ | (refine Below.st ?_ (by simp <;> omega) _) | (refine Below.tr ?_ (by assumption))))) hb1
  have hs2 := hB1.size
  simp at hgl
  have hyl := heap_lt hy1
  clear hs1 hb1
  go_wp2_with fail
  refine (l20Outlet_any hr1 _ (by omega) (by omega)).mono ?_
  rintro e w2 ⟨x0, x1, A1, n1, c1, q, rfl, hn1, hn2, hP2, hq, hr2, hg2⟩
  have hgw1 := hr1.lt
  have hz2 := heap_far hz1 hg2 (by omega)
  have hy2 := heap_far hy1 hg2 (by omega)
  have hB2 : Below w.heap.size w w2 := hB1.trans (below_grown hg2 hs2 (by omega))
  have hs3 := hg2.size
  clear hz1 hy1 hg2
  go_wp2_with (refine wpList_store_var rfl 29 (.tmp 5) (.tmp 9) rfl #[.int .i64 x0, .int .i64 x1, .slice A1 n1 c1] (heap_alloc_new w2 _) rfl rfl (by kernel_rfl) rfl rfl ?_; intro w3 hx3 hg3 hs4)
  have hs5 := hg3.size
  simp at hs5
  have hz3 := heap_far ((heap_alloc_old w2 (.cells #[.int .i64 0, .int .i64 0, .slice none 0 0] 29) (by omega)).trans hz2) hg3 (by omega)
  have hy3 := heap_far ((heap_alloc_old w2 (.cells #[.int .i64 0, .int .i64 0, .slice none 0 0] 29) (by omega)).trans hy2) hg3 (by omega)
  have hr3 := (hr2.alloc (.cells #[.int .i64 0, .int .i64 0, .slice none 0 0] 29)).far hg3 (show w2.heap.size ≠ g by omega) (by omega)
  have hB3 : Below w.heap.size w w3 := Below.of_grown (Below.tr hB2 (show Below w2.heap.size w2 (w2.alloc (.cells #[.int .i64 0, .int .i64 0, .slice none 0 0] 29)) by (repeat (first | exact Below.refl _ _ | assumption | refine Below.al ?_ _ | refine Below.dr ?_ | (refine Below.st ?_ (by simp <;> omega) _) | (refine Below.tr ?_ (by assumption)))))) hg3 (by omega)
  have hP3 := (hP2.next (show Below w2.heap.size w2 (w2.alloc (.cells #[.int .i64 0, .int .i64 0, .slice none 0 0] 29)) by (repeat (first | exact Below.refl _ _ | assumption | refine Below.al ?_ _ | refine Below.dr ?_ | (refine Below.st ?_ (by simp <;> omega) _) | (refine Below.tr ?_ (by assumption)))))).kept hg3 (.inr fun e => absurd (hP2.block _ e).2 (Nat.lt_irrefl _))
  clear hz2 hy2 hr2 hB2 hP2 hg3
  go_wp2_with fail
  refine (pick_any hr3 _ (by omega)).mono ?_
  rintro e w4 ⟨k0, rfl, hk, hr4, hg4, hs6⟩
  have hgw3 := hr3.lt
  have hz4 := heap_far hz3 hg4 (by omega)
  have hy4 := heap_far hy3 hg4 (by omega)
  have hx4 := heap_far hx3 hg4 (by omega)
  have hB4 := hB3.trans (below_grown hg4 hB3.size (by omega))
  have hP4 := hP3.far hg4 (by omega)
  have hs7 := hg4.size
  obtain ⟨B, hBe⟩ : ∃ B, B = w.heap.size := ⟨_, rfl⟩
  rw [← hBe] at hr4
  clear hk hz3 hy3 hx3 hr3 hB3 hP3 hg4 hs6
  have hx5 : w2.heap.size ≠ g ∧ w2.heap.size ≠ w.heap.size := ⟨by omega, by omega⟩
  have hzg : w.heap.size ≠ g := by omega
  obtain ⟨f0, f1, f2, f3, f4, hR4⟩ := pacc_flows hP4
  obtain ⟨b, cb, eb, hBb, hbl4⟩ := hP4.at_ (by omega)
  cases eb
  obtain ⟨bl, off, he, hbl, hc⟩ := hR4.2 (by omega)
  cases he
  have hbg : b ≠ g := by omega
  have hlz : b ≠ w.heap.size := by omega
  by_cases hk0 : k0 = 0
  · subst hk0
    go_upto_region 4 with (fail)
    refine wp_region_draws (ds := [(0, 13), (1, 14), (2, 15), (3, 16), (4, 17), (5, 18), (6, 19), (7, 20), (8, 21), (9, 22)]) (B := B) (g := g) (z := w.heap.size) (O := fun o => o = .cells #[.int .i64 x0, .int .i64 x1, .slice (some ⟨b, 0, none⟩) n1 c1] 29 (0, 0)) (A := A) (m := m) (c := c) (p := _) 11 1 [kIs g (w.heap.size) (fun o => o = .cells #[.int .i64 x0, .int .i64 x1, .slice (some ⟨b, 0, none⟩) n1 c1] 29 (0, 0)) (.agg #[.int .i64 x0, .int .i64 x1, .slice (some ⟨b, 0, none⟩) n1 c1]), kIs g (w.heap.size) (fun o => o = .cells #[.int .i64 x0, .int .i64 x1, .slice (some ⟨b, 0, none⟩) n1 c1] 29 (0, 0)) (.pointer (some ⟨w2.heap.size, 2, none⟩)), kIs g (w.heap.size) (fun o => o = .cells #[.int .i64 x0, .int .i64 x1, .slice (some ⟨b, 0, none⟩) n1 c1] 29 (0, 0)) (.slice (some ⟨b, 0, none⟩) n1 c1), kIs g (w.heap.size) (fun o => o = .cells #[.int .i64 x0, .int .i64 x1, .slice (some ⟨b, 0, none⟩) n1 c1] 29 (0, 0)) (.pointer (some ⟨g, 0, none⟩)), kIs g (w.heap.size) (fun o => o = .cells #[.int .i64 x0, .int .i64 x1, .slice (some ⟨b, 0, none⟩) n1 c1] 29 (0, 0)) (.pointer (some ⟨w2.heap.size, 2, none⟩)), kIs g (w.heap.size) (fun o => o = .cells #[.int .i64 x0, .int .i64 x1, .slice (some ⟨b, 0, none⟩) n1 c1] 29 (0, 0)) (.slice (some ⟨b, 0, none⟩) n1 c1), kIs g (w.heap.size) (fun o => o = .cells #[.int .i64 x0, .int .i64 x1, .slice (some ⟨b, 0, none⟩) n1 c1] 29 (0, 0)) (.int .i64 (n1 : Nat)), kVal g (w.heap.size) (fun o => o = .cells #[.int .i64 x0, .int .i64 x1, .slice (some ⟨b, 0, none⟩) n1 c1] 29 (0, 0)) (fun v => ∃ k : Int, v = .int .i64 k ∧ 0 ≤ k ∧ k < (n1 : Int)), kVal g (w.heap.size) (fun o => o = .cells #[.int .i64 x0, .int .i64 x1, .slice (some ⟨b, 0, none⟩) n1 c1] 29 (0, 0)) (fun v => ∃ i : Nat, i < n1 ∧ v = .pointer (some ⟨b, i * 5, none⟩)), kVal g (w.heap.size) (fun o => o = .cells #[.int .i64 x0, .int .i64 x1, .slice (some ⟨b, 0, none⟩) n1 c1] 29 (0, 0)) (fun v => ∃ i : Nat, i < n1 ∧ v = .agg #[.int .i64 (f0 i), .int .i64 (f1 i), .int .i64 (f2 i), .int .i64 (f3 i), .int .i64 (f4 i)]), kSet g (w.heap.size) (fun o => o = .cells #[.int .i64 x0, .int .i64 x1, .slice (some ⟨b, 0, none⟩) n1 c1] 29 (0, 0)) hzg] (by kernel_rfl) (by kernel_rfl) (by first | exact .inl rfl | exact .inr (by kernel_rfl)) hr4 (heap_lt hz4) (by rfl) ?_ rfl rfl ?_
    · refine each_cons ?_ ( each_cons ?_ ( each_cons ?_ ( each_cons ?_ ( each_cons ?_ ( each_cons ?_ ( each_cons ?_ ( each_cons ?_ ( each_cons ?_ ( each_cons ?_ ( each_cons ?_ ( each_nil)))))))))))
      · intro q a' w' hq hRd hLe hzl hfr hdep
        have e5 : a'.tmps.getD 5 undef = .pointer (some ⟨w2.heap.size, 0, none⟩) := hfr 5 rfl
        have f5 := e5; simp only [Array.getD_eq_getD_getElem?] at f5
        have hhx := hLe.keep hx4 hx5.1 hx5.2
        obtain ⟨kx, fx⟩ := blk hhx; clear hhx
        refine wpOp_plain rfl rfl (fun K hK => ?_)
        go_simp
        exact hK _ _ ⟨_, q, rfl, by omega, hRd, Turns.refl _, rfl, nofun⟩
      · intro q a' w' hq hRd hLe hzl hfr hdep
        have e5 : a'.tmps.getD 5 undef = .pointer (some ⟨w2.heap.size, 0, none⟩) := hfr 5 rfl
        have f5 := e5; simp only [Array.getD_eq_getD_getElem?] at f5
        refine wpOp_plain rfl rfl (fun K hK => ?_)
        go_simp
        exact hK _ _ ⟨_, q, rfl, by omega, hRd, Turns.refl _, rfl, nofun⟩
      · intro q a' w' hq hRd hLe hzl hfr hdep
        have e14 : a'.tmps.getD 14 undef = .pointer (some ⟨w2.heap.size, 2, none⟩) := hdep 1 _ 14 rfl rfl rfl
        have f14 := e14; simp only [Array.getD_eq_getD_getElem?] at f14
        have hhx := hLe.keep hx4 hx5.1 hx5.2
        obtain ⟨kx, fx⟩ := blk hhx; clear hhx
        refine wpOp_plain rfl rfl (fun K hK => ?_)
        go_simp
        exact hK _ _ ⟨_, q, rfl, by omega, hRd, Turns.refl _, rfl, nofun⟩
      · intro q a' w' hq hRd hLe hzl hfr hdep
        have e4 : a'.tmps.getD 4 undef = .pointer (some ⟨g, 0, none⟩) := hfr 4 rfl
        have f4 := e4; simp only [Array.getD_eq_getD_getElem?] at f4
        refine wpOp_plain rfl rfl (fun K hK => ?_)
        go_simp
        exact hK _ _ ⟨_, q, rfl, by omega, hRd, Turns.refl _, rfl, nofun⟩
      · intro q a' w' hq hRd hLe hzl hfr hdep
        have e5 : a'.tmps.getD 5 undef = .pointer (some ⟨w2.heap.size, 0, none⟩) := hfr 5 rfl
        have f5 := e5; simp only [Array.getD_eq_getD_getElem?] at f5
        refine wpOp_plain rfl rfl (fun K hK => ?_)
        go_simp
        exact hK _ _ ⟨_, q, rfl, by omega, hRd, Turns.refl _, rfl, nofun⟩
      · intro q a' w' hq hRd hLe hzl hfr hdep
        have e17 : a'.tmps.getD 17 undef = .pointer (some ⟨w2.heap.size, 2, none⟩) := hdep 4 _ 17 rfl rfl rfl
        have f17 := e17; simp only [Array.getD_eq_getD_getElem?] at f17
        have hhx := hLe.keep hx4 hx5.1 hx5.2
        obtain ⟨kx, fx⟩ := blk hhx; clear hhx
        refine wpOp_plain rfl rfl (fun K hK => ?_)
        go_simp
        exact hK _ _ ⟨_, q, rfl, by omega, hRd, Turns.refl _, rfl, nofun⟩
      · intro q a' w' hq hRd hLe hzl hfr hdep
        have e18 : a'.tmps.getD 18 undef = .slice (some ⟨b, 0, none⟩) n1 c1 := hdep 5 _ 18 rfl rfl rfl
        have f18 := e18; simp only [Array.getD_eq_getD_getElem?] at f18
        refine wpOp_plain rfl rfl (fun K hK => ?_)
        go_simp
        exact hK _ _ ⟨_, q, rfl, by omega, hRd, Turns.refl _, rfl, nofun⟩
      · intro q a' w' hq hRd hLe hzl hfr hdep
        have e16 : a'.tmps.getD 16 undef = .pointer (some ⟨g, 0, none⟩) := hdep 3 _ 16 rfl rfl rfl
        have f16 := e16; simp only [Array.getD_eq_getD_getElem?] at f16
        have e19 : a'.tmps.getD 19 undef = .int .i64 (n1 : Nat) := hdep 6 _ 19 rfl rfl rfl
        have f19 := e19; simp only [Array.getD_eq_getD_getElem?] at f19
        refine wpOp_plain rfl rfl (fun K hK => ?_)
        go_simp
        refine (pick_any hRd _ (by omega)).mono ?_
        rintro e w2 ⟨k, rfl, hk, hr, hg, hs⟩
        have hk1 := hk.1; have hk2 := hk.2.1; have hk3 := hk.2.2
        exact hK _ _ ⟨_, _, rfl, by omega, hr, Turns.of_grown hg, ⟨k, rfl, by omega, by omega⟩, nofun⟩
      · intro q a' w' hq hRd hLe hzl hfr hdep
        have e15 : a'.tmps.getD 15 undef = .slice (some ⟨b, 0, none⟩) n1 c1 := hdep 2 _ 15 rfl rfl rfl
        have f15 := e15; simp only [Array.getD_eq_getD_getElem?] at f15
        obtain ⟨x20, e20, b20, c20⟩ : (kVal g (w.heap.size) (fun o => o = .cells #[.int .i64 x0, .int .i64 x1, .slice (some ⟨b, 0, none⟩) n1 c1] 29 (0, 0)) (fun v => ∃ k : Int, v = .int .i64 k ∧ 0 ≤ k ∧ k < (n1 : Int))).p (a'.tmps.getD 20 undef) w' := hdep 7 _ 20 rfl rfl rfl
        have f20 := e20; simp only [Array.getD_eq_getD_getElem?] at f20
        obtain ⟨i20, rfl⟩ := Int.eq_ofNat_of_zero_le b20
        refine wpOp_plain rfl rfl (fun K hK => ?_)
        go_simp
        exact hK _ _ ⟨_, q, rfl, by omega, hRd, Turns.refl _, ⟨i20, by omega, rfl⟩, nofun⟩
      · intro q a' w' hq hRd hLe hzl hfr hdep
        obtain ⟨i21, h21, e21⟩ : (kVal g (w.heap.size) (fun o => o = .cells #[.int .i64 x0, .int .i64 x1, .slice (some ⟨b, 0, none⟩) n1 c1] 29 (0, 0)) (fun v => ∃ i : Nat, i < n1 ∧ v = .pointer (some ⟨b, i * 5, none⟩))).p (a'.tmps.getD 21 undef) w' := hdep 8 _ 21 rfl rfl rfl
        have f21 := e21; simp only [Array.getD_eq_getD_getElem?] at f21
        have kx := fun i => World.cell?_of_block (w := _) (w' := w') (a := ⟨b, i, none⟩) ((hLe.block _ hbl4 hbg).resolve_right fun e => hlz e.1)
        have qx0 := (kx _).trans (hc i21 h21 0 _ rfl); simp only [Nat.zero_add, Nat.add_zero, List.length, Nat.reduceAdd] at qx0
        have qx1 := (kx _).trans (hc i21 h21 1 _ rfl); simp only [Nat.zero_add, Nat.add_zero, List.length, Nat.reduceAdd] at qx1
        have qx2 := (kx _).trans (hc i21 h21 2 _ rfl); simp only [Nat.zero_add, Nat.add_zero, List.length, Nat.reduceAdd] at qx2
        have qx3 := (kx _).trans (hc i21 h21 3 _ rfl); simp only [Nat.zero_add, Nat.add_zero, List.length, Nat.reduceAdd] at qx3
        have qx4 := (kx _).trans (hc i21 h21 4 _ rfl); simp only [Nat.zero_add, Nat.add_zero, List.length, Nat.reduceAdd] at qx4
        clear kx
        refine wpOp_plain rfl rfl (fun K hK => ?_)
        go_simp
        exact hK _ _ ⟨_, q, rfl, by omega, hRd, Turns.refl _, ⟨i21, h21, rfl⟩, nofun⟩
      · intro q a' w' hq hRd hLe hzl hfr hdep
        have e2 : a'.tmps.getD 2 undef = .pointer (some ⟨w.heap.size, 0, none⟩) := hfr 2 rfl
        have f2 := e2; simp only [Array.getD_eq_getD_getElem?] at f2
        have e13 : a'.tmps.getD 13 undef = .agg #[.int .i64 x0, .int .i64 x1, .slice (some ⟨b, 0, none⟩) n1 c1] := hdep 0 _ 13 rfl rfl rfl
        have f13 := e13; simp only [Array.getD_eq_getD_getElem?] at f13
        refine wpOp_plain rfl rfl (fun K hK => ?_)
        refine wp_store_z (cells := #[.int .i64 x0, .int .i64 x1, .slice (some ⟨b, 0, none⟩) n1 c1]) 29 (.tmp 2) (.tmp 13) rfl hLe hz4 hzg (fun o ho => ⟨_, ho, rfl⟩) e2 e13 (by kernel_rfl) rfl rfl ?_
        intro w2 hh2 hg2
        exact hK _ _ ⟨_, q, rfl, by omega, hRd.far hg2 hzg (by omega), Turns.set_z hh2 rfl hg2, ⟨rfl, _, rfl, hh2⟩, fun _ => rfl⟩
    intro vs w5 q5 hq5 hr5 hg5 hT5 hN5
    obtain ⟨_, oz5, ho5, hz5⟩ := hN5 10 rfl
    obtain ⟨i22, h22, e22⟩ : (kVal g (w.heap.size) (fun o => o = .cells #[.int .i64 x0, .int .i64 x1, .slice (some ⟨b, 0, none⟩) n1 c1] 29 (0, 0)) (fun v => ∃ i : Nat, i < n1 ∧ v = .agg #[.int .i64 (f0 i), .int .i64 (f1 i), .int .i64 (f2 i), .int .i64 (f3 i), .int .i64 (f4 i)])).p (vs 9) w5 := hT5 9 22 rfl
    clear hT5 hN5
    simp only [putAll, List.drop_succ_cons, List.drop_zero, e22]
    clear e22
    go_simp
    cases ho5
    have hy5 := hg5.keep hy4 (show w.heap.size + 1 ≠ g by omega) (show w.heap.size + 1 ≠ w.heap.size by omega)
    have hB5 : Below w.heap.size w w5 := hB4.trans (hg5.below hB4.size (by omega) (Nat.le_refl _))
    have hs8 := hg5.size
    have hR5 : Rws w5 w5.heap.size 5 (some ⟨b, 0, none⟩) n1 c1 (flowR f0 f1 f2 f3 f4) := ⟨hR4.1, fun _ => ⟨b, 0, rfl, by omega, fun i hi j v hv => (World.cell?_of_block (w := _) (w' := w5) (a := ⟨b, _, none⟩) ((hg5.block _ hbl4 hbg).resolve_right fun e => hlz e.1)).trans (hc i hi j v hv)⟩⟩
    clear hy4 hB4 hR4 hc hg5 hr5 hP4
    refine wpList_store_var rfl 39 (.tmp 3) (.tmp 22) rfl #[.int .i64 (f0 i22), .int .i64 (f1 i22), .int .i64 (f2 i22), .int .i64 (f3 i22), .int .i64 (f4 i22)] hy5 rfl rfl (by kernel_rfl) rfl rfl ?_
    intro w6 hy6 hg6 hs9
    have hz6 := heap_far hz5 hg6 (by omega)
    have hR6 : Rws w6 w6.heap.size 5 (some ⟨b, 0, none⟩) n1 c1 (flowR f0 f1 f2 f3 f4) := ⟨hR5.1, fun h0 => by
      obtain ⟨b2, o2, e2, h2, h3⟩ := hR5.2 h0
      cases e2
      exact ⟨b, 0, rfl, by omega, fun i hi j v hv => (World.cell?_of_block (w := _) (w' := w6) (a := ⟨b, _, none⟩) (hg6.block b (by omega) (by simp; omega))).trans (h3 i hi j v hv)⟩⟩
    obtain ⟨k8, f8⟩ := blk hz6
    obtain ⟨k9, f9⟩ := blk hy6
    go_wp2_with fail
    refine bodyPost_ret (v := .tuple #[.agg #[.int .i64 x0, .int .i64 x1, .slice (some ⟨b, 0, none⟩) n1 c1], .agg #[.int .i64 (f0 i22), .int .i64 (f1 i22), .int .i64 (f2 i22), .int .i64 (f3 i22), .int .i64 (f4 i22)]]) (by simp [results, Try.results36, go_sem, k8, k9]) rfl ⟨x0, x1, _, n1, c1, f0, f1, f2, f3, f4, _, _, _, _, _, rfl, hn1, hn2, by omega, hR6, Below.of_grown hB5 hg6 (by omega)⟩
  · have hk3 : (k0 == 0) = false := by simpa using hk0
    go_upto_region 5 with (fail)
    refine wp_region_draws (ds := [(0, 23), (1, 24), (2, 25)]) (B := B) (g := g) (z := w.heap.size) (O := fun o => o = .cells #[.int .i64 x0, .int .i64 x1, .slice (some ⟨b, 0, none⟩) n1 c1] 29 (0, 0)) (A := A) (m := m) (c := c) (p := _) 4 101 [kIs g (w.heap.size) (fun o => o = .cells #[.int .i64 x0, .int .i64 x1, .slice (some ⟨b, 0, none⟩) n1 c1] 29 (0, 0)) (.agg #[.int .i64 x0, .int .i64 x1, .slice (some ⟨b, 0, none⟩) n1 c1]), kIs g (w.heap.size) (fun o => o = .cells #[.int .i64 x0, .int .i64 x1, .slice (some ⟨b, 0, none⟩) n1 c1] 29 (0, 0)) (.pointer (some ⟨g, 0, none⟩)), kVal g (w.heap.size) (fun o => o = .cells #[.int .i64 x0, .int .i64 x1, .slice (some ⟨b, 0, none⟩) n1 c1] 29 (0, 0)) (fun v => ∃ y0 : Int, ∃ y1 : Int, ∃ y2 : Int, ∃ y3 : Int, ∃ y4 : Int, (-1) ≤ y0 ∧ y0 ≤ 1000 ∧ (-1) ≤ y1 ∧ y1 ≤ 1000 ∧ (-1) ≤ y2 ∧ y2 ≤ 1000 ∧ (-1) ≤ y3 ∧ y3 ≤ 1000 ∧ (-1) ≤ y4 ∧ y4 ≤ 1000 ∧ v = .agg #[.int .i64 y0, .int .i64 y1, .int .i64 y2, .int .i64 y3, .int .i64 y4]), kSet g (w.heap.size) (fun o => o = .cells #[.int .i64 x0, .int .i64 x1, .slice (some ⟨b, 0, none⟩) n1 c1] 29 (0, 0)) hzg] (by kernel_rfl) (by kernel_rfl) (by first | exact .inl rfl | exact .inr (by kernel_rfl)) hr4 (heap_lt hz4) (by rfl) ?_ rfl rfl ?_
    · refine each_cons ?_ ( each_cons ?_ ( each_cons ?_ ( each_cons ?_ ( each_nil))))
      · intro q a' w' hq hRd hLe hzl hfr hdep
        have e5 : a'.tmps.getD 5 undef = .pointer (some ⟨w2.heap.size, 0, none⟩) := hfr 5 rfl
        have f5 := e5; simp only [Array.getD_eq_getD_getElem?] at f5
        have hhx := hLe.keep hx4 hx5.1 hx5.2
        obtain ⟨kx, fx⟩ := blk hhx; clear hhx
        refine wpOp_plain rfl rfl (fun K hK => ?_)
        go_simp
        exact hK _ _ ⟨_, q, rfl, by omega, hRd, Turns.refl _, rfl, nofun⟩
      · intro q a' w' hq hRd hLe hzl hfr hdep
        have e4 : a'.tmps.getD 4 undef = .pointer (some ⟨g, 0, none⟩) := hfr 4 rfl
        have f4 := e4; simp only [Array.getD_eq_getD_getElem?] at f4
        refine wpOp_plain rfl rfl (fun K hK => ?_)
        go_simp
        exact hK _ _ ⟨_, q, rfl, by omega, hRd, Turns.refl _, rfl, nofun⟩
      · intro q a' w' hq hRd hLe hzl hfr hdep
        have e24 : a'.tmps.getD 24 undef = .pointer (some ⟨g, 0, none⟩) := hdep 1 _ 24 rfl rfl rfl
        have f24 := e24; simp only [Array.getD_eq_getD_getElem?] at f24
        refine wpOp_plain rfl rfl (fun K hK => ?_)
        go_simp
        refine (l20Flow_any hRd _ (by omega) (by omega)).mono ?_
        rintro e w2 ⟨v, q2, rfl, ⟨u0, u1, u2, u3, u4, rfl, v0, v1, v2, v3, v4⟩, hq2, hr, hg⟩
        exact hK _ _ ⟨_, _, rfl, by omega, hr, Turns.of_grown hg, ⟨u0, u1, u2, u3, u4, v0.1, v0.2, v1.1, v1.2, v2.1, v2.2, v3.1, v3.2, v4.1, v4.2, rfl⟩, nofun⟩
      · intro q a' w' hq hRd hLe hzl hfr hdep
        have e2 : a'.tmps.getD 2 undef = .pointer (some ⟨w.heap.size, 0, none⟩) := hfr 2 rfl
        have f2 := e2; simp only [Array.getD_eq_getD_getElem?] at f2
        have e23 : a'.tmps.getD 23 undef = .agg #[.int .i64 x0, .int .i64 x1, .slice (some ⟨b, 0, none⟩) n1 c1] := hdep 0 _ 23 rfl rfl rfl
        have f23 := e23; simp only [Array.getD_eq_getD_getElem?] at f23
        refine wpOp_plain rfl rfl (fun K hK => ?_)
        refine wp_store_z (cells := #[.int .i64 x0, .int .i64 x1, .slice (some ⟨b, 0, none⟩) n1 c1]) 29 (.tmp 2) (.tmp 23) rfl hLe hz4 hzg (fun o ho => ⟨_, ho, rfl⟩) e2 e23 (by kernel_rfl) rfl rfl ?_
        intro w2 hh2 hg2
        exact hK _ _ ⟨_, q, rfl, by omega, hRd.far hg2 hzg (by omega), Turns.set_z hh2 rfl hg2, ⟨rfl, _, rfl, hh2⟩, fun _ => rfl⟩
    intro vs w5 q5 hq5 hr5 hg5 hT5 hN5
    obtain ⟨_, oz5, ho5, hz5⟩ := hN5 3 rfl
    obtain ⟨x25_0, x25_1, x25_2, x25_3, x25_4, bx25_0, cx25_0, bx25_1, cx25_1, bx25_2, cx25_2, bx25_3, cx25_3, bx25_4, cx25_4, e25⟩ : (kVal g (w.heap.size) (fun o => o = .cells #[.int .i64 x0, .int .i64 x1, .slice (some ⟨b, 0, none⟩) n1 c1] 29 (0, 0)) (fun v => ∃ y0 : Int, ∃ y1 : Int, ∃ y2 : Int, ∃ y3 : Int, ∃ y4 : Int, (-1) ≤ y0 ∧ y0 ≤ 1000 ∧ (-1) ≤ y1 ∧ y1 ≤ 1000 ∧ (-1) ≤ y2 ∧ y2 ≤ 1000 ∧ (-1) ≤ y3 ∧ y3 ≤ 1000 ∧ (-1) ≤ y4 ∧ y4 ≤ 1000 ∧ v = .agg #[.int .i64 y0, .int .i64 y1, .int .i64 y2, .int .i64 y3, .int .i64 y4])).p (vs 2) w5 := hT5 2 25 rfl
    clear hT5 hN5
    simp only [putAll, List.drop_succ_cons, List.drop_zero, e25]
    clear e25
    go_simp
    cases ho5
    have hy5 := hg5.keep hy4 (show w.heap.size + 1 ≠ g by omega) (show w.heap.size + 1 ≠ w.heap.size by omega)
    have hB5 : Below w.heap.size w w5 := hB4.trans (hg5.below hB4.size (by omega) (Nat.le_refl _))
    have hs8 := hg5.size
    have hR5 : Rws w5 w5.heap.size 5 (some ⟨b, 0, none⟩) n1 c1 (flowR f0 f1 f2 f3 f4) := ⟨hR4.1, fun _ => ⟨b, 0, rfl, by omega, fun i hi j v hv => (World.cell?_of_block (w := _) (w' := w5) (a := ⟨b, _, none⟩) ((hg5.block _ hbl4 hbg).resolve_right fun e => hlz e.1)).trans (hc i hi j v hv)⟩⟩
    clear hy4 hB4 hR4 hc hg5 hr5 hP4
    refine wpList_store_var rfl 39 (.tmp 3) (.tmp 25) rfl #[.int .i64 x25_0, .int .i64 x25_1, .int .i64 x25_2, .int .i64 x25_3, .int .i64 x25_4] hy5 rfl rfl (by kernel_rfl) rfl rfl ?_
    intro w6 hy6 hg6 hs9
    have hz6 := heap_far hz5 hg6 (by omega)
    have hR6 : Rws w6 w6.heap.size 5 (some ⟨b, 0, none⟩) n1 c1 (flowR f0 f1 f2 f3 f4) := ⟨hR5.1, fun h0 => by
      obtain ⟨b2, o2, e2, h2, h3⟩ := hR5.2 h0
      cases e2
      exact ⟨b, 0, rfl, by omega, fun i hi j v hv => (World.cell?_of_block (w := _) (w' := w6) (a := ⟨b, _, none⟩) (hg6.block b (by omega) (by simp; omega))).trans (h3 i hi j v hv)⟩⟩
    obtain ⟨k8, f8⟩ := blk hz6
    obtain ⟨k9, f9⟩ := blk hy6
    go_wp2_with fail
    refine bodyPost_ret (v := .tuple #[.agg #[.int .i64 x0, .int .i64 x1, .slice (some ⟨b, 0, none⟩) n1 c1], .agg #[.int .i64 x25_0, .int .i64 x25_1, .int .i64 x25_2, .int .i64 x25_3, .int .i64 x25_4]]) (by simp [results, Try.results36, go_sem, k8, k9]) rfl ⟨x0, x1, _, n1, c1, f0, f1, f2, f3, f4, _, _, _, _, _, rfl, hn1, hn2, by omega, hR6, Below.of_grown hB5 hg6 (by omega)⟩
end Go.Proofs.Ytahniedcflfdmaa
