/-
  What the drawing of a screen and a flow hands over; old memory stays.
-/
import Derived.Test.YtcljfakpcecejaaScrA
import Derived.Test.YtcljfakpcecejaaScrE
namespace Go.Proofs.Ytcljfakpcecejaa
open Go.RowKit Go.Joins

def ScreenFlowD (w : World) (e : Ending) (w' : World) : Prop :=
  ∃ b k l h d : Int, ∃ ps : Bool, ∃ f0 f1 f2 f3 f4 : Int, e = .returned (.tuple #[.agg #[.int .i64 b, .int .i64 k, .int .i64 l, .int .i64 h, .int .i64 d, .bool ps], .agg #[.int .i64 f0, .int .i64 f1, .int .i64 f2, .int .i64 f3, .int .i64 f4]]) ∧ Below w.heap.size w w'

set_option maxHeartbeats 8000000 in
theorem drawScreenFits_any {w : World} {A : Option Addr} {n c : Nat} (h : Bytes w w.heap.size A n c) :
    Calls Try.prog 22 #[.slice A n c] w (ScreenFlowD w) := by
  go_enter Try.func22, Try.ntmps22
  go_wp2_with fail
  refine (open_any ((h.alloc (Nat.le_refl _) _).alloc (by simp) _) (by simp; omega)).mono ?_
  rintro e w1 ⟨m, g, rfl, hgl, hr1, hb1, hs1⟩
  obtain ⟨W2, hW2⟩ : ∃ W2 : World, W2 = (w.alloc (.cells #[.int .i64 0, .int .i64 0, .int .i64 0, .int .i64 0, .int .i64 0, .bool false] 31)).alloc (.cells #[.int .i64 0, .int .i64 0, .int .i64 0, .int .i64 0, .int .i64 0] 33) := ⟨_, rfl⟩
  have hsz2 : W2.heap.size = w.heap.size + 2 := by rw [hW2]; simp
  have hy3 : W2.heap[w.heap.size + 1]? = some (.cells #[.int .i64 0, .int .i64 0, .int .i64 0, .int .i64 0, .int .i64 0] 33 (0, 0)) := by rw [hW2]; have := heap_alloc_new (w.alloc (.cells #[.int .i64 0, .int .i64 0, .int .i64 0, .int .i64 0, .int .i64 0, .bool false] 31)) (.cells #[.int .i64 0, .int .i64 0, .int .i64 0, .int .i64 0, .int .i64 0] 33); simpa using this
  have hy2 : W2.heap[w.heap.size]? = some (.cells #[.int .i64 0, .int .i64 0, .int .i64 0, .int .i64 0, .int .i64 0, .bool false] 31 (0, 0)) := by rw [hW2]; exact (Below.heap_alloc _ _ w.heap.size (by simp)).trans (heap_alloc_new w _)
  have hB0 : Below w.heap.size w W2 := by rw [hW2]; exact (below_alloc1 w _).trans ((below_alloc1 _ _).mono (by simp))
  rw [← hW2] at hb1 hs1 hgl
  clear hW2 hs1
  rw [hsz2] at hgl
  have hz2 := (hb1.block w.heap.size (by omega)).trans hy2
  have hz3 := (hb1.block (w.heap.size + 1) (by omega)).trans hy3
  have hB1 : Below w.heap.size w w1 := hB0.trans (hb1.mono (by omega))
  have hs2 := hB1.size
  have hzl := heap_lt hz3
  clear hb1 hy2 hy3 hB0
  go_wp2_with fail
  refine (l20Screens_acc hr1 _ (by omega) (by omega)).mono ?_
  rintro e w2 ⟨v, nn, q, rfl, hn, hP, hq, hr2, hg2⟩
  have hx2 := heap_far hz2 hg2 (by omega)
  have hx3 := heap_far hz3 hg2 (by omega)
  have hB2 : Below w.heap.size w w2 := hB1.trans (below_grown hg2 hs2 (by omega))
  have hgw := hr2.lt
  have hs3 := hg2.size
  clear hg2 hz2 hz3
  go_wp2_with (at_builtin; refine wpList_pushP rfl (.tmp 9) (.tmp 11) 37 rfl 31 _ [true, true, true, true, true, false] 48 Try.underlying37 info_screenL (by decide) (by decide) (by decide) rfl (hP.next (Below.al (Below.refl _ _) _)) rfl (heap_alloc_new _ _) (plain6 (a := 0) (b := 0) (c := 0) (d := 999) (e := 0) (f := false) (by omega)) (by omega) (by simp; omega) ?_; intro v' w3 hP' hB' hg')
  obtain ⟨Ax, cx, R, rfl, hR, hO⟩ := hP'.list
  obtain ⟨g', rfl, hBg', hN⟩ := hO.at_ (by omega)
  obtain ⟨sb, sk, sl, sh, sd, sp, rfl⟩ := screenR_of hR
  have hrw := hO.rows.2 (by omega)
  obtain ⟨bl, off, he, hbl, hc⟩ := hrw
  cases he
  have hB3 : Below w.heap.size w w3 := (hB2.alloc hB2.size _).trans (hB'.mono (by omega))
  have hr3 : Rd w3 _ g _ _ _ q := (Rd.alloc hr2 _).lower hB' hr1.lt
  have ht2 := (hB'.block w.heap.size (by omega)).trans ((Below.heap_alloc w2 _ w.heap.size (by omega)).trans hx2)
  have ht3 := (hB'.block (w.heap.size + 1) (by omega)).trans ((Below.heap_alloc w2 _ (w.heap.size + 1) (by omega)).trans hx3)
  have hne : g' ≠ g := by have := hr1.lt; omega
  have hlz : g' ≠ w.heap.size := by omega
  have hzg : w.heap.size ≠ g := by omega
  have hs4 := hB3.size
  clear hx2 hx3 hB' hg' hN hO hR hP hP'
  obtain ⟨B, hBe⟩ : ∃ B, B = w.heap.size := ⟨_, rfl⟩
  rw [← hBe] at hr3
  obtain ⟨nm, hnm⟩ : ∃ nm, nm = nn + 1 := ⟨_, rfl⟩
  rw [← hnm] at hc ⊢
  have hnm1 : 0 < nm := by omega
  have hnm2 : nm ≤ 7 := by omega
  clear hnm
  go_upto_region 3 with (fail)
  refine wp_region_draws (ds := [(0, 13), (1, 14), (2, 15), (3, 16), (4, 17), (5, 18), (6, 19), (7, 20), (8, 21)]) (B := B) (g := g) (z := w.heap.size) (O := fun o => ∃ x0 x1 x2 x3 x4 : Int, ∃ x5 : Bool, o = .cells #[.int .i64 x0, .int .i64 x1, .int .i64 x2, .int .i64 x3, .int .i64 x4, .bool x5] 31 (0, 0)) (A := A) (m := m) (c := c) (p := _) 10 100 [kIs g (w.heap.size) (fun o => ∃ x0 x1 x2 x3 x4 : Int, ∃ x5 : Bool, o = .cells #[.int .i64 x0, .int .i64 x1, .int .i64 x2, .int .i64 x3, .int .i64 x4, .bool x5] 31 (0, 0)) (.slice (some ⟨g', 0, none⟩) nm cx), kIs g (w.heap.size) (fun o => ∃ x0 x1 x2 x3 x4 : Int, ∃ x5 : Bool, o = .cells #[.int .i64 x0, .int .i64 x1, .int .i64 x2, .int .i64 x3, .int .i64 x4, .bool x5] 31 (0, 0)) (.pointer (some ⟨g, 0, none⟩)), kIs g (w.heap.size) (fun o => ∃ x0 x1 x2 x3 x4 : Int, ∃ x5 : Bool, o = .cells #[.int .i64 x0, .int .i64 x1, .int .i64 x2, .int .i64 x3, .int .i64 x4, .bool x5] 31 (0, 0)) (.slice (some ⟨g', 0, none⟩) nm cx), kIs g (w.heap.size) (fun o => ∃ x0 x1 x2 x3 x4 : Int, ∃ x5 : Bool, o = .cells #[.int .i64 x0, .int .i64 x1, .int .i64 x2, .int .i64 x3, .int .i64 x4, .bool x5] 31 (0, 0)) (.int .i64 (nm : Nat)), kVal g (w.heap.size) (fun o => ∃ x0 x1 x2 x3 x4 : Int, ∃ x5 : Bool, o = .cells #[.int .i64 x0, .int .i64 x1, .int .i64 x2, .int .i64 x3, .int .i64 x4, .bool x5] 31 (0, 0)) (fun v => ∃ k : Int, v = .int .i64 k ∧ 0 ≤ k ∧ k < (nm : Int)), kVal g (w.heap.size) (fun o => ∃ x0 x1 x2 x3 x4 : Int, ∃ x5 : Bool, o = .cells #[.int .i64 x0, .int .i64 x1, .int .i64 x2, .int .i64 x3, .int .i64 x4, .bool x5] 31 (0, 0)) (fun v => ∃ i : Nat, i < nm ∧ v = .pointer (some ⟨g', i * 6, none⟩)), kVal g (w.heap.size) (fun o => ∃ x0 x1 x2 x3 x4 : Int, ∃ x5 : Bool, o = .cells #[.int .i64 x0, .int .i64 x1, .int .i64 x2, .int .i64 x3, .int .i64 x4, .bool x5] 31 (0, 0)) (fun v => ∃ i : Nat, i < nm ∧ v = .agg #[.int .i64 (sb i), .int .i64 (sk i), .int .i64 (sl i), .int .i64 (sh i), .int .i64 (sd i), .bool (sp i)]), kIs g (w.heap.size) (fun o => ∃ x0 x1 x2 x3 x4 : Int, ∃ x5 : Bool, o = .cells #[.int .i64 x0, .int .i64 x1, .int .i64 x2, .int .i64 x3, .int .i64 x4, .bool x5] 31 (0, 0)) (.pointer (some ⟨g, 0, none⟩)), kVal g (w.heap.size) (fun o => ∃ x0 x1 x2 x3 x4 : Int, ∃ x5 : Bool, o = .cells #[.int .i64 x0, .int .i64 x1, .int .i64 x2, .int .i64 x3, .int .i64 x4, .bool x5] 31 (0, 0)) flowR, kSet g (w.heap.size) (fun o => ∃ x0 x1 x2 x3 x4 : Int, ∃ x5 : Bool, o = .cells #[.int .i64 x0, .int .i64 x1, .int .i64 x2, .int .i64 x3, .int .i64 x4, .bool x5] 31 (0, 0)) hzg] (by kernel_rfl) (by kernel_rfl) (by first | exact .inl rfl | exact .inr (by kernel_rfl)) hr3 (heap_lt ht2) (by rfl) ?_ rfl rfl ?_
  · refine each_cons ?_ ( each_cons ?_ ( each_cons ?_ ( each_cons ?_ ( each_cons ?_ ( each_cons ?_ ( each_cons ?_ ( each_cons ?_ ( each_cons ?_ ( each_cons ?_ ( each_nil))))))))))
    · intro q a' w' hq hRd hLe hzl hfr hdep
      have e5 : a'.tmps.getD 5 undef = .slice (some ⟨g', 0, none⟩) nm cx := hfr 5 rfl
      have f5 := e5; simp only [Array.getD_eq_getD_getElem?] at f5
      refine wpOp_plain rfl rfl (fun K hK => ?_)
      go_simp
      exact hK _ _ ⟨_, q, rfl, by omega, hRd, Turns.refl _, rfl, nofun⟩
    · intro q a' w' hq hRd hLe hzl hfr hdep
      have e4 : a'.tmps.getD 4 undef = .pointer (some ⟨g, 0, none⟩) := hfr 4 rfl
      have f4 := e4; simp only [Array.getD_eq_getD_getElem?] at f4
      refine wpOp_plain rfl rfl (fun K hK => ?_)
      go_simp
      exact hK _ _ ⟨_, q, rfl, by omega, hRd, Turns.refl _, rfl, nofun⟩
    · intro q a' w' hq hRd hLe hzl hfr hdep
      have e5 : a'.tmps.getD 5 undef = .slice (some ⟨g', 0, none⟩) nm cx := hfr 5 rfl
      have f5 := e5; simp only [Array.getD_eq_getD_getElem?] at f5
      refine wpOp_plain rfl rfl (fun K hK => ?_)
      go_simp
      exact hK _ _ ⟨_, q, rfl, by omega, hRd, Turns.refl _, rfl, nofun⟩
    · intro q a' w' hq hRd hLe hzl hfr hdep
      have e15 : a'.tmps.getD 15 undef = .slice (some ⟨g', 0, none⟩) nm cx := hdep 2 _ 15 rfl rfl rfl
      have f15 := e15; simp only [Array.getD_eq_getD_getElem?] at f15
      refine wpOp_plain rfl rfl (fun K hK => ?_)
      go_simp
      exact hK _ _ ⟨_, q, rfl, by omega, hRd, Turns.refl _, rfl, nofun⟩
    · intro q a' w' hq hRd hLe hzl hfr hdep
      have e14 : a'.tmps.getD 14 undef = .pointer (some ⟨g, 0, none⟩) := hdep 1 _ 14 rfl rfl rfl
      have f14 := e14; simp only [Array.getD_eq_getD_getElem?] at f14
      have e16 : a'.tmps.getD 16 undef = .int .i64 (nm : Nat) := hdep 3 _ 16 rfl rfl rfl
      have f16 := e16; simp only [Array.getD_eq_getD_getElem?] at f16
      refine wpOp_plain rfl rfl (fun K hK => ?_)
      go_simp
      refine (pick_any hRd _ (by omega)).mono ?_
      rintro e w2 ⟨k, rfl, hk, hr, hg, hs⟩
      have hk1 := hk.1; have hk2 := hk.2.1; have hk3 := hk.2.2
      exact hK _ _ ⟨_, _, rfl, by omega, hr, Turns.of_grown hg, ⟨k, rfl, by omega, by omega⟩, nofun⟩
    · intro q a' w' hq hRd hLe hzl hfr hdep
      have e13 : a'.tmps.getD 13 undef = .slice (some ⟨g', 0, none⟩) nm cx := hdep 0 _ 13 rfl rfl rfl
      have f13 := e13; simp only [Array.getD_eq_getD_getElem?] at f13
      obtain ⟨x17, e17, b17, c17⟩ : (kVal g (w.heap.size) (fun o => ∃ x0 x1 x2 x3 x4 : Int, ∃ x5 : Bool, o = .cells #[.int .i64 x0, .int .i64 x1, .int .i64 x2, .int .i64 x3, .int .i64 x4, .bool x5] 31 (0, 0)) (fun v => ∃ k : Int, v = .int .i64 k ∧ 0 ≤ k ∧ k < (nm : Int))).p (a'.tmps.getD 17 undef) w' := hdep 4 _ 17 rfl rfl rfl
      have f17 := e17; simp only [Array.getD_eq_getD_getElem?] at f17
      obtain ⟨i17, rfl⟩ := Int.eq_ofNat_of_zero_le b17
      refine wpOp_plain rfl rfl (fun K hK => ?_)
      go_simp
      exact hK _ _ ⟨_, q, rfl, by omega, hRd, Turns.refl _, ⟨i17, by omega, rfl⟩, nofun⟩
    · intro q a' w' hq hRd hLe hzl hfr hdep
      obtain ⟨i18, h18, e18⟩ : (kVal g (w.heap.size) (fun o => ∃ x0 x1 x2 x3 x4 : Int, ∃ x5 : Bool, o = .cells #[.int .i64 x0, .int .i64 x1, .int .i64 x2, .int .i64 x3, .int .i64 x4, .bool x5] 31 (0, 0)) (fun v => ∃ i : Nat, i < nm ∧ v = .pointer (some ⟨g', i * 6, none⟩))).p (a'.tmps.getD 18 undef) w' := hdep 5 _ 18 rfl rfl rfl
      have f18 := e18; simp only [Array.getD_eq_getD_getElem?] at f18
      have kx := fun i => World.cell?_of_block (w := _) (w' := w') (a := ⟨g', i, none⟩) ((hLe.block _ hbl hne).resolve_right fun e => hlz e.1)
      have qx0 := (kx _).trans (hc i18 h18 0 _ rfl); simp only [Nat.zero_add, Nat.add_zero, List.length, Nat.reduceAdd] at qx0
      have qx1 := (kx _).trans (hc i18 h18 1 _ rfl); simp only [Nat.zero_add, Nat.add_zero, List.length, Nat.reduceAdd] at qx1
      have qx2 := (kx _).trans (hc i18 h18 2 _ rfl); simp only [Nat.zero_add, Nat.add_zero, List.length, Nat.reduceAdd] at qx2
      have qx3 := (kx _).trans (hc i18 h18 3 _ rfl); simp only [Nat.zero_add, Nat.add_zero, List.length, Nat.reduceAdd] at qx3
      have qx4 := (kx _).trans (hc i18 h18 4 _ rfl); simp only [Nat.zero_add, Nat.add_zero, List.length, Nat.reduceAdd] at qx4
      have qx5 := (kx _).trans (hc i18 h18 5 _ rfl); simp only [Nat.zero_add, Nat.add_zero, List.length, Nat.reduceAdd] at qx5
      clear kx
      refine wpOp_plain rfl rfl (fun K hK => ?_)
      go_simp
      exact hK _ _ ⟨_, q, rfl, by omega, hRd, Turns.refl _, ⟨i18, h18, rfl⟩, nofun⟩
    · intro q a' w' hq hRd hLe hzl hfr hdep
      have e4 : a'.tmps.getD 4 undef = .pointer (some ⟨g, 0, none⟩) := hfr 4 rfl
      have f4 := e4; simp only [Array.getD_eq_getD_getElem?] at f4
      refine wpOp_plain rfl rfl (fun K hK => ?_)
      go_simp
      exact hK _ _ ⟨_, q, rfl, by omega, hRd, Turns.refl _, rfl, nofun⟩
    · intro q a' w' hq hRd hLe hzl hfr hdep
      have e20 : a'.tmps.getD 20 undef = .pointer (some ⟨g, 0, none⟩) := hdep 7 _ 20 rfl rfl rfl
      have f20 := e20; simp only [Array.getD_eq_getD_getElem?] at f20
      refine wpOp_plain rfl rfl (fun K hK => ?_)
      go_simp
      refine (l20Flow_any hRd _ (by omega) (by omega)).mono ?_
      rintro e w2 ⟨v, q2, rfl, hv, hq2, hr, hg⟩
      exact hK _ _ ⟨_, _, rfl, by omega, hr, Turns.of_grown hg, hv, nofun⟩
    · intro q a' w' hq hRd hLe hzl hfr hdep
      have e2 : a'.tmps.getD 2 undef = .pointer (some ⟨w.heap.size, 0, none⟩) := hfr 2 rfl
      have f2 := e2; simp only [Array.getD_eq_getD_getElem?] at f2
      obtain ⟨i19, h19, e19⟩ : (kVal g (w.heap.size) (fun o => ∃ x0 x1 x2 x3 x4 : Int, ∃ x5 : Bool, o = .cells #[.int .i64 x0, .int .i64 x1, .int .i64 x2, .int .i64 x3, .int .i64 x4, .bool x5] 31 (0, 0)) (fun v => ∃ i : Nat, i < nm ∧ v = .agg #[.int .i64 (sb i), .int .i64 (sk i), .int .i64 (sl i), .int .i64 (sh i), .int .i64 (sd i), .bool (sp i)])).p (a'.tmps.getD 19 undef) w' := hdep 6 _ 19 rfl rfl rfl
      have f19 := e19; simp only [Array.getD_eq_getD_getElem?] at f19
      refine wpOp_plain rfl rfl (fun K hK => ?_)
      refine wp_store_z (cells := #[.int .i64 (sb i19), .int .i64 (sk i19), .int .i64 (sl i19), .int .i64 (sh i19), .int .i64 (sd i19), .bool (sp i19)]) 31 (.tmp 2) (.tmp 19) rfl hLe ht2 hzg (fun o ⟨_, _, _, _, _, _, ho⟩ => ⟨_, ho, rfl⟩) e2 e19 (by kernel_rfl) rfl rfl ?_
      intro w2 hh2 hg2
      exact hK _ _ ⟨_, q, rfl, by omega, hRd.far hg2 hzg (by omega), Turns.set_z hh2 ⟨_, _, _, _, _, _, rfl⟩ hg2, ⟨rfl, _, ⟨_, _, _, _, _, _, rfl⟩, hh2⟩, fun _ => rfl⟩
  intro vs w4 q4 hq4 hr4 hg4 hT4 hN4
  obtain ⟨_, oz4, ho4, hz4⟩ := hN4 9 rfl
  obtain h21 : (kVal g (w.heap.size) (fun o => ∃ x0 x1 x2 x3 x4 : Int, ∃ x5 : Bool, o = .cells #[.int .i64 x0, .int .i64 x1, .int .i64 x2, .int .i64 x3, .int .i64 x4, .bool x5] 31 (0, 0)) flowR).p (vs 8) w4 := hT4 8 21 rfl
  clear hT4 hN4
  simp only [putAll, List.drop_succ_cons, List.drop_zero]
  go_simp
  obtain ⟨x0, x1, x2, x3, x4, x5, rfl⟩ := ho4
  obtain ⟨f0, f1, f2, f3, f4, hv, _, _, _, _, _⟩ := h21
  rw [hv]
  have hB4 : Below w.heap.size w w4 := hB3.trans (hg4.below hB3.size (by omega) (Nat.le_refl _))
  have hu3 := hg4.keep ht3 (by omega) (by omega)
  refine wpList_store_var rfl 33 (.tmp 3) (.tmp 21) rfl #[.int .i64 f0, .int .i64 f1, .int .i64 f2, .int .i64 f3, .int .i64 f4] hu3 rfl rfl (by kernel_rfl) rfl rfl ?_
  intro w9 hh9 hg9 hs9
  have hz9 := heap_far hz4 hg9 (by omega)
  obtain ⟨k9, f9⟩ := blk hh9
  obtain ⟨k8, f8⟩ := blk hz9
  go_wp2_with fail
  refine bodyPost_ret (v := .tuple #[.agg #[.int .i64 x0, .int .i64 x1, .int .i64 x2, .int .i64 x3, .int .i64 x4, .bool x5], .agg #[.int .i64 f0, .int .i64 f1, .int .i64 f2, .int .i64 f3, .int .i64 f4]]) (by simp [results, Try.results22, go_sem, k9, k8]) rfl ⟨x0, x1, x2, x3, x4, x5, f0, f1, f2, f3, f4, rfl, hB4.trans (below_grown hg9 hB4.size (by omega))⟩
end Go.Proofs.Ytcljfakpcecejaa
