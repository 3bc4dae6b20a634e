/-
  The drawing of a receiver.
-/
import Derived.Test.YtangpebnjodpnaaPush
import Derived.Test.YtangpebnjodpnaaRcv
namespace Go.Proofs.Ytangpebnjodpnaa
open Go Go.RowKit

theorem PAcc.rows {w : World} {B : Nat} {A : Option Addr} {n c : Nat} (h : PAcc w B 3 [true] (.slice A n c) n) : ∃ z, Rws w w.heap.size 1 A n c (intR z) := by
  obtain ⟨R, h1, h2⟩ := h
  obtain ⟨A', c', e, h3⟩ := h2.own
  cases e
  obtain ⟨z, rfl⟩ := intR_of h1
  exact ⟨z, h3.rows⟩
theorem plain1 {a : Int} (ha : -9223372036854775808 ≤ a ∧ a ≤ 9223372036854775807) : Plain [true] (#[Value.int .i64 a]).toList := ⟨a, [], rfl, WalkArith.wf_i64 (by omega), rfl⟩
/-- What the drawing of a receiver leaves. -/
def DrawnR (w : World) (B g : Nat) (A : Option Addr) (m c p K : Nat) (e : Ending) (w' : World) : Prop :=
  ∃ nx rm : Int, ∃ A1 n1 c1 h q, e = .returned (.agg #[.int .i64 nx, .int .i64 rm, .slice A1 n1 c1]) ∧ n1 ≤ 11 ∧ Rws w' w'.heap.size 1 A1 n1 c1 (intR h) ∧ q ≤ p + K ∧ Rd w' B g A m c q ∧ w.grownBy w' (some g) ∧ ∀ b off, A1 = some ⟨b, off, none⟩ → w.heap.size ≤ b

set_option maxRecDepth 20000 in
set_option maxHeartbeats 16000000 in
theorem l20Receiver_any {w : World} {B g : Nat} {A : Option Addr} {m c p : Nat} (h : Rd w B g A m c p) (n : Int) (hn : -1000000 ≤ n) (hp2 : p ≤ 500000000) :
    Calls Try.prog 12 #[(.pointer (some ⟨g, 0, none⟩)), .int .i64 n] w (DrawnR w B g A m c p 100) := by
  have hlt := h.lt
  have hBg := h.2.1
  go_enter Try.func12, Try.ntmps12
  have hr0 := h.alloc (.cells #[.int .i64 0, .int .i64 0, .slice none 0 0] 25)
  have hZ0 := heap_alloc_new w (.cells #[.int .i64 0, .int .i64 0, .slice none 0 0] 25)
  have hG0 := grown_alloc (grown_refl w (some g)) (.cells #[.int .i64 0, .int .i64 0, .slice none 0 0] 25)
  have hg0 : g < (w.alloc (.cells #[.int .i64 0, .int .i64 0, .slice none 0 0] 25)).heap.size := by simp; omega
  go_upto_region 1 with (fail)
  refine wp_region_draws (ds := [(0, 7), (1, 8), (2, 9), (3, 10), (4, 11), (5, 12), (6, 13), (7, 14), (8, 15), (9, 16), (10, 17), (11, 18), (12, 19), (13, 5)]) (B := B) (g := g) (z := g) (O := fun _ => False) (A := A) (m := m) (c := c) (p := _) 14 1 [kIs g g (fun _ => False) (.pointer (some ⟨g, 0, none⟩)), kInt g g (fun _ => False) 0 255, kArr g g (fun _ => False) 3 2 (fun cs => ∃ y0 : Int, 0 ≤ y0 ∧ y0 ≤ 255 ∧ cs = #[.int .i64 y0, .int .i64 100000]), kIs g g (fun _ => False) (.pointer (some ⟨g, 0, none⟩)), kInt g g (fun _ => False) 0 11, kInt g g (fun _ => False) 0 1, kCell g g (fun _ => False) (fun v => ∃ y0 : Int, 0 ≤ y0 ∧ y0 ≤ 100000 ∧ v = .int .i64 y0), kInt g g (fun _ => False) 0 100000, kIs g g (fun _ => False) (.pointer (some ⟨g, 0, none⟩)), kInt g g (fun _ => False) 0 9, kInt g g (fun _ => False) 1 10, kEmp g g (fun _ => False) (w.heap.size + 1) 3, kAgE g g (fun _ => False) (w.heap.size + 1) 3 (fun s v => ∃ y0 : Int, ∃ y1 : Int, 0 ≤ y0 ∧ y0 ≤ 100000 ∧ 1 ≤ y1 ∧ y1 ≤ 10 ∧ v = .agg #[.int .i64 y0, .int .i64 y1, s]), kNew g g (fun _ => False) (w.heap.size + 1) 25 #[.int .i64 0, .int .i64 0, .slice none 0 0]] (by kernel_rfl) (by kernel_rfl) (by first | exact .inl rfl | exact .inr (by kernel_rfl)) hr0 (Rd.lt hr0) (by rfl) ?_ rfl rfl ?_
  · refine each_cons ?_ ( each_cons ?_ ( each_cons ?_ ( each_cons ?_ ( each_cons ?_ ( each_cons ?_ ( each_cons ?_ ( each_cons ?_ ( each_cons ?_ ( each_cons ?_ ( each_cons ?_ ( each_cons ?_ ( each_cons ?_ ( each_cons ?_ ( each_nil))))))))))))))
    · intro q a' w' hq hRd hLe hzl hfr hdep
      have e0 : a'.tmps.getD 0 undef = .pointer (some ⟨g, 0, none⟩) := hfr 0 rfl
      have f0 := e0; simp only [Array.getD_eq_getD_getElem?] at f0
      refine wpOp_plain rfl rfl (fun K hK => ?_)
      go_simp
      exact hK _ _ ⟨_, q, rfl, by omega, hRd, Turns.refl _, rfl, nofun⟩
    · intro q a' w' hq hRd hLe hzl hfr hdep
      have e7 : a'.tmps.getD 7 undef = .pointer (some ⟨g, 0, none⟩) := hdep 0 _ 7 rfl rfl rfl
      have f7 := e7; simp only [Array.getD_eq_getD_getElem?] at f7
      refine wpOp_plain rfl rfl (fun K hK => ?_)
      go_simp
      refine (pick_any hRd _ (by omega)).mono ?_
      rintro e w2 ⟨k, rfl, hk, hr, hg, hs⟩
      have hk1 := hk.1; have hk2 := hk.2.1; have hk3 := hk.2.2
      exact hK _ _ ⟨_, _, rfl, by omega, hr, Turns.of_grown hg, ⟨k, rfl, by omega, by omega⟩, nofun⟩
    · intro q a' w' hq hRd hLe hzl hfr hdep
      obtain ⟨x8, e8, b8, c8⟩ : (kInt g g (fun _ => False) 0 255).p (a'.tmps.getD 8 undef) w' := hdep 1 _ 8 rfl rfl rfl
      have f8 := e8; simp only [Array.getD_eq_getD_getElem?] at f8
      refine wpOp_plain rfl rfl (fun K hK => ?_)
      go_simp
      exact hK _ _ ⟨_, q, rfl, by omega, hRd.alloc _, Turns.alloc _ _, ⟨_, _, rfl, by have := hRd.lt; omega, heap_alloc_new _ _, x8, by omega, by omega, rfl⟩, nofun⟩
    · intro q a' w' hq hRd hLe hzl hfr hdep
      have e0 : a'.tmps.getD 0 undef = .pointer (some ⟨g, 0, none⟩) := hfr 0 rfl
      have f0 := e0; simp only [Array.getD_eq_getD_getElem?] at f0
      refine wpOp_plain rfl rfl (fun K hK => ?_)
      go_simp
      exact hK _ _ ⟨_, q, rfl, by omega, hRd, Turns.refl _, rfl, nofun⟩
    · intro q a' w' hq hRd hLe hzl hfr hdep
      have e10 : a'.tmps.getD 10 undef = .pointer (some ⟨g, 0, none⟩) := hdep 3 _ 10 rfl rfl rfl
      have f10 := e10; simp only [Array.getD_eq_getD_getElem?] at f10
      refine wpOp_plain rfl rfl (fun K hK => ?_)
      go_simp
      refine (pick_any hRd _ (by omega)).mono ?_
      rintro e w2 ⟨k, rfl, hk, hr, hg, hs⟩
      have hk1 := hk.1; have hk2 := hk.2.1; have hk3 := hk.2.2
      exact hK _ _ ⟨_, _, rfl, by omega, hr, Turns.of_grown hg, ⟨k, rfl, by omega, by omega⟩, nofun⟩
    · intro q a' w' hq hRd hLe hzl hfr hdep
      obtain ⟨x11, e11, b11, c11⟩ : (kInt g g (fun _ => False) 0 11).p (a'.tmps.getD 11 undef) w' := hdep 4 _ 11 rfl rfl rfl
      have f11 := e11; simp only [Array.getD_eq_getD_getElem?] at f11
      have r12 : IntKind.i64.wrap (x11.tdiv 11) = x11 / 11 := by rw [Int.tdiv_eq_ediv_of_nonneg (by omega)]; exact IntWalk.i64_in _ (by omega)
      refine wpOp_plain rfl rfl (fun K hK => ?_)
      go_simp
      exact hK _ _ ⟨_, q, rfl, by omega, hRd, Turns.refl _, ⟨_, rfl, by omega, by omega⟩, nofun⟩
    · intro q a' w' hq hRd hLe hzl hfr hdep
      obtain ⟨a9, cs9, e9, hb9, hh9, y9_0, by9_0, cy9_0, rfl⟩ : (kArr g g (fun _ => False) 3 2 (fun cs => ∃ y0 : Int, 0 ≤ y0 ∧ y0 ≤ 255 ∧ cs = #[.int .i64 y0, .int .i64 100000])).p (a'.tmps.getD 9 undef) w' := hdep 2 _ 9 rfl rfl rfl
      have f9 := e9; simp only [Array.getD_eq_getD_getElem?] at f9
      obtain ⟨x12, e12, b12, c12⟩ : (kInt g g (fun _ => False) 0 1).p (a'.tmps.getD 12 undef) w' := hdep 5 _ 12 rfl rfl rfl
      have f12 := e12; simp only [Array.getD_eq_getD_getElem?] at f12
      rcases (show x12 = 0 ∨ x12 = 1 by omega) with rfl | rfl
      · refine wpOp_plain rfl rfl (fun K hK => ?_)
        go_simp
        exact hK _ _ ⟨_, q, rfl, by omega, hRd, Turns.refl _, ⟨_, _, _, rfl, hb9, (cell_of_row _ _ 0 _ _ _ hh9).trans rfl, y9_0, by omega, by omega, rfl⟩, nofun⟩
      · refine wpOp_plain rfl rfl (fun K hK => ?_)
        go_simp
        exact hK _ _ ⟨_, q, rfl, by omega, hRd, Turns.refl _, ⟨_, _, _, rfl, hb9, (cell_of_row _ _ 1 _ _ _ hh9).trans rfl, 100000, by omega, by omega, rfl⟩, nofun⟩
    · intro q a' w' hq hRd hLe hzl hfr hdep
      obtain ⟨a13, o13, v13, e13, hb13, hc13, y13_0, by13_0, cy13_0, rfl⟩ : (kCell g g (fun _ => False) (fun v => ∃ y0 : Int, 0 ≤ y0 ∧ y0 ≤ 100000 ∧ v = .int .i64 y0)).p (a'.tmps.getD 13 undef) w' := hdep 6 _ 13 rfl rfl rfl
      have f13 := e13; simp only [Array.getD_eq_getD_getElem?] at f13
      refine wpOp_plain rfl rfl (fun K hK => ?_)
      go_simp
      exact hK _ _ ⟨_, q, rfl, by omega, hRd, Turns.refl _, ⟨_, rfl, by omega, by omega⟩, nofun⟩
    · intro q a' w' hq hRd hLe hzl hfr hdep
      have e0 : a'.tmps.getD 0 undef = .pointer (some ⟨g, 0, none⟩) := hfr 0 rfl
      have f0 := e0; simp only [Array.getD_eq_getD_getElem?] at f0
      refine wpOp_plain rfl rfl (fun K hK => ?_)
      go_simp
      exact hK _ _ ⟨_, q, rfl, by omega, hRd, Turns.refl _, rfl, nofun⟩
    · intro q a' w' hq hRd hLe hzl hfr hdep
      have e15 : a'.tmps.getD 15 undef = .pointer (some ⟨g, 0, none⟩) := hdep 8 _ 15 rfl rfl rfl
      have f15 := e15; simp only [Array.getD_eq_getD_getElem?] at f15
      refine wpOp_plain rfl rfl (fun K hK => ?_)
      go_simp
      refine (pick_any hRd _ (by omega)).mono ?_
      rintro e w2 ⟨k, rfl, hk, hr, hg, hs⟩
      have hk1 := hk.1; have hk2 := hk.2.1; have hk3 := hk.2.2
      exact hK _ _ ⟨_, _, rfl, by omega, hr, Turns.of_grown hg, ⟨k, rfl, by omega, by omega⟩, nofun⟩
    · intro q a' w' hq hRd hLe hzl hfr hdep
      obtain ⟨x16, e16, b16, c16⟩ : (kInt g g (fun _ => False) 0 9).p (a'.tmps.getD 16 undef) w' := hdep 9 _ 16 rfl rfl rfl
      have f16 := e16; simp only [Array.getD_eq_getD_getElem?] at f16
      have r17 : IntKind.i64.wrap (1 + x16) = 1 + x16 := IntWalk.i64_in _ (by omega)
      refine wpOp_plain rfl rfl (fun K hK => ?_)
      go_simp
      exact hK _ _ ⟨_, q, rfl, by omega, hRd, Turns.refl _, ⟨_, rfl, by omega, by omega⟩, nofun⟩
    · intro q a' w' hq hRd hLe hzl hfr hdep
      refine wpOp_plain rfl rfl (fun K hK => ?_)
      go_simp
      exact hK _ _ ⟨_, q, rfl, by omega, hRd.alloc _, Turns.alloc _ _, ⟨_, rfl, by have := hRd.lt; omega, by have := hLe.size; (try simp at this); omega, heap_alloc_new _ _⟩, nofun⟩
    · intro q a' w' hq hRd hLe hzl hfr hdep
      obtain ⟨x14, e14, b14, c14⟩ : (kInt g g (fun _ => False) 0 100000).p (a'.tmps.getD 14 undef) w' := hdep 7 _ 14 rfl rfl rfl
      have f14 := e14; simp only [Array.getD_eq_getD_getElem?] at f14
      obtain ⟨x17, e17, b17, c17⟩ : (kInt g g (fun _ => False) 1 10).p (a'.tmps.getD 17 undef) w' := hdep 10 _ 17 rfl rfl rfl
      have f17 := e17; simp only [Array.getD_eq_getD_getElem?] at f17
      obtain ⟨a18, e18, hb18, hB18, hh18⟩ : (kEmp g g (fun _ => False) (w.heap.size + 1) 3).p (a'.tmps.getD 18 undef) w' := hdep 11 _ 18 rfl rfl rfl
      have f18 := e18; simp only [Array.getD_eq_getD_getElem?] at f18
      refine wpOp_plain rfl rfl (fun K hK => ?_)
      go_simp
      exact hK _ _ ⟨_, q, rfl, by omega, hRd, Turns.refl _, ⟨a18, hb18, hB18, hh18, x14, x17, by omega, by omega, by omega, by omega, rfl⟩, nofun⟩
    · intro q a' w' hq hRd hLe hzl hfr hdep
      refine wpOp_plain rfl rfl (fun K hK => ?_)
      go_simp
      exact hK _ _ ⟨_, q, rfl, by omega, hRd.alloc _, Turns.alloc _ _, ⟨_, rfl, by have := hRd.lt; omega, by have := hLe.size; (try simp at this); omega, heap_alloc_new _ _⟩, nofun⟩
  intro vs w1 q1 hq1 hr1 hg1 hT1 hN1
  replace hg1 := hg1.grown
  obtain ⟨a5, e5, hb5, hB5, hh5⟩ : (kNew g g (fun _ => False) (w.heap.size + 1) 25 #[.int .i64 0, .int .i64 0, .slice none 0 0]).p (vs 13) w1 := hT1 13 5 rfl
  obtain ⟨a19, hb19, hB19, hh19, x19_0, x19_1, bx19_0, cx19_0, bx19_1, cx19_1, e19⟩ : (kAgE g g (fun _ => False) (w.heap.size + 1) 3 (fun s v => ∃ y0 : Int, ∃ y1 : Int, 0 ≤ y0 ∧ y0 ≤ 100000 ∧ 1 ≤ y1 ∧ y1 ≤ 10 ∧ v = .agg #[.int .i64 y0, .int .i64 y1, s])).p (vs 12) w1 := hT1 12 19 rfl
  clear hT1 hN1
  simp only [putAll, List.drop_succ_cons, List.drop_zero, e5, e19]
  clear e5 e19
  go_simp
  have hZ1 := heap_far hZ0 hg1 (by omega)
  have hG1 := grown_trans hG0 hg1
  have hs1 := hG1.size
  clear hZ0 hG0 hr0 hg1
  refine wpList_store_var rfl 25 (.tmp 5) (.tmp 19) rfl #[.int .i64 x19_0, .int .i64 x19_1, .slice (some ⟨a19, 0, none⟩) 0 0] hh5 rfl rfl (by kernel_rfl) rfl rfl ?_
  intro w2 hh2 hg2 hs2
  have hne : a19 ≠ a5 := by
    intro e
    subst e
    rw [hh5] at hh19
    cases hh19
  have hZ2 := heap_far hZ1 hg2 (by omega)
  have hr2 := hr1.far hg2 hb5.1 (by omega)
  have hG2 := grown_far hG1 hg2 (by omega)
  have hP2 : PAcc w2 (w.heap.size + 1) 3 [true] (.slice (some ⟨a19, 0, none⟩) 0 0) 0 :=
    pacc_of (heap_far hh19 hg2 hne) ⟨#[], rfl, rfl, fun _ => [.int .i64 0], fun _ => ⟨0, [], rfl, by decide, rfl⟩, rfl⟩ hB19 (Nat.le_refl _) (by unfold maxLen; omega)
  have hx0 := heap_lt hh2
  clear hZ1 hr1 hG1 hh5 hh19 hg2 hs2 hs1
  go_wp2_with fail
  go_loopw [6] (fun i wr => ∃ (j k q b c1 : Nat), i = .int .i64 (k : Int) ∧ 1 ≤ k ∧ (k : Int) ≤ x19_1 + 0 ∧ j + 1 ≤ k ∧ wr.heap[w.heap.size]? = some (.cells #[.int .i64 0, .int .i64 0, .slice none 0 0] 25 (0, 0)) ∧ wr.heap[a5]? = some (.cells #[.int .i64 x19_0, .int .i64 x19_1, .slice (some ⟨b, 0, none⟩) j c1] 25 (0, 0)) ∧ PAcc wr (w.heap.size + 1) 3 [true] (.slice (some ⟨b, 0, none⟩) j c1) j ∧ Rd wr B g A m c q ∧ q ≤ p + 15 + k ∧ w.grownBy wr (some g)) (fun i _ => (x19_1 - intOf i).toNat)
  case atStart => exact ⟨0, 1, q1, a19, 0, rfl, by omega, by omega, by omega, hZ2, hh2, hP2, hr2, by omega, hG2⟩
  case round =>
    obtain ⟨j, k, q, b, c1, rfl, hk1, hk2, hjk, hZ, hX, hP, hr, hq, hG⟩ := hrel
    clear hZ2 hh2 hP2 hr2 hG2
    have hXl := heap_lt hX
    have hbl := hP.block b rfl
    have hsz := hG.size
    have hgw := hr.lt
    have hbX : b ≠ a5 := fun e => by
      obtain ⟨c2, h2⟩ := hP.typed (k := b) rfl
      rw [e] at h2
      exact typed_ne h2 hX (by decide)
    obtain ⟨A', c', e', hjc, hjm⟩ := hP.form
    cases e'
    unfold maxLen at hjm
    by_cases hkr : (k : Int) < x19_1
    · obtain ⟨kX, fX⟩ := blk hX
      go_wp2_with fail
      refine (pick_any hr _ (by omega)).mono ?_
      rintro e w3 ⟨k3, rfl, hk, hr3, hg3, hs3⟩
      have hk4 := hk.1; have hk5 := hk.2.1 (by omega); clear hk
      have hZ3 := heap_far hZ hg3 (by omega)
      have hX3 := heap_far hX hg3 hb5.1
      have hP3 := hP.far hg3 (by omega)
      have hG3 := grown_trans hG hg3
      have hsz3 := hG3.size
      have hXl3 := heap_lt hX3
      have hbl3 := hP3.block b rfl
      clear hs3 hg3 hr kX fX hZ hX hP hG
      by_cases h0 : k3 = 0
      · subst h0
        obtain ⟨kX, fX⟩ := blk hX3
        go_wp2_with (first | (at_builtin; refine wpList_pushPA rfl (.tmp 30) (.tmp 35) 23 rfl 3 _ [true] 8 Try.underlying23 info_int (by decide) (by decide) (by decide) rfl (hP3.next (below_new _ _)) rfl (heap_alloc_new _ _) (plain1 (by omega)) (by omega) (by simp <;> omega) ?_; intro v' w4 hP4 hB4 hg4 hw4; replace hg4 : (w3.alloc (.cells #[.int .i64 (x19_0 + (k : Int))] 3)).grownBy w4 (some b) := hg4; have hX4 := (hg4.block a5 (by simp <;> omega) (by simp <;> omega)).trans ((Below.heap_alloc w3 (.cells #[.int .i64 (x19_0 + (k : Int))] 3) a5 (by omega)).trans hX3); have hZ4 := (hg4.block w.heap.size (by simp <;> omega) (by simp <;> omega)).trans ((Below.heap_alloc w3 (.cells #[.int .i64 (x19_0 + (k : Int))] 3) w.heap.size (by omega)).trans hZ3); obtain ⟨b', c'', rfl, hb1, hb2⟩ := hP4.at_ (by omega)) | (refine wpList_store_at rfl 23 (.tmp 37) (.tmp 36) rfl (.slice (some ⟨b', 0, none⟩) (j + 1) c'') #[.int .i64 x19_0, .int .i64 x19_1, .slice (some ⟨b', 0, none⟩) (j + 1) c''] hX4 rfl rfl (by kernel_rfl) rfl rfl (by simp) rfl ?_; intro w5 hX5 hg5 hs5))
        have hbX4 : b' ≠ a5 := fun e => by
          obtain ⟨c2, h2⟩ := hP4.typed (k := b') rfl
          rw [e] at h2
          exact typed_ne h2 hX4 (by decide)
        have hr4 := (Rd.alloc hr3 (.cells #[.int .i64 (x19_0 + (k : Int))] 3)).lower hB4 (by omega)
        have hG4 := grown_low (grown_alloc hG3 (.cells #[.int .i64 (x19_0 + (k : Int))] 3)) (hB4.mono (Nat.le_succ _))
        go_roundw
        case rel => exact ⟨j + 1, k + 1, q + 1, b', c'', by go_num, by omega, by omega, by omega, heap_far hZ4 hg5 (by omega), hX5, hP4.kept hg5 (.inr (by simpa [Value.ownBlock] using hbX4)), hr4.far hg5 hb5.1 (by omega), by omega, grown_far hG4 hg5 (by omega)⟩
        case measure => simp [intOf]; omega
      · have hk6 : (k3 == 0) = false := by simpa using h0
        go_wp2
        go_roundw
        case rel => exact ⟨j, k + 1, q + 1, b, c1, by go_num, by omega, by omega, by omega, hZ3, hX3, hP3, hr3, by omega, hG3⟩
        case measure => simp [intOf]; omega
    · obtain ⟨kX, fX⟩ := blk hX
      have hj10 : j ≤ 9 := by omega
      have hq10 : q ≤ p + 25 := by omega
      have hd : decide ((k : Int) < x19_1) = false := by simp; omega
      go_wp2_with fail
      refine (odd_any hr _ hn (by omega)).mono ?_
      rintro e w3 ⟨od, q3, rfl, hq3, hr3, hg3, hs3, hy3⟩
      have hZ3 := heap_far hZ hg3 (by omega)
      have hX3 := heap_far hX hg3 hb5.1
      have hP3 := hP.far hg3 (by omega)
      have hG3 := grown_trans hG hg3
      have hsz3 := hG3.size
      clear hs3 hg3 hr kX fX hZ hX hP hG hy3
      cases od with
      | false =>
        have hX := hX3
        have hZ := hZ3
        have hP := hP3
        have hr := hr3
        have hG := hG3
        obtain ⟨k1, f1⟩ := blk hX
        go_wp2_with (refine wpList_store_var rfl 25 (.tmp 4) (.tmp 74) rfl _ hZ rfl rfl (by kernel_rfl) rfl rfl ?_)
        intro w9 hh9 hg9 hs9
        have hr9 := hr.far hg9 (show w.heap.size ≠ g by omega) (by omega)
        have hG9 := grown_far hG hg9 (Nat.le_refl _)
        have hP9 := hP.kept hg9 (.inr (by simp [Value.ownBlock]; omega))
        obtain ⟨z9, hz9⟩ := hP9.rows
        obtain ⟨k9, f9⟩ := blk hh9
        go_wp2
        refine bodyPost_ret (v := .agg #[.int .i64 (x19_0), .int .i64 (x19_1), .slice (some ⟨b, 0, none⟩) (j) (c1)]) (by simp [results, Try.results12, go_sem, k9]) rfl ⟨_, _, _, _, _, _, _, rfl, by omega, hz9, by omega, hr9, hG9, fun b off e => by cases e; omega⟩
      | true =>
        go_wp2_with fail
        refine (pick_any hr3 _ (by omega)).mono ?_
        rintro e w4 ⟨k4, rfl, hk, hr4, hg4, hs4⟩
        have hk5 := hk.1; have hk6 := hk.2.1 (by omega); clear hk
        have hZ4 := heap_far hZ3 hg4 (by omega)
        have hX4 := heap_far hX3 hg4 hb5.1
        have hP4 := hP3.far hg4 (by omega)
        have hG4 := grown_trans hG3 hg4
        have hsz4 := hG4.size
        have hXg : a5 ≠ g ∧ a5 ≠ g := ⟨hb5.1, hb5.1⟩
        have hXl4 := heap_lt hX4
        have hg4l := hr4.lt
        clear hs4 hg4 hr3 hZ3 hX3 hP3 hG3
        rcases (show k4 = 0 ∨ k4 = 1 ∨ k4 = 2 by omega) with rfl | rfl | rfl
        · go_upto_region 11 with (fail)
          refine wp_region_draws (ds := [(0, 51), (1, 52), (2, 53), (3, 54), (4, 55), (5, 56)]) (B := B) (g := g) (z := g) (O := fun _ => False) (A := A) (m := m) (c := c) (p := _) 6 1 [kArr g g (fun _ => False) 3 2 (fun cs => cs = #[.int .i64 (-1), .int .i64 100001]), kIs g g (fun _ => False) (.pointer (some ⟨g, 0, none⟩)), kInt g g (fun _ => False) 0 1, kCell g g (fun _ => False) (fun v => ∃ y0 : Int, (-1) ≤ y0 ∧ y0 ≤ 100001 ∧ v = .int .i64 y0), kInt g g (fun _ => False) (-1) 100001, kIs g g (fun _ => False) (.pointer (some ⟨a5, 0, none⟩))] (by kernel_rfl) (by kernel_rfl) (by first | exact .inl rfl | exact .inr (by kernel_rfl)) hr4 (Rd.lt hr4) (by rfl) ?_ rfl rfl ?_
          · refine each_cons ?_ ( each_cons ?_ ( each_cons ?_ ( each_cons ?_ ( each_cons ?_ ( each_cons ?_ ( each_nil))))))
            · intro q a' w' hq hRd hLe hzl hfr hdep
              refine wpOp_plain rfl rfl (fun K hK => ?_)
              go_simp
              exact hK _ _ ⟨_, q, rfl, by omega, hRd.alloc _, Turns.alloc _ _, ⟨_, _, rfl, by have := hRd.lt; omega, heap_alloc_new _ _, rfl⟩, nofun⟩
            · intro q a' w' hq hRd hLe hzl hfr hdep
              have e0 : a'.tmps.getD 0 undef = .pointer (some ⟨g, 0, none⟩) := hfr 0 rfl
              have f0 := e0; simp only [Array.getD_eq_getD_getElem?] at f0
              refine wpOp_plain rfl rfl (fun K hK => ?_)
              go_simp
              exact hK _ _ ⟨_, q, rfl, by omega, hRd, Turns.refl _, rfl, nofun⟩
            · intro q a' w' hq hRd hLe hzl hfr hdep
              have e52 : a'.tmps.getD 52 undef = .pointer (some ⟨g, 0, none⟩) := hdep 1 _ 52 rfl rfl rfl
              have f52 := e52; simp only [Array.getD_eq_getD_getElem?] at f52
              refine wpOp_plain rfl rfl (fun K hK => ?_)
              go_simp
              refine (pick_any hRd _ (by omega)).mono ?_
              rintro e w2 ⟨k, rfl, hk, hr, hg, hs⟩
              have hk1 := hk.1; have hk2 := hk.2.1; have hk3 := hk.2.2
              exact hK _ _ ⟨_, _, rfl, by omega, hr, Turns.of_grown hg, ⟨k, rfl, by omega, by omega⟩, nofun⟩
            · intro q a' w' hq hRd hLe hzl hfr hdep
              obtain ⟨a51, cs51, e51, hb51, hh51, rfl⟩ : (kArr g g (fun _ => False) 3 2 (fun cs => cs = #[.int .i64 (-1), .int .i64 100001])).p (a'.tmps.getD 51 undef) w' := hdep 0 _ 51 rfl rfl rfl
              have f51 := e51; simp only [Array.getD_eq_getD_getElem?] at f51
              obtain ⟨x53, e53, b53, c53⟩ : (kInt g g (fun _ => False) 0 1).p (a'.tmps.getD 53 undef) w' := hdep 2 _ 53 rfl rfl rfl
              have f53 := e53; simp only [Array.getD_eq_getD_getElem?] at f53
              rcases (show x53 = 0 ∨ x53 = 1 by omega) with rfl | rfl
              · refine wpOp_plain rfl rfl (fun K hK => ?_)
                go_simp
                exact hK _ _ ⟨_, q, rfl, by omega, hRd, Turns.refl _, ⟨_, _, _, rfl, hb51, (cell_of_row _ _ 0 _ _ _ hh51).trans rfl, (-1), by omega, by omega, rfl⟩, nofun⟩
              · refine wpOp_plain rfl rfl (fun K hK => ?_)
                go_simp
                exact hK _ _ ⟨_, q, rfl, by omega, hRd, Turns.refl _, ⟨_, _, _, rfl, hb51, (cell_of_row _ _ 1 _ _ _ hh51).trans rfl, 100001, by omega, by omega, rfl⟩, nofun⟩
            · intro q a' w' hq hRd hLe hzl hfr hdep
              obtain ⟨a54, o54, v54, e54, hb54, hc54, y54_0, by54_0, cy54_0, rfl⟩ : (kCell g g (fun _ => False) (fun v => ∃ y0 : Int, (-1) ≤ y0 ∧ y0 ≤ 100001 ∧ v = .int .i64 y0)).p (a'.tmps.getD 54 undef) w' := hdep 3 _ 54 rfl rfl rfl
              have f54 := e54; simp only [Array.getD_eq_getD_getElem?] at f54
              refine wpOp_plain rfl rfl (fun K hK => ?_)
              go_simp
              exact hK _ _ ⟨_, q, rfl, by omega, hRd, Turns.refl _, ⟨_, rfl, by omega, by omega⟩, nofun⟩
            · intro q a' w' hq hRd hLe hzl hfr hdep
              have e5 : a'.tmps.getD 5 undef = .pointer (some ⟨a5, 0, none⟩) := hfr 5 rfl
              have f5 := e5; simp only [Array.getD_eq_getD_getElem?] at f5
              refine wpOp_plain rfl rfl (fun K hK => ?_)
              go_simp
              exact hK _ _ ⟨_, q, rfl, by omega, hRd, Turns.refl _, rfl, nofun⟩
          intro vs w6 q6 hq6 hr6 hg6 hT6 hN6
          replace hg6 := hg6.grown
          obtain ⟨x55, e55, b55, c55⟩ : (kInt g g (fun _ => False) (-1) 100001).p (vs 4) w6 := hT6 4 55 rfl
          have e56 : vs 5 = .pointer (some ⟨a5, 0, none⟩) := hT6 5 56 rfl
          clear hT6 hN6
          simp only [putAll, List.drop_succ_cons, List.drop_zero, e55, e56]
          clear e55 e56
          go_simp
          have hX6 := heap_far hX4 hg6 hb5.1
          have hZ6 := heap_far hZ4 hg6 (by omega)
          have hP6 := hP4.far hg6 (by omega)
          have hG6 := grown_trans hG4 hg6
          refine wpList_store_at rfl 3 (.tmp 56) (.tmp 55) rfl (.int .i64 x55) #[.int .i64 x55, .int .i64 x19_1, .slice (some ⟨b, 0, none⟩) j c1] hX6 rfl rfl (by kernel_rfl) rfl rfl (by simp) rfl ?_
          intro w7 hX hg7 hs7
          have hZ := heap_far hZ6 hg7 (by omega)
          have hP := hP6.kept hg7 (.inr (by simpa [Value.ownBlock] using hbX))
          have hr := hr6.far hg7 hb5.1 (by omega)
          have hG := grown_far hG6 hg7 (by omega)
          clear hX4 hZ4 hP4 hr4 hG4 hX6 hZ6 hP6 hr6 hG6 hg6 hg7
          obtain ⟨k1, f1⟩ := blk hX
          go_wp2_with (refine wpList_store_var rfl 25 (.tmp 4) (.tmp 74) rfl _ hZ rfl rfl (by kernel_rfl) rfl rfl ?_)
          intro w9 hh9 hg9 hs9
          have hr9 := hr.far hg9 (show w.heap.size ≠ g by omega) (by omega)
          have hG9 := grown_far hG hg9 (Nat.le_refl _)
          have hP9 := hP.kept hg9 (.inr (by simp [Value.ownBlock]; omega))
          obtain ⟨z9, hz9⟩ := hP9.rows
          obtain ⟨k9, f9⟩ := blk hh9
          go_wp2
          refine bodyPost_ret (v := .agg #[.int .i64 (x55), .int .i64 (x19_1), .slice (some ⟨b, 0, none⟩) (j) (c1)]) (by simp [results, Try.results12, go_sem, k9]) rfl ⟨_, _, _, _, _, _, _, rfl, by omega, hz9, by omega, hr9, hG9, fun b off e => by cases e; omega⟩
        · have PH := hP4.base (B' := 0) (Nat.zero_le _)
          obtain ⟨⟨o0, hz0, _⟩, _, hnc0, hcm0⟩ := PH.arr
          have hbg : b ≠ g := by omega
          have hBz : B ≤ b := by omega
          have hXz : a5 ≠ g ∧ a5 ≠ b := ⟨hb5.1, Ne.symm hbX⟩
          go_upto_region 13 with (fail)
          refine wp_region_draws (ds := [(0, 59), (1, 60), (2, 61), (3, 62), (4, 63), (5, 64), (6, 65), (7, 66), (8, 67), (9, 68), (10, 69), (11, 70), (12, 71), (13, 72), (14, 73)]) (B := B) (g := g) (z := b) (O := arrO 3 [true] (j + 1) c1) (A := A) (m := m) (c := c) (p := _) 15 1 [kIs g (b) (arrO 3 [true] (j + 1) c1) (.pointer (some ⟨a5, 2, none⟩)), kIs g (b) (arrO 3 [true] (j + 1) c1) (.slice (some ⟨b, 0, none⟩) j c1), kIs g (b) (arrO 3 [true] (j + 1) c1) (.pointer (some ⟨a5, 0, none⟩)), kIs g (b) (arrO 3 [true] (j + 1) c1) (.int .i64 x19_0), kIs g (b) (arrO 3 [true] (j + 1) c1) (.pointer (some ⟨a5, 1, none⟩)), kIs g (b) (arrO 3 [true] (j + 1) c1) (.int .i64 x19_1), kArr g (b) (arrO 3 [true] (j + 1) c1) 3 2 (fun cs => ∃ y0 : Int, 1 ≤ y0 ∧ y0 ≤ 10 ∧ cs = #[.int .i64 0, .int .i64 y0]), kIs g (b) (arrO 3 [true] (j + 1) c1) (.pointer (some ⟨g, 0, none⟩)), kInt g (b) (arrO 3 [true] (j + 1) c1) 0 1, kCell g (b) (arrO 3 [true] (j + 1) c1) (fun v => ∃ y0 : Int, 0 ≤ y0 ∧ y0 ≤ 10 ∧ v = .int .i64 y0), kInt g (b) (arrO 3 [true] (j + 1) c1) 0 10, kInt g (b) (arrO 3 [true] (j + 1) c1) 0 100010, kArr g (b) (arrO 3 [true] (j + 1) c1) 3 1 (fun cs => ∃ y0 : Int, 0 ≤ y0 ∧ y0 ≤ 100010 ∧ cs = #[.int .i64 y0]), kGrow g (b) 3 [true] (j) (c1) (w4.heap.size), kIs g (b) (arrO 3 [true] (j + 1) c1) (.pointer (some ⟨a5, 2, none⟩))] (by kernel_rfl) (by kernel_rfl) (by first | exact .inl rfl | exact .inr (by kernel_rfl)) hr4 (heap_lt hz0) (by rfl) ?_ rfl rfl ?_
          · refine each_cons ?_ ( each_cons ?_ ( each_cons ?_ ( each_cons ?_ ( each_cons ?_ ( each_cons ?_ ( each_cons ?_ ( each_cons ?_ ( each_cons ?_ ( each_cons ?_ ( each_cons ?_ ( each_cons ?_ ( each_cons ?_ ( each_cons ?_ ( each_cons ?_ ( each_nil)))))))))))))))
            · intro q a' w' hq hRd hLe hzl hfr hdep
              have e5 : a'.tmps.getD 5 undef = .pointer (some ⟨a5, 0, none⟩) := hfr 5 rfl
              have f5 := e5; simp only [Array.getD_eq_getD_getElem?] at f5
              refine wpOp_plain rfl rfl (fun K hK => ?_)
              go_simp
              exact hK _ _ ⟨_, q, rfl, by omega, hRd, Turns.refl _, rfl, nofun⟩
            · intro q a' w' hq hRd hLe hzl hfr hdep
              have e59 : a'.tmps.getD 59 undef = .pointer (some ⟨a5, 2, none⟩) := hdep 0 _ 59 rfl rfl rfl
              have f59 := e59; simp only [Array.getD_eq_getD_getElem?] at f59
              have hhx := hLe.keep hX4 hXz.1 hXz.2
              obtain ⟨kx, fx⟩ := blk hhx; clear hhx
              refine wpOp_plain rfl rfl (fun K hK => ?_)
              go_simp
              exact hK _ _ ⟨_, q, rfl, by omega, hRd, Turns.refl _, rfl, nofun⟩
            · intro q a' w' hq hRd hLe hzl hfr hdep
              have e5 : a'.tmps.getD 5 undef = .pointer (some ⟨a5, 0, none⟩) := hfr 5 rfl
              have f5 := e5; simp only [Array.getD_eq_getD_getElem?] at f5
              refine wpOp_plain rfl rfl (fun K hK => ?_)
              go_simp
              exact hK _ _ ⟨_, q, rfl, by omega, hRd, Turns.refl _, rfl, nofun⟩
            · intro q a' w' hq hRd hLe hzl hfr hdep
              have e61 : a'.tmps.getD 61 undef = .pointer (some ⟨a5, 0, none⟩) := hdep 2 _ 61 rfl rfl rfl
              have f61 := e61; simp only [Array.getD_eq_getD_getElem?] at f61
              have hhx := hLe.keep hX4 hXz.1 hXz.2
              obtain ⟨kx, fx⟩ := blk hhx; clear hhx
              refine wpOp_plain rfl rfl (fun K hK => ?_)
              go_simp
              exact hK _ _ ⟨_, q, rfl, by omega, hRd, Turns.refl _, rfl, nofun⟩
            · intro q a' w' hq hRd hLe hzl hfr hdep
              have e5 : a'.tmps.getD 5 undef = .pointer (some ⟨a5, 0, none⟩) := hfr 5 rfl
              have f5 := e5; simp only [Array.getD_eq_getD_getElem?] at f5
              refine wpOp_plain rfl rfl (fun K hK => ?_)
              go_simp
              exact hK _ _ ⟨_, q, rfl, by omega, hRd, Turns.refl _, rfl, nofun⟩
            · intro q a' w' hq hRd hLe hzl hfr hdep
              have e63 : a'.tmps.getD 63 undef = .pointer (some ⟨a5, 1, none⟩) := hdep 4 _ 63 rfl rfl rfl
              have f63 := e63; simp only [Array.getD_eq_getD_getElem?] at f63
              have hhx := hLe.keep hX4 hXz.1 hXz.2
              obtain ⟨kx, fx⟩ := blk hhx; clear hhx
              refine wpOp_plain rfl rfl (fun K hK => ?_)
              go_simp
              exact hK _ _ ⟨_, q, rfl, by omega, hRd, Turns.refl _, rfl, nofun⟩
            · intro q a' w' hq hRd hLe hzl hfr hdep
              have e64 : a'.tmps.getD 64 undef = .int .i64 x19_1 := hdep 5 _ 64 rfl rfl rfl
              have f64 := e64; simp only [Array.getD_eq_getD_getElem?] at f64
              refine wpOp_plain rfl rfl (fun K hK => ?_)
              go_simp
              exact hK _ _ ⟨_, q, rfl, by omega, hRd.alloc _, Turns.alloc _ _, ⟨_, _, rfl, by have := hRd.lt; omega, heap_alloc_new _ _, x19_1, by omega, by omega, rfl⟩, nofun⟩
            · intro q a' w' hq hRd hLe hzl hfr hdep
              have e0 : a'.tmps.getD 0 undef = .pointer (some ⟨g, 0, none⟩) := hfr 0 rfl
              have f0 := e0; simp only [Array.getD_eq_getD_getElem?] at f0
              refine wpOp_plain rfl rfl (fun K hK => ?_)
              go_simp
              exact hK _ _ ⟨_, q, rfl, by omega, hRd, Turns.refl _, rfl, nofun⟩
            · intro q a' w' hq hRd hLe hzl hfr hdep
              have e66 : a'.tmps.getD 66 undef = .pointer (some ⟨g, 0, none⟩) := hdep 7 _ 66 rfl rfl rfl
              have f66 := e66; simp only [Array.getD_eq_getD_getElem?] at f66
              refine wpOp_plain rfl rfl (fun K hK => ?_)
              go_simp
              refine (pick_any hRd _ (by omega)).mono ?_
              rintro e w2 ⟨k, rfl, hk, hr, hg, hs⟩
              have hk1 := hk.1; have hk2 := hk.2.1; have hk3 := hk.2.2
              exact hK _ _ ⟨_, _, rfl, by omega, hr, Turns.of_grown hg, ⟨k, rfl, by omega, by omega⟩, nofun⟩
            · intro q a' w' hq hRd hLe hzl hfr hdep
              obtain ⟨a65, cs65, e65, hb65, hh65, y65_1, by65_1, cy65_1, rfl⟩ : (kArr g (b) (arrO 3 [true] (j + 1) c1) 3 2 (fun cs => ∃ y0 : Int, 1 ≤ y0 ∧ y0 ≤ 10 ∧ cs = #[.int .i64 0, .int .i64 y0])).p (a'.tmps.getD 65 undef) w' := hdep 6 _ 65 rfl rfl rfl
              have f65 := e65; simp only [Array.getD_eq_getD_getElem?] at f65
              obtain ⟨x67, e67, b67, c67⟩ : (kInt g (b) (arrO 3 [true] (j + 1) c1) 0 1).p (a'.tmps.getD 67 undef) w' := hdep 8 _ 67 rfl rfl rfl
              have f67 := e67; simp only [Array.getD_eq_getD_getElem?] at f67
              rcases (show x67 = 0 ∨ x67 = 1 by omega) with rfl | rfl
              · refine wpOp_plain rfl rfl (fun K hK => ?_)
                go_simp
                exact hK _ _ ⟨_, q, rfl, by omega, hRd, Turns.refl _, ⟨_, _, _, rfl, hb65, (cell_of_row _ _ 0 _ _ _ hh65).trans rfl, 0, by omega, by omega, rfl⟩, nofun⟩
              · refine wpOp_plain rfl rfl (fun K hK => ?_)
                go_simp
                exact hK _ _ ⟨_, q, rfl, by omega, hRd, Turns.refl _, ⟨_, _, _, rfl, hb65, (cell_of_row _ _ 1 _ _ _ hh65).trans rfl, y65_1, by omega, by omega, rfl⟩, nofun⟩
            · intro q a' w' hq hRd hLe hzl hfr hdep
              obtain ⟨a68, o68, v68, e68, hb68, hc68, y68_0, by68_0, cy68_0, rfl⟩ : (kCell g (b) (arrO 3 [true] (j + 1) c1) (fun v => ∃ y0 : Int, 0 ≤ y0 ∧ y0 ≤ 10 ∧ v = .int .i64 y0)).p (a'.tmps.getD 68 undef) w' := hdep 9 _ 68 rfl rfl rfl
              have f68 := e68; simp only [Array.getD_eq_getD_getElem?] at f68
              refine wpOp_plain rfl rfl (fun K hK => ?_)
              go_simp
              exact hK _ _ ⟨_, q, rfl, by omega, hRd, Turns.refl _, ⟨_, rfl, by omega, by omega⟩, nofun⟩
            · intro q a' w' hq hRd hLe hzl hfr hdep
              have e62 : a'.tmps.getD 62 undef = .int .i64 x19_0 := hdep 3 _ 62 rfl rfl rfl
              have f62 := e62; simp only [Array.getD_eq_getD_getElem?] at f62
              obtain ⟨x69, e69, b69, c69⟩ : (kInt g (b) (arrO 3 [true] (j + 1) c1) 0 10).p (a'.tmps.getD 69 undef) w' := hdep 10 _ 69 rfl rfl rfl
              have f69 := e69; simp only [Array.getD_eq_getD_getElem?] at f69
              have r70 : IntKind.i64.wrap (x19_0 + x69) = x19_0 + x69 := IntWalk.i64_in _ (by omega)
              refine wpOp_plain rfl rfl (fun K hK => ?_)
              go_simp
              exact hK _ _ ⟨_, q, rfl, by omega, hRd, Turns.refl _, ⟨_, rfl, by omega, by omega⟩, nofun⟩
            · intro q a' w' hq hRd hLe hzl hfr hdep
              obtain ⟨x70, e70, b70, c70⟩ : (kInt g (b) (arrO 3 [true] (j + 1) c1) 0 100010).p (a'.tmps.getD 70 undef) w' := hdep 11 _ 70 rfl rfl rfl
              have f70 := e70; simp only [Array.getD_eq_getD_getElem?] at f70
              refine wpOp_plain rfl rfl (fun K hK => ?_)
              go_simp
              exact hK _ _ ⟨_, q, rfl, by omega, hRd.alloc _, Turns.alloc _ _, ⟨_, _, rfl, by have := hRd.lt; omega, heap_alloc_new _ _, x70, by omega, by omega, rfl⟩, nofun⟩
            · intro q a' w' hq hRd hLe hzl hfr hdep
              have e60 : a'.tmps.getD 60 undef = .slice (some ⟨b, 0, none⟩) j c1 := hdep 1 _ 60 rfl rfl rfl
              have f60 := e60; simp only [Array.getD_eq_getD_getElem?] at f60
              obtain ⟨a71, cs71, e71, hb71, hh71, y71_0, by71_0, cy71_0, rfl⟩ : (kArr g (b) (arrO 3 [true] (j + 1) c1) 3 1 (fun cs => ∃ y0 : Int, 0 ≤ y0 ∧ y0 ≤ 100010 ∧ cs = #[.int .i64 y0])).p (a'.tmps.getD 71 undef) w' := hdep 12 _ 71 rfl rfl rfl
              have f71 := e71; simp only [Array.getD_eq_getD_getElem?] at f71
              refine wpOp_plain rfl rfl (fun K hK => ?_)
              refine wp_push (g := g) (zb := b) (B := w4.heap.size) (n := j) (c := c1) (ks := [true]) (.tmp 60) (.tmp 71) 23 rfl _ 8 Try.underlying23 info_int (by decide) (by decide) (by decide) e60 (pacc_turned PH hLe hbg) hbg e71 hh71 (plain1 (by omega)) (by omega) hRd.lt (by have := hLe.size; omega) ?_
              intro v2 w2 hv2 hT2 hO2
              exact hK _ _ ⟨_, q, rfl, by omega, hRd.pushed hO2 hbg hBz, hT2, hv2, nofun⟩
            · intro q a' w' hq hRd hLe hzl hfr hdep
              have e5 : a'.tmps.getD 5 undef = .pointer (some ⟨a5, 0, none⟩) := hfr 5 rfl
              have f5 := e5; simp only [Array.getD_eq_getD_getElem?] at f5
              refine wpOp_plain rfl rfl (fun K hK => ?_)
              go_simp
              exact hK _ _ ⟨_, q, rfl, by omega, hRd, Turns.refl _, rfl, nofun⟩
          intro vs w6 q6 hq6 hr6 hg6 hT6 hN6
          obtain h72 : (kGrow g (b) 3 [true] (j) (c1) (w4.heap.size)).p (vs 13) w6 := hT6 13 72 rfl
          have e73 : vs 14 = .pointer (some ⟨a5, 2, none⟩) := hT6 14 73 rfl
          clear hT6 hN6
          simp only [putAll, List.drop_succ_cons, List.drop_zero, e73]
          clear e73
          go_simp
          obtain ⟨b', c', hv, hb'g, hb'c, hb'B, hP'⟩ := h72
          have hb'l := (hP'.block b' (by rw [hv]; rfl)).2
          rw [hv] at hP' ⊢
          have hX6 := hg6.keep hX4 hXz.1 hXz.2
          have hZ6 := hg6.keep hZ4 (by omega) (by omega)
          have hs6 := hg6.size
          have hbX6 : b' ≠ a5 := fun e => by
            obtain ⟨c2, h2⟩ := hP'.typed (k := b') rfl
            rw [e] at h2
            exact typed_ne h2 hX6 (by decide)
          have hG6 : w.grownBy w6 (some g) := ⟨hg6.os.trans hG4.os, hg6.tape.trans hG4.tape, hg6.output.trans hG4.output, by omega, fun k hk hne => by
            have h1 : k ≠ g := by simpa using hne
            rcases hg6.block k (by omega) h1 with h2 | ⟨h2, _⟩
            · exact h2.trans (hG4.block k hk hne)
            · omega⟩
          refine wpList_store_at rfl 23 (.tmp 73) (.tmp 72) rfl (.slice (some ⟨b', 0, none⟩) (j + 1) c') #[.int .i64 x19_0, .int .i64 x19_1, .slice (some ⟨b', 0, none⟩) (j + 1) c'] hX6 rfl rfl (by kernel_rfl) rfl rfl (by simp) rfl ?_
          intro w7 hX hg7 hs7
          have hZ := heap_far hZ6 hg7 (by omega)
          have hP := hP'.kept hg7 (.inr (by simpa [Value.ownBlock] using hbX6))
          have hr := hr6.far hg7 hb5.1 (by omega)
          have hG := grown_far hG6 hg7 (by omega)
          have hb'lo : w.heap.size ≤ b' := by omega
          clear hX4 hZ4 hP4 hr4 hG4 hX6 hZ6 hr6 hG6 hg6 hg7 hb'c hb'B hP'
          have hwb : w.heap.size ≠ b' := fun e => by
            obtain ⟨c2, h2⟩ := hP.typed (k := b') rfl
            rw [← e] at h2
            exact typed_ne h2 hZ (by decide)
          obtain ⟨k1, f1⟩ := blk hX
          go_wp2_with (refine wpList_store_var rfl 25 (.tmp 4) (.tmp 74) rfl _ hZ rfl rfl (by kernel_rfl) rfl rfl ?_)
          intro w9 hh9 hg9 hs9
          have hr9 := hr.far hg9 (show w.heap.size ≠ g by omega) (by omega)
          have hG9 := grown_far hG hg9 (Nat.le_refl _)
          have hP9 := hP.kept hg9 (.inr (by simp [Value.ownBlock]; omega))
          obtain ⟨z9, hz9⟩ := hP9.rows
          obtain ⟨k9, f9⟩ := blk hh9
          go_wp2
          refine bodyPost_ret (v := .agg #[.int .i64 (x19_0), .int .i64 (x19_1), .slice (some ⟨b', 0, none⟩) (j + 1) (c')]) (by simp [results, Try.results12, go_sem, k9]) rfl ⟨_, _, _, _, _, _, _, rfl, by omega, hz9, by omega, hr9, hG9, fun b off e => by cases e; omega⟩
        · go_upto_region 9 with (fail)
          refine wp_region_draws (ds := [(0, 43), (1, 44), (2, 45), (3, 46), (4, 47), (5, 48)]) (B := B) (g := g) (z := g) (O := fun _ => False) (A := A) (m := m) (c := c) (p := _) 6 1 [kArr g g (fun _ => False) 3 2 (fun cs => cs = #[.int .i64 0, .int .i64 11]), kIs g g (fun _ => False) (.pointer (some ⟨g, 0, none⟩)), kInt g g (fun _ => False) 0 1, kCell g g (fun _ => False) (fun v => ∃ y0 : Int, 0 ≤ y0 ∧ y0 ≤ 11 ∧ v = .int .i64 y0), kInt g g (fun _ => False) 0 11, kIs g g (fun _ => False) (.pointer (some ⟨a5, 1, none⟩))] (by kernel_rfl) (by kernel_rfl) (by first | exact .inl rfl | exact .inr (by kernel_rfl)) hr4 (Rd.lt hr4) (by rfl) ?_ rfl rfl ?_
          · refine each_cons ?_ ( each_cons ?_ ( each_cons ?_ ( each_cons ?_ ( each_cons ?_ ( each_cons ?_ ( each_nil))))))
            · intro q a' w' hq hRd hLe hzl hfr hdep
              refine wpOp_plain rfl rfl (fun K hK => ?_)
              go_simp
              exact hK _ _ ⟨_, q, rfl, by omega, hRd.alloc _, Turns.alloc _ _, ⟨_, _, rfl, by have := hRd.lt; omega, heap_alloc_new _ _, rfl⟩, nofun⟩
            · intro q a' w' hq hRd hLe hzl hfr hdep
              have e0 : a'.tmps.getD 0 undef = .pointer (some ⟨g, 0, none⟩) := hfr 0 rfl
              have f0 := e0; simp only [Array.getD_eq_getD_getElem?] at f0
              refine wpOp_plain rfl rfl (fun K hK => ?_)
              go_simp
              exact hK _ _ ⟨_, q, rfl, by omega, hRd, Turns.refl _, rfl, nofun⟩
            · intro q a' w' hq hRd hLe hzl hfr hdep
              have e44 : a'.tmps.getD 44 undef = .pointer (some ⟨g, 0, none⟩) := hdep 1 _ 44 rfl rfl rfl
              have f44 := e44; simp only [Array.getD_eq_getD_getElem?] at f44
              refine wpOp_plain rfl rfl (fun K hK => ?_)
              go_simp
              refine (pick_any hRd _ (by omega)).mono ?_
              rintro e w2 ⟨k, rfl, hk, hr, hg, hs⟩
              have hk1 := hk.1; have hk2 := hk.2.1; have hk3 := hk.2.2
              exact hK _ _ ⟨_, _, rfl, by omega, hr, Turns.of_grown hg, ⟨k, rfl, by omega, by omega⟩, nofun⟩
            · intro q a' w' hq hRd hLe hzl hfr hdep
              obtain ⟨a43, cs43, e43, hb43, hh43, rfl⟩ : (kArr g g (fun _ => False) 3 2 (fun cs => cs = #[.int .i64 0, .int .i64 11])).p (a'.tmps.getD 43 undef) w' := hdep 0 _ 43 rfl rfl rfl
              have f43 := e43; simp only [Array.getD_eq_getD_getElem?] at f43
              obtain ⟨x45, e45, b45, c45⟩ : (kInt g g (fun _ => False) 0 1).p (a'.tmps.getD 45 undef) w' := hdep 2 _ 45 rfl rfl rfl
              have f45 := e45; simp only [Array.getD_eq_getD_getElem?] at f45
              rcases (show x45 = 0 ∨ x45 = 1 by omega) with rfl | rfl
              · refine wpOp_plain rfl rfl (fun K hK => ?_)
                go_simp
                exact hK _ _ ⟨_, q, rfl, by omega, hRd, Turns.refl _, ⟨_, _, _, rfl, hb43, (cell_of_row _ _ 0 _ _ _ hh43).trans rfl, 0, by omega, by omega, rfl⟩, nofun⟩
              · refine wpOp_plain rfl rfl (fun K hK => ?_)
                go_simp
                exact hK _ _ ⟨_, q, rfl, by omega, hRd, Turns.refl _, ⟨_, _, _, rfl, hb43, (cell_of_row _ _ 1 _ _ _ hh43).trans rfl, 11, by omega, by omega, rfl⟩, nofun⟩
            · intro q a' w' hq hRd hLe hzl hfr hdep
              obtain ⟨a46, o46, v46, e46, hb46, hc46, y46_0, by46_0, cy46_0, rfl⟩ : (kCell g g (fun _ => False) (fun v => ∃ y0 : Int, 0 ≤ y0 ∧ y0 ≤ 11 ∧ v = .int .i64 y0)).p (a'.tmps.getD 46 undef) w' := hdep 3 _ 46 rfl rfl rfl
              have f46 := e46; simp only [Array.getD_eq_getD_getElem?] at f46
              refine wpOp_plain rfl rfl (fun K hK => ?_)
              go_simp
              exact hK _ _ ⟨_, q, rfl, by omega, hRd, Turns.refl _, ⟨_, rfl, by omega, by omega⟩, nofun⟩
            · intro q a' w' hq hRd hLe hzl hfr hdep
              have e5 : a'.tmps.getD 5 undef = .pointer (some ⟨a5, 0, none⟩) := hfr 5 rfl
              have f5 := e5; simp only [Array.getD_eq_getD_getElem?] at f5
              refine wpOp_plain rfl rfl (fun K hK => ?_)
              go_simp
              exact hK _ _ ⟨_, q, rfl, by omega, hRd, Turns.refl _, rfl, nofun⟩
          intro vs w6 q6 hq6 hr6 hg6 hT6 hN6
          replace hg6 := hg6.grown
          obtain ⟨x47, e47, b47, c47⟩ : (kInt g g (fun _ => False) 0 11).p (vs 4) w6 := hT6 4 47 rfl
          have e48 : vs 5 = .pointer (some ⟨a5, 1, none⟩) := hT6 5 48 rfl
          clear hT6 hN6
          simp only [putAll, List.drop_succ_cons, List.drop_zero, e47, e48]
          clear e47 e48
          go_simp
          have hX6 := heap_far hX4 hg6 hb5.1
          have hZ6 := heap_far hZ4 hg6 (by omega)
          have hP6 := hP4.far hg6 (by omega)
          have hG6 := grown_trans hG4 hg6
          refine wpList_store_at rfl 3 (.tmp 48) (.tmp 47) rfl (.int .i64 x47) #[.int .i64 x19_0, .int .i64 x47, .slice (some ⟨b, 0, none⟩) j c1] hX6 rfl rfl (by kernel_rfl) rfl rfl (by simp) rfl ?_
          intro w7 hX hg7 hs7
          have hZ := heap_far hZ6 hg7 (by omega)
          have hP := hP6.kept hg7 (.inr (by simpa [Value.ownBlock] using hbX))
          have hr := hr6.far hg7 hb5.1 (by omega)
          have hG := grown_far hG6 hg7 (by omega)
          clear hX4 hZ4 hP4 hr4 hG4 hX6 hZ6 hP6 hr6 hG6 hg6 hg7
          obtain ⟨k1, f1⟩ := blk hX
          go_wp2_with (refine wpList_store_var rfl 25 (.tmp 4) (.tmp 74) rfl _ hZ rfl rfl (by kernel_rfl) rfl rfl ?_)
          intro w9 hh9 hg9 hs9
          have hr9 := hr.far hg9 (show w.heap.size ≠ g by omega) (by omega)
          have hG9 := grown_far hG hg9 (Nat.le_refl _)
          have hP9 := hP.kept hg9 (.inr (by simp [Value.ownBlock]; omega))
          obtain ⟨z9, hz9⟩ := hP9.rows
          obtain ⟨k9, f9⟩ := blk hh9
          go_wp2
          refine bodyPost_ret (v := .agg #[.int .i64 (x19_0), .int .i64 (x47), .slice (some ⟨b, 0, none⟩) (j) (c1)]) (by simp [results, Try.results12, go_sem, k9]) rfl ⟨_, _, _, _, _, _, _, rfl, by omega, hz9, by omega, hr9, hG9, fun b off e => by cases e; omega⟩
end Go.Proofs.Ytangpebnjodpnaa
