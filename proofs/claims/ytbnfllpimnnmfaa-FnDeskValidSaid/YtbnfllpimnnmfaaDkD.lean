/-
  The drawn desk: what l20Desk and DrawDeskValid hand over.
-/
import Derived.Test.YtbnfllpimnnmfaaTbl
namespace Go.Proofs.Ytbnfllpimnnmfaa
open Go Go.RowKit

/-- What the drawing of a desk leaves. -/
def DrawnK (w : World) (B g : Nat) (A : Option Addr) (m c p K : Nat) (e : Ending) (w' : World) : Prop :=
  ∃ A' m' c', ∃ x0 x1 : Int, ∃ A1 n1 c1, ∃ now : Int, ∃ q, ∃ R' R : Nat → List Value, e = .returned (.agg #[.slice A' m' c', .int .i64 x0, .int .i64 x1, .slice A1 n1 c1, .int .i64 (now)]) ∧ (∀ i, Plain [true, true, true] (R' i)) ∧ (∀ i, Plain [true, true, true, true, true, true, true] (R i)) ∧ Own w' w.heap.size 78 3 A' m' c' R' ∧ Own w' w.heap.size 81 7 A1 n1 c1 R ∧ q ≤ p + K ∧ Rd w' B g A m c q ∧ w.grownBy w' (some g)
theorem Own.typed {w w' : World} {B : Nat} {t t' : TypeId} {m : Nat} {A : Option Addr} {n c : Nat} {R : Nat → List Value} (h : Own w B t m A n c R) {b : Nat} {cs : Array Value} (hb : w.heap[b]? = some (.cells cs t' (0, 0))) (hne : t ≠ t') (hg : w.grownBy w' (some b)) : Own w' B t m A n c R := by
  obtain ⟨h1, h2, h3⟩ := h
  refine ⟨h1, h2, h3.imp id fun ⟨g, h4, h5, h6⟩ => ⟨g, h4, h5, h6.keep (hg.block g h6.lt fun e => ?_)⟩⟩
  obtain ⟨cs', e1, _⟩ := h6
  rw [show g = b by simpa using e] at e1
  exact typed_ne e1 hb hne
set_option maxRecDepth 20000 in
set_option maxHeartbeats 8000000 in
theorem l20Desk_any {w : World} {B g : Nat} {A : Option Addr} {m c p : Nat} (h : Rd w B g A m c p) (hp2 : p ≤ 300000000) :
    Calls Try.prog 39 #[(.pointer (some ⟨g, 0, none⟩)), .int .i64 3] w (DrawnK w B g A m c p 20000) := by
  have hlt := h.lt
  have hBg := h.2.1
  have hgW : g < w.heap.size + 1 := by omega
  go_enter Try.func39, Try.ntmps39
  have hr0 := h.alloc (.cells #[.slice none 0 0, .int .i64 0, .int .i64 0, .slice none 0 0, .int .i64 0] 37)
  have hZ0 := heap_alloc_new w (.cells #[.slice none 0 0, .int .i64 0, .int .i64 0, .slice none 0 0, .int .i64 0] 37)
  have hG0 := grown_alloc (grown_refl w (some g)) (.cells #[.slice none 0 0, .int .i64 0, .int .i64 0, .slice none 0 0, .int .i64 0] 37)
  go_wp2_with fail
  refine (l20PoolN_any hr0 3 (by omega) (by omega)).mono ?_
  rintro e w1 ⟨v1, m', q1, rfl, hm', hL1, hq1, hr1, hg1⟩
  obtain ⟨A', c', R', rfl, hR', hO1⟩ := hL1
  obtain ⟨a, b, d, rfl⟩ := hostR_of hR'
  have hZ1 := heap_far hZ0 hg1 (by omega)
  have hG1 := grown_trans hG0 hg1
  simp only [World.size_alloc] at hO1
  clear hg1 hr0 hZ0 hG0
  go_wp2_with fail
  refine (l20Table_any hr1 hO1 hgW hR' (by omega) 3 (by omega) (by omega)).mono ?_
  rintro e w2 ⟨x0, x1, A1, n1, c1, q2, rfl, hn1, hP2, hq2, hr2, hg2⟩
  have hO2 := hO1.farN hg2 hgW
  have hZ2 := heap_far hZ1 hg2 (by omega)
  have hG2 := grown_trans hG1 hg2
  have hz1 := hG1.size
  have hz2 := hG2.size
  obtain ⟨R, hR, hA2⟩ := hP2
  obtain ⟨Ae, ce, ee, hE2⟩ := hA2.own
  cases ee
  have hE2 := hE2.more (show w.heap.size ≤ w1.heap.size by omega)
  clear hg2 hr1 hZ1 hG1 hO1 hA2
  go_wp2_with fail
  refine (pick_any hr2 _ (by omega)).mono ?_
  rintro e w3 ⟨k3, rfl, hk, hr3, hg3, hs3⟩
  have hk1 := hk.1; have hk2 := hk.2.1 (by omega); clear hk hs3
  have hO3 := hO2.farN hg3 hgW
  have hE3 := hE2.farN hg3 hlt
  have hZ3 := heap_far hZ2 hg3 (by omega)
  have hG3 := grown_trans hG2 hg3
  have hz3 := hG3.size
  have hgl3 := hr3.lt
  have hZl3 := heap_lt hZ3
  have hx : IntKind.i64.wrap (60 + k3) = 60 + k3 := IntWalk.i64_in _ (by omega)
  have hr4 := hr3.alloc (.cells #[.slice A' m' c', .int .i64 x0, .int .i64 x1, .slice A1 n1 c1, .int .i64 (60 + k3)] 37)
  have hX4 := heap_alloc_new w3 (.cells #[.slice A' m' c', .int .i64 x0, .int .i64 x1, .slice A1 n1 c1, .int .i64 (60 + k3)] 37)
  have hZ4 := (heap_alloc_old w3 (.cells #[.slice A' m' c', .int .i64 x0, .int .i64 x1, .slice A1 n1 c1, .int .i64 (60 + k3)] 37) hZl3).trans hZ3
  have hG4 := grown_alloc hG3 (.cells #[.slice A' m' c', .int .i64 x0, .int .i64 x1, .slice A1 n1 c1, .int .i64 (60 + k3)] 37)
  have hO4 := hO3.next (below_bt w3 (.cells #[.slice A' m' c', .int .i64 x0, .int .i64 x1, .slice A1 n1 c1, .int .i64 (60 + k3)] 37))
  have hE4 := hE3.next (below_bt w3 (.cells #[.slice A' m' c', .int .i64 x0, .int .i64 x1, .slice A1 n1 c1, .int .i64 (60 + k3)] 37))
  clear hg3 hr2 hZ2 hG2 hO2 hE2 hr3 hO3 hE3
  go_wp2_with fail
  refine (odd_any hr4 _ (by omega) (by omega)).mono ?_
  rintro e w5 ⟨od, q5, rfl, hq5, hr5, hg5, hs5, hy5⟩
  have hZ5 := heap_far hZ4 hg5 (by omega)
  have hX5 := heap_far hX4 hg5 (by omega)
  have hO5 := hO4.farN hg5 hgW
  have hE5 := hE4.farN hg5 hlt
  have hG5 := grown_trans hG4 hg5
  have hb7 : w3.heap.size ≠ g ∧ w3.heap.size ≠ g := ⟨by omega, by omega⟩
  have h7W : w.heap.size < w3.heap.size := by omega
  clear hs5 hy5 hg5 hZ4 hX4 hO4 hE4 hG4 hr4 hZ3 hG3
  generalize w3.heap.size = a7 at *
  cases od with
  | false =>
    obtain ⟨k1, f1⟩ := blk hX5
    have hX := hX5
    have hZ := hZ5
    have hr := hr5
    have hG := hG5
    have hO := hO5
    have hE := hE5
    go_wp2_with (refine wpList_store_var rfl 37 (.tmp 4) (.tmp 29) rfl #[.slice A' m' c', .int .i64 x0, .int .i64 x1, .slice A1 n1 c1, .int .i64 (60 + k3)] hZ rfl rfl (by kernel_rfl) rfl rfl ?_; intro w9 hh9 hg9 hs9)
    have hr9 := hr.far hg9 (show w.heap.size ≠ g by omega) (by omega)
    have hG9 := grown_far hG hg9 (Nat.le_refl _)
    obtain ⟨k9, f9⟩ := blk hh9
    refine bodyPost_ret (v := .agg #[.slice A' m' c', .int .i64 x0, .int .i64 x1, .slice A1 n1 c1, .int .i64 (60 + k3)]) (by simp [results, Try.results39, go_sem, k9]) rfl ⟨_, _, _, _, _, _, _, _, _, _, _, _, rfl, hR', hR, (hO.typed hZ (by decide) hg9).more (by omega), (hE.typed hZ (by decide) hg9).more (by omega), by omega, hr9, hG9⟩
  | true =>
    have hX5l := heap_lt hX5
    have hZ5l := heap_lt hZ5
    go_wp2_with fail
    refine (pick_any (hr5.alloc _) _ (by omega)).mono ?_
    rintro e w7 ⟨k7, rfl, hk, hr7, hg7, hs7⟩
    have hk8 := hk.1; have hk9 := hk.2.1 (by omega); clear hk
    have hq7 := heap_far (heap_alloc_new w5 (.cells #[.int .i64 (-1), .int .i64 100001] 3)) hg7 (by omega)
    have hZ7 := heap_far ((heap_alloc_old w5 (.cells #[.int .i64 (-1), .int .i64 100001] 3) hZ5l).trans hZ5) hg7 (by omega)
    have hX7 := heap_far ((heap_alloc_old w5 (.cells #[.int .i64 (-1), .int .i64 100001] 3) hX5l).trans hX5) hg7 hb7.1
    have hO7 := (hO5.next (below_bt w5 (.cells #[.int .i64 (-1), .int .i64 100001] 3))).farN hg7 hgW
    have hE7 := (hE5.next (below_bt w5 (.cells #[.int .i64 (-1), .int .i64 100001] 3))).farN hg7 hlt
    have hG7 := grown_trans (grown_alloc hG5 (.cells #[.int .i64 (-1), .int .i64 100001] 3)) hg7
    obtain ⟨i7, rfl⟩ := Int.eq_ofNat_of_zero_le hk8
    obtain ⟨x7, hc7⟩ : ∃ x7 : Int, w7.cell? ⟨w5.heap.size, i7, none⟩ = some (.int .i64 x7) := by
      rw [(blk hq7).1]
      rcases (show i7 = 0 ∨ i7 = 1 by omega) with rfl | rfl
      · exact ⟨-1, rfl⟩
      · exact ⟨100001, rfl⟩
    have hi7 : (i7 : Int) < (2 : Int) := by omega
    have hX7l := heap_lt hX7
    clear hs7 hg7 hZ5 hX5 hO5 hE5 hr5 hG5 hq7
    go_wp2_with (first | (refine wpList_store_at rfl 3 (.tmp 28) (.tmp 27) rfl (.int .i64 x7) #[.slice A' m' c', .int .i64 x0, .int .i64 x1, .slice A1 n1 c1, .int .i64 (x7)] hX7 rfl rfl (by kernel_rfl) rfl rfl (by simp) rfl ?_; intro w8 hX hg8 hs8; have hZ := heap_far hZ7 hg8 (by omega); obtain ⟨k1, f1⟩ := blk hX; have lx := heap_lt hX) | (refine wpList_store_var rfl 37 (.tmp 4) (.tmp 29) rfl #[.slice A' m' c', .int .i64 x0, .int .i64 x1, .slice A1 n1 c1, .int .i64 (x7)] hZ rfl rfl (by kernel_rfl) rfl rfl ?_; intro w9 hh9 hg9 hs9))
    have hO := hO7.typed hX7 (by decide) hg8
    have hE := hE7.typed hX7 (by decide) hg8
    have hr := hr7.far hg8 hb7.1 (by omega)
    have hG := grown_far hG7 hg8 (by omega)
    have hr9 := hr.far hg9 (show w.heap.size ≠ g by omega) (by omega)
    have hG9 := grown_far hG hg9 (Nat.le_refl _)
    obtain ⟨k9, f9⟩ := blk hh9
    refine bodyPost_ret (v := .agg #[.slice A' m' c', .int .i64 x0, .int .i64 x1, .slice A1 n1 c1, .int .i64 (x7)]) (by simp [results, Try.results39, go_sem, k9]) rfl ⟨_, _, _, _, _, _, _, _, _, _, _, _, rfl, hR', hR, (hO.typed hZ (by decide) hg9).more (by omega), (hE.typed hZ (by decide) hg9).more (by omega), by omega, hr9, hG9⟩
/-- A drawn desk, of the world after the draw. -/
def DeskOnly (w : World) (e : Ending) (w' : World) : Prop :=
  ∃ A' m' c', ∃ x0 x1 : Int, ∃ A1 n1 c1, ∃ now : Int, ∃ a b d f0 f1 f2 f3 f4 ts la : Nat → Int, e = .returned (.agg #[.slice A' m' c', .int .i64 x0, .int .i64 x1, .slice A1 n1 c1, .int .i64 (now)]) ∧ Rws w' w'.heap.size 3 A' m' c' (hostR a b d) ∧ Rws w' w'.heap.size 7 A1 n1 c1 (entryR f0 f1 f2 f3 f4 ts la) ∧ Below w.heap.size w w'
set_option maxHeartbeats 4000000 in
theorem drawDeskValid_any {w : World} {A : Option Addr} {n c : Nat} (h : Bytes w w.heap.size A n c) :
    Calls Try.prog 19 #[.slice A n c] w (DeskOnly w) := by
  go_enter Try.func19, Try.ntmps19
  go_wp2_with fail
  refine (open_any (h.alloc (Nat.le_refl _) _) (by simp)).mono ?_
  rintro e w1 ⟨m, g, rfl, hgl, hr1, hb1, hs1⟩
  have hz1 := (hb1.block w.heap.size (by simp)).trans (heap_alloc_new w _)
  have hB1 : Below w.heap.size w w1 := (below_bt w _).trans (hb1.mono (by simp))
  have hs2 := hB1.size
  simp at hgl
  have hzl := heap_lt hz1
  clear hs1 hb1
  go_wp2_with fail
  refine (l20Desk_any hr1 (by omega)).mono ?_
  rintro e w2 ⟨A', m', c', x0, x1, A1, n1, c1, now, q, R', R, rfl, hR', hR, hO2, hE2, hq, hr2, hg2⟩
  obtain ⟨a, b, d, rfl⟩ := hostR_of hR'
  obtain ⟨f0, f1, f2, f3, f4, ts, la, rfl⟩ := entryR_of hR
  have hz2 := heap_far hz1 hg2 (by omega)
  have hB2 : Below w.heap.size w w2 := hB1.trans (below_grown hg2 hs2 (by omega))
  go_wp2_with (refine wpList_store_var rfl 37 (.tmp 2) (.tmp 5) rfl #[.slice A' m' c', .int .i64 x0, .int .i64 x1, .slice A1 n1 c1, .int .i64 (now)] hz2 rfl rfl (by kernel_rfl) rfl rfl ?_; intro w9 hh9 hg9 hs9; obtain ⟨k9, f9⟩ := blk hh9)
  refine bodyPost_ret (v := .agg #[.slice A' m' c', .int .i64 x0, .int .i64 x1, .slice A1 n1 c1, .int .i64 (now)]) (by simp [results, Try.results19, go_sem, k9]) rfl ⟨A', m', c', x0, x1, A1, n1, c1, now, a, b, d, f0, f1, f2, f3, f4, ts, la, rfl, (hO2.typed hz2 (by decide) hg9).rows, (hE2.typed hz2 (by decide) hg9).rows, Below.of_grown hB2 hg9 (Nat.le_refl _)⟩

theorem deskB_early {m : Nat} {a b d : Nat → Int} {x0 x1 : Int} {n : Nat} {f0 f1 f2 f3 f4 ts la : Nat → Int} : deskB m a b d x0 x1 n f0 f1 f2 f3 f4 ts la (-1) = false := by
  unfold deskB
  cases h2 : tabVB x0 x1 n f0 f1 f2 f3 f4 ts la with
  | false => simp
  | true =>
    rw [← tab_last h2 (-1)]
    simp [fitB, inB]
set_option maxRecDepth 20000 in
set_option maxHeartbeats 8000000 in
theorem deskValid_walk {w : World} {A : Option Addr} {n c : Nat} (h : Bytes w w.heap.size A n c) :
    Calls Try.prog 5 #[.slice A n c] w (Truly w) := by
  by_cases hn : 1048576 < n
  · go_enter Try.func5, Try.ntmps5
    go_wp2
    go_ret
    exact ⟨rfl, Below.refl _ _⟩
  go_enter Try.func5, Try.ntmps5
  go_wp2_with fail
  refine (drawDeskValid_any h).mono ?_
  rintro e w1 ⟨A', m', c', x0, x1, A1, n1, c1, now, a, b, d, f0, f1, f2, f3, f4, ts, la, rfl, hO1, hE1, hb1⟩
  have HO1 := Lib.hid (hO1.next (below_bt w1 (.cells #[.slice A' m' c', .int .i64 x0, .int .i64 x1, .slice A1 n1 c1, .int .i64 (now)] 37)))
  have HE1 := Lib.hid (hE1.next (below_bt w1 (.cells #[.slice A' m' c', .int .i64 x0, .int .i64 x1, .slice A1 n1 c1, .int .i64 (now)] 37)))
  clear hO1 hE1 h hn
  go_wp2_with fail
  refine (implDeskValid_any x0 x1 now HO1.out HE1.out (Nat.le_refl _)).mono ?_
  rintro e w2 ⟨rfl, hb2⟩
  have hB2 : Below w1.heap.size w1 w2 := Below.tr (below_bt w1 (.cells #[.slice A' m' c', .int .i64 x0, .int .i64 x1, .slice A1 n1 c1, .int .i64 (now)] 37)) hb2
  have q2 := (hb2.block w1.heap.size (by simp)).trans (heap_alloc_new w1 (.cells #[.slice A' m' c', .int .i64 x0, .int .i64 x1, .slice A1 n1 c1, .int .i64 (now)] 37))
  have HO2 := Lib.hid (HO1.out.next hb2)
  have HE2 := Lib.hid (HE1.out.next hb2)
  obtain ⟨k2, g2⟩ := blk q2
  have l2 := heap_lt q2
  clear hb2 HO1 HE1
  go_wp2_with fail
  refine (specDeskValid_any x0 x1 now HO2.out HE2.out (Nat.le_refl _)).mono ?_
  rintro e w3 ⟨rfl, hb3⟩
  have hB3 := Below.tr hB2 hb3
  have q3 := (hb3.block w1.heap.size l2).trans q2
  have HO3 := Lib.hid (HO2.out.next hb3)
  have HE3 := Lib.hid (HE2.out.next hb3)
  clear hb3 HO2 HE2 k2 g2 l2 q2 hB2
  obtain ⟨k3, g3⟩ := blk q3
  have l3 := heap_lt q3
  go_wp2_with fail
  refine (implDeskValid_any x0 x1 (-1) (HO3.out.below (by (repeat (first | exact Below.refl _ _ | assumption | refine Below.al ?_ _ | refine Below.dr ?_ | (refine Below.st ?_ (by simp <;> omega) _) | (refine Below.tr ?_ (by assumption)))))) (HE3.out.below (by (repeat (first | exact Below.refl _ _ | assumption | refine Below.al ?_ _ | refine Below.dr ?_ | (refine Below.st ?_ (by simp <;> omega) _) | (refine Below.tr ?_ (by assumption)))))) (by simp)).mono ?_
  rintro e w4 ⟨rfl, hb4⟩
  rw [deskB_early]
  have hB34 : Below w3.heap.size w3 w4 := Below.tr (by (repeat (first | exact Below.refl _ _ | assumption | refine Below.al ?_ _ | refine Below.dr ?_ | (refine Below.st ?_ (by simp <;> omega) _) | (refine Below.tr ?_ (by assumption))))) hb4
  have hB4 := Below.tr hB3 hB34
  have HO4 := Lib.hid (HO3.out.next hB34)
  have HE4 := Lib.hid (HE3.out.next hB34)
  have q4 := (hB34.block w1.heap.size l3).trans q3
  have l4 := heap_lt q4
  clear k3 g3 hb4 hB34 HO3 HE3 hB3 q3
  obtain ⟨k4, g4⟩ := blk q4
  cases hv : deskB m' a b d x0 x1 n1 f0 f1 f2 f3 f4 ts la now with
  | false =>
    go_wp2_with (go_at_call 18; refine (alive_any _).mono ?_; rintro e wa ⟨rfl, hba⟩)
    go_ret
    exact ⟨rfl, Below.tr (Below.tr hb1 hB4) hba⟩
  | true =>
    simp only [deskB, Bool.and_eq_true] at hv
    have hv1 := Lib.hid hv.1.1
    have hv2 := Lib.hid hv.1.2
    clear hv
    go_wp2_with fail
    refine (implPoolValid_any HO4.out (Nat.le_refl _)).mono ?_
    rintro e w5 ⟨rfl, hb5⟩
    rw [hv1.out]
    have hB5 := Below.tr hB4 hb5
    have HE5 := Lib.hid (HE4.out.next hb5)
    have q5 := (hb5.block w1.heap.size l4).trans q4
    obtain ⟨k5, g5⟩ := blk q5
    have l5 := heap_lt q5
    clear k4 g4 q4 hb5 HO4 HE4 hB4
    go_wp2_with fail
    refine (implTableValid_any x0 x1 HE5.out (Nat.le_refl _)).mono ?_
    rintro e w6 ⟨rfl, hb6⟩
    rw [hv2.out]
    have hB6 := Below.tr hB5 hb6
    clear hB5 hb6
    go_wp2_with (go_at_call 18; refine (alive_any _).mono ?_; rintro e wa ⟨rfl, hba⟩)
    go_ret
    exact ⟨rfl, Below.tr (Below.tr hb1 hB6) hba⟩
end Go.Proofs.Ytbnfllpimnnmfaa
