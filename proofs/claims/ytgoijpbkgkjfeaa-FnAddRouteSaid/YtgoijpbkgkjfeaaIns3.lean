/-
  AddRoute of the program.
-/
import Derived.Test.YtgoijpbkgkjfeaaIns2
namespace Go.Proofs.Ytgoijpbkgkjfeaa
open Go Go.RowKit

theorem insP_ad {n : Nat} {a b c : Nat → Int} {x y z : Int} (h : afd n a b x y = false) (j : Nat) : insP (routeR a b c) (apo n a b x y) [.int .i64 x, .int .i64 y, .int .i64 z] j = adR n a b c x y z j := by
  unfold insP
  by_cases h1 : j < apo n a b x y
  · rw [if_pos h1, adR_lo h1]
  · rw [if_neg h1]
    by_cases h2 : j = apo n a b x y
    · rw [if_pos h2, adR_at h2]
    · rw [if_neg h2, adR_hi (by omega), h]
      rfl
theorem put_ad {n : Nat} {a b c : Nat → Int} {x y z : Int} (h : afd n a b x y = true) (j : Nat) : (if j = apo n a b x y then [.int .i64 x, .int .i64 y, .int .i64 z] else routeR a b c j) = adR n a b c x y z j := by
  by_cases h2 : j = apo n a b x y
  · rw [if_pos h2, adR_at h2]
  · rw [if_neg h2]
    rcases Nat.lt_or_gt_of_ne h2 with h1 | h1
    · rw [adR_lo h1]
    · rw [adR_hi h1, h]
      rfl
theorem aN_yes {n : Nat} {a b : Nat → Int} {x y : Int} (h : afd n a b x y = true) : aN n a b x y = n := by simp [aN, h]
theorem aN_no {n : Nat} {a b : Nat → Int} {x y : Int} (h : afd n a b x y = false) : aN n a b x y = n + 1 := by simp [aN, h]
set_option maxHeartbeats 8000000 in
theorem implAddRoute_any {w : World} {B n cc : Nat} {A : Option Addr} {a b c : Nat → Int} (x y z : Int) (H : Rws w B 3 A n cc (routeR a b c)) (hB : B ≤ w.heap.size) (hn : n ≤ 1048576) :
    Calls Try.prog 7 #[.slice A n cc, .agg #[.int .i64 x, .int .i64 y, .int .i64 z]] w (GivesB w 27 3 (arN n a b c x y z) (routeR (arC n a b c x y z a x) (arC n a b c x y z b y) (arC n a b c x y z c z)) (arOk n a b c x y z)) := by
  have H0 := Lib.hid H
  have H1 := Lib.hid (H.below ((show Below w.heap.size w (w.alloc (.cells #[.int .i64 x, .int .i64 y, .int .i64 z] 27)) by (repeat (first | exact Below.refl _ _ | assumption | refine Below.al ?_ _ | refine Below.dr ?_ | (refine Below.st ?_ (by simp <;> omega) _) | (refine Below.tr ?_ (by assumption))))).mono hB))
  clear H
  go_enter Try.func7, Try.ntmps7
  go_wp2_with fail
  refine (implRoutesValid_any H1.out (by simp; omega)).mono ?_
  rintro e w1 ⟨rfl, hb1⟩
  have hs1 := hb1.size
  simp at hs1
  have hh1 := (hb1.block w.heap.size (by simp)).trans (heap_alloc_new w (.cells #[.int .i64 x, .int .i64 y, .int .i64 z] 27))
  have hB1 : Below w.heap.size w w1 := Below.tr (by (repeat (first | exact Below.refl _ _ | assumption | refine Below.al ?_ _ | refine Below.dr ?_ | (refine Below.st ?_ (by simp <;> omega) _) | (refine Below.tr ?_ (by assumption))))) hb1
  cases hv : rtsB n a b c with
  | false =>
    obtain ⟨h1, h2⟩ := ar_bad (x := x) (y := y) (z := z) hv
    have Y1 := Lib.hid h1
    have Y2 := Lib.hid h2
    clear h1 h2
    go_wp2
    go_ret2
    exact ⟨none, 0, by rw [Y1.out, Y2.out] <;> rfl, by rw [Y1.out]; exact Own.nil _ _ _ _ _ _ _ (by unfold maxLen; omega), hB1⟩
  | true =>
    have HV := Lib.hid hv
    have hn12 := rts_le hv
    have H2 := Lib.hid (H1.out.below (hb1.mono (by simp; omega)))
    have hmf : ∀ (fn : Fn) (first cap : Array Value) (w : World), (Instr.makeFunc fn first cap).run Try.prog w = .ok (.func fn first cap) w := fun _ _ _ _ => rfl
    clear H1 hb1 hv
    go_wp2_with (at_builtin; refine wpList_pushAll rfl (.const (.slice none 0 0)) (.tmp 12) 23 rfl 27 _ 3 24 Try.underlying23 info_route (by decide) (by decide) (by decide) rfl (Acc.nil _ w1.heap.size 27 (routeR a b c) (fun _ => rfl)) rfl H2.out (fun _ => rfl) (routeR_one a b c) (by omega) (by omega) (Nat.le_refl _) ?_; intro v' w3 hA hb3 hg3; obtain ⟨k3, f3⟩ := blk ((hb3.block w.heap.size (by omega)).trans hh1))
    rw [Nat.zero_add, glue_zero] at hA
    obtain ⟨A3, c3, rfl, hO3⟩ := hA.own
    refine (searchRoute_any x y HV.out hO3.rows (Nat.le_refl _)).mono ?_
    rintro e w4 ⟨rfl, hb4⟩
    have hB3 := Below.tr hB1 hb3
    have hs3 := hb3.size
    have hB4 := Below.tr hB3 hb4
    have hh4 := (hb4.block w.heap.size (by omega)).trans ((hb3.block w.heap.size (by omega)).trans hh1)
    have hA4 := hA.next hb4
    have hO4 := hO3.next hb4
    have hs4 := hb4.size
    obtain ⟨k4, f4⟩ := blk hh4
    have hl4 := heap_lt hh4
    have hcm3 := hO4.1
    have hnc3 := hO4.2.1
    unfold maxLen at hcm3
    have hap : apo n a b x y ≤ n := apo_le
    clear k3 f3 hb3 hb4 hg3 hA hO3 H2 hh1
    cases hf : afd n a b x y with
    | true =>
      have EN := Lib.hid (aN_yes hf)
      have HP := Lib.hid (fun j => put_ad (c := c) (z := z) hf j)
      have hlt : apo n a b x y < n := by
        simp only [afd, Bool.and_eq_true, decide_eq_true_eq] at hf
        exact hf.1
      have hltI : ((apo n a b x y : Nat) : Int) < (n : Int) := by omega
      obtain ⟨g, rfl, hgB, hN⟩ := hO4.at_ (by omega)
      have HN := Lib.hid hN
      clear hf hN hO4 hA4
      go_wp2_with (refine wpList_store_row rfl 27 (.tmp 25) (.tmp 24) rfl (.agg #[.int .i64 x, .int .i64 y, .int .i64 z]) HN.out hlt (fun _ => rfl) rfl rfl (row := [.int .i64 x, .int .i64 y, .int .i64 z]) rfl rfl (by kernel_rfl) (row_one x y z 0) ?_; intro w7 hN7 hg7 hs7)
      have hO7 : Own w7 w.heap.size 27 3 (some ⟨g, 0, none⟩) n c3 (routeR (aC n a b x y a x) (aC n a b x y b y) (aC n a b x y c z)) := (Own.of_new hN7 (by unfold maxLen; omega) (by omega)).congr fun j _ => HP.out j
      have hB7 : Below w.heap.size w w7 := hB4.trans (below_grown hg7 hB4.size (by omega))
      refine (implRoutesValid_any (b := (aC n a b x y a x)) (k := (aC n a b x y b y)) (h := (aC n a b x y c z)) hO7.rows (Nat.le_refl _)).mono ?_
      rintro e w8 ⟨rfl, hb8⟩
      have hO8 := hO7.next hb8
      have hB8 := Below.tr hB7 hb8
      have hs8 := hB8.size
      cases hv2 : rtsB (n) (aC n a b x y a x) (aC n a b x y b y) (aC n a b x y c z) with
      | true =>
        obtain ⟨y1, y2, y3⟩ := ar_yes (x := x) (y := y) (z := z) HV.out (by rw [EN.out]; exact hv2)
        have Y1 := Lib.hid y1
        have Y2 := Lib.hid y2
        have Y3 := Lib.hid y3
        clear y1 y2 y3 hv2
        go_wp2
        go_ret2
        exact ⟨_, _, by rw [Y1.out, Y2.out, EN.out] <;> rfl, by rw [Y1.out, Y3.out, EN.out]; exact hO8, hB8⟩
      | false =>
        obtain ⟨y1, y2, y3⟩ := ar_no (x := x) (y := y) (z := z) HV.out (by rw [EN.out]; exact hv2)
        have Y1 := Lib.hid y1
        have Y2 := Lib.hid y2
        have Y3 := Lib.hid y3
        clear y1 y2 y3 hv2
        go_wp2_with (at_builtin; refine wpList_pushAll rfl (.const (.slice none 0 0)) (.tmp 34) 23 rfl 27 _ 3 24 Try.underlying23 info_route (by decide) (by decide) (by decide) rfl (Acc.nil _ w8.heap.size 27 (routeR a b c) (fun _ => rfl)) rfl (H0.out.below (hB8.mono hB)) (fun _ => rfl) (routeR_one a b c) (by omega) (by omega) (Nat.le_refl _) ?_; intro v9 w9 hA9 hb9 hg9)
        rw [Nat.zero_add, glue_zero] at hA9
        obtain ⟨A9, c9, rfl, hO9⟩ := hA9.own
        go_ret2
        exact ⟨A9, c9, by rw [Y1.out, Y2.out] <;> rfl, by rw [Y1.out, Y3.out]; exact hO9.more hB8.size, Below.tr hB8 hb9⟩
    | false =>
      have EN := Lib.hid (aN_no hf)
      have HP := Lib.hid (fun j => insP_ad (c := c) (z := z) hf j)
      have HA := Lib.hid hA4
      have hne : ∀ g, A3 = some ⟨g, 0, none⟩ → w4.heap.size ≠ g := fun g hg => by
        have := hA4.block g (by rw [hg] <;> rfl)
        omega
      have HNE := Lib.hid hne
      clear hf hA4 hO4 hne
      go_wp2_with fail
      refine (insertRoute_any (HA.out.next (below_nd _ _)) (routeR_one a b c) hap (heap_alloc_new _ _) HNE.out (by simp; omega) (by omega)).mono ?_
      rintro e w7 ⟨A7, c7, rfl, hO, hb7⟩
      have hO7 : Own w7 w.heap.size 27 3 A7 (n + 1) c7 (routeR (aC n a b x y a x) (aC n a b x y b y) (aC n a b x y c z)) := (hO.congr fun j _ => HP.out j).more (by omega)
      have hB7 : Below w.heap.size w w7 := (Below.tr hB4 (below_nd w4 (.cells #[.int .i64 x, .int .i64 y, .int .i64 z] 27))).trans (hb7.mono (by omega))
      clear hO
      go_wp2_with fail
      refine (implRoutesValid_any (b := (aC n a b x y a x)) (k := (aC n a b x y b y)) (h := (aC n a b x y c z)) hO7.rows (Nat.le_refl _)).mono ?_
      rintro e w8 ⟨rfl, hb8⟩
      have hO8 := hO7.next hb8
      have hB8 := Below.tr hB7 hb8
      have hs8 := hB8.size
      cases hv2 : rtsB (n + 1) (aC n a b x y a x) (aC n a b x y b y) (aC n a b x y c z) with
      | true =>
        obtain ⟨y1, y2, y3⟩ := ar_yes (x := x) (y := y) (z := z) HV.out (by rw [EN.out]; exact hv2)
        have Y1 := Lib.hid y1
        have Y2 := Lib.hid y2
        have Y3 := Lib.hid y3
        clear y1 y2 y3 hv2
        go_wp2
        go_ret2
        exact ⟨_, _, by rw [Y1.out, Y2.out, EN.out] <;> rfl, by rw [Y1.out, Y3.out, EN.out]; exact hO8, hB8⟩
      | false =>
        obtain ⟨y1, y2, y3⟩ := ar_no (x := x) (y := y) (z := z) HV.out (by rw [EN.out]; exact hv2)
        have Y1 := Lib.hid y1
        have Y2 := Lib.hid y2
        have Y3 := Lib.hid y3
        clear y1 y2 y3 hv2
        go_wp2_with (at_builtin; refine wpList_pushAll rfl (.const (.slice none 0 0)) (.tmp 34) 23 rfl 27 _ 3 24 Try.underlying23 info_route (by decide) (by decide) (by decide) rfl (Acc.nil _ w8.heap.size 27 (routeR a b c) (fun _ => rfl)) rfl (H0.out.below (hB8.mono hB)) (fun _ => rfl) (routeR_one a b c) (by omega) (by omega) (Nat.le_refl _) ?_; intro v9 w9 hA9 hb9 hg9)
        rw [Nat.zero_add, glue_zero] at hA9
        obtain ⟨A9, c9, rfl, hO9⟩ := hA9.own
        go_ret2
        exact ⟨A9, c9, by rw [Y1.out, Y2.out] <;> rfl, by rw [Y1.out, Y3.out]; exact hO9.more hB8.size, Below.tr hB8 hb9⟩
end Go.Proofs.Ytgoijpbkgkjfeaa
