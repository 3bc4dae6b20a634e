/-
  What the drawing of routes hands over; the law 'routes ascend': its walk.
-/
import Derived.Test.YtjjbfjjmpapajaaRtD
import Derived.Test.YtjjbfjjmpapajaaFlow
namespace Go.Proofs.Ytjjbfjjmpapajaa
open Go.RowKit Go.Joins

/-- A list of at most N rows of plain cells. -/
def ListOnly (w : World) (N : Nat) (t : TypeId) (ks : List Bool) (e : Ending) (w' : World) : Prop :=
  ∃ A n c R, e = .returned (.slice A n c) ∧ n ≤ N ∧ (∀ i, Plain ks (R i)) ∧ Own w' w.heap.size t ks.length A n c R ∧ Below w.heap.size w w'

set_option maxHeartbeats 2000000 in
theorem drawRoutesValid_any {w : World} {A : Option Addr} {n c : Nat} (h : Bytes w w.heap.size A n c) :
    Calls Try.prog 26 #[.slice A n c] w (ListOnly w 7 45 [true, true, true]) := by
  go_enter Try.func26, Try.ntmps26
  go_wp2_with fail
  refine (open_any h (Nat.le_refl _)).mono ?_
  rintro e w1 ⟨m, g, rfl, hgl, hr1, hb1, hs1⟩
  have hs2 := hb1.size
  clear hs1
  go_wp2_with fail
  refine (l20Routes_any hr1 _ (by omega) (by omega)).mono ?_
  rintro e w2 ⟨v, nn, q, rfl, hn, ⟨A', c', R, rfl, hR, hO⟩, hq, hr2, hg2⟩
  go_wp2
  go_ret
  exact ⟨A', nn, c', R, rfl, hn, hR, hO.more hs2, hb1.trans (below_grown hg2 hs2 hgl)⟩

/-- The first row once more. -/
def twice {T : Type} (f : Nat → T) : Nat → T := fun i => if i < 1 then f 0 else f (i - 1)
theorem glue_twice (b k h : Nat → Int) : glue (fun _ => [.int .i64 (b 0), .int .i64 (k 0), .int .i64 (h 0)]) 1 (routeR b k h) = routeR (twice b) (twice k) (twice h) := by
  funext i
  unfold glue twice routeR
  by_cases hi : i < 1 <;> simp [hi]
theorem rts_twice {n : Nat} (b k h : Nat → Int) (hn : 0 < n) : rtsB (1 + n) (twice b) (twice k) (twice h) = false :=
  rtsB_no (i := 1) (by omega) (by simp [rtOk, twice, befB])
theorem rts_tail {n : Nat} {b k h : Nat → Int} (hv : rtsB n b k h = true) : rtsB (n - 1) (fun i => b (1 + i)) (fun i => k (1 + i)) (fun i => h (1 + i)) = true := by
  simp only [rtsB, Bool.and_eq_true, decide_eq_true_eq] at hv
  have : ∀ i, i < n - 1 → rtOk (fun i => b (1 + i)) (fun i => k (1 + i)) (fun i => h (1 + i)) i = true := fun i hi => by
    have h1 := all_get hv.1 (i := 1 + i) (by omega)
    simp only [rtOk, Bool.and_eq_true] at h1 ⊢
    refine ⟨h1.1, ?_⟩
    rcases Nat.eq_zero_or_pos i with rfl | hp
    · rfl
    · have h2 := h1.2
      have e1 : ((1 + i) == 0) = false := by simp
      have e2 : (i == 0) = false := by simp; omega
      rw [e1, Bool.false_or] at h2
      rw [e2, Bool.false_or, show 1 + (i - 1) = 1 + i - 1 by omega]
      exact h2
  rw [rtsB_end this]
  simp; omega

set_option maxHeartbeats 8000000 in
theorem routesValid_walk {w : World} {A : Option Addr} {n c : Nat} (h : Bytes w w.heap.size A n c) :
    Calls Try.prog 8 #[.slice A n c] w (Truly w) := by
  by_cases hn : 1048576 < n
  · go_enter Try.func8, Try.ntmps8
    go_wp2
    go_ret
    exact ⟨rfl, Below.refl _ _⟩
  · go_enter Try.func8, Try.ntmps8
    go_wp2_with fail
    refine (drawRoutesValid_any h).mono ?_
    rintro e w1 ⟨A', nn, c', R, rfl, hnn, hR, hO, hb⟩
    obtain ⟨b, k, hh, rfl⟩ := routeR_of hR
    have hR1 := Lib.hid hO.rows
    have hncc := hO.rows.1.1
    have hccm := hO.rows.1.2
    unfold maxLen at hccm
    clear hR hO h hn
    go_wp2_with fail
    refine (implRoutesValid_any hR1.out (Nat.le_refl _)).mono ?_
    rintro e w2 ⟨rfl, hb2⟩
    go_wp2_with fail
    refine (specRoutesValid_any (hR1.out.below hb2) hb2.size).mono ?_
    rintro e w3 ⟨rfl, hb3⟩
    have hB3 := Below.tr hb2 hb3
    cases hv : rtsB nn b k hh with
    | false =>
      go_wp2_with (go_at_call 19; refine (alive_any _).mono ?_; rintro e wa ⟨rfl, hba⟩)
      go_ret
      exact ⟨rfl, by (repeat (first | exact Below.refl _ _ | assumption | refine Below.al ?_ _ | refine Below.dr ?_ | (refine Below.st ?_ (by simp <;> omega) _) | (refine Below.tr ?_ (by assumption))))⟩
    | true =>
      rcases Nat.eq_zero_or_pos nn with rfl | hpos
      · go_wp2_with (go_at_call 19; refine (alive_any _).mono ?_; rintro e wa ⟨rfl, hba⟩)
        go_ret
        exact ⟨rfl, by (repeat (first | exact Below.refl _ _ | assumption | refine Below.al ?_ _ | refine Below.dr ?_ | (refine Below.st ?_ (by simp <;> omega) _) | (refine Below.tr ?_ (by assumption))))⟩
      · obtain ⟨bl, off, rfl, hbl, hcc⟩ := hR1.out.2 hpos
        have hne0 : ((nn : Int) == 0) = false := by simp; omega
        have hr0 := hcc 0 hpos
        rw [Nat.zero_mul, Nat.add_zero] at hr0
        have hv2 := rts_tail hv
        have hst := rts_twice b k hh hpos
        have hi3 := info_route
        have hsz3 := hB3.size
        have p0 : w3.cell? ⟨bl, off, none⟩ = some (.int .i64 (b 0)) := (keepc hB3 bl hbl _).trans (hr0 0 _ rfl)
        have p1 : w3.cell? ⟨bl, off + 1, none⟩ = some (.int .i64 (k 0)) := (keepc hB3 bl hbl _).trans (hr0 1 _ rfl)
        have p2 : w3.cell? ⟨bl, off + 2, none⟩ = some (.int .i64 (hh 0)) := (keepc hB3 bl hbl _).trans (hr0 2 _ rfl)
        have hbl3 : bl < w3.heap.size := by omega
        have hgen : ∀ (A2 : Option Addr) (c2 : Nat), Rws w3 w3.heap.size 3 A2 (nn - 1) c2 (fun i => routeR b k hh (1 + i)) → Calls Try.prog 24 #[.slice A2 (nn - 1) c2] w3 fun e w' => e = .returned (.bool true) ∧ Below w3.heap.size w3 w' := fun A2 c2 hA2 => by
          have := implRoutesValid_any (b := fun i => b (1 + i)) (k := fun i => k (1 + i)) (h := fun i => hh (1 + i)) hA2 (Nat.le_refl _)
          rwa [hv2] at this
        have HG := Lib.hid hgen
        clear hcc hr0 hgen
        by_cases hc1 : c' = 1
        · have hn1 : nn = 1 := by omega
          subst hc1 hn1
          go_wp2_with fail
          refine (HG.out _ _ (Rws.none_ (by unfold maxLen; omega))).mono ?_
          rintro e w4 ⟨rfl, hb4⟩
          have hB4 := Below.tr hB3 hb4
          have p3 := keepc hb4 bl hbl3
          have z4 : bl < w4.heap.size := Nat.lt_of_lt_of_le hbl3 hb4.size
          go_wp2_with (at_builtin; refine wpList_pushAllW rfl (.tmp 31) (.tmp 32) 39 rfl 45 _ 3 24 Try.underlying39 hi3 (by decide) (by decide) (by decide) (B := w4.heap.size) (n1 := 1) (R1 := fun _ => [.int .i64 (b 0), .int .i64 (k 0), .int .i64 (hh 0)]) rfl (Acc.one (heap_alloc_new _ _) (Nat.le_refl _) (fun _ => rfl) rfl) rfl (hR1.out.below (Below.al hB4 _)) (fun _ => rfl) (routeR_one _ _ _) (by omega) (by omega) (by simp) ?_)
          intro v' w5 hAcc hB5 hg5
          rw [glue_twice] at hAcc
          obtain ⟨A5, c5, rfl, hO5⟩ := hAcc.own
          have hB51 : Below w1.heap.size w1 w5 := (Below.al hB4 _).trans (hB5.mono hB4.size)
          clear hAcc hg5 hB5 hi3
          go_wp2_with fail
          refine (implRoutesValid_any hO5.rows (Nat.le_refl _)).mono ?_
          rintro e w6 ⟨rfl, hb6⟩
          go_wp2_with fail
          go_ret
          exact ⟨rfl, Below.tr hb (Below.tr hB51 hb6)⟩
        · have hfr : Rws w3 w3.heap.size 3 (some ⟨bl, off + 1 * 3, none⟩) (nn - 1) (c' - 1) (fun i => routeR b k hh (1 + i)) := by
            rcases Nat.lt_or_ge 1 nn with h1 | h1
            · exact ((hR1.out.below hB3).more hB3.size).from_ 1 h1
            · obtain rfl : nn = 1 := by omega
              exact Rws.none_ (by unfold maxLen; omega)
          have HF := Lib.hid hfr
          clear hfr
          have hc2 : (c' == 1) = false := by simpa using hc1
          go_wp2_with fail
          refine (HG.out _ _ HF.out).mono ?_
          rintro e w4 ⟨rfl, hb4⟩
          have hB4 := Below.tr hB3 hb4
          have p3 := keepc hb4 bl hbl3
          have z4 : bl < w4.heap.size := Nat.lt_of_lt_of_le hbl3 hb4.size
          go_wp2_with (at_builtin; refine wpList_pushAllW rfl (.tmp 31) (.tmp 32) 39 rfl 45 _ 3 24 Try.underlying39 hi3 (by decide) (by decide) (by decide) (B := w4.heap.size) (n1 := 1) (R1 := fun _ => [.int .i64 (b 0), .int .i64 (k 0), .int .i64 (hh 0)]) rfl (Acc.one (heap_alloc_new _ _) (Nat.le_refl _) (fun _ => rfl) rfl) rfl (hR1.out.below (Below.al hB4 _)) (fun _ => rfl) (routeR_one _ _ _) (by omega) (by omega) (by simp) ?_)
          intro v' w5 hAcc hB5 hg5
          rw [glue_twice] at hAcc
          obtain ⟨A5, c5, rfl, hO5⟩ := hAcc.own
          have hB51 : Below w1.heap.size w1 w5 := (Below.al hB4 _).trans (hB5.mono hB4.size)
          clear hAcc hg5 hB5 hi3
          go_wp2_with fail
          refine (implRoutesValid_any hO5.rows (Nat.le_refl _)).mono ?_
          rintro e w6 ⟨rfl, hb6⟩
          go_wp2_with fail
          go_ret
          exact ⟨rfl, Below.tr hb (Below.tr hB51 hb6)⟩
end Go.Proofs.Ytjjbfjjmpapajaa
