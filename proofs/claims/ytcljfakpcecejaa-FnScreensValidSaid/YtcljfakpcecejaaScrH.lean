/-
  The law 'screens have ports': its walk.
-/
import Derived.Test.YtcljfakpcecejaaScrE
import Derived.Test.YtcljfakpcecejaaAll
namespace Go.Proofs.Ytcljfakpcecejaa
open Go.RowKit

/-- A bad row ahead of the columns. -/
def ahead {T : Type} (x : T) (f : Nat → T) : Nat → T := fun i => if i < 1 then x else f (i - 1)
theorem glue_ahead (c0 c1 c2 c3 c4 : Nat → Int) (c5 : Nat → Bool) : glue (fun _ => [.int .i64 0, .int .i64 0, .int .i64 1, .int .i64 0, .int .i64 0, .bool false]) 1 (screenR c0 c1 c2 c3 c4 c5) =
    screenR (ahead 0 c0) (ahead 0 c1) (ahead 1 c2) (ahead 0 c3) (ahead 0 c4) (ahead false c5) := by
  funext i
  unfold glue ahead screenR
  by_cases h : i < 1 <;> simp [h]
theorem scs_ahead (n : Nat) (c0 c1 c2 c3 c4 : Nat → Int) : scsB (1 + n) (ahead 0 c0) (ahead 0 c1) (ahead 1 c2) (ahead 0 c3) (ahead 0 c4) = false :=
  scsB_no (i := 0) (by omega) (by simp [scOk, ahead, inB])
theorem scs_from {n k : Nat} {c0 c1 c2 c3 c4 : Nat → Int} (h : scsB n c0 c1 c2 c3 c4 = true) : scsB (n - k) (fun i => c0 (k + i)) (fun i => c1 (k + i)) (fun i => c2 (k + i)) (fun i => c3 (k + i)) (fun i => c4 (k + i)) = true := by
  simp only [scsB, Bool.and_eq_true, decide_eq_true_eq] at h
  have : ∀ i, i < n - k → scOk (fun i => c0 (k + i)) (fun i => c1 (k + i)) (fun i => c2 (k + i)) (fun i => c3 (k + i)) (fun i => c4 (k + i)) i = true := fun i hi => all_get h.1 (i := k + i) (by omega)
  rw [scsB_end this]
  simp; omega

theorem screensValid_short {w : World} {A : Option Addr} {n c : Nat} (hn : 1048576 < n) (h : Bytes w w.heap.size A n c) : Calls Try.prog 4 #[.slice A n c] w (Truly w) := by
  go_enter Try.func4, Try.ntmps4
  go_wp2
  go_ret
  exact ⟨rfl, Below.refl _ _⟩

set_option maxHeartbeats 8000000 in
theorem screensValid_walk {w : World} {A : Option Addr} {n c : Nat} (h : Bytes w w.heap.size A n c) :
    Calls Try.prog 4 #[.slice A n c] w (Truly w) := by
  by_cases hn : 1048576 < n
  · exact screensValid_short hn h
  · go_enter Try.func4, Try.ntmps4
    go_wp2_with fail
    refine (drawScreensValid_any h).mono ?_
    rintro e w1 ⟨A', nn, c', R, rfl, hnn, hR, hO, hb⟩
    obtain ⟨c0, c1, c2, c3, c4, c5, rfl⟩ := screenR_of hR
    have hR1 := Lib.hid hO.rows
    have hncc := hO.rows.1.1
    have hccm := hO.rows.1.2
    unfold maxLen at hccm
    clear hR hO h hn
    go_wp2_with fail
    refine (implScreensValid_any hR1.out (Nat.le_refl _)).mono ?_
    rintro e w2 ⟨rfl, hb2⟩
    go_wp2_with fail
    refine (specScreensValid_any (hR1.out.below hb2) hb2.size).mono ?_
    rintro e w3 ⟨rfl, hb3⟩
    have hB3 := Below.tr hb2 hb3
    have hsa := scs_ahead nn c0 c1 c2 c3 c4
    have hi6 := info_screen
    go_wp2_with (at_builtin; refine wpList_pushAll rfl (.tmp 17) (.tmp 18) 37 rfl 31 _ 6 48 Try.underlying37 hi6 (by decide) (by decide) (by decide) (B := w3.heap.size) (n1 := 1) (R1 := fun _ => [.int .i64 0, .int .i64 0, .int .i64 1, .int .i64 0, .int .i64 0, .bool false]) rfl (Acc.one (heap_alloc_new _ _) (Nat.le_refl _) (fun _ => rfl) rfl) rfl (hR1.out.below (Below.al hB3 _)) (fun _ => rfl) (screenR_one _ _ _ _ _ _) (by omega) (by omega) (by simp) ?_)
    intro v' w4 hAcc hB4 hg4
    rw [glue_ahead] at hAcc
    obtain ⟨A4, c4', rfl, hO4⟩ := hAcc.own
    have hB41 : Below w1.heap.size w1 w4 := (Below.al hB3 _).trans (hB4.mono hB3.size)
    clear hAcc hg4 hB4 hi6
    go_wp2_with fail
    refine (implScreensValid_any hO4.rows (Nat.le_refl _)).mono ?_
    rintro e w5 ⟨rfl, hb5⟩
    have hB5 := Below.tr hB41 hb5
    cases hv : scsB nn c0 c1 c2 c3 c4 with
    | false =>
      go_wp2_with (go_at_call 18; refine (alive_any _).mono ?_; rintro e wa ⟨rfl, hba⟩)
      go_ret
      exact ⟨rfl, Below.tr hb (Below.tr hB5 (by assumption))⟩
    | true =>
      have HV := Lib.hid (fun k => scs_from (k := k) hv)
      rcases Nat.eq_zero_or_pos nn with rfl | hpos
      · have hv0 : scsB 0 c0 c1 c2 c3 c4 = true := hv
        by_cases hc0 : c' = 0
        · subst hc0
          go_wp2_with (first | (go_at_call 18; refine (alive_any _).mono ?_; rintro e wa ⟨rfl, hba⟩) | (go_at_call 16; refine (implScreensValid_any (B := w5.heap.size) (n := 0) (b := c0) (k := c1) (l := c2) (h := c3) (d := c4) (ps := c5) (Rws.none_ (by unfold maxLen; omega)) (Nat.le_refl _)).mono ?_; rintro e w6 ⟨rfl, hb6⟩))
          go_ret
          exact ⟨rfl, Below.tr hb (Below.tr hB5 (Below.tr (by assumption) (by assumption)))⟩
        · have hc1 : ¬ (c' = 0) := hc0
          go_wp2_with (first | (go_at_call 18; refine (alive_any _).mono ?_; rintro e wa ⟨rfl, hba⟩) | (go_at_call 16; refine (implScreensValid_any (B := w5.heap.size) (n := 0) (b := c0) (k := c1) (l := c2) (h := c3) (d := c4) (ps := c5) (Rws.none_ (by unfold maxLen; omega)) (Nat.le_refl _)).mono ?_; rintro e w6 ⟨rfl, hb6⟩))
          go_ret
          exact ⟨rfl, Below.tr hb (Below.tr hB5 (Below.tr (by assumption) (by assumption)))⟩
      · obtain ⟨bl, off, rfl, hbl, hcc⟩ := hR1.out.2 hpos
        have hne : ¬ (c' = nn / 2) := by omega
        have hfr := Lib.hid (((hR1.out.below hB5).more hB5.size).from_ (nn / 2) (by omega))
        have hv2 := HV.out (nn / 2)
        clear hcc
        go_wp2_with (first | (go_at_call 18; refine (alive_any _).mono ?_; rintro e wa ⟨rfl, hba⟩) | (go_at_call 16; refine (implScreensValid_any (b := fun i => c0 (nn / 2 + i)) (k := fun i => c1 (nn / 2 + i)) (l := fun i => c2 (nn / 2 + i)) (h := fun i => c3 (nn / 2 + i)) (d := fun i => c4 (nn / 2 + i)) (ps := fun i => c5 (nn / 2 + i)) hfr.out (Nat.le_refl _)).mono ?_; rintro e w6 ⟨rfl, hb6⟩))
        go_ret
        exact ⟨rfl, Below.tr hb (Below.tr hB5 (Below.tr (by assumption) (by assumption)))⟩
end Go.Proofs.Ytcljfakpcecejaa
