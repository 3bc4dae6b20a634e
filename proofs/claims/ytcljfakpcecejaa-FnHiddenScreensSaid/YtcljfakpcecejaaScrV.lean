/-
  ScreensValid and ScreenFlow, in the program and in the reference.
-/
import Derived.Test.YtcljfakpcecejaaScr
import Derived.Test.YtcljfakpcecejaaFree
namespace Go.Proofs.Ytcljfakpcecejaa
open Go.RowKit

/-- Is screen i valid? -/
def scOk (b k l h d : Nat → Int) (i : Nat) : Bool := pfxB (b i) (k i) && inB (l i) 0 (h i) && inB (h i) 0 999 && inB (d i) 0 2
def scsB (n : Nat) (b k l h d : Nat → Int) : Bool := (List.range n).all (scOk b k l h d) && decide (n ≤ 10)
theorem scsB_no {n i : Nat} {b k l h d : Nat → Int} (hi : i < n) (ho : scOk b k l h d i = false) : scsB n b k l h d = false := by simp only [scsB, all_no hi ho, Bool.false_and]
theorem scsB_end {n : Nat} {b k l h d : Nat → Int} (ho : ∀ i, i < n → scOk b k l h d i = true) : scsB n b k l h d = decide (n ≤ 10) := by simp only [scsB, all_yes ho, Bool.true_and]

set_option maxHeartbeats 4000000 in
theorem implScreensValid_any {w : World} {B : Nat} {A : Option Addr} {n c : Nat} {b k l h d : Nat → Int} {ps : Nat → Bool} (H : Rws w B 6 A n c (screenR b k l h d ps)) (hB : B ≤ w.heap.size) :
    Calls Try.prog 16 #[.slice A n c] w fun e w' => e = .returned (.bool (scsB n b k l h d)) ∧ Below w.heap.size w w' := by
  obtain ⟨⟨hnc, hcm⟩, hrow⟩ := H
  unfold maxLen at hcm
  go_enter Try.func16, Try.ntmps16
  go_wp2
  go_loopw [7] (fun i wr => ∃ j : Nat, j ≤ n ∧ i = .int .i64 j ∧ (∀ i, i < j → scOk b k l h d i = true) ∧ Below w.heap.size w wr) (fun i _ => n - (intOf i).toNat)
  case atStart => exact ⟨0, by omega, rfl, fun i hi => absurd hi (by omega), by (repeat (first | exact Below.refl _ _ | assumption | refine Below.al ?_ _ | refine Below.dr ?_ | (refine Below.st ?_ (by simp <;> omega) _) | (refine Below.tr ?_ (by assumption))))⟩
  case round =>
    obtain ⟨j, hj, rfl, hok, hBw⟩ := hrel
    by_cases hlt : j < n
    · obtain ⟨bl, off, rfl, hbB, hc⟩ := hrow (by omega)
      have hr := hc j hlt
      have hbs : bl < wr.heap.size := by have := hBw.size; omega
      have q0 : wr.cell? ⟨bl, off + j * 6, none⟩ = some (.int .i64 (b j)) := (keepc hBw bl (by omega) _).trans (hr 0 _ rfl)
      have q1 : wr.cell? ⟨bl, off + j * 6 + 1, none⟩ = some (.int .i64 (k j)) := (keepc hBw bl (by omega) _).trans (hr 1 _ rfl)
      have q2 : wr.cell? ⟨bl, off + j * 6 + 2, none⟩ = some (.int .i64 (l j)) := (keepc hBw bl (by omega) _).trans (hr 2 _ rfl)
      have q3 : wr.cell? ⟨bl, off + j * 6 + 3, none⟩ = some (.int .i64 (h j)) := (keepc hBw bl (by omega) _).trans (hr 3 _ rfl)
      have q4 : wr.cell? ⟨bl, off + j * 6 + 4, none⟩ = some (.int .i64 (d j)) := (keepc hBw bl (by omega) _).trans (hr 4 _ rfl)
      have q5 : wr.cell? ⟨bl, off + j * 6 + 5, none⟩ = some (.bool (ps j)) := (keepc hBw bl (by omega) _).trans (hr 5 _ rfl)
      have HO := Lib.hid hok
      clear hok hr hc hrow
      cases h1 : pfxB (b j) (k j) with
      | false =>
        have hno := Lib.hid (scsB_no (h := h) (d := d) (l := l) hlt (show scOk b k l h d j = false by simp [scOk, h1]))
        go_wp2_with (first | (go_at_call 43; refine (implPrefixValid_any _ _ _).mono ?_; rintro e w2 ⟨rfl, hb2⟩; have k0 := keepc hb2 wr.heap.size (by simp <;> omega); have z0 : wr.heap.size < w2.heap.size := (by have := hb2.size; simp at this; omega)) | (go_at_call 40; refine (in_any _ _ _ _).mono ?_; rintro e w' ⟨rfl, rfl⟩))
        go_ret
        exact ⟨by rw [hno.out] <;> rfl, by (repeat (first | exact Below.refl _ _ | assumption | refine Below.al ?_ _ | refine Below.dr ?_ | (refine Below.st ?_ (by simp <;> omega) _) | (refine Below.tr ?_ (by assumption))))⟩
      | true =>
        cases h2 : inB (l j) 0 (h j) with
        | false =>
          have hno := Lib.hid (scsB_no (k := k) (b := b) (d := d) hlt (show scOk b k l h d j = false by simp [scOk, h2]))
          go_wp2_with (first | (go_at_call 43; refine (implPrefixValid_any _ _ _).mono ?_; rintro e w2 ⟨rfl, hb2⟩; have k0 := keepc hb2 wr.heap.size (by simp <;> omega); have z0 : wr.heap.size < w2.heap.size := (by have := hb2.size; simp at this; omega)) | (go_at_call 40; refine (in_any _ _ _ _).mono ?_; rintro e w' ⟨rfl, rfl⟩))
          go_ret
          exact ⟨by rw [hno.out] <;> rfl, by (repeat (first | exact Below.refl _ _ | assumption | refine Below.al ?_ _ | refine Below.dr ?_ | (refine Below.st ?_ (by simp <;> omega) _) | (refine Below.tr ?_ (by assumption))))⟩
        | true =>
          obtain ⟨t1, t2⟩ := inB_true.1 h2
          by_cases h3 : h j ≤ 999
          · have h4 : inB (h j) 0 999 = true := inB_true.2 ⟨by omega, h3⟩
            cases h5 : inB (d j) 0 2 with
            | false =>
              have hno := Lib.hid (scsB_no (k := k) (b := b) (l := l) (h := h) hlt (show scOk b k l h d j = false by simp [scOk, h5]))
              go_wp2_with (first | (go_at_call 43; refine (implPrefixValid_any _ _ _).mono ?_; rintro e w2 ⟨rfl, hb2⟩; have k0 := keepc hb2 wr.heap.size (by simp <;> omega); have z0 : wr.heap.size < w2.heap.size := (by have := hb2.size; simp at this; omega)) | (go_at_call 40; refine (in_any _ _ _ _).mono ?_; rintro e w' ⟨rfl, rfl⟩))
              go_ret
              exact ⟨by rw [hno.out] <;> rfl, by (repeat (first | exact Below.refl _ _ | assumption | refine Below.al ?_ _ | refine Below.dr ?_ | (refine Below.st ?_ (by simp <;> omega) _) | (refine Below.tr ?_ (by assumption))))⟩
            | true =>
              have hno := Lib.hid (show scOk b k l h d j = true by simp [scOk, h1, h2, h4, h5])
              go_wp2_with (first | (go_at_call 43; refine (implPrefixValid_any _ _ _).mono ?_; rintro e w2 ⟨rfl, hb2⟩; have k0 := keepc hb2 wr.heap.size (by simp <;> omega); have z0 : wr.heap.size < w2.heap.size := (by have := hb2.size; simp at this; omega)) | (go_at_call 40; refine (in_any _ _ _ _).mono ?_; rintro e w' ⟨rfl, rfl⟩))
              go_roundw
              case rel => exact ⟨j + 1, by omega, by go_num, upto HO.out hno.out, by (repeat (first | exact Below.refl _ _ | assumption | refine Below.al ?_ _ | refine Below.dr ?_ | (refine Below.st ?_ (by simp <;> omega) _) | (refine Below.tr ?_ (by assumption))))⟩
              case measure => simp [intOf]; omega
          · have h4 : inB (h j) 0 999 = false := by simp [inB, h3]
            have h5 : 999 < h j := by omega
            have hno := Lib.hid (scsB_no (k := k) (b := b) (l := l) (d := d) hlt (show scOk b k l h d j = false by simp [scOk, h4]))
            go_wp2_with (first | (go_at_call 43; refine (implPrefixValid_any _ _ _).mono ?_; rintro e w2 ⟨rfl, hb2⟩; have k0 := keepc hb2 wr.heap.size (by simp <;> omega); have z0 : wr.heap.size < w2.heap.size := (by have := hb2.size; simp at this; omega)) | (go_at_call 40; refine (in_any _ _ _ _).mono ?_; rintro e w' ⟨rfl, rfl⟩))
            go_ret
            exact ⟨by rw [hno.out] <;> rfl, by (repeat (first | exact Below.refl _ _ | assumption | refine Below.al ?_ _ | refine Below.dr ?_ | (refine Below.st ?_ (by simp <;> omega) _) | (refine Below.tr ?_ (by assumption))))⟩
    · obtain rfl : j = n := by omega
      have he := Lib.hid (scsB_end hok)
      clear hok hrow
      go_wp2
      go_ret
      exact ⟨by rw [he.out] <;> simp <;> omega, hBw⟩

set_option maxHeartbeats 4000000 in
theorem specScreensValid_any {w : World} {B : Nat} {A : Option Addr} {n c : Nat} {b k l h d : Nat → Int} {ps : Nat → Bool} (H : Rws w B 6 A n c (screenR b k l h d ps)) (hB : B ≤ w.heap.size) :
    Calls Try.prog 17 #[.slice A n c] w fun e w' => e = .returned (.bool (scsB n b k l h d)) ∧ Below w.heap.size w w' := by
  obtain ⟨⟨hnc, hcm⟩, hrow⟩ := H
  unfold maxLen at hcm
  go_enter Try.func17, Try.ntmps17
  go_wp2
  go_loopw [3] (fun i wr => ∃ j : Nat, j ≤ n ∧ i = .int .i64 j ∧ (∀ i, i < j → scOk b k l h d i = true) ∧ Below w.heap.size w wr) (fun i _ => n - (intOf i).toNat)
  case atStart => exact ⟨0, by omega, rfl, fun i hi => absurd hi (by omega), by (repeat (first | exact Below.refl _ _ | assumption | refine Below.al ?_ _ | refine Below.dr ?_ | (refine Below.st ?_ (by simp <;> omega) _) | (refine Below.tr ?_ (by assumption))))⟩
  case round =>
    obtain ⟨j, hj, rfl, hok, hBw⟩ := hrel
    by_cases hlt : j < n
    · obtain ⟨bl, off, rfl, hbB, hc⟩ := hrow (by omega)
      have hr := hc j hlt
      have hbs : bl < wr.heap.size := by have := hBw.size; omega
      have q0 : wr.cell? ⟨bl, off + j * 6, none⟩ = some (.int .i64 (b j)) := (keepc hBw bl (by omega) _).trans (hr 0 _ rfl)
      have q1 : wr.cell? ⟨bl, off + j * 6 + 1, none⟩ = some (.int .i64 (k j)) := (keepc hBw bl (by omega) _).trans (hr 1 _ rfl)
      have q2 : wr.cell? ⟨bl, off + j * 6 + 2, none⟩ = some (.int .i64 (l j)) := (keepc hBw bl (by omega) _).trans (hr 2 _ rfl)
      have q3 : wr.cell? ⟨bl, off + j * 6 + 3, none⟩ = some (.int .i64 (h j)) := (keepc hBw bl (by omega) _).trans (hr 3 _ rfl)
      have q4 : wr.cell? ⟨bl, off + j * 6 + 4, none⟩ = some (.int .i64 (d j)) := (keepc hBw bl (by omega) _).trans (hr 4 _ rfl)
      have q5 : wr.cell? ⟨bl, off + j * 6 + 5, none⟩ = some (.bool (ps j)) := (keepc hBw bl (by omega) _).trans (hr 5 _ rfl)
      have HO := Lib.hid hok
      clear hok hr hc hrow
      cases h1 : pfxB (b j) (k j) with
      | false =>
        have hno := Lib.hid (scsB_no (h := h) (d := d) (l := l) hlt (show scOk b k l h d j = false by simp [scOk, h1]))
        go_wp2_with (first | (go_at_call 44; refine (specPrefixValid_any _ _ _).mono ?_; rintro e w2 ⟨rfl, hb2⟩; have k0 := keepc hb2 wr.heap.size (by simp <;> omega); have z0 : wr.heap.size < w2.heap.size := (by have := hb2.size; simp at this; omega)) | (go_at_call 38; refine (l1In_any _ _ _ _).mono ?_; rintro e w' ⟨rfl, rfl⟩))
        go_ret
        exact ⟨by rw [hno.out] <;> rfl, by (repeat (first | exact Below.refl _ _ | assumption | refine Below.al ?_ _ | refine Below.dr ?_ | (refine Below.st ?_ (by simp <;> omega) _) | (refine Below.tr ?_ (by assumption))))⟩
      | true =>
        cases h2 : inB (l j) 0 (h j) with
        | false =>
          have hno := Lib.hid (scsB_no (k := k) (b := b) (d := d) hlt (show scOk b k l h d j = false by simp [scOk, h2]))
          go_wp2_with (first | (go_at_call 44; refine (specPrefixValid_any _ _ _).mono ?_; rintro e w2 ⟨rfl, hb2⟩; have k0 := keepc hb2 wr.heap.size (by simp <;> omega); have z0 : wr.heap.size < w2.heap.size := (by have := hb2.size; simp at this; omega)) | (go_at_call 38; refine (l1In_any _ _ _ _).mono ?_; rintro e w' ⟨rfl, rfl⟩))
          go_ret
          exact ⟨by rw [hno.out] <;> rfl, by (repeat (first | exact Below.refl _ _ | assumption | refine Below.al ?_ _ | refine Below.dr ?_ | (refine Below.st ?_ (by simp <;> omega) _) | (refine Below.tr ?_ (by assumption))))⟩
        | true =>
          obtain ⟨t1, t2⟩ := inB_true.1 h2
          by_cases h3 : h j ≤ 999
          · have h4 : inB (h j) 0 999 = true := inB_true.2 ⟨by omega, h3⟩
            cases h5 : inB (d j) 0 2 with
            | false =>
              have hno := Lib.hid (scsB_no (k := k) (b := b) (l := l) (h := h) hlt (show scOk b k l h d j = false by simp [scOk, h5]))
              go_wp2_with (first | (go_at_call 44; refine (specPrefixValid_any _ _ _).mono ?_; rintro e w2 ⟨rfl, hb2⟩; have k0 := keepc hb2 wr.heap.size (by simp <;> omega); have z0 : wr.heap.size < w2.heap.size := (by have := hb2.size; simp at this; omega)) | (go_at_call 38; refine (l1In_any _ _ _ _).mono ?_; rintro e w' ⟨rfl, rfl⟩))
              go_ret
              exact ⟨by rw [hno.out] <;> rfl, by (repeat (first | exact Below.refl _ _ | assumption | refine Below.al ?_ _ | refine Below.dr ?_ | (refine Below.st ?_ (by simp <;> omega) _) | (refine Below.tr ?_ (by assumption))))⟩
            | true =>
              have hno := Lib.hid (show scOk b k l h d j = true by simp [scOk, h1, h2, h4, h5])
              go_wp2_with (first | (go_at_call 44; refine (specPrefixValid_any _ _ _).mono ?_; rintro e w2 ⟨rfl, hb2⟩; have k0 := keepc hb2 wr.heap.size (by simp <;> omega); have z0 : wr.heap.size < w2.heap.size := (by have := hb2.size; simp at this; omega)) | (go_at_call 38; refine (l1In_any _ _ _ _).mono ?_; rintro e w' ⟨rfl, rfl⟩))
              go_roundw
              case rel => exact ⟨j + 1, by omega, by go_num, upto HO.out hno.out, by (repeat (first | exact Below.refl _ _ | assumption | refine Below.al ?_ _ | refine Below.dr ?_ | (refine Below.st ?_ (by simp <;> omega) _) | (refine Below.tr ?_ (by assumption))))⟩
              case measure => simp [intOf]; omega
          · have h4 : inB (h j) 0 999 = false := by simp [inB, h3]
            have h5 : 999 < h j := by omega
            have hno := Lib.hid (scsB_no (k := k) (b := b) (l := l) (d := d) hlt (show scOk b k l h d j = false by simp [scOk, h4]))
            go_wp2_with (first | (go_at_call 44; refine (specPrefixValid_any _ _ _).mono ?_; rintro e w2 ⟨rfl, hb2⟩; have k0 := keepc hb2 wr.heap.size (by simp <;> omega); have z0 : wr.heap.size < w2.heap.size := (by have := hb2.size; simp at this; omega)) | (go_at_call 38; refine (l1In_any _ _ _ _).mono ?_; rintro e w' ⟨rfl, rfl⟩))
            go_ret
            exact ⟨by rw [hno.out] <;> rfl, by (repeat (first | exact Below.refl _ _ | assumption | refine Below.al ?_ _ | refine Below.dr ?_ | (refine Below.st ?_ (by simp <;> omega) _) | (refine Below.tr ?_ (by assumption))))⟩
    · obtain rfl : j = n := by omega
      have he := Lib.hid (scsB_end hok)
      clear hok hrow
      go_wp2
      go_ret
      exact ⟨by rw [he.out] <;> simp <;> omega, hBw⟩

end Go.Proofs.Ytcljfakpcecejaa
