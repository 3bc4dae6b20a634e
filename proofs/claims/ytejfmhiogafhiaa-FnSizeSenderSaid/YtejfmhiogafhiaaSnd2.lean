/-
  What SendMore, HearSender and SizeSender compute, in the program and in the reference.
-/
import Derived.Test.YtejfmhiogafhiaaSnd
namespace Go.Proofs.Ytejfmhiogafhiaa
open Go.RowKit

/-- SendMore answers: may it send? -/
def smB (f n r m : Int) : Bool := sndB f n r && inB m 0 1000
def smF (f n r m : Int) : Int := if smB f n r m then f else 0
def smN (f n r m : Int) : Int := if smB f n r m then n + min m (f + r - n) else 0
def smR (f n r m : Int) : Int := if smB f n r m then r else 0
def smK (f n r m : Int) : Int := if smB f n r m then min m (f + r - n) else -1
def smV (f n r m : Int) : Value := .tuple #[.agg #[.int .i64 (smF f n r m), .int .i64 (smN f n r m), .int .i64 (smR f n r m)], .int .i64 (smK f n r m)]
theorem smV_no {f n r m : Int} (h : smB f n r m = false) : smV f n r m = .tuple #[.agg #[.int .i64 0, .int .i64 0, .int .i64 0], .int .i64 (-1)] := by simp [smV, smF, smN, smR, smK, h]
theorem smV_lo {f n r m : Int} (h : smB f n r m = true) (hm : m ≤ f + r - n) : smV f n r m = .tuple #[.agg #[.int .i64 f, .int .i64 (n + m), .int .i64 r], .int .i64 m] := by
  simp [smV, smF, smN, smR, smK, h, Int.min_eq_left hm]
theorem smV_hi {f n r m : Int} (h : smB f n r m = true) (hm : f + r - n ≤ m) : smV f n r m = .tuple #[.agg #[.int .i64 f, .int .i64 (n + (f + r - n)), .int .i64 r], .int .i64 (f + r - n)] := by
  simp [smV, smF, smN, smR, smK, h, Int.min_eq_right hm]

/-- HearSender: is x from First up to the smaller of Next and MaxTime? -/
def heB (f n x : Int) : Bool := inB x f (min n 100000)
def heF (f n r x : Int) : Int := if sndB f n r then (if heB f n x then x else f) else 0
def heN (f n r : Int) : Int := if sndB f n r then n else 0
def heR (f n r : Int) : Int := if sndB f n r then r else 0
def heK (f n r x : Int) : Bool := sndB f n r && heB f n x
def heV (f n r x : Int) : Value := .tuple #[.agg #[.int .i64 (heF f n r x), .int .i64 (heN f n r), .int .i64 (heR f n r)], .bool (heK f n r x)]
theorem heV_no {f n r x : Int} (h : sndB f n r = false) : heV f n r x = .tuple #[.agg #[.int .i64 0, .int .i64 0, .int .i64 0], .bool false] := by simp [heV, heF, heN, heR, heK, h]
theorem heV_un {f n r x : Int} (h : sndB f n r = true) (k : heB f n x = false) : heV f n r x = .tuple #[.agg #[.int .i64 f, .int .i64 n, .int .i64 r], .bool false] := by simp [heV, heF, heN, heR, heK, h, k]
theorem heV_ye {f n r x : Int} (h : sndB f n r = true) (k : heB f n x = true) : heV f n r x = .tuple #[.agg #[.int .i64 x, .int .i64 n, .int .i64 r], .bool true] := by simp [heV, heF, heN, heR, heK, h, k]

/-- SizeSender. -/
def szB (f n r x : Int) : Bool := sndB f n r && inB x 1 1000
def szF (f n r x : Int) : Int := if szB f n r x then f else 0
def szN (f n r x : Int) : Int := if szB f n r x then n else 0
def szR (f n r x : Int) : Int := if szB f n r x then (if n - f ≤ x then x else r) else 0
def szK (f n r x : Int) : Bool := szB f n r x && decide (n - f ≤ x)
def szV (f n r x : Int) : Value := .tuple #[.agg #[.int .i64 (szF f n r x), .int .i64 (szN f n r x), .int .i64 (szR f n r x)], .bool (szK f n r x)]
theorem szV_no {f n r x : Int} (h : szB f n r x = false) : szV f n r x = .tuple #[.agg #[.int .i64 0, .int .i64 0, .int .i64 0], .bool false] := by simp [szV, szF, szN, szR, szK, h]
theorem szV_un {f n r x : Int} (h : szB f n r x = true) (k : x < n - f) : szV f n r x = .tuple #[.agg #[.int .i64 f, .int .i64 n, .int .i64 r], .bool false] := by
  have k' : ¬ n - f ≤ x := by omega
  simp [szV, szF, szN, szR, szK, h, k']
theorem szV_ye {f n r x : Int} (h : szB f n r x = true) (k : n - f ≤ x) : szV f n r x = .tuple #[.agg #[.int .i64 f, .int .i64 n, .int .i64 x], .bool true] := by simp [szV, szF, szN, szR, szK, h, k]

set_option maxHeartbeats 400000 in
theorem implSendMore_any (f n r m : Int) (w : World) :
    Calls Try.prog 15 #[.agg #[.int .i64 f, .int .i64 n, .int .i64 r], .int .i64 m] w fun e w' => e = .returned (smV f n r m) ∧ Below w.heap.size w w' := by
  by_cases hv : sndB f n r = true
  · by_cases hm : inB m 0 1000 = true
    · obtain ⟨b1, b2, b3, b4, b5, b6⟩ := sndB_true.1 hv
      obtain ⟨b7, b8⟩ := inB_true.1 hm
      have HB := Lib.hid (show smB f n r m = true by simp [smB, *])
      go_enter Try.func15, Try.ntmps15
      go_wp2_with (first | (go_at_call 28; refine (in_any _ _ _ _).mono ?_; rintro e w' ⟨rfl, rfl⟩) | (go_at_call 26; refine (l1In_any _ _ _ _).mono ?_; rintro e w' ⟨rfl, rfl⟩) | (go_at_call 13; refine (implSenderValid_any _ _ _ _).mono ?_; rintro e w1 ⟨rfl, rfl⟩) | (go_at_call 11; refine (specSenderValid_any _ _ _ _).mono ?_; rintro e w1 ⟨rfl, rfl⟩))
      · have h : f + r - n < m := by assumption
        rw [smV_hi HB.out (by omega)]
        refine bodyPost_ret (v := .tuple #[.agg #[.int .i64 f, .int .i64 (n + (f + r - n)), .int .i64 r], .int .i64 (f + r - n)]) (by simp [results, Try.results15, go_sem]) rfl ⟨rfl, by (repeat (first | exact Below.refl _ _ | assumption | refine Below.al ?_ _ | refine Below.dr ?_ | (refine Below.st ?_ (by simp <;> omega) _) | (refine Below.tr ?_ (by assumption))))⟩
      · have h : m ≤ f + r - n := by assumption
        rw [smV_lo HB.out (by omega)]
        refine bodyPost_ret (v := .tuple #[.agg #[.int .i64 f, .int .i64 (n + m), .int .i64 r], .int .i64 m]) (by simp [results, Try.results15, go_sem]) rfl ⟨rfl, by (repeat (first | exact Below.refl _ _ | assumption | refine Below.al ?_ _ | refine Below.dr ?_ | (refine Below.st ?_ (by simp <;> omega) _) | (refine Below.tr ?_ (by assumption))))⟩
    · replace hm : inB m 0 1000 = false := by simpa using hm
      rw [smV_no (by simp [smB, *])]
      go_enter Try.func15, Try.ntmps15
      go_wp2_with (first | (go_at_call 28; refine (in_any _ _ _ _).mono ?_; rintro e w' ⟨rfl, rfl⟩) | (go_at_call 26; refine (l1In_any _ _ _ _).mono ?_; rintro e w' ⟨rfl, rfl⟩) | (go_at_call 13; refine (implSenderValid_any _ _ _ _).mono ?_; rintro e w1 ⟨rfl, rfl⟩) | (go_at_call 11; refine (specSenderValid_any _ _ _ _).mono ?_; rintro e w1 ⟨rfl, rfl⟩))
      refine bodyPost_ret (v := .tuple #[.agg #[.int .i64 0, .int .i64 0, .int .i64 0], .int .i64 (-1)]) (by simp [results, Try.results15, go_sem]) rfl ⟨rfl, by (repeat (first | exact Below.refl _ _ | assumption | refine Below.al ?_ _ | refine Below.dr ?_ | (refine Below.st ?_ (by simp <;> omega) _) | (refine Below.tr ?_ (by assumption))))⟩
  · replace hv : sndB f n r = false := by simpa using hv
    rw [smV_no (by simp [smB, *])]
    go_enter Try.func15, Try.ntmps15
    go_wp2_with (first | (go_at_call 28; refine (in_any _ _ _ _).mono ?_; rintro e w' ⟨rfl, rfl⟩) | (go_at_call 26; refine (l1In_any _ _ _ _).mono ?_; rintro e w' ⟨rfl, rfl⟩) | (go_at_call 13; refine (implSenderValid_any _ _ _ _).mono ?_; rintro e w1 ⟨rfl, rfl⟩) | (go_at_call 11; refine (specSenderValid_any _ _ _ _).mono ?_; rintro e w1 ⟨rfl, rfl⟩))
    refine bodyPost_ret (v := .tuple #[.agg #[.int .i64 0, .int .i64 0, .int .i64 0], .int .i64 (-1)]) (by simp [results, Try.results15, go_sem]) rfl ⟨rfl, by (repeat (first | exact Below.refl _ _ | assumption | refine Below.al ?_ _ | refine Below.dr ?_ | (refine Below.st ?_ (by simp <;> omega) _) | (refine Below.tr ?_ (by assumption))))⟩


set_option maxHeartbeats 400000 in
theorem specSendMore_any (f n r m : Int) (w : World) :
    Calls Try.prog 14 #[.agg #[.int .i64 f, .int .i64 n, .int .i64 r], .int .i64 m] w fun e w' => e = .returned (smV f n r m) ∧ Below w.heap.size w w' := by
  by_cases hv : sndB f n r = true
  · by_cases hm : inB m 0 1000 = true
    · obtain ⟨b1, b2, b3, b4, b5, b6⟩ := sndB_true.1 hv
      obtain ⟨b7, b8⟩ := inB_true.1 hm
      have HB := Lib.hid (show smB f n r m = true by simp [smB, *])
      go_enter Try.func14, Try.ntmps14
      go_wp2_with (first | (go_at_call 28; refine (in_any _ _ _ _).mono ?_; rintro e w' ⟨rfl, rfl⟩) | (go_at_call 26; refine (l1In_any _ _ _ _).mono ?_; rintro e w' ⟨rfl, rfl⟩) | (go_at_call 13; refine (implSenderValid_any _ _ _ _).mono ?_; rintro e w1 ⟨rfl, rfl⟩) | (go_at_call 11; refine (specSenderValid_any _ _ _ _).mono ?_; rintro e w1 ⟨rfl, rfl⟩))
      · have h : f + r - n < m := by assumption
        rw [smV_hi HB.out (by omega)]
        refine bodyPost_ret (v := .tuple #[.agg #[.int .i64 f, .int .i64 (n + (f + r - n)), .int .i64 r], .int .i64 (f + r - n)]) (by simp [results, Try.results14, go_sem]) rfl ⟨rfl, by (repeat (first | exact Below.refl _ _ | assumption | refine Below.al ?_ _ | refine Below.dr ?_ | (refine Below.st ?_ (by simp <;> omega) _) | (refine Below.tr ?_ (by assumption))))⟩
      · have h : m ≤ f + r - n := by assumption
        rw [smV_lo HB.out (by omega)]
        refine bodyPost_ret (v := .tuple #[.agg #[.int .i64 f, .int .i64 (n + m), .int .i64 r], .int .i64 m]) (by simp [results, Try.results14, go_sem]) rfl ⟨rfl, by (repeat (first | exact Below.refl _ _ | assumption | refine Below.al ?_ _ | refine Below.dr ?_ | (refine Below.st ?_ (by simp <;> omega) _) | (refine Below.tr ?_ (by assumption))))⟩
    · replace hm : inB m 0 1000 = false := by simpa using hm
      rw [smV_no (by simp [smB, *])]
      go_enter Try.func14, Try.ntmps14
      go_wp2_with (first | (go_at_call 28; refine (in_any _ _ _ _).mono ?_; rintro e w' ⟨rfl, rfl⟩) | (go_at_call 26; refine (l1In_any _ _ _ _).mono ?_; rintro e w' ⟨rfl, rfl⟩) | (go_at_call 13; refine (implSenderValid_any _ _ _ _).mono ?_; rintro e w1 ⟨rfl, rfl⟩) | (go_at_call 11; refine (specSenderValid_any _ _ _ _).mono ?_; rintro e w1 ⟨rfl, rfl⟩))
      refine bodyPost_ret (v := .tuple #[.agg #[.int .i64 0, .int .i64 0, .int .i64 0], .int .i64 (-1)]) (by simp [results, Try.results14, go_sem]) rfl ⟨rfl, by (repeat (first | exact Below.refl _ _ | assumption | refine Below.al ?_ _ | refine Below.dr ?_ | (refine Below.st ?_ (by simp <;> omega) _) | (refine Below.tr ?_ (by assumption))))⟩
  · replace hv : sndB f n r = false := by simpa using hv
    rw [smV_no (by simp [smB, *])]
    go_enter Try.func14, Try.ntmps14
    go_wp2_with (first | (go_at_call 28; refine (in_any _ _ _ _).mono ?_; rintro e w' ⟨rfl, rfl⟩) | (go_at_call 26; refine (l1In_any _ _ _ _).mono ?_; rintro e w' ⟨rfl, rfl⟩) | (go_at_call 13; refine (implSenderValid_any _ _ _ _).mono ?_; rintro e w1 ⟨rfl, rfl⟩) | (go_at_call 11; refine (specSenderValid_any _ _ _ _).mono ?_; rintro e w1 ⟨rfl, rfl⟩))
    refine bodyPost_ret (v := .tuple #[.agg #[.int .i64 0, .int .i64 0, .int .i64 0], .int .i64 (-1)]) (by simp [results, Try.results14, go_sem]) rfl ⟨rfl, by (repeat (first | exact Below.refl _ _ | assumption | refine Below.al ?_ _ | refine Below.dr ?_ | (refine Below.st ?_ (by simp <;> omega) _) | (refine Below.tr ?_ (by assumption))))⟩


set_option maxHeartbeats 1000000 in
theorem implHearSender_any (f n r x : Int) (w : World) :
    Calls Try.prog 18 #[.agg #[.int .i64 f, .int .i64 n, .int .i64 r], .int .i64 x] w fun e w' => e = .returned (heV f n r x) ∧ Below w.heap.size w w' := by
  by_cases hv : sndB f n r = true
  · by_cases hm : heB f n x = true
    · obtain ⟨b1, b2, b3, b4, b5, b6⟩ := sndB_true.1 hv
      rw [heV_ye hv hm]
      unfold heB at hm
      rcases Int.le_total n 100000 with hn | hn
      · rw [Int.min_eq_left hn] at hm
        go_enter Try.func18, Try.ntmps18
        go_wp2_with (first | (go_at_call 28; refine (in_any _ _ _ _).mono ?_; rintro e w' ⟨rfl, rfl⟩) | (go_at_call 26; refine (l1In_any _ _ _ _).mono ?_; rintro e w' ⟨rfl, rfl⟩) | (go_at_call 13; refine (implSenderValid_any _ _ _ _).mono ?_; rintro e w1 ⟨rfl, rfl⟩) | (go_at_call 11; refine (specSenderValid_any _ _ _ _).mono ?_; rintro e w1 ⟨rfl, rfl⟩))
        refine bodyPost_ret (v := .tuple #[.agg #[.int .i64 x, .int .i64 n, .int .i64 r], .bool true]) (by simp [results, Try.results18, go_sem]) rfl ⟨rfl, by (repeat (first | exact Below.refl _ _ | assumption | refine Below.al ?_ _ | refine Below.dr ?_ | (refine Below.st ?_ (by simp <;> omega) _) | (refine Below.tr ?_ (by assumption))))⟩
      · rw [Int.min_eq_right hn] at hm
        rcases Int.lt_or_eq_of_le hn with hn | hn
        · go_enter Try.func18, Try.ntmps18
          go_wp2_with (first | (go_at_call 28; refine (in_any _ _ _ _).mono ?_; rintro e w' ⟨rfl, rfl⟩) | (go_at_call 26; refine (l1In_any _ _ _ _).mono ?_; rintro e w' ⟨rfl, rfl⟩) | (go_at_call 13; refine (implSenderValid_any _ _ _ _).mono ?_; rintro e w1 ⟨rfl, rfl⟩) | (go_at_call 11; refine (specSenderValid_any _ _ _ _).mono ?_; rintro e w1 ⟨rfl, rfl⟩))
          refine bodyPost_ret (v := .tuple #[.agg #[.int .i64 x, .int .i64 n, .int .i64 r], .bool true]) (by simp [results, Try.results18, go_sem]) rfl ⟨rfl, by (repeat (first | exact Below.refl _ _ | assumption | refine Below.al ?_ _ | refine Below.dr ?_ | (refine Below.st ?_ (by simp <;> omega) _) | (refine Below.tr ?_ (by assumption))))⟩
        · subst hn
          go_enter Try.func18, Try.ntmps18
          go_wp2_with (first | (go_at_call 28; refine (in_any _ _ _ _).mono ?_; rintro e w' ⟨rfl, rfl⟩) | (go_at_call 26; refine (l1In_any _ _ _ _).mono ?_; rintro e w' ⟨rfl, rfl⟩) | (go_at_call 13; refine (implSenderValid_any _ _ _ _).mono ?_; rintro e w1 ⟨rfl, rfl⟩) | (go_at_call 11; refine (specSenderValid_any _ _ _ _).mono ?_; rintro e w1 ⟨rfl, rfl⟩))
          refine bodyPost_ret (v := .tuple #[.agg #[.int .i64 x, .int .i64 100000, .int .i64 r], .bool true]) (by simp [results, Try.results18, go_sem]) rfl ⟨rfl, by (repeat (first | exact Below.refl _ _ | assumption | refine Below.al ?_ _ | refine Below.dr ?_ | (refine Below.st ?_ (by simp <;> omega) _) | (refine Below.tr ?_ (by assumption))))⟩
    · replace hm : heB f n x = false := by simpa using hm
      obtain ⟨b1, b2, b3, b4, b5, b6⟩ := sndB_true.1 hv
      rw [heV_un hv hm]
      unfold heB at hm
      rcases Int.le_total n 100000 with hn | hn
      · rw [Int.min_eq_left hn] at hm
        go_enter Try.func18, Try.ntmps18
        go_wp2_with (first | (go_at_call 28; refine (in_any _ _ _ _).mono ?_; rintro e w' ⟨rfl, rfl⟩) | (go_at_call 26; refine (l1In_any _ _ _ _).mono ?_; rintro e w' ⟨rfl, rfl⟩) | (go_at_call 13; refine (implSenderValid_any _ _ _ _).mono ?_; rintro e w1 ⟨rfl, rfl⟩) | (go_at_call 11; refine (specSenderValid_any _ _ _ _).mono ?_; rintro e w1 ⟨rfl, rfl⟩))
        refine bodyPost_ret (v := .tuple #[.agg #[.int .i64 f, .int .i64 n, .int .i64 r], .bool false]) (by simp [results, Try.results18, go_sem]) rfl ⟨rfl, by (repeat (first | exact Below.refl _ _ | assumption | refine Below.al ?_ _ | refine Below.dr ?_ | (refine Below.st ?_ (by simp <;> omega) _) | (refine Below.tr ?_ (by assumption))))⟩
      · rw [Int.min_eq_right hn] at hm
        rcases Int.lt_or_eq_of_le hn with hn | hn
        · go_enter Try.func18, Try.ntmps18
          go_wp2_with (first | (go_at_call 28; refine (in_any _ _ _ _).mono ?_; rintro e w' ⟨rfl, rfl⟩) | (go_at_call 26; refine (l1In_any _ _ _ _).mono ?_; rintro e w' ⟨rfl, rfl⟩) | (go_at_call 13; refine (implSenderValid_any _ _ _ _).mono ?_; rintro e w1 ⟨rfl, rfl⟩) | (go_at_call 11; refine (specSenderValid_any _ _ _ _).mono ?_; rintro e w1 ⟨rfl, rfl⟩))
          refine bodyPost_ret (v := .tuple #[.agg #[.int .i64 f, .int .i64 n, .int .i64 r], .bool false]) (by simp [results, Try.results18, go_sem]) rfl ⟨rfl, by (repeat (first | exact Below.refl _ _ | assumption | refine Below.al ?_ _ | refine Below.dr ?_ | (refine Below.st ?_ (by simp <;> omega) _) | (refine Below.tr ?_ (by assumption))))⟩
        · subst hn
          go_enter Try.func18, Try.ntmps18
          go_wp2_with (first | (go_at_call 28; refine (in_any _ _ _ _).mono ?_; rintro e w' ⟨rfl, rfl⟩) | (go_at_call 26; refine (l1In_any _ _ _ _).mono ?_; rintro e w' ⟨rfl, rfl⟩) | (go_at_call 13; refine (implSenderValid_any _ _ _ _).mono ?_; rintro e w1 ⟨rfl, rfl⟩) | (go_at_call 11; refine (specSenderValid_any _ _ _ _).mono ?_; rintro e w1 ⟨rfl, rfl⟩))
          refine bodyPost_ret (v := .tuple #[.agg #[.int .i64 f, .int .i64 100000, .int .i64 r], .bool false]) (by simp [results, Try.results18, go_sem]) rfl ⟨rfl, by (repeat (first | exact Below.refl _ _ | assumption | refine Below.al ?_ _ | refine Below.dr ?_ | (refine Below.st ?_ (by simp <;> omega) _) | (refine Below.tr ?_ (by assumption))))⟩
  · replace hv : sndB f n r = false := by simpa using hv
    rw [heV_no hv]
    go_enter Try.func18, Try.ntmps18
    go_wp2_with (first | (go_at_call 28; refine (in_any _ _ _ _).mono ?_; rintro e w' ⟨rfl, rfl⟩) | (go_at_call 26; refine (l1In_any _ _ _ _).mono ?_; rintro e w' ⟨rfl, rfl⟩) | (go_at_call 13; refine (implSenderValid_any _ _ _ _).mono ?_; rintro e w1 ⟨rfl, rfl⟩) | (go_at_call 11; refine (specSenderValid_any _ _ _ _).mono ?_; rintro e w1 ⟨rfl, rfl⟩))
    refine bodyPost_ret (v := .tuple #[.agg #[.int .i64 0, .int .i64 0, .int .i64 0], .bool false]) (by simp [results, Try.results18, go_sem]) rfl ⟨rfl, by (repeat (first | exact Below.refl _ _ | assumption | refine Below.al ?_ _ | refine Below.dr ?_ | (refine Below.st ?_ (by simp <;> omega) _) | (refine Below.tr ?_ (by assumption))))⟩


set_option maxHeartbeats 1000000 in
theorem specHearSender_any (f n r x : Int) (w : World) :
    Calls Try.prog 17 #[.agg #[.int .i64 f, .int .i64 n, .int .i64 r], .int .i64 x] w fun e w' => e = .returned (heV f n r x) ∧ Below w.heap.size w w' := by
  by_cases hv : sndB f n r = true
  · by_cases hm : heB f n x = true
    · obtain ⟨b1, b2, b3, b4, b5, b6⟩ := sndB_true.1 hv
      rw [heV_ye hv hm]
      unfold heB at hm
      rcases Int.le_total n 100000 with hn | hn
      · rw [Int.min_eq_left hn] at hm
        go_enter Try.func17, Try.ntmps17
        go_wp2_with (first | (go_at_call 28; refine (in_any _ _ _ _).mono ?_; rintro e w' ⟨rfl, rfl⟩) | (go_at_call 26; refine (l1In_any _ _ _ _).mono ?_; rintro e w' ⟨rfl, rfl⟩) | (go_at_call 13; refine (implSenderValid_any _ _ _ _).mono ?_; rintro e w1 ⟨rfl, rfl⟩) | (go_at_call 11; refine (specSenderValid_any _ _ _ _).mono ?_; rintro e w1 ⟨rfl, rfl⟩))
        refine bodyPost_ret (v := .tuple #[.agg #[.int .i64 x, .int .i64 n, .int .i64 r], .bool true]) (by simp [results, Try.results17, go_sem]) rfl ⟨rfl, by (repeat (first | exact Below.refl _ _ | assumption | refine Below.al ?_ _ | refine Below.dr ?_ | (refine Below.st ?_ (by simp <;> omega) _) | (refine Below.tr ?_ (by assumption))))⟩
      · rw [Int.min_eq_right hn] at hm
        rcases Int.lt_or_eq_of_le hn with hn | hn
        · go_enter Try.func17, Try.ntmps17
          go_wp2_with (first | (go_at_call 28; refine (in_any _ _ _ _).mono ?_; rintro e w' ⟨rfl, rfl⟩) | (go_at_call 26; refine (l1In_any _ _ _ _).mono ?_; rintro e w' ⟨rfl, rfl⟩) | (go_at_call 13; refine (implSenderValid_any _ _ _ _).mono ?_; rintro e w1 ⟨rfl, rfl⟩) | (go_at_call 11; refine (specSenderValid_any _ _ _ _).mono ?_; rintro e w1 ⟨rfl, rfl⟩))
          refine bodyPost_ret (v := .tuple #[.agg #[.int .i64 x, .int .i64 n, .int .i64 r], .bool true]) (by simp [results, Try.results17, go_sem]) rfl ⟨rfl, by (repeat (first | exact Below.refl _ _ | assumption | refine Below.al ?_ _ | refine Below.dr ?_ | (refine Below.st ?_ (by simp <;> omega) _) | (refine Below.tr ?_ (by assumption))))⟩
        · subst hn
          go_enter Try.func17, Try.ntmps17
          go_wp2_with (first | (go_at_call 28; refine (in_any _ _ _ _).mono ?_; rintro e w' ⟨rfl, rfl⟩) | (go_at_call 26; refine (l1In_any _ _ _ _).mono ?_; rintro e w' ⟨rfl, rfl⟩) | (go_at_call 13; refine (implSenderValid_any _ _ _ _).mono ?_; rintro e w1 ⟨rfl, rfl⟩) | (go_at_call 11; refine (specSenderValid_any _ _ _ _).mono ?_; rintro e w1 ⟨rfl, rfl⟩))
          refine bodyPost_ret (v := .tuple #[.agg #[.int .i64 x, .int .i64 100000, .int .i64 r], .bool true]) (by simp [results, Try.results17, go_sem]) rfl ⟨rfl, by (repeat (first | exact Below.refl _ _ | assumption | refine Below.al ?_ _ | refine Below.dr ?_ | (refine Below.st ?_ (by simp <;> omega) _) | (refine Below.tr ?_ (by assumption))))⟩
    · replace hm : heB f n x = false := by simpa using hm
      obtain ⟨b1, b2, b3, b4, b5, b6⟩ := sndB_true.1 hv
      rw [heV_un hv hm]
      unfold heB at hm
      rcases Int.le_total n 100000 with hn | hn
      · rw [Int.min_eq_left hn] at hm
        go_enter Try.func17, Try.ntmps17
        go_wp2_with (first | (go_at_call 28; refine (in_any _ _ _ _).mono ?_; rintro e w' ⟨rfl, rfl⟩) | (go_at_call 26; refine (l1In_any _ _ _ _).mono ?_; rintro e w' ⟨rfl, rfl⟩) | (go_at_call 13; refine (implSenderValid_any _ _ _ _).mono ?_; rintro e w1 ⟨rfl, rfl⟩) | (go_at_call 11; refine (specSenderValid_any _ _ _ _).mono ?_; rintro e w1 ⟨rfl, rfl⟩))
        refine bodyPost_ret (v := .tuple #[.agg #[.int .i64 f, .int .i64 n, .int .i64 r], .bool false]) (by simp [results, Try.results17, go_sem]) rfl ⟨rfl, by (repeat (first | exact Below.refl _ _ | assumption | refine Below.al ?_ _ | refine Below.dr ?_ | (refine Below.st ?_ (by simp <;> omega) _) | (refine Below.tr ?_ (by assumption))))⟩
      · rw [Int.min_eq_right hn] at hm
        rcases Int.lt_or_eq_of_le hn with hn | hn
        · go_enter Try.func17, Try.ntmps17
          go_wp2_with (first | (go_at_call 28; refine (in_any _ _ _ _).mono ?_; rintro e w' ⟨rfl, rfl⟩) | (go_at_call 26; refine (l1In_any _ _ _ _).mono ?_; rintro e w' ⟨rfl, rfl⟩) | (go_at_call 13; refine (implSenderValid_any _ _ _ _).mono ?_; rintro e w1 ⟨rfl, rfl⟩) | (go_at_call 11; refine (specSenderValid_any _ _ _ _).mono ?_; rintro e w1 ⟨rfl, rfl⟩))
          refine bodyPost_ret (v := .tuple #[.agg #[.int .i64 f, .int .i64 n, .int .i64 r], .bool false]) (by simp [results, Try.results17, go_sem]) rfl ⟨rfl, by (repeat (first | exact Below.refl _ _ | assumption | refine Below.al ?_ _ | refine Below.dr ?_ | (refine Below.st ?_ (by simp <;> omega) _) | (refine Below.tr ?_ (by assumption))))⟩
        · subst hn
          go_enter Try.func17, Try.ntmps17
          go_wp2_with (first | (go_at_call 28; refine (in_any _ _ _ _).mono ?_; rintro e w' ⟨rfl, rfl⟩) | (go_at_call 26; refine (l1In_any _ _ _ _).mono ?_; rintro e w' ⟨rfl, rfl⟩) | (go_at_call 13; refine (implSenderValid_any _ _ _ _).mono ?_; rintro e w1 ⟨rfl, rfl⟩) | (go_at_call 11; refine (specSenderValid_any _ _ _ _).mono ?_; rintro e w1 ⟨rfl, rfl⟩))
          refine bodyPost_ret (v := .tuple #[.agg #[.int .i64 f, .int .i64 100000, .int .i64 r], .bool false]) (by simp [results, Try.results17, go_sem]) rfl ⟨rfl, by (repeat (first | exact Below.refl _ _ | assumption | refine Below.al ?_ _ | refine Below.dr ?_ | (refine Below.st ?_ (by simp <;> omega) _) | (refine Below.tr ?_ (by assumption))))⟩
  · replace hv : sndB f n r = false := by simpa using hv
    rw [heV_no hv]
    go_enter Try.func17, Try.ntmps17
    go_wp2_with (first | (go_at_call 28; refine (in_any _ _ _ _).mono ?_; rintro e w' ⟨rfl, rfl⟩) | (go_at_call 26; refine (l1In_any _ _ _ _).mono ?_; rintro e w' ⟨rfl, rfl⟩) | (go_at_call 13; refine (implSenderValid_any _ _ _ _).mono ?_; rintro e w1 ⟨rfl, rfl⟩) | (go_at_call 11; refine (specSenderValid_any _ _ _ _).mono ?_; rintro e w1 ⟨rfl, rfl⟩))
    refine bodyPost_ret (v := .tuple #[.agg #[.int .i64 0, .int .i64 0, .int .i64 0], .bool false]) (by simp [results, Try.results17, go_sem]) rfl ⟨rfl, by (repeat (first | exact Below.refl _ _ | assumption | refine Below.al ?_ _ | refine Below.dr ?_ | (refine Below.st ?_ (by simp <;> omega) _) | (refine Below.tr ?_ (by assumption))))⟩


set_option maxHeartbeats 400000 in
theorem implSizeSender_any (f n r x : Int) (w : World) :
    Calls Try.prog 20 #[.agg #[.int .i64 f, .int .i64 n, .int .i64 r], .int .i64 x] w fun e w' => e = .returned (szV f n r x) ∧ Below w.heap.size w w' := by
  by_cases hv : sndB f n r = true
  · by_cases hm : inB x 1 1000 = true
    · obtain ⟨b1, b2, b3, b4, b5, b6⟩ := sndB_true.1 hv
      by_cases hk : n - f ≤ x
      · rw [szV_ye (by simp [szB, *]) hk]
        go_enter Try.func20, Try.ntmps20
        go_wp2_with (first | (go_at_call 28; refine (in_any _ _ _ _).mono ?_; rintro e w' ⟨rfl, rfl⟩) | (go_at_call 26; refine (l1In_any _ _ _ _).mono ?_; rintro e w' ⟨rfl, rfl⟩) | (go_at_call 13; refine (implSenderValid_any _ _ _ _).mono ?_; rintro e w1 ⟨rfl, rfl⟩) | (go_at_call 11; refine (specSenderValid_any _ _ _ _).mono ?_; rintro e w1 ⟨rfl, rfl⟩))
        refine bodyPost_ret (v := .tuple #[.agg #[.int .i64 f, .int .i64 n, .int .i64 x], .bool true]) (by simp [results, Try.results20, go_sem]) rfl ⟨rfl, by (repeat (first | exact Below.refl _ _ | assumption | refine Below.al ?_ _ | refine Below.dr ?_ | (refine Below.st ?_ (by simp <;> omega) _) | (refine Below.tr ?_ (by assumption))))⟩
      · replace hk : x < n - f := by omega
        rw [szV_un (by simp [szB, *]) hk]
        go_enter Try.func20, Try.ntmps20
        go_wp2_with (first | (go_at_call 28; refine (in_any _ _ _ _).mono ?_; rintro e w' ⟨rfl, rfl⟩) | (go_at_call 26; refine (l1In_any _ _ _ _).mono ?_; rintro e w' ⟨rfl, rfl⟩) | (go_at_call 13; refine (implSenderValid_any _ _ _ _).mono ?_; rintro e w1 ⟨rfl, rfl⟩) | (go_at_call 11; refine (specSenderValid_any _ _ _ _).mono ?_; rintro e w1 ⟨rfl, rfl⟩))
        refine bodyPost_ret (v := .tuple #[.agg #[.int .i64 f, .int .i64 n, .int .i64 r], .bool false]) (by simp [results, Try.results20, go_sem]) rfl ⟨rfl, by (repeat (first | exact Below.refl _ _ | assumption | refine Below.al ?_ _ | refine Below.dr ?_ | (refine Below.st ?_ (by simp <;> omega) _) | (refine Below.tr ?_ (by assumption))))⟩
    · replace hm : inB x 1 1000 = false := by simpa using hm
      rw [szV_no (by simp [szB, *])]
      go_enter Try.func20, Try.ntmps20
      go_wp2_with (first | (go_at_call 28; refine (in_any _ _ _ _).mono ?_; rintro e w' ⟨rfl, rfl⟩) | (go_at_call 26; refine (l1In_any _ _ _ _).mono ?_; rintro e w' ⟨rfl, rfl⟩) | (go_at_call 13; refine (implSenderValid_any _ _ _ _).mono ?_; rintro e w1 ⟨rfl, rfl⟩) | (go_at_call 11; refine (specSenderValid_any _ _ _ _).mono ?_; rintro e w1 ⟨rfl, rfl⟩))
      refine bodyPost_ret (v := .tuple #[.agg #[.int .i64 0, .int .i64 0, .int .i64 0], .bool false]) (by simp [results, Try.results20, go_sem]) rfl ⟨rfl, by (repeat (first | exact Below.refl _ _ | assumption | refine Below.al ?_ _ | refine Below.dr ?_ | (refine Below.st ?_ (by simp <;> omega) _) | (refine Below.tr ?_ (by assumption))))⟩
  · replace hv : sndB f n r = false := by simpa using hv
    rw [szV_no (by simp [szB, *])]
    go_enter Try.func20, Try.ntmps20
    go_wp2_with (first | (go_at_call 28; refine (in_any _ _ _ _).mono ?_; rintro e w' ⟨rfl, rfl⟩) | (go_at_call 26; refine (l1In_any _ _ _ _).mono ?_; rintro e w' ⟨rfl, rfl⟩) | (go_at_call 13; refine (implSenderValid_any _ _ _ _).mono ?_; rintro e w1 ⟨rfl, rfl⟩) | (go_at_call 11; refine (specSenderValid_any _ _ _ _).mono ?_; rintro e w1 ⟨rfl, rfl⟩))
    refine bodyPost_ret (v := .tuple #[.agg #[.int .i64 0, .int .i64 0, .int .i64 0], .bool false]) (by simp [results, Try.results20, go_sem]) rfl ⟨rfl, by (repeat (first | exact Below.refl _ _ | assumption | refine Below.al ?_ _ | refine Below.dr ?_ | (refine Below.st ?_ (by simp <;> omega) _) | (refine Below.tr ?_ (by assumption))))⟩


set_option maxHeartbeats 400000 in
theorem specSizeSender_any (f n r x : Int) (w : World) :
    Calls Try.prog 19 #[.agg #[.int .i64 f, .int .i64 n, .int .i64 r], .int .i64 x] w fun e w' => e = .returned (szV f n r x) ∧ Below w.heap.size w w' := by
  by_cases hv : sndB f n r = true
  · by_cases hm : inB x 1 1000 = true
    · obtain ⟨b1, b2, b3, b4, b5, b6⟩ := sndB_true.1 hv
      by_cases hk : n - f ≤ x
      · rw [szV_ye (by simp [szB, *]) hk]
        go_enter Try.func19, Try.ntmps19
        go_wp2_with (first | (go_at_call 28; refine (in_any _ _ _ _).mono ?_; rintro e w' ⟨rfl, rfl⟩) | (go_at_call 26; refine (l1In_any _ _ _ _).mono ?_; rintro e w' ⟨rfl, rfl⟩) | (go_at_call 13; refine (implSenderValid_any _ _ _ _).mono ?_; rintro e w1 ⟨rfl, rfl⟩) | (go_at_call 11; refine (specSenderValid_any _ _ _ _).mono ?_; rintro e w1 ⟨rfl, rfl⟩))
        refine bodyPost_ret (v := .tuple #[.agg #[.int .i64 f, .int .i64 n, .int .i64 x], .bool true]) (by simp [results, Try.results19, go_sem]) rfl ⟨rfl, by (repeat (first | exact Below.refl _ _ | assumption | refine Below.al ?_ _ | refine Below.dr ?_ | (refine Below.st ?_ (by simp <;> omega) _) | (refine Below.tr ?_ (by assumption))))⟩
      · replace hk : x < n - f := by omega
        rw [szV_un (by simp [szB, *]) hk]
        go_enter Try.func19, Try.ntmps19
        go_wp2_with (first | (go_at_call 28; refine (in_any _ _ _ _).mono ?_; rintro e w' ⟨rfl, rfl⟩) | (go_at_call 26; refine (l1In_any _ _ _ _).mono ?_; rintro e w' ⟨rfl, rfl⟩) | (go_at_call 13; refine (implSenderValid_any _ _ _ _).mono ?_; rintro e w1 ⟨rfl, rfl⟩) | (go_at_call 11; refine (specSenderValid_any _ _ _ _).mono ?_; rintro e w1 ⟨rfl, rfl⟩))
        refine bodyPost_ret (v := .tuple #[.agg #[.int .i64 f, .int .i64 n, .int .i64 r], .bool false]) (by simp [results, Try.results19, go_sem]) rfl ⟨rfl, by (repeat (first | exact Below.refl _ _ | assumption | refine Below.al ?_ _ | refine Below.dr ?_ | (refine Below.st ?_ (by simp <;> omega) _) | (refine Below.tr ?_ (by assumption))))⟩
    · replace hm : inB x 1 1000 = false := by simpa using hm
      rw [szV_no (by simp [szB, *])]
      go_enter Try.func19, Try.ntmps19
      go_wp2_with (first | (go_at_call 28; refine (in_any _ _ _ _).mono ?_; rintro e w' ⟨rfl, rfl⟩) | (go_at_call 26; refine (l1In_any _ _ _ _).mono ?_; rintro e w' ⟨rfl, rfl⟩) | (go_at_call 13; refine (implSenderValid_any _ _ _ _).mono ?_; rintro e w1 ⟨rfl, rfl⟩) | (go_at_call 11; refine (specSenderValid_any _ _ _ _).mono ?_; rintro e w1 ⟨rfl, rfl⟩))
      refine bodyPost_ret (v := .tuple #[.agg #[.int .i64 0, .int .i64 0, .int .i64 0], .bool false]) (by simp [results, Try.results19, go_sem]) rfl ⟨rfl, by (repeat (first | exact Below.refl _ _ | assumption | refine Below.al ?_ _ | refine Below.dr ?_ | (refine Below.st ?_ (by simp <;> omega) _) | (refine Below.tr ?_ (by assumption))))⟩
  · replace hv : sndB f n r = false := by simpa using hv
    rw [szV_no (by simp [szB, *])]
    go_enter Try.func19, Try.ntmps19
    go_wp2_with (first | (go_at_call 28; refine (in_any _ _ _ _).mono ?_; rintro e w' ⟨rfl, rfl⟩) | (go_at_call 26; refine (l1In_any _ _ _ _).mono ?_; rintro e w' ⟨rfl, rfl⟩) | (go_at_call 13; refine (implSenderValid_any _ _ _ _).mono ?_; rintro e w1 ⟨rfl, rfl⟩) | (go_at_call 11; refine (specSenderValid_any _ _ _ _).mono ?_; rintro e w1 ⟨rfl, rfl⟩))
    refine bodyPost_ret (v := .tuple #[.agg #[.int .i64 0, .int .i64 0, .int .i64 0], .bool false]) (by simp [results, Try.results19, go_sem]) rfl ⟨rfl, by (repeat (first | exact Below.refl _ _ | assumption | refine Below.al ?_ _ | refine Below.dr ?_ | (refine Below.st ?_ (by simp <;> omega) _) | (refine Below.tr ?_ (by assumption))))⟩


set_option maxHeartbeats 400000 in
theorem eqSender_same (f n r : Int) (w : World) :
    Calls Try.prog 16 #[.agg #[.int .i64 f, .int .i64 n, .int .i64 r], .agg #[.int .i64 f, .int .i64 n, .int .i64 r]] w fun e w' => e = .returned (.bool true) ∧ Below w.heap.size w w' := by
  go_enter Try.func16, Try.ntmps16
  go_wp2
  go_ret
  exact ⟨rfl, by (repeat (first | exact Below.refl _ _ | assumption | refine Below.al ?_ _ | refine Below.dr ?_ | (refine Below.st ?_ (by simp <;> omega) _) | (refine Below.tr ?_ (by assumption))))⟩
end Go.Proofs.Ytejfmhiogafhiaa
