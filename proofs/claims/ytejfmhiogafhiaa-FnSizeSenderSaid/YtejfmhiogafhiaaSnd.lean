/-
  What the sender's functions compute.
-/
import Derived.Test.YtejfmhiogafhiaaTime
namespace Go.Proofs.Ytejfmhiogafhiaa
open Go.RowKit

/-- Is the sender with First f, Next n and Room r valid? -/
def sndB (f n r : Int) : Bool := inB f 0 100000 && inB r 1 1000 && inB n f (f + r)
theorem sndB_true {f n r : Int} : sndB f n r = true ↔ 0 ≤ f ∧ f ≤ 100000 ∧ 1 ≤ r ∧ r ≤ 1000 ∧ f ≤ n ∧ n ≤ f + r := by simp [sndB, inB, and_assoc]

set_option maxHeartbeats 400000 in
theorem implSenderValid_any (f n r : Int) (w : World) :
    Calls Try.prog 13 #[.agg #[.int .i64 f, .int .i64 n, .int .i64 r]] w fun e w' => e = .returned (.bool (sndB f n r)) ∧ w.alloc (.cells #[.int .i64 f, .int .i64 n, .int .i64 r] 25) = w' := by
  by_cases h1 : inB f 0 100000 = true
  · by_cases h2 : inB r 1 1000 = true
    · obtain ⟨b3, b4⟩ := inB_true.1 h1
      obtain ⟨b5, b6⟩ := inB_true.1 h2
      go_enter Try.func13, Try.ntmps13
      go_wp2_with (first | (go_at_call 28; refine (in_any _ _ _ _).mono ?_; rintro e w' ⟨rfl, rfl⟩) | (go_at_call 27; refine (isTime_any _ _).mono ?_; rintro e w' ⟨rfl, rfl⟩))
      go_ret
      exact ⟨by simp [sndB, *], rfl⟩
    · replace h2 : inB r 1 1000 = false := by simpa using h2
      go_enter Try.func13, Try.ntmps13
      go_wp2_with (first | (go_at_call 28; refine (in_any _ _ _ _).mono ?_; rintro e w' ⟨rfl, rfl⟩) | (go_at_call 27; refine (isTime_any _ _).mono ?_; rintro e w' ⟨rfl, rfl⟩))
      go_ret
      exact ⟨by simp [sndB, *], rfl⟩
  · replace h1 : inB f 0 100000 = false := by simpa using h1
    go_enter Try.func13, Try.ntmps13
    go_wp2_with (first | (go_at_call 28; refine (in_any _ _ _ _).mono ?_; rintro e w' ⟨rfl, rfl⟩) | (go_at_call 27; refine (isTime_any _ _).mono ?_; rintro e w' ⟨rfl, rfl⟩))
    go_ret
    exact ⟨by simp [sndB, *], rfl⟩

set_option maxHeartbeats 400000 in
theorem specSenderValid_any (f n r : Int) (w : World) :
    Calls Try.prog 11 #[.agg #[.int .i64 f, .int .i64 n, .int .i64 r]] w fun e w' => e = .returned (.bool (sndB f n r)) ∧ w.alloc (.cells #[.int .i64 f, .int .i64 n, .int .i64 r] 25) = w' := by
  by_cases h1 : inB f 0 100000 = true
  · by_cases h2 : inB r 1 1000 = true
    · obtain ⟨b3, b4⟩ := inB_true.1 h1
      obtain ⟨b5, b6⟩ := inB_true.1 h2
      go_enter Try.func11, Try.ntmps11
      go_wp2_with (go_at_call 26; refine (l1In_any _ _ _ _).mono ?_; rintro e w' ⟨rfl, rfl⟩)
      go_ret
      exact ⟨by simp [sndB, *], rfl⟩
    · replace h2 : inB r 1 1000 = false := by simpa using h2
      go_enter Try.func11, Try.ntmps11
      go_wp2_with (go_at_call 26; refine (l1In_any _ _ _ _).mono ?_; rintro e w' ⟨rfl, rfl⟩)
      go_ret
      exact ⟨by simp [sndB, *], rfl⟩
  · replace h1 : inB f 0 100000 = false := by simpa using h1
    go_enter Try.func11, Try.ntmps11
    go_wp2_with (go_at_call 26; refine (l1In_any _ _ _ _).mono ?_; rintro e w' ⟨rfl, rfl⟩)
    go_ret
    exact ⟨by simp [sndB, *], rfl⟩

set_option maxHeartbeats 400000 in
theorem toSender_any (f n r : Int) (w : World) :
    Calls Try.prog 12 #[.agg #[.int .i64 f, .int .i64 n, .int .i64 r]] w fun e w' => e = .returned (.agg #[.int .i64 f, .int .i64 n, .int .i64 r]) ∧ Below w.heap.size w w' := by
  go_enter Try.func12, Try.ntmps12
  go_wp2
  refine bodyPost_ret (v := .agg #[.int .i64 f, .int .i64 n, .int .i64 r]) (by simp [results, Try.results12, go_sem]) rfl ⟨rfl, by (repeat (first | exact Below.refl _ _ | assumption | refine Below.al ?_ _ | refine Below.dr ?_ | (refine Below.st ?_ (by simp <;> omega) _) | (refine Below.tr ?_ (by assumption))))⟩
end Go.Proofs.Ytejfmhiogafhiaa
