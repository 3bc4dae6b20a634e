/-
  What the screens' functions compute, in the program and in the reference: ScreenFits and ScreensValid.
-/
import Derived.Test.YtcljfakpcecejaaFlow
import Derived.Test.YtcljfakpcecejaaPfx2
import Derived.Test.YtcljfakpcecejaaScrT
namespace Go.Proofs.Ytcljfakpcecejaa
open Go.RowKit

set_option maxHeartbeats 1000000 in
theorem specFlowValid_any (a b c d k : Int) (w : World) :
    Calls Try.prog 36 #[.agg #[.int .i64 a, .int .i64 b, .int .i64 c, .int .i64 d, .int .i64 k]] w fun e w' => e = .returned (.bool (flowB a b c d k)) ∧ w.alloc (.cells #[.int .i64 a, .int .i64 b, .int .i64 c, .int .i64 d, .int .i64 k] 33) = w' := by
  cases h1 : inB a 0 255 <;> cases h2 : inB c 0 255 <;> cases h3 : inB b 0 999 <;> cases h4 : inB d 0 999
  all_goals go_enter Try.func36, Try.ntmps36
  all_goals go_wp2_with (go_at_call 38; refine (l1In_any _ _ _ _).mono ?_; rintro e w' ⟨rfl, rfl⟩)
  all_goals go_ret
  all_goals exact ⟨by simp [flowB, *], rfl⟩

/-- Does the flow fit the screen? -/
def fitsB (b k l h d f0 f1 f2 f3 f4 : Int) : Bool := flowB f0 f1 f2 f3 f4 && hasB b k f0 && inB f3 l h && (d == 0 || d == f4)

set_option maxHeartbeats 2000000 in
theorem implScreenFits_any (b k l h d : Int) (p : Bool) (f0 f1 f2 f3 f4 : Int) (w : World) :
    Calls Try.prog 14 #[.agg #[.int .i64 b, .int .i64 k, .int .i64 l, .int .i64 h, .int .i64 d, .bool p], .agg #[.int .i64 f0, .int .i64 f1, .int .i64 f2, .int .i64 f3, .int .i64 f4]] w fun e w' => e = .returned (.bool (fitsB b k l h d f0 f1 f2 f3 f4)) ∧ Below w.heap.size w w' := by
  cases h1 : flowB f0 f1 f2 f3 f4 with
  | false =>
    go_enter Try.func14, Try.ntmps14
    go_wp2_with (first | (go_at_call 24; refine (implFlowValid_any _ _ _ _ _ _).mono ?_; rintro e w1 ⟨rfl, rfl⟩) | (go_at_call 23; refine (implPrefixHas_any _ _ _ _).mono ?_; rintro e w2 ⟨rfl, hb2⟩; have k0 := keepc hb2 w.heap.size (by simp <;> omega); have k1 := keepc hb2 (w.heap.size + 1) (by simp <;> omega); have z0 : w.heap.size + 2 ≤ w2.heap.size := (by have := hb2.size; simp at this; omega)) | (go_at_call 40; refine (in_any _ _ _ _).mono ?_; rintro e w' ⟨rfl, rfl⟩))
    go_ret
    exact ⟨by simp [fitsB, h1], by (repeat (first | exact Below.refl _ _ | assumption | refine Below.al ?_ _ | refine Below.dr ?_ | (refine Below.st ?_ (by simp <;> omega) _) | (refine Below.tr ?_ (by assumption))))⟩
  | true =>
    cases h2 : hasB b k f0 with
    | false =>
      go_enter Try.func14, Try.ntmps14
      go_wp2_with (first | (go_at_call 24; refine (implFlowValid_any _ _ _ _ _ _).mono ?_; rintro e w1 ⟨rfl, rfl⟩) | (go_at_call 23; refine (implPrefixHas_any _ _ _ _).mono ?_; rintro e w2 ⟨rfl, hb2⟩; have k0 := keepc hb2 w.heap.size (by simp <;> omega); have k1 := keepc hb2 (w.heap.size + 1) (by simp <;> omega); have z0 : w.heap.size + 2 ≤ w2.heap.size := (by have := hb2.size; simp at this; omega)) | (go_at_call 40; refine (in_any _ _ _ _).mono ?_; rintro e w' ⟨rfl, rfl⟩))
      go_ret
      exact ⟨by simp [fitsB, h2], by (repeat (first | exact Below.refl _ _ | assumption | refine Below.al ?_ _ | refine Below.dr ?_ | (refine Below.st ?_ (by simp <;> omega) _) | (refine Below.tr ?_ (by assumption))))⟩
    | true =>
      cases h3 : inB f3 l h with
      | false =>
        go_enter Try.func14, Try.ntmps14
        go_wp2_with (first | (go_at_call 24; refine (implFlowValid_any _ _ _ _ _ _).mono ?_; rintro e w1 ⟨rfl, rfl⟩) | (go_at_call 23; refine (implPrefixHas_any _ _ _ _).mono ?_; rintro e w2 ⟨rfl, hb2⟩; have k0 := keepc hb2 w.heap.size (by simp <;> omega); have k1 := keepc hb2 (w.heap.size + 1) (by simp <;> omega); have z0 : w.heap.size + 2 ≤ w2.heap.size := (by have := hb2.size; simp at this; omega)) | (go_at_call 40; refine (in_any _ _ _ _).mono ?_; rintro e w' ⟨rfl, rfl⟩))
        go_ret
        exact ⟨by simp [fitsB, h3], by (repeat (first | exact Below.refl _ _ | assumption | refine Below.al ?_ _ | refine Below.dr ?_ | (refine Below.st ?_ (by simp <;> omega) _) | (refine Below.tr ?_ (by assumption))))⟩
      | true =>
        by_cases h4 : d = 0
        · subst h4
          go_enter Try.func14, Try.ntmps14
          go_wp2_with (first | (go_at_call 24; refine (implFlowValid_any _ _ _ _ _ _).mono ?_; rintro e w1 ⟨rfl, rfl⟩) | (go_at_call 23; refine (implPrefixHas_any _ _ _ _).mono ?_; rintro e w2 ⟨rfl, hb2⟩; have k0 := keepc hb2 w.heap.size (by simp <;> omega); have k1 := keepc hb2 (w.heap.size + 1) (by simp <;> omega); have z0 : w.heap.size + 2 ≤ w2.heap.size := (by have := hb2.size; simp at this; omega)) | (go_at_call 40; refine (in_any _ _ _ _).mono ?_; rintro e w' ⟨rfl, rfl⟩))
          go_ret
          exact ⟨by simp [fitsB, h1, h2, h3], by (repeat (first | exact Below.refl _ _ | assumption | refine Below.al ?_ _ | refine Below.dr ?_ | (refine Below.st ?_ (by simp <;> omega) _) | (refine Below.tr ?_ (by assumption))))⟩
        · have h5 : (d == 0) = false := by simpa using h4
          go_enter Try.func14, Try.ntmps14
          go_wp2_with (first | (go_at_call 24; refine (implFlowValid_any _ _ _ _ _ _).mono ?_; rintro e w1 ⟨rfl, rfl⟩) | (go_at_call 23; refine (implPrefixHas_any _ _ _ _).mono ?_; rintro e w2 ⟨rfl, hb2⟩; have k0 := keepc hb2 w.heap.size (by simp <;> omega); have k1 := keepc hb2 (w.heap.size + 1) (by simp <;> omega); have z0 : w.heap.size + 2 ≤ w2.heap.size := (by have := hb2.size; simp at this; omega)) | (go_at_call 40; refine (in_any _ _ _ _).mono ?_; rintro e w' ⟨rfl, rfl⟩))
          go_ret
          exact ⟨by simp [fitsB, h1, h2, h3, h4], by (repeat (first | exact Below.refl _ _ | assumption | refine Below.al ?_ _ | refine Below.dr ?_ | (refine Below.st ?_ (by simp <;> omega) _) | (refine Below.tr ?_ (by assumption))))⟩

set_option maxHeartbeats 2000000 in
theorem specScreenFits_any (b k l h d : Int) (p : Bool) (f0 f1 f2 f3 f4 : Int) (w : World) :
    Calls Try.prog 11 #[.agg #[.int .i64 b, .int .i64 k, .int .i64 l, .int .i64 h, .int .i64 d, .bool p], .agg #[.int .i64 f0, .int .i64 f1, .int .i64 f2, .int .i64 f3, .int .i64 f4]] w fun e w' => e = .returned (.bool (fitsB b k l h d f0 f1 f2 f3 f4)) ∧ Below w.heap.size w w' := by
  cases h1 : flowB f0 f1 f2 f3 f4 with
  | false =>
    go_enter Try.func11, Try.ntmps11
    go_wp2_with (first | (go_at_call 36; refine (specFlowValid_any _ _ _ _ _ _).mono ?_; rintro e w1 ⟨rfl, rfl⟩) | (go_at_call 37; refine (specPrefixHas_any _ _ _ _).mono ?_; rintro e w2 ⟨rfl, hb2⟩; have k0 := keepc hb2 w.heap.size (by simp <;> omega); have k1 := keepc hb2 (w.heap.size + 1) (by simp <;> omega); have z0 : w.heap.size + 2 ≤ w2.heap.size := (by have := hb2.size; simp at this; omega)) | (go_at_call 38; refine (l1In_any _ _ _ _).mono ?_; rintro e w' ⟨rfl, rfl⟩))
    go_ret
    exact ⟨by simp [fitsB, h1], by (repeat (first | exact Below.refl _ _ | assumption | refine Below.al ?_ _ | refine Below.dr ?_ | (refine Below.st ?_ (by simp <;> omega) _) | (refine Below.tr ?_ (by assumption))))⟩
  | true =>
    cases h2 : hasB b k f0 with
    | false =>
      go_enter Try.func11, Try.ntmps11
      go_wp2_with (first | (go_at_call 36; refine (specFlowValid_any _ _ _ _ _ _).mono ?_; rintro e w1 ⟨rfl, rfl⟩) | (go_at_call 37; refine (specPrefixHas_any _ _ _ _).mono ?_; rintro e w2 ⟨rfl, hb2⟩; have k0 := keepc hb2 w.heap.size (by simp <;> omega); have k1 := keepc hb2 (w.heap.size + 1) (by simp <;> omega); have z0 : w.heap.size + 2 ≤ w2.heap.size := (by have := hb2.size; simp at this; omega)) | (go_at_call 38; refine (l1In_any _ _ _ _).mono ?_; rintro e w' ⟨rfl, rfl⟩))
      go_ret
      exact ⟨by simp [fitsB, h2], by (repeat (first | exact Below.refl _ _ | assumption | refine Below.al ?_ _ | refine Below.dr ?_ | (refine Below.st ?_ (by simp <;> omega) _) | (refine Below.tr ?_ (by assumption))))⟩
    | true =>
      cases h3 : inB f3 l h with
      | false =>
        go_enter Try.func11, Try.ntmps11
        go_wp2_with (first | (go_at_call 36; refine (specFlowValid_any _ _ _ _ _ _).mono ?_; rintro e w1 ⟨rfl, rfl⟩) | (go_at_call 37; refine (specPrefixHas_any _ _ _ _).mono ?_; rintro e w2 ⟨rfl, hb2⟩; have k0 := keepc hb2 w.heap.size (by simp <;> omega); have k1 := keepc hb2 (w.heap.size + 1) (by simp <;> omega); have z0 : w.heap.size + 2 ≤ w2.heap.size := (by have := hb2.size; simp at this; omega)) | (go_at_call 38; refine (l1In_any _ _ _ _).mono ?_; rintro e w' ⟨rfl, rfl⟩))
        go_ret
        exact ⟨by simp [fitsB, h3], by (repeat (first | exact Below.refl _ _ | assumption | refine Below.al ?_ _ | refine Below.dr ?_ | (refine Below.st ?_ (by simp <;> omega) _) | (refine Below.tr ?_ (by assumption))))⟩
      | true =>
        by_cases h4 : d = 0
        · subst h4
          go_enter Try.func11, Try.ntmps11
          go_wp2_with (first | (go_at_call 36; refine (specFlowValid_any _ _ _ _ _ _).mono ?_; rintro e w1 ⟨rfl, rfl⟩) | (go_at_call 37; refine (specPrefixHas_any _ _ _ _).mono ?_; rintro e w2 ⟨rfl, hb2⟩; have k0 := keepc hb2 w.heap.size (by simp <;> omega); have k1 := keepc hb2 (w.heap.size + 1) (by simp <;> omega); have z0 : w.heap.size + 2 ≤ w2.heap.size := (by have := hb2.size; simp at this; omega)) | (go_at_call 38; refine (l1In_any _ _ _ _).mono ?_; rintro e w' ⟨rfl, rfl⟩))
          go_ret
          exact ⟨by simp [fitsB, h1, h2, h3], by (repeat (first | exact Below.refl _ _ | assumption | refine Below.al ?_ _ | refine Below.dr ?_ | (refine Below.st ?_ (by simp <;> omega) _) | (refine Below.tr ?_ (by assumption))))⟩
        · have h5 : (d == 0) = false := by simpa using h4
          go_enter Try.func11, Try.ntmps11
          go_wp2_with (first | (go_at_call 36; refine (specFlowValid_any _ _ _ _ _ _).mono ?_; rintro e w1 ⟨rfl, rfl⟩) | (go_at_call 37; refine (specPrefixHas_any _ _ _ _).mono ?_; rintro e w2 ⟨rfl, hb2⟩; have k0 := keepc hb2 w.heap.size (by simp <;> omega); have k1 := keepc hb2 (w.heap.size + 1) (by simp <;> omega); have z0 : w.heap.size + 2 ≤ w2.heap.size := (by have := hb2.size; simp at this; omega)) | (go_at_call 38; refine (l1In_any _ _ _ _).mono ?_; rintro e w' ⟨rfl, rfl⟩))
          go_ret
          exact ⟨by simp [fitsB, h1, h2, h3, h4], by (repeat (first | exact Below.refl _ _ | assumption | refine Below.al ?_ _ | refine Below.dr ?_ | (refine Below.st ?_ (by simp <;> omega) _) | (refine Below.tr ?_ (by assumption))))⟩

end Go.Proofs.Ytcljfakpcecejaa
