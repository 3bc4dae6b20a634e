/-
  A covered screen decides nothing: the plain law.
-/
import Derived.Test.YtcljfakpcecejaaHid
import Derived.Test.YtcljfakpcecejaaScrF
namespace Go.Proofs.Ytcljfakpcecejaa
open Go.RowKit

theorem pfx_within {b k b' k' : Int} (hv : pfxB b k = true) (hv' : pfxB b' k' = true) (h1 : b ≤ b') (h2 : b' ≤ b + pfxSize k - 1) (hk : k ≤ k') : b' + pfxSize k' ≤ b + pfxSize k := by
  obtain ⟨t1, t2, _, _, t5⟩ := pfxB_true.1 hv
  obtain ⟨s1, s2, _, _, s5⟩ := pfxB_true.1 hv'
  rcases eight t1 t2 with rfl | rfl | rfl | rfl | rfl | rfl | rfl | rfl | rfl <;>
  rcases eight s1 s2 with rfl | rfl | rfl | rfl | rfl | rfl | rfl | rfl | rfl <;>
  first
  | omega
  | (simp only [pfxSize] at *; simp at *; omega)
theorem cov_fits {b k l h d b' k' l' h' d' f0 f1 f2 f3 f4 : Int} (hc : covB b k l h d b' k' l' h' d' = true) (hf : fitsB b' k' l' h' d' f0 f1 f2 f3 f4 = true) : fitsB b k l h d f0 f1 f2 f3 f4 = true := by
  simp only [covB, Bool.and_eq_true, decide_eq_true_eq, Bool.or_eq_true, beq_iff_eq] at hc
  obtain ⟨⟨⟨⟨c1, c2⟩, c3⟩, c4⟩, c5⟩ := hc
  simp only [fitsB, Bool.and_eq_true, Bool.or_eq_true, beq_iff_eq] at hf ⊢
  obtain ⟨⟨⟨g1, g2⟩, g3⟩, g4⟩ := hf
  simp only [hasB, Bool.and_eq_true] at c1 g2 ⊢
  obtain ⟨⟨c6, _⟩, c7⟩ := c1
  obtain ⟨⟨g5, g6⟩, g7⟩ := g2
  have i1 := inB_true.1 c7
  have i2 := inB_true.1 g7
  have i3 := inB_true.1 g3
  have hw := pfx_within c6 g5 i1.1 i1.2 c2
  refine ⟨⟨⟨g1, ⟨c6, g6⟩, inB_true.2 ⟨by omega, by omega⟩⟩, inB_true.2 ⟨by omega, by omega⟩⟩, ?_⟩
  rcases c5 with c5 | c5
  · exact .inl c5
  · rcases g4 with g4 | g4
    · exact .inl (by omega)
    · exact .inr (by omega)
/-- The first that decides is not hidden. -/
theorem first_shown {n : Nat} {b k l h d : Nat → Int} {f0 f1 f2 f3 f4 : Int} {i : Nat} (hi : sfF n b k l h d f0 f1 f2 f3 f4 i = true) (hno : ∀ j, j < i → sfF n b k l h d f0 f1 f2 f3 f4 j = false) : hidB b k l h d i = false := by
  refine hidB_no fun j hj => ?_
  cases hc : covB (b j) (k j) (l j) (h j) (d j) (b i) (k i) (l i) (h i) (d i) with
  | false => rfl
  | true =>
    have h1 := hno j hj
    simp only [sfF, Bool.and_eq_true] at hi
    have h2 := cov_fits hc hi.2
    simp [sfF, hi.1, h2] at h1
theorem numsTo_succ (p : Nat → Bool) (n : Nat) : numsTo p (n + 1) = numsTo p n ++ (if p n then [n] else []) := by
  unfold numsTo; rw [List.range_succ, List.filter_append]; by_cases hp : p n <;> simp [hp]
theorem numsTo_pre {p : Nat → Bool} {i q : Nat} (hq : q < (numsTo p i).length) : ∀ m, (numsTo p (i + m))[q]? = (numsTo p i)[q]?
  | 0 => rfl
  | m + 1 => by
    have ih := numsTo_pre hq m
    have hl : q < (numsTo p (i + m)).length := by
      rw [List.getElem?_eq_getElem hq] at ih
      exact (List.getElem?_eq_some_iff.1 ih).1
    show (numsTo p (i + m + 1))[q]? = _
    rw [numsTo_succ, List.getElem?_append_left hl]
    exact ih
/-- The number in place q. -/
def nth (p : Nat → Bool) (n q : Nat) : Nat := (numsTo p n).getD q 0
theorem nth_lt {p : Nat → Bool} {i n q : Nat} (hi : i ≤ n) (hq : q < (numsTo p i).length) : nth p n q < i := by
  have h1 := numsTo_pre hq (n - i)
  rw [Nat.add_sub_cancel' hi, List.getElem?_eq_getElem hq] at h1
  have h2 : (numsTo p i)[q] ∈ numsTo p i := List.getElem_mem hq
  have h3 := List.mem_range.1 (List.mem_filter.1 h2).1
  simpa [nth, List.getD_eq_getElem?_getD, h1] using h3
theorem nth_at {p : Nat → Bool} {i n : Nat} (hp : p i = true) (hi : i < n) : nth p n (numsTo p i).length = i ∧ (numsTo p i).length < (numsTo p n).length := by
  have h1 := numsTo_at hp n hi
  exact ⟨by simp [nth, List.getD_eq_getElem?_getD, h1], (List.getElem?_eq_some_iff.1 h1).1⟩
theorem first_or (F : Nat → Bool) : ∀ n, (∀ i, i < n → F i = false) ∨ ∃ i, i < n ∧ F i = true ∧ ∀ j, j < i → F j = false
  | 0 => .inl fun i hi => absurd hi (by omega)
  | n + 1 => by
    rcases first_or F n with h | ⟨i, h1, h2, h3⟩
    · cases hF : F n with
      | true => exact .inr ⟨n, by omega, hF, h⟩
      | false => exact .inl fun i hi => by
                  by_cases hq : i < n
                  · exact h i hq
                  · obtain rfl : i = n := by omega
                    exact hF
    · exact .inr ⟨i, by omega, h2, h3⟩
theorem scs_ok {n : Nat} {b k l h d : Nat → Int} (hv : scsB n b k l h d = true) : (∀ i, i < n → scOk b k l h d i = true) ∧ n ≤ 10 := by
  simp only [scsB, Bool.and_eq_true, decide_eq_true_eq] at hv
  exact ⟨fun i hi => List.all_eq_true.1 hv.1 i (List.mem_range.2 hi), hv.2⟩
section
variable {n : Nat} {b k l h d : Nat → Int} {ps : Nat → Bool} {f0 f1 f2 f3 f4 : Int}
/-- Is the screen not hidden? -/
def shown (b k l h d : Nat → Int) (i : Nat) : Bool := !hidB b k l h d i
/-- Out of the shown ones alone. -/
def sub {T : Type} (n : Nat) (b k l h d : Nat → Int) (x : Nat → T) : Nat → T := fun q => x (nth (shown b k l h d) n q)
theorem scs_sub (hv : scsB n b k l h d = true) : scsB (numsTo (shown b k l h d) n).length (sub n b k l h d b) (sub n b k l h d k) (sub n b k l h d l) (sub n b k l h d h) (sub n b k l h d d) = true := by
  obtain ⟨h1, h2⟩ := scs_ok hv
  have h3 := numsTo_le (shown b k l h d) n
  rw [scsB_end fun q hq => ?_]
  · simp; omega
  · exact h1 _ (nth_lt (Nat.le_refl _) hq)
theorem sf_sub (hv : scsB n b k l h d = true) (q : Nat) : sfF (numsTo (shown b k l h d) n).length (sub n b k l h d b) (sub n b k l h d k) (sub n b k l h d l) (sub n b k l h d h) (sub n b k l h d d) f0 f1 f2 f3 f4 q = sfF n b k l h d f0 f1 f2 f3 f4 (nth (shown b k l h d) n q) := by
  simp only [sfF, scs_sub hv, hv]
  rfl
/-- Without the hidden ones the flow is let through as with them. -/
theorem sfP_sub (hv : scsB n b k l h d = true) : sfP (numsTo (shown b k l h d) n).length (sfF (numsTo (shown b k l h d) n).length (sub n b k l h d b) (sub n b k l h d k) (sub n b k l h d l) (sub n b k l h d h) (sub n b k l h d d) f0 f1 f2 f3 f4) (sub n b k l h d ps) = sfP n (sfF n b k l h d f0 f1 f2 f3 f4) ps := by
  rcases first_or (sfF n b k l h d f0 f1 f2 f3 f4) n with hno | ⟨i, hi, hy, hno⟩
  · rw [(sf_none (ps := ps) hno).2, (sf_none (ps := sub n b k l h d ps) fun q hq => ?_).2]
    rw [sf_sub hv]
    exact hno _ (nth_lt (Nat.le_refl _) hq)
  · have hs : shown b k l h d i = true := by simp [shown, first_shown hy hno]
    obtain ⟨e1, e2⟩ := nth_at hs hi
    have hy' : sfF (numsTo (shown b k l h d) n).length (sub n b k l h d b) (sub n b k l h d k) (sub n b k l h d l) (sub n b k l h d h) (sub n b k l h d d) f0 f1 f2 f3 f4 (numsTo (shown b k l h d) i).length = true := by rw [sf_sub hv, e1]; exact hy
    rw [(sf_hit (ps := ps) hi hno hy).2, (sf_hit (ps := sub n b k l h d ps) e2 (fun q hq => ?_) hy').2]
    · show ps _ = ps i
      rw [e1]
    · rw [sf_sub hv]
      exact hno _ (nth_lt (Nat.le_of_lt hi) hq)
/-- A hidden screen does not decide. -/
theorem sfI_shown {j : Nat} (hh : hidB b k l h d j = true) : sfI n (sfF n b k l h d f0 f1 f2 f3 f4) ≠ (j : Int) := by
  rcases first_or (sfF n b k l h d f0 f1 f2 f3 f4) n with hno | ⟨i, hi, hy, hno⟩
  · rw [(sf_none (ps := fun _ => true) hno).1]; omega
  · rw [(sf_hit (ps := fun _ => true) hi hno hy).1]
    intro e
    obtain rfl : i = j := by omega
    rw [first_shown hy hno] at hh
    cases hh
end
end Go.Proofs.Ytcljfakpcecejaa
