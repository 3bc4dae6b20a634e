/-
  Dropped routes are gone, all others stay: the plain law.
-/
import Derived.Test.YtgoijpbkgkjfeaaDel3
namespace Go.Proofs.Ytgoijpbkgkjfeaa
open Go Go.RowKit

theorem befB_trans {b k b' k' b'' k'' : Int} (h : befB b k b' k' = true) (h' : befB b' k' b'' k'' = true) : befB b k b'' k'' = true := by
  simp only [befB, Bool.or_eq_true, Bool.and_eq_true, decide_eq_true_eq, beq_iff_eq] at *
  omega
theorem befB_self (b k : Int) : befB b k b k = false := by simp [befB]
section
variable {n : Nat} {a b c : Nat → Int} {x y : Int}
theorem rts_ok (h : rtsB n a b c = true) {i : Nat} (hi : i < n) : rtOk a b c i = true := by
  simp only [rtsB, Bool.and_eq_true] at h
  exact List.all_eq_true.1 h.1 i (List.mem_range.2 hi)
theorem rts_le (h : rtsB n a b c = true) : n ≤ 12 := by
  simp only [rtsB, Bool.and_eq_true, decide_eq_true_eq] at h
  exact h.2
theorem rts_bef (h : rtsB n a b c = true) : ∀ i j, i < j → j < n → befB (a i) (b i) (a j) (b j) = true := by
  intro i j hij hj
  induction j with
  | zero => omega
  | succ j ih =>
    have h1 := rts_ok h hj
    simp only [rtOk, Bool.and_eq_true, Bool.or_eq_true] at h1
    have h2 : befB (a j) (b j) (a (j + 1)) (b (j + 1)) = true := by
      rcases h1.2 with h3 | h3
      · simp at h3
      · simpa using h3
    rcases Nat.eq_or_lt_of_le (Nat.le_of_lt_succ hij) with e | hlt
    · rw [e]; exact h2
    · exact befB_trans (ih hlt (by omega)) h2
theorem ki_spec : ∀ n, (∀ i, i < kn a b x y n → ki a b x y n i < n ∧ hitB a b x y (ki a b x y n i) = false) ∧ ∀ i i', i < i' → i' < kn a b x y n → ki a b x y n i < ki a b x y n i'
  | 0 => ⟨fun i hi => absurd hi (by simp [kn]), fun i i' _ hi => absurd hi (by simp [kn])⟩
  | n + 1 => by
    obtain ⟨h1, h2⟩ := ki_spec n
    cases h : hitB a b x y n
    · rw [(kn_keep h).1, (kn_keep h).2]
      refine ⟨fun i hi => ?_, fun i i' hii hi => ?_⟩
      · by_cases e : i = kn a b x y n
        · simp only [if_pos e]; exact ⟨by omega, h⟩
        · simp only [if_neg e]
          have := h1 i (by omega)
          exact ⟨by omega, this.2⟩
      · have e : ¬ i = kn a b x y n := by omega
        simp only [if_neg e]
        by_cases e' : i' = kn a b x y n
        · simp only [if_pos e']; exact (h1 i (by omega)).1
        · simp only [if_neg e']; exact h2 i i' hii (by omega)
    · rw [(kn_hit h).1, (kn_hit h).2]
      exact ⟨fun i hi => ⟨by have := (h1 i hi).1; omega, (h1 i hi).2⟩, h2⟩
theorem drop_valid (h : rtsB n a b c = true) : rtsB (kn a b x y n) (fun i => a (ki a b x y n i)) (fun i => b (ki a b x y n i)) (fun i => c (ki a b x y n i)) = true := by
  obtain ⟨h1, h2⟩ := ki_spec (a := a) (b := b) (x := x) (y := y) n
  rw [rtsB_end]
  · have := rts_le h
    have := kn_le (a := a) (b := b) (x := x) (y := y) n
    simp; omega
  · intro i hi
    have hok := rts_ok h (h1 i hi).1
    simp only [rtOk, Bool.and_eq_true] at hok ⊢
    refine ⟨hok.1, ?_⟩
    rcases Nat.eq_zero_or_pos i with rfl | hpos
    · simp
    · rw [Bool.or_eq_true]
      exact .inr (rts_bef h _ _ (h2 (i - 1) i (by omega) hi) (h1 i hi).1)
theorem first_hit : ∀ n, (∀ i, i < n → hitB a b x y i = false) ∨ ∃ k, k < n ∧ hitB a b x y k = true ∧ ∀ i, i < k → hitB a b x y i = false
  | 0 => .inl fun i hi => absurd hi (by omega)
  | n + 1 => by
    rcases first_hit n with h | ⟨k, h1, h2, h3⟩
    · cases hn : hitB a b x y n
      · refine .inl fun i hi => ?_
        rcases Nat.eq_or_lt_of_le (Nat.le_of_lt_succ hi) with e | hlt
        · rw [e]; exact hn
        · exact h i hlt
      · exact .inr ⟨n, by omega, hn, h⟩
    · exact .inr ⟨k, by omega, h2, h3⟩
theorem drop_count (h : rtsB n a b c = true) : n ≤ kn a b x y n + 1 := by
  rcases first_hit (a := a) (b := b) (x := x) (y := y) n with h0 | ⟨k, hk, hh, hb⟩
  · rw [(kn_none h0).1]; omega
  · have hno : ∀ j, k < j → j < n → hitB a b x y j = false := fun j hkj hj => by
      cases hj2 : hitB a b x y j
      · rfl
      · have := rts_bef h k j hkj hj
        simp only [hitB, Bool.and_eq_true, decide_eq_true_eq] at hh hj2
        rw [hh.1, hh.2, hj2.1, hj2.2, befB_self] at this
        cases this
    have key : ∀ j, k < j → j ≤ n → kn a b x y j + 1 = j := fun j => by
      induction j with
      | zero => intro h; omega
      | succ j ih =>
        intro hkj hjn
        rcases Nat.eq_or_lt_of_le (Nat.le_of_lt_succ hkj) with e | hlt
        · subst e
          rw [(kn_hit hh).1, (kn_none hb).1]
        · rw [(kn_keep (hno j hlt (by omega))).1]
          have := ih hlt (by omega)
          omega
    have := key n hk (Nat.le_refl _)
    omega
theorem drop_no {i : Nat} (hi : i < kn a b x y n) : hitB (fun i => a (ki a b x y n i)) (fun i => b (ki a b x y n i)) x y i = false := ((ki_spec n).1 i hi).2
end
theorem drN_yes {n : Nat} {a b c : Nat → Int} {x y : Int} (h : rtsB n a b c = true) : drN n a b c x y = kn a b x y n := by simp [drN, h]
end Go.Proofs.Ytgoijpbkgkjfeaa
