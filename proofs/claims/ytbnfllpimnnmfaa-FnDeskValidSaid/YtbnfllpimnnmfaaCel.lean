/-
  Blocks of rows: made of zeros; one cell written.
-/
import Derived.Test.YtbnfllpimnnmfaaOwn
namespace Go.Proofs.Ytbnfllpimnnmfaa
open Go Go.RowKit

theorem new_zero (w : World) (t : TypeId) (z : Array Value) (m n : Nat) (hm : z.size = m) (h0 : 0 < m) : New (w.alloc (.cells (madeCells z (n * m)) t)) w.heap.size t m n n (fun _ => z.toList) := by
  refine ⟨_, heap_alloc_new w _, size_madeCells _ _, Nat.le_refl _, fun i hi j v hv => ?_⟩
  have hj : j < m := by
    have := (List.getElem?_eq_some_iff.1 hv).1
    simpa [hm] using this
  have hlt : i * m + j < n * m := by
    have : (i + 1) * m ≤ n * m := Nat.mul_le_mul_right m hi
    rw [Nat.add_mul, Nat.one_mul] at this
    omega
  have hmod : (i * m + j) % m = j := by rw [Nat.mul_add_mod_self_right, Nat.mod_eq_of_lt hj]
  have hz : z[j]? = some v := by simpa using hv
  have hjz : j < z.size := by omega
  simp only [madeCells, hm]
  rw [Array.getElem?_map, Array.getElem?_range]
  simp only [hlt, if_true, Option.map_some, hmod, Option.some.injEq]
  rw [getElem!_pos z j hjz]
  simpa [hjz] using hz
theorem setCell_grown (w : World) (g o : Nat) (v : Value) : w.grownBy (w.setCell ⟨g, o, none⟩ v) (some g) := setsFrom_grown [v] w w g o (World.grownBy.refl w _)
theorem cell_far {m k i q j : Nat} (hq : q < m) (hj : j < m) (h : k * m + q = i * m + j) : k = i ∧ q = j := by
  rcases Nat.lt_trichotomy k i with h1 | h1 | h1
  · have : (k + 1) * m ≤ i * m := Nat.mul_le_mul_right m h1
    rw [Nat.add_mul, Nat.one_mul] at this
    omega
  · subst h1
    exact ⟨rfl, by omega⟩
  · have : (i + 1) * m ≤ k * m := Nat.mul_le_mul_right m h1
    rw [Nat.add_mul, Nat.one_mul] at this
    omega
/-- One cell is written: cell j of row i. -/
theorem new_cell {w : World} {g : Nat} {t : TypeId} {m n c : Nat} {R R' : Nat → List Value} (h : New w g t m n c R) (i j : Nat) (v : Value) (hi : i < n) (hj : j < m) (hR : ∀ k, (R' k).length = m)
    (hs : ∀ k, k < n → ∀ q u, (R' k)[q]? = some u → (k = i ∧ q = j ∧ u = v) ∨ (¬ (k = i ∧ q = j) ∧ (R k)[q]? = some u)) : New (w.setCell ⟨g, i * m + j, none⟩ v) g t m n c R' := by
  obtain ⟨cs, h1, h2, h3, h4⟩ := h
  have hlt : i * m + j < cs.size := by
    have : (i + 1) * m ≤ c * m := Nat.mul_le_mul_right m (by omega)
    rw [Nat.add_mul, Nat.one_mul] at this
    omega
  refine ⟨_, setsFrom_heap [v] w g (i * m + j) cs t h1, by rw [setsA_size]; exact h2, h3, fun k hk q u hu => ?_⟩
  have hq : q < m := by rw [← hR k]; exact (List.getElem?_eq_some_iff.1 hu).1
  simp only [setsA]
  rcases hs k hk q u hu with ⟨rfl, rfl, rfl⟩ | ⟨hne, hold⟩
  · rw [Array.getElem?_setIfInBounds_self]
    simp [hlt]
  · rw [Array.getElem?_setIfInBounds_ne (fun e => hne (cell_far hq hj e.symm))]
    exact h4 k hk q u hold
end Go.Proofs.Ytbnfllpimnnmfaa
