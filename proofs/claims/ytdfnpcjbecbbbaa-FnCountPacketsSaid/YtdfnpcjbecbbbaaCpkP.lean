/-
  Two parts of the packets, added, have the counters of all together: the plain law.
-/
import Derived.Test.YtdfnpcjbecbbbaaCpk
import Derived.Test.YtdfnpcjbecbbbaaAdd
namespace Go.Proofs.Ytdfnpcjbecbbbaa
open Go Go.RowKit

/-- f, from k on. -/
def shf (k : Nat) (f : Nat → Int) : Nat → Int := fun i => f (k + i)
theorem cntN_add (h : Nat → Int) (x : Int) (k : Nat) : ∀ j, cntN h x (k + j) = cntN h x k + cntN (shf k h) x j
  | 0 => by simp [cntN]
  | j + 1 => by
    have := cntN_add h x k j
    rw [← Nat.add_assoc]
    simp only [cntN, shf] at this ⊢
    rw [this]
    omega
theorem sumN_add (h s : Nat → Int) (x : Int) (k : Nat) : ∀ j, sumN h s x (k + j) = sumN h s x k + sumN (shf k h) (shf k s) x j
  | 0 => by simp [sumN]
  | j + 1 => by
    have := sumN_add h s x k j
    rw [← Nat.add_assoc]
    simp only [sumN, shf] at this ⊢
    rw [this]
    omega
theorem cpkN_pos {n : Nat} {a b d : Nat → Int} {m m' : Nat} {s : Nat → Int} (h : 0 < cpkN n a b d m m' s) : poolB n a b d = true ∧ m = m' ∧ m ≤ 40 ∧ (∀ i, i < m → inB (s i) 0 100000 = true) ∧ cpkN n a b d m m' s = n := by
  by_cases hc : poolB n a b d = true ∧ m = m' ∧ m ≤ 40 ∧ timesB s m = true
  · refine ⟨hc.1, hc.2.1, hc.2.2.1, fun i hi => ?_, by unfold cpkN; rw [if_pos hc]⟩
    exact List.all_eq_true.1 hc.2.2.2 i (List.mem_range.2 hi)
  · rw [show cpkN n a b d m m' s = 0 by unfold cpkN; rw [if_neg hc]] at h
    omega
/-- The first k packets. -/
theorem half_first {w : World} {B : Nat} {A A1 A2 : Option Addr} {n c k c1 c2 : Nat} {a b d h s : Nat → Int} (hp : poolB n a b d = true) (hk : k ≤ 40) (hs : ∀ i, i < k → inB (s i) 0 100000 = true)
    (H : Rws w B 3 A n c (hostR a b d)) (H1 : Rws w B 1 A1 k c1 (intR h)) (H2 : Rws w B 1 A2 k c2 (intR s)) (hB : B ≤ w.heap.size) :
    Calls Try.prog 23 #[.slice A n c, .slice A1 k c1, .slice A2 k c2] w (Gives w 32 3 n (cpkR a h s k)) := by
  have := implCountPackets_any H H1 H2 hB
  rwa [cpkN_yes hp hk hs] at this
theorem add_halves {w : World} {B : Nat} {A A' : Option Addr} {n c c' : Nat} {a h s : Nat → Int} {k j : Nat} (hk : k ≤ 40) (hj : j ≤ 40) (hs : ∀ i, i < k + j → inB (s i) 0 100000 = true)
    (H : Rws w B 3 A n c (cpkR a h s k)) (H' : Rws w B 3 A' n c' (cpkR a (shf k h) (shf k s) j)) (hB : B ≤ w.heap.size) (hsm : n ≤ 1048576) :
    Calls Try.prog 17 #[.slice A n c, .slice A' n c'] w (Gives w 32 3 n (cpkR a h s (k + j))) := by
  have := implAddCounters_any H H' hB hsm
  rw [addN_yes fun i _ => beq_self_eq_true (a i)] at this
  refine this.mono ?_
  rintro e w' ⟨A, c, rfl, hO, hb⟩
  refine ⟨A, c, rfl, hO.congr fun i _ => ?_, hb⟩
  have h1 := cntN_le h (a i) k
  have h2 := cntN_le (shf k h) (a i) j
  have h3 := sumN_le (h := h) (s := s) (a i) k fun i hi => hs i (by omega)
  have h4 := sumN_le (h := shf k h) (s := shf k s) (a i) j fun i hi => hs (k + i) (by omega)
  simp only [addR, cpkR, counterR]
  rw [cntN_add, sumN_add, IntWalk.i64_in _ (by omega), IntWalk.i64_in _ (by omega)]
end Go.Proofs.Ytdfnpcjbecbbbaa
