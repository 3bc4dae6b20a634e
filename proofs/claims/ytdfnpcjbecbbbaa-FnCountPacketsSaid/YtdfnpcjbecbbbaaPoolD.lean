/-
  What the drawings of counters hand over; old memory stays.
-/
import Derived.Test.YtdfnpcjbecbbbaaPoolC
namespace Go.Proofs.Ytdfnpcjbecbbbaa
open Go.RowKit Go.Joins

theorem Own.far {w w' : World} {B g : Nat} {t : TypeId} {m : Nat} {A : Option Addr} {n c : Nat} {R : Nat → List Value} (h : Own w B t m A n c R) (hg : w.grownBy w' (some g)) (hl : g < B) : Own w' B t m A n c R :=
  h.keep fun k hk hlt _ => hg.block k hlt (by simp; omega)
/-- A list of at most five counters, their numbers ascending. -/
def CntOnly (w : World) (e : Ending) (w' : World) : Prop :=
  ∃ A n c, ∃ a p y : Nat → Int, e = .returned (.slice A n c) ∧ n ≤ 5 ∧ Asc a n 100 ∧ Few p y n ∧ Own w' w.heap.size 32 3 A n c (counterR a p y) ∧ Below w.heap.size w w'
set_option maxHeartbeats 4000000 in
theorem drawBusiestHost_any {w : World} {A : Option Addr} {n c : Nat} (h : Bytes w w.heap.size A n c) :
    Calls Try.prog 14 #[.slice A n c] w (CntOnly w) := by
  go_enter Try.func14, Try.ntmps14
  go_wp2_with fail
  refine (open_any h (Nat.le_refl _)).mono ?_
  rintro e w1 ⟨m, g, rfl, hgl, hr1, hb1, hs1⟩
  have hs2 := hb1.size
  have hl1 := hr1.lt
  clear hs1
  go_wp2_with fail
  refine (l20Pool_any hr1 (by omega)).mono ?_
  rintro e w2 ⟨v, nn, q, a, b, d, rfl, hn, hA, hP, hq, hr2, hg2⟩
  obtain ⟨A1, c1, rfl, hO⟩ := hP.own
  have hB2 : Below w.heap.size w w2 := hb1.trans (below_grown hg2 hs2 hgl)
  have hl2 := hB2.size
  clear hg2
  go_wp2_with fail
  refine (l20Counters_any hr2 (by omega) hO hl1 hn).mono ?_
  rintro e w3 ⟨v, q3, p', y, rfl, hF, hP3, hq3, hr3, hg3⟩
  obtain ⟨A3, c3, rfl, hO3⟩ := hP3.own
  go_wp2
  go_ret
  exact ⟨A3, nn, c3, a, p', y, rfl, hn, hA, hF, hO3.more hl2, hB2.trans (below_grown hg3 hl2 hgl)⟩

/-- Two lists of at most five counters. -/
def CntTwo (w : World) (e : Ending) (w' : World) : Prop :=
  ∃ A n c A2 n2 c2, ∃ a p y a2 p2 y2 : Nat → Int, e = .returned (.tuple #[.slice A n c, .slice A2 n2 c2]) ∧ n ≤ 5 ∧ n2 ≤ 5 ∧ Own w' w.heap.size 32 3 A n c (counterR a p y) ∧ Own w' w.heap.size 32 3 A2 n2 c2 (counterR a2 p2 y2) ∧ Below w.heap.size w w'
set_option maxHeartbeats 4000000 in
theorem drawAddCounters_any {w : World} {A : Option Addr} {n c : Nat} (h : Bytes w w.heap.size A n c) :
    Calls Try.prog 20 #[.slice A n c] w (CntTwo w) := by
  go_enter Try.func20, Try.ntmps20
  go_wp2_with fail
  refine (open_any h (Nat.le_refl _)).mono ?_
  rintro e w1 ⟨m, g, rfl, hgl, hr1, hb1, hs1⟩
  have hs2 := hb1.size
  have hl1 := hr1.lt
  clear hs1
  go_wp2_with fail
  refine (l20Pool_any hr1 (by omega)).mono ?_
  rintro e w2 ⟨v, nn, q, a, b, d, rfl, hn, hA, hP, hq, hr2, hg2⟩
  obtain ⟨A1, c1, rfl, hO⟩ := hP.own
  have hB2 : Below w.heap.size w w2 := hb1.trans (below_grown hg2 hs2 hgl)
  have hl2 := hB2.size
  clear hg2
  go_wp2_with fail
  refine (odd_any hr2 _ (by omega) (by omega)).mono ?_
  rintro e w3 ⟨od, q3, rfl, hq3, hr3, hg3, hs3, hy3⟩
  have hB3 := hB2.trans (below_grown hg3 hl2 hgl)
  have hl3 := hB3.size
  have hO3 := hO.far hg3 hl1
  have hl3b := hr3.lt
  clear hg3 hs3 hy3 hO
  cases od with
  | false =>
    go_wp2_with fail
    refine (l20Counters_any hr3 (by omega) hO3 hl1 hn).mono ?_
    rintro e w4 ⟨v, q4, p', y, rfl, hF, hP4, hq4, hr4, hg4⟩
    obtain ⟨A4, c4, rfl, hO4⟩ := hP4.own
    have hB4 := hB3.trans (below_grown hg4 hl3 hgl)
    have hl4 := hB4.size
    have hO5 := hO3.far hg4 hl1
    clear hg4
    go_wp2_with fail
    refine (l20Counters_any hr4 (by omega) hO5 hl1 hn).mono ?_
    rintro e w6 ⟨v, q6, p6, y6, rfl, hF6, hP6, hq6, hr6, hg6⟩
    obtain ⟨A6, c6, rfl, hO6⟩ := hP6.own
    go_wp2
    go_ret2
    exact ⟨A4, nn, c4, A6, nn, c6, a, p', y, a, p6, y6, rfl, hn, hn, (hO4.far hg6 hl3b).more hl3, hO6.more hl4, hB4.trans (below_grown hg6 hl4 hgl)⟩
  | true =>
    go_wp2_with fail
    refine (l20Pool_any hr3 (by omega)).mono ?_
    rintro e w7 ⟨v, n7, q7, a7, b7, d7, rfl, hn7, hA7, hP7, hq7, hr7, hg7⟩
    obtain ⟨A7, c7, rfl, hO7⟩ := hP7.own
    have hB7 := hB3.trans (below_grown hg7 hl3 hgl)
    have hl7 := hB7.size
    have hO8 := hO3.far hg7 hl1
    have hl7b := hr7.lt
    clear hg7
    go_wp2_with fail
    refine (l20Counters_any hr7 (by omega) hO8 hl1 hn).mono ?_
    rintro e w4 ⟨v, q4, p', y, rfl, hF, hP4, hq4, hr4, hg4⟩
    obtain ⟨A4, c4, rfl, hO4⟩ := hP4.own
    have hB4 := hB7.trans (below_grown hg4 hl7 hgl)
    have hl4 := hB4.size
    have hO5 := hO7.far hg4 hl3b
    clear hg4
    go_wp2_with fail
    refine (l20Counters_any hr4 (by omega) hO5 hl3b hn7).mono ?_
    rintro e w6 ⟨v, q6, p6, y6, rfl, hF6, hP6, hq6, hr6, hg6⟩
    obtain ⟨A6, c6, rfl, hO6⟩ := hP6.own
    go_wp2
    go_ret2
    exact ⟨A4, nn, c4, A6, n7, c6, a, p', y, a7, p6, y6, rfl, hn, hn7, (hO4.far hg6 hl7b).more hl7, hO6.more hl4, hB4.trans (below_grown hg6 hl4 hgl)⟩
end Go.Proofs.Ytdfnpcjbecbbbaa
