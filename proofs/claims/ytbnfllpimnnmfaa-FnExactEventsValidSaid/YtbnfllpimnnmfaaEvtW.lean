/-
  The walk of the law that compares EventsValid in the program and the reference.
-/
import Derived.Test.YtbnfllpimnnmfaaEvt
namespace Go.Proofs.Ytbnfllpimnnmfaa
open Go.RowKit

set_option maxHeartbeats 2000000 in
theorem exactEventsValid_walk {w : World} {A : Option Addr} {n c : Nat} {c0 : Nat → Int} {c1 : Nat → Int} {c2 : Nat → Int} {c3 : Nat → Int} {c4 : Nat → Int} {c5 : Nat → Int} (h : Rws w w.heap.size 6 A n c (eventR c0 c1 c2 c3 c4 c5)) :
    Calls Try.prog 3 #[.slice A n c] w (Truly w) := by
  have hnc := h.1.1
  have hcm := h.1.2
  by_cases hn : (n : Int) ≤ 1048576
  · have hsz : szI n 1048576 = 1048576 - n := if_pos hn
    go_enter Try.func3, Try.ntmps3
    go_wp2_with fail
    refine (szEventS_any 1048576 hnc hcm (by omega) (by omega) _).mono ?_
    rintro e w' ⟨rfl, rfl⟩
    go_wp2_with fail
    refine (toEventS_any h (Nat.le_refl _) (by omega)).mono ?_
    rintro e w1 ⟨g1, rfl, hg1, hN1, hb1⟩
    go_wp2_with fail
    refine (specEventsValid_any (hN1.rows (by unfold maxLen; omega) hN1.lt) (Nat.le_refl _)).mono ?_
    rintro e w2 ⟨rfl, hb2⟩
    have hB2 := Below.tr hb1 hb2
    go_wp2_with fail
    refine (toEventS_any (h.below hB2) hB2.size (by omega)).mono ?_
    rintro e w3 ⟨g3, rfl, hg3, hN3, hb3⟩
    have hB3 := Below.tr hB2 hb3
    have hR3 := hN3.rows (by unfold maxLen; omega) hN3.lt
    go_wp2_with fail
    refine (implEventsValid_any hR3 (Nat.le_refl _)).mono ?_
    rintro e w4 ⟨rfl, hb4⟩
    have hB4 := Below.tr hB3 hb4
    go_wp2_with fail
    refine (toEventS_any (h.below hB4) hB4.size (by omega)).mono ?_
    rintro e w5 ⟨g5, rfl, hg5, hN5, hb5⟩
    have hB5 := Below.tr hB4 hb5
    have hb35 := Below.tr hb4 hb5
    go_wp2_with fail
    refine (eqEventS_same ((hR3.below hb35).more hb35.size) (hN5.rows (by unfold maxLen; omega) hN5.lt) (Nat.le_refl _)).mono ?_
    rintro e w6 ⟨rfl, hb6⟩
    go_wp2_with fail
    go_ret
    exact ⟨rfl, Below.tr hB5 hb6⟩
  · have hsz : szI n 1048576 = -1 := if_neg hn
    go_enter Try.func3, Try.ntmps3
    go_wp2_with fail
    refine (szEventS_any 1048576 hnc hcm (by omega) (by omega) _).mono ?_
    rintro e w' ⟨rfl, rfl⟩
    go_wp2_with fail
    go_ret
    exact ⟨rfl, Below.refl _ _⟩

end Go.Proofs.Ytbnfllpimnnmfaa
