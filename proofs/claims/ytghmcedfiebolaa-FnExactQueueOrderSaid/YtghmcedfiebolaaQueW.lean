/-
  The walk of the law that compares QueuesValid in the program and the reference.
-/
import Derived.Test.YtghmcedfiebolaaQue2
import Derived.Test.YtghmcedfiebolaaQueT
namespace Go.Proofs.Ytghmcedfiebolaa
open Go.RowKit

theorem szQ_yes {n : Nat} {qn : Nat → Nat} (h : n + plSum qn n ≤ 1048576) : szQ n qn 1048576 = 1048576 - (n + plSum qn n : Nat) := if_pos (by omega)
theorem szQ_no {n : Nat} {qn : Nat → Nat} (h : ¬ n + plSum qn n ≤ 1048576) : szQ n qn 1048576 = -1 := if_neg (by omega)
set_option maxHeartbeats 8000000 in
theorem exactQueuesValid_walk {w : World} {A A' : Option Addr} {n c m c' : Nat} {qn : Nat → Nat} {q : Nat → Nat → Int} {sh : Nat → Int} (h : Qs w w.heap.size A n c qn q) (h' : Rws w w.heap.size 1 A' m c' (intR sh)) :
    Calls Try.prog 3 #[.slice A n c, .slice A' m c'] w (Truly w) := by
  have HH := Lib.hid h
  have HH' := Lib.hid h'
  have hm0 := h'.1.1
  have hm1 := h'.1.2
  unfold maxLen at hm1
  clear h h'
  by_cases hm : m ≤ 1048576
  rotate_left
  · have hd : decide ((1048576 : Int) < (m : Int)) = true := by simp; omega
    go_enter Try.func3, Try.ntmps3
    go_wp2
    go_ret
    exact ⟨rfl, Below.refl _ _⟩
  have hd : decide ((1048576 : Int) < (m : Int)) = false := by simp; omega
  by_cases hs : n + plSum qn n ≤ 1048576
  rotate_left
  · have hsz := szQ_no hs
    go_enter Try.func3, Try.ntmps3
    go_wp2_with fail
    refine (szIntSS_any 1048576 (by omega) (by omega) HH.out (Nat.le_refl _)).mono ?_
    rintro e w' ⟨rfl, rfl⟩
    go_wp2_with fail
    go_ret
    exact ⟨rfl, Below.refl _ _⟩
  have hsz := Lib.hid (szQ_yes hs)
  have hn : n ≤ 1048576 := by omega
  have HQ := Lib.hid (fun (i : Nat) (hi : i < n) => show qn i ≤ 1048576 by have := plSum_ge qn hi; omega)
  have hs2 : (0 : Int) ≤ 1048576 - (n + plSum qn n : Nat) := by omega
  go_enter Try.func3, Try.ntmps3
  go_wp2_with fail
  refine (szIntSS_any 1048576 (by omega) (by omega) HH.out (Nat.le_refl _)).mono ?_
  rintro e w' ⟨rfl, rfl⟩
  rw [hsz.out]
  go_wp2_with fail
  refine (toIntSS_any HH.out (Nat.le_refl _) hn HQ.out).mono ?_
  rintro e w1 ⟨A1, rfl, hQ1, hb1⟩
  have H1 := Lib.hid (hQ1.qs hn HQ.out)
  clear hQ1
  go_wp2_with fail
  refine (toIntS_any (HH'.out.below hb1) hb1.size hm).mono ?_
  rintro e w2 ⟨g2, rfl, hg2, hN2, hb2⟩
  have hB2 := Below.tr hb1 hb2
  have H2 := Lib.hid (hN2.rows (by unfold maxLen; omega) hN2.lt)
  have H12 := Lib.hid (H1.out.next hb2)
  clear hN2 H1
  go_wp2_with fail
  refine (specQueuesValid_any H12.out H2.out (Nat.le_refl _)).mono ?_
  rintro e w' ⟨rfl, rfl⟩
  clear H12 H2
  go_wp2_with fail
  refine (toIntSS_any (HH.out.below hB2) hB2.size hn HQ.out).mono ?_
  rintro e w3 ⟨A3, rfl, hQ3, hb3⟩
  have hB3 := Below.tr hB2 hb3
  have H3 := Lib.hid (hQ3.qs hn HQ.out)
  clear hQ3
  go_wp2_with fail
  refine (toIntS_any (HH'.out.below hB3) hB3.size hm).mono ?_
  rintro e w4 ⟨g4, rfl, hg4, hN4, hb4⟩
  have hB4 := Below.tr hB3 hb4
  have H4 := Lib.hid (hN4.rows (by unfold maxLen; omega) hN4.lt)
  have H34 := Lib.hid (H3.out.next hb4)
  clear hN4 H3
  go_wp2_with fail
  refine (implQueuesValid_any H34.out H4.out (Nat.le_refl _)).mono ?_
  rintro e w' ⟨rfl, rfl⟩
  go_wp2_with fail
  refine (toIntSS_any (HH.out.below hB4) hB4.size hn HQ.out).mono ?_
  rintro e w5 ⟨A5, rfl, hQ5, hb5⟩
  have hB5 := Below.tr hB4 hb5
  have H5 := Lib.hid (hQ5.qs hn HQ.out)
  have H35 := Lib.hid (H34.out.next hb5)
  have H45 := Lib.hid (H4.out.next hb5)
  clear hQ5 H34 H4
  go_wp2_with fail
  refine (eqIntSS_same H35.out H5.out (Nat.le_refl _)).mono ?_
  rintro e w6 ⟨rfl, hb6⟩
  have hB6 := Below.tr hB5 hb6
  have H46 := Lib.hid (H45.out.next hb6)
  clear H35 H5 H45
  go_wp2_with fail
  refine (toIntS_any (HH'.out.below hB6) hB6.size hm).mono ?_
  rintro e w7 ⟨g7, rfl, hg7, hN7, hb7⟩
  have hB7 := Below.tr hB6 hb7
  have H7 := Lib.hid (hN7.rows (by unfold maxLen; omega) hN7.lt)
  have H47 := Lib.hid (H46.out.next hb7)
  clear hN7 H46
  go_wp2_with fail
  refine (eqIntS_same H47.out H7.out (Nat.le_refl _)).mono ?_
  rintro e w8 ⟨rfl, hb8⟩
  go_wp2_with fail
  go_ret
  exact ⟨rfl, Below.tr hB7 hb8⟩
end Go.Proofs.Ytghmcedfiebolaa
