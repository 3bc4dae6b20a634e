/-
  QueueBytes, in the program and in the reference.
-/
import Derived.Test.YtghmcedfiebolaaQueP
namespace Go.Proofs.Ytghmcedfiebolaa
open Go Go.RowKit

/-- What queue k has sent behind the first i packets. -/
def sentTo (q : Nat → Nat → Int) (o : Outs) (k i : Nat) : Int := sumTo (q k) (cnt (o.take i) k)
def qbV (n : Nat) (qn : Nat → Nat) (q : Nat → Nat → Int) (m : Nat) (sh : Nat → Int) (qu many : Int) : Int :=
  if qvB n qn q m sh && inB qu 0 ((n : Int) - 1) && decide (0 ≤ many) then sentTo q (qOut n qn q sh) qu.toNat many.toNat else -1
section
variable {n : Nat} {qn : Nat → Nat} {q : Nat → Nat → Int} {sh : Nat → Int} {k : Nat}
theorem sent_bounds (hv : qvB n qn q n sh = true) (hk : k < n) (i : Nat) : 0 ≤ sentTo q (qOut n qn q sh) k i ∧ sentTo q (qOut n qn q sh) k i ≤ 400 := by
  obtain ⟨_, _, _, hv4⟩ := qvB_true.1 hv
  obtain ⟨v1, _, _, v4⟩ := hv4 k hk
  have h1 := (qOut_facts hv).2.1 k hk
  have h2 := cnt_take_le (o := qOut n qn q sh) (k := k) i
  have h3 := sumTo_nn (f := q k) (n := qn k) (fun j hj => by have := v4 j hj; omega) (p := cnt ((qOut n qn q sh).take i) k) (by omega)
  have h4 := sumTo_le (f := q k) (n := qn k) (b := 50) (fun j hj => (v4 j hj).2) (p := cnt ((qOut n qn q sh).take i) k) (by omega)
  unfold sentTo
  refine ⟨h3, ?_⟩
  have : ((cnt ((qOut n qn q sh).take i) k : Nat) : Int) ≤ 8 := by omega
  omega
/-- Packet i of the order. -/
theorem sent_at (hv : qvB n qn q n sh = true) {i : Nat} (hi : i < (qOut n qn q sh).length) : ((qOut n qn q sh).getD i (0, 0)).1 < n ∧ ((qOut n qn q sh).getD i (0, 0)).2 < qn ((qOut n qn q sh).getD i (0, 0)).1 ∧
    ((qOut n qn q sh).getD i (0, 0)).2 = cnt ((qOut n qn q sh).take i) ((qOut n qn q sh).getD i (0, 0)).1 := by
  obtain ⟨h1, h2, h3⟩ := qOut_facts hv
  obtain ⟨h4, h5⟩ := okO_at h1 hi
  refine ⟨h4, ?_, h5⟩
  rw [← h2 _ h4]
  have h6 := cnt_take_succ (o := qOut n qn q sh) (k := ((qOut n qn q sh).getD i (0, 0)).1) hi
  rw [if_pos rfl] at h6
  have h7 := cnt_take_le (o := qOut n qn q sh) (k := ((qOut n qn q sh).getD i (0, 0)).1) (i + 1)
  omega
theorem sent_hit (hv : qvB n qn q n sh = true) {i : Nat} (hi : i < (qOut n qn q sh).length) (hk : ((qOut n qn q sh).getD i (0, 0)).1 = k) : sentTo q (qOut n qn q sh) k (i + 1) = sentTo q (qOut n qn q sh) k i + q k ((qOut n qn q sh).getD i (0, 0)).2 := by
  obtain ⟨h1, h2, h3⟩ := sent_at hv hi
  unfold sentTo
  rw [cnt_take_succ hi, if_pos hk, sumTo, h3, hk]
theorem sent_miss {o : Outs} {i : Nat} (hi : i < o.length) (hk : (o.getD i (0, 0)).1 ≠ k) : sentTo q o k (i + 1) = sentTo q o k i := by
  unfold sentTo
  rw [cnt_take_succ hi, if_neg hk, Nat.add_zero]
theorem sent_all {o : Outs} {i : Nat} (hi : o.length ≤ i) : sentTo q o k i = sentTo q o k o.length := by
  unfold sentTo
  rw [List.take_of_length_le hi, List.take_of_length_le (Nat.le_refl _)]
end
theorem qbV_no {n : Nat} {qn : Nat → Nat} {q : Nat → Nat → Int} {m : Nat} {sh : Nat → Int} {qu many : Int} (h : (qvB n qn q m sh && inB qu 0 ((n : Int) - 1) && decide (0 ≤ many)) = false) : qbV n qn q m sh qu many = -1 := by
  unfold qbV; rw [h]; rfl
theorem qbV_yes {n : Nat} {qn : Nat → Nat} {q : Nat → Nat → Int} {sh : Nat → Int} {k M : Nat} (hv : qvB n qn q n sh = true) (hk : k < n) : qbV n qn q n sh k M = sentTo q (qOut n qn q sh) k M := by
  unfold qbV
  rw [hv, inB_true.2 (by omega)]
  simp

set_option maxHeartbeats 4000000 in
theorem implQueueBytes_any_no {w : World} {B : Nat} {A A' : Option Addr} {n c m c' : Nat} {qn : Nat → Nat} {q : Nat → Nat → Int} {sh : Nat → Int} (qu many : Int) (H : Qs w B A n c qn q) (H' : Rws w B 1 A' m c' (intR sh)) (hB : B ≤ w.heap.size) (h : (qvB n qn q m sh && inB qu 0 ((n : Int) - 1) && decide (0 ≤ many)) = false) :
    Calls Try.prog 24 #[.slice A n c, .slice A' m c', .int .i64 qu, .int .i64 many] w fun e w' => e = .returned (.int .i64 (-1)) ∧ w = w' := by
  have hl := H.len
  unfold maxLen at hl
  have HH := Lib.hid H
  have HH' := Lib.hid H'
  clear H H'
  cases hv : qvB n qn q m sh with
  | false =>
    clear h
    go_enter Try.func24, Try.ntmps24
    go_wp2_with fail
    refine (implQueuesValid_any HH.out HH'.out hB).mono ?_
    rintro e w' ⟨rfl, rfl⟩
    rw [hv]
    go_wp2
    go_ret
    exact ⟨rfl, rfl⟩
  | true =>
    cases hi : inB qu 0 ((n : Int) - 1) with
    | false =>
      clear h
      go_enter Try.func24, Try.ntmps24
      go_wp2_with fail
      refine (implQueuesValid_any HH.out HH'.out hB).mono ?_
      rintro e w' ⟨rfl, rfl⟩
      rw [hv]
      clear hv
      go_wp2_with (go_at_call 33; refine (in_any _ _ _ _).mono ?_; rintro e w' ⟨rfl, rfl⟩)
      go_ret
      exact ⟨rfl, rfl⟩
    | true =>
      have hm : many < 0 := by
        rw [hv, hi] at h
        simpa using h
      have hd : decide (many < 0) = true := by simpa using hm
      clear h
      go_enter Try.func24, Try.ntmps24
      go_wp2_with fail
      refine (implQueuesValid_any HH.out HH'.out hB).mono ?_
      rintro e w' ⟨rfl, rfl⟩
      rw [hv]
      clear hv
      go_wp2_with (go_at_call 33; refine (in_any _ _ _ _).mono ?_; rintro e w' ⟨rfl, rfl⟩)
      go_ret
      exact ⟨rfl, rfl⟩
set_option maxHeartbeats 4000000 in
theorem specQueueBytes_any_no {w : World} {B : Nat} {A A' : Option Addr} {n c m c' : Nat} {qn : Nat → Nat} {q : Nat → Nat → Int} {sh : Nat → Int} (qu many : Int) (H : Qs w B A n c qn q) (H' : Rws w B 1 A' m c' (intR sh)) (hB : B ≤ w.heap.size) (h : (qvB n qn q m sh && inB qu 0 ((n : Int) - 1) && decide (0 ≤ many)) = false) :
    Calls Try.prog 23 #[.slice A n c, .slice A' m c', .int .i64 qu, .int .i64 many] w fun e w' => e = .returned (.int .i64 (-1)) ∧ w = w' := by
  have hl := H.len
  unfold maxLen at hl
  have HH := Lib.hid H
  have HH' := Lib.hid H'
  clear H H'
  cases hv : qvB n qn q m sh with
  | false =>
    clear h
    go_enter Try.func23, Try.ntmps23
    go_wp2_with fail
    refine (specQueuesValid_any HH.out HH'.out hB).mono ?_
    rintro e w' ⟨rfl, rfl⟩
    rw [hv]
    go_wp2
    go_ret
    exact ⟨rfl, rfl⟩
  | true =>
    cases hi : inB qu 0 ((n : Int) - 1) with
    | false =>
      clear h
      go_enter Try.func23, Try.ntmps23
      go_wp2_with fail
      refine (specQueuesValid_any HH.out HH'.out hB).mono ?_
      rintro e w' ⟨rfl, rfl⟩
      rw [hv]
      clear hv
      go_wp2_with (go_at_call 32; refine (l1In_any _ _ _ _).mono ?_; rintro e w' ⟨rfl, rfl⟩)
      go_ret
      exact ⟨rfl, rfl⟩
    | true =>
      have hm : many < 0 := by
        rw [hv, hi] at h
        simpa using h
      have hd : decide (many < 0) = true := by simpa using hm
      clear h
      go_enter Try.func23, Try.ntmps23
      go_wp2_with fail
      refine (specQueuesValid_any HH.out HH'.out hB).mono ?_
      rintro e w' ⟨rfl, rfl⟩
      rw [hv]
      clear hv
      go_wp2_with (go_at_call 32; refine (l1In_any _ _ _ _).mono ?_; rintro e w' ⟨rfl, rfl⟩)
      go_ret
      exact ⟨rfl, rfl⟩
end Go.Proofs.Ytghmcedfiebolaa
