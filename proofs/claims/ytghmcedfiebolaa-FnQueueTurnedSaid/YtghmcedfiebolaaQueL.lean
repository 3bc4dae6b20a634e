/-
  What the drawing of queues hands over; the law 'queues have shares': its walk.
-/
import Derived.Test.YtghmcedfiebolaaQueE
import Derived.Test.YtghmcedfiebolaaQue2
import Derived.Test.YtghmcedfiebolaaFlow
namespace Go.Proofs.Ytghmcedfiebolaa
open Go Go.RowKit Go.Joins

/-- Queues and shares, new. -/
def DrawnQQ (w : World) (e : Ending) (w' : World) : Prop :=
  ∃ A1 n1 c1 qn q A2 n2 c2 sh, e = .returned (.tuple #[.slice A1 n1 c1, .slice A2 n2 c2]) ∧ n1 ≤ 5 ∧ n2 ≤ 6 ∧ (∀ i, i < n1 → qn i ≤ 9) ∧ Qs w' w'.heap.size A1 n1 c1 qn q ∧ Rws w' w'.heap.size 1 A2 n2 c2 (intR sh) ∧ Below w.heap.size w w'
set_option maxHeartbeats 2000000 in
theorem drawQueuesValid_any {w : World} {A : Option Addr} {n c : Nat} (h : Bytes w w.heap.size A n c) :
    Calls Try.prog 17 #[.slice A n c] w (DrawnQQ w) := by
  go_enter Try.func17, Try.ntmps17
  go_wp2_with fail
  refine (open_any h (Nat.le_refl _)).mono ?_
  rintro e w1 ⟨m, g, rfl, hgl, hr1, hb1, hs1⟩
  clear hs1
  go_wp2_with fail
  refine (l20Queues_any hr1 _ (by omega) (by omega)).mono ?_
  rintro e w2 ⟨A1, n1, c1, qn, q, A2, n2, c2, sh, pos, rfl, h1, h2, h3, h4, h5, h6, h7, h8, _⟩
  have H3 := Lib.hid h3
  clear h3
  go_wp2
  go_ret2
  exact ⟨A1, n1, c1, qn, q, A2, n2, c2, sh, rfl, h1, h2, H3.out, h4, h5, hb1.trans (below_grown h8 hb1.size hgl)⟩
set_option maxHeartbeats 2000000 in
theorem drawQueueOrder_any {w : World} {A : Option Addr} {n c : Nat} (h : Bytes w w.heap.size A n c) :
    Calls Try.prog 19 #[.slice A n c] w (DrawnQQ w) := by
  go_enter Try.func19, Try.ntmps19
  go_wp2_with fail
  refine (open_any h (Nat.le_refl _)).mono ?_
  rintro e w1 ⟨m, g, rfl, hgl, hr1, hb1, hs1⟩
  clear hs1
  go_wp2_with fail
  refine (l20Queues_any hr1 _ (by omega) (by omega)).mono ?_
  rintro e w2 ⟨A1, n1, c1, qn, q, A2, n2, c2, sh, pos, rfl, h1, h2, h3, h4, h5, h6, h7, h8, _⟩
  have H3 := Lib.hid h3
  clear h3
  go_wp2
  go_ret2
  exact ⟨A1, n1, c1, qn, q, A2, n2, c2, sh, rfl, h1, h2, H3.out, h4, h5, hb1.trans (below_grown h8 hb1.size hgl)⟩

theorem qvB_noshares {n : Nat} {qn : Nat → Nat} {q : Nat → Nat → Int} {sh : Nat → Int} : qvB n qn q 0 sh = false := by
  rw [← Bool.not_eq_true, qvB_true]
  rintro ⟨h1, _, h2, _⟩
  omega
theorem qvB_empty {n m : Nat} {qn : Nat → Nat} {q : Nat → Nat → Int} {sh : Nat → Int} (h : qvB n qn q m sh = true) : qvB n (fun _ => 0) (fun _ _ => 0) m sh = true := by
  rw [qvB_true] at h ⊢
  obtain ⟨h1, h2, h3, h4⟩ := h
  exact ⟨h1, h2, h3, fun i hi => ⟨by omega, (h4 i hi).2.1, (h4 i hi).2.2.1, fun j hj => absurd hj (by omega)⟩⟩
theorem qs_made (w : World) {n : Nat} (hn : n ≤ 5) : Qs (w.alloc (.cells (madeCells (Value.slice none 0 0).cells n) 23)) (w.heap.size + 1) (some ⟨w.heap.size, 0, none⟩) n n (fun _ => 0) (fun _ _ => 0) := by
  refine ⟨fun _ => none, fun _ => 0, ⟨⟨Nat.le_refl _, by unfold maxLen; omega⟩, fun _ => ⟨_, 0, rfl, by omega, fun i hi j v hv => ?_⟩⟩, fun i _ => Rws.nil _ _ _ _⟩
  cases j with
  | succ j => simp [slR] at hv
  | zero =>
    simp only [slR, List.getElem?_cons_zero, Option.some.injEq] at hv
    subst hv
    rw [(blk (heap_alloc_new w _)).1]
    simp [madeCells, Value.cells, hi, Nat.mod_one]

set_option maxHeartbeats 8000000 in
theorem queuesValid_walk {w : World} {A : Option Addr} {n c : Nat} (h : Bytes w w.heap.size A n c) :
    Calls Try.prog 4 #[.slice A n c] w (Truly w) := by
  by_cases hn : 1048576 < n
  · have hd : decide ((1048576 : Int) < (n : Int)) = true := by simp; omega
    go_enter Try.func4, Try.ntmps4
    go_wp2
    go_ret
    exact ⟨rfl, Below.refl _ _⟩
  have hd : decide ((1048576 : Int) < (n : Int)) = false := by simp; omega
  obtain ⟨iT, hi, hz, hs, hb⟩ := info_parts info_sl
  have hmk := fun (n1 : Nat) (h5 : n1 ≤ 5) => run_make_rows (P := Try.prog) 22 23 iT _ 1 Try.underlying22 hi hz hs n1 (by rw [hb]; omega) (by omega)
  have HM := Lib.hid hmk
  clear hn hmk hi hz hs hb
  go_enter Try.func4, Try.ntmps4
  go_wp2_with fail
  refine (drawQueuesValid_any h).mono ?_
  rintro e w1 ⟨A1, n1, c1, qn, q, A2, n2, c2, sh, rfl, h1, h2, h3, h4, h5, hb1⟩
  have H4 := Lib.hid h4
  have H5 := Lib.hid h5
  have hnc := h4.len
  unfold maxLen at hnc
  clear h3 h4 h5
  go_wp2_with fail
  refine (implQueuesValid_any H4.out H5.out (Nat.le_refl _)).mono ?_
  rintro e w' ⟨rfl, rfl⟩
  go_wp2_with fail
  refine (specQueuesValid_any H4.out H5.out (Nat.le_refl _)).mono ?_
  rintro e w' ⟨rfl, rfl⟩
  go_wp2_with fail
  refine (implQueuesValid_any (m := 0) (sh := sh) H4.out (Rws.nil _ _ _ _) (Nat.le_refl _)).mono ?_
  rintro e w' ⟨rfl, rfl⟩
  rw [qvB_noshares]
  cases hv : qvB n1 qn q n2 sh with
  | false =>
    go_wp2_with (go_at_call 18; refine (alive_any _).mono ?_; rintro e wa ⟨rfl, hba⟩)
    go_ret
    exact ⟨rfl, Below.tr hb1 (by (repeat (first | exact Below.refl _ _ | assumption | refine Below.al ?_ _ | refine Below.dr ?_ | (refine Below.st ?_ (by simp <;> omega) _) | (refine Below.tr ?_ (by assumption)))))⟩
  | true =>
    have hv2 := Lib.hid (qvB_empty hv)
    have hmk := HM.out n1 h1
    go_wp2_with fail
    refine (implQueuesValid_any (qs_made w1 h1) ((H5.out.below (below_new _ _)).more (Nat.le_succ _)) (by simp)).mono ?_
    rintro e w' ⟨rfl, rfl⟩
    rw [hv2.out]
    go_wp2_with (go_at_call 18; refine (alive_any _).mono ?_; rintro e wa ⟨rfl, hba⟩)
    go_ret
    exact ⟨rfl, Below.tr hb1 (by (repeat (first | exact Below.refl _ _ | assumption | refine Below.al ?_ _ | refine Below.dr ?_ | (refine Below.st ?_ (by simp <;> omega) _) | (refine Below.tr ?_ (by assumption)))))⟩
end Go.Proofs.Ytghmcedfiebolaa
