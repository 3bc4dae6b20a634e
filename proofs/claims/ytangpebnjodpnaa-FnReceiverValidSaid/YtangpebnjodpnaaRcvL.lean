/-
  The law 'receivers keep what comes early': its walk.
-/
import Derived.Test.YtangpebnjodpnaaRcvD
import Derived.Test.YtangpebnjodpnaaFlow
namespace Go.Proofs.Ytangpebnjodpnaa
open Go Go.RowKit Go.Joins

def DrawnRR (w : World) (e : Ending) (w' : World) : Prop :=
  ∃ nx rm : Int, ∃ A1 n1 c1 h, e = .returned (.agg #[.int .i64 nx, .int .i64 rm, .slice A1 n1 c1]) ∧ n1 ≤ 11 ∧ Rws w' w'.heap.size 1 A1 n1 c1 (intR h) ∧ Below w.heap.size w w'
set_option maxHeartbeats 2000000 in
theorem drawReceiverValid_any {w : World} {A : Option Addr} {n c : Nat} (h : Bytes w w.heap.size A n c) :
    Calls Try.prog 5 #[.slice A n c] w (DrawnRR w) := by
  go_enter Try.func5, Try.ntmps5
  go_wp2_with fail
  refine (open_any (h.alloc (Nat.le_refl _) _) (by simp)).mono ?_
  rintro e w1 ⟨m, g, rfl, hgl, hr1, hb1, hs1⟩
  have hB1 : Below w.heap.size w w1 := (below_new w _).trans (hb1.mono (by simp))
  have hz1 := (hb1.block w.heap.size (by simp)).trans (heap_alloc_new w _)
  have hs2 := hb1.size
  simp at hgl hs2
  clear hs1
  go_wp2_with fail
  refine (l20Receiver_any hr1 _ (by omega) (by omega)).mono ?_
  rintro e w2 ⟨nx, rm, A1, n1, c1, hh, q, rfl, h1, h2, h3, h4, h5, h6⟩
  have hz2 := heap_far hz1 h5 (by omega)
  have hs3 := h5.size
  have hB2 : Below w.heap.size w w2 := hB1.trans (below_grown h5 hB1.size (by omega))
  have H2 := Lib.hid h2
  have hnc := h2.1
  unfold maxLen at hnc
  clear hz1 h2 h5
  go_wp2_with (refine wpList_store_var rfl 25 (.tmp 2) (.tmp 5) rfl #[.int .i64 nx, .int .i64 rm, .slice A1 n1 c1] hz2 rfl rfl (by kernel_rfl) rfl rfl ?_)
  intro w9 hh9 hg9 hs9
  obtain ⟨k9, f9⟩ := blk hh9
  go_wp2
  refine bodyPost_ret (v := .agg #[.int .i64 nx, .int .i64 rm, .slice A1 n1 c1]) (by simp [results, Try.results5, go_sem, k9]) rfl ⟨nx, rm, A1, n1, c1, hh, rfl, h1, H2.out.away hg9 (fun b off e => by have := h6 b off e; omega), hB2.trans (below_grown hg9 hB2.size (Nat.le_refl _))⟩

theorem rcvB_self (nx rm : Int) : rcvB nx rm 1 (fun _ => nx) = false := rcvB_no (i := 0) (by omega) (by simp [rcOk])
theorem rcvB_bare {nx rm : Int} {n : Nat} {h : Nat → Int} (hv : rcvB nx rm n h = true) : rcvB nx rm 0 h = true := by
  simp only [rcvB, Bool.and_eq_true] at hv ⊢
  exact ⟨hv.1, rfl⟩
set_option maxRecDepth 20000 in
set_option maxHeartbeats 8000000 in
theorem receiverValid_walk {w : World} {A : Option Addr} {n c : Nat} (h : Bytes w w.heap.size A n c) :
    Calls Try.prog 3 #[.slice A n c] w (Truly w) := by
  by_cases hn : 1048576 < n
  · have hd : decide ((1048576 : Int) < (n : Int)) = true := by simp; omega
    go_enter Try.func3, Try.ntmps3
    go_wp2
    go_ret
    exact ⟨rfl, Below.refl _ _⟩
  have hd : decide ((1048576 : Int) < (n : Int)) = false := by simp; omega
  clear hn
  go_enter Try.func3, Try.ntmps3
  go_wp2_with fail
  refine (drawReceiverValid_any h).mono ?_
  rintro e w1 ⟨nx, rm, A1, n1, c1, hh, rfl, h1, h2, hb1⟩
  have H1 := Lib.hid (h2.next (below_new w1 (.cells #[.int .i64 nx, .int .i64 rm, .slice A1 n1 c1] 25)))
  have hnc := h2.1
  unfold maxLen at hnc
  clear h2 hd
  go_wp2_with fail
  refine (implReceiverValid_any nx rm H1.out (Nat.le_refl _)).mono ?_
  rintro e w2 ⟨rfl, hb2⟩
  have H2 := Lib.hid (H1.out.next hb2)
  have hB2 : Below w1.heap.size w1 w2 := (below_new w1 _).trans (hb2.mono (by simp))
  have k2 : ∀ i, w2.cell? ⟨w1.heap.size, i, none⟩ = #[Value.int .i64 nx, .int .i64 rm, .slice A1 n1 c1][i]? := fun i => (keepc hb2 w1.heap.size (by simp) i).trans ((blk (heap_alloc_new w1 _)).1 i)
  have z2 : w1.heap.size < w2.heap.size := by have := hb2.size; simp at this; omega
  clear H1 hb2
  go_wp2_with fail
  refine (specReceiverValid_any nx rm H2.out (Nat.le_refl _)).mono ?_
  rintro e w3 ⟨rfl, hb3⟩
  have hB3 := Below.tr hB2 hb3
  have k3 : ∀ i, w3.cell? ⟨w1.heap.size, i, none⟩ = #[Value.int .i64 nx, .int .i64 rm, .slice A1 n1 c1][i]? := fun i => (keepc hb3 w1.heap.size z2 i).trans (k2 i)
  have z3 : w1.heap.size < w3.heap.size := Nat.lt_of_lt_of_le z2 hb3.size
  have hR1 : Rws (w3.alloc (.cells #[.int .i64 nx] 3)) (w3.heap.size + 1) 1 (some ⟨w3.heap.size, 0, none⟩) 1 1 (intR fun _ => nx) := by
    refine ⟨⟨Nat.le_refl _, by unfold maxLen; omega⟩, fun _ => ⟨_, 0, rfl, by omega, fun i hi j v hv => ?_⟩⟩
    obtain rfl : i = 0 := by omega
    rw [(blk (heap_alloc_new w3 _)).1]
    cases j with
    | zero => simpa [intR] using hv
    | succ j => simp [intR] at hv
  clear k2 H2 hb3
  go_wp2_with fail
  refine (implReceiverValid_any nx rm hR1 (by simp)).mono ?_
  rintro e w4 ⟨rfl, hb4⟩
  have hB4 : Below w1.heap.size w1 w4 := Below.tr hB3 ((below_new w3 _).trans (hb4.mono (by simp)))
  have k4 : ∀ i, w4.cell? ⟨w1.heap.size, i, none⟩ = #[Value.int .i64 nx, .int .i64 rm, .slice A1 n1 c1][i]? := fun i => (keepc hb4 w1.heap.size (by simp; omega) i).trans ((keepc (below_new w3 _) w1.heap.size z3 i).trans (k3 i))
  have z4 : w1.heap.size < w4.heap.size := by have := hb4.size; simp at this; omega
  rw [rcvB_self]
  clear k3 hR1 hb4
  cases hv : rcvB nx rm n1 hh with
  | false =>
    go_wp2_with (go_at_call 8; refine (alive_any _).mono ?_; rintro e wa ⟨rfl, hba⟩)
    go_ret
    exact ⟨rfl, Below.tr (Below.tr hb1 hB4) (by (repeat (first | exact Below.refl _ _ | assumption | refine Below.al ?_ _ | refine Below.dr ?_ | (refine Below.st ?_ (by simp <;> omega) _) | (refine Below.tr ?_ (by assumption)))))⟩
  | true =>
    have hv2 := Lib.hid (rcvB_bare hv)
    clear hv
    go_wp2_with fail
    refine (implReceiverValid_any (B := 0) (h := hh) nx rm (Rws.nil _ _ _ _) (Nat.zero_le _)).mono ?_
    rintro e w5 ⟨rfl, hb5⟩
    rw [hv2.out]
    have hB5 := Below.tr hB4 hb5
    go_wp2_with (go_at_call 8; refine (alive_any _).mono ?_; rintro e wa ⟨rfl, hba⟩)
    go_ret
    exact ⟨rfl, Below.tr (Below.tr hb1 hB5) (by (repeat (first | exact Below.refl _ _ | assumption | refine Below.al ?_ _ | refine Below.dr ?_ | (refine Below.st ?_ (by simp <;> omega) _) | (refine Below.tr ?_ (by assumption)))))⟩
end Go.Proofs.Ytangpebnjodpnaa
