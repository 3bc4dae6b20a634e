/-
  OutletValid, in the program and in the reference.
-/
import Derived.Test.YtahniedcflfdmaaSet
import Derived.Test.YtahniedcflfdmaaFlowS
import Derived.Test.YtahniedcflfdmaaSloT
import Derived.Test.YtahniedcflfdmaaEq5
namespace Go.Proofs.Ytahniedcflfdmaa
open Go.RowKit

/-- Is flow k the one that stands for none? -/
def noB (a b c d e : Nat → Int) (k : Nat) : Bool := decide (a k = 0) && decide (b k = 0) && decide (c k = 0) && decide (d k = 0) && decide (e k = 0)
/-- Are the flows j and k the same? -/
def sfB (a b c d e : Nat → Int) (j k : Nat) : Bool := decide (a j = a k) && decide (b j = b k) && decide (c j = c k) && decide (d j = d k) && decide (e j = e k)
theorem eql_no {a b c d e : Nat → Int} {k : Nat} {v : Bool} (h : noB a b c d e k = v) (w : World) : (binOp .eql 39 (.agg #[.int .i64 (a k), .int .i64 (b k), .int .i64 (c k), .int .i64 (d k), .int .i64 (e k)]) (.agg #[.int .i64 0, .int .i64 0, .int .i64 0, .int .i64 0, .int .i64 0])).run Try.prog w = .ok (.bool v) w := by
  rw [← h]; exact eql_flow _ _ _ _ _ _ _ _ _ _ w
theorem neq_no {a b c d e : Nat → Int} {k : Nat} {v : Bool} (h : noB a b c d e k = !v) (w : World) : (binOp .neq 39 (.agg #[.int .i64 (a k), .int .i64 (b k), .int .i64 (c k), .int .i64 (d k), .int .i64 (e k)]) (.agg #[.int .i64 0, .int .i64 0, .int .i64 0, .int .i64 0, .int .i64 0])).run Try.prog w = .ok (.bool v) w := by
  have := binOp_neq (eql_no h w); rwa [Bool.not_not] at this
theorem eql_same {a b c d e : Nat → Int} {j k : Nat} {v : Bool} (h : sfB a b c d e j k = v) (w : World) : (binOp .eql 39 (.agg #[.int .i64 (a j), .int .i64 (b j), .int .i64 (c j), .int .i64 (d j), .int .i64 (e j)]) (.agg #[.int .i64 (a k), .int .i64 (b k), .int .i64 (c k), .int .i64 (d k), .int .i64 (e k)])).run Try.prog w = .ok (.bool v) w := by
  rw [← h]; exact eql_flow _ _ _ _ _ _ _ _ _ _ w
/-- Is slot k in order beside those before it? -/
def sloB (a b c d e : Nat → Int) (k : Nat) : Bool := noB a b c d e k || (flowB (a k) (b k) (c k) (d k) (e k) && (List.range k).all fun j => !sfB a b c d e j k)
def outB (x0 x1 : Int) (n : Nat) (a b c d e : Nat → Int) : Bool := (List.range n).all (sloB a b c d e) && (inB x0 0 255 && inB n 1 8 && inB x1 0 (999 - n + 1))
theorem outB_no {x0 x1 : Int} {n k : Nat} {a b c d e : Nat → Int} (hk : k < n) (h : sloB a b c d e k = false) : outB x0 x1 n a b c d e = false := by simp only [outB, all_no hk h, Bool.false_and]
theorem outB_end {x0 x1 : Int} {n : Nat} {a b c d e : Nat → Int} (h : ∀ k, k < n → sloB a b c d e k = true) : outB x0 x1 n a b c d e = (inB x0 0 255 && inB n 1 8 && inB x1 0 (999 - n + 1)) := by simp only [outB, all_yes h, Bool.true_and]
/-- The flows that stand in the first k slots. -/
def inS (a b c d e : Nat → Int) (k : Nat) (y0 y1 y2 y3 y4 : Int) : Bool := (List.range k).any fun j => !noB a b c d e j && (decide (a j = y0) && decide (b j = y1) && decide (c j = y2) && decide (d j = y3) && decide (e j = y4))
theorem inS_zero (a b c d e : Nat → Int) : inS a b c d e 0 = fun _ _ _ _ _ => false := rfl
theorem inS_skip {a b c d e : Nat → Int} {k : Nat} (h : noB a b c d e k = true) : inS a b c d e (k + 1) = inS a b c d e k := by
  funext y0 y1 y2 y3 y4
  simp [inS, List.range_succ, h]
theorem inS_put {a b c d e : Nat → Int} {k : Nat} (h : noB a b c d e k = false) : put5 (inS a b c d e k) (a k) (b k) (c k) (d k) (e k) = inS a b c d e (k + 1) := by
  funext y0 y1 y2 y3 y4
  simp only [inS, put5, List.range_succ, List.any_append, List.any_cons, List.any_nil, Bool.or_false, h, Bool.not_false, Bool.true_and]
  split
  · rename_i hh
    obtain ⟨rfl, rfl, rfl, rfl, rfl⟩ := hh
    simp
  · rename_i hh
    have : (decide (a k = y0) && decide (b k = y1) && decide (c k = y2) && decide (d k = y3) && decide (e k = y4)) = false := by
      cases hx : (decide (a k = y0) && decide (b k = y1) && decide (c k = y2) && decide (d k = y3) && decide (e k = y4))
      · rfl
      · simp only [Bool.and_eq_true, decide_eq_true_eq] at hx
        exact absurd ⟨hx.1.1.1.1.symm, hx.1.1.1.2.symm, hx.1.1.2.symm, hx.1.2.symm, hx.2.symm⟩ hh
    rw [this, Bool.or_false]
theorem noB_same {a b c d e : Nat → Int} {j k : Nat} (h : sfB a b c d e j k = true) : noB a b c d e j = noB a b c d e k := by
  simp only [sfB, Bool.and_eq_true, decide_eq_true_eq] at h
  simp only [noB, h.1.1.1.1, h.1.1.1.2, h.1.1.2, h.1.2, h.2]
theorem inS_at {a b c d e : Nat → Int} {k : Nat} (h : noB a b c d e k = false) : inS a b c d e k (a k) (b k) (c k) (d k) (e k) = !(List.range k).all fun j => !sfB a b c d e j k := by
  rw [List.not_all_eq_any_not]
  unfold inS
  congr 1
  funext j
  rw [Bool.not_not]
  cases hs : sfB a b c d e j k
  · have : (decide (a j = a k) && decide (b j = b k) && decide (c j = c k) && decide (d j = d k) && decide (e j = e k)) = false := hs
    rw [this, Bool.and_false]
  · have : (decide (a j = a k) && decide (b j = b k) && decide (c j = c k) && decide (d j = d k) && decide (e j = e k)) = true := hs
    rw [this, noB_same hs, h]
    rfl
theorem FSet.mono {w : World} {b n m : Nat} {S : Int → Int → Int → Int → Int → Bool} (h : FSet w b n S) (hm : n ≤ m) : FSet w b m S := by
  obtain ⟨D, h1, h2⟩ := h
  exact ⟨D, h1.mono hm, h2⟩
theorem flow_wf {a b c d e : Int} (h : flowB a b c d e = true) : wf5 a b c d e := by
  simp only [flowB, Bool.and_eq_true] at h
  exact ⟨wf_int h.1.1.1.1 (by omega) (by omega), wf_int h.1.1.2 (by omega) (by omega), wf_int h.1.1.1.2 (by omega) (by omega), wf_int h.1.2 (by omega) (by omega), wf_int h.2 (by omega) (by omega)⟩

set_option maxHeartbeats 8000000 in
theorem implOutletValid_any (x0 x1 : Int) {w : World} {B : Nat} {A : Option Addr} {n c : Nat} {f0 f1 f2 f3 f4 : Nat → Int} (H : Rws w B 5 A n c (flowR f0 f1 f2 f3 f4)) (hB : B ≤ w.heap.size) :
    Calls Try.prog 11 #[.agg #[.int .i64 x0, .int .i64 x1, .slice A n c]] w fun e w' => e = .returned (.bool (outB x0 x1 n f0 f1 f2 f3 f4)) ∧ Below w.heap.size w w' := by
  obtain ⟨⟨hnc, hcm⟩, hrow⟩ := H
  unfold maxLen at hcm
  have e0 : IntKind.i64.wrap (n : Int) = n := IntWalk.i64_in _ (by omega)
  have e1 : IntKind.i64.wrap (999 - (n : Int)) = 999 - n := IntWalk.i64_in _ (by omega)
  have e2 : IntKind.i64.wrap (999 - (n : Int) + 1) = 999 - n + 1 := IntWalk.i64_in _ (by omega)
  cases g0 : inB x0 0 255 with
  | false =>
    have hE := Lib.hid (show outB x0 x1 n f0 f1 f2 f3 f4 = false by simp [outB, g0])
    go_enter Try.func11, Try.ntmps11
    go_wp2_with (go_at_call 29; refine (in_any _ _ _ _).mono ?_; rintro e w' ⟨rfl, rfl⟩)
    go_ret
    exact ⟨by rw [hE.out] <;> rfl, by (repeat (first | exact Below.refl _ _ | assumption | refine Below.al ?_ _ | refine Below.dr ?_ | (refine Below.st ?_ (by simp <;> omega) _) | (refine Below.tr ?_ (by assumption))))⟩
  | true =>
  cases g1 : inB n 1 8 with
  | false =>
    have hE := Lib.hid (show outB x0 x1 n f0 f1 f2 f3 f4 = false by simp [outB, g1])
    go_enter Try.func11, Try.ntmps11
    go_wp2_with (go_at_call 29; refine (in_any _ _ _ _).mono ?_; rintro e w' ⟨rfl, rfl⟩)
    go_ret
    exact ⟨by rw [hE.out] <;> rfl, by (repeat (first | exact Below.refl _ _ | assumption | refine Below.al ?_ _ | refine Below.dr ?_ | (refine Below.st ?_ (by simp <;> omega) _) | (refine Below.tr ?_ (by assumption))))⟩
  | true =>
  cases g2 : inB x1 0 (999 - n + 1) with
  | false =>
    have hE := Lib.hid (show outB x0 x1 n f0 f1 f2 f3 f4 = false by simp [outB, g2])
    go_enter Try.func11, Try.ntmps11
    go_wp2_with (go_at_call 29; refine (in_any _ _ _ _).mono ?_; rintro e w' ⟨rfl, rfl⟩)
    go_ret
    exact ⟨by rw [hE.out] <;> rfl, by (repeat (first | exact Below.refl _ _ | assumption | refine Below.al ?_ _ | refine Below.dr ?_ | (refine Below.st ?_ (by simp <;> omega) _) | (refine Below.tr ?_ (by assumption))))⟩
  | true =>
  have hn8 : n ≤ 8 := by simp only [inB, Bool.and_eq_true, decide_eq_true_eq] at g1; omega
  have hG := Lib.hid (show (inB x0 0 255 && inB n 1 8 && inB x1 0 (999 - n + 1)) = true by rw [g0, g1, g2]; rfl)
  have hmm := @run_makeMap Try.prog
  go_enter Try.func11, Try.ntmps11
  go_wp2_with (go_at_call 29; refine (in_any _ _ _ _).mono ?_; rintro e w' ⟨rfl, rfl⟩)
  clear hmm e0 e1 e2
  go_loopw [32] (fun i wr => ∃ k : Nat, k ≤ n ∧ i = .int .i64 k ∧ (∀ j, j < k → sloB f0 f1 f2 f3 f4 j = true) ∧ FSet wr (w.heap.size + 1) k (inS f0 f1 f2 f3 f4 k) ∧ Below w.heap.size w wr) (fun i _ => n - (intOf i).toNat)
  case atStart =>
    refine ⟨0, by omega, rfl, fun j hj => absurd hj (by omega), ?_, by (repeat (first | exact Below.refl _ _ | assumption | refine Below.al ?_ _ | refine Below.dr ?_ | (refine Below.st ?_ (by simp <;> omega) _) | (refine Below.tr ?_ (by assumption))))⟩
    have := FSet.made (w.alloc (.cells #[.int .i64 x0, .int .i64 x1, .slice A n c] 29))
    simpa [inS_zero] using this
  case round =>
    obtain ⟨k, hk, rfl, hok, hS, hBw⟩ := hrel
    by_cases hlt : k < n
    · obtain ⟨bl, off, rfl, hbB, hc⟩ := hrow (by omega)
      have hr := hc k hlt
      have hbs : bl < wr.heap.size := by have := hBw.size; omega
      have q0 : wr.cell? ⟨bl, off + k * 5, none⟩ = some (.int .i64 (f0 k)) := (keepc hBw bl (by omega) _).trans (hr 0 _ rfl)
      have q1 : wr.cell? ⟨bl, off + k * 5 + 1, none⟩ = some (.int .i64 (f1 k)) := (keepc hBw bl (by omega) _).trans (hr 1 _ rfl)
      have q2 : wr.cell? ⟨bl, off + k * 5 + 2, none⟩ = some (.int .i64 (f2 k)) := (keepc hBw bl (by omega) _).trans (hr 2 _ rfl)
      have q3 : wr.cell? ⟨bl, off + k * 5 + 3, none⟩ = some (.int .i64 (f3 k)) := (keepc hBw bl (by omega) _).trans (hr 3 _ rfl)
      have q4 : wr.cell? ⟨bl, off + k * 5 + 4, none⟩ = some (.int .i64 (f4 k)) := (keepc hBw bl (by omega) _).trans (hr 4 _ rfl)
      have HO := Lib.hid hok
      have hbm := hS.lt
      clear hok hr hrow hc
      cases hz : noB f0 f1 f2 f3 f4 k with
      | true =>
        have hno := Lib.hid (show sloB f0 f1 f2 f3 f4 k = true by simp [sloB, hz])
        rw [← inS_skip hz] at hS
        have hq := eql_no hz
        go_wp2
        go_roundw
        case rel => exact ⟨k + 1, by omega, by go_num, upto HO.out hno.out, (hS.below (by (repeat (first | exact Below.refl _ _ | assumption | refine Below.al ?_ _ | refine Below.dr ?_ | (refine Below.st ?_ (by simp <;> omega) _) | (refine Below.tr ?_ (by assumption)))))).mono (by omega), by (repeat (first | exact Below.refl _ _ | assumption | refine Below.al ?_ _ | refine Below.dr ?_ | (refine Below.st ?_ (by simp <;> omega) _) | (refine Below.tr ?_ (by assumption))))⟩
        case measure => simp [intOf]; omega
      | false =>
        have hq := eql_no hz
        cases hv : flowB (f0 k) (f1 k) (f2 k) (f3 k) (f4 k) with
        | false =>
          have hno := Lib.hid (outB_no (x0 := x0) (x1 := x1) (show k < n from hlt) (show sloB f0 f1 f2 f3 f4 k = false by simp [sloB, hz, hv]))
          go_wp2_with (go_at_call 30; refine (implFlowValid_any _ _ _ _ _ _).mono ?_; rintro e w3 ⟨rfl, rfl⟩)
          go_ret
          exact ⟨by rw [hno.out] <;> rfl, by (repeat (first | exact Below.refl _ _ | assumption | refine Below.al ?_ _ | refine Below.dr ?_ | (refine Below.st ?_ (by simp <;> omega) _) | (refine Below.tr ?_ (by assumption))))⟩
        | true =>
          have hw5 := flow_wf hv
          have hk1 := (hS.below (show Below wr.heap.size wr ((wr.alloc (.cells #[.int .i64 (f0 k), .int .i64 (f1 k), .int .i64 (f2 k), .int .i64 (f3 k), .int .i64 (f4 k)] 39)).alloc (.cells #[.int .i64 (f0 k), .int .i64 (f1 k), .int .i64 (f2 k), .int .i64 (f3 k), .int .i64 (f4 k)] 39)) by (repeat (first | exact Below.refl _ _ | assumption | refine Below.al ?_ _ | refine Below.dr ?_ | (refine Below.st ?_ (by simp <;> omega) _) | (refine Below.tr ?_ (by assumption)))))).ask hw5
          cases hs : inS f0 f1 f2 f3 f4 k (f0 k) (f1 k) (f2 k) (f3 k) (f4 k) with
          | true =>
            have hno := Lib.hid (outB_no (x0 := x0) (x1 := x1) (show k < n from hlt) (show sloB f0 f1 f2 f3 f4 k = false by
              rw [inS_at hz] at hs
              simp only [sloB, hz, hv, Bool.false_or, Bool.true_and]
              simpa using hs))
            rw [hs] at hk1
            go_wp2_with (go_at_call 30; refine (implFlowValid_any _ _ _ _ _ _).mono ?_; rintro e w3 ⟨rfl, rfl⟩)
            go_ret
            exact ⟨by rw [hno.out] <;> rfl, by (repeat (first | exact Below.refl _ _ | assumption | refine Below.al ?_ _ | refine Below.dr ?_ | (refine Below.st ?_ (by simp <;> omega) _) | (refine Below.tr ?_ (by assumption))))⟩
          | false =>
            have hno := Lib.hid (show sloB f0 f1 f2 f3 f4 k = true by
              rw [inS_at hz] at hs
              simp only [sloB, hz, hv, Bool.false_or, Bool.true_and]
              simpa using hs)
            rw [hs] at hk1
            go_wp2_with (first | (go_at_call 30; refine (implFlowValid_any _ _ _ _ _ _).mono ?_; rintro e w3 ⟨rfl, rfl⟩) | (at_mapUpdate; refine wpList_tell rfl (.tmp 47) (.tmp 48) (.const (.bool true)) rfl rfl (hS.below (by (repeat (first | exact Below.refl _ _ | assumption | refine Below.al ?_ _ | refine Below.dr ?_ | (refine Below.st ?_ (by simp <;> omega) _) | (refine Below.tr ?_ (by assumption)))))) (by unfold maxLen; omega) rfl rfl hw5 ?_; intro w4 hS4 hg4))
            rw [inS_put hz] at hS4
            go_roundw
            case rel => exact ⟨k + 1, by omega, by go_num, upto HO.out hno.out, hS4, Below.of_grown (by (repeat (first | exact Below.refl _ _ | assumption | refine Below.al ?_ _ | refine Below.dr ?_ | (refine Below.st ?_ (by simp <;> omega) _) | (refine Below.tr ?_ (by assumption))))) hg4 (by omega)⟩
            case measure => simp [intOf]; omega
    · obtain rfl : k = n := by omega
      have he := Lib.hid (outB_end (x0 := x0) (x1 := x1) hok)
      clear hok hrow
      go_wp2
      go_ret
      exact ⟨by rw [he.out, hG.out] <;> rfl, hBw⟩

theorem sloB_yes {a b c d e : Nat → Int} {k : Nat} (h : noB a b c d e k = false → flowB (a k) (b k) (c k) (d k) (e k) = true) (hj : ∀ j, j < k → (sfB a b c d e j k && !noB a b c d e k) = false) : sloB a b c d e k = true := by
  cases hz : noB a b c d e k
  · have ha : ((List.range k).all fun j => !sfB a b c d e j k) = true := List.all_eq_true.2 fun j hjm => by
      have := hj j (List.mem_range.1 hjm)
      rw [hz] at this
      simpa using this
    simp only [sloB, hz, h hz, ha]
    rfl
  · simp [sloB, hz]
theorem sloB_two {a b c d e : Nat → Int} {j k : Nat} (hj : j < k) (h : sfB a b c d e j k = true) (hz : noB a b c d e k = false) : sloB a b c d e k = false := by
  have ha : ((List.range k).all fun j => !sfB a b c d e j k) = false := by
    cases hh : (List.range k).all fun j => !sfB a b c d e j k
    · rfl
    · have := List.all_eq_true.1 hh j (List.mem_range.2 hj)
      simp [h] at this
  simp only [sloB, hz, ha, Bool.and_false, Bool.or_false]
set_option maxHeartbeats 16000000 in
theorem specOutletValid_any (x0 x1 : Int) {w : World} {B : Nat} {A : Option Addr} {n c : Nat} {f0 f1 f2 f3 f4 : Nat → Int} (H : Rws w B 5 A n c (flowR f0 f1 f2 f3 f4)) (hB : B ≤ w.heap.size) :
    Calls Try.prog 9 #[.agg #[.int .i64 x0, .int .i64 x1, .slice A n c]] w fun e w' => e = .returned (.bool (outB x0 x1 n f0 f1 f2 f3 f4)) ∧ Below w.heap.size w w' := by
  obtain ⟨⟨hnc, hcm⟩, hrow⟩ := H
  unfold maxLen at hcm
  go_enter Try.func9, Try.ntmps9
  go_wp2
  go_loopw [3, 4] (fun i _ wr => ∃ k : Nat, k ≤ n ∧ i = .int .i64 k ∧ (∀ j, j < k → sloB f0 f1 f2 f3 f4 j = true) ∧ Below (w.alloc (.cells #[.int .i64 x0, .int .i64 x1, .slice A n c] 29)).heap.size (w.alloc (.cells #[.int .i64 x0, .int .i64 x1, .slice A n c] 29)) wr) (fun i _ _ => n - (intOf i).toNat)
  case atStart => exact ⟨0, by omega, rfl, fun j hj => absurd hj (by omega), Below.refl _ _⟩
  case round =>
    obtain ⟨k, hk, rfl, hok, hBw⟩ := hrel
    have hB0 : Below w.heap.size w wr := Below.tr (by (repeat (first | exact Below.refl _ _ | assumption | refine Below.al ?_ _ | refine Below.dr ?_ | (refine Below.st ?_ (by simp <;> omega) _) | (refine Below.tr ?_ (by assumption))))) hBw
    have hfs : w.heap.size < wr.heap.size := by have := hBw.size; simp at this; omega
    have kf : ∀ i, wr.cell? ⟨w.heap.size, i, none⟩ = #[Value.int .i64 x0, .int .i64 x1, .slice A n c][i]? := fun i => (keepc hBw w.heap.size (by simp) i).trans ((blk (heap_alloc_new w _)).1 i)
    by_cases hlt : k < n
    · obtain ⟨bl, off, rfl, hbB, hc⟩ := hrow (by omega)
      have hr := hc k hlt
      have HO := Lib.hid hok
      clear hok
      obtain ⟨wo, rfl⟩ : ∃ wo : World, wo = wr := ⟨_, rfl⟩
      go_wp2
      go_loopw [4] (fun i wr => ∃ j : Nat, j ≤ k ∧ i = .int .i64 j ∧ (∀ i, i < j → (sfB f0 f1 f2 f3 f4 i k && !noB f0 f1 f2 f3 f4 k) = false) ∧ Below (w.alloc (.cells #[.int .i64 x0, .int .i64 x1, .slice (some ⟨bl, off, none⟩) n c] 29)).heap.size (w.alloc (.cells #[.int .i64 x0, .int .i64 x1, .slice (some ⟨bl, off, none⟩) n c] 29)) wr) (fun i _ => k - (intOf i).toNat)
      case atStart => exact ⟨0, by omega, rfl, fun j hj => absurd hj (by omega), hBw⟩
      case round =>
        obtain ⟨j, hj, rfl, hok, hBr⟩ := hrel
        have hB1 : Below w.heap.size w wr := Below.tr (by (repeat (first | exact Below.refl _ _ | assumption | refine Below.al ?_ _ | refine Below.dr ?_ | (refine Below.st ?_ (by simp <;> omega) _) | (refine Below.tr ?_ (by assumption))))) hBr
        have hfr : w.heap.size < wr.heap.size := by have := hBr.size; simp at this; omega
        have kr : ∀ i, wr.cell? ⟨w.heap.size, i, none⟩ = #[Value.int .i64 x0, .int .i64 x1, .slice (some ⟨bl, off, none⟩) n c][i]? := fun i => (keepc hBr w.heap.size (by simp) i).trans ((blk (heap_alloc_new w _)).1 i)
        have hbs : bl < wr.heap.size := by have := hB1.size; omega
        have q0 : wr.cell? ⟨bl, off + k * 5, none⟩ = some (.int .i64 (f0 k)) := (keepc hB1 bl (by omega) _).trans (hr 0 _ rfl)
        have q1 : wr.cell? ⟨bl, off + k * 5 + 1, none⟩ = some (.int .i64 (f1 k)) := (keepc hB1 bl (by omega) _).trans (hr 1 _ rfl)
        have q2 : wr.cell? ⟨bl, off + k * 5 + 2, none⟩ = some (.int .i64 (f2 k)) := (keepc hB1 bl (by omega) _).trans (hr 2 _ rfl)
        have q3 : wr.cell? ⟨bl, off + k * 5 + 3, none⟩ = some (.int .i64 (f3 k)) := (keepc hB1 bl (by omega) _).trans (hr 3 _ rfl)
        have q4 : wr.cell? ⟨bl, off + k * 5 + 4, none⟩ = some (.int .i64 (f4 k)) := (keepc hB1 bl (by omega) _).trans (hr 4 _ rfl)
        by_cases hlj : j < k
        · have hs := hc j (by omega)
          have p0 : wr.cell? ⟨bl, off + j * 5, none⟩ = some (.int .i64 (f0 j)) := (keepc hB1 bl (by omega) _).trans (hs 0 _ rfl)
          have p1 : wr.cell? ⟨bl, off + j * 5 + 1, none⟩ = some (.int .i64 (f1 j)) := (keepc hB1 bl (by omega) _).trans (hs 1 _ rfl)
          have p2 : wr.cell? ⟨bl, off + j * 5 + 2, none⟩ = some (.int .i64 (f2 j)) := (keepc hB1 bl (by omega) _).trans (hs 2 _ rfl)
          have p3 : wr.cell? ⟨bl, off + j * 5 + 3, none⟩ = some (.int .i64 (f3 j)) := (keepc hB1 bl (by omega) _).trans (hs 3 _ rfl)
          have p4 : wr.cell? ⟨bl, off + j * 5 + 4, none⟩ = some (.int .i64 (f4 j)) := (keepc hB1 bl (by omega) _).trans (hs 4 _ rfl)
          have e1 : (j : Int) < (n : Int) := by omega
          have e2 : (k : Int) < (n : Int) := by omega
          have HJ := Lib.hid hok
          clear hok hs
          cases hsf : sfB f0 f1 f2 f3 f4 j k with
          | false =>
            have hq := eql_same hsf
            have hno := Lib.hid (show (sfB f0 f1 f2 f3 f4 j k && !noB f0 f1 f2 f3 f4 k) = false by rw [hsf]; rfl)
            clear hsf hr hc hrow
            go_wp2
            refine wp_region_free (ds := [(0, 17), (1, 18), (2, 19), (3, 20), (4, 21), (5, 22), (6, 23), (7, 24), (8, 25), (9, 26), (10, 27), (11, 28), (12, 29), (13, 30), (14, 31), (15, 32), (16, 33), (17, 34), (18, 35), (19, 36)]) 20 (by kernel_rfl) (by kernel_rfl) (by first | exact .inl rfl | exact .inr (by kernel_rfl)) (by rfl) rfl rfl ?_
            apply free_is
            · intro a' w' hLe hfr hdep
              have e1 := hfr 1 rfl
              conv at e1 => rhs; whnf
              have f1 := e1; simp only [Array.getD_eq_getD_getElem?] at f1
              refine wpOp_plain rfl rfl (fun K hK => ?_)
              go_simp
              exact hK _ _ ⟨_, rfl, Below.refl _ _, rfl⟩
            apply free_is
            · intro a' w' hLe hfr hdep
              have e17 : a'.tmps.getD 17 undef = _ := hdep 0 17 (Nat.le_of_ble_eq_true rfl) rfl rfl
              conv at e17 => rhs; whnf
              have f17 := e17; simp only [Array.getD_eq_getD_getElem?] at f17
              have kc := fun i => keepc hLe (bl) (by (try simp) <;> omega) i
              have kf := fun i => keepf hLe (bl) (by (try simp) <;> omega) i
              have kz : bl < w'.heap.size := (by have := hLe.size; (try simp at this); omega)
              have kc := fun i => keepc hLe (w.heap.size) (by (try simp) <;> omega) i
              have kf := fun i => keepf hLe (w.heap.size) (by (try simp) <;> omega) i
              have kz : w.heap.size < w'.heap.size := (by have := hLe.size; (try simp at this); omega)
              refine wpOp_plain rfl rfl (fun K hK => ?_)
              go_simp
              exact hK _ _ ⟨_, rfl, Below.refl _ _, rfl⟩
            apply free_is
            · intro a' w' hLe hfr hdep
              have e4 := hfr 4 rfl
              conv at e4 => rhs; whnf
              have f4 := e4; simp only [Array.getD_eq_getD_getElem?] at f4
              refine wpOp_plain rfl rfl (fun K hK => ?_)
              go_simp
              exact hK _ _ ⟨_, rfl, Below.refl _ _, rfl⟩
            apply free_is
            · intro a' w' hLe hfr hdep
              have e18 : a'.tmps.getD 18 undef = _ := hdep 1 18 (Nat.le_of_ble_eq_true rfl) rfl rfl
              conv at e18 => rhs; whnf
              have f18 := e18; simp only [Array.getD_eq_getD_getElem?] at f18
              have e19 : a'.tmps.getD 19 undef = _ := hdep 2 19 (Nat.le_of_ble_eq_true rfl) rfl rfl
              conv at e19 => rhs; whnf
              have f19 := e19; simp only [Array.getD_eq_getD_getElem?] at f19
              refine wpOp_plain rfl rfl (fun K hK => ?_)
              go_simp
              exact hK _ _ ⟨_, rfl, Below.refl _ _, rfl⟩
            apply free_is
            · intro a' w' hLe hfr hdep
              have e20 : a'.tmps.getD 20 undef = _ := hdep 3 20 (Nat.le_of_ble_eq_true rfl) rfl rfl
              conv at e20 => rhs; whnf
              have f20 := e20; simp only [Array.getD_eq_getD_getElem?] at f20
              have kc := fun i => keepc hLe (bl) (by (try simp) <;> omega) i
              have kf := fun i => keepf hLe (bl) (by (try simp) <;> omega) i
              have kz : bl < w'.heap.size := (by have := hLe.size; (try simp at this); omega)
              have kc := fun i => keepc hLe (w.heap.size) (by (try simp) <;> omega) i
              have kf := fun i => keepf hLe (w.heap.size) (by (try simp) <;> omega) i
              have kz : w.heap.size < w'.heap.size := (by have := hLe.size; (try simp at this); omega)
              refine wpOp_plain rfl rfl (fun K hK => ?_)
              go_simp
              exact hK _ _ ⟨_, rfl, Below.refl _ _, rfl⟩
            apply free_is
            · intro a' w' hLe hfr hdep
              have e1 := hfr 1 rfl
              conv at e1 => rhs; whnf
              have f1 := e1; simp only [Array.getD_eq_getD_getElem?] at f1
              refine wpOp_plain rfl rfl (fun K hK => ?_)
              go_simp
              exact hK _ _ ⟨_, rfl, Below.refl _ _, rfl⟩
            apply free_is
            · intro a' w' hLe hfr hdep
              have e22 : a'.tmps.getD 22 undef = _ := hdep 5 22 (Nat.le_of_ble_eq_true rfl) rfl rfl
              conv at e22 => rhs; whnf
              have f22 := e22; simp only [Array.getD_eq_getD_getElem?] at f22
              have kc := fun i => keepc hLe (bl) (by (try simp) <;> omega) i
              have kf := fun i => keepf hLe (bl) (by (try simp) <;> omega) i
              have kz : bl < w'.heap.size := (by have := hLe.size; (try simp at this); omega)
              have kc := fun i => keepc hLe (w.heap.size) (by (try simp) <;> omega) i
              have kf := fun i => keepf hLe (w.heap.size) (by (try simp) <;> omega) i
              have kz : w.heap.size < w'.heap.size := (by have := hLe.size; (try simp at this); omega)
              refine wpOp_plain rfl rfl (fun K hK => ?_)
              go_simp
              exact hK _ _ ⟨_, rfl, Below.refl _ _, rfl⟩
            apply free_is
            · intro a' w' hLe hfr hdep
              have e3 := hfr 3 rfl
              conv at e3 => rhs; whnf
              have f3 := e3; simp only [Array.getD_eq_getD_getElem?] at f3
              refine wpOp_plain rfl rfl (fun K hK => ?_)
              go_simp
              exact hK _ _ ⟨_, rfl, Below.refl _ _, rfl⟩
            apply free_is
            · intro a' w' hLe hfr hdep
              have e23 : a'.tmps.getD 23 undef = _ := hdep 6 23 (Nat.le_of_ble_eq_true rfl) rfl rfl
              conv at e23 => rhs; whnf
              have f23 := e23; simp only [Array.getD_eq_getD_getElem?] at f23
              have e24 : a'.tmps.getD 24 undef = _ := hdep 7 24 (Nat.le_of_ble_eq_true rfl) rfl rfl
              conv at e24 => rhs; whnf
              have f24 := e24; simp only [Array.getD_eq_getD_getElem?] at f24
              refine wpOp_plain rfl rfl (fun K hK => ?_)
              go_simp
              exact hK _ _ ⟨_, rfl, Below.refl _ _, rfl⟩
            apply free_is
            · intro a' w' hLe hfr hdep
              have e25 : a'.tmps.getD 25 undef = _ := hdep 8 25 (Nat.le_of_ble_eq_true rfl) rfl rfl
              conv at e25 => rhs; whnf
              have f25 := e25; simp only [Array.getD_eq_getD_getElem?] at f25
              have kc := fun i => keepc hLe (bl) (by (try simp) <;> omega) i
              have kf := fun i => keepf hLe (bl) (by (try simp) <;> omega) i
              have kz : bl < w'.heap.size := (by have := hLe.size; (try simp at this); omega)
              have kc := fun i => keepc hLe (w.heap.size) (by (try simp) <;> omega) i
              have kf := fun i => keepf hLe (w.heap.size) (by (try simp) <;> omega) i
              have kz : w.heap.size < w'.heap.size := (by have := hLe.size; (try simp at this); omega)
              refine wpOp_plain rfl rfl (fun K hK => ?_)
              go_simp
              exact hK _ _ ⟨_, rfl, Below.refl _ _, rfl⟩
            apply free_is
            · intro a' w' hLe hfr hdep
              have e21 : a'.tmps.getD 21 undef = _ := hdep 4 21 (Nat.le_of_ble_eq_true rfl) rfl rfl
              conv at e21 => rhs; whnf
              have f21 := e21; simp only [Array.getD_eq_getD_getElem?] at f21
              have e26 : a'.tmps.getD 26 undef = _ := hdep 9 26 (Nat.le_of_ble_eq_true rfl) rfl rfl
              conv at e26 => rhs; whnf
              have f26 := e26; simp only [Array.getD_eq_getD_getElem?] at f26
              refine wpOp_plain rfl rfl (fun K hK => ?_)
              go_simp
              exact hK _ _ ⟨_, rfl, Below.refl _ _, rfl⟩
            apply free_is
            · intro a' w' hLe hfr hdep
              have e27 : a'.tmps.getD 27 undef = _ := hdep 10 27 (Nat.le_of_ble_eq_true rfl) rfl rfl
              conv at e27 => rhs; whnf
              have f27 := e27; simp only [Array.getD_eq_getD_getElem?] at f27
              refine wpOp_plain rfl rfl (fun K hK => ?_)
              go_simp
              exact hK _ _ ⟨_, rfl, Below.refl _ _, rfl⟩
            apply free_is
            · intro a' w' hLe hfr hdep
              have e28 : a'.tmps.getD 28 undef = _ := hdep 11 28 (Nat.le_of_ble_eq_true rfl) rfl rfl
              conv at e28 => rhs; whnf
              have f28 := e28; simp only [Array.getD_eq_getD_getElem?] at f28
              exact wpOp_no rfl rfl rfl e28 ⟨_, rfl, Below.refl _ _, rfl⟩
            apply free_is
            · intro a' w' hLe hfr hdep
              have e28 : a'.tmps.getD 28 undef = _ := hdep 11 28 (Nat.le_of_ble_eq_true rfl) rfl rfl
              conv at e28 => rhs; whnf
              have f28 := e28; simp only [Array.getD_eq_getD_getElem?] at f28
              exact wpOp_no rfl rfl rfl e28 ⟨_, rfl, Below.refl _ _, rfl⟩
            apply free_is
            · intro a' w' hLe hfr hdep
              have e28 : a'.tmps.getD 28 undef = _ := hdep 11 28 (Nat.le_of_ble_eq_true rfl) rfl rfl
              conv at e28 => rhs; whnf
              have f28 := e28; simp only [Array.getD_eq_getD_getElem?] at f28
              exact wpOp_no rfl rfl rfl e28 ⟨_, rfl, Below.refl _ _, rfl⟩
            apply free_is
            · intro a' w' hLe hfr hdep
              have e28 : a'.tmps.getD 28 undef = _ := hdep 11 28 (Nat.le_of_ble_eq_true rfl) rfl rfl
              conv at e28 => rhs; whnf
              have f28 := e28; simp only [Array.getD_eq_getD_getElem?] at f28
              exact wpOp_no rfl rfl rfl e28 ⟨_, rfl, Below.refl _ _, rfl⟩
            apply free_is
            · intro a' w' hLe hfr hdep
              have e28 : a'.tmps.getD 28 undef = _ := hdep 11 28 (Nat.le_of_ble_eq_true rfl) rfl rfl
              conv at e28 => rhs; whnf
              have f28 := e28; simp only [Array.getD_eq_getD_getElem?] at f28
              exact wpOp_no rfl rfl rfl e28 ⟨_, rfl, Below.refl _ _, rfl⟩
            apply free_is
            · intro a' w' hLe hfr hdep
              have e28 : a'.tmps.getD 28 undef = _ := hdep 11 28 (Nat.le_of_ble_eq_true rfl) rfl rfl
              conv at e28 => rhs; whnf
              have f28 := e28; simp only [Array.getD_eq_getD_getElem?] at f28
              exact wpOp_no rfl rfl rfl e28 ⟨_, rfl, Below.refl _ _, rfl⟩
            apply free_is
            · intro a' w' hLe hfr hdep
              have e28 : a'.tmps.getD 28 undef = _ := hdep 11 28 (Nat.le_of_ble_eq_true rfl) rfl rfl
              conv at e28 => rhs; whnf
              have f28 := e28; simp only [Array.getD_eq_getD_getElem?] at f28
              exact wpOp_no rfl rfl rfl e28 ⟨_, rfl, Below.refl _ _, rfl⟩
            apply free_is
            · intro a' w' hLe hfr hdep
              have e28 : a'.tmps.getD 28 undef = _ := hdep 11 28 (Nat.le_of_ble_eq_true rfl) rfl rfl
              conv at e28 => rhs; whnf
              have f28 := e28; simp only [Array.getD_eq_getD_getElem?] at f28
              have e35 : a'.tmps.getD 35 undef = _ := hdep 18 35 (Nat.le_of_ble_eq_true rfl) rfl rfl
              conv at e35 => rhs; whnf
              have f35 := e35; simp only [Array.getD_eq_getD_getElem?] at f35
              refine wpOp_plain rfl rfl (fun K hK => ?_)
              go_simp
              exact hK _ _ ⟨_, rfl, Below.refl _ _, rfl⟩
            apply free_nil
            intro vs w7 hb7 hT7
            have e17 : vs 0 = _ := hT7 0 17 rfl
            conv at e17 => rhs; whnf
            have e18 : vs 1 = _ := hT7 1 18 rfl
            conv at e18 => rhs; whnf
            have e19 : vs 2 = _ := hT7 2 19 rfl
            conv at e19 => rhs; whnf
            have e20 : vs 3 = _ := hT7 3 20 rfl
            conv at e20 => rhs; whnf
            have e21 : vs 4 = _ := hT7 4 21 rfl
            conv at e21 => rhs; whnf
            have e22 : vs 5 = _ := hT7 5 22 rfl
            conv at e22 => rhs; whnf
            have e23 : vs 6 = _ := hT7 6 23 rfl
            conv at e23 => rhs; whnf
            have e24 : vs 7 = _ := hT7 7 24 rfl
            conv at e24 => rhs; whnf
            have e25 : vs 8 = _ := hT7 8 25 rfl
            conv at e25 => rhs; whnf
            have e26 : vs 9 = _ := hT7 9 26 rfl
            conv at e26 => rhs; whnf
            have e27 : vs 10 = _ := hT7 10 27 rfl
            conv at e27 => rhs; whnf
            have e28 : vs 11 = _ := hT7 11 28 rfl
            conv at e28 => rhs; whnf
            have e29 : vs 12 = _ := hT7 12 29 rfl
            conv at e29 => rhs; whnf
            have e30 : vs 13 = _ := hT7 13 30 rfl
            conv at e30 => rhs; whnf
            have e31 : vs 14 = _ := hT7 14 31 rfl
            conv at e31 => rhs; whnf
            have e32 : vs 15 = _ := hT7 15 32 rfl
            conv at e32 => rhs; whnf
            have e33 : vs 16 = _ := hT7 16 33 rfl
            conv at e33 => rhs; whnf
            have e34 : vs 17 = _ := hT7 17 34 rfl
            conv at e34 => rhs; whnf
            have e35 : vs 18 = _ := hT7 18 35 rfl
            conv at e35 => rhs; whnf
            have e36 : vs 19 = _ := hT7 19 36 rfl
            conv at e36 => rhs; whnf
            simp only [putAll, List.drop_succ_cons, List.drop_zero, e17, e18, e19, e20, e21, e22, e23, e24, e25, e26, e27, e28, e29, e30, e31, e32, e33, e34, e35, e36]
            clear hT7 e17 e18 e19 e20 e21 e22 e23 e24 e25 e26 e27 e28 e29 e30 e31 e32 e33 e34 e35 e36
            go_simp
            go_wp2
            go_roundw
            case rel => exact ⟨j + 1, by omega, by go_num, upto HJ.out hno.out, by (repeat (first | exact Below.refl _ _ | assumption | refine Below.al ?_ _ | refine Below.dr ?_ | (refine Below.st ?_ (by simp <;> omega) _) | (refine Below.tr ?_ (by assumption))))⟩
            case measure => simp [intOf]; omega
          | true =>
            have hq := eql_same hsf
            cases hz : noB f0 f1 f2 f3 f4 k with
            | true =>
              have hq2 := neq_no (v := false) hz
              have hno := Lib.hid (show (sfB f0 f1 f2 f3 f4 j k && !noB f0 f1 f2 f3 f4 k) = false by rw [hz]; simp)
              clear hsf hr hc hrow hz
              go_wp2
              refine wp_region_free (ds := [(0, 17), (1, 18), (2, 19), (3, 20), (4, 21), (5, 22), (6, 23), (7, 24), (8, 25), (9, 26), (10, 27), (11, 28), (12, 29), (13, 30), (14, 31), (15, 32), (16, 33), (17, 34), (18, 35), (19, 36)]) 20 (by kernel_rfl) (by kernel_rfl) (by first | exact .inl rfl | exact .inr (by kernel_rfl)) (by rfl) rfl rfl ?_
              apply free_is
              · intro a' w' hLe hfr hdep
                have e1 := hfr 1 rfl
                conv at e1 => rhs; whnf
                have f1 := e1; simp only [Array.getD_eq_getD_getElem?] at f1
                refine wpOp_plain rfl rfl (fun K hK => ?_)
                go_simp
                exact hK _ _ ⟨_, rfl, Below.refl _ _, rfl⟩
              apply free_is
              · intro a' w' hLe hfr hdep
                have e17 : a'.tmps.getD 17 undef = _ := hdep 0 17 (Nat.le_of_ble_eq_true rfl) rfl rfl
                conv at e17 => rhs; whnf
                have f17 := e17; simp only [Array.getD_eq_getD_getElem?] at f17
                have kc := fun i => keepc hLe (bl) (by (try simp) <;> omega) i
                have kf := fun i => keepf hLe (bl) (by (try simp) <;> omega) i
                have kz : bl < w'.heap.size := (by have := hLe.size; (try simp at this); omega)
                have kc := fun i => keepc hLe (w.heap.size) (by (try simp) <;> omega) i
                have kf := fun i => keepf hLe (w.heap.size) (by (try simp) <;> omega) i
                have kz : w.heap.size < w'.heap.size := (by have := hLe.size; (try simp at this); omega)
                refine wpOp_plain rfl rfl (fun K hK => ?_)
                go_simp
                exact hK _ _ ⟨_, rfl, Below.refl _ _, rfl⟩
              apply free_is
              · intro a' w' hLe hfr hdep
                have e4 := hfr 4 rfl
                conv at e4 => rhs; whnf
                have f4 := e4; simp only [Array.getD_eq_getD_getElem?] at f4
                refine wpOp_plain rfl rfl (fun K hK => ?_)
                go_simp
                exact hK _ _ ⟨_, rfl, Below.refl _ _, rfl⟩
              apply free_is
              · intro a' w' hLe hfr hdep
                have e18 : a'.tmps.getD 18 undef = _ := hdep 1 18 (Nat.le_of_ble_eq_true rfl) rfl rfl
                conv at e18 => rhs; whnf
                have f18 := e18; simp only [Array.getD_eq_getD_getElem?] at f18
                have e19 : a'.tmps.getD 19 undef = _ := hdep 2 19 (Nat.le_of_ble_eq_true rfl) rfl rfl
                conv at e19 => rhs; whnf
                have f19 := e19; simp only [Array.getD_eq_getD_getElem?] at f19
                refine wpOp_plain rfl rfl (fun K hK => ?_)
                go_simp
                exact hK _ _ ⟨_, rfl, Below.refl _ _, rfl⟩
              apply free_is
              · intro a' w' hLe hfr hdep
                have e20 : a'.tmps.getD 20 undef = _ := hdep 3 20 (Nat.le_of_ble_eq_true rfl) rfl rfl
                conv at e20 => rhs; whnf
                have f20 := e20; simp only [Array.getD_eq_getD_getElem?] at f20
                have kc := fun i => keepc hLe (bl) (by (try simp) <;> omega) i
                have kf := fun i => keepf hLe (bl) (by (try simp) <;> omega) i
                have kz : bl < w'.heap.size := (by have := hLe.size; (try simp at this); omega)
                have kc := fun i => keepc hLe (w.heap.size) (by (try simp) <;> omega) i
                have kf := fun i => keepf hLe (w.heap.size) (by (try simp) <;> omega) i
                have kz : w.heap.size < w'.heap.size := (by have := hLe.size; (try simp at this); omega)
                refine wpOp_plain rfl rfl (fun K hK => ?_)
                go_simp
                exact hK _ _ ⟨_, rfl, Below.refl _ _, rfl⟩
              apply free_is
              · intro a' w' hLe hfr hdep
                have e1 := hfr 1 rfl
                conv at e1 => rhs; whnf
                have f1 := e1; simp only [Array.getD_eq_getD_getElem?] at f1
                refine wpOp_plain rfl rfl (fun K hK => ?_)
                go_simp
                exact hK _ _ ⟨_, rfl, Below.refl _ _, rfl⟩
              apply free_is
              · intro a' w' hLe hfr hdep
                have e22 : a'.tmps.getD 22 undef = _ := hdep 5 22 (Nat.le_of_ble_eq_true rfl) rfl rfl
                conv at e22 => rhs; whnf
                have f22 := e22; simp only [Array.getD_eq_getD_getElem?] at f22
                have kc := fun i => keepc hLe (bl) (by (try simp) <;> omega) i
                have kf := fun i => keepf hLe (bl) (by (try simp) <;> omega) i
                have kz : bl < w'.heap.size := (by have := hLe.size; (try simp at this); omega)
                have kc := fun i => keepc hLe (w.heap.size) (by (try simp) <;> omega) i
                have kf := fun i => keepf hLe (w.heap.size) (by (try simp) <;> omega) i
                have kz : w.heap.size < w'.heap.size := (by have := hLe.size; (try simp at this); omega)
                refine wpOp_plain rfl rfl (fun K hK => ?_)
                go_simp
                exact hK _ _ ⟨_, rfl, Below.refl _ _, rfl⟩
              apply free_is
              · intro a' w' hLe hfr hdep
                have e3 := hfr 3 rfl
                conv at e3 => rhs; whnf
                have f3 := e3; simp only [Array.getD_eq_getD_getElem?] at f3
                refine wpOp_plain rfl rfl (fun K hK => ?_)
                go_simp
                exact hK _ _ ⟨_, rfl, Below.refl _ _, rfl⟩
              apply free_is
              · intro a' w' hLe hfr hdep
                have e23 : a'.tmps.getD 23 undef = _ := hdep 6 23 (Nat.le_of_ble_eq_true rfl) rfl rfl
                conv at e23 => rhs; whnf
                have f23 := e23; simp only [Array.getD_eq_getD_getElem?] at f23
                have e24 : a'.tmps.getD 24 undef = _ := hdep 7 24 (Nat.le_of_ble_eq_true rfl) rfl rfl
                conv at e24 => rhs; whnf
                have f24 := e24; simp only [Array.getD_eq_getD_getElem?] at f24
                refine wpOp_plain rfl rfl (fun K hK => ?_)
                go_simp
                exact hK _ _ ⟨_, rfl, Below.refl _ _, rfl⟩
              apply free_is
              · intro a' w' hLe hfr hdep
                have e25 : a'.tmps.getD 25 undef = _ := hdep 8 25 (Nat.le_of_ble_eq_true rfl) rfl rfl
                conv at e25 => rhs; whnf
                have f25 := e25; simp only [Array.getD_eq_getD_getElem?] at f25
                have kc := fun i => keepc hLe (bl) (by (try simp) <;> omega) i
                have kf := fun i => keepf hLe (bl) (by (try simp) <;> omega) i
                have kz : bl < w'.heap.size := (by have := hLe.size; (try simp at this); omega)
                have kc := fun i => keepc hLe (w.heap.size) (by (try simp) <;> omega) i
                have kf := fun i => keepf hLe (w.heap.size) (by (try simp) <;> omega) i
                have kz : w.heap.size < w'.heap.size := (by have := hLe.size; (try simp at this); omega)
                refine wpOp_plain rfl rfl (fun K hK => ?_)
                go_simp
                exact hK _ _ ⟨_, rfl, Below.refl _ _, rfl⟩
              apply free_is
              · intro a' w' hLe hfr hdep
                have e21 : a'.tmps.getD 21 undef = _ := hdep 4 21 (Nat.le_of_ble_eq_true rfl) rfl rfl
                conv at e21 => rhs; whnf
                have f21 := e21; simp only [Array.getD_eq_getD_getElem?] at f21
                have e26 : a'.tmps.getD 26 undef = _ := hdep 9 26 (Nat.le_of_ble_eq_true rfl) rfl rfl
                conv at e26 => rhs; whnf
                have f26 := e26; simp only [Array.getD_eq_getD_getElem?] at f26
                refine wpOp_plain rfl rfl (fun K hK => ?_)
                go_simp
                exact hK _ _ ⟨_, rfl, Below.refl _ _, rfl⟩
              apply free_is
              · intro a' w' hLe hfr hdep
                have e27 : a'.tmps.getD 27 undef = _ := hdep 10 27 (Nat.le_of_ble_eq_true rfl) rfl rfl
                conv at e27 => rhs; whnf
                have f27 := e27; simp only [Array.getD_eq_getD_getElem?] at f27
                refine wpOp_plain rfl rfl (fun K hK => ?_)
                go_simp
                exact hK _ _ ⟨_, rfl, Below.refl _ _, rfl⟩
              apply free_is
              · intro a' w' hLe hfr hdep
                have e28 : a'.tmps.getD 28 undef = _ := hdep 11 28 (Nat.le_of_ble_eq_true rfl) rfl rfl
                conv at e28 => rhs; whnf
                have f28 := e28; simp only [Array.getD_eq_getD_getElem?] at f28
                have e1 := hfr 1 rfl
                conv at e1 => rhs; whnf
                have f1 := e1; simp only [Array.getD_eq_getD_getElem?] at f1
                refine wpOp_yes rfl rfl rfl e28 (fun K hK => ?_)
                go_simp
                exact hK _ _ ⟨_, rfl, Below.refl _ _, rfl⟩
              apply free_is
              · intro a' w' hLe hfr hdep
                have e28 : a'.tmps.getD 28 undef = _ := hdep 11 28 (Nat.le_of_ble_eq_true rfl) rfl rfl
                conv at e28 => rhs; whnf
                have f28 := e28; simp only [Array.getD_eq_getD_getElem?] at f28
                have e29 : a'.tmps.getD 29 undef = _ := hdep 12 29 (Nat.le_of_ble_eq_true rfl) rfl rfl
                conv at e29 => rhs; whnf
                have f29 := e29; simp only [Array.getD_eq_getD_getElem?] at f29
                have kc := fun i => keepc hLe (bl) (by (try simp) <;> omega) i
                have kf := fun i => keepf hLe (bl) (by (try simp) <;> omega) i
                have kz : bl < w'.heap.size := (by have := hLe.size; (try simp at this); omega)
                have kc := fun i => keepc hLe (w.heap.size) (by (try simp) <;> omega) i
                have kf := fun i => keepf hLe (w.heap.size) (by (try simp) <;> omega) i
                have kz : w.heap.size < w'.heap.size := (by have := hLe.size; (try simp at this); omega)
                refine wpOp_yes rfl rfl rfl e28 (fun K hK => ?_)
                go_simp
                exact hK _ _ ⟨_, rfl, Below.refl _ _, rfl⟩
              apply free_is
              · intro a' w' hLe hfr hdep
                have e28 : a'.tmps.getD 28 undef = _ := hdep 11 28 (Nat.le_of_ble_eq_true rfl) rfl rfl
                conv at e28 => rhs; whnf
                have f28 := e28; simp only [Array.getD_eq_getD_getElem?] at f28
                have e3 := hfr 3 rfl
                conv at e3 => rhs; whnf
                have f3 := e3; simp only [Array.getD_eq_getD_getElem?] at f3
                refine wpOp_yes rfl rfl rfl e28 (fun K hK => ?_)
                go_simp
                exact hK _ _ ⟨_, rfl, Below.refl _ _, rfl⟩
              apply free_is
              · intro a' w' hLe hfr hdep
                have e28 : a'.tmps.getD 28 undef = _ := hdep 11 28 (Nat.le_of_ble_eq_true rfl) rfl rfl
                conv at e28 => rhs; whnf
                have f28 := e28; simp only [Array.getD_eq_getD_getElem?] at f28
                have e30 : a'.tmps.getD 30 undef = _ := hdep 13 30 (Nat.le_of_ble_eq_true rfl) rfl rfl
                conv at e30 => rhs; whnf
                have f30 := e30; simp only [Array.getD_eq_getD_getElem?] at f30
                have e31 : a'.tmps.getD 31 undef = _ := hdep 14 31 (Nat.le_of_ble_eq_true rfl) rfl rfl
                conv at e31 => rhs; whnf
                have f31 := e31; simp only [Array.getD_eq_getD_getElem?] at f31
                refine wpOp_yes rfl rfl rfl e28 (fun K hK => ?_)
                go_simp
                exact hK _ _ ⟨_, rfl, Below.refl _ _, rfl⟩
              apply free_is
              · intro a' w' hLe hfr hdep
                have e28 : a'.tmps.getD 28 undef = _ := hdep 11 28 (Nat.le_of_ble_eq_true rfl) rfl rfl
                conv at e28 => rhs; whnf
                have f28 := e28; simp only [Array.getD_eq_getD_getElem?] at f28
                have e32 : a'.tmps.getD 32 undef = _ := hdep 15 32 (Nat.le_of_ble_eq_true rfl) rfl rfl
                conv at e32 => rhs; whnf
                have f32 := e32; simp only [Array.getD_eq_getD_getElem?] at f32
                have kc := fun i => keepc hLe (bl) (by (try simp) <;> omega) i
                have kf := fun i => keepf hLe (bl) (by (try simp) <;> omega) i
                have kz : bl < w'.heap.size := (by have := hLe.size; (try simp at this); omega)
                have kc := fun i => keepc hLe (w.heap.size) (by (try simp) <;> omega) i
                have kf := fun i => keepf hLe (w.heap.size) (by (try simp) <;> omega) i
                have kz : w.heap.size < w'.heap.size := (by have := hLe.size; (try simp at this); omega)
                refine wpOp_yes rfl rfl rfl e28 (fun K hK => ?_)
                go_simp
                exact hK _ _ ⟨_, rfl, Below.refl _ _, rfl⟩
              apply free_is
              · intro a' w' hLe hfr hdep
                have e28 : a'.tmps.getD 28 undef = _ := hdep 11 28 (Nat.le_of_ble_eq_true rfl) rfl rfl
                conv at e28 => rhs; whnf
                have f28 := e28; simp only [Array.getD_eq_getD_getElem?] at f28
                refine wpOp_yes rfl rfl rfl e28 (fun K hK => ?_)
                go_simp
                exact hK _ _ ⟨_, rfl, Below.refl _ _, rfl⟩
              apply free_is
              · intro a' w' hLe hfr hdep
                have e28 : a'.tmps.getD 28 undef = _ := hdep 11 28 (Nat.le_of_ble_eq_true rfl) rfl rfl
                conv at e28 => rhs; whnf
                have f28 := e28; simp only [Array.getD_eq_getD_getElem?] at f28
                have e33 : a'.tmps.getD 33 undef = _ := hdep 16 33 (Nat.le_of_ble_eq_true rfl) rfl rfl
                conv at e33 => rhs; whnf
                have f33 := e33; simp only [Array.getD_eq_getD_getElem?] at f33
                have e34 : a'.tmps.getD 34 undef = _ := hdep 17 34 (Nat.le_of_ble_eq_true rfl) rfl rfl
                conv at e34 => rhs; whnf
                have f34 := e34; simp only [Array.getD_eq_getD_getElem?] at f34
                refine wpOp_yes rfl rfl rfl e28 (fun K hK => ?_)
                go_simp
                exact hK _ _ ⟨_, rfl, Below.refl _ _, rfl⟩
              apply free_is
              · intro a' w' hLe hfr hdep
                have e28 : a'.tmps.getD 28 undef = _ := hdep 11 28 (Nat.le_of_ble_eq_true rfl) rfl rfl
                conv at e28 => rhs; whnf
                have f28 := e28; simp only [Array.getD_eq_getD_getElem?] at f28
                have e35 : a'.tmps.getD 35 undef = _ := hdep 18 35 (Nat.le_of_ble_eq_true rfl) rfl rfl
                conv at e35 => rhs; whnf
                have f35 := e35; simp only [Array.getD_eq_getD_getElem?] at f35
                refine wpOp_plain rfl rfl (fun K hK => ?_)
                go_simp
                exact hK _ _ ⟨_, rfl, Below.refl _ _, rfl⟩
              apply free_nil
              intro vs w7 hb7 hT7
              have e17 : vs 0 = _ := hT7 0 17 rfl
              conv at e17 => rhs; whnf
              have e18 : vs 1 = _ := hT7 1 18 rfl
              conv at e18 => rhs; whnf
              have e19 : vs 2 = _ := hT7 2 19 rfl
              conv at e19 => rhs; whnf
              have e20 : vs 3 = _ := hT7 3 20 rfl
              conv at e20 => rhs; whnf
              have e21 : vs 4 = _ := hT7 4 21 rfl
              conv at e21 => rhs; whnf
              have e22 : vs 5 = _ := hT7 5 22 rfl
              conv at e22 => rhs; whnf
              have e23 : vs 6 = _ := hT7 6 23 rfl
              conv at e23 => rhs; whnf
              have e24 : vs 7 = _ := hT7 7 24 rfl
              conv at e24 => rhs; whnf
              have e25 : vs 8 = _ := hT7 8 25 rfl
              conv at e25 => rhs; whnf
              have e26 : vs 9 = _ := hT7 9 26 rfl
              conv at e26 => rhs; whnf
              have e27 : vs 10 = _ := hT7 10 27 rfl
              conv at e27 => rhs; whnf
              have e28 : vs 11 = _ := hT7 11 28 rfl
              conv at e28 => rhs; whnf
              have e29 : vs 12 = _ := hT7 12 29 rfl
              conv at e29 => rhs; whnf
              have e30 : vs 13 = _ := hT7 13 30 rfl
              conv at e30 => rhs; whnf
              have e31 : vs 14 = _ := hT7 14 31 rfl
              conv at e31 => rhs; whnf
              have e32 : vs 15 = _ := hT7 15 32 rfl
              conv at e32 => rhs; whnf
              have e33 : vs 16 = _ := hT7 16 33 rfl
              conv at e33 => rhs; whnf
              have e34 : vs 17 = _ := hT7 17 34 rfl
              conv at e34 => rhs; whnf
              have e35 : vs 18 = _ := hT7 18 35 rfl
              conv at e35 => rhs; whnf
              have e36 : vs 19 = _ := hT7 19 36 rfl
              conv at e36 => rhs; whnf
              simp only [putAll, List.drop_succ_cons, List.drop_zero, e17, e18, e19, e20, e21, e22, e23, e24, e25, e26, e27, e28, e29, e30, e31, e32, e33, e34, e35, e36]
              clear hT7 e17 e18 e19 e20 e21 e22 e23 e24 e25 e26 e27 e28 e29 e30 e31 e32 e33 e34 e35 e36
              go_simp
              go_wp2
              go_roundw
              case rel => exact ⟨j + 1, by omega, by go_num, (by intros; simp), by (repeat (first | exact Below.refl _ _ | assumption | refine Below.al ?_ _ | refine Below.dr ?_ | (refine Below.st ?_ (by simp <;> omega) _) | (refine Below.tr ?_ (by assumption))))⟩
              case measure => simp [intOf]; omega
            | false =>
              have hq2 := neq_no (v := true) hz
              have hno := Lib.hid (outB_no (x0 := x0) (x1 := x1) (show k < n from hlt) (sloB_two hlj hsf hz))
              clear hsf hr hc hrow hz
              go_wp2
              refine wp_region_free (ds := [(0, 17), (1, 18), (2, 19), (3, 20), (4, 21), (5, 22), (6, 23), (7, 24), (8, 25), (9, 26), (10, 27), (11, 28), (12, 29), (13, 30), (14, 31), (15, 32), (16, 33), (17, 34), (18, 35), (19, 36)]) 20 (by kernel_rfl) (by kernel_rfl) (by first | exact .inl rfl | exact .inr (by kernel_rfl)) (by rfl) rfl rfl ?_
              apply free_is
              · intro a' w' hLe hfr hdep
                have e1 := hfr 1 rfl
                conv at e1 => rhs; whnf
                have f1 := e1; simp only [Array.getD_eq_getD_getElem?] at f1
                refine wpOp_plain rfl rfl (fun K hK => ?_)
                go_simp
                exact hK _ _ ⟨_, rfl, Below.refl _ _, rfl⟩
              apply free_is
              · intro a' w' hLe hfr hdep
                have e17 : a'.tmps.getD 17 undef = _ := hdep 0 17 (Nat.le_of_ble_eq_true rfl) rfl rfl
                conv at e17 => rhs; whnf
                have f17 := e17; simp only [Array.getD_eq_getD_getElem?] at f17
                have kc := fun i => keepc hLe (bl) (by (try simp) <;> omega) i
                have kf := fun i => keepf hLe (bl) (by (try simp) <;> omega) i
                have kz : bl < w'.heap.size := (by have := hLe.size; (try simp at this); omega)
                have kc := fun i => keepc hLe (w.heap.size) (by (try simp) <;> omega) i
                have kf := fun i => keepf hLe (w.heap.size) (by (try simp) <;> omega) i
                have kz : w.heap.size < w'.heap.size := (by have := hLe.size; (try simp at this); omega)
                refine wpOp_plain rfl rfl (fun K hK => ?_)
                go_simp
                exact hK _ _ ⟨_, rfl, Below.refl _ _, rfl⟩
              apply free_is
              · intro a' w' hLe hfr hdep
                have e4 := hfr 4 rfl
                conv at e4 => rhs; whnf
                have f4 := e4; simp only [Array.getD_eq_getD_getElem?] at f4
                refine wpOp_plain rfl rfl (fun K hK => ?_)
                go_simp
                exact hK _ _ ⟨_, rfl, Below.refl _ _, rfl⟩
              apply free_is
              · intro a' w' hLe hfr hdep
                have e18 : a'.tmps.getD 18 undef = _ := hdep 1 18 (Nat.le_of_ble_eq_true rfl) rfl rfl
                conv at e18 => rhs; whnf
                have f18 := e18; simp only [Array.getD_eq_getD_getElem?] at f18
                have e19 : a'.tmps.getD 19 undef = _ := hdep 2 19 (Nat.le_of_ble_eq_true rfl) rfl rfl
                conv at e19 => rhs; whnf
                have f19 := e19; simp only [Array.getD_eq_getD_getElem?] at f19
                refine wpOp_plain rfl rfl (fun K hK => ?_)
                go_simp
                exact hK _ _ ⟨_, rfl, Below.refl _ _, rfl⟩
              apply free_is
              · intro a' w' hLe hfr hdep
                have e20 : a'.tmps.getD 20 undef = _ := hdep 3 20 (Nat.le_of_ble_eq_true rfl) rfl rfl
                conv at e20 => rhs; whnf
                have f20 := e20; simp only [Array.getD_eq_getD_getElem?] at f20
                have kc := fun i => keepc hLe (bl) (by (try simp) <;> omega) i
                have kf := fun i => keepf hLe (bl) (by (try simp) <;> omega) i
                have kz : bl < w'.heap.size := (by have := hLe.size; (try simp at this); omega)
                have kc := fun i => keepc hLe (w.heap.size) (by (try simp) <;> omega) i
                have kf := fun i => keepf hLe (w.heap.size) (by (try simp) <;> omega) i
                have kz : w.heap.size < w'.heap.size := (by have := hLe.size; (try simp at this); omega)
                refine wpOp_plain rfl rfl (fun K hK => ?_)
                go_simp
                exact hK _ _ ⟨_, rfl, Below.refl _ _, rfl⟩
              apply free_is
              · intro a' w' hLe hfr hdep
                have e1 := hfr 1 rfl
                conv at e1 => rhs; whnf
                have f1 := e1; simp only [Array.getD_eq_getD_getElem?] at f1
                refine wpOp_plain rfl rfl (fun K hK => ?_)
                go_simp
                exact hK _ _ ⟨_, rfl, Below.refl _ _, rfl⟩
              apply free_is
              · intro a' w' hLe hfr hdep
                have e22 : a'.tmps.getD 22 undef = _ := hdep 5 22 (Nat.le_of_ble_eq_true rfl) rfl rfl
                conv at e22 => rhs; whnf
                have f22 := e22; simp only [Array.getD_eq_getD_getElem?] at f22
                have kc := fun i => keepc hLe (bl) (by (try simp) <;> omega) i
                have kf := fun i => keepf hLe (bl) (by (try simp) <;> omega) i
                have kz : bl < w'.heap.size := (by have := hLe.size; (try simp at this); omega)
                have kc := fun i => keepc hLe (w.heap.size) (by (try simp) <;> omega) i
                have kf := fun i => keepf hLe (w.heap.size) (by (try simp) <;> omega) i
                have kz : w.heap.size < w'.heap.size := (by have := hLe.size; (try simp at this); omega)
                refine wpOp_plain rfl rfl (fun K hK => ?_)
                go_simp
                exact hK _ _ ⟨_, rfl, Below.refl _ _, rfl⟩
              apply free_is
              · intro a' w' hLe hfr hdep
                have e3 := hfr 3 rfl
                conv at e3 => rhs; whnf
                have f3 := e3; simp only [Array.getD_eq_getD_getElem?] at f3
                refine wpOp_plain rfl rfl (fun K hK => ?_)
                go_simp
                exact hK _ _ ⟨_, rfl, Below.refl _ _, rfl⟩
              apply free_is
              · intro a' w' hLe hfr hdep
                have e23 : a'.tmps.getD 23 undef = _ := hdep 6 23 (Nat.le_of_ble_eq_true rfl) rfl rfl
                conv at e23 => rhs; whnf
                have f23 := e23; simp only [Array.getD_eq_getD_getElem?] at f23
                have e24 : a'.tmps.getD 24 undef = _ := hdep 7 24 (Nat.le_of_ble_eq_true rfl) rfl rfl
                conv at e24 => rhs; whnf
                have f24 := e24; simp only [Array.getD_eq_getD_getElem?] at f24
                refine wpOp_plain rfl rfl (fun K hK => ?_)
                go_simp
                exact hK _ _ ⟨_, rfl, Below.refl _ _, rfl⟩
              apply free_is
              · intro a' w' hLe hfr hdep
                have e25 : a'.tmps.getD 25 undef = _ := hdep 8 25 (Nat.le_of_ble_eq_true rfl) rfl rfl
                conv at e25 => rhs; whnf
                have f25 := e25; simp only [Array.getD_eq_getD_getElem?] at f25
                have kc := fun i => keepc hLe (bl) (by (try simp) <;> omega) i
                have kf := fun i => keepf hLe (bl) (by (try simp) <;> omega) i
                have kz : bl < w'.heap.size := (by have := hLe.size; (try simp at this); omega)
                have kc := fun i => keepc hLe (w.heap.size) (by (try simp) <;> omega) i
                have kf := fun i => keepf hLe (w.heap.size) (by (try simp) <;> omega) i
                have kz : w.heap.size < w'.heap.size := (by have := hLe.size; (try simp at this); omega)
                refine wpOp_plain rfl rfl (fun K hK => ?_)
                go_simp
                exact hK _ _ ⟨_, rfl, Below.refl _ _, rfl⟩
              apply free_is
              · intro a' w' hLe hfr hdep
                have e21 : a'.tmps.getD 21 undef = _ := hdep 4 21 (Nat.le_of_ble_eq_true rfl) rfl rfl
                conv at e21 => rhs; whnf
                have f21 := e21; simp only [Array.getD_eq_getD_getElem?] at f21
                have e26 : a'.tmps.getD 26 undef = _ := hdep 9 26 (Nat.le_of_ble_eq_true rfl) rfl rfl
                conv at e26 => rhs; whnf
                have f26 := e26; simp only [Array.getD_eq_getD_getElem?] at f26
                refine wpOp_plain rfl rfl (fun K hK => ?_)
                go_simp
                exact hK _ _ ⟨_, rfl, Below.refl _ _, rfl⟩
              apply free_is
              · intro a' w' hLe hfr hdep
                have e27 : a'.tmps.getD 27 undef = _ := hdep 10 27 (Nat.le_of_ble_eq_true rfl) rfl rfl
                conv at e27 => rhs; whnf
                have f27 := e27; simp only [Array.getD_eq_getD_getElem?] at f27
                refine wpOp_plain rfl rfl (fun K hK => ?_)
                go_simp
                exact hK _ _ ⟨_, rfl, Below.refl _ _, rfl⟩
              apply free_is
              · intro a' w' hLe hfr hdep
                have e28 : a'.tmps.getD 28 undef = _ := hdep 11 28 (Nat.le_of_ble_eq_true rfl) rfl rfl
                conv at e28 => rhs; whnf
                have f28 := e28; simp only [Array.getD_eq_getD_getElem?] at f28
                have e1 := hfr 1 rfl
                conv at e1 => rhs; whnf
                have f1 := e1; simp only [Array.getD_eq_getD_getElem?] at f1
                refine wpOp_yes rfl rfl rfl e28 (fun K hK => ?_)
                go_simp
                exact hK _ _ ⟨_, rfl, Below.refl _ _, rfl⟩
              apply free_is
              · intro a' w' hLe hfr hdep
                have e28 : a'.tmps.getD 28 undef = _ := hdep 11 28 (Nat.le_of_ble_eq_true rfl) rfl rfl
                conv at e28 => rhs; whnf
                have f28 := e28; simp only [Array.getD_eq_getD_getElem?] at f28
                have e29 : a'.tmps.getD 29 undef = _ := hdep 12 29 (Nat.le_of_ble_eq_true rfl) rfl rfl
                conv at e29 => rhs; whnf
                have f29 := e29; simp only [Array.getD_eq_getD_getElem?] at f29
                have kc := fun i => keepc hLe (bl) (by (try simp) <;> omega) i
                have kf := fun i => keepf hLe (bl) (by (try simp) <;> omega) i
                have kz : bl < w'.heap.size := (by have := hLe.size; (try simp at this); omega)
                have kc := fun i => keepc hLe (w.heap.size) (by (try simp) <;> omega) i
                have kf := fun i => keepf hLe (w.heap.size) (by (try simp) <;> omega) i
                have kz : w.heap.size < w'.heap.size := (by have := hLe.size; (try simp at this); omega)
                refine wpOp_yes rfl rfl rfl e28 (fun K hK => ?_)
                go_simp
                exact hK _ _ ⟨_, rfl, Below.refl _ _, rfl⟩
              apply free_is
              · intro a' w' hLe hfr hdep
                have e28 : a'.tmps.getD 28 undef = _ := hdep 11 28 (Nat.le_of_ble_eq_true rfl) rfl rfl
                conv at e28 => rhs; whnf
                have f28 := e28; simp only [Array.getD_eq_getD_getElem?] at f28
                have e3 := hfr 3 rfl
                conv at e3 => rhs; whnf
                have f3 := e3; simp only [Array.getD_eq_getD_getElem?] at f3
                refine wpOp_yes rfl rfl rfl e28 (fun K hK => ?_)
                go_simp
                exact hK _ _ ⟨_, rfl, Below.refl _ _, rfl⟩
              apply free_is
              · intro a' w' hLe hfr hdep
                have e28 : a'.tmps.getD 28 undef = _ := hdep 11 28 (Nat.le_of_ble_eq_true rfl) rfl rfl
                conv at e28 => rhs; whnf
                have f28 := e28; simp only [Array.getD_eq_getD_getElem?] at f28
                have e30 : a'.tmps.getD 30 undef = _ := hdep 13 30 (Nat.le_of_ble_eq_true rfl) rfl rfl
                conv at e30 => rhs; whnf
                have f30 := e30; simp only [Array.getD_eq_getD_getElem?] at f30
                have e31 : a'.tmps.getD 31 undef = _ := hdep 14 31 (Nat.le_of_ble_eq_true rfl) rfl rfl
                conv at e31 => rhs; whnf
                have f31 := e31; simp only [Array.getD_eq_getD_getElem?] at f31
                refine wpOp_yes rfl rfl rfl e28 (fun K hK => ?_)
                go_simp
                exact hK _ _ ⟨_, rfl, Below.refl _ _, rfl⟩
              apply free_is
              · intro a' w' hLe hfr hdep
                have e28 : a'.tmps.getD 28 undef = _ := hdep 11 28 (Nat.le_of_ble_eq_true rfl) rfl rfl
                conv at e28 => rhs; whnf
                have f28 := e28; simp only [Array.getD_eq_getD_getElem?] at f28
                have e32 : a'.tmps.getD 32 undef = _ := hdep 15 32 (Nat.le_of_ble_eq_true rfl) rfl rfl
                conv at e32 => rhs; whnf
                have f32 := e32; simp only [Array.getD_eq_getD_getElem?] at f32
                have kc := fun i => keepc hLe (bl) (by (try simp) <;> omega) i
                have kf := fun i => keepf hLe (bl) (by (try simp) <;> omega) i
                have kz : bl < w'.heap.size := (by have := hLe.size; (try simp at this); omega)
                have kc := fun i => keepc hLe (w.heap.size) (by (try simp) <;> omega) i
                have kf := fun i => keepf hLe (w.heap.size) (by (try simp) <;> omega) i
                have kz : w.heap.size < w'.heap.size := (by have := hLe.size; (try simp at this); omega)
                refine wpOp_yes rfl rfl rfl e28 (fun K hK => ?_)
                go_simp
                exact hK _ _ ⟨_, rfl, Below.refl _ _, rfl⟩
              apply free_is
              · intro a' w' hLe hfr hdep
                have e28 : a'.tmps.getD 28 undef = _ := hdep 11 28 (Nat.le_of_ble_eq_true rfl) rfl rfl
                conv at e28 => rhs; whnf
                have f28 := e28; simp only [Array.getD_eq_getD_getElem?] at f28
                refine wpOp_yes rfl rfl rfl e28 (fun K hK => ?_)
                go_simp
                exact hK _ _ ⟨_, rfl, Below.refl _ _, rfl⟩
              apply free_is
              · intro a' w' hLe hfr hdep
                have e28 : a'.tmps.getD 28 undef = _ := hdep 11 28 (Nat.le_of_ble_eq_true rfl) rfl rfl
                conv at e28 => rhs; whnf
                have f28 := e28; simp only [Array.getD_eq_getD_getElem?] at f28
                have e33 : a'.tmps.getD 33 undef = _ := hdep 16 33 (Nat.le_of_ble_eq_true rfl) rfl rfl
                conv at e33 => rhs; whnf
                have f33 := e33; simp only [Array.getD_eq_getD_getElem?] at f33
                have e34 : a'.tmps.getD 34 undef = _ := hdep 17 34 (Nat.le_of_ble_eq_true rfl) rfl rfl
                conv at e34 => rhs; whnf
                have f34 := e34; simp only [Array.getD_eq_getD_getElem?] at f34
                refine wpOp_yes rfl rfl rfl e28 (fun K hK => ?_)
                go_simp
                exact hK _ _ ⟨_, rfl, Below.refl _ _, rfl⟩
              apply free_is
              · intro a' w' hLe hfr hdep
                have e28 : a'.tmps.getD 28 undef = _ := hdep 11 28 (Nat.le_of_ble_eq_true rfl) rfl rfl
                conv at e28 => rhs; whnf
                have f28 := e28; simp only [Array.getD_eq_getD_getElem?] at f28
                have e35 : a'.tmps.getD 35 undef = _ := hdep 18 35 (Nat.le_of_ble_eq_true rfl) rfl rfl
                conv at e35 => rhs; whnf
                have f35 := e35; simp only [Array.getD_eq_getD_getElem?] at f35
                refine wpOp_plain rfl rfl (fun K hK => ?_)
                go_simp
                exact hK _ _ ⟨_, rfl, Below.refl _ _, rfl⟩
              apply free_nil
              intro vs w7 hb7 hT7
              have e17 : vs 0 = _ := hT7 0 17 rfl
              conv at e17 => rhs; whnf
              have e18 : vs 1 = _ := hT7 1 18 rfl
              conv at e18 => rhs; whnf
              have e19 : vs 2 = _ := hT7 2 19 rfl
              conv at e19 => rhs; whnf
              have e20 : vs 3 = _ := hT7 3 20 rfl
              conv at e20 => rhs; whnf
              have e21 : vs 4 = _ := hT7 4 21 rfl
              conv at e21 => rhs; whnf
              have e22 : vs 5 = _ := hT7 5 22 rfl
              conv at e22 => rhs; whnf
              have e23 : vs 6 = _ := hT7 6 23 rfl
              conv at e23 => rhs; whnf
              have e24 : vs 7 = _ := hT7 7 24 rfl
              conv at e24 => rhs; whnf
              have e25 : vs 8 = _ := hT7 8 25 rfl
              conv at e25 => rhs; whnf
              have e26 : vs 9 = _ := hT7 9 26 rfl
              conv at e26 => rhs; whnf
              have e27 : vs 10 = _ := hT7 10 27 rfl
              conv at e27 => rhs; whnf
              have e28 : vs 11 = _ := hT7 11 28 rfl
              conv at e28 => rhs; whnf
              have e29 : vs 12 = _ := hT7 12 29 rfl
              conv at e29 => rhs; whnf
              have e30 : vs 13 = _ := hT7 13 30 rfl
              conv at e30 => rhs; whnf
              have e31 : vs 14 = _ := hT7 14 31 rfl
              conv at e31 => rhs; whnf
              have e32 : vs 15 = _ := hT7 15 32 rfl
              conv at e32 => rhs; whnf
              have e33 : vs 16 = _ := hT7 16 33 rfl
              conv at e33 => rhs; whnf
              have e34 : vs 17 = _ := hT7 17 34 rfl
              conv at e34 => rhs; whnf
              have e35 : vs 18 = _ := hT7 18 35 rfl
              conv at e35 => rhs; whnf
              have e36 : vs 19 = _ := hT7 19 36 rfl
              conv at e36 => rhs; whnf
              simp only [putAll, List.drop_succ_cons, List.drop_zero, e17, e18, e19, e20, e21, e22, e23, e24, e25, e26, e27, e28, e29, e30, e31, e32, e33, e34, e35, e36]
              clear hT7 e17 e18 e19 e20 e21 e22 e23 e24 e25 e26 e27 e28 e29 e30 e31 e32 e33 e34 e35 e36
              go_simp
              go_wp2
              go_ret
              exact ⟨by rw [hno.out] <;> rfl, by (repeat (first | exact Below.refl _ _ | assumption | refine Below.al ?_ _ | refine Below.dr ?_ | (refine Below.st ?_ (by simp <;> omega) _) | (refine Below.tr ?_ (by assumption))))⟩
        · obtain rfl : j = k := by omega
          have e2 : (j : Int) < (n : Int) := by omega
          have HJ := Lib.hid hok
          clear hok
          cases hz : noB f0 f1 f2 f3 f4 j with
          | true =>
            have hq2 := neq_no (v := false) hz
            have hno := Lib.hid (show sloB f0 f1 f2 f3 f4 j = true from sloB_yes (fun h => by rw [hz] at h; cases h) HJ.out)
            clear hr hc hrow hz
            go_wp2
            go_roundw
            case rel => exact ⟨j + 1, by omega, by go_num, upto HO.out hno.out, by (repeat (first | exact Below.refl _ _ | assumption | refine Below.al ?_ _ | refine Below.dr ?_ | (refine Below.st ?_ (by simp <;> omega) _) | (refine Below.tr ?_ (by assumption))))⟩
            case measure => simp [intOf]; omega
          | false =>
            have hq2 := neq_no (v := true) hz
            cases hv : flowB (f0 j) (f1 j) (f2 j) (f3 j) (f4 j) with
            | true =>
              have hno := Lib.hid (show sloB f0 f1 f2 f3 f4 j = true from sloB_yes (fun _ => hv) HJ.out)
              clear hr hc hrow hz
              go_wp2_with (go_at_call 26; refine (specFlowValid_any _ _ _ _ _ _).mono ?_; rintro e w3 ⟨rfl, rfl⟩)
              go_roundw
              case rel => exact ⟨j + 1, by omega, by go_num, upto HO.out hno.out, by (repeat (first | exact Below.refl _ _ | assumption | refine Below.al ?_ _ | refine Below.dr ?_ | (refine Below.st ?_ (by simp <;> omega) _) | (refine Below.tr ?_ (by assumption))))⟩
              case measure => simp [intOf]; omega
            | false =>
              have hno := Lib.hid (outB_no (x0 := x0) (x1 := x1) (show j < n from hlt) (show sloB f0 f1 f2 f3 f4 j = false by simp [sloB, hz, hv]))
              clear hr hc hrow hz
              go_wp2_with (go_at_call 26; refine (specFlowValid_any _ _ _ _ _ _).mono ?_; rintro e w3 ⟨rfl, rfl⟩)
              go_ret
              exact ⟨by rw [hno.out] <;> rfl, by (repeat (first | exact Below.refl _ _ | assumption | refine Below.al ?_ _ | refine Below.dr ?_ | (refine Below.st ?_ (by simp <;> omega) _) | (refine Below.tr ?_ (by assumption))))⟩
    · obtain rfl : k = n := by omega
      have he := Lib.hid (outB_end (x0 := x0) (x1 := x1) hok)
      have e1 : IntKind.i64.wrap (999 - (k : Int)) = 999 - k := IntWalk.i64_in _ (by omega)
      have e2 : IntKind.i64.wrap (999 - (k : Int) + 1) = 999 - k + 1 := IntWalk.i64_in _ (by omega)
      clear hok hrow
      cases g0 : inB x0 0 255 with
      | false =>
        rw [g0] at he
        go_wp2_with (go_at_call 27; refine (l1In_any _ _ _ _).mono ?_; rintro e w' ⟨rfl, rfl⟩)
        go_ret
        exact ⟨by rw [he.out] <;> rfl, by (repeat (first | exact Below.refl _ _ | assumption | refine Below.al ?_ _ | refine Below.dr ?_ | (refine Below.st ?_ (by simp <;> omega) _) | (refine Below.tr ?_ (by assumption))))⟩
      | true =>
      cases g1 : inB k 1 8 with
      | false =>
        rw [g0, g1] at he
        go_wp2_with (go_at_call 27; refine (l1In_any _ _ _ _).mono ?_; rintro e w' ⟨rfl, rfl⟩)
        go_ret
        exact ⟨by rw [he.out] <;> rfl, by (repeat (first | exact Below.refl _ _ | assumption | refine Below.al ?_ _ | refine Below.dr ?_ | (refine Below.st ?_ (by simp <;> omega) _) | (refine Below.tr ?_ (by assumption))))⟩
      | true =>
        rw [g0, g1] at he
        go_wp2_with (go_at_call 27; refine (l1In_any _ _ _ _).mono ?_; rintro e w' ⟨rfl, rfl⟩)
        go_ret
        exact ⟨by rw [he.out] <;> rfl, by (repeat (first | exact Below.refl _ _ | assumption | refine Below.al ?_ _ | refine Below.dr ?_ | (refine Below.st ?_ (by simp <;> omega) _) | (refine Below.tr ?_ (by assumption))))⟩
end Go.Proofs.Ytahniedcflfdmaa
