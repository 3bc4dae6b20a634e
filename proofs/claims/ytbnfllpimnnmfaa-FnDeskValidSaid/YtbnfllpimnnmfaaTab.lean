/-
  TableValid, in the program.
-/
import Derived.Test.YtbnfllpimnnmfaaSet
import Derived.Test.YtbnfllpimnnmfaaTime
import Derived.Test.YtbnfllpimnnmfaaFlowS
import Derived.Test.YtbnfllpimnnmfaaTabT
import Derived.Test.YtbnfllpimnnmfaaEq5
namespace Go.Proofs.Ytbnfllpimnnmfaa
open Go.RowKit

/-- Are the flows j and k the same? -/
def sfB (a b c d e : Nat → Int) (j k : Nat) : Bool := decide (a j = a k) && decide (b j = b k) && decide (c j = c k) && decide (d j = d k) && decide (e j = e k)
/-- Is entry i in order, beside the one before it? -/
def enOk (a b c d e t l : Nat → Int) (i : Nat) : Bool := flowB (a i) (b i) (c i) (d i) (e i) && inB (t i) 0 30 && inB (l i) 0 100000 && (i == 0 || decide (l (i - 1) ≤ l i))
def taOk (a b c d e t l : Nat → Int) (i : Nat) : Bool := enOk a b c d e t l i && (List.range i).all fun j => !sfB a b c d e j i
def tabVB (x0 x1 : Int) (n : Nat) (a b c d e t l : Nat → Int) : Bool := (List.range n).all (taOk a b c d e t l) && (inB x0 1 12 && inB x1 1 100000 && decide ((n : Int) ≤ x0))
theorem tabVB_no {x0 x1 : Int} {n k : Nat} {a b c d e t l : Nat → Int} (hk : k < n) (h : taOk a b c d e t l k = false) : tabVB x0 x1 n a b c d e t l = false := by simp only [tabVB, all_no hk h, Bool.false_and]
theorem tabVB_end {x0 x1 : Int} {n : Nat} {a b c d e t l : Nat → Int} (h : ∀ k, k < n → taOk a b c d e t l k = true) : tabVB x0 x1 n a b c d e t l = (inB x0 1 12 && inB x1 1 100000 && decide ((n : Int) ≤ x0)) := by simp only [tabVB, all_yes h, Bool.true_and]
/-- The flows of the first k entries. -/
def inT (a b c d e : Nat → Int) (k : Nat) (y0 y1 y2 y3 y4 : Int) : Bool := (List.range k).any fun j => decide (a j = y0) && decide (b j = y1) && decide (c j = y2) && decide (d j = y3) && decide (e j = y4)
theorem inT_zero (a b c d e : Nat → Int) : inT a b c d e 0 = fun _ _ _ _ _ => false := rfl
theorem inT_put {a b c d e : Nat → Int} (k : Nat) : put5 (inT a b c d e k) (a k) (b k) (c k) (d k) (e k) = inT a b c d e (k + 1) := by
  funext y0 y1 y2 y3 y4
  simp only [inT, put5, List.range_succ, List.any_append, List.any_cons, List.any_nil, Bool.or_false]
  split
  · rename_i hh
    obtain ⟨rfl, rfl, rfl, rfl, rfl⟩ := hh
    simp
  · rename_i hh
    have : (decide (a k = y0) && decide (b k = y1) && decide (c k = y2) && decide (d k = y3) && decide (e k = y4)) = false := by
      cases hx : (decide (a k = y0) && decide (b k = y1) && decide (c k = y2) && decide (d k = y3) && decide (e k = y4))
      · rfl
      · simp only [Bool.and_eq_true, decide_eq_true_eq] at hx
        exact absurd ⟨hx.1.1.1.1.symm, hx.1.1.1.2.symm, hx.1.1.2.symm, hx.1.2.symm, hx.2.symm⟩ hh
    rw [this, Bool.or_false]
theorem inT_at (a b c d e : Nat → Int) (k : Nat) : inT a b c d e k (a k) (b k) (c k) (d k) (e k) = !(List.range k).all fun j => !sfB a b c d e j k := by
  rw [List.not_all_eq_any_not]
  unfold inT
  congr 1
  funext j
  rw [Bool.not_not]
  rfl
theorem taOk_en {a b c d e t l : Nat → Int} {k : Nat} (h : enOk a b c d e t l k = false) : taOk a b c d e t l k = false := by simp only [taOk, h, Bool.false_and]
theorem taOk_seen {a b c d e t l : Nat → Int} {k : Nat} (h : inT a b c d e k (a k) (b k) (c k) (d k) (e k) = true) : taOk a b c d e t l k = false := by
  rw [inT_at] at h
  have : ((List.range k).all fun j => !sfB a b c d e j k) = false := by
    cases hh : (List.range k).all fun j => !sfB a b c d e j k
    · rfl
    · rw [hh] at h; cases h
  simp only [taOk, this, Bool.and_false]
theorem taOk_yes {a b c d e t l : Nat → Int} {k : Nat} (h : inT a b c d e k (a k) (b k) (c k) (d k) (e k) = false) (h' : enOk a b c d e t l k = true) : taOk a b c d e t l k = true := by
  rw [inT_at] at h
  have : ((List.range k).all fun j => !sfB a b c d e j k) = true := by
    cases hh : (List.range k).all fun j => !sfB a b c d e j k
    · rw [hh] at h; cases h
    · rfl
  simp only [taOk, this, h', Bool.and_true]
theorem flow_wf {a b c d e : Int} (h : flowB a b c d e = true) : wf5 a b c d e := by
  simp only [flowB, Bool.and_eq_true] at h
  exact ⟨wf_int h.1.1.1.1 (by omega) (by omega), wf_int h.1.1.2 (by omega) (by omega), wf_int h.1.1.1.2 (by omega) (by omega), wf_int h.1.2 (by omega) (by omega), wf_int h.2 (by omega) (by omega)⟩
theorem FSet.mono {w : World} {b n m : Nat} {S : Int → Int → Int → Int → Int → Bool} (h : FSet w b n S) (hm : n ≤ m) : FSet w b m S := by
  obtain ⟨D, h1, h2⟩ := h
  exact ⟨D, h1.mono hm, h2⟩

set_option maxRecDepth 20000 in
set_option maxHeartbeats 16000000 in
theorem implTableValid_any (x0 x1 : Int) {w : World} {B : Nat} {A : Option Addr} {n c : Nat} {f0 f1 f2 f3 f4 to la : Nat → Int} (H : Rws w B 7 A n c (entryR f0 f1 f2 f3 f4 to la)) (hB : B ≤ w.heap.size) :
    Calls Try.prog 22 #[.agg #[.int .i64 x0, .int .i64 x1, .slice A n c]] w fun e w' => e = .returned (.bool (tabVB x0 x1 n f0 f1 f2 f3 f4 to la)) ∧ Below w.heap.size w w' := by
  obtain ⟨⟨hnc, hcm⟩, hrow⟩ := H
  unfold maxLen at hcm
  cases g0 : inB x0 1 12 with
  | false =>
    have hE := Lib.hid (show tabVB x0 x1 n f0 f1 f2 f3 f4 to la = false by simp [tabVB, g0])
    go_enter Try.func22, Try.ntmps22
    go_wp2_with (go_at_call 43; refine (in_any _ _ _ _).mono ?_; rintro e w' ⟨rfl, rfl⟩)
    go_ret
    exact ⟨by rw [hE.out] <;> rfl, by (repeat (first | exact Below.refl _ _ | assumption | refine Below.al ?_ _ | refine Below.dr ?_ | (refine Below.st ?_ (by simp <;> omega) _) | (refine Below.tr ?_ (by assumption))))⟩
  | true =>
  cases g1 : inB x1 1 100000 with
  | false =>
    have hE := Lib.hid (show tabVB x0 x1 n f0 f1 f2 f3 f4 to la = false by simp [tabVB, g1])
    go_enter Try.func22, Try.ntmps22
    go_wp2_with (go_at_call 43; refine (in_any _ _ _ _).mono ?_; rintro e w' ⟨rfl, rfl⟩)
    go_ret
    exact ⟨by rw [hE.out] <;> rfl, by (repeat (first | exact Below.refl _ _ | assumption | refine Below.al ?_ _ | refine Below.dr ?_ | (refine Below.st ?_ (by simp <;> omega) _) | (refine Below.tr ?_ (by assumption))))⟩
  | true =>
  by_cases g2 : x0 < (n : Int)
  · have hE := Lib.hid (show tabVB x0 x1 n f0 f1 f2 f3 f4 to la = false by
      have : ¬ (n : Int) ≤ x0 := by omega
      simp [tabVB, this])
    go_enter Try.func22, Try.ntmps22
    go_wp2_with (go_at_call 43; refine (in_any _ _ _ _).mono ?_; rintro e w' ⟨rfl, rfl⟩)
    go_ret
    exact ⟨by rw [hE.out] <;> rfl, by (repeat (first | exact Below.refl _ _ | assumption | refine Below.al ?_ _ | refine Below.dr ?_ | (refine Below.st ?_ (by simp <;> omega) _) | (refine Below.tr ?_ (by assumption))))⟩
  have hn8 : (n : Int) ≤ x0 ∧ x0 ≤ 12 := by simp only [inB, Bool.and_eq_true, decide_eq_true_eq] at g0; omega
  have hd0 : decide (x0 < (n : Int)) = false := by simpa using g2
  have hG := Lib.hid (show (inB x0 1 12 && inB x1 1 100000 && decide ((n : Int) ≤ x0)) = true by simp [g0, g1, hn8.1])
  have hmm := @run_makeMap Try.prog
  go_enter Try.func22, Try.ntmps22
  go_wp2_with (go_at_call 43; refine (in_any _ _ _ _).mono ?_; rintro e w' ⟨rfl, rfl⟩)
  clear hmm
  go_loopw [28] (fun i wr => ∃ k : Nat, k ≤ n ∧ i = .int .i64 k ∧ (∀ j, j < k → taOk f0 f1 f2 f3 f4 to la j = true) ∧ FSet wr (w.heap.size + 1) k (inT f0 f1 f2 f3 f4 k) ∧ wr.heap[w.heap.size]? = some (.cells #[.int .i64 x0, .int .i64 x1, .slice A n c] 35 (0, 0)) ∧ Below w.heap.size w wr) (fun i _ => n - (intOf i).toNat)
  case atStart =>
    refine ⟨0, by omega, rfl, fun j hj => absurd hj (by omega), ?_, (heap_alloc_old _ _ (by simp)).trans (heap_alloc_new w _), by (repeat (first | exact Below.refl _ _ | assumption | refine Below.al ?_ _ | refine Below.dr ?_ | (refine Below.st ?_ (by simp <;> omega) _) | (refine Below.tr ?_ (by assumption))))⟩
    have := FSet.made (w.alloc (.cells #[.int .i64 x0, .int .i64 x1, .slice A n c] 35))
    simpa [inT_zero] using this
  case round =>
    obtain ⟨k, hk, rfl, hok, hS, hX, hB0⟩ := hrel
    have hXl := heap_lt hX
    have hSl := hS.lt
    by_cases hlt : k < n
    · obtain ⟨bl, off, rfl, hbB, hc⟩ := hrow (by omega)
      have hr := hc k hlt
      have hbs : bl < wr.heap.size := by have := hB0.size; omega
      have q0 : wr.cell? ⟨bl, off + k * 7, none⟩ = some (.int .i64 (f0 k)) := (keepc hB0 bl (by omega) _).trans (hr 0 _ rfl)
      have q1 : wr.cell? ⟨bl, off + k * 7 + 1, none⟩ = some (.int .i64 (f1 k)) := (keepc hB0 bl (by omega) _).trans (hr 1 _ rfl)
      have q2 : wr.cell? ⟨bl, off + k * 7 + 2, none⟩ = some (.int .i64 (f2 k)) := (keepc hB0 bl (by omega) _).trans (hr 2 _ rfl)
      have q3 : wr.cell? ⟨bl, off + k * 7 + 3, none⟩ = some (.int .i64 (f3 k)) := (keepc hB0 bl (by omega) _).trans (hr 3 _ rfl)
      have q4 : wr.cell? ⟨bl, off + k * 7 + 4, none⟩ = some (.int .i64 (f4 k)) := (keepc hB0 bl (by omega) _).trans (hr 4 _ rfl)
      have q5 : wr.cell? ⟨bl, off + k * 7 + 5, none⟩ = some (.int .i64 (to k)) := (keepc hB0 bl (by omega) _).trans (hr 5 _ rfl)
      have q6 : wr.cell? ⟨bl, off + k * 7 + 6, none⟩ = some (.int .i64 (la k)) := (keepc hB0 bl (by omega) _).trans (hr 6 _ rfl)
      have hHO := Lib.hid hok
      have hbel : Below wr.heap.size wr (wr.alloc (.cells #[.int .i64 (f0 k), .int .i64 (f1 k), .int .i64 (f2 k), .int .i64 (f3 k), .int .i64 (f4 k), .int .i64 (to k), .int .i64 (la k)] 81)) := by (repeat (first | exact Below.refl _ _ | assumption | refine Below.al ?_ _ | refine Below.dr ?_ | (refine Below.st ?_ (by simp <;> omega) _) | (refine Below.tr ?_ (by assumption))))
      have hX2 := (heap_alloc_old wr (.cells #[.int .i64 (f0 k), .int .i64 (f1 k), .int .i64 (f2 k), .int .i64 (f3 k), .int .i64 (f4 k), .int .i64 (to k), .int .i64 (la k)] 81) hXl).trans hX
      clear hok hr
      cases h1 : flowB (f0 k) (f1 k) (f2 k) (f3 k) (f4 k) with
      | false =>
        have hno := Lib.hid (tabVB_no (x0 := x0) (x1 := x1) (show k < n from hlt) (show taOk f0 f1 f2 f3 f4 to la k = false from taOk_en (by simp [enOk, h1])))
        clear hc hrow
        go_wp2
        refine wp_region_free (ds := [(0, 33), (1, 34), (2, 35), (3, 36), (4, 37), (5, 38), (6, 39), (7, 40), (8, 41), (9, 42), (10, 43), (11, 44), (12, 45), (13, 46), (14, 47), (15, 48), (16, 49), (17, 50), (18, 51), (19, 52), (20, 53), (21, 54), (22, 55), (23, 56), (24, 57), (25, 58), (26, 59), (27, 60), (28, 61), (29, 62), (30, 63), (31, 64), (32, 65), (33, 66), (34, 67), (35, 68), (36, 69), (37, 70)]) 38 (by kernel_rfl) (by kernel_rfl) (by first | exact .inl rfl | exact .inr (by kernel_rfl)) (by rfl) rfl rfl ?_
        apply free_is
        · intro a' w' hLe hfr hdep
          have e5 := hfr 5 rfl
          conv at e5 => rhs; whnf
          have f5 := e5; simp only [Array.getD_eq_getD_getElem?] at f5
          refine wpOp_plain rfl rfl (fun K hK => ?_)
          go_simp
          exact hK _ _ ⟨_, rfl, Below.refl _ _, rfl⟩
        apply free_is
        · intro a' w' hLe hfr hdep
          have e33 : a'.tmps.getD 33 undef = _ := hdep 0 33 (Nat.le_of_ble_eq_true rfl) rfl rfl
          conv at e33 => rhs; whnf
          have f33 := e33; simp only [Array.getD_eq_getD_getElem?] at f33
          have kc := fun i => keepc hLe (wr.heap.size) (by (try simp) <;> omega) i
          have kf := fun i => keepf hLe (wr.heap.size) (by (try simp) <;> omega) i
          have kz : wr.heap.size < w'.heap.size := (by have := hLe.size; (try simp at this); omega)
          refine wpOp_plain rfl rfl (fun K hK => ?_)
          go_simp
          exact hK _ _ ⟨_, rfl, Below.refl _ _, rfl⟩
        apply free_is
        · intro a' w' hLe hfr hdep
          have e34 : a'.tmps.getD 34 undef = _ := hdep 1 34 (Nat.le_of_ble_eq_true rfl) rfl rfl
          conv at e34 => rhs; whnf
          have f34 := e34; simp only [Array.getD_eq_getD_getElem?] at f34
          have kc := fun i => keepc hLe (wr.heap.size) (by (try simp) <;> omega) i
          have kf := fun i => keepf hLe (wr.heap.size) (by (try simp) <;> omega) i
          have kz : wr.heap.size < w'.heap.size := (by have := hLe.size; (try simp at this); omega)
          refine wpOp_plain rfl rfl (fun K hK => ?_)
          go_simp
          refine (implFlowValid_b _ _ _ _ _ _).mono ?_
          rintro e w2 ⟨rfl, hb⟩
          exact hK _ _ ⟨_, rfl, hb, rfl⟩
        apply free_is
        · intro a' w' hLe hfr hdep
          have e35 : a'.tmps.getD 35 undef = _ := hdep 2 35 (Nat.le_of_ble_eq_true rfl) rfl rfl
          conv at e35 => rhs; whnf
          have f35 := e35; simp only [Array.getD_eq_getD_getElem?] at f35
          refine wpOp_plain rfl rfl (fun K hK => ?_)
          go_simp
          exact hK _ _ ⟨_, rfl, Below.refl _ _, rfl⟩
        apply free_is
        · intro a' w' hLe hfr hdep
          have e36 : a'.tmps.getD 36 undef = _ := hdep 3 36 (Nat.le_of_ble_eq_true rfl) rfl rfl
          conv at e36 => rhs; whnf
          have f36 := e36; simp only [Array.getD_eq_getD_getElem?] at f36
          refine wpOp_plain rfl rfl (fun K hK => ?_)
          go_simp
          exact hK _ _ ⟨_, rfl, Below.refl _ _, rfl⟩
        apply free_is
        · intro a' w' hLe hfr hdep
          have e37 : a'.tmps.getD 37 undef = _ := hdep 4 37 (Nat.le_of_ble_eq_true rfl) rfl rfl
          conv at e37 => rhs; whnf
          have f37 := e37; simp only [Array.getD_eq_getD_getElem?] at f37
          exact wpOp_no rfl rfl rfl e37 ⟨_, rfl, Below.refl _ _, rfl⟩
        apply free_is
        · intro a' w' hLe hfr hdep
          have e37 : a'.tmps.getD 37 undef = _ := hdep 4 37 (Nat.le_of_ble_eq_true rfl) rfl rfl
          conv at e37 => rhs; whnf
          have f37 := e37; simp only [Array.getD_eq_getD_getElem?] at f37
          exact wpOp_no rfl rfl rfl e37 ⟨_, rfl, Below.refl _ _, rfl⟩
        apply free_is
        · intro a' w' hLe hfr hdep
          have e37 : a'.tmps.getD 37 undef = _ := hdep 4 37 (Nat.le_of_ble_eq_true rfl) rfl rfl
          conv at e37 => rhs; whnf
          have f37 := e37; simp only [Array.getD_eq_getD_getElem?] at f37
          exact wpOp_no rfl rfl rfl e37 ⟨_, rfl, Below.refl _ _, rfl⟩
        apply free_is
        · intro a' w' hLe hfr hdep
          have e37 : a'.tmps.getD 37 undef = _ := hdep 4 37 (Nat.le_of_ble_eq_true rfl) rfl rfl
          conv at e37 => rhs; whnf
          have f37 := e37; simp only [Array.getD_eq_getD_getElem?] at f37
          exact wpOp_no rfl rfl rfl e37 ⟨_, rfl, Below.refl _ _, rfl⟩
        apply free_is
        · intro a' w' hLe hfr hdep
          have e37 : a'.tmps.getD 37 undef = _ := hdep 4 37 (Nat.le_of_ble_eq_true rfl) rfl rfl
          conv at e37 => rhs; whnf
          have f37 := e37; simp only [Array.getD_eq_getD_getElem?] at f37
          have e41 : a'.tmps.getD 41 undef = _ := hdep 8 41 (Nat.le_of_ble_eq_true rfl) rfl rfl
          conv at e41 => rhs; whnf
          have f41 := e41; simp only [Array.getD_eq_getD_getElem?] at f41
          refine wpOp_plain rfl rfl (fun K hK => ?_)
          go_simp
          exact hK _ _ ⟨_, rfl, Below.refl _ _, rfl⟩
        apply free_is
        · intro a' w' hLe hfr hdep
          have e42 : a'.tmps.getD 42 undef = _ := hdep 9 42 (Nat.le_of_ble_eq_true rfl) rfl rfl
          conv at e42 => rhs; whnf
          have f42 := e42; simp only [Array.getD_eq_getD_getElem?] at f42
          refine wpOp_plain rfl rfl (fun K hK => ?_)
          go_simp
          exact hK _ _ ⟨_, rfl, Below.refl _ _, rfl⟩
        apply free_is
        · intro a' w' hLe hfr hdep
          have e43 : a'.tmps.getD 43 undef = _ := hdep 10 43 (Nat.le_of_ble_eq_true rfl) rfl rfl
          conv at e43 => rhs; whnf
          have f43 := e43; simp only [Array.getD_eq_getD_getElem?] at f43
          exact wpOp_no rfl rfl rfl e43 ⟨_, rfl, Below.refl _ _, rfl⟩
        apply free_is
        · intro a' w' hLe hfr hdep
          have e43 : a'.tmps.getD 43 undef = _ := hdep 10 43 (Nat.le_of_ble_eq_true rfl) rfl rfl
          conv at e43 => rhs; whnf
          have f43 := e43; simp only [Array.getD_eq_getD_getElem?] at f43
          exact wpOp_no rfl rfl rfl e43 ⟨_, rfl, Below.refl _ _, rfl⟩
        apply free_is
        · intro a' w' hLe hfr hdep
          have e43 : a'.tmps.getD 43 undef = _ := hdep 10 43 (Nat.le_of_ble_eq_true rfl) rfl rfl
          conv at e43 => rhs; whnf
          have f43 := e43; simp only [Array.getD_eq_getD_getElem?] at f43
          exact wpOp_no rfl rfl rfl e43 ⟨_, rfl, Below.refl _ _, rfl⟩
        apply free_is
        · intro a' w' hLe hfr hdep
          have e43 : a'.tmps.getD 43 undef = _ := hdep 10 43 (Nat.le_of_ble_eq_true rfl) rfl rfl
          conv at e43 => rhs; whnf
          have f43 := e43; simp only [Array.getD_eq_getD_getElem?] at f43
          exact wpOp_no rfl rfl rfl e43 ⟨_, rfl, Below.refl _ _, rfl⟩
        apply free_is
        · intro a' w' hLe hfr hdep
          have e43 : a'.tmps.getD 43 undef = _ := hdep 10 43 (Nat.le_of_ble_eq_true rfl) rfl rfl
          conv at e43 => rhs; whnf
          have f43 := e43; simp only [Array.getD_eq_getD_getElem?] at f43
          have e47 : a'.tmps.getD 47 undef = _ := hdep 14 47 (Nat.le_of_ble_eq_true rfl) rfl rfl
          conv at e47 => rhs; whnf
          have f47 := e47; simp only [Array.getD_eq_getD_getElem?] at f47
          refine wpOp_plain rfl rfl (fun K hK => ?_)
          go_simp
          exact hK _ _ ⟨_, rfl, Below.refl _ _, rfl⟩
        apply free_is
        · intro a' w' hLe hfr hdep
          have e48 : a'.tmps.getD 48 undef = _ := hdep 15 48 (Nat.le_of_ble_eq_true rfl) rfl rfl
          conv at e48 => rhs; whnf
          have f48 := e48; simp only [Array.getD_eq_getD_getElem?] at f48
          refine wpOp_plain rfl rfl (fun K hK => ?_)
          go_simp
          exact hK _ _ ⟨_, rfl, Below.refl _ _, rfl⟩
        apply free_is
        · intro a' w' hLe hfr hdep
          have e49 : a'.tmps.getD 49 undef = _ := hdep 16 49 (Nat.le_of_ble_eq_true rfl) rfl rfl
          conv at e49 => rhs; whnf
          have f49 := e49; simp only [Array.getD_eq_getD_getElem?] at f49
          exact wpOp_no rfl rfl rfl e49 ⟨_, rfl, Below.refl _ _, rfl⟩
        apply free_is
        · intro a' w' hLe hfr hdep
          have e49 : a'.tmps.getD 49 undef = _ := hdep 16 49 (Nat.le_of_ble_eq_true rfl) rfl rfl
          conv at e49 => rhs; whnf
          have f49 := e49; simp only [Array.getD_eq_getD_getElem?] at f49
          exact wpOp_no rfl rfl rfl e49 ⟨_, rfl, Below.refl _ _, rfl⟩
        apply free_is
        · intro a' w' hLe hfr hdep
          have e49 : a'.tmps.getD 49 undef = _ := hdep 16 49 (Nat.le_of_ble_eq_true rfl) rfl rfl
          conv at e49 => rhs; whnf
          have f49 := e49; simp only [Array.getD_eq_getD_getElem?] at f49
          exact wpOp_no rfl rfl rfl e49 ⟨_, rfl, Below.refl _ _, rfl⟩
        apply free_is
        · intro a' w' hLe hfr hdep
          have e49 : a'.tmps.getD 49 undef = _ := hdep 16 49 (Nat.le_of_ble_eq_true rfl) rfl rfl
          conv at e49 => rhs; whnf
          have f49 := e49; simp only [Array.getD_eq_getD_getElem?] at f49
          exact wpOp_no rfl rfl rfl e49 ⟨_, rfl, Below.refl _ _, rfl⟩
        apply free_is
        · intro a' w' hLe hfr hdep
          have e49 : a'.tmps.getD 49 undef = _ := hdep 16 49 (Nat.le_of_ble_eq_true rfl) rfl rfl
          conv at e49 => rhs; whnf
          have f49 := e49; simp only [Array.getD_eq_getD_getElem?] at f49
          have e53 : a'.tmps.getD 53 undef = _ := hdep 20 53 (Nat.le_of_ble_eq_true rfl) rfl rfl
          conv at e53 => rhs; whnf
          have f53 := e53; simp only [Array.getD_eq_getD_getElem?] at f53
          refine wpOp_plain rfl rfl (fun K hK => ?_)
          go_simp
          exact hK _ _ ⟨_, rfl, Below.refl _ _, rfl⟩
        apply free_is
        · intro a' w' hLe hfr hdep
          have e54 : a'.tmps.getD 54 undef = _ := hdep 21 54 (Nat.le_of_ble_eq_true rfl) rfl rfl
          conv at e54 => rhs; whnf
          have f54 := e54; simp only [Array.getD_eq_getD_getElem?] at f54
          refine wpOp_plain rfl rfl (fun K hK => ?_)
          go_simp
          exact hK _ _ ⟨_, rfl, Below.refl _ _, rfl⟩
        apply free_is
        · intro a' w' hLe hfr hdep
          have e55 : a'.tmps.getD 55 undef = _ := hdep 22 55 (Nat.le_of_ble_eq_true rfl) rfl rfl
          conv at e55 => rhs; whnf
          have f55 := e55; simp only [Array.getD_eq_getD_getElem?] at f55
          exact wpOp_no rfl rfl rfl e55 ⟨_, rfl, Below.refl _ _, rfl⟩
        apply free_is
        · intro a' w' hLe hfr hdep
          have e55 : a'.tmps.getD 55 undef = _ := hdep 22 55 (Nat.le_of_ble_eq_true rfl) rfl rfl
          conv at e55 => rhs; whnf
          have f55 := e55; simp only [Array.getD_eq_getD_getElem?] at f55
          exact wpOp_no rfl rfl rfl e55 ⟨_, rfl, Below.refl _ _, rfl⟩
        apply free_is
        · intro a' w' hLe hfr hdep
          have e55 : a'.tmps.getD 55 undef = _ := hdep 22 55 (Nat.le_of_ble_eq_true rfl) rfl rfl
          conv at e55 => rhs; whnf
          have f55 := e55; simp only [Array.getD_eq_getD_getElem?] at f55
          exact wpOp_no rfl rfl rfl e55 ⟨_, rfl, Below.refl _ _, rfl⟩
        apply free_is
        · intro a' w' hLe hfr hdep
          have e58 : a'.tmps.getD 58 undef = _ := hdep 25 58 (Nat.le_of_ble_eq_true rfl) rfl rfl
          conv at e58 => rhs; whnf
          have f58 := e58; simp only [Array.getD_eq_getD_getElem?] at f58
          exact wpOp_un rfl rfl rfl e58 ⟨_, rfl, Below.refl _ _, rfl⟩
        apply free_is
        · intro a' w' hLe hfr hdep
          have e58 : a'.tmps.getD 58 undef = _ := hdep 25 58 (Nat.le_of_ble_eq_true rfl) rfl rfl
          conv at e58 => rhs; whnf
          have f58 := e58; simp only [Array.getD_eq_getD_getElem?] at f58
          exact wpOp_un rfl rfl rfl e58 ⟨_, rfl, Below.refl _ _, rfl⟩
        apply free_is
        · intro a' w' hLe hfr hdep
          have e58 : a'.tmps.getD 58 undef = _ := hdep 25 58 (Nat.le_of_ble_eq_true rfl) rfl rfl
          conv at e58 => rhs; whnf
          have f58 := e58; simp only [Array.getD_eq_getD_getElem?] at f58
          exact wpOp_un rfl rfl rfl e58 ⟨_, rfl, Below.refl _ _, rfl⟩
        apply free_is
        · intro a' w' hLe hfr hdep
          have e58 : a'.tmps.getD 58 undef = _ := hdep 25 58 (Nat.le_of_ble_eq_true rfl) rfl rfl
          conv at e58 => rhs; whnf
          have f58 := e58; simp only [Array.getD_eq_getD_getElem?] at f58
          exact wpOp_un rfl rfl rfl e58 ⟨_, rfl, Below.refl _ _, rfl⟩
        apply free_is
        · intro a' w' hLe hfr hdep
          have e58 : a'.tmps.getD 58 undef = _ := hdep 25 58 (Nat.le_of_ble_eq_true rfl) rfl rfl
          conv at e58 => rhs; whnf
          have f58 := e58; simp only [Array.getD_eq_getD_getElem?] at f58
          exact wpOp_un rfl rfl rfl e58 ⟨_, rfl, Below.refl _ _, rfl⟩
        apply free_is
        · intro a' w' hLe hfr hdep
          have e58 : a'.tmps.getD 58 undef = _ := hdep 25 58 (Nat.le_of_ble_eq_true rfl) rfl rfl
          conv at e58 => rhs; whnf
          have f58 := e58; simp only [Array.getD_eq_getD_getElem?] at f58
          exact wpOp_un rfl rfl rfl e58 ⟨_, rfl, Below.refl _ _, rfl⟩
        apply free_is
        · intro a' w' hLe hfr hdep
          have e58 : a'.tmps.getD 58 undef = _ := hdep 25 58 (Nat.le_of_ble_eq_true rfl) rfl rfl
          conv at e58 => rhs; whnf
          have f58 := e58; simp only [Array.getD_eq_getD_getElem?] at f58
          exact wpOp_un rfl rfl rfl e58 ⟨_, rfl, Below.refl _ _, rfl⟩
        apply free_is
        · intro a' w' hLe hfr hdep
          have e58 : a'.tmps.getD 58 undef = _ := hdep 25 58 (Nat.le_of_ble_eq_true rfl) rfl rfl
          conv at e58 => rhs; whnf
          have f58 := e58; simp only [Array.getD_eq_getD_getElem?] at f58
          exact wpOp_un rfl rfl rfl e58 ⟨_, rfl, Below.refl _ _, rfl⟩
        apply free_is
        · intro a' w' hLe hfr hdep
          have e58 : a'.tmps.getD 58 undef = _ := hdep 25 58 (Nat.le_of_ble_eq_true rfl) rfl rfl
          conv at e58 => rhs; whnf
          have f58 := e58; simp only [Array.getD_eq_getD_getElem?] at f58
          exact wpOp_un rfl rfl rfl e58 ⟨_, rfl, Below.refl _ _, rfl⟩
        apply free_is
        · intro a' w' hLe hfr hdep
          have e58 : a'.tmps.getD 58 undef = _ := hdep 25 58 (Nat.le_of_ble_eq_true rfl) rfl rfl
          conv at e58 => rhs; whnf
          have f58 := e58; simp only [Array.getD_eq_getD_getElem?] at f58
          exact wpOp_un rfl rfl rfl e58 ⟨_, rfl, Below.refl _ _, rfl⟩
        apply free_is
        · intro a' w' hLe hfr hdep
          have e55 : a'.tmps.getD 55 undef = _ := hdep 22 55 (Nat.le_of_ble_eq_true rfl) rfl rfl
          conv at e55 => rhs; whnf
          have f55 := e55; simp only [Array.getD_eq_getD_getElem?] at f55
          exact wpOp_no rfl rfl rfl e55 ⟨_, rfl, Below.refl _ _, rfl⟩
        apply free_is
        · intro a' w' hLe hfr hdep
          have e55 : a'.tmps.getD 55 undef = _ := hdep 22 55 (Nat.le_of_ble_eq_true rfl) rfl rfl
          conv at e55 => rhs; whnf
          have f55 := e55; simp only [Array.getD_eq_getD_getElem?] at f55
          have e69 : a'.tmps.getD 69 undef = _ := hdep 36 69 (Nat.le_of_ble_eq_true rfl) rfl rfl
          conv at e69 => rhs; whnf
          have f69 := e69; simp only [Array.getD_eq_getD_getElem?] at f69
          refine wpOp_plain rfl rfl (fun K hK => ?_)
          go_simp
          exact hK _ _ ⟨_, rfl, Below.refl _ _, rfl⟩
        apply free_nil
        intro vs w1 hb1 hT1
        have e33 : vs 0 = _ := hT1 0 33 rfl
        conv at e33 => rhs; whnf
        have e34 : vs 1 = _ := hT1 1 34 rfl
        conv at e34 => rhs; whnf
        have e35 : vs 2 = _ := hT1 2 35 rfl
        conv at e35 => rhs; whnf
        have e36 : vs 3 = _ := hT1 3 36 rfl
        conv at e36 => rhs; whnf
        have e37 : vs 4 = _ := hT1 4 37 rfl
        conv at e37 => rhs; whnf
        have e38 : vs 5 = _ := hT1 5 38 rfl
        conv at e38 => rhs; whnf
        have e39 : vs 6 = _ := hT1 6 39 rfl
        conv at e39 => rhs; whnf
        have e40 : vs 7 = _ := hT1 7 40 rfl
        conv at e40 => rhs; whnf
        have e41 : vs 8 = _ := hT1 8 41 rfl
        conv at e41 => rhs; whnf
        have e42 : vs 9 = _ := hT1 9 42 rfl
        conv at e42 => rhs; whnf
        have e43 : vs 10 = _ := hT1 10 43 rfl
        conv at e43 => rhs; whnf
        have e44 : vs 11 = _ := hT1 11 44 rfl
        conv at e44 => rhs; whnf
        have e45 : vs 12 = _ := hT1 12 45 rfl
        conv at e45 => rhs; whnf
        have e46 : vs 13 = _ := hT1 13 46 rfl
        conv at e46 => rhs; whnf
        have e47 : vs 14 = _ := hT1 14 47 rfl
        conv at e47 => rhs; whnf
        have e48 : vs 15 = _ := hT1 15 48 rfl
        conv at e48 => rhs; whnf
        have e49 : vs 16 = _ := hT1 16 49 rfl
        conv at e49 => rhs; whnf
        have e50 : vs 17 = _ := hT1 17 50 rfl
        conv at e50 => rhs; whnf
        have e51 : vs 18 = _ := hT1 18 51 rfl
        conv at e51 => rhs; whnf
        have e52 : vs 19 = _ := hT1 19 52 rfl
        conv at e52 => rhs; whnf
        have e53 : vs 20 = _ := hT1 20 53 rfl
        conv at e53 => rhs; whnf
        have e54 : vs 21 = _ := hT1 21 54 rfl
        conv at e54 => rhs; whnf
        have e55 : vs 22 = _ := hT1 22 55 rfl
        conv at e55 => rhs; whnf
        have e56 : vs 23 = _ := hT1 23 56 rfl
        conv at e56 => rhs; whnf
        have e57 : vs 24 = _ := hT1 24 57 rfl
        conv at e57 => rhs; whnf
        have e58 : vs 25 = _ := hT1 25 58 rfl
        conv at e58 => rhs; whnf
        have e59 : vs 26 = _ := hT1 26 59 rfl
        conv at e59 => rhs; whnf
        have e60 : vs 27 = _ := hT1 27 60 rfl
        conv at e60 => rhs; whnf
        have e61 : vs 28 = _ := hT1 28 61 rfl
        conv at e61 => rhs; whnf
        have e62 : vs 29 = _ := hT1 29 62 rfl
        conv at e62 => rhs; whnf
        have e63 : vs 30 = _ := hT1 30 63 rfl
        conv at e63 => rhs; whnf
        have e64 : vs 31 = _ := hT1 31 64 rfl
        conv at e64 => rhs; whnf
        have e65 : vs 32 = _ := hT1 32 65 rfl
        conv at e65 => rhs; whnf
        have e66 : vs 33 = _ := hT1 33 66 rfl
        conv at e66 => rhs; whnf
        have e67 : vs 34 = _ := hT1 34 67 rfl
        conv at e67 => rhs; whnf
        have e68 : vs 35 = _ := hT1 35 68 rfl
        conv at e68 => rhs; whnf
        have e69 : vs 36 = _ := hT1 36 69 rfl
        conv at e69 => rhs; whnf
        have e70 : vs 37 = _ := hT1 37 70 rfl
        conv at e70 => rhs; whnf
        simp only [putAll, List.drop_succ_cons, List.drop_zero, e33, e34, e35, e36, e37, e38, e39, e40, e41, e42, e43, e44, e45, e46, e47, e48, e49, e50, e51, e52, e53, e54, e55, e56, e57, e58, e59, e60, e61, e62, e63, e64, e65, e66, e67, e68, e69, e70]
        clear hT1 e33 e34 e35 e36 e37 e38 e39 e40 e41 e42 e43 e44 e45 e46 e47 e48 e49 e50 e51 e52 e53 e54 e55 e56 e57 e58 e59 e60 e61 e62 e63 e64 e65 e66 e67 e68 e69 e70
        go_simp
        go_wp2
        go_ret
        exact ⟨by rw [hno.out] <;> rfl, Below.tr (by (repeat (first | exact Below.refl _ _ | assumption | refine Below.al ?_ _ | refine Below.dr ?_ | (refine Below.st ?_ (by simp <;> omega) _) | (refine Below.tr ?_ (by assumption))))) hb1⟩
      | true =>
      have hask := fun (W : World) (hW : Below (wr.alloc (.cells #[.int .i64 (f0 k), .int .i64 (f1 k), .int .i64 (f2 k), .int .i64 (f3 k), .int .i64 (f4 k), .int .i64 (to k), .int .i64 (la k)] 81)).heap.size (wr.alloc (.cells #[.int .i64 (f0 k), .int .i64 (f1 k), .int .i64 (f2 k), .int .i64 (f3 k), .int .i64 (f4 k), .int .i64 (to k), .int .i64 (la k)] 81)) W) => ((hS.below hbel).below hW).ask (flow_wf h1)
      cases hs : inT f0 f1 f2 f3 f4 k (f0 k) (f1 k) (f2 k) (f3 k) (f4 k) with
      | true =>
        have hno := Lib.hid (tabVB_no (x0 := x0) (x1 := x1) (show k < n from hlt) (show taOk f0 f1 f2 f3 f4 to la k = false from taOk_seen hs))
        rw [hs] at hask
        clear hc hrow
        go_wp2
        refine wp_region_free (ds := [(0, 33), (1, 34), (2, 35), (3, 36), (4, 37), (5, 38), (6, 39), (7, 40), (8, 41), (9, 42), (10, 43), (11, 44), (12, 45), (13, 46), (14, 47), (15, 48), (16, 49), (17, 50), (18, 51), (19, 52), (20, 53), (21, 54), (22, 55), (23, 56), (24, 57), (25, 58), (26, 59), (27, 60), (28, 61), (29, 62), (30, 63), (31, 64), (32, 65), (33, 66), (34, 67), (35, 68), (36, 69), (37, 70)]) 38 (by kernel_rfl) (by kernel_rfl) (by first | exact .inl rfl | exact .inr (by kernel_rfl)) (by rfl) rfl rfl ?_
        apply free_is
        · intro a' w' hLe hfr hdep
          have e5 := hfr 5 rfl
          conv at e5 => rhs; whnf
          have f5 := e5; simp only [Array.getD_eq_getD_getElem?] at f5
          refine wpOp_plain rfl rfl (fun K hK => ?_)
          go_simp
          exact hK _ _ ⟨_, rfl, Below.refl _ _, rfl⟩
        apply free_is
        · intro a' w' hLe hfr hdep
          have e33 : a'.tmps.getD 33 undef = _ := hdep 0 33 (Nat.le_of_ble_eq_true rfl) rfl rfl
          conv at e33 => rhs; whnf
          have f33 := e33; simp only [Array.getD_eq_getD_getElem?] at f33
          have kc := fun i => keepc hLe (wr.heap.size) (by (try simp) <;> omega) i
          have kf := fun i => keepf hLe (wr.heap.size) (by (try simp) <;> omega) i
          have kz : wr.heap.size < w'.heap.size := (by have := hLe.size; (try simp at this); omega)
          refine wpOp_plain rfl rfl (fun K hK => ?_)
          go_simp
          exact hK _ _ ⟨_, rfl, Below.refl _ _, rfl⟩
        apply free_is
        · intro a' w' hLe hfr hdep
          have e34 : a'.tmps.getD 34 undef = _ := hdep 1 34 (Nat.le_of_ble_eq_true rfl) rfl rfl
          conv at e34 => rhs; whnf
          have f34 := e34; simp only [Array.getD_eq_getD_getElem?] at f34
          have kc := fun i => keepc hLe (wr.heap.size) (by (try simp) <;> omega) i
          have kf := fun i => keepf hLe (wr.heap.size) (by (try simp) <;> omega) i
          have kz : wr.heap.size < w'.heap.size := (by have := hLe.size; (try simp at this); omega)
          refine wpOp_plain rfl rfl (fun K hK => ?_)
          go_simp
          refine (implFlowValid_b _ _ _ _ _ _).mono ?_
          rintro e w2 ⟨rfl, hb⟩
          exact hK _ _ ⟨_, rfl, hb, rfl⟩
        apply free_is
        · intro a' w' hLe hfr hdep
          have e35 : a'.tmps.getD 35 undef = _ := hdep 2 35 (Nat.le_of_ble_eq_true rfl) rfl rfl
          conv at e35 => rhs; whnf
          have f35 := e35; simp only [Array.getD_eq_getD_getElem?] at f35
          refine wpOp_plain rfl rfl (fun K hK => ?_)
          go_simp
          exact hK _ _ ⟨_, rfl, Below.refl _ _, rfl⟩
        apply free_is
        · intro a' w' hLe hfr hdep
          have e36 : a'.tmps.getD 36 undef = _ := hdep 3 36 (Nat.le_of_ble_eq_true rfl) rfl rfl
          conv at e36 => rhs; whnf
          have f36 := e36; simp only [Array.getD_eq_getD_getElem?] at f36
          refine wpOp_plain rfl rfl (fun K hK => ?_)
          go_simp
          exact hK _ _ ⟨_, rfl, Below.refl _ _, rfl⟩
        apply free_is
        · intro a' w' hLe hfr hdep
          have e37 : a'.tmps.getD 37 undef = _ := hdep 4 37 (Nat.le_of_ble_eq_true rfl) rfl rfl
          conv at e37 => rhs; whnf
          have f37 := e37; simp only [Array.getD_eq_getD_getElem?] at f37
          have e3 := hfr 3 rfl
          conv at e3 => rhs; whnf
          have f3 := e3; simp only [Array.getD_eq_getD_getElem?] at f3
          refine wpOp_yes rfl rfl rfl e37 (fun K hK => ?_)
          go_simp
          exact hK _ _ ⟨_, rfl, Below.refl _ _, rfl⟩
        apply free_is
        · intro a' w' hLe hfr hdep
          have e37 : a'.tmps.getD 37 undef = _ := hdep 4 37 (Nat.le_of_ble_eq_true rfl) rfl rfl
          conv at e37 => rhs; whnf
          have f37 := e37; simp only [Array.getD_eq_getD_getElem?] at f37
          have e5 := hfr 5 rfl
          conv at e5 => rhs; whnf
          have f5 := e5; simp only [Array.getD_eq_getD_getElem?] at f5
          refine wpOp_yes rfl rfl rfl e37 (fun K hK => ?_)
          go_simp
          exact hK _ _ ⟨_, rfl, Below.refl _ _, rfl⟩
        apply free_is
        · intro a' w' hLe hfr hdep
          have e37 : a'.tmps.getD 37 undef = _ := hdep 4 37 (Nat.le_of_ble_eq_true rfl) rfl rfl
          conv at e37 => rhs; whnf
          have f37 := e37; simp only [Array.getD_eq_getD_getElem?] at f37
          have e39 : a'.tmps.getD 39 undef = _ := hdep 6 39 (Nat.le_of_ble_eq_true rfl) rfl rfl
          conv at e39 => rhs; whnf
          have f39 := e39; simp only [Array.getD_eq_getD_getElem?] at f39
          have kc := fun i => keepc hLe (wr.heap.size) (by (try simp) <;> omega) i
          have kf := fun i => keepf hLe (wr.heap.size) (by (try simp) <;> omega) i
          have kz : wr.heap.size < w'.heap.size := (by have := hLe.size; (try simp at this); omega)
          refine wpOp_yes rfl rfl rfl e37 (fun K hK => ?_)
          go_simp
          exact hK _ _ ⟨_, rfl, Below.refl _ _, rfl⟩
        apply free_is
        · intro a' w' hLe hfr hdep
          have e37 : a'.tmps.getD 37 undef = _ := hdep 4 37 (Nat.le_of_ble_eq_true rfl) rfl rfl
          conv at e37 => rhs; whnf
          have f37 := e37; simp only [Array.getD_eq_getD_getElem?] at f37
          have e38 : a'.tmps.getD 38 undef = _ := hdep 5 38 (Nat.le_of_ble_eq_true rfl) rfl rfl
          conv at e38 => rhs; whnf
          have f38 := e38; simp only [Array.getD_eq_getD_getElem?] at f38
          have e40 : a'.tmps.getD 40 undef = _ := hdep 7 40 (Nat.le_of_ble_eq_true rfl) rfl rfl
          conv at e40 => rhs; whnf
          have f40 := e40; simp only [Array.getD_eq_getD_getElem?] at f40
          have hlk := hask w' hLe
          refine wpOp_yes rfl rfl rfl e37 (fun K hK => ?_)
          go_simp
          exact hK _ _ ⟨_, rfl, Below.refl _ _, rfl⟩
        apply free_is
        · intro a' w' hLe hfr hdep
          have e37 : a'.tmps.getD 37 undef = _ := hdep 4 37 (Nat.le_of_ble_eq_true rfl) rfl rfl
          conv at e37 => rhs; whnf
          have f37 := e37; simp only [Array.getD_eq_getD_getElem?] at f37
          have e41 : a'.tmps.getD 41 undef = _ := hdep 8 41 (Nat.le_of_ble_eq_true rfl) rfl rfl
          conv at e41 => rhs; whnf
          have f41 := e41; simp only [Array.getD_eq_getD_getElem?] at f41
          refine wpOp_plain rfl rfl (fun K hK => ?_)
          go_simp
          exact hK _ _ ⟨_, rfl, Below.refl _ _, rfl⟩
        apply free_is
        · intro a' w' hLe hfr hdep
          have e42 : a'.tmps.getD 42 undef = _ := hdep 9 42 (Nat.le_of_ble_eq_true rfl) rfl rfl
          conv at e42 => rhs; whnf
          have f42 := e42; simp only [Array.getD_eq_getD_getElem?] at f42
          refine wpOp_plain rfl rfl (fun K hK => ?_)
          go_simp
          exact hK _ _ ⟨_, rfl, Below.refl _ _, rfl⟩
        apply free_is
        · intro a' w' hLe hfr hdep
          have e43 : a'.tmps.getD 43 undef = _ := hdep 10 43 (Nat.le_of_ble_eq_true rfl) rfl rfl
          conv at e43 => rhs; whnf
          have f43 := e43; simp only [Array.getD_eq_getD_getElem?] at f43
          exact wpOp_no rfl rfl rfl e43 ⟨_, rfl, Below.refl _ _, rfl⟩
        apply free_is
        · intro a' w' hLe hfr hdep
          have e43 : a'.tmps.getD 43 undef = _ := hdep 10 43 (Nat.le_of_ble_eq_true rfl) rfl rfl
          conv at e43 => rhs; whnf
          have f43 := e43; simp only [Array.getD_eq_getD_getElem?] at f43
          exact wpOp_no rfl rfl rfl e43 ⟨_, rfl, Below.refl _ _, rfl⟩
        apply free_is
        · intro a' w' hLe hfr hdep
          have e43 : a'.tmps.getD 43 undef = _ := hdep 10 43 (Nat.le_of_ble_eq_true rfl) rfl rfl
          conv at e43 => rhs; whnf
          have f43 := e43; simp only [Array.getD_eq_getD_getElem?] at f43
          exact wpOp_no rfl rfl rfl e43 ⟨_, rfl, Below.refl _ _, rfl⟩
        apply free_is
        · intro a' w' hLe hfr hdep
          have e43 : a'.tmps.getD 43 undef = _ := hdep 10 43 (Nat.le_of_ble_eq_true rfl) rfl rfl
          conv at e43 => rhs; whnf
          have f43 := e43; simp only [Array.getD_eq_getD_getElem?] at f43
          exact wpOp_no rfl rfl rfl e43 ⟨_, rfl, Below.refl _ _, rfl⟩
        apply free_is
        · intro a' w' hLe hfr hdep
          have e43 : a'.tmps.getD 43 undef = _ := hdep 10 43 (Nat.le_of_ble_eq_true rfl) rfl rfl
          conv at e43 => rhs; whnf
          have f43 := e43; simp only [Array.getD_eq_getD_getElem?] at f43
          have e47 : a'.tmps.getD 47 undef = _ := hdep 14 47 (Nat.le_of_ble_eq_true rfl) rfl rfl
          conv at e47 => rhs; whnf
          have f47 := e47; simp only [Array.getD_eq_getD_getElem?] at f47
          refine wpOp_plain rfl rfl (fun K hK => ?_)
          go_simp
          exact hK _ _ ⟨_, rfl, Below.refl _ _, rfl⟩
        apply free_is
        · intro a' w' hLe hfr hdep
          have e48 : a'.tmps.getD 48 undef = _ := hdep 15 48 (Nat.le_of_ble_eq_true rfl) rfl rfl
          conv at e48 => rhs; whnf
          have f48 := e48; simp only [Array.getD_eq_getD_getElem?] at f48
          refine wpOp_plain rfl rfl (fun K hK => ?_)
          go_simp
          exact hK _ _ ⟨_, rfl, Below.refl _ _, rfl⟩
        apply free_is
        · intro a' w' hLe hfr hdep
          have e49 : a'.tmps.getD 49 undef = _ := hdep 16 49 (Nat.le_of_ble_eq_true rfl) rfl rfl
          conv at e49 => rhs; whnf
          have f49 := e49; simp only [Array.getD_eq_getD_getElem?] at f49
          exact wpOp_no rfl rfl rfl e49 ⟨_, rfl, Below.refl _ _, rfl⟩
        apply free_is
        · intro a' w' hLe hfr hdep
          have e49 : a'.tmps.getD 49 undef = _ := hdep 16 49 (Nat.le_of_ble_eq_true rfl) rfl rfl
          conv at e49 => rhs; whnf
          have f49 := e49; simp only [Array.getD_eq_getD_getElem?] at f49
          exact wpOp_no rfl rfl rfl e49 ⟨_, rfl, Below.refl _ _, rfl⟩
        apply free_is
        · intro a' w' hLe hfr hdep
          have e49 : a'.tmps.getD 49 undef = _ := hdep 16 49 (Nat.le_of_ble_eq_true rfl) rfl rfl
          conv at e49 => rhs; whnf
          have f49 := e49; simp only [Array.getD_eq_getD_getElem?] at f49
          exact wpOp_no rfl rfl rfl e49 ⟨_, rfl, Below.refl _ _, rfl⟩
        apply free_is
        · intro a' w' hLe hfr hdep
          have e49 : a'.tmps.getD 49 undef = _ := hdep 16 49 (Nat.le_of_ble_eq_true rfl) rfl rfl
          conv at e49 => rhs; whnf
          have f49 := e49; simp only [Array.getD_eq_getD_getElem?] at f49
          exact wpOp_no rfl rfl rfl e49 ⟨_, rfl, Below.refl _ _, rfl⟩
        apply free_is
        · intro a' w' hLe hfr hdep
          have e49 : a'.tmps.getD 49 undef = _ := hdep 16 49 (Nat.le_of_ble_eq_true rfl) rfl rfl
          conv at e49 => rhs; whnf
          have f49 := e49; simp only [Array.getD_eq_getD_getElem?] at f49
          have e53 : a'.tmps.getD 53 undef = _ := hdep 20 53 (Nat.le_of_ble_eq_true rfl) rfl rfl
          conv at e53 => rhs; whnf
          have f53 := e53; simp only [Array.getD_eq_getD_getElem?] at f53
          refine wpOp_plain rfl rfl (fun K hK => ?_)
          go_simp
          exact hK _ _ ⟨_, rfl, Below.refl _ _, rfl⟩
        apply free_is
        · intro a' w' hLe hfr hdep
          have e54 : a'.tmps.getD 54 undef = _ := hdep 21 54 (Nat.le_of_ble_eq_true rfl) rfl rfl
          conv at e54 => rhs; whnf
          have f54 := e54; simp only [Array.getD_eq_getD_getElem?] at f54
          refine wpOp_plain rfl rfl (fun K hK => ?_)
          go_simp
          exact hK _ _ ⟨_, rfl, Below.refl _ _, rfl⟩
        apply free_is
        · intro a' w' hLe hfr hdep
          have e55 : a'.tmps.getD 55 undef = _ := hdep 22 55 (Nat.le_of_ble_eq_true rfl) rfl rfl
          conv at e55 => rhs; whnf
          have f55 := e55; simp only [Array.getD_eq_getD_getElem?] at f55
          exact wpOp_no rfl rfl rfl e55 ⟨_, rfl, Below.refl _ _, rfl⟩
        apply free_is
        · intro a' w' hLe hfr hdep
          have e55 : a'.tmps.getD 55 undef = _ := hdep 22 55 (Nat.le_of_ble_eq_true rfl) rfl rfl
          conv at e55 => rhs; whnf
          have f55 := e55; simp only [Array.getD_eq_getD_getElem?] at f55
          exact wpOp_no rfl rfl rfl e55 ⟨_, rfl, Below.refl _ _, rfl⟩
        apply free_is
        · intro a' w' hLe hfr hdep
          have e55 : a'.tmps.getD 55 undef = _ := hdep 22 55 (Nat.le_of_ble_eq_true rfl) rfl rfl
          conv at e55 => rhs; whnf
          have f55 := e55; simp only [Array.getD_eq_getD_getElem?] at f55
          exact wpOp_no rfl rfl rfl e55 ⟨_, rfl, Below.refl _ _, rfl⟩
        apply free_is
        · intro a' w' hLe hfr hdep
          have e58 : a'.tmps.getD 58 undef = _ := hdep 25 58 (Nat.le_of_ble_eq_true rfl) rfl rfl
          conv at e58 => rhs; whnf
          have f58 := e58; simp only [Array.getD_eq_getD_getElem?] at f58
          exact wpOp_un rfl rfl rfl e58 ⟨_, rfl, Below.refl _ _, rfl⟩
        apply free_is
        · intro a' w' hLe hfr hdep
          have e58 : a'.tmps.getD 58 undef = _ := hdep 25 58 (Nat.le_of_ble_eq_true rfl) rfl rfl
          conv at e58 => rhs; whnf
          have f58 := e58; simp only [Array.getD_eq_getD_getElem?] at f58
          exact wpOp_un rfl rfl rfl e58 ⟨_, rfl, Below.refl _ _, rfl⟩
        apply free_is
        · intro a' w' hLe hfr hdep
          have e58 : a'.tmps.getD 58 undef = _ := hdep 25 58 (Nat.le_of_ble_eq_true rfl) rfl rfl
          conv at e58 => rhs; whnf
          have f58 := e58; simp only [Array.getD_eq_getD_getElem?] at f58
          exact wpOp_un rfl rfl rfl e58 ⟨_, rfl, Below.refl _ _, rfl⟩
        apply free_is
        · intro a' w' hLe hfr hdep
          have e58 : a'.tmps.getD 58 undef = _ := hdep 25 58 (Nat.le_of_ble_eq_true rfl) rfl rfl
          conv at e58 => rhs; whnf
          have f58 := e58; simp only [Array.getD_eq_getD_getElem?] at f58
          exact wpOp_un rfl rfl rfl e58 ⟨_, rfl, Below.refl _ _, rfl⟩
        apply free_is
        · intro a' w' hLe hfr hdep
          have e58 : a'.tmps.getD 58 undef = _ := hdep 25 58 (Nat.le_of_ble_eq_true rfl) rfl rfl
          conv at e58 => rhs; whnf
          have f58 := e58; simp only [Array.getD_eq_getD_getElem?] at f58
          exact wpOp_un rfl rfl rfl e58 ⟨_, rfl, Below.refl _ _, rfl⟩
        apply free_is
        · intro a' w' hLe hfr hdep
          have e58 : a'.tmps.getD 58 undef = _ := hdep 25 58 (Nat.le_of_ble_eq_true rfl) rfl rfl
          conv at e58 => rhs; whnf
          have f58 := e58; simp only [Array.getD_eq_getD_getElem?] at f58
          exact wpOp_un rfl rfl rfl e58 ⟨_, rfl, Below.refl _ _, rfl⟩
        apply free_is
        · intro a' w' hLe hfr hdep
          have e58 : a'.tmps.getD 58 undef = _ := hdep 25 58 (Nat.le_of_ble_eq_true rfl) rfl rfl
          conv at e58 => rhs; whnf
          have f58 := e58; simp only [Array.getD_eq_getD_getElem?] at f58
          exact wpOp_un rfl rfl rfl e58 ⟨_, rfl, Below.refl _ _, rfl⟩
        apply free_is
        · intro a' w' hLe hfr hdep
          have e58 : a'.tmps.getD 58 undef = _ := hdep 25 58 (Nat.le_of_ble_eq_true rfl) rfl rfl
          conv at e58 => rhs; whnf
          have f58 := e58; simp only [Array.getD_eq_getD_getElem?] at f58
          exact wpOp_un rfl rfl rfl e58 ⟨_, rfl, Below.refl _ _, rfl⟩
        apply free_is
        · intro a' w' hLe hfr hdep
          have e58 : a'.tmps.getD 58 undef = _ := hdep 25 58 (Nat.le_of_ble_eq_true rfl) rfl rfl
          conv at e58 => rhs; whnf
          have f58 := e58; simp only [Array.getD_eq_getD_getElem?] at f58
          exact wpOp_un rfl rfl rfl e58 ⟨_, rfl, Below.refl _ _, rfl⟩
        apply free_is
        · intro a' w' hLe hfr hdep
          have e58 : a'.tmps.getD 58 undef = _ := hdep 25 58 (Nat.le_of_ble_eq_true rfl) rfl rfl
          conv at e58 => rhs; whnf
          have f58 := e58; simp only [Array.getD_eq_getD_getElem?] at f58
          exact wpOp_un rfl rfl rfl e58 ⟨_, rfl, Below.refl _ _, rfl⟩
        apply free_is
        · intro a' w' hLe hfr hdep
          have e55 : a'.tmps.getD 55 undef = _ := hdep 22 55 (Nat.le_of_ble_eq_true rfl) rfl rfl
          conv at e55 => rhs; whnf
          have f55 := e55; simp only [Array.getD_eq_getD_getElem?] at f55
          exact wpOp_no rfl rfl rfl e55 ⟨_, rfl, Below.refl _ _, rfl⟩
        apply free_is
        · intro a' w' hLe hfr hdep
          have e55 : a'.tmps.getD 55 undef = _ := hdep 22 55 (Nat.le_of_ble_eq_true rfl) rfl rfl
          conv at e55 => rhs; whnf
          have f55 := e55; simp only [Array.getD_eq_getD_getElem?] at f55
          have e69 : a'.tmps.getD 69 undef = _ := hdep 36 69 (Nat.le_of_ble_eq_true rfl) rfl rfl
          conv at e69 => rhs; whnf
          have f69 := e69; simp only [Array.getD_eq_getD_getElem?] at f69
          refine wpOp_plain rfl rfl (fun K hK => ?_)
          go_simp
          exact hK _ _ ⟨_, rfl, Below.refl _ _, rfl⟩
        apply free_nil
        intro vs w1 hb1 hT1
        have e33 : vs 0 = _ := hT1 0 33 rfl
        conv at e33 => rhs; whnf
        have e34 : vs 1 = _ := hT1 1 34 rfl
        conv at e34 => rhs; whnf
        have e35 : vs 2 = _ := hT1 2 35 rfl
        conv at e35 => rhs; whnf
        have e36 : vs 3 = _ := hT1 3 36 rfl
        conv at e36 => rhs; whnf
        have e37 : vs 4 = _ := hT1 4 37 rfl
        conv at e37 => rhs; whnf
        have e38 : vs 5 = _ := hT1 5 38 rfl
        conv at e38 => rhs; whnf
        have e39 : vs 6 = _ := hT1 6 39 rfl
        conv at e39 => rhs; whnf
        have e40 : vs 7 = _ := hT1 7 40 rfl
        conv at e40 => rhs; whnf
        have e41 : vs 8 = _ := hT1 8 41 rfl
        conv at e41 => rhs; whnf
        have e42 : vs 9 = _ := hT1 9 42 rfl
        conv at e42 => rhs; whnf
        have e43 : vs 10 = _ := hT1 10 43 rfl
        conv at e43 => rhs; whnf
        have e44 : vs 11 = _ := hT1 11 44 rfl
        conv at e44 => rhs; whnf
        have e45 : vs 12 = _ := hT1 12 45 rfl
        conv at e45 => rhs; whnf
        have e46 : vs 13 = _ := hT1 13 46 rfl
        conv at e46 => rhs; whnf
        have e47 : vs 14 = _ := hT1 14 47 rfl
        conv at e47 => rhs; whnf
        have e48 : vs 15 = _ := hT1 15 48 rfl
        conv at e48 => rhs; whnf
        have e49 : vs 16 = _ := hT1 16 49 rfl
        conv at e49 => rhs; whnf
        have e50 : vs 17 = _ := hT1 17 50 rfl
        conv at e50 => rhs; whnf
        have e51 : vs 18 = _ := hT1 18 51 rfl
        conv at e51 => rhs; whnf
        have e52 : vs 19 = _ := hT1 19 52 rfl
        conv at e52 => rhs; whnf
        have e53 : vs 20 = _ := hT1 20 53 rfl
        conv at e53 => rhs; whnf
        have e54 : vs 21 = _ := hT1 21 54 rfl
        conv at e54 => rhs; whnf
        have e55 : vs 22 = _ := hT1 22 55 rfl
        conv at e55 => rhs; whnf
        have e56 : vs 23 = _ := hT1 23 56 rfl
        conv at e56 => rhs; whnf
        have e57 : vs 24 = _ := hT1 24 57 rfl
        conv at e57 => rhs; whnf
        have e58 : vs 25 = _ := hT1 25 58 rfl
        conv at e58 => rhs; whnf
        have e59 : vs 26 = _ := hT1 26 59 rfl
        conv at e59 => rhs; whnf
        have e60 : vs 27 = _ := hT1 27 60 rfl
        conv at e60 => rhs; whnf
        have e61 : vs 28 = _ := hT1 28 61 rfl
        conv at e61 => rhs; whnf
        have e62 : vs 29 = _ := hT1 29 62 rfl
        conv at e62 => rhs; whnf
        have e63 : vs 30 = _ := hT1 30 63 rfl
        conv at e63 => rhs; whnf
        have e64 : vs 31 = _ := hT1 31 64 rfl
        conv at e64 => rhs; whnf
        have e65 : vs 32 = _ := hT1 32 65 rfl
        conv at e65 => rhs; whnf
        have e66 : vs 33 = _ := hT1 33 66 rfl
        conv at e66 => rhs; whnf
        have e67 : vs 34 = _ := hT1 34 67 rfl
        conv at e67 => rhs; whnf
        have e68 : vs 35 = _ := hT1 35 68 rfl
        conv at e68 => rhs; whnf
        have e69 : vs 36 = _ := hT1 36 69 rfl
        conv at e69 => rhs; whnf
        have e70 : vs 37 = _ := hT1 37 70 rfl
        conv at e70 => rhs; whnf
        simp only [putAll, List.drop_succ_cons, List.drop_zero, e33, e34, e35, e36, e37, e38, e39, e40, e41, e42, e43, e44, e45, e46, e47, e48, e49, e50, e51, e52, e53, e54, e55, e56, e57, e58, e59, e60, e61, e62, e63, e64, e65, e66, e67, e68, e69, e70]
        clear hT1 e33 e34 e35 e36 e37 e38 e39 e40 e41 e42 e43 e44 e45 e46 e47 e48 e49 e50 e51 e52 e53 e54 e55 e56 e57 e58 e59 e60 e61 e62 e63 e64 e65 e66 e67 e68 e69 e70
        go_simp
        go_wp2
        go_ret
        exact ⟨by rw [hno.out] <;> rfl, Below.tr (by (repeat (first | exact Below.refl _ _ | assumption | refine Below.al ?_ _ | refine Below.dr ?_ | (refine Below.st ?_ (by simp <;> omega) _) | (refine Below.tr ?_ (by assumption))))) hb1⟩
      | false =>
        rw [hs] at hask
        cases h2 : inB (to k) 0 30 with
        | false =>
          have hno := Lib.hid (tabVB_no (x0 := x0) (x1 := x1) (show k < n from hlt) (show taOk f0 f1 f2 f3 f4 to la k = false from taOk_en (by simp [enOk, h2])))
          clear hc hrow
          go_wp2
          refine wp_region_free (ds := [(0, 33), (1, 34), (2, 35), (3, 36), (4, 37), (5, 38), (6, 39), (7, 40), (8, 41), (9, 42), (10, 43), (11, 44), (12, 45), (13, 46), (14, 47), (15, 48), (16, 49), (17, 50), (18, 51), (19, 52), (20, 53), (21, 54), (22, 55), (23, 56), (24, 57), (25, 58), (26, 59), (27, 60), (28, 61), (29, 62), (30, 63), (31, 64), (32, 65), (33, 66), (34, 67), (35, 68), (36, 69), (37, 70)]) 38 (by kernel_rfl) (by kernel_rfl) (by first | exact .inl rfl | exact .inr (by kernel_rfl)) (by rfl) rfl rfl ?_
          apply free_is
          · intro a' w' hLe hfr hdep
            have e5 := hfr 5 rfl
            conv at e5 => rhs; whnf
            have f5 := e5; simp only [Array.getD_eq_getD_getElem?] at f5
            refine wpOp_plain rfl rfl (fun K hK => ?_)
            go_simp
            exact hK _ _ ⟨_, rfl, Below.refl _ _, rfl⟩
          apply free_is
          · intro a' w' hLe hfr hdep
            have e33 : a'.tmps.getD 33 undef = _ := hdep 0 33 (Nat.le_of_ble_eq_true rfl) rfl rfl
            conv at e33 => rhs; whnf
            have f33 := e33; simp only [Array.getD_eq_getD_getElem?] at f33
            have kc := fun i => keepc hLe (wr.heap.size) (by (try simp) <;> omega) i
            have kf := fun i => keepf hLe (wr.heap.size) (by (try simp) <;> omega) i
            have kz : wr.heap.size < w'.heap.size := (by have := hLe.size; (try simp at this); omega)
            refine wpOp_plain rfl rfl (fun K hK => ?_)
            go_simp
            exact hK _ _ ⟨_, rfl, Below.refl _ _, rfl⟩
          apply free_is
          · intro a' w' hLe hfr hdep
            have e34 : a'.tmps.getD 34 undef = _ := hdep 1 34 (Nat.le_of_ble_eq_true rfl) rfl rfl
            conv at e34 => rhs; whnf
            have f34 := e34; simp only [Array.getD_eq_getD_getElem?] at f34
            have kc := fun i => keepc hLe (wr.heap.size) (by (try simp) <;> omega) i
            have kf := fun i => keepf hLe (wr.heap.size) (by (try simp) <;> omega) i
            have kz : wr.heap.size < w'.heap.size := (by have := hLe.size; (try simp at this); omega)
            refine wpOp_plain rfl rfl (fun K hK => ?_)
            go_simp
            refine (implFlowValid_b _ _ _ _ _ _).mono ?_
            rintro e w2 ⟨rfl, hb⟩
            exact hK _ _ ⟨_, rfl, hb, rfl⟩
          apply free_is
          · intro a' w' hLe hfr hdep
            have e35 : a'.tmps.getD 35 undef = _ := hdep 2 35 (Nat.le_of_ble_eq_true rfl) rfl rfl
            conv at e35 => rhs; whnf
            have f35 := e35; simp only [Array.getD_eq_getD_getElem?] at f35
            refine wpOp_plain rfl rfl (fun K hK => ?_)
            go_simp
            exact hK _ _ ⟨_, rfl, Below.refl _ _, rfl⟩
          apply free_is
          · intro a' w' hLe hfr hdep
            have e36 : a'.tmps.getD 36 undef = _ := hdep 3 36 (Nat.le_of_ble_eq_true rfl) rfl rfl
            conv at e36 => rhs; whnf
            have f36 := e36; simp only [Array.getD_eq_getD_getElem?] at f36
            refine wpOp_plain rfl rfl (fun K hK => ?_)
            go_simp
            exact hK _ _ ⟨_, rfl, Below.refl _ _, rfl⟩
          apply free_is
          · intro a' w' hLe hfr hdep
            have e37 : a'.tmps.getD 37 undef = _ := hdep 4 37 (Nat.le_of_ble_eq_true rfl) rfl rfl
            conv at e37 => rhs; whnf
            have f37 := e37; simp only [Array.getD_eq_getD_getElem?] at f37
            have e3 := hfr 3 rfl
            conv at e3 => rhs; whnf
            have f3 := e3; simp only [Array.getD_eq_getD_getElem?] at f3
            refine wpOp_yes rfl rfl rfl e37 (fun K hK => ?_)
            go_simp
            exact hK _ _ ⟨_, rfl, Below.refl _ _, rfl⟩
          apply free_is
          · intro a' w' hLe hfr hdep
            have e37 : a'.tmps.getD 37 undef = _ := hdep 4 37 (Nat.le_of_ble_eq_true rfl) rfl rfl
            conv at e37 => rhs; whnf
            have f37 := e37; simp only [Array.getD_eq_getD_getElem?] at f37
            have e5 := hfr 5 rfl
            conv at e5 => rhs; whnf
            have f5 := e5; simp only [Array.getD_eq_getD_getElem?] at f5
            refine wpOp_yes rfl rfl rfl e37 (fun K hK => ?_)
            go_simp
            exact hK _ _ ⟨_, rfl, Below.refl _ _, rfl⟩
          apply free_is
          · intro a' w' hLe hfr hdep
            have e37 : a'.tmps.getD 37 undef = _ := hdep 4 37 (Nat.le_of_ble_eq_true rfl) rfl rfl
            conv at e37 => rhs; whnf
            have f37 := e37; simp only [Array.getD_eq_getD_getElem?] at f37
            have e39 : a'.tmps.getD 39 undef = _ := hdep 6 39 (Nat.le_of_ble_eq_true rfl) rfl rfl
            conv at e39 => rhs; whnf
            have f39 := e39; simp only [Array.getD_eq_getD_getElem?] at f39
            have kc := fun i => keepc hLe (wr.heap.size) (by (try simp) <;> omega) i
            have kf := fun i => keepf hLe (wr.heap.size) (by (try simp) <;> omega) i
            have kz : wr.heap.size < w'.heap.size := (by have := hLe.size; (try simp at this); omega)
            refine wpOp_yes rfl rfl rfl e37 (fun K hK => ?_)
            go_simp
            exact hK _ _ ⟨_, rfl, Below.refl _ _, rfl⟩
          apply free_is
          · intro a' w' hLe hfr hdep
            have e37 : a'.tmps.getD 37 undef = _ := hdep 4 37 (Nat.le_of_ble_eq_true rfl) rfl rfl
            conv at e37 => rhs; whnf
            have f37 := e37; simp only [Array.getD_eq_getD_getElem?] at f37
            have e38 : a'.tmps.getD 38 undef = _ := hdep 5 38 (Nat.le_of_ble_eq_true rfl) rfl rfl
            conv at e38 => rhs; whnf
            have f38 := e38; simp only [Array.getD_eq_getD_getElem?] at f38
            have e40 : a'.tmps.getD 40 undef = _ := hdep 7 40 (Nat.le_of_ble_eq_true rfl) rfl rfl
            conv at e40 => rhs; whnf
            have f40 := e40; simp only [Array.getD_eq_getD_getElem?] at f40
            have hlk := hask w' hLe
            refine wpOp_yes rfl rfl rfl e37 (fun K hK => ?_)
            go_simp
            exact hK _ _ ⟨_, rfl, Below.refl _ _, rfl⟩
          apply free_is
          · intro a' w' hLe hfr hdep
            have e37 : a'.tmps.getD 37 undef = _ := hdep 4 37 (Nat.le_of_ble_eq_true rfl) rfl rfl
            conv at e37 => rhs; whnf
            have f37 := e37; simp only [Array.getD_eq_getD_getElem?] at f37
            have e41 : a'.tmps.getD 41 undef = _ := hdep 8 41 (Nat.le_of_ble_eq_true rfl) rfl rfl
            conv at e41 => rhs; whnf
            have f41 := e41; simp only [Array.getD_eq_getD_getElem?] at f41
            refine wpOp_plain rfl rfl (fun K hK => ?_)
            go_simp
            exact hK _ _ ⟨_, rfl, Below.refl _ _, rfl⟩
          apply free_is
          · intro a' w' hLe hfr hdep
            have e42 : a'.tmps.getD 42 undef = _ := hdep 9 42 (Nat.le_of_ble_eq_true rfl) rfl rfl
            conv at e42 => rhs; whnf
            have f42 := e42; simp only [Array.getD_eq_getD_getElem?] at f42
            refine wpOp_plain rfl rfl (fun K hK => ?_)
            go_simp
            exact hK _ _ ⟨_, rfl, Below.refl _ _, rfl⟩
          apply free_is
          · intro a' w' hLe hfr hdep
            have e43 : a'.tmps.getD 43 undef = _ := hdep 10 43 (Nat.le_of_ble_eq_true rfl) rfl rfl
            conv at e43 => rhs; whnf
            have f43 := e43; simp only [Array.getD_eq_getD_getElem?] at f43
            have e5 := hfr 5 rfl
            conv at e5 => rhs; whnf
            have f5 := e5; simp only [Array.getD_eq_getD_getElem?] at f5
            refine wpOp_yes rfl rfl rfl e43 (fun K hK => ?_)
            go_simp
            exact hK _ _ ⟨_, rfl, Below.refl _ _, rfl⟩
          apply free_is
          · intro a' w' hLe hfr hdep
            have e43 : a'.tmps.getD 43 undef = _ := hdep 10 43 (Nat.le_of_ble_eq_true rfl) rfl rfl
            conv at e43 => rhs; whnf
            have f43 := e43; simp only [Array.getD_eq_getD_getElem?] at f43
            have e44 : a'.tmps.getD 44 undef = _ := hdep 11 44 (Nat.le_of_ble_eq_true rfl) rfl rfl
            conv at e44 => rhs; whnf
            have f44 := e44; simp only [Array.getD_eq_getD_getElem?] at f44
            have kc := fun i => keepc hLe (wr.heap.size) (by (try simp) <;> omega) i
            have kf := fun i => keepf hLe (wr.heap.size) (by (try simp) <;> omega) i
            have kz : wr.heap.size < w'.heap.size := (by have := hLe.size; (try simp at this); omega)
            refine wpOp_yes rfl rfl rfl e43 (fun K hK => ?_)
            go_simp
            exact hK _ _ ⟨_, rfl, Below.refl _ _, rfl⟩
          apply free_is
          · intro a' w' hLe hfr hdep
            have e43 : a'.tmps.getD 43 undef = _ := hdep 10 43 (Nat.le_of_ble_eq_true rfl) rfl rfl
            conv at e43 => rhs; whnf
            have f43 := e43; simp only [Array.getD_eq_getD_getElem?] at f43
            have e45 : a'.tmps.getD 45 undef = _ := hdep 12 45 (Nat.le_of_ble_eq_true rfl) rfl rfl
            conv at e45 => rhs; whnf
            have f45 := e45; simp only [Array.getD_eq_getD_getElem?] at f45
            have kc := fun i => keepc hLe (wr.heap.size) (by (try simp) <;> omega) i
            have kf := fun i => keepf hLe (wr.heap.size) (by (try simp) <;> omega) i
            have kz : wr.heap.size < w'.heap.size := (by have := hLe.size; (try simp at this); omega)
            refine wpOp_yes rfl rfl rfl e43 (fun K hK => ?_)
            go_simp
            refine (in_any _ _ _ _).mono ?_
            rintro e w2 ⟨rfl, rfl⟩
            exact hK _ _ ⟨_, rfl, Below.refl _ _, rfl⟩
          apply free_is
          · intro a' w' hLe hfr hdep
            have e43 : a'.tmps.getD 43 undef = _ := hdep 10 43 (Nat.le_of_ble_eq_true rfl) rfl rfl
            conv at e43 => rhs; whnf
            have f43 := e43; simp only [Array.getD_eq_getD_getElem?] at f43
            have e46 : a'.tmps.getD 46 undef = _ := hdep 13 46 (Nat.le_of_ble_eq_true rfl) rfl rfl
            conv at e46 => rhs; whnf
            have f46 := e46; simp only [Array.getD_eq_getD_getElem?] at f46
            refine wpOp_yes rfl rfl rfl e43 (fun K hK => ?_)
            go_simp
            exact hK _ _ ⟨_, rfl, Below.refl _ _, rfl⟩
          apply free_is
          · intro a' w' hLe hfr hdep
            have e43 : a'.tmps.getD 43 undef = _ := hdep 10 43 (Nat.le_of_ble_eq_true rfl) rfl rfl
            conv at e43 => rhs; whnf
            have f43 := e43; simp only [Array.getD_eq_getD_getElem?] at f43
            have e47 : a'.tmps.getD 47 undef = _ := hdep 14 47 (Nat.le_of_ble_eq_true rfl) rfl rfl
            conv at e47 => rhs; whnf
            have f47 := e47; simp only [Array.getD_eq_getD_getElem?] at f47
            refine wpOp_plain rfl rfl (fun K hK => ?_)
            go_simp
            exact hK _ _ ⟨_, rfl, Below.refl _ _, rfl⟩
          apply free_is
          · intro a' w' hLe hfr hdep
            have e48 : a'.tmps.getD 48 undef = _ := hdep 15 48 (Nat.le_of_ble_eq_true rfl) rfl rfl
            conv at e48 => rhs; whnf
            have f48 := e48; simp only [Array.getD_eq_getD_getElem?] at f48
            refine wpOp_plain rfl rfl (fun K hK => ?_)
            go_simp
            exact hK _ _ ⟨_, rfl, Below.refl _ _, rfl⟩
          apply free_is
          · intro a' w' hLe hfr hdep
            have e49 : a'.tmps.getD 49 undef = _ := hdep 16 49 (Nat.le_of_ble_eq_true rfl) rfl rfl
            conv at e49 => rhs; whnf
            have f49 := e49; simp only [Array.getD_eq_getD_getElem?] at f49
            exact wpOp_no rfl rfl rfl e49 ⟨_, rfl, Below.refl _ _, rfl⟩
          apply free_is
          · intro a' w' hLe hfr hdep
            have e49 : a'.tmps.getD 49 undef = _ := hdep 16 49 (Nat.le_of_ble_eq_true rfl) rfl rfl
            conv at e49 => rhs; whnf
            have f49 := e49; simp only [Array.getD_eq_getD_getElem?] at f49
            exact wpOp_no rfl rfl rfl e49 ⟨_, rfl, Below.refl _ _, rfl⟩
          apply free_is
          · intro a' w' hLe hfr hdep
            have e49 : a'.tmps.getD 49 undef = _ := hdep 16 49 (Nat.le_of_ble_eq_true rfl) rfl rfl
            conv at e49 => rhs; whnf
            have f49 := e49; simp only [Array.getD_eq_getD_getElem?] at f49
            exact wpOp_no rfl rfl rfl e49 ⟨_, rfl, Below.refl _ _, rfl⟩
          apply free_is
          · intro a' w' hLe hfr hdep
            have e49 : a'.tmps.getD 49 undef = _ := hdep 16 49 (Nat.le_of_ble_eq_true rfl) rfl rfl
            conv at e49 => rhs; whnf
            have f49 := e49; simp only [Array.getD_eq_getD_getElem?] at f49
            exact wpOp_no rfl rfl rfl e49 ⟨_, rfl, Below.refl _ _, rfl⟩
          apply free_is
          · intro a' w' hLe hfr hdep
            have e49 : a'.tmps.getD 49 undef = _ := hdep 16 49 (Nat.le_of_ble_eq_true rfl) rfl rfl
            conv at e49 => rhs; whnf
            have f49 := e49; simp only [Array.getD_eq_getD_getElem?] at f49
            have e53 : a'.tmps.getD 53 undef = _ := hdep 20 53 (Nat.le_of_ble_eq_true rfl) rfl rfl
            conv at e53 => rhs; whnf
            have f53 := e53; simp only [Array.getD_eq_getD_getElem?] at f53
            refine wpOp_plain rfl rfl (fun K hK => ?_)
            go_simp
            exact hK _ _ ⟨_, rfl, Below.refl _ _, rfl⟩
          apply free_is
          · intro a' w' hLe hfr hdep
            have e54 : a'.tmps.getD 54 undef = _ := hdep 21 54 (Nat.le_of_ble_eq_true rfl) rfl rfl
            conv at e54 => rhs; whnf
            have f54 := e54; simp only [Array.getD_eq_getD_getElem?] at f54
            refine wpOp_plain rfl rfl (fun K hK => ?_)
            go_simp
            exact hK _ _ ⟨_, rfl, Below.refl _ _, rfl⟩
          apply free_is
          · intro a' w' hLe hfr hdep
            have e55 : a'.tmps.getD 55 undef = _ := hdep 22 55 (Nat.le_of_ble_eq_true rfl) rfl rfl
            conv at e55 => rhs; whnf
            have f55 := e55; simp only [Array.getD_eq_getD_getElem?] at f55
            exact wpOp_no rfl rfl rfl e55 ⟨_, rfl, Below.refl _ _, rfl⟩
          apply free_is
          · intro a' w' hLe hfr hdep
            have e55 : a'.tmps.getD 55 undef = _ := hdep 22 55 (Nat.le_of_ble_eq_true rfl) rfl rfl
            conv at e55 => rhs; whnf
            have f55 := e55; simp only [Array.getD_eq_getD_getElem?] at f55
            exact wpOp_no rfl rfl rfl e55 ⟨_, rfl, Below.refl _ _, rfl⟩
          apply free_is
          · intro a' w' hLe hfr hdep
            have e55 : a'.tmps.getD 55 undef = _ := hdep 22 55 (Nat.le_of_ble_eq_true rfl) rfl rfl
            conv at e55 => rhs; whnf
            have f55 := e55; simp only [Array.getD_eq_getD_getElem?] at f55
            exact wpOp_no rfl rfl rfl e55 ⟨_, rfl, Below.refl _ _, rfl⟩
          apply free_is
          · intro a' w' hLe hfr hdep
            have e58 : a'.tmps.getD 58 undef = _ := hdep 25 58 (Nat.le_of_ble_eq_true rfl) rfl rfl
            conv at e58 => rhs; whnf
            have f58 := e58; simp only [Array.getD_eq_getD_getElem?] at f58
            exact wpOp_un rfl rfl rfl e58 ⟨_, rfl, Below.refl _ _, rfl⟩
          apply free_is
          · intro a' w' hLe hfr hdep
            have e58 : a'.tmps.getD 58 undef = _ := hdep 25 58 (Nat.le_of_ble_eq_true rfl) rfl rfl
            conv at e58 => rhs; whnf
            have f58 := e58; simp only [Array.getD_eq_getD_getElem?] at f58
            exact wpOp_un rfl rfl rfl e58 ⟨_, rfl, Below.refl _ _, rfl⟩
          apply free_is
          · intro a' w' hLe hfr hdep
            have e58 : a'.tmps.getD 58 undef = _ := hdep 25 58 (Nat.le_of_ble_eq_true rfl) rfl rfl
            conv at e58 => rhs; whnf
            have f58 := e58; simp only [Array.getD_eq_getD_getElem?] at f58
            exact wpOp_un rfl rfl rfl e58 ⟨_, rfl, Below.refl _ _, rfl⟩
          apply free_is
          · intro a' w' hLe hfr hdep
            have e58 : a'.tmps.getD 58 undef = _ := hdep 25 58 (Nat.le_of_ble_eq_true rfl) rfl rfl
            conv at e58 => rhs; whnf
            have f58 := e58; simp only [Array.getD_eq_getD_getElem?] at f58
            exact wpOp_un rfl rfl rfl e58 ⟨_, rfl, Below.refl _ _, rfl⟩
          apply free_is
          · intro a' w' hLe hfr hdep
            have e58 : a'.tmps.getD 58 undef = _ := hdep 25 58 (Nat.le_of_ble_eq_true rfl) rfl rfl
            conv at e58 => rhs; whnf
            have f58 := e58; simp only [Array.getD_eq_getD_getElem?] at f58
            exact wpOp_un rfl rfl rfl e58 ⟨_, rfl, Below.refl _ _, rfl⟩
          apply free_is
          · intro a' w' hLe hfr hdep
            have e58 : a'.tmps.getD 58 undef = _ := hdep 25 58 (Nat.le_of_ble_eq_true rfl) rfl rfl
            conv at e58 => rhs; whnf
            have f58 := e58; simp only [Array.getD_eq_getD_getElem?] at f58
            exact wpOp_un rfl rfl rfl e58 ⟨_, rfl, Below.refl _ _, rfl⟩
          apply free_is
          · intro a' w' hLe hfr hdep
            have e58 : a'.tmps.getD 58 undef = _ := hdep 25 58 (Nat.le_of_ble_eq_true rfl) rfl rfl
            conv at e58 => rhs; whnf
            have f58 := e58; simp only [Array.getD_eq_getD_getElem?] at f58
            exact wpOp_un rfl rfl rfl e58 ⟨_, rfl, Below.refl _ _, rfl⟩
          apply free_is
          · intro a' w' hLe hfr hdep
            have e58 : a'.tmps.getD 58 undef = _ := hdep 25 58 (Nat.le_of_ble_eq_true rfl) rfl rfl
            conv at e58 => rhs; whnf
            have f58 := e58; simp only [Array.getD_eq_getD_getElem?] at f58
            exact wpOp_un rfl rfl rfl e58 ⟨_, rfl, Below.refl _ _, rfl⟩
          apply free_is
          · intro a' w' hLe hfr hdep
            have e58 : a'.tmps.getD 58 undef = _ := hdep 25 58 (Nat.le_of_ble_eq_true rfl) rfl rfl
            conv at e58 => rhs; whnf
            have f58 := e58; simp only [Array.getD_eq_getD_getElem?] at f58
            exact wpOp_un rfl rfl rfl e58 ⟨_, rfl, Below.refl _ _, rfl⟩
          apply free_is
          · intro a' w' hLe hfr hdep
            have e58 : a'.tmps.getD 58 undef = _ := hdep 25 58 (Nat.le_of_ble_eq_true rfl) rfl rfl
            conv at e58 => rhs; whnf
            have f58 := e58; simp only [Array.getD_eq_getD_getElem?] at f58
            exact wpOp_un rfl rfl rfl e58 ⟨_, rfl, Below.refl _ _, rfl⟩
          apply free_is
          · intro a' w' hLe hfr hdep
            have e55 : a'.tmps.getD 55 undef = _ := hdep 22 55 (Nat.le_of_ble_eq_true rfl) rfl rfl
            conv at e55 => rhs; whnf
            have f55 := e55; simp only [Array.getD_eq_getD_getElem?] at f55
            exact wpOp_no rfl rfl rfl e55 ⟨_, rfl, Below.refl _ _, rfl⟩
          apply free_is
          · intro a' w' hLe hfr hdep
            have e55 : a'.tmps.getD 55 undef = _ := hdep 22 55 (Nat.le_of_ble_eq_true rfl) rfl rfl
            conv at e55 => rhs; whnf
            have f55 := e55; simp only [Array.getD_eq_getD_getElem?] at f55
            have e69 : a'.tmps.getD 69 undef = _ := hdep 36 69 (Nat.le_of_ble_eq_true rfl) rfl rfl
            conv at e69 => rhs; whnf
            have f69 := e69; simp only [Array.getD_eq_getD_getElem?] at f69
            refine wpOp_plain rfl rfl (fun K hK => ?_)
            go_simp
            exact hK _ _ ⟨_, rfl, Below.refl _ _, rfl⟩
          apply free_nil
          intro vs w1 hb1 hT1
          have e33 : vs 0 = _ := hT1 0 33 rfl
          conv at e33 => rhs; whnf
          have e34 : vs 1 = _ := hT1 1 34 rfl
          conv at e34 => rhs; whnf
          have e35 : vs 2 = _ := hT1 2 35 rfl
          conv at e35 => rhs; whnf
          have e36 : vs 3 = _ := hT1 3 36 rfl
          conv at e36 => rhs; whnf
          have e37 : vs 4 = _ := hT1 4 37 rfl
          conv at e37 => rhs; whnf
          have e38 : vs 5 = _ := hT1 5 38 rfl
          conv at e38 => rhs; whnf
          have e39 : vs 6 = _ := hT1 6 39 rfl
          conv at e39 => rhs; whnf
          have e40 : vs 7 = _ := hT1 7 40 rfl
          conv at e40 => rhs; whnf
          have e41 : vs 8 = _ := hT1 8 41 rfl
          conv at e41 => rhs; whnf
          have e42 : vs 9 = _ := hT1 9 42 rfl
          conv at e42 => rhs; whnf
          have e43 : vs 10 = _ := hT1 10 43 rfl
          conv at e43 => rhs; whnf
          have e44 : vs 11 = _ := hT1 11 44 rfl
          conv at e44 => rhs; whnf
          have e45 : vs 12 = _ := hT1 12 45 rfl
          conv at e45 => rhs; whnf
          have e46 : vs 13 = _ := hT1 13 46 rfl
          conv at e46 => rhs; whnf
          have e47 : vs 14 = _ := hT1 14 47 rfl
          conv at e47 => rhs; whnf
          have e48 : vs 15 = _ := hT1 15 48 rfl
          conv at e48 => rhs; whnf
          have e49 : vs 16 = _ := hT1 16 49 rfl
          conv at e49 => rhs; whnf
          have e50 : vs 17 = _ := hT1 17 50 rfl
          conv at e50 => rhs; whnf
          have e51 : vs 18 = _ := hT1 18 51 rfl
          conv at e51 => rhs; whnf
          have e52 : vs 19 = _ := hT1 19 52 rfl
          conv at e52 => rhs; whnf
          have e53 : vs 20 = _ := hT1 20 53 rfl
          conv at e53 => rhs; whnf
          have e54 : vs 21 = _ := hT1 21 54 rfl
          conv at e54 => rhs; whnf
          have e55 : vs 22 = _ := hT1 22 55 rfl
          conv at e55 => rhs; whnf
          have e56 : vs 23 = _ := hT1 23 56 rfl
          conv at e56 => rhs; whnf
          have e57 : vs 24 = _ := hT1 24 57 rfl
          conv at e57 => rhs; whnf
          have e58 : vs 25 = _ := hT1 25 58 rfl
          conv at e58 => rhs; whnf
          have e59 : vs 26 = _ := hT1 26 59 rfl
          conv at e59 => rhs; whnf
          have e60 : vs 27 = _ := hT1 27 60 rfl
          conv at e60 => rhs; whnf
          have e61 : vs 28 = _ := hT1 28 61 rfl
          conv at e61 => rhs; whnf
          have e62 : vs 29 = _ := hT1 29 62 rfl
          conv at e62 => rhs; whnf
          have e63 : vs 30 = _ := hT1 30 63 rfl
          conv at e63 => rhs; whnf
          have e64 : vs 31 = _ := hT1 31 64 rfl
          conv at e64 => rhs; whnf
          have e65 : vs 32 = _ := hT1 32 65 rfl
          conv at e65 => rhs; whnf
          have e66 : vs 33 = _ := hT1 33 66 rfl
          conv at e66 => rhs; whnf
          have e67 : vs 34 = _ := hT1 34 67 rfl
          conv at e67 => rhs; whnf
          have e68 : vs 35 = _ := hT1 35 68 rfl
          conv at e68 => rhs; whnf
          have e69 : vs 36 = _ := hT1 36 69 rfl
          conv at e69 => rhs; whnf
          have e70 : vs 37 = _ := hT1 37 70 rfl
          conv at e70 => rhs; whnf
          simp only [putAll, List.drop_succ_cons, List.drop_zero, e33, e34, e35, e36, e37, e38, e39, e40, e41, e42, e43, e44, e45, e46, e47, e48, e49, e50, e51, e52, e53, e54, e55, e56, e57, e58, e59, e60, e61, e62, e63, e64, e65, e66, e67, e68, e69, e70]
          clear hT1 e33 e34 e35 e36 e37 e38 e39 e40 e41 e42 e43 e44 e45 e46 e47 e48 e49 e50 e51 e52 e53 e54 e55 e56 e57 e58 e59 e60 e61 e62 e63 e64 e65 e66 e67 e68 e69 e70
          go_simp
          go_wp2
          go_ret
          exact ⟨by rw [hno.out] <;> rfl, Below.tr (by (repeat (first | exact Below.refl _ _ | assumption | refine Below.al ?_ _ | refine Below.dr ?_ | (refine Below.st ?_ (by simp <;> omega) _) | (refine Below.tr ?_ (by assumption))))) hb1⟩
        | true =>
        cases h3 : inB (la k) 0 100000 with
        | false =>
          have hno := Lib.hid (tabVB_no (x0 := x0) (x1 := x1) (show k < n from hlt) (show taOk f0 f1 f2 f3 f4 to la k = false from taOk_en (by simp [enOk, h3])))
          clear hc hrow
          go_wp2
          refine wp_region_free (ds := [(0, 33), (1, 34), (2, 35), (3, 36), (4, 37), (5, 38), (6, 39), (7, 40), (8, 41), (9, 42), (10, 43), (11, 44), (12, 45), (13, 46), (14, 47), (15, 48), (16, 49), (17, 50), (18, 51), (19, 52), (20, 53), (21, 54), (22, 55), (23, 56), (24, 57), (25, 58), (26, 59), (27, 60), (28, 61), (29, 62), (30, 63), (31, 64), (32, 65), (33, 66), (34, 67), (35, 68), (36, 69), (37, 70)]) 38 (by kernel_rfl) (by kernel_rfl) (by first | exact .inl rfl | exact .inr (by kernel_rfl)) (by rfl) rfl rfl ?_
          apply free_is
          · intro a' w' hLe hfr hdep
            have e5 := hfr 5 rfl
            conv at e5 => rhs; whnf
            have f5 := e5; simp only [Array.getD_eq_getD_getElem?] at f5
            refine wpOp_plain rfl rfl (fun K hK => ?_)
            go_simp
            exact hK _ _ ⟨_, rfl, Below.refl _ _, rfl⟩
          apply free_is
          · intro a' w' hLe hfr hdep
            have e33 : a'.tmps.getD 33 undef = _ := hdep 0 33 (Nat.le_of_ble_eq_true rfl) rfl rfl
            conv at e33 => rhs; whnf
            have f33 := e33; simp only [Array.getD_eq_getD_getElem?] at f33
            have kc := fun i => keepc hLe (wr.heap.size) (by (try simp) <;> omega) i
            have kf := fun i => keepf hLe (wr.heap.size) (by (try simp) <;> omega) i
            have kz : wr.heap.size < w'.heap.size := (by have := hLe.size; (try simp at this); omega)
            refine wpOp_plain rfl rfl (fun K hK => ?_)
            go_simp
            exact hK _ _ ⟨_, rfl, Below.refl _ _, rfl⟩
          apply free_is
          · intro a' w' hLe hfr hdep
            have e34 : a'.tmps.getD 34 undef = _ := hdep 1 34 (Nat.le_of_ble_eq_true rfl) rfl rfl
            conv at e34 => rhs; whnf
            have f34 := e34; simp only [Array.getD_eq_getD_getElem?] at f34
            have kc := fun i => keepc hLe (wr.heap.size) (by (try simp) <;> omega) i
            have kf := fun i => keepf hLe (wr.heap.size) (by (try simp) <;> omega) i
            have kz : wr.heap.size < w'.heap.size := (by have := hLe.size; (try simp at this); omega)
            refine wpOp_plain rfl rfl (fun K hK => ?_)
            go_simp
            refine (implFlowValid_b _ _ _ _ _ _).mono ?_
            rintro e w2 ⟨rfl, hb⟩
            exact hK _ _ ⟨_, rfl, hb, rfl⟩
          apply free_is
          · intro a' w' hLe hfr hdep
            have e35 : a'.tmps.getD 35 undef = _ := hdep 2 35 (Nat.le_of_ble_eq_true rfl) rfl rfl
            conv at e35 => rhs; whnf
            have f35 := e35; simp only [Array.getD_eq_getD_getElem?] at f35
            refine wpOp_plain rfl rfl (fun K hK => ?_)
            go_simp
            exact hK _ _ ⟨_, rfl, Below.refl _ _, rfl⟩
          apply free_is
          · intro a' w' hLe hfr hdep
            have e36 : a'.tmps.getD 36 undef = _ := hdep 3 36 (Nat.le_of_ble_eq_true rfl) rfl rfl
            conv at e36 => rhs; whnf
            have f36 := e36; simp only [Array.getD_eq_getD_getElem?] at f36
            refine wpOp_plain rfl rfl (fun K hK => ?_)
            go_simp
            exact hK _ _ ⟨_, rfl, Below.refl _ _, rfl⟩
          apply free_is
          · intro a' w' hLe hfr hdep
            have e37 : a'.tmps.getD 37 undef = _ := hdep 4 37 (Nat.le_of_ble_eq_true rfl) rfl rfl
            conv at e37 => rhs; whnf
            have f37 := e37; simp only [Array.getD_eq_getD_getElem?] at f37
            have e3 := hfr 3 rfl
            conv at e3 => rhs; whnf
            have f3 := e3; simp only [Array.getD_eq_getD_getElem?] at f3
            refine wpOp_yes rfl rfl rfl e37 (fun K hK => ?_)
            go_simp
            exact hK _ _ ⟨_, rfl, Below.refl _ _, rfl⟩
          apply free_is
          · intro a' w' hLe hfr hdep
            have e37 : a'.tmps.getD 37 undef = _ := hdep 4 37 (Nat.le_of_ble_eq_true rfl) rfl rfl
            conv at e37 => rhs; whnf
            have f37 := e37; simp only [Array.getD_eq_getD_getElem?] at f37
            have e5 := hfr 5 rfl
            conv at e5 => rhs; whnf
            have f5 := e5; simp only [Array.getD_eq_getD_getElem?] at f5
            refine wpOp_yes rfl rfl rfl e37 (fun K hK => ?_)
            go_simp
            exact hK _ _ ⟨_, rfl, Below.refl _ _, rfl⟩
          apply free_is
          · intro a' w' hLe hfr hdep
            have e37 : a'.tmps.getD 37 undef = _ := hdep 4 37 (Nat.le_of_ble_eq_true rfl) rfl rfl
            conv at e37 => rhs; whnf
            have f37 := e37; simp only [Array.getD_eq_getD_getElem?] at f37
            have e39 : a'.tmps.getD 39 undef = _ := hdep 6 39 (Nat.le_of_ble_eq_true rfl) rfl rfl
            conv at e39 => rhs; whnf
            have f39 := e39; simp only [Array.getD_eq_getD_getElem?] at f39
            have kc := fun i => keepc hLe (wr.heap.size) (by (try simp) <;> omega) i
            have kf := fun i => keepf hLe (wr.heap.size) (by (try simp) <;> omega) i
            have kz : wr.heap.size < w'.heap.size := (by have := hLe.size; (try simp at this); omega)
            refine wpOp_yes rfl rfl rfl e37 (fun K hK => ?_)
            go_simp
            exact hK _ _ ⟨_, rfl, Below.refl _ _, rfl⟩
          apply free_is
          · intro a' w' hLe hfr hdep
            have e37 : a'.tmps.getD 37 undef = _ := hdep 4 37 (Nat.le_of_ble_eq_true rfl) rfl rfl
            conv at e37 => rhs; whnf
            have f37 := e37; simp only [Array.getD_eq_getD_getElem?] at f37
            have e38 : a'.tmps.getD 38 undef = _ := hdep 5 38 (Nat.le_of_ble_eq_true rfl) rfl rfl
            conv at e38 => rhs; whnf
            have f38 := e38; simp only [Array.getD_eq_getD_getElem?] at f38
            have e40 : a'.tmps.getD 40 undef = _ := hdep 7 40 (Nat.le_of_ble_eq_true rfl) rfl rfl
            conv at e40 => rhs; whnf
            have f40 := e40; simp only [Array.getD_eq_getD_getElem?] at f40
            have hlk := hask w' hLe
            refine wpOp_yes rfl rfl rfl e37 (fun K hK => ?_)
            go_simp
            exact hK _ _ ⟨_, rfl, Below.refl _ _, rfl⟩
          apply free_is
          · intro a' w' hLe hfr hdep
            have e37 : a'.tmps.getD 37 undef = _ := hdep 4 37 (Nat.le_of_ble_eq_true rfl) rfl rfl
            conv at e37 => rhs; whnf
            have f37 := e37; simp only [Array.getD_eq_getD_getElem?] at f37
            have e41 : a'.tmps.getD 41 undef = _ := hdep 8 41 (Nat.le_of_ble_eq_true rfl) rfl rfl
            conv at e41 => rhs; whnf
            have f41 := e41; simp only [Array.getD_eq_getD_getElem?] at f41
            refine wpOp_plain rfl rfl (fun K hK => ?_)
            go_simp
            exact hK _ _ ⟨_, rfl, Below.refl _ _, rfl⟩
          apply free_is
          · intro a' w' hLe hfr hdep
            have e42 : a'.tmps.getD 42 undef = _ := hdep 9 42 (Nat.le_of_ble_eq_true rfl) rfl rfl
            conv at e42 => rhs; whnf
            have f42 := e42; simp only [Array.getD_eq_getD_getElem?] at f42
            refine wpOp_plain rfl rfl (fun K hK => ?_)
            go_simp
            exact hK _ _ ⟨_, rfl, Below.refl _ _, rfl⟩
          apply free_is
          · intro a' w' hLe hfr hdep
            have e43 : a'.tmps.getD 43 undef = _ := hdep 10 43 (Nat.le_of_ble_eq_true rfl) rfl rfl
            conv at e43 => rhs; whnf
            have f43 := e43; simp only [Array.getD_eq_getD_getElem?] at f43
            have e5 := hfr 5 rfl
            conv at e5 => rhs; whnf
            have f5 := e5; simp only [Array.getD_eq_getD_getElem?] at f5
            refine wpOp_yes rfl rfl rfl e43 (fun K hK => ?_)
            go_simp
            exact hK _ _ ⟨_, rfl, Below.refl _ _, rfl⟩
          apply free_is
          · intro a' w' hLe hfr hdep
            have e43 : a'.tmps.getD 43 undef = _ := hdep 10 43 (Nat.le_of_ble_eq_true rfl) rfl rfl
            conv at e43 => rhs; whnf
            have f43 := e43; simp only [Array.getD_eq_getD_getElem?] at f43
            have e44 : a'.tmps.getD 44 undef = _ := hdep 11 44 (Nat.le_of_ble_eq_true rfl) rfl rfl
            conv at e44 => rhs; whnf
            have f44 := e44; simp only [Array.getD_eq_getD_getElem?] at f44
            have kc := fun i => keepc hLe (wr.heap.size) (by (try simp) <;> omega) i
            have kf := fun i => keepf hLe (wr.heap.size) (by (try simp) <;> omega) i
            have kz : wr.heap.size < w'.heap.size := (by have := hLe.size; (try simp at this); omega)
            refine wpOp_yes rfl rfl rfl e43 (fun K hK => ?_)
            go_simp
            exact hK _ _ ⟨_, rfl, Below.refl _ _, rfl⟩
          apply free_is
          · intro a' w' hLe hfr hdep
            have e43 : a'.tmps.getD 43 undef = _ := hdep 10 43 (Nat.le_of_ble_eq_true rfl) rfl rfl
            conv at e43 => rhs; whnf
            have f43 := e43; simp only [Array.getD_eq_getD_getElem?] at f43
            have e45 : a'.tmps.getD 45 undef = _ := hdep 12 45 (Nat.le_of_ble_eq_true rfl) rfl rfl
            conv at e45 => rhs; whnf
            have f45 := e45; simp only [Array.getD_eq_getD_getElem?] at f45
            have kc := fun i => keepc hLe (wr.heap.size) (by (try simp) <;> omega) i
            have kf := fun i => keepf hLe (wr.heap.size) (by (try simp) <;> omega) i
            have kz : wr.heap.size < w'.heap.size := (by have := hLe.size; (try simp at this); omega)
            refine wpOp_yes rfl rfl rfl e43 (fun K hK => ?_)
            go_simp
            refine (in_any _ _ _ _).mono ?_
            rintro e w2 ⟨rfl, rfl⟩
            exact hK _ _ ⟨_, rfl, Below.refl _ _, rfl⟩
          apply free_is
          · intro a' w' hLe hfr hdep
            have e43 : a'.tmps.getD 43 undef = _ := hdep 10 43 (Nat.le_of_ble_eq_true rfl) rfl rfl
            conv at e43 => rhs; whnf
            have f43 := e43; simp only [Array.getD_eq_getD_getElem?] at f43
            have e46 : a'.tmps.getD 46 undef = _ := hdep 13 46 (Nat.le_of_ble_eq_true rfl) rfl rfl
            conv at e46 => rhs; whnf
            have f46 := e46; simp only [Array.getD_eq_getD_getElem?] at f46
            refine wpOp_yes rfl rfl rfl e43 (fun K hK => ?_)
            go_simp
            exact hK _ _ ⟨_, rfl, Below.refl _ _, rfl⟩
          apply free_is
          · intro a' w' hLe hfr hdep
            have e43 : a'.tmps.getD 43 undef = _ := hdep 10 43 (Nat.le_of_ble_eq_true rfl) rfl rfl
            conv at e43 => rhs; whnf
            have f43 := e43; simp only [Array.getD_eq_getD_getElem?] at f43
            have e47 : a'.tmps.getD 47 undef = _ := hdep 14 47 (Nat.le_of_ble_eq_true rfl) rfl rfl
            conv at e47 => rhs; whnf
            have f47 := e47; simp only [Array.getD_eq_getD_getElem?] at f47
            refine wpOp_plain rfl rfl (fun K hK => ?_)
            go_simp
            exact hK _ _ ⟨_, rfl, Below.refl _ _, rfl⟩
          apply free_is
          · intro a' w' hLe hfr hdep
            have e48 : a'.tmps.getD 48 undef = _ := hdep 15 48 (Nat.le_of_ble_eq_true rfl) rfl rfl
            conv at e48 => rhs; whnf
            have f48 := e48; simp only [Array.getD_eq_getD_getElem?] at f48
            refine wpOp_plain rfl rfl (fun K hK => ?_)
            go_simp
            exact hK _ _ ⟨_, rfl, Below.refl _ _, rfl⟩
          apply free_is
          · intro a' w' hLe hfr hdep
            have e49 : a'.tmps.getD 49 undef = _ := hdep 16 49 (Nat.le_of_ble_eq_true rfl) rfl rfl
            conv at e49 => rhs; whnf
            have f49 := e49; simp only [Array.getD_eq_getD_getElem?] at f49
            have e5 := hfr 5 rfl
            conv at e5 => rhs; whnf
            have f5 := e5; simp only [Array.getD_eq_getD_getElem?] at f5
            refine wpOp_yes rfl rfl rfl e49 (fun K hK => ?_)
            go_simp
            exact hK _ _ ⟨_, rfl, Below.refl _ _, rfl⟩
          apply free_is
          · intro a' w' hLe hfr hdep
            have e49 : a'.tmps.getD 49 undef = _ := hdep 16 49 (Nat.le_of_ble_eq_true rfl) rfl rfl
            conv at e49 => rhs; whnf
            have f49 := e49; simp only [Array.getD_eq_getD_getElem?] at f49
            have e50 : a'.tmps.getD 50 undef = _ := hdep 17 50 (Nat.le_of_ble_eq_true rfl) rfl rfl
            conv at e50 => rhs; whnf
            have f50 := e50; simp only [Array.getD_eq_getD_getElem?] at f50
            have kc := fun i => keepc hLe (wr.heap.size) (by (try simp) <;> omega) i
            have kf := fun i => keepf hLe (wr.heap.size) (by (try simp) <;> omega) i
            have kz : wr.heap.size < w'.heap.size := (by have := hLe.size; (try simp at this); omega)
            refine wpOp_yes rfl rfl rfl e49 (fun K hK => ?_)
            go_simp
            exact hK _ _ ⟨_, rfl, Below.refl _ _, rfl⟩
          apply free_is
          · intro a' w' hLe hfr hdep
            have e49 : a'.tmps.getD 49 undef = _ := hdep 16 49 (Nat.le_of_ble_eq_true rfl) rfl rfl
            conv at e49 => rhs; whnf
            have f49 := e49; simp only [Array.getD_eq_getD_getElem?] at f49
            have e51 : a'.tmps.getD 51 undef = _ := hdep 18 51 (Nat.le_of_ble_eq_true rfl) rfl rfl
            conv at e51 => rhs; whnf
            have f51 := e51; simp only [Array.getD_eq_getD_getElem?] at f51
            have kc := fun i => keepc hLe (wr.heap.size) (by (try simp) <;> omega) i
            have kf := fun i => keepf hLe (wr.heap.size) (by (try simp) <;> omega) i
            have kz : wr.heap.size < w'.heap.size := (by have := hLe.size; (try simp at this); omega)
            refine wpOp_yes rfl rfl rfl e49 (fun K hK => ?_)
            go_simp
            refine (isTime_any _ _).mono ?_
            rintro e w2 ⟨rfl, rfl⟩
            exact hK _ _ ⟨_, rfl, Below.refl _ _, rfl⟩
          apply free_is
          · intro a' w' hLe hfr hdep
            have e49 : a'.tmps.getD 49 undef = _ := hdep 16 49 (Nat.le_of_ble_eq_true rfl) rfl rfl
            conv at e49 => rhs; whnf
            have f49 := e49; simp only [Array.getD_eq_getD_getElem?] at f49
            have e52 : a'.tmps.getD 52 undef = _ := hdep 19 52 (Nat.le_of_ble_eq_true rfl) rfl rfl
            conv at e52 => rhs; whnf
            have f52 := e52; simp only [Array.getD_eq_getD_getElem?] at f52
            refine wpOp_yes rfl rfl rfl e49 (fun K hK => ?_)
            go_simp
            exact hK _ _ ⟨_, rfl, Below.refl _ _, rfl⟩
          apply free_is
          · intro a' w' hLe hfr hdep
            have e49 : a'.tmps.getD 49 undef = _ := hdep 16 49 (Nat.le_of_ble_eq_true rfl) rfl rfl
            conv at e49 => rhs; whnf
            have f49 := e49; simp only [Array.getD_eq_getD_getElem?] at f49
            have e53 : a'.tmps.getD 53 undef = _ := hdep 20 53 (Nat.le_of_ble_eq_true rfl) rfl rfl
            conv at e53 => rhs; whnf
            have f53 := e53; simp only [Array.getD_eq_getD_getElem?] at f53
            refine wpOp_plain rfl rfl (fun K hK => ?_)
            go_simp
            exact hK _ _ ⟨_, rfl, Below.refl _ _, rfl⟩
          apply free_is
          · intro a' w' hLe hfr hdep
            have e54 : a'.tmps.getD 54 undef = _ := hdep 21 54 (Nat.le_of_ble_eq_true rfl) rfl rfl
            conv at e54 => rhs; whnf
            have f54 := e54; simp only [Array.getD_eq_getD_getElem?] at f54
            refine wpOp_plain rfl rfl (fun K hK => ?_)
            go_simp
            exact hK _ _ ⟨_, rfl, Below.refl _ _, rfl⟩
          apply free_is
          · intro a' w' hLe hfr hdep
            have e55 : a'.tmps.getD 55 undef = _ := hdep 22 55 (Nat.le_of_ble_eq_true rfl) rfl rfl
            conv at e55 => rhs; whnf
            have f55 := e55; simp only [Array.getD_eq_getD_getElem?] at f55
            exact wpOp_no rfl rfl rfl e55 ⟨_, rfl, Below.refl _ _, rfl⟩
          apply free_is
          · intro a' w' hLe hfr hdep
            have e55 : a'.tmps.getD 55 undef = _ := hdep 22 55 (Nat.le_of_ble_eq_true rfl) rfl rfl
            conv at e55 => rhs; whnf
            have f55 := e55; simp only [Array.getD_eq_getD_getElem?] at f55
            exact wpOp_no rfl rfl rfl e55 ⟨_, rfl, Below.refl _ _, rfl⟩
          apply free_is
          · intro a' w' hLe hfr hdep
            have e55 : a'.tmps.getD 55 undef = _ := hdep 22 55 (Nat.le_of_ble_eq_true rfl) rfl rfl
            conv at e55 => rhs; whnf
            have f55 := e55; simp only [Array.getD_eq_getD_getElem?] at f55
            exact wpOp_no rfl rfl rfl e55 ⟨_, rfl, Below.refl _ _, rfl⟩
          apply free_is
          · intro a' w' hLe hfr hdep
            have e58 : a'.tmps.getD 58 undef = _ := hdep 25 58 (Nat.le_of_ble_eq_true rfl) rfl rfl
            conv at e58 => rhs; whnf
            have f58 := e58; simp only [Array.getD_eq_getD_getElem?] at f58
            exact wpOp_un rfl rfl rfl e58 ⟨_, rfl, Below.refl _ _, rfl⟩
          apply free_is
          · intro a' w' hLe hfr hdep
            have e58 : a'.tmps.getD 58 undef = _ := hdep 25 58 (Nat.le_of_ble_eq_true rfl) rfl rfl
            conv at e58 => rhs; whnf
            have f58 := e58; simp only [Array.getD_eq_getD_getElem?] at f58
            exact wpOp_un rfl rfl rfl e58 ⟨_, rfl, Below.refl _ _, rfl⟩
          apply free_is
          · intro a' w' hLe hfr hdep
            have e58 : a'.tmps.getD 58 undef = _ := hdep 25 58 (Nat.le_of_ble_eq_true rfl) rfl rfl
            conv at e58 => rhs; whnf
            have f58 := e58; simp only [Array.getD_eq_getD_getElem?] at f58
            exact wpOp_un rfl rfl rfl e58 ⟨_, rfl, Below.refl _ _, rfl⟩
          apply free_is
          · intro a' w' hLe hfr hdep
            have e58 : a'.tmps.getD 58 undef = _ := hdep 25 58 (Nat.le_of_ble_eq_true rfl) rfl rfl
            conv at e58 => rhs; whnf
            have f58 := e58; simp only [Array.getD_eq_getD_getElem?] at f58
            exact wpOp_un rfl rfl rfl e58 ⟨_, rfl, Below.refl _ _, rfl⟩
          apply free_is
          · intro a' w' hLe hfr hdep
            have e58 : a'.tmps.getD 58 undef = _ := hdep 25 58 (Nat.le_of_ble_eq_true rfl) rfl rfl
            conv at e58 => rhs; whnf
            have f58 := e58; simp only [Array.getD_eq_getD_getElem?] at f58
            exact wpOp_un rfl rfl rfl e58 ⟨_, rfl, Below.refl _ _, rfl⟩
          apply free_is
          · intro a' w' hLe hfr hdep
            have e58 : a'.tmps.getD 58 undef = _ := hdep 25 58 (Nat.le_of_ble_eq_true rfl) rfl rfl
            conv at e58 => rhs; whnf
            have f58 := e58; simp only [Array.getD_eq_getD_getElem?] at f58
            exact wpOp_un rfl rfl rfl e58 ⟨_, rfl, Below.refl _ _, rfl⟩
          apply free_is
          · intro a' w' hLe hfr hdep
            have e58 : a'.tmps.getD 58 undef = _ := hdep 25 58 (Nat.le_of_ble_eq_true rfl) rfl rfl
            conv at e58 => rhs; whnf
            have f58 := e58; simp only [Array.getD_eq_getD_getElem?] at f58
            exact wpOp_un rfl rfl rfl e58 ⟨_, rfl, Below.refl _ _, rfl⟩
          apply free_is
          · intro a' w' hLe hfr hdep
            have e58 : a'.tmps.getD 58 undef = _ := hdep 25 58 (Nat.le_of_ble_eq_true rfl) rfl rfl
            conv at e58 => rhs; whnf
            have f58 := e58; simp only [Array.getD_eq_getD_getElem?] at f58
            exact wpOp_un rfl rfl rfl e58 ⟨_, rfl, Below.refl _ _, rfl⟩
          apply free_is
          · intro a' w' hLe hfr hdep
            have e58 : a'.tmps.getD 58 undef = _ := hdep 25 58 (Nat.le_of_ble_eq_true rfl) rfl rfl
            conv at e58 => rhs; whnf
            have f58 := e58; simp only [Array.getD_eq_getD_getElem?] at f58
            exact wpOp_un rfl rfl rfl e58 ⟨_, rfl, Below.refl _ _, rfl⟩
          apply free_is
          · intro a' w' hLe hfr hdep
            have e58 : a'.tmps.getD 58 undef = _ := hdep 25 58 (Nat.le_of_ble_eq_true rfl) rfl rfl
            conv at e58 => rhs; whnf
            have f58 := e58; simp only [Array.getD_eq_getD_getElem?] at f58
            exact wpOp_un rfl rfl rfl e58 ⟨_, rfl, Below.refl _ _, rfl⟩
          apply free_is
          · intro a' w' hLe hfr hdep
            have e55 : a'.tmps.getD 55 undef = _ := hdep 22 55 (Nat.le_of_ble_eq_true rfl) rfl rfl
            conv at e55 => rhs; whnf
            have f55 := e55; simp only [Array.getD_eq_getD_getElem?] at f55
            exact wpOp_no rfl rfl rfl e55 ⟨_, rfl, Below.refl _ _, rfl⟩
          apply free_is
          · intro a' w' hLe hfr hdep
            have e55 : a'.tmps.getD 55 undef = _ := hdep 22 55 (Nat.le_of_ble_eq_true rfl) rfl rfl
            conv at e55 => rhs; whnf
            have f55 := e55; simp only [Array.getD_eq_getD_getElem?] at f55
            have e69 : a'.tmps.getD 69 undef = _ := hdep 36 69 (Nat.le_of_ble_eq_true rfl) rfl rfl
            conv at e69 => rhs; whnf
            have f69 := e69; simp only [Array.getD_eq_getD_getElem?] at f69
            refine wpOp_plain rfl rfl (fun K hK => ?_)
            go_simp
            exact hK _ _ ⟨_, rfl, Below.refl _ _, rfl⟩
          apply free_nil
          intro vs w1 hb1 hT1
          have e33 : vs 0 = _ := hT1 0 33 rfl
          conv at e33 => rhs; whnf
          have e34 : vs 1 = _ := hT1 1 34 rfl
          conv at e34 => rhs; whnf
          have e35 : vs 2 = _ := hT1 2 35 rfl
          conv at e35 => rhs; whnf
          have e36 : vs 3 = _ := hT1 3 36 rfl
          conv at e36 => rhs; whnf
          have e37 : vs 4 = _ := hT1 4 37 rfl
          conv at e37 => rhs; whnf
          have e38 : vs 5 = _ := hT1 5 38 rfl
          conv at e38 => rhs; whnf
          have e39 : vs 6 = _ := hT1 6 39 rfl
          conv at e39 => rhs; whnf
          have e40 : vs 7 = _ := hT1 7 40 rfl
          conv at e40 => rhs; whnf
          have e41 : vs 8 = _ := hT1 8 41 rfl
          conv at e41 => rhs; whnf
          have e42 : vs 9 = _ := hT1 9 42 rfl
          conv at e42 => rhs; whnf
          have e43 : vs 10 = _ := hT1 10 43 rfl
          conv at e43 => rhs; whnf
          have e44 : vs 11 = _ := hT1 11 44 rfl
          conv at e44 => rhs; whnf
          have e45 : vs 12 = _ := hT1 12 45 rfl
          conv at e45 => rhs; whnf
          have e46 : vs 13 = _ := hT1 13 46 rfl
          conv at e46 => rhs; whnf
          have e47 : vs 14 = _ := hT1 14 47 rfl
          conv at e47 => rhs; whnf
          have e48 : vs 15 = _ := hT1 15 48 rfl
          conv at e48 => rhs; whnf
          have e49 : vs 16 = _ := hT1 16 49 rfl
          conv at e49 => rhs; whnf
          have e50 : vs 17 = _ := hT1 17 50 rfl
          conv at e50 => rhs; whnf
          have e51 : vs 18 = _ := hT1 18 51 rfl
          conv at e51 => rhs; whnf
          have e52 : vs 19 = _ := hT1 19 52 rfl
          conv at e52 => rhs; whnf
          have e53 : vs 20 = _ := hT1 20 53 rfl
          conv at e53 => rhs; whnf
          have e54 : vs 21 = _ := hT1 21 54 rfl
          conv at e54 => rhs; whnf
          have e55 : vs 22 = _ := hT1 22 55 rfl
          conv at e55 => rhs; whnf
          have e56 : vs 23 = _ := hT1 23 56 rfl
          conv at e56 => rhs; whnf
          have e57 : vs 24 = _ := hT1 24 57 rfl
          conv at e57 => rhs; whnf
          have e58 : vs 25 = _ := hT1 25 58 rfl
          conv at e58 => rhs; whnf
          have e59 : vs 26 = _ := hT1 26 59 rfl
          conv at e59 => rhs; whnf
          have e60 : vs 27 = _ := hT1 27 60 rfl
          conv at e60 => rhs; whnf
          have e61 : vs 28 = _ := hT1 28 61 rfl
          conv at e61 => rhs; whnf
          have e62 : vs 29 = _ := hT1 29 62 rfl
          conv at e62 => rhs; whnf
          have e63 : vs 30 = _ := hT1 30 63 rfl
          conv at e63 => rhs; whnf
          have e64 : vs 31 = _ := hT1 31 64 rfl
          conv at e64 => rhs; whnf
          have e65 : vs 32 = _ := hT1 32 65 rfl
          conv at e65 => rhs; whnf
          have e66 : vs 33 = _ := hT1 33 66 rfl
          conv at e66 => rhs; whnf
          have e67 : vs 34 = _ := hT1 34 67 rfl
          conv at e67 => rhs; whnf
          have e68 : vs 35 = _ := hT1 35 68 rfl
          conv at e68 => rhs; whnf
          have e69 : vs 36 = _ := hT1 36 69 rfl
          conv at e69 => rhs; whnf
          have e70 : vs 37 = _ := hT1 37 70 rfl
          conv at e70 => rhs; whnf
          simp only [putAll, List.drop_succ_cons, List.drop_zero, e33, e34, e35, e36, e37, e38, e39, e40, e41, e42, e43, e44, e45, e46, e47, e48, e49, e50, e51, e52, e53, e54, e55, e56, e57, e58, e59, e60, e61, e62, e63, e64, e65, e66, e67, e68, e69, e70]
          clear hT1 e33 e34 e35 e36 e37 e38 e39 e40 e41 e42 e43 e44 e45 e46 e47 e48 e49 e50 e51 e52 e53 e54 e55 e56 e57 e58 e59 e60 e61 e62 e63 e64 e65 e66 e67 e68 e69 e70
          go_simp
          go_wp2
          go_ret
          exact ⟨by rw [hno.out] <;> rfl, Below.tr (by (repeat (first | exact Below.refl _ _ | assumption | refine Below.al ?_ _ | refine Below.dr ?_ | (refine Below.st ?_ (by simp <;> omega) _) | (refine Below.tr ?_ (by assumption))))) hb1⟩
        | true =>
        rcases Nat.eq_zero_or_pos k with rfl | hpos
        · have hno := Lib.hid (taOk_yes (t := to) (l := la) hs (by simp [enOk, h1, h2, h3]))
          clear hc hrow
          simp only [Nat.zero_mul, Nat.add_zero] at q0 q1 q2 q3 q4 q5 q6
          go_wp2
          refine wp_region_free (ds := [(0, 33), (1, 34), (2, 35), (3, 36), (4, 37), (5, 38), (6, 39), (7, 40), (8, 41), (9, 42), (10, 43), (11, 44), (12, 45), (13, 46), (14, 47), (15, 48), (16, 49), (17, 50), (18, 51), (19, 52), (20, 53), (21, 54), (22, 55), (23, 56), (24, 57), (25, 58), (26, 59), (27, 60), (28, 61), (29, 62), (30, 63), (31, 64), (32, 65), (33, 66), (34, 67), (35, 68), (36, 69), (37, 70)]) 38 (by kernel_rfl) (by kernel_rfl) (by first | exact .inl rfl | exact .inr (by kernel_rfl)) (by rfl) rfl rfl ?_
          apply free_is
          · intro a' w' hLe hfr hdep
            have e5 := hfr 5 rfl
            conv at e5 => rhs; whnf
            have f5 := e5; simp only [Array.getD_eq_getD_getElem?] at f5
            refine wpOp_plain rfl rfl (fun K hK => ?_)
            go_simp
            exact hK _ _ ⟨_, rfl, Below.refl _ _, rfl⟩
          apply free_is
          · intro a' w' hLe hfr hdep
            have e33 : a'.tmps.getD 33 undef = _ := hdep 0 33 (Nat.le_of_ble_eq_true rfl) rfl rfl
            conv at e33 => rhs; whnf
            have f33 := e33; simp only [Array.getD_eq_getD_getElem?] at f33
            have kc := fun i => keepc hLe (wr.heap.size) (by (try simp) <;> omega) i
            have kf := fun i => keepf hLe (wr.heap.size) (by (try simp) <;> omega) i
            have kz : wr.heap.size < w'.heap.size := (by have := hLe.size; (try simp at this); omega)
            refine wpOp_plain rfl rfl (fun K hK => ?_)
            go_simp
            exact hK _ _ ⟨_, rfl, Below.refl _ _, rfl⟩
          apply free_is
          · intro a' w' hLe hfr hdep
            have e34 : a'.tmps.getD 34 undef = _ := hdep 1 34 (Nat.le_of_ble_eq_true rfl) rfl rfl
            conv at e34 => rhs; whnf
            have f34 := e34; simp only [Array.getD_eq_getD_getElem?] at f34
            have kc := fun i => keepc hLe (wr.heap.size) (by (try simp) <;> omega) i
            have kf := fun i => keepf hLe (wr.heap.size) (by (try simp) <;> omega) i
            have kz : wr.heap.size < w'.heap.size := (by have := hLe.size; (try simp at this); omega)
            refine wpOp_plain rfl rfl (fun K hK => ?_)
            go_simp
            refine (implFlowValid_b _ _ _ _ _ _).mono ?_
            rintro e w2 ⟨rfl, hb⟩
            exact hK _ _ ⟨_, rfl, hb, rfl⟩
          apply free_is
          · intro a' w' hLe hfr hdep
            have e35 : a'.tmps.getD 35 undef = _ := hdep 2 35 (Nat.le_of_ble_eq_true rfl) rfl rfl
            conv at e35 => rhs; whnf
            have f35 := e35; simp only [Array.getD_eq_getD_getElem?] at f35
            refine wpOp_plain rfl rfl (fun K hK => ?_)
            go_simp
            exact hK _ _ ⟨_, rfl, Below.refl _ _, rfl⟩
          apply free_is
          · intro a' w' hLe hfr hdep
            have e36 : a'.tmps.getD 36 undef = _ := hdep 3 36 (Nat.le_of_ble_eq_true rfl) rfl rfl
            conv at e36 => rhs; whnf
            have f36 := e36; simp only [Array.getD_eq_getD_getElem?] at f36
            refine wpOp_plain rfl rfl (fun K hK => ?_)
            go_simp
            exact hK _ _ ⟨_, rfl, Below.refl _ _, rfl⟩
          apply free_is
          · intro a' w' hLe hfr hdep
            have e37 : a'.tmps.getD 37 undef = _ := hdep 4 37 (Nat.le_of_ble_eq_true rfl) rfl rfl
            conv at e37 => rhs; whnf
            have f37 := e37; simp only [Array.getD_eq_getD_getElem?] at f37
            have e3 := hfr 3 rfl
            conv at e3 => rhs; whnf
            have f3 := e3; simp only [Array.getD_eq_getD_getElem?] at f3
            refine wpOp_yes rfl rfl rfl e37 (fun K hK => ?_)
            go_simp
            exact hK _ _ ⟨_, rfl, Below.refl _ _, rfl⟩
          apply free_is
          · intro a' w' hLe hfr hdep
            have e37 : a'.tmps.getD 37 undef = _ := hdep 4 37 (Nat.le_of_ble_eq_true rfl) rfl rfl
            conv at e37 => rhs; whnf
            have f37 := e37; simp only [Array.getD_eq_getD_getElem?] at f37
            have e5 := hfr 5 rfl
            conv at e5 => rhs; whnf
            have f5 := e5; simp only [Array.getD_eq_getD_getElem?] at f5
            refine wpOp_yes rfl rfl rfl e37 (fun K hK => ?_)
            go_simp
            exact hK _ _ ⟨_, rfl, Below.refl _ _, rfl⟩
          apply free_is
          · intro a' w' hLe hfr hdep
            have e37 : a'.tmps.getD 37 undef = _ := hdep 4 37 (Nat.le_of_ble_eq_true rfl) rfl rfl
            conv at e37 => rhs; whnf
            have f37 := e37; simp only [Array.getD_eq_getD_getElem?] at f37
            have e39 : a'.tmps.getD 39 undef = _ := hdep 6 39 (Nat.le_of_ble_eq_true rfl) rfl rfl
            conv at e39 => rhs; whnf
            have f39 := e39; simp only [Array.getD_eq_getD_getElem?] at f39
            have kc := fun i => keepc hLe (wr.heap.size) (by (try simp) <;> omega) i
            have kf := fun i => keepf hLe (wr.heap.size) (by (try simp) <;> omega) i
            have kz : wr.heap.size < w'.heap.size := (by have := hLe.size; (try simp at this); omega)
            refine wpOp_yes rfl rfl rfl e37 (fun K hK => ?_)
            go_simp
            exact hK _ _ ⟨_, rfl, Below.refl _ _, rfl⟩
          apply free_is
          · intro a' w' hLe hfr hdep
            have e37 : a'.tmps.getD 37 undef = _ := hdep 4 37 (Nat.le_of_ble_eq_true rfl) rfl rfl
            conv at e37 => rhs; whnf
            have f37 := e37; simp only [Array.getD_eq_getD_getElem?] at f37
            have e38 : a'.tmps.getD 38 undef = _ := hdep 5 38 (Nat.le_of_ble_eq_true rfl) rfl rfl
            conv at e38 => rhs; whnf
            have f38 := e38; simp only [Array.getD_eq_getD_getElem?] at f38
            have e40 : a'.tmps.getD 40 undef = _ := hdep 7 40 (Nat.le_of_ble_eq_true rfl) rfl rfl
            conv at e40 => rhs; whnf
            have f40 := e40; simp only [Array.getD_eq_getD_getElem?] at f40
            have hlk := hask w' hLe
            refine wpOp_yes rfl rfl rfl e37 (fun K hK => ?_)
            go_simp
            exact hK _ _ ⟨_, rfl, Below.refl _ _, rfl⟩
          apply free_is
          · intro a' w' hLe hfr hdep
            have e37 : a'.tmps.getD 37 undef = _ := hdep 4 37 (Nat.le_of_ble_eq_true rfl) rfl rfl
            conv at e37 => rhs; whnf
            have f37 := e37; simp only [Array.getD_eq_getD_getElem?] at f37
            have e41 : a'.tmps.getD 41 undef = _ := hdep 8 41 (Nat.le_of_ble_eq_true rfl) rfl rfl
            conv at e41 => rhs; whnf
            have f41 := e41; simp only [Array.getD_eq_getD_getElem?] at f41
            refine wpOp_plain rfl rfl (fun K hK => ?_)
            go_simp
            exact hK _ _ ⟨_, rfl, Below.refl _ _, rfl⟩
          apply free_is
          · intro a' w' hLe hfr hdep
            have e42 : a'.tmps.getD 42 undef = _ := hdep 9 42 (Nat.le_of_ble_eq_true rfl) rfl rfl
            conv at e42 => rhs; whnf
            have f42 := e42; simp only [Array.getD_eq_getD_getElem?] at f42
            refine wpOp_plain rfl rfl (fun K hK => ?_)
            go_simp
            exact hK _ _ ⟨_, rfl, Below.refl _ _, rfl⟩
          apply free_is
          · intro a' w' hLe hfr hdep
            have e43 : a'.tmps.getD 43 undef = _ := hdep 10 43 (Nat.le_of_ble_eq_true rfl) rfl rfl
            conv at e43 => rhs; whnf
            have f43 := e43; simp only [Array.getD_eq_getD_getElem?] at f43
            have e5 := hfr 5 rfl
            conv at e5 => rhs; whnf
            have f5 := e5; simp only [Array.getD_eq_getD_getElem?] at f5
            refine wpOp_yes rfl rfl rfl e43 (fun K hK => ?_)
            go_simp
            exact hK _ _ ⟨_, rfl, Below.refl _ _, rfl⟩
          apply free_is
          · intro a' w' hLe hfr hdep
            have e43 : a'.tmps.getD 43 undef = _ := hdep 10 43 (Nat.le_of_ble_eq_true rfl) rfl rfl
            conv at e43 => rhs; whnf
            have f43 := e43; simp only [Array.getD_eq_getD_getElem?] at f43
            have e44 : a'.tmps.getD 44 undef = _ := hdep 11 44 (Nat.le_of_ble_eq_true rfl) rfl rfl
            conv at e44 => rhs; whnf
            have f44 := e44; simp only [Array.getD_eq_getD_getElem?] at f44
            have kc := fun i => keepc hLe (wr.heap.size) (by (try simp) <;> omega) i
            have kf := fun i => keepf hLe (wr.heap.size) (by (try simp) <;> omega) i
            have kz : wr.heap.size < w'.heap.size := (by have := hLe.size; (try simp at this); omega)
            refine wpOp_yes rfl rfl rfl e43 (fun K hK => ?_)
            go_simp
            exact hK _ _ ⟨_, rfl, Below.refl _ _, rfl⟩
          apply free_is
          · intro a' w' hLe hfr hdep
            have e43 : a'.tmps.getD 43 undef = _ := hdep 10 43 (Nat.le_of_ble_eq_true rfl) rfl rfl
            conv at e43 => rhs; whnf
            have f43 := e43; simp only [Array.getD_eq_getD_getElem?] at f43
            have e45 : a'.tmps.getD 45 undef = _ := hdep 12 45 (Nat.le_of_ble_eq_true rfl) rfl rfl
            conv at e45 => rhs; whnf
            have f45 := e45; simp only [Array.getD_eq_getD_getElem?] at f45
            have kc := fun i => keepc hLe (wr.heap.size) (by (try simp) <;> omega) i
            have kf := fun i => keepf hLe (wr.heap.size) (by (try simp) <;> omega) i
            have kz : wr.heap.size < w'.heap.size := (by have := hLe.size; (try simp at this); omega)
            refine wpOp_yes rfl rfl rfl e43 (fun K hK => ?_)
            go_simp
            refine (in_any _ _ _ _).mono ?_
            rintro e w2 ⟨rfl, rfl⟩
            exact hK _ _ ⟨_, rfl, Below.refl _ _, rfl⟩
          apply free_is
          · intro a' w' hLe hfr hdep
            have e43 : a'.tmps.getD 43 undef = _ := hdep 10 43 (Nat.le_of_ble_eq_true rfl) rfl rfl
            conv at e43 => rhs; whnf
            have f43 := e43; simp only [Array.getD_eq_getD_getElem?] at f43
            have e46 : a'.tmps.getD 46 undef = _ := hdep 13 46 (Nat.le_of_ble_eq_true rfl) rfl rfl
            conv at e46 => rhs; whnf
            have f46 := e46; simp only [Array.getD_eq_getD_getElem?] at f46
            refine wpOp_yes rfl rfl rfl e43 (fun K hK => ?_)
            go_simp
            exact hK _ _ ⟨_, rfl, Below.refl _ _, rfl⟩
          apply free_is
          · intro a' w' hLe hfr hdep
            have e43 : a'.tmps.getD 43 undef = _ := hdep 10 43 (Nat.le_of_ble_eq_true rfl) rfl rfl
            conv at e43 => rhs; whnf
            have f43 := e43; simp only [Array.getD_eq_getD_getElem?] at f43
            have e47 : a'.tmps.getD 47 undef = _ := hdep 14 47 (Nat.le_of_ble_eq_true rfl) rfl rfl
            conv at e47 => rhs; whnf
            have f47 := e47; simp only [Array.getD_eq_getD_getElem?] at f47
            refine wpOp_plain rfl rfl (fun K hK => ?_)
            go_simp
            exact hK _ _ ⟨_, rfl, Below.refl _ _, rfl⟩
          apply free_is
          · intro a' w' hLe hfr hdep
            have e48 : a'.tmps.getD 48 undef = _ := hdep 15 48 (Nat.le_of_ble_eq_true rfl) rfl rfl
            conv at e48 => rhs; whnf
            have f48 := e48; simp only [Array.getD_eq_getD_getElem?] at f48
            refine wpOp_plain rfl rfl (fun K hK => ?_)
            go_simp
            exact hK _ _ ⟨_, rfl, Below.refl _ _, rfl⟩
          apply free_is
          · intro a' w' hLe hfr hdep
            have e49 : a'.tmps.getD 49 undef = _ := hdep 16 49 (Nat.le_of_ble_eq_true rfl) rfl rfl
            conv at e49 => rhs; whnf
            have f49 := e49; simp only [Array.getD_eq_getD_getElem?] at f49
            have e5 := hfr 5 rfl
            conv at e5 => rhs; whnf
            have f5 := e5; simp only [Array.getD_eq_getD_getElem?] at f5
            refine wpOp_yes rfl rfl rfl e49 (fun K hK => ?_)
            go_simp
            exact hK _ _ ⟨_, rfl, Below.refl _ _, rfl⟩
          apply free_is
          · intro a' w' hLe hfr hdep
            have e49 : a'.tmps.getD 49 undef = _ := hdep 16 49 (Nat.le_of_ble_eq_true rfl) rfl rfl
            conv at e49 => rhs; whnf
            have f49 := e49; simp only [Array.getD_eq_getD_getElem?] at f49
            have e50 : a'.tmps.getD 50 undef = _ := hdep 17 50 (Nat.le_of_ble_eq_true rfl) rfl rfl
            conv at e50 => rhs; whnf
            have f50 := e50; simp only [Array.getD_eq_getD_getElem?] at f50
            have kc := fun i => keepc hLe (wr.heap.size) (by (try simp) <;> omega) i
            have kf := fun i => keepf hLe (wr.heap.size) (by (try simp) <;> omega) i
            have kz : wr.heap.size < w'.heap.size := (by have := hLe.size; (try simp at this); omega)
            refine wpOp_yes rfl rfl rfl e49 (fun K hK => ?_)
            go_simp
            exact hK _ _ ⟨_, rfl, Below.refl _ _, rfl⟩
          apply free_is
          · intro a' w' hLe hfr hdep
            have e49 : a'.tmps.getD 49 undef = _ := hdep 16 49 (Nat.le_of_ble_eq_true rfl) rfl rfl
            conv at e49 => rhs; whnf
            have f49 := e49; simp only [Array.getD_eq_getD_getElem?] at f49
            have e51 : a'.tmps.getD 51 undef = _ := hdep 18 51 (Nat.le_of_ble_eq_true rfl) rfl rfl
            conv at e51 => rhs; whnf
            have f51 := e51; simp only [Array.getD_eq_getD_getElem?] at f51
            have kc := fun i => keepc hLe (wr.heap.size) (by (try simp) <;> omega) i
            have kf := fun i => keepf hLe (wr.heap.size) (by (try simp) <;> omega) i
            have kz : wr.heap.size < w'.heap.size := (by have := hLe.size; (try simp at this); omega)
            refine wpOp_yes rfl rfl rfl e49 (fun K hK => ?_)
            go_simp
            refine (isTime_any _ _).mono ?_
            rintro e w2 ⟨rfl, rfl⟩
            exact hK _ _ ⟨_, rfl, Below.refl _ _, rfl⟩
          apply free_is
          · intro a' w' hLe hfr hdep
            have e49 : a'.tmps.getD 49 undef = _ := hdep 16 49 (Nat.le_of_ble_eq_true rfl) rfl rfl
            conv at e49 => rhs; whnf
            have f49 := e49; simp only [Array.getD_eq_getD_getElem?] at f49
            have e52 : a'.tmps.getD 52 undef = _ := hdep 19 52 (Nat.le_of_ble_eq_true rfl) rfl rfl
            conv at e52 => rhs; whnf
            have f52 := e52; simp only [Array.getD_eq_getD_getElem?] at f52
            refine wpOp_yes rfl rfl rfl e49 (fun K hK => ?_)
            go_simp
            exact hK _ _ ⟨_, rfl, Below.refl _ _, rfl⟩
          apply free_is
          · intro a' w' hLe hfr hdep
            have e49 : a'.tmps.getD 49 undef = _ := hdep 16 49 (Nat.le_of_ble_eq_true rfl) rfl rfl
            conv at e49 => rhs; whnf
            have f49 := e49; simp only [Array.getD_eq_getD_getElem?] at f49
            have e53 : a'.tmps.getD 53 undef = _ := hdep 20 53 (Nat.le_of_ble_eq_true rfl) rfl rfl
            conv at e53 => rhs; whnf
            have f53 := e53; simp only [Array.getD_eq_getD_getElem?] at f53
            refine wpOp_plain rfl rfl (fun K hK => ?_)
            go_simp
            exact hK _ _ ⟨_, rfl, Below.refl _ _, rfl⟩
          apply free_is
          · intro a' w' hLe hfr hdep
            have e54 : a'.tmps.getD 54 undef = _ := hdep 21 54 (Nat.le_of_ble_eq_true rfl) rfl rfl
            conv at e54 => rhs; whnf
            have f54 := e54; simp only [Array.getD_eq_getD_getElem?] at f54
            refine wpOp_plain rfl rfl (fun K hK => ?_)
            go_simp
            exact hK _ _ ⟨_, rfl, Below.refl _ _, rfl⟩
          apply free_is
          · intro a' w' hLe hfr hdep
            have e55 : a'.tmps.getD 55 undef = _ := hdep 22 55 (Nat.le_of_ble_eq_true rfl) rfl rfl
            conv at e55 => rhs; whnf
            have f55 := e55; simp only [Array.getD_eq_getD_getElem?] at f55
            have e4 := hfr 4 rfl
            conv at e4 => rhs; whnf
            have f4 := e4; simp only [Array.getD_eq_getD_getElem?] at f4
            refine wpOp_yes rfl rfl rfl e55 (fun K hK => ?_)
            go_simp
            exact hK _ _ ⟨_, rfl, Below.refl _ _, rfl⟩
          apply free_is
          · intro a' w' hLe hfr hdep
            have e55 : a'.tmps.getD 55 undef = _ := hdep 22 55 (Nat.le_of_ble_eq_true rfl) rfl rfl
            conv at e55 => rhs; whnf
            have f55 := e55; simp only [Array.getD_eq_getD_getElem?] at f55
            have e56 : a'.tmps.getD 56 undef = _ := hdep 23 56 (Nat.le_of_ble_eq_true rfl) rfl rfl
            conv at e56 => rhs; whnf
            have f56 := e56; simp only [Array.getD_eq_getD_getElem?] at f56
            refine wpOp_yes rfl rfl rfl e55 (fun K hK => ?_)
            go_simp
            exact hK _ _ ⟨_, rfl, Below.refl _ _, rfl⟩
          apply free_is
          · intro a' w' hLe hfr hdep
            have e55 : a'.tmps.getD 55 undef = _ := hdep 22 55 (Nat.le_of_ble_eq_true rfl) rfl rfl
            conv at e55 => rhs; whnf
            have f55 := e55; simp only [Array.getD_eq_getD_getElem?] at f55
            have e57 : a'.tmps.getD 57 undef = _ := hdep 24 57 (Nat.le_of_ble_eq_true rfl) rfl rfl
            conv at e57 => rhs; whnf
            have f57 := e57; simp only [Array.getD_eq_getD_getElem?] at f57
            refine wpOp_yes rfl rfl rfl e55 (fun K hK => ?_)
            go_simp
            exact hK _ _ ⟨_, rfl, Below.refl _ _, rfl⟩
          apply free_is
          · intro a' w' hLe hfr hdep
            have e58 : a'.tmps.getD 58 undef = _ := hdep 25 58 (Nat.le_of_ble_eq_true rfl) rfl rfl
            conv at e58 => rhs; whnf
            have f58 := e58; simp only [Array.getD_eq_getD_getElem?] at f58
            exact wpOp_no rfl rfl rfl e58 ⟨_, rfl, Below.refl _ _, rfl⟩
          apply free_is
          · intro a' w' hLe hfr hdep
            have e58 : a'.tmps.getD 58 undef = _ := hdep 25 58 (Nat.le_of_ble_eq_true rfl) rfl rfl
            conv at e58 => rhs; whnf
            have f58 := e58; simp only [Array.getD_eq_getD_getElem?] at f58
            exact wpOp_no rfl rfl rfl e58 ⟨_, rfl, Below.refl _ _, rfl⟩
          apply free_is
          · intro a' w' hLe hfr hdep
            have e58 : a'.tmps.getD 58 undef = _ := hdep 25 58 (Nat.le_of_ble_eq_true rfl) rfl rfl
            conv at e58 => rhs; whnf
            have f58 := e58; simp only [Array.getD_eq_getD_getElem?] at f58
            exact wpOp_no rfl rfl rfl e58 ⟨_, rfl, Below.refl _ _, rfl⟩
          apply free_is
          · intro a' w' hLe hfr hdep
            have e58 : a'.tmps.getD 58 undef = _ := hdep 25 58 (Nat.le_of_ble_eq_true rfl) rfl rfl
            conv at e58 => rhs; whnf
            have f58 := e58; simp only [Array.getD_eq_getD_getElem?] at f58
            exact wpOp_no rfl rfl rfl e58 ⟨_, rfl, Below.refl _ _, rfl⟩
          apply free_is
          · intro a' w' hLe hfr hdep
            have e58 : a'.tmps.getD 58 undef = _ := hdep 25 58 (Nat.le_of_ble_eq_true rfl) rfl rfl
            conv at e58 => rhs; whnf
            have f58 := e58; simp only [Array.getD_eq_getD_getElem?] at f58
            exact wpOp_no rfl rfl rfl e58 ⟨_, rfl, Below.refl _ _, rfl⟩
          apply free_is
          · intro a' w' hLe hfr hdep
            have e58 : a'.tmps.getD 58 undef = _ := hdep 25 58 (Nat.le_of_ble_eq_true rfl) rfl rfl
            conv at e58 => rhs; whnf
            have f58 := e58; simp only [Array.getD_eq_getD_getElem?] at f58
            exact wpOp_no rfl rfl rfl e58 ⟨_, rfl, Below.refl _ _, rfl⟩
          apply free_is
          · intro a' w' hLe hfr hdep
            have e58 : a'.tmps.getD 58 undef = _ := hdep 25 58 (Nat.le_of_ble_eq_true rfl) rfl rfl
            conv at e58 => rhs; whnf
            have f58 := e58; simp only [Array.getD_eq_getD_getElem?] at f58
            exact wpOp_no rfl rfl rfl e58 ⟨_, rfl, Below.refl _ _, rfl⟩
          apply free_is
          · intro a' w' hLe hfr hdep
            have e58 : a'.tmps.getD 58 undef = _ := hdep 25 58 (Nat.le_of_ble_eq_true rfl) rfl rfl
            conv at e58 => rhs; whnf
            have f58 := e58; simp only [Array.getD_eq_getD_getElem?] at f58
            exact wpOp_no rfl rfl rfl e58 ⟨_, rfl, Below.refl _ _, rfl⟩
          apply free_is
          · intro a' w' hLe hfr hdep
            have e58 : a'.tmps.getD 58 undef = _ := hdep 25 58 (Nat.le_of_ble_eq_true rfl) rfl rfl
            conv at e58 => rhs; whnf
            have f58 := e58; simp only [Array.getD_eq_getD_getElem?] at f58
            exact wpOp_no rfl rfl rfl e58 ⟨_, rfl, Below.refl _ _, rfl⟩
          apply free_is
          · intro a' w' hLe hfr hdep
            have e58 : a'.tmps.getD 58 undef = _ := hdep 25 58 (Nat.le_of_ble_eq_true rfl) rfl rfl
            conv at e58 => rhs; whnf
            have f58 := e58; simp only [Array.getD_eq_getD_getElem?] at f58
            exact wpOp_no rfl rfl rfl e58 ⟨_, rfl, Below.refl _ _, rfl⟩
          apply free_is
          · intro a' w' hLe hfr hdep
            have e55 : a'.tmps.getD 55 undef = _ := hdep 22 55 (Nat.le_of_ble_eq_true rfl) rfl rfl
            conv at e55 => rhs; whnf
            have f55 := e55; simp only [Array.getD_eq_getD_getElem?] at f55
            have e58 : a'.tmps.getD 58 undef = _ := hdep 25 58 (Nat.le_of_ble_eq_true rfl) rfl rfl
            conv at e58 => rhs; whnf
            have f58 := e58; simp only [Array.getD_eq_getD_getElem?] at f58
            have e68 : a'.tmps.getD 68 undef = _ := hdep 35 68 (Nat.le_of_ble_eq_true rfl) rfl rfl
            conv at e68 => rhs; whnf
            have f68 := e68; simp only [Array.getD_eq_getD_getElem?] at f68
            refine wpOp_yes rfl rfl rfl e55 (fun K hK => ?_)
            go_simp
            exact hK _ _ ⟨_, rfl, Below.refl _ _, rfl⟩
          apply free_is
          · intro a' w' hLe hfr hdep
            have e55 : a'.tmps.getD 55 undef = _ := hdep 22 55 (Nat.le_of_ble_eq_true rfl) rfl rfl
            conv at e55 => rhs; whnf
            have f55 := e55; simp only [Array.getD_eq_getD_getElem?] at f55
            have e69 : a'.tmps.getD 69 undef = _ := hdep 36 69 (Nat.le_of_ble_eq_true rfl) rfl rfl
            conv at e69 => rhs; whnf
            have f69 := e69; simp only [Array.getD_eq_getD_getElem?] at f69
            refine wpOp_plain rfl rfl (fun K hK => ?_)
            go_simp
            exact hK _ _ ⟨_, rfl, Below.refl _ _, rfl⟩
          apply free_nil
          intro vs w1 hb1 hT1
          have e33 : vs 0 = _ := hT1 0 33 rfl
          conv at e33 => rhs; whnf
          have e34 : vs 1 = _ := hT1 1 34 rfl
          conv at e34 => rhs; whnf
          have e35 : vs 2 = _ := hT1 2 35 rfl
          conv at e35 => rhs; whnf
          have e36 : vs 3 = _ := hT1 3 36 rfl
          conv at e36 => rhs; whnf
          have e37 : vs 4 = _ := hT1 4 37 rfl
          conv at e37 => rhs; whnf
          have e38 : vs 5 = _ := hT1 5 38 rfl
          conv at e38 => rhs; whnf
          have e39 : vs 6 = _ := hT1 6 39 rfl
          conv at e39 => rhs; whnf
          have e40 : vs 7 = _ := hT1 7 40 rfl
          conv at e40 => rhs; whnf
          have e41 : vs 8 = _ := hT1 8 41 rfl
          conv at e41 => rhs; whnf
          have e42 : vs 9 = _ := hT1 9 42 rfl
          conv at e42 => rhs; whnf
          have e43 : vs 10 = _ := hT1 10 43 rfl
          conv at e43 => rhs; whnf
          have e44 : vs 11 = _ := hT1 11 44 rfl
          conv at e44 => rhs; whnf
          have e45 : vs 12 = _ := hT1 12 45 rfl
          conv at e45 => rhs; whnf
          have e46 : vs 13 = _ := hT1 13 46 rfl
          conv at e46 => rhs; whnf
          have e47 : vs 14 = _ := hT1 14 47 rfl
          conv at e47 => rhs; whnf
          have e48 : vs 15 = _ := hT1 15 48 rfl
          conv at e48 => rhs; whnf
          have e49 : vs 16 = _ := hT1 16 49 rfl
          conv at e49 => rhs; whnf
          have e50 : vs 17 = _ := hT1 17 50 rfl
          conv at e50 => rhs; whnf
          have e51 : vs 18 = _ := hT1 18 51 rfl
          conv at e51 => rhs; whnf
          have e52 : vs 19 = _ := hT1 19 52 rfl
          conv at e52 => rhs; whnf
          have e53 : vs 20 = _ := hT1 20 53 rfl
          conv at e53 => rhs; whnf
          have e54 : vs 21 = _ := hT1 21 54 rfl
          conv at e54 => rhs; whnf
          have e55 : vs 22 = _ := hT1 22 55 rfl
          conv at e55 => rhs; whnf
          have e56 : vs 23 = _ := hT1 23 56 rfl
          conv at e56 => rhs; whnf
          have e57 : vs 24 = _ := hT1 24 57 rfl
          conv at e57 => rhs; whnf
          have e58 : vs 25 = _ := hT1 25 58 rfl
          conv at e58 => rhs; whnf
          have e59 : vs 26 = _ := hT1 26 59 rfl
          conv at e59 => rhs; whnf
          have e60 : vs 27 = _ := hT1 27 60 rfl
          conv at e60 => rhs; whnf
          have e61 : vs 28 = _ := hT1 28 61 rfl
          conv at e61 => rhs; whnf
          have e62 : vs 29 = _ := hT1 29 62 rfl
          conv at e62 => rhs; whnf
          have e63 : vs 30 = _ := hT1 30 63 rfl
          conv at e63 => rhs; whnf
          have e64 : vs 31 = _ := hT1 31 64 rfl
          conv at e64 => rhs; whnf
          have e65 : vs 32 = _ := hT1 32 65 rfl
          conv at e65 => rhs; whnf
          have e66 : vs 33 = _ := hT1 33 66 rfl
          conv at e66 => rhs; whnf
          have e67 : vs 34 = _ := hT1 34 67 rfl
          conv at e67 => rhs; whnf
          have e68 : vs 35 = _ := hT1 35 68 rfl
          conv at e68 => rhs; whnf
          have e69 : vs 36 = _ := hT1 36 69 rfl
          conv at e69 => rhs; whnf
          have e70 : vs 37 = _ := hT1 37 70 rfl
          conv at e70 => rhs; whnf
          simp only [putAll, List.drop_succ_cons, List.drop_zero, e33, e34, e35, e36, e37, e38, e39, e40, e41, e42, e43, e44, e45, e46, e47, e48, e49, e50, e51, e52, e53, e54, e55, e56, e57, e58, e59, e60, e61, e62, e63, e64, e65, e66, e67, e68, e69, e70]
          clear hT1 e33 e34 e35 e36 e37 e38 e39 e40 e41 e42 e43 e44 e45 e46 e47 e48 e49 e50 e51 e52 e53 e54 e55 e56 e57 e58 e59 e60 e61 e62 e63 e64 e65 e66 e67 e68 e69 e70
          go_simp
          have hS1 := (hS.below hbel).below hb1
          have hX1 := (hb1.block w.heap.size (heap_lt hX2)).trans hX2
          have hE1 := (hb1.block wr.heap.size (by simp)).trans (heap_alloc_new wr _)
          obtain ⟨cE, fE⟩ := blk hE1
          have hEl := heap_lt hE1
          go_wp2_with (at_mapUpdate; refine wpList_tell rfl (.tmp 71) (.tmp 73) (.const (.bool true)) rfl rfl hS1 (by unfold maxLen; omega) rfl rfl (flow_wf h1) ?_; intro w4 hS4 hg4)
          rw [inT_put] at hS4
          have hX4 := (hg4.block w.heap.size (heap_lt hX1) (by simp)).trans hX1
          go_roundw
          case rel => exact ⟨1, by omega, by go_num, upto hHO.out hno.out, hS4, hX4, Below.of_grown (Below.tr (Below.tr hB0 hbel) hb1) hg4 (by omega)⟩
          case measure => simp [intOf]; omega
        · obtain ⟨i, rfl⟩ : ∃ i, k = i + 1 := ⟨k - 1, by omega⟩
          have hr' := hc i (by omega)
          have s0 : wr.cell? ⟨bl, off + i * 7 + 6, none⟩ = some (.int .i64 (la i)) := (keepc hB0 bl (by omega) _).trans (hr' 6 _ rfl)
          have e1 : IntKind.i64.wrap ((i : Int) + 1 - 1) = (i : Int) := by rw [IntWalk.i64_in _ (by omega)]; omega
          have e2 : IntKind.i64.wrap (i : Int) = (i : Int) := IntWalk.i64_in _ (by omega)
          have e3 : (i : Int) < (n : Int) := by omega
          obtain ⟨cX, fX⟩ := blk hX2
          have hXl2 := heap_lt hX2
          clear hc hr' hrow
          by_cases h4 : la (i + 1) < la i
          · have hd : decide (la (i + 1) < la i) = true := by simpa using h4
            have h5 : ¬ la i ≤ la (i + 1) := by omega
            have hno := Lib.hid (tabVB_no (x0 := x0) (x1 := x1) (show i + 1 < n from hlt) (show taOk f0 f1 f2 f3 f4 to la (i + 1) = false from taOk_en (by simp [enOk, h5])))
            clear h5
            go_wp2
            refine wp_region_free (ds := [(0, 33), (1, 34), (2, 35), (3, 36), (4, 37), (5, 38), (6, 39), (7, 40), (8, 41), (9, 42), (10, 43), (11, 44), (12, 45), (13, 46), (14, 47), (15, 48), (16, 49), (17, 50), (18, 51), (19, 52), (20, 53), (21, 54), (22, 55), (23, 56), (24, 57), (25, 58), (26, 59), (27, 60), (28, 61), (29, 62), (30, 63), (31, 64), (32, 65), (33, 66), (34, 67), (35, 68), (36, 69), (37, 70)]) 38 (by kernel_rfl) (by kernel_rfl) (by first | exact .inl rfl | exact .inr (by kernel_rfl)) (by rfl) rfl rfl ?_
            apply free_is
            · intro a' w' hLe hfr hdep
              have e5 := hfr 5 rfl
              conv at e5 => rhs; whnf
              have f5 := e5; simp only [Array.getD_eq_getD_getElem?] at f5
              refine wpOp_plain rfl rfl (fun K hK => ?_)
              go_simp
              exact hK _ _ ⟨_, rfl, Below.refl _ _, rfl⟩
            apply free_is
            · intro a' w' hLe hfr hdep
              have e33 : a'.tmps.getD 33 undef = _ := hdep 0 33 (Nat.le_of_ble_eq_true rfl) rfl rfl
              conv at e33 => rhs; whnf
              have f33 := e33; simp only [Array.getD_eq_getD_getElem?] at f33
              have kc := fun i => keepc hLe (wr.heap.size) (by (try simp) <;> omega) i
              have kf := fun i => keepf hLe (wr.heap.size) (by (try simp) <;> omega) i
              have kz : wr.heap.size < w'.heap.size := (by have := hLe.size; (try simp at this); omega)
              have kc := fun i => keepc hLe (w.heap.size) (by (try simp) <;> omega) i
              have kf := fun i => keepf hLe (w.heap.size) (by (try simp) <;> omega) i
              have kz : w.heap.size < w'.heap.size := (by have := hLe.size; (try simp at this); omega)
              have kc := fun i => keepc hLe (bl) (by (try simp) <;> omega) i
              have kf := fun i => keepf hLe (bl) (by (try simp) <;> omega) i
              have kz : bl < w'.heap.size := (by have := hLe.size; (try simp at this); omega)
              refine wpOp_plain rfl rfl (fun K hK => ?_)
              go_simp
              exact hK _ _ ⟨_, rfl, Below.refl _ _, rfl⟩
            apply free_is
            · intro a' w' hLe hfr hdep
              have e34 : a'.tmps.getD 34 undef = _ := hdep 1 34 (Nat.le_of_ble_eq_true rfl) rfl rfl
              conv at e34 => rhs; whnf
              have f34 := e34; simp only [Array.getD_eq_getD_getElem?] at f34
              have kc := fun i => keepc hLe (wr.heap.size) (by (try simp) <;> omega) i
              have kf := fun i => keepf hLe (wr.heap.size) (by (try simp) <;> omega) i
              have kz : wr.heap.size < w'.heap.size := (by have := hLe.size; (try simp at this); omega)
              have kc := fun i => keepc hLe (w.heap.size) (by (try simp) <;> omega) i
              have kf := fun i => keepf hLe (w.heap.size) (by (try simp) <;> omega) i
              have kz : w.heap.size < w'.heap.size := (by have := hLe.size; (try simp at this); omega)
              have kc := fun i => keepc hLe (bl) (by (try simp) <;> omega) i
              have kf := fun i => keepf hLe (bl) (by (try simp) <;> omega) i
              have kz : bl < w'.heap.size := (by have := hLe.size; (try simp at this); omega)
              refine wpOp_plain rfl rfl (fun K hK => ?_)
              go_simp
              refine (implFlowValid_b _ _ _ _ _ _).mono ?_
              rintro e w2 ⟨rfl, hb⟩
              exact hK _ _ ⟨_, rfl, hb, rfl⟩
            apply free_is
            · intro a' w' hLe hfr hdep
              have e35 : a'.tmps.getD 35 undef = _ := hdep 2 35 (Nat.le_of_ble_eq_true rfl) rfl rfl
              conv at e35 => rhs; whnf
              have f35 := e35; simp only [Array.getD_eq_getD_getElem?] at f35
              refine wpOp_plain rfl rfl (fun K hK => ?_)
              go_simp
              exact hK _ _ ⟨_, rfl, Below.refl _ _, rfl⟩
            apply free_is
            · intro a' w' hLe hfr hdep
              have e36 : a'.tmps.getD 36 undef = _ := hdep 3 36 (Nat.le_of_ble_eq_true rfl) rfl rfl
              conv at e36 => rhs; whnf
              have f36 := e36; simp only [Array.getD_eq_getD_getElem?] at f36
              refine wpOp_plain rfl rfl (fun K hK => ?_)
              go_simp
              exact hK _ _ ⟨_, rfl, Below.refl _ _, rfl⟩
            apply free_is
            · intro a' w' hLe hfr hdep
              have e37 : a'.tmps.getD 37 undef = _ := hdep 4 37 (Nat.le_of_ble_eq_true rfl) rfl rfl
              conv at e37 => rhs; whnf
              have f37 := e37; simp only [Array.getD_eq_getD_getElem?] at f37
              have e3 := hfr 3 rfl
              conv at e3 => rhs; whnf
              have f3 := e3; simp only [Array.getD_eq_getD_getElem?] at f3
              refine wpOp_yes rfl rfl rfl e37 (fun K hK => ?_)
              go_simp
              exact hK _ _ ⟨_, rfl, Below.refl _ _, rfl⟩
            apply free_is
            · intro a' w' hLe hfr hdep
              have e37 : a'.tmps.getD 37 undef = _ := hdep 4 37 (Nat.le_of_ble_eq_true rfl) rfl rfl
              conv at e37 => rhs; whnf
              have f37 := e37; simp only [Array.getD_eq_getD_getElem?] at f37
              have e5 := hfr 5 rfl
              conv at e5 => rhs; whnf
              have f5 := e5; simp only [Array.getD_eq_getD_getElem?] at f5
              refine wpOp_yes rfl rfl rfl e37 (fun K hK => ?_)
              go_simp
              exact hK _ _ ⟨_, rfl, Below.refl _ _, rfl⟩
            apply free_is
            · intro a' w' hLe hfr hdep
              have e37 : a'.tmps.getD 37 undef = _ := hdep 4 37 (Nat.le_of_ble_eq_true rfl) rfl rfl
              conv at e37 => rhs; whnf
              have f37 := e37; simp only [Array.getD_eq_getD_getElem?] at f37
              have e39 : a'.tmps.getD 39 undef = _ := hdep 6 39 (Nat.le_of_ble_eq_true rfl) rfl rfl
              conv at e39 => rhs; whnf
              have f39 := e39; simp only [Array.getD_eq_getD_getElem?] at f39
              have kc := fun i => keepc hLe (wr.heap.size) (by (try simp) <;> omega) i
              have kf := fun i => keepf hLe (wr.heap.size) (by (try simp) <;> omega) i
              have kz : wr.heap.size < w'.heap.size := (by have := hLe.size; (try simp at this); omega)
              have kc := fun i => keepc hLe (w.heap.size) (by (try simp) <;> omega) i
              have kf := fun i => keepf hLe (w.heap.size) (by (try simp) <;> omega) i
              have kz : w.heap.size < w'.heap.size := (by have := hLe.size; (try simp at this); omega)
              have kc := fun i => keepc hLe (bl) (by (try simp) <;> omega) i
              have kf := fun i => keepf hLe (bl) (by (try simp) <;> omega) i
              have kz : bl < w'.heap.size := (by have := hLe.size; (try simp at this); omega)
              refine wpOp_yes rfl rfl rfl e37 (fun K hK => ?_)
              go_simp
              exact hK _ _ ⟨_, rfl, Below.refl _ _, rfl⟩
            apply free_is
            · intro a' w' hLe hfr hdep
              have e37 : a'.tmps.getD 37 undef = _ := hdep 4 37 (Nat.le_of_ble_eq_true rfl) rfl rfl
              conv at e37 => rhs; whnf
              have f37 := e37; simp only [Array.getD_eq_getD_getElem?] at f37
              have e38 : a'.tmps.getD 38 undef = _ := hdep 5 38 (Nat.le_of_ble_eq_true rfl) rfl rfl
              conv at e38 => rhs; whnf
              have f38 := e38; simp only [Array.getD_eq_getD_getElem?] at f38
              have e40 : a'.tmps.getD 40 undef = _ := hdep 7 40 (Nat.le_of_ble_eq_true rfl) rfl rfl
              conv at e40 => rhs; whnf
              have f40 := e40; simp only [Array.getD_eq_getD_getElem?] at f40
              have hlk := hask w' hLe
              refine wpOp_yes rfl rfl rfl e37 (fun K hK => ?_)
              go_simp
              exact hK _ _ ⟨_, rfl, Below.refl _ _, rfl⟩
            apply free_is
            · intro a' w' hLe hfr hdep
              have e37 : a'.tmps.getD 37 undef = _ := hdep 4 37 (Nat.le_of_ble_eq_true rfl) rfl rfl
              conv at e37 => rhs; whnf
              have f37 := e37; simp only [Array.getD_eq_getD_getElem?] at f37
              have e41 : a'.tmps.getD 41 undef = _ := hdep 8 41 (Nat.le_of_ble_eq_true rfl) rfl rfl
              conv at e41 => rhs; whnf
              have f41 := e41; simp only [Array.getD_eq_getD_getElem?] at f41
              refine wpOp_plain rfl rfl (fun K hK => ?_)
              go_simp
              exact hK _ _ ⟨_, rfl, Below.refl _ _, rfl⟩
            apply free_is
            · intro a' w' hLe hfr hdep
              have e42 : a'.tmps.getD 42 undef = _ := hdep 9 42 (Nat.le_of_ble_eq_true rfl) rfl rfl
              conv at e42 => rhs; whnf
              have f42 := e42; simp only [Array.getD_eq_getD_getElem?] at f42
              refine wpOp_plain rfl rfl (fun K hK => ?_)
              go_simp
              exact hK _ _ ⟨_, rfl, Below.refl _ _, rfl⟩
            apply free_is
            · intro a' w' hLe hfr hdep
              have e43 : a'.tmps.getD 43 undef = _ := hdep 10 43 (Nat.le_of_ble_eq_true rfl) rfl rfl
              conv at e43 => rhs; whnf
              have f43 := e43; simp only [Array.getD_eq_getD_getElem?] at f43
              have e5 := hfr 5 rfl
              conv at e5 => rhs; whnf
              have f5 := e5; simp only [Array.getD_eq_getD_getElem?] at f5
              refine wpOp_yes rfl rfl rfl e43 (fun K hK => ?_)
              go_simp
              exact hK _ _ ⟨_, rfl, Below.refl _ _, rfl⟩
            apply free_is
            · intro a' w' hLe hfr hdep
              have e43 : a'.tmps.getD 43 undef = _ := hdep 10 43 (Nat.le_of_ble_eq_true rfl) rfl rfl
              conv at e43 => rhs; whnf
              have f43 := e43; simp only [Array.getD_eq_getD_getElem?] at f43
              have e44 : a'.tmps.getD 44 undef = _ := hdep 11 44 (Nat.le_of_ble_eq_true rfl) rfl rfl
              conv at e44 => rhs; whnf
              have f44 := e44; simp only [Array.getD_eq_getD_getElem?] at f44
              have kc := fun i => keepc hLe (wr.heap.size) (by (try simp) <;> omega) i
              have kf := fun i => keepf hLe (wr.heap.size) (by (try simp) <;> omega) i
              have kz : wr.heap.size < w'.heap.size := (by have := hLe.size; (try simp at this); omega)
              have kc := fun i => keepc hLe (w.heap.size) (by (try simp) <;> omega) i
              have kf := fun i => keepf hLe (w.heap.size) (by (try simp) <;> omega) i
              have kz : w.heap.size < w'.heap.size := (by have := hLe.size; (try simp at this); omega)
              have kc := fun i => keepc hLe (bl) (by (try simp) <;> omega) i
              have kf := fun i => keepf hLe (bl) (by (try simp) <;> omega) i
              have kz : bl < w'.heap.size := (by have := hLe.size; (try simp at this); omega)
              refine wpOp_yes rfl rfl rfl e43 (fun K hK => ?_)
              go_simp
              exact hK _ _ ⟨_, rfl, Below.refl _ _, rfl⟩
            apply free_is
            · intro a' w' hLe hfr hdep
              have e43 : a'.tmps.getD 43 undef = _ := hdep 10 43 (Nat.le_of_ble_eq_true rfl) rfl rfl
              conv at e43 => rhs; whnf
              have f43 := e43; simp only [Array.getD_eq_getD_getElem?] at f43
              have e45 : a'.tmps.getD 45 undef = _ := hdep 12 45 (Nat.le_of_ble_eq_true rfl) rfl rfl
              conv at e45 => rhs; whnf
              have f45 := e45; simp only [Array.getD_eq_getD_getElem?] at f45
              have kc := fun i => keepc hLe (wr.heap.size) (by (try simp) <;> omega) i
              have kf := fun i => keepf hLe (wr.heap.size) (by (try simp) <;> omega) i
              have kz : wr.heap.size < w'.heap.size := (by have := hLe.size; (try simp at this); omega)
              have kc := fun i => keepc hLe (w.heap.size) (by (try simp) <;> omega) i
              have kf := fun i => keepf hLe (w.heap.size) (by (try simp) <;> omega) i
              have kz : w.heap.size < w'.heap.size := (by have := hLe.size; (try simp at this); omega)
              have kc := fun i => keepc hLe (bl) (by (try simp) <;> omega) i
              have kf := fun i => keepf hLe (bl) (by (try simp) <;> omega) i
              have kz : bl < w'.heap.size := (by have := hLe.size; (try simp at this); omega)
              refine wpOp_yes rfl rfl rfl e43 (fun K hK => ?_)
              go_simp
              refine (in_any _ _ _ _).mono ?_
              rintro e w2 ⟨rfl, rfl⟩
              exact hK _ _ ⟨_, rfl, Below.refl _ _, rfl⟩
            apply free_is
            · intro a' w' hLe hfr hdep
              have e43 : a'.tmps.getD 43 undef = _ := hdep 10 43 (Nat.le_of_ble_eq_true rfl) rfl rfl
              conv at e43 => rhs; whnf
              have f43 := e43; simp only [Array.getD_eq_getD_getElem?] at f43
              have e46 : a'.tmps.getD 46 undef = _ := hdep 13 46 (Nat.le_of_ble_eq_true rfl) rfl rfl
              conv at e46 => rhs; whnf
              have f46 := e46; simp only [Array.getD_eq_getD_getElem?] at f46
              refine wpOp_yes rfl rfl rfl e43 (fun K hK => ?_)
              go_simp
              exact hK _ _ ⟨_, rfl, Below.refl _ _, rfl⟩
            apply free_is
            · intro a' w' hLe hfr hdep
              have e43 : a'.tmps.getD 43 undef = _ := hdep 10 43 (Nat.le_of_ble_eq_true rfl) rfl rfl
              conv at e43 => rhs; whnf
              have f43 := e43; simp only [Array.getD_eq_getD_getElem?] at f43
              have e47 : a'.tmps.getD 47 undef = _ := hdep 14 47 (Nat.le_of_ble_eq_true rfl) rfl rfl
              conv at e47 => rhs; whnf
              have f47 := e47; simp only [Array.getD_eq_getD_getElem?] at f47
              refine wpOp_plain rfl rfl (fun K hK => ?_)
              go_simp
              exact hK _ _ ⟨_, rfl, Below.refl _ _, rfl⟩
            apply free_is
            · intro a' w' hLe hfr hdep
              have e48 : a'.tmps.getD 48 undef = _ := hdep 15 48 (Nat.le_of_ble_eq_true rfl) rfl rfl
              conv at e48 => rhs; whnf
              have f48 := e48; simp only [Array.getD_eq_getD_getElem?] at f48
              refine wpOp_plain rfl rfl (fun K hK => ?_)
              go_simp
              exact hK _ _ ⟨_, rfl, Below.refl _ _, rfl⟩
            apply free_is
            · intro a' w' hLe hfr hdep
              have e49 : a'.tmps.getD 49 undef = _ := hdep 16 49 (Nat.le_of_ble_eq_true rfl) rfl rfl
              conv at e49 => rhs; whnf
              have f49 := e49; simp only [Array.getD_eq_getD_getElem?] at f49
              have e5 := hfr 5 rfl
              conv at e5 => rhs; whnf
              have f5 := e5; simp only [Array.getD_eq_getD_getElem?] at f5
              refine wpOp_yes rfl rfl rfl e49 (fun K hK => ?_)
              go_simp
              exact hK _ _ ⟨_, rfl, Below.refl _ _, rfl⟩
            apply free_is
            · intro a' w' hLe hfr hdep
              have e49 : a'.tmps.getD 49 undef = _ := hdep 16 49 (Nat.le_of_ble_eq_true rfl) rfl rfl
              conv at e49 => rhs; whnf
              have f49 := e49; simp only [Array.getD_eq_getD_getElem?] at f49
              have e50 : a'.tmps.getD 50 undef = _ := hdep 17 50 (Nat.le_of_ble_eq_true rfl) rfl rfl
              conv at e50 => rhs; whnf
              have f50 := e50; simp only [Array.getD_eq_getD_getElem?] at f50
              have kc := fun i => keepc hLe (wr.heap.size) (by (try simp) <;> omega) i
              have kf := fun i => keepf hLe (wr.heap.size) (by (try simp) <;> omega) i
              have kz : wr.heap.size < w'.heap.size := (by have := hLe.size; (try simp at this); omega)
              have kc := fun i => keepc hLe (w.heap.size) (by (try simp) <;> omega) i
              have kf := fun i => keepf hLe (w.heap.size) (by (try simp) <;> omega) i
              have kz : w.heap.size < w'.heap.size := (by have := hLe.size; (try simp at this); omega)
              have kc := fun i => keepc hLe (bl) (by (try simp) <;> omega) i
              have kf := fun i => keepf hLe (bl) (by (try simp) <;> omega) i
              have kz : bl < w'.heap.size := (by have := hLe.size; (try simp at this); omega)
              refine wpOp_yes rfl rfl rfl e49 (fun K hK => ?_)
              go_simp
              exact hK _ _ ⟨_, rfl, Below.refl _ _, rfl⟩
            apply free_is
            · intro a' w' hLe hfr hdep
              have e49 : a'.tmps.getD 49 undef = _ := hdep 16 49 (Nat.le_of_ble_eq_true rfl) rfl rfl
              conv at e49 => rhs; whnf
              have f49 := e49; simp only [Array.getD_eq_getD_getElem?] at f49
              have e51 : a'.tmps.getD 51 undef = _ := hdep 18 51 (Nat.le_of_ble_eq_true rfl) rfl rfl
              conv at e51 => rhs; whnf
              have f51 := e51; simp only [Array.getD_eq_getD_getElem?] at f51
              have kc := fun i => keepc hLe (wr.heap.size) (by (try simp) <;> omega) i
              have kf := fun i => keepf hLe (wr.heap.size) (by (try simp) <;> omega) i
              have kz : wr.heap.size < w'.heap.size := (by have := hLe.size; (try simp at this); omega)
              have kc := fun i => keepc hLe (w.heap.size) (by (try simp) <;> omega) i
              have kf := fun i => keepf hLe (w.heap.size) (by (try simp) <;> omega) i
              have kz : w.heap.size < w'.heap.size := (by have := hLe.size; (try simp at this); omega)
              have kc := fun i => keepc hLe (bl) (by (try simp) <;> omega) i
              have kf := fun i => keepf hLe (bl) (by (try simp) <;> omega) i
              have kz : bl < w'.heap.size := (by have := hLe.size; (try simp at this); omega)
              refine wpOp_yes rfl rfl rfl e49 (fun K hK => ?_)
              go_simp
              refine (isTime_any _ _).mono ?_
              rintro e w2 ⟨rfl, rfl⟩
              exact hK _ _ ⟨_, rfl, Below.refl _ _, rfl⟩
            apply free_is
            · intro a' w' hLe hfr hdep
              have e49 : a'.tmps.getD 49 undef = _ := hdep 16 49 (Nat.le_of_ble_eq_true rfl) rfl rfl
              conv at e49 => rhs; whnf
              have f49 := e49; simp only [Array.getD_eq_getD_getElem?] at f49
              have e52 : a'.tmps.getD 52 undef = _ := hdep 19 52 (Nat.le_of_ble_eq_true rfl) rfl rfl
              conv at e52 => rhs; whnf
              have f52 := e52; simp only [Array.getD_eq_getD_getElem?] at f52
              refine wpOp_yes rfl rfl rfl e49 (fun K hK => ?_)
              go_simp
              exact hK _ _ ⟨_, rfl, Below.refl _ _, rfl⟩
            apply free_is
            · intro a' w' hLe hfr hdep
              have e49 : a'.tmps.getD 49 undef = _ := hdep 16 49 (Nat.le_of_ble_eq_true rfl) rfl rfl
              conv at e49 => rhs; whnf
              have f49 := e49; simp only [Array.getD_eq_getD_getElem?] at f49
              have e53 : a'.tmps.getD 53 undef = _ := hdep 20 53 (Nat.le_of_ble_eq_true rfl) rfl rfl
              conv at e53 => rhs; whnf
              have f53 := e53; simp only [Array.getD_eq_getD_getElem?] at f53
              refine wpOp_plain rfl rfl (fun K hK => ?_)
              go_simp
              exact hK _ _ ⟨_, rfl, Below.refl _ _, rfl⟩
            apply free_is
            · intro a' w' hLe hfr hdep
              have e54 : a'.tmps.getD 54 undef = _ := hdep 21 54 (Nat.le_of_ble_eq_true rfl) rfl rfl
              conv at e54 => rhs; whnf
              have f54 := e54; simp only [Array.getD_eq_getD_getElem?] at f54
              refine wpOp_plain rfl rfl (fun K hK => ?_)
              go_simp
              exact hK _ _ ⟨_, rfl, Below.refl _ _, rfl⟩
            apply free_is
            · intro a' w' hLe hfr hdep
              have e55 : a'.tmps.getD 55 undef = _ := hdep 22 55 (Nat.le_of_ble_eq_true rfl) rfl rfl
              conv at e55 => rhs; whnf
              have f55 := e55; simp only [Array.getD_eq_getD_getElem?] at f55
              have e4 := hfr 4 rfl
              conv at e4 => rhs; whnf
              have f4 := e4; simp only [Array.getD_eq_getD_getElem?] at f4
              refine wpOp_yes rfl rfl rfl e55 (fun K hK => ?_)
              go_simp
              exact hK _ _ ⟨_, rfl, Below.refl _ _, rfl⟩
            apply free_is
            · intro a' w' hLe hfr hdep
              have e55 : a'.tmps.getD 55 undef = _ := hdep 22 55 (Nat.le_of_ble_eq_true rfl) rfl rfl
              conv at e55 => rhs; whnf
              have f55 := e55; simp only [Array.getD_eq_getD_getElem?] at f55
              have e56 : a'.tmps.getD 56 undef = _ := hdep 23 56 (Nat.le_of_ble_eq_true rfl) rfl rfl
              conv at e56 => rhs; whnf
              have f56 := e56; simp only [Array.getD_eq_getD_getElem?] at f56
              refine wpOp_yes rfl rfl rfl e55 (fun K hK => ?_)
              go_simp
              exact hK _ _ ⟨_, rfl, Below.refl _ _, rfl⟩
            apply free_is
            · intro a' w' hLe hfr hdep
              have e55 : a'.tmps.getD 55 undef = _ := hdep 22 55 (Nat.le_of_ble_eq_true rfl) rfl rfl
              conv at e55 => rhs; whnf
              have f55 := e55; simp only [Array.getD_eq_getD_getElem?] at f55
              have e57 : a'.tmps.getD 57 undef = _ := hdep 24 57 (Nat.le_of_ble_eq_true rfl) rfl rfl
              conv at e57 => rhs; whnf
              have f57 := e57; simp only [Array.getD_eq_getD_getElem?] at f57
              refine wpOp_yes rfl rfl rfl e55 (fun K hK => ?_)
              go_simp
              exact hK _ _ ⟨_, rfl, Below.refl _ _, rfl⟩
            apply free_is
            · intro a' w' hLe hfr hdep
              have e58 : a'.tmps.getD 58 undef = _ := hdep 25 58 (Nat.le_of_ble_eq_true rfl) rfl rfl
              conv at e58 => rhs; whnf
              have f58 := e58; simp only [Array.getD_eq_getD_getElem?] at f58
              have e5 := hfr 5 rfl
              conv at e5 => rhs; whnf
              have f5 := e5; simp only [Array.getD_eq_getD_getElem?] at f5
              refine wpOp_yes rfl rfl rfl e58 (fun K hK => ?_)
              go_simp
              exact hK _ _ ⟨_, rfl, Below.refl _ _, rfl⟩
            apply free_is
            · intro a' w' hLe hfr hdep
              have e58 : a'.tmps.getD 58 undef = _ := hdep 25 58 (Nat.le_of_ble_eq_true rfl) rfl rfl
              conv at e58 => rhs; whnf
              have f58 := e58; simp only [Array.getD_eq_getD_getElem?] at f58
              have e59 : a'.tmps.getD 59 undef = _ := hdep 26 59 (Nat.le_of_ble_eq_true rfl) rfl rfl
              conv at e59 => rhs; whnf
              have f59 := e59; simp only [Array.getD_eq_getD_getElem?] at f59
              have kc := fun i => keepc hLe (wr.heap.size) (by (try simp) <;> omega) i
              have kf := fun i => keepf hLe (wr.heap.size) (by (try simp) <;> omega) i
              have kz : wr.heap.size < w'.heap.size := (by have := hLe.size; (try simp at this); omega)
              have kc := fun i => keepc hLe (w.heap.size) (by (try simp) <;> omega) i
              have kf := fun i => keepf hLe (w.heap.size) (by (try simp) <;> omega) i
              have kz : w.heap.size < w'.heap.size := (by have := hLe.size; (try simp at this); omega)
              have kc := fun i => keepc hLe (bl) (by (try simp) <;> omega) i
              have kf := fun i => keepf hLe (bl) (by (try simp) <;> omega) i
              have kz : bl < w'.heap.size := (by have := hLe.size; (try simp at this); omega)
              refine wpOp_yes rfl rfl rfl e58 (fun K hK => ?_)
              go_simp
              exact hK _ _ ⟨_, rfl, Below.refl _ _, rfl⟩
            apply free_is
            · intro a' w' hLe hfr hdep
              have e58 : a'.tmps.getD 58 undef = _ := hdep 25 58 (Nat.le_of_ble_eq_true rfl) rfl rfl
              conv at e58 => rhs; whnf
              have f58 := e58; simp only [Array.getD_eq_getD_getElem?] at f58
              have e1 := hfr 1 rfl
              conv at e1 => rhs; whnf
              have f1 := e1; simp only [Array.getD_eq_getD_getElem?] at f1
              refine wpOp_yes rfl rfl rfl e58 (fun K hK => ?_)
              go_simp
              exact hK _ _ ⟨_, rfl, Below.refl _ _, rfl⟩
            apply free_is
            · intro a' w' hLe hfr hdep
              have e58 : a'.tmps.getD 58 undef = _ := hdep 25 58 (Nat.le_of_ble_eq_true rfl) rfl rfl
              conv at e58 => rhs; whnf
              have f58 := e58; simp only [Array.getD_eq_getD_getElem?] at f58
              have e61 : a'.tmps.getD 61 undef = _ := hdep 28 61 (Nat.le_of_ble_eq_true rfl) rfl rfl
              conv at e61 => rhs; whnf
              have f61 := e61; simp only [Array.getD_eq_getD_getElem?] at f61
              have kc := fun i => keepc hLe (wr.heap.size) (by (try simp) <;> omega) i
              have kf := fun i => keepf hLe (wr.heap.size) (by (try simp) <;> omega) i
              have kz : wr.heap.size < w'.heap.size := (by have := hLe.size; (try simp at this); omega)
              have kc := fun i => keepc hLe (w.heap.size) (by (try simp) <;> omega) i
              have kf := fun i => keepf hLe (w.heap.size) (by (try simp) <;> omega) i
              have kz : w.heap.size < w'.heap.size := (by have := hLe.size; (try simp at this); omega)
              have kc := fun i => keepc hLe (bl) (by (try simp) <;> omega) i
              have kf := fun i => keepf hLe (bl) (by (try simp) <;> omega) i
              have kz : bl < w'.heap.size := (by have := hLe.size; (try simp at this); omega)
              refine wpOp_yes rfl rfl rfl e58 (fun K hK => ?_)
              go_simp
              exact hK _ _ ⟨_, rfl, Below.refl _ _, rfl⟩
            apply free_is
            · intro a' w' hLe hfr hdep
              have e58 : a'.tmps.getD 58 undef = _ := hdep 25 58 (Nat.le_of_ble_eq_true rfl) rfl rfl
              conv at e58 => rhs; whnf
              have f58 := e58; simp only [Array.getD_eq_getD_getElem?] at f58
              have e4 := hfr 4 rfl
              conv at e4 => rhs; whnf
              have f4 := e4; simp only [Array.getD_eq_getD_getElem?] at f4
              refine wpOp_yes rfl rfl rfl e58 (fun K hK => ?_)
              go_simp
              exact hK _ _ ⟨_, rfl, Below.refl _ _, rfl⟩
            apply free_is
            · intro a' w' hLe hfr hdep
              have e58 : a'.tmps.getD 58 undef = _ := hdep 25 58 (Nat.le_of_ble_eq_true rfl) rfl rfl
              conv at e58 => rhs; whnf
              have f58 := e58; simp only [Array.getD_eq_getD_getElem?] at f58
              have e63 : a'.tmps.getD 63 undef = _ := hdep 30 63 (Nat.le_of_ble_eq_true rfl) rfl rfl
              conv at e63 => rhs; whnf
              have f63 := e63; simp only [Array.getD_eq_getD_getElem?] at f63
              refine wpOp_yes rfl rfl rfl e58 (fun K hK => ?_)
              go_simp
              exact hK _ _ ⟨_, rfl, Below.refl _ _, rfl⟩
            apply free_is
            · intro a' w' hLe hfr hdep
              have e58 : a'.tmps.getD 58 undef = _ := hdep 25 58 (Nat.le_of_ble_eq_true rfl) rfl rfl
              conv at e58 => rhs; whnf
              have f58 := e58; simp only [Array.getD_eq_getD_getElem?] at f58
              have e62 : a'.tmps.getD 62 undef = _ := hdep 29 62 (Nat.le_of_ble_eq_true rfl) rfl rfl
              conv at e62 => rhs; whnf
              have f62 := e62; simp only [Array.getD_eq_getD_getElem?] at f62
              have e64 : a'.tmps.getD 64 undef = _ := hdep 31 64 (Nat.le_of_ble_eq_true rfl) rfl rfl
              conv at e64 => rhs; whnf
              have f64 := e64; simp only [Array.getD_eq_getD_getElem?] at f64
              refine wpOp_yes rfl rfl rfl e58 (fun K hK => ?_)
              go_simp
              exact hK _ _ ⟨_, rfl, Below.refl _ _, rfl⟩
            apply free_is
            · intro a' w' hLe hfr hdep
              have e58 : a'.tmps.getD 58 undef = _ := hdep 25 58 (Nat.le_of_ble_eq_true rfl) rfl rfl
              conv at e58 => rhs; whnf
              have f58 := e58; simp only [Array.getD_eq_getD_getElem?] at f58
              have e65 : a'.tmps.getD 65 undef = _ := hdep 32 65 (Nat.le_of_ble_eq_true rfl) rfl rfl
              conv at e65 => rhs; whnf
              have f65 := e65; simp only [Array.getD_eq_getD_getElem?] at f65
              refine wpOp_yes rfl rfl rfl e58 (fun K hK => ?_)
              go_simp
              exact hK _ _ ⟨_, rfl, Below.refl _ _, rfl⟩
            apply free_is
            · intro a' w' hLe hfr hdep
              have e58 : a'.tmps.getD 58 undef = _ := hdep 25 58 (Nat.le_of_ble_eq_true rfl) rfl rfl
              conv at e58 => rhs; whnf
              have f58 := e58; simp only [Array.getD_eq_getD_getElem?] at f58
              have e66 : a'.tmps.getD 66 undef = _ := hdep 33 66 (Nat.le_of_ble_eq_true rfl) rfl rfl
              conv at e66 => rhs; whnf
              have f66 := e66; simp only [Array.getD_eq_getD_getElem?] at f66
              have kc := fun i => keepc hLe (wr.heap.size) (by (try simp) <;> omega) i
              have kf := fun i => keepf hLe (wr.heap.size) (by (try simp) <;> omega) i
              have kz : wr.heap.size < w'.heap.size := (by have := hLe.size; (try simp at this); omega)
              have kc := fun i => keepc hLe (w.heap.size) (by (try simp) <;> omega) i
              have kf := fun i => keepf hLe (w.heap.size) (by (try simp) <;> omega) i
              have kz : w.heap.size < w'.heap.size := (by have := hLe.size; (try simp at this); omega)
              have kc := fun i => keepc hLe (bl) (by (try simp) <;> omega) i
              have kf := fun i => keepf hLe (bl) (by (try simp) <;> omega) i
              have kz : bl < w'.heap.size := (by have := hLe.size; (try simp at this); omega)
              refine wpOp_yes rfl rfl rfl e58 (fun K hK => ?_)
              go_simp
              exact hK _ _ ⟨_, rfl, Below.refl _ _, rfl⟩
            apply free_is
            · intro a' w' hLe hfr hdep
              have e58 : a'.tmps.getD 58 undef = _ := hdep 25 58 (Nat.le_of_ble_eq_true rfl) rfl rfl
              conv at e58 => rhs; whnf
              have f58 := e58; simp only [Array.getD_eq_getD_getElem?] at f58
              have e60 : a'.tmps.getD 60 undef = _ := hdep 27 60 (Nat.le_of_ble_eq_true rfl) rfl rfl
              conv at e60 => rhs; whnf
              have f60 := e60; simp only [Array.getD_eq_getD_getElem?] at f60
              have e67 : a'.tmps.getD 67 undef = _ := hdep 34 67 (Nat.le_of_ble_eq_true rfl) rfl rfl
              conv at e67 => rhs; whnf
              have f67 := e67; simp only [Array.getD_eq_getD_getElem?] at f67
              refine wpOp_yes rfl rfl rfl e58 (fun K hK => ?_)
              go_simp
              exact hK _ _ ⟨_, rfl, Below.refl _ _, rfl⟩
            apply free_is
            · intro a' w' hLe hfr hdep
              have e55 : a'.tmps.getD 55 undef = _ := hdep 22 55 (Nat.le_of_ble_eq_true rfl) rfl rfl
              conv at e55 => rhs; whnf
              have f55 := e55; simp only [Array.getD_eq_getD_getElem?] at f55
              have e58 : a'.tmps.getD 58 undef = _ := hdep 25 58 (Nat.le_of_ble_eq_true rfl) rfl rfl
              conv at e58 => rhs; whnf
              have f58 := e58; simp only [Array.getD_eq_getD_getElem?] at f58
              have e68 : a'.tmps.getD 68 undef = _ := hdep 35 68 (Nat.le_of_ble_eq_true rfl) rfl rfl
              conv at e68 => rhs; whnf
              have f68 := e68; simp only [Array.getD_eq_getD_getElem?] at f68
              refine wpOp_yes rfl rfl rfl e55 (fun K hK => ?_)
              go_simp
              exact hK _ _ ⟨_, rfl, Below.refl _ _, rfl⟩
            apply free_is
            · intro a' w' hLe hfr hdep
              have e55 : a'.tmps.getD 55 undef = _ := hdep 22 55 (Nat.le_of_ble_eq_true rfl) rfl rfl
              conv at e55 => rhs; whnf
              have f55 := e55; simp only [Array.getD_eq_getD_getElem?] at f55
              have e69 : a'.tmps.getD 69 undef = _ := hdep 36 69 (Nat.le_of_ble_eq_true rfl) rfl rfl
              conv at e69 => rhs; whnf
              have f69 := e69; simp only [Array.getD_eq_getD_getElem?] at f69
              refine wpOp_plain rfl rfl (fun K hK => ?_)
              go_simp
              exact hK _ _ ⟨_, rfl, Below.refl _ _, rfl⟩
            apply free_nil
            intro vs w1 hb1 hT1
            have e33 : vs 0 = _ := hT1 0 33 rfl
            conv at e33 => rhs; whnf
            have e34 : vs 1 = _ := hT1 1 34 rfl
            conv at e34 => rhs; whnf
            have e35 : vs 2 = _ := hT1 2 35 rfl
            conv at e35 => rhs; whnf
            have e36 : vs 3 = _ := hT1 3 36 rfl
            conv at e36 => rhs; whnf
            have e37 : vs 4 = _ := hT1 4 37 rfl
            conv at e37 => rhs; whnf
            have e38 : vs 5 = _ := hT1 5 38 rfl
            conv at e38 => rhs; whnf
            have e39 : vs 6 = _ := hT1 6 39 rfl
            conv at e39 => rhs; whnf
            have e40 : vs 7 = _ := hT1 7 40 rfl
            conv at e40 => rhs; whnf
            have e41 : vs 8 = _ := hT1 8 41 rfl
            conv at e41 => rhs; whnf
            have e42 : vs 9 = _ := hT1 9 42 rfl
            conv at e42 => rhs; whnf
            have e43 : vs 10 = _ := hT1 10 43 rfl
            conv at e43 => rhs; whnf
            have e44 : vs 11 = _ := hT1 11 44 rfl
            conv at e44 => rhs; whnf
            have e45 : vs 12 = _ := hT1 12 45 rfl
            conv at e45 => rhs; whnf
            have e46 : vs 13 = _ := hT1 13 46 rfl
            conv at e46 => rhs; whnf
            have e47 : vs 14 = _ := hT1 14 47 rfl
            conv at e47 => rhs; whnf
            have e48 : vs 15 = _ := hT1 15 48 rfl
            conv at e48 => rhs; whnf
            have e49 : vs 16 = _ := hT1 16 49 rfl
            conv at e49 => rhs; whnf
            have e50 : vs 17 = _ := hT1 17 50 rfl
            conv at e50 => rhs; whnf
            have e51 : vs 18 = _ := hT1 18 51 rfl
            conv at e51 => rhs; whnf
            have e52 : vs 19 = _ := hT1 19 52 rfl
            conv at e52 => rhs; whnf
            have e53 : vs 20 = _ := hT1 20 53 rfl
            conv at e53 => rhs; whnf
            have e54 : vs 21 = _ := hT1 21 54 rfl
            conv at e54 => rhs; whnf
            have e55 : vs 22 = _ := hT1 22 55 rfl
            conv at e55 => rhs; whnf
            have e56 : vs 23 = _ := hT1 23 56 rfl
            conv at e56 => rhs; whnf
            have e57 : vs 24 = _ := hT1 24 57 rfl
            conv at e57 => rhs; whnf
            have e58 : vs 25 = _ := hT1 25 58 rfl
            conv at e58 => rhs; whnf
            have e59 : vs 26 = _ := hT1 26 59 rfl
            conv at e59 => rhs; whnf
            have e60 : vs 27 = _ := hT1 27 60 rfl
            conv at e60 => rhs; whnf
            have e61 : vs 28 = _ := hT1 28 61 rfl
            conv at e61 => rhs; whnf
            have e62 : vs 29 = _ := hT1 29 62 rfl
            conv at e62 => rhs; whnf
            have e63 : vs 30 = _ := hT1 30 63 rfl
            conv at e63 => rhs; whnf
            have e64 : vs 31 = _ := hT1 31 64 rfl
            conv at e64 => rhs; whnf
            have e65 : vs 32 = _ := hT1 32 65 rfl
            conv at e65 => rhs; whnf
            have e66 : vs 33 = _ := hT1 33 66 rfl
            conv at e66 => rhs; whnf
            have e67 : vs 34 = _ := hT1 34 67 rfl
            conv at e67 => rhs; whnf
            have e68 : vs 35 = _ := hT1 35 68 rfl
            conv at e68 => rhs; whnf
            have e69 : vs 36 = _ := hT1 36 69 rfl
            conv at e69 => rhs; whnf
            have e70 : vs 37 = _ := hT1 37 70 rfl
            conv at e70 => rhs; whnf
            simp only [putAll, List.drop_succ_cons, List.drop_zero, e33, e34, e35, e36, e37, e38, e39, e40, e41, e42, e43, e44, e45, e46, e47, e48, e49, e50, e51, e52, e53, e54, e55, e56, e57, e58, e59, e60, e61, e62, e63, e64, e65, e66, e67, e68, e69, e70]
            clear hT1 e33 e34 e35 e36 e37 e38 e39 e40 e41 e42 e43 e44 e45 e46 e47 e48 e49 e50 e51 e52 e53 e54 e55 e56 e57 e58 e59 e60 e61 e62 e63 e64 e65 e66 e67 e68 e69 e70
            go_simp
            go_wp2
            go_ret
            exact ⟨by rw [hno.out] <;> rfl, Below.tr (by (repeat (first | exact Below.refl _ _ | assumption | refine Below.al ?_ _ | refine Below.dr ?_ | (refine Below.st ?_ (by simp <;> omega) _) | (refine Below.tr ?_ (by assumption))))) hb1⟩
          · have hd : decide (la (i + 1) < la i) = false := by simpa using h4
            have h5 : la i ≤ la (i + 1) := by omega
            have hno := Lib.hid (taOk_yes (t := to) (l := la) hs (by simp [enOk, h1, h2, h3, h5]))
            go_wp2
            refine wp_region_free (ds := [(0, 33), (1, 34), (2, 35), (3, 36), (4, 37), (5, 38), (6, 39), (7, 40), (8, 41), (9, 42), (10, 43), (11, 44), (12, 45), (13, 46), (14, 47), (15, 48), (16, 49), (17, 50), (18, 51), (19, 52), (20, 53), (21, 54), (22, 55), (23, 56), (24, 57), (25, 58), (26, 59), (27, 60), (28, 61), (29, 62), (30, 63), (31, 64), (32, 65), (33, 66), (34, 67), (35, 68), (36, 69), (37, 70)]) 38 (by kernel_rfl) (by kernel_rfl) (by first | exact .inl rfl | exact .inr (by kernel_rfl)) (by rfl) rfl rfl ?_
            apply free_is
            · intro a' w' hLe hfr hdep
              have e5 := hfr 5 rfl
              conv at e5 => rhs; whnf
              have f5 := e5; simp only [Array.getD_eq_getD_getElem?] at f5
              refine wpOp_plain rfl rfl (fun K hK => ?_)
              go_simp
              exact hK _ _ ⟨_, rfl, Below.refl _ _, rfl⟩
            apply free_is
            · intro a' w' hLe hfr hdep
              have e33 : a'.tmps.getD 33 undef = _ := hdep 0 33 (Nat.le_of_ble_eq_true rfl) rfl rfl
              conv at e33 => rhs; whnf
              have f33 := e33; simp only [Array.getD_eq_getD_getElem?] at f33
              have kc := fun i => keepc hLe (wr.heap.size) (by (try simp) <;> omega) i
              have kf := fun i => keepf hLe (wr.heap.size) (by (try simp) <;> omega) i
              have kz : wr.heap.size < w'.heap.size := (by have := hLe.size; (try simp at this); omega)
              have kc := fun i => keepc hLe (w.heap.size) (by (try simp) <;> omega) i
              have kf := fun i => keepf hLe (w.heap.size) (by (try simp) <;> omega) i
              have kz : w.heap.size < w'.heap.size := (by have := hLe.size; (try simp at this); omega)
              have kc := fun i => keepc hLe (bl) (by (try simp) <;> omega) i
              have kf := fun i => keepf hLe (bl) (by (try simp) <;> omega) i
              have kz : bl < w'.heap.size := (by have := hLe.size; (try simp at this); omega)
              refine wpOp_plain rfl rfl (fun K hK => ?_)
              go_simp
              exact hK _ _ ⟨_, rfl, Below.refl _ _, rfl⟩
            apply free_is
            · intro a' w' hLe hfr hdep
              have e34 : a'.tmps.getD 34 undef = _ := hdep 1 34 (Nat.le_of_ble_eq_true rfl) rfl rfl
              conv at e34 => rhs; whnf
              have f34 := e34; simp only [Array.getD_eq_getD_getElem?] at f34
              have kc := fun i => keepc hLe (wr.heap.size) (by (try simp) <;> omega) i
              have kf := fun i => keepf hLe (wr.heap.size) (by (try simp) <;> omega) i
              have kz : wr.heap.size < w'.heap.size := (by have := hLe.size; (try simp at this); omega)
              have kc := fun i => keepc hLe (w.heap.size) (by (try simp) <;> omega) i
              have kf := fun i => keepf hLe (w.heap.size) (by (try simp) <;> omega) i
              have kz : w.heap.size < w'.heap.size := (by have := hLe.size; (try simp at this); omega)
              have kc := fun i => keepc hLe (bl) (by (try simp) <;> omega) i
              have kf := fun i => keepf hLe (bl) (by (try simp) <;> omega) i
              have kz : bl < w'.heap.size := (by have := hLe.size; (try simp at this); omega)
              refine wpOp_plain rfl rfl (fun K hK => ?_)
              go_simp
              refine (implFlowValid_b _ _ _ _ _ _).mono ?_
              rintro e w2 ⟨rfl, hb⟩
              exact hK _ _ ⟨_, rfl, hb, rfl⟩
            apply free_is
            · intro a' w' hLe hfr hdep
              have e35 : a'.tmps.getD 35 undef = _ := hdep 2 35 (Nat.le_of_ble_eq_true rfl) rfl rfl
              conv at e35 => rhs; whnf
              have f35 := e35; simp only [Array.getD_eq_getD_getElem?] at f35
              refine wpOp_plain rfl rfl (fun K hK => ?_)
              go_simp
              exact hK _ _ ⟨_, rfl, Below.refl _ _, rfl⟩
            apply free_is
            · intro a' w' hLe hfr hdep
              have e36 : a'.tmps.getD 36 undef = _ := hdep 3 36 (Nat.le_of_ble_eq_true rfl) rfl rfl
              conv at e36 => rhs; whnf
              have f36 := e36; simp only [Array.getD_eq_getD_getElem?] at f36
              refine wpOp_plain rfl rfl (fun K hK => ?_)
              go_simp
              exact hK _ _ ⟨_, rfl, Below.refl _ _, rfl⟩
            apply free_is
            · intro a' w' hLe hfr hdep
              have e37 : a'.tmps.getD 37 undef = _ := hdep 4 37 (Nat.le_of_ble_eq_true rfl) rfl rfl
              conv at e37 => rhs; whnf
              have f37 := e37; simp only [Array.getD_eq_getD_getElem?] at f37
              have e3 := hfr 3 rfl
              conv at e3 => rhs; whnf
              have f3 := e3; simp only [Array.getD_eq_getD_getElem?] at f3
              refine wpOp_yes rfl rfl rfl e37 (fun K hK => ?_)
              go_simp
              exact hK _ _ ⟨_, rfl, Below.refl _ _, rfl⟩
            apply free_is
            · intro a' w' hLe hfr hdep
              have e37 : a'.tmps.getD 37 undef = _ := hdep 4 37 (Nat.le_of_ble_eq_true rfl) rfl rfl
              conv at e37 => rhs; whnf
              have f37 := e37; simp only [Array.getD_eq_getD_getElem?] at f37
              have e5 := hfr 5 rfl
              conv at e5 => rhs; whnf
              have f5 := e5; simp only [Array.getD_eq_getD_getElem?] at f5
              refine wpOp_yes rfl rfl rfl e37 (fun K hK => ?_)
              go_simp
              exact hK _ _ ⟨_, rfl, Below.refl _ _, rfl⟩
            apply free_is
            · intro a' w' hLe hfr hdep
              have e37 : a'.tmps.getD 37 undef = _ := hdep 4 37 (Nat.le_of_ble_eq_true rfl) rfl rfl
              conv at e37 => rhs; whnf
              have f37 := e37; simp only [Array.getD_eq_getD_getElem?] at f37
              have e39 : a'.tmps.getD 39 undef = _ := hdep 6 39 (Nat.le_of_ble_eq_true rfl) rfl rfl
              conv at e39 => rhs; whnf
              have f39 := e39; simp only [Array.getD_eq_getD_getElem?] at f39
              have kc := fun i => keepc hLe (wr.heap.size) (by (try simp) <;> omega) i
              have kf := fun i => keepf hLe (wr.heap.size) (by (try simp) <;> omega) i
              have kz : wr.heap.size < w'.heap.size := (by have := hLe.size; (try simp at this); omega)
              have kc := fun i => keepc hLe (w.heap.size) (by (try simp) <;> omega) i
              have kf := fun i => keepf hLe (w.heap.size) (by (try simp) <;> omega) i
              have kz : w.heap.size < w'.heap.size := (by have := hLe.size; (try simp at this); omega)
              have kc := fun i => keepc hLe (bl) (by (try simp) <;> omega) i
              have kf := fun i => keepf hLe (bl) (by (try simp) <;> omega) i
              have kz : bl < w'.heap.size := (by have := hLe.size; (try simp at this); omega)
              refine wpOp_yes rfl rfl rfl e37 (fun K hK => ?_)
              go_simp
              exact hK _ _ ⟨_, rfl, Below.refl _ _, rfl⟩
            apply free_is
            · intro a' w' hLe hfr hdep
              have e37 : a'.tmps.getD 37 undef = _ := hdep 4 37 (Nat.le_of_ble_eq_true rfl) rfl rfl
              conv at e37 => rhs; whnf
              have f37 := e37; simp only [Array.getD_eq_getD_getElem?] at f37
              have e38 : a'.tmps.getD 38 undef = _ := hdep 5 38 (Nat.le_of_ble_eq_true rfl) rfl rfl
              conv at e38 => rhs; whnf
              have f38 := e38; simp only [Array.getD_eq_getD_getElem?] at f38
              have e40 : a'.tmps.getD 40 undef = _ := hdep 7 40 (Nat.le_of_ble_eq_true rfl) rfl rfl
              conv at e40 => rhs; whnf
              have f40 := e40; simp only [Array.getD_eq_getD_getElem?] at f40
              have hlk := hask w' hLe
              refine wpOp_yes rfl rfl rfl e37 (fun K hK => ?_)
              go_simp
              exact hK _ _ ⟨_, rfl, Below.refl _ _, rfl⟩
            apply free_is
            · intro a' w' hLe hfr hdep
              have e37 : a'.tmps.getD 37 undef = _ := hdep 4 37 (Nat.le_of_ble_eq_true rfl) rfl rfl
              conv at e37 => rhs; whnf
              have f37 := e37; simp only [Array.getD_eq_getD_getElem?] at f37
              have e41 : a'.tmps.getD 41 undef = _ := hdep 8 41 (Nat.le_of_ble_eq_true rfl) rfl rfl
              conv at e41 => rhs; whnf
              have f41 := e41; simp only [Array.getD_eq_getD_getElem?] at f41
              refine wpOp_plain rfl rfl (fun K hK => ?_)
              go_simp
              exact hK _ _ ⟨_, rfl, Below.refl _ _, rfl⟩
            apply free_is
            · intro a' w' hLe hfr hdep
              have e42 : a'.tmps.getD 42 undef = _ := hdep 9 42 (Nat.le_of_ble_eq_true rfl) rfl rfl
              conv at e42 => rhs; whnf
              have f42 := e42; simp only [Array.getD_eq_getD_getElem?] at f42
              refine wpOp_plain rfl rfl (fun K hK => ?_)
              go_simp
              exact hK _ _ ⟨_, rfl, Below.refl _ _, rfl⟩
            apply free_is
            · intro a' w' hLe hfr hdep
              have e43 : a'.tmps.getD 43 undef = _ := hdep 10 43 (Nat.le_of_ble_eq_true rfl) rfl rfl
              conv at e43 => rhs; whnf
              have f43 := e43; simp only [Array.getD_eq_getD_getElem?] at f43
              have e5 := hfr 5 rfl
              conv at e5 => rhs; whnf
              have f5 := e5; simp only [Array.getD_eq_getD_getElem?] at f5
              refine wpOp_yes rfl rfl rfl e43 (fun K hK => ?_)
              go_simp
              exact hK _ _ ⟨_, rfl, Below.refl _ _, rfl⟩
            apply free_is
            · intro a' w' hLe hfr hdep
              have e43 : a'.tmps.getD 43 undef = _ := hdep 10 43 (Nat.le_of_ble_eq_true rfl) rfl rfl
              conv at e43 => rhs; whnf
              have f43 := e43; simp only [Array.getD_eq_getD_getElem?] at f43
              have e44 : a'.tmps.getD 44 undef = _ := hdep 11 44 (Nat.le_of_ble_eq_true rfl) rfl rfl
              conv at e44 => rhs; whnf
              have f44 := e44; simp only [Array.getD_eq_getD_getElem?] at f44
              have kc := fun i => keepc hLe (wr.heap.size) (by (try simp) <;> omega) i
              have kf := fun i => keepf hLe (wr.heap.size) (by (try simp) <;> omega) i
              have kz : wr.heap.size < w'.heap.size := (by have := hLe.size; (try simp at this); omega)
              have kc := fun i => keepc hLe (w.heap.size) (by (try simp) <;> omega) i
              have kf := fun i => keepf hLe (w.heap.size) (by (try simp) <;> omega) i
              have kz : w.heap.size < w'.heap.size := (by have := hLe.size; (try simp at this); omega)
              have kc := fun i => keepc hLe (bl) (by (try simp) <;> omega) i
              have kf := fun i => keepf hLe (bl) (by (try simp) <;> omega) i
              have kz : bl < w'.heap.size := (by have := hLe.size; (try simp at this); omega)
              refine wpOp_yes rfl rfl rfl e43 (fun K hK => ?_)
              go_simp
              exact hK _ _ ⟨_, rfl, Below.refl _ _, rfl⟩
            apply free_is
            · intro a' w' hLe hfr hdep
              have e43 : a'.tmps.getD 43 undef = _ := hdep 10 43 (Nat.le_of_ble_eq_true rfl) rfl rfl
              conv at e43 => rhs; whnf
              have f43 := e43; simp only [Array.getD_eq_getD_getElem?] at f43
              have e45 : a'.tmps.getD 45 undef = _ := hdep 12 45 (Nat.le_of_ble_eq_true rfl) rfl rfl
              conv at e45 => rhs; whnf
              have f45 := e45; simp only [Array.getD_eq_getD_getElem?] at f45
              have kc := fun i => keepc hLe (wr.heap.size) (by (try simp) <;> omega) i
              have kf := fun i => keepf hLe (wr.heap.size) (by (try simp) <;> omega) i
              have kz : wr.heap.size < w'.heap.size := (by have := hLe.size; (try simp at this); omega)
              have kc := fun i => keepc hLe (w.heap.size) (by (try simp) <;> omega) i
              have kf := fun i => keepf hLe (w.heap.size) (by (try simp) <;> omega) i
              have kz : w.heap.size < w'.heap.size := (by have := hLe.size; (try simp at this); omega)
              have kc := fun i => keepc hLe (bl) (by (try simp) <;> omega) i
              have kf := fun i => keepf hLe (bl) (by (try simp) <;> omega) i
              have kz : bl < w'.heap.size := (by have := hLe.size; (try simp at this); omega)
              refine wpOp_yes rfl rfl rfl e43 (fun K hK => ?_)
              go_simp
              refine (in_any _ _ _ _).mono ?_
              rintro e w2 ⟨rfl, rfl⟩
              exact hK _ _ ⟨_, rfl, Below.refl _ _, rfl⟩
            apply free_is
            · intro a' w' hLe hfr hdep
              have e43 : a'.tmps.getD 43 undef = _ := hdep 10 43 (Nat.le_of_ble_eq_true rfl) rfl rfl
              conv at e43 => rhs; whnf
              have f43 := e43; simp only [Array.getD_eq_getD_getElem?] at f43
              have e46 : a'.tmps.getD 46 undef = _ := hdep 13 46 (Nat.le_of_ble_eq_true rfl) rfl rfl
              conv at e46 => rhs; whnf
              have f46 := e46; simp only [Array.getD_eq_getD_getElem?] at f46
              refine wpOp_yes rfl rfl rfl e43 (fun K hK => ?_)
              go_simp
              exact hK _ _ ⟨_, rfl, Below.refl _ _, rfl⟩
            apply free_is
            · intro a' w' hLe hfr hdep
              have e43 : a'.tmps.getD 43 undef = _ := hdep 10 43 (Nat.le_of_ble_eq_true rfl) rfl rfl
              conv at e43 => rhs; whnf
              have f43 := e43; simp only [Array.getD_eq_getD_getElem?] at f43
              have e47 : a'.tmps.getD 47 undef = _ := hdep 14 47 (Nat.le_of_ble_eq_true rfl) rfl rfl
              conv at e47 => rhs; whnf
              have f47 := e47; simp only [Array.getD_eq_getD_getElem?] at f47
              refine wpOp_plain rfl rfl (fun K hK => ?_)
              go_simp
              exact hK _ _ ⟨_, rfl, Below.refl _ _, rfl⟩
            apply free_is
            · intro a' w' hLe hfr hdep
              have e48 : a'.tmps.getD 48 undef = _ := hdep 15 48 (Nat.le_of_ble_eq_true rfl) rfl rfl
              conv at e48 => rhs; whnf
              have f48 := e48; simp only [Array.getD_eq_getD_getElem?] at f48
              refine wpOp_plain rfl rfl (fun K hK => ?_)
              go_simp
              exact hK _ _ ⟨_, rfl, Below.refl _ _, rfl⟩
            apply free_is
            · intro a' w' hLe hfr hdep
              have e49 : a'.tmps.getD 49 undef = _ := hdep 16 49 (Nat.le_of_ble_eq_true rfl) rfl rfl
              conv at e49 => rhs; whnf
              have f49 := e49; simp only [Array.getD_eq_getD_getElem?] at f49
              have e5 := hfr 5 rfl
              conv at e5 => rhs; whnf
              have f5 := e5; simp only [Array.getD_eq_getD_getElem?] at f5
              refine wpOp_yes rfl rfl rfl e49 (fun K hK => ?_)
              go_simp
              exact hK _ _ ⟨_, rfl, Below.refl _ _, rfl⟩
            apply free_is
            · intro a' w' hLe hfr hdep
              have e49 : a'.tmps.getD 49 undef = _ := hdep 16 49 (Nat.le_of_ble_eq_true rfl) rfl rfl
              conv at e49 => rhs; whnf
              have f49 := e49; simp only [Array.getD_eq_getD_getElem?] at f49
              have e50 : a'.tmps.getD 50 undef = _ := hdep 17 50 (Nat.le_of_ble_eq_true rfl) rfl rfl
              conv at e50 => rhs; whnf
              have f50 := e50; simp only [Array.getD_eq_getD_getElem?] at f50
              have kc := fun i => keepc hLe (wr.heap.size) (by (try simp) <;> omega) i
              have kf := fun i => keepf hLe (wr.heap.size) (by (try simp) <;> omega) i
              have kz : wr.heap.size < w'.heap.size := (by have := hLe.size; (try simp at this); omega)
              have kc := fun i => keepc hLe (w.heap.size) (by (try simp) <;> omega) i
              have kf := fun i => keepf hLe (w.heap.size) (by (try simp) <;> omega) i
              have kz : w.heap.size < w'.heap.size := (by have := hLe.size; (try simp at this); omega)
              have kc := fun i => keepc hLe (bl) (by (try simp) <;> omega) i
              have kf := fun i => keepf hLe (bl) (by (try simp) <;> omega) i
              have kz : bl < w'.heap.size := (by have := hLe.size; (try simp at this); omega)
              refine wpOp_yes rfl rfl rfl e49 (fun K hK => ?_)
              go_simp
              exact hK _ _ ⟨_, rfl, Below.refl _ _, rfl⟩
            apply free_is
            · intro a' w' hLe hfr hdep
              have e49 : a'.tmps.getD 49 undef = _ := hdep 16 49 (Nat.le_of_ble_eq_true rfl) rfl rfl
              conv at e49 => rhs; whnf
              have f49 := e49; simp only [Array.getD_eq_getD_getElem?] at f49
              have e51 : a'.tmps.getD 51 undef = _ := hdep 18 51 (Nat.le_of_ble_eq_true rfl) rfl rfl
              conv at e51 => rhs; whnf
              have f51 := e51; simp only [Array.getD_eq_getD_getElem?] at f51
              have kc := fun i => keepc hLe (wr.heap.size) (by (try simp) <;> omega) i
              have kf := fun i => keepf hLe (wr.heap.size) (by (try simp) <;> omega) i
              have kz : wr.heap.size < w'.heap.size := (by have := hLe.size; (try simp at this); omega)
              have kc := fun i => keepc hLe (w.heap.size) (by (try simp) <;> omega) i
              have kf := fun i => keepf hLe (w.heap.size) (by (try simp) <;> omega) i
              have kz : w.heap.size < w'.heap.size := (by have := hLe.size; (try simp at this); omega)
              have kc := fun i => keepc hLe (bl) (by (try simp) <;> omega) i
              have kf := fun i => keepf hLe (bl) (by (try simp) <;> omega) i
              have kz : bl < w'.heap.size := (by have := hLe.size; (try simp at this); omega)
              refine wpOp_yes rfl rfl rfl e49 (fun K hK => ?_)
              go_simp
              refine (isTime_any _ _).mono ?_
              rintro e w2 ⟨rfl, rfl⟩
              exact hK _ _ ⟨_, rfl, Below.refl _ _, rfl⟩
            apply free_is
            · intro a' w' hLe hfr hdep
              have e49 : a'.tmps.getD 49 undef = _ := hdep 16 49 (Nat.le_of_ble_eq_true rfl) rfl rfl
              conv at e49 => rhs; whnf
              have f49 := e49; simp only [Array.getD_eq_getD_getElem?] at f49
              have e52 : a'.tmps.getD 52 undef = _ := hdep 19 52 (Nat.le_of_ble_eq_true rfl) rfl rfl
              conv at e52 => rhs; whnf
              have f52 := e52; simp only [Array.getD_eq_getD_getElem?] at f52
              refine wpOp_yes rfl rfl rfl e49 (fun K hK => ?_)
              go_simp
              exact hK _ _ ⟨_, rfl, Below.refl _ _, rfl⟩
            apply free_is
            · intro a' w' hLe hfr hdep
              have e49 : a'.tmps.getD 49 undef = _ := hdep 16 49 (Nat.le_of_ble_eq_true rfl) rfl rfl
              conv at e49 => rhs; whnf
              have f49 := e49; simp only [Array.getD_eq_getD_getElem?] at f49
              have e53 : a'.tmps.getD 53 undef = _ := hdep 20 53 (Nat.le_of_ble_eq_true rfl) rfl rfl
              conv at e53 => rhs; whnf
              have f53 := e53; simp only [Array.getD_eq_getD_getElem?] at f53
              refine wpOp_plain rfl rfl (fun K hK => ?_)
              go_simp
              exact hK _ _ ⟨_, rfl, Below.refl _ _, rfl⟩
            apply free_is
            · intro a' w' hLe hfr hdep
              have e54 : a'.tmps.getD 54 undef = _ := hdep 21 54 (Nat.le_of_ble_eq_true rfl) rfl rfl
              conv at e54 => rhs; whnf
              have f54 := e54; simp only [Array.getD_eq_getD_getElem?] at f54
              refine wpOp_plain rfl rfl (fun K hK => ?_)
              go_simp
              exact hK _ _ ⟨_, rfl, Below.refl _ _, rfl⟩
            apply free_is
            · intro a' w' hLe hfr hdep
              have e55 : a'.tmps.getD 55 undef = _ := hdep 22 55 (Nat.le_of_ble_eq_true rfl) rfl rfl
              conv at e55 => rhs; whnf
              have f55 := e55; simp only [Array.getD_eq_getD_getElem?] at f55
              have e4 := hfr 4 rfl
              conv at e4 => rhs; whnf
              have f4 := e4; simp only [Array.getD_eq_getD_getElem?] at f4
              refine wpOp_yes rfl rfl rfl e55 (fun K hK => ?_)
              go_simp
              exact hK _ _ ⟨_, rfl, Below.refl _ _, rfl⟩
            apply free_is
            · intro a' w' hLe hfr hdep
              have e55 : a'.tmps.getD 55 undef = _ := hdep 22 55 (Nat.le_of_ble_eq_true rfl) rfl rfl
              conv at e55 => rhs; whnf
              have f55 := e55; simp only [Array.getD_eq_getD_getElem?] at f55
              have e56 : a'.tmps.getD 56 undef = _ := hdep 23 56 (Nat.le_of_ble_eq_true rfl) rfl rfl
              conv at e56 => rhs; whnf
              have f56 := e56; simp only [Array.getD_eq_getD_getElem?] at f56
              refine wpOp_yes rfl rfl rfl e55 (fun K hK => ?_)
              go_simp
              exact hK _ _ ⟨_, rfl, Below.refl _ _, rfl⟩
            apply free_is
            · intro a' w' hLe hfr hdep
              have e55 : a'.tmps.getD 55 undef = _ := hdep 22 55 (Nat.le_of_ble_eq_true rfl) rfl rfl
              conv at e55 => rhs; whnf
              have f55 := e55; simp only [Array.getD_eq_getD_getElem?] at f55
              have e57 : a'.tmps.getD 57 undef = _ := hdep 24 57 (Nat.le_of_ble_eq_true rfl) rfl rfl
              conv at e57 => rhs; whnf
              have f57 := e57; simp only [Array.getD_eq_getD_getElem?] at f57
              refine wpOp_yes rfl rfl rfl e55 (fun K hK => ?_)
              go_simp
              exact hK _ _ ⟨_, rfl, Below.refl _ _, rfl⟩
            apply free_is
            · intro a' w' hLe hfr hdep
              have e58 : a'.tmps.getD 58 undef = _ := hdep 25 58 (Nat.le_of_ble_eq_true rfl) rfl rfl
              conv at e58 => rhs; whnf
              have f58 := e58; simp only [Array.getD_eq_getD_getElem?] at f58
              have e5 := hfr 5 rfl
              conv at e5 => rhs; whnf
              have f5 := e5; simp only [Array.getD_eq_getD_getElem?] at f5
              refine wpOp_yes rfl rfl rfl e58 (fun K hK => ?_)
              go_simp
              exact hK _ _ ⟨_, rfl, Below.refl _ _, rfl⟩
            apply free_is
            · intro a' w' hLe hfr hdep
              have e58 : a'.tmps.getD 58 undef = _ := hdep 25 58 (Nat.le_of_ble_eq_true rfl) rfl rfl
              conv at e58 => rhs; whnf
              have f58 := e58; simp only [Array.getD_eq_getD_getElem?] at f58
              have e59 : a'.tmps.getD 59 undef = _ := hdep 26 59 (Nat.le_of_ble_eq_true rfl) rfl rfl
              conv at e59 => rhs; whnf
              have f59 := e59; simp only [Array.getD_eq_getD_getElem?] at f59
              have kc := fun i => keepc hLe (wr.heap.size) (by (try simp) <;> omega) i
              have kf := fun i => keepf hLe (wr.heap.size) (by (try simp) <;> omega) i
              have kz : wr.heap.size < w'.heap.size := (by have := hLe.size; (try simp at this); omega)
              have kc := fun i => keepc hLe (w.heap.size) (by (try simp) <;> omega) i
              have kf := fun i => keepf hLe (w.heap.size) (by (try simp) <;> omega) i
              have kz : w.heap.size < w'.heap.size := (by have := hLe.size; (try simp at this); omega)
              have kc := fun i => keepc hLe (bl) (by (try simp) <;> omega) i
              have kf := fun i => keepf hLe (bl) (by (try simp) <;> omega) i
              have kz : bl < w'.heap.size := (by have := hLe.size; (try simp at this); omega)
              refine wpOp_yes rfl rfl rfl e58 (fun K hK => ?_)
              go_simp
              exact hK _ _ ⟨_, rfl, Below.refl _ _, rfl⟩
            apply free_is
            · intro a' w' hLe hfr hdep
              have e58 : a'.tmps.getD 58 undef = _ := hdep 25 58 (Nat.le_of_ble_eq_true rfl) rfl rfl
              conv at e58 => rhs; whnf
              have f58 := e58; simp only [Array.getD_eq_getD_getElem?] at f58
              have e1 := hfr 1 rfl
              conv at e1 => rhs; whnf
              have f1 := e1; simp only [Array.getD_eq_getD_getElem?] at f1
              refine wpOp_yes rfl rfl rfl e58 (fun K hK => ?_)
              go_simp
              exact hK _ _ ⟨_, rfl, Below.refl _ _, rfl⟩
            apply free_is
            · intro a' w' hLe hfr hdep
              have e58 : a'.tmps.getD 58 undef = _ := hdep 25 58 (Nat.le_of_ble_eq_true rfl) rfl rfl
              conv at e58 => rhs; whnf
              have f58 := e58; simp only [Array.getD_eq_getD_getElem?] at f58
              have e61 : a'.tmps.getD 61 undef = _ := hdep 28 61 (Nat.le_of_ble_eq_true rfl) rfl rfl
              conv at e61 => rhs; whnf
              have f61 := e61; simp only [Array.getD_eq_getD_getElem?] at f61
              have kc := fun i => keepc hLe (wr.heap.size) (by (try simp) <;> omega) i
              have kf := fun i => keepf hLe (wr.heap.size) (by (try simp) <;> omega) i
              have kz : wr.heap.size < w'.heap.size := (by have := hLe.size; (try simp at this); omega)
              have kc := fun i => keepc hLe (w.heap.size) (by (try simp) <;> omega) i
              have kf := fun i => keepf hLe (w.heap.size) (by (try simp) <;> omega) i
              have kz : w.heap.size < w'.heap.size := (by have := hLe.size; (try simp at this); omega)
              have kc := fun i => keepc hLe (bl) (by (try simp) <;> omega) i
              have kf := fun i => keepf hLe (bl) (by (try simp) <;> omega) i
              have kz : bl < w'.heap.size := (by have := hLe.size; (try simp at this); omega)
              refine wpOp_yes rfl rfl rfl e58 (fun K hK => ?_)
              go_simp
              exact hK _ _ ⟨_, rfl, Below.refl _ _, rfl⟩
            apply free_is
            · intro a' w' hLe hfr hdep
              have e58 : a'.tmps.getD 58 undef = _ := hdep 25 58 (Nat.le_of_ble_eq_true rfl) rfl rfl
              conv at e58 => rhs; whnf
              have f58 := e58; simp only [Array.getD_eq_getD_getElem?] at f58
              have e4 := hfr 4 rfl
              conv at e4 => rhs; whnf
              have f4 := e4; simp only [Array.getD_eq_getD_getElem?] at f4
              refine wpOp_yes rfl rfl rfl e58 (fun K hK => ?_)
              go_simp
              exact hK _ _ ⟨_, rfl, Below.refl _ _, rfl⟩
            apply free_is
            · intro a' w' hLe hfr hdep
              have e58 : a'.tmps.getD 58 undef = _ := hdep 25 58 (Nat.le_of_ble_eq_true rfl) rfl rfl
              conv at e58 => rhs; whnf
              have f58 := e58; simp only [Array.getD_eq_getD_getElem?] at f58
              have e63 : a'.tmps.getD 63 undef = _ := hdep 30 63 (Nat.le_of_ble_eq_true rfl) rfl rfl
              conv at e63 => rhs; whnf
              have f63 := e63; simp only [Array.getD_eq_getD_getElem?] at f63
              refine wpOp_yes rfl rfl rfl e58 (fun K hK => ?_)
              go_simp
              exact hK _ _ ⟨_, rfl, Below.refl _ _, rfl⟩
            apply free_is
            · intro a' w' hLe hfr hdep
              have e58 : a'.tmps.getD 58 undef = _ := hdep 25 58 (Nat.le_of_ble_eq_true rfl) rfl rfl
              conv at e58 => rhs; whnf
              have f58 := e58; simp only [Array.getD_eq_getD_getElem?] at f58
              have e62 : a'.tmps.getD 62 undef = _ := hdep 29 62 (Nat.le_of_ble_eq_true rfl) rfl rfl
              conv at e62 => rhs; whnf
              have f62 := e62; simp only [Array.getD_eq_getD_getElem?] at f62
              have e64 : a'.tmps.getD 64 undef = _ := hdep 31 64 (Nat.le_of_ble_eq_true rfl) rfl rfl
              conv at e64 => rhs; whnf
              have f64 := e64; simp only [Array.getD_eq_getD_getElem?] at f64
              refine wpOp_yes rfl rfl rfl e58 (fun K hK => ?_)
              go_simp
              exact hK _ _ ⟨_, rfl, Below.refl _ _, rfl⟩
            apply free_is
            · intro a' w' hLe hfr hdep
              have e58 : a'.tmps.getD 58 undef = _ := hdep 25 58 (Nat.le_of_ble_eq_true rfl) rfl rfl
              conv at e58 => rhs; whnf
              have f58 := e58; simp only [Array.getD_eq_getD_getElem?] at f58
              have e65 : a'.tmps.getD 65 undef = _ := hdep 32 65 (Nat.le_of_ble_eq_true rfl) rfl rfl
              conv at e65 => rhs; whnf
              have f65 := e65; simp only [Array.getD_eq_getD_getElem?] at f65
              refine wpOp_yes rfl rfl rfl e58 (fun K hK => ?_)
              go_simp
              exact hK _ _ ⟨_, rfl, Below.refl _ _, rfl⟩
            apply free_is
            · intro a' w' hLe hfr hdep
              have e58 : a'.tmps.getD 58 undef = _ := hdep 25 58 (Nat.le_of_ble_eq_true rfl) rfl rfl
              conv at e58 => rhs; whnf
              have f58 := e58; simp only [Array.getD_eq_getD_getElem?] at f58
              have e66 : a'.tmps.getD 66 undef = _ := hdep 33 66 (Nat.le_of_ble_eq_true rfl) rfl rfl
              conv at e66 => rhs; whnf
              have f66 := e66; simp only [Array.getD_eq_getD_getElem?] at f66
              have kc := fun i => keepc hLe (wr.heap.size) (by (try simp) <;> omega) i
              have kf := fun i => keepf hLe (wr.heap.size) (by (try simp) <;> omega) i
              have kz : wr.heap.size < w'.heap.size := (by have := hLe.size; (try simp at this); omega)
              have kc := fun i => keepc hLe (w.heap.size) (by (try simp) <;> omega) i
              have kf := fun i => keepf hLe (w.heap.size) (by (try simp) <;> omega) i
              have kz : w.heap.size < w'.heap.size := (by have := hLe.size; (try simp at this); omega)
              have kc := fun i => keepc hLe (bl) (by (try simp) <;> omega) i
              have kf := fun i => keepf hLe (bl) (by (try simp) <;> omega) i
              have kz : bl < w'.heap.size := (by have := hLe.size; (try simp at this); omega)
              refine wpOp_yes rfl rfl rfl e58 (fun K hK => ?_)
              go_simp
              exact hK _ _ ⟨_, rfl, Below.refl _ _, rfl⟩
            apply free_is
            · intro a' w' hLe hfr hdep
              have e58 : a'.tmps.getD 58 undef = _ := hdep 25 58 (Nat.le_of_ble_eq_true rfl) rfl rfl
              conv at e58 => rhs; whnf
              have f58 := e58; simp only [Array.getD_eq_getD_getElem?] at f58
              have e60 : a'.tmps.getD 60 undef = _ := hdep 27 60 (Nat.le_of_ble_eq_true rfl) rfl rfl
              conv at e60 => rhs; whnf
              have f60 := e60; simp only [Array.getD_eq_getD_getElem?] at f60
              have e67 : a'.tmps.getD 67 undef = _ := hdep 34 67 (Nat.le_of_ble_eq_true rfl) rfl rfl
              conv at e67 => rhs; whnf
              have f67 := e67; simp only [Array.getD_eq_getD_getElem?] at f67
              refine wpOp_yes rfl rfl rfl e58 (fun K hK => ?_)
              go_simp
              exact hK _ _ ⟨_, rfl, Below.refl _ _, rfl⟩
            apply free_is
            · intro a' w' hLe hfr hdep
              have e55 : a'.tmps.getD 55 undef = _ := hdep 22 55 (Nat.le_of_ble_eq_true rfl) rfl rfl
              conv at e55 => rhs; whnf
              have f55 := e55; simp only [Array.getD_eq_getD_getElem?] at f55
              have e58 : a'.tmps.getD 58 undef = _ := hdep 25 58 (Nat.le_of_ble_eq_true rfl) rfl rfl
              conv at e58 => rhs; whnf
              have f58 := e58; simp only [Array.getD_eq_getD_getElem?] at f58
              have e68 : a'.tmps.getD 68 undef = _ := hdep 35 68 (Nat.le_of_ble_eq_true rfl) rfl rfl
              conv at e68 => rhs; whnf
              have f68 := e68; simp only [Array.getD_eq_getD_getElem?] at f68
              refine wpOp_yes rfl rfl rfl e55 (fun K hK => ?_)
              go_simp
              exact hK _ _ ⟨_, rfl, Below.refl _ _, rfl⟩
            apply free_is
            · intro a' w' hLe hfr hdep
              have e55 : a'.tmps.getD 55 undef = _ := hdep 22 55 (Nat.le_of_ble_eq_true rfl) rfl rfl
              conv at e55 => rhs; whnf
              have f55 := e55; simp only [Array.getD_eq_getD_getElem?] at f55
              have e69 : a'.tmps.getD 69 undef = _ := hdep 36 69 (Nat.le_of_ble_eq_true rfl) rfl rfl
              conv at e69 => rhs; whnf
              have f69 := e69; simp only [Array.getD_eq_getD_getElem?] at f69
              refine wpOp_plain rfl rfl (fun K hK => ?_)
              go_simp
              exact hK _ _ ⟨_, rfl, Below.refl _ _, rfl⟩
            apply free_nil
            intro vs w1 hb1 hT1
            have e33 : vs 0 = _ := hT1 0 33 rfl
            conv at e33 => rhs; whnf
            have e34 : vs 1 = _ := hT1 1 34 rfl
            conv at e34 => rhs; whnf
            have e35 : vs 2 = _ := hT1 2 35 rfl
            conv at e35 => rhs; whnf
            have e36 : vs 3 = _ := hT1 3 36 rfl
            conv at e36 => rhs; whnf
            have e37 : vs 4 = _ := hT1 4 37 rfl
            conv at e37 => rhs; whnf
            have e38 : vs 5 = _ := hT1 5 38 rfl
            conv at e38 => rhs; whnf
            have e39 : vs 6 = _ := hT1 6 39 rfl
            conv at e39 => rhs; whnf
            have e40 : vs 7 = _ := hT1 7 40 rfl
            conv at e40 => rhs; whnf
            have e41 : vs 8 = _ := hT1 8 41 rfl
            conv at e41 => rhs; whnf
            have e42 : vs 9 = _ := hT1 9 42 rfl
            conv at e42 => rhs; whnf
            have e43 : vs 10 = _ := hT1 10 43 rfl
            conv at e43 => rhs; whnf
            have e44 : vs 11 = _ := hT1 11 44 rfl
            conv at e44 => rhs; whnf
            have e45 : vs 12 = _ := hT1 12 45 rfl
            conv at e45 => rhs; whnf
            have e46 : vs 13 = _ := hT1 13 46 rfl
            conv at e46 => rhs; whnf
            have e47 : vs 14 = _ := hT1 14 47 rfl
            conv at e47 => rhs; whnf
            have e48 : vs 15 = _ := hT1 15 48 rfl
            conv at e48 => rhs; whnf
            have e49 : vs 16 = _ := hT1 16 49 rfl
            conv at e49 => rhs; whnf
            have e50 : vs 17 = _ := hT1 17 50 rfl
            conv at e50 => rhs; whnf
            have e51 : vs 18 = _ := hT1 18 51 rfl
            conv at e51 => rhs; whnf
            have e52 : vs 19 = _ := hT1 19 52 rfl
            conv at e52 => rhs; whnf
            have e53 : vs 20 = _ := hT1 20 53 rfl
            conv at e53 => rhs; whnf
            have e54 : vs 21 = _ := hT1 21 54 rfl
            conv at e54 => rhs; whnf
            have e55 : vs 22 = _ := hT1 22 55 rfl
            conv at e55 => rhs; whnf
            have e56 : vs 23 = _ := hT1 23 56 rfl
            conv at e56 => rhs; whnf
            have e57 : vs 24 = _ := hT1 24 57 rfl
            conv at e57 => rhs; whnf
            have e58 : vs 25 = _ := hT1 25 58 rfl
            conv at e58 => rhs; whnf
            have e59 : vs 26 = _ := hT1 26 59 rfl
            conv at e59 => rhs; whnf
            have e60 : vs 27 = _ := hT1 27 60 rfl
            conv at e60 => rhs; whnf
            have e61 : vs 28 = _ := hT1 28 61 rfl
            conv at e61 => rhs; whnf
            have e62 : vs 29 = _ := hT1 29 62 rfl
            conv at e62 => rhs; whnf
            have e63 : vs 30 = _ := hT1 30 63 rfl
            conv at e63 => rhs; whnf
            have e64 : vs 31 = _ := hT1 31 64 rfl
            conv at e64 => rhs; whnf
            have e65 : vs 32 = _ := hT1 32 65 rfl
            conv at e65 => rhs; whnf
            have e66 : vs 33 = _ := hT1 33 66 rfl
            conv at e66 => rhs; whnf
            have e67 : vs 34 = _ := hT1 34 67 rfl
            conv at e67 => rhs; whnf
            have e68 : vs 35 = _ := hT1 35 68 rfl
            conv at e68 => rhs; whnf
            have e69 : vs 36 = _ := hT1 36 69 rfl
            conv at e69 => rhs; whnf
            have e70 : vs 37 = _ := hT1 37 70 rfl
            conv at e70 => rhs; whnf
            simp only [putAll, List.drop_succ_cons, List.drop_zero, e33, e34, e35, e36, e37, e38, e39, e40, e41, e42, e43, e44, e45, e46, e47, e48, e49, e50, e51, e52, e53, e54, e55, e56, e57, e58, e59, e60, e61, e62, e63, e64, e65, e66, e67, e68, e69, e70]
            clear hT1 e33 e34 e35 e36 e37 e38 e39 e40 e41 e42 e43 e44 e45 e46 e47 e48 e49 e50 e51 e52 e53 e54 e55 e56 e57 e58 e59 e60 e61 e62 e63 e64 e65 e66 e67 e68 e69 e70
            go_simp
            have hS1 := (hS.below hbel).below hb1
            have hX1 := (hb1.block w.heap.size (heap_lt hX2)).trans hX2
            have hE1 := (hb1.block wr.heap.size (by simp)).trans (heap_alloc_new wr _)
            obtain ⟨cE, fE⟩ := blk hE1
            have hEl := heap_lt hE1
            go_wp2_with (at_mapUpdate; refine wpList_tell rfl (.tmp 71) (.tmp 73) (.const (.bool true)) rfl rfl hS1 (by unfold maxLen; omega) rfl rfl (flow_wf h1) ?_; intro w4 hS4 hg4)
            rw [inT_put] at hS4
            have hX4 := (hg4.block w.heap.size (heap_lt hX1) (by simp)).trans hX1
            go_roundw
            case rel => exact ⟨i + 1 + 1, by omega, by go_num, upto hHO.out hno.out, hS4, hX4, Below.of_grown (Below.tr (Below.tr hB0 hbel) hb1) hg4 (by omega)⟩
            case measure => simp [intOf]; omega
    · obtain rfl : k = n := by omega
      have he := Lib.hid (tabVB_end (x0 := x0) (x1 := x1) hok)
      clear hok hrow
      go_wp2
      go_ret
      exact ⟨by rw [he.out, hG.out] <;> rfl, hB0⟩
end Go.Proofs.Ytbnfllpimnnmfaa
