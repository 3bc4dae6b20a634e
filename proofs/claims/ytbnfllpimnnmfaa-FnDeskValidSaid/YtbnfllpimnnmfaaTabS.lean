/-
  TableValid in the reference.
-/
import Derived.Test.YtbnfllpimnnmfaaTab
namespace Go.Proofs.Ytbnfllpimnnmfaa
open Go.RowKit

/-- The first of the first n flows that is this one, or -1. -/
def plF (a b c d e : Nat → Int) (y0 y1 y2 y3 y4 : Int) : Nat → Int
  | 0 => -1
  | j + 1 => if 0 ≤ plF a b c d e y0 y1 y2 y3 y4 j then plF a b c d e y0 y1 y2 y3 y4 j else if decide (a j = y0) && decide (b j = y1) && decide (c j = y2) && decide (d j = y3) && decide (e j = y4) then (j : Int) else -1
def isF (a b c d e : Nat → Int) (y0 y1 y2 y3 y4 : Int) (j : Nat) : Bool := decide (a j = y0) && decide (b j = y1) && decide (c j = y2) && decide (d j = y3) && decide (e j = y4)
section
variable {a b c d e : Nat → Int} {y0 y1 y2 y3 y4 : Int}
theorem plF_none : ∀ {n : Nat}, (∀ i, i < n → isF a b c d e y0 y1 y2 y3 y4 i = false) → plF a b c d e y0 y1 y2 y3 y4 n = -1
  | 0, _ => rfl
  | n + 1, h => by
    have h1 := plF_none (n := n) fun i hi => h i (by omega)
    have h2 := h n (by omega)
    unfold isF at h2
    simp only [plF, h1, h2]
    simp
theorem plF_at {j : Nat} (h : ∀ i, i < j → isF a b c d e y0 y1 y2 y3 y4 i = false) (hj : isF a b c d e y0 y1 y2 y3 y4 j = true) : ∀ {n : Nat}, j < n → plF a b c d e y0 y1 y2 y3 y4 n = j
  | n + 1, hn => by
    rcases Nat.eq_or_lt_of_le (Nat.le_of_lt_succ hn) with e1 | hlt
    · subst e1
      unfold isF at hj
      simp only [plF, plF_none h, hj]
      simp
    · have := plF_at h hj (n := n) hlt
      simp only [plF, this]
      rw [if_pos (by omega)]
theorem plF_in (k : Nat) : decide (0 ≤ plF a b c d e y0 y1 y2 y3 y4 k) = inT a b c d e k y0 y1 y2 y3 y4 := by
  by_cases h : ∃ j, j < k ∧ isF a b c d e y0 y1 y2 y3 y4 j = true
  · have hin : inT a b c d e k y0 y1 y2 y3 y4 = true := by
      obtain ⟨j, hj, hf⟩ := h
      exact List.any_eq_true.2 ⟨j, List.mem_range.2 hj, hf⟩
    rw [hin]
    have key : ∀ k, (∃ j, j < k ∧ isF a b c d e y0 y1 y2 y3 y4 j = true) → 0 ≤ plF a b c d e y0 y1 y2 y3 y4 k := fun k => by
      induction k with
      | zero => rintro ⟨j, hj, _⟩; omega
      | succ k ih =>
        rintro ⟨j, hj, hf⟩
        simp only [plF]
        split
        · assumption
        · rename_i hn
          rcases Nat.eq_or_lt_of_le (Nat.le_of_lt_succ hj) with e1 | hlt
          · subst e1
            unfold isF at hf
            rw [if_pos hf]
            omega
          · exact absurd (ih ⟨j, hlt, hf⟩) hn
    simpa using key k h
  · have hno : ∀ i, i < k → isF a b c d e y0 y1 y2 y3 y4 i = false := fun i hi => by
      cases hf : isF a b c d e y0 y1 y2 y3 y4 i
      · rfl
      · exact absurd ⟨i, hi, hf⟩ h
    rw [plF_none hno]
    have : inT a b c d e k y0 y1 y2 y3 y4 = false := by
      unfold inT
      rw [List.any_eq_false]
      intro i hi
      have := hno i (List.mem_range.1 hi)
      unfold isF at this
      simpa using this
    rw [this]
    rfl
end
set_option maxHeartbeats 8000000 in
theorem l9Place_any {w : World} {B : Nat} {A : Option Addr} {n c : Nat} {f0 f1 f2 f3 f4 to la : Nat → Int} (y0 y1 y2 y3 y4 : Int) (H : Rws w B 7 A n c (entryR f0 f1 f2 f3 f4 to la)) (hB : B ≤ w.heap.size) :
    Calls Try.prog 59 #[.slice A n c, .agg #[.int .i64 y0, .int .i64 y1, .int .i64 y2, .int .i64 y3, .int .i64 y4]] w fun e w' => e = .returned (.int .i64 (plF f0 f1 f2 f3 f4 y0 y1 y2 y3 y4 n)) ∧ Below w.heap.size w w' := by
  obtain ⟨⟨hnc, hcm⟩, hrow⟩ := H
  unfold maxLen at hcm
  go_enter Try.func59, Try.ntmps59
  go_wp2
  go_loopw [5] (fun i wr => ∃ j : Nat, j ≤ n ∧ i = .int .i64 j ∧ (∀ i, i < j → isF f0 f1 f2 f3 f4 y0 y1 y2 y3 y4 i = false) ∧ Below (w.alloc (.cells #[.int .i64 y0, .int .i64 y1, .int .i64 y2, .int .i64 y3, .int .i64 y4] 59)).heap.size (w.alloc (.cells #[.int .i64 y0, .int .i64 y1, .int .i64 y2, .int .i64 y3, .int .i64 y4] 59)) wr) (fun i _ => n - (intOf i).toNat)
  case atStart => exact ⟨0, by omega, rfl, fun i hi => absurd hi (by omega), Below.refl _ _⟩
  case round =>
    obtain ⟨j, hj, rfl, hok, hBw⟩ := hrel
    have hB0 : Below w.heap.size w wr := Below.tr (by (repeat (first | exact Below.refl _ _ | assumption | refine Below.al ?_ _ | refine Below.dr ?_ | (refine Below.st ?_ (by simp <;> omega) _) | (refine Below.tr ?_ (by assumption))))) hBw
    have hfs : w.heap.size < wr.heap.size := by have := hBw.size; simp at this; omega
    have kf : ∀ i, wr.cell? ⟨w.heap.size, i, none⟩ = #[Value.int .i64 y0, .int .i64 y1, .int .i64 y2, .int .i64 y3, .int .i64 y4][i]? := fun i => (keepc hBw w.heap.size (by simp) i).trans ((blk (heap_alloc_new w _)).1 i)
    by_cases hlt : j < n
    · obtain ⟨bl, off, rfl, hbB, hc⟩ := hrow (by omega)
      have hr := hc j hlt
      have hbs : bl < wr.heap.size := by have := hB0.size; omega
      have q0 : wr.cell? ⟨bl, off + j * 7, none⟩ = some (.int .i64 (f0 j)) := (keepc hB0 bl (by omega) _).trans (hr 0 _ rfl)
      have q1 : wr.cell? ⟨bl, off + j * 7 + 1, none⟩ = some (.int .i64 (f1 j)) := (keepc hB0 bl (by omega) _).trans (hr 1 _ rfl)
      have q2 : wr.cell? ⟨bl, off + j * 7 + 2, none⟩ = some (.int .i64 (f2 j)) := (keepc hB0 bl (by omega) _).trans (hr 2 _ rfl)
      have q3 : wr.cell? ⟨bl, off + j * 7 + 3, none⟩ = some (.int .i64 (f3 j)) := (keepc hB0 bl (by omega) _).trans (hr 3 _ rfl)
      have q4 : wr.cell? ⟨bl, off + j * 7 + 4, none⟩ = some (.int .i64 (f4 j)) := (keepc hB0 bl (by omega) _).trans (hr 4 _ rfl)
      have hlt2 : (j : Int) < (n : Int) := by omega
      have HO := Lib.hid hok
      clear hc hr hrow hok
      cases hx : isF f0 f1 f2 f3 f4 y0 y1 y2 y3 y4 j with
      | true =>
        have he := Lib.hid (plF_at HO.out hx hlt)
        have hq : ∀ W, (binOp .eql 59 (.agg #[.int .i64 (f0 j), .int .i64 (f1 j), .int .i64 (f2 j), .int .i64 (f3 j), .int .i64 (f4 j)]) (.agg #[.int .i64 y0, .int .i64 y1, .int .i64 y2, .int .i64 y3, .int .i64 y4])).run Try.prog W = .ok (.bool true) W := fun W => by rw [← hx]; exact eql_flow _ _ _ _ _ _ _ _ _ _ W
        clear hx
        go_wp2
        refine wp_region_free (ds := [(0, 12), (1, 13), (2, 14), (3, 15), (4, 16), (5, 17), (6, 18)]) 7 (by kernel_rfl) (by kernel_rfl) (by first | exact .inl rfl | exact .inr (by kernel_rfl)) (by rfl) rfl rfl ?_
        apply free_is
        · intro a' w' hLe hfr hdep
          have e0 := hfr 0 rfl
          conv at e0 => rhs; whnf
          have f0 := e0; simp only [Array.getD_eq_getD_getElem?] at f0
          refine wpOp_plain rfl rfl (fun K hK => ?_)
          go_simp
          exact hK _ _ ⟨_, rfl, Below.refl _ _, rfl⟩
        apply free_is
        · intro a' w' hLe hfr hdep
          have e5 := hfr 5 rfl
          conv at e5 => rhs; whnf
          have f5 := e5; simp only [Array.getD_eq_getD_getElem?] at f5
          refine wpOp_plain rfl rfl (fun K hK => ?_)
          go_simp
          exact hK _ _ ⟨_, rfl, Below.refl _ _, rfl⟩
        apply free_is
        · intro a' w' hLe hfr hdep
          have e12 : a'.tmps.getD 12 undef = _ := hdep 0 12 (Nat.le_of_ble_eq_true rfl) rfl rfl
          conv at e12 => rhs; whnf
          have f12 := e12; simp only [Array.getD_eq_getD_getElem?] at f12
          have e13 : a'.tmps.getD 13 undef = _ := hdep 1 13 (Nat.le_of_ble_eq_true rfl) rfl rfl
          conv at e13 => rhs; whnf
          have f13 := e13; simp only [Array.getD_eq_getD_getElem?] at f13
          refine wpOp_plain rfl rfl (fun K hK => ?_)
          go_simp
          exact hK _ _ ⟨_, rfl, Below.refl _ _, rfl⟩
        apply free_is
        · intro a' w' hLe hfr hdep
          have e14 : a'.tmps.getD 14 undef = _ := hdep 2 14 (Nat.le_of_ble_eq_true rfl) rfl rfl
          conv at e14 => rhs; whnf
          have f14 := e14; simp only [Array.getD_eq_getD_getElem?] at f14
          refine wpOp_plain rfl rfl (fun K hK => ?_)
          go_simp
          exact hK _ _ ⟨_, rfl, Below.refl _ _, rfl⟩
        apply free_is
        · intro a' w' hLe hfr hdep
          have e15 : a'.tmps.getD 15 undef = _ := hdep 3 15 (Nat.le_of_ble_eq_true rfl) rfl rfl
          conv at e15 => rhs; whnf
          have f15 := e15; simp only [Array.getD_eq_getD_getElem?] at f15
          have kc := fun i => keepc hLe (bl) (by (try simp) <;> omega) i
          have kf := fun i => keepf hLe (bl) (by (try simp) <;> omega) i
          have kz : bl < w'.heap.size := (by have := hLe.size; (try simp at this); omega)
          have kc := fun i => keepc hLe (w.heap.size) (by (try simp) <;> omega) i
          have kf := fun i => keepf hLe (w.heap.size) (by (try simp) <;> omega) i
          have kz : w.heap.size < w'.heap.size := (by have := hLe.size; (try simp at this); omega)
          refine wpOp_plain rfl rfl (fun K hK => ?_)
          go_simp
          exact hK _ _ ⟨_, rfl, Below.refl _ _, rfl⟩
        apply free_is
        · intro a' w' hLe hfr hdep
          have e3 := hfr 3 rfl
          conv at e3 => rhs; whnf
          have f3 := e3; simp only [Array.getD_eq_getD_getElem?] at f3
          have kc := fun i => keepc hLe (bl) (by (try simp) <;> omega) i
          have kf := fun i => keepf hLe (bl) (by (try simp) <;> omega) i
          have kz : bl < w'.heap.size := (by have := hLe.size; (try simp at this); omega)
          have kc := fun i => keepc hLe (w.heap.size) (by (try simp) <;> omega) i
          have kf := fun i => keepf hLe (w.heap.size) (by (try simp) <;> omega) i
          have kz : w.heap.size < w'.heap.size := (by have := hLe.size; (try simp at this); omega)
          refine wpOp_plain rfl rfl (fun K hK => ?_)
          go_simp
          exact hK _ _ ⟨_, rfl, Below.refl _ _, rfl⟩
        apply free_is
        · intro a' w' hLe hfr hdep
          have e16 : a'.tmps.getD 16 undef = _ := hdep 4 16 (Nat.le_of_ble_eq_true rfl) rfl rfl
          conv at e16 => rhs; whnf
          have f16 := e16; simp only [Array.getD_eq_getD_getElem?] at f16
          have e17 : a'.tmps.getD 17 undef = _ := hdep 5 17 (Nat.le_of_ble_eq_true rfl) rfl rfl
          conv at e17 => rhs; whnf
          have f17 := e17; simp only [Array.getD_eq_getD_getElem?] at f17
          refine wpOp_plain rfl rfl (fun K hK => ?_)
          go_simp
          exact hK _ _ ⟨_, rfl, Below.refl _ _, rfl⟩
        apply free_nil
        intro vs w1 hb1 hT1
        have e12 : vs 0 = _ := hT1 0 12 rfl
        conv at e12 => rhs; whnf
        have e13 : vs 1 = _ := hT1 1 13 rfl
        conv at e13 => rhs; whnf
        have e14 : vs 2 = _ := hT1 2 14 rfl
        conv at e14 => rhs; whnf
        have e15 : vs 3 = _ := hT1 3 15 rfl
        conv at e15 => rhs; whnf
        have e16 : vs 4 = _ := hT1 4 16 rfl
        conv at e16 => rhs; whnf
        have e17 : vs 5 = _ := hT1 5 17 rfl
        conv at e17 => rhs; whnf
        have e18 : vs 6 = _ := hT1 6 18 rfl
        conv at e18 => rhs; whnf
        simp only [putAll, List.drop_succ_cons, List.drop_zero, e12, e13, e14, e15, e16, e17, e18]
        clear hT1 e12 e13 e14 e15 e16 e17 e18
        go_simp
        go_wp2
        go_ret
        exact ⟨by rw [he.out] <;> rfl, Below.tr hB0 hb1⟩
      | false =>
        have hq : ∀ W, (binOp .eql 59 (.agg #[.int .i64 (f0 j), .int .i64 (f1 j), .int .i64 (f2 j), .int .i64 (f3 j), .int .i64 (f4 j)]) (.agg #[.int .i64 y0, .int .i64 y1, .int .i64 y2, .int .i64 y3, .int .i64 y4])).run Try.prog W = .ok (.bool false) W := fun W => by rw [← hx]; exact eql_flow _ _ _ _ _ _ _ _ _ _ W
        have HX := Lib.hid hx
        clear hx
        go_wp2
        refine wp_region_free (ds := [(0, 12), (1, 13), (2, 14), (3, 15), (4, 16), (5, 17), (6, 18)]) 7 (by kernel_rfl) (by kernel_rfl) (by first | exact .inl rfl | exact .inr (by kernel_rfl)) (by rfl) rfl rfl ?_
        apply free_is
        · intro a' w' hLe hfr hdep
          have e0 := hfr 0 rfl
          conv at e0 => rhs; whnf
          have f0 := e0; simp only [Array.getD_eq_getD_getElem?] at f0
          refine wpOp_plain rfl rfl (fun K hK => ?_)
          go_simp
          exact hK _ _ ⟨_, rfl, Below.refl _ _, rfl⟩
        apply free_is
        · intro a' w' hLe hfr hdep
          have e5 := hfr 5 rfl
          conv at e5 => rhs; whnf
          have f5 := e5; simp only [Array.getD_eq_getD_getElem?] at f5
          refine wpOp_plain rfl rfl (fun K hK => ?_)
          go_simp
          exact hK _ _ ⟨_, rfl, Below.refl _ _, rfl⟩
        apply free_is
        · intro a' w' hLe hfr hdep
          have e12 : a'.tmps.getD 12 undef = _ := hdep 0 12 (Nat.le_of_ble_eq_true rfl) rfl rfl
          conv at e12 => rhs; whnf
          have f12 := e12; simp only [Array.getD_eq_getD_getElem?] at f12
          have e13 : a'.tmps.getD 13 undef = _ := hdep 1 13 (Nat.le_of_ble_eq_true rfl) rfl rfl
          conv at e13 => rhs; whnf
          have f13 := e13; simp only [Array.getD_eq_getD_getElem?] at f13
          refine wpOp_plain rfl rfl (fun K hK => ?_)
          go_simp
          exact hK _ _ ⟨_, rfl, Below.refl _ _, rfl⟩
        apply free_is
        · intro a' w' hLe hfr hdep
          have e14 : a'.tmps.getD 14 undef = _ := hdep 2 14 (Nat.le_of_ble_eq_true rfl) rfl rfl
          conv at e14 => rhs; whnf
          have f14 := e14; simp only [Array.getD_eq_getD_getElem?] at f14
          refine wpOp_plain rfl rfl (fun K hK => ?_)
          go_simp
          exact hK _ _ ⟨_, rfl, Below.refl _ _, rfl⟩
        apply free_is
        · intro a' w' hLe hfr hdep
          have e15 : a'.tmps.getD 15 undef = _ := hdep 3 15 (Nat.le_of_ble_eq_true rfl) rfl rfl
          conv at e15 => rhs; whnf
          have f15 := e15; simp only [Array.getD_eq_getD_getElem?] at f15
          have kc := fun i => keepc hLe (bl) (by (try simp) <;> omega) i
          have kf := fun i => keepf hLe (bl) (by (try simp) <;> omega) i
          have kz : bl < w'.heap.size := (by have := hLe.size; (try simp at this); omega)
          have kc := fun i => keepc hLe (w.heap.size) (by (try simp) <;> omega) i
          have kf := fun i => keepf hLe (w.heap.size) (by (try simp) <;> omega) i
          have kz : w.heap.size < w'.heap.size := (by have := hLe.size; (try simp at this); omega)
          refine wpOp_plain rfl rfl (fun K hK => ?_)
          go_simp
          exact hK _ _ ⟨_, rfl, Below.refl _ _, rfl⟩
        apply free_is
        · intro a' w' hLe hfr hdep
          have e3 := hfr 3 rfl
          conv at e3 => rhs; whnf
          have f3 := e3; simp only [Array.getD_eq_getD_getElem?] at f3
          have kc := fun i => keepc hLe (bl) (by (try simp) <;> omega) i
          have kf := fun i => keepf hLe (bl) (by (try simp) <;> omega) i
          have kz : bl < w'.heap.size := (by have := hLe.size; (try simp at this); omega)
          have kc := fun i => keepc hLe (w.heap.size) (by (try simp) <;> omega) i
          have kf := fun i => keepf hLe (w.heap.size) (by (try simp) <;> omega) i
          have kz : w.heap.size < w'.heap.size := (by have := hLe.size; (try simp at this); omega)
          refine wpOp_plain rfl rfl (fun K hK => ?_)
          go_simp
          exact hK _ _ ⟨_, rfl, Below.refl _ _, rfl⟩
        apply free_is
        · intro a' w' hLe hfr hdep
          have e16 : a'.tmps.getD 16 undef = _ := hdep 4 16 (Nat.le_of_ble_eq_true rfl) rfl rfl
          conv at e16 => rhs; whnf
          have f16 := e16; simp only [Array.getD_eq_getD_getElem?] at f16
          have e17 : a'.tmps.getD 17 undef = _ := hdep 5 17 (Nat.le_of_ble_eq_true rfl) rfl rfl
          conv at e17 => rhs; whnf
          have f17 := e17; simp only [Array.getD_eq_getD_getElem?] at f17
          refine wpOp_plain rfl rfl (fun K hK => ?_)
          go_simp
          exact hK _ _ ⟨_, rfl, Below.refl _ _, rfl⟩
        apply free_nil
        intro vs w1 hb1 hT1
        have e12 : vs 0 = _ := hT1 0 12 rfl
        conv at e12 => rhs; whnf
        have e13 : vs 1 = _ := hT1 1 13 rfl
        conv at e13 => rhs; whnf
        have e14 : vs 2 = _ := hT1 2 14 rfl
        conv at e14 => rhs; whnf
        have e15 : vs 3 = _ := hT1 3 15 rfl
        conv at e15 => rhs; whnf
        have e16 : vs 4 = _ := hT1 4 16 rfl
        conv at e16 => rhs; whnf
        have e17 : vs 5 = _ := hT1 5 17 rfl
        conv at e17 => rhs; whnf
        have e18 : vs 6 = _ := hT1 6 18 rfl
        conv at e18 => rhs; whnf
        simp only [putAll, List.drop_succ_cons, List.drop_zero, e12, e13, e14, e15, e16, e17, e18]
        clear hT1 e12 e13 e14 e15 e16 e17 e18
        go_simp
        go_wp2
        go_roundw
        case rel => exact ⟨j + 1, by omega, by go_num, upto HO.out HX.out, Below.tr hBw hb1⟩
        case measure => simp [intOf]; omega
    · obtain rfl : j = n := by omega
      have he := Lib.hid (plF_none hok)
      clear hok hrow
      go_wp2
      go_ret
      exact ⟨by rw [he.out] <;> rfl, hB0⟩

set_option maxRecDepth 20000 in
set_option maxHeartbeats 16000000 in
theorem specTableValid_any (x0 x1 : Int) {w : World} {B : Nat} {A : Option Addr} {n c : Nat} {f0 f1 f2 f3 f4 to la : Nat → Int} (H : Rws w B 7 A n c (entryR f0 f1 f2 f3 f4 to la)) (hB : B ≤ w.heap.size) :
    Calls Try.prog 41 #[.agg #[.int .i64 x0, .int .i64 x1, .slice A n c]] w fun e w' => e = .returned (.bool (tabVB x0 x1 n f0 f1 f2 f3 f4 to la)) ∧ Below w.heap.size w w' := by
  have HH := Lib.hid H
  obtain ⟨⟨hnc, hcm⟩, hrow⟩ := H
  unfold maxLen at hcm
  go_enter Try.func41, Try.ntmps41
  go_wp2
  go_loopw [3, 4] (fun i _ wr => ∃ k : Nat, k ≤ n ∧ i = .int .i64 k ∧ (∀ j, j < k → taOk f0 f1 f2 f3 f4 to la j = true) ∧ Below (w.alloc (.cells #[.int .i64 x0, .int .i64 x1, .slice A n c] 35)).heap.size (w.alloc (.cells #[.int .i64 x0, .int .i64 x1, .slice A n c] 35)) wr) (fun i _ _ => n - (intOf i).toNat)
  case atStart => exact ⟨0, by omega, rfl, fun j hj => absurd hj (by omega), Below.refl _ _⟩
  case round =>
    obtain ⟨k, hk, rfl, hok, hBw⟩ := hrel
    have hB0 : Below w.heap.size w wr := Below.tr (by (repeat (first | exact Below.refl _ _ | assumption | refine Below.al ?_ _ | refine Below.dr ?_ | (refine Below.st ?_ (by simp <;> omega) _) | (refine Below.tr ?_ (by assumption))))) hBw
    have hX : wr.heap[w.heap.size]? = some (.cells #[.int .i64 x0, .int .i64 x1, .slice A n c] 35) := (hBw.block w.heap.size (by simp)).trans (heap_alloc_new w _)
    have hXl := heap_lt hX
    by_cases hlt : k < n
    · obtain ⟨bl, off, rfl, hbB, hc⟩ := hrow (by omega)
      have hr := hc k hlt
      have hbs : bl < wr.heap.size := by have := hB0.size; omega
      have q0 : wr.cell? ⟨bl, off + k * 7, none⟩ = some (.int .i64 (f0 k)) := (keepc hB0 bl (by omega) _).trans (hr 0 _ rfl)
      have q1 : wr.cell? ⟨bl, off + k * 7 + 1, none⟩ = some (.int .i64 (f1 k)) := (keepc hB0 bl (by omega) _).trans (hr 1 _ rfl)
      have q2 : wr.cell? ⟨bl, off + k * 7 + 2, none⟩ = some (.int .i64 (f2 k)) := (keepc hB0 bl (by omega) _).trans (hr 2 _ rfl)
      have q3 : wr.cell? ⟨bl, off + k * 7 + 3, none⟩ = some (.int .i64 (f3 k)) := (keepc hB0 bl (by omega) _).trans (hr 3 _ rfl)
      have q4 : wr.cell? ⟨bl, off + k * 7 + 4, none⟩ = some (.int .i64 (f4 k)) := (keepc hB0 bl (by omega) _).trans (hr 4 _ rfl)
      have q5 : wr.cell? ⟨bl, off + k * 7 + 5, none⟩ = some (.int .i64 (to k)) := (keepc hB0 bl (by omega) _).trans (hr 5 _ rfl)
      have q6 : wr.cell? ⟨bl, off + k * 7 + 6, none⟩ = some (.int .i64 (la k)) := (keepc hB0 bl (by omega) _).trans (hr 6 _ rfl)
      have hHO := Lib.hid hok
      have hbel : Below wr.heap.size wr (wr.alloc (.cells #[.int .i64 (f0 k), .int .i64 (f1 k), .int .i64 (f2 k), .int .i64 (f3 k), .int .i64 (f4 k), .int .i64 (to k), .int .i64 (la k)] 81)) := by (repeat (first | exact Below.refl _ _ | assumption | refine Below.al ?_ _ | refine Below.dr ?_ | (refine Below.st ?_ (by simp <;> omega) _) | (refine Below.tr ?_ (by assumption))))
      have hX2 := (heap_alloc_old wr (.cells #[.int .i64 (f0 k), .int .i64 (f1 k), .int .i64 (f2 k), .int .i64 (f3 k), .int .i64 (f4 k), .int .i64 (to k), .int .i64 (la k)] 81) hXl).trans hX
      obtain ⟨P, hP⟩ : ∃ P, P = plF f0 f1 f2 f3 f4 (f0 k) (f1 k) (f2 k) (f3 k) (f4 k) k := ⟨_, rfl⟩
      have hin : decide (0 ≤ P) = inT f0 f1 f2 f3 f4 k (f0 k) (f1 k) (f2 k) (f3 k) (f4 k) := by rw [hP]; exact plF_in k
      have hpl : ∀ W, Below w.heap.size w W → Calls Try.prog 59 #[.slice (some ⟨bl, off, none⟩) k c, .agg #[.int .i64 (f0 k), .int .i64 (f1 k), .int .i64 (f2 k), .int .i64 (f3 k), .int .i64 (f4 k)]] W fun e w' => e = .returned (.int .i64 P) ∧ Below W.heap.size W w' := fun W hW => by
        rw [hP]
        exact l9Place_any _ _ _ _ _ ((HH.out.take k (by omega)).below (hW.mono hB)) (Nat.le_trans hB hW.size)
      have hc1 : (k : Int) ≤ (c : Int) := by omega
      obtain ⟨cX, fX⟩ := blk hX2
      obtain ⟨cW, fW⟩ := blk hX
      have hXl2 := heap_lt hX2
      clear hok hr hP hX hX2
      cases h1 : flowB (f0 k) (f1 k) (f2 k) (f3 k) (f4 k) with
      | false =>
        have hno := Lib.hid (tabVB_no (x0 := x0) (x1 := x1) (show k < n from hlt) (show taOk f0 f1 f2 f3 f4 to la k = false from taOk_en (by simp [enOk, h1])))
        clear hc hrow hin
        go_wp2
        refine wp_region_free (ds := [(0, 17), (1, 18), (2, 19), (3, 20), (4, 21), (5, 22), (6, 23), (7, 24), (8, 25), (9, 26), (10, 27), (11, 28), (12, 29), (13, 30), (14, 31), (15, 32), (16, 33), (17, 34), (18, 35), (19, 36), (20, 37), (21, 38), (22, 39), (23, 40), (24, 41), (25, 42), (26, 43), (27, 44), (28, 45), (29, 46), (30, 47), (31, 48), (32, 49), (33, 50), (34, 51), (35, 52), (36, 53), (37, 54), (38, 55), (39, 56), (40, 57), (41, 58)]) 42 (by kernel_rfl) (by kernel_rfl) (by first | exact .inl rfl | exact .inr (by kernel_rfl)) (by rfl) rfl rfl ?_
        apply free_is
        · intro a' w' hLe hfr hdep
          have e4 := hfr 4 rfl
          conv at e4 => rhs; whnf
          have f4 := e4; simp only [Array.getD_eq_getD_getElem?] at f4
          refine wpOp_plain rfl rfl (fun K hK => ?_)
          go_simp
          exact hK _ _ ⟨_, rfl, Below.refl _ _, rfl⟩
        apply free_is
        · intro a' w' hLe hfr hdep
          have e17 : a'.tmps.getD 17 undef = _ := hdep 0 17 (Nat.le_of_ble_eq_true rfl) rfl rfl
          conv at e17 => rhs; whnf
          have f17 := e17; simp only [Array.getD_eq_getD_getElem?] at f17
          have kc := fun i => keepc hLe (wr.heap.size) (by (try simp) <;> omega) i
          have kf := fun i => keepf hLe (wr.heap.size) (by (try simp) <;> omega) i
          have kz : wr.heap.size < w'.heap.size := (by have := hLe.size; (try simp at this); omega)
          have kc := fun i => keepc hLe (w.heap.size) (by (try simp) <;> omega) i
          have kf := fun i => keepf hLe (w.heap.size) (by (try simp) <;> omega) i
          have kz : w.heap.size < w'.heap.size := (by have := hLe.size; (try simp at this); omega)
          have kc := fun i => keepc hLe (bl) (by (try simp) <;> omega) i
          have kf := fun i => keepf hLe (bl) (by (try simp) <;> omega) i
          have kz : bl < w'.heap.size := (by have := hLe.size; (try simp at this); omega)
          refine wpOp_plain rfl rfl (fun K hK => ?_)
          go_simp
          exact hK _ _ ⟨_, rfl, Below.refl _ _, rfl⟩
        apply free_is
        · intro a' w' hLe hfr hdep
          have e18 : a'.tmps.getD 18 undef = _ := hdep 1 18 (Nat.le_of_ble_eq_true rfl) rfl rfl
          conv at e18 => rhs; whnf
          have f18 := e18; simp only [Array.getD_eq_getD_getElem?] at f18
          have kc := fun i => keepc hLe (wr.heap.size) (by (try simp) <;> omega) i
          have kf := fun i => keepf hLe (wr.heap.size) (by (try simp) <;> omega) i
          have kz : wr.heap.size < w'.heap.size := (by have := hLe.size; (try simp at this); omega)
          have kc := fun i => keepc hLe (w.heap.size) (by (try simp) <;> omega) i
          have kf := fun i => keepf hLe (w.heap.size) (by (try simp) <;> omega) i
          have kz : w.heap.size < w'.heap.size := (by have := hLe.size; (try simp at this); omega)
          have kc := fun i => keepc hLe (bl) (by (try simp) <;> omega) i
          have kf := fun i => keepf hLe (bl) (by (try simp) <;> omega) i
          have kz : bl < w'.heap.size := (by have := hLe.size; (try simp at this); omega)
          refine wpOp_plain rfl rfl (fun K hK => ?_)
          go_simp
          refine (specFlowValid_b _ _ _ _ _ _).mono ?_
          rintro e w2 ⟨rfl, hb⟩
          exact hK _ _ ⟨_, rfl, hb, rfl⟩
        apply free_is
        · intro a' w' hLe hfr hdep
          have e19 : a'.tmps.getD 19 undef = _ := hdep 2 19 (Nat.le_of_ble_eq_true rfl) rfl rfl
          conv at e19 => rhs; whnf
          have f19 := e19; simp only [Array.getD_eq_getD_getElem?] at f19
          refine wpOp_plain rfl rfl (fun K hK => ?_)
          go_simp
          exact hK _ _ ⟨_, rfl, Below.refl _ _, rfl⟩
        apply free_is
        · intro a' w' hLe hfr hdep
          have e20 : a'.tmps.getD 20 undef = _ := hdep 3 20 (Nat.le_of_ble_eq_true rfl) rfl rfl
          conv at e20 => rhs; whnf
          have f20 := e20; simp only [Array.getD_eq_getD_getElem?] at f20
          refine wpOp_plain rfl rfl (fun K hK => ?_)
          go_simp
          exact hK _ _ ⟨_, rfl, Below.refl _ _, rfl⟩
        apply free_is
        · intro a' w' hLe hfr hdep
          have e21 : a'.tmps.getD 21 undef = _ := hdep 4 21 (Nat.le_of_ble_eq_true rfl) rfl rfl
          conv at e21 => rhs; whnf
          have f21 := e21; simp only [Array.getD_eq_getD_getElem?] at f21
          exact wpOp_no rfl rfl rfl e21 ⟨_, rfl, Below.refl _ _, rfl⟩
        apply free_is
        · intro a' w' hLe hfr hdep
          have e21 : a'.tmps.getD 21 undef = _ := hdep 4 21 (Nat.le_of_ble_eq_true rfl) rfl rfl
          conv at e21 => rhs; whnf
          have f21 := e21; simp only [Array.getD_eq_getD_getElem?] at f21
          exact wpOp_no rfl rfl rfl e21 ⟨_, rfl, Below.refl _ _, rfl⟩
        apply free_is
        · intro a' w' hLe hfr hdep
          have e21 : a'.tmps.getD 21 undef = _ := hdep 4 21 (Nat.le_of_ble_eq_true rfl) rfl rfl
          conv at e21 => rhs; whnf
          have f21 := e21; simp only [Array.getD_eq_getD_getElem?] at f21
          exact wpOp_no rfl rfl rfl e21 ⟨_, rfl, Below.refl _ _, rfl⟩
        apply free_is
        · intro a' w' hLe hfr hdep
          have e21 : a'.tmps.getD 21 undef = _ := hdep 4 21 (Nat.le_of_ble_eq_true rfl) rfl rfl
          conv at e21 => rhs; whnf
          have f21 := e21; simp only [Array.getD_eq_getD_getElem?] at f21
          exact wpOp_no rfl rfl rfl e21 ⟨_, rfl, Below.refl _ _, rfl⟩
        apply free_is
        · intro a' w' hLe hfr hdep
          have e21 : a'.tmps.getD 21 undef = _ := hdep 4 21 (Nat.le_of_ble_eq_true rfl) rfl rfl
          conv at e21 => rhs; whnf
          have f21 := e21; simp only [Array.getD_eq_getD_getElem?] at f21
          have e25 : a'.tmps.getD 25 undef = _ := hdep 8 25 (Nat.le_of_ble_eq_true rfl) rfl rfl
          conv at e25 => rhs; whnf
          have f25 := e25; simp only [Array.getD_eq_getD_getElem?] at f25
          refine wpOp_plain rfl rfl (fun K hK => ?_)
          go_simp
          exact hK _ _ ⟨_, rfl, Below.refl _ _, rfl⟩
        apply free_is
        · intro a' w' hLe hfr hdep
          have e26 : a'.tmps.getD 26 undef = _ := hdep 9 26 (Nat.le_of_ble_eq_true rfl) rfl rfl
          conv at e26 => rhs; whnf
          have f26 := e26; simp only [Array.getD_eq_getD_getElem?] at f26
          refine wpOp_plain rfl rfl (fun K hK => ?_)
          go_simp
          exact hK _ _ ⟨_, rfl, Below.refl _ _, rfl⟩
        apply free_is
        · intro a' w' hLe hfr hdep
          have e27 : a'.tmps.getD 27 undef = _ := hdep 10 27 (Nat.le_of_ble_eq_true rfl) rfl rfl
          conv at e27 => rhs; whnf
          have f27 := e27; simp only [Array.getD_eq_getD_getElem?] at f27
          exact wpOp_no rfl rfl rfl e27 ⟨_, rfl, Below.refl _ _, rfl⟩
        apply free_is
        · intro a' w' hLe hfr hdep
          have e27 : a'.tmps.getD 27 undef = _ := hdep 10 27 (Nat.le_of_ble_eq_true rfl) rfl rfl
          conv at e27 => rhs; whnf
          have f27 := e27; simp only [Array.getD_eq_getD_getElem?] at f27
          exact wpOp_no rfl rfl rfl e27 ⟨_, rfl, Below.refl _ _, rfl⟩
        apply free_is
        · intro a' w' hLe hfr hdep
          have e27 : a'.tmps.getD 27 undef = _ := hdep 10 27 (Nat.le_of_ble_eq_true rfl) rfl rfl
          conv at e27 => rhs; whnf
          have f27 := e27; simp only [Array.getD_eq_getD_getElem?] at f27
          exact wpOp_no rfl rfl rfl e27 ⟨_, rfl, Below.refl _ _, rfl⟩
        apply free_is
        · intro a' w' hLe hfr hdep
          have e27 : a'.tmps.getD 27 undef = _ := hdep 10 27 (Nat.le_of_ble_eq_true rfl) rfl rfl
          conv at e27 => rhs; whnf
          have f27 := e27; simp only [Array.getD_eq_getD_getElem?] at f27
          exact wpOp_no rfl rfl rfl e27 ⟨_, rfl, Below.refl _ _, rfl⟩
        apply free_is
        · intro a' w' hLe hfr hdep
          have e27 : a'.tmps.getD 27 undef = _ := hdep 10 27 (Nat.le_of_ble_eq_true rfl) rfl rfl
          conv at e27 => rhs; whnf
          have f27 := e27; simp only [Array.getD_eq_getD_getElem?] at f27
          have e31 : a'.tmps.getD 31 undef = _ := hdep 14 31 (Nat.le_of_ble_eq_true rfl) rfl rfl
          conv at e31 => rhs; whnf
          have f31 := e31; simp only [Array.getD_eq_getD_getElem?] at f31
          refine wpOp_plain rfl rfl (fun K hK => ?_)
          go_simp
          exact hK _ _ ⟨_, rfl, Below.refl _ _, rfl⟩
        apply free_is
        · intro a' w' hLe hfr hdep
          have e32 : a'.tmps.getD 32 undef = _ := hdep 15 32 (Nat.le_of_ble_eq_true rfl) rfl rfl
          conv at e32 => rhs; whnf
          have f32 := e32; simp only [Array.getD_eq_getD_getElem?] at f32
          refine wpOp_plain rfl rfl (fun K hK => ?_)
          go_simp
          exact hK _ _ ⟨_, rfl, Below.refl _ _, rfl⟩
        apply free_is
        · intro a' w' hLe hfr hdep
          have e33 : a'.tmps.getD 33 undef = _ := hdep 16 33 (Nat.le_of_ble_eq_true rfl) rfl rfl
          conv at e33 => rhs; whnf
          have f33 := e33; simp only [Array.getD_eq_getD_getElem?] at f33
          exact wpOp_no rfl rfl rfl e33 ⟨_, rfl, Below.refl _ _, rfl⟩
        apply free_is
        · intro a' w' hLe hfr hdep
          have e33 : a'.tmps.getD 33 undef = _ := hdep 16 33 (Nat.le_of_ble_eq_true rfl) rfl rfl
          conv at e33 => rhs; whnf
          have f33 := e33; simp only [Array.getD_eq_getD_getElem?] at f33
          exact wpOp_no rfl rfl rfl e33 ⟨_, rfl, Below.refl _ _, rfl⟩
        apply free_is
        · intro a' w' hLe hfr hdep
          have e33 : a'.tmps.getD 33 undef = _ := hdep 16 33 (Nat.le_of_ble_eq_true rfl) rfl rfl
          conv at e33 => rhs; whnf
          have f33 := e33; simp only [Array.getD_eq_getD_getElem?] at f33
          exact wpOp_no rfl rfl rfl e33 ⟨_, rfl, Below.refl _ _, rfl⟩
        apply free_is
        · intro a' w' hLe hfr hdep
          have e36 : a'.tmps.getD 36 undef = _ := hdep 19 36 (Nat.le_of_ble_eq_true rfl) rfl rfl
          conv at e36 => rhs; whnf
          have f36 := e36; simp only [Array.getD_eq_getD_getElem?] at f36
          exact wpOp_un rfl rfl rfl e36 ⟨_, rfl, Below.refl _ _, rfl⟩
        apply free_is
        · intro a' w' hLe hfr hdep
          have e36 : a'.tmps.getD 36 undef = _ := hdep 19 36 (Nat.le_of_ble_eq_true rfl) rfl rfl
          conv at e36 => rhs; whnf
          have f36 := e36; simp only [Array.getD_eq_getD_getElem?] at f36
          exact wpOp_un rfl rfl rfl e36 ⟨_, rfl, Below.refl _ _, rfl⟩
        apply free_is
        · intro a' w' hLe hfr hdep
          have e36 : a'.tmps.getD 36 undef = _ := hdep 19 36 (Nat.le_of_ble_eq_true rfl) rfl rfl
          conv at e36 => rhs; whnf
          have f36 := e36; simp only [Array.getD_eq_getD_getElem?] at f36
          exact wpOp_un rfl rfl rfl e36 ⟨_, rfl, Below.refl _ _, rfl⟩
        apply free_is
        · intro a' w' hLe hfr hdep
          have e36 : a'.tmps.getD 36 undef = _ := hdep 19 36 (Nat.le_of_ble_eq_true rfl) rfl rfl
          conv at e36 => rhs; whnf
          have f36 := e36; simp only [Array.getD_eq_getD_getElem?] at f36
          exact wpOp_un rfl rfl rfl e36 ⟨_, rfl, Below.refl _ _, rfl⟩
        apply free_is
        · intro a' w' hLe hfr hdep
          have e36 : a'.tmps.getD 36 undef = _ := hdep 19 36 (Nat.le_of_ble_eq_true rfl) rfl rfl
          conv at e36 => rhs; whnf
          have f36 := e36; simp only [Array.getD_eq_getD_getElem?] at f36
          exact wpOp_un rfl rfl rfl e36 ⟨_, rfl, Below.refl _ _, rfl⟩
        apply free_is
        · intro a' w' hLe hfr hdep
          have e36 : a'.tmps.getD 36 undef = _ := hdep 19 36 (Nat.le_of_ble_eq_true rfl) rfl rfl
          conv at e36 => rhs; whnf
          have f36 := e36; simp only [Array.getD_eq_getD_getElem?] at f36
          exact wpOp_un rfl rfl rfl e36 ⟨_, rfl, Below.refl _ _, rfl⟩
        apply free_is
        · intro a' w' hLe hfr hdep
          have e36 : a'.tmps.getD 36 undef = _ := hdep 19 36 (Nat.le_of_ble_eq_true rfl) rfl rfl
          conv at e36 => rhs; whnf
          have f36 := e36; simp only [Array.getD_eq_getD_getElem?] at f36
          exact wpOp_un rfl rfl rfl e36 ⟨_, rfl, Below.refl _ _, rfl⟩
        apply free_is
        · intro a' w' hLe hfr hdep
          have e36 : a'.tmps.getD 36 undef = _ := hdep 19 36 (Nat.le_of_ble_eq_true rfl) rfl rfl
          conv at e36 => rhs; whnf
          have f36 := e36; simp only [Array.getD_eq_getD_getElem?] at f36
          exact wpOp_un rfl rfl rfl e36 ⟨_, rfl, Below.refl _ _, rfl⟩
        apply free_is
        · intro a' w' hLe hfr hdep
          have e36 : a'.tmps.getD 36 undef = _ := hdep 19 36 (Nat.le_of_ble_eq_true rfl) rfl rfl
          conv at e36 => rhs; whnf
          have f36 := e36; simp only [Array.getD_eq_getD_getElem?] at f36
          exact wpOp_un rfl rfl rfl e36 ⟨_, rfl, Below.refl _ _, rfl⟩
        apply free_is
        · intro a' w' hLe hfr hdep
          have e36 : a'.tmps.getD 36 undef = _ := hdep 19 36 (Nat.le_of_ble_eq_true rfl) rfl rfl
          conv at e36 => rhs; whnf
          have f36 := e36; simp only [Array.getD_eq_getD_getElem?] at f36
          exact wpOp_un rfl rfl rfl e36 ⟨_, rfl, Below.refl _ _, rfl⟩
        apply free_is
        · intro a' w' hLe hfr hdep
          have e33 : a'.tmps.getD 33 undef = _ := hdep 16 33 (Nat.le_of_ble_eq_true rfl) rfl rfl
          conv at e33 => rhs; whnf
          have f33 := e33; simp only [Array.getD_eq_getD_getElem?] at f33
          exact wpOp_no rfl rfl rfl e33 ⟨_, rfl, Below.refl _ _, rfl⟩
        apply free_is
        · intro a' w' hLe hfr hdep
          have e33 : a'.tmps.getD 33 undef = _ := hdep 16 33 (Nat.le_of_ble_eq_true rfl) rfl rfl
          conv at e33 => rhs; whnf
          have f33 := e33; simp only [Array.getD_eq_getD_getElem?] at f33
          have e47 : a'.tmps.getD 47 undef = _ := hdep 30 47 (Nat.le_of_ble_eq_true rfl) rfl rfl
          conv at e47 => rhs; whnf
          have f47 := e47; simp only [Array.getD_eq_getD_getElem?] at f47
          refine wpOp_plain rfl rfl (fun K hK => ?_)
          go_simp
          exact hK _ _ ⟨_, rfl, Below.refl _ _, rfl⟩
        apply free_is
        · intro a' w' hLe hfr hdep
          have e48 : a'.tmps.getD 48 undef = _ := hdep 31 48 (Nat.le_of_ble_eq_true rfl) rfl rfl
          conv at e48 => rhs; whnf
          have f48 := e48; simp only [Array.getD_eq_getD_getElem?] at f48
          refine wpOp_plain rfl rfl (fun K hK => ?_)
          go_simp
          exact hK _ _ ⟨_, rfl, Below.refl _ _, rfl⟩
        apply free_is
        · intro a' w' hLe hfr hdep
          have e49 : a'.tmps.getD 49 undef = _ := hdep 32 49 (Nat.le_of_ble_eq_true rfl) rfl rfl
          conv at e49 => rhs; whnf
          have f49 := e49; simp only [Array.getD_eq_getD_getElem?] at f49
          exact wpOp_no rfl rfl rfl e49 ⟨_, rfl, Below.refl _ _, rfl⟩
        apply free_is
        · intro a' w' hLe hfr hdep
          have e49 : a'.tmps.getD 49 undef = _ := hdep 32 49 (Nat.le_of_ble_eq_true rfl) rfl rfl
          conv at e49 => rhs; whnf
          have f49 := e49; simp only [Array.getD_eq_getD_getElem?] at f49
          exact wpOp_no rfl rfl rfl e49 ⟨_, rfl, Below.refl _ _, rfl⟩
        apply free_is
        · intro a' w' hLe hfr hdep
          have e49 : a'.tmps.getD 49 undef = _ := hdep 32 49 (Nat.le_of_ble_eq_true rfl) rfl rfl
          conv at e49 => rhs; whnf
          have f49 := e49; simp only [Array.getD_eq_getD_getElem?] at f49
          exact wpOp_no rfl rfl rfl e49 ⟨_, rfl, Below.refl _ _, rfl⟩
        apply free_is
        · intro a' w' hLe hfr hdep
          have e49 : a'.tmps.getD 49 undef = _ := hdep 32 49 (Nat.le_of_ble_eq_true rfl) rfl rfl
          conv at e49 => rhs; whnf
          have f49 := e49; simp only [Array.getD_eq_getD_getElem?] at f49
          exact wpOp_no rfl rfl rfl e49 ⟨_, rfl, Below.refl _ _, rfl⟩
        apply free_is
        · intro a' w' hLe hfr hdep
          have e49 : a'.tmps.getD 49 undef = _ := hdep 32 49 (Nat.le_of_ble_eq_true rfl) rfl rfl
          conv at e49 => rhs; whnf
          have f49 := e49; simp only [Array.getD_eq_getD_getElem?] at f49
          exact wpOp_no rfl rfl rfl e49 ⟨_, rfl, Below.refl _ _, rfl⟩
        apply free_is
        · intro a' w' hLe hfr hdep
          have e49 : a'.tmps.getD 49 undef = _ := hdep 32 49 (Nat.le_of_ble_eq_true rfl) rfl rfl
          conv at e49 => rhs; whnf
          have f49 := e49; simp only [Array.getD_eq_getD_getElem?] at f49
          exact wpOp_no rfl rfl rfl e49 ⟨_, rfl, Below.refl _ _, rfl⟩
        apply free_is
        · intro a' w' hLe hfr hdep
          have e49 : a'.tmps.getD 49 undef = _ := hdep 32 49 (Nat.le_of_ble_eq_true rfl) rfl rfl
          conv at e49 => rhs; whnf
          have f49 := e49; simp only [Array.getD_eq_getD_getElem?] at f49
          exact wpOp_no rfl rfl rfl e49 ⟨_, rfl, Below.refl _ _, rfl⟩
        apply free_is
        · intro a' w' hLe hfr hdep
          have e49 : a'.tmps.getD 49 undef = _ := hdep 32 49 (Nat.le_of_ble_eq_true rfl) rfl rfl
          conv at e49 => rhs; whnf
          have f49 := e49; simp only [Array.getD_eq_getD_getElem?] at f49
          exact wpOp_no rfl rfl rfl e49 ⟨_, rfl, Below.refl _ _, rfl⟩
        apply free_is
        · intro a' w' hLe hfr hdep
          have e49 : a'.tmps.getD 49 undef = _ := hdep 32 49 (Nat.le_of_ble_eq_true rfl) rfl rfl
          conv at e49 => rhs; whnf
          have f49 := e49; simp only [Array.getD_eq_getD_getElem?] at f49
          have e57 : a'.tmps.getD 57 undef = _ := hdep 40 57 (Nat.le_of_ble_eq_true rfl) rfl rfl
          conv at e57 => rhs; whnf
          have f57 := e57; simp only [Array.getD_eq_getD_getElem?] at f57
          refine wpOp_plain rfl rfl (fun K hK => ?_)
          go_simp
          exact hK _ _ ⟨_, rfl, Below.refl _ _, rfl⟩
        apply free_nil
        intro vs w1 hb1 hT1
        have e17 : vs 0 = _ := hT1 0 17 rfl
        conv at e17 => rhs; whnf
        have e18 : vs 1 = _ := hT1 1 18 rfl
        conv at e18 => rhs; whnf
        have e19 : vs 2 = _ := hT1 2 19 rfl
        conv at e19 => rhs; whnf
        have e20 : vs 3 = _ := hT1 3 20 rfl
        conv at e20 => rhs; whnf
        have e21 : vs 4 = _ := hT1 4 21 rfl
        conv at e21 => rhs; whnf
        have e22 : vs 5 = _ := hT1 5 22 rfl
        conv at e22 => rhs; whnf
        have e23 : vs 6 = _ := hT1 6 23 rfl
        conv at e23 => rhs; whnf
        have e24 : vs 7 = _ := hT1 7 24 rfl
        conv at e24 => rhs; whnf
        have e25 : vs 8 = _ := hT1 8 25 rfl
        conv at e25 => rhs; whnf
        have e26 : vs 9 = _ := hT1 9 26 rfl
        conv at e26 => rhs; whnf
        have e27 : vs 10 = _ := hT1 10 27 rfl
        conv at e27 => rhs; whnf
        have e28 : vs 11 = _ := hT1 11 28 rfl
        conv at e28 => rhs; whnf
        have e29 : vs 12 = _ := hT1 12 29 rfl
        conv at e29 => rhs; whnf
        have e30 : vs 13 = _ := hT1 13 30 rfl
        conv at e30 => rhs; whnf
        have e31 : vs 14 = _ := hT1 14 31 rfl
        conv at e31 => rhs; whnf
        have e32 : vs 15 = _ := hT1 15 32 rfl
        conv at e32 => rhs; whnf
        have e33 : vs 16 = _ := hT1 16 33 rfl
        conv at e33 => rhs; whnf
        have e34 : vs 17 = _ := hT1 17 34 rfl
        conv at e34 => rhs; whnf
        have e35 : vs 18 = _ := hT1 18 35 rfl
        conv at e35 => rhs; whnf
        have e36 : vs 19 = _ := hT1 19 36 rfl
        conv at e36 => rhs; whnf
        have e37 : vs 20 = _ := hT1 20 37 rfl
        conv at e37 => rhs; whnf
        have e38 : vs 21 = _ := hT1 21 38 rfl
        conv at e38 => rhs; whnf
        have e39 : vs 22 = _ := hT1 22 39 rfl
        conv at e39 => rhs; whnf
        have e40 : vs 23 = _ := hT1 23 40 rfl
        conv at e40 => rhs; whnf
        have e41 : vs 24 = _ := hT1 24 41 rfl
        conv at e41 => rhs; whnf
        have e42 : vs 25 = _ := hT1 25 42 rfl
        conv at e42 => rhs; whnf
        have e43 : vs 26 = _ := hT1 26 43 rfl
        conv at e43 => rhs; whnf
        have e44 : vs 27 = _ := hT1 27 44 rfl
        conv at e44 => rhs; whnf
        have e45 : vs 28 = _ := hT1 28 45 rfl
        conv at e45 => rhs; whnf
        have e46 : vs 29 = _ := hT1 29 46 rfl
        conv at e46 => rhs; whnf
        have e47 : vs 30 = _ := hT1 30 47 rfl
        conv at e47 => rhs; whnf
        have e48 : vs 31 = _ := hT1 31 48 rfl
        conv at e48 => rhs; whnf
        have e49 : vs 32 = _ := hT1 32 49 rfl
        conv at e49 => rhs; whnf
        have e50 : vs 33 = _ := hT1 33 50 rfl
        conv at e50 => rhs; whnf
        have e51 : vs 34 = _ := hT1 34 51 rfl
        conv at e51 => rhs; whnf
        have e52 : vs 35 = _ := hT1 35 52 rfl
        conv at e52 => rhs; whnf
        have e53 : vs 36 = _ := hT1 36 53 rfl
        conv at e53 => rhs; whnf
        have e54 : vs 37 = _ := hT1 37 54 rfl
        conv at e54 => rhs; whnf
        have e55 : vs 38 = _ := hT1 38 55 rfl
        conv at e55 => rhs; whnf
        have e56 : vs 39 = _ := hT1 39 56 rfl
        conv at e56 => rhs; whnf
        have e57 : vs 40 = _ := hT1 40 57 rfl
        conv at e57 => rhs; whnf
        have e58 : vs 41 = _ := hT1 41 58 rfl
        conv at e58 => rhs; whnf
        simp only [putAll, List.drop_succ_cons, List.drop_zero, e17, e18, e19, e20, e21, e22, e23, e24, e25, e26, e27, e28, e29, e30, e31, e32, e33, e34, e35, e36, e37, e38, e39, e40, e41, e42, e43, e44, e45, e46, e47, e48, e49, e50, e51, e52, e53, e54, e55, e56, e57, e58]
        clear hT1 e17 e18 e19 e20 e21 e22 e23 e24 e25 e26 e27 e28 e29 e30 e31 e32 e33 e34 e35 e36 e37 e38 e39 e40 e41 e42 e43 e44 e45 e46 e47 e48 e49 e50 e51 e52 e53 e54 e55 e56 e57 e58
        go_simp
        go_wp2
        go_ret
        exact ⟨by rw [hno.out] <;> rfl, Below.tr hB0 (Below.tr hbel hb1)⟩
      | true =>
      cases h2 : inB (to k) 0 30 with
      | false =>
        have hno := Lib.hid (tabVB_no (x0 := x0) (x1 := x1) (show k < n from hlt) (show taOk f0 f1 f2 f3 f4 to la k = false from taOk_en (by simp [enOk, h2])))
        clear hc hrow hin
        go_wp2
        refine wp_region_free (ds := [(0, 17), (1, 18), (2, 19), (3, 20), (4, 21), (5, 22), (6, 23), (7, 24), (8, 25), (9, 26), (10, 27), (11, 28), (12, 29), (13, 30), (14, 31), (15, 32), (16, 33), (17, 34), (18, 35), (19, 36), (20, 37), (21, 38), (22, 39), (23, 40), (24, 41), (25, 42), (26, 43), (27, 44), (28, 45), (29, 46), (30, 47), (31, 48), (32, 49), (33, 50), (34, 51), (35, 52), (36, 53), (37, 54), (38, 55), (39, 56), (40, 57), (41, 58)]) 42 (by kernel_rfl) (by kernel_rfl) (by first | exact .inl rfl | exact .inr (by kernel_rfl)) (by rfl) rfl rfl ?_
        apply free_is
        · intro a' w' hLe hfr hdep
          have e4 := hfr 4 rfl
          conv at e4 => rhs; whnf
          have f4 := e4; simp only [Array.getD_eq_getD_getElem?] at f4
          refine wpOp_plain rfl rfl (fun K hK => ?_)
          go_simp
          exact hK _ _ ⟨_, rfl, Below.refl _ _, rfl⟩
        apply free_is
        · intro a' w' hLe hfr hdep
          have e17 : a'.tmps.getD 17 undef = _ := hdep 0 17 (Nat.le_of_ble_eq_true rfl) rfl rfl
          conv at e17 => rhs; whnf
          have f17 := e17; simp only [Array.getD_eq_getD_getElem?] at f17
          have kc := fun i => keepc hLe (wr.heap.size) (by (try simp) <;> omega) i
          have kf := fun i => keepf hLe (wr.heap.size) (by (try simp) <;> omega) i
          have kz : wr.heap.size < w'.heap.size := (by have := hLe.size; (try simp at this); omega)
          have kc := fun i => keepc hLe (w.heap.size) (by (try simp) <;> omega) i
          have kf := fun i => keepf hLe (w.heap.size) (by (try simp) <;> omega) i
          have kz : w.heap.size < w'.heap.size := (by have := hLe.size; (try simp at this); omega)
          have kc := fun i => keepc hLe (bl) (by (try simp) <;> omega) i
          have kf := fun i => keepf hLe (bl) (by (try simp) <;> omega) i
          have kz : bl < w'.heap.size := (by have := hLe.size; (try simp at this); omega)
          refine wpOp_plain rfl rfl (fun K hK => ?_)
          go_simp
          exact hK _ _ ⟨_, rfl, Below.refl _ _, rfl⟩
        apply free_is
        · intro a' w' hLe hfr hdep
          have e18 : a'.tmps.getD 18 undef = _ := hdep 1 18 (Nat.le_of_ble_eq_true rfl) rfl rfl
          conv at e18 => rhs; whnf
          have f18 := e18; simp only [Array.getD_eq_getD_getElem?] at f18
          have kc := fun i => keepc hLe (wr.heap.size) (by (try simp) <;> omega) i
          have kf := fun i => keepf hLe (wr.heap.size) (by (try simp) <;> omega) i
          have kz : wr.heap.size < w'.heap.size := (by have := hLe.size; (try simp at this); omega)
          have kc := fun i => keepc hLe (w.heap.size) (by (try simp) <;> omega) i
          have kf := fun i => keepf hLe (w.heap.size) (by (try simp) <;> omega) i
          have kz : w.heap.size < w'.heap.size := (by have := hLe.size; (try simp at this); omega)
          have kc := fun i => keepc hLe (bl) (by (try simp) <;> omega) i
          have kf := fun i => keepf hLe (bl) (by (try simp) <;> omega) i
          have kz : bl < w'.heap.size := (by have := hLe.size; (try simp at this); omega)
          refine wpOp_plain rfl rfl (fun K hK => ?_)
          go_simp
          refine (specFlowValid_b _ _ _ _ _ _).mono ?_
          rintro e w2 ⟨rfl, hb⟩
          exact hK _ _ ⟨_, rfl, hb, rfl⟩
        apply free_is
        · intro a' w' hLe hfr hdep
          have e19 : a'.tmps.getD 19 undef = _ := hdep 2 19 (Nat.le_of_ble_eq_true rfl) rfl rfl
          conv at e19 => rhs; whnf
          have f19 := e19; simp only [Array.getD_eq_getD_getElem?] at f19
          refine wpOp_plain rfl rfl (fun K hK => ?_)
          go_simp
          exact hK _ _ ⟨_, rfl, Below.refl _ _, rfl⟩
        apply free_is
        · intro a' w' hLe hfr hdep
          have e20 : a'.tmps.getD 20 undef = _ := hdep 3 20 (Nat.le_of_ble_eq_true rfl) rfl rfl
          conv at e20 => rhs; whnf
          have f20 := e20; simp only [Array.getD_eq_getD_getElem?] at f20
          refine wpOp_plain rfl rfl (fun K hK => ?_)
          go_simp
          exact hK _ _ ⟨_, rfl, Below.refl _ _, rfl⟩
        apply free_is
        · intro a' w' hLe hfr hdep
          have e21 : a'.tmps.getD 21 undef = _ := hdep 4 21 (Nat.le_of_ble_eq_true rfl) rfl rfl
          conv at e21 => rhs; whnf
          have f21 := e21; simp only [Array.getD_eq_getD_getElem?] at f21
          have e4 := hfr 4 rfl
          conv at e4 => rhs; whnf
          have f4 := e4; simp only [Array.getD_eq_getD_getElem?] at f4
          refine wpOp_yes rfl rfl rfl e21 (fun K hK => ?_)
          go_simp
          exact hK _ _ ⟨_, rfl, Below.refl _ _, rfl⟩
        apply free_is
        · intro a' w' hLe hfr hdep
          have e21 : a'.tmps.getD 21 undef = _ := hdep 4 21 (Nat.le_of_ble_eq_true rfl) rfl rfl
          conv at e21 => rhs; whnf
          have f21 := e21; simp only [Array.getD_eq_getD_getElem?] at f21
          have e22 : a'.tmps.getD 22 undef = _ := hdep 5 22 (Nat.le_of_ble_eq_true rfl) rfl rfl
          conv at e22 => rhs; whnf
          have f22 := e22; simp only [Array.getD_eq_getD_getElem?] at f22
          have kc := fun i => keepc hLe (wr.heap.size) (by (try simp) <;> omega) i
          have kf := fun i => keepf hLe (wr.heap.size) (by (try simp) <;> omega) i
          have kz : wr.heap.size < w'.heap.size := (by have := hLe.size; (try simp at this); omega)
          have kc := fun i => keepc hLe (w.heap.size) (by (try simp) <;> omega) i
          have kf := fun i => keepf hLe (w.heap.size) (by (try simp) <;> omega) i
          have kz : w.heap.size < w'.heap.size := (by have := hLe.size; (try simp at this); omega)
          have kc := fun i => keepc hLe (bl) (by (try simp) <;> omega) i
          have kf := fun i => keepf hLe (bl) (by (try simp) <;> omega) i
          have kz : bl < w'.heap.size := (by have := hLe.size; (try simp at this); omega)
          refine wpOp_yes rfl rfl rfl e21 (fun K hK => ?_)
          go_simp
          exact hK _ _ ⟨_, rfl, Below.refl _ _, rfl⟩
        apply free_is
        · intro a' w' hLe hfr hdep
          have e21 : a'.tmps.getD 21 undef = _ := hdep 4 21 (Nat.le_of_ble_eq_true rfl) rfl rfl
          conv at e21 => rhs; whnf
          have f21 := e21; simp only [Array.getD_eq_getD_getElem?] at f21
          have e23 : a'.tmps.getD 23 undef = _ := hdep 6 23 (Nat.le_of_ble_eq_true rfl) rfl rfl
          conv at e23 => rhs; whnf
          have f23 := e23; simp only [Array.getD_eq_getD_getElem?] at f23
          have kc := fun i => keepc hLe (wr.heap.size) (by (try simp) <;> omega) i
          have kf := fun i => keepf hLe (wr.heap.size) (by (try simp) <;> omega) i
          have kz : wr.heap.size < w'.heap.size := (by have := hLe.size; (try simp at this); omega)
          have kc := fun i => keepc hLe (w.heap.size) (by (try simp) <;> omega) i
          have kf := fun i => keepf hLe (w.heap.size) (by (try simp) <;> omega) i
          have kz : w.heap.size < w'.heap.size := (by have := hLe.size; (try simp at this); omega)
          have kc := fun i => keepc hLe (bl) (by (try simp) <;> omega) i
          have kf := fun i => keepf hLe (bl) (by (try simp) <;> omega) i
          have kz : bl < w'.heap.size := (by have := hLe.size; (try simp at this); omega)
          refine wpOp_yes rfl rfl rfl e21 (fun K hK => ?_)
          go_simp
          refine (l1In_any _ _ _ _).mono ?_
          rintro e w2 ⟨rfl, rfl⟩
          exact hK _ _ ⟨_, rfl, Below.refl _ _, rfl⟩
        apply free_is
        · intro a' w' hLe hfr hdep
          have e21 : a'.tmps.getD 21 undef = _ := hdep 4 21 (Nat.le_of_ble_eq_true rfl) rfl rfl
          conv at e21 => rhs; whnf
          have f21 := e21; simp only [Array.getD_eq_getD_getElem?] at f21
          have e24 : a'.tmps.getD 24 undef = _ := hdep 7 24 (Nat.le_of_ble_eq_true rfl) rfl rfl
          conv at e24 => rhs; whnf
          have f24 := e24; simp only [Array.getD_eq_getD_getElem?] at f24
          refine wpOp_yes rfl rfl rfl e21 (fun K hK => ?_)
          go_simp
          exact hK _ _ ⟨_, rfl, Below.refl _ _, rfl⟩
        apply free_is
        · intro a' w' hLe hfr hdep
          have e21 : a'.tmps.getD 21 undef = _ := hdep 4 21 (Nat.le_of_ble_eq_true rfl) rfl rfl
          conv at e21 => rhs; whnf
          have f21 := e21; simp only [Array.getD_eq_getD_getElem?] at f21
          have e25 : a'.tmps.getD 25 undef = _ := hdep 8 25 (Nat.le_of_ble_eq_true rfl) rfl rfl
          conv at e25 => rhs; whnf
          have f25 := e25; simp only [Array.getD_eq_getD_getElem?] at f25
          refine wpOp_plain rfl rfl (fun K hK => ?_)
          go_simp
          exact hK _ _ ⟨_, rfl, Below.refl _ _, rfl⟩
        apply free_is
        · intro a' w' hLe hfr hdep
          have e26 : a'.tmps.getD 26 undef = _ := hdep 9 26 (Nat.le_of_ble_eq_true rfl) rfl rfl
          conv at e26 => rhs; whnf
          have f26 := e26; simp only [Array.getD_eq_getD_getElem?] at f26
          refine wpOp_plain rfl rfl (fun K hK => ?_)
          go_simp
          exact hK _ _ ⟨_, rfl, Below.refl _ _, rfl⟩
        apply free_is
        · intro a' w' hLe hfr hdep
          have e27 : a'.tmps.getD 27 undef = _ := hdep 10 27 (Nat.le_of_ble_eq_true rfl) rfl rfl
          conv at e27 => rhs; whnf
          have f27 := e27; simp only [Array.getD_eq_getD_getElem?] at f27
          exact wpOp_no rfl rfl rfl e27 ⟨_, rfl, Below.refl _ _, rfl⟩
        apply free_is
        · intro a' w' hLe hfr hdep
          have e27 : a'.tmps.getD 27 undef = _ := hdep 10 27 (Nat.le_of_ble_eq_true rfl) rfl rfl
          conv at e27 => rhs; whnf
          have f27 := e27; simp only [Array.getD_eq_getD_getElem?] at f27
          exact wpOp_no rfl rfl rfl e27 ⟨_, rfl, Below.refl _ _, rfl⟩
        apply free_is
        · intro a' w' hLe hfr hdep
          have e27 : a'.tmps.getD 27 undef = _ := hdep 10 27 (Nat.le_of_ble_eq_true rfl) rfl rfl
          conv at e27 => rhs; whnf
          have f27 := e27; simp only [Array.getD_eq_getD_getElem?] at f27
          exact wpOp_no rfl rfl rfl e27 ⟨_, rfl, Below.refl _ _, rfl⟩
        apply free_is
        · intro a' w' hLe hfr hdep
          have e27 : a'.tmps.getD 27 undef = _ := hdep 10 27 (Nat.le_of_ble_eq_true rfl) rfl rfl
          conv at e27 => rhs; whnf
          have f27 := e27; simp only [Array.getD_eq_getD_getElem?] at f27
          exact wpOp_no rfl rfl rfl e27 ⟨_, rfl, Below.refl _ _, rfl⟩
        apply free_is
        · intro a' w' hLe hfr hdep
          have e27 : a'.tmps.getD 27 undef = _ := hdep 10 27 (Nat.le_of_ble_eq_true rfl) rfl rfl
          conv at e27 => rhs; whnf
          have f27 := e27; simp only [Array.getD_eq_getD_getElem?] at f27
          have e31 : a'.tmps.getD 31 undef = _ := hdep 14 31 (Nat.le_of_ble_eq_true rfl) rfl rfl
          conv at e31 => rhs; whnf
          have f31 := e31; simp only [Array.getD_eq_getD_getElem?] at f31
          refine wpOp_plain rfl rfl (fun K hK => ?_)
          go_simp
          exact hK _ _ ⟨_, rfl, Below.refl _ _, rfl⟩
        apply free_is
        · intro a' w' hLe hfr hdep
          have e32 : a'.tmps.getD 32 undef = _ := hdep 15 32 (Nat.le_of_ble_eq_true rfl) rfl rfl
          conv at e32 => rhs; whnf
          have f32 := e32; simp only [Array.getD_eq_getD_getElem?] at f32
          refine wpOp_plain rfl rfl (fun K hK => ?_)
          go_simp
          exact hK _ _ ⟨_, rfl, Below.refl _ _, rfl⟩
        apply free_is
        · intro a' w' hLe hfr hdep
          have e33 : a'.tmps.getD 33 undef = _ := hdep 16 33 (Nat.le_of_ble_eq_true rfl) rfl rfl
          conv at e33 => rhs; whnf
          have f33 := e33; simp only [Array.getD_eq_getD_getElem?] at f33
          exact wpOp_no rfl rfl rfl e33 ⟨_, rfl, Below.refl _ _, rfl⟩
        apply free_is
        · intro a' w' hLe hfr hdep
          have e33 : a'.tmps.getD 33 undef = _ := hdep 16 33 (Nat.le_of_ble_eq_true rfl) rfl rfl
          conv at e33 => rhs; whnf
          have f33 := e33; simp only [Array.getD_eq_getD_getElem?] at f33
          exact wpOp_no rfl rfl rfl e33 ⟨_, rfl, Below.refl _ _, rfl⟩
        apply free_is
        · intro a' w' hLe hfr hdep
          have e33 : a'.tmps.getD 33 undef = _ := hdep 16 33 (Nat.le_of_ble_eq_true rfl) rfl rfl
          conv at e33 => rhs; whnf
          have f33 := e33; simp only [Array.getD_eq_getD_getElem?] at f33
          exact wpOp_no rfl rfl rfl e33 ⟨_, rfl, Below.refl _ _, rfl⟩
        apply free_is
        · intro a' w' hLe hfr hdep
          have e36 : a'.tmps.getD 36 undef = _ := hdep 19 36 (Nat.le_of_ble_eq_true rfl) rfl rfl
          conv at e36 => rhs; whnf
          have f36 := e36; simp only [Array.getD_eq_getD_getElem?] at f36
          exact wpOp_un rfl rfl rfl e36 ⟨_, rfl, Below.refl _ _, rfl⟩
        apply free_is
        · intro a' w' hLe hfr hdep
          have e36 : a'.tmps.getD 36 undef = _ := hdep 19 36 (Nat.le_of_ble_eq_true rfl) rfl rfl
          conv at e36 => rhs; whnf
          have f36 := e36; simp only [Array.getD_eq_getD_getElem?] at f36
          exact wpOp_un rfl rfl rfl e36 ⟨_, rfl, Below.refl _ _, rfl⟩
        apply free_is
        · intro a' w' hLe hfr hdep
          have e36 : a'.tmps.getD 36 undef = _ := hdep 19 36 (Nat.le_of_ble_eq_true rfl) rfl rfl
          conv at e36 => rhs; whnf
          have f36 := e36; simp only [Array.getD_eq_getD_getElem?] at f36
          exact wpOp_un rfl rfl rfl e36 ⟨_, rfl, Below.refl _ _, rfl⟩
        apply free_is
        · intro a' w' hLe hfr hdep
          have e36 : a'.tmps.getD 36 undef = _ := hdep 19 36 (Nat.le_of_ble_eq_true rfl) rfl rfl
          conv at e36 => rhs; whnf
          have f36 := e36; simp only [Array.getD_eq_getD_getElem?] at f36
          exact wpOp_un rfl rfl rfl e36 ⟨_, rfl, Below.refl _ _, rfl⟩
        apply free_is
        · intro a' w' hLe hfr hdep
          have e36 : a'.tmps.getD 36 undef = _ := hdep 19 36 (Nat.le_of_ble_eq_true rfl) rfl rfl
          conv at e36 => rhs; whnf
          have f36 := e36; simp only [Array.getD_eq_getD_getElem?] at f36
          exact wpOp_un rfl rfl rfl e36 ⟨_, rfl, Below.refl _ _, rfl⟩
        apply free_is
        · intro a' w' hLe hfr hdep
          have e36 : a'.tmps.getD 36 undef = _ := hdep 19 36 (Nat.le_of_ble_eq_true rfl) rfl rfl
          conv at e36 => rhs; whnf
          have f36 := e36; simp only [Array.getD_eq_getD_getElem?] at f36
          exact wpOp_un rfl rfl rfl e36 ⟨_, rfl, Below.refl _ _, rfl⟩
        apply free_is
        · intro a' w' hLe hfr hdep
          have e36 : a'.tmps.getD 36 undef = _ := hdep 19 36 (Nat.le_of_ble_eq_true rfl) rfl rfl
          conv at e36 => rhs; whnf
          have f36 := e36; simp only [Array.getD_eq_getD_getElem?] at f36
          exact wpOp_un rfl rfl rfl e36 ⟨_, rfl, Below.refl _ _, rfl⟩
        apply free_is
        · intro a' w' hLe hfr hdep
          have e36 : a'.tmps.getD 36 undef = _ := hdep 19 36 (Nat.le_of_ble_eq_true rfl) rfl rfl
          conv at e36 => rhs; whnf
          have f36 := e36; simp only [Array.getD_eq_getD_getElem?] at f36
          exact wpOp_un rfl rfl rfl e36 ⟨_, rfl, Below.refl _ _, rfl⟩
        apply free_is
        · intro a' w' hLe hfr hdep
          have e36 : a'.tmps.getD 36 undef = _ := hdep 19 36 (Nat.le_of_ble_eq_true rfl) rfl rfl
          conv at e36 => rhs; whnf
          have f36 := e36; simp only [Array.getD_eq_getD_getElem?] at f36
          exact wpOp_un rfl rfl rfl e36 ⟨_, rfl, Below.refl _ _, rfl⟩
        apply free_is
        · intro a' w' hLe hfr hdep
          have e36 : a'.tmps.getD 36 undef = _ := hdep 19 36 (Nat.le_of_ble_eq_true rfl) rfl rfl
          conv at e36 => rhs; whnf
          have f36 := e36; simp only [Array.getD_eq_getD_getElem?] at f36
          exact wpOp_un rfl rfl rfl e36 ⟨_, rfl, Below.refl _ _, rfl⟩
        apply free_is
        · intro a' w' hLe hfr hdep
          have e33 : a'.tmps.getD 33 undef = _ := hdep 16 33 (Nat.le_of_ble_eq_true rfl) rfl rfl
          conv at e33 => rhs; whnf
          have f33 := e33; simp only [Array.getD_eq_getD_getElem?] at f33
          exact wpOp_no rfl rfl rfl e33 ⟨_, rfl, Below.refl _ _, rfl⟩
        apply free_is
        · intro a' w' hLe hfr hdep
          have e33 : a'.tmps.getD 33 undef = _ := hdep 16 33 (Nat.le_of_ble_eq_true rfl) rfl rfl
          conv at e33 => rhs; whnf
          have f33 := e33; simp only [Array.getD_eq_getD_getElem?] at f33
          have e47 : a'.tmps.getD 47 undef = _ := hdep 30 47 (Nat.le_of_ble_eq_true rfl) rfl rfl
          conv at e47 => rhs; whnf
          have f47 := e47; simp only [Array.getD_eq_getD_getElem?] at f47
          refine wpOp_plain rfl rfl (fun K hK => ?_)
          go_simp
          exact hK _ _ ⟨_, rfl, Below.refl _ _, rfl⟩
        apply free_is
        · intro a' w' hLe hfr hdep
          have e48 : a'.tmps.getD 48 undef = _ := hdep 31 48 (Nat.le_of_ble_eq_true rfl) rfl rfl
          conv at e48 => rhs; whnf
          have f48 := e48; simp only [Array.getD_eq_getD_getElem?] at f48
          refine wpOp_plain rfl rfl (fun K hK => ?_)
          go_simp
          exact hK _ _ ⟨_, rfl, Below.refl _ _, rfl⟩
        apply free_is
        · intro a' w' hLe hfr hdep
          have e49 : a'.tmps.getD 49 undef = _ := hdep 32 49 (Nat.le_of_ble_eq_true rfl) rfl rfl
          conv at e49 => rhs; whnf
          have f49 := e49; simp only [Array.getD_eq_getD_getElem?] at f49
          exact wpOp_no rfl rfl rfl e49 ⟨_, rfl, Below.refl _ _, rfl⟩
        apply free_is
        · intro a' w' hLe hfr hdep
          have e49 : a'.tmps.getD 49 undef = _ := hdep 32 49 (Nat.le_of_ble_eq_true rfl) rfl rfl
          conv at e49 => rhs; whnf
          have f49 := e49; simp only [Array.getD_eq_getD_getElem?] at f49
          exact wpOp_no rfl rfl rfl e49 ⟨_, rfl, Below.refl _ _, rfl⟩
        apply free_is
        · intro a' w' hLe hfr hdep
          have e49 : a'.tmps.getD 49 undef = _ := hdep 32 49 (Nat.le_of_ble_eq_true rfl) rfl rfl
          conv at e49 => rhs; whnf
          have f49 := e49; simp only [Array.getD_eq_getD_getElem?] at f49
          exact wpOp_no rfl rfl rfl e49 ⟨_, rfl, Below.refl _ _, rfl⟩
        apply free_is
        · intro a' w' hLe hfr hdep
          have e49 : a'.tmps.getD 49 undef = _ := hdep 32 49 (Nat.le_of_ble_eq_true rfl) rfl rfl
          conv at e49 => rhs; whnf
          have f49 := e49; simp only [Array.getD_eq_getD_getElem?] at f49
          exact wpOp_no rfl rfl rfl e49 ⟨_, rfl, Below.refl _ _, rfl⟩
        apply free_is
        · intro a' w' hLe hfr hdep
          have e49 : a'.tmps.getD 49 undef = _ := hdep 32 49 (Nat.le_of_ble_eq_true rfl) rfl rfl
          conv at e49 => rhs; whnf
          have f49 := e49; simp only [Array.getD_eq_getD_getElem?] at f49
          exact wpOp_no rfl rfl rfl e49 ⟨_, rfl, Below.refl _ _, rfl⟩
        apply free_is
        · intro a' w' hLe hfr hdep
          have e49 : a'.tmps.getD 49 undef = _ := hdep 32 49 (Nat.le_of_ble_eq_true rfl) rfl rfl
          conv at e49 => rhs; whnf
          have f49 := e49; simp only [Array.getD_eq_getD_getElem?] at f49
          exact wpOp_no rfl rfl rfl e49 ⟨_, rfl, Below.refl _ _, rfl⟩
        apply free_is
        · intro a' w' hLe hfr hdep
          have e49 : a'.tmps.getD 49 undef = _ := hdep 32 49 (Nat.le_of_ble_eq_true rfl) rfl rfl
          conv at e49 => rhs; whnf
          have f49 := e49; simp only [Array.getD_eq_getD_getElem?] at f49
          exact wpOp_no rfl rfl rfl e49 ⟨_, rfl, Below.refl _ _, rfl⟩
        apply free_is
        · intro a' w' hLe hfr hdep
          have e49 : a'.tmps.getD 49 undef = _ := hdep 32 49 (Nat.le_of_ble_eq_true rfl) rfl rfl
          conv at e49 => rhs; whnf
          have f49 := e49; simp only [Array.getD_eq_getD_getElem?] at f49
          exact wpOp_no rfl rfl rfl e49 ⟨_, rfl, Below.refl _ _, rfl⟩
        apply free_is
        · intro a' w' hLe hfr hdep
          have e49 : a'.tmps.getD 49 undef = _ := hdep 32 49 (Nat.le_of_ble_eq_true rfl) rfl rfl
          conv at e49 => rhs; whnf
          have f49 := e49; simp only [Array.getD_eq_getD_getElem?] at f49
          have e57 : a'.tmps.getD 57 undef = _ := hdep 40 57 (Nat.le_of_ble_eq_true rfl) rfl rfl
          conv at e57 => rhs; whnf
          have f57 := e57; simp only [Array.getD_eq_getD_getElem?] at f57
          refine wpOp_plain rfl rfl (fun K hK => ?_)
          go_simp
          exact hK _ _ ⟨_, rfl, Below.refl _ _, rfl⟩
        apply free_nil
        intro vs w1 hb1 hT1
        have e17 : vs 0 = _ := hT1 0 17 rfl
        conv at e17 => rhs; whnf
        have e18 : vs 1 = _ := hT1 1 18 rfl
        conv at e18 => rhs; whnf
        have e19 : vs 2 = _ := hT1 2 19 rfl
        conv at e19 => rhs; whnf
        have e20 : vs 3 = _ := hT1 3 20 rfl
        conv at e20 => rhs; whnf
        have e21 : vs 4 = _ := hT1 4 21 rfl
        conv at e21 => rhs; whnf
        have e22 : vs 5 = _ := hT1 5 22 rfl
        conv at e22 => rhs; whnf
        have e23 : vs 6 = _ := hT1 6 23 rfl
        conv at e23 => rhs; whnf
        have e24 : vs 7 = _ := hT1 7 24 rfl
        conv at e24 => rhs; whnf
        have e25 : vs 8 = _ := hT1 8 25 rfl
        conv at e25 => rhs; whnf
        have e26 : vs 9 = _ := hT1 9 26 rfl
        conv at e26 => rhs; whnf
        have e27 : vs 10 = _ := hT1 10 27 rfl
        conv at e27 => rhs; whnf
        have e28 : vs 11 = _ := hT1 11 28 rfl
        conv at e28 => rhs; whnf
        have e29 : vs 12 = _ := hT1 12 29 rfl
        conv at e29 => rhs; whnf
        have e30 : vs 13 = _ := hT1 13 30 rfl
        conv at e30 => rhs; whnf
        have e31 : vs 14 = _ := hT1 14 31 rfl
        conv at e31 => rhs; whnf
        have e32 : vs 15 = _ := hT1 15 32 rfl
        conv at e32 => rhs; whnf
        have e33 : vs 16 = _ := hT1 16 33 rfl
        conv at e33 => rhs; whnf
        have e34 : vs 17 = _ := hT1 17 34 rfl
        conv at e34 => rhs; whnf
        have e35 : vs 18 = _ := hT1 18 35 rfl
        conv at e35 => rhs; whnf
        have e36 : vs 19 = _ := hT1 19 36 rfl
        conv at e36 => rhs; whnf
        have e37 : vs 20 = _ := hT1 20 37 rfl
        conv at e37 => rhs; whnf
        have e38 : vs 21 = _ := hT1 21 38 rfl
        conv at e38 => rhs; whnf
        have e39 : vs 22 = _ := hT1 22 39 rfl
        conv at e39 => rhs; whnf
        have e40 : vs 23 = _ := hT1 23 40 rfl
        conv at e40 => rhs; whnf
        have e41 : vs 24 = _ := hT1 24 41 rfl
        conv at e41 => rhs; whnf
        have e42 : vs 25 = _ := hT1 25 42 rfl
        conv at e42 => rhs; whnf
        have e43 : vs 26 = _ := hT1 26 43 rfl
        conv at e43 => rhs; whnf
        have e44 : vs 27 = _ := hT1 27 44 rfl
        conv at e44 => rhs; whnf
        have e45 : vs 28 = _ := hT1 28 45 rfl
        conv at e45 => rhs; whnf
        have e46 : vs 29 = _ := hT1 29 46 rfl
        conv at e46 => rhs; whnf
        have e47 : vs 30 = _ := hT1 30 47 rfl
        conv at e47 => rhs; whnf
        have e48 : vs 31 = _ := hT1 31 48 rfl
        conv at e48 => rhs; whnf
        have e49 : vs 32 = _ := hT1 32 49 rfl
        conv at e49 => rhs; whnf
        have e50 : vs 33 = _ := hT1 33 50 rfl
        conv at e50 => rhs; whnf
        have e51 : vs 34 = _ := hT1 34 51 rfl
        conv at e51 => rhs; whnf
        have e52 : vs 35 = _ := hT1 35 52 rfl
        conv at e52 => rhs; whnf
        have e53 : vs 36 = _ := hT1 36 53 rfl
        conv at e53 => rhs; whnf
        have e54 : vs 37 = _ := hT1 37 54 rfl
        conv at e54 => rhs; whnf
        have e55 : vs 38 = _ := hT1 38 55 rfl
        conv at e55 => rhs; whnf
        have e56 : vs 39 = _ := hT1 39 56 rfl
        conv at e56 => rhs; whnf
        have e57 : vs 40 = _ := hT1 40 57 rfl
        conv at e57 => rhs; whnf
        have e58 : vs 41 = _ := hT1 41 58 rfl
        conv at e58 => rhs; whnf
        simp only [putAll, List.drop_succ_cons, List.drop_zero, e17, e18, e19, e20, e21, e22, e23, e24, e25, e26, e27, e28, e29, e30, e31, e32, e33, e34, e35, e36, e37, e38, e39, e40, e41, e42, e43, e44, e45, e46, e47, e48, e49, e50, e51, e52, e53, e54, e55, e56, e57, e58]
        clear hT1 e17 e18 e19 e20 e21 e22 e23 e24 e25 e26 e27 e28 e29 e30 e31 e32 e33 e34 e35 e36 e37 e38 e39 e40 e41 e42 e43 e44 e45 e46 e47 e48 e49 e50 e51 e52 e53 e54 e55 e56 e57 e58
        go_simp
        go_wp2
        go_ret
        exact ⟨by rw [hno.out] <;> rfl, Below.tr hB0 (Below.tr hbel hb1)⟩
      | true =>
      cases h3 : inB (la k) 0 100000 with
      | false =>
        have hno := Lib.hid (tabVB_no (x0 := x0) (x1 := x1) (show k < n from hlt) (show taOk f0 f1 f2 f3 f4 to la k = false from taOk_en (by simp [enOk, h3])))
        clear hc hrow hin
        go_wp2
        refine wp_region_free (ds := [(0, 17), (1, 18), (2, 19), (3, 20), (4, 21), (5, 22), (6, 23), (7, 24), (8, 25), (9, 26), (10, 27), (11, 28), (12, 29), (13, 30), (14, 31), (15, 32), (16, 33), (17, 34), (18, 35), (19, 36), (20, 37), (21, 38), (22, 39), (23, 40), (24, 41), (25, 42), (26, 43), (27, 44), (28, 45), (29, 46), (30, 47), (31, 48), (32, 49), (33, 50), (34, 51), (35, 52), (36, 53), (37, 54), (38, 55), (39, 56), (40, 57), (41, 58)]) 42 (by kernel_rfl) (by kernel_rfl) (by first | exact .inl rfl | exact .inr (by kernel_rfl)) (by rfl) rfl rfl ?_
        apply free_is
        · intro a' w' hLe hfr hdep
          have e4 := hfr 4 rfl
          conv at e4 => rhs; whnf
          have f4 := e4; simp only [Array.getD_eq_getD_getElem?] at f4
          refine wpOp_plain rfl rfl (fun K hK => ?_)
          go_simp
          exact hK _ _ ⟨_, rfl, Below.refl _ _, rfl⟩
        apply free_is
        · intro a' w' hLe hfr hdep
          have e17 : a'.tmps.getD 17 undef = _ := hdep 0 17 (Nat.le_of_ble_eq_true rfl) rfl rfl
          conv at e17 => rhs; whnf
          have f17 := e17; simp only [Array.getD_eq_getD_getElem?] at f17
          have kc := fun i => keepc hLe (wr.heap.size) (by (try simp) <;> omega) i
          have kf := fun i => keepf hLe (wr.heap.size) (by (try simp) <;> omega) i
          have kz : wr.heap.size < w'.heap.size := (by have := hLe.size; (try simp at this); omega)
          have kc := fun i => keepc hLe (w.heap.size) (by (try simp) <;> omega) i
          have kf := fun i => keepf hLe (w.heap.size) (by (try simp) <;> omega) i
          have kz : w.heap.size < w'.heap.size := (by have := hLe.size; (try simp at this); omega)
          have kc := fun i => keepc hLe (bl) (by (try simp) <;> omega) i
          have kf := fun i => keepf hLe (bl) (by (try simp) <;> omega) i
          have kz : bl < w'.heap.size := (by have := hLe.size; (try simp at this); omega)
          refine wpOp_plain rfl rfl (fun K hK => ?_)
          go_simp
          exact hK _ _ ⟨_, rfl, Below.refl _ _, rfl⟩
        apply free_is
        · intro a' w' hLe hfr hdep
          have e18 : a'.tmps.getD 18 undef = _ := hdep 1 18 (Nat.le_of_ble_eq_true rfl) rfl rfl
          conv at e18 => rhs; whnf
          have f18 := e18; simp only [Array.getD_eq_getD_getElem?] at f18
          have kc := fun i => keepc hLe (wr.heap.size) (by (try simp) <;> omega) i
          have kf := fun i => keepf hLe (wr.heap.size) (by (try simp) <;> omega) i
          have kz : wr.heap.size < w'.heap.size := (by have := hLe.size; (try simp at this); omega)
          have kc := fun i => keepc hLe (w.heap.size) (by (try simp) <;> omega) i
          have kf := fun i => keepf hLe (w.heap.size) (by (try simp) <;> omega) i
          have kz : w.heap.size < w'.heap.size := (by have := hLe.size; (try simp at this); omega)
          have kc := fun i => keepc hLe (bl) (by (try simp) <;> omega) i
          have kf := fun i => keepf hLe (bl) (by (try simp) <;> omega) i
          have kz : bl < w'.heap.size := (by have := hLe.size; (try simp at this); omega)
          refine wpOp_plain rfl rfl (fun K hK => ?_)
          go_simp
          refine (specFlowValid_b _ _ _ _ _ _).mono ?_
          rintro e w2 ⟨rfl, hb⟩
          exact hK _ _ ⟨_, rfl, hb, rfl⟩
        apply free_is
        · intro a' w' hLe hfr hdep
          have e19 : a'.tmps.getD 19 undef = _ := hdep 2 19 (Nat.le_of_ble_eq_true rfl) rfl rfl
          conv at e19 => rhs; whnf
          have f19 := e19; simp only [Array.getD_eq_getD_getElem?] at f19
          refine wpOp_plain rfl rfl (fun K hK => ?_)
          go_simp
          exact hK _ _ ⟨_, rfl, Below.refl _ _, rfl⟩
        apply free_is
        · intro a' w' hLe hfr hdep
          have e20 : a'.tmps.getD 20 undef = _ := hdep 3 20 (Nat.le_of_ble_eq_true rfl) rfl rfl
          conv at e20 => rhs; whnf
          have f20 := e20; simp only [Array.getD_eq_getD_getElem?] at f20
          refine wpOp_plain rfl rfl (fun K hK => ?_)
          go_simp
          exact hK _ _ ⟨_, rfl, Below.refl _ _, rfl⟩
        apply free_is
        · intro a' w' hLe hfr hdep
          have e21 : a'.tmps.getD 21 undef = _ := hdep 4 21 (Nat.le_of_ble_eq_true rfl) rfl rfl
          conv at e21 => rhs; whnf
          have f21 := e21; simp only [Array.getD_eq_getD_getElem?] at f21
          have e4 := hfr 4 rfl
          conv at e4 => rhs; whnf
          have f4 := e4; simp only [Array.getD_eq_getD_getElem?] at f4
          refine wpOp_yes rfl rfl rfl e21 (fun K hK => ?_)
          go_simp
          exact hK _ _ ⟨_, rfl, Below.refl _ _, rfl⟩
        apply free_is
        · intro a' w' hLe hfr hdep
          have e21 : a'.tmps.getD 21 undef = _ := hdep 4 21 (Nat.le_of_ble_eq_true rfl) rfl rfl
          conv at e21 => rhs; whnf
          have f21 := e21; simp only [Array.getD_eq_getD_getElem?] at f21
          have e22 : a'.tmps.getD 22 undef = _ := hdep 5 22 (Nat.le_of_ble_eq_true rfl) rfl rfl
          conv at e22 => rhs; whnf
          have f22 := e22; simp only [Array.getD_eq_getD_getElem?] at f22
          have kc := fun i => keepc hLe (wr.heap.size) (by (try simp) <;> omega) i
          have kf := fun i => keepf hLe (wr.heap.size) (by (try simp) <;> omega) i
          have kz : wr.heap.size < w'.heap.size := (by have := hLe.size; (try simp at this); omega)
          have kc := fun i => keepc hLe (w.heap.size) (by (try simp) <;> omega) i
          have kf := fun i => keepf hLe (w.heap.size) (by (try simp) <;> omega) i
          have kz : w.heap.size < w'.heap.size := (by have := hLe.size; (try simp at this); omega)
          have kc := fun i => keepc hLe (bl) (by (try simp) <;> omega) i
          have kf := fun i => keepf hLe (bl) (by (try simp) <;> omega) i
          have kz : bl < w'.heap.size := (by have := hLe.size; (try simp at this); omega)
          refine wpOp_yes rfl rfl rfl e21 (fun K hK => ?_)
          go_simp
          exact hK _ _ ⟨_, rfl, Below.refl _ _, rfl⟩
        apply free_is
        · intro a' w' hLe hfr hdep
          have e21 : a'.tmps.getD 21 undef = _ := hdep 4 21 (Nat.le_of_ble_eq_true rfl) rfl rfl
          conv at e21 => rhs; whnf
          have f21 := e21; simp only [Array.getD_eq_getD_getElem?] at f21
          have e23 : a'.tmps.getD 23 undef = _ := hdep 6 23 (Nat.le_of_ble_eq_true rfl) rfl rfl
          conv at e23 => rhs; whnf
          have f23 := e23; simp only [Array.getD_eq_getD_getElem?] at f23
          have kc := fun i => keepc hLe (wr.heap.size) (by (try simp) <;> omega) i
          have kf := fun i => keepf hLe (wr.heap.size) (by (try simp) <;> omega) i
          have kz : wr.heap.size < w'.heap.size := (by have := hLe.size; (try simp at this); omega)
          have kc := fun i => keepc hLe (w.heap.size) (by (try simp) <;> omega) i
          have kf := fun i => keepf hLe (w.heap.size) (by (try simp) <;> omega) i
          have kz : w.heap.size < w'.heap.size := (by have := hLe.size; (try simp at this); omega)
          have kc := fun i => keepc hLe (bl) (by (try simp) <;> omega) i
          have kf := fun i => keepf hLe (bl) (by (try simp) <;> omega) i
          have kz : bl < w'.heap.size := (by have := hLe.size; (try simp at this); omega)
          refine wpOp_yes rfl rfl rfl e21 (fun K hK => ?_)
          go_simp
          refine (l1In_any _ _ _ _).mono ?_
          rintro e w2 ⟨rfl, rfl⟩
          exact hK _ _ ⟨_, rfl, Below.refl _ _, rfl⟩
        apply free_is
        · intro a' w' hLe hfr hdep
          have e21 : a'.tmps.getD 21 undef = _ := hdep 4 21 (Nat.le_of_ble_eq_true rfl) rfl rfl
          conv at e21 => rhs; whnf
          have f21 := e21; simp only [Array.getD_eq_getD_getElem?] at f21
          have e24 : a'.tmps.getD 24 undef = _ := hdep 7 24 (Nat.le_of_ble_eq_true rfl) rfl rfl
          conv at e24 => rhs; whnf
          have f24 := e24; simp only [Array.getD_eq_getD_getElem?] at f24
          refine wpOp_yes rfl rfl rfl e21 (fun K hK => ?_)
          go_simp
          exact hK _ _ ⟨_, rfl, Below.refl _ _, rfl⟩
        apply free_is
        · intro a' w' hLe hfr hdep
          have e21 : a'.tmps.getD 21 undef = _ := hdep 4 21 (Nat.le_of_ble_eq_true rfl) rfl rfl
          conv at e21 => rhs; whnf
          have f21 := e21; simp only [Array.getD_eq_getD_getElem?] at f21
          have e25 : a'.tmps.getD 25 undef = _ := hdep 8 25 (Nat.le_of_ble_eq_true rfl) rfl rfl
          conv at e25 => rhs; whnf
          have f25 := e25; simp only [Array.getD_eq_getD_getElem?] at f25
          refine wpOp_plain rfl rfl (fun K hK => ?_)
          go_simp
          exact hK _ _ ⟨_, rfl, Below.refl _ _, rfl⟩
        apply free_is
        · intro a' w' hLe hfr hdep
          have e26 : a'.tmps.getD 26 undef = _ := hdep 9 26 (Nat.le_of_ble_eq_true rfl) rfl rfl
          conv at e26 => rhs; whnf
          have f26 := e26; simp only [Array.getD_eq_getD_getElem?] at f26
          refine wpOp_plain rfl rfl (fun K hK => ?_)
          go_simp
          exact hK _ _ ⟨_, rfl, Below.refl _ _, rfl⟩
        apply free_is
        · intro a' w' hLe hfr hdep
          have e27 : a'.tmps.getD 27 undef = _ := hdep 10 27 (Nat.le_of_ble_eq_true rfl) rfl rfl
          conv at e27 => rhs; whnf
          have f27 := e27; simp only [Array.getD_eq_getD_getElem?] at f27
          have e4 := hfr 4 rfl
          conv at e4 => rhs; whnf
          have f4 := e4; simp only [Array.getD_eq_getD_getElem?] at f4
          refine wpOp_yes rfl rfl rfl e27 (fun K hK => ?_)
          go_simp
          exact hK _ _ ⟨_, rfl, Below.refl _ _, rfl⟩
        apply free_is
        · intro a' w' hLe hfr hdep
          have e27 : a'.tmps.getD 27 undef = _ := hdep 10 27 (Nat.le_of_ble_eq_true rfl) rfl rfl
          conv at e27 => rhs; whnf
          have f27 := e27; simp only [Array.getD_eq_getD_getElem?] at f27
          have e28 : a'.tmps.getD 28 undef = _ := hdep 11 28 (Nat.le_of_ble_eq_true rfl) rfl rfl
          conv at e28 => rhs; whnf
          have f28 := e28; simp only [Array.getD_eq_getD_getElem?] at f28
          have kc := fun i => keepc hLe (wr.heap.size) (by (try simp) <;> omega) i
          have kf := fun i => keepf hLe (wr.heap.size) (by (try simp) <;> omega) i
          have kz : wr.heap.size < w'.heap.size := (by have := hLe.size; (try simp at this); omega)
          have kc := fun i => keepc hLe (w.heap.size) (by (try simp) <;> omega) i
          have kf := fun i => keepf hLe (w.heap.size) (by (try simp) <;> omega) i
          have kz : w.heap.size < w'.heap.size := (by have := hLe.size; (try simp at this); omega)
          have kc := fun i => keepc hLe (bl) (by (try simp) <;> omega) i
          have kf := fun i => keepf hLe (bl) (by (try simp) <;> omega) i
          have kz : bl < w'.heap.size := (by have := hLe.size; (try simp at this); omega)
          refine wpOp_yes rfl rfl rfl e27 (fun K hK => ?_)
          go_simp
          exact hK _ _ ⟨_, rfl, Below.refl _ _, rfl⟩
        apply free_is
        · intro a' w' hLe hfr hdep
          have e27 : a'.tmps.getD 27 undef = _ := hdep 10 27 (Nat.le_of_ble_eq_true rfl) rfl rfl
          conv at e27 => rhs; whnf
          have f27 := e27; simp only [Array.getD_eq_getD_getElem?] at f27
          have e29 : a'.tmps.getD 29 undef = _ := hdep 12 29 (Nat.le_of_ble_eq_true rfl) rfl rfl
          conv at e29 => rhs; whnf
          have f29 := e29; simp only [Array.getD_eq_getD_getElem?] at f29
          have kc := fun i => keepc hLe (wr.heap.size) (by (try simp) <;> omega) i
          have kf := fun i => keepf hLe (wr.heap.size) (by (try simp) <;> omega) i
          have kz : wr.heap.size < w'.heap.size := (by have := hLe.size; (try simp at this); omega)
          have kc := fun i => keepc hLe (w.heap.size) (by (try simp) <;> omega) i
          have kf := fun i => keepf hLe (w.heap.size) (by (try simp) <;> omega) i
          have kz : w.heap.size < w'.heap.size := (by have := hLe.size; (try simp at this); omega)
          have kc := fun i => keepc hLe (bl) (by (try simp) <;> omega) i
          have kf := fun i => keepf hLe (bl) (by (try simp) <;> omega) i
          have kz : bl < w'.heap.size := (by have := hLe.size; (try simp at this); omega)
          refine wpOp_yes rfl rfl rfl e27 (fun K hK => ?_)
          go_simp
          refine (l1In_any _ _ _ _).mono ?_
          rintro e w2 ⟨rfl, rfl⟩
          exact hK _ _ ⟨_, rfl, Below.refl _ _, rfl⟩
        apply free_is
        · intro a' w' hLe hfr hdep
          have e27 : a'.tmps.getD 27 undef = _ := hdep 10 27 (Nat.le_of_ble_eq_true rfl) rfl rfl
          conv at e27 => rhs; whnf
          have f27 := e27; simp only [Array.getD_eq_getD_getElem?] at f27
          have e30 : a'.tmps.getD 30 undef = _ := hdep 13 30 (Nat.le_of_ble_eq_true rfl) rfl rfl
          conv at e30 => rhs; whnf
          have f30 := e30; simp only [Array.getD_eq_getD_getElem?] at f30
          refine wpOp_yes rfl rfl rfl e27 (fun K hK => ?_)
          go_simp
          exact hK _ _ ⟨_, rfl, Below.refl _ _, rfl⟩
        apply free_is
        · intro a' w' hLe hfr hdep
          have e27 : a'.tmps.getD 27 undef = _ := hdep 10 27 (Nat.le_of_ble_eq_true rfl) rfl rfl
          conv at e27 => rhs; whnf
          have f27 := e27; simp only [Array.getD_eq_getD_getElem?] at f27
          have e31 : a'.tmps.getD 31 undef = _ := hdep 14 31 (Nat.le_of_ble_eq_true rfl) rfl rfl
          conv at e31 => rhs; whnf
          have f31 := e31; simp only [Array.getD_eq_getD_getElem?] at f31
          refine wpOp_plain rfl rfl (fun K hK => ?_)
          go_simp
          exact hK _ _ ⟨_, rfl, Below.refl _ _, rfl⟩
        apply free_is
        · intro a' w' hLe hfr hdep
          have e32 : a'.tmps.getD 32 undef = _ := hdep 15 32 (Nat.le_of_ble_eq_true rfl) rfl rfl
          conv at e32 => rhs; whnf
          have f32 := e32; simp only [Array.getD_eq_getD_getElem?] at f32
          refine wpOp_plain rfl rfl (fun K hK => ?_)
          go_simp
          exact hK _ _ ⟨_, rfl, Below.refl _ _, rfl⟩
        apply free_is
        · intro a' w' hLe hfr hdep
          have e33 : a'.tmps.getD 33 undef = _ := hdep 16 33 (Nat.le_of_ble_eq_true rfl) rfl rfl
          conv at e33 => rhs; whnf
          have f33 := e33; simp only [Array.getD_eq_getD_getElem?] at f33
          exact wpOp_no rfl rfl rfl e33 ⟨_, rfl, Below.refl _ _, rfl⟩
        apply free_is
        · intro a' w' hLe hfr hdep
          have e33 : a'.tmps.getD 33 undef = _ := hdep 16 33 (Nat.le_of_ble_eq_true rfl) rfl rfl
          conv at e33 => rhs; whnf
          have f33 := e33; simp only [Array.getD_eq_getD_getElem?] at f33
          exact wpOp_no rfl rfl rfl e33 ⟨_, rfl, Below.refl _ _, rfl⟩
        apply free_is
        · intro a' w' hLe hfr hdep
          have e33 : a'.tmps.getD 33 undef = _ := hdep 16 33 (Nat.le_of_ble_eq_true rfl) rfl rfl
          conv at e33 => rhs; whnf
          have f33 := e33; simp only [Array.getD_eq_getD_getElem?] at f33
          exact wpOp_no rfl rfl rfl e33 ⟨_, rfl, Below.refl _ _, rfl⟩
        apply free_is
        · intro a' w' hLe hfr hdep
          have e36 : a'.tmps.getD 36 undef = _ := hdep 19 36 (Nat.le_of_ble_eq_true rfl) rfl rfl
          conv at e36 => rhs; whnf
          have f36 := e36; simp only [Array.getD_eq_getD_getElem?] at f36
          exact wpOp_un rfl rfl rfl e36 ⟨_, rfl, Below.refl _ _, rfl⟩
        apply free_is
        · intro a' w' hLe hfr hdep
          have e36 : a'.tmps.getD 36 undef = _ := hdep 19 36 (Nat.le_of_ble_eq_true rfl) rfl rfl
          conv at e36 => rhs; whnf
          have f36 := e36; simp only [Array.getD_eq_getD_getElem?] at f36
          exact wpOp_un rfl rfl rfl e36 ⟨_, rfl, Below.refl _ _, rfl⟩
        apply free_is
        · intro a' w' hLe hfr hdep
          have e36 : a'.tmps.getD 36 undef = _ := hdep 19 36 (Nat.le_of_ble_eq_true rfl) rfl rfl
          conv at e36 => rhs; whnf
          have f36 := e36; simp only [Array.getD_eq_getD_getElem?] at f36
          exact wpOp_un rfl rfl rfl e36 ⟨_, rfl, Below.refl _ _, rfl⟩
        apply free_is
        · intro a' w' hLe hfr hdep
          have e36 : a'.tmps.getD 36 undef = _ := hdep 19 36 (Nat.le_of_ble_eq_true rfl) rfl rfl
          conv at e36 => rhs; whnf
          have f36 := e36; simp only [Array.getD_eq_getD_getElem?] at f36
          exact wpOp_un rfl rfl rfl e36 ⟨_, rfl, Below.refl _ _, rfl⟩
        apply free_is
        · intro a' w' hLe hfr hdep
          have e36 : a'.tmps.getD 36 undef = _ := hdep 19 36 (Nat.le_of_ble_eq_true rfl) rfl rfl
          conv at e36 => rhs; whnf
          have f36 := e36; simp only [Array.getD_eq_getD_getElem?] at f36
          exact wpOp_un rfl rfl rfl e36 ⟨_, rfl, Below.refl _ _, rfl⟩
        apply free_is
        · intro a' w' hLe hfr hdep
          have e36 : a'.tmps.getD 36 undef = _ := hdep 19 36 (Nat.le_of_ble_eq_true rfl) rfl rfl
          conv at e36 => rhs; whnf
          have f36 := e36; simp only [Array.getD_eq_getD_getElem?] at f36
          exact wpOp_un rfl rfl rfl e36 ⟨_, rfl, Below.refl _ _, rfl⟩
        apply free_is
        · intro a' w' hLe hfr hdep
          have e36 : a'.tmps.getD 36 undef = _ := hdep 19 36 (Nat.le_of_ble_eq_true rfl) rfl rfl
          conv at e36 => rhs; whnf
          have f36 := e36; simp only [Array.getD_eq_getD_getElem?] at f36
          exact wpOp_un rfl rfl rfl e36 ⟨_, rfl, Below.refl _ _, rfl⟩
        apply free_is
        · intro a' w' hLe hfr hdep
          have e36 : a'.tmps.getD 36 undef = _ := hdep 19 36 (Nat.le_of_ble_eq_true rfl) rfl rfl
          conv at e36 => rhs; whnf
          have f36 := e36; simp only [Array.getD_eq_getD_getElem?] at f36
          exact wpOp_un rfl rfl rfl e36 ⟨_, rfl, Below.refl _ _, rfl⟩
        apply free_is
        · intro a' w' hLe hfr hdep
          have e36 : a'.tmps.getD 36 undef = _ := hdep 19 36 (Nat.le_of_ble_eq_true rfl) rfl rfl
          conv at e36 => rhs; whnf
          have f36 := e36; simp only [Array.getD_eq_getD_getElem?] at f36
          exact wpOp_un rfl rfl rfl e36 ⟨_, rfl, Below.refl _ _, rfl⟩
        apply free_is
        · intro a' w' hLe hfr hdep
          have e36 : a'.tmps.getD 36 undef = _ := hdep 19 36 (Nat.le_of_ble_eq_true rfl) rfl rfl
          conv at e36 => rhs; whnf
          have f36 := e36; simp only [Array.getD_eq_getD_getElem?] at f36
          exact wpOp_un rfl rfl rfl e36 ⟨_, rfl, Below.refl _ _, rfl⟩
        apply free_is
        · intro a' w' hLe hfr hdep
          have e33 : a'.tmps.getD 33 undef = _ := hdep 16 33 (Nat.le_of_ble_eq_true rfl) rfl rfl
          conv at e33 => rhs; whnf
          have f33 := e33; simp only [Array.getD_eq_getD_getElem?] at f33
          exact wpOp_no rfl rfl rfl e33 ⟨_, rfl, Below.refl _ _, rfl⟩
        apply free_is
        · intro a' w' hLe hfr hdep
          have e33 : a'.tmps.getD 33 undef = _ := hdep 16 33 (Nat.le_of_ble_eq_true rfl) rfl rfl
          conv at e33 => rhs; whnf
          have f33 := e33; simp only [Array.getD_eq_getD_getElem?] at f33
          have e47 : a'.tmps.getD 47 undef = _ := hdep 30 47 (Nat.le_of_ble_eq_true rfl) rfl rfl
          conv at e47 => rhs; whnf
          have f47 := e47; simp only [Array.getD_eq_getD_getElem?] at f47
          refine wpOp_plain rfl rfl (fun K hK => ?_)
          go_simp
          exact hK _ _ ⟨_, rfl, Below.refl _ _, rfl⟩
        apply free_is
        · intro a' w' hLe hfr hdep
          have e48 : a'.tmps.getD 48 undef = _ := hdep 31 48 (Nat.le_of_ble_eq_true rfl) rfl rfl
          conv at e48 => rhs; whnf
          have f48 := e48; simp only [Array.getD_eq_getD_getElem?] at f48
          refine wpOp_plain rfl rfl (fun K hK => ?_)
          go_simp
          exact hK _ _ ⟨_, rfl, Below.refl _ _, rfl⟩
        apply free_is
        · intro a' w' hLe hfr hdep
          have e49 : a'.tmps.getD 49 undef = _ := hdep 32 49 (Nat.le_of_ble_eq_true rfl) rfl rfl
          conv at e49 => rhs; whnf
          have f49 := e49; simp only [Array.getD_eq_getD_getElem?] at f49
          exact wpOp_no rfl rfl rfl e49 ⟨_, rfl, Below.refl _ _, rfl⟩
        apply free_is
        · intro a' w' hLe hfr hdep
          have e49 : a'.tmps.getD 49 undef = _ := hdep 32 49 (Nat.le_of_ble_eq_true rfl) rfl rfl
          conv at e49 => rhs; whnf
          have f49 := e49; simp only [Array.getD_eq_getD_getElem?] at f49
          exact wpOp_no rfl rfl rfl e49 ⟨_, rfl, Below.refl _ _, rfl⟩
        apply free_is
        · intro a' w' hLe hfr hdep
          have e49 : a'.tmps.getD 49 undef = _ := hdep 32 49 (Nat.le_of_ble_eq_true rfl) rfl rfl
          conv at e49 => rhs; whnf
          have f49 := e49; simp only [Array.getD_eq_getD_getElem?] at f49
          exact wpOp_no rfl rfl rfl e49 ⟨_, rfl, Below.refl _ _, rfl⟩
        apply free_is
        · intro a' w' hLe hfr hdep
          have e49 : a'.tmps.getD 49 undef = _ := hdep 32 49 (Nat.le_of_ble_eq_true rfl) rfl rfl
          conv at e49 => rhs; whnf
          have f49 := e49; simp only [Array.getD_eq_getD_getElem?] at f49
          exact wpOp_no rfl rfl rfl e49 ⟨_, rfl, Below.refl _ _, rfl⟩
        apply free_is
        · intro a' w' hLe hfr hdep
          have e49 : a'.tmps.getD 49 undef = _ := hdep 32 49 (Nat.le_of_ble_eq_true rfl) rfl rfl
          conv at e49 => rhs; whnf
          have f49 := e49; simp only [Array.getD_eq_getD_getElem?] at f49
          exact wpOp_no rfl rfl rfl e49 ⟨_, rfl, Below.refl _ _, rfl⟩
        apply free_is
        · intro a' w' hLe hfr hdep
          have e49 : a'.tmps.getD 49 undef = _ := hdep 32 49 (Nat.le_of_ble_eq_true rfl) rfl rfl
          conv at e49 => rhs; whnf
          have f49 := e49; simp only [Array.getD_eq_getD_getElem?] at f49
          exact wpOp_no rfl rfl rfl e49 ⟨_, rfl, Below.refl _ _, rfl⟩
        apply free_is
        · intro a' w' hLe hfr hdep
          have e49 : a'.tmps.getD 49 undef = _ := hdep 32 49 (Nat.le_of_ble_eq_true rfl) rfl rfl
          conv at e49 => rhs; whnf
          have f49 := e49; simp only [Array.getD_eq_getD_getElem?] at f49
          exact wpOp_no rfl rfl rfl e49 ⟨_, rfl, Below.refl _ _, rfl⟩
        apply free_is
        · intro a' w' hLe hfr hdep
          have e49 : a'.tmps.getD 49 undef = _ := hdep 32 49 (Nat.le_of_ble_eq_true rfl) rfl rfl
          conv at e49 => rhs; whnf
          have f49 := e49; simp only [Array.getD_eq_getD_getElem?] at f49
          exact wpOp_no rfl rfl rfl e49 ⟨_, rfl, Below.refl _ _, rfl⟩
        apply free_is
        · intro a' w' hLe hfr hdep
          have e49 : a'.tmps.getD 49 undef = _ := hdep 32 49 (Nat.le_of_ble_eq_true rfl) rfl rfl
          conv at e49 => rhs; whnf
          have f49 := e49; simp only [Array.getD_eq_getD_getElem?] at f49
          have e57 : a'.tmps.getD 57 undef = _ := hdep 40 57 (Nat.le_of_ble_eq_true rfl) rfl rfl
          conv at e57 => rhs; whnf
          have f57 := e57; simp only [Array.getD_eq_getD_getElem?] at f57
          refine wpOp_plain rfl rfl (fun K hK => ?_)
          go_simp
          exact hK _ _ ⟨_, rfl, Below.refl _ _, rfl⟩
        apply free_nil
        intro vs w1 hb1 hT1
        have e17 : vs 0 = _ := hT1 0 17 rfl
        conv at e17 => rhs; whnf
        have e18 : vs 1 = _ := hT1 1 18 rfl
        conv at e18 => rhs; whnf
        have e19 : vs 2 = _ := hT1 2 19 rfl
        conv at e19 => rhs; whnf
        have e20 : vs 3 = _ := hT1 3 20 rfl
        conv at e20 => rhs; whnf
        have e21 : vs 4 = _ := hT1 4 21 rfl
        conv at e21 => rhs; whnf
        have e22 : vs 5 = _ := hT1 5 22 rfl
        conv at e22 => rhs; whnf
        have e23 : vs 6 = _ := hT1 6 23 rfl
        conv at e23 => rhs; whnf
        have e24 : vs 7 = _ := hT1 7 24 rfl
        conv at e24 => rhs; whnf
        have e25 : vs 8 = _ := hT1 8 25 rfl
        conv at e25 => rhs; whnf
        have e26 : vs 9 = _ := hT1 9 26 rfl
        conv at e26 => rhs; whnf
        have e27 : vs 10 = _ := hT1 10 27 rfl
        conv at e27 => rhs; whnf
        have e28 : vs 11 = _ := hT1 11 28 rfl
        conv at e28 => rhs; whnf
        have e29 : vs 12 = _ := hT1 12 29 rfl
        conv at e29 => rhs; whnf
        have e30 : vs 13 = _ := hT1 13 30 rfl
        conv at e30 => rhs; whnf
        have e31 : vs 14 = _ := hT1 14 31 rfl
        conv at e31 => rhs; whnf
        have e32 : vs 15 = _ := hT1 15 32 rfl
        conv at e32 => rhs; whnf
        have e33 : vs 16 = _ := hT1 16 33 rfl
        conv at e33 => rhs; whnf
        have e34 : vs 17 = _ := hT1 17 34 rfl
        conv at e34 => rhs; whnf
        have e35 : vs 18 = _ := hT1 18 35 rfl
        conv at e35 => rhs; whnf
        have e36 : vs 19 = _ := hT1 19 36 rfl
        conv at e36 => rhs; whnf
        have e37 : vs 20 = _ := hT1 20 37 rfl
        conv at e37 => rhs; whnf
        have e38 : vs 21 = _ := hT1 21 38 rfl
        conv at e38 => rhs; whnf
        have e39 : vs 22 = _ := hT1 22 39 rfl
        conv at e39 => rhs; whnf
        have e40 : vs 23 = _ := hT1 23 40 rfl
        conv at e40 => rhs; whnf
        have e41 : vs 24 = _ := hT1 24 41 rfl
        conv at e41 => rhs; whnf
        have e42 : vs 25 = _ := hT1 25 42 rfl
        conv at e42 => rhs; whnf
        have e43 : vs 26 = _ := hT1 26 43 rfl
        conv at e43 => rhs; whnf
        have e44 : vs 27 = _ := hT1 27 44 rfl
        conv at e44 => rhs; whnf
        have e45 : vs 28 = _ := hT1 28 45 rfl
        conv at e45 => rhs; whnf
        have e46 : vs 29 = _ := hT1 29 46 rfl
        conv at e46 => rhs; whnf
        have e47 : vs 30 = _ := hT1 30 47 rfl
        conv at e47 => rhs; whnf
        have e48 : vs 31 = _ := hT1 31 48 rfl
        conv at e48 => rhs; whnf
        have e49 : vs 32 = _ := hT1 32 49 rfl
        conv at e49 => rhs; whnf
        have e50 : vs 33 = _ := hT1 33 50 rfl
        conv at e50 => rhs; whnf
        have e51 : vs 34 = _ := hT1 34 51 rfl
        conv at e51 => rhs; whnf
        have e52 : vs 35 = _ := hT1 35 52 rfl
        conv at e52 => rhs; whnf
        have e53 : vs 36 = _ := hT1 36 53 rfl
        conv at e53 => rhs; whnf
        have e54 : vs 37 = _ := hT1 37 54 rfl
        conv at e54 => rhs; whnf
        have e55 : vs 38 = _ := hT1 38 55 rfl
        conv at e55 => rhs; whnf
        have e56 : vs 39 = _ := hT1 39 56 rfl
        conv at e56 => rhs; whnf
        have e57 : vs 40 = _ := hT1 40 57 rfl
        conv at e57 => rhs; whnf
        have e58 : vs 41 = _ := hT1 41 58 rfl
        conv at e58 => rhs; whnf
        simp only [putAll, List.drop_succ_cons, List.drop_zero, e17, e18, e19, e20, e21, e22, e23, e24, e25, e26, e27, e28, e29, e30, e31, e32, e33, e34, e35, e36, e37, e38, e39, e40, e41, e42, e43, e44, e45, e46, e47, e48, e49, e50, e51, e52, e53, e54, e55, e56, e57, e58]
        clear hT1 e17 e18 e19 e20 e21 e22 e23 e24 e25 e26 e27 e28 e29 e30 e31 e32 e33 e34 e35 e36 e37 e38 e39 e40 e41 e42 e43 e44 e45 e46 e47 e48 e49 e50 e51 e52 e53 e54 e55 e56 e57 e58
        go_simp
        go_wp2
        go_ret
        exact ⟨by rw [hno.out] <;> rfl, Below.tr hB0 (Below.tr hbel hb1)⟩
      | true =>
      rcases Nat.eq_zero_or_pos k with rfl | hpos
      · have hP0 : ¬ 0 ≤ P := by
          intro h
          have := hin.symm.trans (decide_eq_true h)
          simp [inT] at this
        have hd0 : decide (0 ≤ P) = false := by simpa using hP0
        have hno := Lib.hid (taOk_yes (t := to) (l := la) (a := f0) (b := f1) (c := f2) (d := f3) (e := f4) (k := 0) rfl (by simp [enOk, h1, h2, h3]))
        clear hc hrow hin
        simp only [Nat.zero_mul, Nat.add_zero] at q0 q1 q2 q3 q4 q5 q6
        go_wp2
        refine wp_region_free (ds := [(0, 17), (1, 18), (2, 19), (3, 20), (4, 21), (5, 22), (6, 23), (7, 24), (8, 25), (9, 26), (10, 27), (11, 28), (12, 29), (13, 30), (14, 31), (15, 32), (16, 33), (17, 34), (18, 35), (19, 36), (20, 37), (21, 38), (22, 39), (23, 40), (24, 41), (25, 42), (26, 43), (27, 44), (28, 45), (29, 46), (30, 47), (31, 48), (32, 49), (33, 50), (34, 51), (35, 52), (36, 53), (37, 54), (38, 55), (39, 56), (40, 57), (41, 58)]) 42 (by kernel_rfl) (by kernel_rfl) (by first | exact .inl rfl | exact .inr (by kernel_rfl)) (by rfl) rfl rfl ?_
        apply free_is
        · intro a' w' hLe hfr hdep
          have e4 := hfr 4 rfl
          conv at e4 => rhs; whnf
          have f4 := e4; simp only [Array.getD_eq_getD_getElem?] at f4
          refine wpOp_plain rfl rfl (fun K hK => ?_)
          go_simp
          exact hK _ _ ⟨_, rfl, Below.refl _ _, rfl⟩
        apply free_is
        · intro a' w' hLe hfr hdep
          have e17 : a'.tmps.getD 17 undef = _ := hdep 0 17 (Nat.le_of_ble_eq_true rfl) rfl rfl
          conv at e17 => rhs; whnf
          have f17 := e17; simp only [Array.getD_eq_getD_getElem?] at f17
          have kc := fun i => keepc hLe (wr.heap.size) (by (try simp) <;> omega) i
          have kf := fun i => keepf hLe (wr.heap.size) (by (try simp) <;> omega) i
          have kz : wr.heap.size < w'.heap.size := (by have := hLe.size; (try simp at this); omega)
          have kc := fun i => keepc hLe (w.heap.size) (by (try simp) <;> omega) i
          have kf := fun i => keepf hLe (w.heap.size) (by (try simp) <;> omega) i
          have kz : w.heap.size < w'.heap.size := (by have := hLe.size; (try simp at this); omega)
          have kc := fun i => keepc hLe (bl) (by (try simp) <;> omega) i
          have kf := fun i => keepf hLe (bl) (by (try simp) <;> omega) i
          have kz : bl < w'.heap.size := (by have := hLe.size; (try simp at this); omega)
          refine wpOp_plain rfl rfl (fun K hK => ?_)
          go_simp
          exact hK _ _ ⟨_, rfl, Below.refl _ _, rfl⟩
        apply free_is
        · intro a' w' hLe hfr hdep
          have e18 : a'.tmps.getD 18 undef = _ := hdep 1 18 (Nat.le_of_ble_eq_true rfl) rfl rfl
          conv at e18 => rhs; whnf
          have f18 := e18; simp only [Array.getD_eq_getD_getElem?] at f18
          have kc := fun i => keepc hLe (wr.heap.size) (by (try simp) <;> omega) i
          have kf := fun i => keepf hLe (wr.heap.size) (by (try simp) <;> omega) i
          have kz : wr.heap.size < w'.heap.size := (by have := hLe.size; (try simp at this); omega)
          have kc := fun i => keepc hLe (w.heap.size) (by (try simp) <;> omega) i
          have kf := fun i => keepf hLe (w.heap.size) (by (try simp) <;> omega) i
          have kz : w.heap.size < w'.heap.size := (by have := hLe.size; (try simp at this); omega)
          have kc := fun i => keepc hLe (bl) (by (try simp) <;> omega) i
          have kf := fun i => keepf hLe (bl) (by (try simp) <;> omega) i
          have kz : bl < w'.heap.size := (by have := hLe.size; (try simp at this); omega)
          refine wpOp_plain rfl rfl (fun K hK => ?_)
          go_simp
          refine (specFlowValid_b _ _ _ _ _ _).mono ?_
          rintro e w2 ⟨rfl, hb⟩
          exact hK _ _ ⟨_, rfl, hb, rfl⟩
        apply free_is
        · intro a' w' hLe hfr hdep
          have e19 : a'.tmps.getD 19 undef = _ := hdep 2 19 (Nat.le_of_ble_eq_true rfl) rfl rfl
          conv at e19 => rhs; whnf
          have f19 := e19; simp only [Array.getD_eq_getD_getElem?] at f19
          refine wpOp_plain rfl rfl (fun K hK => ?_)
          go_simp
          exact hK _ _ ⟨_, rfl, Below.refl _ _, rfl⟩
        apply free_is
        · intro a' w' hLe hfr hdep
          have e20 : a'.tmps.getD 20 undef = _ := hdep 3 20 (Nat.le_of_ble_eq_true rfl) rfl rfl
          conv at e20 => rhs; whnf
          have f20 := e20; simp only [Array.getD_eq_getD_getElem?] at f20
          refine wpOp_plain rfl rfl (fun K hK => ?_)
          go_simp
          exact hK _ _ ⟨_, rfl, Below.refl _ _, rfl⟩
        apply free_is
        · intro a' w' hLe hfr hdep
          have e21 : a'.tmps.getD 21 undef = _ := hdep 4 21 (Nat.le_of_ble_eq_true rfl) rfl rfl
          conv at e21 => rhs; whnf
          have f21 := e21; simp only [Array.getD_eq_getD_getElem?] at f21
          have e4 := hfr 4 rfl
          conv at e4 => rhs; whnf
          have f4 := e4; simp only [Array.getD_eq_getD_getElem?] at f4
          refine wpOp_yes rfl rfl rfl e21 (fun K hK => ?_)
          go_simp
          exact hK _ _ ⟨_, rfl, Below.refl _ _, rfl⟩
        apply free_is
        · intro a' w' hLe hfr hdep
          have e21 : a'.tmps.getD 21 undef = _ := hdep 4 21 (Nat.le_of_ble_eq_true rfl) rfl rfl
          conv at e21 => rhs; whnf
          have f21 := e21; simp only [Array.getD_eq_getD_getElem?] at f21
          have e22 : a'.tmps.getD 22 undef = _ := hdep 5 22 (Nat.le_of_ble_eq_true rfl) rfl rfl
          conv at e22 => rhs; whnf
          have f22 := e22; simp only [Array.getD_eq_getD_getElem?] at f22
          have kc := fun i => keepc hLe (wr.heap.size) (by (try simp) <;> omega) i
          have kf := fun i => keepf hLe (wr.heap.size) (by (try simp) <;> omega) i
          have kz : wr.heap.size < w'.heap.size := (by have := hLe.size; (try simp at this); omega)
          have kc := fun i => keepc hLe (w.heap.size) (by (try simp) <;> omega) i
          have kf := fun i => keepf hLe (w.heap.size) (by (try simp) <;> omega) i
          have kz : w.heap.size < w'.heap.size := (by have := hLe.size; (try simp at this); omega)
          have kc := fun i => keepc hLe (bl) (by (try simp) <;> omega) i
          have kf := fun i => keepf hLe (bl) (by (try simp) <;> omega) i
          have kz : bl < w'.heap.size := (by have := hLe.size; (try simp at this); omega)
          refine wpOp_yes rfl rfl rfl e21 (fun K hK => ?_)
          go_simp
          exact hK _ _ ⟨_, rfl, Below.refl _ _, rfl⟩
        apply free_is
        · intro a' w' hLe hfr hdep
          have e21 : a'.tmps.getD 21 undef = _ := hdep 4 21 (Nat.le_of_ble_eq_true rfl) rfl rfl
          conv at e21 => rhs; whnf
          have f21 := e21; simp only [Array.getD_eq_getD_getElem?] at f21
          have e23 : a'.tmps.getD 23 undef = _ := hdep 6 23 (Nat.le_of_ble_eq_true rfl) rfl rfl
          conv at e23 => rhs; whnf
          have f23 := e23; simp only [Array.getD_eq_getD_getElem?] at f23
          have kc := fun i => keepc hLe (wr.heap.size) (by (try simp) <;> omega) i
          have kf := fun i => keepf hLe (wr.heap.size) (by (try simp) <;> omega) i
          have kz : wr.heap.size < w'.heap.size := (by have := hLe.size; (try simp at this); omega)
          have kc := fun i => keepc hLe (w.heap.size) (by (try simp) <;> omega) i
          have kf := fun i => keepf hLe (w.heap.size) (by (try simp) <;> omega) i
          have kz : w.heap.size < w'.heap.size := (by have := hLe.size; (try simp at this); omega)
          have kc := fun i => keepc hLe (bl) (by (try simp) <;> omega) i
          have kf := fun i => keepf hLe (bl) (by (try simp) <;> omega) i
          have kz : bl < w'.heap.size := (by have := hLe.size; (try simp at this); omega)
          refine wpOp_yes rfl rfl rfl e21 (fun K hK => ?_)
          go_simp
          refine (l1In_any _ _ _ _).mono ?_
          rintro e w2 ⟨rfl, rfl⟩
          exact hK _ _ ⟨_, rfl, Below.refl _ _, rfl⟩
        apply free_is
        · intro a' w' hLe hfr hdep
          have e21 : a'.tmps.getD 21 undef = _ := hdep 4 21 (Nat.le_of_ble_eq_true rfl) rfl rfl
          conv at e21 => rhs; whnf
          have f21 := e21; simp only [Array.getD_eq_getD_getElem?] at f21
          have e24 : a'.tmps.getD 24 undef = _ := hdep 7 24 (Nat.le_of_ble_eq_true rfl) rfl rfl
          conv at e24 => rhs; whnf
          have f24 := e24; simp only [Array.getD_eq_getD_getElem?] at f24
          refine wpOp_yes rfl rfl rfl e21 (fun K hK => ?_)
          go_simp
          exact hK _ _ ⟨_, rfl, Below.refl _ _, rfl⟩
        apply free_is
        · intro a' w' hLe hfr hdep
          have e21 : a'.tmps.getD 21 undef = _ := hdep 4 21 (Nat.le_of_ble_eq_true rfl) rfl rfl
          conv at e21 => rhs; whnf
          have f21 := e21; simp only [Array.getD_eq_getD_getElem?] at f21
          have e25 : a'.tmps.getD 25 undef = _ := hdep 8 25 (Nat.le_of_ble_eq_true rfl) rfl rfl
          conv at e25 => rhs; whnf
          have f25 := e25; simp only [Array.getD_eq_getD_getElem?] at f25
          refine wpOp_plain rfl rfl (fun K hK => ?_)
          go_simp
          exact hK _ _ ⟨_, rfl, Below.refl _ _, rfl⟩
        apply free_is
        · intro a' w' hLe hfr hdep
          have e26 : a'.tmps.getD 26 undef = _ := hdep 9 26 (Nat.le_of_ble_eq_true rfl) rfl rfl
          conv at e26 => rhs; whnf
          have f26 := e26; simp only [Array.getD_eq_getD_getElem?] at f26
          refine wpOp_plain rfl rfl (fun K hK => ?_)
          go_simp
          exact hK _ _ ⟨_, rfl, Below.refl _ _, rfl⟩
        apply free_is
        · intro a' w' hLe hfr hdep
          have e27 : a'.tmps.getD 27 undef = _ := hdep 10 27 (Nat.le_of_ble_eq_true rfl) rfl rfl
          conv at e27 => rhs; whnf
          have f27 := e27; simp only [Array.getD_eq_getD_getElem?] at f27
          have e4 := hfr 4 rfl
          conv at e4 => rhs; whnf
          have f4 := e4; simp only [Array.getD_eq_getD_getElem?] at f4
          refine wpOp_yes rfl rfl rfl e27 (fun K hK => ?_)
          go_simp
          exact hK _ _ ⟨_, rfl, Below.refl _ _, rfl⟩
        apply free_is
        · intro a' w' hLe hfr hdep
          have e27 : a'.tmps.getD 27 undef = _ := hdep 10 27 (Nat.le_of_ble_eq_true rfl) rfl rfl
          conv at e27 => rhs; whnf
          have f27 := e27; simp only [Array.getD_eq_getD_getElem?] at f27
          have e28 : a'.tmps.getD 28 undef = _ := hdep 11 28 (Nat.le_of_ble_eq_true rfl) rfl rfl
          conv at e28 => rhs; whnf
          have f28 := e28; simp only [Array.getD_eq_getD_getElem?] at f28
          have kc := fun i => keepc hLe (wr.heap.size) (by (try simp) <;> omega) i
          have kf := fun i => keepf hLe (wr.heap.size) (by (try simp) <;> omega) i
          have kz : wr.heap.size < w'.heap.size := (by have := hLe.size; (try simp at this); omega)
          have kc := fun i => keepc hLe (w.heap.size) (by (try simp) <;> omega) i
          have kf := fun i => keepf hLe (w.heap.size) (by (try simp) <;> omega) i
          have kz : w.heap.size < w'.heap.size := (by have := hLe.size; (try simp at this); omega)
          have kc := fun i => keepc hLe (bl) (by (try simp) <;> omega) i
          have kf := fun i => keepf hLe (bl) (by (try simp) <;> omega) i
          have kz : bl < w'.heap.size := (by have := hLe.size; (try simp at this); omega)
          refine wpOp_yes rfl rfl rfl e27 (fun K hK => ?_)
          go_simp
          exact hK _ _ ⟨_, rfl, Below.refl _ _, rfl⟩
        apply free_is
        · intro a' w' hLe hfr hdep
          have e27 : a'.tmps.getD 27 undef = _ := hdep 10 27 (Nat.le_of_ble_eq_true rfl) rfl rfl
          conv at e27 => rhs; whnf
          have f27 := e27; simp only [Array.getD_eq_getD_getElem?] at f27
          have e29 : a'.tmps.getD 29 undef = _ := hdep 12 29 (Nat.le_of_ble_eq_true rfl) rfl rfl
          conv at e29 => rhs; whnf
          have f29 := e29; simp only [Array.getD_eq_getD_getElem?] at f29
          have kc := fun i => keepc hLe (wr.heap.size) (by (try simp) <;> omega) i
          have kf := fun i => keepf hLe (wr.heap.size) (by (try simp) <;> omega) i
          have kz : wr.heap.size < w'.heap.size := (by have := hLe.size; (try simp at this); omega)
          have kc := fun i => keepc hLe (w.heap.size) (by (try simp) <;> omega) i
          have kf := fun i => keepf hLe (w.heap.size) (by (try simp) <;> omega) i
          have kz : w.heap.size < w'.heap.size := (by have := hLe.size; (try simp at this); omega)
          have kc := fun i => keepc hLe (bl) (by (try simp) <;> omega) i
          have kf := fun i => keepf hLe (bl) (by (try simp) <;> omega) i
          have kz : bl < w'.heap.size := (by have := hLe.size; (try simp at this); omega)
          refine wpOp_yes rfl rfl rfl e27 (fun K hK => ?_)
          go_simp
          refine (l1In_any _ _ _ _).mono ?_
          rintro e w2 ⟨rfl, rfl⟩
          exact hK _ _ ⟨_, rfl, Below.refl _ _, rfl⟩
        apply free_is
        · intro a' w' hLe hfr hdep
          have e27 : a'.tmps.getD 27 undef = _ := hdep 10 27 (Nat.le_of_ble_eq_true rfl) rfl rfl
          conv at e27 => rhs; whnf
          have f27 := e27; simp only [Array.getD_eq_getD_getElem?] at f27
          have e30 : a'.tmps.getD 30 undef = _ := hdep 13 30 (Nat.le_of_ble_eq_true rfl) rfl rfl
          conv at e30 => rhs; whnf
          have f30 := e30; simp only [Array.getD_eq_getD_getElem?] at f30
          refine wpOp_yes rfl rfl rfl e27 (fun K hK => ?_)
          go_simp
          exact hK _ _ ⟨_, rfl, Below.refl _ _, rfl⟩
        apply free_is
        · intro a' w' hLe hfr hdep
          have e27 : a'.tmps.getD 27 undef = _ := hdep 10 27 (Nat.le_of_ble_eq_true rfl) rfl rfl
          conv at e27 => rhs; whnf
          have f27 := e27; simp only [Array.getD_eq_getD_getElem?] at f27
          have e31 : a'.tmps.getD 31 undef = _ := hdep 14 31 (Nat.le_of_ble_eq_true rfl) rfl rfl
          conv at e31 => rhs; whnf
          have f31 := e31; simp only [Array.getD_eq_getD_getElem?] at f31
          refine wpOp_plain rfl rfl (fun K hK => ?_)
          go_simp
          exact hK _ _ ⟨_, rfl, Below.refl _ _, rfl⟩
        apply free_is
        · intro a' w' hLe hfr hdep
          have e32 : a'.tmps.getD 32 undef = _ := hdep 15 32 (Nat.le_of_ble_eq_true rfl) rfl rfl
          conv at e32 => rhs; whnf
          have f32 := e32; simp only [Array.getD_eq_getD_getElem?] at f32
          refine wpOp_plain rfl rfl (fun K hK => ?_)
          go_simp
          exact hK _ _ ⟨_, rfl, Below.refl _ _, rfl⟩
        apply free_is
        · intro a' w' hLe hfr hdep
          have e33 : a'.tmps.getD 33 undef = _ := hdep 16 33 (Nat.le_of_ble_eq_true rfl) rfl rfl
          conv at e33 => rhs; whnf
          have f33 := e33; simp only [Array.getD_eq_getD_getElem?] at f33
          have e3 := hfr 3 rfl
          conv at e3 => rhs; whnf
          have f3 := e3; simp only [Array.getD_eq_getD_getElem?] at f3
          refine wpOp_yes rfl rfl rfl e33 (fun K hK => ?_)
          go_simp
          exact hK _ _ ⟨_, rfl, Below.refl _ _, rfl⟩
        apply free_is
        · intro a' w' hLe hfr hdep
          have e33 : a'.tmps.getD 33 undef = _ := hdep 16 33 (Nat.le_of_ble_eq_true rfl) rfl rfl
          conv at e33 => rhs; whnf
          have f33 := e33; simp only [Array.getD_eq_getD_getElem?] at f33
          have e34 : a'.tmps.getD 34 undef = _ := hdep 17 34 (Nat.le_of_ble_eq_true rfl) rfl rfl
          conv at e34 => rhs; whnf
          have f34 := e34; simp only [Array.getD_eq_getD_getElem?] at f34
          refine wpOp_yes rfl rfl rfl e33 (fun K hK => ?_)
          go_simp
          exact hK _ _ ⟨_, rfl, Below.refl _ _, rfl⟩
        apply free_is
        · intro a' w' hLe hfr hdep
          have e33 : a'.tmps.getD 33 undef = _ := hdep 16 33 (Nat.le_of_ble_eq_true rfl) rfl rfl
          conv at e33 => rhs; whnf
          have f33 := e33; simp only [Array.getD_eq_getD_getElem?] at f33
          have e35 : a'.tmps.getD 35 undef = _ := hdep 18 35 (Nat.le_of_ble_eq_true rfl) rfl rfl
          conv at e35 => rhs; whnf
          have f35 := e35; simp only [Array.getD_eq_getD_getElem?] at f35
          refine wpOp_yes rfl rfl rfl e33 (fun K hK => ?_)
          go_simp
          exact hK _ _ ⟨_, rfl, Below.refl _ _, rfl⟩
        apply free_is
        · intro a' w' hLe hfr hdep
          have e36 : a'.tmps.getD 36 undef = _ := hdep 19 36 (Nat.le_of_ble_eq_true rfl) rfl rfl
          conv at e36 => rhs; whnf
          have f36 := e36; simp only [Array.getD_eq_getD_getElem?] at f36
          exact wpOp_no rfl rfl rfl e36 ⟨_, rfl, Below.refl _ _, rfl⟩
        apply free_is
        · intro a' w' hLe hfr hdep
          have e36 : a'.tmps.getD 36 undef = _ := hdep 19 36 (Nat.le_of_ble_eq_true rfl) rfl rfl
          conv at e36 => rhs; whnf
          have f36 := e36; simp only [Array.getD_eq_getD_getElem?] at f36
          exact wpOp_no rfl rfl rfl e36 ⟨_, rfl, Below.refl _ _, rfl⟩
        apply free_is
        · intro a' w' hLe hfr hdep
          have e36 : a'.tmps.getD 36 undef = _ := hdep 19 36 (Nat.le_of_ble_eq_true rfl) rfl rfl
          conv at e36 => rhs; whnf
          have f36 := e36; simp only [Array.getD_eq_getD_getElem?] at f36
          exact wpOp_no rfl rfl rfl e36 ⟨_, rfl, Below.refl _ _, rfl⟩
        apply free_is
        · intro a' w' hLe hfr hdep
          have e36 : a'.tmps.getD 36 undef = _ := hdep 19 36 (Nat.le_of_ble_eq_true rfl) rfl rfl
          conv at e36 => rhs; whnf
          have f36 := e36; simp only [Array.getD_eq_getD_getElem?] at f36
          exact wpOp_no rfl rfl rfl e36 ⟨_, rfl, Below.refl _ _, rfl⟩
        apply free_is
        · intro a' w' hLe hfr hdep
          have e36 : a'.tmps.getD 36 undef = _ := hdep 19 36 (Nat.le_of_ble_eq_true rfl) rfl rfl
          conv at e36 => rhs; whnf
          have f36 := e36; simp only [Array.getD_eq_getD_getElem?] at f36
          exact wpOp_no rfl rfl rfl e36 ⟨_, rfl, Below.refl _ _, rfl⟩
        apply free_is
        · intro a' w' hLe hfr hdep
          have e36 : a'.tmps.getD 36 undef = _ := hdep 19 36 (Nat.le_of_ble_eq_true rfl) rfl rfl
          conv at e36 => rhs; whnf
          have f36 := e36; simp only [Array.getD_eq_getD_getElem?] at f36
          exact wpOp_no rfl rfl rfl e36 ⟨_, rfl, Below.refl _ _, rfl⟩
        apply free_is
        · intro a' w' hLe hfr hdep
          have e36 : a'.tmps.getD 36 undef = _ := hdep 19 36 (Nat.le_of_ble_eq_true rfl) rfl rfl
          conv at e36 => rhs; whnf
          have f36 := e36; simp only [Array.getD_eq_getD_getElem?] at f36
          exact wpOp_no rfl rfl rfl e36 ⟨_, rfl, Below.refl _ _, rfl⟩
        apply free_is
        · intro a' w' hLe hfr hdep
          have e36 : a'.tmps.getD 36 undef = _ := hdep 19 36 (Nat.le_of_ble_eq_true rfl) rfl rfl
          conv at e36 => rhs; whnf
          have f36 := e36; simp only [Array.getD_eq_getD_getElem?] at f36
          exact wpOp_no rfl rfl rfl e36 ⟨_, rfl, Below.refl _ _, rfl⟩
        apply free_is
        · intro a' w' hLe hfr hdep
          have e36 : a'.tmps.getD 36 undef = _ := hdep 19 36 (Nat.le_of_ble_eq_true rfl) rfl rfl
          conv at e36 => rhs; whnf
          have f36 := e36; simp only [Array.getD_eq_getD_getElem?] at f36
          exact wpOp_no rfl rfl rfl e36 ⟨_, rfl, Below.refl _ _, rfl⟩
        apply free_is
        · intro a' w' hLe hfr hdep
          have e36 : a'.tmps.getD 36 undef = _ := hdep 19 36 (Nat.le_of_ble_eq_true rfl) rfl rfl
          conv at e36 => rhs; whnf
          have f36 := e36; simp only [Array.getD_eq_getD_getElem?] at f36
          exact wpOp_no rfl rfl rfl e36 ⟨_, rfl, Below.refl _ _, rfl⟩
        apply free_is
        · intro a' w' hLe hfr hdep
          have e33 : a'.tmps.getD 33 undef = _ := hdep 16 33 (Nat.le_of_ble_eq_true rfl) rfl rfl
          conv at e33 => rhs; whnf
          have f33 := e33; simp only [Array.getD_eq_getD_getElem?] at f33
          have e36 : a'.tmps.getD 36 undef = _ := hdep 19 36 (Nat.le_of_ble_eq_true rfl) rfl rfl
          conv at e36 => rhs; whnf
          have f36 := e36; simp only [Array.getD_eq_getD_getElem?] at f36
          have e46 : a'.tmps.getD 46 undef = _ := hdep 29 46 (Nat.le_of_ble_eq_true rfl) rfl rfl
          conv at e46 => rhs; whnf
          have f46 := e46; simp only [Array.getD_eq_getD_getElem?] at f46
          refine wpOp_yes rfl rfl rfl e33 (fun K hK => ?_)
          go_simp
          exact hK _ _ ⟨_, rfl, Below.refl _ _, rfl⟩
        apply free_is
        · intro a' w' hLe hfr hdep
          have e33 : a'.tmps.getD 33 undef = _ := hdep 16 33 (Nat.le_of_ble_eq_true rfl) rfl rfl
          conv at e33 => rhs; whnf
          have f33 := e33; simp only [Array.getD_eq_getD_getElem?] at f33
          have e47 : a'.tmps.getD 47 undef = _ := hdep 30 47 (Nat.le_of_ble_eq_true rfl) rfl rfl
          conv at e47 => rhs; whnf
          have f47 := e47; simp only [Array.getD_eq_getD_getElem?] at f47
          refine wpOp_plain rfl rfl (fun K hK => ?_)
          go_simp
          exact hK _ _ ⟨_, rfl, Below.refl _ _, rfl⟩
        apply free_is
        · intro a' w' hLe hfr hdep
          have e48 : a'.tmps.getD 48 undef = _ := hdep 31 48 (Nat.le_of_ble_eq_true rfl) rfl rfl
          conv at e48 => rhs; whnf
          have f48 := e48; simp only [Array.getD_eq_getD_getElem?] at f48
          refine wpOp_plain rfl rfl (fun K hK => ?_)
          go_simp
          exact hK _ _ ⟨_, rfl, Below.refl _ _, rfl⟩
        apply free_is
        · intro a' w' hLe hfr hdep
          have e49 : a'.tmps.getD 49 undef = _ := hdep 32 49 (Nat.le_of_ble_eq_true rfl) rfl rfl
          conv at e49 => rhs; whnf
          have f49 := e49; simp only [Array.getD_eq_getD_getElem?] at f49
          have e1 := hfr 1 rfl
          conv at e1 => rhs; whnf
          have f1 := e1; simp only [Array.getD_eq_getD_getElem?] at f1
          refine wpOp_yes rfl rfl rfl e49 (fun K hK => ?_)
          go_simp
          exact hK _ _ ⟨_, rfl, Below.refl _ _, rfl⟩
        apply free_is
        · intro a' w' hLe hfr hdep
          have e49 : a'.tmps.getD 49 undef = _ := hdep 32 49 (Nat.le_of_ble_eq_true rfl) rfl rfl
          conv at e49 => rhs; whnf
          have f49 := e49; simp only [Array.getD_eq_getD_getElem?] at f49
          have e50 : a'.tmps.getD 50 undef = _ := hdep 33 50 (Nat.le_of_ble_eq_true rfl) rfl rfl
          conv at e50 => rhs; whnf
          have f50 := e50; simp only [Array.getD_eq_getD_getElem?] at f50
          have kc := fun i => keepc hLe (wr.heap.size) (by (try simp) <;> omega) i
          have kf := fun i => keepf hLe (wr.heap.size) (by (try simp) <;> omega) i
          have kz : wr.heap.size < w'.heap.size := (by have := hLe.size; (try simp at this); omega)
          have kc := fun i => keepc hLe (w.heap.size) (by (try simp) <;> omega) i
          have kf := fun i => keepf hLe (w.heap.size) (by (try simp) <;> omega) i
          have kz : w.heap.size < w'.heap.size := (by have := hLe.size; (try simp at this); omega)
          have kc := fun i => keepc hLe (bl) (by (try simp) <;> omega) i
          have kf := fun i => keepf hLe (bl) (by (try simp) <;> omega) i
          have kz : bl < w'.heap.size := (by have := hLe.size; (try simp at this); omega)
          refine wpOp_yes rfl rfl rfl e49 (fun K hK => ?_)
          go_simp
          exact hK _ _ ⟨_, rfl, Below.refl _ _, rfl⟩
        apply free_is
        · intro a' w' hLe hfr hdep
          have e49 : a'.tmps.getD 49 undef = _ := hdep 32 49 (Nat.le_of_ble_eq_true rfl) rfl rfl
          conv at e49 => rhs; whnf
          have f49 := e49; simp only [Array.getD_eq_getD_getElem?] at f49
          have e3 := hfr 3 rfl
          conv at e3 => rhs; whnf
          have f3 := e3; simp only [Array.getD_eq_getD_getElem?] at f3
          refine wpOp_yes rfl rfl rfl e49 (fun K hK => ?_)
          go_simp
          exact hK _ _ ⟨_, rfl, Below.refl _ _, rfl⟩
        apply free_is
        · intro a' w' hLe hfr hdep
          have e49 : a'.tmps.getD 49 undef = _ := hdep 32 49 (Nat.le_of_ble_eq_true rfl) rfl rfl
          conv at e49 => rhs; whnf
          have f49 := e49; simp only [Array.getD_eq_getD_getElem?] at f49
          have e51 : a'.tmps.getD 51 undef = _ := hdep 34 51 (Nat.le_of_ble_eq_true rfl) rfl rfl
          conv at e51 => rhs; whnf
          have f51 := e51; simp only [Array.getD_eq_getD_getElem?] at f51
          have e52 : a'.tmps.getD 52 undef = _ := hdep 35 52 (Nat.le_of_ble_eq_true rfl) rfl rfl
          conv at e52 => rhs; whnf
          have f52 := e52; simp only [Array.getD_eq_getD_getElem?] at f52
          refine wpOp_yes rfl rfl rfl e49 (fun K hK => ?_)
          go_simp
          exact hK _ _ ⟨_, rfl, Below.refl _ _, rfl⟩
        apply free_is
        · intro a' w' hLe hfr hdep
          have e49 : a'.tmps.getD 49 undef = _ := hdep 32 49 (Nat.le_of_ble_eq_true rfl) rfl rfl
          conv at e49 => rhs; whnf
          have f49 := e49; simp only [Array.getD_eq_getD_getElem?] at f49
          have e4 := hfr 4 rfl
          conv at e4 => rhs; whnf
          have f4 := e4; simp only [Array.getD_eq_getD_getElem?] at f4
          refine wpOp_yes rfl rfl rfl e49 (fun K hK => ?_)
          go_simp
          exact hK _ _ ⟨_, rfl, Below.refl _ _, rfl⟩
        apply free_is
        · intro a' w' hLe hfr hdep
          have e49 : a'.tmps.getD 49 undef = _ := hdep 32 49 (Nat.le_of_ble_eq_true rfl) rfl rfl
          conv at e49 => rhs; whnf
          have f49 := e49; simp only [Array.getD_eq_getD_getElem?] at f49
          have e54 : a'.tmps.getD 54 undef = _ := hdep 37 54 (Nat.le_of_ble_eq_true rfl) rfl rfl
          conv at e54 => rhs; whnf
          have f54 := e54; simp only [Array.getD_eq_getD_getElem?] at f54
          have kc := fun i => keepc hLe (wr.heap.size) (by (try simp) <;> omega) i
          have kf := fun i => keepf hLe (wr.heap.size) (by (try simp) <;> omega) i
          have kz : wr.heap.size < w'.heap.size := (by have := hLe.size; (try simp at this); omega)
          have kc := fun i => keepc hLe (w.heap.size) (by (try simp) <;> omega) i
          have kf := fun i => keepf hLe (w.heap.size) (by (try simp) <;> omega) i
          have kz : w.heap.size < w'.heap.size := (by have := hLe.size; (try simp at this); omega)
          have kc := fun i => keepc hLe (bl) (by (try simp) <;> omega) i
          have kf := fun i => keepf hLe (bl) (by (try simp) <;> omega) i
          have kz : bl < w'.heap.size := (by have := hLe.size; (try simp at this); omega)
          refine wpOp_yes rfl rfl rfl e49 (fun K hK => ?_)
          go_simp
          exact hK _ _ ⟨_, rfl, Below.refl _ _, rfl⟩
        apply free_is
        · intro a' w' hLe hfr hdep
          have e49 : a'.tmps.getD 49 undef = _ := hdep 32 49 (Nat.le_of_ble_eq_true rfl) rfl rfl
          conv at e49 => rhs; whnf
          have f49 := e49; simp only [Array.getD_eq_getD_getElem?] at f49
          have e53 : a'.tmps.getD 53 undef = _ := hdep 36 53 (Nat.le_of_ble_eq_true rfl) rfl rfl
          conv at e53 => rhs; whnf
          have f53 := e53; simp only [Array.getD_eq_getD_getElem?] at f53
          have e55 : a'.tmps.getD 55 undef = _ := hdep 38 55 (Nat.le_of_ble_eq_true rfl) rfl rfl
          conv at e55 => rhs; whnf
          have f55 := e55; simp only [Array.getD_eq_getD_getElem?] at f55
          have kc := fun i => keepc hLe (wr.heap.size) (by (try simp) <;> omega) i
          have kf := fun i => keepf hLe (wr.heap.size) (by (try simp) <;> omega) i
          have kz : wr.heap.size < w'.heap.size := (by have := hLe.size; (try simp at this); omega)
          have kc := fun i => keepc hLe (w.heap.size) (by (try simp) <;> omega) i
          have kf := fun i => keepf hLe (w.heap.size) (by (try simp) <;> omega) i
          have kz : w.heap.size < w'.heap.size := (by have := hLe.size; (try simp at this); omega)
          have kc := fun i => keepc hLe (bl) (by (try simp) <;> omega) i
          have kf := fun i => keepf hLe (bl) (by (try simp) <;> omega) i
          have kz : bl < w'.heap.size := (by have := hLe.size; (try simp at this); omega)
          refine wpOp_yes rfl rfl rfl e49 (fun K hK => ?_)
          go_simp
          refine (hpl _ (Below.tr hB0 (Below.tr hbel hLe))).mono ?_
          rintro e w2 ⟨rfl, hb⟩
          exact hK _ _ ⟨_, rfl, hb, rfl⟩
        apply free_is
        · intro a' w' hLe hfr hdep
          have e49 : a'.tmps.getD 49 undef = _ := hdep 32 49 (Nat.le_of_ble_eq_true rfl) rfl rfl
          conv at e49 => rhs; whnf
          have f49 := e49; simp only [Array.getD_eq_getD_getElem?] at f49
          have e56 : a'.tmps.getD 56 undef = _ := hdep 39 56 (Nat.le_of_ble_eq_true rfl) rfl rfl
          conv at e56 => rhs; whnf
          have f56 := e56; simp only [Array.getD_eq_getD_getElem?] at f56
          refine wpOp_yes rfl rfl rfl e49 (fun K hK => ?_)
          go_simp
          exact hK _ _ ⟨_, rfl, Below.refl _ _, rfl⟩
        apply free_is
        · intro a' w' hLe hfr hdep
          have e49 : a'.tmps.getD 49 undef = _ := hdep 32 49 (Nat.le_of_ble_eq_true rfl) rfl rfl
          conv at e49 => rhs; whnf
          have f49 := e49; simp only [Array.getD_eq_getD_getElem?] at f49
          have e57 : a'.tmps.getD 57 undef = _ := hdep 40 57 (Nat.le_of_ble_eq_true rfl) rfl rfl
          conv at e57 => rhs; whnf
          have f57 := e57; simp only [Array.getD_eq_getD_getElem?] at f57
          refine wpOp_plain rfl rfl (fun K hK => ?_)
          go_simp
          exact hK _ _ ⟨_, rfl, Below.refl _ _, rfl⟩
        apply free_nil
        intro vs w1 hb1 hT1
        have e17 : vs 0 = _ := hT1 0 17 rfl
        conv at e17 => rhs; whnf
        have e18 : vs 1 = _ := hT1 1 18 rfl
        conv at e18 => rhs; whnf
        have e19 : vs 2 = _ := hT1 2 19 rfl
        conv at e19 => rhs; whnf
        have e20 : vs 3 = _ := hT1 3 20 rfl
        conv at e20 => rhs; whnf
        have e21 : vs 4 = _ := hT1 4 21 rfl
        conv at e21 => rhs; whnf
        have e22 : vs 5 = _ := hT1 5 22 rfl
        conv at e22 => rhs; whnf
        have e23 : vs 6 = _ := hT1 6 23 rfl
        conv at e23 => rhs; whnf
        have e24 : vs 7 = _ := hT1 7 24 rfl
        conv at e24 => rhs; whnf
        have e25 : vs 8 = _ := hT1 8 25 rfl
        conv at e25 => rhs; whnf
        have e26 : vs 9 = _ := hT1 9 26 rfl
        conv at e26 => rhs; whnf
        have e27 : vs 10 = _ := hT1 10 27 rfl
        conv at e27 => rhs; whnf
        have e28 : vs 11 = _ := hT1 11 28 rfl
        conv at e28 => rhs; whnf
        have e29 : vs 12 = _ := hT1 12 29 rfl
        conv at e29 => rhs; whnf
        have e30 : vs 13 = _ := hT1 13 30 rfl
        conv at e30 => rhs; whnf
        have e31 : vs 14 = _ := hT1 14 31 rfl
        conv at e31 => rhs; whnf
        have e32 : vs 15 = _ := hT1 15 32 rfl
        conv at e32 => rhs; whnf
        have e33 : vs 16 = _ := hT1 16 33 rfl
        conv at e33 => rhs; whnf
        have e34 : vs 17 = _ := hT1 17 34 rfl
        conv at e34 => rhs; whnf
        have e35 : vs 18 = _ := hT1 18 35 rfl
        conv at e35 => rhs; whnf
        have e36 : vs 19 = _ := hT1 19 36 rfl
        conv at e36 => rhs; whnf
        have e37 : vs 20 = _ := hT1 20 37 rfl
        conv at e37 => rhs; whnf
        have e38 : vs 21 = _ := hT1 21 38 rfl
        conv at e38 => rhs; whnf
        have e39 : vs 22 = _ := hT1 22 39 rfl
        conv at e39 => rhs; whnf
        have e40 : vs 23 = _ := hT1 23 40 rfl
        conv at e40 => rhs; whnf
        have e41 : vs 24 = _ := hT1 24 41 rfl
        conv at e41 => rhs; whnf
        have e42 : vs 25 = _ := hT1 25 42 rfl
        conv at e42 => rhs; whnf
        have e43 : vs 26 = _ := hT1 26 43 rfl
        conv at e43 => rhs; whnf
        have e44 : vs 27 = _ := hT1 27 44 rfl
        conv at e44 => rhs; whnf
        have e45 : vs 28 = _ := hT1 28 45 rfl
        conv at e45 => rhs; whnf
        have e46 : vs 29 = _ := hT1 29 46 rfl
        conv at e46 => rhs; whnf
        have e47 : vs 30 = _ := hT1 30 47 rfl
        conv at e47 => rhs; whnf
        have e48 : vs 31 = _ := hT1 31 48 rfl
        conv at e48 => rhs; whnf
        have e49 : vs 32 = _ := hT1 32 49 rfl
        conv at e49 => rhs; whnf
        have e50 : vs 33 = _ := hT1 33 50 rfl
        conv at e50 => rhs; whnf
        have e51 : vs 34 = _ := hT1 34 51 rfl
        conv at e51 => rhs; whnf
        have e52 : vs 35 = _ := hT1 35 52 rfl
        conv at e52 => rhs; whnf
        have e53 : vs 36 = _ := hT1 36 53 rfl
        conv at e53 => rhs; whnf
        have e54 : vs 37 = _ := hT1 37 54 rfl
        conv at e54 => rhs; whnf
        have e55 : vs 38 = _ := hT1 38 55 rfl
        conv at e55 => rhs; whnf
        have e56 : vs 39 = _ := hT1 39 56 rfl
        conv at e56 => rhs; whnf
        have e57 : vs 40 = _ := hT1 40 57 rfl
        conv at e57 => rhs; whnf
        have e58 : vs 41 = _ := hT1 41 58 rfl
        conv at e58 => rhs; whnf
        simp only [putAll, List.drop_succ_cons, List.drop_zero, e17, e18, e19, e20, e21, e22, e23, e24, e25, e26, e27, e28, e29, e30, e31, e32, e33, e34, e35, e36, e37, e38, e39, e40, e41, e42, e43, e44, e45, e46, e47, e48, e49, e50, e51, e52, e53, e54, e55, e56, e57, e58]
        clear hT1 e17 e18 e19 e20 e21 e22 e23 e24 e25 e26 e27 e28 e29 e30 e31 e32 e33 e34 e35 e36 e37 e38 e39 e40 e41 e42 e43 e44 e45 e46 e47 e48 e49 e50 e51 e52 e53 e54 e55 e56 e57 e58
        go_simp
        go_wp2
        go_roundw
        case rel => exact ⟨1, by omega, by go_num, upto hHO.out hno.out, Below.tr hBw (Below.tr hbel hb1)⟩
        case measure => simp [intOf]; omega
      · obtain ⟨i, rfl⟩ : ∃ i, k = i + 1 := ⟨k - 1, by omega⟩
        have hr' := hc i (by omega)
        have s0 : wr.cell? ⟨bl, off + i * 7 + 6, none⟩ = some (.int .i64 (la i)) := (keepc hB0 bl (by omega) _).trans (hr' 6 _ rfl)
        have e1 : IntKind.i64.wrap ((i : Int) + 1 - 1) = (i : Int) := by rw [IntWalk.i64_in _ (by omega)]; omega
        have e2 : IntKind.i64.wrap (i : Int) = (i : Int) := IntWalk.i64_in _ (by omega)
        have e3 : (i : Int) < (n : Int) := by omega
        have e4 : (0 : Int) ≤ (i : Int) + 1 := by omega
        have e5 : (i : Int) + 1 ≤ (c : Int) := by omega
        clear hr'
        by_cases h4 : la (i + 1) < la i
        · have hd : decide (la (i + 1) < la i) = true := by simpa using h4
          have h5 : ¬ la i ≤ la (i + 1) := by omega
          have hno := Lib.hid (tabVB_no (x0 := x0) (x1 := x1) (show i + 1 < n from hlt) (show taOk f0 f1 f2 f3 f4 to la (i + 1) = false from taOk_en (by simp [enOk, h5])))
          clear h5 hc hrow hin
          go_wp2
          refine wp_region_free (ds := [(0, 17), (1, 18), (2, 19), (3, 20), (4, 21), (5, 22), (6, 23), (7, 24), (8, 25), (9, 26), (10, 27), (11, 28), (12, 29), (13, 30), (14, 31), (15, 32), (16, 33), (17, 34), (18, 35), (19, 36), (20, 37), (21, 38), (22, 39), (23, 40), (24, 41), (25, 42), (26, 43), (27, 44), (28, 45), (29, 46), (30, 47), (31, 48), (32, 49), (33, 50), (34, 51), (35, 52), (36, 53), (37, 54), (38, 55), (39, 56), (40, 57), (41, 58)]) 42 (by kernel_rfl) (by kernel_rfl) (by first | exact .inl rfl | exact .inr (by kernel_rfl)) (by rfl) rfl rfl ?_
          apply free_is
          · intro a' w' hLe hfr hdep
            have e4 := hfr 4 rfl
            conv at e4 => rhs; whnf
            have f4 := e4; simp only [Array.getD_eq_getD_getElem?] at f4
            refine wpOp_plain rfl rfl (fun K hK => ?_)
            go_simp
            exact hK _ _ ⟨_, rfl, Below.refl _ _, rfl⟩
          apply free_is
          · intro a' w' hLe hfr hdep
            have e17 : a'.tmps.getD 17 undef = _ := hdep 0 17 (Nat.le_of_ble_eq_true rfl) rfl rfl
            conv at e17 => rhs; whnf
            have f17 := e17; simp only [Array.getD_eq_getD_getElem?] at f17
            have kc := fun i => keepc hLe (wr.heap.size) (by (try simp) <;> omega) i
            have kf := fun i => keepf hLe (wr.heap.size) (by (try simp) <;> omega) i
            have kz : wr.heap.size < w'.heap.size := (by have := hLe.size; (try simp at this); omega)
            have kc := fun i => keepc hLe (w.heap.size) (by (try simp) <;> omega) i
            have kf := fun i => keepf hLe (w.heap.size) (by (try simp) <;> omega) i
            have kz : w.heap.size < w'.heap.size := (by have := hLe.size; (try simp at this); omega)
            have kc := fun i => keepc hLe (bl) (by (try simp) <;> omega) i
            have kf := fun i => keepf hLe (bl) (by (try simp) <;> omega) i
            have kz : bl < w'.heap.size := (by have := hLe.size; (try simp at this); omega)
            refine wpOp_plain rfl rfl (fun K hK => ?_)
            go_simp
            exact hK _ _ ⟨_, rfl, Below.refl _ _, rfl⟩
          apply free_is
          · intro a' w' hLe hfr hdep
            have e18 : a'.tmps.getD 18 undef = _ := hdep 1 18 (Nat.le_of_ble_eq_true rfl) rfl rfl
            conv at e18 => rhs; whnf
            have f18 := e18; simp only [Array.getD_eq_getD_getElem?] at f18
            have kc := fun i => keepc hLe (wr.heap.size) (by (try simp) <;> omega) i
            have kf := fun i => keepf hLe (wr.heap.size) (by (try simp) <;> omega) i
            have kz : wr.heap.size < w'.heap.size := (by have := hLe.size; (try simp at this); omega)
            have kc := fun i => keepc hLe (w.heap.size) (by (try simp) <;> omega) i
            have kf := fun i => keepf hLe (w.heap.size) (by (try simp) <;> omega) i
            have kz : w.heap.size < w'.heap.size := (by have := hLe.size; (try simp at this); omega)
            have kc := fun i => keepc hLe (bl) (by (try simp) <;> omega) i
            have kf := fun i => keepf hLe (bl) (by (try simp) <;> omega) i
            have kz : bl < w'.heap.size := (by have := hLe.size; (try simp at this); omega)
            refine wpOp_plain rfl rfl (fun K hK => ?_)
            go_simp
            refine (specFlowValid_b _ _ _ _ _ _).mono ?_
            rintro e w2 ⟨rfl, hb⟩
            exact hK _ _ ⟨_, rfl, hb, rfl⟩
          apply free_is
          · intro a' w' hLe hfr hdep
            have e19 : a'.tmps.getD 19 undef = _ := hdep 2 19 (Nat.le_of_ble_eq_true rfl) rfl rfl
            conv at e19 => rhs; whnf
            have f19 := e19; simp only [Array.getD_eq_getD_getElem?] at f19
            refine wpOp_plain rfl rfl (fun K hK => ?_)
            go_simp
            exact hK _ _ ⟨_, rfl, Below.refl _ _, rfl⟩
          apply free_is
          · intro a' w' hLe hfr hdep
            have e20 : a'.tmps.getD 20 undef = _ := hdep 3 20 (Nat.le_of_ble_eq_true rfl) rfl rfl
            conv at e20 => rhs; whnf
            have f20 := e20; simp only [Array.getD_eq_getD_getElem?] at f20
            refine wpOp_plain rfl rfl (fun K hK => ?_)
            go_simp
            exact hK _ _ ⟨_, rfl, Below.refl _ _, rfl⟩
          apply free_is
          · intro a' w' hLe hfr hdep
            have e21 : a'.tmps.getD 21 undef = _ := hdep 4 21 (Nat.le_of_ble_eq_true rfl) rfl rfl
            conv at e21 => rhs; whnf
            have f21 := e21; simp only [Array.getD_eq_getD_getElem?] at f21
            have e4 := hfr 4 rfl
            conv at e4 => rhs; whnf
            have f4 := e4; simp only [Array.getD_eq_getD_getElem?] at f4
            refine wpOp_yes rfl rfl rfl e21 (fun K hK => ?_)
            go_simp
            exact hK _ _ ⟨_, rfl, Below.refl _ _, rfl⟩
          apply free_is
          · intro a' w' hLe hfr hdep
            have e21 : a'.tmps.getD 21 undef = _ := hdep 4 21 (Nat.le_of_ble_eq_true rfl) rfl rfl
            conv at e21 => rhs; whnf
            have f21 := e21; simp only [Array.getD_eq_getD_getElem?] at f21
            have e22 : a'.tmps.getD 22 undef = _ := hdep 5 22 (Nat.le_of_ble_eq_true rfl) rfl rfl
            conv at e22 => rhs; whnf
            have f22 := e22; simp only [Array.getD_eq_getD_getElem?] at f22
            have kc := fun i => keepc hLe (wr.heap.size) (by (try simp) <;> omega) i
            have kf := fun i => keepf hLe (wr.heap.size) (by (try simp) <;> omega) i
            have kz : wr.heap.size < w'.heap.size := (by have := hLe.size; (try simp at this); omega)
            have kc := fun i => keepc hLe (w.heap.size) (by (try simp) <;> omega) i
            have kf := fun i => keepf hLe (w.heap.size) (by (try simp) <;> omega) i
            have kz : w.heap.size < w'.heap.size := (by have := hLe.size; (try simp at this); omega)
            have kc := fun i => keepc hLe (bl) (by (try simp) <;> omega) i
            have kf := fun i => keepf hLe (bl) (by (try simp) <;> omega) i
            have kz : bl < w'.heap.size := (by have := hLe.size; (try simp at this); omega)
            refine wpOp_yes rfl rfl rfl e21 (fun K hK => ?_)
            go_simp
            exact hK _ _ ⟨_, rfl, Below.refl _ _, rfl⟩
          apply free_is
          · intro a' w' hLe hfr hdep
            have e21 : a'.tmps.getD 21 undef = _ := hdep 4 21 (Nat.le_of_ble_eq_true rfl) rfl rfl
            conv at e21 => rhs; whnf
            have f21 := e21; simp only [Array.getD_eq_getD_getElem?] at f21
            have e23 : a'.tmps.getD 23 undef = _ := hdep 6 23 (Nat.le_of_ble_eq_true rfl) rfl rfl
            conv at e23 => rhs; whnf
            have f23 := e23; simp only [Array.getD_eq_getD_getElem?] at f23
            have kc := fun i => keepc hLe (wr.heap.size) (by (try simp) <;> omega) i
            have kf := fun i => keepf hLe (wr.heap.size) (by (try simp) <;> omega) i
            have kz : wr.heap.size < w'.heap.size := (by have := hLe.size; (try simp at this); omega)
            have kc := fun i => keepc hLe (w.heap.size) (by (try simp) <;> omega) i
            have kf := fun i => keepf hLe (w.heap.size) (by (try simp) <;> omega) i
            have kz : w.heap.size < w'.heap.size := (by have := hLe.size; (try simp at this); omega)
            have kc := fun i => keepc hLe (bl) (by (try simp) <;> omega) i
            have kf := fun i => keepf hLe (bl) (by (try simp) <;> omega) i
            have kz : bl < w'.heap.size := (by have := hLe.size; (try simp at this); omega)
            refine wpOp_yes rfl rfl rfl e21 (fun K hK => ?_)
            go_simp
            refine (l1In_any _ _ _ _).mono ?_
            rintro e w2 ⟨rfl, rfl⟩
            exact hK _ _ ⟨_, rfl, Below.refl _ _, rfl⟩
          apply free_is
          · intro a' w' hLe hfr hdep
            have e21 : a'.tmps.getD 21 undef = _ := hdep 4 21 (Nat.le_of_ble_eq_true rfl) rfl rfl
            conv at e21 => rhs; whnf
            have f21 := e21; simp only [Array.getD_eq_getD_getElem?] at f21
            have e24 : a'.tmps.getD 24 undef = _ := hdep 7 24 (Nat.le_of_ble_eq_true rfl) rfl rfl
            conv at e24 => rhs; whnf
            have f24 := e24; simp only [Array.getD_eq_getD_getElem?] at f24
            refine wpOp_yes rfl rfl rfl e21 (fun K hK => ?_)
            go_simp
            exact hK _ _ ⟨_, rfl, Below.refl _ _, rfl⟩
          apply free_is
          · intro a' w' hLe hfr hdep
            have e21 : a'.tmps.getD 21 undef = _ := hdep 4 21 (Nat.le_of_ble_eq_true rfl) rfl rfl
            conv at e21 => rhs; whnf
            have f21 := e21; simp only [Array.getD_eq_getD_getElem?] at f21
            have e25 : a'.tmps.getD 25 undef = _ := hdep 8 25 (Nat.le_of_ble_eq_true rfl) rfl rfl
            conv at e25 => rhs; whnf
            have f25 := e25; simp only [Array.getD_eq_getD_getElem?] at f25
            refine wpOp_plain rfl rfl (fun K hK => ?_)
            go_simp
            exact hK _ _ ⟨_, rfl, Below.refl _ _, rfl⟩
          apply free_is
          · intro a' w' hLe hfr hdep
            have e26 : a'.tmps.getD 26 undef = _ := hdep 9 26 (Nat.le_of_ble_eq_true rfl) rfl rfl
            conv at e26 => rhs; whnf
            have f26 := e26; simp only [Array.getD_eq_getD_getElem?] at f26
            refine wpOp_plain rfl rfl (fun K hK => ?_)
            go_simp
            exact hK _ _ ⟨_, rfl, Below.refl _ _, rfl⟩
          apply free_is
          · intro a' w' hLe hfr hdep
            have e27 : a'.tmps.getD 27 undef = _ := hdep 10 27 (Nat.le_of_ble_eq_true rfl) rfl rfl
            conv at e27 => rhs; whnf
            have f27 := e27; simp only [Array.getD_eq_getD_getElem?] at f27
            have e4 := hfr 4 rfl
            conv at e4 => rhs; whnf
            have f4 := e4; simp only [Array.getD_eq_getD_getElem?] at f4
            refine wpOp_yes rfl rfl rfl e27 (fun K hK => ?_)
            go_simp
            exact hK _ _ ⟨_, rfl, Below.refl _ _, rfl⟩
          apply free_is
          · intro a' w' hLe hfr hdep
            have e27 : a'.tmps.getD 27 undef = _ := hdep 10 27 (Nat.le_of_ble_eq_true rfl) rfl rfl
            conv at e27 => rhs; whnf
            have f27 := e27; simp only [Array.getD_eq_getD_getElem?] at f27
            have e28 : a'.tmps.getD 28 undef = _ := hdep 11 28 (Nat.le_of_ble_eq_true rfl) rfl rfl
            conv at e28 => rhs; whnf
            have f28 := e28; simp only [Array.getD_eq_getD_getElem?] at f28
            have kc := fun i => keepc hLe (wr.heap.size) (by (try simp) <;> omega) i
            have kf := fun i => keepf hLe (wr.heap.size) (by (try simp) <;> omega) i
            have kz : wr.heap.size < w'.heap.size := (by have := hLe.size; (try simp at this); omega)
            have kc := fun i => keepc hLe (w.heap.size) (by (try simp) <;> omega) i
            have kf := fun i => keepf hLe (w.heap.size) (by (try simp) <;> omega) i
            have kz : w.heap.size < w'.heap.size := (by have := hLe.size; (try simp at this); omega)
            have kc := fun i => keepc hLe (bl) (by (try simp) <;> omega) i
            have kf := fun i => keepf hLe (bl) (by (try simp) <;> omega) i
            have kz : bl < w'.heap.size := (by have := hLe.size; (try simp at this); omega)
            refine wpOp_yes rfl rfl rfl e27 (fun K hK => ?_)
            go_simp
            exact hK _ _ ⟨_, rfl, Below.refl _ _, rfl⟩
          apply free_is
          · intro a' w' hLe hfr hdep
            have e27 : a'.tmps.getD 27 undef = _ := hdep 10 27 (Nat.le_of_ble_eq_true rfl) rfl rfl
            conv at e27 => rhs; whnf
            have f27 := e27; simp only [Array.getD_eq_getD_getElem?] at f27
            have e29 : a'.tmps.getD 29 undef = _ := hdep 12 29 (Nat.le_of_ble_eq_true rfl) rfl rfl
            conv at e29 => rhs; whnf
            have f29 := e29; simp only [Array.getD_eq_getD_getElem?] at f29
            have kc := fun i => keepc hLe (wr.heap.size) (by (try simp) <;> omega) i
            have kf := fun i => keepf hLe (wr.heap.size) (by (try simp) <;> omega) i
            have kz : wr.heap.size < w'.heap.size := (by have := hLe.size; (try simp at this); omega)
            have kc := fun i => keepc hLe (w.heap.size) (by (try simp) <;> omega) i
            have kf := fun i => keepf hLe (w.heap.size) (by (try simp) <;> omega) i
            have kz : w.heap.size < w'.heap.size := (by have := hLe.size; (try simp at this); omega)
            have kc := fun i => keepc hLe (bl) (by (try simp) <;> omega) i
            have kf := fun i => keepf hLe (bl) (by (try simp) <;> omega) i
            have kz : bl < w'.heap.size := (by have := hLe.size; (try simp at this); omega)
            refine wpOp_yes rfl rfl rfl e27 (fun K hK => ?_)
            go_simp
            refine (l1In_any _ _ _ _).mono ?_
            rintro e w2 ⟨rfl, rfl⟩
            exact hK _ _ ⟨_, rfl, Below.refl _ _, rfl⟩
          apply free_is
          · intro a' w' hLe hfr hdep
            have e27 : a'.tmps.getD 27 undef = _ := hdep 10 27 (Nat.le_of_ble_eq_true rfl) rfl rfl
            conv at e27 => rhs; whnf
            have f27 := e27; simp only [Array.getD_eq_getD_getElem?] at f27
            have e30 : a'.tmps.getD 30 undef = _ := hdep 13 30 (Nat.le_of_ble_eq_true rfl) rfl rfl
            conv at e30 => rhs; whnf
            have f30 := e30; simp only [Array.getD_eq_getD_getElem?] at f30
            refine wpOp_yes rfl rfl rfl e27 (fun K hK => ?_)
            go_simp
            exact hK _ _ ⟨_, rfl, Below.refl _ _, rfl⟩
          apply free_is
          · intro a' w' hLe hfr hdep
            have e27 : a'.tmps.getD 27 undef = _ := hdep 10 27 (Nat.le_of_ble_eq_true rfl) rfl rfl
            conv at e27 => rhs; whnf
            have f27 := e27; simp only [Array.getD_eq_getD_getElem?] at f27
            have e31 : a'.tmps.getD 31 undef = _ := hdep 14 31 (Nat.le_of_ble_eq_true rfl) rfl rfl
            conv at e31 => rhs; whnf
            have f31 := e31; simp only [Array.getD_eq_getD_getElem?] at f31
            refine wpOp_plain rfl rfl (fun K hK => ?_)
            go_simp
            exact hK _ _ ⟨_, rfl, Below.refl _ _, rfl⟩
          apply free_is
          · intro a' w' hLe hfr hdep
            have e32 : a'.tmps.getD 32 undef = _ := hdep 15 32 (Nat.le_of_ble_eq_true rfl) rfl rfl
            conv at e32 => rhs; whnf
            have f32 := e32; simp only [Array.getD_eq_getD_getElem?] at f32
            refine wpOp_plain rfl rfl (fun K hK => ?_)
            go_simp
            exact hK _ _ ⟨_, rfl, Below.refl _ _, rfl⟩
          apply free_is
          · intro a' w' hLe hfr hdep
            have e33 : a'.tmps.getD 33 undef = _ := hdep 16 33 (Nat.le_of_ble_eq_true rfl) rfl rfl
            conv at e33 => rhs; whnf
            have f33 := e33; simp only [Array.getD_eq_getD_getElem?] at f33
            have e3 := hfr 3 rfl
            conv at e3 => rhs; whnf
            have f3 := e3; simp only [Array.getD_eq_getD_getElem?] at f3
            refine wpOp_yes rfl rfl rfl e33 (fun K hK => ?_)
            go_simp
            exact hK _ _ ⟨_, rfl, Below.refl _ _, rfl⟩
          apply free_is
          · intro a' w' hLe hfr hdep
            have e33 : a'.tmps.getD 33 undef = _ := hdep 16 33 (Nat.le_of_ble_eq_true rfl) rfl rfl
            conv at e33 => rhs; whnf
            have f33 := e33; simp only [Array.getD_eq_getD_getElem?] at f33
            have e34 : a'.tmps.getD 34 undef = _ := hdep 17 34 (Nat.le_of_ble_eq_true rfl) rfl rfl
            conv at e34 => rhs; whnf
            have f34 := e34; simp only [Array.getD_eq_getD_getElem?] at f34
            refine wpOp_yes rfl rfl rfl e33 (fun K hK => ?_)
            go_simp
            exact hK _ _ ⟨_, rfl, Below.refl _ _, rfl⟩
          apply free_is
          · intro a' w' hLe hfr hdep
            have e33 : a'.tmps.getD 33 undef = _ := hdep 16 33 (Nat.le_of_ble_eq_true rfl) rfl rfl
            conv at e33 => rhs; whnf
            have f33 := e33; simp only [Array.getD_eq_getD_getElem?] at f33
            have e35 : a'.tmps.getD 35 undef = _ := hdep 18 35 (Nat.le_of_ble_eq_true rfl) rfl rfl
            conv at e35 => rhs; whnf
            have f35 := e35; simp only [Array.getD_eq_getD_getElem?] at f35
            refine wpOp_yes rfl rfl rfl e33 (fun K hK => ?_)
            go_simp
            exact hK _ _ ⟨_, rfl, Below.refl _ _, rfl⟩
          apply free_is
          · intro a' w' hLe hfr hdep
            have e36 : a'.tmps.getD 36 undef = _ := hdep 19 36 (Nat.le_of_ble_eq_true rfl) rfl rfl
            conv at e36 => rhs; whnf
            have f36 := e36; simp only [Array.getD_eq_getD_getElem?] at f36
            have e4 := hfr 4 rfl
            conv at e4 => rhs; whnf
            have f4 := e4; simp only [Array.getD_eq_getD_getElem?] at f4
            refine wpOp_yes rfl rfl rfl e36 (fun K hK => ?_)
            go_simp
            exact hK _ _ ⟨_, rfl, Below.refl _ _, rfl⟩
          apply free_is
          · intro a' w' hLe hfr hdep
            have e36 : a'.tmps.getD 36 undef = _ := hdep 19 36 (Nat.le_of_ble_eq_true rfl) rfl rfl
            conv at e36 => rhs; whnf
            have f36 := e36; simp only [Array.getD_eq_getD_getElem?] at f36
            have e37 : a'.tmps.getD 37 undef = _ := hdep 20 37 (Nat.le_of_ble_eq_true rfl) rfl rfl
            conv at e37 => rhs; whnf
            have f37 := e37; simp only [Array.getD_eq_getD_getElem?] at f37
            have kc := fun i => keepc hLe (wr.heap.size) (by (try simp) <;> omega) i
            have kf := fun i => keepf hLe (wr.heap.size) (by (try simp) <;> omega) i
            have kz : wr.heap.size < w'.heap.size := (by have := hLe.size; (try simp at this); omega)
            have kc := fun i => keepc hLe (w.heap.size) (by (try simp) <;> omega) i
            have kf := fun i => keepf hLe (w.heap.size) (by (try simp) <;> omega) i
            have kz : w.heap.size < w'.heap.size := (by have := hLe.size; (try simp at this); omega)
            have kc := fun i => keepc hLe (bl) (by (try simp) <;> omega) i
            have kf := fun i => keepf hLe (bl) (by (try simp) <;> omega) i
            have kz : bl < w'.heap.size := (by have := hLe.size; (try simp at this); omega)
            refine wpOp_yes rfl rfl rfl e36 (fun K hK => ?_)
            go_simp
            exact hK _ _ ⟨_, rfl, Below.refl _ _, rfl⟩
          apply free_is
          · intro a' w' hLe hfr hdep
            have e36 : a'.tmps.getD 36 undef = _ := hdep 19 36 (Nat.le_of_ble_eq_true rfl) rfl rfl
            conv at e36 => rhs; whnf
            have f36 := e36; simp only [Array.getD_eq_getD_getElem?] at f36
            have e1 := hfr 1 rfl
            conv at e1 => rhs; whnf
            have f1 := e1; simp only [Array.getD_eq_getD_getElem?] at f1
            refine wpOp_yes rfl rfl rfl e36 (fun K hK => ?_)
            go_simp
            exact hK _ _ ⟨_, rfl, Below.refl _ _, rfl⟩
          apply free_is
          · intro a' w' hLe hfr hdep
            have e36 : a'.tmps.getD 36 undef = _ := hdep 19 36 (Nat.le_of_ble_eq_true rfl) rfl rfl
            conv at e36 => rhs; whnf
            have f36 := e36; simp only [Array.getD_eq_getD_getElem?] at f36
            have e39 : a'.tmps.getD 39 undef = _ := hdep 22 39 (Nat.le_of_ble_eq_true rfl) rfl rfl
            conv at e39 => rhs; whnf
            have f39 := e39; simp only [Array.getD_eq_getD_getElem?] at f39
            have kc := fun i => keepc hLe (wr.heap.size) (by (try simp) <;> omega) i
            have kf := fun i => keepf hLe (wr.heap.size) (by (try simp) <;> omega) i
            have kz : wr.heap.size < w'.heap.size := (by have := hLe.size; (try simp at this); omega)
            have kc := fun i => keepc hLe (w.heap.size) (by (try simp) <;> omega) i
            have kf := fun i => keepf hLe (w.heap.size) (by (try simp) <;> omega) i
            have kz : w.heap.size < w'.heap.size := (by have := hLe.size; (try simp at this); omega)
            have kc := fun i => keepc hLe (bl) (by (try simp) <;> omega) i
            have kf := fun i => keepf hLe (bl) (by (try simp) <;> omega) i
            have kz : bl < w'.heap.size := (by have := hLe.size; (try simp at this); omega)
            refine wpOp_yes rfl rfl rfl e36 (fun K hK => ?_)
            go_simp
            exact hK _ _ ⟨_, rfl, Below.refl _ _, rfl⟩
          apply free_is
          · intro a' w' hLe hfr hdep
            have e36 : a'.tmps.getD 36 undef = _ := hdep 19 36 (Nat.le_of_ble_eq_true rfl) rfl rfl
            conv at e36 => rhs; whnf
            have f36 := e36; simp only [Array.getD_eq_getD_getElem?] at f36
            have e3 := hfr 3 rfl
            conv at e3 => rhs; whnf
            have f3 := e3; simp only [Array.getD_eq_getD_getElem?] at f3
            refine wpOp_yes rfl rfl rfl e36 (fun K hK => ?_)
            go_simp
            exact hK _ _ ⟨_, rfl, Below.refl _ _, rfl⟩
          apply free_is
          · intro a' w' hLe hfr hdep
            have e36 : a'.tmps.getD 36 undef = _ := hdep 19 36 (Nat.le_of_ble_eq_true rfl) rfl rfl
            conv at e36 => rhs; whnf
            have f36 := e36; simp only [Array.getD_eq_getD_getElem?] at f36
            have e41 : a'.tmps.getD 41 undef = _ := hdep 24 41 (Nat.le_of_ble_eq_true rfl) rfl rfl
            conv at e41 => rhs; whnf
            have f41 := e41; simp only [Array.getD_eq_getD_getElem?] at f41
            refine wpOp_yes rfl rfl rfl e36 (fun K hK => ?_)
            go_simp
            exact hK _ _ ⟨_, rfl, Below.refl _ _, rfl⟩
          apply free_is
          · intro a' w' hLe hfr hdep
            have e36 : a'.tmps.getD 36 undef = _ := hdep 19 36 (Nat.le_of_ble_eq_true rfl) rfl rfl
            conv at e36 => rhs; whnf
            have f36 := e36; simp only [Array.getD_eq_getD_getElem?] at f36
            have e40 : a'.tmps.getD 40 undef = _ := hdep 23 40 (Nat.le_of_ble_eq_true rfl) rfl rfl
            conv at e40 => rhs; whnf
            have f40 := e40; simp only [Array.getD_eq_getD_getElem?] at f40
            have e42 : a'.tmps.getD 42 undef = _ := hdep 25 42 (Nat.le_of_ble_eq_true rfl) rfl rfl
            conv at e42 => rhs; whnf
            have f42 := e42; simp only [Array.getD_eq_getD_getElem?] at f42
            refine wpOp_yes rfl rfl rfl e36 (fun K hK => ?_)
            go_simp
            exact hK _ _ ⟨_, rfl, Below.refl _ _, rfl⟩
          apply free_is
          · intro a' w' hLe hfr hdep
            have e36 : a'.tmps.getD 36 undef = _ := hdep 19 36 (Nat.le_of_ble_eq_true rfl) rfl rfl
            conv at e36 => rhs; whnf
            have f36 := e36; simp only [Array.getD_eq_getD_getElem?] at f36
            have e43 : a'.tmps.getD 43 undef = _ := hdep 26 43 (Nat.le_of_ble_eq_true rfl) rfl rfl
            conv at e43 => rhs; whnf
            have f43 := e43; simp only [Array.getD_eq_getD_getElem?] at f43
            refine wpOp_yes rfl rfl rfl e36 (fun K hK => ?_)
            go_simp
            exact hK _ _ ⟨_, rfl, Below.refl _ _, rfl⟩
          apply free_is
          · intro a' w' hLe hfr hdep
            have e36 : a'.tmps.getD 36 undef = _ := hdep 19 36 (Nat.le_of_ble_eq_true rfl) rfl rfl
            conv at e36 => rhs; whnf
            have f36 := e36; simp only [Array.getD_eq_getD_getElem?] at f36
            have e44 : a'.tmps.getD 44 undef = _ := hdep 27 44 (Nat.le_of_ble_eq_true rfl) rfl rfl
            conv at e44 => rhs; whnf
            have f44 := e44; simp only [Array.getD_eq_getD_getElem?] at f44
            have kc := fun i => keepc hLe (wr.heap.size) (by (try simp) <;> omega) i
            have kf := fun i => keepf hLe (wr.heap.size) (by (try simp) <;> omega) i
            have kz : wr.heap.size < w'.heap.size := (by have := hLe.size; (try simp at this); omega)
            have kc := fun i => keepc hLe (w.heap.size) (by (try simp) <;> omega) i
            have kf := fun i => keepf hLe (w.heap.size) (by (try simp) <;> omega) i
            have kz : w.heap.size < w'.heap.size := (by have := hLe.size; (try simp at this); omega)
            have kc := fun i => keepc hLe (bl) (by (try simp) <;> omega) i
            have kf := fun i => keepf hLe (bl) (by (try simp) <;> omega) i
            have kz : bl < w'.heap.size := (by have := hLe.size; (try simp at this); omega)
            refine wpOp_yes rfl rfl rfl e36 (fun K hK => ?_)
            go_simp
            exact hK _ _ ⟨_, rfl, Below.refl _ _, rfl⟩
          apply free_is
          · intro a' w' hLe hfr hdep
            have e36 : a'.tmps.getD 36 undef = _ := hdep 19 36 (Nat.le_of_ble_eq_true rfl) rfl rfl
            conv at e36 => rhs; whnf
            have f36 := e36; simp only [Array.getD_eq_getD_getElem?] at f36
            have e38 : a'.tmps.getD 38 undef = _ := hdep 21 38 (Nat.le_of_ble_eq_true rfl) rfl rfl
            conv at e38 => rhs; whnf
            have f38 := e38; simp only [Array.getD_eq_getD_getElem?] at f38
            have e45 : a'.tmps.getD 45 undef = _ := hdep 28 45 (Nat.le_of_ble_eq_true rfl) rfl rfl
            conv at e45 => rhs; whnf
            have f45 := e45; simp only [Array.getD_eq_getD_getElem?] at f45
            refine wpOp_yes rfl rfl rfl e36 (fun K hK => ?_)
            go_simp
            exact hK _ _ ⟨_, rfl, Below.refl _ _, rfl⟩
          apply free_is
          · intro a' w' hLe hfr hdep
            have e33 : a'.tmps.getD 33 undef = _ := hdep 16 33 (Nat.le_of_ble_eq_true rfl) rfl rfl
            conv at e33 => rhs; whnf
            have f33 := e33; simp only [Array.getD_eq_getD_getElem?] at f33
            have e36 : a'.tmps.getD 36 undef = _ := hdep 19 36 (Nat.le_of_ble_eq_true rfl) rfl rfl
            conv at e36 => rhs; whnf
            have f36 := e36; simp only [Array.getD_eq_getD_getElem?] at f36
            have e46 : a'.tmps.getD 46 undef = _ := hdep 29 46 (Nat.le_of_ble_eq_true rfl) rfl rfl
            conv at e46 => rhs; whnf
            have f46 := e46; simp only [Array.getD_eq_getD_getElem?] at f46
            refine wpOp_yes rfl rfl rfl e33 (fun K hK => ?_)
            go_simp
            exact hK _ _ ⟨_, rfl, Below.refl _ _, rfl⟩
          apply free_is
          · intro a' w' hLe hfr hdep
            have e33 : a'.tmps.getD 33 undef = _ := hdep 16 33 (Nat.le_of_ble_eq_true rfl) rfl rfl
            conv at e33 => rhs; whnf
            have f33 := e33; simp only [Array.getD_eq_getD_getElem?] at f33
            have e47 : a'.tmps.getD 47 undef = _ := hdep 30 47 (Nat.le_of_ble_eq_true rfl) rfl rfl
            conv at e47 => rhs; whnf
            have f47 := e47; simp only [Array.getD_eq_getD_getElem?] at f47
            refine wpOp_plain rfl rfl (fun K hK => ?_)
            go_simp
            exact hK _ _ ⟨_, rfl, Below.refl _ _, rfl⟩
          apply free_is
          · intro a' w' hLe hfr hdep
            have e48 : a'.tmps.getD 48 undef = _ := hdep 31 48 (Nat.le_of_ble_eq_true rfl) rfl rfl
            conv at e48 => rhs; whnf
            have f48 := e48; simp only [Array.getD_eq_getD_getElem?] at f48
            refine wpOp_plain rfl rfl (fun K hK => ?_)
            go_simp
            exact hK _ _ ⟨_, rfl, Below.refl _ _, rfl⟩
          apply free_is
          · intro a' w' hLe hfr hdep
            have e49 : a'.tmps.getD 49 undef = _ := hdep 32 49 (Nat.le_of_ble_eq_true rfl) rfl rfl
            conv at e49 => rhs; whnf
            have f49 := e49; simp only [Array.getD_eq_getD_getElem?] at f49
            exact wpOp_no rfl rfl rfl e49 ⟨_, rfl, Below.refl _ _, rfl⟩
          apply free_is
          · intro a' w' hLe hfr hdep
            have e49 : a'.tmps.getD 49 undef = _ := hdep 32 49 (Nat.le_of_ble_eq_true rfl) rfl rfl
            conv at e49 => rhs; whnf
            have f49 := e49; simp only [Array.getD_eq_getD_getElem?] at f49
            exact wpOp_no rfl rfl rfl e49 ⟨_, rfl, Below.refl _ _, rfl⟩
          apply free_is
          · intro a' w' hLe hfr hdep
            have e49 : a'.tmps.getD 49 undef = _ := hdep 32 49 (Nat.le_of_ble_eq_true rfl) rfl rfl
            conv at e49 => rhs; whnf
            have f49 := e49; simp only [Array.getD_eq_getD_getElem?] at f49
            exact wpOp_no rfl rfl rfl e49 ⟨_, rfl, Below.refl _ _, rfl⟩
          apply free_is
          · intro a' w' hLe hfr hdep
            have e49 : a'.tmps.getD 49 undef = _ := hdep 32 49 (Nat.le_of_ble_eq_true rfl) rfl rfl
            conv at e49 => rhs; whnf
            have f49 := e49; simp only [Array.getD_eq_getD_getElem?] at f49
            exact wpOp_no rfl rfl rfl e49 ⟨_, rfl, Below.refl _ _, rfl⟩
          apply free_is
          · intro a' w' hLe hfr hdep
            have e49 : a'.tmps.getD 49 undef = _ := hdep 32 49 (Nat.le_of_ble_eq_true rfl) rfl rfl
            conv at e49 => rhs; whnf
            have f49 := e49; simp only [Array.getD_eq_getD_getElem?] at f49
            exact wpOp_no rfl rfl rfl e49 ⟨_, rfl, Below.refl _ _, rfl⟩
          apply free_is
          · intro a' w' hLe hfr hdep
            have e49 : a'.tmps.getD 49 undef = _ := hdep 32 49 (Nat.le_of_ble_eq_true rfl) rfl rfl
            conv at e49 => rhs; whnf
            have f49 := e49; simp only [Array.getD_eq_getD_getElem?] at f49
            exact wpOp_no rfl rfl rfl e49 ⟨_, rfl, Below.refl _ _, rfl⟩
          apply free_is
          · intro a' w' hLe hfr hdep
            have e49 : a'.tmps.getD 49 undef = _ := hdep 32 49 (Nat.le_of_ble_eq_true rfl) rfl rfl
            conv at e49 => rhs; whnf
            have f49 := e49; simp only [Array.getD_eq_getD_getElem?] at f49
            exact wpOp_no rfl rfl rfl e49 ⟨_, rfl, Below.refl _ _, rfl⟩
          apply free_is
          · intro a' w' hLe hfr hdep
            have e49 : a'.tmps.getD 49 undef = _ := hdep 32 49 (Nat.le_of_ble_eq_true rfl) rfl rfl
            conv at e49 => rhs; whnf
            have f49 := e49; simp only [Array.getD_eq_getD_getElem?] at f49
            exact wpOp_no rfl rfl rfl e49 ⟨_, rfl, Below.refl _ _, rfl⟩
          apply free_is
          · intro a' w' hLe hfr hdep
            have e49 : a'.tmps.getD 49 undef = _ := hdep 32 49 (Nat.le_of_ble_eq_true rfl) rfl rfl
            conv at e49 => rhs; whnf
            have f49 := e49; simp only [Array.getD_eq_getD_getElem?] at f49
            have e57 : a'.tmps.getD 57 undef = _ := hdep 40 57 (Nat.le_of_ble_eq_true rfl) rfl rfl
            conv at e57 => rhs; whnf
            have f57 := e57; simp only [Array.getD_eq_getD_getElem?] at f57
            refine wpOp_plain rfl rfl (fun K hK => ?_)
            go_simp
            exact hK _ _ ⟨_, rfl, Below.refl _ _, rfl⟩
          apply free_nil
          intro vs w1 hb1 hT1
          have e17 : vs 0 = _ := hT1 0 17 rfl
          conv at e17 => rhs; whnf
          have e18 : vs 1 = _ := hT1 1 18 rfl
          conv at e18 => rhs; whnf
          have e19 : vs 2 = _ := hT1 2 19 rfl
          conv at e19 => rhs; whnf
          have e20 : vs 3 = _ := hT1 3 20 rfl
          conv at e20 => rhs; whnf
          have e21 : vs 4 = _ := hT1 4 21 rfl
          conv at e21 => rhs; whnf
          have e22 : vs 5 = _ := hT1 5 22 rfl
          conv at e22 => rhs; whnf
          have e23 : vs 6 = _ := hT1 6 23 rfl
          conv at e23 => rhs; whnf
          have e24 : vs 7 = _ := hT1 7 24 rfl
          conv at e24 => rhs; whnf
          have e25 : vs 8 = _ := hT1 8 25 rfl
          conv at e25 => rhs; whnf
          have e26 : vs 9 = _ := hT1 9 26 rfl
          conv at e26 => rhs; whnf
          have e27 : vs 10 = _ := hT1 10 27 rfl
          conv at e27 => rhs; whnf
          have e28 : vs 11 = _ := hT1 11 28 rfl
          conv at e28 => rhs; whnf
          have e29 : vs 12 = _ := hT1 12 29 rfl
          conv at e29 => rhs; whnf
          have e30 : vs 13 = _ := hT1 13 30 rfl
          conv at e30 => rhs; whnf
          have e31 : vs 14 = _ := hT1 14 31 rfl
          conv at e31 => rhs; whnf
          have e32 : vs 15 = _ := hT1 15 32 rfl
          conv at e32 => rhs; whnf
          have e33 : vs 16 = _ := hT1 16 33 rfl
          conv at e33 => rhs; whnf
          have e34 : vs 17 = _ := hT1 17 34 rfl
          conv at e34 => rhs; whnf
          have e35 : vs 18 = _ := hT1 18 35 rfl
          conv at e35 => rhs; whnf
          have e36 : vs 19 = _ := hT1 19 36 rfl
          conv at e36 => rhs; whnf
          have e37 : vs 20 = _ := hT1 20 37 rfl
          conv at e37 => rhs; whnf
          have e38 : vs 21 = _ := hT1 21 38 rfl
          conv at e38 => rhs; whnf
          have e39 : vs 22 = _ := hT1 22 39 rfl
          conv at e39 => rhs; whnf
          have e40 : vs 23 = _ := hT1 23 40 rfl
          conv at e40 => rhs; whnf
          have e41 : vs 24 = _ := hT1 24 41 rfl
          conv at e41 => rhs; whnf
          have e42 : vs 25 = _ := hT1 25 42 rfl
          conv at e42 => rhs; whnf
          have e43 : vs 26 = _ := hT1 26 43 rfl
          conv at e43 => rhs; whnf
          have e44 : vs 27 = _ := hT1 27 44 rfl
          conv at e44 => rhs; whnf
          have e45 : vs 28 = _ := hT1 28 45 rfl
          conv at e45 => rhs; whnf
          have e46 : vs 29 = _ := hT1 29 46 rfl
          conv at e46 => rhs; whnf
          have e47 : vs 30 = _ := hT1 30 47 rfl
          conv at e47 => rhs; whnf
          have e48 : vs 31 = _ := hT1 31 48 rfl
          conv at e48 => rhs; whnf
          have e49 : vs 32 = _ := hT1 32 49 rfl
          conv at e49 => rhs; whnf
          have e50 : vs 33 = _ := hT1 33 50 rfl
          conv at e50 => rhs; whnf
          have e51 : vs 34 = _ := hT1 34 51 rfl
          conv at e51 => rhs; whnf
          have e52 : vs 35 = _ := hT1 35 52 rfl
          conv at e52 => rhs; whnf
          have e53 : vs 36 = _ := hT1 36 53 rfl
          conv at e53 => rhs; whnf
          have e54 : vs 37 = _ := hT1 37 54 rfl
          conv at e54 => rhs; whnf
          have e55 : vs 38 = _ := hT1 38 55 rfl
          conv at e55 => rhs; whnf
          have e56 : vs 39 = _ := hT1 39 56 rfl
          conv at e56 => rhs; whnf
          have e57 : vs 40 = _ := hT1 40 57 rfl
          conv at e57 => rhs; whnf
          have e58 : vs 41 = _ := hT1 41 58 rfl
          conv at e58 => rhs; whnf
          simp only [putAll, List.drop_succ_cons, List.drop_zero, e17, e18, e19, e20, e21, e22, e23, e24, e25, e26, e27, e28, e29, e30, e31, e32, e33, e34, e35, e36, e37, e38, e39, e40, e41, e42, e43, e44, e45, e46, e47, e48, e49, e50, e51, e52, e53, e54, e55, e56, e57, e58]
          clear hT1 e17 e18 e19 e20 e21 e22 e23 e24 e25 e26 e27 e28 e29 e30 e31 e32 e33 e34 e35 e36 e37 e38 e39 e40 e41 e42 e43 e44 e45 e46 e47 e48 e49 e50 e51 e52 e53 e54 e55 e56 e57 e58
          go_simp
          go_wp2
          go_ret
          exact ⟨by rw [hno.out] <;> rfl, Below.tr hB0 (Below.tr hbel hb1)⟩
        · have hd : decide (la (i + 1) < la i) = false := by simpa using h4
          have h5 : la i ≤ la (i + 1) := by omega
          by_cases hp : 0 ≤ P
          · have hdp : decide (0 ≤ P) = true := by simpa using hp
            have hno := Lib.hid (tabVB_no (x0 := x0) (x1 := x1) (show i + 1 < n from hlt) (show taOk f0 f1 f2 f3 f4 to la (i + 1) = false from taOk_seen (by rw [← hin]; exact hdp)))
            clear hc hrow hin
            go_wp2
            refine wp_region_free (ds := [(0, 17), (1, 18), (2, 19), (3, 20), (4, 21), (5, 22), (6, 23), (7, 24), (8, 25), (9, 26), (10, 27), (11, 28), (12, 29), (13, 30), (14, 31), (15, 32), (16, 33), (17, 34), (18, 35), (19, 36), (20, 37), (21, 38), (22, 39), (23, 40), (24, 41), (25, 42), (26, 43), (27, 44), (28, 45), (29, 46), (30, 47), (31, 48), (32, 49), (33, 50), (34, 51), (35, 52), (36, 53), (37, 54), (38, 55), (39, 56), (40, 57), (41, 58)]) 42 (by kernel_rfl) (by kernel_rfl) (by first | exact .inl rfl | exact .inr (by kernel_rfl)) (by rfl) rfl rfl ?_
            apply free_is
            · intro a' w' hLe hfr hdep
              have e4 := hfr 4 rfl
              conv at e4 => rhs; whnf
              have f4 := e4; simp only [Array.getD_eq_getD_getElem?] at f4
              refine wpOp_plain rfl rfl (fun K hK => ?_)
              go_simp
              exact hK _ _ ⟨_, rfl, Below.refl _ _, rfl⟩
            apply free_is
            · intro a' w' hLe hfr hdep
              have e17 : a'.tmps.getD 17 undef = _ := hdep 0 17 (Nat.le_of_ble_eq_true rfl) rfl rfl
              conv at e17 => rhs; whnf
              have f17 := e17; simp only [Array.getD_eq_getD_getElem?] at f17
              have kc := fun i => keepc hLe (wr.heap.size) (by (try simp) <;> omega) i
              have kf := fun i => keepf hLe (wr.heap.size) (by (try simp) <;> omega) i
              have kz : wr.heap.size < w'.heap.size := (by have := hLe.size; (try simp at this); omega)
              have kc := fun i => keepc hLe (w.heap.size) (by (try simp) <;> omega) i
              have kf := fun i => keepf hLe (w.heap.size) (by (try simp) <;> omega) i
              have kz : w.heap.size < w'.heap.size := (by have := hLe.size; (try simp at this); omega)
              have kc := fun i => keepc hLe (bl) (by (try simp) <;> omega) i
              have kf := fun i => keepf hLe (bl) (by (try simp) <;> omega) i
              have kz : bl < w'.heap.size := (by have := hLe.size; (try simp at this); omega)
              refine wpOp_plain rfl rfl (fun K hK => ?_)
              go_simp
              exact hK _ _ ⟨_, rfl, Below.refl _ _, rfl⟩
            apply free_is
            · intro a' w' hLe hfr hdep
              have e18 : a'.tmps.getD 18 undef = _ := hdep 1 18 (Nat.le_of_ble_eq_true rfl) rfl rfl
              conv at e18 => rhs; whnf
              have f18 := e18; simp only [Array.getD_eq_getD_getElem?] at f18
              have kc := fun i => keepc hLe (wr.heap.size) (by (try simp) <;> omega) i
              have kf := fun i => keepf hLe (wr.heap.size) (by (try simp) <;> omega) i
              have kz : wr.heap.size < w'.heap.size := (by have := hLe.size; (try simp at this); omega)
              have kc := fun i => keepc hLe (w.heap.size) (by (try simp) <;> omega) i
              have kf := fun i => keepf hLe (w.heap.size) (by (try simp) <;> omega) i
              have kz : w.heap.size < w'.heap.size := (by have := hLe.size; (try simp at this); omega)
              have kc := fun i => keepc hLe (bl) (by (try simp) <;> omega) i
              have kf := fun i => keepf hLe (bl) (by (try simp) <;> omega) i
              have kz : bl < w'.heap.size := (by have := hLe.size; (try simp at this); omega)
              refine wpOp_plain rfl rfl (fun K hK => ?_)
              go_simp
              refine (specFlowValid_b _ _ _ _ _ _).mono ?_
              rintro e w2 ⟨rfl, hb⟩
              exact hK _ _ ⟨_, rfl, hb, rfl⟩
            apply free_is
            · intro a' w' hLe hfr hdep
              have e19 : a'.tmps.getD 19 undef = _ := hdep 2 19 (Nat.le_of_ble_eq_true rfl) rfl rfl
              conv at e19 => rhs; whnf
              have f19 := e19; simp only [Array.getD_eq_getD_getElem?] at f19
              refine wpOp_plain rfl rfl (fun K hK => ?_)
              go_simp
              exact hK _ _ ⟨_, rfl, Below.refl _ _, rfl⟩
            apply free_is
            · intro a' w' hLe hfr hdep
              have e20 : a'.tmps.getD 20 undef = _ := hdep 3 20 (Nat.le_of_ble_eq_true rfl) rfl rfl
              conv at e20 => rhs; whnf
              have f20 := e20; simp only [Array.getD_eq_getD_getElem?] at f20
              refine wpOp_plain rfl rfl (fun K hK => ?_)
              go_simp
              exact hK _ _ ⟨_, rfl, Below.refl _ _, rfl⟩
            apply free_is
            · intro a' w' hLe hfr hdep
              have e21 : a'.tmps.getD 21 undef = _ := hdep 4 21 (Nat.le_of_ble_eq_true rfl) rfl rfl
              conv at e21 => rhs; whnf
              have f21 := e21; simp only [Array.getD_eq_getD_getElem?] at f21
              have e4 := hfr 4 rfl
              conv at e4 => rhs; whnf
              have f4 := e4; simp only [Array.getD_eq_getD_getElem?] at f4
              refine wpOp_yes rfl rfl rfl e21 (fun K hK => ?_)
              go_simp
              exact hK _ _ ⟨_, rfl, Below.refl _ _, rfl⟩
            apply free_is
            · intro a' w' hLe hfr hdep
              have e21 : a'.tmps.getD 21 undef = _ := hdep 4 21 (Nat.le_of_ble_eq_true rfl) rfl rfl
              conv at e21 => rhs; whnf
              have f21 := e21; simp only [Array.getD_eq_getD_getElem?] at f21
              have e22 : a'.tmps.getD 22 undef = _ := hdep 5 22 (Nat.le_of_ble_eq_true rfl) rfl rfl
              conv at e22 => rhs; whnf
              have f22 := e22; simp only [Array.getD_eq_getD_getElem?] at f22
              have kc := fun i => keepc hLe (wr.heap.size) (by (try simp) <;> omega) i
              have kf := fun i => keepf hLe (wr.heap.size) (by (try simp) <;> omega) i
              have kz : wr.heap.size < w'.heap.size := (by have := hLe.size; (try simp at this); omega)
              have kc := fun i => keepc hLe (w.heap.size) (by (try simp) <;> omega) i
              have kf := fun i => keepf hLe (w.heap.size) (by (try simp) <;> omega) i
              have kz : w.heap.size < w'.heap.size := (by have := hLe.size; (try simp at this); omega)
              have kc := fun i => keepc hLe (bl) (by (try simp) <;> omega) i
              have kf := fun i => keepf hLe (bl) (by (try simp) <;> omega) i
              have kz : bl < w'.heap.size := (by have := hLe.size; (try simp at this); omega)
              refine wpOp_yes rfl rfl rfl e21 (fun K hK => ?_)
              go_simp
              exact hK _ _ ⟨_, rfl, Below.refl _ _, rfl⟩
            apply free_is
            · intro a' w' hLe hfr hdep
              have e21 : a'.tmps.getD 21 undef = _ := hdep 4 21 (Nat.le_of_ble_eq_true rfl) rfl rfl
              conv at e21 => rhs; whnf
              have f21 := e21; simp only [Array.getD_eq_getD_getElem?] at f21
              have e23 : a'.tmps.getD 23 undef = _ := hdep 6 23 (Nat.le_of_ble_eq_true rfl) rfl rfl
              conv at e23 => rhs; whnf
              have f23 := e23; simp only [Array.getD_eq_getD_getElem?] at f23
              have kc := fun i => keepc hLe (wr.heap.size) (by (try simp) <;> omega) i
              have kf := fun i => keepf hLe (wr.heap.size) (by (try simp) <;> omega) i
              have kz : wr.heap.size < w'.heap.size := (by have := hLe.size; (try simp at this); omega)
              have kc := fun i => keepc hLe (w.heap.size) (by (try simp) <;> omega) i
              have kf := fun i => keepf hLe (w.heap.size) (by (try simp) <;> omega) i
              have kz : w.heap.size < w'.heap.size := (by have := hLe.size; (try simp at this); omega)
              have kc := fun i => keepc hLe (bl) (by (try simp) <;> omega) i
              have kf := fun i => keepf hLe (bl) (by (try simp) <;> omega) i
              have kz : bl < w'.heap.size := (by have := hLe.size; (try simp at this); omega)
              refine wpOp_yes rfl rfl rfl e21 (fun K hK => ?_)
              go_simp
              refine (l1In_any _ _ _ _).mono ?_
              rintro e w2 ⟨rfl, rfl⟩
              exact hK _ _ ⟨_, rfl, Below.refl _ _, rfl⟩
            apply free_is
            · intro a' w' hLe hfr hdep
              have e21 : a'.tmps.getD 21 undef = _ := hdep 4 21 (Nat.le_of_ble_eq_true rfl) rfl rfl
              conv at e21 => rhs; whnf
              have f21 := e21; simp only [Array.getD_eq_getD_getElem?] at f21
              have e24 : a'.tmps.getD 24 undef = _ := hdep 7 24 (Nat.le_of_ble_eq_true rfl) rfl rfl
              conv at e24 => rhs; whnf
              have f24 := e24; simp only [Array.getD_eq_getD_getElem?] at f24
              refine wpOp_yes rfl rfl rfl e21 (fun K hK => ?_)
              go_simp
              exact hK _ _ ⟨_, rfl, Below.refl _ _, rfl⟩
            apply free_is
            · intro a' w' hLe hfr hdep
              have e21 : a'.tmps.getD 21 undef = _ := hdep 4 21 (Nat.le_of_ble_eq_true rfl) rfl rfl
              conv at e21 => rhs; whnf
              have f21 := e21; simp only [Array.getD_eq_getD_getElem?] at f21
              have e25 : a'.tmps.getD 25 undef = _ := hdep 8 25 (Nat.le_of_ble_eq_true rfl) rfl rfl
              conv at e25 => rhs; whnf
              have f25 := e25; simp only [Array.getD_eq_getD_getElem?] at f25
              refine wpOp_plain rfl rfl (fun K hK => ?_)
              go_simp
              exact hK _ _ ⟨_, rfl, Below.refl _ _, rfl⟩
            apply free_is
            · intro a' w' hLe hfr hdep
              have e26 : a'.tmps.getD 26 undef = _ := hdep 9 26 (Nat.le_of_ble_eq_true rfl) rfl rfl
              conv at e26 => rhs; whnf
              have f26 := e26; simp only [Array.getD_eq_getD_getElem?] at f26
              refine wpOp_plain rfl rfl (fun K hK => ?_)
              go_simp
              exact hK _ _ ⟨_, rfl, Below.refl _ _, rfl⟩
            apply free_is
            · intro a' w' hLe hfr hdep
              have e27 : a'.tmps.getD 27 undef = _ := hdep 10 27 (Nat.le_of_ble_eq_true rfl) rfl rfl
              conv at e27 => rhs; whnf
              have f27 := e27; simp only [Array.getD_eq_getD_getElem?] at f27
              have e4 := hfr 4 rfl
              conv at e4 => rhs; whnf
              have f4 := e4; simp only [Array.getD_eq_getD_getElem?] at f4
              refine wpOp_yes rfl rfl rfl e27 (fun K hK => ?_)
              go_simp
              exact hK _ _ ⟨_, rfl, Below.refl _ _, rfl⟩
            apply free_is
            · intro a' w' hLe hfr hdep
              have e27 : a'.tmps.getD 27 undef = _ := hdep 10 27 (Nat.le_of_ble_eq_true rfl) rfl rfl
              conv at e27 => rhs; whnf
              have f27 := e27; simp only [Array.getD_eq_getD_getElem?] at f27
              have e28 : a'.tmps.getD 28 undef = _ := hdep 11 28 (Nat.le_of_ble_eq_true rfl) rfl rfl
              conv at e28 => rhs; whnf
              have f28 := e28; simp only [Array.getD_eq_getD_getElem?] at f28
              have kc := fun i => keepc hLe (wr.heap.size) (by (try simp) <;> omega) i
              have kf := fun i => keepf hLe (wr.heap.size) (by (try simp) <;> omega) i
              have kz : wr.heap.size < w'.heap.size := (by have := hLe.size; (try simp at this); omega)
              have kc := fun i => keepc hLe (w.heap.size) (by (try simp) <;> omega) i
              have kf := fun i => keepf hLe (w.heap.size) (by (try simp) <;> omega) i
              have kz : w.heap.size < w'.heap.size := (by have := hLe.size; (try simp at this); omega)
              have kc := fun i => keepc hLe (bl) (by (try simp) <;> omega) i
              have kf := fun i => keepf hLe (bl) (by (try simp) <;> omega) i
              have kz : bl < w'.heap.size := (by have := hLe.size; (try simp at this); omega)
              refine wpOp_yes rfl rfl rfl e27 (fun K hK => ?_)
              go_simp
              exact hK _ _ ⟨_, rfl, Below.refl _ _, rfl⟩
            apply free_is
            · intro a' w' hLe hfr hdep
              have e27 : a'.tmps.getD 27 undef = _ := hdep 10 27 (Nat.le_of_ble_eq_true rfl) rfl rfl
              conv at e27 => rhs; whnf
              have f27 := e27; simp only [Array.getD_eq_getD_getElem?] at f27
              have e29 : a'.tmps.getD 29 undef = _ := hdep 12 29 (Nat.le_of_ble_eq_true rfl) rfl rfl
              conv at e29 => rhs; whnf
              have f29 := e29; simp only [Array.getD_eq_getD_getElem?] at f29
              have kc := fun i => keepc hLe (wr.heap.size) (by (try simp) <;> omega) i
              have kf := fun i => keepf hLe (wr.heap.size) (by (try simp) <;> omega) i
              have kz : wr.heap.size < w'.heap.size := (by have := hLe.size; (try simp at this); omega)
              have kc := fun i => keepc hLe (w.heap.size) (by (try simp) <;> omega) i
              have kf := fun i => keepf hLe (w.heap.size) (by (try simp) <;> omega) i
              have kz : w.heap.size < w'.heap.size := (by have := hLe.size; (try simp at this); omega)
              have kc := fun i => keepc hLe (bl) (by (try simp) <;> omega) i
              have kf := fun i => keepf hLe (bl) (by (try simp) <;> omega) i
              have kz : bl < w'.heap.size := (by have := hLe.size; (try simp at this); omega)
              refine wpOp_yes rfl rfl rfl e27 (fun K hK => ?_)
              go_simp
              refine (l1In_any _ _ _ _).mono ?_
              rintro e w2 ⟨rfl, rfl⟩
              exact hK _ _ ⟨_, rfl, Below.refl _ _, rfl⟩
            apply free_is
            · intro a' w' hLe hfr hdep
              have e27 : a'.tmps.getD 27 undef = _ := hdep 10 27 (Nat.le_of_ble_eq_true rfl) rfl rfl
              conv at e27 => rhs; whnf
              have f27 := e27; simp only [Array.getD_eq_getD_getElem?] at f27
              have e30 : a'.tmps.getD 30 undef = _ := hdep 13 30 (Nat.le_of_ble_eq_true rfl) rfl rfl
              conv at e30 => rhs; whnf
              have f30 := e30; simp only [Array.getD_eq_getD_getElem?] at f30
              refine wpOp_yes rfl rfl rfl e27 (fun K hK => ?_)
              go_simp
              exact hK _ _ ⟨_, rfl, Below.refl _ _, rfl⟩
            apply free_is
            · intro a' w' hLe hfr hdep
              have e27 : a'.tmps.getD 27 undef = _ := hdep 10 27 (Nat.le_of_ble_eq_true rfl) rfl rfl
              conv at e27 => rhs; whnf
              have f27 := e27; simp only [Array.getD_eq_getD_getElem?] at f27
              have e31 : a'.tmps.getD 31 undef = _ := hdep 14 31 (Nat.le_of_ble_eq_true rfl) rfl rfl
              conv at e31 => rhs; whnf
              have f31 := e31; simp only [Array.getD_eq_getD_getElem?] at f31
              refine wpOp_plain rfl rfl (fun K hK => ?_)
              go_simp
              exact hK _ _ ⟨_, rfl, Below.refl _ _, rfl⟩
            apply free_is
            · intro a' w' hLe hfr hdep
              have e32 : a'.tmps.getD 32 undef = _ := hdep 15 32 (Nat.le_of_ble_eq_true rfl) rfl rfl
              conv at e32 => rhs; whnf
              have f32 := e32; simp only [Array.getD_eq_getD_getElem?] at f32
              refine wpOp_plain rfl rfl (fun K hK => ?_)
              go_simp
              exact hK _ _ ⟨_, rfl, Below.refl _ _, rfl⟩
            apply free_is
            · intro a' w' hLe hfr hdep
              have e33 : a'.tmps.getD 33 undef = _ := hdep 16 33 (Nat.le_of_ble_eq_true rfl) rfl rfl
              conv at e33 => rhs; whnf
              have f33 := e33; simp only [Array.getD_eq_getD_getElem?] at f33
              have e3 := hfr 3 rfl
              conv at e3 => rhs; whnf
              have f3 := e3; simp only [Array.getD_eq_getD_getElem?] at f3
              refine wpOp_yes rfl rfl rfl e33 (fun K hK => ?_)
              go_simp
              exact hK _ _ ⟨_, rfl, Below.refl _ _, rfl⟩
            apply free_is
            · intro a' w' hLe hfr hdep
              have e33 : a'.tmps.getD 33 undef = _ := hdep 16 33 (Nat.le_of_ble_eq_true rfl) rfl rfl
              conv at e33 => rhs; whnf
              have f33 := e33; simp only [Array.getD_eq_getD_getElem?] at f33
              have e34 : a'.tmps.getD 34 undef = _ := hdep 17 34 (Nat.le_of_ble_eq_true rfl) rfl rfl
              conv at e34 => rhs; whnf
              have f34 := e34; simp only [Array.getD_eq_getD_getElem?] at f34
              refine wpOp_yes rfl rfl rfl e33 (fun K hK => ?_)
              go_simp
              exact hK _ _ ⟨_, rfl, Below.refl _ _, rfl⟩
            apply free_is
            · intro a' w' hLe hfr hdep
              have e33 : a'.tmps.getD 33 undef = _ := hdep 16 33 (Nat.le_of_ble_eq_true rfl) rfl rfl
              conv at e33 => rhs; whnf
              have f33 := e33; simp only [Array.getD_eq_getD_getElem?] at f33
              have e35 : a'.tmps.getD 35 undef = _ := hdep 18 35 (Nat.le_of_ble_eq_true rfl) rfl rfl
              conv at e35 => rhs; whnf
              have f35 := e35; simp only [Array.getD_eq_getD_getElem?] at f35
              refine wpOp_yes rfl rfl rfl e33 (fun K hK => ?_)
              go_simp
              exact hK _ _ ⟨_, rfl, Below.refl _ _, rfl⟩
            apply free_is
            · intro a' w' hLe hfr hdep
              have e36 : a'.tmps.getD 36 undef = _ := hdep 19 36 (Nat.le_of_ble_eq_true rfl) rfl rfl
              conv at e36 => rhs; whnf
              have f36 := e36; simp only [Array.getD_eq_getD_getElem?] at f36
              have e4 := hfr 4 rfl
              conv at e4 => rhs; whnf
              have f4 := e4; simp only [Array.getD_eq_getD_getElem?] at f4
              refine wpOp_yes rfl rfl rfl e36 (fun K hK => ?_)
              go_simp
              exact hK _ _ ⟨_, rfl, Below.refl _ _, rfl⟩
            apply free_is
            · intro a' w' hLe hfr hdep
              have e36 : a'.tmps.getD 36 undef = _ := hdep 19 36 (Nat.le_of_ble_eq_true rfl) rfl rfl
              conv at e36 => rhs; whnf
              have f36 := e36; simp only [Array.getD_eq_getD_getElem?] at f36
              have e37 : a'.tmps.getD 37 undef = _ := hdep 20 37 (Nat.le_of_ble_eq_true rfl) rfl rfl
              conv at e37 => rhs; whnf
              have f37 := e37; simp only [Array.getD_eq_getD_getElem?] at f37
              have kc := fun i => keepc hLe (wr.heap.size) (by (try simp) <;> omega) i
              have kf := fun i => keepf hLe (wr.heap.size) (by (try simp) <;> omega) i
              have kz : wr.heap.size < w'.heap.size := (by have := hLe.size; (try simp at this); omega)
              have kc := fun i => keepc hLe (w.heap.size) (by (try simp) <;> omega) i
              have kf := fun i => keepf hLe (w.heap.size) (by (try simp) <;> omega) i
              have kz : w.heap.size < w'.heap.size := (by have := hLe.size; (try simp at this); omega)
              have kc := fun i => keepc hLe (bl) (by (try simp) <;> omega) i
              have kf := fun i => keepf hLe (bl) (by (try simp) <;> omega) i
              have kz : bl < w'.heap.size := (by have := hLe.size; (try simp at this); omega)
              refine wpOp_yes rfl rfl rfl e36 (fun K hK => ?_)
              go_simp
              exact hK _ _ ⟨_, rfl, Below.refl _ _, rfl⟩
            apply free_is
            · intro a' w' hLe hfr hdep
              have e36 : a'.tmps.getD 36 undef = _ := hdep 19 36 (Nat.le_of_ble_eq_true rfl) rfl rfl
              conv at e36 => rhs; whnf
              have f36 := e36; simp only [Array.getD_eq_getD_getElem?] at f36
              have e1 := hfr 1 rfl
              conv at e1 => rhs; whnf
              have f1 := e1; simp only [Array.getD_eq_getD_getElem?] at f1
              refine wpOp_yes rfl rfl rfl e36 (fun K hK => ?_)
              go_simp
              exact hK _ _ ⟨_, rfl, Below.refl _ _, rfl⟩
            apply free_is
            · intro a' w' hLe hfr hdep
              have e36 : a'.tmps.getD 36 undef = _ := hdep 19 36 (Nat.le_of_ble_eq_true rfl) rfl rfl
              conv at e36 => rhs; whnf
              have f36 := e36; simp only [Array.getD_eq_getD_getElem?] at f36
              have e39 : a'.tmps.getD 39 undef = _ := hdep 22 39 (Nat.le_of_ble_eq_true rfl) rfl rfl
              conv at e39 => rhs; whnf
              have f39 := e39; simp only [Array.getD_eq_getD_getElem?] at f39
              have kc := fun i => keepc hLe (wr.heap.size) (by (try simp) <;> omega) i
              have kf := fun i => keepf hLe (wr.heap.size) (by (try simp) <;> omega) i
              have kz : wr.heap.size < w'.heap.size := (by have := hLe.size; (try simp at this); omega)
              have kc := fun i => keepc hLe (w.heap.size) (by (try simp) <;> omega) i
              have kf := fun i => keepf hLe (w.heap.size) (by (try simp) <;> omega) i
              have kz : w.heap.size < w'.heap.size := (by have := hLe.size; (try simp at this); omega)
              have kc := fun i => keepc hLe (bl) (by (try simp) <;> omega) i
              have kf := fun i => keepf hLe (bl) (by (try simp) <;> omega) i
              have kz : bl < w'.heap.size := (by have := hLe.size; (try simp at this); omega)
              refine wpOp_yes rfl rfl rfl e36 (fun K hK => ?_)
              go_simp
              exact hK _ _ ⟨_, rfl, Below.refl _ _, rfl⟩
            apply free_is
            · intro a' w' hLe hfr hdep
              have e36 : a'.tmps.getD 36 undef = _ := hdep 19 36 (Nat.le_of_ble_eq_true rfl) rfl rfl
              conv at e36 => rhs; whnf
              have f36 := e36; simp only [Array.getD_eq_getD_getElem?] at f36
              have e3 := hfr 3 rfl
              conv at e3 => rhs; whnf
              have f3 := e3; simp only [Array.getD_eq_getD_getElem?] at f3
              refine wpOp_yes rfl rfl rfl e36 (fun K hK => ?_)
              go_simp
              exact hK _ _ ⟨_, rfl, Below.refl _ _, rfl⟩
            apply free_is
            · intro a' w' hLe hfr hdep
              have e36 : a'.tmps.getD 36 undef = _ := hdep 19 36 (Nat.le_of_ble_eq_true rfl) rfl rfl
              conv at e36 => rhs; whnf
              have f36 := e36; simp only [Array.getD_eq_getD_getElem?] at f36
              have e41 : a'.tmps.getD 41 undef = _ := hdep 24 41 (Nat.le_of_ble_eq_true rfl) rfl rfl
              conv at e41 => rhs; whnf
              have f41 := e41; simp only [Array.getD_eq_getD_getElem?] at f41
              refine wpOp_yes rfl rfl rfl e36 (fun K hK => ?_)
              go_simp
              exact hK _ _ ⟨_, rfl, Below.refl _ _, rfl⟩
            apply free_is
            · intro a' w' hLe hfr hdep
              have e36 : a'.tmps.getD 36 undef = _ := hdep 19 36 (Nat.le_of_ble_eq_true rfl) rfl rfl
              conv at e36 => rhs; whnf
              have f36 := e36; simp only [Array.getD_eq_getD_getElem?] at f36
              have e40 : a'.tmps.getD 40 undef = _ := hdep 23 40 (Nat.le_of_ble_eq_true rfl) rfl rfl
              conv at e40 => rhs; whnf
              have f40 := e40; simp only [Array.getD_eq_getD_getElem?] at f40
              have e42 : a'.tmps.getD 42 undef = _ := hdep 25 42 (Nat.le_of_ble_eq_true rfl) rfl rfl
              conv at e42 => rhs; whnf
              have f42 := e42; simp only [Array.getD_eq_getD_getElem?] at f42
              refine wpOp_yes rfl rfl rfl e36 (fun K hK => ?_)
              go_simp
              exact hK _ _ ⟨_, rfl, Below.refl _ _, rfl⟩
            apply free_is
            · intro a' w' hLe hfr hdep
              have e36 : a'.tmps.getD 36 undef = _ := hdep 19 36 (Nat.le_of_ble_eq_true rfl) rfl rfl
              conv at e36 => rhs; whnf
              have f36 := e36; simp only [Array.getD_eq_getD_getElem?] at f36
              have e43 : a'.tmps.getD 43 undef = _ := hdep 26 43 (Nat.le_of_ble_eq_true rfl) rfl rfl
              conv at e43 => rhs; whnf
              have f43 := e43; simp only [Array.getD_eq_getD_getElem?] at f43
              refine wpOp_yes rfl rfl rfl e36 (fun K hK => ?_)
              go_simp
              exact hK _ _ ⟨_, rfl, Below.refl _ _, rfl⟩
            apply free_is
            · intro a' w' hLe hfr hdep
              have e36 : a'.tmps.getD 36 undef = _ := hdep 19 36 (Nat.le_of_ble_eq_true rfl) rfl rfl
              conv at e36 => rhs; whnf
              have f36 := e36; simp only [Array.getD_eq_getD_getElem?] at f36
              have e44 : a'.tmps.getD 44 undef = _ := hdep 27 44 (Nat.le_of_ble_eq_true rfl) rfl rfl
              conv at e44 => rhs; whnf
              have f44 := e44; simp only [Array.getD_eq_getD_getElem?] at f44
              have kc := fun i => keepc hLe (wr.heap.size) (by (try simp) <;> omega) i
              have kf := fun i => keepf hLe (wr.heap.size) (by (try simp) <;> omega) i
              have kz : wr.heap.size < w'.heap.size := (by have := hLe.size; (try simp at this); omega)
              have kc := fun i => keepc hLe (w.heap.size) (by (try simp) <;> omega) i
              have kf := fun i => keepf hLe (w.heap.size) (by (try simp) <;> omega) i
              have kz : w.heap.size < w'.heap.size := (by have := hLe.size; (try simp at this); omega)
              have kc := fun i => keepc hLe (bl) (by (try simp) <;> omega) i
              have kf := fun i => keepf hLe (bl) (by (try simp) <;> omega) i
              have kz : bl < w'.heap.size := (by have := hLe.size; (try simp at this); omega)
              refine wpOp_yes rfl rfl rfl e36 (fun K hK => ?_)
              go_simp
              exact hK _ _ ⟨_, rfl, Below.refl _ _, rfl⟩
            apply free_is
            · intro a' w' hLe hfr hdep
              have e36 : a'.tmps.getD 36 undef = _ := hdep 19 36 (Nat.le_of_ble_eq_true rfl) rfl rfl
              conv at e36 => rhs; whnf
              have f36 := e36; simp only [Array.getD_eq_getD_getElem?] at f36
              have e38 : a'.tmps.getD 38 undef = _ := hdep 21 38 (Nat.le_of_ble_eq_true rfl) rfl rfl
              conv at e38 => rhs; whnf
              have f38 := e38; simp only [Array.getD_eq_getD_getElem?] at f38
              have e45 : a'.tmps.getD 45 undef = _ := hdep 28 45 (Nat.le_of_ble_eq_true rfl) rfl rfl
              conv at e45 => rhs; whnf
              have f45 := e45; simp only [Array.getD_eq_getD_getElem?] at f45
              refine wpOp_yes rfl rfl rfl e36 (fun K hK => ?_)
              go_simp
              exact hK _ _ ⟨_, rfl, Below.refl _ _, rfl⟩
            apply free_is
            · intro a' w' hLe hfr hdep
              have e33 : a'.tmps.getD 33 undef = _ := hdep 16 33 (Nat.le_of_ble_eq_true rfl) rfl rfl
              conv at e33 => rhs; whnf
              have f33 := e33; simp only [Array.getD_eq_getD_getElem?] at f33
              have e36 : a'.tmps.getD 36 undef = _ := hdep 19 36 (Nat.le_of_ble_eq_true rfl) rfl rfl
              conv at e36 => rhs; whnf
              have f36 := e36; simp only [Array.getD_eq_getD_getElem?] at f36
              have e46 : a'.tmps.getD 46 undef = _ := hdep 29 46 (Nat.le_of_ble_eq_true rfl) rfl rfl
              conv at e46 => rhs; whnf
              have f46 := e46; simp only [Array.getD_eq_getD_getElem?] at f46
              refine wpOp_yes rfl rfl rfl e33 (fun K hK => ?_)
              go_simp
              exact hK _ _ ⟨_, rfl, Below.refl _ _, rfl⟩
            apply free_is
            · intro a' w' hLe hfr hdep
              have e33 : a'.tmps.getD 33 undef = _ := hdep 16 33 (Nat.le_of_ble_eq_true rfl) rfl rfl
              conv at e33 => rhs; whnf
              have f33 := e33; simp only [Array.getD_eq_getD_getElem?] at f33
              have e47 : a'.tmps.getD 47 undef = _ := hdep 30 47 (Nat.le_of_ble_eq_true rfl) rfl rfl
              conv at e47 => rhs; whnf
              have f47 := e47; simp only [Array.getD_eq_getD_getElem?] at f47
              refine wpOp_plain rfl rfl (fun K hK => ?_)
              go_simp
              exact hK _ _ ⟨_, rfl, Below.refl _ _, rfl⟩
            apply free_is
            · intro a' w' hLe hfr hdep
              have e48 : a'.tmps.getD 48 undef = _ := hdep 31 48 (Nat.le_of_ble_eq_true rfl) rfl rfl
              conv at e48 => rhs; whnf
              have f48 := e48; simp only [Array.getD_eq_getD_getElem?] at f48
              refine wpOp_plain rfl rfl (fun K hK => ?_)
              go_simp
              exact hK _ _ ⟨_, rfl, Below.refl _ _, rfl⟩
            apply free_is
            · intro a' w' hLe hfr hdep
              have e49 : a'.tmps.getD 49 undef = _ := hdep 32 49 (Nat.le_of_ble_eq_true rfl) rfl rfl
              conv at e49 => rhs; whnf
              have f49 := e49; simp only [Array.getD_eq_getD_getElem?] at f49
              have e1 := hfr 1 rfl
              conv at e1 => rhs; whnf
              have f1 := e1; simp only [Array.getD_eq_getD_getElem?] at f1
              refine wpOp_yes rfl rfl rfl e49 (fun K hK => ?_)
              go_simp
              exact hK _ _ ⟨_, rfl, Below.refl _ _, rfl⟩
            apply free_is
            · intro a' w' hLe hfr hdep
              have e49 : a'.tmps.getD 49 undef = _ := hdep 32 49 (Nat.le_of_ble_eq_true rfl) rfl rfl
              conv at e49 => rhs; whnf
              have f49 := e49; simp only [Array.getD_eq_getD_getElem?] at f49
              have e50 : a'.tmps.getD 50 undef = _ := hdep 33 50 (Nat.le_of_ble_eq_true rfl) rfl rfl
              conv at e50 => rhs; whnf
              have f50 := e50; simp only [Array.getD_eq_getD_getElem?] at f50
              have kc := fun i => keepc hLe (wr.heap.size) (by (try simp) <;> omega) i
              have kf := fun i => keepf hLe (wr.heap.size) (by (try simp) <;> omega) i
              have kz : wr.heap.size < w'.heap.size := (by have := hLe.size; (try simp at this); omega)
              have kc := fun i => keepc hLe (w.heap.size) (by (try simp) <;> omega) i
              have kf := fun i => keepf hLe (w.heap.size) (by (try simp) <;> omega) i
              have kz : w.heap.size < w'.heap.size := (by have := hLe.size; (try simp at this); omega)
              have kc := fun i => keepc hLe (bl) (by (try simp) <;> omega) i
              have kf := fun i => keepf hLe (bl) (by (try simp) <;> omega) i
              have kz : bl < w'.heap.size := (by have := hLe.size; (try simp at this); omega)
              refine wpOp_yes rfl rfl rfl e49 (fun K hK => ?_)
              go_simp
              exact hK _ _ ⟨_, rfl, Below.refl _ _, rfl⟩
            apply free_is
            · intro a' w' hLe hfr hdep
              have e49 : a'.tmps.getD 49 undef = _ := hdep 32 49 (Nat.le_of_ble_eq_true rfl) rfl rfl
              conv at e49 => rhs; whnf
              have f49 := e49; simp only [Array.getD_eq_getD_getElem?] at f49
              have e3 := hfr 3 rfl
              conv at e3 => rhs; whnf
              have f3 := e3; simp only [Array.getD_eq_getD_getElem?] at f3
              refine wpOp_yes rfl rfl rfl e49 (fun K hK => ?_)
              go_simp
              exact hK _ _ ⟨_, rfl, Below.refl _ _, rfl⟩
            apply free_is
            · intro a' w' hLe hfr hdep
              have e49 : a'.tmps.getD 49 undef = _ := hdep 32 49 (Nat.le_of_ble_eq_true rfl) rfl rfl
              conv at e49 => rhs; whnf
              have f49 := e49; simp only [Array.getD_eq_getD_getElem?] at f49
              have e51 : a'.tmps.getD 51 undef = _ := hdep 34 51 (Nat.le_of_ble_eq_true rfl) rfl rfl
              conv at e51 => rhs; whnf
              have f51 := e51; simp only [Array.getD_eq_getD_getElem?] at f51
              have e52 : a'.tmps.getD 52 undef = _ := hdep 35 52 (Nat.le_of_ble_eq_true rfl) rfl rfl
              conv at e52 => rhs; whnf
              have f52 := e52; simp only [Array.getD_eq_getD_getElem?] at f52
              refine wpOp_yes rfl rfl rfl e49 (fun K hK => ?_)
              go_simp
              exact hK _ _ ⟨_, rfl, Below.refl _ _, rfl⟩
            apply free_is
            · intro a' w' hLe hfr hdep
              have e49 : a'.tmps.getD 49 undef = _ := hdep 32 49 (Nat.le_of_ble_eq_true rfl) rfl rfl
              conv at e49 => rhs; whnf
              have f49 := e49; simp only [Array.getD_eq_getD_getElem?] at f49
              have e4 := hfr 4 rfl
              conv at e4 => rhs; whnf
              have f4 := e4; simp only [Array.getD_eq_getD_getElem?] at f4
              refine wpOp_yes rfl rfl rfl e49 (fun K hK => ?_)
              go_simp
              exact hK _ _ ⟨_, rfl, Below.refl _ _, rfl⟩
            apply free_is
            · intro a' w' hLe hfr hdep
              have e49 : a'.tmps.getD 49 undef = _ := hdep 32 49 (Nat.le_of_ble_eq_true rfl) rfl rfl
              conv at e49 => rhs; whnf
              have f49 := e49; simp only [Array.getD_eq_getD_getElem?] at f49
              have e54 : a'.tmps.getD 54 undef = _ := hdep 37 54 (Nat.le_of_ble_eq_true rfl) rfl rfl
              conv at e54 => rhs; whnf
              have f54 := e54; simp only [Array.getD_eq_getD_getElem?] at f54
              have kc := fun i => keepc hLe (wr.heap.size) (by (try simp) <;> omega) i
              have kf := fun i => keepf hLe (wr.heap.size) (by (try simp) <;> omega) i
              have kz : wr.heap.size < w'.heap.size := (by have := hLe.size; (try simp at this); omega)
              have kc := fun i => keepc hLe (w.heap.size) (by (try simp) <;> omega) i
              have kf := fun i => keepf hLe (w.heap.size) (by (try simp) <;> omega) i
              have kz : w.heap.size < w'.heap.size := (by have := hLe.size; (try simp at this); omega)
              have kc := fun i => keepc hLe (bl) (by (try simp) <;> omega) i
              have kf := fun i => keepf hLe (bl) (by (try simp) <;> omega) i
              have kz : bl < w'.heap.size := (by have := hLe.size; (try simp at this); omega)
              refine wpOp_yes rfl rfl rfl e49 (fun K hK => ?_)
              go_simp
              exact hK _ _ ⟨_, rfl, Below.refl _ _, rfl⟩
            apply free_is
            · intro a' w' hLe hfr hdep
              have e49 : a'.tmps.getD 49 undef = _ := hdep 32 49 (Nat.le_of_ble_eq_true rfl) rfl rfl
              conv at e49 => rhs; whnf
              have f49 := e49; simp only [Array.getD_eq_getD_getElem?] at f49
              have e53 : a'.tmps.getD 53 undef = _ := hdep 36 53 (Nat.le_of_ble_eq_true rfl) rfl rfl
              conv at e53 => rhs; whnf
              have f53 := e53; simp only [Array.getD_eq_getD_getElem?] at f53
              have e55 : a'.tmps.getD 55 undef = _ := hdep 38 55 (Nat.le_of_ble_eq_true rfl) rfl rfl
              conv at e55 => rhs; whnf
              have f55 := e55; simp only [Array.getD_eq_getD_getElem?] at f55
              have kc := fun i => keepc hLe (wr.heap.size) (by (try simp) <;> omega) i
              have kf := fun i => keepf hLe (wr.heap.size) (by (try simp) <;> omega) i
              have kz : wr.heap.size < w'.heap.size := (by have := hLe.size; (try simp at this); omega)
              have kc := fun i => keepc hLe (w.heap.size) (by (try simp) <;> omega) i
              have kf := fun i => keepf hLe (w.heap.size) (by (try simp) <;> omega) i
              have kz : w.heap.size < w'.heap.size := (by have := hLe.size; (try simp at this); omega)
              have kc := fun i => keepc hLe (bl) (by (try simp) <;> omega) i
              have kf := fun i => keepf hLe (bl) (by (try simp) <;> omega) i
              have kz : bl < w'.heap.size := (by have := hLe.size; (try simp at this); omega)
              refine wpOp_yes rfl rfl rfl e49 (fun K hK => ?_)
              go_simp
              refine (hpl _ (Below.tr hB0 (Below.tr hbel hLe))).mono ?_
              rintro e w2 ⟨rfl, hb⟩
              exact hK _ _ ⟨_, rfl, hb, rfl⟩
            apply free_is
            · intro a' w' hLe hfr hdep
              have e49 : a'.tmps.getD 49 undef = _ := hdep 32 49 (Nat.le_of_ble_eq_true rfl) rfl rfl
              conv at e49 => rhs; whnf
              have f49 := e49; simp only [Array.getD_eq_getD_getElem?] at f49
              have e56 : a'.tmps.getD 56 undef = _ := hdep 39 56 (Nat.le_of_ble_eq_true rfl) rfl rfl
              conv at e56 => rhs; whnf
              have f56 := e56; simp only [Array.getD_eq_getD_getElem?] at f56
              refine wpOp_yes rfl rfl rfl e49 (fun K hK => ?_)
              go_simp
              exact hK _ _ ⟨_, rfl, Below.refl _ _, rfl⟩
            apply free_is
            · intro a' w' hLe hfr hdep
              have e49 : a'.tmps.getD 49 undef = _ := hdep 32 49 (Nat.le_of_ble_eq_true rfl) rfl rfl
              conv at e49 => rhs; whnf
              have f49 := e49; simp only [Array.getD_eq_getD_getElem?] at f49
              have e57 : a'.tmps.getD 57 undef = _ := hdep 40 57 (Nat.le_of_ble_eq_true rfl) rfl rfl
              conv at e57 => rhs; whnf
              have f57 := e57; simp only [Array.getD_eq_getD_getElem?] at f57
              refine wpOp_plain rfl rfl (fun K hK => ?_)
              go_simp
              exact hK _ _ ⟨_, rfl, Below.refl _ _, rfl⟩
            apply free_nil
            intro vs w1 hb1 hT1
            have e17 : vs 0 = _ := hT1 0 17 rfl
            conv at e17 => rhs; whnf
            have e18 : vs 1 = _ := hT1 1 18 rfl
            conv at e18 => rhs; whnf
            have e19 : vs 2 = _ := hT1 2 19 rfl
            conv at e19 => rhs; whnf
            have e20 : vs 3 = _ := hT1 3 20 rfl
            conv at e20 => rhs; whnf
            have e21 : vs 4 = _ := hT1 4 21 rfl
            conv at e21 => rhs; whnf
            have e22 : vs 5 = _ := hT1 5 22 rfl
            conv at e22 => rhs; whnf
            have e23 : vs 6 = _ := hT1 6 23 rfl
            conv at e23 => rhs; whnf
            have e24 : vs 7 = _ := hT1 7 24 rfl
            conv at e24 => rhs; whnf
            have e25 : vs 8 = _ := hT1 8 25 rfl
            conv at e25 => rhs; whnf
            have e26 : vs 9 = _ := hT1 9 26 rfl
            conv at e26 => rhs; whnf
            have e27 : vs 10 = _ := hT1 10 27 rfl
            conv at e27 => rhs; whnf
            have e28 : vs 11 = _ := hT1 11 28 rfl
            conv at e28 => rhs; whnf
            have e29 : vs 12 = _ := hT1 12 29 rfl
            conv at e29 => rhs; whnf
            have e30 : vs 13 = _ := hT1 13 30 rfl
            conv at e30 => rhs; whnf
            have e31 : vs 14 = _ := hT1 14 31 rfl
            conv at e31 => rhs; whnf
            have e32 : vs 15 = _ := hT1 15 32 rfl
            conv at e32 => rhs; whnf
            have e33 : vs 16 = _ := hT1 16 33 rfl
            conv at e33 => rhs; whnf
            have e34 : vs 17 = _ := hT1 17 34 rfl
            conv at e34 => rhs; whnf
            have e35 : vs 18 = _ := hT1 18 35 rfl
            conv at e35 => rhs; whnf
            have e36 : vs 19 = _ := hT1 19 36 rfl
            conv at e36 => rhs; whnf
            have e37 : vs 20 = _ := hT1 20 37 rfl
            conv at e37 => rhs; whnf
            have e38 : vs 21 = _ := hT1 21 38 rfl
            conv at e38 => rhs; whnf
            have e39 : vs 22 = _ := hT1 22 39 rfl
            conv at e39 => rhs; whnf
            have e40 : vs 23 = _ := hT1 23 40 rfl
            conv at e40 => rhs; whnf
            have e41 : vs 24 = _ := hT1 24 41 rfl
            conv at e41 => rhs; whnf
            have e42 : vs 25 = _ := hT1 25 42 rfl
            conv at e42 => rhs; whnf
            have e43 : vs 26 = _ := hT1 26 43 rfl
            conv at e43 => rhs; whnf
            have e44 : vs 27 = _ := hT1 27 44 rfl
            conv at e44 => rhs; whnf
            have e45 : vs 28 = _ := hT1 28 45 rfl
            conv at e45 => rhs; whnf
            have e46 : vs 29 = _ := hT1 29 46 rfl
            conv at e46 => rhs; whnf
            have e47 : vs 30 = _ := hT1 30 47 rfl
            conv at e47 => rhs; whnf
            have e48 : vs 31 = _ := hT1 31 48 rfl
            conv at e48 => rhs; whnf
            have e49 : vs 32 = _ := hT1 32 49 rfl
            conv at e49 => rhs; whnf
            have e50 : vs 33 = _ := hT1 33 50 rfl
            conv at e50 => rhs; whnf
            have e51 : vs 34 = _ := hT1 34 51 rfl
            conv at e51 => rhs; whnf
            have e52 : vs 35 = _ := hT1 35 52 rfl
            conv at e52 => rhs; whnf
            have e53 : vs 36 = _ := hT1 36 53 rfl
            conv at e53 => rhs; whnf
            have e54 : vs 37 = _ := hT1 37 54 rfl
            conv at e54 => rhs; whnf
            have e55 : vs 38 = _ := hT1 38 55 rfl
            conv at e55 => rhs; whnf
            have e56 : vs 39 = _ := hT1 39 56 rfl
            conv at e56 => rhs; whnf
            have e57 : vs 40 = _ := hT1 40 57 rfl
            conv at e57 => rhs; whnf
            have e58 : vs 41 = _ := hT1 41 58 rfl
            conv at e58 => rhs; whnf
            simp only [putAll, List.drop_succ_cons, List.drop_zero, e17, e18, e19, e20, e21, e22, e23, e24, e25, e26, e27, e28, e29, e30, e31, e32, e33, e34, e35, e36, e37, e38, e39, e40, e41, e42, e43, e44, e45, e46, e47, e48, e49, e50, e51, e52, e53, e54, e55, e56, e57, e58]
            clear hT1 e17 e18 e19 e20 e21 e22 e23 e24 e25 e26 e27 e28 e29 e30 e31 e32 e33 e34 e35 e36 e37 e38 e39 e40 e41 e42 e43 e44 e45 e46 e47 e48 e49 e50 e51 e52 e53 e54 e55 e56 e57 e58
            go_simp
            go_wp2
            go_ret
            exact ⟨by rw [hno.out] <;> rfl, Below.tr hB0 (Below.tr hbel hb1)⟩
          · have hdp : decide (0 ≤ P) = false := by simpa using hp
            have hno := Lib.hid (taOk_yes (t := to) (l := la) (hin.symm.trans hdp) (by simp [enOk, h1, h2, h3, h5]))
            clear hc hrow hin
            go_wp2
            refine wp_region_free (ds := [(0, 17), (1, 18), (2, 19), (3, 20), (4, 21), (5, 22), (6, 23), (7, 24), (8, 25), (9, 26), (10, 27), (11, 28), (12, 29), (13, 30), (14, 31), (15, 32), (16, 33), (17, 34), (18, 35), (19, 36), (20, 37), (21, 38), (22, 39), (23, 40), (24, 41), (25, 42), (26, 43), (27, 44), (28, 45), (29, 46), (30, 47), (31, 48), (32, 49), (33, 50), (34, 51), (35, 52), (36, 53), (37, 54), (38, 55), (39, 56), (40, 57), (41, 58)]) 42 (by kernel_rfl) (by kernel_rfl) (by first | exact .inl rfl | exact .inr (by kernel_rfl)) (by rfl) rfl rfl ?_
            apply free_is
            · intro a' w' hLe hfr hdep
              have e4 := hfr 4 rfl
              conv at e4 => rhs; whnf
              have f4 := e4; simp only [Array.getD_eq_getD_getElem?] at f4
              refine wpOp_plain rfl rfl (fun K hK => ?_)
              go_simp
              exact hK _ _ ⟨_, rfl, Below.refl _ _, rfl⟩
            apply free_is
            · intro a' w' hLe hfr hdep
              have e17 : a'.tmps.getD 17 undef = _ := hdep 0 17 (Nat.le_of_ble_eq_true rfl) rfl rfl
              conv at e17 => rhs; whnf
              have f17 := e17; simp only [Array.getD_eq_getD_getElem?] at f17
              have kc := fun i => keepc hLe (wr.heap.size) (by (try simp) <;> omega) i
              have kf := fun i => keepf hLe (wr.heap.size) (by (try simp) <;> omega) i
              have kz : wr.heap.size < w'.heap.size := (by have := hLe.size; (try simp at this); omega)
              have kc := fun i => keepc hLe (w.heap.size) (by (try simp) <;> omega) i
              have kf := fun i => keepf hLe (w.heap.size) (by (try simp) <;> omega) i
              have kz : w.heap.size < w'.heap.size := (by have := hLe.size; (try simp at this); omega)
              have kc := fun i => keepc hLe (bl) (by (try simp) <;> omega) i
              have kf := fun i => keepf hLe (bl) (by (try simp) <;> omega) i
              have kz : bl < w'.heap.size := (by have := hLe.size; (try simp at this); omega)
              refine wpOp_plain rfl rfl (fun K hK => ?_)
              go_simp
              exact hK _ _ ⟨_, rfl, Below.refl _ _, rfl⟩
            apply free_is
            · intro a' w' hLe hfr hdep
              have e18 : a'.tmps.getD 18 undef = _ := hdep 1 18 (Nat.le_of_ble_eq_true rfl) rfl rfl
              conv at e18 => rhs; whnf
              have f18 := e18; simp only [Array.getD_eq_getD_getElem?] at f18
              have kc := fun i => keepc hLe (wr.heap.size) (by (try simp) <;> omega) i
              have kf := fun i => keepf hLe (wr.heap.size) (by (try simp) <;> omega) i
              have kz : wr.heap.size < w'.heap.size := (by have := hLe.size; (try simp at this); omega)
              have kc := fun i => keepc hLe (w.heap.size) (by (try simp) <;> omega) i
              have kf := fun i => keepf hLe (w.heap.size) (by (try simp) <;> omega) i
              have kz : w.heap.size < w'.heap.size := (by have := hLe.size; (try simp at this); omega)
              have kc := fun i => keepc hLe (bl) (by (try simp) <;> omega) i
              have kf := fun i => keepf hLe (bl) (by (try simp) <;> omega) i
              have kz : bl < w'.heap.size := (by have := hLe.size; (try simp at this); omega)
              refine wpOp_plain rfl rfl (fun K hK => ?_)
              go_simp
              refine (specFlowValid_b _ _ _ _ _ _).mono ?_
              rintro e w2 ⟨rfl, hb⟩
              exact hK _ _ ⟨_, rfl, hb, rfl⟩
            apply free_is
            · intro a' w' hLe hfr hdep
              have e19 : a'.tmps.getD 19 undef = _ := hdep 2 19 (Nat.le_of_ble_eq_true rfl) rfl rfl
              conv at e19 => rhs; whnf
              have f19 := e19; simp only [Array.getD_eq_getD_getElem?] at f19
              refine wpOp_plain rfl rfl (fun K hK => ?_)
              go_simp
              exact hK _ _ ⟨_, rfl, Below.refl _ _, rfl⟩
            apply free_is
            · intro a' w' hLe hfr hdep
              have e20 : a'.tmps.getD 20 undef = _ := hdep 3 20 (Nat.le_of_ble_eq_true rfl) rfl rfl
              conv at e20 => rhs; whnf
              have f20 := e20; simp only [Array.getD_eq_getD_getElem?] at f20
              refine wpOp_plain rfl rfl (fun K hK => ?_)
              go_simp
              exact hK _ _ ⟨_, rfl, Below.refl _ _, rfl⟩
            apply free_is
            · intro a' w' hLe hfr hdep
              have e21 : a'.tmps.getD 21 undef = _ := hdep 4 21 (Nat.le_of_ble_eq_true rfl) rfl rfl
              conv at e21 => rhs; whnf
              have f21 := e21; simp only [Array.getD_eq_getD_getElem?] at f21
              have e4 := hfr 4 rfl
              conv at e4 => rhs; whnf
              have f4 := e4; simp only [Array.getD_eq_getD_getElem?] at f4
              refine wpOp_yes rfl rfl rfl e21 (fun K hK => ?_)
              go_simp
              exact hK _ _ ⟨_, rfl, Below.refl _ _, rfl⟩
            apply free_is
            · intro a' w' hLe hfr hdep
              have e21 : a'.tmps.getD 21 undef = _ := hdep 4 21 (Nat.le_of_ble_eq_true rfl) rfl rfl
              conv at e21 => rhs; whnf
              have f21 := e21; simp only [Array.getD_eq_getD_getElem?] at f21
              have e22 : a'.tmps.getD 22 undef = _ := hdep 5 22 (Nat.le_of_ble_eq_true rfl) rfl rfl
              conv at e22 => rhs; whnf
              have f22 := e22; simp only [Array.getD_eq_getD_getElem?] at f22
              have kc := fun i => keepc hLe (wr.heap.size) (by (try simp) <;> omega) i
              have kf := fun i => keepf hLe (wr.heap.size) (by (try simp) <;> omega) i
              have kz : wr.heap.size < w'.heap.size := (by have := hLe.size; (try simp at this); omega)
              have kc := fun i => keepc hLe (w.heap.size) (by (try simp) <;> omega) i
              have kf := fun i => keepf hLe (w.heap.size) (by (try simp) <;> omega) i
              have kz : w.heap.size < w'.heap.size := (by have := hLe.size; (try simp at this); omega)
              have kc := fun i => keepc hLe (bl) (by (try simp) <;> omega) i
              have kf := fun i => keepf hLe (bl) (by (try simp) <;> omega) i
              have kz : bl < w'.heap.size := (by have := hLe.size; (try simp at this); omega)
              refine wpOp_yes rfl rfl rfl e21 (fun K hK => ?_)
              go_simp
              exact hK _ _ ⟨_, rfl, Below.refl _ _, rfl⟩
            apply free_is
            · intro a' w' hLe hfr hdep
              have e21 : a'.tmps.getD 21 undef = _ := hdep 4 21 (Nat.le_of_ble_eq_true rfl) rfl rfl
              conv at e21 => rhs; whnf
              have f21 := e21; simp only [Array.getD_eq_getD_getElem?] at f21
              have e23 : a'.tmps.getD 23 undef = _ := hdep 6 23 (Nat.le_of_ble_eq_true rfl) rfl rfl
              conv at e23 => rhs; whnf
              have f23 := e23; simp only [Array.getD_eq_getD_getElem?] at f23
              have kc := fun i => keepc hLe (wr.heap.size) (by (try simp) <;> omega) i
              have kf := fun i => keepf hLe (wr.heap.size) (by (try simp) <;> omega) i
              have kz : wr.heap.size < w'.heap.size := (by have := hLe.size; (try simp at this); omega)
              have kc := fun i => keepc hLe (w.heap.size) (by (try simp) <;> omega) i
              have kf := fun i => keepf hLe (w.heap.size) (by (try simp) <;> omega) i
              have kz : w.heap.size < w'.heap.size := (by have := hLe.size; (try simp at this); omega)
              have kc := fun i => keepc hLe (bl) (by (try simp) <;> omega) i
              have kf := fun i => keepf hLe (bl) (by (try simp) <;> omega) i
              have kz : bl < w'.heap.size := (by have := hLe.size; (try simp at this); omega)
              refine wpOp_yes rfl rfl rfl e21 (fun K hK => ?_)
              go_simp
              refine (l1In_any _ _ _ _).mono ?_
              rintro e w2 ⟨rfl, rfl⟩
              exact hK _ _ ⟨_, rfl, Below.refl _ _, rfl⟩
            apply free_is
            · intro a' w' hLe hfr hdep
              have e21 : a'.tmps.getD 21 undef = _ := hdep 4 21 (Nat.le_of_ble_eq_true rfl) rfl rfl
              conv at e21 => rhs; whnf
              have f21 := e21; simp only [Array.getD_eq_getD_getElem?] at f21
              have e24 : a'.tmps.getD 24 undef = _ := hdep 7 24 (Nat.le_of_ble_eq_true rfl) rfl rfl
              conv at e24 => rhs; whnf
              have f24 := e24; simp only [Array.getD_eq_getD_getElem?] at f24
              refine wpOp_yes rfl rfl rfl e21 (fun K hK => ?_)
              go_simp
              exact hK _ _ ⟨_, rfl, Below.refl _ _, rfl⟩
            apply free_is
            · intro a' w' hLe hfr hdep
              have e21 : a'.tmps.getD 21 undef = _ := hdep 4 21 (Nat.le_of_ble_eq_true rfl) rfl rfl
              conv at e21 => rhs; whnf
              have f21 := e21; simp only [Array.getD_eq_getD_getElem?] at f21
              have e25 : a'.tmps.getD 25 undef = _ := hdep 8 25 (Nat.le_of_ble_eq_true rfl) rfl rfl
              conv at e25 => rhs; whnf
              have f25 := e25; simp only [Array.getD_eq_getD_getElem?] at f25
              refine wpOp_plain rfl rfl (fun K hK => ?_)
              go_simp
              exact hK _ _ ⟨_, rfl, Below.refl _ _, rfl⟩
            apply free_is
            · intro a' w' hLe hfr hdep
              have e26 : a'.tmps.getD 26 undef = _ := hdep 9 26 (Nat.le_of_ble_eq_true rfl) rfl rfl
              conv at e26 => rhs; whnf
              have f26 := e26; simp only [Array.getD_eq_getD_getElem?] at f26
              refine wpOp_plain rfl rfl (fun K hK => ?_)
              go_simp
              exact hK _ _ ⟨_, rfl, Below.refl _ _, rfl⟩
            apply free_is
            · intro a' w' hLe hfr hdep
              have e27 : a'.tmps.getD 27 undef = _ := hdep 10 27 (Nat.le_of_ble_eq_true rfl) rfl rfl
              conv at e27 => rhs; whnf
              have f27 := e27; simp only [Array.getD_eq_getD_getElem?] at f27
              have e4 := hfr 4 rfl
              conv at e4 => rhs; whnf
              have f4 := e4; simp only [Array.getD_eq_getD_getElem?] at f4
              refine wpOp_yes rfl rfl rfl e27 (fun K hK => ?_)
              go_simp
              exact hK _ _ ⟨_, rfl, Below.refl _ _, rfl⟩
            apply free_is
            · intro a' w' hLe hfr hdep
              have e27 : a'.tmps.getD 27 undef = _ := hdep 10 27 (Nat.le_of_ble_eq_true rfl) rfl rfl
              conv at e27 => rhs; whnf
              have f27 := e27; simp only [Array.getD_eq_getD_getElem?] at f27
              have e28 : a'.tmps.getD 28 undef = _ := hdep 11 28 (Nat.le_of_ble_eq_true rfl) rfl rfl
              conv at e28 => rhs; whnf
              have f28 := e28; simp only [Array.getD_eq_getD_getElem?] at f28
              have kc := fun i => keepc hLe (wr.heap.size) (by (try simp) <;> omega) i
              have kf := fun i => keepf hLe (wr.heap.size) (by (try simp) <;> omega) i
              have kz : wr.heap.size < w'.heap.size := (by have := hLe.size; (try simp at this); omega)
              have kc := fun i => keepc hLe (w.heap.size) (by (try simp) <;> omega) i
              have kf := fun i => keepf hLe (w.heap.size) (by (try simp) <;> omega) i
              have kz : w.heap.size < w'.heap.size := (by have := hLe.size; (try simp at this); omega)
              have kc := fun i => keepc hLe (bl) (by (try simp) <;> omega) i
              have kf := fun i => keepf hLe (bl) (by (try simp) <;> omega) i
              have kz : bl < w'.heap.size := (by have := hLe.size; (try simp at this); omega)
              refine wpOp_yes rfl rfl rfl e27 (fun K hK => ?_)
              go_simp
              exact hK _ _ ⟨_, rfl, Below.refl _ _, rfl⟩
            apply free_is
            · intro a' w' hLe hfr hdep
              have e27 : a'.tmps.getD 27 undef = _ := hdep 10 27 (Nat.le_of_ble_eq_true rfl) rfl rfl
              conv at e27 => rhs; whnf
              have f27 := e27; simp only [Array.getD_eq_getD_getElem?] at f27
              have e29 : a'.tmps.getD 29 undef = _ := hdep 12 29 (Nat.le_of_ble_eq_true rfl) rfl rfl
              conv at e29 => rhs; whnf
              have f29 := e29; simp only [Array.getD_eq_getD_getElem?] at f29
              have kc := fun i => keepc hLe (wr.heap.size) (by (try simp) <;> omega) i
              have kf := fun i => keepf hLe (wr.heap.size) (by (try simp) <;> omega) i
              have kz : wr.heap.size < w'.heap.size := (by have := hLe.size; (try simp at this); omega)
              have kc := fun i => keepc hLe (w.heap.size) (by (try simp) <;> omega) i
              have kf := fun i => keepf hLe (w.heap.size) (by (try simp) <;> omega) i
              have kz : w.heap.size < w'.heap.size := (by have := hLe.size; (try simp at this); omega)
              have kc := fun i => keepc hLe (bl) (by (try simp) <;> omega) i
              have kf := fun i => keepf hLe (bl) (by (try simp) <;> omega) i
              have kz : bl < w'.heap.size := (by have := hLe.size; (try simp at this); omega)
              refine wpOp_yes rfl rfl rfl e27 (fun K hK => ?_)
              go_simp
              refine (l1In_any _ _ _ _).mono ?_
              rintro e w2 ⟨rfl, rfl⟩
              exact hK _ _ ⟨_, rfl, Below.refl _ _, rfl⟩
            apply free_is
            · intro a' w' hLe hfr hdep
              have e27 : a'.tmps.getD 27 undef = _ := hdep 10 27 (Nat.le_of_ble_eq_true rfl) rfl rfl
              conv at e27 => rhs; whnf
              have f27 := e27; simp only [Array.getD_eq_getD_getElem?] at f27
              have e30 : a'.tmps.getD 30 undef = _ := hdep 13 30 (Nat.le_of_ble_eq_true rfl) rfl rfl
              conv at e30 => rhs; whnf
              have f30 := e30; simp only [Array.getD_eq_getD_getElem?] at f30
              refine wpOp_yes rfl rfl rfl e27 (fun K hK => ?_)
              go_simp
              exact hK _ _ ⟨_, rfl, Below.refl _ _, rfl⟩
            apply free_is
            · intro a' w' hLe hfr hdep
              have e27 : a'.tmps.getD 27 undef = _ := hdep 10 27 (Nat.le_of_ble_eq_true rfl) rfl rfl
              conv at e27 => rhs; whnf
              have f27 := e27; simp only [Array.getD_eq_getD_getElem?] at f27
              have e31 : a'.tmps.getD 31 undef = _ := hdep 14 31 (Nat.le_of_ble_eq_true rfl) rfl rfl
              conv at e31 => rhs; whnf
              have f31 := e31; simp only [Array.getD_eq_getD_getElem?] at f31
              refine wpOp_plain rfl rfl (fun K hK => ?_)
              go_simp
              exact hK _ _ ⟨_, rfl, Below.refl _ _, rfl⟩
            apply free_is
            · intro a' w' hLe hfr hdep
              have e32 : a'.tmps.getD 32 undef = _ := hdep 15 32 (Nat.le_of_ble_eq_true rfl) rfl rfl
              conv at e32 => rhs; whnf
              have f32 := e32; simp only [Array.getD_eq_getD_getElem?] at f32
              refine wpOp_plain rfl rfl (fun K hK => ?_)
              go_simp
              exact hK _ _ ⟨_, rfl, Below.refl _ _, rfl⟩
            apply free_is
            · intro a' w' hLe hfr hdep
              have e33 : a'.tmps.getD 33 undef = _ := hdep 16 33 (Nat.le_of_ble_eq_true rfl) rfl rfl
              conv at e33 => rhs; whnf
              have f33 := e33; simp only [Array.getD_eq_getD_getElem?] at f33
              have e3 := hfr 3 rfl
              conv at e3 => rhs; whnf
              have f3 := e3; simp only [Array.getD_eq_getD_getElem?] at f3
              refine wpOp_yes rfl rfl rfl e33 (fun K hK => ?_)
              go_simp
              exact hK _ _ ⟨_, rfl, Below.refl _ _, rfl⟩
            apply free_is
            · intro a' w' hLe hfr hdep
              have e33 : a'.tmps.getD 33 undef = _ := hdep 16 33 (Nat.le_of_ble_eq_true rfl) rfl rfl
              conv at e33 => rhs; whnf
              have f33 := e33; simp only [Array.getD_eq_getD_getElem?] at f33
              have e34 : a'.tmps.getD 34 undef = _ := hdep 17 34 (Nat.le_of_ble_eq_true rfl) rfl rfl
              conv at e34 => rhs; whnf
              have f34 := e34; simp only [Array.getD_eq_getD_getElem?] at f34
              refine wpOp_yes rfl rfl rfl e33 (fun K hK => ?_)
              go_simp
              exact hK _ _ ⟨_, rfl, Below.refl _ _, rfl⟩
            apply free_is
            · intro a' w' hLe hfr hdep
              have e33 : a'.tmps.getD 33 undef = _ := hdep 16 33 (Nat.le_of_ble_eq_true rfl) rfl rfl
              conv at e33 => rhs; whnf
              have f33 := e33; simp only [Array.getD_eq_getD_getElem?] at f33
              have e35 : a'.tmps.getD 35 undef = _ := hdep 18 35 (Nat.le_of_ble_eq_true rfl) rfl rfl
              conv at e35 => rhs; whnf
              have f35 := e35; simp only [Array.getD_eq_getD_getElem?] at f35
              refine wpOp_yes rfl rfl rfl e33 (fun K hK => ?_)
              go_simp
              exact hK _ _ ⟨_, rfl, Below.refl _ _, rfl⟩
            apply free_is
            · intro a' w' hLe hfr hdep
              have e36 : a'.tmps.getD 36 undef = _ := hdep 19 36 (Nat.le_of_ble_eq_true rfl) rfl rfl
              conv at e36 => rhs; whnf
              have f36 := e36; simp only [Array.getD_eq_getD_getElem?] at f36
              have e4 := hfr 4 rfl
              conv at e4 => rhs; whnf
              have f4 := e4; simp only [Array.getD_eq_getD_getElem?] at f4
              refine wpOp_yes rfl rfl rfl e36 (fun K hK => ?_)
              go_simp
              exact hK _ _ ⟨_, rfl, Below.refl _ _, rfl⟩
            apply free_is
            · intro a' w' hLe hfr hdep
              have e36 : a'.tmps.getD 36 undef = _ := hdep 19 36 (Nat.le_of_ble_eq_true rfl) rfl rfl
              conv at e36 => rhs; whnf
              have f36 := e36; simp only [Array.getD_eq_getD_getElem?] at f36
              have e37 : a'.tmps.getD 37 undef = _ := hdep 20 37 (Nat.le_of_ble_eq_true rfl) rfl rfl
              conv at e37 => rhs; whnf
              have f37 := e37; simp only [Array.getD_eq_getD_getElem?] at f37
              have kc := fun i => keepc hLe (wr.heap.size) (by (try simp) <;> omega) i
              have kf := fun i => keepf hLe (wr.heap.size) (by (try simp) <;> omega) i
              have kz : wr.heap.size < w'.heap.size := (by have := hLe.size; (try simp at this); omega)
              have kc := fun i => keepc hLe (w.heap.size) (by (try simp) <;> omega) i
              have kf := fun i => keepf hLe (w.heap.size) (by (try simp) <;> omega) i
              have kz : w.heap.size < w'.heap.size := (by have := hLe.size; (try simp at this); omega)
              have kc := fun i => keepc hLe (bl) (by (try simp) <;> omega) i
              have kf := fun i => keepf hLe (bl) (by (try simp) <;> omega) i
              have kz : bl < w'.heap.size := (by have := hLe.size; (try simp at this); omega)
              refine wpOp_yes rfl rfl rfl e36 (fun K hK => ?_)
              go_simp
              exact hK _ _ ⟨_, rfl, Below.refl _ _, rfl⟩
            apply free_is
            · intro a' w' hLe hfr hdep
              have e36 : a'.tmps.getD 36 undef = _ := hdep 19 36 (Nat.le_of_ble_eq_true rfl) rfl rfl
              conv at e36 => rhs; whnf
              have f36 := e36; simp only [Array.getD_eq_getD_getElem?] at f36
              have e1 := hfr 1 rfl
              conv at e1 => rhs; whnf
              have f1 := e1; simp only [Array.getD_eq_getD_getElem?] at f1
              refine wpOp_yes rfl rfl rfl e36 (fun K hK => ?_)
              go_simp
              exact hK _ _ ⟨_, rfl, Below.refl _ _, rfl⟩
            apply free_is
            · intro a' w' hLe hfr hdep
              have e36 : a'.tmps.getD 36 undef = _ := hdep 19 36 (Nat.le_of_ble_eq_true rfl) rfl rfl
              conv at e36 => rhs; whnf
              have f36 := e36; simp only [Array.getD_eq_getD_getElem?] at f36
              have e39 : a'.tmps.getD 39 undef = _ := hdep 22 39 (Nat.le_of_ble_eq_true rfl) rfl rfl
              conv at e39 => rhs; whnf
              have f39 := e39; simp only [Array.getD_eq_getD_getElem?] at f39
              have kc := fun i => keepc hLe (wr.heap.size) (by (try simp) <;> omega) i
              have kf := fun i => keepf hLe (wr.heap.size) (by (try simp) <;> omega) i
              have kz : wr.heap.size < w'.heap.size := (by have := hLe.size; (try simp at this); omega)
              have kc := fun i => keepc hLe (w.heap.size) (by (try simp) <;> omega) i
              have kf := fun i => keepf hLe (w.heap.size) (by (try simp) <;> omega) i
              have kz : w.heap.size < w'.heap.size := (by have := hLe.size; (try simp at this); omega)
              have kc := fun i => keepc hLe (bl) (by (try simp) <;> omega) i
              have kf := fun i => keepf hLe (bl) (by (try simp) <;> omega) i
              have kz : bl < w'.heap.size := (by have := hLe.size; (try simp at this); omega)
              refine wpOp_yes rfl rfl rfl e36 (fun K hK => ?_)
              go_simp
              exact hK _ _ ⟨_, rfl, Below.refl _ _, rfl⟩
            apply free_is
            · intro a' w' hLe hfr hdep
              have e36 : a'.tmps.getD 36 undef = _ := hdep 19 36 (Nat.le_of_ble_eq_true rfl) rfl rfl
              conv at e36 => rhs; whnf
              have f36 := e36; simp only [Array.getD_eq_getD_getElem?] at f36
              have e3 := hfr 3 rfl
              conv at e3 => rhs; whnf
              have f3 := e3; simp only [Array.getD_eq_getD_getElem?] at f3
              refine wpOp_yes rfl rfl rfl e36 (fun K hK => ?_)
              go_simp
              exact hK _ _ ⟨_, rfl, Below.refl _ _, rfl⟩
            apply free_is
            · intro a' w' hLe hfr hdep
              have e36 : a'.tmps.getD 36 undef = _ := hdep 19 36 (Nat.le_of_ble_eq_true rfl) rfl rfl
              conv at e36 => rhs; whnf
              have f36 := e36; simp only [Array.getD_eq_getD_getElem?] at f36
              have e41 : a'.tmps.getD 41 undef = _ := hdep 24 41 (Nat.le_of_ble_eq_true rfl) rfl rfl
              conv at e41 => rhs; whnf
              have f41 := e41; simp only [Array.getD_eq_getD_getElem?] at f41
              refine wpOp_yes rfl rfl rfl e36 (fun K hK => ?_)
              go_simp
              exact hK _ _ ⟨_, rfl, Below.refl _ _, rfl⟩
            apply free_is
            · intro a' w' hLe hfr hdep
              have e36 : a'.tmps.getD 36 undef = _ := hdep 19 36 (Nat.le_of_ble_eq_true rfl) rfl rfl
              conv at e36 => rhs; whnf
              have f36 := e36; simp only [Array.getD_eq_getD_getElem?] at f36
              have e40 : a'.tmps.getD 40 undef = _ := hdep 23 40 (Nat.le_of_ble_eq_true rfl) rfl rfl
              conv at e40 => rhs; whnf
              have f40 := e40; simp only [Array.getD_eq_getD_getElem?] at f40
              have e42 : a'.tmps.getD 42 undef = _ := hdep 25 42 (Nat.le_of_ble_eq_true rfl) rfl rfl
              conv at e42 => rhs; whnf
              have f42 := e42; simp only [Array.getD_eq_getD_getElem?] at f42
              refine wpOp_yes rfl rfl rfl e36 (fun K hK => ?_)
              go_simp
              exact hK _ _ ⟨_, rfl, Below.refl _ _, rfl⟩
            apply free_is
            · intro a' w' hLe hfr hdep
              have e36 : a'.tmps.getD 36 undef = _ := hdep 19 36 (Nat.le_of_ble_eq_true rfl) rfl rfl
              conv at e36 => rhs; whnf
              have f36 := e36; simp only [Array.getD_eq_getD_getElem?] at f36
              have e43 : a'.tmps.getD 43 undef = _ := hdep 26 43 (Nat.le_of_ble_eq_true rfl) rfl rfl
              conv at e43 => rhs; whnf
              have f43 := e43; simp only [Array.getD_eq_getD_getElem?] at f43
              refine wpOp_yes rfl rfl rfl e36 (fun K hK => ?_)
              go_simp
              exact hK _ _ ⟨_, rfl, Below.refl _ _, rfl⟩
            apply free_is
            · intro a' w' hLe hfr hdep
              have e36 : a'.tmps.getD 36 undef = _ := hdep 19 36 (Nat.le_of_ble_eq_true rfl) rfl rfl
              conv at e36 => rhs; whnf
              have f36 := e36; simp only [Array.getD_eq_getD_getElem?] at f36
              have e44 : a'.tmps.getD 44 undef = _ := hdep 27 44 (Nat.le_of_ble_eq_true rfl) rfl rfl
              conv at e44 => rhs; whnf
              have f44 := e44; simp only [Array.getD_eq_getD_getElem?] at f44
              have kc := fun i => keepc hLe (wr.heap.size) (by (try simp) <;> omega) i
              have kf := fun i => keepf hLe (wr.heap.size) (by (try simp) <;> omega) i
              have kz : wr.heap.size < w'.heap.size := (by have := hLe.size; (try simp at this); omega)
              have kc := fun i => keepc hLe (w.heap.size) (by (try simp) <;> omega) i
              have kf := fun i => keepf hLe (w.heap.size) (by (try simp) <;> omega) i
              have kz : w.heap.size < w'.heap.size := (by have := hLe.size; (try simp at this); omega)
              have kc := fun i => keepc hLe (bl) (by (try simp) <;> omega) i
              have kf := fun i => keepf hLe (bl) (by (try simp) <;> omega) i
              have kz : bl < w'.heap.size := (by have := hLe.size; (try simp at this); omega)
              refine wpOp_yes rfl rfl rfl e36 (fun K hK => ?_)
              go_simp
              exact hK _ _ ⟨_, rfl, Below.refl _ _, rfl⟩
            apply free_is
            · intro a' w' hLe hfr hdep
              have e36 : a'.tmps.getD 36 undef = _ := hdep 19 36 (Nat.le_of_ble_eq_true rfl) rfl rfl
              conv at e36 => rhs; whnf
              have f36 := e36; simp only [Array.getD_eq_getD_getElem?] at f36
              have e38 : a'.tmps.getD 38 undef = _ := hdep 21 38 (Nat.le_of_ble_eq_true rfl) rfl rfl
              conv at e38 => rhs; whnf
              have f38 := e38; simp only [Array.getD_eq_getD_getElem?] at f38
              have e45 : a'.tmps.getD 45 undef = _ := hdep 28 45 (Nat.le_of_ble_eq_true rfl) rfl rfl
              conv at e45 => rhs; whnf
              have f45 := e45; simp only [Array.getD_eq_getD_getElem?] at f45
              refine wpOp_yes rfl rfl rfl e36 (fun K hK => ?_)
              go_simp
              exact hK _ _ ⟨_, rfl, Below.refl _ _, rfl⟩
            apply free_is
            · intro a' w' hLe hfr hdep
              have e33 : a'.tmps.getD 33 undef = _ := hdep 16 33 (Nat.le_of_ble_eq_true rfl) rfl rfl
              conv at e33 => rhs; whnf
              have f33 := e33; simp only [Array.getD_eq_getD_getElem?] at f33
              have e36 : a'.tmps.getD 36 undef = _ := hdep 19 36 (Nat.le_of_ble_eq_true rfl) rfl rfl
              conv at e36 => rhs; whnf
              have f36 := e36; simp only [Array.getD_eq_getD_getElem?] at f36
              have e46 : a'.tmps.getD 46 undef = _ := hdep 29 46 (Nat.le_of_ble_eq_true rfl) rfl rfl
              conv at e46 => rhs; whnf
              have f46 := e46; simp only [Array.getD_eq_getD_getElem?] at f46
              refine wpOp_yes rfl rfl rfl e33 (fun K hK => ?_)
              go_simp
              exact hK _ _ ⟨_, rfl, Below.refl _ _, rfl⟩
            apply free_is
            · intro a' w' hLe hfr hdep
              have e33 : a'.tmps.getD 33 undef = _ := hdep 16 33 (Nat.le_of_ble_eq_true rfl) rfl rfl
              conv at e33 => rhs; whnf
              have f33 := e33; simp only [Array.getD_eq_getD_getElem?] at f33
              have e47 : a'.tmps.getD 47 undef = _ := hdep 30 47 (Nat.le_of_ble_eq_true rfl) rfl rfl
              conv at e47 => rhs; whnf
              have f47 := e47; simp only [Array.getD_eq_getD_getElem?] at f47
              refine wpOp_plain rfl rfl (fun K hK => ?_)
              go_simp
              exact hK _ _ ⟨_, rfl, Below.refl _ _, rfl⟩
            apply free_is
            · intro a' w' hLe hfr hdep
              have e48 : a'.tmps.getD 48 undef = _ := hdep 31 48 (Nat.le_of_ble_eq_true rfl) rfl rfl
              conv at e48 => rhs; whnf
              have f48 := e48; simp only [Array.getD_eq_getD_getElem?] at f48
              refine wpOp_plain rfl rfl (fun K hK => ?_)
              go_simp
              exact hK _ _ ⟨_, rfl, Below.refl _ _, rfl⟩
            apply free_is
            · intro a' w' hLe hfr hdep
              have e49 : a'.tmps.getD 49 undef = _ := hdep 32 49 (Nat.le_of_ble_eq_true rfl) rfl rfl
              conv at e49 => rhs; whnf
              have f49 := e49; simp only [Array.getD_eq_getD_getElem?] at f49
              have e1 := hfr 1 rfl
              conv at e1 => rhs; whnf
              have f1 := e1; simp only [Array.getD_eq_getD_getElem?] at f1
              refine wpOp_yes rfl rfl rfl e49 (fun K hK => ?_)
              go_simp
              exact hK _ _ ⟨_, rfl, Below.refl _ _, rfl⟩
            apply free_is
            · intro a' w' hLe hfr hdep
              have e49 : a'.tmps.getD 49 undef = _ := hdep 32 49 (Nat.le_of_ble_eq_true rfl) rfl rfl
              conv at e49 => rhs; whnf
              have f49 := e49; simp only [Array.getD_eq_getD_getElem?] at f49
              have e50 : a'.tmps.getD 50 undef = _ := hdep 33 50 (Nat.le_of_ble_eq_true rfl) rfl rfl
              conv at e50 => rhs; whnf
              have f50 := e50; simp only [Array.getD_eq_getD_getElem?] at f50
              have kc := fun i => keepc hLe (wr.heap.size) (by (try simp) <;> omega) i
              have kf := fun i => keepf hLe (wr.heap.size) (by (try simp) <;> omega) i
              have kz : wr.heap.size < w'.heap.size := (by have := hLe.size; (try simp at this); omega)
              have kc := fun i => keepc hLe (w.heap.size) (by (try simp) <;> omega) i
              have kf := fun i => keepf hLe (w.heap.size) (by (try simp) <;> omega) i
              have kz : w.heap.size < w'.heap.size := (by have := hLe.size; (try simp at this); omega)
              have kc := fun i => keepc hLe (bl) (by (try simp) <;> omega) i
              have kf := fun i => keepf hLe (bl) (by (try simp) <;> omega) i
              have kz : bl < w'.heap.size := (by have := hLe.size; (try simp at this); omega)
              refine wpOp_yes rfl rfl rfl e49 (fun K hK => ?_)
              go_simp
              exact hK _ _ ⟨_, rfl, Below.refl _ _, rfl⟩
            apply free_is
            · intro a' w' hLe hfr hdep
              have e49 : a'.tmps.getD 49 undef = _ := hdep 32 49 (Nat.le_of_ble_eq_true rfl) rfl rfl
              conv at e49 => rhs; whnf
              have f49 := e49; simp only [Array.getD_eq_getD_getElem?] at f49
              have e3 := hfr 3 rfl
              conv at e3 => rhs; whnf
              have f3 := e3; simp only [Array.getD_eq_getD_getElem?] at f3
              refine wpOp_yes rfl rfl rfl e49 (fun K hK => ?_)
              go_simp
              exact hK _ _ ⟨_, rfl, Below.refl _ _, rfl⟩
            apply free_is
            · intro a' w' hLe hfr hdep
              have e49 : a'.tmps.getD 49 undef = _ := hdep 32 49 (Nat.le_of_ble_eq_true rfl) rfl rfl
              conv at e49 => rhs; whnf
              have f49 := e49; simp only [Array.getD_eq_getD_getElem?] at f49
              have e51 : a'.tmps.getD 51 undef = _ := hdep 34 51 (Nat.le_of_ble_eq_true rfl) rfl rfl
              conv at e51 => rhs; whnf
              have f51 := e51; simp only [Array.getD_eq_getD_getElem?] at f51
              have e52 : a'.tmps.getD 52 undef = _ := hdep 35 52 (Nat.le_of_ble_eq_true rfl) rfl rfl
              conv at e52 => rhs; whnf
              have f52 := e52; simp only [Array.getD_eq_getD_getElem?] at f52
              refine wpOp_yes rfl rfl rfl e49 (fun K hK => ?_)
              go_simp
              exact hK _ _ ⟨_, rfl, Below.refl _ _, rfl⟩
            apply free_is
            · intro a' w' hLe hfr hdep
              have e49 : a'.tmps.getD 49 undef = _ := hdep 32 49 (Nat.le_of_ble_eq_true rfl) rfl rfl
              conv at e49 => rhs; whnf
              have f49 := e49; simp only [Array.getD_eq_getD_getElem?] at f49
              have e4 := hfr 4 rfl
              conv at e4 => rhs; whnf
              have f4 := e4; simp only [Array.getD_eq_getD_getElem?] at f4
              refine wpOp_yes rfl rfl rfl e49 (fun K hK => ?_)
              go_simp
              exact hK _ _ ⟨_, rfl, Below.refl _ _, rfl⟩
            apply free_is
            · intro a' w' hLe hfr hdep
              have e49 : a'.tmps.getD 49 undef = _ := hdep 32 49 (Nat.le_of_ble_eq_true rfl) rfl rfl
              conv at e49 => rhs; whnf
              have f49 := e49; simp only [Array.getD_eq_getD_getElem?] at f49
              have e54 : a'.tmps.getD 54 undef = _ := hdep 37 54 (Nat.le_of_ble_eq_true rfl) rfl rfl
              conv at e54 => rhs; whnf
              have f54 := e54; simp only [Array.getD_eq_getD_getElem?] at f54
              have kc := fun i => keepc hLe (wr.heap.size) (by (try simp) <;> omega) i
              have kf := fun i => keepf hLe (wr.heap.size) (by (try simp) <;> omega) i
              have kz : wr.heap.size < w'.heap.size := (by have := hLe.size; (try simp at this); omega)
              have kc := fun i => keepc hLe (w.heap.size) (by (try simp) <;> omega) i
              have kf := fun i => keepf hLe (w.heap.size) (by (try simp) <;> omega) i
              have kz : w.heap.size < w'.heap.size := (by have := hLe.size; (try simp at this); omega)
              have kc := fun i => keepc hLe (bl) (by (try simp) <;> omega) i
              have kf := fun i => keepf hLe (bl) (by (try simp) <;> omega) i
              have kz : bl < w'.heap.size := (by have := hLe.size; (try simp at this); omega)
              refine wpOp_yes rfl rfl rfl e49 (fun K hK => ?_)
              go_simp
              exact hK _ _ ⟨_, rfl, Below.refl _ _, rfl⟩
            apply free_is
            · intro a' w' hLe hfr hdep
              have e49 : a'.tmps.getD 49 undef = _ := hdep 32 49 (Nat.le_of_ble_eq_true rfl) rfl rfl
              conv at e49 => rhs; whnf
              have f49 := e49; simp only [Array.getD_eq_getD_getElem?] at f49
              have e53 : a'.tmps.getD 53 undef = _ := hdep 36 53 (Nat.le_of_ble_eq_true rfl) rfl rfl
              conv at e53 => rhs; whnf
              have f53 := e53; simp only [Array.getD_eq_getD_getElem?] at f53
              have e55 : a'.tmps.getD 55 undef = _ := hdep 38 55 (Nat.le_of_ble_eq_true rfl) rfl rfl
              conv at e55 => rhs; whnf
              have f55 := e55; simp only [Array.getD_eq_getD_getElem?] at f55
              have kc := fun i => keepc hLe (wr.heap.size) (by (try simp) <;> omega) i
              have kf := fun i => keepf hLe (wr.heap.size) (by (try simp) <;> omega) i
              have kz : wr.heap.size < w'.heap.size := (by have := hLe.size; (try simp at this); omega)
              have kc := fun i => keepc hLe (w.heap.size) (by (try simp) <;> omega) i
              have kf := fun i => keepf hLe (w.heap.size) (by (try simp) <;> omega) i
              have kz : w.heap.size < w'.heap.size := (by have := hLe.size; (try simp at this); omega)
              have kc := fun i => keepc hLe (bl) (by (try simp) <;> omega) i
              have kf := fun i => keepf hLe (bl) (by (try simp) <;> omega) i
              have kz : bl < w'.heap.size := (by have := hLe.size; (try simp at this); omega)
              refine wpOp_yes rfl rfl rfl e49 (fun K hK => ?_)
              go_simp
              refine (hpl _ (Below.tr hB0 (Below.tr hbel hLe))).mono ?_
              rintro e w2 ⟨rfl, hb⟩
              exact hK _ _ ⟨_, rfl, hb, rfl⟩
            apply free_is
            · intro a' w' hLe hfr hdep
              have e49 : a'.tmps.getD 49 undef = _ := hdep 32 49 (Nat.le_of_ble_eq_true rfl) rfl rfl
              conv at e49 => rhs; whnf
              have f49 := e49; simp only [Array.getD_eq_getD_getElem?] at f49
              have e56 : a'.tmps.getD 56 undef = _ := hdep 39 56 (Nat.le_of_ble_eq_true rfl) rfl rfl
              conv at e56 => rhs; whnf
              have f56 := e56; simp only [Array.getD_eq_getD_getElem?] at f56
              refine wpOp_yes rfl rfl rfl e49 (fun K hK => ?_)
              go_simp
              exact hK _ _ ⟨_, rfl, Below.refl _ _, rfl⟩
            apply free_is
            · intro a' w' hLe hfr hdep
              have e49 : a'.tmps.getD 49 undef = _ := hdep 32 49 (Nat.le_of_ble_eq_true rfl) rfl rfl
              conv at e49 => rhs; whnf
              have f49 := e49; simp only [Array.getD_eq_getD_getElem?] at f49
              have e57 : a'.tmps.getD 57 undef = _ := hdep 40 57 (Nat.le_of_ble_eq_true rfl) rfl rfl
              conv at e57 => rhs; whnf
              have f57 := e57; simp only [Array.getD_eq_getD_getElem?] at f57
              refine wpOp_plain rfl rfl (fun K hK => ?_)
              go_simp
              exact hK _ _ ⟨_, rfl, Below.refl _ _, rfl⟩
            apply free_nil
            intro vs w1 hb1 hT1
            have e17 : vs 0 = _ := hT1 0 17 rfl
            conv at e17 => rhs; whnf
            have e18 : vs 1 = _ := hT1 1 18 rfl
            conv at e18 => rhs; whnf
            have e19 : vs 2 = _ := hT1 2 19 rfl
            conv at e19 => rhs; whnf
            have e20 : vs 3 = _ := hT1 3 20 rfl
            conv at e20 => rhs; whnf
            have e21 : vs 4 = _ := hT1 4 21 rfl
            conv at e21 => rhs; whnf
            have e22 : vs 5 = _ := hT1 5 22 rfl
            conv at e22 => rhs; whnf
            have e23 : vs 6 = _ := hT1 6 23 rfl
            conv at e23 => rhs; whnf
            have e24 : vs 7 = _ := hT1 7 24 rfl
            conv at e24 => rhs; whnf
            have e25 : vs 8 = _ := hT1 8 25 rfl
            conv at e25 => rhs; whnf
            have e26 : vs 9 = _ := hT1 9 26 rfl
            conv at e26 => rhs; whnf
            have e27 : vs 10 = _ := hT1 10 27 rfl
            conv at e27 => rhs; whnf
            have e28 : vs 11 = _ := hT1 11 28 rfl
            conv at e28 => rhs; whnf
            have e29 : vs 12 = _ := hT1 12 29 rfl
            conv at e29 => rhs; whnf
            have e30 : vs 13 = _ := hT1 13 30 rfl
            conv at e30 => rhs; whnf
            have e31 : vs 14 = _ := hT1 14 31 rfl
            conv at e31 => rhs; whnf
            have e32 : vs 15 = _ := hT1 15 32 rfl
            conv at e32 => rhs; whnf
            have e33 : vs 16 = _ := hT1 16 33 rfl
            conv at e33 => rhs; whnf
            have e34 : vs 17 = _ := hT1 17 34 rfl
            conv at e34 => rhs; whnf
            have e35 : vs 18 = _ := hT1 18 35 rfl
            conv at e35 => rhs; whnf
            have e36 : vs 19 = _ := hT1 19 36 rfl
            conv at e36 => rhs; whnf
            have e37 : vs 20 = _ := hT1 20 37 rfl
            conv at e37 => rhs; whnf
            have e38 : vs 21 = _ := hT1 21 38 rfl
            conv at e38 => rhs; whnf
            have e39 : vs 22 = _ := hT1 22 39 rfl
            conv at e39 => rhs; whnf
            have e40 : vs 23 = _ := hT1 23 40 rfl
            conv at e40 => rhs; whnf
            have e41 : vs 24 = _ := hT1 24 41 rfl
            conv at e41 => rhs; whnf
            have e42 : vs 25 = _ := hT1 25 42 rfl
            conv at e42 => rhs; whnf
            have e43 : vs 26 = _ := hT1 26 43 rfl
            conv at e43 => rhs; whnf
            have e44 : vs 27 = _ := hT1 27 44 rfl
            conv at e44 => rhs; whnf
            have e45 : vs 28 = _ := hT1 28 45 rfl
            conv at e45 => rhs; whnf
            have e46 : vs 29 = _ := hT1 29 46 rfl
            conv at e46 => rhs; whnf
            have e47 : vs 30 = _ := hT1 30 47 rfl
            conv at e47 => rhs; whnf
            have e48 : vs 31 = _ := hT1 31 48 rfl
            conv at e48 => rhs; whnf
            have e49 : vs 32 = _ := hT1 32 49 rfl
            conv at e49 => rhs; whnf
            have e50 : vs 33 = _ := hT1 33 50 rfl
            conv at e50 => rhs; whnf
            have e51 : vs 34 = _ := hT1 34 51 rfl
            conv at e51 => rhs; whnf
            have e52 : vs 35 = _ := hT1 35 52 rfl
            conv at e52 => rhs; whnf
            have e53 : vs 36 = _ := hT1 36 53 rfl
            conv at e53 => rhs; whnf
            have e54 : vs 37 = _ := hT1 37 54 rfl
            conv at e54 => rhs; whnf
            have e55 : vs 38 = _ := hT1 38 55 rfl
            conv at e55 => rhs; whnf
            have e56 : vs 39 = _ := hT1 39 56 rfl
            conv at e56 => rhs; whnf
            have e57 : vs 40 = _ := hT1 40 57 rfl
            conv at e57 => rhs; whnf
            have e58 : vs 41 = _ := hT1 41 58 rfl
            conv at e58 => rhs; whnf
            simp only [putAll, List.drop_succ_cons, List.drop_zero, e17, e18, e19, e20, e21, e22, e23, e24, e25, e26, e27, e28, e29, e30, e31, e32, e33, e34, e35, e36, e37, e38, e39, e40, e41, e42, e43, e44, e45, e46, e47, e48, e49, e50, e51, e52, e53, e54, e55, e56, e57, e58]
            clear hT1 e17 e18 e19 e20 e21 e22 e23 e24 e25 e26 e27 e28 e29 e30 e31 e32 e33 e34 e35 e36 e37 e38 e39 e40 e41 e42 e43 e44 e45 e46 e47 e48 e49 e50 e51 e52 e53 e54 e55 e56 e57 e58
            go_simp
            go_wp2
            go_roundw
            case rel => exact ⟨i + 1 + 1, by omega, by go_num, upto hHO.out hno.out, Below.tr hBw (Below.tr hbel hb1)⟩
            case measure => simp [intOf]; omega
    · obtain rfl : k = n := by omega
      have he := Lib.hid (tabVB_end (x0 := x0) (x1 := x1) hok)
      obtain ⟨cX, fX⟩ := blk hX
      clear hok hrow hX
      have hfin : ∀ (b1 b2 : Bool), inB x0 1 12 = b1 → inB x1 1 100000 = b2 → tabVB x0 x1 k f0 f1 f2 f3 f4 to la = (b1 && b2 && decide ((k : Int) ≤ x0)) := fun b1 b2 e1 e2 => by rw [he.out, e1, e2]
      cases g0 : inB x0 1 12 with
      | false =>
        have hno := Lib.hid (hfin _ _ g0 rfl)
        clear he hfin
        go_wp2_with (go_at_call 29; refine (l1In_any _ _ _ _).mono ?_; rintro e w' ⟨rfl, rfl⟩)
        go_ret
        exact ⟨by rw [hno.out] <;> rfl, hB0⟩
      | true =>
      cases g1 : inB x1 1 100000 with
      | false =>
        have hno := Lib.hid (hfin _ _ g0 g1)
        clear he hfin
        go_wp2_with (go_at_call 29; refine (l1In_any _ _ _ _).mono ?_; rintro e w' ⟨rfl, rfl⟩)
        go_ret
        exact ⟨by rw [hno.out] <;> rfl, hB0⟩
      | true =>
        have hno := Lib.hid (hfin _ _ g0 g1)
        clear he hfin
        go_wp2_with (go_at_call 29; refine (l1In_any _ _ _ _).mono ?_; rintro e w' ⟨rfl, rfl⟩)
        go_ret
        exact ⟨by rw [hno.out] <;> rfl, hB0⟩
end Go.Proofs.Ytbnfllpimnnmfaa
