/-
  Where a flow stands in an outlet; copies of outlets.
-/
import Derived.Test.YtahniedcflfdmaaOut
import Derived.Test.YtahniedcflfdmaaRwS
import Derived.Test.YtahniedcflfdmaaPush
namespace Go.Proofs.Ytahniedcflfdmaa
open Go Go.RowKit

/-- The first of the first n flows that is this one, or -1. -/
def plF (a b c d e : Nat → Int) (y0 y1 y2 y3 y4 : Int) : Nat → Int
  | 0 => -1
  | j + 1 => if 0 ≤ plF a b c d e y0 y1 y2 y3 y4 j then plF a b c d e y0 y1 y2 y3 y4 j else if decide (a j = y0) && decide (b j = y1) && decide (c j = y2) && decide (d j = y3) && decide (e j = y4) then (j : Int) else -1
def isF (a b c d e : Nat → Int) (y0 y1 y2 y3 y4 : Int) (j : Nat) : Bool := decide (a j = y0) && decide (b j = y1) && decide (c j = y2) && decide (d j = y3) && decide (e j = y4)
section
variable {a b c d e : Nat → Int} {y0 y1 y2 y3 y4 : Int}
theorem plF_none : ∀ {n : Nat}, (∀ i, i < n → isF a b c d e y0 y1 y2 y3 y4 i = false) → plF a b c d e y0 y1 y2 y3 y4 n = -1
  | 0, _ => rfl
  | n + 1, h => by
    have h1 := plF_none (n := n) fun i hi => h i (by omega)
    have h2 := h n (by omega)
    unfold isF at h2
    simp only [plF, h1, h2]
    simp
theorem plF_at {j : Nat} (h : ∀ i, i < j → isF a b c d e y0 y1 y2 y3 y4 i = false) (hj : isF a b c d e y0 y1 y2 y3 y4 j = true) : ∀ {n : Nat}, j < n → plF a b c d e y0 y1 y2 y3 y4 n = j
  | n + 1, hn => by
    rcases Nat.eq_or_lt_of_le (Nat.le_of_lt_succ hn) with e1 | hlt
    · subst e1
      unfold isF at hj
      simp only [plF, plF_none h, hj]
      simp
    · have := plF_at h hj (n := n) hlt
      simp only [plF, this]
      rw [if_pos (by omega)]
/-- Where the first one stands, or nowhere. -/
theorem plF_cases : ∀ n : Nat, (plF a b c d e y0 y1 y2 y3 y4 n = -1 ∧ ∀ i, i < n → isF a b c d e y0 y1 y2 y3 y4 i = false) ∨ ∃ k : Nat, k < n ∧ plF a b c d e y0 y1 y2 y3 y4 n = k ∧ isF a b c d e y0 y1 y2 y3 y4 k = true ∧ ∀ i, i < k → isF a b c d e y0 y1 y2 y3 y4 i = false
  | 0 => .inl ⟨rfl, fun i hi => absurd hi (by omega)⟩
  | n + 1 => by
    rcases plF_cases n with ⟨h1, h2⟩ | ⟨k, h1, h2, h3, h4⟩
    · cases hf : isF a b c d e y0 y1 y2 y3 y4 n
      · have h5 := upto h2 hf
        exact .inl ⟨plF_none h5, h5⟩
      · exact .inr ⟨n, by omega, plF_at h2 hf (by omega), hf, h2⟩
    · exact .inr ⟨k, by omega, plF_at h4 h3 (by omega), h3, h4⟩
end
set_option maxHeartbeats 8000000 in
theorem l28Place_any (x0 x1 : Int) {w : World} {B : Nat} {A : Option Addr} {n c : Nat} {f0 f1 f2 f3 f4 : Nat → Int} (y0 y1 y2 y3 y4 : Int) (H : Rws w B 5 A n c (flowR f0 f1 f2 f3 f4)) (hB : B ≤ w.heap.size) :
    Calls Try.prog 40 #[.agg #[.int .i64 x0, .int .i64 x1, .slice A n c], .agg #[.int .i64 y0, .int .i64 y1, .int .i64 y2, .int .i64 y3, .int .i64 y4]] w fun e w' => e = .returned (.int .i64 (plF f0 f1 f2 f3 f4 y0 y1 y2 y3 y4 n)) ∧ Below w.heap.size w w' := by
  obtain ⟨⟨hnc, hcm⟩, hrow⟩ := H
  unfold maxLen at hcm
  go_enter Try.func40, Try.ntmps40
  go_wp2
  go_loopw [5] (fun i wr => ∃ j : Nat, j ≤ n ∧ i = .int .i64 j ∧ (∀ i, i < j → isF f0 f1 f2 f3 f4 y0 y1 y2 y3 y4 i = false) ∧ Below ((w.alloc (.cells #[.int .i64 x0, .int .i64 x1, .slice A n c] 29)).alloc (.cells #[.int .i64 y0, .int .i64 y1, .int .i64 y2, .int .i64 y3, .int .i64 y4] 39)).heap.size ((w.alloc (.cells #[.int .i64 x0, .int .i64 x1, .slice A n c] 29)).alloc (.cells #[.int .i64 y0, .int .i64 y1, .int .i64 y2, .int .i64 y3, .int .i64 y4] 39)) wr) (fun i _ => n - (intOf i).toNat)
  case atStart => exact ⟨0, by omega, rfl, fun i hi => absurd hi (by omega), Below.refl _ _⟩
  case round =>
    obtain ⟨j, hj, rfl, hok, hBw⟩ := hrel
    have hB0 : Below w.heap.size w wr := Below.tr (by (repeat (first | exact Below.refl _ _ | assumption | refine Below.al ?_ _ | refine Below.dr ?_ | (refine Below.st ?_ (by simp <;> omega) _) | (refine Below.tr ?_ (by assumption))))) hBw
    have hfs : w.heap.size + 1 < wr.heap.size := by have := hBw.size; simp at this; omega
    have hfz : w.heap.size < wr.heap.size := by omega
    have ko : ∀ i, wr.cell? ⟨w.heap.size, i, none⟩ = #[Value.int .i64 x0, .int .i64 x1, .slice A n c][i]? := fun i => (keepc hBw w.heap.size (by simp; omega) i).trans ((blk ((heap_alloc_old _ _ (by simp)).trans (heap_alloc_new w (.cells #[.int .i64 x0, .int .i64 x1, .slice A n c] 29)))).1 i)
    have kf : ∀ i, wr.cell? ⟨w.heap.size + 1, i, none⟩ = #[Value.int .i64 y0, .int .i64 y1, .int .i64 y2, .int .i64 y3, .int .i64 y4][i]? := fun i => (keepc hBw (w.heap.size + 1) (by simp) i).trans ((blk (heap_new1 w (.cells #[.int .i64 x0, .int .i64 x1, .slice A n c] 29) (.cells #[.int .i64 y0, .int .i64 y1, .int .i64 y2, .int .i64 y3, .int .i64 y4] 39))).1 i)
    by_cases hlt : j < n
    · obtain ⟨bl, off, rfl, hbB, hc⟩ := hrow (by omega)
      have hr := hc j hlt
      have hbs : bl < wr.heap.size := by have := hB0.size; omega
      have q0 : wr.cell? ⟨bl, off + j * 5, none⟩ = some (.int .i64 (f0 j)) := (keepc hB0 bl (by omega) _).trans (hr 0 _ rfl)
      have q1 : wr.cell? ⟨bl, off + j * 5 + 1, none⟩ = some (.int .i64 (f1 j)) := (keepc hB0 bl (by omega) _).trans (hr 1 _ rfl)
      have q2 : wr.cell? ⟨bl, off + j * 5 + 2, none⟩ = some (.int .i64 (f2 j)) := (keepc hB0 bl (by omega) _).trans (hr 2 _ rfl)
      have q3 : wr.cell? ⟨bl, off + j * 5 + 3, none⟩ = some (.int .i64 (f3 j)) := (keepc hB0 bl (by omega) _).trans (hr 3 _ rfl)
      have q4 : wr.cell? ⟨bl, off + j * 5 + 4, none⟩ = some (.int .i64 (f4 j)) := (keepc hB0 bl (by omega) _).trans (hr 4 _ rfl)
      have hlt2 : (j : Int) < (n : Int) := by omega
      have HO := Lib.hid hok
      clear hc hr hrow hok
      cases hx : isF f0 f1 f2 f3 f4 y0 y1 y2 y3 y4 j with
      | true =>
        have he := Lib.hid (plF_at HO.out hx hlt)
        have hq : ∀ W, (binOp .eql 39 (.agg #[.int .i64 (f0 j), .int .i64 (f1 j), .int .i64 (f2 j), .int .i64 (f3 j), .int .i64 (f4 j)]) (.agg #[.int .i64 y0, .int .i64 y1, .int .i64 y2, .int .i64 y3, .int .i64 y4])).run Try.prog W = .ok (.bool true) W := fun W => by rw [← hx]; exact eql_flow _ _ _ _ _ _ _ _ _ _ W
        clear hx
        go_wp2
        refine wp_region_free (ds := [(0, 13), (1, 14), (2, 15), (3, 16), (4, 17), (5, 18), (6, 19)]) 7 (by kernel_rfl) (by kernel_rfl) (by first | exact .inl rfl | exact .inr (by kernel_rfl)) (by rfl) rfl rfl ?_
        apply free_is
        · intro a' w' hLe hfr hdep
          have e2 := hfr 2 rfl
          conv at e2 => rhs; whnf
          have f2 := e2; simp only [Array.getD_eq_getD_getElem?] at f2
          refine wpOp_plain rfl rfl (fun K hK => ?_)
          go_simp
          exact hK _ _ ⟨_, rfl, Below.refl _ _, rfl⟩
        apply free_is
        · intro a' w' hLe hfr hdep
          have e13 : a'.tmps.getD 13 undef = _ := hdep 0 13 (Nat.le_of_ble_eq_true rfl) rfl rfl
          conv at e13 => rhs; whnf
          have f13 := e13; simp only [Array.getD_eq_getD_getElem?] at f13
          have kc := fun i => keepc hLe (bl) (by (try simp) <;> omega) i
          have kf := fun i => keepf hLe (bl) (by (try simp) <;> omega) i
          have kz : bl < w'.heap.size := (by have := hLe.size; (try simp at this); omega)
          have kc := fun i => keepc hLe (w.heap.size) (by (try simp) <;> omega) i
          have kf := fun i => keepf hLe (w.heap.size) (by (try simp) <;> omega) i
          have kz : w.heap.size < w'.heap.size := (by have := hLe.size; (try simp at this); omega)
          have kc := fun i => keepc hLe (w.heap.size + 1) (by (try simp) <;> omega) i
          have kf := fun i => keepf hLe (w.heap.size + 1) (by (try simp) <;> omega) i
          have kz : w.heap.size + 1 < w'.heap.size := (by have := hLe.size; (try simp at this); omega)
          refine wpOp_plain rfl rfl (fun K hK => ?_)
          go_simp
          exact hK _ _ ⟨_, rfl, Below.refl _ _, rfl⟩
        apply free_is
        · intro a' w' hLe hfr hdep
          have e5 := hfr 5 rfl
          conv at e5 => rhs; whnf
          have f5 := e5; simp only [Array.getD_eq_getD_getElem?] at f5
          refine wpOp_plain rfl rfl (fun K hK => ?_)
          go_simp
          exact hK _ _ ⟨_, rfl, Below.refl _ _, rfl⟩
        apply free_is
        · intro a' w' hLe hfr hdep
          have e14 : a'.tmps.getD 14 undef = _ := hdep 1 14 (Nat.le_of_ble_eq_true rfl) rfl rfl
          conv at e14 => rhs; whnf
          have f14 := e14; simp only [Array.getD_eq_getD_getElem?] at f14
          have e15 : a'.tmps.getD 15 undef = _ := hdep 2 15 (Nat.le_of_ble_eq_true rfl) rfl rfl
          conv at e15 => rhs; whnf
          have f15 := e15; simp only [Array.getD_eq_getD_getElem?] at f15
          refine wpOp_plain rfl rfl (fun K hK => ?_)
          go_simp
          exact hK _ _ ⟨_, rfl, Below.refl _ _, rfl⟩
        apply free_is
        · intro a' w' hLe hfr hdep
          have e16 : a'.tmps.getD 16 undef = _ := hdep 3 16 (Nat.le_of_ble_eq_true rfl) rfl rfl
          conv at e16 => rhs; whnf
          have f16 := e16; simp only [Array.getD_eq_getD_getElem?] at f16
          have kc := fun i => keepc hLe (bl) (by (try simp) <;> omega) i
          have kf := fun i => keepf hLe (bl) (by (try simp) <;> omega) i
          have kz : bl < w'.heap.size := (by have := hLe.size; (try simp at this); omega)
          have kc := fun i => keepc hLe (w.heap.size) (by (try simp) <;> omega) i
          have kf := fun i => keepf hLe (w.heap.size) (by (try simp) <;> omega) i
          have kz : w.heap.size < w'.heap.size := (by have := hLe.size; (try simp at this); omega)
          have kc := fun i => keepc hLe (w.heap.size + 1) (by (try simp) <;> omega) i
          have kf := fun i => keepf hLe (w.heap.size + 1) (by (try simp) <;> omega) i
          have kz : w.heap.size + 1 < w'.heap.size := (by have := hLe.size; (try simp at this); omega)
          refine wpOp_plain rfl rfl (fun K hK => ?_)
          go_simp
          exact hK _ _ ⟨_, rfl, Below.refl _ _, rfl⟩
        apply free_is
        · intro a' w' hLe hfr hdep
          have e3 := hfr 3 rfl
          conv at e3 => rhs; whnf
          have f3 := e3; simp only [Array.getD_eq_getD_getElem?] at f3
          have kc := fun i => keepc hLe (bl) (by (try simp) <;> omega) i
          have kf := fun i => keepf hLe (bl) (by (try simp) <;> omega) i
          have kz : bl < w'.heap.size := (by have := hLe.size; (try simp at this); omega)
          have kc := fun i => keepc hLe (w.heap.size) (by (try simp) <;> omega) i
          have kf := fun i => keepf hLe (w.heap.size) (by (try simp) <;> omega) i
          have kz : w.heap.size < w'.heap.size := (by have := hLe.size; (try simp at this); omega)
          have kc := fun i => keepc hLe (w.heap.size + 1) (by (try simp) <;> omega) i
          have kf := fun i => keepf hLe (w.heap.size + 1) (by (try simp) <;> omega) i
          have kz : w.heap.size + 1 < w'.heap.size := (by have := hLe.size; (try simp at this); omega)
          refine wpOp_plain rfl rfl (fun K hK => ?_)
          go_simp
          exact hK _ _ ⟨_, rfl, Below.refl _ _, rfl⟩
        apply free_is
        · intro a' w' hLe hfr hdep
          have e17 : a'.tmps.getD 17 undef = _ := hdep 4 17 (Nat.le_of_ble_eq_true rfl) rfl rfl
          conv at e17 => rhs; whnf
          have f17 := e17; simp only [Array.getD_eq_getD_getElem?] at f17
          have e18 : a'.tmps.getD 18 undef = _ := hdep 5 18 (Nat.le_of_ble_eq_true rfl) rfl rfl
          conv at e18 => rhs; whnf
          have f18 := e18; simp only [Array.getD_eq_getD_getElem?] at f18
          refine wpOp_plain rfl rfl (fun K hK => ?_)
          go_simp
          exact hK _ _ ⟨_, rfl, Below.refl _ _, rfl⟩
        apply free_nil
        intro vs w1 hb1 hT1
        have e13 : vs 0 = _ := hT1 0 13 rfl
        conv at e13 => rhs; whnf
        have e14 : vs 1 = _ := hT1 1 14 rfl
        conv at e14 => rhs; whnf
        have e15 : vs 2 = _ := hT1 2 15 rfl
        conv at e15 => rhs; whnf
        have e16 : vs 3 = _ := hT1 3 16 rfl
        conv at e16 => rhs; whnf
        have e17 : vs 4 = _ := hT1 4 17 rfl
        conv at e17 => rhs; whnf
        have e18 : vs 5 = _ := hT1 5 18 rfl
        conv at e18 => rhs; whnf
        have e19 : vs 6 = _ := hT1 6 19 rfl
        conv at e19 => rhs; whnf
        simp only [putAll, List.drop_succ_cons, List.drop_zero, e13, e14, e15, e16, e17, e18, e19]
        clear hT1 e13 e14 e15 e16 e17 e18 e19
        go_simp
        go_wp2
        go_ret
        exact ⟨by rw [he.out] <;> rfl, Below.tr hB0 hb1⟩
      | false =>
        have hq : ∀ W, (binOp .eql 39 (.agg #[.int .i64 (f0 j), .int .i64 (f1 j), .int .i64 (f2 j), .int .i64 (f3 j), .int .i64 (f4 j)]) (.agg #[.int .i64 y0, .int .i64 y1, .int .i64 y2, .int .i64 y3, .int .i64 y4])).run Try.prog W = .ok (.bool false) W := fun W => by rw [← hx]; exact eql_flow _ _ _ _ _ _ _ _ _ _ W
        have HX := Lib.hid hx
        clear hx
        go_wp2
        refine wp_region_free (ds := [(0, 13), (1, 14), (2, 15), (3, 16), (4, 17), (5, 18), (6, 19)]) 7 (by kernel_rfl) (by kernel_rfl) (by first | exact .inl rfl | exact .inr (by kernel_rfl)) (by rfl) rfl rfl ?_
        apply free_is
        · intro a' w' hLe hfr hdep
          have e2 := hfr 2 rfl
          conv at e2 => rhs; whnf
          have f2 := e2; simp only [Array.getD_eq_getD_getElem?] at f2
          refine wpOp_plain rfl rfl (fun K hK => ?_)
          go_simp
          exact hK _ _ ⟨_, rfl, Below.refl _ _, rfl⟩
        apply free_is
        · intro a' w' hLe hfr hdep
          have e13 : a'.tmps.getD 13 undef = _ := hdep 0 13 (Nat.le_of_ble_eq_true rfl) rfl rfl
          conv at e13 => rhs; whnf
          have f13 := e13; simp only [Array.getD_eq_getD_getElem?] at f13
          have kc := fun i => keepc hLe (bl) (by (try simp) <;> omega) i
          have kf := fun i => keepf hLe (bl) (by (try simp) <;> omega) i
          have kz : bl < w'.heap.size := (by have := hLe.size; (try simp at this); omega)
          have kc := fun i => keepc hLe (w.heap.size) (by (try simp) <;> omega) i
          have kf := fun i => keepf hLe (w.heap.size) (by (try simp) <;> omega) i
          have kz : w.heap.size < w'.heap.size := (by have := hLe.size; (try simp at this); omega)
          have kc := fun i => keepc hLe (w.heap.size + 1) (by (try simp) <;> omega) i
          have kf := fun i => keepf hLe (w.heap.size + 1) (by (try simp) <;> omega) i
          have kz : w.heap.size + 1 < w'.heap.size := (by have := hLe.size; (try simp at this); omega)
          refine wpOp_plain rfl rfl (fun K hK => ?_)
          go_simp
          exact hK _ _ ⟨_, rfl, Below.refl _ _, rfl⟩
        apply free_is
        · intro a' w' hLe hfr hdep
          have e5 := hfr 5 rfl
          conv at e5 => rhs; whnf
          have f5 := e5; simp only [Array.getD_eq_getD_getElem?] at f5
          refine wpOp_plain rfl rfl (fun K hK => ?_)
          go_simp
          exact hK _ _ ⟨_, rfl, Below.refl _ _, rfl⟩
        apply free_is
        · intro a' w' hLe hfr hdep
          have e14 : a'.tmps.getD 14 undef = _ := hdep 1 14 (Nat.le_of_ble_eq_true rfl) rfl rfl
          conv at e14 => rhs; whnf
          have f14 := e14; simp only [Array.getD_eq_getD_getElem?] at f14
          have e15 : a'.tmps.getD 15 undef = _ := hdep 2 15 (Nat.le_of_ble_eq_true rfl) rfl rfl
          conv at e15 => rhs; whnf
          have f15 := e15; simp only [Array.getD_eq_getD_getElem?] at f15
          refine wpOp_plain rfl rfl (fun K hK => ?_)
          go_simp
          exact hK _ _ ⟨_, rfl, Below.refl _ _, rfl⟩
        apply free_is
        · intro a' w' hLe hfr hdep
          have e16 : a'.tmps.getD 16 undef = _ := hdep 3 16 (Nat.le_of_ble_eq_true rfl) rfl rfl
          conv at e16 => rhs; whnf
          have f16 := e16; simp only [Array.getD_eq_getD_getElem?] at f16
          have kc := fun i => keepc hLe (bl) (by (try simp) <;> omega) i
          have kf := fun i => keepf hLe (bl) (by (try simp) <;> omega) i
          have kz : bl < w'.heap.size := (by have := hLe.size; (try simp at this); omega)
          have kc := fun i => keepc hLe (w.heap.size) (by (try simp) <;> omega) i
          have kf := fun i => keepf hLe (w.heap.size) (by (try simp) <;> omega) i
          have kz : w.heap.size < w'.heap.size := (by have := hLe.size; (try simp at this); omega)
          have kc := fun i => keepc hLe (w.heap.size + 1) (by (try simp) <;> omega) i
          have kf := fun i => keepf hLe (w.heap.size + 1) (by (try simp) <;> omega) i
          have kz : w.heap.size + 1 < w'.heap.size := (by have := hLe.size; (try simp at this); omega)
          refine wpOp_plain rfl rfl (fun K hK => ?_)
          go_simp
          exact hK _ _ ⟨_, rfl, Below.refl _ _, rfl⟩
        apply free_is
        · intro a' w' hLe hfr hdep
          have e3 := hfr 3 rfl
          conv at e3 => rhs; whnf
          have f3 := e3; simp only [Array.getD_eq_getD_getElem?] at f3
          have kc := fun i => keepc hLe (bl) (by (try simp) <;> omega) i
          have kf := fun i => keepf hLe (bl) (by (try simp) <;> omega) i
          have kz : bl < w'.heap.size := (by have := hLe.size; (try simp at this); omega)
          have kc := fun i => keepc hLe (w.heap.size) (by (try simp) <;> omega) i
          have kf := fun i => keepf hLe (w.heap.size) (by (try simp) <;> omega) i
          have kz : w.heap.size < w'.heap.size := (by have := hLe.size; (try simp at this); omega)
          have kc := fun i => keepc hLe (w.heap.size + 1) (by (try simp) <;> omega) i
          have kf := fun i => keepf hLe (w.heap.size + 1) (by (try simp) <;> omega) i
          have kz : w.heap.size + 1 < w'.heap.size := (by have := hLe.size; (try simp at this); omega)
          refine wpOp_plain rfl rfl (fun K hK => ?_)
          go_simp
          exact hK _ _ ⟨_, rfl, Below.refl _ _, rfl⟩
        apply free_is
        · intro a' w' hLe hfr hdep
          have e17 : a'.tmps.getD 17 undef = _ := hdep 4 17 (Nat.le_of_ble_eq_true rfl) rfl rfl
          conv at e17 => rhs; whnf
          have f17 := e17; simp only [Array.getD_eq_getD_getElem?] at f17
          have e18 : a'.tmps.getD 18 undef = _ := hdep 5 18 (Nat.le_of_ble_eq_true rfl) rfl rfl
          conv at e18 => rhs; whnf
          have f18 := e18; simp only [Array.getD_eq_getD_getElem?] at f18
          refine wpOp_plain rfl rfl (fun K hK => ?_)
          go_simp
          exact hK _ _ ⟨_, rfl, Below.refl _ _, rfl⟩
        apply free_nil
        intro vs w1 hb1 hT1
        have e13 : vs 0 = _ := hT1 0 13 rfl
        conv at e13 => rhs; whnf
        have e14 : vs 1 = _ := hT1 1 14 rfl
        conv at e14 => rhs; whnf
        have e15 : vs 2 = _ := hT1 2 15 rfl
        conv at e15 => rhs; whnf
        have e16 : vs 3 = _ := hT1 3 16 rfl
        conv at e16 => rhs; whnf
        have e17 : vs 4 = _ := hT1 4 17 rfl
        conv at e17 => rhs; whnf
        have e18 : vs 5 = _ := hT1 5 18 rfl
        conv at e18 => rhs; whnf
        have e19 : vs 6 = _ := hT1 6 19 rfl
        conv at e19 => rhs; whnf
        simp only [putAll, List.drop_succ_cons, List.drop_zero, e13, e14, e15, e16, e17, e18, e19]
        clear hT1 e13 e14 e15 e16 e17 e18 e19
        go_simp
        go_wp2
        go_roundw
        case rel => exact ⟨j + 1, by omega, by go_num, upto HO.out HX.out, Below.tr hBw hb1⟩
        case measure => simp [intOf]; omega
    · obtain rfl : j = n := by omega
      have he := Lib.hid (plF_none hok)
      clear hok hrow
      go_wp2
      go_ret
      exact ⟨by rw [he.out] <;> rfl, hB0⟩
set_option maxHeartbeats 8000000 in
theorem indexFlow_any {w : World} {B : Nat} {A : Option Addr} {n c : Nat} {f0 f1 f2 f3 f4 : Nat → Int} (y0 y1 y2 y3 y4 : Int) (H : Rws w B 5 A n c (flowR f0 f1 f2 f3 f4)) (hB : B ≤ w.heap.size) :
    Calls Try.prog 38 #[.slice A n c, .agg #[.int .i64 y0, .int .i64 y1, .int .i64 y2, .int .i64 y3, .int .i64 y4]] w fun e w' => e = .returned (.int .i64 (plF f0 f1 f2 f3 f4 y0 y1 y2 y3 y4 n)) ∧ Below w.heap.size w w' := by
  obtain ⟨⟨hnc, hcm⟩, hrow⟩ := H
  unfold maxLen at hcm
  go_enter Try.func38, Try.ntmps38
  go_wp2
  go_loopw [8] (fun i wr => ∃ j : Nat, j ≤ n ∧ i = .int .i64 j ∧ (∀ i, i < j → isF f0 f1 f2 f3 f4 y0 y1 y2 y3 y4 i = false) ∧ Below (w.alloc (.cells #[.int .i64 y0, .int .i64 y1, .int .i64 y2, .int .i64 y3, .int .i64 y4] 39)).heap.size (w.alloc (.cells #[.int .i64 y0, .int .i64 y1, .int .i64 y2, .int .i64 y3, .int .i64 y4] 39)) wr) (fun i _ => n - (intOf i).toNat)
  case atStart => exact ⟨0, by omega, rfl, fun i hi => absurd hi (by omega), Below.refl _ _⟩
  case round =>
    obtain ⟨j, hj, rfl, hok, hBw⟩ := hrel
    have hB0 : Below w.heap.size w wr := Below.tr (by (repeat (first | exact Below.refl _ _ | assumption | refine Below.al ?_ _ | refine Below.dr ?_ | (refine Below.st ?_ (by simp <;> omega) _) | (refine Below.tr ?_ (by assumption))))) hBw
    have hfs : w.heap.size < wr.heap.size := by have := hBw.size; simp at this; omega
    have kf : ∀ i, wr.cell? ⟨w.heap.size, i, none⟩ = #[Value.int .i64 y0, .int .i64 y1, .int .i64 y2, .int .i64 y3, .int .i64 y4][i]? := fun i => (keepc hBw w.heap.size (by simp) i).trans ((blk (heap_alloc_new w _)).1 i)
    by_cases hlt : j < n
    · obtain ⟨bl, off, rfl, hbB, hc⟩ := hrow (by omega)
      have hr := hc j hlt
      have hbs : bl < wr.heap.size := by have := hB0.size; omega
      have q0 : wr.cell? ⟨bl, off + j * 5, none⟩ = some (.int .i64 (f0 j)) := (keepc hB0 bl (by omega) _).trans (hr 0 _ rfl)
      have q1 : wr.cell? ⟨bl, off + j * 5 + 1, none⟩ = some (.int .i64 (f1 j)) := (keepc hB0 bl (by omega) _).trans (hr 1 _ rfl)
      have q2 : wr.cell? ⟨bl, off + j * 5 + 2, none⟩ = some (.int .i64 (f2 j)) := (keepc hB0 bl (by omega) _).trans (hr 2 _ rfl)
      have q3 : wr.cell? ⟨bl, off + j * 5 + 3, none⟩ = some (.int .i64 (f3 j)) := (keepc hB0 bl (by omega) _).trans (hr 3 _ rfl)
      have q4 : wr.cell? ⟨bl, off + j * 5 + 4, none⟩ = some (.int .i64 (f4 j)) := (keepc hB0 bl (by omega) _).trans (hr 4 _ rfl)
      have hlt2 : (j : Int) < (n : Int) := by omega
      have HO := Lib.hid hok
      clear hc hr hrow hok
      cases hx : isF f0 f1 f2 f3 f4 y0 y1 y2 y3 y4 j with
      | true =>
        have he := Lib.hid (plF_at HO.out hx hlt)
        have hq : ∀ W, (binOp .eql 39 (.agg #[.int .i64 y0, .int .i64 y1, .int .i64 y2, .int .i64 y3, .int .i64 y4]) (.agg #[.int .i64 (f0 j), .int .i64 (f1 j), .int .i64 (f2 j), .int .i64 (f3 j), .int .i64 (f4 j)])).run Try.prog W = .ok (.bool true) W := fun W => by rw [← hx]; exact (eql_flow _ _ _ _ _ _ _ _ _ _ W).trans (by simp only [isF, eq_comm])
        clear hx
        go_wp2
        refine wp_region_free (ds := [(0, 11), (1, 12), (2, 13), (3, 14), (4, 15), (5, 16)]) 6 (by kernel_rfl) (by kernel_rfl) (by first | exact .inl rfl | exact .inr (by kernel_rfl)) (by rfl) rfl rfl ?_
        apply free_is
        · intro a' w' hLe hfr hdep
          have e3 := hfr 3 rfl
          conv at e3 => rhs; whnf
          have f3 := e3; simp only [Array.getD_eq_getD_getElem?] at f3
          have kc := fun i => keepc hLe (bl) (by (try simp) <;> omega) i
          have kf := fun i => keepf hLe (bl) (by (try simp) <;> omega) i
          have kz : bl < w'.heap.size := (by have := hLe.size; (try simp at this); omega)
          have kc := fun i => keepc hLe (w.heap.size) (by (try simp) <;> omega) i
          have kf := fun i => keepf hLe (w.heap.size) (by (try simp) <;> omega) i
          have kz : w.heap.size < w'.heap.size := (by have := hLe.size; (try simp at this); omega)
          refine wpOp_plain rfl rfl (fun K hK => ?_)
          go_simp
          exact hK _ _ ⟨_, rfl, Below.refl _ _, rfl⟩
        apply free_is
        · intro a' w' hLe hfr hdep
          have e0 := hfr 0 rfl
          conv at e0 => rhs; whnf
          have f0 := e0; simp only [Array.getD_eq_getD_getElem?] at f0
          refine wpOp_plain rfl rfl (fun K hK => ?_)
          go_simp
          exact hK _ _ ⟨_, rfl, Below.refl _ _, rfl⟩
        apply free_is
        · intro a' w' hLe hfr hdep
          have e5 := hfr 5 rfl
          conv at e5 => rhs; whnf
          have f5 := e5; simp only [Array.getD_eq_getD_getElem?] at f5
          refine wpOp_plain rfl rfl (fun K hK => ?_)
          go_simp
          exact hK _ _ ⟨_, rfl, Below.refl _ _, rfl⟩
        apply free_is
        · intro a' w' hLe hfr hdep
          have e12 : a'.tmps.getD 12 undef = _ := hdep 1 12 (Nat.le_of_ble_eq_true rfl) rfl rfl
          conv at e12 => rhs; whnf
          have f12 := e12; simp only [Array.getD_eq_getD_getElem?] at f12
          have e13 : a'.tmps.getD 13 undef = _ := hdep 2 13 (Nat.le_of_ble_eq_true rfl) rfl rfl
          conv at e13 => rhs; whnf
          have f13 := e13; simp only [Array.getD_eq_getD_getElem?] at f13
          refine wpOp_plain rfl rfl (fun K hK => ?_)
          go_simp
          exact hK _ _ ⟨_, rfl, Below.refl _ _, rfl⟩
        apply free_is
        · intro a' w' hLe hfr hdep
          have e14 : a'.tmps.getD 14 undef = _ := hdep 3 14 (Nat.le_of_ble_eq_true rfl) rfl rfl
          conv at e14 => rhs; whnf
          have f14 := e14; simp only [Array.getD_eq_getD_getElem?] at f14
          have kc := fun i => keepc hLe (bl) (by (try simp) <;> omega) i
          have kf := fun i => keepf hLe (bl) (by (try simp) <;> omega) i
          have kz : bl < w'.heap.size := (by have := hLe.size; (try simp at this); omega)
          have kc := fun i => keepc hLe (w.heap.size) (by (try simp) <;> omega) i
          have kf := fun i => keepf hLe (w.heap.size) (by (try simp) <;> omega) i
          have kz : w.heap.size < w'.heap.size := (by have := hLe.size; (try simp at this); omega)
          refine wpOp_plain rfl rfl (fun K hK => ?_)
          go_simp
          exact hK _ _ ⟨_, rfl, Below.refl _ _, rfl⟩
        apply free_is
        · intro a' w' hLe hfr hdep
          have e11 : a'.tmps.getD 11 undef = _ := hdep 0 11 (Nat.le_of_ble_eq_true rfl) rfl rfl
          conv at e11 => rhs; whnf
          have f11 := e11; simp only [Array.getD_eq_getD_getElem?] at f11
          have e15 : a'.tmps.getD 15 undef = _ := hdep 4 15 (Nat.le_of_ble_eq_true rfl) rfl rfl
          conv at e15 => rhs; whnf
          have f15 := e15; simp only [Array.getD_eq_getD_getElem?] at f15
          refine wpOp_plain rfl rfl (fun K hK => ?_)
          go_simp
          exact hK _ _ ⟨_, rfl, Below.refl _ _, rfl⟩
        apply free_nil
        intro vs w1 hb1 hT1
        have e11 : vs 0 = _ := hT1 0 11 rfl
        conv at e11 => rhs; whnf
        have e12 : vs 1 = _ := hT1 1 12 rfl
        conv at e12 => rhs; whnf
        have e13 : vs 2 = _ := hT1 2 13 rfl
        conv at e13 => rhs; whnf
        have e14 : vs 3 = _ := hT1 3 14 rfl
        conv at e14 => rhs; whnf
        have e15 : vs 4 = _ := hT1 4 15 rfl
        conv at e15 => rhs; whnf
        have e16 : vs 5 = _ := hT1 5 16 rfl
        conv at e16 => rhs; whnf
        simp only [putAll, List.drop_succ_cons, List.drop_zero, e11, e12, e13, e14, e15, e16]
        clear hT1 e11 e12 e13 e14 e15 e16
        go_simp
        go_wp2
        go_ret
        exact ⟨by rw [he.out] <;> rfl, Below.tr hB0 hb1⟩
      | false =>
        have hq : ∀ W, (binOp .eql 39 (.agg #[.int .i64 y0, .int .i64 y1, .int .i64 y2, .int .i64 y3, .int .i64 y4]) (.agg #[.int .i64 (f0 j), .int .i64 (f1 j), .int .i64 (f2 j), .int .i64 (f3 j), .int .i64 (f4 j)])).run Try.prog W = .ok (.bool false) W := fun W => by rw [← hx]; exact (eql_flow _ _ _ _ _ _ _ _ _ _ W).trans (by simp only [isF, eq_comm])
        have HX := Lib.hid hx
        clear hx
        go_wp2
        refine wp_region_free (ds := [(0, 11), (1, 12), (2, 13), (3, 14), (4, 15), (5, 16)]) 6 (by kernel_rfl) (by kernel_rfl) (by first | exact .inl rfl | exact .inr (by kernel_rfl)) (by rfl) rfl rfl ?_
        apply free_is
        · intro a' w' hLe hfr hdep
          have e3 := hfr 3 rfl
          conv at e3 => rhs; whnf
          have f3 := e3; simp only [Array.getD_eq_getD_getElem?] at f3
          have kc := fun i => keepc hLe (bl) (by (try simp) <;> omega) i
          have kf := fun i => keepf hLe (bl) (by (try simp) <;> omega) i
          have kz : bl < w'.heap.size := (by have := hLe.size; (try simp at this); omega)
          have kc := fun i => keepc hLe (w.heap.size) (by (try simp) <;> omega) i
          have kf := fun i => keepf hLe (w.heap.size) (by (try simp) <;> omega) i
          have kz : w.heap.size < w'.heap.size := (by have := hLe.size; (try simp at this); omega)
          refine wpOp_plain rfl rfl (fun K hK => ?_)
          go_simp
          exact hK _ _ ⟨_, rfl, Below.refl _ _, rfl⟩
        apply free_is
        · intro a' w' hLe hfr hdep
          have e0 := hfr 0 rfl
          conv at e0 => rhs; whnf
          have f0 := e0; simp only [Array.getD_eq_getD_getElem?] at f0
          refine wpOp_plain rfl rfl (fun K hK => ?_)
          go_simp
          exact hK _ _ ⟨_, rfl, Below.refl _ _, rfl⟩
        apply free_is
        · intro a' w' hLe hfr hdep
          have e5 := hfr 5 rfl
          conv at e5 => rhs; whnf
          have f5 := e5; simp only [Array.getD_eq_getD_getElem?] at f5
          refine wpOp_plain rfl rfl (fun K hK => ?_)
          go_simp
          exact hK _ _ ⟨_, rfl, Below.refl _ _, rfl⟩
        apply free_is
        · intro a' w' hLe hfr hdep
          have e12 : a'.tmps.getD 12 undef = _ := hdep 1 12 (Nat.le_of_ble_eq_true rfl) rfl rfl
          conv at e12 => rhs; whnf
          have f12 := e12; simp only [Array.getD_eq_getD_getElem?] at f12
          have e13 : a'.tmps.getD 13 undef = _ := hdep 2 13 (Nat.le_of_ble_eq_true rfl) rfl rfl
          conv at e13 => rhs; whnf
          have f13 := e13; simp only [Array.getD_eq_getD_getElem?] at f13
          refine wpOp_plain rfl rfl (fun K hK => ?_)
          go_simp
          exact hK _ _ ⟨_, rfl, Below.refl _ _, rfl⟩
        apply free_is
        · intro a' w' hLe hfr hdep
          have e14 : a'.tmps.getD 14 undef = _ := hdep 3 14 (Nat.le_of_ble_eq_true rfl) rfl rfl
          conv at e14 => rhs; whnf
          have f14 := e14; simp only [Array.getD_eq_getD_getElem?] at f14
          have kc := fun i => keepc hLe (bl) (by (try simp) <;> omega) i
          have kf := fun i => keepf hLe (bl) (by (try simp) <;> omega) i
          have kz : bl < w'.heap.size := (by have := hLe.size; (try simp at this); omega)
          have kc := fun i => keepc hLe (w.heap.size) (by (try simp) <;> omega) i
          have kf := fun i => keepf hLe (w.heap.size) (by (try simp) <;> omega) i
          have kz : w.heap.size < w'.heap.size := (by have := hLe.size; (try simp at this); omega)
          refine wpOp_plain rfl rfl (fun K hK => ?_)
          go_simp
          exact hK _ _ ⟨_, rfl, Below.refl _ _, rfl⟩
        apply free_is
        · intro a' w' hLe hfr hdep
          have e11 : a'.tmps.getD 11 undef = _ := hdep 0 11 (Nat.le_of_ble_eq_true rfl) rfl rfl
          conv at e11 => rhs; whnf
          have f11 := e11; simp only [Array.getD_eq_getD_getElem?] at f11
          have e15 : a'.tmps.getD 15 undef = _ := hdep 4 15 (Nat.le_of_ble_eq_true rfl) rfl rfl
          conv at e15 => rhs; whnf
          have f15 := e15; simp only [Array.getD_eq_getD_getElem?] at f15
          refine wpOp_plain rfl rfl (fun K hK => ?_)
          go_simp
          exact hK _ _ ⟨_, rfl, Below.refl _ _, rfl⟩
        apply free_nil
        intro vs w1 hb1 hT1
        have e11 : vs 0 = _ := hT1 0 11 rfl
        conv at e11 => rhs; whnf
        have e12 : vs 1 = _ := hT1 1 12 rfl
        conv at e12 => rhs; whnf
        have e13 : vs 2 = _ := hT1 2 13 rfl
        conv at e13 => rhs; whnf
        have e14 : vs 3 = _ := hT1 3 14 rfl
        conv at e14 => rhs; whnf
        have e15 : vs 4 = _ := hT1 4 15 rfl
        conv at e15 => rhs; whnf
        have e16 : vs 5 = _ := hT1 5 16 rfl
        conv at e16 => rhs; whnf
        simp only [putAll, List.drop_succ_cons, List.drop_zero, e11, e12, e13, e14, e15, e16]
        clear hT1 e11 e12 e13 e14 e15 e16
        go_simp
        go_wp2
        go_roundw
        case rel => exact ⟨j + 1, by omega, by go_num, upto HO.out HX.out, Below.tr hBw hb1⟩
        case measure => simp [intOf]; omega
    · obtain rfl : j = n := by omega
      have he := Lib.hid (plF_none hok)
      clear hok hrow
      go_wp2
      go_ret
      exact ⟨by rw [he.out] <;> rfl, hB0⟩
theorem info_flowP : (Try.prog.info? 39).map (fun i => (i.zero, i.size, i.bytes)) = some (some (.agg #[.int .i64 0, .int .i64 0, .int .i64 0, .int .i64 0, .int .i64 0]), 5, 40) := by kernel_rfl
/-- A copy of an outlet: its slots may grow. -/
def CopyO (w : World) (x0 x1 : Int) (n : Nat) (R : Nat → List Value) (e : Ending) (w' : World) : Prop :=
  ∃ A c, e = .returned (.agg #[.int .i64 x0, .int .i64 x1, .slice A n c]) ∧ Acc w' w.heap.size 39 5 (.slice A n c) n R ∧ Below w.heap.size w w'
def kbCopy (B : Nat) (x0 x1 : Int) (n : Nat) (R : Nat → List Value) : KB :=
  ⟨fun v w => ∃ A c, v = .agg #[.int .i64 x0, .int .i64 x1, .slice A n c] ∧ Acc w B 39 5 (.slice A n c) n R, fun _ _ _ ⟨A, c, e, h⟩ hb => ⟨A, c, e, h.next hb⟩⟩
theorem below_bo (w : World) (o : Obj) : Below w.heap.size w (w.alloc o) := (Below.refl _ _).alloc (Nat.le_refl _) o
set_option maxHeartbeats 4000000 in
theorem l28Copy_any (x0 x1 : Int) {w : World} {B : Nat} {A : Option Addr} {n c : Nat} {f0 f1 f2 f3 f4 : Nat → Int} (H : Rws w B 5 A n c (flowR f0 f1 f2 f3 f4)) (hB : B ≤ w.heap.size) (hn : n ≤ 500000000) :
    Calls Try.prog 39 #[.agg #[.int .i64 x0, .int .i64 x1, .slice A n c]] w (CopyO w x0 x1 n (flowR f0 f1 f2 f3 f4)) := by
  have HH := Lib.hid (H.below ((below_bo w (.cells #[.int .i64 x0, .int .i64 x1, .slice A n c] 29)).mono hB))
  clear H
  go_enter Try.func39, Try.ntmps39
  go_wp2
  have hz := heap_new1 w (.cells #[.int .i64 x0, .int .i64 x1, .slice A n c] 29) (.cells #[.int .i64 0, .int .i64 0, .slice none 0 0] 29)
  have HH2 := Lib.hid (HH.out.below ((below_bo (w.alloc (.cells #[.int .i64 x0, .int .i64 x1, .slice A n c] 29)) (.cells #[.int .i64 0, .int .i64 0, .slice none 0 0] 29)).mono (by simp; omega)))
  clear HH
  refine wp_region_free (ds := [(0, 3), (1, 4), (2, 5), (3, 6), (4, 7), (5, 8), (6, 9), (7, 10), (8, 11)]) 9 (by kernel_rfl) (by kernel_rfl) (by first | exact .inl rfl | exact .inr (by kernel_rfl)) (by rfl) rfl rfl ?_
  apply free_is
  · intro a' w' hLe hfr hdep
    have e1 := hfr 1 rfl
    conv at e1 => rhs; whnf
    have f1 := e1; simp only [Array.getD_eq_getD_getElem?] at f1
    refine wpOp_plain rfl rfl (fun K hK => ?_)
    go_simp
    exact hK _ _ ⟨_, rfl, Below.refl _ _, rfl⟩
  apply free_is
  · intro a' w' hLe hfr hdep
    have e3 : a'.tmps.getD 3 undef = _ := hdep 0 3 (Nat.le_of_ble_eq_true rfl) rfl rfl
    conv at e3 => rhs; whnf
    have f3 := e3; simp only [Array.getD_eq_getD_getElem?] at f3
    have kc := fun i => keepc hLe (w.heap.size) (by (try simp) <;> omega) i
    have kf := fun i => keepf hLe (w.heap.size) (by (try simp) <;> omega) i
    have kz : w.heap.size < w'.heap.size := (by have := hLe.size; (try simp at this); omega)
    refine wpOp_plain rfl rfl (fun K hK => ?_)
    go_simp
    exact hK _ _ ⟨_, rfl, Below.refl _ _, rfl⟩
  apply free_is
  · intro a' w' hLe hfr hdep
    have e1 := hfr 1 rfl
    conv at e1 => rhs; whnf
    have f1 := e1; simp only [Array.getD_eq_getD_getElem?] at f1
    refine wpOp_plain rfl rfl (fun K hK => ?_)
    go_simp
    exact hK _ _ ⟨_, rfl, Below.refl _ _, rfl⟩
  apply free_is
  · intro a' w' hLe hfr hdep
    have e5 : a'.tmps.getD 5 undef = _ := hdep 2 5 (Nat.le_of_ble_eq_true rfl) rfl rfl
    conv at e5 => rhs; whnf
    have f5 := e5; simp only [Array.getD_eq_getD_getElem?] at f5
    have kc := fun i => keepc hLe (w.heap.size) (by (try simp) <;> omega) i
    have kf := fun i => keepf hLe (w.heap.size) (by (try simp) <;> omega) i
    have kz : w.heap.size < w'.heap.size := (by have := hLe.size; (try simp at this); omega)
    refine wpOp_plain rfl rfl (fun K hK => ?_)
    go_simp
    exact hK _ _ ⟨_, rfl, Below.refl _ _, rfl⟩
  refine free_cons (kbEmp w.heap.size 39) ?_ ?_
  · intro a' w' hLe hfr hdep
    refine wpOp_plain rfl rfl (fun K hK => ?_)
    go_simp
    exact hK _ _ ⟨_, rfl, (Below.refl _ _).alloc (Nat.le_refl _) _, ⟨_, rfl, by have := hLe.size; (try simp at this); omega, heap_alloc_new _ _⟩⟩
  apply free_is
  · intro a' w' hLe hfr hdep
    have e1 := hfr 1 rfl
    conv at e1 => rhs; whnf
    have f1 := e1; simp only [Array.getD_eq_getD_getElem?] at f1
    refine wpOp_plain rfl rfl (fun K hK => ?_)
    go_simp
    exact hK _ _ ⟨_, rfl, Below.refl _ _, rfl⟩
  apply free_is
  · intro a' w' hLe hfr hdep
    have e8 : a'.tmps.getD 8 undef = _ := hdep 5 8 (Nat.le_of_ble_eq_true rfl) rfl rfl
    conv at e8 => rhs; whnf
    have f8 := e8; simp only [Array.getD_eq_getD_getElem?] at f8
    have kc := fun i => keepc hLe (w.heap.size) (by (try simp) <;> omega) i
    have kf := fun i => keepf hLe (w.heap.size) (by (try simp) <;> omega) i
    have kz : w.heap.size < w'.heap.size := (by have := hLe.size; (try simp at this); omega)
    refine wpOp_plain rfl rfl (fun K hK => ?_)
    go_simp
    exact hK _ _ ⟨_, rfl, Below.refl _ _, rfl⟩
  refine free_cons (kbAcc w.heap.size 39 5 n (flowR f0 f1 f2 f3 f4)) ?_ ?_
  · intro a' w' hLe hfr hdep
    obtain ⟨b7, e7, hb7, hh7⟩ := hdep 4 7 (Nat.le_of_ble_eq_true rfl) rfl rfl
    have f7 := e7; simp only [Array.getD_eq_getD_getElem?] at f7
    have e9 : a'.tmps.getD 9 undef = _ := hdep 6 9 (Nat.le_of_ble_eq_true rfl) rfl rfl
    conv at e9 => rhs; whnf
    have f9 := e9; simp only [Array.getD_eq_getD_getElem?] at f9
    have kc := fun i => keepc hLe (w.heap.size) (by (try simp) <;> omega) i
    have kf := fun i => keepf hLe (w.heap.size) (by (try simp) <;> omega) i
    have kz : w.heap.size < w'.heap.size := (by have := hLe.size; (try simp at this); omega)
    refine wpOp_plain rfl rfl (fun K hK => ?_)
    refine wp_copy0 (.tmp 7) (.tmp 9) 27 rfl 39 _ 5 40 Try.underlying27 info_flowP (by decide) (by decide) (by decide) e7 hb7 hh7 e9 (HH2.out.below (hLe.mono (by simp; omega))) (fun _ => rfl) (flowR_one _ _ _ _ _) hn ?_
    intro v2 w2 hv2 hb
    exact hK _ _ ⟨_, rfl, hb, hv2⟩
  refine free_cons (kbCopy w.heap.size x0 x1 n (flowR f0 f1 f2 f3 f4)) ?_ ?_
  · intro a' w' hLe hfr hdep
    have e4 : a'.tmps.getD 4 undef = _ := hdep 1 4 (Nat.le_of_ble_eq_true rfl) rfl rfl
    conv at e4 => rhs; whnf
    have f4 := e4; simp only [Array.getD_eq_getD_getElem?] at f4
    have e6 : a'.tmps.getD 6 undef = _ := hdep 3 6 (Nat.le_of_ble_eq_true rfl) rfl rfl
    conv at e6 => rhs; whnf
    have f6 := e6; simp only [Array.getD_eq_getD_getElem?] at f6
    obtain ⟨A10, c10, e10, hA10⟩ := hdep 7 10 (Nat.le_of_ble_eq_true rfl) rfl rfl
    have f10 := e10; simp only [Array.getD_eq_getD_getElem?] at f10
    refine wpOp_plain rfl rfl (fun K hK => ?_)
    go_simp
    exact hK _ _ ⟨_, rfl, Below.refl _ _, ⟨A10, c10, rfl, hA10⟩⟩
  apply free_nil
  intro vs w1 hb1 hT1
  have e3 : vs 0 = _ := hT1 0 3 rfl
  conv at e3 => rhs; whnf
  have e4 : vs 1 = _ := hT1 1 4 rfl
  conv at e4 => rhs; whnf
  have e5 : vs 2 = _ := hT1 2 5 rfl
  conv at e5 => rhs; whnf
  have e6 : vs 3 = _ := hT1 3 6 rfl
  conv at e6 => rhs; whnf
  obtain ⟨b7, e7, hb7, hh7⟩ := hT1 4 7 rfl
  have e8 : vs 5 = _ := hT1 5 8 rfl
  conv at e8 => rhs; whnf
  have e9 : vs 6 = _ := hT1 6 9 rfl
  conv at e9 => rhs; whnf
  obtain ⟨A10, c10, e10, hA10⟩ := hT1 7 10 rfl
  obtain ⟨A11, c11, e11, hA11⟩ := hT1 8 11 rfl
  simp only [putAll, List.drop_succ_cons, List.drop_zero, e3, e4, e5, e6, e7, e8, e9, e10, e11]
  clear hT1 e3 e4 e5 e6 e7 e8 e9 e10 e11
  go_simp
  have hz1 := (hb1.block (w.heap.size + 1) (by simp)).trans hz
  have hl1 := heap_lt hz1
  go_wp2_with (refine wpList_store_var rfl 29 (.tmp 2) (.tmp 11) rfl #[.int .i64 x0, .int .i64 x1, .slice A11 n c11] hz1 rfl rfl (by kernel_rfl) rfl rfl ?_)
  intro w9 hh9 hg9 hs9
  obtain ⟨k9, f9⟩ := blk hh9
  have hne : (Value.slice A11 n c11).ownBlock ≠ some (w.heap.size + 1) := fun e => by
    obtain ⟨cs, h2⟩ := hA11.typed e
    exact typed_ne h2 hz1 (by decide)
  have hA9 := hA11.kept hg9 (.inr hne)
  go_wp2
  refine bodyPost_ret (v := .agg #[.int .i64 x0, .int .i64 x1, .slice A11 n c11]) (by simp [results, Try.results39, go_sem, k9]) rfl ⟨A11, c11, rfl, hA9, Below.of_grown (Below.tr (by (repeat (first | exact Below.refl _ _ | assumption | refine Below.al ?_ _ | refine Below.dr ?_ | (refine Below.st ?_ (by simp <;> omega) _) | (refine Below.tr ?_ (by assumption))))) hb1) hg9 (by omega)⟩
end Go.Proofs.Ytahniedcflfdmaa
