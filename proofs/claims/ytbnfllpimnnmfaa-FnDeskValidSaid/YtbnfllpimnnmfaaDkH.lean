/-
  PoolValid in the program.
-/
import Derived.Test.YtbnfllpimnnmfaaBase
import Derived.Test.YtbnfllpimnnmfaaFree
import Derived.Test.YtbnfllpimnnmfaaDkT
namespace Go.Proofs.Ytbnfllpimnnmfaa
open Go Go.RowKit

/-- Is host i valid, and after the one before it? -/
def poolOk (a b d : Nat → Int) (i : Nat) : Bool := inB (a i) 0 30 && inB (b i) 1 5 && inB (d i) 0 2 && (i == 0 || decide (a (i - 1) < a i))
def poolB (n : Nat) (a b d : Nat → Int) : Bool := (List.range n).all (poolOk a b d) && decide (n ≤ 6)
theorem poolB_no {n i : Nat} {a b d : Nat → Int} (hi : i < n) (ho : poolOk a b d i = false) : poolB n a b d = false := by simp only [poolB, all_no hi ho, Bool.false_and]
theorem poolB_end {n : Nat} {a b d : Nat → Int} (ho : ∀ i, i < n → poolOk a b d i = true) : poolB n a b d = decide (n ≤ 6) := by simp only [poolB, all_yes ho, Bool.true_and]
theorem poolB_asc {n : Nat} {a b d : Nat → Int} (h : poolB n a b d = true) : n ≤ 6 ∧ ∀ j, j < n → ∀ i, i < j → a i < a j := by
  simp only [poolB, Bool.and_eq_true, decide_eq_true_eq] at h
  refine ⟨h.2, fun j => ?_⟩
  induction j with
  | zero => intro _ i hi; omega
  | succ j ih =>
    intro hj i hi
    have h1 := all_get h.1 hj
    simp only [poolOk, Bool.and_eq_true, Bool.or_eq_true, beq_iff_eq, decide_eq_true_eq] at h1
    have h2 : a j < a (j + 1) := by
      rcases h1.2 with h3 | h3
      · omega
      · exact h3
    rcases Nat.lt_or_ge i j with h3 | h3
    · have := ih (by omega) i h3
      omega
    · obtain rfl : i = j := by omega
      exact h2

set_option maxRecDepth 100000 in
set_option maxHeartbeats 8000000 in
theorem implPoolValid_any {w : World} {B : Nat} {A : Option Addr} {n c : Nat} {a b d : Nat → Int} (H : Rws w B 3 A n c (hostR a b d)) (hB : B ≤ w.heap.size) :
    Calls Try.prog 21 #[.slice A n c] w fun e w' => e = .returned (.bool (poolB n a b d)) ∧ Below w.heap.size w w' := by
  obtain ⟨⟨hnc, hcm⟩, hrow⟩ := H
  unfold maxLen at hcm
  go_enter Try.func21, Try.ntmps21
  go_wp2
  go_loopw [7] (fun i wr => ∃ j : Nat, j ≤ n ∧ i = .int .i64 j ∧ (∀ i, i < j → poolOk a b d i = true) ∧ Below w.heap.size w wr) (fun i _ => n - (intOf i).toNat)
  case atStart => exact ⟨0, by omega, rfl, fun i hi => absurd hi (by omega), by (repeat (first | exact Below.refl _ _ | assumption | refine Below.al ?_ _ | refine Below.dr ?_ | (refine Below.st ?_ (by simp <;> omega) _) | (refine Below.tr ?_ (by assumption))))⟩
  case round =>
    obtain ⟨j, hj, rfl, hok, hBw⟩ := hrel
    by_cases hlt : j < n
    · obtain ⟨bl, off, rfl, hbB, hc⟩ := hrow (by omega)
      have hr := hc j hlt
      have hbs : bl < wr.heap.size := by have := hBw.size; omega
      have q0 : wr.cell? ⟨bl, off + j * 3, none⟩ = some (.int .i64 (a j)) := (keepc hBw bl (by omega) _).trans (hr 0 _ rfl)
      have q1 : wr.cell? ⟨bl, off + j * 3 + 1, none⟩ = some (.int .i64 (b j)) := (keepc hBw bl (by omega) _).trans (hr 1 _ rfl)
      have q2 : wr.cell? ⟨bl, off + j * 3 + 2, none⟩ = some (.int .i64 (d j)) := (keepc hBw bl (by omega) _).trans (hr 2 _ rfl)
      have HO := Lib.hid hok
      clear hok hr
      cases h1 : inB (a j) 0 30 with
      | false =>
        clear hc hrow
        have hno := Lib.hid (poolB_no (show j < n from hlt) (show poolOk a b d j = false by simp [poolOk, h1]))
        go_wp2
        refine wp_region_free (ds := [(0, 12), (1, 13), (2, 14), (3, 15), (4, 16), (5, 17), (6, 18), (7, 19), (8, 20), (9, 21), (10, 22), (11, 23), (12, 24), (13, 25), (14, 26), (15, 27), (16, 28), (17, 29), (18, 30), (19, 31), (20, 32), (21, 33), (22, 34), (23, 35), (24, 36), (25, 37), (26, 38), (27, 39), (28, 40), (29, 41), (30, 42)]) 31 (by kernel_rfl) (by kernel_rfl) (by first | exact .inl rfl | exact .inr (by kernel_rfl)) (by rfl) rfl rfl ?_
        apply free_is
        · intro a' w' hLe hfr hdep
          have e4 := hfr 4 rfl
          conv at e4 => rhs; whnf
          have f4 := e4; simp only [Array.getD_eq_getD_getElem?] at f4
          refine wpOp_plain rfl rfl (fun K hK => ?_)
          go_simp
          exact hK _ _ ⟨_, rfl, Below.refl _ _, rfl⟩
        apply free_is
        · intro a' w' hLe hfr hdep
          have e12 : a'.tmps.getD 12 undef = _ := hdep 0 12 (Nat.le_of_ble_eq_true rfl) rfl rfl
          conv at e12 => rhs; whnf
          have f12 := e12; simp only [Array.getD_eq_getD_getElem?] at f12
          have kc := fun i => keepc hLe (bl) (by (try simp) <;> omega) i
          have kf := fun i => keepf hLe (bl) (by (try simp) <;> omega) i
          have kz : bl < w'.heap.size := (by have := hLe.size; (try simp at this); omega)
          have kc := fun i => keepc hLe (wr.heap.size) (by (try simp) <;> omega) i
          have kf := fun i => keepf hLe (wr.heap.size) (by (try simp) <;> omega) i
          have kz : wr.heap.size < w'.heap.size := (by have := hLe.size; (try simp at this); omega)
          refine wpOp_plain rfl rfl (fun K hK => ?_)
          go_simp
          exact hK _ _ ⟨_, rfl, Below.refl _ _, rfl⟩
        apply free_is
        · intro a' w' hLe hfr hdep
          have e13 : a'.tmps.getD 13 undef = _ := hdep 1 13 (Nat.le_of_ble_eq_true rfl) rfl rfl
          conv at e13 => rhs; whnf
          have f13 := e13; simp only [Array.getD_eq_getD_getElem?] at f13
          have kc := fun i => keepc hLe (bl) (by (try simp) <;> omega) i
          have kf := fun i => keepf hLe (bl) (by (try simp) <;> omega) i
          have kz : bl < w'.heap.size := (by have := hLe.size; (try simp at this); omega)
          have kc := fun i => keepc hLe (wr.heap.size) (by (try simp) <;> omega) i
          have kf := fun i => keepf hLe (wr.heap.size) (by (try simp) <;> omega) i
          have kz : wr.heap.size < w'.heap.size := (by have := hLe.size; (try simp at this); omega)
          refine wpOp_plain rfl rfl (fun K hK => ?_)
          go_simp
          refine (in_any _ _ _ _).mono ?_
          rintro e w2 ⟨rfl, rfl⟩
          exact hK _ _ ⟨_, rfl, Below.refl _ _, rfl⟩
        apply free_is
        · intro a' w' hLe hfr hdep
          have e14 : a'.tmps.getD 14 undef = _ := hdep 2 14 (Nat.le_of_ble_eq_true rfl) rfl rfl
          conv at e14 => rhs; whnf
          have f14 := e14; simp only [Array.getD_eq_getD_getElem?] at f14
          refine wpOp_plain rfl rfl (fun K hK => ?_)
          go_simp
          exact hK _ _ ⟨_, rfl, Below.refl _ _, rfl⟩
        apply free_is
        · intro a' w' hLe hfr hdep
          have e15 : a'.tmps.getD 15 undef = _ := hdep 3 15 (Nat.le_of_ble_eq_true rfl) rfl rfl
          conv at e15 => rhs; whnf
          have f15 := e15; simp only [Array.getD_eq_getD_getElem?] at f15
          refine wpOp_plain rfl rfl (fun K hK => ?_)
          go_simp
          exact hK _ _ ⟨_, rfl, Below.refl _ _, rfl⟩
        apply free_is
        · intro a' w' hLe hfr hdep
          have e16 : a'.tmps.getD 16 undef = _ := hdep 4 16 (Nat.le_of_ble_eq_true rfl) rfl rfl
          conv at e16 => rhs; whnf
          have f16 := e16; simp only [Array.getD_eq_getD_getElem?] at f16
          exact wpOp_no rfl rfl rfl e16 ⟨_, rfl, Below.refl _ _, rfl⟩
        apply free_is
        · intro a' w' hLe hfr hdep
          have e16 : a'.tmps.getD 16 undef = _ := hdep 4 16 (Nat.le_of_ble_eq_true rfl) rfl rfl
          conv at e16 => rhs; whnf
          have f16 := e16; simp only [Array.getD_eq_getD_getElem?] at f16
          exact wpOp_no rfl rfl rfl e16 ⟨_, rfl, Below.refl _ _, rfl⟩
        apply free_is
        · intro a' w' hLe hfr hdep
          have e16 : a'.tmps.getD 16 undef = _ := hdep 4 16 (Nat.le_of_ble_eq_true rfl) rfl rfl
          conv at e16 => rhs; whnf
          have f16 := e16; simp only [Array.getD_eq_getD_getElem?] at f16
          exact wpOp_no rfl rfl rfl e16 ⟨_, rfl, Below.refl _ _, rfl⟩
        apply free_is
        · intro a' w' hLe hfr hdep
          have e19 : a'.tmps.getD 19 undef = _ := hdep 7 19 (Nat.le_of_ble_eq_true rfl) rfl rfl
          conv at e19 => rhs; whnf
          have f19 := e19; simp only [Array.getD_eq_getD_getElem?] at f19
          exact wpOp_un rfl rfl rfl e19 ⟨_, rfl, Below.refl _ _, rfl⟩
        apply free_is
        · intro a' w' hLe hfr hdep
          have e19 : a'.tmps.getD 19 undef = _ := hdep 7 19 (Nat.le_of_ble_eq_true rfl) rfl rfl
          conv at e19 => rhs; whnf
          have f19 := e19; simp only [Array.getD_eq_getD_getElem?] at f19
          exact wpOp_un rfl rfl rfl e19 ⟨_, rfl, Below.refl _ _, rfl⟩
        apply free_is
        · intro a' w' hLe hfr hdep
          have e19 : a'.tmps.getD 19 undef = _ := hdep 7 19 (Nat.le_of_ble_eq_true rfl) rfl rfl
          conv at e19 => rhs; whnf
          have f19 := e19; simp only [Array.getD_eq_getD_getElem?] at f19
          exact wpOp_un rfl rfl rfl e19 ⟨_, rfl, Below.refl _ _, rfl⟩
        apply free_is
        · intro a' w' hLe hfr hdep
          have e19 : a'.tmps.getD 19 undef = _ := hdep 7 19 (Nat.le_of_ble_eq_true rfl) rfl rfl
          conv at e19 => rhs; whnf
          have f19 := e19; simp only [Array.getD_eq_getD_getElem?] at f19
          exact wpOp_un rfl rfl rfl e19 ⟨_, rfl, Below.refl _ _, rfl⟩
        apply free_is
        · intro a' w' hLe hfr hdep
          have e19 : a'.tmps.getD 19 undef = _ := hdep 7 19 (Nat.le_of_ble_eq_true rfl) rfl rfl
          conv at e19 => rhs; whnf
          have f19 := e19; simp only [Array.getD_eq_getD_getElem?] at f19
          exact wpOp_un rfl rfl rfl e19 ⟨_, rfl, Below.refl _ _, rfl⟩
        apply free_is
        · intro a' w' hLe hfr hdep
          have e19 : a'.tmps.getD 19 undef = _ := hdep 7 19 (Nat.le_of_ble_eq_true rfl) rfl rfl
          conv at e19 => rhs; whnf
          have f19 := e19; simp only [Array.getD_eq_getD_getElem?] at f19
          exact wpOp_un rfl rfl rfl e19 ⟨_, rfl, Below.refl _ _, rfl⟩
        apply free_is
        · intro a' w' hLe hfr hdep
          have e19 : a'.tmps.getD 19 undef = _ := hdep 7 19 (Nat.le_of_ble_eq_true rfl) rfl rfl
          conv at e19 => rhs; whnf
          have f19 := e19; simp only [Array.getD_eq_getD_getElem?] at f19
          exact wpOp_un rfl rfl rfl e19 ⟨_, rfl, Below.refl _ _, rfl⟩
        apply free_is
        · intro a' w' hLe hfr hdep
          have e19 : a'.tmps.getD 19 undef = _ := hdep 7 19 (Nat.le_of_ble_eq_true rfl) rfl rfl
          conv at e19 => rhs; whnf
          have f19 := e19; simp only [Array.getD_eq_getD_getElem?] at f19
          exact wpOp_un rfl rfl rfl e19 ⟨_, rfl, Below.refl _ _, rfl⟩
        apply free_is
        · intro a' w' hLe hfr hdep
          have e19 : a'.tmps.getD 19 undef = _ := hdep 7 19 (Nat.le_of_ble_eq_true rfl) rfl rfl
          conv at e19 => rhs; whnf
          have f19 := e19; simp only [Array.getD_eq_getD_getElem?] at f19
          exact wpOp_un rfl rfl rfl e19 ⟨_, rfl, Below.refl _ _, rfl⟩
        apply free_is
        · intro a' w' hLe hfr hdep
          have e16 : a'.tmps.getD 16 undef = _ := hdep 4 16 (Nat.le_of_ble_eq_true rfl) rfl rfl
          conv at e16 => rhs; whnf
          have f16 := e16; simp only [Array.getD_eq_getD_getElem?] at f16
          exact wpOp_no rfl rfl rfl e16 ⟨_, rfl, Below.refl _ _, rfl⟩
        apply free_is
        · intro a' w' hLe hfr hdep
          have e16 : a'.tmps.getD 16 undef = _ := hdep 4 16 (Nat.le_of_ble_eq_true rfl) rfl rfl
          conv at e16 => rhs; whnf
          have f16 := e16; simp only [Array.getD_eq_getD_getElem?] at f16
          have e29 : a'.tmps.getD 29 undef = _ := hdep 17 29 (Nat.le_of_ble_eq_true rfl) rfl rfl
          conv at e29 => rhs; whnf
          have f29 := e29; simp only [Array.getD_eq_getD_getElem?] at f29
          refine wpOp_plain rfl rfl (fun K hK => ?_)
          go_simp
          exact hK _ _ ⟨_, rfl, Below.refl _ _, rfl⟩
        apply free_is
        · intro a' w' hLe hfr hdep
          have e30 : a'.tmps.getD 30 undef = _ := hdep 18 30 (Nat.le_of_ble_eq_true rfl) rfl rfl
          conv at e30 => rhs; whnf
          have f30 := e30; simp only [Array.getD_eq_getD_getElem?] at f30
          refine wpOp_plain rfl rfl (fun K hK => ?_)
          go_simp
          exact hK _ _ ⟨_, rfl, Below.refl _ _, rfl⟩
        apply free_is
        · intro a' w' hLe hfr hdep
          have e31 : a'.tmps.getD 31 undef = _ := hdep 19 31 (Nat.le_of_ble_eq_true rfl) rfl rfl
          conv at e31 => rhs; whnf
          have f31 := e31; simp only [Array.getD_eq_getD_getElem?] at f31
          exact wpOp_no rfl rfl rfl e31 ⟨_, rfl, Below.refl _ _, rfl⟩
        apply free_is
        · intro a' w' hLe hfr hdep
          have e31 : a'.tmps.getD 31 undef = _ := hdep 19 31 (Nat.le_of_ble_eq_true rfl) rfl rfl
          conv at e31 => rhs; whnf
          have f31 := e31; simp only [Array.getD_eq_getD_getElem?] at f31
          exact wpOp_no rfl rfl rfl e31 ⟨_, rfl, Below.refl _ _, rfl⟩
        apply free_is
        · intro a' w' hLe hfr hdep
          have e31 : a'.tmps.getD 31 undef = _ := hdep 19 31 (Nat.le_of_ble_eq_true rfl) rfl rfl
          conv at e31 => rhs; whnf
          have f31 := e31; simp only [Array.getD_eq_getD_getElem?] at f31
          exact wpOp_no rfl rfl rfl e31 ⟨_, rfl, Below.refl _ _, rfl⟩
        apply free_is
        · intro a' w' hLe hfr hdep
          have e31 : a'.tmps.getD 31 undef = _ := hdep 19 31 (Nat.le_of_ble_eq_true rfl) rfl rfl
          conv at e31 => rhs; whnf
          have f31 := e31; simp only [Array.getD_eq_getD_getElem?] at f31
          exact wpOp_no rfl rfl rfl e31 ⟨_, rfl, Below.refl _ _, rfl⟩
        apply free_is
        · intro a' w' hLe hfr hdep
          have e31 : a'.tmps.getD 31 undef = _ := hdep 19 31 (Nat.le_of_ble_eq_true rfl) rfl rfl
          conv at e31 => rhs; whnf
          have f31 := e31; simp only [Array.getD_eq_getD_getElem?] at f31
          have e35 : a'.tmps.getD 35 undef = _ := hdep 23 35 (Nat.le_of_ble_eq_true rfl) rfl rfl
          conv at e35 => rhs; whnf
          have f35 := e35; simp only [Array.getD_eq_getD_getElem?] at f35
          refine wpOp_plain rfl rfl (fun K hK => ?_)
          go_simp
          exact hK _ _ ⟨_, rfl, Below.refl _ _, rfl⟩
        apply free_is
        · intro a' w' hLe hfr hdep
          have e36 : a'.tmps.getD 36 undef = _ := hdep 24 36 (Nat.le_of_ble_eq_true rfl) rfl rfl
          conv at e36 => rhs; whnf
          have f36 := e36; simp only [Array.getD_eq_getD_getElem?] at f36
          refine wpOp_plain rfl rfl (fun K hK => ?_)
          go_simp
          exact hK _ _ ⟨_, rfl, Below.refl _ _, rfl⟩
        apply free_is
        · intro a' w' hLe hfr hdep
          have e37 : a'.tmps.getD 37 undef = _ := hdep 25 37 (Nat.le_of_ble_eq_true rfl) rfl rfl
          conv at e37 => rhs; whnf
          have f37 := e37; simp only [Array.getD_eq_getD_getElem?] at f37
          exact wpOp_no rfl rfl rfl e37 ⟨_, rfl, Below.refl _ _, rfl⟩
        apply free_is
        · intro a' w' hLe hfr hdep
          have e37 : a'.tmps.getD 37 undef = _ := hdep 25 37 (Nat.le_of_ble_eq_true rfl) rfl rfl
          conv at e37 => rhs; whnf
          have f37 := e37; simp only [Array.getD_eq_getD_getElem?] at f37
          exact wpOp_no rfl rfl rfl e37 ⟨_, rfl, Below.refl _ _, rfl⟩
        apply free_is
        · intro a' w' hLe hfr hdep
          have e37 : a'.tmps.getD 37 undef = _ := hdep 25 37 (Nat.le_of_ble_eq_true rfl) rfl rfl
          conv at e37 => rhs; whnf
          have f37 := e37; simp only [Array.getD_eq_getD_getElem?] at f37
          exact wpOp_no rfl rfl rfl e37 ⟨_, rfl, Below.refl _ _, rfl⟩
        apply free_is
        · intro a' w' hLe hfr hdep
          have e37 : a'.tmps.getD 37 undef = _ := hdep 25 37 (Nat.le_of_ble_eq_true rfl) rfl rfl
          conv at e37 => rhs; whnf
          have f37 := e37; simp only [Array.getD_eq_getD_getElem?] at f37
          exact wpOp_no rfl rfl rfl e37 ⟨_, rfl, Below.refl _ _, rfl⟩
        apply free_is
        · intro a' w' hLe hfr hdep
          have e37 : a'.tmps.getD 37 undef = _ := hdep 25 37 (Nat.le_of_ble_eq_true rfl) rfl rfl
          conv at e37 => rhs; whnf
          have f37 := e37; simp only [Array.getD_eq_getD_getElem?] at f37
          have e41 : a'.tmps.getD 41 undef = _ := hdep 29 41 (Nat.le_of_ble_eq_true rfl) rfl rfl
          conv at e41 => rhs; whnf
          have f41 := e41; simp only [Array.getD_eq_getD_getElem?] at f41
          refine wpOp_plain rfl rfl (fun K hK => ?_)
          go_simp
          exact hK _ _ ⟨_, rfl, Below.refl _ _, rfl⟩
        apply free_nil
        intro vs w1 hb1 hT1
        have e12 : vs 0 = _ := hT1 0 12 rfl
        conv at e12 => rhs; whnf
        have e13 : vs 1 = _ := hT1 1 13 rfl
        conv at e13 => rhs; whnf
        have e14 : vs 2 = _ := hT1 2 14 rfl
        conv at e14 => rhs; whnf
        have e15 : vs 3 = _ := hT1 3 15 rfl
        conv at e15 => rhs; whnf
        have e16 : vs 4 = _ := hT1 4 16 rfl
        conv at e16 => rhs; whnf
        have e17 : vs 5 = _ := hT1 5 17 rfl
        conv at e17 => rhs; whnf
        have e18 : vs 6 = _ := hT1 6 18 rfl
        conv at e18 => rhs; whnf
        have e19 : vs 7 = _ := hT1 7 19 rfl
        conv at e19 => rhs; whnf
        have e20 : vs 8 = _ := hT1 8 20 rfl
        conv at e20 => rhs; whnf
        have e21 : vs 9 = _ := hT1 9 21 rfl
        conv at e21 => rhs; whnf
        have e22 : vs 10 = _ := hT1 10 22 rfl
        conv at e22 => rhs; whnf
        have e23 : vs 11 = _ := hT1 11 23 rfl
        conv at e23 => rhs; whnf
        have e24 : vs 12 = _ := hT1 12 24 rfl
        conv at e24 => rhs; whnf
        have e25 : vs 13 = _ := hT1 13 25 rfl
        conv at e25 => rhs; whnf
        have e26 : vs 14 = _ := hT1 14 26 rfl
        conv at e26 => rhs; whnf
        have e27 : vs 15 = _ := hT1 15 27 rfl
        conv at e27 => rhs; whnf
        have e28 : vs 16 = _ := hT1 16 28 rfl
        conv at e28 => rhs; whnf
        have e29 : vs 17 = _ := hT1 17 29 rfl
        conv at e29 => rhs; whnf
        have e30 : vs 18 = _ := hT1 18 30 rfl
        conv at e30 => rhs; whnf
        have e31 : vs 19 = _ := hT1 19 31 rfl
        conv at e31 => rhs; whnf
        have e32 : vs 20 = _ := hT1 20 32 rfl
        conv at e32 => rhs; whnf
        have e33 : vs 21 = _ := hT1 21 33 rfl
        conv at e33 => rhs; whnf
        have e34 : vs 22 = _ := hT1 22 34 rfl
        conv at e34 => rhs; whnf
        have e35 : vs 23 = _ := hT1 23 35 rfl
        conv at e35 => rhs; whnf
        have e36 : vs 24 = _ := hT1 24 36 rfl
        conv at e36 => rhs; whnf
        have e37 : vs 25 = _ := hT1 25 37 rfl
        conv at e37 => rhs; whnf
        have e38 : vs 26 = _ := hT1 26 38 rfl
        conv at e38 => rhs; whnf
        have e39 : vs 27 = _ := hT1 27 39 rfl
        conv at e39 => rhs; whnf
        have e40 : vs 28 = _ := hT1 28 40 rfl
        conv at e40 => rhs; whnf
        have e41 : vs 29 = _ := hT1 29 41 rfl
        conv at e41 => rhs; whnf
        have e42 : vs 30 = _ := hT1 30 42 rfl
        conv at e42 => rhs; whnf
        simp only [putAll, List.drop_succ_cons, List.drop_zero, e12, e13, e14, e15, e16, e17, e18, e19, e20, e21, e22, e23, e24, e25, e26, e27, e28, e29, e30, e31, e32, e33, e34, e35, e36, e37, e38, e39, e40, e41, e42]
        clear hT1 e12 e13 e14 e15 e16 e17 e18 e19 e20 e21 e22 e23 e24 e25 e26 e27 e28 e29 e30 e31 e32 e33 e34 e35 e36 e37 e38 e39 e40 e41 e42
        go_simp
        go_wp2
        go_ret
        exact ⟨by rw [hno.out] <;> rfl, Below.tr (by (repeat (first | exact Below.refl _ _ | assumption | refine Below.al ?_ _ | refine Below.dr ?_ | (refine Below.st ?_ (by simp <;> omega) _) | (refine Below.tr ?_ (by assumption))))) hb1⟩
      | true =>
        rcases Nat.eq_zero_or_pos j with rfl | hpos
        · clear hc hrow
          simp only [Nat.zero_mul, Nat.add_zero] at q0 q1 q2
          cases h2 : inB (b 0) 1 5 with
          | false =>
            have hno := Lib.hid (poolB_no (show 0 < n from hlt) (show poolOk a b d 0 = false by simp [poolOk, h1, h2]))
            go_wp2
            refine wp_region_free (ds := [(0, 12), (1, 13), (2, 14), (3, 15), (4, 16), (5, 17), (6, 18), (7, 19), (8, 20), (9, 21), (10, 22), (11, 23), (12, 24), (13, 25), (14, 26), (15, 27), (16, 28), (17, 29), (18, 30), (19, 31), (20, 32), (21, 33), (22, 34), (23, 35), (24, 36), (25, 37), (26, 38), (27, 39), (28, 40), (29, 41), (30, 42)]) 31 (by kernel_rfl) (by kernel_rfl) (by first | exact .inl rfl | exact .inr (by kernel_rfl)) (by rfl) rfl rfl ?_
            apply free_is
            · intro a' w' hLe hfr hdep
              have e4 := hfr 4 rfl
              conv at e4 => rhs; whnf
              have f4 := e4; simp only [Array.getD_eq_getD_getElem?] at f4
              refine wpOp_plain rfl rfl (fun K hK => ?_)
              go_simp
              exact hK _ _ ⟨_, rfl, Below.refl _ _, rfl⟩
            apply free_is
            · intro a' w' hLe hfr hdep
              have e12 : a'.tmps.getD 12 undef = _ := hdep 0 12 (Nat.le_of_ble_eq_true rfl) rfl rfl
              conv at e12 => rhs; whnf
              have f12 := e12; simp only [Array.getD_eq_getD_getElem?] at f12
              have kc := fun i => keepc hLe (bl) (by (try simp) <;> omega) i
              have kf := fun i => keepf hLe (bl) (by (try simp) <;> omega) i
              have kz : bl < w'.heap.size := (by have := hLe.size; (try simp at this); omega)
              have kc := fun i => keepc hLe (wr.heap.size) (by (try simp) <;> omega) i
              have kf := fun i => keepf hLe (wr.heap.size) (by (try simp) <;> omega) i
              have kz : wr.heap.size < w'.heap.size := (by have := hLe.size; (try simp at this); omega)
              refine wpOp_plain rfl rfl (fun K hK => ?_)
              go_simp
              exact hK _ _ ⟨_, rfl, Below.refl _ _, rfl⟩
            apply free_is
            · intro a' w' hLe hfr hdep
              have e13 : a'.tmps.getD 13 undef = _ := hdep 1 13 (Nat.le_of_ble_eq_true rfl) rfl rfl
              conv at e13 => rhs; whnf
              have f13 := e13; simp only [Array.getD_eq_getD_getElem?] at f13
              have kc := fun i => keepc hLe (bl) (by (try simp) <;> omega) i
              have kf := fun i => keepf hLe (bl) (by (try simp) <;> omega) i
              have kz : bl < w'.heap.size := (by have := hLe.size; (try simp at this); omega)
              have kc := fun i => keepc hLe (wr.heap.size) (by (try simp) <;> omega) i
              have kf := fun i => keepf hLe (wr.heap.size) (by (try simp) <;> omega) i
              have kz : wr.heap.size < w'.heap.size := (by have := hLe.size; (try simp at this); omega)
              refine wpOp_plain rfl rfl (fun K hK => ?_)
              go_simp
              refine (in_any _ _ _ _).mono ?_
              rintro e w2 ⟨rfl, rfl⟩
              exact hK _ _ ⟨_, rfl, Below.refl _ _, rfl⟩
            apply free_is
            · intro a' w' hLe hfr hdep
              have e14 : a'.tmps.getD 14 undef = _ := hdep 2 14 (Nat.le_of_ble_eq_true rfl) rfl rfl
              conv at e14 => rhs; whnf
              have f14 := e14; simp only [Array.getD_eq_getD_getElem?] at f14
              refine wpOp_plain rfl rfl (fun K hK => ?_)
              go_simp
              exact hK _ _ ⟨_, rfl, Below.refl _ _, rfl⟩
            apply free_is
            · intro a' w' hLe hfr hdep
              have e15 : a'.tmps.getD 15 undef = _ := hdep 3 15 (Nat.le_of_ble_eq_true rfl) rfl rfl
              conv at e15 => rhs; whnf
              have f15 := e15; simp only [Array.getD_eq_getD_getElem?] at f15
              refine wpOp_plain rfl rfl (fun K hK => ?_)
              go_simp
              exact hK _ _ ⟨_, rfl, Below.refl _ _, rfl⟩
            apply free_is
            · intro a' w' hLe hfr hdep
              have e16 : a'.tmps.getD 16 undef = _ := hdep 4 16 (Nat.le_of_ble_eq_true rfl) rfl rfl
              conv at e16 => rhs; whnf
              have f16 := e16; simp only [Array.getD_eq_getD_getElem?] at f16
              have e3 := hfr 3 rfl
              conv at e3 => rhs; whnf
              have f3 := e3; simp only [Array.getD_eq_getD_getElem?] at f3
              refine wpOp_yes rfl rfl rfl e16 (fun K hK => ?_)
              go_simp
              exact hK _ _ ⟨_, rfl, Below.refl _ _, rfl⟩
            apply free_is
            · intro a' w' hLe hfr hdep
              have e16 : a'.tmps.getD 16 undef = _ := hdep 4 16 (Nat.le_of_ble_eq_true rfl) rfl rfl
              conv at e16 => rhs; whnf
              have f16 := e16; simp only [Array.getD_eq_getD_getElem?] at f16
              have e17 : a'.tmps.getD 17 undef = _ := hdep 5 17 (Nat.le_of_ble_eq_true rfl) rfl rfl
              conv at e17 => rhs; whnf
              have f17 := e17; simp only [Array.getD_eq_getD_getElem?] at f17
              refine wpOp_yes rfl rfl rfl e16 (fun K hK => ?_)
              go_simp
              exact hK _ _ ⟨_, rfl, Below.refl _ _, rfl⟩
            apply free_is
            · intro a' w' hLe hfr hdep
              have e16 : a'.tmps.getD 16 undef = _ := hdep 4 16 (Nat.le_of_ble_eq_true rfl) rfl rfl
              conv at e16 => rhs; whnf
              have f16 := e16; simp only [Array.getD_eq_getD_getElem?] at f16
              have e18 : a'.tmps.getD 18 undef = _ := hdep 6 18 (Nat.le_of_ble_eq_true rfl) rfl rfl
              conv at e18 => rhs; whnf
              have f18 := e18; simp only [Array.getD_eq_getD_getElem?] at f18
              refine wpOp_yes rfl rfl rfl e16 (fun K hK => ?_)
              go_simp
              exact hK _ _ ⟨_, rfl, Below.refl _ _, rfl⟩
            apply free_is
            · intro a' w' hLe hfr hdep
              have e19 : a'.tmps.getD 19 undef = _ := hdep 7 19 (Nat.le_of_ble_eq_true rfl) rfl rfl
              conv at e19 => rhs; whnf
              have f19 := e19; simp only [Array.getD_eq_getD_getElem?] at f19
              exact wpOp_no rfl rfl rfl e19 ⟨_, rfl, Below.refl _ _, rfl⟩
            apply free_is
            · intro a' w' hLe hfr hdep
              have e19 : a'.tmps.getD 19 undef = _ := hdep 7 19 (Nat.le_of_ble_eq_true rfl) rfl rfl
              conv at e19 => rhs; whnf
              have f19 := e19; simp only [Array.getD_eq_getD_getElem?] at f19
              exact wpOp_no rfl rfl rfl e19 ⟨_, rfl, Below.refl _ _, rfl⟩
            apply free_is
            · intro a' w' hLe hfr hdep
              have e19 : a'.tmps.getD 19 undef = _ := hdep 7 19 (Nat.le_of_ble_eq_true rfl) rfl rfl
              conv at e19 => rhs; whnf
              have f19 := e19; simp only [Array.getD_eq_getD_getElem?] at f19
              exact wpOp_no rfl rfl rfl e19 ⟨_, rfl, Below.refl _ _, rfl⟩
            apply free_is
            · intro a' w' hLe hfr hdep
              have e19 : a'.tmps.getD 19 undef = _ := hdep 7 19 (Nat.le_of_ble_eq_true rfl) rfl rfl
              conv at e19 => rhs; whnf
              have f19 := e19; simp only [Array.getD_eq_getD_getElem?] at f19
              exact wpOp_no rfl rfl rfl e19 ⟨_, rfl, Below.refl _ _, rfl⟩
            apply free_is
            · intro a' w' hLe hfr hdep
              have e19 : a'.tmps.getD 19 undef = _ := hdep 7 19 (Nat.le_of_ble_eq_true rfl) rfl rfl
              conv at e19 => rhs; whnf
              have f19 := e19; simp only [Array.getD_eq_getD_getElem?] at f19
              exact wpOp_no rfl rfl rfl e19 ⟨_, rfl, Below.refl _ _, rfl⟩
            apply free_is
            · intro a' w' hLe hfr hdep
              have e19 : a'.tmps.getD 19 undef = _ := hdep 7 19 (Nat.le_of_ble_eq_true rfl) rfl rfl
              conv at e19 => rhs; whnf
              have f19 := e19; simp only [Array.getD_eq_getD_getElem?] at f19
              exact wpOp_no rfl rfl rfl e19 ⟨_, rfl, Below.refl _ _, rfl⟩
            apply free_is
            · intro a' w' hLe hfr hdep
              have e19 : a'.tmps.getD 19 undef = _ := hdep 7 19 (Nat.le_of_ble_eq_true rfl) rfl rfl
              conv at e19 => rhs; whnf
              have f19 := e19; simp only [Array.getD_eq_getD_getElem?] at f19
              exact wpOp_no rfl rfl rfl e19 ⟨_, rfl, Below.refl _ _, rfl⟩
            apply free_is
            · intro a' w' hLe hfr hdep
              have e19 : a'.tmps.getD 19 undef = _ := hdep 7 19 (Nat.le_of_ble_eq_true rfl) rfl rfl
              conv at e19 => rhs; whnf
              have f19 := e19; simp only [Array.getD_eq_getD_getElem?] at f19
              exact wpOp_no rfl rfl rfl e19 ⟨_, rfl, Below.refl _ _, rfl⟩
            apply free_is
            · intro a' w' hLe hfr hdep
              have e19 : a'.tmps.getD 19 undef = _ := hdep 7 19 (Nat.le_of_ble_eq_true rfl) rfl rfl
              conv at e19 => rhs; whnf
              have f19 := e19; simp only [Array.getD_eq_getD_getElem?] at f19
              exact wpOp_no rfl rfl rfl e19 ⟨_, rfl, Below.refl _ _, rfl⟩
            apply free_is
            · intro a' w' hLe hfr hdep
              have e16 : a'.tmps.getD 16 undef = _ := hdep 4 16 (Nat.le_of_ble_eq_true rfl) rfl rfl
              conv at e16 => rhs; whnf
              have f16 := e16; simp only [Array.getD_eq_getD_getElem?] at f16
              have e19 : a'.tmps.getD 19 undef = _ := hdep 7 19 (Nat.le_of_ble_eq_true rfl) rfl rfl
              conv at e19 => rhs; whnf
              have f19 := e19; simp only [Array.getD_eq_getD_getElem?] at f19
              have e28 : a'.tmps.getD 28 undef = _ := hdep 16 28 (Nat.le_of_ble_eq_true rfl) rfl rfl
              conv at e28 => rhs; whnf
              have f28 := e28; simp only [Array.getD_eq_getD_getElem?] at f28
              refine wpOp_yes rfl rfl rfl e16 (fun K hK => ?_)
              go_simp
              exact hK _ _ ⟨_, rfl, Below.refl _ _, rfl⟩
            apply free_is
            · intro a' w' hLe hfr hdep
              have e16 : a'.tmps.getD 16 undef = _ := hdep 4 16 (Nat.le_of_ble_eq_true rfl) rfl rfl
              conv at e16 => rhs; whnf
              have f16 := e16; simp only [Array.getD_eq_getD_getElem?] at f16
              have e29 : a'.tmps.getD 29 undef = _ := hdep 17 29 (Nat.le_of_ble_eq_true rfl) rfl rfl
              conv at e29 => rhs; whnf
              have f29 := e29; simp only [Array.getD_eq_getD_getElem?] at f29
              refine wpOp_plain rfl rfl (fun K hK => ?_)
              go_simp
              exact hK _ _ ⟨_, rfl, Below.refl _ _, rfl⟩
            apply free_is
            · intro a' w' hLe hfr hdep
              have e30 : a'.tmps.getD 30 undef = _ := hdep 18 30 (Nat.le_of_ble_eq_true rfl) rfl rfl
              conv at e30 => rhs; whnf
              have f30 := e30; simp only [Array.getD_eq_getD_getElem?] at f30
              refine wpOp_plain rfl rfl (fun K hK => ?_)
              go_simp
              exact hK _ _ ⟨_, rfl, Below.refl _ _, rfl⟩
            apply free_is
            · intro a' w' hLe hfr hdep
              have e31 : a'.tmps.getD 31 undef = _ := hdep 19 31 (Nat.le_of_ble_eq_true rfl) rfl rfl
              conv at e31 => rhs; whnf
              have f31 := e31; simp only [Array.getD_eq_getD_getElem?] at f31
              have e4 := hfr 4 rfl
              conv at e4 => rhs; whnf
              have f4 := e4; simp only [Array.getD_eq_getD_getElem?] at f4
              refine wpOp_yes rfl rfl rfl e31 (fun K hK => ?_)
              go_simp
              exact hK _ _ ⟨_, rfl, Below.refl _ _, rfl⟩
            apply free_is
            · intro a' w' hLe hfr hdep
              have e31 : a'.tmps.getD 31 undef = _ := hdep 19 31 (Nat.le_of_ble_eq_true rfl) rfl rfl
              conv at e31 => rhs; whnf
              have f31 := e31; simp only [Array.getD_eq_getD_getElem?] at f31
              have e32 : a'.tmps.getD 32 undef = _ := hdep 20 32 (Nat.le_of_ble_eq_true rfl) rfl rfl
              conv at e32 => rhs; whnf
              have f32 := e32; simp only [Array.getD_eq_getD_getElem?] at f32
              have kc := fun i => keepc hLe (bl) (by (try simp) <;> omega) i
              have kf := fun i => keepf hLe (bl) (by (try simp) <;> omega) i
              have kz : bl < w'.heap.size := (by have := hLe.size; (try simp at this); omega)
              have kc := fun i => keepc hLe (wr.heap.size) (by (try simp) <;> omega) i
              have kf := fun i => keepf hLe (wr.heap.size) (by (try simp) <;> omega) i
              have kz : wr.heap.size < w'.heap.size := (by have := hLe.size; (try simp at this); omega)
              refine wpOp_yes rfl rfl rfl e31 (fun K hK => ?_)
              go_simp
              exact hK _ _ ⟨_, rfl, Below.refl _ _, rfl⟩
            apply free_is
            · intro a' w' hLe hfr hdep
              have e31 : a'.tmps.getD 31 undef = _ := hdep 19 31 (Nat.le_of_ble_eq_true rfl) rfl rfl
              conv at e31 => rhs; whnf
              have f31 := e31; simp only [Array.getD_eq_getD_getElem?] at f31
              have e33 : a'.tmps.getD 33 undef = _ := hdep 21 33 (Nat.le_of_ble_eq_true rfl) rfl rfl
              conv at e33 => rhs; whnf
              have f33 := e33; simp only [Array.getD_eq_getD_getElem?] at f33
              have kc := fun i => keepc hLe (bl) (by (try simp) <;> omega) i
              have kf := fun i => keepf hLe (bl) (by (try simp) <;> omega) i
              have kz : bl < w'.heap.size := (by have := hLe.size; (try simp at this); omega)
              have kc := fun i => keepc hLe (wr.heap.size) (by (try simp) <;> omega) i
              have kf := fun i => keepf hLe (wr.heap.size) (by (try simp) <;> omega) i
              have kz : wr.heap.size < w'.heap.size := (by have := hLe.size; (try simp at this); omega)
              refine wpOp_yes rfl rfl rfl e31 (fun K hK => ?_)
              go_simp
              refine (in_any _ _ _ _).mono ?_
              rintro e w2 ⟨rfl, rfl⟩
              exact hK _ _ ⟨_, rfl, Below.refl _ _, rfl⟩
            apply free_is
            · intro a' w' hLe hfr hdep
              have e31 : a'.tmps.getD 31 undef = _ := hdep 19 31 (Nat.le_of_ble_eq_true rfl) rfl rfl
              conv at e31 => rhs; whnf
              have f31 := e31; simp only [Array.getD_eq_getD_getElem?] at f31
              have e34 : a'.tmps.getD 34 undef = _ := hdep 22 34 (Nat.le_of_ble_eq_true rfl) rfl rfl
              conv at e34 => rhs; whnf
              have f34 := e34; simp only [Array.getD_eq_getD_getElem?] at f34
              refine wpOp_yes rfl rfl rfl e31 (fun K hK => ?_)
              go_simp
              exact hK _ _ ⟨_, rfl, Below.refl _ _, rfl⟩
            apply free_is
            · intro a' w' hLe hfr hdep
              have e31 : a'.tmps.getD 31 undef = _ := hdep 19 31 (Nat.le_of_ble_eq_true rfl) rfl rfl
              conv at e31 => rhs; whnf
              have f31 := e31; simp only [Array.getD_eq_getD_getElem?] at f31
              have e35 : a'.tmps.getD 35 undef = _ := hdep 23 35 (Nat.le_of_ble_eq_true rfl) rfl rfl
              conv at e35 => rhs; whnf
              have f35 := e35; simp only [Array.getD_eq_getD_getElem?] at f35
              refine wpOp_plain rfl rfl (fun K hK => ?_)
              go_simp
              exact hK _ _ ⟨_, rfl, Below.refl _ _, rfl⟩
            apply free_is
            · intro a' w' hLe hfr hdep
              have e36 : a'.tmps.getD 36 undef = _ := hdep 24 36 (Nat.le_of_ble_eq_true rfl) rfl rfl
              conv at e36 => rhs; whnf
              have f36 := e36; simp only [Array.getD_eq_getD_getElem?] at f36
              refine wpOp_plain rfl rfl (fun K hK => ?_)
              go_simp
              exact hK _ _ ⟨_, rfl, Below.refl _ _, rfl⟩
            apply free_is
            · intro a' w' hLe hfr hdep
              have e37 : a'.tmps.getD 37 undef = _ := hdep 25 37 (Nat.le_of_ble_eq_true rfl) rfl rfl
              conv at e37 => rhs; whnf
              have f37 := e37; simp only [Array.getD_eq_getD_getElem?] at f37
              exact wpOp_no rfl rfl rfl e37 ⟨_, rfl, Below.refl _ _, rfl⟩
            apply free_is
            · intro a' w' hLe hfr hdep
              have e37 : a'.tmps.getD 37 undef = _ := hdep 25 37 (Nat.le_of_ble_eq_true rfl) rfl rfl
              conv at e37 => rhs; whnf
              have f37 := e37; simp only [Array.getD_eq_getD_getElem?] at f37
              exact wpOp_no rfl rfl rfl e37 ⟨_, rfl, Below.refl _ _, rfl⟩
            apply free_is
            · intro a' w' hLe hfr hdep
              have e37 : a'.tmps.getD 37 undef = _ := hdep 25 37 (Nat.le_of_ble_eq_true rfl) rfl rfl
              conv at e37 => rhs; whnf
              have f37 := e37; simp only [Array.getD_eq_getD_getElem?] at f37
              exact wpOp_no rfl rfl rfl e37 ⟨_, rfl, Below.refl _ _, rfl⟩
            apply free_is
            · intro a' w' hLe hfr hdep
              have e37 : a'.tmps.getD 37 undef = _ := hdep 25 37 (Nat.le_of_ble_eq_true rfl) rfl rfl
              conv at e37 => rhs; whnf
              have f37 := e37; simp only [Array.getD_eq_getD_getElem?] at f37
              exact wpOp_no rfl rfl rfl e37 ⟨_, rfl, Below.refl _ _, rfl⟩
            apply free_is
            · intro a' w' hLe hfr hdep
              have e37 : a'.tmps.getD 37 undef = _ := hdep 25 37 (Nat.le_of_ble_eq_true rfl) rfl rfl
              conv at e37 => rhs; whnf
              have f37 := e37; simp only [Array.getD_eq_getD_getElem?] at f37
              have e41 : a'.tmps.getD 41 undef = _ := hdep 29 41 (Nat.le_of_ble_eq_true rfl) rfl rfl
              conv at e41 => rhs; whnf
              have f41 := e41; simp only [Array.getD_eq_getD_getElem?] at f41
              refine wpOp_plain rfl rfl (fun K hK => ?_)
              go_simp
              exact hK _ _ ⟨_, rfl, Below.refl _ _, rfl⟩
            apply free_nil
            intro vs w1 hb1 hT1
            have e12 : vs 0 = _ := hT1 0 12 rfl
            conv at e12 => rhs; whnf
            have e13 : vs 1 = _ := hT1 1 13 rfl
            conv at e13 => rhs; whnf
            have e14 : vs 2 = _ := hT1 2 14 rfl
            conv at e14 => rhs; whnf
            have e15 : vs 3 = _ := hT1 3 15 rfl
            conv at e15 => rhs; whnf
            have e16 : vs 4 = _ := hT1 4 16 rfl
            conv at e16 => rhs; whnf
            have e17 : vs 5 = _ := hT1 5 17 rfl
            conv at e17 => rhs; whnf
            have e18 : vs 6 = _ := hT1 6 18 rfl
            conv at e18 => rhs; whnf
            have e19 : vs 7 = _ := hT1 7 19 rfl
            conv at e19 => rhs; whnf
            have e20 : vs 8 = _ := hT1 8 20 rfl
            conv at e20 => rhs; whnf
            have e21 : vs 9 = _ := hT1 9 21 rfl
            conv at e21 => rhs; whnf
            have e22 : vs 10 = _ := hT1 10 22 rfl
            conv at e22 => rhs; whnf
            have e23 : vs 11 = _ := hT1 11 23 rfl
            conv at e23 => rhs; whnf
            have e24 : vs 12 = _ := hT1 12 24 rfl
            conv at e24 => rhs; whnf
            have e25 : vs 13 = _ := hT1 13 25 rfl
            conv at e25 => rhs; whnf
            have e26 : vs 14 = _ := hT1 14 26 rfl
            conv at e26 => rhs; whnf
            have e27 : vs 15 = _ := hT1 15 27 rfl
            conv at e27 => rhs; whnf
            have e28 : vs 16 = _ := hT1 16 28 rfl
            conv at e28 => rhs; whnf
            have e29 : vs 17 = _ := hT1 17 29 rfl
            conv at e29 => rhs; whnf
            have e30 : vs 18 = _ := hT1 18 30 rfl
            conv at e30 => rhs; whnf
            have e31 : vs 19 = _ := hT1 19 31 rfl
            conv at e31 => rhs; whnf
            have e32 : vs 20 = _ := hT1 20 32 rfl
            conv at e32 => rhs; whnf
            have e33 : vs 21 = _ := hT1 21 33 rfl
            conv at e33 => rhs; whnf
            have e34 : vs 22 = _ := hT1 22 34 rfl
            conv at e34 => rhs; whnf
            have e35 : vs 23 = _ := hT1 23 35 rfl
            conv at e35 => rhs; whnf
            have e36 : vs 24 = _ := hT1 24 36 rfl
            conv at e36 => rhs; whnf
            have e37 : vs 25 = _ := hT1 25 37 rfl
            conv at e37 => rhs; whnf
            have e38 : vs 26 = _ := hT1 26 38 rfl
            conv at e38 => rhs; whnf
            have e39 : vs 27 = _ := hT1 27 39 rfl
            conv at e39 => rhs; whnf
            have e40 : vs 28 = _ := hT1 28 40 rfl
            conv at e40 => rhs; whnf
            have e41 : vs 29 = _ := hT1 29 41 rfl
            conv at e41 => rhs; whnf
            have e42 : vs 30 = _ := hT1 30 42 rfl
            conv at e42 => rhs; whnf
            simp only [putAll, List.drop_succ_cons, List.drop_zero, e12, e13, e14, e15, e16, e17, e18, e19, e20, e21, e22, e23, e24, e25, e26, e27, e28, e29, e30, e31, e32, e33, e34, e35, e36, e37, e38, e39, e40, e41, e42]
            clear hT1 e12 e13 e14 e15 e16 e17 e18 e19 e20 e21 e22 e23 e24 e25 e26 e27 e28 e29 e30 e31 e32 e33 e34 e35 e36 e37 e38 e39 e40 e41 e42
            go_simp
            go_wp2
            go_ret
            exact ⟨by rw [hno.out] <;> rfl, Below.tr (by (repeat (first | exact Below.refl _ _ | assumption | refine Below.al ?_ _ | refine Below.dr ?_ | (refine Below.st ?_ (by simp <;> omega) _) | (refine Below.tr ?_ (by assumption))))) hb1⟩
          | true =>
            cases h3 : inB (d 0) 0 2 with
            | false =>
              have hno := Lib.hid (poolB_no (show 0 < n from hlt) (show poolOk a b d 0 = false by simp [poolOk, h1, h2, h3]))
              go_wp2
              refine wp_region_free (ds := [(0, 12), (1, 13), (2, 14), (3, 15), (4, 16), (5, 17), (6, 18), (7, 19), (8, 20), (9, 21), (10, 22), (11, 23), (12, 24), (13, 25), (14, 26), (15, 27), (16, 28), (17, 29), (18, 30), (19, 31), (20, 32), (21, 33), (22, 34), (23, 35), (24, 36), (25, 37), (26, 38), (27, 39), (28, 40), (29, 41), (30, 42)]) 31 (by kernel_rfl) (by kernel_rfl) (by first | exact .inl rfl | exact .inr (by kernel_rfl)) (by rfl) rfl rfl ?_
              apply free_is
              · intro a' w' hLe hfr hdep
                have e4 := hfr 4 rfl
                conv at e4 => rhs; whnf
                have f4 := e4; simp only [Array.getD_eq_getD_getElem?] at f4
                refine wpOp_plain rfl rfl (fun K hK => ?_)
                go_simp
                exact hK _ _ ⟨_, rfl, Below.refl _ _, rfl⟩
              apply free_is
              · intro a' w' hLe hfr hdep
                have e12 : a'.tmps.getD 12 undef = _ := hdep 0 12 (Nat.le_of_ble_eq_true rfl) rfl rfl
                conv at e12 => rhs; whnf
                have f12 := e12; simp only [Array.getD_eq_getD_getElem?] at f12
                have kc := fun i => keepc hLe (bl) (by (try simp) <;> omega) i
                have kf := fun i => keepf hLe (bl) (by (try simp) <;> omega) i
                have kz : bl < w'.heap.size := (by have := hLe.size; (try simp at this); omega)
                have kc := fun i => keepc hLe (wr.heap.size) (by (try simp) <;> omega) i
                have kf := fun i => keepf hLe (wr.heap.size) (by (try simp) <;> omega) i
                have kz : wr.heap.size < w'.heap.size := (by have := hLe.size; (try simp at this); omega)
                refine wpOp_plain rfl rfl (fun K hK => ?_)
                go_simp
                exact hK _ _ ⟨_, rfl, Below.refl _ _, rfl⟩
              apply free_is
              · intro a' w' hLe hfr hdep
                have e13 : a'.tmps.getD 13 undef = _ := hdep 1 13 (Nat.le_of_ble_eq_true rfl) rfl rfl
                conv at e13 => rhs; whnf
                have f13 := e13; simp only [Array.getD_eq_getD_getElem?] at f13
                have kc := fun i => keepc hLe (bl) (by (try simp) <;> omega) i
                have kf := fun i => keepf hLe (bl) (by (try simp) <;> omega) i
                have kz : bl < w'.heap.size := (by have := hLe.size; (try simp at this); omega)
                have kc := fun i => keepc hLe (wr.heap.size) (by (try simp) <;> omega) i
                have kf := fun i => keepf hLe (wr.heap.size) (by (try simp) <;> omega) i
                have kz : wr.heap.size < w'.heap.size := (by have := hLe.size; (try simp at this); omega)
                refine wpOp_plain rfl rfl (fun K hK => ?_)
                go_simp
                refine (in_any _ _ _ _).mono ?_
                rintro e w2 ⟨rfl, rfl⟩
                exact hK _ _ ⟨_, rfl, Below.refl _ _, rfl⟩
              apply free_is
              · intro a' w' hLe hfr hdep
                have e14 : a'.tmps.getD 14 undef = _ := hdep 2 14 (Nat.le_of_ble_eq_true rfl) rfl rfl
                conv at e14 => rhs; whnf
                have f14 := e14; simp only [Array.getD_eq_getD_getElem?] at f14
                refine wpOp_plain rfl rfl (fun K hK => ?_)
                go_simp
                exact hK _ _ ⟨_, rfl, Below.refl _ _, rfl⟩
              apply free_is
              · intro a' w' hLe hfr hdep
                have e15 : a'.tmps.getD 15 undef = _ := hdep 3 15 (Nat.le_of_ble_eq_true rfl) rfl rfl
                conv at e15 => rhs; whnf
                have f15 := e15; simp only [Array.getD_eq_getD_getElem?] at f15
                refine wpOp_plain rfl rfl (fun K hK => ?_)
                go_simp
                exact hK _ _ ⟨_, rfl, Below.refl _ _, rfl⟩
              apply free_is
              · intro a' w' hLe hfr hdep
                have e16 : a'.tmps.getD 16 undef = _ := hdep 4 16 (Nat.le_of_ble_eq_true rfl) rfl rfl
                conv at e16 => rhs; whnf
                have f16 := e16; simp only [Array.getD_eq_getD_getElem?] at f16
                have e3 := hfr 3 rfl
                conv at e3 => rhs; whnf
                have f3 := e3; simp only [Array.getD_eq_getD_getElem?] at f3
                refine wpOp_yes rfl rfl rfl e16 (fun K hK => ?_)
                go_simp
                exact hK _ _ ⟨_, rfl, Below.refl _ _, rfl⟩
              apply free_is
              · intro a' w' hLe hfr hdep
                have e16 : a'.tmps.getD 16 undef = _ := hdep 4 16 (Nat.le_of_ble_eq_true rfl) rfl rfl
                conv at e16 => rhs; whnf
                have f16 := e16; simp only [Array.getD_eq_getD_getElem?] at f16
                have e17 : a'.tmps.getD 17 undef = _ := hdep 5 17 (Nat.le_of_ble_eq_true rfl) rfl rfl
                conv at e17 => rhs; whnf
                have f17 := e17; simp only [Array.getD_eq_getD_getElem?] at f17
                refine wpOp_yes rfl rfl rfl e16 (fun K hK => ?_)
                go_simp
                exact hK _ _ ⟨_, rfl, Below.refl _ _, rfl⟩
              apply free_is
              · intro a' w' hLe hfr hdep
                have e16 : a'.tmps.getD 16 undef = _ := hdep 4 16 (Nat.le_of_ble_eq_true rfl) rfl rfl
                conv at e16 => rhs; whnf
                have f16 := e16; simp only [Array.getD_eq_getD_getElem?] at f16
                have e18 : a'.tmps.getD 18 undef = _ := hdep 6 18 (Nat.le_of_ble_eq_true rfl) rfl rfl
                conv at e18 => rhs; whnf
                have f18 := e18; simp only [Array.getD_eq_getD_getElem?] at f18
                refine wpOp_yes rfl rfl rfl e16 (fun K hK => ?_)
                go_simp
                exact hK _ _ ⟨_, rfl, Below.refl _ _, rfl⟩
              apply free_is
              · intro a' w' hLe hfr hdep
                have e19 : a'.tmps.getD 19 undef = _ := hdep 7 19 (Nat.le_of_ble_eq_true rfl) rfl rfl
                conv at e19 => rhs; whnf
                have f19 := e19; simp only [Array.getD_eq_getD_getElem?] at f19
                exact wpOp_no rfl rfl rfl e19 ⟨_, rfl, Below.refl _ _, rfl⟩
              apply free_is
              · intro a' w' hLe hfr hdep
                have e19 : a'.tmps.getD 19 undef = _ := hdep 7 19 (Nat.le_of_ble_eq_true rfl) rfl rfl
                conv at e19 => rhs; whnf
                have f19 := e19; simp only [Array.getD_eq_getD_getElem?] at f19
                exact wpOp_no rfl rfl rfl e19 ⟨_, rfl, Below.refl _ _, rfl⟩
              apply free_is
              · intro a' w' hLe hfr hdep
                have e19 : a'.tmps.getD 19 undef = _ := hdep 7 19 (Nat.le_of_ble_eq_true rfl) rfl rfl
                conv at e19 => rhs; whnf
                have f19 := e19; simp only [Array.getD_eq_getD_getElem?] at f19
                exact wpOp_no rfl rfl rfl e19 ⟨_, rfl, Below.refl _ _, rfl⟩
              apply free_is
              · intro a' w' hLe hfr hdep
                have e19 : a'.tmps.getD 19 undef = _ := hdep 7 19 (Nat.le_of_ble_eq_true rfl) rfl rfl
                conv at e19 => rhs; whnf
                have f19 := e19; simp only [Array.getD_eq_getD_getElem?] at f19
                exact wpOp_no rfl rfl rfl e19 ⟨_, rfl, Below.refl _ _, rfl⟩
              apply free_is
              · intro a' w' hLe hfr hdep
                have e19 : a'.tmps.getD 19 undef = _ := hdep 7 19 (Nat.le_of_ble_eq_true rfl) rfl rfl
                conv at e19 => rhs; whnf
                have f19 := e19; simp only [Array.getD_eq_getD_getElem?] at f19
                exact wpOp_no rfl rfl rfl e19 ⟨_, rfl, Below.refl _ _, rfl⟩
              apply free_is
              · intro a' w' hLe hfr hdep
                have e19 : a'.tmps.getD 19 undef = _ := hdep 7 19 (Nat.le_of_ble_eq_true rfl) rfl rfl
                conv at e19 => rhs; whnf
                have f19 := e19; simp only [Array.getD_eq_getD_getElem?] at f19
                exact wpOp_no rfl rfl rfl e19 ⟨_, rfl, Below.refl _ _, rfl⟩
              apply free_is
              · intro a' w' hLe hfr hdep
                have e19 : a'.tmps.getD 19 undef = _ := hdep 7 19 (Nat.le_of_ble_eq_true rfl) rfl rfl
                conv at e19 => rhs; whnf
                have f19 := e19; simp only [Array.getD_eq_getD_getElem?] at f19
                exact wpOp_no rfl rfl rfl e19 ⟨_, rfl, Below.refl _ _, rfl⟩
              apply free_is
              · intro a' w' hLe hfr hdep
                have e19 : a'.tmps.getD 19 undef = _ := hdep 7 19 (Nat.le_of_ble_eq_true rfl) rfl rfl
                conv at e19 => rhs; whnf
                have f19 := e19; simp only [Array.getD_eq_getD_getElem?] at f19
                exact wpOp_no rfl rfl rfl e19 ⟨_, rfl, Below.refl _ _, rfl⟩
              apply free_is
              · intro a' w' hLe hfr hdep
                have e19 : a'.tmps.getD 19 undef = _ := hdep 7 19 (Nat.le_of_ble_eq_true rfl) rfl rfl
                conv at e19 => rhs; whnf
                have f19 := e19; simp only [Array.getD_eq_getD_getElem?] at f19
                exact wpOp_no rfl rfl rfl e19 ⟨_, rfl, Below.refl _ _, rfl⟩
              apply free_is
              · intro a' w' hLe hfr hdep
                have e16 : a'.tmps.getD 16 undef = _ := hdep 4 16 (Nat.le_of_ble_eq_true rfl) rfl rfl
                conv at e16 => rhs; whnf
                have f16 := e16; simp only [Array.getD_eq_getD_getElem?] at f16
                have e19 : a'.tmps.getD 19 undef = _ := hdep 7 19 (Nat.le_of_ble_eq_true rfl) rfl rfl
                conv at e19 => rhs; whnf
                have f19 := e19; simp only [Array.getD_eq_getD_getElem?] at f19
                have e28 : a'.tmps.getD 28 undef = _ := hdep 16 28 (Nat.le_of_ble_eq_true rfl) rfl rfl
                conv at e28 => rhs; whnf
                have f28 := e28; simp only [Array.getD_eq_getD_getElem?] at f28
                refine wpOp_yes rfl rfl rfl e16 (fun K hK => ?_)
                go_simp
                exact hK _ _ ⟨_, rfl, Below.refl _ _, rfl⟩
              apply free_is
              · intro a' w' hLe hfr hdep
                have e16 : a'.tmps.getD 16 undef = _ := hdep 4 16 (Nat.le_of_ble_eq_true rfl) rfl rfl
                conv at e16 => rhs; whnf
                have f16 := e16; simp only [Array.getD_eq_getD_getElem?] at f16
                have e29 : a'.tmps.getD 29 undef = _ := hdep 17 29 (Nat.le_of_ble_eq_true rfl) rfl rfl
                conv at e29 => rhs; whnf
                have f29 := e29; simp only [Array.getD_eq_getD_getElem?] at f29
                refine wpOp_plain rfl rfl (fun K hK => ?_)
                go_simp
                exact hK _ _ ⟨_, rfl, Below.refl _ _, rfl⟩
              apply free_is
              · intro a' w' hLe hfr hdep
                have e30 : a'.tmps.getD 30 undef = _ := hdep 18 30 (Nat.le_of_ble_eq_true rfl) rfl rfl
                conv at e30 => rhs; whnf
                have f30 := e30; simp only [Array.getD_eq_getD_getElem?] at f30
                refine wpOp_plain rfl rfl (fun K hK => ?_)
                go_simp
                exact hK _ _ ⟨_, rfl, Below.refl _ _, rfl⟩
              apply free_is
              · intro a' w' hLe hfr hdep
                have e31 : a'.tmps.getD 31 undef = _ := hdep 19 31 (Nat.le_of_ble_eq_true rfl) rfl rfl
                conv at e31 => rhs; whnf
                have f31 := e31; simp only [Array.getD_eq_getD_getElem?] at f31
                have e4 := hfr 4 rfl
                conv at e4 => rhs; whnf
                have f4 := e4; simp only [Array.getD_eq_getD_getElem?] at f4
                refine wpOp_yes rfl rfl rfl e31 (fun K hK => ?_)
                go_simp
                exact hK _ _ ⟨_, rfl, Below.refl _ _, rfl⟩
              apply free_is
              · intro a' w' hLe hfr hdep
                have e31 : a'.tmps.getD 31 undef = _ := hdep 19 31 (Nat.le_of_ble_eq_true rfl) rfl rfl
                conv at e31 => rhs; whnf
                have f31 := e31; simp only [Array.getD_eq_getD_getElem?] at f31
                have e32 : a'.tmps.getD 32 undef = _ := hdep 20 32 (Nat.le_of_ble_eq_true rfl) rfl rfl
                conv at e32 => rhs; whnf
                have f32 := e32; simp only [Array.getD_eq_getD_getElem?] at f32
                have kc := fun i => keepc hLe (bl) (by (try simp) <;> omega) i
                have kf := fun i => keepf hLe (bl) (by (try simp) <;> omega) i
                have kz : bl < w'.heap.size := (by have := hLe.size; (try simp at this); omega)
                have kc := fun i => keepc hLe (wr.heap.size) (by (try simp) <;> omega) i
                have kf := fun i => keepf hLe (wr.heap.size) (by (try simp) <;> omega) i
                have kz : wr.heap.size < w'.heap.size := (by have := hLe.size; (try simp at this); omega)
                refine wpOp_yes rfl rfl rfl e31 (fun K hK => ?_)
                go_simp
                exact hK _ _ ⟨_, rfl, Below.refl _ _, rfl⟩
              apply free_is
              · intro a' w' hLe hfr hdep
                have e31 : a'.tmps.getD 31 undef = _ := hdep 19 31 (Nat.le_of_ble_eq_true rfl) rfl rfl
                conv at e31 => rhs; whnf
                have f31 := e31; simp only [Array.getD_eq_getD_getElem?] at f31
                have e33 : a'.tmps.getD 33 undef = _ := hdep 21 33 (Nat.le_of_ble_eq_true rfl) rfl rfl
                conv at e33 => rhs; whnf
                have f33 := e33; simp only [Array.getD_eq_getD_getElem?] at f33
                have kc := fun i => keepc hLe (bl) (by (try simp) <;> omega) i
                have kf := fun i => keepf hLe (bl) (by (try simp) <;> omega) i
                have kz : bl < w'.heap.size := (by have := hLe.size; (try simp at this); omega)
                have kc := fun i => keepc hLe (wr.heap.size) (by (try simp) <;> omega) i
                have kf := fun i => keepf hLe (wr.heap.size) (by (try simp) <;> omega) i
                have kz : wr.heap.size < w'.heap.size := (by have := hLe.size; (try simp at this); omega)
                refine wpOp_yes rfl rfl rfl e31 (fun K hK => ?_)
                go_simp
                refine (in_any _ _ _ _).mono ?_
                rintro e w2 ⟨rfl, rfl⟩
                exact hK _ _ ⟨_, rfl, Below.refl _ _, rfl⟩
              apply free_is
              · intro a' w' hLe hfr hdep
                have e31 : a'.tmps.getD 31 undef = _ := hdep 19 31 (Nat.le_of_ble_eq_true rfl) rfl rfl
                conv at e31 => rhs; whnf
                have f31 := e31; simp only [Array.getD_eq_getD_getElem?] at f31
                have e34 : a'.tmps.getD 34 undef = _ := hdep 22 34 (Nat.le_of_ble_eq_true rfl) rfl rfl
                conv at e34 => rhs; whnf
                have f34 := e34; simp only [Array.getD_eq_getD_getElem?] at f34
                refine wpOp_yes rfl rfl rfl e31 (fun K hK => ?_)
                go_simp
                exact hK _ _ ⟨_, rfl, Below.refl _ _, rfl⟩
              apply free_is
              · intro a' w' hLe hfr hdep
                have e31 : a'.tmps.getD 31 undef = _ := hdep 19 31 (Nat.le_of_ble_eq_true rfl) rfl rfl
                conv at e31 => rhs; whnf
                have f31 := e31; simp only [Array.getD_eq_getD_getElem?] at f31
                have e35 : a'.tmps.getD 35 undef = _ := hdep 23 35 (Nat.le_of_ble_eq_true rfl) rfl rfl
                conv at e35 => rhs; whnf
                have f35 := e35; simp only [Array.getD_eq_getD_getElem?] at f35
                refine wpOp_plain rfl rfl (fun K hK => ?_)
                go_simp
                exact hK _ _ ⟨_, rfl, Below.refl _ _, rfl⟩
              apply free_is
              · intro a' w' hLe hfr hdep
                have e36 : a'.tmps.getD 36 undef = _ := hdep 24 36 (Nat.le_of_ble_eq_true rfl) rfl rfl
                conv at e36 => rhs; whnf
                have f36 := e36; simp only [Array.getD_eq_getD_getElem?] at f36
                refine wpOp_plain rfl rfl (fun K hK => ?_)
                go_simp
                exact hK _ _ ⟨_, rfl, Below.refl _ _, rfl⟩
              apply free_is
              · intro a' w' hLe hfr hdep
                have e37 : a'.tmps.getD 37 undef = _ := hdep 25 37 (Nat.le_of_ble_eq_true rfl) rfl rfl
                conv at e37 => rhs; whnf
                have f37 := e37; simp only [Array.getD_eq_getD_getElem?] at f37
                have e4 := hfr 4 rfl
                conv at e4 => rhs; whnf
                have f4 := e4; simp only [Array.getD_eq_getD_getElem?] at f4
                refine wpOp_yes rfl rfl rfl e37 (fun K hK => ?_)
                go_simp
                exact hK _ _ ⟨_, rfl, Below.refl _ _, rfl⟩
              apply free_is
              · intro a' w' hLe hfr hdep
                have e37 : a'.tmps.getD 37 undef = _ := hdep 25 37 (Nat.le_of_ble_eq_true rfl) rfl rfl
                conv at e37 => rhs; whnf
                have f37 := e37; simp only [Array.getD_eq_getD_getElem?] at f37
                have e38 : a'.tmps.getD 38 undef = _ := hdep 26 38 (Nat.le_of_ble_eq_true rfl) rfl rfl
                conv at e38 => rhs; whnf
                have f38 := e38; simp only [Array.getD_eq_getD_getElem?] at f38
                have kc := fun i => keepc hLe (bl) (by (try simp) <;> omega) i
                have kf := fun i => keepf hLe (bl) (by (try simp) <;> omega) i
                have kz : bl < w'.heap.size := (by have := hLe.size; (try simp at this); omega)
                have kc := fun i => keepc hLe (wr.heap.size) (by (try simp) <;> omega) i
                have kf := fun i => keepf hLe (wr.heap.size) (by (try simp) <;> omega) i
                have kz : wr.heap.size < w'.heap.size := (by have := hLe.size; (try simp at this); omega)
                refine wpOp_yes rfl rfl rfl e37 (fun K hK => ?_)
                go_simp
                exact hK _ _ ⟨_, rfl, Below.refl _ _, rfl⟩
              apply free_is
              · intro a' w' hLe hfr hdep
                have e37 : a'.tmps.getD 37 undef = _ := hdep 25 37 (Nat.le_of_ble_eq_true rfl) rfl rfl
                conv at e37 => rhs; whnf
                have f37 := e37; simp only [Array.getD_eq_getD_getElem?] at f37
                have e39 : a'.tmps.getD 39 undef = _ := hdep 27 39 (Nat.le_of_ble_eq_true rfl) rfl rfl
                conv at e39 => rhs; whnf
                have f39 := e39; simp only [Array.getD_eq_getD_getElem?] at f39
                have kc := fun i => keepc hLe (bl) (by (try simp) <;> omega) i
                have kf := fun i => keepf hLe (bl) (by (try simp) <;> omega) i
                have kz : bl < w'.heap.size := (by have := hLe.size; (try simp at this); omega)
                have kc := fun i => keepc hLe (wr.heap.size) (by (try simp) <;> omega) i
                have kf := fun i => keepf hLe (wr.heap.size) (by (try simp) <;> omega) i
                have kz : wr.heap.size < w'.heap.size := (by have := hLe.size; (try simp at this); omega)
                refine wpOp_yes rfl rfl rfl e37 (fun K hK => ?_)
                go_simp
                refine (in_any _ _ _ _).mono ?_
                rintro e w2 ⟨rfl, rfl⟩
                exact hK _ _ ⟨_, rfl, Below.refl _ _, rfl⟩
              apply free_is
              · intro a' w' hLe hfr hdep
                have e37 : a'.tmps.getD 37 undef = _ := hdep 25 37 (Nat.le_of_ble_eq_true rfl) rfl rfl
                conv at e37 => rhs; whnf
                have f37 := e37; simp only [Array.getD_eq_getD_getElem?] at f37
                have e40 : a'.tmps.getD 40 undef = _ := hdep 28 40 (Nat.le_of_ble_eq_true rfl) rfl rfl
                conv at e40 => rhs; whnf
                have f40 := e40; simp only [Array.getD_eq_getD_getElem?] at f40
                refine wpOp_yes rfl rfl rfl e37 (fun K hK => ?_)
                go_simp
                exact hK _ _ ⟨_, rfl, Below.refl _ _, rfl⟩
              apply free_is
              · intro a' w' hLe hfr hdep
                have e37 : a'.tmps.getD 37 undef = _ := hdep 25 37 (Nat.le_of_ble_eq_true rfl) rfl rfl
                conv at e37 => rhs; whnf
                have f37 := e37; simp only [Array.getD_eq_getD_getElem?] at f37
                have e41 : a'.tmps.getD 41 undef = _ := hdep 29 41 (Nat.le_of_ble_eq_true rfl) rfl rfl
                conv at e41 => rhs; whnf
                have f41 := e41; simp only [Array.getD_eq_getD_getElem?] at f41
                refine wpOp_plain rfl rfl (fun K hK => ?_)
                go_simp
                exact hK _ _ ⟨_, rfl, Below.refl _ _, rfl⟩
              apply free_nil
              intro vs w1 hb1 hT1
              have e12 : vs 0 = _ := hT1 0 12 rfl
              conv at e12 => rhs; whnf
              have e13 : vs 1 = _ := hT1 1 13 rfl
              conv at e13 => rhs; whnf
              have e14 : vs 2 = _ := hT1 2 14 rfl
              conv at e14 => rhs; whnf
              have e15 : vs 3 = _ := hT1 3 15 rfl
              conv at e15 => rhs; whnf
              have e16 : vs 4 = _ := hT1 4 16 rfl
              conv at e16 => rhs; whnf
              have e17 : vs 5 = _ := hT1 5 17 rfl
              conv at e17 => rhs; whnf
              have e18 : vs 6 = _ := hT1 6 18 rfl
              conv at e18 => rhs; whnf
              have e19 : vs 7 = _ := hT1 7 19 rfl
              conv at e19 => rhs; whnf
              have e20 : vs 8 = _ := hT1 8 20 rfl
              conv at e20 => rhs; whnf
              have e21 : vs 9 = _ := hT1 9 21 rfl
              conv at e21 => rhs; whnf
              have e22 : vs 10 = _ := hT1 10 22 rfl
              conv at e22 => rhs; whnf
              have e23 : vs 11 = _ := hT1 11 23 rfl
              conv at e23 => rhs; whnf
              have e24 : vs 12 = _ := hT1 12 24 rfl
              conv at e24 => rhs; whnf
              have e25 : vs 13 = _ := hT1 13 25 rfl
              conv at e25 => rhs; whnf
              have e26 : vs 14 = _ := hT1 14 26 rfl
              conv at e26 => rhs; whnf
              have e27 : vs 15 = _ := hT1 15 27 rfl
              conv at e27 => rhs; whnf
              have e28 : vs 16 = _ := hT1 16 28 rfl
              conv at e28 => rhs; whnf
              have e29 : vs 17 = _ := hT1 17 29 rfl
              conv at e29 => rhs; whnf
              have e30 : vs 18 = _ := hT1 18 30 rfl
              conv at e30 => rhs; whnf
              have e31 : vs 19 = _ := hT1 19 31 rfl
              conv at e31 => rhs; whnf
              have e32 : vs 20 = _ := hT1 20 32 rfl
              conv at e32 => rhs; whnf
              have e33 : vs 21 = _ := hT1 21 33 rfl
              conv at e33 => rhs; whnf
              have e34 : vs 22 = _ := hT1 22 34 rfl
              conv at e34 => rhs; whnf
              have e35 : vs 23 = _ := hT1 23 35 rfl
              conv at e35 => rhs; whnf
              have e36 : vs 24 = _ := hT1 24 36 rfl
              conv at e36 => rhs; whnf
              have e37 : vs 25 = _ := hT1 25 37 rfl
              conv at e37 => rhs; whnf
              have e38 : vs 26 = _ := hT1 26 38 rfl
              conv at e38 => rhs; whnf
              have e39 : vs 27 = _ := hT1 27 39 rfl
              conv at e39 => rhs; whnf
              have e40 : vs 28 = _ := hT1 28 40 rfl
              conv at e40 => rhs; whnf
              have e41 : vs 29 = _ := hT1 29 41 rfl
              conv at e41 => rhs; whnf
              have e42 : vs 30 = _ := hT1 30 42 rfl
              conv at e42 => rhs; whnf
              simp only [putAll, List.drop_succ_cons, List.drop_zero, e12, e13, e14, e15, e16, e17, e18, e19, e20, e21, e22, e23, e24, e25, e26, e27, e28, e29, e30, e31, e32, e33, e34, e35, e36, e37, e38, e39, e40, e41, e42]
              clear hT1 e12 e13 e14 e15 e16 e17 e18 e19 e20 e21 e22 e23 e24 e25 e26 e27 e28 e29 e30 e31 e32 e33 e34 e35 e36 e37 e38 e39 e40 e41 e42
              go_simp
              go_wp2
              go_ret
              exact ⟨by rw [hno.out] <;> rfl, Below.tr (by (repeat (first | exact Below.refl _ _ | assumption | refine Below.al ?_ _ | refine Below.dr ?_ | (refine Below.st ?_ (by simp <;> omega) _) | (refine Below.tr ?_ (by assumption))))) hb1⟩
            | true =>
              have hno := Lib.hid (show poolOk a b d 0 = true by simp [poolOk, h1, h2, h3])
              go_wp2
              refine wp_region_free (ds := [(0, 12), (1, 13), (2, 14), (3, 15), (4, 16), (5, 17), (6, 18), (7, 19), (8, 20), (9, 21), (10, 22), (11, 23), (12, 24), (13, 25), (14, 26), (15, 27), (16, 28), (17, 29), (18, 30), (19, 31), (20, 32), (21, 33), (22, 34), (23, 35), (24, 36), (25, 37), (26, 38), (27, 39), (28, 40), (29, 41), (30, 42)]) 31 (by kernel_rfl) (by kernel_rfl) (by first | exact .inl rfl | exact .inr (by kernel_rfl)) (by rfl) rfl rfl ?_
              apply free_is
              · intro a' w' hLe hfr hdep
                have e4 := hfr 4 rfl
                conv at e4 => rhs; whnf
                have f4 := e4; simp only [Array.getD_eq_getD_getElem?] at f4
                refine wpOp_plain rfl rfl (fun K hK => ?_)
                go_simp
                exact hK _ _ ⟨_, rfl, Below.refl _ _, rfl⟩
              apply free_is
              · intro a' w' hLe hfr hdep
                have e12 : a'.tmps.getD 12 undef = _ := hdep 0 12 (Nat.le_of_ble_eq_true rfl) rfl rfl
                conv at e12 => rhs; whnf
                have f12 := e12; simp only [Array.getD_eq_getD_getElem?] at f12
                have kc := fun i => keepc hLe (bl) (by (try simp) <;> omega) i
                have kf := fun i => keepf hLe (bl) (by (try simp) <;> omega) i
                have kz : bl < w'.heap.size := (by have := hLe.size; (try simp at this); omega)
                have kc := fun i => keepc hLe (wr.heap.size) (by (try simp) <;> omega) i
                have kf := fun i => keepf hLe (wr.heap.size) (by (try simp) <;> omega) i
                have kz : wr.heap.size < w'.heap.size := (by have := hLe.size; (try simp at this); omega)
                refine wpOp_plain rfl rfl (fun K hK => ?_)
                go_simp
                exact hK _ _ ⟨_, rfl, Below.refl _ _, rfl⟩
              apply free_is
              · intro a' w' hLe hfr hdep
                have e13 : a'.tmps.getD 13 undef = _ := hdep 1 13 (Nat.le_of_ble_eq_true rfl) rfl rfl
                conv at e13 => rhs; whnf
                have f13 := e13; simp only [Array.getD_eq_getD_getElem?] at f13
                have kc := fun i => keepc hLe (bl) (by (try simp) <;> omega) i
                have kf := fun i => keepf hLe (bl) (by (try simp) <;> omega) i
                have kz : bl < w'.heap.size := (by have := hLe.size; (try simp at this); omega)
                have kc := fun i => keepc hLe (wr.heap.size) (by (try simp) <;> omega) i
                have kf := fun i => keepf hLe (wr.heap.size) (by (try simp) <;> omega) i
                have kz : wr.heap.size < w'.heap.size := (by have := hLe.size; (try simp at this); omega)
                refine wpOp_plain rfl rfl (fun K hK => ?_)
                go_simp
                refine (in_any _ _ _ _).mono ?_
                rintro e w2 ⟨rfl, rfl⟩
                exact hK _ _ ⟨_, rfl, Below.refl _ _, rfl⟩
              apply free_is
              · intro a' w' hLe hfr hdep
                have e14 : a'.tmps.getD 14 undef = _ := hdep 2 14 (Nat.le_of_ble_eq_true rfl) rfl rfl
                conv at e14 => rhs; whnf
                have f14 := e14; simp only [Array.getD_eq_getD_getElem?] at f14
                refine wpOp_plain rfl rfl (fun K hK => ?_)
                go_simp
                exact hK _ _ ⟨_, rfl, Below.refl _ _, rfl⟩
              apply free_is
              · intro a' w' hLe hfr hdep
                have e15 : a'.tmps.getD 15 undef = _ := hdep 3 15 (Nat.le_of_ble_eq_true rfl) rfl rfl
                conv at e15 => rhs; whnf
                have f15 := e15; simp only [Array.getD_eq_getD_getElem?] at f15
                refine wpOp_plain rfl rfl (fun K hK => ?_)
                go_simp
                exact hK _ _ ⟨_, rfl, Below.refl _ _, rfl⟩
              apply free_is
              · intro a' w' hLe hfr hdep
                have e16 : a'.tmps.getD 16 undef = _ := hdep 4 16 (Nat.le_of_ble_eq_true rfl) rfl rfl
                conv at e16 => rhs; whnf
                have f16 := e16; simp only [Array.getD_eq_getD_getElem?] at f16
                have e3 := hfr 3 rfl
                conv at e3 => rhs; whnf
                have f3 := e3; simp only [Array.getD_eq_getD_getElem?] at f3
                refine wpOp_yes rfl rfl rfl e16 (fun K hK => ?_)
                go_simp
                exact hK _ _ ⟨_, rfl, Below.refl _ _, rfl⟩
              apply free_is
              · intro a' w' hLe hfr hdep
                have e16 : a'.tmps.getD 16 undef = _ := hdep 4 16 (Nat.le_of_ble_eq_true rfl) rfl rfl
                conv at e16 => rhs; whnf
                have f16 := e16; simp only [Array.getD_eq_getD_getElem?] at f16
                have e17 : a'.tmps.getD 17 undef = _ := hdep 5 17 (Nat.le_of_ble_eq_true rfl) rfl rfl
                conv at e17 => rhs; whnf
                have f17 := e17; simp only [Array.getD_eq_getD_getElem?] at f17
                refine wpOp_yes rfl rfl rfl e16 (fun K hK => ?_)
                go_simp
                exact hK _ _ ⟨_, rfl, Below.refl _ _, rfl⟩
              apply free_is
              · intro a' w' hLe hfr hdep
                have e16 : a'.tmps.getD 16 undef = _ := hdep 4 16 (Nat.le_of_ble_eq_true rfl) rfl rfl
                conv at e16 => rhs; whnf
                have f16 := e16; simp only [Array.getD_eq_getD_getElem?] at f16
                have e18 : a'.tmps.getD 18 undef = _ := hdep 6 18 (Nat.le_of_ble_eq_true rfl) rfl rfl
                conv at e18 => rhs; whnf
                have f18 := e18; simp only [Array.getD_eq_getD_getElem?] at f18
                refine wpOp_yes rfl rfl rfl e16 (fun K hK => ?_)
                go_simp
                exact hK _ _ ⟨_, rfl, Below.refl _ _, rfl⟩
              apply free_is
              · intro a' w' hLe hfr hdep
                have e19 : a'.tmps.getD 19 undef = _ := hdep 7 19 (Nat.le_of_ble_eq_true rfl) rfl rfl
                conv at e19 => rhs; whnf
                have f19 := e19; simp only [Array.getD_eq_getD_getElem?] at f19
                exact wpOp_no rfl rfl rfl e19 ⟨_, rfl, Below.refl _ _, rfl⟩
              apply free_is
              · intro a' w' hLe hfr hdep
                have e19 : a'.tmps.getD 19 undef = _ := hdep 7 19 (Nat.le_of_ble_eq_true rfl) rfl rfl
                conv at e19 => rhs; whnf
                have f19 := e19; simp only [Array.getD_eq_getD_getElem?] at f19
                exact wpOp_no rfl rfl rfl e19 ⟨_, rfl, Below.refl _ _, rfl⟩
              apply free_is
              · intro a' w' hLe hfr hdep
                have e19 : a'.tmps.getD 19 undef = _ := hdep 7 19 (Nat.le_of_ble_eq_true rfl) rfl rfl
                conv at e19 => rhs; whnf
                have f19 := e19; simp only [Array.getD_eq_getD_getElem?] at f19
                exact wpOp_no rfl rfl rfl e19 ⟨_, rfl, Below.refl _ _, rfl⟩
              apply free_is
              · intro a' w' hLe hfr hdep
                have e19 : a'.tmps.getD 19 undef = _ := hdep 7 19 (Nat.le_of_ble_eq_true rfl) rfl rfl
                conv at e19 => rhs; whnf
                have f19 := e19; simp only [Array.getD_eq_getD_getElem?] at f19
                exact wpOp_no rfl rfl rfl e19 ⟨_, rfl, Below.refl _ _, rfl⟩
              apply free_is
              · intro a' w' hLe hfr hdep
                have e19 : a'.tmps.getD 19 undef = _ := hdep 7 19 (Nat.le_of_ble_eq_true rfl) rfl rfl
                conv at e19 => rhs; whnf
                have f19 := e19; simp only [Array.getD_eq_getD_getElem?] at f19
                exact wpOp_no rfl rfl rfl e19 ⟨_, rfl, Below.refl _ _, rfl⟩
              apply free_is
              · intro a' w' hLe hfr hdep
                have e19 : a'.tmps.getD 19 undef = _ := hdep 7 19 (Nat.le_of_ble_eq_true rfl) rfl rfl
                conv at e19 => rhs; whnf
                have f19 := e19; simp only [Array.getD_eq_getD_getElem?] at f19
                exact wpOp_no rfl rfl rfl e19 ⟨_, rfl, Below.refl _ _, rfl⟩
              apply free_is
              · intro a' w' hLe hfr hdep
                have e19 : a'.tmps.getD 19 undef = _ := hdep 7 19 (Nat.le_of_ble_eq_true rfl) rfl rfl
                conv at e19 => rhs; whnf
                have f19 := e19; simp only [Array.getD_eq_getD_getElem?] at f19
                exact wpOp_no rfl rfl rfl e19 ⟨_, rfl, Below.refl _ _, rfl⟩
              apply free_is
              · intro a' w' hLe hfr hdep
                have e19 : a'.tmps.getD 19 undef = _ := hdep 7 19 (Nat.le_of_ble_eq_true rfl) rfl rfl
                conv at e19 => rhs; whnf
                have f19 := e19; simp only [Array.getD_eq_getD_getElem?] at f19
                exact wpOp_no rfl rfl rfl e19 ⟨_, rfl, Below.refl _ _, rfl⟩
              apply free_is
              · intro a' w' hLe hfr hdep
                have e19 : a'.tmps.getD 19 undef = _ := hdep 7 19 (Nat.le_of_ble_eq_true rfl) rfl rfl
                conv at e19 => rhs; whnf
                have f19 := e19; simp only [Array.getD_eq_getD_getElem?] at f19
                exact wpOp_no rfl rfl rfl e19 ⟨_, rfl, Below.refl _ _, rfl⟩
              apply free_is
              · intro a' w' hLe hfr hdep
                have e16 : a'.tmps.getD 16 undef = _ := hdep 4 16 (Nat.le_of_ble_eq_true rfl) rfl rfl
                conv at e16 => rhs; whnf
                have f16 := e16; simp only [Array.getD_eq_getD_getElem?] at f16
                have e19 : a'.tmps.getD 19 undef = _ := hdep 7 19 (Nat.le_of_ble_eq_true rfl) rfl rfl
                conv at e19 => rhs; whnf
                have f19 := e19; simp only [Array.getD_eq_getD_getElem?] at f19
                have e28 : a'.tmps.getD 28 undef = _ := hdep 16 28 (Nat.le_of_ble_eq_true rfl) rfl rfl
                conv at e28 => rhs; whnf
                have f28 := e28; simp only [Array.getD_eq_getD_getElem?] at f28
                refine wpOp_yes rfl rfl rfl e16 (fun K hK => ?_)
                go_simp
                exact hK _ _ ⟨_, rfl, Below.refl _ _, rfl⟩
              apply free_is
              · intro a' w' hLe hfr hdep
                have e16 : a'.tmps.getD 16 undef = _ := hdep 4 16 (Nat.le_of_ble_eq_true rfl) rfl rfl
                conv at e16 => rhs; whnf
                have f16 := e16; simp only [Array.getD_eq_getD_getElem?] at f16
                have e29 : a'.tmps.getD 29 undef = _ := hdep 17 29 (Nat.le_of_ble_eq_true rfl) rfl rfl
                conv at e29 => rhs; whnf
                have f29 := e29; simp only [Array.getD_eq_getD_getElem?] at f29
                refine wpOp_plain rfl rfl (fun K hK => ?_)
                go_simp
                exact hK _ _ ⟨_, rfl, Below.refl _ _, rfl⟩
              apply free_is
              · intro a' w' hLe hfr hdep
                have e30 : a'.tmps.getD 30 undef = _ := hdep 18 30 (Nat.le_of_ble_eq_true rfl) rfl rfl
                conv at e30 => rhs; whnf
                have f30 := e30; simp only [Array.getD_eq_getD_getElem?] at f30
                refine wpOp_plain rfl rfl (fun K hK => ?_)
                go_simp
                exact hK _ _ ⟨_, rfl, Below.refl _ _, rfl⟩
              apply free_is
              · intro a' w' hLe hfr hdep
                have e31 : a'.tmps.getD 31 undef = _ := hdep 19 31 (Nat.le_of_ble_eq_true rfl) rfl rfl
                conv at e31 => rhs; whnf
                have f31 := e31; simp only [Array.getD_eq_getD_getElem?] at f31
                have e4 := hfr 4 rfl
                conv at e4 => rhs; whnf
                have f4 := e4; simp only [Array.getD_eq_getD_getElem?] at f4
                refine wpOp_yes rfl rfl rfl e31 (fun K hK => ?_)
                go_simp
                exact hK _ _ ⟨_, rfl, Below.refl _ _, rfl⟩
              apply free_is
              · intro a' w' hLe hfr hdep
                have e31 : a'.tmps.getD 31 undef = _ := hdep 19 31 (Nat.le_of_ble_eq_true rfl) rfl rfl
                conv at e31 => rhs; whnf
                have f31 := e31; simp only [Array.getD_eq_getD_getElem?] at f31
                have e32 : a'.tmps.getD 32 undef = _ := hdep 20 32 (Nat.le_of_ble_eq_true rfl) rfl rfl
                conv at e32 => rhs; whnf
                have f32 := e32; simp only [Array.getD_eq_getD_getElem?] at f32
                have kc := fun i => keepc hLe (bl) (by (try simp) <;> omega) i
                have kf := fun i => keepf hLe (bl) (by (try simp) <;> omega) i
                have kz : bl < w'.heap.size := (by have := hLe.size; (try simp at this); omega)
                have kc := fun i => keepc hLe (wr.heap.size) (by (try simp) <;> omega) i
                have kf := fun i => keepf hLe (wr.heap.size) (by (try simp) <;> omega) i
                have kz : wr.heap.size < w'.heap.size := (by have := hLe.size; (try simp at this); omega)
                refine wpOp_yes rfl rfl rfl e31 (fun K hK => ?_)
                go_simp
                exact hK _ _ ⟨_, rfl, Below.refl _ _, rfl⟩
              apply free_is
              · intro a' w' hLe hfr hdep
                have e31 : a'.tmps.getD 31 undef = _ := hdep 19 31 (Nat.le_of_ble_eq_true rfl) rfl rfl
                conv at e31 => rhs; whnf
                have f31 := e31; simp only [Array.getD_eq_getD_getElem?] at f31
                have e33 : a'.tmps.getD 33 undef = _ := hdep 21 33 (Nat.le_of_ble_eq_true rfl) rfl rfl
                conv at e33 => rhs; whnf
                have f33 := e33; simp only [Array.getD_eq_getD_getElem?] at f33
                have kc := fun i => keepc hLe (bl) (by (try simp) <;> omega) i
                have kf := fun i => keepf hLe (bl) (by (try simp) <;> omega) i
                have kz : bl < w'.heap.size := (by have := hLe.size; (try simp at this); omega)
                have kc := fun i => keepc hLe (wr.heap.size) (by (try simp) <;> omega) i
                have kf := fun i => keepf hLe (wr.heap.size) (by (try simp) <;> omega) i
                have kz : wr.heap.size < w'.heap.size := (by have := hLe.size; (try simp at this); omega)
                refine wpOp_yes rfl rfl rfl e31 (fun K hK => ?_)
                go_simp
                refine (in_any _ _ _ _).mono ?_
                rintro e w2 ⟨rfl, rfl⟩
                exact hK _ _ ⟨_, rfl, Below.refl _ _, rfl⟩
              apply free_is
              · intro a' w' hLe hfr hdep
                have e31 : a'.tmps.getD 31 undef = _ := hdep 19 31 (Nat.le_of_ble_eq_true rfl) rfl rfl
                conv at e31 => rhs; whnf
                have f31 := e31; simp only [Array.getD_eq_getD_getElem?] at f31
                have e34 : a'.tmps.getD 34 undef = _ := hdep 22 34 (Nat.le_of_ble_eq_true rfl) rfl rfl
                conv at e34 => rhs; whnf
                have f34 := e34; simp only [Array.getD_eq_getD_getElem?] at f34
                refine wpOp_yes rfl rfl rfl e31 (fun K hK => ?_)
                go_simp
                exact hK _ _ ⟨_, rfl, Below.refl _ _, rfl⟩
              apply free_is
              · intro a' w' hLe hfr hdep
                have e31 : a'.tmps.getD 31 undef = _ := hdep 19 31 (Nat.le_of_ble_eq_true rfl) rfl rfl
                conv at e31 => rhs; whnf
                have f31 := e31; simp only [Array.getD_eq_getD_getElem?] at f31
                have e35 : a'.tmps.getD 35 undef = _ := hdep 23 35 (Nat.le_of_ble_eq_true rfl) rfl rfl
                conv at e35 => rhs; whnf
                have f35 := e35; simp only [Array.getD_eq_getD_getElem?] at f35
                refine wpOp_plain rfl rfl (fun K hK => ?_)
                go_simp
                exact hK _ _ ⟨_, rfl, Below.refl _ _, rfl⟩
              apply free_is
              · intro a' w' hLe hfr hdep
                have e36 : a'.tmps.getD 36 undef = _ := hdep 24 36 (Nat.le_of_ble_eq_true rfl) rfl rfl
                conv at e36 => rhs; whnf
                have f36 := e36; simp only [Array.getD_eq_getD_getElem?] at f36
                refine wpOp_plain rfl rfl (fun K hK => ?_)
                go_simp
                exact hK _ _ ⟨_, rfl, Below.refl _ _, rfl⟩
              apply free_is
              · intro a' w' hLe hfr hdep
                have e37 : a'.tmps.getD 37 undef = _ := hdep 25 37 (Nat.le_of_ble_eq_true rfl) rfl rfl
                conv at e37 => rhs; whnf
                have f37 := e37; simp only [Array.getD_eq_getD_getElem?] at f37
                have e4 := hfr 4 rfl
                conv at e4 => rhs; whnf
                have f4 := e4; simp only [Array.getD_eq_getD_getElem?] at f4
                refine wpOp_yes rfl rfl rfl e37 (fun K hK => ?_)
                go_simp
                exact hK _ _ ⟨_, rfl, Below.refl _ _, rfl⟩
              apply free_is
              · intro a' w' hLe hfr hdep
                have e37 : a'.tmps.getD 37 undef = _ := hdep 25 37 (Nat.le_of_ble_eq_true rfl) rfl rfl
                conv at e37 => rhs; whnf
                have f37 := e37; simp only [Array.getD_eq_getD_getElem?] at f37
                have e38 : a'.tmps.getD 38 undef = _ := hdep 26 38 (Nat.le_of_ble_eq_true rfl) rfl rfl
                conv at e38 => rhs; whnf
                have f38 := e38; simp only [Array.getD_eq_getD_getElem?] at f38
                have kc := fun i => keepc hLe (bl) (by (try simp) <;> omega) i
                have kf := fun i => keepf hLe (bl) (by (try simp) <;> omega) i
                have kz : bl < w'.heap.size := (by have := hLe.size; (try simp at this); omega)
                have kc := fun i => keepc hLe (wr.heap.size) (by (try simp) <;> omega) i
                have kf := fun i => keepf hLe (wr.heap.size) (by (try simp) <;> omega) i
                have kz : wr.heap.size < w'.heap.size := (by have := hLe.size; (try simp at this); omega)
                refine wpOp_yes rfl rfl rfl e37 (fun K hK => ?_)
                go_simp
                exact hK _ _ ⟨_, rfl, Below.refl _ _, rfl⟩
              apply free_is
              · intro a' w' hLe hfr hdep
                have e37 : a'.tmps.getD 37 undef = _ := hdep 25 37 (Nat.le_of_ble_eq_true rfl) rfl rfl
                conv at e37 => rhs; whnf
                have f37 := e37; simp only [Array.getD_eq_getD_getElem?] at f37
                have e39 : a'.tmps.getD 39 undef = _ := hdep 27 39 (Nat.le_of_ble_eq_true rfl) rfl rfl
                conv at e39 => rhs; whnf
                have f39 := e39; simp only [Array.getD_eq_getD_getElem?] at f39
                have kc := fun i => keepc hLe (bl) (by (try simp) <;> omega) i
                have kf := fun i => keepf hLe (bl) (by (try simp) <;> omega) i
                have kz : bl < w'.heap.size := (by have := hLe.size; (try simp at this); omega)
                have kc := fun i => keepc hLe (wr.heap.size) (by (try simp) <;> omega) i
                have kf := fun i => keepf hLe (wr.heap.size) (by (try simp) <;> omega) i
                have kz : wr.heap.size < w'.heap.size := (by have := hLe.size; (try simp at this); omega)
                refine wpOp_yes rfl rfl rfl e37 (fun K hK => ?_)
                go_simp
                refine (in_any _ _ _ _).mono ?_
                rintro e w2 ⟨rfl, rfl⟩
                exact hK _ _ ⟨_, rfl, Below.refl _ _, rfl⟩
              apply free_is
              · intro a' w' hLe hfr hdep
                have e37 : a'.tmps.getD 37 undef = _ := hdep 25 37 (Nat.le_of_ble_eq_true rfl) rfl rfl
                conv at e37 => rhs; whnf
                have f37 := e37; simp only [Array.getD_eq_getD_getElem?] at f37
                have e40 : a'.tmps.getD 40 undef = _ := hdep 28 40 (Nat.le_of_ble_eq_true rfl) rfl rfl
                conv at e40 => rhs; whnf
                have f40 := e40; simp only [Array.getD_eq_getD_getElem?] at f40
                refine wpOp_yes rfl rfl rfl e37 (fun K hK => ?_)
                go_simp
                exact hK _ _ ⟨_, rfl, Below.refl _ _, rfl⟩
              apply free_is
              · intro a' w' hLe hfr hdep
                have e37 : a'.tmps.getD 37 undef = _ := hdep 25 37 (Nat.le_of_ble_eq_true rfl) rfl rfl
                conv at e37 => rhs; whnf
                have f37 := e37; simp only [Array.getD_eq_getD_getElem?] at f37
                have e41 : a'.tmps.getD 41 undef = _ := hdep 29 41 (Nat.le_of_ble_eq_true rfl) rfl rfl
                conv at e41 => rhs; whnf
                have f41 := e41; simp only [Array.getD_eq_getD_getElem?] at f41
                refine wpOp_plain rfl rfl (fun K hK => ?_)
                go_simp
                exact hK _ _ ⟨_, rfl, Below.refl _ _, rfl⟩
              apply free_nil
              intro vs w1 hb1 hT1
              have e12 : vs 0 = _ := hT1 0 12 rfl
              conv at e12 => rhs; whnf
              have e13 : vs 1 = _ := hT1 1 13 rfl
              conv at e13 => rhs; whnf
              have e14 : vs 2 = _ := hT1 2 14 rfl
              conv at e14 => rhs; whnf
              have e15 : vs 3 = _ := hT1 3 15 rfl
              conv at e15 => rhs; whnf
              have e16 : vs 4 = _ := hT1 4 16 rfl
              conv at e16 => rhs; whnf
              have e17 : vs 5 = _ := hT1 5 17 rfl
              conv at e17 => rhs; whnf
              have e18 : vs 6 = _ := hT1 6 18 rfl
              conv at e18 => rhs; whnf
              have e19 : vs 7 = _ := hT1 7 19 rfl
              conv at e19 => rhs; whnf
              have e20 : vs 8 = _ := hT1 8 20 rfl
              conv at e20 => rhs; whnf
              have e21 : vs 9 = _ := hT1 9 21 rfl
              conv at e21 => rhs; whnf
              have e22 : vs 10 = _ := hT1 10 22 rfl
              conv at e22 => rhs; whnf
              have e23 : vs 11 = _ := hT1 11 23 rfl
              conv at e23 => rhs; whnf
              have e24 : vs 12 = _ := hT1 12 24 rfl
              conv at e24 => rhs; whnf
              have e25 : vs 13 = _ := hT1 13 25 rfl
              conv at e25 => rhs; whnf
              have e26 : vs 14 = _ := hT1 14 26 rfl
              conv at e26 => rhs; whnf
              have e27 : vs 15 = _ := hT1 15 27 rfl
              conv at e27 => rhs; whnf
              have e28 : vs 16 = _ := hT1 16 28 rfl
              conv at e28 => rhs; whnf
              have e29 : vs 17 = _ := hT1 17 29 rfl
              conv at e29 => rhs; whnf
              have e30 : vs 18 = _ := hT1 18 30 rfl
              conv at e30 => rhs; whnf
              have e31 : vs 19 = _ := hT1 19 31 rfl
              conv at e31 => rhs; whnf
              have e32 : vs 20 = _ := hT1 20 32 rfl
              conv at e32 => rhs; whnf
              have e33 : vs 21 = _ := hT1 21 33 rfl
              conv at e33 => rhs; whnf
              have e34 : vs 22 = _ := hT1 22 34 rfl
              conv at e34 => rhs; whnf
              have e35 : vs 23 = _ := hT1 23 35 rfl
              conv at e35 => rhs; whnf
              have e36 : vs 24 = _ := hT1 24 36 rfl
              conv at e36 => rhs; whnf
              have e37 : vs 25 = _ := hT1 25 37 rfl
              conv at e37 => rhs; whnf
              have e38 : vs 26 = _ := hT1 26 38 rfl
              conv at e38 => rhs; whnf
              have e39 : vs 27 = _ := hT1 27 39 rfl
              conv at e39 => rhs; whnf
              have e40 : vs 28 = _ := hT1 28 40 rfl
              conv at e40 => rhs; whnf
              have e41 : vs 29 = _ := hT1 29 41 rfl
              conv at e41 => rhs; whnf
              have e42 : vs 30 = _ := hT1 30 42 rfl
              conv at e42 => rhs; whnf
              simp only [putAll, List.drop_succ_cons, List.drop_zero, e12, e13, e14, e15, e16, e17, e18, e19, e20, e21, e22, e23, e24, e25, e26, e27, e28, e29, e30, e31, e32, e33, e34, e35, e36, e37, e38, e39, e40, e41, e42]
              clear hT1 e12 e13 e14 e15 e16 e17 e18 e19 e20 e21 e22 e23 e24 e25 e26 e27 e28 e29 e30 e31 e32 e33 e34 e35 e36 e37 e38 e39 e40 e41 e42
              go_simp
              go_wp2
              go_roundw
              case rel => exact ⟨1, by omega, by go_num, upto HO.out hno.out, Below.tr (by (repeat (first | exact Below.refl _ _ | assumption | refine Below.al ?_ _ | refine Below.dr ?_ | (refine Below.st ?_ (by simp <;> omega) _) | (refine Below.tr ?_ (by assumption))))) hb1⟩
              case measure => simp [intOf]; omega
        · obtain ⟨i, rfl⟩ : ∃ i, j = i + 1 := ⟨j - 1, by omega⟩
          have hr' := hc i (by omega)
          have s0 : wr.cell? ⟨bl, off + i * 3, none⟩ = some (.int .i64 (a i)) := (keepc hBw bl (by omega) _).trans (hr' 0 _ rfl)
          clear hc hr' hrow
          have e1 : IntKind.i64.wrap ((i : Int) + 1 - 1) = (i : Int) := by rw [IntWalk.i64_in _ (by omega)]; omega
          have e2 : IntKind.i64.wrap (i : Int) = (i : Int) := IntWalk.i64_in _ (by omega)
          have e3 : (i : Int) < (n : Int) := by omega
          by_cases h4 : a (i + 1) ≤ a i
          · have hd : decide (a (i + 1) ≤ a i) = true := by simpa using h4
            have h5 : ¬ a i < a (i + 1) := by omega
            have hno := Lib.hid (poolB_no (show i + 1 < n from hlt) (show poolOk a b d (i + 1) = false by simp [poolOk, h1, h5]))
            clear h5
            go_wp2
            refine wp_region_free (ds := [(0, 12), (1, 13), (2, 14), (3, 15), (4, 16), (5, 17), (6, 18), (7, 19), (8, 20), (9, 21), (10, 22), (11, 23), (12, 24), (13, 25), (14, 26), (15, 27), (16, 28), (17, 29), (18, 30), (19, 31), (20, 32), (21, 33), (22, 34), (23, 35), (24, 36), (25, 37), (26, 38), (27, 39), (28, 40), (29, 41), (30, 42)]) 31 (by kernel_rfl) (by kernel_rfl) (by first | exact .inl rfl | exact .inr (by kernel_rfl)) (by rfl) rfl rfl ?_
            apply free_is
            · intro a' w' hLe hfr hdep
              have e4 := hfr 4 rfl
              conv at e4 => rhs; whnf
              have f4 := e4; simp only [Array.getD_eq_getD_getElem?] at f4
              refine wpOp_plain rfl rfl (fun K hK => ?_)
              go_simp
              exact hK _ _ ⟨_, rfl, Below.refl _ _, rfl⟩
            apply free_is
            · intro a' w' hLe hfr hdep
              have e12 : a'.tmps.getD 12 undef = _ := hdep 0 12 (Nat.le_of_ble_eq_true rfl) rfl rfl
              conv at e12 => rhs; whnf
              have f12 := e12; simp only [Array.getD_eq_getD_getElem?] at f12
              have kc := fun i => keepc hLe (bl) (by (try simp) <;> omega) i
              have kf := fun i => keepf hLe (bl) (by (try simp) <;> omega) i
              have kz : bl < w'.heap.size := (by have := hLe.size; (try simp at this); omega)
              have kc := fun i => keepc hLe (wr.heap.size) (by (try simp) <;> omega) i
              have kf := fun i => keepf hLe (wr.heap.size) (by (try simp) <;> omega) i
              have kz : wr.heap.size < w'.heap.size := (by have := hLe.size; (try simp at this); omega)
              refine wpOp_plain rfl rfl (fun K hK => ?_)
              go_simp
              exact hK _ _ ⟨_, rfl, Below.refl _ _, rfl⟩
            apply free_is
            · intro a' w' hLe hfr hdep
              have e13 : a'.tmps.getD 13 undef = _ := hdep 1 13 (Nat.le_of_ble_eq_true rfl) rfl rfl
              conv at e13 => rhs; whnf
              have f13 := e13; simp only [Array.getD_eq_getD_getElem?] at f13
              have kc := fun i => keepc hLe (bl) (by (try simp) <;> omega) i
              have kf := fun i => keepf hLe (bl) (by (try simp) <;> omega) i
              have kz : bl < w'.heap.size := (by have := hLe.size; (try simp at this); omega)
              have kc := fun i => keepc hLe (wr.heap.size) (by (try simp) <;> omega) i
              have kf := fun i => keepf hLe (wr.heap.size) (by (try simp) <;> omega) i
              have kz : wr.heap.size < w'.heap.size := (by have := hLe.size; (try simp at this); omega)
              refine wpOp_plain rfl rfl (fun K hK => ?_)
              go_simp
              refine (in_any _ _ _ _).mono ?_
              rintro e w2 ⟨rfl, rfl⟩
              exact hK _ _ ⟨_, rfl, Below.refl _ _, rfl⟩
            apply free_is
            · intro a' w' hLe hfr hdep
              have e14 : a'.tmps.getD 14 undef = _ := hdep 2 14 (Nat.le_of_ble_eq_true rfl) rfl rfl
              conv at e14 => rhs; whnf
              have f14 := e14; simp only [Array.getD_eq_getD_getElem?] at f14
              refine wpOp_plain rfl rfl (fun K hK => ?_)
              go_simp
              exact hK _ _ ⟨_, rfl, Below.refl _ _, rfl⟩
            apply free_is
            · intro a' w' hLe hfr hdep
              have e15 : a'.tmps.getD 15 undef = _ := hdep 3 15 (Nat.le_of_ble_eq_true rfl) rfl rfl
              conv at e15 => rhs; whnf
              have f15 := e15; simp only [Array.getD_eq_getD_getElem?] at f15
              refine wpOp_plain rfl rfl (fun K hK => ?_)
              go_simp
              exact hK _ _ ⟨_, rfl, Below.refl _ _, rfl⟩
            apply free_is
            · intro a' w' hLe hfr hdep
              have e16 : a'.tmps.getD 16 undef = _ := hdep 4 16 (Nat.le_of_ble_eq_true rfl) rfl rfl
              conv at e16 => rhs; whnf
              have f16 := e16; simp only [Array.getD_eq_getD_getElem?] at f16
              have e3 := hfr 3 rfl
              conv at e3 => rhs; whnf
              have f3 := e3; simp only [Array.getD_eq_getD_getElem?] at f3
              refine wpOp_yes rfl rfl rfl e16 (fun K hK => ?_)
              go_simp
              exact hK _ _ ⟨_, rfl, Below.refl _ _, rfl⟩
            apply free_is
            · intro a' w' hLe hfr hdep
              have e16 : a'.tmps.getD 16 undef = _ := hdep 4 16 (Nat.le_of_ble_eq_true rfl) rfl rfl
              conv at e16 => rhs; whnf
              have f16 := e16; simp only [Array.getD_eq_getD_getElem?] at f16
              have e17 : a'.tmps.getD 17 undef = _ := hdep 5 17 (Nat.le_of_ble_eq_true rfl) rfl rfl
              conv at e17 => rhs; whnf
              have f17 := e17; simp only [Array.getD_eq_getD_getElem?] at f17
              refine wpOp_yes rfl rfl rfl e16 (fun K hK => ?_)
              go_simp
              exact hK _ _ ⟨_, rfl, Below.refl _ _, rfl⟩
            apply free_is
            · intro a' w' hLe hfr hdep
              have e16 : a'.tmps.getD 16 undef = _ := hdep 4 16 (Nat.le_of_ble_eq_true rfl) rfl rfl
              conv at e16 => rhs; whnf
              have f16 := e16; simp only [Array.getD_eq_getD_getElem?] at f16
              have e18 : a'.tmps.getD 18 undef = _ := hdep 6 18 (Nat.le_of_ble_eq_true rfl) rfl rfl
              conv at e18 => rhs; whnf
              have f18 := e18; simp only [Array.getD_eq_getD_getElem?] at f18
              refine wpOp_yes rfl rfl rfl e16 (fun K hK => ?_)
              go_simp
              exact hK _ _ ⟨_, rfl, Below.refl _ _, rfl⟩
            apply free_is
            · intro a' w' hLe hfr hdep
              have e19 : a'.tmps.getD 19 undef = _ := hdep 7 19 (Nat.le_of_ble_eq_true rfl) rfl rfl
              conv at e19 => rhs; whnf
              have f19 := e19; simp only [Array.getD_eq_getD_getElem?] at f19
              have e4 := hfr 4 rfl
              conv at e4 => rhs; whnf
              have f4 := e4; simp only [Array.getD_eq_getD_getElem?] at f4
              refine wpOp_yes rfl rfl rfl e19 (fun K hK => ?_)
              go_simp
              exact hK _ _ ⟨_, rfl, Below.refl _ _, rfl⟩
            apply free_is
            · intro a' w' hLe hfr hdep
              have e19 : a'.tmps.getD 19 undef = _ := hdep 7 19 (Nat.le_of_ble_eq_true rfl) rfl rfl
              conv at e19 => rhs; whnf
              have f19 := e19; simp only [Array.getD_eq_getD_getElem?] at f19
              have e20 : a'.tmps.getD 20 undef = _ := hdep 8 20 (Nat.le_of_ble_eq_true rfl) rfl rfl
              conv at e20 => rhs; whnf
              have f20 := e20; simp only [Array.getD_eq_getD_getElem?] at f20
              have kc := fun i => keepc hLe (bl) (by (try simp) <;> omega) i
              have kf := fun i => keepf hLe (bl) (by (try simp) <;> omega) i
              have kz : bl < w'.heap.size := (by have := hLe.size; (try simp at this); omega)
              have kc := fun i => keepc hLe (wr.heap.size) (by (try simp) <;> omega) i
              have kf := fun i => keepf hLe (wr.heap.size) (by (try simp) <;> omega) i
              have kz : wr.heap.size < w'.heap.size := (by have := hLe.size; (try simp at this); omega)
              refine wpOp_yes rfl rfl rfl e19 (fun K hK => ?_)
              go_simp
              exact hK _ _ ⟨_, rfl, Below.refl _ _, rfl⟩
            apply free_is
            · intro a' w' hLe hfr hdep
              have e19 : a'.tmps.getD 19 undef = _ := hdep 7 19 (Nat.le_of_ble_eq_true rfl) rfl rfl
              conv at e19 => rhs; whnf
              have f19 := e19; simp only [Array.getD_eq_getD_getElem?] at f19
              have e0 := hfr 0 rfl
              conv at e0 => rhs; whnf
              have f0 := e0; simp only [Array.getD_eq_getD_getElem?] at f0
              refine wpOp_yes rfl rfl rfl e19 (fun K hK => ?_)
              go_simp
              exact hK _ _ ⟨_, rfl, Below.refl _ _, rfl⟩
            apply free_is
            · intro a' w' hLe hfr hdep
              have e19 : a'.tmps.getD 19 undef = _ := hdep 7 19 (Nat.le_of_ble_eq_true rfl) rfl rfl
              conv at e19 => rhs; whnf
              have f19 := e19; simp only [Array.getD_eq_getD_getElem?] at f19
              have e3 := hfr 3 rfl
              conv at e3 => rhs; whnf
              have f3 := e3; simp only [Array.getD_eq_getD_getElem?] at f3
              refine wpOp_yes rfl rfl rfl e19 (fun K hK => ?_)
              go_simp
              exact hK _ _ ⟨_, rfl, Below.refl _ _, rfl⟩
            apply free_is
            · intro a' w' hLe hfr hdep
              have e19 : a'.tmps.getD 19 undef = _ := hdep 7 19 (Nat.le_of_ble_eq_true rfl) rfl rfl
              conv at e19 => rhs; whnf
              have f19 := e19; simp only [Array.getD_eq_getD_getElem?] at f19
              have e23 : a'.tmps.getD 23 undef = _ := hdep 11 23 (Nat.le_of_ble_eq_true rfl) rfl rfl
              conv at e23 => rhs; whnf
              have f23 := e23; simp only [Array.getD_eq_getD_getElem?] at f23
              refine wpOp_yes rfl rfl rfl e19 (fun K hK => ?_)
              go_simp
              exact hK _ _ ⟨_, rfl, Below.refl _ _, rfl⟩
            apply free_is
            · intro a' w' hLe hfr hdep
              have e19 : a'.tmps.getD 19 undef = _ := hdep 7 19 (Nat.le_of_ble_eq_true rfl) rfl rfl
              conv at e19 => rhs; whnf
              have f19 := e19; simp only [Array.getD_eq_getD_getElem?] at f19
              have e22 : a'.tmps.getD 22 undef = _ := hdep 10 22 (Nat.le_of_ble_eq_true rfl) rfl rfl
              conv at e22 => rhs; whnf
              have f22 := e22; simp only [Array.getD_eq_getD_getElem?] at f22
              have e24 : a'.tmps.getD 24 undef = _ := hdep 12 24 (Nat.le_of_ble_eq_true rfl) rfl rfl
              conv at e24 => rhs; whnf
              have f24 := e24; simp only [Array.getD_eq_getD_getElem?] at f24
              refine wpOp_yes rfl rfl rfl e19 (fun K hK => ?_)
              go_simp
              exact hK _ _ ⟨_, rfl, Below.refl _ _, rfl⟩
            apply free_is
            · intro a' w' hLe hfr hdep
              have e19 : a'.tmps.getD 19 undef = _ := hdep 7 19 (Nat.le_of_ble_eq_true rfl) rfl rfl
              conv at e19 => rhs; whnf
              have f19 := e19; simp only [Array.getD_eq_getD_getElem?] at f19
              have e25 : a'.tmps.getD 25 undef = _ := hdep 13 25 (Nat.le_of_ble_eq_true rfl) rfl rfl
              conv at e25 => rhs; whnf
              have f25 := e25; simp only [Array.getD_eq_getD_getElem?] at f25
              refine wpOp_yes rfl rfl rfl e19 (fun K hK => ?_)
              go_simp
              exact hK _ _ ⟨_, rfl, Below.refl _ _, rfl⟩
            apply free_is
            · intro a' w' hLe hfr hdep
              have e19 : a'.tmps.getD 19 undef = _ := hdep 7 19 (Nat.le_of_ble_eq_true rfl) rfl rfl
              conv at e19 => rhs; whnf
              have f19 := e19; simp only [Array.getD_eq_getD_getElem?] at f19
              have e26 : a'.tmps.getD 26 undef = _ := hdep 14 26 (Nat.le_of_ble_eq_true rfl) rfl rfl
              conv at e26 => rhs; whnf
              have f26 := e26; simp only [Array.getD_eq_getD_getElem?] at f26
              have kc := fun i => keepc hLe (bl) (by (try simp) <;> omega) i
              have kf := fun i => keepf hLe (bl) (by (try simp) <;> omega) i
              have kz : bl < w'.heap.size := (by have := hLe.size; (try simp at this); omega)
              have kc := fun i => keepc hLe (wr.heap.size) (by (try simp) <;> omega) i
              have kf := fun i => keepf hLe (wr.heap.size) (by (try simp) <;> omega) i
              have kz : wr.heap.size < w'.heap.size := (by have := hLe.size; (try simp at this); omega)
              refine wpOp_yes rfl rfl rfl e19 (fun K hK => ?_)
              go_simp
              exact hK _ _ ⟨_, rfl, Below.refl _ _, rfl⟩
            apply free_is
            · intro a' w' hLe hfr hdep
              have e19 : a'.tmps.getD 19 undef = _ := hdep 7 19 (Nat.le_of_ble_eq_true rfl) rfl rfl
              conv at e19 => rhs; whnf
              have f19 := e19; simp only [Array.getD_eq_getD_getElem?] at f19
              have e21 : a'.tmps.getD 21 undef = _ := hdep 9 21 (Nat.le_of_ble_eq_true rfl) rfl rfl
              conv at e21 => rhs; whnf
              have f21 := e21; simp only [Array.getD_eq_getD_getElem?] at f21
              have e27 : a'.tmps.getD 27 undef = _ := hdep 15 27 (Nat.le_of_ble_eq_true rfl) rfl rfl
              conv at e27 => rhs; whnf
              have f27 := e27; simp only [Array.getD_eq_getD_getElem?] at f27
              refine wpOp_yes rfl rfl rfl e19 (fun K hK => ?_)
              go_simp
              exact hK _ _ ⟨_, rfl, Below.refl _ _, rfl⟩
            apply free_is
            · intro a' w' hLe hfr hdep
              have e16 : a'.tmps.getD 16 undef = _ := hdep 4 16 (Nat.le_of_ble_eq_true rfl) rfl rfl
              conv at e16 => rhs; whnf
              have f16 := e16; simp only [Array.getD_eq_getD_getElem?] at f16
              have e19 : a'.tmps.getD 19 undef = _ := hdep 7 19 (Nat.le_of_ble_eq_true rfl) rfl rfl
              conv at e19 => rhs; whnf
              have f19 := e19; simp only [Array.getD_eq_getD_getElem?] at f19
              have e28 : a'.tmps.getD 28 undef = _ := hdep 16 28 (Nat.le_of_ble_eq_true rfl) rfl rfl
              conv at e28 => rhs; whnf
              have f28 := e28; simp only [Array.getD_eq_getD_getElem?] at f28
              refine wpOp_yes rfl rfl rfl e16 (fun K hK => ?_)
              go_simp
              exact hK _ _ ⟨_, rfl, Below.refl _ _, rfl⟩
            apply free_is
            · intro a' w' hLe hfr hdep
              have e16 : a'.tmps.getD 16 undef = _ := hdep 4 16 (Nat.le_of_ble_eq_true rfl) rfl rfl
              conv at e16 => rhs; whnf
              have f16 := e16; simp only [Array.getD_eq_getD_getElem?] at f16
              have e29 : a'.tmps.getD 29 undef = _ := hdep 17 29 (Nat.le_of_ble_eq_true rfl) rfl rfl
              conv at e29 => rhs; whnf
              have f29 := e29; simp only [Array.getD_eq_getD_getElem?] at f29
              refine wpOp_plain rfl rfl (fun K hK => ?_)
              go_simp
              exact hK _ _ ⟨_, rfl, Below.refl _ _, rfl⟩
            apply free_is
            · intro a' w' hLe hfr hdep
              have e30 : a'.tmps.getD 30 undef = _ := hdep 18 30 (Nat.le_of_ble_eq_true rfl) rfl rfl
              conv at e30 => rhs; whnf
              have f30 := e30; simp only [Array.getD_eq_getD_getElem?] at f30
              refine wpOp_plain rfl rfl (fun K hK => ?_)
              go_simp
              exact hK _ _ ⟨_, rfl, Below.refl _ _, rfl⟩
            apply free_is
            · intro a' w' hLe hfr hdep
              have e31 : a'.tmps.getD 31 undef = _ := hdep 19 31 (Nat.le_of_ble_eq_true rfl) rfl rfl
              conv at e31 => rhs; whnf
              have f31 := e31; simp only [Array.getD_eq_getD_getElem?] at f31
              exact wpOp_no rfl rfl rfl e31 ⟨_, rfl, Below.refl _ _, rfl⟩
            apply free_is
            · intro a' w' hLe hfr hdep
              have e31 : a'.tmps.getD 31 undef = _ := hdep 19 31 (Nat.le_of_ble_eq_true rfl) rfl rfl
              conv at e31 => rhs; whnf
              have f31 := e31; simp only [Array.getD_eq_getD_getElem?] at f31
              exact wpOp_no rfl rfl rfl e31 ⟨_, rfl, Below.refl _ _, rfl⟩
            apply free_is
            · intro a' w' hLe hfr hdep
              have e31 : a'.tmps.getD 31 undef = _ := hdep 19 31 (Nat.le_of_ble_eq_true rfl) rfl rfl
              conv at e31 => rhs; whnf
              have f31 := e31; simp only [Array.getD_eq_getD_getElem?] at f31
              exact wpOp_no rfl rfl rfl e31 ⟨_, rfl, Below.refl _ _, rfl⟩
            apply free_is
            · intro a' w' hLe hfr hdep
              have e31 : a'.tmps.getD 31 undef = _ := hdep 19 31 (Nat.le_of_ble_eq_true rfl) rfl rfl
              conv at e31 => rhs; whnf
              have f31 := e31; simp only [Array.getD_eq_getD_getElem?] at f31
              exact wpOp_no rfl rfl rfl e31 ⟨_, rfl, Below.refl _ _, rfl⟩
            apply free_is
            · intro a' w' hLe hfr hdep
              have e31 : a'.tmps.getD 31 undef = _ := hdep 19 31 (Nat.le_of_ble_eq_true rfl) rfl rfl
              conv at e31 => rhs; whnf
              have f31 := e31; simp only [Array.getD_eq_getD_getElem?] at f31
              have e35 : a'.tmps.getD 35 undef = _ := hdep 23 35 (Nat.le_of_ble_eq_true rfl) rfl rfl
              conv at e35 => rhs; whnf
              have f35 := e35; simp only [Array.getD_eq_getD_getElem?] at f35
              refine wpOp_plain rfl rfl (fun K hK => ?_)
              go_simp
              exact hK _ _ ⟨_, rfl, Below.refl _ _, rfl⟩
            apply free_is
            · intro a' w' hLe hfr hdep
              have e36 : a'.tmps.getD 36 undef = _ := hdep 24 36 (Nat.le_of_ble_eq_true rfl) rfl rfl
              conv at e36 => rhs; whnf
              have f36 := e36; simp only [Array.getD_eq_getD_getElem?] at f36
              refine wpOp_plain rfl rfl (fun K hK => ?_)
              go_simp
              exact hK _ _ ⟨_, rfl, Below.refl _ _, rfl⟩
            apply free_is
            · intro a' w' hLe hfr hdep
              have e37 : a'.tmps.getD 37 undef = _ := hdep 25 37 (Nat.le_of_ble_eq_true rfl) rfl rfl
              conv at e37 => rhs; whnf
              have f37 := e37; simp only [Array.getD_eq_getD_getElem?] at f37
              exact wpOp_no rfl rfl rfl e37 ⟨_, rfl, Below.refl _ _, rfl⟩
            apply free_is
            · intro a' w' hLe hfr hdep
              have e37 : a'.tmps.getD 37 undef = _ := hdep 25 37 (Nat.le_of_ble_eq_true rfl) rfl rfl
              conv at e37 => rhs; whnf
              have f37 := e37; simp only [Array.getD_eq_getD_getElem?] at f37
              exact wpOp_no rfl rfl rfl e37 ⟨_, rfl, Below.refl _ _, rfl⟩
            apply free_is
            · intro a' w' hLe hfr hdep
              have e37 : a'.tmps.getD 37 undef = _ := hdep 25 37 (Nat.le_of_ble_eq_true rfl) rfl rfl
              conv at e37 => rhs; whnf
              have f37 := e37; simp only [Array.getD_eq_getD_getElem?] at f37
              exact wpOp_no rfl rfl rfl e37 ⟨_, rfl, Below.refl _ _, rfl⟩
            apply free_is
            · intro a' w' hLe hfr hdep
              have e37 : a'.tmps.getD 37 undef = _ := hdep 25 37 (Nat.le_of_ble_eq_true rfl) rfl rfl
              conv at e37 => rhs; whnf
              have f37 := e37; simp only [Array.getD_eq_getD_getElem?] at f37
              exact wpOp_no rfl rfl rfl e37 ⟨_, rfl, Below.refl _ _, rfl⟩
            apply free_is
            · intro a' w' hLe hfr hdep
              have e37 : a'.tmps.getD 37 undef = _ := hdep 25 37 (Nat.le_of_ble_eq_true rfl) rfl rfl
              conv at e37 => rhs; whnf
              have f37 := e37; simp only [Array.getD_eq_getD_getElem?] at f37
              have e41 : a'.tmps.getD 41 undef = _ := hdep 29 41 (Nat.le_of_ble_eq_true rfl) rfl rfl
              conv at e41 => rhs; whnf
              have f41 := e41; simp only [Array.getD_eq_getD_getElem?] at f41
              refine wpOp_plain rfl rfl (fun K hK => ?_)
              go_simp
              exact hK _ _ ⟨_, rfl, Below.refl _ _, rfl⟩
            apply free_nil
            intro vs w1 hb1 hT1
            have e12 : vs 0 = _ := hT1 0 12 rfl
            conv at e12 => rhs; whnf
            have e13 : vs 1 = _ := hT1 1 13 rfl
            conv at e13 => rhs; whnf
            have e14 : vs 2 = _ := hT1 2 14 rfl
            conv at e14 => rhs; whnf
            have e15 : vs 3 = _ := hT1 3 15 rfl
            conv at e15 => rhs; whnf
            have e16 : vs 4 = _ := hT1 4 16 rfl
            conv at e16 => rhs; whnf
            have e17 : vs 5 = _ := hT1 5 17 rfl
            conv at e17 => rhs; whnf
            have e18 : vs 6 = _ := hT1 6 18 rfl
            conv at e18 => rhs; whnf
            have e19 : vs 7 = _ := hT1 7 19 rfl
            conv at e19 => rhs; whnf
            have e20 : vs 8 = _ := hT1 8 20 rfl
            conv at e20 => rhs; whnf
            have e21 : vs 9 = _ := hT1 9 21 rfl
            conv at e21 => rhs; whnf
            have e22 : vs 10 = _ := hT1 10 22 rfl
            conv at e22 => rhs; whnf
            have e23 : vs 11 = _ := hT1 11 23 rfl
            conv at e23 => rhs; whnf
            have e24 : vs 12 = _ := hT1 12 24 rfl
            conv at e24 => rhs; whnf
            have e25 : vs 13 = _ := hT1 13 25 rfl
            conv at e25 => rhs; whnf
            have e26 : vs 14 = _ := hT1 14 26 rfl
            conv at e26 => rhs; whnf
            have e27 : vs 15 = _ := hT1 15 27 rfl
            conv at e27 => rhs; whnf
            have e28 : vs 16 = _ := hT1 16 28 rfl
            conv at e28 => rhs; whnf
            have e29 : vs 17 = _ := hT1 17 29 rfl
            conv at e29 => rhs; whnf
            have e30 : vs 18 = _ := hT1 18 30 rfl
            conv at e30 => rhs; whnf
            have e31 : vs 19 = _ := hT1 19 31 rfl
            conv at e31 => rhs; whnf
            have e32 : vs 20 = _ := hT1 20 32 rfl
            conv at e32 => rhs; whnf
            have e33 : vs 21 = _ := hT1 21 33 rfl
            conv at e33 => rhs; whnf
            have e34 : vs 22 = _ := hT1 22 34 rfl
            conv at e34 => rhs; whnf
            have e35 : vs 23 = _ := hT1 23 35 rfl
            conv at e35 => rhs; whnf
            have e36 : vs 24 = _ := hT1 24 36 rfl
            conv at e36 => rhs; whnf
            have e37 : vs 25 = _ := hT1 25 37 rfl
            conv at e37 => rhs; whnf
            have e38 : vs 26 = _ := hT1 26 38 rfl
            conv at e38 => rhs; whnf
            have e39 : vs 27 = _ := hT1 27 39 rfl
            conv at e39 => rhs; whnf
            have e40 : vs 28 = _ := hT1 28 40 rfl
            conv at e40 => rhs; whnf
            have e41 : vs 29 = _ := hT1 29 41 rfl
            conv at e41 => rhs; whnf
            have e42 : vs 30 = _ := hT1 30 42 rfl
            conv at e42 => rhs; whnf
            simp only [putAll, List.drop_succ_cons, List.drop_zero, e12, e13, e14, e15, e16, e17, e18, e19, e20, e21, e22, e23, e24, e25, e26, e27, e28, e29, e30, e31, e32, e33, e34, e35, e36, e37, e38, e39, e40, e41, e42]
            clear hT1 e12 e13 e14 e15 e16 e17 e18 e19 e20 e21 e22 e23 e24 e25 e26 e27 e28 e29 e30 e31 e32 e33 e34 e35 e36 e37 e38 e39 e40 e41 e42
            go_simp
            go_wp2
            go_ret
            exact ⟨by rw [hno.out] <;> rfl, Below.tr (by (repeat (first | exact Below.refl _ _ | assumption | refine Below.al ?_ _ | refine Below.dr ?_ | (refine Below.st ?_ (by simp <;> omega) _) | (refine Below.tr ?_ (by assumption))))) hb1⟩
          · have hd : decide (a (i + 1) ≤ a i) = false := by simpa using h4
            have h5 : a i < a (i + 1) := by omega
            cases h2 : inB (b (i + 1)) 1 5 with
            | false =>
              have hno := Lib.hid (poolB_no (show i + 1 < n from hlt) (show poolOk a b d (i + 1) = false by simp [poolOk, h1, h2, h5]))
              go_wp2
              refine wp_region_free (ds := [(0, 12), (1, 13), (2, 14), (3, 15), (4, 16), (5, 17), (6, 18), (7, 19), (8, 20), (9, 21), (10, 22), (11, 23), (12, 24), (13, 25), (14, 26), (15, 27), (16, 28), (17, 29), (18, 30), (19, 31), (20, 32), (21, 33), (22, 34), (23, 35), (24, 36), (25, 37), (26, 38), (27, 39), (28, 40), (29, 41), (30, 42)]) 31 (by kernel_rfl) (by kernel_rfl) (by first | exact .inl rfl | exact .inr (by kernel_rfl)) (by rfl) rfl rfl ?_
              apply free_is
              · intro a' w' hLe hfr hdep
                have e4 := hfr 4 rfl
                conv at e4 => rhs; whnf
                have f4 := e4; simp only [Array.getD_eq_getD_getElem?] at f4
                refine wpOp_plain rfl rfl (fun K hK => ?_)
                go_simp
                exact hK _ _ ⟨_, rfl, Below.refl _ _, rfl⟩
              apply free_is
              · intro a' w' hLe hfr hdep
                have e12 : a'.tmps.getD 12 undef = _ := hdep 0 12 (Nat.le_of_ble_eq_true rfl) rfl rfl
                conv at e12 => rhs; whnf
                have f12 := e12; simp only [Array.getD_eq_getD_getElem?] at f12
                have kc := fun i => keepc hLe (bl) (by (try simp) <;> omega) i
                have kf := fun i => keepf hLe (bl) (by (try simp) <;> omega) i
                have kz : bl < w'.heap.size := (by have := hLe.size; (try simp at this); omega)
                have kc := fun i => keepc hLe (wr.heap.size) (by (try simp) <;> omega) i
                have kf := fun i => keepf hLe (wr.heap.size) (by (try simp) <;> omega) i
                have kz : wr.heap.size < w'.heap.size := (by have := hLe.size; (try simp at this); omega)
                refine wpOp_plain rfl rfl (fun K hK => ?_)
                go_simp
                exact hK _ _ ⟨_, rfl, Below.refl _ _, rfl⟩
              apply free_is
              · intro a' w' hLe hfr hdep
                have e13 : a'.tmps.getD 13 undef = _ := hdep 1 13 (Nat.le_of_ble_eq_true rfl) rfl rfl
                conv at e13 => rhs; whnf
                have f13 := e13; simp only [Array.getD_eq_getD_getElem?] at f13
                have kc := fun i => keepc hLe (bl) (by (try simp) <;> omega) i
                have kf := fun i => keepf hLe (bl) (by (try simp) <;> omega) i
                have kz : bl < w'.heap.size := (by have := hLe.size; (try simp at this); omega)
                have kc := fun i => keepc hLe (wr.heap.size) (by (try simp) <;> omega) i
                have kf := fun i => keepf hLe (wr.heap.size) (by (try simp) <;> omega) i
                have kz : wr.heap.size < w'.heap.size := (by have := hLe.size; (try simp at this); omega)
                refine wpOp_plain rfl rfl (fun K hK => ?_)
                go_simp
                refine (in_any _ _ _ _).mono ?_
                rintro e w2 ⟨rfl, rfl⟩
                exact hK _ _ ⟨_, rfl, Below.refl _ _, rfl⟩
              apply free_is
              · intro a' w' hLe hfr hdep
                have e14 : a'.tmps.getD 14 undef = _ := hdep 2 14 (Nat.le_of_ble_eq_true rfl) rfl rfl
                conv at e14 => rhs; whnf
                have f14 := e14; simp only [Array.getD_eq_getD_getElem?] at f14
                refine wpOp_plain rfl rfl (fun K hK => ?_)
                go_simp
                exact hK _ _ ⟨_, rfl, Below.refl _ _, rfl⟩
              apply free_is
              · intro a' w' hLe hfr hdep
                have e15 : a'.tmps.getD 15 undef = _ := hdep 3 15 (Nat.le_of_ble_eq_true rfl) rfl rfl
                conv at e15 => rhs; whnf
                have f15 := e15; simp only [Array.getD_eq_getD_getElem?] at f15
                refine wpOp_plain rfl rfl (fun K hK => ?_)
                go_simp
                exact hK _ _ ⟨_, rfl, Below.refl _ _, rfl⟩
              apply free_is
              · intro a' w' hLe hfr hdep
                have e16 : a'.tmps.getD 16 undef = _ := hdep 4 16 (Nat.le_of_ble_eq_true rfl) rfl rfl
                conv at e16 => rhs; whnf
                have f16 := e16; simp only [Array.getD_eq_getD_getElem?] at f16
                have e3 := hfr 3 rfl
                conv at e3 => rhs; whnf
                have f3 := e3; simp only [Array.getD_eq_getD_getElem?] at f3
                refine wpOp_yes rfl rfl rfl e16 (fun K hK => ?_)
                go_simp
                exact hK _ _ ⟨_, rfl, Below.refl _ _, rfl⟩
              apply free_is
              · intro a' w' hLe hfr hdep
                have e16 : a'.tmps.getD 16 undef = _ := hdep 4 16 (Nat.le_of_ble_eq_true rfl) rfl rfl
                conv at e16 => rhs; whnf
                have f16 := e16; simp only [Array.getD_eq_getD_getElem?] at f16
                have e17 : a'.tmps.getD 17 undef = _ := hdep 5 17 (Nat.le_of_ble_eq_true rfl) rfl rfl
                conv at e17 => rhs; whnf
                have f17 := e17; simp only [Array.getD_eq_getD_getElem?] at f17
                refine wpOp_yes rfl rfl rfl e16 (fun K hK => ?_)
                go_simp
                exact hK _ _ ⟨_, rfl, Below.refl _ _, rfl⟩
              apply free_is
              · intro a' w' hLe hfr hdep
                have e16 : a'.tmps.getD 16 undef = _ := hdep 4 16 (Nat.le_of_ble_eq_true rfl) rfl rfl
                conv at e16 => rhs; whnf
                have f16 := e16; simp only [Array.getD_eq_getD_getElem?] at f16
                have e18 : a'.tmps.getD 18 undef = _ := hdep 6 18 (Nat.le_of_ble_eq_true rfl) rfl rfl
                conv at e18 => rhs; whnf
                have f18 := e18; simp only [Array.getD_eq_getD_getElem?] at f18
                refine wpOp_yes rfl rfl rfl e16 (fun K hK => ?_)
                go_simp
                exact hK _ _ ⟨_, rfl, Below.refl _ _, rfl⟩
              apply free_is
              · intro a' w' hLe hfr hdep
                have e19 : a'.tmps.getD 19 undef = _ := hdep 7 19 (Nat.le_of_ble_eq_true rfl) rfl rfl
                conv at e19 => rhs; whnf
                have f19 := e19; simp only [Array.getD_eq_getD_getElem?] at f19
                have e4 := hfr 4 rfl
                conv at e4 => rhs; whnf
                have f4 := e4; simp only [Array.getD_eq_getD_getElem?] at f4
                refine wpOp_yes rfl rfl rfl e19 (fun K hK => ?_)
                go_simp
                exact hK _ _ ⟨_, rfl, Below.refl _ _, rfl⟩
              apply free_is
              · intro a' w' hLe hfr hdep
                have e19 : a'.tmps.getD 19 undef = _ := hdep 7 19 (Nat.le_of_ble_eq_true rfl) rfl rfl
                conv at e19 => rhs; whnf
                have f19 := e19; simp only [Array.getD_eq_getD_getElem?] at f19
                have e20 : a'.tmps.getD 20 undef = _ := hdep 8 20 (Nat.le_of_ble_eq_true rfl) rfl rfl
                conv at e20 => rhs; whnf
                have f20 := e20; simp only [Array.getD_eq_getD_getElem?] at f20
                have kc := fun i => keepc hLe (bl) (by (try simp) <;> omega) i
                have kf := fun i => keepf hLe (bl) (by (try simp) <;> omega) i
                have kz : bl < w'.heap.size := (by have := hLe.size; (try simp at this); omega)
                have kc := fun i => keepc hLe (wr.heap.size) (by (try simp) <;> omega) i
                have kf := fun i => keepf hLe (wr.heap.size) (by (try simp) <;> omega) i
                have kz : wr.heap.size < w'.heap.size := (by have := hLe.size; (try simp at this); omega)
                refine wpOp_yes rfl rfl rfl e19 (fun K hK => ?_)
                go_simp
                exact hK _ _ ⟨_, rfl, Below.refl _ _, rfl⟩
              apply free_is
              · intro a' w' hLe hfr hdep
                have e19 : a'.tmps.getD 19 undef = _ := hdep 7 19 (Nat.le_of_ble_eq_true rfl) rfl rfl
                conv at e19 => rhs; whnf
                have f19 := e19; simp only [Array.getD_eq_getD_getElem?] at f19
                have e0 := hfr 0 rfl
                conv at e0 => rhs; whnf
                have f0 := e0; simp only [Array.getD_eq_getD_getElem?] at f0
                refine wpOp_yes rfl rfl rfl e19 (fun K hK => ?_)
                go_simp
                exact hK _ _ ⟨_, rfl, Below.refl _ _, rfl⟩
              apply free_is
              · intro a' w' hLe hfr hdep
                have e19 : a'.tmps.getD 19 undef = _ := hdep 7 19 (Nat.le_of_ble_eq_true rfl) rfl rfl
                conv at e19 => rhs; whnf
                have f19 := e19; simp only [Array.getD_eq_getD_getElem?] at f19
                have e3 := hfr 3 rfl
                conv at e3 => rhs; whnf
                have f3 := e3; simp only [Array.getD_eq_getD_getElem?] at f3
                refine wpOp_yes rfl rfl rfl e19 (fun K hK => ?_)
                go_simp
                exact hK _ _ ⟨_, rfl, Below.refl _ _, rfl⟩
              apply free_is
              · intro a' w' hLe hfr hdep
                have e19 : a'.tmps.getD 19 undef = _ := hdep 7 19 (Nat.le_of_ble_eq_true rfl) rfl rfl
                conv at e19 => rhs; whnf
                have f19 := e19; simp only [Array.getD_eq_getD_getElem?] at f19
                have e23 : a'.tmps.getD 23 undef = _ := hdep 11 23 (Nat.le_of_ble_eq_true rfl) rfl rfl
                conv at e23 => rhs; whnf
                have f23 := e23; simp only [Array.getD_eq_getD_getElem?] at f23
                refine wpOp_yes rfl rfl rfl e19 (fun K hK => ?_)
                go_simp
                exact hK _ _ ⟨_, rfl, Below.refl _ _, rfl⟩
              apply free_is
              · intro a' w' hLe hfr hdep
                have e19 : a'.tmps.getD 19 undef = _ := hdep 7 19 (Nat.le_of_ble_eq_true rfl) rfl rfl
                conv at e19 => rhs; whnf
                have f19 := e19; simp only [Array.getD_eq_getD_getElem?] at f19
                have e22 : a'.tmps.getD 22 undef = _ := hdep 10 22 (Nat.le_of_ble_eq_true rfl) rfl rfl
                conv at e22 => rhs; whnf
                have f22 := e22; simp only [Array.getD_eq_getD_getElem?] at f22
                have e24 : a'.tmps.getD 24 undef = _ := hdep 12 24 (Nat.le_of_ble_eq_true rfl) rfl rfl
                conv at e24 => rhs; whnf
                have f24 := e24; simp only [Array.getD_eq_getD_getElem?] at f24
                refine wpOp_yes rfl rfl rfl e19 (fun K hK => ?_)
                go_simp
                exact hK _ _ ⟨_, rfl, Below.refl _ _, rfl⟩
              apply free_is
              · intro a' w' hLe hfr hdep
                have e19 : a'.tmps.getD 19 undef = _ := hdep 7 19 (Nat.le_of_ble_eq_true rfl) rfl rfl
                conv at e19 => rhs; whnf
                have f19 := e19; simp only [Array.getD_eq_getD_getElem?] at f19
                have e25 : a'.tmps.getD 25 undef = _ := hdep 13 25 (Nat.le_of_ble_eq_true rfl) rfl rfl
                conv at e25 => rhs; whnf
                have f25 := e25; simp only [Array.getD_eq_getD_getElem?] at f25
                refine wpOp_yes rfl rfl rfl e19 (fun K hK => ?_)
                go_simp
                exact hK _ _ ⟨_, rfl, Below.refl _ _, rfl⟩
              apply free_is
              · intro a' w' hLe hfr hdep
                have e19 : a'.tmps.getD 19 undef = _ := hdep 7 19 (Nat.le_of_ble_eq_true rfl) rfl rfl
                conv at e19 => rhs; whnf
                have f19 := e19; simp only [Array.getD_eq_getD_getElem?] at f19
                have e26 : a'.tmps.getD 26 undef = _ := hdep 14 26 (Nat.le_of_ble_eq_true rfl) rfl rfl
                conv at e26 => rhs; whnf
                have f26 := e26; simp only [Array.getD_eq_getD_getElem?] at f26
                have kc := fun i => keepc hLe (bl) (by (try simp) <;> omega) i
                have kf := fun i => keepf hLe (bl) (by (try simp) <;> omega) i
                have kz : bl < w'.heap.size := (by have := hLe.size; (try simp at this); omega)
                have kc := fun i => keepc hLe (wr.heap.size) (by (try simp) <;> omega) i
                have kf := fun i => keepf hLe (wr.heap.size) (by (try simp) <;> omega) i
                have kz : wr.heap.size < w'.heap.size := (by have := hLe.size; (try simp at this); omega)
                refine wpOp_yes rfl rfl rfl e19 (fun K hK => ?_)
                go_simp
                exact hK _ _ ⟨_, rfl, Below.refl _ _, rfl⟩
              apply free_is
              · intro a' w' hLe hfr hdep
                have e19 : a'.tmps.getD 19 undef = _ := hdep 7 19 (Nat.le_of_ble_eq_true rfl) rfl rfl
                conv at e19 => rhs; whnf
                have f19 := e19; simp only [Array.getD_eq_getD_getElem?] at f19
                have e21 : a'.tmps.getD 21 undef = _ := hdep 9 21 (Nat.le_of_ble_eq_true rfl) rfl rfl
                conv at e21 => rhs; whnf
                have f21 := e21; simp only [Array.getD_eq_getD_getElem?] at f21
                have e27 : a'.tmps.getD 27 undef = _ := hdep 15 27 (Nat.le_of_ble_eq_true rfl) rfl rfl
                conv at e27 => rhs; whnf
                have f27 := e27; simp only [Array.getD_eq_getD_getElem?] at f27
                refine wpOp_yes rfl rfl rfl e19 (fun K hK => ?_)
                go_simp
                exact hK _ _ ⟨_, rfl, Below.refl _ _, rfl⟩
              apply free_is
              · intro a' w' hLe hfr hdep
                have e16 : a'.tmps.getD 16 undef = _ := hdep 4 16 (Nat.le_of_ble_eq_true rfl) rfl rfl
                conv at e16 => rhs; whnf
                have f16 := e16; simp only [Array.getD_eq_getD_getElem?] at f16
                have e19 : a'.tmps.getD 19 undef = _ := hdep 7 19 (Nat.le_of_ble_eq_true rfl) rfl rfl
                conv at e19 => rhs; whnf
                have f19 := e19; simp only [Array.getD_eq_getD_getElem?] at f19
                have e28 : a'.tmps.getD 28 undef = _ := hdep 16 28 (Nat.le_of_ble_eq_true rfl) rfl rfl
                conv at e28 => rhs; whnf
                have f28 := e28; simp only [Array.getD_eq_getD_getElem?] at f28
                refine wpOp_yes rfl rfl rfl e16 (fun K hK => ?_)
                go_simp
                exact hK _ _ ⟨_, rfl, Below.refl _ _, rfl⟩
              apply free_is
              · intro a' w' hLe hfr hdep
                have e16 : a'.tmps.getD 16 undef = _ := hdep 4 16 (Nat.le_of_ble_eq_true rfl) rfl rfl
                conv at e16 => rhs; whnf
                have f16 := e16; simp only [Array.getD_eq_getD_getElem?] at f16
                have e29 : a'.tmps.getD 29 undef = _ := hdep 17 29 (Nat.le_of_ble_eq_true rfl) rfl rfl
                conv at e29 => rhs; whnf
                have f29 := e29; simp only [Array.getD_eq_getD_getElem?] at f29
                refine wpOp_plain rfl rfl (fun K hK => ?_)
                go_simp
                exact hK _ _ ⟨_, rfl, Below.refl _ _, rfl⟩
              apply free_is
              · intro a' w' hLe hfr hdep
                have e30 : a'.tmps.getD 30 undef = _ := hdep 18 30 (Nat.le_of_ble_eq_true rfl) rfl rfl
                conv at e30 => rhs; whnf
                have f30 := e30; simp only [Array.getD_eq_getD_getElem?] at f30
                refine wpOp_plain rfl rfl (fun K hK => ?_)
                go_simp
                exact hK _ _ ⟨_, rfl, Below.refl _ _, rfl⟩
              apply free_is
              · intro a' w' hLe hfr hdep
                have e31 : a'.tmps.getD 31 undef = _ := hdep 19 31 (Nat.le_of_ble_eq_true rfl) rfl rfl
                conv at e31 => rhs; whnf
                have f31 := e31; simp only [Array.getD_eq_getD_getElem?] at f31
                have e4 := hfr 4 rfl
                conv at e4 => rhs; whnf
                have f4 := e4; simp only [Array.getD_eq_getD_getElem?] at f4
                refine wpOp_yes rfl rfl rfl e31 (fun K hK => ?_)
                go_simp
                exact hK _ _ ⟨_, rfl, Below.refl _ _, rfl⟩
              apply free_is
              · intro a' w' hLe hfr hdep
                have e31 : a'.tmps.getD 31 undef = _ := hdep 19 31 (Nat.le_of_ble_eq_true rfl) rfl rfl
                conv at e31 => rhs; whnf
                have f31 := e31; simp only [Array.getD_eq_getD_getElem?] at f31
                have e32 : a'.tmps.getD 32 undef = _ := hdep 20 32 (Nat.le_of_ble_eq_true rfl) rfl rfl
                conv at e32 => rhs; whnf
                have f32 := e32; simp only [Array.getD_eq_getD_getElem?] at f32
                have kc := fun i => keepc hLe (bl) (by (try simp) <;> omega) i
                have kf := fun i => keepf hLe (bl) (by (try simp) <;> omega) i
                have kz : bl < w'.heap.size := (by have := hLe.size; (try simp at this); omega)
                have kc := fun i => keepc hLe (wr.heap.size) (by (try simp) <;> omega) i
                have kf := fun i => keepf hLe (wr.heap.size) (by (try simp) <;> omega) i
                have kz : wr.heap.size < w'.heap.size := (by have := hLe.size; (try simp at this); omega)
                refine wpOp_yes rfl rfl rfl e31 (fun K hK => ?_)
                go_simp
                exact hK _ _ ⟨_, rfl, Below.refl _ _, rfl⟩
              apply free_is
              · intro a' w' hLe hfr hdep
                have e31 : a'.tmps.getD 31 undef = _ := hdep 19 31 (Nat.le_of_ble_eq_true rfl) rfl rfl
                conv at e31 => rhs; whnf
                have f31 := e31; simp only [Array.getD_eq_getD_getElem?] at f31
                have e33 : a'.tmps.getD 33 undef = _ := hdep 21 33 (Nat.le_of_ble_eq_true rfl) rfl rfl
                conv at e33 => rhs; whnf
                have f33 := e33; simp only [Array.getD_eq_getD_getElem?] at f33
                have kc := fun i => keepc hLe (bl) (by (try simp) <;> omega) i
                have kf := fun i => keepf hLe (bl) (by (try simp) <;> omega) i
                have kz : bl < w'.heap.size := (by have := hLe.size; (try simp at this); omega)
                have kc := fun i => keepc hLe (wr.heap.size) (by (try simp) <;> omega) i
                have kf := fun i => keepf hLe (wr.heap.size) (by (try simp) <;> omega) i
                have kz : wr.heap.size < w'.heap.size := (by have := hLe.size; (try simp at this); omega)
                refine wpOp_yes rfl rfl rfl e31 (fun K hK => ?_)
                go_simp
                refine (in_any _ _ _ _).mono ?_
                rintro e w2 ⟨rfl, rfl⟩
                exact hK _ _ ⟨_, rfl, Below.refl _ _, rfl⟩
              apply free_is
              · intro a' w' hLe hfr hdep
                have e31 : a'.tmps.getD 31 undef = _ := hdep 19 31 (Nat.le_of_ble_eq_true rfl) rfl rfl
                conv at e31 => rhs; whnf
                have f31 := e31; simp only [Array.getD_eq_getD_getElem?] at f31
                have e34 : a'.tmps.getD 34 undef = _ := hdep 22 34 (Nat.le_of_ble_eq_true rfl) rfl rfl
                conv at e34 => rhs; whnf
                have f34 := e34; simp only [Array.getD_eq_getD_getElem?] at f34
                refine wpOp_yes rfl rfl rfl e31 (fun K hK => ?_)
                go_simp
                exact hK _ _ ⟨_, rfl, Below.refl _ _, rfl⟩
              apply free_is
              · intro a' w' hLe hfr hdep
                have e31 : a'.tmps.getD 31 undef = _ := hdep 19 31 (Nat.le_of_ble_eq_true rfl) rfl rfl
                conv at e31 => rhs; whnf
                have f31 := e31; simp only [Array.getD_eq_getD_getElem?] at f31
                have e35 : a'.tmps.getD 35 undef = _ := hdep 23 35 (Nat.le_of_ble_eq_true rfl) rfl rfl
                conv at e35 => rhs; whnf
                have f35 := e35; simp only [Array.getD_eq_getD_getElem?] at f35
                refine wpOp_plain rfl rfl (fun K hK => ?_)
                go_simp
                exact hK _ _ ⟨_, rfl, Below.refl _ _, rfl⟩
              apply free_is
              · intro a' w' hLe hfr hdep
                have e36 : a'.tmps.getD 36 undef = _ := hdep 24 36 (Nat.le_of_ble_eq_true rfl) rfl rfl
                conv at e36 => rhs; whnf
                have f36 := e36; simp only [Array.getD_eq_getD_getElem?] at f36
                refine wpOp_plain rfl rfl (fun K hK => ?_)
                go_simp
                exact hK _ _ ⟨_, rfl, Below.refl _ _, rfl⟩
              apply free_is
              · intro a' w' hLe hfr hdep
                have e37 : a'.tmps.getD 37 undef = _ := hdep 25 37 (Nat.le_of_ble_eq_true rfl) rfl rfl
                conv at e37 => rhs; whnf
                have f37 := e37; simp only [Array.getD_eq_getD_getElem?] at f37
                exact wpOp_no rfl rfl rfl e37 ⟨_, rfl, Below.refl _ _, rfl⟩
              apply free_is
              · intro a' w' hLe hfr hdep
                have e37 : a'.tmps.getD 37 undef = _ := hdep 25 37 (Nat.le_of_ble_eq_true rfl) rfl rfl
                conv at e37 => rhs; whnf
                have f37 := e37; simp only [Array.getD_eq_getD_getElem?] at f37
                exact wpOp_no rfl rfl rfl e37 ⟨_, rfl, Below.refl _ _, rfl⟩
              apply free_is
              · intro a' w' hLe hfr hdep
                have e37 : a'.tmps.getD 37 undef = _ := hdep 25 37 (Nat.le_of_ble_eq_true rfl) rfl rfl
                conv at e37 => rhs; whnf
                have f37 := e37; simp only [Array.getD_eq_getD_getElem?] at f37
                exact wpOp_no rfl rfl rfl e37 ⟨_, rfl, Below.refl _ _, rfl⟩
              apply free_is
              · intro a' w' hLe hfr hdep
                have e37 : a'.tmps.getD 37 undef = _ := hdep 25 37 (Nat.le_of_ble_eq_true rfl) rfl rfl
                conv at e37 => rhs; whnf
                have f37 := e37; simp only [Array.getD_eq_getD_getElem?] at f37
                exact wpOp_no rfl rfl rfl e37 ⟨_, rfl, Below.refl _ _, rfl⟩
              apply free_is
              · intro a' w' hLe hfr hdep
                have e37 : a'.tmps.getD 37 undef = _ := hdep 25 37 (Nat.le_of_ble_eq_true rfl) rfl rfl
                conv at e37 => rhs; whnf
                have f37 := e37; simp only [Array.getD_eq_getD_getElem?] at f37
                have e41 : a'.tmps.getD 41 undef = _ := hdep 29 41 (Nat.le_of_ble_eq_true rfl) rfl rfl
                conv at e41 => rhs; whnf
                have f41 := e41; simp only [Array.getD_eq_getD_getElem?] at f41
                refine wpOp_plain rfl rfl (fun K hK => ?_)
                go_simp
                exact hK _ _ ⟨_, rfl, Below.refl _ _, rfl⟩
              apply free_nil
              intro vs w1 hb1 hT1
              have e12 : vs 0 = _ := hT1 0 12 rfl
              conv at e12 => rhs; whnf
              have e13 : vs 1 = _ := hT1 1 13 rfl
              conv at e13 => rhs; whnf
              have e14 : vs 2 = _ := hT1 2 14 rfl
              conv at e14 => rhs; whnf
              have e15 : vs 3 = _ := hT1 3 15 rfl
              conv at e15 => rhs; whnf
              have e16 : vs 4 = _ := hT1 4 16 rfl
              conv at e16 => rhs; whnf
              have e17 : vs 5 = _ := hT1 5 17 rfl
              conv at e17 => rhs; whnf
              have e18 : vs 6 = _ := hT1 6 18 rfl
              conv at e18 => rhs; whnf
              have e19 : vs 7 = _ := hT1 7 19 rfl
              conv at e19 => rhs; whnf
              have e20 : vs 8 = _ := hT1 8 20 rfl
              conv at e20 => rhs; whnf
              have e21 : vs 9 = _ := hT1 9 21 rfl
              conv at e21 => rhs; whnf
              have e22 : vs 10 = _ := hT1 10 22 rfl
              conv at e22 => rhs; whnf
              have e23 : vs 11 = _ := hT1 11 23 rfl
              conv at e23 => rhs; whnf
              have e24 : vs 12 = _ := hT1 12 24 rfl
              conv at e24 => rhs; whnf
              have e25 : vs 13 = _ := hT1 13 25 rfl
              conv at e25 => rhs; whnf
              have e26 : vs 14 = _ := hT1 14 26 rfl
              conv at e26 => rhs; whnf
              have e27 : vs 15 = _ := hT1 15 27 rfl
              conv at e27 => rhs; whnf
              have e28 : vs 16 = _ := hT1 16 28 rfl
              conv at e28 => rhs; whnf
              have e29 : vs 17 = _ := hT1 17 29 rfl
              conv at e29 => rhs; whnf
              have e30 : vs 18 = _ := hT1 18 30 rfl
              conv at e30 => rhs; whnf
              have e31 : vs 19 = _ := hT1 19 31 rfl
              conv at e31 => rhs; whnf
              have e32 : vs 20 = _ := hT1 20 32 rfl
              conv at e32 => rhs; whnf
              have e33 : vs 21 = _ := hT1 21 33 rfl
              conv at e33 => rhs; whnf
              have e34 : vs 22 = _ := hT1 22 34 rfl
              conv at e34 => rhs; whnf
              have e35 : vs 23 = _ := hT1 23 35 rfl
              conv at e35 => rhs; whnf
              have e36 : vs 24 = _ := hT1 24 36 rfl
              conv at e36 => rhs; whnf
              have e37 : vs 25 = _ := hT1 25 37 rfl
              conv at e37 => rhs; whnf
              have e38 : vs 26 = _ := hT1 26 38 rfl
              conv at e38 => rhs; whnf
              have e39 : vs 27 = _ := hT1 27 39 rfl
              conv at e39 => rhs; whnf
              have e40 : vs 28 = _ := hT1 28 40 rfl
              conv at e40 => rhs; whnf
              have e41 : vs 29 = _ := hT1 29 41 rfl
              conv at e41 => rhs; whnf
              have e42 : vs 30 = _ := hT1 30 42 rfl
              conv at e42 => rhs; whnf
              simp only [putAll, List.drop_succ_cons, List.drop_zero, e12, e13, e14, e15, e16, e17, e18, e19, e20, e21, e22, e23, e24, e25, e26, e27, e28, e29, e30, e31, e32, e33, e34, e35, e36, e37, e38, e39, e40, e41, e42]
              clear hT1 e12 e13 e14 e15 e16 e17 e18 e19 e20 e21 e22 e23 e24 e25 e26 e27 e28 e29 e30 e31 e32 e33 e34 e35 e36 e37 e38 e39 e40 e41 e42
              go_simp
              go_wp2
              go_ret
              exact ⟨by rw [hno.out] <;> rfl, Below.tr (by (repeat (first | exact Below.refl _ _ | assumption | refine Below.al ?_ _ | refine Below.dr ?_ | (refine Below.st ?_ (by simp <;> omega) _) | (refine Below.tr ?_ (by assumption))))) hb1⟩
            | true =>
              cases h3 : inB (d (i + 1)) 0 2 with
              | false =>
                have hno := Lib.hid (poolB_no (show i + 1 < n from hlt) (show poolOk a b d (i + 1) = false by simp [poolOk, h1, h2, h3, h5]))
                go_wp2
                refine wp_region_free (ds := [(0, 12), (1, 13), (2, 14), (3, 15), (4, 16), (5, 17), (6, 18), (7, 19), (8, 20), (9, 21), (10, 22), (11, 23), (12, 24), (13, 25), (14, 26), (15, 27), (16, 28), (17, 29), (18, 30), (19, 31), (20, 32), (21, 33), (22, 34), (23, 35), (24, 36), (25, 37), (26, 38), (27, 39), (28, 40), (29, 41), (30, 42)]) 31 (by kernel_rfl) (by kernel_rfl) (by first | exact .inl rfl | exact .inr (by kernel_rfl)) (by rfl) rfl rfl ?_
                apply free_is
                · intro a' w' hLe hfr hdep
                  have e4 := hfr 4 rfl
                  conv at e4 => rhs; whnf
                  have f4 := e4; simp only [Array.getD_eq_getD_getElem?] at f4
                  refine wpOp_plain rfl rfl (fun K hK => ?_)
                  go_simp
                  exact hK _ _ ⟨_, rfl, Below.refl _ _, rfl⟩
                apply free_is
                · intro a' w' hLe hfr hdep
                  have e12 : a'.tmps.getD 12 undef = _ := hdep 0 12 (Nat.le_of_ble_eq_true rfl) rfl rfl
                  conv at e12 => rhs; whnf
                  have f12 := e12; simp only [Array.getD_eq_getD_getElem?] at f12
                  have kc := fun i => keepc hLe (bl) (by (try simp) <;> omega) i
                  have kf := fun i => keepf hLe (bl) (by (try simp) <;> omega) i
                  have kz : bl < w'.heap.size := (by have := hLe.size; (try simp at this); omega)
                  have kc := fun i => keepc hLe (wr.heap.size) (by (try simp) <;> omega) i
                  have kf := fun i => keepf hLe (wr.heap.size) (by (try simp) <;> omega) i
                  have kz : wr.heap.size < w'.heap.size := (by have := hLe.size; (try simp at this); omega)
                  refine wpOp_plain rfl rfl (fun K hK => ?_)
                  go_simp
                  exact hK _ _ ⟨_, rfl, Below.refl _ _, rfl⟩
                apply free_is
                · intro a' w' hLe hfr hdep
                  have e13 : a'.tmps.getD 13 undef = _ := hdep 1 13 (Nat.le_of_ble_eq_true rfl) rfl rfl
                  conv at e13 => rhs; whnf
                  have f13 := e13; simp only [Array.getD_eq_getD_getElem?] at f13
                  have kc := fun i => keepc hLe (bl) (by (try simp) <;> omega) i
                  have kf := fun i => keepf hLe (bl) (by (try simp) <;> omega) i
                  have kz : bl < w'.heap.size := (by have := hLe.size; (try simp at this); omega)
                  have kc := fun i => keepc hLe (wr.heap.size) (by (try simp) <;> omega) i
                  have kf := fun i => keepf hLe (wr.heap.size) (by (try simp) <;> omega) i
                  have kz : wr.heap.size < w'.heap.size := (by have := hLe.size; (try simp at this); omega)
                  refine wpOp_plain rfl rfl (fun K hK => ?_)
                  go_simp
                  refine (in_any _ _ _ _).mono ?_
                  rintro e w2 ⟨rfl, rfl⟩
                  exact hK _ _ ⟨_, rfl, Below.refl _ _, rfl⟩
                apply free_is
                · intro a' w' hLe hfr hdep
                  have e14 : a'.tmps.getD 14 undef = _ := hdep 2 14 (Nat.le_of_ble_eq_true rfl) rfl rfl
                  conv at e14 => rhs; whnf
                  have f14 := e14; simp only [Array.getD_eq_getD_getElem?] at f14
                  refine wpOp_plain rfl rfl (fun K hK => ?_)
                  go_simp
                  exact hK _ _ ⟨_, rfl, Below.refl _ _, rfl⟩
                apply free_is
                · intro a' w' hLe hfr hdep
                  have e15 : a'.tmps.getD 15 undef = _ := hdep 3 15 (Nat.le_of_ble_eq_true rfl) rfl rfl
                  conv at e15 => rhs; whnf
                  have f15 := e15; simp only [Array.getD_eq_getD_getElem?] at f15
                  refine wpOp_plain rfl rfl (fun K hK => ?_)
                  go_simp
                  exact hK _ _ ⟨_, rfl, Below.refl _ _, rfl⟩
                apply free_is
                · intro a' w' hLe hfr hdep
                  have e16 : a'.tmps.getD 16 undef = _ := hdep 4 16 (Nat.le_of_ble_eq_true rfl) rfl rfl
                  conv at e16 => rhs; whnf
                  have f16 := e16; simp only [Array.getD_eq_getD_getElem?] at f16
                  have e3 := hfr 3 rfl
                  conv at e3 => rhs; whnf
                  have f3 := e3; simp only [Array.getD_eq_getD_getElem?] at f3
                  refine wpOp_yes rfl rfl rfl e16 (fun K hK => ?_)
                  go_simp
                  exact hK _ _ ⟨_, rfl, Below.refl _ _, rfl⟩
                apply free_is
                · intro a' w' hLe hfr hdep
                  have e16 : a'.tmps.getD 16 undef = _ := hdep 4 16 (Nat.le_of_ble_eq_true rfl) rfl rfl
                  conv at e16 => rhs; whnf
                  have f16 := e16; simp only [Array.getD_eq_getD_getElem?] at f16
                  have e17 : a'.tmps.getD 17 undef = _ := hdep 5 17 (Nat.le_of_ble_eq_true rfl) rfl rfl
                  conv at e17 => rhs; whnf
                  have f17 := e17; simp only [Array.getD_eq_getD_getElem?] at f17
                  refine wpOp_yes rfl rfl rfl e16 (fun K hK => ?_)
                  go_simp
                  exact hK _ _ ⟨_, rfl, Below.refl _ _, rfl⟩
                apply free_is
                · intro a' w' hLe hfr hdep
                  have e16 : a'.tmps.getD 16 undef = _ := hdep 4 16 (Nat.le_of_ble_eq_true rfl) rfl rfl
                  conv at e16 => rhs; whnf
                  have f16 := e16; simp only [Array.getD_eq_getD_getElem?] at f16
                  have e18 : a'.tmps.getD 18 undef = _ := hdep 6 18 (Nat.le_of_ble_eq_true rfl) rfl rfl
                  conv at e18 => rhs; whnf
                  have f18 := e18; simp only [Array.getD_eq_getD_getElem?] at f18
                  refine wpOp_yes rfl rfl rfl e16 (fun K hK => ?_)
                  go_simp
                  exact hK _ _ ⟨_, rfl, Below.refl _ _, rfl⟩
                apply free_is
                · intro a' w' hLe hfr hdep
                  have e19 : a'.tmps.getD 19 undef = _ := hdep 7 19 (Nat.le_of_ble_eq_true rfl) rfl rfl
                  conv at e19 => rhs; whnf
                  have f19 := e19; simp only [Array.getD_eq_getD_getElem?] at f19
                  have e4 := hfr 4 rfl
                  conv at e4 => rhs; whnf
                  have f4 := e4; simp only [Array.getD_eq_getD_getElem?] at f4
                  refine wpOp_yes rfl rfl rfl e19 (fun K hK => ?_)
                  go_simp
                  exact hK _ _ ⟨_, rfl, Below.refl _ _, rfl⟩
                apply free_is
                · intro a' w' hLe hfr hdep
                  have e19 : a'.tmps.getD 19 undef = _ := hdep 7 19 (Nat.le_of_ble_eq_true rfl) rfl rfl
                  conv at e19 => rhs; whnf
                  have f19 := e19; simp only [Array.getD_eq_getD_getElem?] at f19
                  have e20 : a'.tmps.getD 20 undef = _ := hdep 8 20 (Nat.le_of_ble_eq_true rfl) rfl rfl
                  conv at e20 => rhs; whnf
                  have f20 := e20; simp only [Array.getD_eq_getD_getElem?] at f20
                  have kc := fun i => keepc hLe (bl) (by (try simp) <;> omega) i
                  have kf := fun i => keepf hLe (bl) (by (try simp) <;> omega) i
                  have kz : bl < w'.heap.size := (by have := hLe.size; (try simp at this); omega)
                  have kc := fun i => keepc hLe (wr.heap.size) (by (try simp) <;> omega) i
                  have kf := fun i => keepf hLe (wr.heap.size) (by (try simp) <;> omega) i
                  have kz : wr.heap.size < w'.heap.size := (by have := hLe.size; (try simp at this); omega)
                  refine wpOp_yes rfl rfl rfl e19 (fun K hK => ?_)
                  go_simp
                  exact hK _ _ ⟨_, rfl, Below.refl _ _, rfl⟩
                apply free_is
                · intro a' w' hLe hfr hdep
                  have e19 : a'.tmps.getD 19 undef = _ := hdep 7 19 (Nat.le_of_ble_eq_true rfl) rfl rfl
                  conv at e19 => rhs; whnf
                  have f19 := e19; simp only [Array.getD_eq_getD_getElem?] at f19
                  have e0 := hfr 0 rfl
                  conv at e0 => rhs; whnf
                  have f0 := e0; simp only [Array.getD_eq_getD_getElem?] at f0
                  refine wpOp_yes rfl rfl rfl e19 (fun K hK => ?_)
                  go_simp
                  exact hK _ _ ⟨_, rfl, Below.refl _ _, rfl⟩
                apply free_is
                · intro a' w' hLe hfr hdep
                  have e19 : a'.tmps.getD 19 undef = _ := hdep 7 19 (Nat.le_of_ble_eq_true rfl) rfl rfl
                  conv at e19 => rhs; whnf
                  have f19 := e19; simp only [Array.getD_eq_getD_getElem?] at f19
                  have e3 := hfr 3 rfl
                  conv at e3 => rhs; whnf
                  have f3 := e3; simp only [Array.getD_eq_getD_getElem?] at f3
                  refine wpOp_yes rfl rfl rfl e19 (fun K hK => ?_)
                  go_simp
                  exact hK _ _ ⟨_, rfl, Below.refl _ _, rfl⟩
                apply free_is
                · intro a' w' hLe hfr hdep
                  have e19 : a'.tmps.getD 19 undef = _ := hdep 7 19 (Nat.le_of_ble_eq_true rfl) rfl rfl
                  conv at e19 => rhs; whnf
                  have f19 := e19; simp only [Array.getD_eq_getD_getElem?] at f19
                  have e23 : a'.tmps.getD 23 undef = _ := hdep 11 23 (Nat.le_of_ble_eq_true rfl) rfl rfl
                  conv at e23 => rhs; whnf
                  have f23 := e23; simp only [Array.getD_eq_getD_getElem?] at f23
                  refine wpOp_yes rfl rfl rfl e19 (fun K hK => ?_)
                  go_simp
                  exact hK _ _ ⟨_, rfl, Below.refl _ _, rfl⟩
                apply free_is
                · intro a' w' hLe hfr hdep
                  have e19 : a'.tmps.getD 19 undef = _ := hdep 7 19 (Nat.le_of_ble_eq_true rfl) rfl rfl
                  conv at e19 => rhs; whnf
                  have f19 := e19; simp only [Array.getD_eq_getD_getElem?] at f19
                  have e22 : a'.tmps.getD 22 undef = _ := hdep 10 22 (Nat.le_of_ble_eq_true rfl) rfl rfl
                  conv at e22 => rhs; whnf
                  have f22 := e22; simp only [Array.getD_eq_getD_getElem?] at f22
                  have e24 : a'.tmps.getD 24 undef = _ := hdep 12 24 (Nat.le_of_ble_eq_true rfl) rfl rfl
                  conv at e24 => rhs; whnf
                  have f24 := e24; simp only [Array.getD_eq_getD_getElem?] at f24
                  refine wpOp_yes rfl rfl rfl e19 (fun K hK => ?_)
                  go_simp
                  exact hK _ _ ⟨_, rfl, Below.refl _ _, rfl⟩
                apply free_is
                · intro a' w' hLe hfr hdep
                  have e19 : a'.tmps.getD 19 undef = _ := hdep 7 19 (Nat.le_of_ble_eq_true rfl) rfl rfl
                  conv at e19 => rhs; whnf
                  have f19 := e19; simp only [Array.getD_eq_getD_getElem?] at f19
                  have e25 : a'.tmps.getD 25 undef = _ := hdep 13 25 (Nat.le_of_ble_eq_true rfl) rfl rfl
                  conv at e25 => rhs; whnf
                  have f25 := e25; simp only [Array.getD_eq_getD_getElem?] at f25
                  refine wpOp_yes rfl rfl rfl e19 (fun K hK => ?_)
                  go_simp
                  exact hK _ _ ⟨_, rfl, Below.refl _ _, rfl⟩
                apply free_is
                · intro a' w' hLe hfr hdep
                  have e19 : a'.tmps.getD 19 undef = _ := hdep 7 19 (Nat.le_of_ble_eq_true rfl) rfl rfl
                  conv at e19 => rhs; whnf
                  have f19 := e19; simp only [Array.getD_eq_getD_getElem?] at f19
                  have e26 : a'.tmps.getD 26 undef = _ := hdep 14 26 (Nat.le_of_ble_eq_true rfl) rfl rfl
                  conv at e26 => rhs; whnf
                  have f26 := e26; simp only [Array.getD_eq_getD_getElem?] at f26
                  have kc := fun i => keepc hLe (bl) (by (try simp) <;> omega) i
                  have kf := fun i => keepf hLe (bl) (by (try simp) <;> omega) i
                  have kz : bl < w'.heap.size := (by have := hLe.size; (try simp at this); omega)
                  have kc := fun i => keepc hLe (wr.heap.size) (by (try simp) <;> omega) i
                  have kf := fun i => keepf hLe (wr.heap.size) (by (try simp) <;> omega) i
                  have kz : wr.heap.size < w'.heap.size := (by have := hLe.size; (try simp at this); omega)
                  refine wpOp_yes rfl rfl rfl e19 (fun K hK => ?_)
                  go_simp
                  exact hK _ _ ⟨_, rfl, Below.refl _ _, rfl⟩
                apply free_is
                · intro a' w' hLe hfr hdep
                  have e19 : a'.tmps.getD 19 undef = _ := hdep 7 19 (Nat.le_of_ble_eq_true rfl) rfl rfl
                  conv at e19 => rhs; whnf
                  have f19 := e19; simp only [Array.getD_eq_getD_getElem?] at f19
                  have e21 : a'.tmps.getD 21 undef = _ := hdep 9 21 (Nat.le_of_ble_eq_true rfl) rfl rfl
                  conv at e21 => rhs; whnf
                  have f21 := e21; simp only [Array.getD_eq_getD_getElem?] at f21
                  have e27 : a'.tmps.getD 27 undef = _ := hdep 15 27 (Nat.le_of_ble_eq_true rfl) rfl rfl
                  conv at e27 => rhs; whnf
                  have f27 := e27; simp only [Array.getD_eq_getD_getElem?] at f27
                  refine wpOp_yes rfl rfl rfl e19 (fun K hK => ?_)
                  go_simp
                  exact hK _ _ ⟨_, rfl, Below.refl _ _, rfl⟩
                apply free_is
                · intro a' w' hLe hfr hdep
                  have e16 : a'.tmps.getD 16 undef = _ := hdep 4 16 (Nat.le_of_ble_eq_true rfl) rfl rfl
                  conv at e16 => rhs; whnf
                  have f16 := e16; simp only [Array.getD_eq_getD_getElem?] at f16
                  have e19 : a'.tmps.getD 19 undef = _ := hdep 7 19 (Nat.le_of_ble_eq_true rfl) rfl rfl
                  conv at e19 => rhs; whnf
                  have f19 := e19; simp only [Array.getD_eq_getD_getElem?] at f19
                  have e28 : a'.tmps.getD 28 undef = _ := hdep 16 28 (Nat.le_of_ble_eq_true rfl) rfl rfl
                  conv at e28 => rhs; whnf
                  have f28 := e28; simp only [Array.getD_eq_getD_getElem?] at f28
                  refine wpOp_yes rfl rfl rfl e16 (fun K hK => ?_)
                  go_simp
                  exact hK _ _ ⟨_, rfl, Below.refl _ _, rfl⟩
                apply free_is
                · intro a' w' hLe hfr hdep
                  have e16 : a'.tmps.getD 16 undef = _ := hdep 4 16 (Nat.le_of_ble_eq_true rfl) rfl rfl
                  conv at e16 => rhs; whnf
                  have f16 := e16; simp only [Array.getD_eq_getD_getElem?] at f16
                  have e29 : a'.tmps.getD 29 undef = _ := hdep 17 29 (Nat.le_of_ble_eq_true rfl) rfl rfl
                  conv at e29 => rhs; whnf
                  have f29 := e29; simp only [Array.getD_eq_getD_getElem?] at f29
                  refine wpOp_plain rfl rfl (fun K hK => ?_)
                  go_simp
                  exact hK _ _ ⟨_, rfl, Below.refl _ _, rfl⟩
                apply free_is
                · intro a' w' hLe hfr hdep
                  have e30 : a'.tmps.getD 30 undef = _ := hdep 18 30 (Nat.le_of_ble_eq_true rfl) rfl rfl
                  conv at e30 => rhs; whnf
                  have f30 := e30; simp only [Array.getD_eq_getD_getElem?] at f30
                  refine wpOp_plain rfl rfl (fun K hK => ?_)
                  go_simp
                  exact hK _ _ ⟨_, rfl, Below.refl _ _, rfl⟩
                apply free_is
                · intro a' w' hLe hfr hdep
                  have e31 : a'.tmps.getD 31 undef = _ := hdep 19 31 (Nat.le_of_ble_eq_true rfl) rfl rfl
                  conv at e31 => rhs; whnf
                  have f31 := e31; simp only [Array.getD_eq_getD_getElem?] at f31
                  have e4 := hfr 4 rfl
                  conv at e4 => rhs; whnf
                  have f4 := e4; simp only [Array.getD_eq_getD_getElem?] at f4
                  refine wpOp_yes rfl rfl rfl e31 (fun K hK => ?_)
                  go_simp
                  exact hK _ _ ⟨_, rfl, Below.refl _ _, rfl⟩
                apply free_is
                · intro a' w' hLe hfr hdep
                  have e31 : a'.tmps.getD 31 undef = _ := hdep 19 31 (Nat.le_of_ble_eq_true rfl) rfl rfl
                  conv at e31 => rhs; whnf
                  have f31 := e31; simp only [Array.getD_eq_getD_getElem?] at f31
                  have e32 : a'.tmps.getD 32 undef = _ := hdep 20 32 (Nat.le_of_ble_eq_true rfl) rfl rfl
                  conv at e32 => rhs; whnf
                  have f32 := e32; simp only [Array.getD_eq_getD_getElem?] at f32
                  have kc := fun i => keepc hLe (bl) (by (try simp) <;> omega) i
                  have kf := fun i => keepf hLe (bl) (by (try simp) <;> omega) i
                  have kz : bl < w'.heap.size := (by have := hLe.size; (try simp at this); omega)
                  have kc := fun i => keepc hLe (wr.heap.size) (by (try simp) <;> omega) i
                  have kf := fun i => keepf hLe (wr.heap.size) (by (try simp) <;> omega) i
                  have kz : wr.heap.size < w'.heap.size := (by have := hLe.size; (try simp at this); omega)
                  refine wpOp_yes rfl rfl rfl e31 (fun K hK => ?_)
                  go_simp
                  exact hK _ _ ⟨_, rfl, Below.refl _ _, rfl⟩
                apply free_is
                · intro a' w' hLe hfr hdep
                  have e31 : a'.tmps.getD 31 undef = _ := hdep 19 31 (Nat.le_of_ble_eq_true rfl) rfl rfl
                  conv at e31 => rhs; whnf
                  have f31 := e31; simp only [Array.getD_eq_getD_getElem?] at f31
                  have e33 : a'.tmps.getD 33 undef = _ := hdep 21 33 (Nat.le_of_ble_eq_true rfl) rfl rfl
                  conv at e33 => rhs; whnf
                  have f33 := e33; simp only [Array.getD_eq_getD_getElem?] at f33
                  have kc := fun i => keepc hLe (bl) (by (try simp) <;> omega) i
                  have kf := fun i => keepf hLe (bl) (by (try simp) <;> omega) i
                  have kz : bl < w'.heap.size := (by have := hLe.size; (try simp at this); omega)
                  have kc := fun i => keepc hLe (wr.heap.size) (by (try simp) <;> omega) i
                  have kf := fun i => keepf hLe (wr.heap.size) (by (try simp) <;> omega) i
                  have kz : wr.heap.size < w'.heap.size := (by have := hLe.size; (try simp at this); omega)
                  refine wpOp_yes rfl rfl rfl e31 (fun K hK => ?_)
                  go_simp
                  refine (in_any _ _ _ _).mono ?_
                  rintro e w2 ⟨rfl, rfl⟩
                  exact hK _ _ ⟨_, rfl, Below.refl _ _, rfl⟩
                apply free_is
                · intro a' w' hLe hfr hdep
                  have e31 : a'.tmps.getD 31 undef = _ := hdep 19 31 (Nat.le_of_ble_eq_true rfl) rfl rfl
                  conv at e31 => rhs; whnf
                  have f31 := e31; simp only [Array.getD_eq_getD_getElem?] at f31
                  have e34 : a'.tmps.getD 34 undef = _ := hdep 22 34 (Nat.le_of_ble_eq_true rfl) rfl rfl
                  conv at e34 => rhs; whnf
                  have f34 := e34; simp only [Array.getD_eq_getD_getElem?] at f34
                  refine wpOp_yes rfl rfl rfl e31 (fun K hK => ?_)
                  go_simp
                  exact hK _ _ ⟨_, rfl, Below.refl _ _, rfl⟩
                apply free_is
                · intro a' w' hLe hfr hdep
                  have e31 : a'.tmps.getD 31 undef = _ := hdep 19 31 (Nat.le_of_ble_eq_true rfl) rfl rfl
                  conv at e31 => rhs; whnf
                  have f31 := e31; simp only [Array.getD_eq_getD_getElem?] at f31
                  have e35 : a'.tmps.getD 35 undef = _ := hdep 23 35 (Nat.le_of_ble_eq_true rfl) rfl rfl
                  conv at e35 => rhs; whnf
                  have f35 := e35; simp only [Array.getD_eq_getD_getElem?] at f35
                  refine wpOp_plain rfl rfl (fun K hK => ?_)
                  go_simp
                  exact hK _ _ ⟨_, rfl, Below.refl _ _, rfl⟩
                apply free_is
                · intro a' w' hLe hfr hdep
                  have e36 : a'.tmps.getD 36 undef = _ := hdep 24 36 (Nat.le_of_ble_eq_true rfl) rfl rfl
                  conv at e36 => rhs; whnf
                  have f36 := e36; simp only [Array.getD_eq_getD_getElem?] at f36
                  refine wpOp_plain rfl rfl (fun K hK => ?_)
                  go_simp
                  exact hK _ _ ⟨_, rfl, Below.refl _ _, rfl⟩
                apply free_is
                · intro a' w' hLe hfr hdep
                  have e37 : a'.tmps.getD 37 undef = _ := hdep 25 37 (Nat.le_of_ble_eq_true rfl) rfl rfl
                  conv at e37 => rhs; whnf
                  have f37 := e37; simp only [Array.getD_eq_getD_getElem?] at f37
                  have e4 := hfr 4 rfl
                  conv at e4 => rhs; whnf
                  have f4 := e4; simp only [Array.getD_eq_getD_getElem?] at f4
                  refine wpOp_yes rfl rfl rfl e37 (fun K hK => ?_)
                  go_simp
                  exact hK _ _ ⟨_, rfl, Below.refl _ _, rfl⟩
                apply free_is
                · intro a' w' hLe hfr hdep
                  have e37 : a'.tmps.getD 37 undef = _ := hdep 25 37 (Nat.le_of_ble_eq_true rfl) rfl rfl
                  conv at e37 => rhs; whnf
                  have f37 := e37; simp only [Array.getD_eq_getD_getElem?] at f37
                  have e38 : a'.tmps.getD 38 undef = _ := hdep 26 38 (Nat.le_of_ble_eq_true rfl) rfl rfl
                  conv at e38 => rhs; whnf
                  have f38 := e38; simp only [Array.getD_eq_getD_getElem?] at f38
                  have kc := fun i => keepc hLe (bl) (by (try simp) <;> omega) i
                  have kf := fun i => keepf hLe (bl) (by (try simp) <;> omega) i
                  have kz : bl < w'.heap.size := (by have := hLe.size; (try simp at this); omega)
                  have kc := fun i => keepc hLe (wr.heap.size) (by (try simp) <;> omega) i
                  have kf := fun i => keepf hLe (wr.heap.size) (by (try simp) <;> omega) i
                  have kz : wr.heap.size < w'.heap.size := (by have := hLe.size; (try simp at this); omega)
                  refine wpOp_yes rfl rfl rfl e37 (fun K hK => ?_)
                  go_simp
                  exact hK _ _ ⟨_, rfl, Below.refl _ _, rfl⟩
                apply free_is
                · intro a' w' hLe hfr hdep
                  have e37 : a'.tmps.getD 37 undef = _ := hdep 25 37 (Nat.le_of_ble_eq_true rfl) rfl rfl
                  conv at e37 => rhs; whnf
                  have f37 := e37; simp only [Array.getD_eq_getD_getElem?] at f37
                  have e39 : a'.tmps.getD 39 undef = _ := hdep 27 39 (Nat.le_of_ble_eq_true rfl) rfl rfl
                  conv at e39 => rhs; whnf
                  have f39 := e39; simp only [Array.getD_eq_getD_getElem?] at f39
                  have kc := fun i => keepc hLe (bl) (by (try simp) <;> omega) i
                  have kf := fun i => keepf hLe (bl) (by (try simp) <;> omega) i
                  have kz : bl < w'.heap.size := (by have := hLe.size; (try simp at this); omega)
                  have kc := fun i => keepc hLe (wr.heap.size) (by (try simp) <;> omega) i
                  have kf := fun i => keepf hLe (wr.heap.size) (by (try simp) <;> omega) i
                  have kz : wr.heap.size < w'.heap.size := (by have := hLe.size; (try simp at this); omega)
                  refine wpOp_yes rfl rfl rfl e37 (fun K hK => ?_)
                  go_simp
                  refine (in_any _ _ _ _).mono ?_
                  rintro e w2 ⟨rfl, rfl⟩
                  exact hK _ _ ⟨_, rfl, Below.refl _ _, rfl⟩
                apply free_is
                · intro a' w' hLe hfr hdep
                  have e37 : a'.tmps.getD 37 undef = _ := hdep 25 37 (Nat.le_of_ble_eq_true rfl) rfl rfl
                  conv at e37 => rhs; whnf
                  have f37 := e37; simp only [Array.getD_eq_getD_getElem?] at f37
                  have e40 : a'.tmps.getD 40 undef = _ := hdep 28 40 (Nat.le_of_ble_eq_true rfl) rfl rfl
                  conv at e40 => rhs; whnf
                  have f40 := e40; simp only [Array.getD_eq_getD_getElem?] at f40
                  refine wpOp_yes rfl rfl rfl e37 (fun K hK => ?_)
                  go_simp
                  exact hK _ _ ⟨_, rfl, Below.refl _ _, rfl⟩
                apply free_is
                · intro a' w' hLe hfr hdep
                  have e37 : a'.tmps.getD 37 undef = _ := hdep 25 37 (Nat.le_of_ble_eq_true rfl) rfl rfl
                  conv at e37 => rhs; whnf
                  have f37 := e37; simp only [Array.getD_eq_getD_getElem?] at f37
                  have e41 : a'.tmps.getD 41 undef = _ := hdep 29 41 (Nat.le_of_ble_eq_true rfl) rfl rfl
                  conv at e41 => rhs; whnf
                  have f41 := e41; simp only [Array.getD_eq_getD_getElem?] at f41
                  refine wpOp_plain rfl rfl (fun K hK => ?_)
                  go_simp
                  exact hK _ _ ⟨_, rfl, Below.refl _ _, rfl⟩
                apply free_nil
                intro vs w1 hb1 hT1
                have e12 : vs 0 = _ := hT1 0 12 rfl
                conv at e12 => rhs; whnf
                have e13 : vs 1 = _ := hT1 1 13 rfl
                conv at e13 => rhs; whnf
                have e14 : vs 2 = _ := hT1 2 14 rfl
                conv at e14 => rhs; whnf
                have e15 : vs 3 = _ := hT1 3 15 rfl
                conv at e15 => rhs; whnf
                have e16 : vs 4 = _ := hT1 4 16 rfl
                conv at e16 => rhs; whnf
                have e17 : vs 5 = _ := hT1 5 17 rfl
                conv at e17 => rhs; whnf
                have e18 : vs 6 = _ := hT1 6 18 rfl
                conv at e18 => rhs; whnf
                have e19 : vs 7 = _ := hT1 7 19 rfl
                conv at e19 => rhs; whnf
                have e20 : vs 8 = _ := hT1 8 20 rfl
                conv at e20 => rhs; whnf
                have e21 : vs 9 = _ := hT1 9 21 rfl
                conv at e21 => rhs; whnf
                have e22 : vs 10 = _ := hT1 10 22 rfl
                conv at e22 => rhs; whnf
                have e23 : vs 11 = _ := hT1 11 23 rfl
                conv at e23 => rhs; whnf
                have e24 : vs 12 = _ := hT1 12 24 rfl
                conv at e24 => rhs; whnf
                have e25 : vs 13 = _ := hT1 13 25 rfl
                conv at e25 => rhs; whnf
                have e26 : vs 14 = _ := hT1 14 26 rfl
                conv at e26 => rhs; whnf
                have e27 : vs 15 = _ := hT1 15 27 rfl
                conv at e27 => rhs; whnf
                have e28 : vs 16 = _ := hT1 16 28 rfl
                conv at e28 => rhs; whnf
                have e29 : vs 17 = _ := hT1 17 29 rfl
                conv at e29 => rhs; whnf
                have e30 : vs 18 = _ := hT1 18 30 rfl
                conv at e30 => rhs; whnf
                have e31 : vs 19 = _ := hT1 19 31 rfl
                conv at e31 => rhs; whnf
                have e32 : vs 20 = _ := hT1 20 32 rfl
                conv at e32 => rhs; whnf
                have e33 : vs 21 = _ := hT1 21 33 rfl
                conv at e33 => rhs; whnf
                have e34 : vs 22 = _ := hT1 22 34 rfl
                conv at e34 => rhs; whnf
                have e35 : vs 23 = _ := hT1 23 35 rfl
                conv at e35 => rhs; whnf
                have e36 : vs 24 = _ := hT1 24 36 rfl
                conv at e36 => rhs; whnf
                have e37 : vs 25 = _ := hT1 25 37 rfl
                conv at e37 => rhs; whnf
                have e38 : vs 26 = _ := hT1 26 38 rfl
                conv at e38 => rhs; whnf
                have e39 : vs 27 = _ := hT1 27 39 rfl
                conv at e39 => rhs; whnf
                have e40 : vs 28 = _ := hT1 28 40 rfl
                conv at e40 => rhs; whnf
                have e41 : vs 29 = _ := hT1 29 41 rfl
                conv at e41 => rhs; whnf
                have e42 : vs 30 = _ := hT1 30 42 rfl
                conv at e42 => rhs; whnf
                simp only [putAll, List.drop_succ_cons, List.drop_zero, e12, e13, e14, e15, e16, e17, e18, e19, e20, e21, e22, e23, e24, e25, e26, e27, e28, e29, e30, e31, e32, e33, e34, e35, e36, e37, e38, e39, e40, e41, e42]
                clear hT1 e12 e13 e14 e15 e16 e17 e18 e19 e20 e21 e22 e23 e24 e25 e26 e27 e28 e29 e30 e31 e32 e33 e34 e35 e36 e37 e38 e39 e40 e41 e42
                go_simp
                go_wp2
                go_ret
                exact ⟨by rw [hno.out] <;> rfl, Below.tr (by (repeat (first | exact Below.refl _ _ | assumption | refine Below.al ?_ _ | refine Below.dr ?_ | (refine Below.st ?_ (by simp <;> omega) _) | (refine Below.tr ?_ (by assumption))))) hb1⟩
              | true =>
                have hno := Lib.hid (show poolOk a b d (i + 1) = true by simp [poolOk, h1, h2, h3, h5])
                go_wp2
                refine wp_region_free (ds := [(0, 12), (1, 13), (2, 14), (3, 15), (4, 16), (5, 17), (6, 18), (7, 19), (8, 20), (9, 21), (10, 22), (11, 23), (12, 24), (13, 25), (14, 26), (15, 27), (16, 28), (17, 29), (18, 30), (19, 31), (20, 32), (21, 33), (22, 34), (23, 35), (24, 36), (25, 37), (26, 38), (27, 39), (28, 40), (29, 41), (30, 42)]) 31 (by kernel_rfl) (by kernel_rfl) (by first | exact .inl rfl | exact .inr (by kernel_rfl)) (by rfl) rfl rfl ?_
                apply free_is
                · intro a' w' hLe hfr hdep
                  have e4 := hfr 4 rfl
                  conv at e4 => rhs; whnf
                  have f4 := e4; simp only [Array.getD_eq_getD_getElem?] at f4
                  refine wpOp_plain rfl rfl (fun K hK => ?_)
                  go_simp
                  exact hK _ _ ⟨_, rfl, Below.refl _ _, rfl⟩
                apply free_is
                · intro a' w' hLe hfr hdep
                  have e12 : a'.tmps.getD 12 undef = _ := hdep 0 12 (Nat.le_of_ble_eq_true rfl) rfl rfl
                  conv at e12 => rhs; whnf
                  have f12 := e12; simp only [Array.getD_eq_getD_getElem?] at f12
                  have kc := fun i => keepc hLe (bl) (by (try simp) <;> omega) i
                  have kf := fun i => keepf hLe (bl) (by (try simp) <;> omega) i
                  have kz : bl < w'.heap.size := (by have := hLe.size; (try simp at this); omega)
                  have kc := fun i => keepc hLe (wr.heap.size) (by (try simp) <;> omega) i
                  have kf := fun i => keepf hLe (wr.heap.size) (by (try simp) <;> omega) i
                  have kz : wr.heap.size < w'.heap.size := (by have := hLe.size; (try simp at this); omega)
                  refine wpOp_plain rfl rfl (fun K hK => ?_)
                  go_simp
                  exact hK _ _ ⟨_, rfl, Below.refl _ _, rfl⟩
                apply free_is
                · intro a' w' hLe hfr hdep
                  have e13 : a'.tmps.getD 13 undef = _ := hdep 1 13 (Nat.le_of_ble_eq_true rfl) rfl rfl
                  conv at e13 => rhs; whnf
                  have f13 := e13; simp only [Array.getD_eq_getD_getElem?] at f13
                  have kc := fun i => keepc hLe (bl) (by (try simp) <;> omega) i
                  have kf := fun i => keepf hLe (bl) (by (try simp) <;> omega) i
                  have kz : bl < w'.heap.size := (by have := hLe.size; (try simp at this); omega)
                  have kc := fun i => keepc hLe (wr.heap.size) (by (try simp) <;> omega) i
                  have kf := fun i => keepf hLe (wr.heap.size) (by (try simp) <;> omega) i
                  have kz : wr.heap.size < w'.heap.size := (by have := hLe.size; (try simp at this); omega)
                  refine wpOp_plain rfl rfl (fun K hK => ?_)
                  go_simp
                  refine (in_any _ _ _ _).mono ?_
                  rintro e w2 ⟨rfl, rfl⟩
                  exact hK _ _ ⟨_, rfl, Below.refl _ _, rfl⟩
                apply free_is
                · intro a' w' hLe hfr hdep
                  have e14 : a'.tmps.getD 14 undef = _ := hdep 2 14 (Nat.le_of_ble_eq_true rfl) rfl rfl
                  conv at e14 => rhs; whnf
                  have f14 := e14; simp only [Array.getD_eq_getD_getElem?] at f14
                  refine wpOp_plain rfl rfl (fun K hK => ?_)
                  go_simp
                  exact hK _ _ ⟨_, rfl, Below.refl _ _, rfl⟩
                apply free_is
                · intro a' w' hLe hfr hdep
                  have e15 : a'.tmps.getD 15 undef = _ := hdep 3 15 (Nat.le_of_ble_eq_true rfl) rfl rfl
                  conv at e15 => rhs; whnf
                  have f15 := e15; simp only [Array.getD_eq_getD_getElem?] at f15
                  refine wpOp_plain rfl rfl (fun K hK => ?_)
                  go_simp
                  exact hK _ _ ⟨_, rfl, Below.refl _ _, rfl⟩
                apply free_is
                · intro a' w' hLe hfr hdep
                  have e16 : a'.tmps.getD 16 undef = _ := hdep 4 16 (Nat.le_of_ble_eq_true rfl) rfl rfl
                  conv at e16 => rhs; whnf
                  have f16 := e16; simp only [Array.getD_eq_getD_getElem?] at f16
                  have e3 := hfr 3 rfl
                  conv at e3 => rhs; whnf
                  have f3 := e3; simp only [Array.getD_eq_getD_getElem?] at f3
                  refine wpOp_yes rfl rfl rfl e16 (fun K hK => ?_)
                  go_simp
                  exact hK _ _ ⟨_, rfl, Below.refl _ _, rfl⟩
                apply free_is
                · intro a' w' hLe hfr hdep
                  have e16 : a'.tmps.getD 16 undef = _ := hdep 4 16 (Nat.le_of_ble_eq_true rfl) rfl rfl
                  conv at e16 => rhs; whnf
                  have f16 := e16; simp only [Array.getD_eq_getD_getElem?] at f16
                  have e17 : a'.tmps.getD 17 undef = _ := hdep 5 17 (Nat.le_of_ble_eq_true rfl) rfl rfl
                  conv at e17 => rhs; whnf
                  have f17 := e17; simp only [Array.getD_eq_getD_getElem?] at f17
                  refine wpOp_yes rfl rfl rfl e16 (fun K hK => ?_)
                  go_simp
                  exact hK _ _ ⟨_, rfl, Below.refl _ _, rfl⟩
                apply free_is
                · intro a' w' hLe hfr hdep
                  have e16 : a'.tmps.getD 16 undef = _ := hdep 4 16 (Nat.le_of_ble_eq_true rfl) rfl rfl
                  conv at e16 => rhs; whnf
                  have f16 := e16; simp only [Array.getD_eq_getD_getElem?] at f16
                  have e18 : a'.tmps.getD 18 undef = _ := hdep 6 18 (Nat.le_of_ble_eq_true rfl) rfl rfl
                  conv at e18 => rhs; whnf
                  have f18 := e18; simp only [Array.getD_eq_getD_getElem?] at f18
                  refine wpOp_yes rfl rfl rfl e16 (fun K hK => ?_)
                  go_simp
                  exact hK _ _ ⟨_, rfl, Below.refl _ _, rfl⟩
                apply free_is
                · intro a' w' hLe hfr hdep
                  have e19 : a'.tmps.getD 19 undef = _ := hdep 7 19 (Nat.le_of_ble_eq_true rfl) rfl rfl
                  conv at e19 => rhs; whnf
                  have f19 := e19; simp only [Array.getD_eq_getD_getElem?] at f19
                  have e4 := hfr 4 rfl
                  conv at e4 => rhs; whnf
                  have f4 := e4; simp only [Array.getD_eq_getD_getElem?] at f4
                  refine wpOp_yes rfl rfl rfl e19 (fun K hK => ?_)
                  go_simp
                  exact hK _ _ ⟨_, rfl, Below.refl _ _, rfl⟩
                apply free_is
                · intro a' w' hLe hfr hdep
                  have e19 : a'.tmps.getD 19 undef = _ := hdep 7 19 (Nat.le_of_ble_eq_true rfl) rfl rfl
                  conv at e19 => rhs; whnf
                  have f19 := e19; simp only [Array.getD_eq_getD_getElem?] at f19
                  have e20 : a'.tmps.getD 20 undef = _ := hdep 8 20 (Nat.le_of_ble_eq_true rfl) rfl rfl
                  conv at e20 => rhs; whnf
                  have f20 := e20; simp only [Array.getD_eq_getD_getElem?] at f20
                  have kc := fun i => keepc hLe (bl) (by (try simp) <;> omega) i
                  have kf := fun i => keepf hLe (bl) (by (try simp) <;> omega) i
                  have kz : bl < w'.heap.size := (by have := hLe.size; (try simp at this); omega)
                  have kc := fun i => keepc hLe (wr.heap.size) (by (try simp) <;> omega) i
                  have kf := fun i => keepf hLe (wr.heap.size) (by (try simp) <;> omega) i
                  have kz : wr.heap.size < w'.heap.size := (by have := hLe.size; (try simp at this); omega)
                  refine wpOp_yes rfl rfl rfl e19 (fun K hK => ?_)
                  go_simp
                  exact hK _ _ ⟨_, rfl, Below.refl _ _, rfl⟩
                apply free_is
                · intro a' w' hLe hfr hdep
                  have e19 : a'.tmps.getD 19 undef = _ := hdep 7 19 (Nat.le_of_ble_eq_true rfl) rfl rfl
                  conv at e19 => rhs; whnf
                  have f19 := e19; simp only [Array.getD_eq_getD_getElem?] at f19
                  have e0 := hfr 0 rfl
                  conv at e0 => rhs; whnf
                  have f0 := e0; simp only [Array.getD_eq_getD_getElem?] at f0
                  refine wpOp_yes rfl rfl rfl e19 (fun K hK => ?_)
                  go_simp
                  exact hK _ _ ⟨_, rfl, Below.refl _ _, rfl⟩
                apply free_is
                · intro a' w' hLe hfr hdep
                  have e19 : a'.tmps.getD 19 undef = _ := hdep 7 19 (Nat.le_of_ble_eq_true rfl) rfl rfl
                  conv at e19 => rhs; whnf
                  have f19 := e19; simp only [Array.getD_eq_getD_getElem?] at f19
                  have e3 := hfr 3 rfl
                  conv at e3 => rhs; whnf
                  have f3 := e3; simp only [Array.getD_eq_getD_getElem?] at f3
                  refine wpOp_yes rfl rfl rfl e19 (fun K hK => ?_)
                  go_simp
                  exact hK _ _ ⟨_, rfl, Below.refl _ _, rfl⟩
                apply free_is
                · intro a' w' hLe hfr hdep
                  have e19 : a'.tmps.getD 19 undef = _ := hdep 7 19 (Nat.le_of_ble_eq_true rfl) rfl rfl
                  conv at e19 => rhs; whnf
                  have f19 := e19; simp only [Array.getD_eq_getD_getElem?] at f19
                  have e23 : a'.tmps.getD 23 undef = _ := hdep 11 23 (Nat.le_of_ble_eq_true rfl) rfl rfl
                  conv at e23 => rhs; whnf
                  have f23 := e23; simp only [Array.getD_eq_getD_getElem?] at f23
                  refine wpOp_yes rfl rfl rfl e19 (fun K hK => ?_)
                  go_simp
                  exact hK _ _ ⟨_, rfl, Below.refl _ _, rfl⟩
                apply free_is
                · intro a' w' hLe hfr hdep
                  have e19 : a'.tmps.getD 19 undef = _ := hdep 7 19 (Nat.le_of_ble_eq_true rfl) rfl rfl
                  conv at e19 => rhs; whnf
                  have f19 := e19; simp only [Array.getD_eq_getD_getElem?] at f19
                  have e22 : a'.tmps.getD 22 undef = _ := hdep 10 22 (Nat.le_of_ble_eq_true rfl) rfl rfl
                  conv at e22 => rhs; whnf
                  have f22 := e22; simp only [Array.getD_eq_getD_getElem?] at f22
                  have e24 : a'.tmps.getD 24 undef = _ := hdep 12 24 (Nat.le_of_ble_eq_true rfl) rfl rfl
                  conv at e24 => rhs; whnf
                  have f24 := e24; simp only [Array.getD_eq_getD_getElem?] at f24
                  refine wpOp_yes rfl rfl rfl e19 (fun K hK => ?_)
                  go_simp
                  exact hK _ _ ⟨_, rfl, Below.refl _ _, rfl⟩
                apply free_is
                · intro a' w' hLe hfr hdep
                  have e19 : a'.tmps.getD 19 undef = _ := hdep 7 19 (Nat.le_of_ble_eq_true rfl) rfl rfl
                  conv at e19 => rhs; whnf
                  have f19 := e19; simp only [Array.getD_eq_getD_getElem?] at f19
                  have e25 : a'.tmps.getD 25 undef = _ := hdep 13 25 (Nat.le_of_ble_eq_true rfl) rfl rfl
                  conv at e25 => rhs; whnf
                  have f25 := e25; simp only [Array.getD_eq_getD_getElem?] at f25
                  refine wpOp_yes rfl rfl rfl e19 (fun K hK => ?_)
                  go_simp
                  exact hK _ _ ⟨_, rfl, Below.refl _ _, rfl⟩
                apply free_is
                · intro a' w' hLe hfr hdep
                  have e19 : a'.tmps.getD 19 undef = _ := hdep 7 19 (Nat.le_of_ble_eq_true rfl) rfl rfl
                  conv at e19 => rhs; whnf
                  have f19 := e19; simp only [Array.getD_eq_getD_getElem?] at f19
                  have e26 : a'.tmps.getD 26 undef = _ := hdep 14 26 (Nat.le_of_ble_eq_true rfl) rfl rfl
                  conv at e26 => rhs; whnf
                  have f26 := e26; simp only [Array.getD_eq_getD_getElem?] at f26
                  have kc := fun i => keepc hLe (bl) (by (try simp) <;> omega) i
                  have kf := fun i => keepf hLe (bl) (by (try simp) <;> omega) i
                  have kz : bl < w'.heap.size := (by have := hLe.size; (try simp at this); omega)
                  have kc := fun i => keepc hLe (wr.heap.size) (by (try simp) <;> omega) i
                  have kf := fun i => keepf hLe (wr.heap.size) (by (try simp) <;> omega) i
                  have kz : wr.heap.size < w'.heap.size := (by have := hLe.size; (try simp at this); omega)
                  refine wpOp_yes rfl rfl rfl e19 (fun K hK => ?_)
                  go_simp
                  exact hK _ _ ⟨_, rfl, Below.refl _ _, rfl⟩
                apply free_is
                · intro a' w' hLe hfr hdep
                  have e19 : a'.tmps.getD 19 undef = _ := hdep 7 19 (Nat.le_of_ble_eq_true rfl) rfl rfl
                  conv at e19 => rhs; whnf
                  have f19 := e19; simp only [Array.getD_eq_getD_getElem?] at f19
                  have e21 : a'.tmps.getD 21 undef = _ := hdep 9 21 (Nat.le_of_ble_eq_true rfl) rfl rfl
                  conv at e21 => rhs; whnf
                  have f21 := e21; simp only [Array.getD_eq_getD_getElem?] at f21
                  have e27 : a'.tmps.getD 27 undef = _ := hdep 15 27 (Nat.le_of_ble_eq_true rfl) rfl rfl
                  conv at e27 => rhs; whnf
                  have f27 := e27; simp only [Array.getD_eq_getD_getElem?] at f27
                  refine wpOp_yes rfl rfl rfl e19 (fun K hK => ?_)
                  go_simp
                  exact hK _ _ ⟨_, rfl, Below.refl _ _, rfl⟩
                apply free_is
                · intro a' w' hLe hfr hdep
                  have e16 : a'.tmps.getD 16 undef = _ := hdep 4 16 (Nat.le_of_ble_eq_true rfl) rfl rfl
                  conv at e16 => rhs; whnf
                  have f16 := e16; simp only [Array.getD_eq_getD_getElem?] at f16
                  have e19 : a'.tmps.getD 19 undef = _ := hdep 7 19 (Nat.le_of_ble_eq_true rfl) rfl rfl
                  conv at e19 => rhs; whnf
                  have f19 := e19; simp only [Array.getD_eq_getD_getElem?] at f19
                  have e28 : a'.tmps.getD 28 undef = _ := hdep 16 28 (Nat.le_of_ble_eq_true rfl) rfl rfl
                  conv at e28 => rhs; whnf
                  have f28 := e28; simp only [Array.getD_eq_getD_getElem?] at f28
                  refine wpOp_yes rfl rfl rfl e16 (fun K hK => ?_)
                  go_simp
                  exact hK _ _ ⟨_, rfl, Below.refl _ _, rfl⟩
                apply free_is
                · intro a' w' hLe hfr hdep
                  have e16 : a'.tmps.getD 16 undef = _ := hdep 4 16 (Nat.le_of_ble_eq_true rfl) rfl rfl
                  conv at e16 => rhs; whnf
                  have f16 := e16; simp only [Array.getD_eq_getD_getElem?] at f16
                  have e29 : a'.tmps.getD 29 undef = _ := hdep 17 29 (Nat.le_of_ble_eq_true rfl) rfl rfl
                  conv at e29 => rhs; whnf
                  have f29 := e29; simp only [Array.getD_eq_getD_getElem?] at f29
                  refine wpOp_plain rfl rfl (fun K hK => ?_)
                  go_simp
                  exact hK _ _ ⟨_, rfl, Below.refl _ _, rfl⟩
                apply free_is
                · intro a' w' hLe hfr hdep
                  have e30 : a'.tmps.getD 30 undef = _ := hdep 18 30 (Nat.le_of_ble_eq_true rfl) rfl rfl
                  conv at e30 => rhs; whnf
                  have f30 := e30; simp only [Array.getD_eq_getD_getElem?] at f30
                  refine wpOp_plain rfl rfl (fun K hK => ?_)
                  go_simp
                  exact hK _ _ ⟨_, rfl, Below.refl _ _, rfl⟩
                apply free_is
                · intro a' w' hLe hfr hdep
                  have e31 : a'.tmps.getD 31 undef = _ := hdep 19 31 (Nat.le_of_ble_eq_true rfl) rfl rfl
                  conv at e31 => rhs; whnf
                  have f31 := e31; simp only [Array.getD_eq_getD_getElem?] at f31
                  have e4 := hfr 4 rfl
                  conv at e4 => rhs; whnf
                  have f4 := e4; simp only [Array.getD_eq_getD_getElem?] at f4
                  refine wpOp_yes rfl rfl rfl e31 (fun K hK => ?_)
                  go_simp
                  exact hK _ _ ⟨_, rfl, Below.refl _ _, rfl⟩
                apply free_is
                · intro a' w' hLe hfr hdep
                  have e31 : a'.tmps.getD 31 undef = _ := hdep 19 31 (Nat.le_of_ble_eq_true rfl) rfl rfl
                  conv at e31 => rhs; whnf
                  have f31 := e31; simp only [Array.getD_eq_getD_getElem?] at f31
                  have e32 : a'.tmps.getD 32 undef = _ := hdep 20 32 (Nat.le_of_ble_eq_true rfl) rfl rfl
                  conv at e32 => rhs; whnf
                  have f32 := e32; simp only [Array.getD_eq_getD_getElem?] at f32
                  have kc := fun i => keepc hLe (bl) (by (try simp) <;> omega) i
                  have kf := fun i => keepf hLe (bl) (by (try simp) <;> omega) i
                  have kz : bl < w'.heap.size := (by have := hLe.size; (try simp at this); omega)
                  have kc := fun i => keepc hLe (wr.heap.size) (by (try simp) <;> omega) i
                  have kf := fun i => keepf hLe (wr.heap.size) (by (try simp) <;> omega) i
                  have kz : wr.heap.size < w'.heap.size := (by have := hLe.size; (try simp at this); omega)
                  refine wpOp_yes rfl rfl rfl e31 (fun K hK => ?_)
                  go_simp
                  exact hK _ _ ⟨_, rfl, Below.refl _ _, rfl⟩
                apply free_is
                · intro a' w' hLe hfr hdep
                  have e31 : a'.tmps.getD 31 undef = _ := hdep 19 31 (Nat.le_of_ble_eq_true rfl) rfl rfl
                  conv at e31 => rhs; whnf
                  have f31 := e31; simp only [Array.getD_eq_getD_getElem?] at f31
                  have e33 : a'.tmps.getD 33 undef = _ := hdep 21 33 (Nat.le_of_ble_eq_true rfl) rfl rfl
                  conv at e33 => rhs; whnf
                  have f33 := e33; simp only [Array.getD_eq_getD_getElem?] at f33
                  have kc := fun i => keepc hLe (bl) (by (try simp) <;> omega) i
                  have kf := fun i => keepf hLe (bl) (by (try simp) <;> omega) i
                  have kz : bl < w'.heap.size := (by have := hLe.size; (try simp at this); omega)
                  have kc := fun i => keepc hLe (wr.heap.size) (by (try simp) <;> omega) i
                  have kf := fun i => keepf hLe (wr.heap.size) (by (try simp) <;> omega) i
                  have kz : wr.heap.size < w'.heap.size := (by have := hLe.size; (try simp at this); omega)
                  refine wpOp_yes rfl rfl rfl e31 (fun K hK => ?_)
                  go_simp
                  refine (in_any _ _ _ _).mono ?_
                  rintro e w2 ⟨rfl, rfl⟩
                  exact hK _ _ ⟨_, rfl, Below.refl _ _, rfl⟩
                apply free_is
                · intro a' w' hLe hfr hdep
                  have e31 : a'.tmps.getD 31 undef = _ := hdep 19 31 (Nat.le_of_ble_eq_true rfl) rfl rfl
                  conv at e31 => rhs; whnf
                  have f31 := e31; simp only [Array.getD_eq_getD_getElem?] at f31
                  have e34 : a'.tmps.getD 34 undef = _ := hdep 22 34 (Nat.le_of_ble_eq_true rfl) rfl rfl
                  conv at e34 => rhs; whnf
                  have f34 := e34; simp only [Array.getD_eq_getD_getElem?] at f34
                  refine wpOp_yes rfl rfl rfl e31 (fun K hK => ?_)
                  go_simp
                  exact hK _ _ ⟨_, rfl, Below.refl _ _, rfl⟩
                apply free_is
                · intro a' w' hLe hfr hdep
                  have e31 : a'.tmps.getD 31 undef = _ := hdep 19 31 (Nat.le_of_ble_eq_true rfl) rfl rfl
                  conv at e31 => rhs; whnf
                  have f31 := e31; simp only [Array.getD_eq_getD_getElem?] at f31
                  have e35 : a'.tmps.getD 35 undef = _ := hdep 23 35 (Nat.le_of_ble_eq_true rfl) rfl rfl
                  conv at e35 => rhs; whnf
                  have f35 := e35; simp only [Array.getD_eq_getD_getElem?] at f35
                  refine wpOp_plain rfl rfl (fun K hK => ?_)
                  go_simp
                  exact hK _ _ ⟨_, rfl, Below.refl _ _, rfl⟩
                apply free_is
                · intro a' w' hLe hfr hdep
                  have e36 : a'.tmps.getD 36 undef = _ := hdep 24 36 (Nat.le_of_ble_eq_true rfl) rfl rfl
                  conv at e36 => rhs; whnf
                  have f36 := e36; simp only [Array.getD_eq_getD_getElem?] at f36
                  refine wpOp_plain rfl rfl (fun K hK => ?_)
                  go_simp
                  exact hK _ _ ⟨_, rfl, Below.refl _ _, rfl⟩
                apply free_is
                · intro a' w' hLe hfr hdep
                  have e37 : a'.tmps.getD 37 undef = _ := hdep 25 37 (Nat.le_of_ble_eq_true rfl) rfl rfl
                  conv at e37 => rhs; whnf
                  have f37 := e37; simp only [Array.getD_eq_getD_getElem?] at f37
                  have e4 := hfr 4 rfl
                  conv at e4 => rhs; whnf
                  have f4 := e4; simp only [Array.getD_eq_getD_getElem?] at f4
                  refine wpOp_yes rfl rfl rfl e37 (fun K hK => ?_)
                  go_simp
                  exact hK _ _ ⟨_, rfl, Below.refl _ _, rfl⟩
                apply free_is
                · intro a' w' hLe hfr hdep
                  have e37 : a'.tmps.getD 37 undef = _ := hdep 25 37 (Nat.le_of_ble_eq_true rfl) rfl rfl
                  conv at e37 => rhs; whnf
                  have f37 := e37; simp only [Array.getD_eq_getD_getElem?] at f37
                  have e38 : a'.tmps.getD 38 undef = _ := hdep 26 38 (Nat.le_of_ble_eq_true rfl) rfl rfl
                  conv at e38 => rhs; whnf
                  have f38 := e38; simp only [Array.getD_eq_getD_getElem?] at f38
                  have kc := fun i => keepc hLe (bl) (by (try simp) <;> omega) i
                  have kf := fun i => keepf hLe (bl) (by (try simp) <;> omega) i
                  have kz : bl < w'.heap.size := (by have := hLe.size; (try simp at this); omega)
                  have kc := fun i => keepc hLe (wr.heap.size) (by (try simp) <;> omega) i
                  have kf := fun i => keepf hLe (wr.heap.size) (by (try simp) <;> omega) i
                  have kz : wr.heap.size < w'.heap.size := (by have := hLe.size; (try simp at this); omega)
                  refine wpOp_yes rfl rfl rfl e37 (fun K hK => ?_)
                  go_simp
                  exact hK _ _ ⟨_, rfl, Below.refl _ _, rfl⟩
                apply free_is
                · intro a' w' hLe hfr hdep
                  have e37 : a'.tmps.getD 37 undef = _ := hdep 25 37 (Nat.le_of_ble_eq_true rfl) rfl rfl
                  conv at e37 => rhs; whnf
                  have f37 := e37; simp only [Array.getD_eq_getD_getElem?] at f37
                  have e39 : a'.tmps.getD 39 undef = _ := hdep 27 39 (Nat.le_of_ble_eq_true rfl) rfl rfl
                  conv at e39 => rhs; whnf
                  have f39 := e39; simp only [Array.getD_eq_getD_getElem?] at f39
                  have kc := fun i => keepc hLe (bl) (by (try simp) <;> omega) i
                  have kf := fun i => keepf hLe (bl) (by (try simp) <;> omega) i
                  have kz : bl < w'.heap.size := (by have := hLe.size; (try simp at this); omega)
                  have kc := fun i => keepc hLe (wr.heap.size) (by (try simp) <;> omega) i
                  have kf := fun i => keepf hLe (wr.heap.size) (by (try simp) <;> omega) i
                  have kz : wr.heap.size < w'.heap.size := (by have := hLe.size; (try simp at this); omega)
                  refine wpOp_yes rfl rfl rfl e37 (fun K hK => ?_)
                  go_simp
                  refine (in_any _ _ _ _).mono ?_
                  rintro e w2 ⟨rfl, rfl⟩
                  exact hK _ _ ⟨_, rfl, Below.refl _ _, rfl⟩
                apply free_is
                · intro a' w' hLe hfr hdep
                  have e37 : a'.tmps.getD 37 undef = _ := hdep 25 37 (Nat.le_of_ble_eq_true rfl) rfl rfl
                  conv at e37 => rhs; whnf
                  have f37 := e37; simp only [Array.getD_eq_getD_getElem?] at f37
                  have e40 : a'.tmps.getD 40 undef = _ := hdep 28 40 (Nat.le_of_ble_eq_true rfl) rfl rfl
                  conv at e40 => rhs; whnf
                  have f40 := e40; simp only [Array.getD_eq_getD_getElem?] at f40
                  refine wpOp_yes rfl rfl rfl e37 (fun K hK => ?_)
                  go_simp
                  exact hK _ _ ⟨_, rfl, Below.refl _ _, rfl⟩
                apply free_is
                · intro a' w' hLe hfr hdep
                  have e37 : a'.tmps.getD 37 undef = _ := hdep 25 37 (Nat.le_of_ble_eq_true rfl) rfl rfl
                  conv at e37 => rhs; whnf
                  have f37 := e37; simp only [Array.getD_eq_getD_getElem?] at f37
                  have e41 : a'.tmps.getD 41 undef = _ := hdep 29 41 (Nat.le_of_ble_eq_true rfl) rfl rfl
                  conv at e41 => rhs; whnf
                  have f41 := e41; simp only [Array.getD_eq_getD_getElem?] at f41
                  refine wpOp_plain rfl rfl (fun K hK => ?_)
                  go_simp
                  exact hK _ _ ⟨_, rfl, Below.refl _ _, rfl⟩
                apply free_nil
                intro vs w1 hb1 hT1
                have e12 : vs 0 = _ := hT1 0 12 rfl
                conv at e12 => rhs; whnf
                have e13 : vs 1 = _ := hT1 1 13 rfl
                conv at e13 => rhs; whnf
                have e14 : vs 2 = _ := hT1 2 14 rfl
                conv at e14 => rhs; whnf
                have e15 : vs 3 = _ := hT1 3 15 rfl
                conv at e15 => rhs; whnf
                have e16 : vs 4 = _ := hT1 4 16 rfl
                conv at e16 => rhs; whnf
                have e17 : vs 5 = _ := hT1 5 17 rfl
                conv at e17 => rhs; whnf
                have e18 : vs 6 = _ := hT1 6 18 rfl
                conv at e18 => rhs; whnf
                have e19 : vs 7 = _ := hT1 7 19 rfl
                conv at e19 => rhs; whnf
                have e20 : vs 8 = _ := hT1 8 20 rfl
                conv at e20 => rhs; whnf
                have e21 : vs 9 = _ := hT1 9 21 rfl
                conv at e21 => rhs; whnf
                have e22 : vs 10 = _ := hT1 10 22 rfl
                conv at e22 => rhs; whnf
                have e23 : vs 11 = _ := hT1 11 23 rfl
                conv at e23 => rhs; whnf
                have e24 : vs 12 = _ := hT1 12 24 rfl
                conv at e24 => rhs; whnf
                have e25 : vs 13 = _ := hT1 13 25 rfl
                conv at e25 => rhs; whnf
                have e26 : vs 14 = _ := hT1 14 26 rfl
                conv at e26 => rhs; whnf
                have e27 : vs 15 = _ := hT1 15 27 rfl
                conv at e27 => rhs; whnf
                have e28 : vs 16 = _ := hT1 16 28 rfl
                conv at e28 => rhs; whnf
                have e29 : vs 17 = _ := hT1 17 29 rfl
                conv at e29 => rhs; whnf
                have e30 : vs 18 = _ := hT1 18 30 rfl
                conv at e30 => rhs; whnf
                have e31 : vs 19 = _ := hT1 19 31 rfl
                conv at e31 => rhs; whnf
                have e32 : vs 20 = _ := hT1 20 32 rfl
                conv at e32 => rhs; whnf
                have e33 : vs 21 = _ := hT1 21 33 rfl
                conv at e33 => rhs; whnf
                have e34 : vs 22 = _ := hT1 22 34 rfl
                conv at e34 => rhs; whnf
                have e35 : vs 23 = _ := hT1 23 35 rfl
                conv at e35 => rhs; whnf
                have e36 : vs 24 = _ := hT1 24 36 rfl
                conv at e36 => rhs; whnf
                have e37 : vs 25 = _ := hT1 25 37 rfl
                conv at e37 => rhs; whnf
                have e38 : vs 26 = _ := hT1 26 38 rfl
                conv at e38 => rhs; whnf
                have e39 : vs 27 = _ := hT1 27 39 rfl
                conv at e39 => rhs; whnf
                have e40 : vs 28 = _ := hT1 28 40 rfl
                conv at e40 => rhs; whnf
                have e41 : vs 29 = _ := hT1 29 41 rfl
                conv at e41 => rhs; whnf
                have e42 : vs 30 = _ := hT1 30 42 rfl
                conv at e42 => rhs; whnf
                simp only [putAll, List.drop_succ_cons, List.drop_zero, e12, e13, e14, e15, e16, e17, e18, e19, e20, e21, e22, e23, e24, e25, e26, e27, e28, e29, e30, e31, e32, e33, e34, e35, e36, e37, e38, e39, e40, e41, e42]
                clear hT1 e12 e13 e14 e15 e16 e17 e18 e19 e20 e21 e22 e23 e24 e25 e26 e27 e28 e29 e30 e31 e32 e33 e34 e35 e36 e37 e38 e39 e40 e41 e42
                go_simp
                go_wp2
                go_roundw
                case rel => exact ⟨i + 1 + 1, by omega, by go_num, upto HO.out hno.out, Below.tr (by (repeat (first | exact Below.refl _ _ | assumption | refine Below.al ?_ _ | refine Below.dr ?_ | (refine Below.st ?_ (by simp <;> omega) _) | (refine Below.tr ?_ (by assumption))))) hb1⟩
                case measure => simp [intOf]; omega
    · obtain rfl : j = n := by omega
      have he := Lib.hid (poolB_end hok)
      clear hok hrow
      go_wp2
      go_ret
      exact ⟨by rw [he.out] <;> simp <;> omega, hBw⟩

end Go.Proofs.Ytbnfllpimnnmfaa
