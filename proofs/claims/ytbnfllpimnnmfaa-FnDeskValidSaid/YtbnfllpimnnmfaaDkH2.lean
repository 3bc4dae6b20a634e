/-
  PoolValid in the reference.
-/
import Derived.Test.YtbnfllpimnnmfaaDkH
namespace Go.Proofs.Ytbnfllpimnnmfaa
open Go Go.RowKit

set_option maxRecDepth 100000 in
set_option maxHeartbeats 8000000 in
theorem specPoolValid_any {w : World} {B : Nat} {A : Option Addr} {n c : Nat} {a b d : Nat → Int} (H : Rws w B 3 A n c (hostR a b d)) (hB : B ≤ w.heap.size) :
    Calls Try.prog 40 #[.slice A n c] w fun e w' => e = .returned (.bool (poolB n a b d)) ∧ Below w.heap.size w w' := by
  obtain ⟨⟨hnc, hcm⟩, hrow⟩ := H
  unfold maxLen at hcm
  go_enter Try.func40, Try.ntmps40
  go_wp2
  go_loopw [3] (fun i wr => ∃ j : Nat, j ≤ n ∧ i = .int .i64 j ∧ (∀ i, i < j → poolOk a b d i = true) ∧ Below w.heap.size w wr) (fun i _ => n - (intOf i).toNat)
  case atStart => exact ⟨0, by omega, rfl, fun i hi => absurd hi (by omega), by (repeat (first | exact Below.refl _ _ | assumption | refine Below.al ?_ _ | refine Below.dr ?_ | (refine Below.st ?_ (by simp <;> omega) _) | (refine Below.tr ?_ (by assumption))))⟩
  case round =>
    obtain ⟨j, hj, rfl, hok, hBw⟩ := hrel
    by_cases hlt : j < n
    · obtain ⟨bl, off, rfl, hbB, hc⟩ := hrow (by omega)
      have hr := hc j hlt
      have hbs : bl < wr.heap.size := by have := hBw.size; omega
      have q0 : wr.cell? ⟨bl, off + j * 3, none⟩ = some (.int .i64 (a j)) := (keepc hBw bl (by omega) _).trans (hr 0 _ rfl)
      have q1 : wr.cell? ⟨bl, off + j * 3 + 1, none⟩ = some (.int .i64 (b j)) := (keepc hBw bl (by omega) _).trans (hr 1 _ rfl)
      have q2 : wr.cell? ⟨bl, off + j * 3 + 2, none⟩ = some (.int .i64 (d j)) := (keepc hBw bl (by omega) _).trans (hr 2 _ rfl)
      have HO := Lib.hid hok
      clear hok hr
      cases h1 : inB (a j) 0 30 with
      | false =>
        clear hc hrow
        have hno := Lib.hid (poolB_no (show j < n from hlt) (show poolOk a b d j = false by simp [poolOk, h1]))
        go_wp2
        refine wp_region_free (ds := [(0, 10), (1, 11), (2, 12), (3, 13), (4, 14), (5, 15), (6, 16), (7, 17), (8, 18), (9, 19), (10, 20), (11, 21), (12, 22), (13, 23), (14, 24), (15, 25), (16, 26), (17, 27), (18, 28), (19, 29), (20, 30), (21, 31), (22, 32), (23, 33), (24, 34), (25, 35), (26, 36), (27, 37), (28, 38), (29, 39), (30, 40), (31, 41), (32, 42), (33, 43), (34, 44), (35, 45), (36, 46), (37, 47), (38, 48), (39, 49), (40, 50), (41, 51), (42, 52)]) 43 (by kernel_rfl) (by kernel_rfl) (by first | exact .inl rfl | exact .inr (by kernel_rfl)) (by rfl) rfl rfl ?_
        apply free_is
        · intro a' w' hLe hfr hdep
          have e0 := hfr 0 rfl
          conv at e0 => rhs; whnf
          have f0 := e0; simp only [Array.getD_eq_getD_getElem?] at f0
          refine wpOp_plain rfl rfl (fun K hK => ?_)
          go_simp
          exact hK _ _ ⟨_, rfl, Below.refl _ _, rfl⟩
        apply free_is
        · intro a' w' hLe hfr hdep
          have e3 := hfr 3 rfl
          conv at e3 => rhs; whnf
          have f3 := e3; simp only [Array.getD_eq_getD_getElem?] at f3
          refine wpOp_plain rfl rfl (fun K hK => ?_)
          go_simp
          exact hK _ _ ⟨_, rfl, Below.refl _ _, rfl⟩
        apply free_is
        · intro a' w' hLe hfr hdep
          have e10 : a'.tmps.getD 10 undef = _ := hdep 0 10 (Nat.le_of_ble_eq_true rfl) rfl rfl
          conv at e10 => rhs; whnf
          have f10 := e10; simp only [Array.getD_eq_getD_getElem?] at f10
          have e11 : a'.tmps.getD 11 undef = _ := hdep 1 11 (Nat.le_of_ble_eq_true rfl) rfl rfl
          conv at e11 => rhs; whnf
          have f11 := e11; simp only [Array.getD_eq_getD_getElem?] at f11
          refine wpOp_plain rfl rfl (fun K hK => ?_)
          go_simp
          exact hK _ _ ⟨_, rfl, Below.refl _ _, rfl⟩
        apply free_is
        · intro a' w' hLe hfr hdep
          have e12 : a'.tmps.getD 12 undef = _ := hdep 2 12 (Nat.le_of_ble_eq_true rfl) rfl rfl
          conv at e12 => rhs; whnf
          have f12 := e12; simp only [Array.getD_eq_getD_getElem?] at f12
          refine wpOp_plain rfl rfl (fun K hK => ?_)
          go_simp
          exact hK _ _ ⟨_, rfl, Below.refl _ _, rfl⟩
        apply free_is
        · intro a' w' hLe hfr hdep
          have e13 : a'.tmps.getD 13 undef = _ := hdep 3 13 (Nat.le_of_ble_eq_true rfl) rfl rfl
          conv at e13 => rhs; whnf
          have f13 := e13; simp only [Array.getD_eq_getD_getElem?] at f13
          have kc := fun i => keepc hLe (bl) (by (try simp) <;> omega) i
          have kf := fun i => keepf hLe (bl) (by (try simp) <;> omega) i
          have kz : bl < w'.heap.size := (by have := hLe.size; (try simp at this); omega)
          refine wpOp_plain rfl rfl (fun K hK => ?_)
          go_simp
          exact hK _ _ ⟨_, rfl, Below.refl _ _, rfl⟩
        apply free_is
        · intro a' w' hLe hfr hdep
          have e14 : a'.tmps.getD 14 undef = _ := hdep 4 14 (Nat.le_of_ble_eq_true rfl) rfl rfl
          conv at e14 => rhs; whnf
          have f14 := e14; simp only [Array.getD_eq_getD_getElem?] at f14
          have kc := fun i => keepc hLe (bl) (by (try simp) <;> omega) i
          have kf := fun i => keepf hLe (bl) (by (try simp) <;> omega) i
          have kz : bl < w'.heap.size := (by have := hLe.size; (try simp at this); omega)
          refine wpOp_plain rfl rfl (fun K hK => ?_)
          go_simp
          refine (l1In_any _ _ _ _).mono ?_
          rintro e w2 ⟨rfl, rfl⟩
          exact hK _ _ ⟨_, rfl, Below.refl _ _, rfl⟩
        apply free_is
        · intro a' w' hLe hfr hdep
          have e15 : a'.tmps.getD 15 undef = _ := hdep 5 15 (Nat.le_of_ble_eq_true rfl) rfl rfl
          conv at e15 => rhs; whnf
          have f15 := e15; simp only [Array.getD_eq_getD_getElem?] at f15
          refine wpOp_plain rfl rfl (fun K hK => ?_)
          go_simp
          exact hK _ _ ⟨_, rfl, Below.refl _ _, rfl⟩
        apply free_is
        · intro a' w' hLe hfr hdep
          have e16 : a'.tmps.getD 16 undef = _ := hdep 6 16 (Nat.le_of_ble_eq_true rfl) rfl rfl
          conv at e16 => rhs; whnf
          have f16 := e16; simp only [Array.getD_eq_getD_getElem?] at f16
          refine wpOp_plain rfl rfl (fun K hK => ?_)
          go_simp
          exact hK _ _ ⟨_, rfl, Below.refl _ _, rfl⟩
        apply free_is
        · intro a' w' hLe hfr hdep
          have e17 : a'.tmps.getD 17 undef = _ := hdep 7 17 (Nat.le_of_ble_eq_true rfl) rfl rfl
          conv at e17 => rhs; whnf
          have f17 := e17; simp only [Array.getD_eq_getD_getElem?] at f17
          exact wpOp_no rfl rfl rfl e17 ⟨_, rfl, Below.refl _ _, rfl⟩
        apply free_is
        · intro a' w' hLe hfr hdep
          have e17 : a'.tmps.getD 17 undef = _ := hdep 7 17 (Nat.le_of_ble_eq_true rfl) rfl rfl
          conv at e17 => rhs; whnf
          have f17 := e17; simp only [Array.getD_eq_getD_getElem?] at f17
          exact wpOp_no rfl rfl rfl e17 ⟨_, rfl, Below.refl _ _, rfl⟩
        apply free_is
        · intro a' w' hLe hfr hdep
          have e17 : a'.tmps.getD 17 undef = _ := hdep 7 17 (Nat.le_of_ble_eq_true rfl) rfl rfl
          conv at e17 => rhs; whnf
          have f17 := e17; simp only [Array.getD_eq_getD_getElem?] at f17
          exact wpOp_no rfl rfl rfl e17 ⟨_, rfl, Below.refl _ _, rfl⟩
        apply free_is
        · intro a' w' hLe hfr hdep
          have e17 : a'.tmps.getD 17 undef = _ := hdep 7 17 (Nat.le_of_ble_eq_true rfl) rfl rfl
          conv at e17 => rhs; whnf
          have f17 := e17; simp only [Array.getD_eq_getD_getElem?] at f17
          exact wpOp_no rfl rfl rfl e17 ⟨_, rfl, Below.refl _ _, rfl⟩
        apply free_is
        · intro a' w' hLe hfr hdep
          have e17 : a'.tmps.getD 17 undef = _ := hdep 7 17 (Nat.le_of_ble_eq_true rfl) rfl rfl
          conv at e17 => rhs; whnf
          have f17 := e17; simp only [Array.getD_eq_getD_getElem?] at f17
          exact wpOp_no rfl rfl rfl e17 ⟨_, rfl, Below.refl _ _, rfl⟩
        apply free_is
        · intro a' w' hLe hfr hdep
          have e17 : a'.tmps.getD 17 undef = _ := hdep 7 17 (Nat.le_of_ble_eq_true rfl) rfl rfl
          conv at e17 => rhs; whnf
          have f17 := e17; simp only [Array.getD_eq_getD_getElem?] at f17
          exact wpOp_no rfl rfl rfl e17 ⟨_, rfl, Below.refl _ _, rfl⟩
        apply free_is
        · intro a' w' hLe hfr hdep
          have e17 : a'.tmps.getD 17 undef = _ := hdep 7 17 (Nat.le_of_ble_eq_true rfl) rfl rfl
          conv at e17 => rhs; whnf
          have f17 := e17; simp only [Array.getD_eq_getD_getElem?] at f17
          exact wpOp_no rfl rfl rfl e17 ⟨_, rfl, Below.refl _ _, rfl⟩
        apply free_is
        · intro a' w' hLe hfr hdep
          have e17 : a'.tmps.getD 17 undef = _ := hdep 7 17 (Nat.le_of_ble_eq_true rfl) rfl rfl
          conv at e17 => rhs; whnf
          have f17 := e17; simp only [Array.getD_eq_getD_getElem?] at f17
          have e24 : a'.tmps.getD 24 undef = _ := hdep 14 24 (Nat.le_of_ble_eq_true rfl) rfl rfl
          conv at e24 => rhs; whnf
          have f24 := e24; simp only [Array.getD_eq_getD_getElem?] at f24
          refine wpOp_plain rfl rfl (fun K hK => ?_)
          go_simp
          exact hK _ _ ⟨_, rfl, Below.refl _ _, rfl⟩
        apply free_is
        · intro a' w' hLe hfr hdep
          have e25 : a'.tmps.getD 25 undef = _ := hdep 15 25 (Nat.le_of_ble_eq_true rfl) rfl rfl
          conv at e25 => rhs; whnf
          have f25 := e25; simp only [Array.getD_eq_getD_getElem?] at f25
          refine wpOp_plain rfl rfl (fun K hK => ?_)
          go_simp
          exact hK _ _ ⟨_, rfl, Below.refl _ _, rfl⟩
        apply free_is
        · intro a' w' hLe hfr hdep
          have e26 : a'.tmps.getD 26 undef = _ := hdep 16 26 (Nat.le_of_ble_eq_true rfl) rfl rfl
          conv at e26 => rhs; whnf
          have f26 := e26; simp only [Array.getD_eq_getD_getElem?] at f26
          exact wpOp_no rfl rfl rfl e26 ⟨_, rfl, Below.refl _ _, rfl⟩
        apply free_is
        · intro a' w' hLe hfr hdep
          have e26 : a'.tmps.getD 26 undef = _ := hdep 16 26 (Nat.le_of_ble_eq_true rfl) rfl rfl
          conv at e26 => rhs; whnf
          have f26 := e26; simp only [Array.getD_eq_getD_getElem?] at f26
          exact wpOp_no rfl rfl rfl e26 ⟨_, rfl, Below.refl _ _, rfl⟩
        apply free_is
        · intro a' w' hLe hfr hdep
          have e26 : a'.tmps.getD 26 undef = _ := hdep 16 26 (Nat.le_of_ble_eq_true rfl) rfl rfl
          conv at e26 => rhs; whnf
          have f26 := e26; simp only [Array.getD_eq_getD_getElem?] at f26
          exact wpOp_no rfl rfl rfl e26 ⟨_, rfl, Below.refl _ _, rfl⟩
        apply free_is
        · intro a' w' hLe hfr hdep
          have e26 : a'.tmps.getD 26 undef = _ := hdep 16 26 (Nat.le_of_ble_eq_true rfl) rfl rfl
          conv at e26 => rhs; whnf
          have f26 := e26; simp only [Array.getD_eq_getD_getElem?] at f26
          exact wpOp_no rfl rfl rfl e26 ⟨_, rfl, Below.refl _ _, rfl⟩
        apply free_is
        · intro a' w' hLe hfr hdep
          have e26 : a'.tmps.getD 26 undef = _ := hdep 16 26 (Nat.le_of_ble_eq_true rfl) rfl rfl
          conv at e26 => rhs; whnf
          have f26 := e26; simp only [Array.getD_eq_getD_getElem?] at f26
          exact wpOp_no rfl rfl rfl e26 ⟨_, rfl, Below.refl _ _, rfl⟩
        apply free_is
        · intro a' w' hLe hfr hdep
          have e26 : a'.tmps.getD 26 undef = _ := hdep 16 26 (Nat.le_of_ble_eq_true rfl) rfl rfl
          conv at e26 => rhs; whnf
          have f26 := e26; simp only [Array.getD_eq_getD_getElem?] at f26
          exact wpOp_no rfl rfl rfl e26 ⟨_, rfl, Below.refl _ _, rfl⟩
        apply free_is
        · intro a' w' hLe hfr hdep
          have e26 : a'.tmps.getD 26 undef = _ := hdep 16 26 (Nat.le_of_ble_eq_true rfl) rfl rfl
          conv at e26 => rhs; whnf
          have f26 := e26; simp only [Array.getD_eq_getD_getElem?] at f26
          exact wpOp_no rfl rfl rfl e26 ⟨_, rfl, Below.refl _ _, rfl⟩
        apply free_is
        · intro a' w' hLe hfr hdep
          have e26 : a'.tmps.getD 26 undef = _ := hdep 16 26 (Nat.le_of_ble_eq_true rfl) rfl rfl
          conv at e26 => rhs; whnf
          have f26 := e26; simp only [Array.getD_eq_getD_getElem?] at f26
          have e33 : a'.tmps.getD 33 undef = _ := hdep 23 33 (Nat.le_of_ble_eq_true rfl) rfl rfl
          conv at e33 => rhs; whnf
          have f33 := e33; simp only [Array.getD_eq_getD_getElem?] at f33
          refine wpOp_plain rfl rfl (fun K hK => ?_)
          go_simp
          exact hK _ _ ⟨_, rfl, Below.refl _ _, rfl⟩
        apply free_is
        · intro a' w' hLe hfr hdep
          have e34 : a'.tmps.getD 34 undef = _ := hdep 24 34 (Nat.le_of_ble_eq_true rfl) rfl rfl
          conv at e34 => rhs; whnf
          have f34 := e34; simp only [Array.getD_eq_getD_getElem?] at f34
          refine wpOp_plain rfl rfl (fun K hK => ?_)
          go_simp
          exact hK _ _ ⟨_, rfl, Below.refl _ _, rfl⟩
        apply free_is
        · intro a' w' hLe hfr hdep
          have e35 : a'.tmps.getD 35 undef = _ := hdep 25 35 (Nat.le_of_ble_eq_true rfl) rfl rfl
          conv at e35 => rhs; whnf
          have f35 := e35; simp only [Array.getD_eq_getD_getElem?] at f35
          exact wpOp_no rfl rfl rfl e35 ⟨_, rfl, Below.refl _ _, rfl⟩
        apply free_is
        · intro a' w' hLe hfr hdep
          have e35 : a'.tmps.getD 35 undef = _ := hdep 25 35 (Nat.le_of_ble_eq_true rfl) rfl rfl
          conv at e35 => rhs; whnf
          have f35 := e35; simp only [Array.getD_eq_getD_getElem?] at f35
          exact wpOp_no rfl rfl rfl e35 ⟨_, rfl, Below.refl _ _, rfl⟩
        apply free_is
        · intro a' w' hLe hfr hdep
          have e35 : a'.tmps.getD 35 undef = _ := hdep 25 35 (Nat.le_of_ble_eq_true rfl) rfl rfl
          conv at e35 => rhs; whnf
          have f35 := e35; simp only [Array.getD_eq_getD_getElem?] at f35
          exact wpOp_no rfl rfl rfl e35 ⟨_, rfl, Below.refl _ _, rfl⟩
        apply free_is
        · intro a' w' hLe hfr hdep
          have e38 : a'.tmps.getD 38 undef = _ := hdep 28 38 (Nat.le_of_ble_eq_true rfl) rfl rfl
          conv at e38 => rhs; whnf
          have f38 := e38; simp only [Array.getD_eq_getD_getElem?] at f38
          exact wpOp_un rfl rfl rfl e38 ⟨_, rfl, Below.refl _ _, rfl⟩
        apply free_is
        · intro a' w' hLe hfr hdep
          have e38 : a'.tmps.getD 38 undef = _ := hdep 28 38 (Nat.le_of_ble_eq_true rfl) rfl rfl
          conv at e38 => rhs; whnf
          have f38 := e38; simp only [Array.getD_eq_getD_getElem?] at f38
          exact wpOp_un rfl rfl rfl e38 ⟨_, rfl, Below.refl _ _, rfl⟩
        apply free_is
        · intro a' w' hLe hfr hdep
          have e38 : a'.tmps.getD 38 undef = _ := hdep 28 38 (Nat.le_of_ble_eq_true rfl) rfl rfl
          conv at e38 => rhs; whnf
          have f38 := e38; simp only [Array.getD_eq_getD_getElem?] at f38
          exact wpOp_un rfl rfl rfl e38 ⟨_, rfl, Below.refl _ _, rfl⟩
        apply free_is
        · intro a' w' hLe hfr hdep
          have e38 : a'.tmps.getD 38 undef = _ := hdep 28 38 (Nat.le_of_ble_eq_true rfl) rfl rfl
          conv at e38 => rhs; whnf
          have f38 := e38; simp only [Array.getD_eq_getD_getElem?] at f38
          exact wpOp_un rfl rfl rfl e38 ⟨_, rfl, Below.refl _ _, rfl⟩
        apply free_is
        · intro a' w' hLe hfr hdep
          have e38 : a'.tmps.getD 38 undef = _ := hdep 28 38 (Nat.le_of_ble_eq_true rfl) rfl rfl
          conv at e38 => rhs; whnf
          have f38 := e38; simp only [Array.getD_eq_getD_getElem?] at f38
          exact wpOp_un rfl rfl rfl e38 ⟨_, rfl, Below.refl _ _, rfl⟩
        apply free_is
        · intro a' w' hLe hfr hdep
          have e38 : a'.tmps.getD 38 undef = _ := hdep 28 38 (Nat.le_of_ble_eq_true rfl) rfl rfl
          conv at e38 => rhs; whnf
          have f38 := e38; simp only [Array.getD_eq_getD_getElem?] at f38
          exact wpOp_un rfl rfl rfl e38 ⟨_, rfl, Below.refl _ _, rfl⟩
        apply free_is
        · intro a' w' hLe hfr hdep
          have e38 : a'.tmps.getD 38 undef = _ := hdep 28 38 (Nat.le_of_ble_eq_true rfl) rfl rfl
          conv at e38 => rhs; whnf
          have f38 := e38; simp only [Array.getD_eq_getD_getElem?] at f38
          exact wpOp_un rfl rfl rfl e38 ⟨_, rfl, Below.refl _ _, rfl⟩
        apply free_is
        · intro a' w' hLe hfr hdep
          have e38 : a'.tmps.getD 38 undef = _ := hdep 28 38 (Nat.le_of_ble_eq_true rfl) rfl rfl
          conv at e38 => rhs; whnf
          have f38 := e38; simp only [Array.getD_eq_getD_getElem?] at f38
          exact wpOp_un rfl rfl rfl e38 ⟨_, rfl, Below.refl _ _, rfl⟩
        apply free_is
        · intro a' w' hLe hfr hdep
          have e38 : a'.tmps.getD 38 undef = _ := hdep 28 38 (Nat.le_of_ble_eq_true rfl) rfl rfl
          conv at e38 => rhs; whnf
          have f38 := e38; simp only [Array.getD_eq_getD_getElem?] at f38
          exact wpOp_un rfl rfl rfl e38 ⟨_, rfl, Below.refl _ _, rfl⟩
        apply free_is
        · intro a' w' hLe hfr hdep
          have e38 : a'.tmps.getD 38 undef = _ := hdep 28 38 (Nat.le_of_ble_eq_true rfl) rfl rfl
          conv at e38 => rhs; whnf
          have f38 := e38; simp only [Array.getD_eq_getD_getElem?] at f38
          exact wpOp_un rfl rfl rfl e38 ⟨_, rfl, Below.refl _ _, rfl⟩
        apply free_is
        · intro a' w' hLe hfr hdep
          have e38 : a'.tmps.getD 38 undef = _ := hdep 28 38 (Nat.le_of_ble_eq_true rfl) rfl rfl
          conv at e38 => rhs; whnf
          have f38 := e38; simp only [Array.getD_eq_getD_getElem?] at f38
          exact wpOp_un rfl rfl rfl e38 ⟨_, rfl, Below.refl _ _, rfl⟩
        apply free_is
        · intro a' w' hLe hfr hdep
          have e38 : a'.tmps.getD 38 undef = _ := hdep 28 38 (Nat.le_of_ble_eq_true rfl) rfl rfl
          conv at e38 => rhs; whnf
          have f38 := e38; simp only [Array.getD_eq_getD_getElem?] at f38
          exact wpOp_un rfl rfl rfl e38 ⟨_, rfl, Below.refl _ _, rfl⟩
        apply free_is
        · intro a' w' hLe hfr hdep
          have e35 : a'.tmps.getD 35 undef = _ := hdep 25 35 (Nat.le_of_ble_eq_true rfl) rfl rfl
          conv at e35 => rhs; whnf
          have f35 := e35; simp only [Array.getD_eq_getD_getElem?] at f35
          exact wpOp_no rfl rfl rfl e35 ⟨_, rfl, Below.refl _ _, rfl⟩
        apply free_is
        · intro a' w' hLe hfr hdep
          have e35 : a'.tmps.getD 35 undef = _ := hdep 25 35 (Nat.le_of_ble_eq_true rfl) rfl rfl
          conv at e35 => rhs; whnf
          have f35 := e35; simp only [Array.getD_eq_getD_getElem?] at f35
          have e51 : a'.tmps.getD 51 undef = _ := hdep 41 51 (Nat.le_of_ble_eq_true rfl) rfl rfl
          conv at e51 => rhs; whnf
          have f51 := e51; simp only [Array.getD_eq_getD_getElem?] at f51
          refine wpOp_plain rfl rfl (fun K hK => ?_)
          go_simp
          exact hK _ _ ⟨_, rfl, Below.refl _ _, rfl⟩
        apply free_nil
        intro vs w1 hb1 hT1
        have e10 : vs 0 = _ := hT1 0 10 rfl
        conv at e10 => rhs; whnf
        have e11 : vs 1 = _ := hT1 1 11 rfl
        conv at e11 => rhs; whnf
        have e12 : vs 2 = _ := hT1 2 12 rfl
        conv at e12 => rhs; whnf
        have e13 : vs 3 = _ := hT1 3 13 rfl
        conv at e13 => rhs; whnf
        have e14 : vs 4 = _ := hT1 4 14 rfl
        conv at e14 => rhs; whnf
        have e15 : vs 5 = _ := hT1 5 15 rfl
        conv at e15 => rhs; whnf
        have e16 : vs 6 = _ := hT1 6 16 rfl
        conv at e16 => rhs; whnf
        have e17 : vs 7 = _ := hT1 7 17 rfl
        conv at e17 => rhs; whnf
        have e18 : vs 8 = _ := hT1 8 18 rfl
        conv at e18 => rhs; whnf
        have e19 : vs 9 = _ := hT1 9 19 rfl
        conv at e19 => rhs; whnf
        have e20 : vs 10 = _ := hT1 10 20 rfl
        conv at e20 => rhs; whnf
        have e21 : vs 11 = _ := hT1 11 21 rfl
        conv at e21 => rhs; whnf
        have e22 : vs 12 = _ := hT1 12 22 rfl
        conv at e22 => rhs; whnf
        have e23 : vs 13 = _ := hT1 13 23 rfl
        conv at e23 => rhs; whnf
        have e24 : vs 14 = _ := hT1 14 24 rfl
        conv at e24 => rhs; whnf
        have e25 : vs 15 = _ := hT1 15 25 rfl
        conv at e25 => rhs; whnf
        have e26 : vs 16 = _ := hT1 16 26 rfl
        conv at e26 => rhs; whnf
        have e27 : vs 17 = _ := hT1 17 27 rfl
        conv at e27 => rhs; whnf
        have e28 : vs 18 = _ := hT1 18 28 rfl
        conv at e28 => rhs; whnf
        have e29 : vs 19 = _ := hT1 19 29 rfl
        conv at e29 => rhs; whnf
        have e30 : vs 20 = _ := hT1 20 30 rfl
        conv at e30 => rhs; whnf
        have e31 : vs 21 = _ := hT1 21 31 rfl
        conv at e31 => rhs; whnf
        have e32 : vs 22 = _ := hT1 22 32 rfl
        conv at e32 => rhs; whnf
        have e33 : vs 23 = _ := hT1 23 33 rfl
        conv at e33 => rhs; whnf
        have e34 : vs 24 = _ := hT1 24 34 rfl
        conv at e34 => rhs; whnf
        have e35 : vs 25 = _ := hT1 25 35 rfl
        conv at e35 => rhs; whnf
        have e36 : vs 26 = _ := hT1 26 36 rfl
        conv at e36 => rhs; whnf
        have e37 : vs 27 = _ := hT1 27 37 rfl
        conv at e37 => rhs; whnf
        have e38 : vs 28 = _ := hT1 28 38 rfl
        conv at e38 => rhs; whnf
        have e39 : vs 29 = _ := hT1 29 39 rfl
        conv at e39 => rhs; whnf
        have e40 : vs 30 = _ := hT1 30 40 rfl
        conv at e40 => rhs; whnf
        have e41 : vs 31 = _ := hT1 31 41 rfl
        conv at e41 => rhs; whnf
        have e42 : vs 32 = _ := hT1 32 42 rfl
        conv at e42 => rhs; whnf
        have e43 : vs 33 = _ := hT1 33 43 rfl
        conv at e43 => rhs; whnf
        have e44 : vs 34 = _ := hT1 34 44 rfl
        conv at e44 => rhs; whnf
        have e45 : vs 35 = _ := hT1 35 45 rfl
        conv at e45 => rhs; whnf
        have e46 : vs 36 = _ := hT1 36 46 rfl
        conv at e46 => rhs; whnf
        have e47 : vs 37 = _ := hT1 37 47 rfl
        conv at e47 => rhs; whnf
        have e48 : vs 38 = _ := hT1 38 48 rfl
        conv at e48 => rhs; whnf
        have e49 : vs 39 = _ := hT1 39 49 rfl
        conv at e49 => rhs; whnf
        have e50 : vs 40 = _ := hT1 40 50 rfl
        conv at e50 => rhs; whnf
        have e51 : vs 41 = _ := hT1 41 51 rfl
        conv at e51 => rhs; whnf
        have e52 : vs 42 = _ := hT1 42 52 rfl
        conv at e52 => rhs; whnf
        simp only [putAll, List.drop_succ_cons, List.drop_zero, e10, e11, e12, e13, e14, e15, e16, e17, e18, e19, e20, e21, e22, e23, e24, e25, e26, e27, e28, e29, e30, e31, e32, e33, e34, e35, e36, e37, e38, e39, e40, e41, e42, e43, e44, e45, e46, e47, e48, e49, e50, e51, e52]
        clear hT1 e10 e11 e12 e13 e14 e15 e16 e17 e18 e19 e20 e21 e22 e23 e24 e25 e26 e27 e28 e29 e30 e31 e32 e33 e34 e35 e36 e37 e38 e39 e40 e41 e42 e43 e44 e45 e46 e47 e48 e49 e50 e51 e52
        go_simp
        go_wp2
        go_ret
        exact ⟨by rw [hno.out] <;> rfl, Below.tr (by (repeat (first | exact Below.refl _ _ | assumption | refine Below.al ?_ _ | refine Below.dr ?_ | (refine Below.st ?_ (by simp <;> omega) _) | (refine Below.tr ?_ (by assumption))))) hb1⟩
      | true =>
        cases h2 : inB (b j) 1 5 with
        | false =>
          clear hc hrow
          have hno := Lib.hid (poolB_no (show j < n from hlt) (show poolOk a b d j = false by simp [poolOk, h1, h2]))
          go_wp2
          refine wp_region_free (ds := [(0, 10), (1, 11), (2, 12), (3, 13), (4, 14), (5, 15), (6, 16), (7, 17), (8, 18), (9, 19), (10, 20), (11, 21), (12, 22), (13, 23), (14, 24), (15, 25), (16, 26), (17, 27), (18, 28), (19, 29), (20, 30), (21, 31), (22, 32), (23, 33), (24, 34), (25, 35), (26, 36), (27, 37), (28, 38), (29, 39), (30, 40), (31, 41), (32, 42), (33, 43), (34, 44), (35, 45), (36, 46), (37, 47), (38, 48), (39, 49), (40, 50), (41, 51), (42, 52)]) 43 (by kernel_rfl) (by kernel_rfl) (by first | exact .inl rfl | exact .inr (by kernel_rfl)) (by rfl) rfl rfl ?_
          apply free_is
          · intro a' w' hLe hfr hdep
            have e0 := hfr 0 rfl
            conv at e0 => rhs; whnf
            have f0 := e0; simp only [Array.getD_eq_getD_getElem?] at f0
            refine wpOp_plain rfl rfl (fun K hK => ?_)
            go_simp
            exact hK _ _ ⟨_, rfl, Below.refl _ _, rfl⟩
          apply free_is
          · intro a' w' hLe hfr hdep
            have e3 := hfr 3 rfl
            conv at e3 => rhs; whnf
            have f3 := e3; simp only [Array.getD_eq_getD_getElem?] at f3
            refine wpOp_plain rfl rfl (fun K hK => ?_)
            go_simp
            exact hK _ _ ⟨_, rfl, Below.refl _ _, rfl⟩
          apply free_is
          · intro a' w' hLe hfr hdep
            have e10 : a'.tmps.getD 10 undef = _ := hdep 0 10 (Nat.le_of_ble_eq_true rfl) rfl rfl
            conv at e10 => rhs; whnf
            have f10 := e10; simp only [Array.getD_eq_getD_getElem?] at f10
            have e11 : a'.tmps.getD 11 undef = _ := hdep 1 11 (Nat.le_of_ble_eq_true rfl) rfl rfl
            conv at e11 => rhs; whnf
            have f11 := e11; simp only [Array.getD_eq_getD_getElem?] at f11
            refine wpOp_plain rfl rfl (fun K hK => ?_)
            go_simp
            exact hK _ _ ⟨_, rfl, Below.refl _ _, rfl⟩
          apply free_is
          · intro a' w' hLe hfr hdep
            have e12 : a'.tmps.getD 12 undef = _ := hdep 2 12 (Nat.le_of_ble_eq_true rfl) rfl rfl
            conv at e12 => rhs; whnf
            have f12 := e12; simp only [Array.getD_eq_getD_getElem?] at f12
            refine wpOp_plain rfl rfl (fun K hK => ?_)
            go_simp
            exact hK _ _ ⟨_, rfl, Below.refl _ _, rfl⟩
          apply free_is
          · intro a' w' hLe hfr hdep
            have e13 : a'.tmps.getD 13 undef = _ := hdep 3 13 (Nat.le_of_ble_eq_true rfl) rfl rfl
            conv at e13 => rhs; whnf
            have f13 := e13; simp only [Array.getD_eq_getD_getElem?] at f13
            have kc := fun i => keepc hLe (bl) (by (try simp) <;> omega) i
            have kf := fun i => keepf hLe (bl) (by (try simp) <;> omega) i
            have kz : bl < w'.heap.size := (by have := hLe.size; (try simp at this); omega)
            refine wpOp_plain rfl rfl (fun K hK => ?_)
            go_simp
            exact hK _ _ ⟨_, rfl, Below.refl _ _, rfl⟩
          apply free_is
          · intro a' w' hLe hfr hdep
            have e14 : a'.tmps.getD 14 undef = _ := hdep 4 14 (Nat.le_of_ble_eq_true rfl) rfl rfl
            conv at e14 => rhs; whnf
            have f14 := e14; simp only [Array.getD_eq_getD_getElem?] at f14
            have kc := fun i => keepc hLe (bl) (by (try simp) <;> omega) i
            have kf := fun i => keepf hLe (bl) (by (try simp) <;> omega) i
            have kz : bl < w'.heap.size := (by have := hLe.size; (try simp at this); omega)
            refine wpOp_plain rfl rfl (fun K hK => ?_)
            go_simp
            refine (l1In_any _ _ _ _).mono ?_
            rintro e w2 ⟨rfl, rfl⟩
            exact hK _ _ ⟨_, rfl, Below.refl _ _, rfl⟩
          apply free_is
          · intro a' w' hLe hfr hdep
            have e15 : a'.tmps.getD 15 undef = _ := hdep 5 15 (Nat.le_of_ble_eq_true rfl) rfl rfl
            conv at e15 => rhs; whnf
            have f15 := e15; simp only [Array.getD_eq_getD_getElem?] at f15
            refine wpOp_plain rfl rfl (fun K hK => ?_)
            go_simp
            exact hK _ _ ⟨_, rfl, Below.refl _ _, rfl⟩
          apply free_is
          · intro a' w' hLe hfr hdep
            have e16 : a'.tmps.getD 16 undef = _ := hdep 6 16 (Nat.le_of_ble_eq_true rfl) rfl rfl
            conv at e16 => rhs; whnf
            have f16 := e16; simp only [Array.getD_eq_getD_getElem?] at f16
            refine wpOp_plain rfl rfl (fun K hK => ?_)
            go_simp
            exact hK _ _ ⟨_, rfl, Below.refl _ _, rfl⟩
          apply free_is
          · intro a' w' hLe hfr hdep
            have e17 : a'.tmps.getD 17 undef = _ := hdep 7 17 (Nat.le_of_ble_eq_true rfl) rfl rfl
            conv at e17 => rhs; whnf
            have f17 := e17; simp only [Array.getD_eq_getD_getElem?] at f17
            have e0 := hfr 0 rfl
            conv at e0 => rhs; whnf
            have f0 := e0; simp only [Array.getD_eq_getD_getElem?] at f0
            refine wpOp_yes rfl rfl rfl e17 (fun K hK => ?_)
            go_simp
            exact hK _ _ ⟨_, rfl, Below.refl _ _, rfl⟩
          apply free_is
          · intro a' w' hLe hfr hdep
            have e17 : a'.tmps.getD 17 undef = _ := hdep 7 17 (Nat.le_of_ble_eq_true rfl) rfl rfl
            conv at e17 => rhs; whnf
            have f17 := e17; simp only [Array.getD_eq_getD_getElem?] at f17
            have e3 := hfr 3 rfl
            conv at e3 => rhs; whnf
            have f3 := e3; simp only [Array.getD_eq_getD_getElem?] at f3
            refine wpOp_yes rfl rfl rfl e17 (fun K hK => ?_)
            go_simp
            exact hK _ _ ⟨_, rfl, Below.refl _ _, rfl⟩
          apply free_is
          · intro a' w' hLe hfr hdep
            have e17 : a'.tmps.getD 17 undef = _ := hdep 7 17 (Nat.le_of_ble_eq_true rfl) rfl rfl
            conv at e17 => rhs; whnf
            have f17 := e17; simp only [Array.getD_eq_getD_getElem?] at f17
            have e18 : a'.tmps.getD 18 undef = _ := hdep 8 18 (Nat.le_of_ble_eq_true rfl) rfl rfl
            conv at e18 => rhs; whnf
            have f18 := e18; simp only [Array.getD_eq_getD_getElem?] at f18
            have e19 : a'.tmps.getD 19 undef = _ := hdep 9 19 (Nat.le_of_ble_eq_true rfl) rfl rfl
            conv at e19 => rhs; whnf
            have f19 := e19; simp only [Array.getD_eq_getD_getElem?] at f19
            refine wpOp_yes rfl rfl rfl e17 (fun K hK => ?_)
            go_simp
            exact hK _ _ ⟨_, rfl, Below.refl _ _, rfl⟩
          apply free_is
          · intro a' w' hLe hfr hdep
            have e17 : a'.tmps.getD 17 undef = _ := hdep 7 17 (Nat.le_of_ble_eq_true rfl) rfl rfl
            conv at e17 => rhs; whnf
            have f17 := e17; simp only [Array.getD_eq_getD_getElem?] at f17
            have e20 : a'.tmps.getD 20 undef = _ := hdep 10 20 (Nat.le_of_ble_eq_true rfl) rfl rfl
            conv at e20 => rhs; whnf
            have f20 := e20; simp only [Array.getD_eq_getD_getElem?] at f20
            refine wpOp_yes rfl rfl rfl e17 (fun K hK => ?_)
            go_simp
            exact hK _ _ ⟨_, rfl, Below.refl _ _, rfl⟩
          apply free_is
          · intro a' w' hLe hfr hdep
            have e17 : a'.tmps.getD 17 undef = _ := hdep 7 17 (Nat.le_of_ble_eq_true rfl) rfl rfl
            conv at e17 => rhs; whnf
            have f17 := e17; simp only [Array.getD_eq_getD_getElem?] at f17
            have e21 : a'.tmps.getD 21 undef = _ := hdep 11 21 (Nat.le_of_ble_eq_true rfl) rfl rfl
            conv at e21 => rhs; whnf
            have f21 := e21; simp only [Array.getD_eq_getD_getElem?] at f21
            have kc := fun i => keepc hLe (bl) (by (try simp) <;> omega) i
            have kf := fun i => keepf hLe (bl) (by (try simp) <;> omega) i
            have kz : bl < w'.heap.size := (by have := hLe.size; (try simp at this); omega)
            refine wpOp_yes rfl rfl rfl e17 (fun K hK => ?_)
            go_simp
            exact hK _ _ ⟨_, rfl, Below.refl _ _, rfl⟩
          apply free_is
          · intro a' w' hLe hfr hdep
            have e17 : a'.tmps.getD 17 undef = _ := hdep 7 17 (Nat.le_of_ble_eq_true rfl) rfl rfl
            conv at e17 => rhs; whnf
            have f17 := e17; simp only [Array.getD_eq_getD_getElem?] at f17
            have e22 : a'.tmps.getD 22 undef = _ := hdep 12 22 (Nat.le_of_ble_eq_true rfl) rfl rfl
            conv at e22 => rhs; whnf
            have f22 := e22; simp only [Array.getD_eq_getD_getElem?] at f22
            have kc := fun i => keepc hLe (bl) (by (try simp) <;> omega) i
            have kf := fun i => keepf hLe (bl) (by (try simp) <;> omega) i
            have kz : bl < w'.heap.size := (by have := hLe.size; (try simp at this); omega)
            refine wpOp_yes rfl rfl rfl e17 (fun K hK => ?_)
            go_simp
            refine (l1In_any _ _ _ _).mono ?_
            rintro e w2 ⟨rfl, rfl⟩
            exact hK _ _ ⟨_, rfl, Below.refl _ _, rfl⟩
          apply free_is
          · intro a' w' hLe hfr hdep
            have e17 : a'.tmps.getD 17 undef = _ := hdep 7 17 (Nat.le_of_ble_eq_true rfl) rfl rfl
            conv at e17 => rhs; whnf
            have f17 := e17; simp only [Array.getD_eq_getD_getElem?] at f17
            have e23 : a'.tmps.getD 23 undef = _ := hdep 13 23 (Nat.le_of_ble_eq_true rfl) rfl rfl
            conv at e23 => rhs; whnf
            have f23 := e23; simp only [Array.getD_eq_getD_getElem?] at f23
            refine wpOp_yes rfl rfl rfl e17 (fun K hK => ?_)
            go_simp
            exact hK _ _ ⟨_, rfl, Below.refl _ _, rfl⟩
          apply free_is
          · intro a' w' hLe hfr hdep
            have e17 : a'.tmps.getD 17 undef = _ := hdep 7 17 (Nat.le_of_ble_eq_true rfl) rfl rfl
            conv at e17 => rhs; whnf
            have f17 := e17; simp only [Array.getD_eq_getD_getElem?] at f17
            have e24 : a'.tmps.getD 24 undef = _ := hdep 14 24 (Nat.le_of_ble_eq_true rfl) rfl rfl
            conv at e24 => rhs; whnf
            have f24 := e24; simp only [Array.getD_eq_getD_getElem?] at f24
            refine wpOp_plain rfl rfl (fun K hK => ?_)
            go_simp
            exact hK _ _ ⟨_, rfl, Below.refl _ _, rfl⟩
          apply free_is
          · intro a' w' hLe hfr hdep
            have e25 : a'.tmps.getD 25 undef = _ := hdep 15 25 (Nat.le_of_ble_eq_true rfl) rfl rfl
            conv at e25 => rhs; whnf
            have f25 := e25; simp only [Array.getD_eq_getD_getElem?] at f25
            refine wpOp_plain rfl rfl (fun K hK => ?_)
            go_simp
            exact hK _ _ ⟨_, rfl, Below.refl _ _, rfl⟩
          apply free_is
          · intro a' w' hLe hfr hdep
            have e26 : a'.tmps.getD 26 undef = _ := hdep 16 26 (Nat.le_of_ble_eq_true rfl) rfl rfl
            conv at e26 => rhs; whnf
            have f26 := e26; simp only [Array.getD_eq_getD_getElem?] at f26
            exact wpOp_no rfl rfl rfl e26 ⟨_, rfl, Below.refl _ _, rfl⟩
          apply free_is
          · intro a' w' hLe hfr hdep
            have e26 : a'.tmps.getD 26 undef = _ := hdep 16 26 (Nat.le_of_ble_eq_true rfl) rfl rfl
            conv at e26 => rhs; whnf
            have f26 := e26; simp only [Array.getD_eq_getD_getElem?] at f26
            exact wpOp_no rfl rfl rfl e26 ⟨_, rfl, Below.refl _ _, rfl⟩
          apply free_is
          · intro a' w' hLe hfr hdep
            have e26 : a'.tmps.getD 26 undef = _ := hdep 16 26 (Nat.le_of_ble_eq_true rfl) rfl rfl
            conv at e26 => rhs; whnf
            have f26 := e26; simp only [Array.getD_eq_getD_getElem?] at f26
            exact wpOp_no rfl rfl rfl e26 ⟨_, rfl, Below.refl _ _, rfl⟩
          apply free_is
          · intro a' w' hLe hfr hdep
            have e26 : a'.tmps.getD 26 undef = _ := hdep 16 26 (Nat.le_of_ble_eq_true rfl) rfl rfl
            conv at e26 => rhs; whnf
            have f26 := e26; simp only [Array.getD_eq_getD_getElem?] at f26
            exact wpOp_no rfl rfl rfl e26 ⟨_, rfl, Below.refl _ _, rfl⟩
          apply free_is
          · intro a' w' hLe hfr hdep
            have e26 : a'.tmps.getD 26 undef = _ := hdep 16 26 (Nat.le_of_ble_eq_true rfl) rfl rfl
            conv at e26 => rhs; whnf
            have f26 := e26; simp only [Array.getD_eq_getD_getElem?] at f26
            exact wpOp_no rfl rfl rfl e26 ⟨_, rfl, Below.refl _ _, rfl⟩
          apply free_is
          · intro a' w' hLe hfr hdep
            have e26 : a'.tmps.getD 26 undef = _ := hdep 16 26 (Nat.le_of_ble_eq_true rfl) rfl rfl
            conv at e26 => rhs; whnf
            have f26 := e26; simp only [Array.getD_eq_getD_getElem?] at f26
            exact wpOp_no rfl rfl rfl e26 ⟨_, rfl, Below.refl _ _, rfl⟩
          apply free_is
          · intro a' w' hLe hfr hdep
            have e26 : a'.tmps.getD 26 undef = _ := hdep 16 26 (Nat.le_of_ble_eq_true rfl) rfl rfl
            conv at e26 => rhs; whnf
            have f26 := e26; simp only [Array.getD_eq_getD_getElem?] at f26
            exact wpOp_no rfl rfl rfl e26 ⟨_, rfl, Below.refl _ _, rfl⟩
          apply free_is
          · intro a' w' hLe hfr hdep
            have e26 : a'.tmps.getD 26 undef = _ := hdep 16 26 (Nat.le_of_ble_eq_true rfl) rfl rfl
            conv at e26 => rhs; whnf
            have f26 := e26; simp only [Array.getD_eq_getD_getElem?] at f26
            have e33 : a'.tmps.getD 33 undef = _ := hdep 23 33 (Nat.le_of_ble_eq_true rfl) rfl rfl
            conv at e33 => rhs; whnf
            have f33 := e33; simp only [Array.getD_eq_getD_getElem?] at f33
            refine wpOp_plain rfl rfl (fun K hK => ?_)
            go_simp
            exact hK _ _ ⟨_, rfl, Below.refl _ _, rfl⟩
          apply free_is
          · intro a' w' hLe hfr hdep
            have e34 : a'.tmps.getD 34 undef = _ := hdep 24 34 (Nat.le_of_ble_eq_true rfl) rfl rfl
            conv at e34 => rhs; whnf
            have f34 := e34; simp only [Array.getD_eq_getD_getElem?] at f34
            refine wpOp_plain rfl rfl (fun K hK => ?_)
            go_simp
            exact hK _ _ ⟨_, rfl, Below.refl _ _, rfl⟩
          apply free_is
          · intro a' w' hLe hfr hdep
            have e35 : a'.tmps.getD 35 undef = _ := hdep 25 35 (Nat.le_of_ble_eq_true rfl) rfl rfl
            conv at e35 => rhs; whnf
            have f35 := e35; simp only [Array.getD_eq_getD_getElem?] at f35
            exact wpOp_no rfl rfl rfl e35 ⟨_, rfl, Below.refl _ _, rfl⟩
          apply free_is
          · intro a' w' hLe hfr hdep
            have e35 : a'.tmps.getD 35 undef = _ := hdep 25 35 (Nat.le_of_ble_eq_true rfl) rfl rfl
            conv at e35 => rhs; whnf
            have f35 := e35; simp only [Array.getD_eq_getD_getElem?] at f35
            exact wpOp_no rfl rfl rfl e35 ⟨_, rfl, Below.refl _ _, rfl⟩
          apply free_is
          · intro a' w' hLe hfr hdep
            have e35 : a'.tmps.getD 35 undef = _ := hdep 25 35 (Nat.le_of_ble_eq_true rfl) rfl rfl
            conv at e35 => rhs; whnf
            have f35 := e35; simp only [Array.getD_eq_getD_getElem?] at f35
            exact wpOp_no rfl rfl rfl e35 ⟨_, rfl, Below.refl _ _, rfl⟩
          apply free_is
          · intro a' w' hLe hfr hdep
            have e38 : a'.tmps.getD 38 undef = _ := hdep 28 38 (Nat.le_of_ble_eq_true rfl) rfl rfl
            conv at e38 => rhs; whnf
            have f38 := e38; simp only [Array.getD_eq_getD_getElem?] at f38
            exact wpOp_un rfl rfl rfl e38 ⟨_, rfl, Below.refl _ _, rfl⟩
          apply free_is
          · intro a' w' hLe hfr hdep
            have e38 : a'.tmps.getD 38 undef = _ := hdep 28 38 (Nat.le_of_ble_eq_true rfl) rfl rfl
            conv at e38 => rhs; whnf
            have f38 := e38; simp only [Array.getD_eq_getD_getElem?] at f38
            exact wpOp_un rfl rfl rfl e38 ⟨_, rfl, Below.refl _ _, rfl⟩
          apply free_is
          · intro a' w' hLe hfr hdep
            have e38 : a'.tmps.getD 38 undef = _ := hdep 28 38 (Nat.le_of_ble_eq_true rfl) rfl rfl
            conv at e38 => rhs; whnf
            have f38 := e38; simp only [Array.getD_eq_getD_getElem?] at f38
            exact wpOp_un rfl rfl rfl e38 ⟨_, rfl, Below.refl _ _, rfl⟩
          apply free_is
          · intro a' w' hLe hfr hdep
            have e38 : a'.tmps.getD 38 undef = _ := hdep 28 38 (Nat.le_of_ble_eq_true rfl) rfl rfl
            conv at e38 => rhs; whnf
            have f38 := e38; simp only [Array.getD_eq_getD_getElem?] at f38
            exact wpOp_un rfl rfl rfl e38 ⟨_, rfl, Below.refl _ _, rfl⟩
          apply free_is
          · intro a' w' hLe hfr hdep
            have e38 : a'.tmps.getD 38 undef = _ := hdep 28 38 (Nat.le_of_ble_eq_true rfl) rfl rfl
            conv at e38 => rhs; whnf
            have f38 := e38; simp only [Array.getD_eq_getD_getElem?] at f38
            exact wpOp_un rfl rfl rfl e38 ⟨_, rfl, Below.refl _ _, rfl⟩
          apply free_is
          · intro a' w' hLe hfr hdep
            have e38 : a'.tmps.getD 38 undef = _ := hdep 28 38 (Nat.le_of_ble_eq_true rfl) rfl rfl
            conv at e38 => rhs; whnf
            have f38 := e38; simp only [Array.getD_eq_getD_getElem?] at f38
            exact wpOp_un rfl rfl rfl e38 ⟨_, rfl, Below.refl _ _, rfl⟩
          apply free_is
          · intro a' w' hLe hfr hdep
            have e38 : a'.tmps.getD 38 undef = _ := hdep 28 38 (Nat.le_of_ble_eq_true rfl) rfl rfl
            conv at e38 => rhs; whnf
            have f38 := e38; simp only [Array.getD_eq_getD_getElem?] at f38
            exact wpOp_un rfl rfl rfl e38 ⟨_, rfl, Below.refl _ _, rfl⟩
          apply free_is
          · intro a' w' hLe hfr hdep
            have e38 : a'.tmps.getD 38 undef = _ := hdep 28 38 (Nat.le_of_ble_eq_true rfl) rfl rfl
            conv at e38 => rhs; whnf
            have f38 := e38; simp only [Array.getD_eq_getD_getElem?] at f38
            exact wpOp_un rfl rfl rfl e38 ⟨_, rfl, Below.refl _ _, rfl⟩
          apply free_is
          · intro a' w' hLe hfr hdep
            have e38 : a'.tmps.getD 38 undef = _ := hdep 28 38 (Nat.le_of_ble_eq_true rfl) rfl rfl
            conv at e38 => rhs; whnf
            have f38 := e38; simp only [Array.getD_eq_getD_getElem?] at f38
            exact wpOp_un rfl rfl rfl e38 ⟨_, rfl, Below.refl _ _, rfl⟩
          apply free_is
          · intro a' w' hLe hfr hdep
            have e38 : a'.tmps.getD 38 undef = _ := hdep 28 38 (Nat.le_of_ble_eq_true rfl) rfl rfl
            conv at e38 => rhs; whnf
            have f38 := e38; simp only [Array.getD_eq_getD_getElem?] at f38
            exact wpOp_un rfl rfl rfl e38 ⟨_, rfl, Below.refl _ _, rfl⟩
          apply free_is
          · intro a' w' hLe hfr hdep
            have e38 : a'.tmps.getD 38 undef = _ := hdep 28 38 (Nat.le_of_ble_eq_true rfl) rfl rfl
            conv at e38 => rhs; whnf
            have f38 := e38; simp only [Array.getD_eq_getD_getElem?] at f38
            exact wpOp_un rfl rfl rfl e38 ⟨_, rfl, Below.refl _ _, rfl⟩
          apply free_is
          · intro a' w' hLe hfr hdep
            have e38 : a'.tmps.getD 38 undef = _ := hdep 28 38 (Nat.le_of_ble_eq_true rfl) rfl rfl
            conv at e38 => rhs; whnf
            have f38 := e38; simp only [Array.getD_eq_getD_getElem?] at f38
            exact wpOp_un rfl rfl rfl e38 ⟨_, rfl, Below.refl _ _, rfl⟩
          apply free_is
          · intro a' w' hLe hfr hdep
            have e35 : a'.tmps.getD 35 undef = _ := hdep 25 35 (Nat.le_of_ble_eq_true rfl) rfl rfl
            conv at e35 => rhs; whnf
            have f35 := e35; simp only [Array.getD_eq_getD_getElem?] at f35
            exact wpOp_no rfl rfl rfl e35 ⟨_, rfl, Below.refl _ _, rfl⟩
          apply free_is
          · intro a' w' hLe hfr hdep
            have e35 : a'.tmps.getD 35 undef = _ := hdep 25 35 (Nat.le_of_ble_eq_true rfl) rfl rfl
            conv at e35 => rhs; whnf
            have f35 := e35; simp only [Array.getD_eq_getD_getElem?] at f35
            have e51 : a'.tmps.getD 51 undef = _ := hdep 41 51 (Nat.le_of_ble_eq_true rfl) rfl rfl
            conv at e51 => rhs; whnf
            have f51 := e51; simp only [Array.getD_eq_getD_getElem?] at f51
            refine wpOp_plain rfl rfl (fun K hK => ?_)
            go_simp
            exact hK _ _ ⟨_, rfl, Below.refl _ _, rfl⟩
          apply free_nil
          intro vs w1 hb1 hT1
          have e10 : vs 0 = _ := hT1 0 10 rfl
          conv at e10 => rhs; whnf
          have e11 : vs 1 = _ := hT1 1 11 rfl
          conv at e11 => rhs; whnf
          have e12 : vs 2 = _ := hT1 2 12 rfl
          conv at e12 => rhs; whnf
          have e13 : vs 3 = _ := hT1 3 13 rfl
          conv at e13 => rhs; whnf
          have e14 : vs 4 = _ := hT1 4 14 rfl
          conv at e14 => rhs; whnf
          have e15 : vs 5 = _ := hT1 5 15 rfl
          conv at e15 => rhs; whnf
          have e16 : vs 6 = _ := hT1 6 16 rfl
          conv at e16 => rhs; whnf
          have e17 : vs 7 = _ := hT1 7 17 rfl
          conv at e17 => rhs; whnf
          have e18 : vs 8 = _ := hT1 8 18 rfl
          conv at e18 => rhs; whnf
          have e19 : vs 9 = _ := hT1 9 19 rfl
          conv at e19 => rhs; whnf
          have e20 : vs 10 = _ := hT1 10 20 rfl
          conv at e20 => rhs; whnf
          have e21 : vs 11 = _ := hT1 11 21 rfl
          conv at e21 => rhs; whnf
          have e22 : vs 12 = _ := hT1 12 22 rfl
          conv at e22 => rhs; whnf
          have e23 : vs 13 = _ := hT1 13 23 rfl
          conv at e23 => rhs; whnf
          have e24 : vs 14 = _ := hT1 14 24 rfl
          conv at e24 => rhs; whnf
          have e25 : vs 15 = _ := hT1 15 25 rfl
          conv at e25 => rhs; whnf
          have e26 : vs 16 = _ := hT1 16 26 rfl
          conv at e26 => rhs; whnf
          have e27 : vs 17 = _ := hT1 17 27 rfl
          conv at e27 => rhs; whnf
          have e28 : vs 18 = _ := hT1 18 28 rfl
          conv at e28 => rhs; whnf
          have e29 : vs 19 = _ := hT1 19 29 rfl
          conv at e29 => rhs; whnf
          have e30 : vs 20 = _ := hT1 20 30 rfl
          conv at e30 => rhs; whnf
          have e31 : vs 21 = _ := hT1 21 31 rfl
          conv at e31 => rhs; whnf
          have e32 : vs 22 = _ := hT1 22 32 rfl
          conv at e32 => rhs; whnf
          have e33 : vs 23 = _ := hT1 23 33 rfl
          conv at e33 => rhs; whnf
          have e34 : vs 24 = _ := hT1 24 34 rfl
          conv at e34 => rhs; whnf
          have e35 : vs 25 = _ := hT1 25 35 rfl
          conv at e35 => rhs; whnf
          have e36 : vs 26 = _ := hT1 26 36 rfl
          conv at e36 => rhs; whnf
          have e37 : vs 27 = _ := hT1 27 37 rfl
          conv at e37 => rhs; whnf
          have e38 : vs 28 = _ := hT1 28 38 rfl
          conv at e38 => rhs; whnf
          have e39 : vs 29 = _ := hT1 29 39 rfl
          conv at e39 => rhs; whnf
          have e40 : vs 30 = _ := hT1 30 40 rfl
          conv at e40 => rhs; whnf
          have e41 : vs 31 = _ := hT1 31 41 rfl
          conv at e41 => rhs; whnf
          have e42 : vs 32 = _ := hT1 32 42 rfl
          conv at e42 => rhs; whnf
          have e43 : vs 33 = _ := hT1 33 43 rfl
          conv at e43 => rhs; whnf
          have e44 : vs 34 = _ := hT1 34 44 rfl
          conv at e44 => rhs; whnf
          have e45 : vs 35 = _ := hT1 35 45 rfl
          conv at e45 => rhs; whnf
          have e46 : vs 36 = _ := hT1 36 46 rfl
          conv at e46 => rhs; whnf
          have e47 : vs 37 = _ := hT1 37 47 rfl
          conv at e47 => rhs; whnf
          have e48 : vs 38 = _ := hT1 38 48 rfl
          conv at e48 => rhs; whnf
          have e49 : vs 39 = _ := hT1 39 49 rfl
          conv at e49 => rhs; whnf
          have e50 : vs 40 = _ := hT1 40 50 rfl
          conv at e50 => rhs; whnf
          have e51 : vs 41 = _ := hT1 41 51 rfl
          conv at e51 => rhs; whnf
          have e52 : vs 42 = _ := hT1 42 52 rfl
          conv at e52 => rhs; whnf
          simp only [putAll, List.drop_succ_cons, List.drop_zero, e10, e11, e12, e13, e14, e15, e16, e17, e18, e19, e20, e21, e22, e23, e24, e25, e26, e27, e28, e29, e30, e31, e32, e33, e34, e35, e36, e37, e38, e39, e40, e41, e42, e43, e44, e45, e46, e47, e48, e49, e50, e51, e52]
          clear hT1 e10 e11 e12 e13 e14 e15 e16 e17 e18 e19 e20 e21 e22 e23 e24 e25 e26 e27 e28 e29 e30 e31 e32 e33 e34 e35 e36 e37 e38 e39 e40 e41 e42 e43 e44 e45 e46 e47 e48 e49 e50 e51 e52
          go_simp
          go_wp2
          go_ret
          exact ⟨by rw [hno.out] <;> rfl, Below.tr (by (repeat (first | exact Below.refl _ _ | assumption | refine Below.al ?_ _ | refine Below.dr ?_ | (refine Below.st ?_ (by simp <;> omega) _) | (refine Below.tr ?_ (by assumption))))) hb1⟩
        | true =>
          cases h3 : inB (d j) 0 2 with
          | false =>
            clear hc hrow
            have hno := Lib.hid (poolB_no (show j < n from hlt) (show poolOk a b d j = false by simp [poolOk, h1, h2, h3]))
            go_wp2
            refine wp_region_free (ds := [(0, 10), (1, 11), (2, 12), (3, 13), (4, 14), (5, 15), (6, 16), (7, 17), (8, 18), (9, 19), (10, 20), (11, 21), (12, 22), (13, 23), (14, 24), (15, 25), (16, 26), (17, 27), (18, 28), (19, 29), (20, 30), (21, 31), (22, 32), (23, 33), (24, 34), (25, 35), (26, 36), (27, 37), (28, 38), (29, 39), (30, 40), (31, 41), (32, 42), (33, 43), (34, 44), (35, 45), (36, 46), (37, 47), (38, 48), (39, 49), (40, 50), (41, 51), (42, 52)]) 43 (by kernel_rfl) (by kernel_rfl) (by first | exact .inl rfl | exact .inr (by kernel_rfl)) (by rfl) rfl rfl ?_
            apply free_is
            · intro a' w' hLe hfr hdep
              have e0 := hfr 0 rfl
              conv at e0 => rhs; whnf
              have f0 := e0; simp only [Array.getD_eq_getD_getElem?] at f0
              refine wpOp_plain rfl rfl (fun K hK => ?_)
              go_simp
              exact hK _ _ ⟨_, rfl, Below.refl _ _, rfl⟩
            apply free_is
            · intro a' w' hLe hfr hdep
              have e3 := hfr 3 rfl
              conv at e3 => rhs; whnf
              have f3 := e3; simp only [Array.getD_eq_getD_getElem?] at f3
              refine wpOp_plain rfl rfl (fun K hK => ?_)
              go_simp
              exact hK _ _ ⟨_, rfl, Below.refl _ _, rfl⟩
            apply free_is
            · intro a' w' hLe hfr hdep
              have e10 : a'.tmps.getD 10 undef = _ := hdep 0 10 (Nat.le_of_ble_eq_true rfl) rfl rfl
              conv at e10 => rhs; whnf
              have f10 := e10; simp only [Array.getD_eq_getD_getElem?] at f10
              have e11 : a'.tmps.getD 11 undef = _ := hdep 1 11 (Nat.le_of_ble_eq_true rfl) rfl rfl
              conv at e11 => rhs; whnf
              have f11 := e11; simp only [Array.getD_eq_getD_getElem?] at f11
              refine wpOp_plain rfl rfl (fun K hK => ?_)
              go_simp
              exact hK _ _ ⟨_, rfl, Below.refl _ _, rfl⟩
            apply free_is
            · intro a' w' hLe hfr hdep
              have e12 : a'.tmps.getD 12 undef = _ := hdep 2 12 (Nat.le_of_ble_eq_true rfl) rfl rfl
              conv at e12 => rhs; whnf
              have f12 := e12; simp only [Array.getD_eq_getD_getElem?] at f12
              refine wpOp_plain rfl rfl (fun K hK => ?_)
              go_simp
              exact hK _ _ ⟨_, rfl, Below.refl _ _, rfl⟩
            apply free_is
            · intro a' w' hLe hfr hdep
              have e13 : a'.tmps.getD 13 undef = _ := hdep 3 13 (Nat.le_of_ble_eq_true rfl) rfl rfl
              conv at e13 => rhs; whnf
              have f13 := e13; simp only [Array.getD_eq_getD_getElem?] at f13
              have kc := fun i => keepc hLe (bl) (by (try simp) <;> omega) i
              have kf := fun i => keepf hLe (bl) (by (try simp) <;> omega) i
              have kz : bl < w'.heap.size := (by have := hLe.size; (try simp at this); omega)
              refine wpOp_plain rfl rfl (fun K hK => ?_)
              go_simp
              exact hK _ _ ⟨_, rfl, Below.refl _ _, rfl⟩
            apply free_is
            · intro a' w' hLe hfr hdep
              have e14 : a'.tmps.getD 14 undef = _ := hdep 4 14 (Nat.le_of_ble_eq_true rfl) rfl rfl
              conv at e14 => rhs; whnf
              have f14 := e14; simp only [Array.getD_eq_getD_getElem?] at f14
              have kc := fun i => keepc hLe (bl) (by (try simp) <;> omega) i
              have kf := fun i => keepf hLe (bl) (by (try simp) <;> omega) i
              have kz : bl < w'.heap.size := (by have := hLe.size; (try simp at this); omega)
              refine wpOp_plain rfl rfl (fun K hK => ?_)
              go_simp
              refine (l1In_any _ _ _ _).mono ?_
              rintro e w2 ⟨rfl, rfl⟩
              exact hK _ _ ⟨_, rfl, Below.refl _ _, rfl⟩
            apply free_is
            · intro a' w' hLe hfr hdep
              have e15 : a'.tmps.getD 15 undef = _ := hdep 5 15 (Nat.le_of_ble_eq_true rfl) rfl rfl
              conv at e15 => rhs; whnf
              have f15 := e15; simp only [Array.getD_eq_getD_getElem?] at f15
              refine wpOp_plain rfl rfl (fun K hK => ?_)
              go_simp
              exact hK _ _ ⟨_, rfl, Below.refl _ _, rfl⟩
            apply free_is
            · intro a' w' hLe hfr hdep
              have e16 : a'.tmps.getD 16 undef = _ := hdep 6 16 (Nat.le_of_ble_eq_true rfl) rfl rfl
              conv at e16 => rhs; whnf
              have f16 := e16; simp only [Array.getD_eq_getD_getElem?] at f16
              refine wpOp_plain rfl rfl (fun K hK => ?_)
              go_simp
              exact hK _ _ ⟨_, rfl, Below.refl _ _, rfl⟩
            apply free_is
            · intro a' w' hLe hfr hdep
              have e17 : a'.tmps.getD 17 undef = _ := hdep 7 17 (Nat.le_of_ble_eq_true rfl) rfl rfl
              conv at e17 => rhs; whnf
              have f17 := e17; simp only [Array.getD_eq_getD_getElem?] at f17
              have e0 := hfr 0 rfl
              conv at e0 => rhs; whnf
              have f0 := e0; simp only [Array.getD_eq_getD_getElem?] at f0
              refine wpOp_yes rfl rfl rfl e17 (fun K hK => ?_)
              go_simp
              exact hK _ _ ⟨_, rfl, Below.refl _ _, rfl⟩
            apply free_is
            · intro a' w' hLe hfr hdep
              have e17 : a'.tmps.getD 17 undef = _ := hdep 7 17 (Nat.le_of_ble_eq_true rfl) rfl rfl
              conv at e17 => rhs; whnf
              have f17 := e17; simp only [Array.getD_eq_getD_getElem?] at f17
              have e3 := hfr 3 rfl
              conv at e3 => rhs; whnf
              have f3 := e3; simp only [Array.getD_eq_getD_getElem?] at f3
              refine wpOp_yes rfl rfl rfl e17 (fun K hK => ?_)
              go_simp
              exact hK _ _ ⟨_, rfl, Below.refl _ _, rfl⟩
            apply free_is
            · intro a' w' hLe hfr hdep
              have e17 : a'.tmps.getD 17 undef = _ := hdep 7 17 (Nat.le_of_ble_eq_true rfl) rfl rfl
              conv at e17 => rhs; whnf
              have f17 := e17; simp only [Array.getD_eq_getD_getElem?] at f17
              have e18 : a'.tmps.getD 18 undef = _ := hdep 8 18 (Nat.le_of_ble_eq_true rfl) rfl rfl
              conv at e18 => rhs; whnf
              have f18 := e18; simp only [Array.getD_eq_getD_getElem?] at f18
              have e19 : a'.tmps.getD 19 undef = _ := hdep 9 19 (Nat.le_of_ble_eq_true rfl) rfl rfl
              conv at e19 => rhs; whnf
              have f19 := e19; simp only [Array.getD_eq_getD_getElem?] at f19
              refine wpOp_yes rfl rfl rfl e17 (fun K hK => ?_)
              go_simp
              exact hK _ _ ⟨_, rfl, Below.refl _ _, rfl⟩
            apply free_is
            · intro a' w' hLe hfr hdep
              have e17 : a'.tmps.getD 17 undef = _ := hdep 7 17 (Nat.le_of_ble_eq_true rfl) rfl rfl
              conv at e17 => rhs; whnf
              have f17 := e17; simp only [Array.getD_eq_getD_getElem?] at f17
              have e20 : a'.tmps.getD 20 undef = _ := hdep 10 20 (Nat.le_of_ble_eq_true rfl) rfl rfl
              conv at e20 => rhs; whnf
              have f20 := e20; simp only [Array.getD_eq_getD_getElem?] at f20
              refine wpOp_yes rfl rfl rfl e17 (fun K hK => ?_)
              go_simp
              exact hK _ _ ⟨_, rfl, Below.refl _ _, rfl⟩
            apply free_is
            · intro a' w' hLe hfr hdep
              have e17 : a'.tmps.getD 17 undef = _ := hdep 7 17 (Nat.le_of_ble_eq_true rfl) rfl rfl
              conv at e17 => rhs; whnf
              have f17 := e17; simp only [Array.getD_eq_getD_getElem?] at f17
              have e21 : a'.tmps.getD 21 undef = _ := hdep 11 21 (Nat.le_of_ble_eq_true rfl) rfl rfl
              conv at e21 => rhs; whnf
              have f21 := e21; simp only [Array.getD_eq_getD_getElem?] at f21
              have kc := fun i => keepc hLe (bl) (by (try simp) <;> omega) i
              have kf := fun i => keepf hLe (bl) (by (try simp) <;> omega) i
              have kz : bl < w'.heap.size := (by have := hLe.size; (try simp at this); omega)
              refine wpOp_yes rfl rfl rfl e17 (fun K hK => ?_)
              go_simp
              exact hK _ _ ⟨_, rfl, Below.refl _ _, rfl⟩
            apply free_is
            · intro a' w' hLe hfr hdep
              have e17 : a'.tmps.getD 17 undef = _ := hdep 7 17 (Nat.le_of_ble_eq_true rfl) rfl rfl
              conv at e17 => rhs; whnf
              have f17 := e17; simp only [Array.getD_eq_getD_getElem?] at f17
              have e22 : a'.tmps.getD 22 undef = _ := hdep 12 22 (Nat.le_of_ble_eq_true rfl) rfl rfl
              conv at e22 => rhs; whnf
              have f22 := e22; simp only [Array.getD_eq_getD_getElem?] at f22
              have kc := fun i => keepc hLe (bl) (by (try simp) <;> omega) i
              have kf := fun i => keepf hLe (bl) (by (try simp) <;> omega) i
              have kz : bl < w'.heap.size := (by have := hLe.size; (try simp at this); omega)
              refine wpOp_yes rfl rfl rfl e17 (fun K hK => ?_)
              go_simp
              refine (l1In_any _ _ _ _).mono ?_
              rintro e w2 ⟨rfl, rfl⟩
              exact hK _ _ ⟨_, rfl, Below.refl _ _, rfl⟩
            apply free_is
            · intro a' w' hLe hfr hdep
              have e17 : a'.tmps.getD 17 undef = _ := hdep 7 17 (Nat.le_of_ble_eq_true rfl) rfl rfl
              conv at e17 => rhs; whnf
              have f17 := e17; simp only [Array.getD_eq_getD_getElem?] at f17
              have e23 : a'.tmps.getD 23 undef = _ := hdep 13 23 (Nat.le_of_ble_eq_true rfl) rfl rfl
              conv at e23 => rhs; whnf
              have f23 := e23; simp only [Array.getD_eq_getD_getElem?] at f23
              refine wpOp_yes rfl rfl rfl e17 (fun K hK => ?_)
              go_simp
              exact hK _ _ ⟨_, rfl, Below.refl _ _, rfl⟩
            apply free_is
            · intro a' w' hLe hfr hdep
              have e17 : a'.tmps.getD 17 undef = _ := hdep 7 17 (Nat.le_of_ble_eq_true rfl) rfl rfl
              conv at e17 => rhs; whnf
              have f17 := e17; simp only [Array.getD_eq_getD_getElem?] at f17
              have e24 : a'.tmps.getD 24 undef = _ := hdep 14 24 (Nat.le_of_ble_eq_true rfl) rfl rfl
              conv at e24 => rhs; whnf
              have f24 := e24; simp only [Array.getD_eq_getD_getElem?] at f24
              refine wpOp_plain rfl rfl (fun K hK => ?_)
              go_simp
              exact hK _ _ ⟨_, rfl, Below.refl _ _, rfl⟩
            apply free_is
            · intro a' w' hLe hfr hdep
              have e25 : a'.tmps.getD 25 undef = _ := hdep 15 25 (Nat.le_of_ble_eq_true rfl) rfl rfl
              conv at e25 => rhs; whnf
              have f25 := e25; simp only [Array.getD_eq_getD_getElem?] at f25
              refine wpOp_plain rfl rfl (fun K hK => ?_)
              go_simp
              exact hK _ _ ⟨_, rfl, Below.refl _ _, rfl⟩
            apply free_is
            · intro a' w' hLe hfr hdep
              have e26 : a'.tmps.getD 26 undef = _ := hdep 16 26 (Nat.le_of_ble_eq_true rfl) rfl rfl
              conv at e26 => rhs; whnf
              have f26 := e26; simp only [Array.getD_eq_getD_getElem?] at f26
              have e0 := hfr 0 rfl
              conv at e0 => rhs; whnf
              have f0 := e0; simp only [Array.getD_eq_getD_getElem?] at f0
              refine wpOp_yes rfl rfl rfl e26 (fun K hK => ?_)
              go_simp
              exact hK _ _ ⟨_, rfl, Below.refl _ _, rfl⟩
            apply free_is
            · intro a' w' hLe hfr hdep
              have e26 : a'.tmps.getD 26 undef = _ := hdep 16 26 (Nat.le_of_ble_eq_true rfl) rfl rfl
              conv at e26 => rhs; whnf
              have f26 := e26; simp only [Array.getD_eq_getD_getElem?] at f26
              have e3 := hfr 3 rfl
              conv at e3 => rhs; whnf
              have f3 := e3; simp only [Array.getD_eq_getD_getElem?] at f3
              refine wpOp_yes rfl rfl rfl e26 (fun K hK => ?_)
              go_simp
              exact hK _ _ ⟨_, rfl, Below.refl _ _, rfl⟩
            apply free_is
            · intro a' w' hLe hfr hdep
              have e26 : a'.tmps.getD 26 undef = _ := hdep 16 26 (Nat.le_of_ble_eq_true rfl) rfl rfl
              conv at e26 => rhs; whnf
              have f26 := e26; simp only [Array.getD_eq_getD_getElem?] at f26
              have e27 : a'.tmps.getD 27 undef = _ := hdep 17 27 (Nat.le_of_ble_eq_true rfl) rfl rfl
              conv at e27 => rhs; whnf
              have f27 := e27; simp only [Array.getD_eq_getD_getElem?] at f27
              have e28 : a'.tmps.getD 28 undef = _ := hdep 18 28 (Nat.le_of_ble_eq_true rfl) rfl rfl
              conv at e28 => rhs; whnf
              have f28 := e28; simp only [Array.getD_eq_getD_getElem?] at f28
              refine wpOp_yes rfl rfl rfl e26 (fun K hK => ?_)
              go_simp
              exact hK _ _ ⟨_, rfl, Below.refl _ _, rfl⟩
            apply free_is
            · intro a' w' hLe hfr hdep
              have e26 : a'.tmps.getD 26 undef = _ := hdep 16 26 (Nat.le_of_ble_eq_true rfl) rfl rfl
              conv at e26 => rhs; whnf
              have f26 := e26; simp only [Array.getD_eq_getD_getElem?] at f26
              have e29 : a'.tmps.getD 29 undef = _ := hdep 19 29 (Nat.le_of_ble_eq_true rfl) rfl rfl
              conv at e29 => rhs; whnf
              have f29 := e29; simp only [Array.getD_eq_getD_getElem?] at f29
              refine wpOp_yes rfl rfl rfl e26 (fun K hK => ?_)
              go_simp
              exact hK _ _ ⟨_, rfl, Below.refl _ _, rfl⟩
            apply free_is
            · intro a' w' hLe hfr hdep
              have e26 : a'.tmps.getD 26 undef = _ := hdep 16 26 (Nat.le_of_ble_eq_true rfl) rfl rfl
              conv at e26 => rhs; whnf
              have f26 := e26; simp only [Array.getD_eq_getD_getElem?] at f26
              have e30 : a'.tmps.getD 30 undef = _ := hdep 20 30 (Nat.le_of_ble_eq_true rfl) rfl rfl
              conv at e30 => rhs; whnf
              have f30 := e30; simp only [Array.getD_eq_getD_getElem?] at f30
              have kc := fun i => keepc hLe (bl) (by (try simp) <;> omega) i
              have kf := fun i => keepf hLe (bl) (by (try simp) <;> omega) i
              have kz : bl < w'.heap.size := (by have := hLe.size; (try simp at this); omega)
              refine wpOp_yes rfl rfl rfl e26 (fun K hK => ?_)
              go_simp
              exact hK _ _ ⟨_, rfl, Below.refl _ _, rfl⟩
            apply free_is
            · intro a' w' hLe hfr hdep
              have e26 : a'.tmps.getD 26 undef = _ := hdep 16 26 (Nat.le_of_ble_eq_true rfl) rfl rfl
              conv at e26 => rhs; whnf
              have f26 := e26; simp only [Array.getD_eq_getD_getElem?] at f26
              have e31 : a'.tmps.getD 31 undef = _ := hdep 21 31 (Nat.le_of_ble_eq_true rfl) rfl rfl
              conv at e31 => rhs; whnf
              have f31 := e31; simp only [Array.getD_eq_getD_getElem?] at f31
              have kc := fun i => keepc hLe (bl) (by (try simp) <;> omega) i
              have kf := fun i => keepf hLe (bl) (by (try simp) <;> omega) i
              have kz : bl < w'.heap.size := (by have := hLe.size; (try simp at this); omega)
              refine wpOp_yes rfl rfl rfl e26 (fun K hK => ?_)
              go_simp
              refine (l1In_any _ _ _ _).mono ?_
              rintro e w2 ⟨rfl, rfl⟩
              exact hK _ _ ⟨_, rfl, Below.refl _ _, rfl⟩
            apply free_is
            · intro a' w' hLe hfr hdep
              have e26 : a'.tmps.getD 26 undef = _ := hdep 16 26 (Nat.le_of_ble_eq_true rfl) rfl rfl
              conv at e26 => rhs; whnf
              have f26 := e26; simp only [Array.getD_eq_getD_getElem?] at f26
              have e32 : a'.tmps.getD 32 undef = _ := hdep 22 32 (Nat.le_of_ble_eq_true rfl) rfl rfl
              conv at e32 => rhs; whnf
              have f32 := e32; simp only [Array.getD_eq_getD_getElem?] at f32
              refine wpOp_yes rfl rfl rfl e26 (fun K hK => ?_)
              go_simp
              exact hK _ _ ⟨_, rfl, Below.refl _ _, rfl⟩
            apply free_is
            · intro a' w' hLe hfr hdep
              have e26 : a'.tmps.getD 26 undef = _ := hdep 16 26 (Nat.le_of_ble_eq_true rfl) rfl rfl
              conv at e26 => rhs; whnf
              have f26 := e26; simp only [Array.getD_eq_getD_getElem?] at f26
              have e33 : a'.tmps.getD 33 undef = _ := hdep 23 33 (Nat.le_of_ble_eq_true rfl) rfl rfl
              conv at e33 => rhs; whnf
              have f33 := e33; simp only [Array.getD_eq_getD_getElem?] at f33
              refine wpOp_plain rfl rfl (fun K hK => ?_)
              go_simp
              exact hK _ _ ⟨_, rfl, Below.refl _ _, rfl⟩
            apply free_is
            · intro a' w' hLe hfr hdep
              have e34 : a'.tmps.getD 34 undef = _ := hdep 24 34 (Nat.le_of_ble_eq_true rfl) rfl rfl
              conv at e34 => rhs; whnf
              have f34 := e34; simp only [Array.getD_eq_getD_getElem?] at f34
              refine wpOp_plain rfl rfl (fun K hK => ?_)
              go_simp
              exact hK _ _ ⟨_, rfl, Below.refl _ _, rfl⟩
            apply free_is
            · intro a' w' hLe hfr hdep
              have e35 : a'.tmps.getD 35 undef = _ := hdep 25 35 (Nat.le_of_ble_eq_true rfl) rfl rfl
              conv at e35 => rhs; whnf
              have f35 := e35; simp only [Array.getD_eq_getD_getElem?] at f35
              exact wpOp_no rfl rfl rfl e35 ⟨_, rfl, Below.refl _ _, rfl⟩
            apply free_is
            · intro a' w' hLe hfr hdep
              have e35 : a'.tmps.getD 35 undef = _ := hdep 25 35 (Nat.le_of_ble_eq_true rfl) rfl rfl
              conv at e35 => rhs; whnf
              have f35 := e35; simp only [Array.getD_eq_getD_getElem?] at f35
              exact wpOp_no rfl rfl rfl e35 ⟨_, rfl, Below.refl _ _, rfl⟩
            apply free_is
            · intro a' w' hLe hfr hdep
              have e35 : a'.tmps.getD 35 undef = _ := hdep 25 35 (Nat.le_of_ble_eq_true rfl) rfl rfl
              conv at e35 => rhs; whnf
              have f35 := e35; simp only [Array.getD_eq_getD_getElem?] at f35
              exact wpOp_no rfl rfl rfl e35 ⟨_, rfl, Below.refl _ _, rfl⟩
            apply free_is
            · intro a' w' hLe hfr hdep
              have e38 : a'.tmps.getD 38 undef = _ := hdep 28 38 (Nat.le_of_ble_eq_true rfl) rfl rfl
              conv at e38 => rhs; whnf
              have f38 := e38; simp only [Array.getD_eq_getD_getElem?] at f38
              exact wpOp_un rfl rfl rfl e38 ⟨_, rfl, Below.refl _ _, rfl⟩
            apply free_is
            · intro a' w' hLe hfr hdep
              have e38 : a'.tmps.getD 38 undef = _ := hdep 28 38 (Nat.le_of_ble_eq_true rfl) rfl rfl
              conv at e38 => rhs; whnf
              have f38 := e38; simp only [Array.getD_eq_getD_getElem?] at f38
              exact wpOp_un rfl rfl rfl e38 ⟨_, rfl, Below.refl _ _, rfl⟩
            apply free_is
            · intro a' w' hLe hfr hdep
              have e38 : a'.tmps.getD 38 undef = _ := hdep 28 38 (Nat.le_of_ble_eq_true rfl) rfl rfl
              conv at e38 => rhs; whnf
              have f38 := e38; simp only [Array.getD_eq_getD_getElem?] at f38
              exact wpOp_un rfl rfl rfl e38 ⟨_, rfl, Below.refl _ _, rfl⟩
            apply free_is
            · intro a' w' hLe hfr hdep
              have e38 : a'.tmps.getD 38 undef = _ := hdep 28 38 (Nat.le_of_ble_eq_true rfl) rfl rfl
              conv at e38 => rhs; whnf
              have f38 := e38; simp only [Array.getD_eq_getD_getElem?] at f38
              exact wpOp_un rfl rfl rfl e38 ⟨_, rfl, Below.refl _ _, rfl⟩
            apply free_is
            · intro a' w' hLe hfr hdep
              have e38 : a'.tmps.getD 38 undef = _ := hdep 28 38 (Nat.le_of_ble_eq_true rfl) rfl rfl
              conv at e38 => rhs; whnf
              have f38 := e38; simp only [Array.getD_eq_getD_getElem?] at f38
              exact wpOp_un rfl rfl rfl e38 ⟨_, rfl, Below.refl _ _, rfl⟩
            apply free_is
            · intro a' w' hLe hfr hdep
              have e38 : a'.tmps.getD 38 undef = _ := hdep 28 38 (Nat.le_of_ble_eq_true rfl) rfl rfl
              conv at e38 => rhs; whnf
              have f38 := e38; simp only [Array.getD_eq_getD_getElem?] at f38
              exact wpOp_un rfl rfl rfl e38 ⟨_, rfl, Below.refl _ _, rfl⟩
            apply free_is
            · intro a' w' hLe hfr hdep
              have e38 : a'.tmps.getD 38 undef = _ := hdep 28 38 (Nat.le_of_ble_eq_true rfl) rfl rfl
              conv at e38 => rhs; whnf
              have f38 := e38; simp only [Array.getD_eq_getD_getElem?] at f38
              exact wpOp_un rfl rfl rfl e38 ⟨_, rfl, Below.refl _ _, rfl⟩
            apply free_is
            · intro a' w' hLe hfr hdep
              have e38 : a'.tmps.getD 38 undef = _ := hdep 28 38 (Nat.le_of_ble_eq_true rfl) rfl rfl
              conv at e38 => rhs; whnf
              have f38 := e38; simp only [Array.getD_eq_getD_getElem?] at f38
              exact wpOp_un rfl rfl rfl e38 ⟨_, rfl, Below.refl _ _, rfl⟩
            apply free_is
            · intro a' w' hLe hfr hdep
              have e38 : a'.tmps.getD 38 undef = _ := hdep 28 38 (Nat.le_of_ble_eq_true rfl) rfl rfl
              conv at e38 => rhs; whnf
              have f38 := e38; simp only [Array.getD_eq_getD_getElem?] at f38
              exact wpOp_un rfl rfl rfl e38 ⟨_, rfl, Below.refl _ _, rfl⟩
            apply free_is
            · intro a' w' hLe hfr hdep
              have e38 : a'.tmps.getD 38 undef = _ := hdep 28 38 (Nat.le_of_ble_eq_true rfl) rfl rfl
              conv at e38 => rhs; whnf
              have f38 := e38; simp only [Array.getD_eq_getD_getElem?] at f38
              exact wpOp_un rfl rfl rfl e38 ⟨_, rfl, Below.refl _ _, rfl⟩
            apply free_is
            · intro a' w' hLe hfr hdep
              have e38 : a'.tmps.getD 38 undef = _ := hdep 28 38 (Nat.le_of_ble_eq_true rfl) rfl rfl
              conv at e38 => rhs; whnf
              have f38 := e38; simp only [Array.getD_eq_getD_getElem?] at f38
              exact wpOp_un rfl rfl rfl e38 ⟨_, rfl, Below.refl _ _, rfl⟩
            apply free_is
            · intro a' w' hLe hfr hdep
              have e38 : a'.tmps.getD 38 undef = _ := hdep 28 38 (Nat.le_of_ble_eq_true rfl) rfl rfl
              conv at e38 => rhs; whnf
              have f38 := e38; simp only [Array.getD_eq_getD_getElem?] at f38
              exact wpOp_un rfl rfl rfl e38 ⟨_, rfl, Below.refl _ _, rfl⟩
            apply free_is
            · intro a' w' hLe hfr hdep
              have e35 : a'.tmps.getD 35 undef = _ := hdep 25 35 (Nat.le_of_ble_eq_true rfl) rfl rfl
              conv at e35 => rhs; whnf
              have f35 := e35; simp only [Array.getD_eq_getD_getElem?] at f35
              exact wpOp_no rfl rfl rfl e35 ⟨_, rfl, Below.refl _ _, rfl⟩
            apply free_is
            · intro a' w' hLe hfr hdep
              have e35 : a'.tmps.getD 35 undef = _ := hdep 25 35 (Nat.le_of_ble_eq_true rfl) rfl rfl
              conv at e35 => rhs; whnf
              have f35 := e35; simp only [Array.getD_eq_getD_getElem?] at f35
              have e51 : a'.tmps.getD 51 undef = _ := hdep 41 51 (Nat.le_of_ble_eq_true rfl) rfl rfl
              conv at e51 => rhs; whnf
              have f51 := e51; simp only [Array.getD_eq_getD_getElem?] at f51
              refine wpOp_plain rfl rfl (fun K hK => ?_)
              go_simp
              exact hK _ _ ⟨_, rfl, Below.refl _ _, rfl⟩
            apply free_nil
            intro vs w1 hb1 hT1
            have e10 : vs 0 = _ := hT1 0 10 rfl
            conv at e10 => rhs; whnf
            have e11 : vs 1 = _ := hT1 1 11 rfl
            conv at e11 => rhs; whnf
            have e12 : vs 2 = _ := hT1 2 12 rfl
            conv at e12 => rhs; whnf
            have e13 : vs 3 = _ := hT1 3 13 rfl
            conv at e13 => rhs; whnf
            have e14 : vs 4 = _ := hT1 4 14 rfl
            conv at e14 => rhs; whnf
            have e15 : vs 5 = _ := hT1 5 15 rfl
            conv at e15 => rhs; whnf
            have e16 : vs 6 = _ := hT1 6 16 rfl
            conv at e16 => rhs; whnf
            have e17 : vs 7 = _ := hT1 7 17 rfl
            conv at e17 => rhs; whnf
            have e18 : vs 8 = _ := hT1 8 18 rfl
            conv at e18 => rhs; whnf
            have e19 : vs 9 = _ := hT1 9 19 rfl
            conv at e19 => rhs; whnf
            have e20 : vs 10 = _ := hT1 10 20 rfl
            conv at e20 => rhs; whnf
            have e21 : vs 11 = _ := hT1 11 21 rfl
            conv at e21 => rhs; whnf
            have e22 : vs 12 = _ := hT1 12 22 rfl
            conv at e22 => rhs; whnf
            have e23 : vs 13 = _ := hT1 13 23 rfl
            conv at e23 => rhs; whnf
            have e24 : vs 14 = _ := hT1 14 24 rfl
            conv at e24 => rhs; whnf
            have e25 : vs 15 = _ := hT1 15 25 rfl
            conv at e25 => rhs; whnf
            have e26 : vs 16 = _ := hT1 16 26 rfl
            conv at e26 => rhs; whnf
            have e27 : vs 17 = _ := hT1 17 27 rfl
            conv at e27 => rhs; whnf
            have e28 : vs 18 = _ := hT1 18 28 rfl
            conv at e28 => rhs; whnf
            have e29 : vs 19 = _ := hT1 19 29 rfl
            conv at e29 => rhs; whnf
            have e30 : vs 20 = _ := hT1 20 30 rfl
            conv at e30 => rhs; whnf
            have e31 : vs 21 = _ := hT1 21 31 rfl
            conv at e31 => rhs; whnf
            have e32 : vs 22 = _ := hT1 22 32 rfl
            conv at e32 => rhs; whnf
            have e33 : vs 23 = _ := hT1 23 33 rfl
            conv at e33 => rhs; whnf
            have e34 : vs 24 = _ := hT1 24 34 rfl
            conv at e34 => rhs; whnf
            have e35 : vs 25 = _ := hT1 25 35 rfl
            conv at e35 => rhs; whnf
            have e36 : vs 26 = _ := hT1 26 36 rfl
            conv at e36 => rhs; whnf
            have e37 : vs 27 = _ := hT1 27 37 rfl
            conv at e37 => rhs; whnf
            have e38 : vs 28 = _ := hT1 28 38 rfl
            conv at e38 => rhs; whnf
            have e39 : vs 29 = _ := hT1 29 39 rfl
            conv at e39 => rhs; whnf
            have e40 : vs 30 = _ := hT1 30 40 rfl
            conv at e40 => rhs; whnf
            have e41 : vs 31 = _ := hT1 31 41 rfl
            conv at e41 => rhs; whnf
            have e42 : vs 32 = _ := hT1 32 42 rfl
            conv at e42 => rhs; whnf
            have e43 : vs 33 = _ := hT1 33 43 rfl
            conv at e43 => rhs; whnf
            have e44 : vs 34 = _ := hT1 34 44 rfl
            conv at e44 => rhs; whnf
            have e45 : vs 35 = _ := hT1 35 45 rfl
            conv at e45 => rhs; whnf
            have e46 : vs 36 = _ := hT1 36 46 rfl
            conv at e46 => rhs; whnf
            have e47 : vs 37 = _ := hT1 37 47 rfl
            conv at e47 => rhs; whnf
            have e48 : vs 38 = _ := hT1 38 48 rfl
            conv at e48 => rhs; whnf
            have e49 : vs 39 = _ := hT1 39 49 rfl
            conv at e49 => rhs; whnf
            have e50 : vs 40 = _ := hT1 40 50 rfl
            conv at e50 => rhs; whnf
            have e51 : vs 41 = _ := hT1 41 51 rfl
            conv at e51 => rhs; whnf
            have e52 : vs 42 = _ := hT1 42 52 rfl
            conv at e52 => rhs; whnf
            simp only [putAll, List.drop_succ_cons, List.drop_zero, e10, e11, e12, e13, e14, e15, e16, e17, e18, e19, e20, e21, e22, e23, e24, e25, e26, e27, e28, e29, e30, e31, e32, e33, e34, e35, e36, e37, e38, e39, e40, e41, e42, e43, e44, e45, e46, e47, e48, e49, e50, e51, e52]
            clear hT1 e10 e11 e12 e13 e14 e15 e16 e17 e18 e19 e20 e21 e22 e23 e24 e25 e26 e27 e28 e29 e30 e31 e32 e33 e34 e35 e36 e37 e38 e39 e40 e41 e42 e43 e44 e45 e46 e47 e48 e49 e50 e51 e52
            go_simp
            go_wp2
            go_ret
            exact ⟨by rw [hno.out] <;> rfl, Below.tr (by (repeat (first | exact Below.refl _ _ | assumption | refine Below.al ?_ _ | refine Below.dr ?_ | (refine Below.st ?_ (by simp <;> omega) _) | (refine Below.tr ?_ (by assumption))))) hb1⟩
          | true =>
            rcases Nat.eq_zero_or_pos j with rfl | hpos
            · clear hc hrow
              simp only [Nat.zero_mul, Nat.add_zero] at q0 q1 q2
              have hno := Lib.hid (show poolOk a b d 0 = true by simp [poolOk, h1, h2, h3])
              go_wp2
              refine wp_region_free (ds := [(0, 10), (1, 11), (2, 12), (3, 13), (4, 14), (5, 15), (6, 16), (7, 17), (8, 18), (9, 19), (10, 20), (11, 21), (12, 22), (13, 23), (14, 24), (15, 25), (16, 26), (17, 27), (18, 28), (19, 29), (20, 30), (21, 31), (22, 32), (23, 33), (24, 34), (25, 35), (26, 36), (27, 37), (28, 38), (29, 39), (30, 40), (31, 41), (32, 42), (33, 43), (34, 44), (35, 45), (36, 46), (37, 47), (38, 48), (39, 49), (40, 50), (41, 51), (42, 52)]) 43 (by kernel_rfl) (by kernel_rfl) (by first | exact .inl rfl | exact .inr (by kernel_rfl)) (by rfl) rfl rfl ?_
              apply free_is
              · intro a' w' hLe hfr hdep
                have e0 := hfr 0 rfl
                conv at e0 => rhs; whnf
                have f0 := e0; simp only [Array.getD_eq_getD_getElem?] at f0
                refine wpOp_plain rfl rfl (fun K hK => ?_)
                go_simp
                exact hK _ _ ⟨_, rfl, Below.refl _ _, rfl⟩
              apply free_is
              · intro a' w' hLe hfr hdep
                have e3 := hfr 3 rfl
                conv at e3 => rhs; whnf
                have f3 := e3; simp only [Array.getD_eq_getD_getElem?] at f3
                refine wpOp_plain rfl rfl (fun K hK => ?_)
                go_simp
                exact hK _ _ ⟨_, rfl, Below.refl _ _, rfl⟩
              apply free_is
              · intro a' w' hLe hfr hdep
                have e10 : a'.tmps.getD 10 undef = _ := hdep 0 10 (Nat.le_of_ble_eq_true rfl) rfl rfl
                conv at e10 => rhs; whnf
                have f10 := e10; simp only [Array.getD_eq_getD_getElem?] at f10
                have e11 : a'.tmps.getD 11 undef = _ := hdep 1 11 (Nat.le_of_ble_eq_true rfl) rfl rfl
                conv at e11 => rhs; whnf
                have f11 := e11; simp only [Array.getD_eq_getD_getElem?] at f11
                refine wpOp_plain rfl rfl (fun K hK => ?_)
                go_simp
                exact hK _ _ ⟨_, rfl, Below.refl _ _, rfl⟩
              apply free_is
              · intro a' w' hLe hfr hdep
                have e12 : a'.tmps.getD 12 undef = _ := hdep 2 12 (Nat.le_of_ble_eq_true rfl) rfl rfl
                conv at e12 => rhs; whnf
                have f12 := e12; simp only [Array.getD_eq_getD_getElem?] at f12
                refine wpOp_plain rfl rfl (fun K hK => ?_)
                go_simp
                exact hK _ _ ⟨_, rfl, Below.refl _ _, rfl⟩
              apply free_is
              · intro a' w' hLe hfr hdep
                have e13 : a'.tmps.getD 13 undef = _ := hdep 3 13 (Nat.le_of_ble_eq_true rfl) rfl rfl
                conv at e13 => rhs; whnf
                have f13 := e13; simp only [Array.getD_eq_getD_getElem?] at f13
                have kc := fun i => keepc hLe (bl) (by (try simp) <;> omega) i
                have kf := fun i => keepf hLe (bl) (by (try simp) <;> omega) i
                have kz : bl < w'.heap.size := (by have := hLe.size; (try simp at this); omega)
                refine wpOp_plain rfl rfl (fun K hK => ?_)
                go_simp
                exact hK _ _ ⟨_, rfl, Below.refl _ _, rfl⟩
              apply free_is
              · intro a' w' hLe hfr hdep
                have e14 : a'.tmps.getD 14 undef = _ := hdep 4 14 (Nat.le_of_ble_eq_true rfl) rfl rfl
                conv at e14 => rhs; whnf
                have f14 := e14; simp only [Array.getD_eq_getD_getElem?] at f14
                have kc := fun i => keepc hLe (bl) (by (try simp) <;> omega) i
                have kf := fun i => keepf hLe (bl) (by (try simp) <;> omega) i
                have kz : bl < w'.heap.size := (by have := hLe.size; (try simp at this); omega)
                refine wpOp_plain rfl rfl (fun K hK => ?_)
                go_simp
                refine (l1In_any _ _ _ _).mono ?_
                rintro e w2 ⟨rfl, rfl⟩
                exact hK _ _ ⟨_, rfl, Below.refl _ _, rfl⟩
              apply free_is
              · intro a' w' hLe hfr hdep
                have e15 : a'.tmps.getD 15 undef = _ := hdep 5 15 (Nat.le_of_ble_eq_true rfl) rfl rfl
                conv at e15 => rhs; whnf
                have f15 := e15; simp only [Array.getD_eq_getD_getElem?] at f15
                refine wpOp_plain rfl rfl (fun K hK => ?_)
                go_simp
                exact hK _ _ ⟨_, rfl, Below.refl _ _, rfl⟩
              apply free_is
              · intro a' w' hLe hfr hdep
                have e16 : a'.tmps.getD 16 undef = _ := hdep 6 16 (Nat.le_of_ble_eq_true rfl) rfl rfl
                conv at e16 => rhs; whnf
                have f16 := e16; simp only [Array.getD_eq_getD_getElem?] at f16
                refine wpOp_plain rfl rfl (fun K hK => ?_)
                go_simp
                exact hK _ _ ⟨_, rfl, Below.refl _ _, rfl⟩
              apply free_is
              · intro a' w' hLe hfr hdep
                have e17 : a'.tmps.getD 17 undef = _ := hdep 7 17 (Nat.le_of_ble_eq_true rfl) rfl rfl
                conv at e17 => rhs; whnf
                have f17 := e17; simp only [Array.getD_eq_getD_getElem?] at f17
                have e0 := hfr 0 rfl
                conv at e0 => rhs; whnf
                have f0 := e0; simp only [Array.getD_eq_getD_getElem?] at f0
                refine wpOp_yes rfl rfl rfl e17 (fun K hK => ?_)
                go_simp
                exact hK _ _ ⟨_, rfl, Below.refl _ _, rfl⟩
              apply free_is
              · intro a' w' hLe hfr hdep
                have e17 : a'.tmps.getD 17 undef = _ := hdep 7 17 (Nat.le_of_ble_eq_true rfl) rfl rfl
                conv at e17 => rhs; whnf
                have f17 := e17; simp only [Array.getD_eq_getD_getElem?] at f17
                have e3 := hfr 3 rfl
                conv at e3 => rhs; whnf
                have f3 := e3; simp only [Array.getD_eq_getD_getElem?] at f3
                refine wpOp_yes rfl rfl rfl e17 (fun K hK => ?_)
                go_simp
                exact hK _ _ ⟨_, rfl, Below.refl _ _, rfl⟩
              apply free_is
              · intro a' w' hLe hfr hdep
                have e17 : a'.tmps.getD 17 undef = _ := hdep 7 17 (Nat.le_of_ble_eq_true rfl) rfl rfl
                conv at e17 => rhs; whnf
                have f17 := e17; simp only [Array.getD_eq_getD_getElem?] at f17
                have e18 : a'.tmps.getD 18 undef = _ := hdep 8 18 (Nat.le_of_ble_eq_true rfl) rfl rfl
                conv at e18 => rhs; whnf
                have f18 := e18; simp only [Array.getD_eq_getD_getElem?] at f18
                have e19 : a'.tmps.getD 19 undef = _ := hdep 9 19 (Nat.le_of_ble_eq_true rfl) rfl rfl
                conv at e19 => rhs; whnf
                have f19 := e19; simp only [Array.getD_eq_getD_getElem?] at f19
                refine wpOp_yes rfl rfl rfl e17 (fun K hK => ?_)
                go_simp
                exact hK _ _ ⟨_, rfl, Below.refl _ _, rfl⟩
              apply free_is
              · intro a' w' hLe hfr hdep
                have e17 : a'.tmps.getD 17 undef = _ := hdep 7 17 (Nat.le_of_ble_eq_true rfl) rfl rfl
                conv at e17 => rhs; whnf
                have f17 := e17; simp only [Array.getD_eq_getD_getElem?] at f17
                have e20 : a'.tmps.getD 20 undef = _ := hdep 10 20 (Nat.le_of_ble_eq_true rfl) rfl rfl
                conv at e20 => rhs; whnf
                have f20 := e20; simp only [Array.getD_eq_getD_getElem?] at f20
                refine wpOp_yes rfl rfl rfl e17 (fun K hK => ?_)
                go_simp
                exact hK _ _ ⟨_, rfl, Below.refl _ _, rfl⟩
              apply free_is
              · intro a' w' hLe hfr hdep
                have e17 : a'.tmps.getD 17 undef = _ := hdep 7 17 (Nat.le_of_ble_eq_true rfl) rfl rfl
                conv at e17 => rhs; whnf
                have f17 := e17; simp only [Array.getD_eq_getD_getElem?] at f17
                have e21 : a'.tmps.getD 21 undef = _ := hdep 11 21 (Nat.le_of_ble_eq_true rfl) rfl rfl
                conv at e21 => rhs; whnf
                have f21 := e21; simp only [Array.getD_eq_getD_getElem?] at f21
                have kc := fun i => keepc hLe (bl) (by (try simp) <;> omega) i
                have kf := fun i => keepf hLe (bl) (by (try simp) <;> omega) i
                have kz : bl < w'.heap.size := (by have := hLe.size; (try simp at this); omega)
                refine wpOp_yes rfl rfl rfl e17 (fun K hK => ?_)
                go_simp
                exact hK _ _ ⟨_, rfl, Below.refl _ _, rfl⟩
              apply free_is
              · intro a' w' hLe hfr hdep
                have e17 : a'.tmps.getD 17 undef = _ := hdep 7 17 (Nat.le_of_ble_eq_true rfl) rfl rfl
                conv at e17 => rhs; whnf
                have f17 := e17; simp only [Array.getD_eq_getD_getElem?] at f17
                have e22 : a'.tmps.getD 22 undef = _ := hdep 12 22 (Nat.le_of_ble_eq_true rfl) rfl rfl
                conv at e22 => rhs; whnf
                have f22 := e22; simp only [Array.getD_eq_getD_getElem?] at f22
                have kc := fun i => keepc hLe (bl) (by (try simp) <;> omega) i
                have kf := fun i => keepf hLe (bl) (by (try simp) <;> omega) i
                have kz : bl < w'.heap.size := (by have := hLe.size; (try simp at this); omega)
                refine wpOp_yes rfl rfl rfl e17 (fun K hK => ?_)
                go_simp
                refine (l1In_any _ _ _ _).mono ?_
                rintro e w2 ⟨rfl, rfl⟩
                exact hK _ _ ⟨_, rfl, Below.refl _ _, rfl⟩
              apply free_is
              · intro a' w' hLe hfr hdep
                have e17 : a'.tmps.getD 17 undef = _ := hdep 7 17 (Nat.le_of_ble_eq_true rfl) rfl rfl
                conv at e17 => rhs; whnf
                have f17 := e17; simp only [Array.getD_eq_getD_getElem?] at f17
                have e23 : a'.tmps.getD 23 undef = _ := hdep 13 23 (Nat.le_of_ble_eq_true rfl) rfl rfl
                conv at e23 => rhs; whnf
                have f23 := e23; simp only [Array.getD_eq_getD_getElem?] at f23
                refine wpOp_yes rfl rfl rfl e17 (fun K hK => ?_)
                go_simp
                exact hK _ _ ⟨_, rfl, Below.refl _ _, rfl⟩
              apply free_is
              · intro a' w' hLe hfr hdep
                have e17 : a'.tmps.getD 17 undef = _ := hdep 7 17 (Nat.le_of_ble_eq_true rfl) rfl rfl
                conv at e17 => rhs; whnf
                have f17 := e17; simp only [Array.getD_eq_getD_getElem?] at f17
                have e24 : a'.tmps.getD 24 undef = _ := hdep 14 24 (Nat.le_of_ble_eq_true rfl) rfl rfl
                conv at e24 => rhs; whnf
                have f24 := e24; simp only [Array.getD_eq_getD_getElem?] at f24
                refine wpOp_plain rfl rfl (fun K hK => ?_)
                go_simp
                exact hK _ _ ⟨_, rfl, Below.refl _ _, rfl⟩
              apply free_is
              · intro a' w' hLe hfr hdep
                have e25 : a'.tmps.getD 25 undef = _ := hdep 15 25 (Nat.le_of_ble_eq_true rfl) rfl rfl
                conv at e25 => rhs; whnf
                have f25 := e25; simp only [Array.getD_eq_getD_getElem?] at f25
                refine wpOp_plain rfl rfl (fun K hK => ?_)
                go_simp
                exact hK _ _ ⟨_, rfl, Below.refl _ _, rfl⟩
              apply free_is
              · intro a' w' hLe hfr hdep
                have e26 : a'.tmps.getD 26 undef = _ := hdep 16 26 (Nat.le_of_ble_eq_true rfl) rfl rfl
                conv at e26 => rhs; whnf
                have f26 := e26; simp only [Array.getD_eq_getD_getElem?] at f26
                have e0 := hfr 0 rfl
                conv at e0 => rhs; whnf
                have f0 := e0; simp only [Array.getD_eq_getD_getElem?] at f0
                refine wpOp_yes rfl rfl rfl e26 (fun K hK => ?_)
                go_simp
                exact hK _ _ ⟨_, rfl, Below.refl _ _, rfl⟩
              apply free_is
              · intro a' w' hLe hfr hdep
                have e26 : a'.tmps.getD 26 undef = _ := hdep 16 26 (Nat.le_of_ble_eq_true rfl) rfl rfl
                conv at e26 => rhs; whnf
                have f26 := e26; simp only [Array.getD_eq_getD_getElem?] at f26
                have e3 := hfr 3 rfl
                conv at e3 => rhs; whnf
                have f3 := e3; simp only [Array.getD_eq_getD_getElem?] at f3
                refine wpOp_yes rfl rfl rfl e26 (fun K hK => ?_)
                go_simp
                exact hK _ _ ⟨_, rfl, Below.refl _ _, rfl⟩
              apply free_is
              · intro a' w' hLe hfr hdep
                have e26 : a'.tmps.getD 26 undef = _ := hdep 16 26 (Nat.le_of_ble_eq_true rfl) rfl rfl
                conv at e26 => rhs; whnf
                have f26 := e26; simp only [Array.getD_eq_getD_getElem?] at f26
                have e27 : a'.tmps.getD 27 undef = _ := hdep 17 27 (Nat.le_of_ble_eq_true rfl) rfl rfl
                conv at e27 => rhs; whnf
                have f27 := e27; simp only [Array.getD_eq_getD_getElem?] at f27
                have e28 : a'.tmps.getD 28 undef = _ := hdep 18 28 (Nat.le_of_ble_eq_true rfl) rfl rfl
                conv at e28 => rhs; whnf
                have f28 := e28; simp only [Array.getD_eq_getD_getElem?] at f28
                refine wpOp_yes rfl rfl rfl e26 (fun K hK => ?_)
                go_simp
                exact hK _ _ ⟨_, rfl, Below.refl _ _, rfl⟩
              apply free_is
              · intro a' w' hLe hfr hdep
                have e26 : a'.tmps.getD 26 undef = _ := hdep 16 26 (Nat.le_of_ble_eq_true rfl) rfl rfl
                conv at e26 => rhs; whnf
                have f26 := e26; simp only [Array.getD_eq_getD_getElem?] at f26
                have e29 : a'.tmps.getD 29 undef = _ := hdep 19 29 (Nat.le_of_ble_eq_true rfl) rfl rfl
                conv at e29 => rhs; whnf
                have f29 := e29; simp only [Array.getD_eq_getD_getElem?] at f29
                refine wpOp_yes rfl rfl rfl e26 (fun K hK => ?_)
                go_simp
                exact hK _ _ ⟨_, rfl, Below.refl _ _, rfl⟩
              apply free_is
              · intro a' w' hLe hfr hdep
                have e26 : a'.tmps.getD 26 undef = _ := hdep 16 26 (Nat.le_of_ble_eq_true rfl) rfl rfl
                conv at e26 => rhs; whnf
                have f26 := e26; simp only [Array.getD_eq_getD_getElem?] at f26
                have e30 : a'.tmps.getD 30 undef = _ := hdep 20 30 (Nat.le_of_ble_eq_true rfl) rfl rfl
                conv at e30 => rhs; whnf
                have f30 := e30; simp only [Array.getD_eq_getD_getElem?] at f30
                have kc := fun i => keepc hLe (bl) (by (try simp) <;> omega) i
                have kf := fun i => keepf hLe (bl) (by (try simp) <;> omega) i
                have kz : bl < w'.heap.size := (by have := hLe.size; (try simp at this); omega)
                refine wpOp_yes rfl rfl rfl e26 (fun K hK => ?_)
                go_simp
                exact hK _ _ ⟨_, rfl, Below.refl _ _, rfl⟩
              apply free_is
              · intro a' w' hLe hfr hdep
                have e26 : a'.tmps.getD 26 undef = _ := hdep 16 26 (Nat.le_of_ble_eq_true rfl) rfl rfl
                conv at e26 => rhs; whnf
                have f26 := e26; simp only [Array.getD_eq_getD_getElem?] at f26
                have e31 : a'.tmps.getD 31 undef = _ := hdep 21 31 (Nat.le_of_ble_eq_true rfl) rfl rfl
                conv at e31 => rhs; whnf
                have f31 := e31; simp only [Array.getD_eq_getD_getElem?] at f31
                have kc := fun i => keepc hLe (bl) (by (try simp) <;> omega) i
                have kf := fun i => keepf hLe (bl) (by (try simp) <;> omega) i
                have kz : bl < w'.heap.size := (by have := hLe.size; (try simp at this); omega)
                refine wpOp_yes rfl rfl rfl e26 (fun K hK => ?_)
                go_simp
                refine (l1In_any _ _ _ _).mono ?_
                rintro e w2 ⟨rfl, rfl⟩
                exact hK _ _ ⟨_, rfl, Below.refl _ _, rfl⟩
              apply free_is
              · intro a' w' hLe hfr hdep
                have e26 : a'.tmps.getD 26 undef = _ := hdep 16 26 (Nat.le_of_ble_eq_true rfl) rfl rfl
                conv at e26 => rhs; whnf
                have f26 := e26; simp only [Array.getD_eq_getD_getElem?] at f26
                have e32 : a'.tmps.getD 32 undef = _ := hdep 22 32 (Nat.le_of_ble_eq_true rfl) rfl rfl
                conv at e32 => rhs; whnf
                have f32 := e32; simp only [Array.getD_eq_getD_getElem?] at f32
                refine wpOp_yes rfl rfl rfl e26 (fun K hK => ?_)
                go_simp
                exact hK _ _ ⟨_, rfl, Below.refl _ _, rfl⟩
              apply free_is
              · intro a' w' hLe hfr hdep
                have e26 : a'.tmps.getD 26 undef = _ := hdep 16 26 (Nat.le_of_ble_eq_true rfl) rfl rfl
                conv at e26 => rhs; whnf
                have f26 := e26; simp only [Array.getD_eq_getD_getElem?] at f26
                have e33 : a'.tmps.getD 33 undef = _ := hdep 23 33 (Nat.le_of_ble_eq_true rfl) rfl rfl
                conv at e33 => rhs; whnf
                have f33 := e33; simp only [Array.getD_eq_getD_getElem?] at f33
                refine wpOp_plain rfl rfl (fun K hK => ?_)
                go_simp
                exact hK _ _ ⟨_, rfl, Below.refl _ _, rfl⟩
              apply free_is
              · intro a' w' hLe hfr hdep
                have e34 : a'.tmps.getD 34 undef = _ := hdep 24 34 (Nat.le_of_ble_eq_true rfl) rfl rfl
                conv at e34 => rhs; whnf
                have f34 := e34; simp only [Array.getD_eq_getD_getElem?] at f34
                refine wpOp_plain rfl rfl (fun K hK => ?_)
                go_simp
                exact hK _ _ ⟨_, rfl, Below.refl _ _, rfl⟩
              apply free_is
              · intro a' w' hLe hfr hdep
                have e35 : a'.tmps.getD 35 undef = _ := hdep 25 35 (Nat.le_of_ble_eq_true rfl) rfl rfl
                conv at e35 => rhs; whnf
                have f35 := e35; simp only [Array.getD_eq_getD_getElem?] at f35
                have e3 := hfr 3 rfl
                conv at e3 => rhs; whnf
                have f3 := e3; simp only [Array.getD_eq_getD_getElem?] at f3
                refine wpOp_yes rfl rfl rfl e35 (fun K hK => ?_)
                go_simp
                exact hK _ _ ⟨_, rfl, Below.refl _ _, rfl⟩
              apply free_is
              · intro a' w' hLe hfr hdep
                have e35 : a'.tmps.getD 35 undef = _ := hdep 25 35 (Nat.le_of_ble_eq_true rfl) rfl rfl
                conv at e35 => rhs; whnf
                have f35 := e35; simp only [Array.getD_eq_getD_getElem?] at f35
                have e36 : a'.tmps.getD 36 undef = _ := hdep 26 36 (Nat.le_of_ble_eq_true rfl) rfl rfl
                conv at e36 => rhs; whnf
                have f36 := e36; simp only [Array.getD_eq_getD_getElem?] at f36
                refine wpOp_yes rfl rfl rfl e35 (fun K hK => ?_)
                go_simp
                exact hK _ _ ⟨_, rfl, Below.refl _ _, rfl⟩
              apply free_is
              · intro a' w' hLe hfr hdep
                have e35 : a'.tmps.getD 35 undef = _ := hdep 25 35 (Nat.le_of_ble_eq_true rfl) rfl rfl
                conv at e35 => rhs; whnf
                have f35 := e35; simp only [Array.getD_eq_getD_getElem?] at f35
                have e37 : a'.tmps.getD 37 undef = _ := hdep 27 37 (Nat.le_of_ble_eq_true rfl) rfl rfl
                conv at e37 => rhs; whnf
                have f37 := e37; simp only [Array.getD_eq_getD_getElem?] at f37
                refine wpOp_yes rfl rfl rfl e35 (fun K hK => ?_)
                go_simp
                exact hK _ _ ⟨_, rfl, Below.refl _ _, rfl⟩
              apply free_is
              · intro a' w' hLe hfr hdep
                have e38 : a'.tmps.getD 38 undef = _ := hdep 28 38 (Nat.le_of_ble_eq_true rfl) rfl rfl
                conv at e38 => rhs; whnf
                have f38 := e38; simp only [Array.getD_eq_getD_getElem?] at f38
                exact wpOp_no rfl rfl rfl e38 ⟨_, rfl, Below.refl _ _, rfl⟩
              apply free_is
              · intro a' w' hLe hfr hdep
                have e38 : a'.tmps.getD 38 undef = _ := hdep 28 38 (Nat.le_of_ble_eq_true rfl) rfl rfl
                conv at e38 => rhs; whnf
                have f38 := e38; simp only [Array.getD_eq_getD_getElem?] at f38
                exact wpOp_no rfl rfl rfl e38 ⟨_, rfl, Below.refl _ _, rfl⟩
              apply free_is
              · intro a' w' hLe hfr hdep
                have e38 : a'.tmps.getD 38 undef = _ := hdep 28 38 (Nat.le_of_ble_eq_true rfl) rfl rfl
                conv at e38 => rhs; whnf
                have f38 := e38; simp only [Array.getD_eq_getD_getElem?] at f38
                exact wpOp_no rfl rfl rfl e38 ⟨_, rfl, Below.refl _ _, rfl⟩
              apply free_is
              · intro a' w' hLe hfr hdep
                have e38 : a'.tmps.getD 38 undef = _ := hdep 28 38 (Nat.le_of_ble_eq_true rfl) rfl rfl
                conv at e38 => rhs; whnf
                have f38 := e38; simp only [Array.getD_eq_getD_getElem?] at f38
                exact wpOp_no rfl rfl rfl e38 ⟨_, rfl, Below.refl _ _, rfl⟩
              apply free_is
              · intro a' w' hLe hfr hdep
                have e38 : a'.tmps.getD 38 undef = _ := hdep 28 38 (Nat.le_of_ble_eq_true rfl) rfl rfl
                conv at e38 => rhs; whnf
                have f38 := e38; simp only [Array.getD_eq_getD_getElem?] at f38
                exact wpOp_no rfl rfl rfl e38 ⟨_, rfl, Below.refl _ _, rfl⟩
              apply free_is
              · intro a' w' hLe hfr hdep
                have e38 : a'.tmps.getD 38 undef = _ := hdep 28 38 (Nat.le_of_ble_eq_true rfl) rfl rfl
                conv at e38 => rhs; whnf
                have f38 := e38; simp only [Array.getD_eq_getD_getElem?] at f38
                exact wpOp_no rfl rfl rfl e38 ⟨_, rfl, Below.refl _ _, rfl⟩
              apply free_is
              · intro a' w' hLe hfr hdep
                have e38 : a'.tmps.getD 38 undef = _ := hdep 28 38 (Nat.le_of_ble_eq_true rfl) rfl rfl
                conv at e38 => rhs; whnf
                have f38 := e38; simp only [Array.getD_eq_getD_getElem?] at f38
                exact wpOp_no rfl rfl rfl e38 ⟨_, rfl, Below.refl _ _, rfl⟩
              apply free_is
              · intro a' w' hLe hfr hdep
                have e38 : a'.tmps.getD 38 undef = _ := hdep 28 38 (Nat.le_of_ble_eq_true rfl) rfl rfl
                conv at e38 => rhs; whnf
                have f38 := e38; simp only [Array.getD_eq_getD_getElem?] at f38
                exact wpOp_no rfl rfl rfl e38 ⟨_, rfl, Below.refl _ _, rfl⟩
              apply free_is
              · intro a' w' hLe hfr hdep
                have e38 : a'.tmps.getD 38 undef = _ := hdep 28 38 (Nat.le_of_ble_eq_true rfl) rfl rfl
                conv at e38 => rhs; whnf
                have f38 := e38; simp only [Array.getD_eq_getD_getElem?] at f38
                exact wpOp_no rfl rfl rfl e38 ⟨_, rfl, Below.refl _ _, rfl⟩
              apply free_is
              · intro a' w' hLe hfr hdep
                have e38 : a'.tmps.getD 38 undef = _ := hdep 28 38 (Nat.le_of_ble_eq_true rfl) rfl rfl
                conv at e38 => rhs; whnf
                have f38 := e38; simp only [Array.getD_eq_getD_getElem?] at f38
                exact wpOp_no rfl rfl rfl e38 ⟨_, rfl, Below.refl _ _, rfl⟩
              apply free_is
              · intro a' w' hLe hfr hdep
                have e38 : a'.tmps.getD 38 undef = _ := hdep 28 38 (Nat.le_of_ble_eq_true rfl) rfl rfl
                conv at e38 => rhs; whnf
                have f38 := e38; simp only [Array.getD_eq_getD_getElem?] at f38
                exact wpOp_no rfl rfl rfl e38 ⟨_, rfl, Below.refl _ _, rfl⟩
              apply free_is
              · intro a' w' hLe hfr hdep
                have e38 : a'.tmps.getD 38 undef = _ := hdep 28 38 (Nat.le_of_ble_eq_true rfl) rfl rfl
                conv at e38 => rhs; whnf
                have f38 := e38; simp only [Array.getD_eq_getD_getElem?] at f38
                exact wpOp_no rfl rfl rfl e38 ⟨_, rfl, Below.refl _ _, rfl⟩
              apply free_is
              · intro a' w' hLe hfr hdep
                have e35 : a'.tmps.getD 35 undef = _ := hdep 25 35 (Nat.le_of_ble_eq_true rfl) rfl rfl
                conv at e35 => rhs; whnf
                have f35 := e35; simp only [Array.getD_eq_getD_getElem?] at f35
                have e38 : a'.tmps.getD 38 undef = _ := hdep 28 38 (Nat.le_of_ble_eq_true rfl) rfl rfl
                conv at e38 => rhs; whnf
                have f38 := e38; simp only [Array.getD_eq_getD_getElem?] at f38
                have e50 : a'.tmps.getD 50 undef = _ := hdep 40 50 (Nat.le_of_ble_eq_true rfl) rfl rfl
                conv at e50 => rhs; whnf
                have f50 := e50; simp only [Array.getD_eq_getD_getElem?] at f50
                refine wpOp_yes rfl rfl rfl e35 (fun K hK => ?_)
                go_simp
                exact hK _ _ ⟨_, rfl, Below.refl _ _, rfl⟩
              apply free_is
              · intro a' w' hLe hfr hdep
                have e35 : a'.tmps.getD 35 undef = _ := hdep 25 35 (Nat.le_of_ble_eq_true rfl) rfl rfl
                conv at e35 => rhs; whnf
                have f35 := e35; simp only [Array.getD_eq_getD_getElem?] at f35
                have e51 : a'.tmps.getD 51 undef = _ := hdep 41 51 (Nat.le_of_ble_eq_true rfl) rfl rfl
                conv at e51 => rhs; whnf
                have f51 := e51; simp only [Array.getD_eq_getD_getElem?] at f51
                refine wpOp_plain rfl rfl (fun K hK => ?_)
                go_simp
                exact hK _ _ ⟨_, rfl, Below.refl _ _, rfl⟩
              apply free_nil
              intro vs w1 hb1 hT1
              have e10 : vs 0 = _ := hT1 0 10 rfl
              conv at e10 => rhs; whnf
              have e11 : vs 1 = _ := hT1 1 11 rfl
              conv at e11 => rhs; whnf
              have e12 : vs 2 = _ := hT1 2 12 rfl
              conv at e12 => rhs; whnf
              have e13 : vs 3 = _ := hT1 3 13 rfl
              conv at e13 => rhs; whnf
              have e14 : vs 4 = _ := hT1 4 14 rfl
              conv at e14 => rhs; whnf
              have e15 : vs 5 = _ := hT1 5 15 rfl
              conv at e15 => rhs; whnf
              have e16 : vs 6 = _ := hT1 6 16 rfl
              conv at e16 => rhs; whnf
              have e17 : vs 7 = _ := hT1 7 17 rfl
              conv at e17 => rhs; whnf
              have e18 : vs 8 = _ := hT1 8 18 rfl
              conv at e18 => rhs; whnf
              have e19 : vs 9 = _ := hT1 9 19 rfl
              conv at e19 => rhs; whnf
              have e20 : vs 10 = _ := hT1 10 20 rfl
              conv at e20 => rhs; whnf
              have e21 : vs 11 = _ := hT1 11 21 rfl
              conv at e21 => rhs; whnf
              have e22 : vs 12 = _ := hT1 12 22 rfl
              conv at e22 => rhs; whnf
              have e23 : vs 13 = _ := hT1 13 23 rfl
              conv at e23 => rhs; whnf
              have e24 : vs 14 = _ := hT1 14 24 rfl
              conv at e24 => rhs; whnf
              have e25 : vs 15 = _ := hT1 15 25 rfl
              conv at e25 => rhs; whnf
              have e26 : vs 16 = _ := hT1 16 26 rfl
              conv at e26 => rhs; whnf
              have e27 : vs 17 = _ := hT1 17 27 rfl
              conv at e27 => rhs; whnf
              have e28 : vs 18 = _ := hT1 18 28 rfl
              conv at e28 => rhs; whnf
              have e29 : vs 19 = _ := hT1 19 29 rfl
              conv at e29 => rhs; whnf
              have e30 : vs 20 = _ := hT1 20 30 rfl
              conv at e30 => rhs; whnf
              have e31 : vs 21 = _ := hT1 21 31 rfl
              conv at e31 => rhs; whnf
              have e32 : vs 22 = _ := hT1 22 32 rfl
              conv at e32 => rhs; whnf
              have e33 : vs 23 = _ := hT1 23 33 rfl
              conv at e33 => rhs; whnf
              have e34 : vs 24 = _ := hT1 24 34 rfl
              conv at e34 => rhs; whnf
              have e35 : vs 25 = _ := hT1 25 35 rfl
              conv at e35 => rhs; whnf
              have e36 : vs 26 = _ := hT1 26 36 rfl
              conv at e36 => rhs; whnf
              have e37 : vs 27 = _ := hT1 27 37 rfl
              conv at e37 => rhs; whnf
              have e38 : vs 28 = _ := hT1 28 38 rfl
              conv at e38 => rhs; whnf
              have e39 : vs 29 = _ := hT1 29 39 rfl
              conv at e39 => rhs; whnf
              have e40 : vs 30 = _ := hT1 30 40 rfl
              conv at e40 => rhs; whnf
              have e41 : vs 31 = _ := hT1 31 41 rfl
              conv at e41 => rhs; whnf
              have e42 : vs 32 = _ := hT1 32 42 rfl
              conv at e42 => rhs; whnf
              have e43 : vs 33 = _ := hT1 33 43 rfl
              conv at e43 => rhs; whnf
              have e44 : vs 34 = _ := hT1 34 44 rfl
              conv at e44 => rhs; whnf
              have e45 : vs 35 = _ := hT1 35 45 rfl
              conv at e45 => rhs; whnf
              have e46 : vs 36 = _ := hT1 36 46 rfl
              conv at e46 => rhs; whnf
              have e47 : vs 37 = _ := hT1 37 47 rfl
              conv at e47 => rhs; whnf
              have e48 : vs 38 = _ := hT1 38 48 rfl
              conv at e48 => rhs; whnf
              have e49 : vs 39 = _ := hT1 39 49 rfl
              conv at e49 => rhs; whnf
              have e50 : vs 40 = _ := hT1 40 50 rfl
              conv at e50 => rhs; whnf
              have e51 : vs 41 = _ := hT1 41 51 rfl
              conv at e51 => rhs; whnf
              have e52 : vs 42 = _ := hT1 42 52 rfl
              conv at e52 => rhs; whnf
              simp only [putAll, List.drop_succ_cons, List.drop_zero, e10, e11, e12, e13, e14, e15, e16, e17, e18, e19, e20, e21, e22, e23, e24, e25, e26, e27, e28, e29, e30, e31, e32, e33, e34, e35, e36, e37, e38, e39, e40, e41, e42, e43, e44, e45, e46, e47, e48, e49, e50, e51, e52]
              clear hT1 e10 e11 e12 e13 e14 e15 e16 e17 e18 e19 e20 e21 e22 e23 e24 e25 e26 e27 e28 e29 e30 e31 e32 e33 e34 e35 e36 e37 e38 e39 e40 e41 e42 e43 e44 e45 e46 e47 e48 e49 e50 e51 e52
              go_simp
              go_wp2
              go_roundw
              case rel => exact ⟨1, by omega, by go_num, upto HO.out hno.out, Below.tr (by (repeat (first | exact Below.refl _ _ | assumption | refine Below.al ?_ _ | refine Below.dr ?_ | (refine Below.st ?_ (by simp <;> omega) _) | (refine Below.tr ?_ (by assumption))))) hb1⟩
              case measure => simp [intOf]; omega
            · obtain ⟨i, rfl⟩ : ∃ i, j = i + 1 := ⟨j - 1, by omega⟩
              have hr' := hc i (by omega)
              have s0 : wr.cell? ⟨bl, off + i * 3, none⟩ = some (.int .i64 (a i)) := (keepc hBw bl (by omega) _).trans (hr' 0 _ rfl)
              clear hc hr' hrow
              have e1 : IntKind.i64.wrap ((i : Int) + 1 - 1) = (i : Int) := by rw [IntWalk.i64_in _ (by omega)]; omega
              have e2 : IntKind.i64.wrap (i : Int) = (i : Int) := IntWalk.i64_in _ (by omega)
              have e3 : (i : Int) < (n : Int) := by omega
              by_cases h4 : a (i + 1) ≤ a i
              · have hd : decide (a (i + 1) ≤ a i) = true := by simpa using h4
                have h5 : ¬ a i < a (i + 1) := by omega
                have hno := Lib.hid (poolB_no (show i + 1 < n from hlt) (show poolOk a b d (i + 1) = false by simp [poolOk, h1, h5]))
                clear h5
                go_wp2
                refine wp_region_free (ds := [(0, 10), (1, 11), (2, 12), (3, 13), (4, 14), (5, 15), (6, 16), (7, 17), (8, 18), (9, 19), (10, 20), (11, 21), (12, 22), (13, 23), (14, 24), (15, 25), (16, 26), (17, 27), (18, 28), (19, 29), (20, 30), (21, 31), (22, 32), (23, 33), (24, 34), (25, 35), (26, 36), (27, 37), (28, 38), (29, 39), (30, 40), (31, 41), (32, 42), (33, 43), (34, 44), (35, 45), (36, 46), (37, 47), (38, 48), (39, 49), (40, 50), (41, 51), (42, 52)]) 43 (by kernel_rfl) (by kernel_rfl) (by first | exact .inl rfl | exact .inr (by kernel_rfl)) (by rfl) rfl rfl ?_
                apply free_is
                · intro a' w' hLe hfr hdep
                  have e0 := hfr 0 rfl
                  conv at e0 => rhs; whnf
                  have f0 := e0; simp only [Array.getD_eq_getD_getElem?] at f0
                  refine wpOp_plain rfl rfl (fun K hK => ?_)
                  go_simp
                  exact hK _ _ ⟨_, rfl, Below.refl _ _, rfl⟩
                apply free_is
                · intro a' w' hLe hfr hdep
                  have e3 := hfr 3 rfl
                  conv at e3 => rhs; whnf
                  have f3 := e3; simp only [Array.getD_eq_getD_getElem?] at f3
                  refine wpOp_plain rfl rfl (fun K hK => ?_)
                  go_simp
                  exact hK _ _ ⟨_, rfl, Below.refl _ _, rfl⟩
                apply free_is
                · intro a' w' hLe hfr hdep
                  have e10 : a'.tmps.getD 10 undef = _ := hdep 0 10 (Nat.le_of_ble_eq_true rfl) rfl rfl
                  conv at e10 => rhs; whnf
                  have f10 := e10; simp only [Array.getD_eq_getD_getElem?] at f10
                  have e11 : a'.tmps.getD 11 undef = _ := hdep 1 11 (Nat.le_of_ble_eq_true rfl) rfl rfl
                  conv at e11 => rhs; whnf
                  have f11 := e11; simp only [Array.getD_eq_getD_getElem?] at f11
                  refine wpOp_plain rfl rfl (fun K hK => ?_)
                  go_simp
                  exact hK _ _ ⟨_, rfl, Below.refl _ _, rfl⟩
                apply free_is
                · intro a' w' hLe hfr hdep
                  have e12 : a'.tmps.getD 12 undef = _ := hdep 2 12 (Nat.le_of_ble_eq_true rfl) rfl rfl
                  conv at e12 => rhs; whnf
                  have f12 := e12; simp only [Array.getD_eq_getD_getElem?] at f12
                  refine wpOp_plain rfl rfl (fun K hK => ?_)
                  go_simp
                  exact hK _ _ ⟨_, rfl, Below.refl _ _, rfl⟩
                apply free_is
                · intro a' w' hLe hfr hdep
                  have e13 : a'.tmps.getD 13 undef = _ := hdep 3 13 (Nat.le_of_ble_eq_true rfl) rfl rfl
                  conv at e13 => rhs; whnf
                  have f13 := e13; simp only [Array.getD_eq_getD_getElem?] at f13
                  have kc := fun i => keepc hLe (bl) (by (try simp) <;> omega) i
                  have kf := fun i => keepf hLe (bl) (by (try simp) <;> omega) i
                  have kz : bl < w'.heap.size := (by have := hLe.size; (try simp at this); omega)
                  refine wpOp_plain rfl rfl (fun K hK => ?_)
                  go_simp
                  exact hK _ _ ⟨_, rfl, Below.refl _ _, rfl⟩
                apply free_is
                · intro a' w' hLe hfr hdep
                  have e14 : a'.tmps.getD 14 undef = _ := hdep 4 14 (Nat.le_of_ble_eq_true rfl) rfl rfl
                  conv at e14 => rhs; whnf
                  have f14 := e14; simp only [Array.getD_eq_getD_getElem?] at f14
                  have kc := fun i => keepc hLe (bl) (by (try simp) <;> omega) i
                  have kf := fun i => keepf hLe (bl) (by (try simp) <;> omega) i
                  have kz : bl < w'.heap.size := (by have := hLe.size; (try simp at this); omega)
                  refine wpOp_plain rfl rfl (fun K hK => ?_)
                  go_simp
                  refine (l1In_any _ _ _ _).mono ?_
                  rintro e w2 ⟨rfl, rfl⟩
                  exact hK _ _ ⟨_, rfl, Below.refl _ _, rfl⟩
                apply free_is
                · intro a' w' hLe hfr hdep
                  have e15 : a'.tmps.getD 15 undef = _ := hdep 5 15 (Nat.le_of_ble_eq_true rfl) rfl rfl
                  conv at e15 => rhs; whnf
                  have f15 := e15; simp only [Array.getD_eq_getD_getElem?] at f15
                  refine wpOp_plain rfl rfl (fun K hK => ?_)
                  go_simp
                  exact hK _ _ ⟨_, rfl, Below.refl _ _, rfl⟩
                apply free_is
                · intro a' w' hLe hfr hdep
                  have e16 : a'.tmps.getD 16 undef = _ := hdep 6 16 (Nat.le_of_ble_eq_true rfl) rfl rfl
                  conv at e16 => rhs; whnf
                  have f16 := e16; simp only [Array.getD_eq_getD_getElem?] at f16
                  refine wpOp_plain rfl rfl (fun K hK => ?_)
                  go_simp
                  exact hK _ _ ⟨_, rfl, Below.refl _ _, rfl⟩
                apply free_is
                · intro a' w' hLe hfr hdep
                  have e17 : a'.tmps.getD 17 undef = _ := hdep 7 17 (Nat.le_of_ble_eq_true rfl) rfl rfl
                  conv at e17 => rhs; whnf
                  have f17 := e17; simp only [Array.getD_eq_getD_getElem?] at f17
                  have e0 := hfr 0 rfl
                  conv at e0 => rhs; whnf
                  have f0 := e0; simp only [Array.getD_eq_getD_getElem?] at f0
                  refine wpOp_yes rfl rfl rfl e17 (fun K hK => ?_)
                  go_simp
                  exact hK _ _ ⟨_, rfl, Below.refl _ _, rfl⟩
                apply free_is
                · intro a' w' hLe hfr hdep
                  have e17 : a'.tmps.getD 17 undef = _ := hdep 7 17 (Nat.le_of_ble_eq_true rfl) rfl rfl
                  conv at e17 => rhs; whnf
                  have f17 := e17; simp only [Array.getD_eq_getD_getElem?] at f17
                  have e3 := hfr 3 rfl
                  conv at e3 => rhs; whnf
                  have f3 := e3; simp only [Array.getD_eq_getD_getElem?] at f3
                  refine wpOp_yes rfl rfl rfl e17 (fun K hK => ?_)
                  go_simp
                  exact hK _ _ ⟨_, rfl, Below.refl _ _, rfl⟩
                apply free_is
                · intro a' w' hLe hfr hdep
                  have e17 : a'.tmps.getD 17 undef = _ := hdep 7 17 (Nat.le_of_ble_eq_true rfl) rfl rfl
                  conv at e17 => rhs; whnf
                  have f17 := e17; simp only [Array.getD_eq_getD_getElem?] at f17
                  have e18 : a'.tmps.getD 18 undef = _ := hdep 8 18 (Nat.le_of_ble_eq_true rfl) rfl rfl
                  conv at e18 => rhs; whnf
                  have f18 := e18; simp only [Array.getD_eq_getD_getElem?] at f18
                  have e19 : a'.tmps.getD 19 undef = _ := hdep 9 19 (Nat.le_of_ble_eq_true rfl) rfl rfl
                  conv at e19 => rhs; whnf
                  have f19 := e19; simp only [Array.getD_eq_getD_getElem?] at f19
                  refine wpOp_yes rfl rfl rfl e17 (fun K hK => ?_)
                  go_simp
                  exact hK _ _ ⟨_, rfl, Below.refl _ _, rfl⟩
                apply free_is
                · intro a' w' hLe hfr hdep
                  have e17 : a'.tmps.getD 17 undef = _ := hdep 7 17 (Nat.le_of_ble_eq_true rfl) rfl rfl
                  conv at e17 => rhs; whnf
                  have f17 := e17; simp only [Array.getD_eq_getD_getElem?] at f17
                  have e20 : a'.tmps.getD 20 undef = _ := hdep 10 20 (Nat.le_of_ble_eq_true rfl) rfl rfl
                  conv at e20 => rhs; whnf
                  have f20 := e20; simp only [Array.getD_eq_getD_getElem?] at f20
                  refine wpOp_yes rfl rfl rfl e17 (fun K hK => ?_)
                  go_simp
                  exact hK _ _ ⟨_, rfl, Below.refl _ _, rfl⟩
                apply free_is
                · intro a' w' hLe hfr hdep
                  have e17 : a'.tmps.getD 17 undef = _ := hdep 7 17 (Nat.le_of_ble_eq_true rfl) rfl rfl
                  conv at e17 => rhs; whnf
                  have f17 := e17; simp only [Array.getD_eq_getD_getElem?] at f17
                  have e21 : a'.tmps.getD 21 undef = _ := hdep 11 21 (Nat.le_of_ble_eq_true rfl) rfl rfl
                  conv at e21 => rhs; whnf
                  have f21 := e21; simp only [Array.getD_eq_getD_getElem?] at f21
                  have kc := fun i => keepc hLe (bl) (by (try simp) <;> omega) i
                  have kf := fun i => keepf hLe (bl) (by (try simp) <;> omega) i
                  have kz : bl < w'.heap.size := (by have := hLe.size; (try simp at this); omega)
                  refine wpOp_yes rfl rfl rfl e17 (fun K hK => ?_)
                  go_simp
                  exact hK _ _ ⟨_, rfl, Below.refl _ _, rfl⟩
                apply free_is
                · intro a' w' hLe hfr hdep
                  have e17 : a'.tmps.getD 17 undef = _ := hdep 7 17 (Nat.le_of_ble_eq_true rfl) rfl rfl
                  conv at e17 => rhs; whnf
                  have f17 := e17; simp only [Array.getD_eq_getD_getElem?] at f17
                  have e22 : a'.tmps.getD 22 undef = _ := hdep 12 22 (Nat.le_of_ble_eq_true rfl) rfl rfl
                  conv at e22 => rhs; whnf
                  have f22 := e22; simp only [Array.getD_eq_getD_getElem?] at f22
                  have kc := fun i => keepc hLe (bl) (by (try simp) <;> omega) i
                  have kf := fun i => keepf hLe (bl) (by (try simp) <;> omega) i
                  have kz : bl < w'.heap.size := (by have := hLe.size; (try simp at this); omega)
                  refine wpOp_yes rfl rfl rfl e17 (fun K hK => ?_)
                  go_simp
                  refine (l1In_any _ _ _ _).mono ?_
                  rintro e w2 ⟨rfl, rfl⟩
                  exact hK _ _ ⟨_, rfl, Below.refl _ _, rfl⟩
                apply free_is
                · intro a' w' hLe hfr hdep
                  have e17 : a'.tmps.getD 17 undef = _ := hdep 7 17 (Nat.le_of_ble_eq_true rfl) rfl rfl
                  conv at e17 => rhs; whnf
                  have f17 := e17; simp only [Array.getD_eq_getD_getElem?] at f17
                  have e23 : a'.tmps.getD 23 undef = _ := hdep 13 23 (Nat.le_of_ble_eq_true rfl) rfl rfl
                  conv at e23 => rhs; whnf
                  have f23 := e23; simp only [Array.getD_eq_getD_getElem?] at f23
                  refine wpOp_yes rfl rfl rfl e17 (fun K hK => ?_)
                  go_simp
                  exact hK _ _ ⟨_, rfl, Below.refl _ _, rfl⟩
                apply free_is
                · intro a' w' hLe hfr hdep
                  have e17 : a'.tmps.getD 17 undef = _ := hdep 7 17 (Nat.le_of_ble_eq_true rfl) rfl rfl
                  conv at e17 => rhs; whnf
                  have f17 := e17; simp only [Array.getD_eq_getD_getElem?] at f17
                  have e24 : a'.tmps.getD 24 undef = _ := hdep 14 24 (Nat.le_of_ble_eq_true rfl) rfl rfl
                  conv at e24 => rhs; whnf
                  have f24 := e24; simp only [Array.getD_eq_getD_getElem?] at f24
                  refine wpOp_plain rfl rfl (fun K hK => ?_)
                  go_simp
                  exact hK _ _ ⟨_, rfl, Below.refl _ _, rfl⟩
                apply free_is
                · intro a' w' hLe hfr hdep
                  have e25 : a'.tmps.getD 25 undef = _ := hdep 15 25 (Nat.le_of_ble_eq_true rfl) rfl rfl
                  conv at e25 => rhs; whnf
                  have f25 := e25; simp only [Array.getD_eq_getD_getElem?] at f25
                  refine wpOp_plain rfl rfl (fun K hK => ?_)
                  go_simp
                  exact hK _ _ ⟨_, rfl, Below.refl _ _, rfl⟩
                apply free_is
                · intro a' w' hLe hfr hdep
                  have e26 : a'.tmps.getD 26 undef = _ := hdep 16 26 (Nat.le_of_ble_eq_true rfl) rfl rfl
                  conv at e26 => rhs; whnf
                  have f26 := e26; simp only [Array.getD_eq_getD_getElem?] at f26
                  have e0 := hfr 0 rfl
                  conv at e0 => rhs; whnf
                  have f0 := e0; simp only [Array.getD_eq_getD_getElem?] at f0
                  refine wpOp_yes rfl rfl rfl e26 (fun K hK => ?_)
                  go_simp
                  exact hK _ _ ⟨_, rfl, Below.refl _ _, rfl⟩
                apply free_is
                · intro a' w' hLe hfr hdep
                  have e26 : a'.tmps.getD 26 undef = _ := hdep 16 26 (Nat.le_of_ble_eq_true rfl) rfl rfl
                  conv at e26 => rhs; whnf
                  have f26 := e26; simp only [Array.getD_eq_getD_getElem?] at f26
                  have e3 := hfr 3 rfl
                  conv at e3 => rhs; whnf
                  have f3 := e3; simp only [Array.getD_eq_getD_getElem?] at f3
                  refine wpOp_yes rfl rfl rfl e26 (fun K hK => ?_)
                  go_simp
                  exact hK _ _ ⟨_, rfl, Below.refl _ _, rfl⟩
                apply free_is
                · intro a' w' hLe hfr hdep
                  have e26 : a'.tmps.getD 26 undef = _ := hdep 16 26 (Nat.le_of_ble_eq_true rfl) rfl rfl
                  conv at e26 => rhs; whnf
                  have f26 := e26; simp only [Array.getD_eq_getD_getElem?] at f26
                  have e27 : a'.tmps.getD 27 undef = _ := hdep 17 27 (Nat.le_of_ble_eq_true rfl) rfl rfl
                  conv at e27 => rhs; whnf
                  have f27 := e27; simp only [Array.getD_eq_getD_getElem?] at f27
                  have e28 : a'.tmps.getD 28 undef = _ := hdep 18 28 (Nat.le_of_ble_eq_true rfl) rfl rfl
                  conv at e28 => rhs; whnf
                  have f28 := e28; simp only [Array.getD_eq_getD_getElem?] at f28
                  refine wpOp_yes rfl rfl rfl e26 (fun K hK => ?_)
                  go_simp
                  exact hK _ _ ⟨_, rfl, Below.refl _ _, rfl⟩
                apply free_is
                · intro a' w' hLe hfr hdep
                  have e26 : a'.tmps.getD 26 undef = _ := hdep 16 26 (Nat.le_of_ble_eq_true rfl) rfl rfl
                  conv at e26 => rhs; whnf
                  have f26 := e26; simp only [Array.getD_eq_getD_getElem?] at f26
                  have e29 : a'.tmps.getD 29 undef = _ := hdep 19 29 (Nat.le_of_ble_eq_true rfl) rfl rfl
                  conv at e29 => rhs; whnf
                  have f29 := e29; simp only [Array.getD_eq_getD_getElem?] at f29
                  refine wpOp_yes rfl rfl rfl e26 (fun K hK => ?_)
                  go_simp
                  exact hK _ _ ⟨_, rfl, Below.refl _ _, rfl⟩
                apply free_is
                · intro a' w' hLe hfr hdep
                  have e26 : a'.tmps.getD 26 undef = _ := hdep 16 26 (Nat.le_of_ble_eq_true rfl) rfl rfl
                  conv at e26 => rhs; whnf
                  have f26 := e26; simp only [Array.getD_eq_getD_getElem?] at f26
                  have e30 : a'.tmps.getD 30 undef = _ := hdep 20 30 (Nat.le_of_ble_eq_true rfl) rfl rfl
                  conv at e30 => rhs; whnf
                  have f30 := e30; simp only [Array.getD_eq_getD_getElem?] at f30
                  have kc := fun i => keepc hLe (bl) (by (try simp) <;> omega) i
                  have kf := fun i => keepf hLe (bl) (by (try simp) <;> omega) i
                  have kz : bl < w'.heap.size := (by have := hLe.size; (try simp at this); omega)
                  refine wpOp_yes rfl rfl rfl e26 (fun K hK => ?_)
                  go_simp
                  exact hK _ _ ⟨_, rfl, Below.refl _ _, rfl⟩
                apply free_is
                · intro a' w' hLe hfr hdep
                  have e26 : a'.tmps.getD 26 undef = _ := hdep 16 26 (Nat.le_of_ble_eq_true rfl) rfl rfl
                  conv at e26 => rhs; whnf
                  have f26 := e26; simp only [Array.getD_eq_getD_getElem?] at f26
                  have e31 : a'.tmps.getD 31 undef = _ := hdep 21 31 (Nat.le_of_ble_eq_true rfl) rfl rfl
                  conv at e31 => rhs; whnf
                  have f31 := e31; simp only [Array.getD_eq_getD_getElem?] at f31
                  have kc := fun i => keepc hLe (bl) (by (try simp) <;> omega) i
                  have kf := fun i => keepf hLe (bl) (by (try simp) <;> omega) i
                  have kz : bl < w'.heap.size := (by have := hLe.size; (try simp at this); omega)
                  refine wpOp_yes rfl rfl rfl e26 (fun K hK => ?_)
                  go_simp
                  refine (l1In_any _ _ _ _).mono ?_
                  rintro e w2 ⟨rfl, rfl⟩
                  exact hK _ _ ⟨_, rfl, Below.refl _ _, rfl⟩
                apply free_is
                · intro a' w' hLe hfr hdep
                  have e26 : a'.tmps.getD 26 undef = _ := hdep 16 26 (Nat.le_of_ble_eq_true rfl) rfl rfl
                  conv at e26 => rhs; whnf
                  have f26 := e26; simp only [Array.getD_eq_getD_getElem?] at f26
                  have e32 : a'.tmps.getD 32 undef = _ := hdep 22 32 (Nat.le_of_ble_eq_true rfl) rfl rfl
                  conv at e32 => rhs; whnf
                  have f32 := e32; simp only [Array.getD_eq_getD_getElem?] at f32
                  refine wpOp_yes rfl rfl rfl e26 (fun K hK => ?_)
                  go_simp
                  exact hK _ _ ⟨_, rfl, Below.refl _ _, rfl⟩
                apply free_is
                · intro a' w' hLe hfr hdep
                  have e26 : a'.tmps.getD 26 undef = _ := hdep 16 26 (Nat.le_of_ble_eq_true rfl) rfl rfl
                  conv at e26 => rhs; whnf
                  have f26 := e26; simp only [Array.getD_eq_getD_getElem?] at f26
                  have e33 : a'.tmps.getD 33 undef = _ := hdep 23 33 (Nat.le_of_ble_eq_true rfl) rfl rfl
                  conv at e33 => rhs; whnf
                  have f33 := e33; simp only [Array.getD_eq_getD_getElem?] at f33
                  refine wpOp_plain rfl rfl (fun K hK => ?_)
                  go_simp
                  exact hK _ _ ⟨_, rfl, Below.refl _ _, rfl⟩
                apply free_is
                · intro a' w' hLe hfr hdep
                  have e34 : a'.tmps.getD 34 undef = _ := hdep 24 34 (Nat.le_of_ble_eq_true rfl) rfl rfl
                  conv at e34 => rhs; whnf
                  have f34 := e34; simp only [Array.getD_eq_getD_getElem?] at f34
                  refine wpOp_plain rfl rfl (fun K hK => ?_)
                  go_simp
                  exact hK _ _ ⟨_, rfl, Below.refl _ _, rfl⟩
                apply free_is
                · intro a' w' hLe hfr hdep
                  have e35 : a'.tmps.getD 35 undef = _ := hdep 25 35 (Nat.le_of_ble_eq_true rfl) rfl rfl
                  conv at e35 => rhs; whnf
                  have f35 := e35; simp only [Array.getD_eq_getD_getElem?] at f35
                  have e3 := hfr 3 rfl
                  conv at e3 => rhs; whnf
                  have f3 := e3; simp only [Array.getD_eq_getD_getElem?] at f3
                  refine wpOp_yes rfl rfl rfl e35 (fun K hK => ?_)
                  go_simp
                  exact hK _ _ ⟨_, rfl, Below.refl _ _, rfl⟩
                apply free_is
                · intro a' w' hLe hfr hdep
                  have e35 : a'.tmps.getD 35 undef = _ := hdep 25 35 (Nat.le_of_ble_eq_true rfl) rfl rfl
                  conv at e35 => rhs; whnf
                  have f35 := e35; simp only [Array.getD_eq_getD_getElem?] at f35
                  have e36 : a'.tmps.getD 36 undef = _ := hdep 26 36 (Nat.le_of_ble_eq_true rfl) rfl rfl
                  conv at e36 => rhs; whnf
                  have f36 := e36; simp only [Array.getD_eq_getD_getElem?] at f36
                  refine wpOp_yes rfl rfl rfl e35 (fun K hK => ?_)
                  go_simp
                  exact hK _ _ ⟨_, rfl, Below.refl _ _, rfl⟩
                apply free_is
                · intro a' w' hLe hfr hdep
                  have e35 : a'.tmps.getD 35 undef = _ := hdep 25 35 (Nat.le_of_ble_eq_true rfl) rfl rfl
                  conv at e35 => rhs; whnf
                  have f35 := e35; simp only [Array.getD_eq_getD_getElem?] at f35
                  have e37 : a'.tmps.getD 37 undef = _ := hdep 27 37 (Nat.le_of_ble_eq_true rfl) rfl rfl
                  conv at e37 => rhs; whnf
                  have f37 := e37; simp only [Array.getD_eq_getD_getElem?] at f37
                  refine wpOp_yes rfl rfl rfl e35 (fun K hK => ?_)
                  go_simp
                  exact hK _ _ ⟨_, rfl, Below.refl _ _, rfl⟩
                apply free_is
                · intro a' w' hLe hfr hdep
                  have e38 : a'.tmps.getD 38 undef = _ := hdep 28 38 (Nat.le_of_ble_eq_true rfl) rfl rfl
                  conv at e38 => rhs; whnf
                  have f38 := e38; simp only [Array.getD_eq_getD_getElem?] at f38
                  have e0 := hfr 0 rfl
                  conv at e0 => rhs; whnf
                  have f0 := e0; simp only [Array.getD_eq_getD_getElem?] at f0
                  refine wpOp_yes rfl rfl rfl e38 (fun K hK => ?_)
                  go_simp
                  exact hK _ _ ⟨_, rfl, Below.refl _ _, rfl⟩
                apply free_is
                · intro a' w' hLe hfr hdep
                  have e38 : a'.tmps.getD 38 undef = _ := hdep 28 38 (Nat.le_of_ble_eq_true rfl) rfl rfl
                  conv at e38 => rhs; whnf
                  have f38 := e38; simp only [Array.getD_eq_getD_getElem?] at f38
                  have e3 := hfr 3 rfl
                  conv at e3 => rhs; whnf
                  have f3 := e3; simp only [Array.getD_eq_getD_getElem?] at f3
                  refine wpOp_yes rfl rfl rfl e38 (fun K hK => ?_)
                  go_simp
                  exact hK _ _ ⟨_, rfl, Below.refl _ _, rfl⟩
                apply free_is
                · intro a' w' hLe hfr hdep
                  have e38 : a'.tmps.getD 38 undef = _ := hdep 28 38 (Nat.le_of_ble_eq_true rfl) rfl rfl
                  conv at e38 => rhs; whnf
                  have f38 := e38; simp only [Array.getD_eq_getD_getElem?] at f38
                  have e39 : a'.tmps.getD 39 undef = _ := hdep 29 39 (Nat.le_of_ble_eq_true rfl) rfl rfl
                  conv at e39 => rhs; whnf
                  have f39 := e39; simp only [Array.getD_eq_getD_getElem?] at f39
                  have e40 : a'.tmps.getD 40 undef = _ := hdep 30 40 (Nat.le_of_ble_eq_true rfl) rfl rfl
                  conv at e40 => rhs; whnf
                  have f40 := e40; simp only [Array.getD_eq_getD_getElem?] at f40
                  refine wpOp_yes rfl rfl rfl e38 (fun K hK => ?_)
                  go_simp
                  exact hK _ _ ⟨_, rfl, Below.refl _ _, rfl⟩
                apply free_is
                · intro a' w' hLe hfr hdep
                  have e38 : a'.tmps.getD 38 undef = _ := hdep 28 38 (Nat.le_of_ble_eq_true rfl) rfl rfl
                  conv at e38 => rhs; whnf
                  have f38 := e38; simp only [Array.getD_eq_getD_getElem?] at f38
                  have e41 : a'.tmps.getD 41 undef = _ := hdep 31 41 (Nat.le_of_ble_eq_true rfl) rfl rfl
                  conv at e41 => rhs; whnf
                  have f41 := e41; simp only [Array.getD_eq_getD_getElem?] at f41
                  refine wpOp_yes rfl rfl rfl e38 (fun K hK => ?_)
                  go_simp
                  exact hK _ _ ⟨_, rfl, Below.refl _ _, rfl⟩
                apply free_is
                · intro a' w' hLe hfr hdep
                  have e38 : a'.tmps.getD 38 undef = _ := hdep 28 38 (Nat.le_of_ble_eq_true rfl) rfl rfl
                  conv at e38 => rhs; whnf
                  have f38 := e38; simp only [Array.getD_eq_getD_getElem?] at f38
                  have e42 : a'.tmps.getD 42 undef = _ := hdep 32 42 (Nat.le_of_ble_eq_true rfl) rfl rfl
                  conv at e42 => rhs; whnf
                  have f42 := e42; simp only [Array.getD_eq_getD_getElem?] at f42
                  have kc := fun i => keepc hLe (bl) (by (try simp) <;> omega) i
                  have kf := fun i => keepf hLe (bl) (by (try simp) <;> omega) i
                  have kz : bl < w'.heap.size := (by have := hLe.size; (try simp at this); omega)
                  refine wpOp_yes rfl rfl rfl e38 (fun K hK => ?_)
                  go_simp
                  exact hK _ _ ⟨_, rfl, Below.refl _ _, rfl⟩
                apply free_is
                · intro a' w' hLe hfr hdep
                  have e38 : a'.tmps.getD 38 undef = _ := hdep 28 38 (Nat.le_of_ble_eq_true rfl) rfl rfl
                  conv at e38 => rhs; whnf
                  have f38 := e38; simp only [Array.getD_eq_getD_getElem?] at f38
                  have e0 := hfr 0 rfl
                  conv at e0 => rhs; whnf
                  have f0 := e0; simp only [Array.getD_eq_getD_getElem?] at f0
                  refine wpOp_yes rfl rfl rfl e38 (fun K hK => ?_)
                  go_simp
                  exact hK _ _ ⟨_, rfl, Below.refl _ _, rfl⟩
                apply free_is
                · intro a' w' hLe hfr hdep
                  have e38 : a'.tmps.getD 38 undef = _ := hdep 28 38 (Nat.le_of_ble_eq_true rfl) rfl rfl
                  conv at e38 => rhs; whnf
                  have f38 := e38; simp only [Array.getD_eq_getD_getElem?] at f38
                  have e3 := hfr 3 rfl
                  conv at e3 => rhs; whnf
                  have f3 := e3; simp only [Array.getD_eq_getD_getElem?] at f3
                  refine wpOp_yes rfl rfl rfl e38 (fun K hK => ?_)
                  go_simp
                  exact hK _ _ ⟨_, rfl, Below.refl _ _, rfl⟩
                apply free_is
                · intro a' w' hLe hfr hdep
                  have e38 : a'.tmps.getD 38 undef = _ := hdep 28 38 (Nat.le_of_ble_eq_true rfl) rfl rfl
                  conv at e38 => rhs; whnf
                  have f38 := e38; simp only [Array.getD_eq_getD_getElem?] at f38
                  have e45 : a'.tmps.getD 45 undef = _ := hdep 35 45 (Nat.le_of_ble_eq_true rfl) rfl rfl
                  conv at e45 => rhs; whnf
                  have f45 := e45; simp only [Array.getD_eq_getD_getElem?] at f45
                  refine wpOp_yes rfl rfl rfl e38 (fun K hK => ?_)
                  go_simp
                  exact hK _ _ ⟨_, rfl, Below.refl _ _, rfl⟩
                apply free_is
                · intro a' w' hLe hfr hdep
                  have e38 : a'.tmps.getD 38 undef = _ := hdep 28 38 (Nat.le_of_ble_eq_true rfl) rfl rfl
                  conv at e38 => rhs; whnf
                  have f38 := e38; simp only [Array.getD_eq_getD_getElem?] at f38
                  have e44 : a'.tmps.getD 44 undef = _ := hdep 34 44 (Nat.le_of_ble_eq_true rfl) rfl rfl
                  conv at e44 => rhs; whnf
                  have f44 := e44; simp only [Array.getD_eq_getD_getElem?] at f44
                  have e46 : a'.tmps.getD 46 undef = _ := hdep 36 46 (Nat.le_of_ble_eq_true rfl) rfl rfl
                  conv at e46 => rhs; whnf
                  have f46 := e46; simp only [Array.getD_eq_getD_getElem?] at f46
                  refine wpOp_yes rfl rfl rfl e38 (fun K hK => ?_)
                  go_simp
                  exact hK _ _ ⟨_, rfl, Below.refl _ _, rfl⟩
                apply free_is
                · intro a' w' hLe hfr hdep
                  have e38 : a'.tmps.getD 38 undef = _ := hdep 28 38 (Nat.le_of_ble_eq_true rfl) rfl rfl
                  conv at e38 => rhs; whnf
                  have f38 := e38; simp only [Array.getD_eq_getD_getElem?] at f38
                  have e47 : a'.tmps.getD 47 undef = _ := hdep 37 47 (Nat.le_of_ble_eq_true rfl) rfl rfl
                  conv at e47 => rhs; whnf
                  have f47 := e47; simp only [Array.getD_eq_getD_getElem?] at f47
                  refine wpOp_yes rfl rfl rfl e38 (fun K hK => ?_)
                  go_simp
                  exact hK _ _ ⟨_, rfl, Below.refl _ _, rfl⟩
                apply free_is
                · intro a' w' hLe hfr hdep
                  have e38 : a'.tmps.getD 38 undef = _ := hdep 28 38 (Nat.le_of_ble_eq_true rfl) rfl rfl
                  conv at e38 => rhs; whnf
                  have f38 := e38; simp only [Array.getD_eq_getD_getElem?] at f38
                  have e48 : a'.tmps.getD 48 undef = _ := hdep 38 48 (Nat.le_of_ble_eq_true rfl) rfl rfl
                  conv at e48 => rhs; whnf
                  have f48 := e48; simp only [Array.getD_eq_getD_getElem?] at f48
                  have kc := fun i => keepc hLe (bl) (by (try simp) <;> omega) i
                  have kf := fun i => keepf hLe (bl) (by (try simp) <;> omega) i
                  have kz : bl < w'.heap.size := (by have := hLe.size; (try simp at this); omega)
                  refine wpOp_yes rfl rfl rfl e38 (fun K hK => ?_)
                  go_simp
                  exact hK _ _ ⟨_, rfl, Below.refl _ _, rfl⟩
                apply free_is
                · intro a' w' hLe hfr hdep
                  have e38 : a'.tmps.getD 38 undef = _ := hdep 28 38 (Nat.le_of_ble_eq_true rfl) rfl rfl
                  conv at e38 => rhs; whnf
                  have f38 := e38; simp only [Array.getD_eq_getD_getElem?] at f38
                  have e43 : a'.tmps.getD 43 undef = _ := hdep 33 43 (Nat.le_of_ble_eq_true rfl) rfl rfl
                  conv at e43 => rhs; whnf
                  have f43 := e43; simp only [Array.getD_eq_getD_getElem?] at f43
                  have e49 : a'.tmps.getD 49 undef = _ := hdep 39 49 (Nat.le_of_ble_eq_true rfl) rfl rfl
                  conv at e49 => rhs; whnf
                  have f49 := e49; simp only [Array.getD_eq_getD_getElem?] at f49
                  refine wpOp_yes rfl rfl rfl e38 (fun K hK => ?_)
                  go_simp
                  exact hK _ _ ⟨_, rfl, Below.refl _ _, rfl⟩
                apply free_is
                · intro a' w' hLe hfr hdep
                  have e35 : a'.tmps.getD 35 undef = _ := hdep 25 35 (Nat.le_of_ble_eq_true rfl) rfl rfl
                  conv at e35 => rhs; whnf
                  have f35 := e35; simp only [Array.getD_eq_getD_getElem?] at f35
                  have e38 : a'.tmps.getD 38 undef = _ := hdep 28 38 (Nat.le_of_ble_eq_true rfl) rfl rfl
                  conv at e38 => rhs; whnf
                  have f38 := e38; simp only [Array.getD_eq_getD_getElem?] at f38
                  have e50 : a'.tmps.getD 50 undef = _ := hdep 40 50 (Nat.le_of_ble_eq_true rfl) rfl rfl
                  conv at e50 => rhs; whnf
                  have f50 := e50; simp only [Array.getD_eq_getD_getElem?] at f50
                  refine wpOp_yes rfl rfl rfl e35 (fun K hK => ?_)
                  go_simp
                  exact hK _ _ ⟨_, rfl, Below.refl _ _, rfl⟩
                apply free_is
                · intro a' w' hLe hfr hdep
                  have e35 : a'.tmps.getD 35 undef = _ := hdep 25 35 (Nat.le_of_ble_eq_true rfl) rfl rfl
                  conv at e35 => rhs; whnf
                  have f35 := e35; simp only [Array.getD_eq_getD_getElem?] at f35
                  have e51 : a'.tmps.getD 51 undef = _ := hdep 41 51 (Nat.le_of_ble_eq_true rfl) rfl rfl
                  conv at e51 => rhs; whnf
                  have f51 := e51; simp only [Array.getD_eq_getD_getElem?] at f51
                  refine wpOp_plain rfl rfl (fun K hK => ?_)
                  go_simp
                  exact hK _ _ ⟨_, rfl, Below.refl _ _, rfl⟩
                apply free_nil
                intro vs w1 hb1 hT1
                have e10 : vs 0 = _ := hT1 0 10 rfl
                conv at e10 => rhs; whnf
                have e11 : vs 1 = _ := hT1 1 11 rfl
                conv at e11 => rhs; whnf
                have e12 : vs 2 = _ := hT1 2 12 rfl
                conv at e12 => rhs; whnf
                have e13 : vs 3 = _ := hT1 3 13 rfl
                conv at e13 => rhs; whnf
                have e14 : vs 4 = _ := hT1 4 14 rfl
                conv at e14 => rhs; whnf
                have e15 : vs 5 = _ := hT1 5 15 rfl
                conv at e15 => rhs; whnf
                have e16 : vs 6 = _ := hT1 6 16 rfl
                conv at e16 => rhs; whnf
                have e17 : vs 7 = _ := hT1 7 17 rfl
                conv at e17 => rhs; whnf
                have e18 : vs 8 = _ := hT1 8 18 rfl
                conv at e18 => rhs; whnf
                have e19 : vs 9 = _ := hT1 9 19 rfl
                conv at e19 => rhs; whnf
                have e20 : vs 10 = _ := hT1 10 20 rfl
                conv at e20 => rhs; whnf
                have e21 : vs 11 = _ := hT1 11 21 rfl
                conv at e21 => rhs; whnf
                have e22 : vs 12 = _ := hT1 12 22 rfl
                conv at e22 => rhs; whnf
                have e23 : vs 13 = _ := hT1 13 23 rfl
                conv at e23 => rhs; whnf
                have e24 : vs 14 = _ := hT1 14 24 rfl
                conv at e24 => rhs; whnf
                have e25 : vs 15 = _ := hT1 15 25 rfl
                conv at e25 => rhs; whnf
                have e26 : vs 16 = _ := hT1 16 26 rfl
                conv at e26 => rhs; whnf
                have e27 : vs 17 = _ := hT1 17 27 rfl
                conv at e27 => rhs; whnf
                have e28 : vs 18 = _ := hT1 18 28 rfl
                conv at e28 => rhs; whnf
                have e29 : vs 19 = _ := hT1 19 29 rfl
                conv at e29 => rhs; whnf
                have e30 : vs 20 = _ := hT1 20 30 rfl
                conv at e30 => rhs; whnf
                have e31 : vs 21 = _ := hT1 21 31 rfl
                conv at e31 => rhs; whnf
                have e32 : vs 22 = _ := hT1 22 32 rfl
                conv at e32 => rhs; whnf
                have e33 : vs 23 = _ := hT1 23 33 rfl
                conv at e33 => rhs; whnf
                have e34 : vs 24 = _ := hT1 24 34 rfl
                conv at e34 => rhs; whnf
                have e35 : vs 25 = _ := hT1 25 35 rfl
                conv at e35 => rhs; whnf
                have e36 : vs 26 = _ := hT1 26 36 rfl
                conv at e36 => rhs; whnf
                have e37 : vs 27 = _ := hT1 27 37 rfl
                conv at e37 => rhs; whnf
                have e38 : vs 28 = _ := hT1 28 38 rfl
                conv at e38 => rhs; whnf
                have e39 : vs 29 = _ := hT1 29 39 rfl
                conv at e39 => rhs; whnf
                have e40 : vs 30 = _ := hT1 30 40 rfl
                conv at e40 => rhs; whnf
                have e41 : vs 31 = _ := hT1 31 41 rfl
                conv at e41 => rhs; whnf
                have e42 : vs 32 = _ := hT1 32 42 rfl
                conv at e42 => rhs; whnf
                have e43 : vs 33 = _ := hT1 33 43 rfl
                conv at e43 => rhs; whnf
                have e44 : vs 34 = _ := hT1 34 44 rfl
                conv at e44 => rhs; whnf
                have e45 : vs 35 = _ := hT1 35 45 rfl
                conv at e45 => rhs; whnf
                have e46 : vs 36 = _ := hT1 36 46 rfl
                conv at e46 => rhs; whnf
                have e47 : vs 37 = _ := hT1 37 47 rfl
                conv at e47 => rhs; whnf
                have e48 : vs 38 = _ := hT1 38 48 rfl
                conv at e48 => rhs; whnf
                have e49 : vs 39 = _ := hT1 39 49 rfl
                conv at e49 => rhs; whnf
                have e50 : vs 40 = _ := hT1 40 50 rfl
                conv at e50 => rhs; whnf
                have e51 : vs 41 = _ := hT1 41 51 rfl
                conv at e51 => rhs; whnf
                have e52 : vs 42 = _ := hT1 42 52 rfl
                conv at e52 => rhs; whnf
                simp only [putAll, List.drop_succ_cons, List.drop_zero, e10, e11, e12, e13, e14, e15, e16, e17, e18, e19, e20, e21, e22, e23, e24, e25, e26, e27, e28, e29, e30, e31, e32, e33, e34, e35, e36, e37, e38, e39, e40, e41, e42, e43, e44, e45, e46, e47, e48, e49, e50, e51, e52]
                clear hT1 e10 e11 e12 e13 e14 e15 e16 e17 e18 e19 e20 e21 e22 e23 e24 e25 e26 e27 e28 e29 e30 e31 e32 e33 e34 e35 e36 e37 e38 e39 e40 e41 e42 e43 e44 e45 e46 e47 e48 e49 e50 e51 e52
                go_simp
                go_wp2
                go_ret
                exact ⟨by rw [hno.out] <;> rfl, Below.tr (by (repeat (first | exact Below.refl _ _ | assumption | refine Below.al ?_ _ | refine Below.dr ?_ | (refine Below.st ?_ (by simp <;> omega) _) | (refine Below.tr ?_ (by assumption))))) hb1⟩
              · have hd : decide (a (i + 1) ≤ a i) = false := by simpa using h4
                have h5 : a i < a (i + 1) := by omega
                have hno := Lib.hid (show poolOk a b d (i + 1) = true by simp [poolOk, h1, h2, h3, h5])
                go_wp2
                refine wp_region_free (ds := [(0, 10), (1, 11), (2, 12), (3, 13), (4, 14), (5, 15), (6, 16), (7, 17), (8, 18), (9, 19), (10, 20), (11, 21), (12, 22), (13, 23), (14, 24), (15, 25), (16, 26), (17, 27), (18, 28), (19, 29), (20, 30), (21, 31), (22, 32), (23, 33), (24, 34), (25, 35), (26, 36), (27, 37), (28, 38), (29, 39), (30, 40), (31, 41), (32, 42), (33, 43), (34, 44), (35, 45), (36, 46), (37, 47), (38, 48), (39, 49), (40, 50), (41, 51), (42, 52)]) 43 (by kernel_rfl) (by kernel_rfl) (by first | exact .inl rfl | exact .inr (by kernel_rfl)) (by rfl) rfl rfl ?_
                apply free_is
                · intro a' w' hLe hfr hdep
                  have e0 := hfr 0 rfl
                  conv at e0 => rhs; whnf
                  have f0 := e0; simp only [Array.getD_eq_getD_getElem?] at f0
                  refine wpOp_plain rfl rfl (fun K hK => ?_)
                  go_simp
                  exact hK _ _ ⟨_, rfl, Below.refl _ _, rfl⟩
                apply free_is
                · intro a' w' hLe hfr hdep
                  have e3 := hfr 3 rfl
                  conv at e3 => rhs; whnf
                  have f3 := e3; simp only [Array.getD_eq_getD_getElem?] at f3
                  refine wpOp_plain rfl rfl (fun K hK => ?_)
                  go_simp
                  exact hK _ _ ⟨_, rfl, Below.refl _ _, rfl⟩
                apply free_is
                · intro a' w' hLe hfr hdep
                  have e10 : a'.tmps.getD 10 undef = _ := hdep 0 10 (Nat.le_of_ble_eq_true rfl) rfl rfl
                  conv at e10 => rhs; whnf
                  have f10 := e10; simp only [Array.getD_eq_getD_getElem?] at f10
                  have e11 : a'.tmps.getD 11 undef = _ := hdep 1 11 (Nat.le_of_ble_eq_true rfl) rfl rfl
                  conv at e11 => rhs; whnf
                  have f11 := e11; simp only [Array.getD_eq_getD_getElem?] at f11
                  refine wpOp_plain rfl rfl (fun K hK => ?_)
                  go_simp
                  exact hK _ _ ⟨_, rfl, Below.refl _ _, rfl⟩
                apply free_is
                · intro a' w' hLe hfr hdep
                  have e12 : a'.tmps.getD 12 undef = _ := hdep 2 12 (Nat.le_of_ble_eq_true rfl) rfl rfl
                  conv at e12 => rhs; whnf
                  have f12 := e12; simp only [Array.getD_eq_getD_getElem?] at f12
                  refine wpOp_plain rfl rfl (fun K hK => ?_)
                  go_simp
                  exact hK _ _ ⟨_, rfl, Below.refl _ _, rfl⟩
                apply free_is
                · intro a' w' hLe hfr hdep
                  have e13 : a'.tmps.getD 13 undef = _ := hdep 3 13 (Nat.le_of_ble_eq_true rfl) rfl rfl
                  conv at e13 => rhs; whnf
                  have f13 := e13; simp only [Array.getD_eq_getD_getElem?] at f13
                  have kc := fun i => keepc hLe (bl) (by (try simp) <;> omega) i
                  have kf := fun i => keepf hLe (bl) (by (try simp) <;> omega) i
                  have kz : bl < w'.heap.size := (by have := hLe.size; (try simp at this); omega)
                  refine wpOp_plain rfl rfl (fun K hK => ?_)
                  go_simp
                  exact hK _ _ ⟨_, rfl, Below.refl _ _, rfl⟩
                apply free_is
                · intro a' w' hLe hfr hdep
                  have e14 : a'.tmps.getD 14 undef = _ := hdep 4 14 (Nat.le_of_ble_eq_true rfl) rfl rfl
                  conv at e14 => rhs; whnf
                  have f14 := e14; simp only [Array.getD_eq_getD_getElem?] at f14
                  have kc := fun i => keepc hLe (bl) (by (try simp) <;> omega) i
                  have kf := fun i => keepf hLe (bl) (by (try simp) <;> omega) i
                  have kz : bl < w'.heap.size := (by have := hLe.size; (try simp at this); omega)
                  refine wpOp_plain rfl rfl (fun K hK => ?_)
                  go_simp
                  refine (l1In_any _ _ _ _).mono ?_
                  rintro e w2 ⟨rfl, rfl⟩
                  exact hK _ _ ⟨_, rfl, Below.refl _ _, rfl⟩
                apply free_is
                · intro a' w' hLe hfr hdep
                  have e15 : a'.tmps.getD 15 undef = _ := hdep 5 15 (Nat.le_of_ble_eq_true rfl) rfl rfl
                  conv at e15 => rhs; whnf
                  have f15 := e15; simp only [Array.getD_eq_getD_getElem?] at f15
                  refine wpOp_plain rfl rfl (fun K hK => ?_)
                  go_simp
                  exact hK _ _ ⟨_, rfl, Below.refl _ _, rfl⟩
                apply free_is
                · intro a' w' hLe hfr hdep
                  have e16 : a'.tmps.getD 16 undef = _ := hdep 6 16 (Nat.le_of_ble_eq_true rfl) rfl rfl
                  conv at e16 => rhs; whnf
                  have f16 := e16; simp only [Array.getD_eq_getD_getElem?] at f16
                  refine wpOp_plain rfl rfl (fun K hK => ?_)
                  go_simp
                  exact hK _ _ ⟨_, rfl, Below.refl _ _, rfl⟩
                apply free_is
                · intro a' w' hLe hfr hdep
                  have e17 : a'.tmps.getD 17 undef = _ := hdep 7 17 (Nat.le_of_ble_eq_true rfl) rfl rfl
                  conv at e17 => rhs; whnf
                  have f17 := e17; simp only [Array.getD_eq_getD_getElem?] at f17
                  have e0 := hfr 0 rfl
                  conv at e0 => rhs; whnf
                  have f0 := e0; simp only [Array.getD_eq_getD_getElem?] at f0
                  refine wpOp_yes rfl rfl rfl e17 (fun K hK => ?_)
                  go_simp
                  exact hK _ _ ⟨_, rfl, Below.refl _ _, rfl⟩
                apply free_is
                · intro a' w' hLe hfr hdep
                  have e17 : a'.tmps.getD 17 undef = _ := hdep 7 17 (Nat.le_of_ble_eq_true rfl) rfl rfl
                  conv at e17 => rhs; whnf
                  have f17 := e17; simp only [Array.getD_eq_getD_getElem?] at f17
                  have e3 := hfr 3 rfl
                  conv at e3 => rhs; whnf
                  have f3 := e3; simp only [Array.getD_eq_getD_getElem?] at f3
                  refine wpOp_yes rfl rfl rfl e17 (fun K hK => ?_)
                  go_simp
                  exact hK _ _ ⟨_, rfl, Below.refl _ _, rfl⟩
                apply free_is
                · intro a' w' hLe hfr hdep
                  have e17 : a'.tmps.getD 17 undef = _ := hdep 7 17 (Nat.le_of_ble_eq_true rfl) rfl rfl
                  conv at e17 => rhs; whnf
                  have f17 := e17; simp only [Array.getD_eq_getD_getElem?] at f17
                  have e18 : a'.tmps.getD 18 undef = _ := hdep 8 18 (Nat.le_of_ble_eq_true rfl) rfl rfl
                  conv at e18 => rhs; whnf
                  have f18 := e18; simp only [Array.getD_eq_getD_getElem?] at f18
                  have e19 : a'.tmps.getD 19 undef = _ := hdep 9 19 (Nat.le_of_ble_eq_true rfl) rfl rfl
                  conv at e19 => rhs; whnf
                  have f19 := e19; simp only [Array.getD_eq_getD_getElem?] at f19
                  refine wpOp_yes rfl rfl rfl e17 (fun K hK => ?_)
                  go_simp
                  exact hK _ _ ⟨_, rfl, Below.refl _ _, rfl⟩
                apply free_is
                · intro a' w' hLe hfr hdep
                  have e17 : a'.tmps.getD 17 undef = _ := hdep 7 17 (Nat.le_of_ble_eq_true rfl) rfl rfl
                  conv at e17 => rhs; whnf
                  have f17 := e17; simp only [Array.getD_eq_getD_getElem?] at f17
                  have e20 : a'.tmps.getD 20 undef = _ := hdep 10 20 (Nat.le_of_ble_eq_true rfl) rfl rfl
                  conv at e20 => rhs; whnf
                  have f20 := e20; simp only [Array.getD_eq_getD_getElem?] at f20
                  refine wpOp_yes rfl rfl rfl e17 (fun K hK => ?_)
                  go_simp
                  exact hK _ _ ⟨_, rfl, Below.refl _ _, rfl⟩
                apply free_is
                · intro a' w' hLe hfr hdep
                  have e17 : a'.tmps.getD 17 undef = _ := hdep 7 17 (Nat.le_of_ble_eq_true rfl) rfl rfl
                  conv at e17 => rhs; whnf
                  have f17 := e17; simp only [Array.getD_eq_getD_getElem?] at f17
                  have e21 : a'.tmps.getD 21 undef = _ := hdep 11 21 (Nat.le_of_ble_eq_true rfl) rfl rfl
                  conv at e21 => rhs; whnf
                  have f21 := e21; simp only [Array.getD_eq_getD_getElem?] at f21
                  have kc := fun i => keepc hLe (bl) (by (try simp) <;> omega) i
                  have kf := fun i => keepf hLe (bl) (by (try simp) <;> omega) i
                  have kz : bl < w'.heap.size := (by have := hLe.size; (try simp at this); omega)
                  refine wpOp_yes rfl rfl rfl e17 (fun K hK => ?_)
                  go_simp
                  exact hK _ _ ⟨_, rfl, Below.refl _ _, rfl⟩
                apply free_is
                · intro a' w' hLe hfr hdep
                  have e17 : a'.tmps.getD 17 undef = _ := hdep 7 17 (Nat.le_of_ble_eq_true rfl) rfl rfl
                  conv at e17 => rhs; whnf
                  have f17 := e17; simp only [Array.getD_eq_getD_getElem?] at f17
                  have e22 : a'.tmps.getD 22 undef = _ := hdep 12 22 (Nat.le_of_ble_eq_true rfl) rfl rfl
                  conv at e22 => rhs; whnf
                  have f22 := e22; simp only [Array.getD_eq_getD_getElem?] at f22
                  have kc := fun i => keepc hLe (bl) (by (try simp) <;> omega) i
                  have kf := fun i => keepf hLe (bl) (by (try simp) <;> omega) i
                  have kz : bl < w'.heap.size := (by have := hLe.size; (try simp at this); omega)
                  refine wpOp_yes rfl rfl rfl e17 (fun K hK => ?_)
                  go_simp
                  refine (l1In_any _ _ _ _).mono ?_
                  rintro e w2 ⟨rfl, rfl⟩
                  exact hK _ _ ⟨_, rfl, Below.refl _ _, rfl⟩
                apply free_is
                · intro a' w' hLe hfr hdep
                  have e17 : a'.tmps.getD 17 undef = _ := hdep 7 17 (Nat.le_of_ble_eq_true rfl) rfl rfl
                  conv at e17 => rhs; whnf
                  have f17 := e17; simp only [Array.getD_eq_getD_getElem?] at f17
                  have e23 : a'.tmps.getD 23 undef = _ := hdep 13 23 (Nat.le_of_ble_eq_true rfl) rfl rfl
                  conv at e23 => rhs; whnf
                  have f23 := e23; simp only [Array.getD_eq_getD_getElem?] at f23
                  refine wpOp_yes rfl rfl rfl e17 (fun K hK => ?_)
                  go_simp
                  exact hK _ _ ⟨_, rfl, Below.refl _ _, rfl⟩
                apply free_is
                · intro a' w' hLe hfr hdep
                  have e17 : a'.tmps.getD 17 undef = _ := hdep 7 17 (Nat.le_of_ble_eq_true rfl) rfl rfl
                  conv at e17 => rhs; whnf
                  have f17 := e17; simp only [Array.getD_eq_getD_getElem?] at f17
                  have e24 : a'.tmps.getD 24 undef = _ := hdep 14 24 (Nat.le_of_ble_eq_true rfl) rfl rfl
                  conv at e24 => rhs; whnf
                  have f24 := e24; simp only [Array.getD_eq_getD_getElem?] at f24
                  refine wpOp_plain rfl rfl (fun K hK => ?_)
                  go_simp
                  exact hK _ _ ⟨_, rfl, Below.refl _ _, rfl⟩
                apply free_is
                · intro a' w' hLe hfr hdep
                  have e25 : a'.tmps.getD 25 undef = _ := hdep 15 25 (Nat.le_of_ble_eq_true rfl) rfl rfl
                  conv at e25 => rhs; whnf
                  have f25 := e25; simp only [Array.getD_eq_getD_getElem?] at f25
                  refine wpOp_plain rfl rfl (fun K hK => ?_)
                  go_simp
                  exact hK _ _ ⟨_, rfl, Below.refl _ _, rfl⟩
                apply free_is
                · intro a' w' hLe hfr hdep
                  have e26 : a'.tmps.getD 26 undef = _ := hdep 16 26 (Nat.le_of_ble_eq_true rfl) rfl rfl
                  conv at e26 => rhs; whnf
                  have f26 := e26; simp only [Array.getD_eq_getD_getElem?] at f26
                  have e0 := hfr 0 rfl
                  conv at e0 => rhs; whnf
                  have f0 := e0; simp only [Array.getD_eq_getD_getElem?] at f0
                  refine wpOp_yes rfl rfl rfl e26 (fun K hK => ?_)
                  go_simp
                  exact hK _ _ ⟨_, rfl, Below.refl _ _, rfl⟩
                apply free_is
                · intro a' w' hLe hfr hdep
                  have e26 : a'.tmps.getD 26 undef = _ := hdep 16 26 (Nat.le_of_ble_eq_true rfl) rfl rfl
                  conv at e26 => rhs; whnf
                  have f26 := e26; simp only [Array.getD_eq_getD_getElem?] at f26
                  have e3 := hfr 3 rfl
                  conv at e3 => rhs; whnf
                  have f3 := e3; simp only [Array.getD_eq_getD_getElem?] at f3
                  refine wpOp_yes rfl rfl rfl e26 (fun K hK => ?_)
                  go_simp
                  exact hK _ _ ⟨_, rfl, Below.refl _ _, rfl⟩
                apply free_is
                · intro a' w' hLe hfr hdep
                  have e26 : a'.tmps.getD 26 undef = _ := hdep 16 26 (Nat.le_of_ble_eq_true rfl) rfl rfl
                  conv at e26 => rhs; whnf
                  have f26 := e26; simp only [Array.getD_eq_getD_getElem?] at f26
                  have e27 : a'.tmps.getD 27 undef = _ := hdep 17 27 (Nat.le_of_ble_eq_true rfl) rfl rfl
                  conv at e27 => rhs; whnf
                  have f27 := e27; simp only [Array.getD_eq_getD_getElem?] at f27
                  have e28 : a'.tmps.getD 28 undef = _ := hdep 18 28 (Nat.le_of_ble_eq_true rfl) rfl rfl
                  conv at e28 => rhs; whnf
                  have f28 := e28; simp only [Array.getD_eq_getD_getElem?] at f28
                  refine wpOp_yes rfl rfl rfl e26 (fun K hK => ?_)
                  go_simp
                  exact hK _ _ ⟨_, rfl, Below.refl _ _, rfl⟩
                apply free_is
                · intro a' w' hLe hfr hdep
                  have e26 : a'.tmps.getD 26 undef = _ := hdep 16 26 (Nat.le_of_ble_eq_true rfl) rfl rfl
                  conv at e26 => rhs; whnf
                  have f26 := e26; simp only [Array.getD_eq_getD_getElem?] at f26
                  have e29 : a'.tmps.getD 29 undef = _ := hdep 19 29 (Nat.le_of_ble_eq_true rfl) rfl rfl
                  conv at e29 => rhs; whnf
                  have f29 := e29; simp only [Array.getD_eq_getD_getElem?] at f29
                  refine wpOp_yes rfl rfl rfl e26 (fun K hK => ?_)
                  go_simp
                  exact hK _ _ ⟨_, rfl, Below.refl _ _, rfl⟩
                apply free_is
                · intro a' w' hLe hfr hdep
                  have e26 : a'.tmps.getD 26 undef = _ := hdep 16 26 (Nat.le_of_ble_eq_true rfl) rfl rfl
                  conv at e26 => rhs; whnf
                  have f26 := e26; simp only [Array.getD_eq_getD_getElem?] at f26
                  have e30 : a'.tmps.getD 30 undef = _ := hdep 20 30 (Nat.le_of_ble_eq_true rfl) rfl rfl
                  conv at e30 => rhs; whnf
                  have f30 := e30; simp only [Array.getD_eq_getD_getElem?] at f30
                  have kc := fun i => keepc hLe (bl) (by (try simp) <;> omega) i
                  have kf := fun i => keepf hLe (bl) (by (try simp) <;> omega) i
                  have kz : bl < w'.heap.size := (by have := hLe.size; (try simp at this); omega)
                  refine wpOp_yes rfl rfl rfl e26 (fun K hK => ?_)
                  go_simp
                  exact hK _ _ ⟨_, rfl, Below.refl _ _, rfl⟩
                apply free_is
                · intro a' w' hLe hfr hdep
                  have e26 : a'.tmps.getD 26 undef = _ := hdep 16 26 (Nat.le_of_ble_eq_true rfl) rfl rfl
                  conv at e26 => rhs; whnf
                  have f26 := e26; simp only [Array.getD_eq_getD_getElem?] at f26
                  have e31 : a'.tmps.getD 31 undef = _ := hdep 21 31 (Nat.le_of_ble_eq_true rfl) rfl rfl
                  conv at e31 => rhs; whnf
                  have f31 := e31; simp only [Array.getD_eq_getD_getElem?] at f31
                  have kc := fun i => keepc hLe (bl) (by (try simp) <;> omega) i
                  have kf := fun i => keepf hLe (bl) (by (try simp) <;> omega) i
                  have kz : bl < w'.heap.size := (by have := hLe.size; (try simp at this); omega)
                  refine wpOp_yes rfl rfl rfl e26 (fun K hK => ?_)
                  go_simp
                  refine (l1In_any _ _ _ _).mono ?_
                  rintro e w2 ⟨rfl, rfl⟩
                  exact hK _ _ ⟨_, rfl, Below.refl _ _, rfl⟩
                apply free_is
                · intro a' w' hLe hfr hdep
                  have e26 : a'.tmps.getD 26 undef = _ := hdep 16 26 (Nat.le_of_ble_eq_true rfl) rfl rfl
                  conv at e26 => rhs; whnf
                  have f26 := e26; simp only [Array.getD_eq_getD_getElem?] at f26
                  have e32 : a'.tmps.getD 32 undef = _ := hdep 22 32 (Nat.le_of_ble_eq_true rfl) rfl rfl
                  conv at e32 => rhs; whnf
                  have f32 := e32; simp only [Array.getD_eq_getD_getElem?] at f32
                  refine wpOp_yes rfl rfl rfl e26 (fun K hK => ?_)
                  go_simp
                  exact hK _ _ ⟨_, rfl, Below.refl _ _, rfl⟩
                apply free_is
                · intro a' w' hLe hfr hdep
                  have e26 : a'.tmps.getD 26 undef = _ := hdep 16 26 (Nat.le_of_ble_eq_true rfl) rfl rfl
                  conv at e26 => rhs; whnf
                  have f26 := e26; simp only [Array.getD_eq_getD_getElem?] at f26
                  have e33 : a'.tmps.getD 33 undef = _ := hdep 23 33 (Nat.le_of_ble_eq_true rfl) rfl rfl
                  conv at e33 => rhs; whnf
                  have f33 := e33; simp only [Array.getD_eq_getD_getElem?] at f33
                  refine wpOp_plain rfl rfl (fun K hK => ?_)
                  go_simp
                  exact hK _ _ ⟨_, rfl, Below.refl _ _, rfl⟩
                apply free_is
                · intro a' w' hLe hfr hdep
                  have e34 : a'.tmps.getD 34 undef = _ := hdep 24 34 (Nat.le_of_ble_eq_true rfl) rfl rfl
                  conv at e34 => rhs; whnf
                  have f34 := e34; simp only [Array.getD_eq_getD_getElem?] at f34
                  refine wpOp_plain rfl rfl (fun K hK => ?_)
                  go_simp
                  exact hK _ _ ⟨_, rfl, Below.refl _ _, rfl⟩
                apply free_is
                · intro a' w' hLe hfr hdep
                  have e35 : a'.tmps.getD 35 undef = _ := hdep 25 35 (Nat.le_of_ble_eq_true rfl) rfl rfl
                  conv at e35 => rhs; whnf
                  have f35 := e35; simp only [Array.getD_eq_getD_getElem?] at f35
                  have e3 := hfr 3 rfl
                  conv at e3 => rhs; whnf
                  have f3 := e3; simp only [Array.getD_eq_getD_getElem?] at f3
                  refine wpOp_yes rfl rfl rfl e35 (fun K hK => ?_)
                  go_simp
                  exact hK _ _ ⟨_, rfl, Below.refl _ _, rfl⟩
                apply free_is
                · intro a' w' hLe hfr hdep
                  have e35 : a'.tmps.getD 35 undef = _ := hdep 25 35 (Nat.le_of_ble_eq_true rfl) rfl rfl
                  conv at e35 => rhs; whnf
                  have f35 := e35; simp only [Array.getD_eq_getD_getElem?] at f35
                  have e36 : a'.tmps.getD 36 undef = _ := hdep 26 36 (Nat.le_of_ble_eq_true rfl) rfl rfl
                  conv at e36 => rhs; whnf
                  have f36 := e36; simp only [Array.getD_eq_getD_getElem?] at f36
                  refine wpOp_yes rfl rfl rfl e35 (fun K hK => ?_)
                  go_simp
                  exact hK _ _ ⟨_, rfl, Below.refl _ _, rfl⟩
                apply free_is
                · intro a' w' hLe hfr hdep
                  have e35 : a'.tmps.getD 35 undef = _ := hdep 25 35 (Nat.le_of_ble_eq_true rfl) rfl rfl
                  conv at e35 => rhs; whnf
                  have f35 := e35; simp only [Array.getD_eq_getD_getElem?] at f35
                  have e37 : a'.tmps.getD 37 undef = _ := hdep 27 37 (Nat.le_of_ble_eq_true rfl) rfl rfl
                  conv at e37 => rhs; whnf
                  have f37 := e37; simp only [Array.getD_eq_getD_getElem?] at f37
                  refine wpOp_yes rfl rfl rfl e35 (fun K hK => ?_)
                  go_simp
                  exact hK _ _ ⟨_, rfl, Below.refl _ _, rfl⟩
                apply free_is
                · intro a' w' hLe hfr hdep
                  have e38 : a'.tmps.getD 38 undef = _ := hdep 28 38 (Nat.le_of_ble_eq_true rfl) rfl rfl
                  conv at e38 => rhs; whnf
                  have f38 := e38; simp only [Array.getD_eq_getD_getElem?] at f38
                  have e0 := hfr 0 rfl
                  conv at e0 => rhs; whnf
                  have f0 := e0; simp only [Array.getD_eq_getD_getElem?] at f0
                  refine wpOp_yes rfl rfl rfl e38 (fun K hK => ?_)
                  go_simp
                  exact hK _ _ ⟨_, rfl, Below.refl _ _, rfl⟩
                apply free_is
                · intro a' w' hLe hfr hdep
                  have e38 : a'.tmps.getD 38 undef = _ := hdep 28 38 (Nat.le_of_ble_eq_true rfl) rfl rfl
                  conv at e38 => rhs; whnf
                  have f38 := e38; simp only [Array.getD_eq_getD_getElem?] at f38
                  have e3 := hfr 3 rfl
                  conv at e3 => rhs; whnf
                  have f3 := e3; simp only [Array.getD_eq_getD_getElem?] at f3
                  refine wpOp_yes rfl rfl rfl e38 (fun K hK => ?_)
                  go_simp
                  exact hK _ _ ⟨_, rfl, Below.refl _ _, rfl⟩
                apply free_is
                · intro a' w' hLe hfr hdep
                  have e38 : a'.tmps.getD 38 undef = _ := hdep 28 38 (Nat.le_of_ble_eq_true rfl) rfl rfl
                  conv at e38 => rhs; whnf
                  have f38 := e38; simp only [Array.getD_eq_getD_getElem?] at f38
                  have e39 : a'.tmps.getD 39 undef = _ := hdep 29 39 (Nat.le_of_ble_eq_true rfl) rfl rfl
                  conv at e39 => rhs; whnf
                  have f39 := e39; simp only [Array.getD_eq_getD_getElem?] at f39
                  have e40 : a'.tmps.getD 40 undef = _ := hdep 30 40 (Nat.le_of_ble_eq_true rfl) rfl rfl
                  conv at e40 => rhs; whnf
                  have f40 := e40; simp only [Array.getD_eq_getD_getElem?] at f40
                  refine wpOp_yes rfl rfl rfl e38 (fun K hK => ?_)
                  go_simp
                  exact hK _ _ ⟨_, rfl, Below.refl _ _, rfl⟩
                apply free_is
                · intro a' w' hLe hfr hdep
                  have e38 : a'.tmps.getD 38 undef = _ := hdep 28 38 (Nat.le_of_ble_eq_true rfl) rfl rfl
                  conv at e38 => rhs; whnf
                  have f38 := e38; simp only [Array.getD_eq_getD_getElem?] at f38
                  have e41 : a'.tmps.getD 41 undef = _ := hdep 31 41 (Nat.le_of_ble_eq_true rfl) rfl rfl
                  conv at e41 => rhs; whnf
                  have f41 := e41; simp only [Array.getD_eq_getD_getElem?] at f41
                  refine wpOp_yes rfl rfl rfl e38 (fun K hK => ?_)
                  go_simp
                  exact hK _ _ ⟨_, rfl, Below.refl _ _, rfl⟩
                apply free_is
                · intro a' w' hLe hfr hdep
                  have e38 : a'.tmps.getD 38 undef = _ := hdep 28 38 (Nat.le_of_ble_eq_true rfl) rfl rfl
                  conv at e38 => rhs; whnf
                  have f38 := e38; simp only [Array.getD_eq_getD_getElem?] at f38
                  have e42 : a'.tmps.getD 42 undef = _ := hdep 32 42 (Nat.le_of_ble_eq_true rfl) rfl rfl
                  conv at e42 => rhs; whnf
                  have f42 := e42; simp only [Array.getD_eq_getD_getElem?] at f42
                  have kc := fun i => keepc hLe (bl) (by (try simp) <;> omega) i
                  have kf := fun i => keepf hLe (bl) (by (try simp) <;> omega) i
                  have kz : bl < w'.heap.size := (by have := hLe.size; (try simp at this); omega)
                  refine wpOp_yes rfl rfl rfl e38 (fun K hK => ?_)
                  go_simp
                  exact hK _ _ ⟨_, rfl, Below.refl _ _, rfl⟩
                apply free_is
                · intro a' w' hLe hfr hdep
                  have e38 : a'.tmps.getD 38 undef = _ := hdep 28 38 (Nat.le_of_ble_eq_true rfl) rfl rfl
                  conv at e38 => rhs; whnf
                  have f38 := e38; simp only [Array.getD_eq_getD_getElem?] at f38
                  have e0 := hfr 0 rfl
                  conv at e0 => rhs; whnf
                  have f0 := e0; simp only [Array.getD_eq_getD_getElem?] at f0
                  refine wpOp_yes rfl rfl rfl e38 (fun K hK => ?_)
                  go_simp
                  exact hK _ _ ⟨_, rfl, Below.refl _ _, rfl⟩
                apply free_is
                · intro a' w' hLe hfr hdep
                  have e38 : a'.tmps.getD 38 undef = _ := hdep 28 38 (Nat.le_of_ble_eq_true rfl) rfl rfl
                  conv at e38 => rhs; whnf
                  have f38 := e38; simp only [Array.getD_eq_getD_getElem?] at f38
                  have e3 := hfr 3 rfl
                  conv at e3 => rhs; whnf
                  have f3 := e3; simp only [Array.getD_eq_getD_getElem?] at f3
                  refine wpOp_yes rfl rfl rfl e38 (fun K hK => ?_)
                  go_simp
                  exact hK _ _ ⟨_, rfl, Below.refl _ _, rfl⟩
                apply free_is
                · intro a' w' hLe hfr hdep
                  have e38 : a'.tmps.getD 38 undef = _ := hdep 28 38 (Nat.le_of_ble_eq_true rfl) rfl rfl
                  conv at e38 => rhs; whnf
                  have f38 := e38; simp only [Array.getD_eq_getD_getElem?] at f38
                  have e45 : a'.tmps.getD 45 undef = _ := hdep 35 45 (Nat.le_of_ble_eq_true rfl) rfl rfl
                  conv at e45 => rhs; whnf
                  have f45 := e45; simp only [Array.getD_eq_getD_getElem?] at f45
                  refine wpOp_yes rfl rfl rfl e38 (fun K hK => ?_)
                  go_simp
                  exact hK _ _ ⟨_, rfl, Below.refl _ _, rfl⟩
                apply free_is
                · intro a' w' hLe hfr hdep
                  have e38 : a'.tmps.getD 38 undef = _ := hdep 28 38 (Nat.le_of_ble_eq_true rfl) rfl rfl
                  conv at e38 => rhs; whnf
                  have f38 := e38; simp only [Array.getD_eq_getD_getElem?] at f38
                  have e44 : a'.tmps.getD 44 undef = _ := hdep 34 44 (Nat.le_of_ble_eq_true rfl) rfl rfl
                  conv at e44 => rhs; whnf
                  have f44 := e44; simp only [Array.getD_eq_getD_getElem?] at f44
                  have e46 : a'.tmps.getD 46 undef = _ := hdep 36 46 (Nat.le_of_ble_eq_true rfl) rfl rfl
                  conv at e46 => rhs; whnf
                  have f46 := e46; simp only [Array.getD_eq_getD_getElem?] at f46
                  refine wpOp_yes rfl rfl rfl e38 (fun K hK => ?_)
                  go_simp
                  exact hK _ _ ⟨_, rfl, Below.refl _ _, rfl⟩
                apply free_is
                · intro a' w' hLe hfr hdep
                  have e38 : a'.tmps.getD 38 undef = _ := hdep 28 38 (Nat.le_of_ble_eq_true rfl) rfl rfl
                  conv at e38 => rhs; whnf
                  have f38 := e38; simp only [Array.getD_eq_getD_getElem?] at f38
                  have e47 : a'.tmps.getD 47 undef = _ := hdep 37 47 (Nat.le_of_ble_eq_true rfl) rfl rfl
                  conv at e47 => rhs; whnf
                  have f47 := e47; simp only [Array.getD_eq_getD_getElem?] at f47
                  refine wpOp_yes rfl rfl rfl e38 (fun K hK => ?_)
                  go_simp
                  exact hK _ _ ⟨_, rfl, Below.refl _ _, rfl⟩
                apply free_is
                · intro a' w' hLe hfr hdep
                  have e38 : a'.tmps.getD 38 undef = _ := hdep 28 38 (Nat.le_of_ble_eq_true rfl) rfl rfl
                  conv at e38 => rhs; whnf
                  have f38 := e38; simp only [Array.getD_eq_getD_getElem?] at f38
                  have e48 : a'.tmps.getD 48 undef = _ := hdep 38 48 (Nat.le_of_ble_eq_true rfl) rfl rfl
                  conv at e48 => rhs; whnf
                  have f48 := e48; simp only [Array.getD_eq_getD_getElem?] at f48
                  have kc := fun i => keepc hLe (bl) (by (try simp) <;> omega) i
                  have kf := fun i => keepf hLe (bl) (by (try simp) <;> omega) i
                  have kz : bl < w'.heap.size := (by have := hLe.size; (try simp at this); omega)
                  refine wpOp_yes rfl rfl rfl e38 (fun K hK => ?_)
                  go_simp
                  exact hK _ _ ⟨_, rfl, Below.refl _ _, rfl⟩
                apply free_is
                · intro a' w' hLe hfr hdep
                  have e38 : a'.tmps.getD 38 undef = _ := hdep 28 38 (Nat.le_of_ble_eq_true rfl) rfl rfl
                  conv at e38 => rhs; whnf
                  have f38 := e38; simp only [Array.getD_eq_getD_getElem?] at f38
                  have e43 : a'.tmps.getD 43 undef = _ := hdep 33 43 (Nat.le_of_ble_eq_true rfl) rfl rfl
                  conv at e43 => rhs; whnf
                  have f43 := e43; simp only [Array.getD_eq_getD_getElem?] at f43
                  have e49 : a'.tmps.getD 49 undef = _ := hdep 39 49 (Nat.le_of_ble_eq_true rfl) rfl rfl
                  conv at e49 => rhs; whnf
                  have f49 := e49; simp only [Array.getD_eq_getD_getElem?] at f49
                  refine wpOp_yes rfl rfl rfl e38 (fun K hK => ?_)
                  go_simp
                  exact hK _ _ ⟨_, rfl, Below.refl _ _, rfl⟩
                apply free_is
                · intro a' w' hLe hfr hdep
                  have e35 : a'.tmps.getD 35 undef = _ := hdep 25 35 (Nat.le_of_ble_eq_true rfl) rfl rfl
                  conv at e35 => rhs; whnf
                  have f35 := e35; simp only [Array.getD_eq_getD_getElem?] at f35
                  have e38 : a'.tmps.getD 38 undef = _ := hdep 28 38 (Nat.le_of_ble_eq_true rfl) rfl rfl
                  conv at e38 => rhs; whnf
                  have f38 := e38; simp only [Array.getD_eq_getD_getElem?] at f38
                  have e50 : a'.tmps.getD 50 undef = _ := hdep 40 50 (Nat.le_of_ble_eq_true rfl) rfl rfl
                  conv at e50 => rhs; whnf
                  have f50 := e50; simp only [Array.getD_eq_getD_getElem?] at f50
                  refine wpOp_yes rfl rfl rfl e35 (fun K hK => ?_)
                  go_simp
                  exact hK _ _ ⟨_, rfl, Below.refl _ _, rfl⟩
                apply free_is
                · intro a' w' hLe hfr hdep
                  have e35 : a'.tmps.getD 35 undef = _ := hdep 25 35 (Nat.le_of_ble_eq_true rfl) rfl rfl
                  conv at e35 => rhs; whnf
                  have f35 := e35; simp only [Array.getD_eq_getD_getElem?] at f35
                  have e51 : a'.tmps.getD 51 undef = _ := hdep 41 51 (Nat.le_of_ble_eq_true rfl) rfl rfl
                  conv at e51 => rhs; whnf
                  have f51 := e51; simp only [Array.getD_eq_getD_getElem?] at f51
                  refine wpOp_plain rfl rfl (fun K hK => ?_)
                  go_simp
                  exact hK _ _ ⟨_, rfl, Below.refl _ _, rfl⟩
                apply free_nil
                intro vs w1 hb1 hT1
                have e10 : vs 0 = _ := hT1 0 10 rfl
                conv at e10 => rhs; whnf
                have e11 : vs 1 = _ := hT1 1 11 rfl
                conv at e11 => rhs; whnf
                have e12 : vs 2 = _ := hT1 2 12 rfl
                conv at e12 => rhs; whnf
                have e13 : vs 3 = _ := hT1 3 13 rfl
                conv at e13 => rhs; whnf
                have e14 : vs 4 = _ := hT1 4 14 rfl
                conv at e14 => rhs; whnf
                have e15 : vs 5 = _ := hT1 5 15 rfl
                conv at e15 => rhs; whnf
                have e16 : vs 6 = _ := hT1 6 16 rfl
                conv at e16 => rhs; whnf
                have e17 : vs 7 = _ := hT1 7 17 rfl
                conv at e17 => rhs; whnf
                have e18 : vs 8 = _ := hT1 8 18 rfl
                conv at e18 => rhs; whnf
                have e19 : vs 9 = _ := hT1 9 19 rfl
                conv at e19 => rhs; whnf
                have e20 : vs 10 = _ := hT1 10 20 rfl
                conv at e20 => rhs; whnf
                have e21 : vs 11 = _ := hT1 11 21 rfl
                conv at e21 => rhs; whnf
                have e22 : vs 12 = _ := hT1 12 22 rfl
                conv at e22 => rhs; whnf
                have e23 : vs 13 = _ := hT1 13 23 rfl
                conv at e23 => rhs; whnf
                have e24 : vs 14 = _ := hT1 14 24 rfl
                conv at e24 => rhs; whnf
                have e25 : vs 15 = _ := hT1 15 25 rfl
                conv at e25 => rhs; whnf
                have e26 : vs 16 = _ := hT1 16 26 rfl
                conv at e26 => rhs; whnf
                have e27 : vs 17 = _ := hT1 17 27 rfl
                conv at e27 => rhs; whnf
                have e28 : vs 18 = _ := hT1 18 28 rfl
                conv at e28 => rhs; whnf
                have e29 : vs 19 = _ := hT1 19 29 rfl
                conv at e29 => rhs; whnf
                have e30 : vs 20 = _ := hT1 20 30 rfl
                conv at e30 => rhs; whnf
                have e31 : vs 21 = _ := hT1 21 31 rfl
                conv at e31 => rhs; whnf
                have e32 : vs 22 = _ := hT1 22 32 rfl
                conv at e32 => rhs; whnf
                have e33 : vs 23 = _ := hT1 23 33 rfl
                conv at e33 => rhs; whnf
                have e34 : vs 24 = _ := hT1 24 34 rfl
                conv at e34 => rhs; whnf
                have e35 : vs 25 = _ := hT1 25 35 rfl
                conv at e35 => rhs; whnf
                have e36 : vs 26 = _ := hT1 26 36 rfl
                conv at e36 => rhs; whnf
                have e37 : vs 27 = _ := hT1 27 37 rfl
                conv at e37 => rhs; whnf
                have e38 : vs 28 = _ := hT1 28 38 rfl
                conv at e38 => rhs; whnf
                have e39 : vs 29 = _ := hT1 29 39 rfl
                conv at e39 => rhs; whnf
                have e40 : vs 30 = _ := hT1 30 40 rfl
                conv at e40 => rhs; whnf
                have e41 : vs 31 = _ := hT1 31 41 rfl
                conv at e41 => rhs; whnf
                have e42 : vs 32 = _ := hT1 32 42 rfl
                conv at e42 => rhs; whnf
                have e43 : vs 33 = _ := hT1 33 43 rfl
                conv at e43 => rhs; whnf
                have e44 : vs 34 = _ := hT1 34 44 rfl
                conv at e44 => rhs; whnf
                have e45 : vs 35 = _ := hT1 35 45 rfl
                conv at e45 => rhs; whnf
                have e46 : vs 36 = _ := hT1 36 46 rfl
                conv at e46 => rhs; whnf
                have e47 : vs 37 = _ := hT1 37 47 rfl
                conv at e47 => rhs; whnf
                have e48 : vs 38 = _ := hT1 38 48 rfl
                conv at e48 => rhs; whnf
                have e49 : vs 39 = _ := hT1 39 49 rfl
                conv at e49 => rhs; whnf
                have e50 : vs 40 = _ := hT1 40 50 rfl
                conv at e50 => rhs; whnf
                have e51 : vs 41 = _ := hT1 41 51 rfl
                conv at e51 => rhs; whnf
                have e52 : vs 42 = _ := hT1 42 52 rfl
                conv at e52 => rhs; whnf
                simp only [putAll, List.drop_succ_cons, List.drop_zero, e10, e11, e12, e13, e14, e15, e16, e17, e18, e19, e20, e21, e22, e23, e24, e25, e26, e27, e28, e29, e30, e31, e32, e33, e34, e35, e36, e37, e38, e39, e40, e41, e42, e43, e44, e45, e46, e47, e48, e49, e50, e51, e52]
                clear hT1 e10 e11 e12 e13 e14 e15 e16 e17 e18 e19 e20 e21 e22 e23 e24 e25 e26 e27 e28 e29 e30 e31 e32 e33 e34 e35 e36 e37 e38 e39 e40 e41 e42 e43 e44 e45 e46 e47 e48 e49 e50 e51 e52
                go_simp
                go_wp2
                go_roundw
                case rel => exact ⟨i + 1 + 1, by omega, by go_num, upto HO.out hno.out, Below.tr (by (repeat (first | exact Below.refl _ _ | assumption | refine Below.al ?_ _ | refine Below.dr ?_ | (refine Below.st ?_ (by simp <;> omega) _) | (refine Below.tr ?_ (by assumption))))) hb1⟩
                case measure => simp [intOf]; omega
    · obtain rfl : j = n := by omega
      have he := Lib.hid (poolB_end hok)
      clear hok hrow
      go_wp2
      go_ret
      exact ⟨by rw [he.out] <;> simp <;> omega, hBw⟩

end Go.Proofs.Ytbnfllpimnnmfaa
