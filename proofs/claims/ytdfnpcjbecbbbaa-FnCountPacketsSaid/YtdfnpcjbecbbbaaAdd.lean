/-
  AddCounters, in the program and in the reference.
-/
import Derived.Test.YtdfnpcjbecbbbaaCntM
import Derived.Test.YtdfnpcjbecbbbaaRow
namespace Go.Proofs.Ytdfnpcjbecbbbaa
open Go.RowKit

/-- Are the first n hosts the same? -/
def addOk (t t' : Nat → Int) (n : Nat) : Bool := (List.range n).all fun i => t i == t' i
def addN (n n' : Nat) (t t' : Nat → Int) : Nat := if n = n' ∧ addOk t t' n = true then n else 0
def addR (t p y p' y' : Nat → Int) : Nat → List Value := counterR t (fun i => IntKind.i64.wrap (p i + p' i)) (fun i => IntKind.i64.wrap (y i + y' i))
theorem addN_ne {n n' : Nat} {t t' : Nat → Int} (h : ¬ n = n') : addN n n' t t' = 0 := by simp [addN, h]
theorem addN_no {n n' j : Nat} {t t' : Nat → Int} (hj : j < n) (h : (t j == t' j) = false) : addN n n' t t' = 0 := by
  have : addOk t t' n = false := all_no hj h
  simp [addN, this]
theorem addN_yes {n : Nat} {t t' : Nat → Int} (h : ∀ i, i < n → (t i == t' i) = true) : addN n n t t' = n := by
  have : addOk t t' n = true := all_yes h
  simp [addN, this]
theorem addN_le (n n' : Nat) (t t' : Nat → Int) : addN n n' t t' ≤ n := by unfold addN; split <;> omega
theorem addR_one (t p y p' y' : Nat → Int) (k : Nat) : ∀ u ∈ addR t p y p' y' k, u.oneCell' = true := counterR_one _ _ _ k

set_option maxHeartbeats 8000000 in
theorem implAddCounters_any {w : World} {B : Nat} {A A' : Option Addr} {n c n' c' : Nat} {t p y t' p' y' : Nat → Int} (H : Rws w B 3 A n c (counterR t p y)) (H' : Rws w B 3 A' n' c' (counterR t' p' y')) (hB : B ≤ w.heap.size) (hsm : n ≤ 1048576) :
    Calls Try.prog 17 #[.slice A n c, .slice A' n' c'] w (Gives w 32 3 (addN n n' t t') (addR t p y p' y')) := by
  obtain ⟨⟨hnc, hcm⟩, hrow⟩ := H
  obtain ⟨⟨hnc', hcm'⟩, hrow'⟩ := H'
  unfold maxLen at hcm hcm'
  by_cases hn : n = n'
  · subst hn
    go_enter Try.func17, Try.ntmps17
    go_wp2
    go_loopw [5, 15] (fun v i wr => ∃ j : Nat, j ≤ n ∧ i = .int .i64 j ∧ (∀ i, i < j → (t i == t' i) = true) ∧ Acc wr w.heap.size 32 3 v j (addR t p y p' y') ∧ Below w.heap.size w wr) (fun _ i _ => n - (intOf i).toNat)
    case atStart => exact ⟨0, by omega, rfl, fun i hi => absurd hi (by omega), Acc.nil _ _ _ _ (fun _ => rfl), by (repeat (first | exact Below.refl _ _ | assumption | refine Below.al ?_ _ | refine Below.dr ?_ | (refine Below.st ?_ (by simp <;> omega) _) | (refine Below.tr ?_ (by assumption))))⟩
    case round =>
      rename_i v _
      obtain ⟨j, hj, rfl, hok, hAcc, hBw⟩ := hrel
      by_cases hlt : j < n
      · obtain ⟨bl, off, rfl, hbB, hc⟩ := hrow (by omega)
        obtain ⟨bl', off', rfl, hbB', hc'⟩ := hrow' (by omega)
        have hr := hc j hlt
        have hr' := hc' j hlt
        have hbs : bl < wr.heap.size := by have := hBw.size; omega
        have hbs' : bl' < wr.heap.size := by have := hBw.size; omega
        have q0 : wr.cell? ⟨bl, off + j * 3, none⟩ = some (.int .i64 (t j)) := (keepc hBw bl (by omega) _).trans (hr 0 _ rfl)
        have q1 : wr.cell? ⟨bl, off + j * 3 + 1, none⟩ = some (.int .i64 (p j)) := (keepc hBw bl (by omega) _).trans (hr 1 _ rfl)
        have q2 : wr.cell? ⟨bl, off + j * 3 + 2, none⟩ = some (.int .i64 (y j)) := (keepc hBw bl (by omega) _).trans (hr 2 _ rfl)
        have s0 : wr.cell? ⟨bl', off' + j * 3, none⟩ = some (.int .i64 (t' j)) := (keepc hBw bl' (by omega) _).trans (hr' 0 _ rfl)
        have s1 : wr.cell? ⟨bl', off' + j * 3 + 1, none⟩ = some (.int .i64 (p' j)) := (keepc hBw bl' (by omega) _).trans (hr' 1 _ rfl)
        have s2 : wr.cell? ⟨bl', off' + j * 3 + 2, none⟩ = some (.int .i64 (y' j)) := (keepc hBw bl' (by omega) _).trans (hr' 2 _ rfl)
        clear hc hc' hr hr' hrow hrow'
        have HO := Lib.hid hok
        clear hok
        by_cases ht : t j = t' j
        · have hq : (t j == t' j) = true := by simpa using ht
          have hq2 : (t j != t' j) = false := by simpa using ht
          have HQ := Lib.hid hq
          clear hq ht
          go_wp2
          refine wp_region_free (ds := [(0, 20), (1, 21), (2, 22), (3, 23), (4, 24), (5, 25), (6, 26), (7, 27)]) 8 (by kernel_rfl) (by kernel_rfl) (by first | exact .inl rfl | exact .inr (by kernel_rfl)) (by rfl) rfl rfl ?_
          apply free_is
          · intro a' w' hLe hfr hdep
            have e7 := hfr 7 rfl
            conv at e7 => rhs; whnf
            have f7 := e7; simp only [Array.getD_eq_getD_getElem?] at f7
            refine wpOp_plain rfl rfl (fun K hK => ?_)
            go_simp
            exact hK _ _ ⟨_, rfl, Below.refl _ _, rfl⟩
          apply free_is
          · intro a' w' hLe hfr hdep
            have e20 : a'.tmps.getD 20 undef = _ := hdep 0 20 (Nat.le_of_ble_eq_true rfl) rfl rfl
            conv at e20 => rhs; whnf
            have f20 := e20; simp only [Array.getD_eq_getD_getElem?] at f20
            have kc := fun i => keepc hLe (bl') (by (try simp) <;> omega) i
            have kf := fun i => keepf hLe (bl') (by (try simp) <;> omega) i
            have kz : bl' < w'.heap.size := (by have := hLe.size; (try simp at this); omega)
            have kc := fun i => keepc hLe (wr.heap.size) (by (try simp) <;> omega) i
            have kf := fun i => keepf hLe (wr.heap.size) (by (try simp) <;> omega) i
            have kz : wr.heap.size < w'.heap.size := (by have := hLe.size; (try simp at this); omega)
            refine wpOp_plain rfl rfl (fun K hK => ?_)
            go_simp
            exact hK _ _ ⟨_, rfl, Below.refl _ _, rfl⟩
          apply free_is
          · intro a' w' hLe hfr hdep
            have e1 := hfr 1 rfl
            conv at e1 => rhs; whnf
            have f1 := e1; simp only [Array.getD_eq_getD_getElem?] at f1
            refine wpOp_plain rfl rfl (fun K hK => ?_)
            go_simp
            exact hK _ _ ⟨_, rfl, Below.refl _ _, rfl⟩
          apply free_is
          · intro a' w' hLe hfr hdep
            have e6 := hfr 6 rfl
            conv at e6 => rhs; whnf
            have f6 := e6; simp only [Array.getD_eq_getD_getElem?] at f6
            refine wpOp_plain rfl rfl (fun K hK => ?_)
            go_simp
            exact hK _ _ ⟨_, rfl, Below.refl _ _, rfl⟩
          apply free_is
          · intro a' w' hLe hfr hdep
            have e22 : a'.tmps.getD 22 undef = _ := hdep 2 22 (Nat.le_of_ble_eq_true rfl) rfl rfl
            conv at e22 => rhs; whnf
            have f22 := e22; simp only [Array.getD_eq_getD_getElem?] at f22
            have e23 : a'.tmps.getD 23 undef = _ := hdep 3 23 (Nat.le_of_ble_eq_true rfl) rfl rfl
            conv at e23 => rhs; whnf
            have f23 := e23; simp only [Array.getD_eq_getD_getElem?] at f23
            refine wpOp_plain rfl rfl (fun K hK => ?_)
            go_simp
            exact hK _ _ ⟨_, rfl, Below.refl _ _, rfl⟩
          apply free_is
          · intro a' w' hLe hfr hdep
            have e24 : a'.tmps.getD 24 undef = _ := hdep 4 24 (Nat.le_of_ble_eq_true rfl) rfl rfl
            conv at e24 => rhs; whnf
            have f24 := e24; simp only [Array.getD_eq_getD_getElem?] at f24
            refine wpOp_plain rfl rfl (fun K hK => ?_)
            go_simp
            exact hK _ _ ⟨_, rfl, Below.refl _ _, rfl⟩
          apply free_is
          · intro a' w' hLe hfr hdep
            have e25 : a'.tmps.getD 25 undef = _ := hdep 5 25 (Nat.le_of_ble_eq_true rfl) rfl rfl
            conv at e25 => rhs; whnf
            have f25 := e25; simp only [Array.getD_eq_getD_getElem?] at f25
            have kc := fun i => keepc hLe (bl') (by (try simp) <;> omega) i
            have kf := fun i => keepf hLe (bl') (by (try simp) <;> omega) i
            have kz : bl' < w'.heap.size := (by have := hLe.size; (try simp at this); omega)
            have kc := fun i => keepc hLe (wr.heap.size) (by (try simp) <;> omega) i
            have kf := fun i => keepf hLe (wr.heap.size) (by (try simp) <;> omega) i
            have kz : wr.heap.size < w'.heap.size := (by have := hLe.size; (try simp at this); omega)
            refine wpOp_plain rfl rfl (fun K hK => ?_)
            go_simp
            exact hK _ _ ⟨_, rfl, Below.refl _ _, rfl⟩
          apply free_is
          · intro a' w' hLe hfr hdep
            have e21 : a'.tmps.getD 21 undef = _ := hdep 1 21 (Nat.le_of_ble_eq_true rfl) rfl rfl
            conv at e21 => rhs; whnf
            have f21 := e21; simp only [Array.getD_eq_getD_getElem?] at f21
            have e26 : a'.tmps.getD 26 undef = _ := hdep 6 26 (Nat.le_of_ble_eq_true rfl) rfl rfl
            conv at e26 => rhs; whnf
            have f26 := e26; simp only [Array.getD_eq_getD_getElem?] at f26
            refine wpOp_plain rfl rfl (fun K hK => ?_)
            go_simp
            exact hK _ _ ⟨_, rfl, Below.refl _ _, rfl⟩
          apply free_nil
          intro vs w7 hb7 hT7
          have e20 : vs 0 = _ := hT7 0 20 rfl
          conv at e20 => rhs; whnf
          have e21 : vs 1 = _ := hT7 1 21 rfl
          conv at e21 => rhs; whnf
          have e22 : vs 2 = _ := hT7 2 22 rfl
          conv at e22 => rhs; whnf
          have e23 : vs 3 = _ := hT7 3 23 rfl
          conv at e23 => rhs; whnf
          have e24 : vs 4 = _ := hT7 4 24 rfl
          conv at e24 => rhs; whnf
          have e25 : vs 5 = _ := hT7 5 25 rfl
          conv at e25 => rhs; whnf
          have e26 : vs 6 = _ := hT7 6 26 rfl
          conv at e26 => rhs; whnf
          have e27 : vs 7 = _ := hT7 7 27 rfl
          conv at e27 => rhs; whnf
          simp only [putAll, List.drop_succ_cons, List.drop_zero, e20, e21, e22, e23, e24, e25, e26, e27]
          clear hT7 e20 e21 e22 e23 e24 e25 e26 e27
          go_simp
          have hz7 : wr.heap.size < w7.heap.size := by have := hb7.size; simp at this; omega
          have k7 := keepc hb7 bl' (by simp <;> omega)
          have k8 := keepc hb7 wr.heap.size (by simp)
          have z7 : bl' < w7.heap.size := by omega
          have hB7 : Below wr.heap.size wr w7 := Below.tr (by (repeat (first | exact Below.refl _ _ | assumption | refine Below.al ?_ _ | refine Below.dr ?_ | (refine Below.st ?_ (by simp <;> omega) _) | (refine Below.tr ?_ (by assumption))))) hb7
          go_wp2
          refine wp_region_free (ds := [(0, 28), (1, 29), (2, 30), (3, 31), (4, 32), (5, 33), (6, 34), (7, 35), (8, 36), (9, 37), (10, 38), (11, 39), (12, 40), (13, 41), (14, 42), (15, 43), (16, 44), (17, 45), (18, 46), (19, 47), (20, 48)]) 21 (by kernel_rfl) (by kernel_rfl) (by first | exact .inl rfl | exact .inr (by kernel_rfl)) (by rfl) rfl rfl ?_
          apply free_is
          · intro a' w' hLe hfr hdep
            have e5 := hfr 5 rfl
            conv at e5 => rhs; whnf
            have f5 := e5; simp only [Array.getD_eq_getD_getElem?] at f5
            refine wpOp_plain rfl rfl (fun K hK => ?_)
            go_simp
            exact hK _ _ ⟨_, rfl, Below.refl _ _, rfl⟩
          apply free_is
          · intro a' w' hLe hfr hdep
            have e7 := hfr 7 rfl
            conv at e7 => rhs; whnf
            have f7 := e7; simp only [Array.getD_eq_getD_getElem?] at f7
            refine wpOp_plain rfl rfl (fun K hK => ?_)
            go_simp
            exact hK _ _ ⟨_, rfl, Below.refl _ _, rfl⟩
          apply free_is
          · intro a' w' hLe hfr hdep
            have e29 : a'.tmps.getD 29 undef = _ := hdep 1 29 (Nat.le_of_ble_eq_true rfl) rfl rfl
            conv at e29 => rhs; whnf
            have f29 := e29; simp only [Array.getD_eq_getD_getElem?] at f29
            have kc := fun i => keepc hLe (bl') (by (try simp) <;> omega) i
            have kf := fun i => keepf hLe (bl') (by (try simp) <;> omega) i
            have kz : bl' < w'.heap.size := (by have := hLe.size; (try simp at this); omega)
            have kc := fun i => keepc hLe (wr.heap.size) (by (try simp) <;> omega) i
            have kf := fun i => keepf hLe (wr.heap.size) (by (try simp) <;> omega) i
            have kz : wr.heap.size < w'.heap.size := (by have := hLe.size; (try simp at this); omega)
            refine wpOp_plain rfl rfl (fun K hK => ?_)
            go_simp
            exact hK _ _ ⟨_, rfl, Below.refl _ _, rfl⟩
          apply free_is
          · intro a' w' hLe hfr hdep
            have e7 := hfr 7 rfl
            conv at e7 => rhs; whnf
            have f7 := e7; simp only [Array.getD_eq_getD_getElem?] at f7
            refine wpOp_plain rfl rfl (fun K hK => ?_)
            go_simp
            exact hK _ _ ⟨_, rfl, Below.refl _ _, rfl⟩
          apply free_is
          · intro a' w' hLe hfr hdep
            have e31 : a'.tmps.getD 31 undef = _ := hdep 3 31 (Nat.le_of_ble_eq_true rfl) rfl rfl
            conv at e31 => rhs; whnf
            have f31 := e31; simp only [Array.getD_eq_getD_getElem?] at f31
            have kc := fun i => keepc hLe (bl') (by (try simp) <;> omega) i
            have kf := fun i => keepf hLe (bl') (by (try simp) <;> omega) i
            have kz : bl' < w'.heap.size := (by have := hLe.size; (try simp at this); omega)
            have kc := fun i => keepc hLe (wr.heap.size) (by (try simp) <;> omega) i
            have kf := fun i => keepf hLe (wr.heap.size) (by (try simp) <;> omega) i
            have kz : wr.heap.size < w'.heap.size := (by have := hLe.size; (try simp at this); omega)
            refine wpOp_plain rfl rfl (fun K hK => ?_)
            go_simp
            exact hK _ _ ⟨_, rfl, Below.refl _ _, rfl⟩
          apply free_is
          · intro a' w' hLe hfr hdep
            have e1 := hfr 1 rfl
            conv at e1 => rhs; whnf
            have f1 := e1; simp only [Array.getD_eq_getD_getElem?] at f1
            refine wpOp_plain rfl rfl (fun K hK => ?_)
            go_simp
            exact hK _ _ ⟨_, rfl, Below.refl _ _, rfl⟩
          apply free_is
          · intro a' w' hLe hfr hdep
            have e6 := hfr 6 rfl
            conv at e6 => rhs; whnf
            have f6 := e6; simp only [Array.getD_eq_getD_getElem?] at f6
            refine wpOp_plain rfl rfl (fun K hK => ?_)
            go_simp
            exact hK _ _ ⟨_, rfl, Below.refl _ _, rfl⟩
          apply free_is
          · intro a' w' hLe hfr hdep
            have e33 : a'.tmps.getD 33 undef = _ := hdep 5 33 (Nat.le_of_ble_eq_true rfl) rfl rfl
            conv at e33 => rhs; whnf
            have f33 := e33; simp only [Array.getD_eq_getD_getElem?] at f33
            have e34 : a'.tmps.getD 34 undef = _ := hdep 6 34 (Nat.le_of_ble_eq_true rfl) rfl rfl
            conv at e34 => rhs; whnf
            have f34 := e34; simp only [Array.getD_eq_getD_getElem?] at f34
            refine wpOp_plain rfl rfl (fun K hK => ?_)
            go_simp
            exact hK _ _ ⟨_, rfl, Below.refl _ _, rfl⟩
          apply free_is
          · intro a' w' hLe hfr hdep
            have e35 : a'.tmps.getD 35 undef = _ := hdep 7 35 (Nat.le_of_ble_eq_true rfl) rfl rfl
            conv at e35 => rhs; whnf
            have f35 := e35; simp only [Array.getD_eq_getD_getElem?] at f35
            refine wpOp_plain rfl rfl (fun K hK => ?_)
            go_simp
            exact hK _ _ ⟨_, rfl, Below.refl _ _, rfl⟩
          apply free_is
          · intro a' w' hLe hfr hdep
            have e36 : a'.tmps.getD 36 undef = _ := hdep 8 36 (Nat.le_of_ble_eq_true rfl) rfl rfl
            conv at e36 => rhs; whnf
            have f36 := e36; simp only [Array.getD_eq_getD_getElem?] at f36
            have kc := fun i => keepc hLe (bl') (by (try simp) <;> omega) i
            have kf := fun i => keepf hLe (bl') (by (try simp) <;> omega) i
            have kz : bl' < w'.heap.size := (by have := hLe.size; (try simp at this); omega)
            have kc := fun i => keepc hLe (wr.heap.size) (by (try simp) <;> omega) i
            have kf := fun i => keepf hLe (wr.heap.size) (by (try simp) <;> omega) i
            have kz : wr.heap.size < w'.heap.size := (by have := hLe.size; (try simp at this); omega)
            refine wpOp_plain rfl rfl (fun K hK => ?_)
            go_simp
            exact hK _ _ ⟨_, rfl, Below.refl _ _, rfl⟩
          apply free_is
          · intro a' w' hLe hfr hdep
            have e32 : a'.tmps.getD 32 undef = _ := hdep 4 32 (Nat.le_of_ble_eq_true rfl) rfl rfl
            conv at e32 => rhs; whnf
            have f32 := e32; simp only [Array.getD_eq_getD_getElem?] at f32
            have e37 : a'.tmps.getD 37 undef = _ := hdep 9 37 (Nat.le_of_ble_eq_true rfl) rfl rfl
            conv at e37 => rhs; whnf
            have f37 := e37; simp only [Array.getD_eq_getD_getElem?] at f37
            refine wpOp_plain rfl rfl (fun K hK => ?_)
            go_simp
            exact hK _ _ ⟨_, rfl, Below.refl _ _, rfl⟩
          apply free_is
          · intro a' w' hLe hfr hdep
            have e7 := hfr 7 rfl
            conv at e7 => rhs; whnf
            have f7 := e7; simp only [Array.getD_eq_getD_getElem?] at f7
            refine wpOp_plain rfl rfl (fun K hK => ?_)
            go_simp
            exact hK _ _ ⟨_, rfl, Below.refl _ _, rfl⟩
          apply free_is
          · intro a' w' hLe hfr hdep
            have e39 : a'.tmps.getD 39 undef = _ := hdep 11 39 (Nat.le_of_ble_eq_true rfl) rfl rfl
            conv at e39 => rhs; whnf
            have f39 := e39; simp only [Array.getD_eq_getD_getElem?] at f39
            have kc := fun i => keepc hLe (bl') (by (try simp) <;> omega) i
            have kf := fun i => keepf hLe (bl') (by (try simp) <;> omega) i
            have kz : bl' < w'.heap.size := (by have := hLe.size; (try simp at this); omega)
            have kc := fun i => keepc hLe (wr.heap.size) (by (try simp) <;> omega) i
            have kf := fun i => keepf hLe (wr.heap.size) (by (try simp) <;> omega) i
            have kz : wr.heap.size < w'.heap.size := (by have := hLe.size; (try simp at this); omega)
            refine wpOp_plain rfl rfl (fun K hK => ?_)
            go_simp
            exact hK _ _ ⟨_, rfl, Below.refl _ _, rfl⟩
          apply free_is
          · intro a' w' hLe hfr hdep
            have e1 := hfr 1 rfl
            conv at e1 => rhs; whnf
            have f1 := e1; simp only [Array.getD_eq_getD_getElem?] at f1
            refine wpOp_plain rfl rfl (fun K hK => ?_)
            go_simp
            exact hK _ _ ⟨_, rfl, Below.refl _ _, rfl⟩
          apply free_is
          · intro a' w' hLe hfr hdep
            have e6 := hfr 6 rfl
            conv at e6 => rhs; whnf
            have f6 := e6; simp only [Array.getD_eq_getD_getElem?] at f6
            refine wpOp_plain rfl rfl (fun K hK => ?_)
            go_simp
            exact hK _ _ ⟨_, rfl, Below.refl _ _, rfl⟩
          apply free_is
          · intro a' w' hLe hfr hdep
            have e41 : a'.tmps.getD 41 undef = _ := hdep 13 41 (Nat.le_of_ble_eq_true rfl) rfl rfl
            conv at e41 => rhs; whnf
            have f41 := e41; simp only [Array.getD_eq_getD_getElem?] at f41
            have e42 : a'.tmps.getD 42 undef = _ := hdep 14 42 (Nat.le_of_ble_eq_true rfl) rfl rfl
            conv at e42 => rhs; whnf
            have f42 := e42; simp only [Array.getD_eq_getD_getElem?] at f42
            refine wpOp_plain rfl rfl (fun K hK => ?_)
            go_simp
            exact hK _ _ ⟨_, rfl, Below.refl _ _, rfl⟩
          apply free_is
          · intro a' w' hLe hfr hdep
            have e43 : a'.tmps.getD 43 undef = _ := hdep 15 43 (Nat.le_of_ble_eq_true rfl) rfl rfl
            conv at e43 => rhs; whnf
            have f43 := e43; simp only [Array.getD_eq_getD_getElem?] at f43
            refine wpOp_plain rfl rfl (fun K hK => ?_)
            go_simp
            exact hK _ _ ⟨_, rfl, Below.refl _ _, rfl⟩
          apply free_is
          · intro a' w' hLe hfr hdep
            have e44 : a'.tmps.getD 44 undef = _ := hdep 16 44 (Nat.le_of_ble_eq_true rfl) rfl rfl
            conv at e44 => rhs; whnf
            have f44 := e44; simp only [Array.getD_eq_getD_getElem?] at f44
            have kc := fun i => keepc hLe (bl') (by (try simp) <;> omega) i
            have kf := fun i => keepf hLe (bl') (by (try simp) <;> omega) i
            have kz : bl' < w'.heap.size := (by have := hLe.size; (try simp at this); omega)
            have kc := fun i => keepc hLe (wr.heap.size) (by (try simp) <;> omega) i
            have kf := fun i => keepf hLe (wr.heap.size) (by (try simp) <;> omega) i
            have kz : wr.heap.size < w'.heap.size := (by have := hLe.size; (try simp at this); omega)
            refine wpOp_plain rfl rfl (fun K hK => ?_)
            go_simp
            exact hK _ _ ⟨_, rfl, Below.refl _ _, rfl⟩
          apply free_is
          · intro a' w' hLe hfr hdep
            have e40 : a'.tmps.getD 40 undef = _ := hdep 12 40 (Nat.le_of_ble_eq_true rfl) rfl rfl
            conv at e40 => rhs; whnf
            have f40 := e40; simp only [Array.getD_eq_getD_getElem?] at f40
            have e45 : a'.tmps.getD 45 undef = _ := hdep 17 45 (Nat.le_of_ble_eq_true rfl) rfl rfl
            conv at e45 => rhs; whnf
            have f45 := e45; simp only [Array.getD_eq_getD_getElem?] at f45
            refine wpOp_plain rfl rfl (fun K hK => ?_)
            go_simp
            exact hK _ _ ⟨_, rfl, Below.refl _ _, rfl⟩
          apply free_is
          · intro a' w' hLe hfr hdep
            have e30 : a'.tmps.getD 30 undef = _ := hdep 2 30 (Nat.le_of_ble_eq_true rfl) rfl rfl
            conv at e30 => rhs; whnf
            have f30 := e30; simp only [Array.getD_eq_getD_getElem?] at f30
            have e38 : a'.tmps.getD 38 undef = _ := hdep 10 38 (Nat.le_of_ble_eq_true rfl) rfl rfl
            conv at e38 => rhs; whnf
            have f38 := e38; simp only [Array.getD_eq_getD_getElem?] at f38
            have e46 : a'.tmps.getD 46 undef = _ := hdep 18 46 (Nat.le_of_ble_eq_true rfl) rfl rfl
            conv at e46 => rhs; whnf
            have f46 := e46; simp only [Array.getD_eq_getD_getElem?] at f46
            refine wpOp_plain rfl rfl (fun K hK => ?_)
            go_simp
            exact hK _ _ ⟨_, rfl, Below.refl _ _, rfl⟩
          refine free_cons (kbRow w.heap.size 32 #[.int .i64 (t j), .int .i64 (IntKind.i64.wrap (p j + p' j)), .int .i64 (IntKind.i64.wrap (y j + y' j))]) ?_ ?_
          · intro a' w' hLe hfr hdep
            have e47 : a'.tmps.getD 47 undef = _ := hdep 19 47 (Nat.le_of_ble_eq_true rfl) rfl rfl
            conv at e47 => rhs; whnf
            have f47 := e47; simp only [Array.getD_eq_getD_getElem?] at f47
            refine wpOp_plain rfl rfl (fun K hK => ?_)
            go_simp
            exact hK _ _ ⟨_, rfl, (Below.refl _ _).alloc (Nat.le_refl _) _, ⟨_, rfl, by have := hLe.size; have := hB7.size; have := hBw.size; omega, heap_alloc_new _ _⟩⟩
          apply free_nil
          intro vs w9 hb9 hT9
          have e28 : vs 0 = _ := hT9 0 28 rfl
          conv at e28 => rhs; whnf
          have e29 : vs 1 = _ := hT9 1 29 rfl
          conv at e29 => rhs; whnf
          have e30 : vs 2 = _ := hT9 2 30 rfl
          conv at e30 => rhs; whnf
          have e31 : vs 3 = _ := hT9 3 31 rfl
          conv at e31 => rhs; whnf
          have e32 : vs 4 = _ := hT9 4 32 rfl
          conv at e32 => rhs; whnf
          have e33 : vs 5 = _ := hT9 5 33 rfl
          conv at e33 => rhs; whnf
          have e34 : vs 6 = _ := hT9 6 34 rfl
          conv at e34 => rhs; whnf
          have e35 : vs 7 = _ := hT9 7 35 rfl
          conv at e35 => rhs; whnf
          have e36 : vs 8 = _ := hT9 8 36 rfl
          conv at e36 => rhs; whnf
          have e37 : vs 9 = _ := hT9 9 37 rfl
          conv at e37 => rhs; whnf
          have e38 : vs 10 = _ := hT9 10 38 rfl
          conv at e38 => rhs; whnf
          have e39 : vs 11 = _ := hT9 11 39 rfl
          conv at e39 => rhs; whnf
          have e40 : vs 12 = _ := hT9 12 40 rfl
          conv at e40 => rhs; whnf
          have e41 : vs 13 = _ := hT9 13 41 rfl
          conv at e41 => rhs; whnf
          have e42 : vs 14 = _ := hT9 14 42 rfl
          conv at e42 => rhs; whnf
          have e43 : vs 15 = _ := hT9 15 43 rfl
          conv at e43 => rhs; whnf
          have e44 : vs 16 = _ := hT9 16 44 rfl
          conv at e44 => rhs; whnf
          have e45 : vs 17 = _ := hT9 17 45 rfl
          conv at e45 => rhs; whnf
          have e46 : vs 18 = _ := hT9 18 46 rfl
          conv at e46 => rhs; whnf
          have e47 : vs 19 = _ := hT9 19 47 rfl
          conv at e47 => rhs; whnf
          obtain ⟨g48, e48, hg48, hN48⟩ := hT9 20 48 rfl
          simp only [putAll, List.drop_succ_cons, List.drop_zero, e28, e29, e30, e31, e32, e33, e34, e35, e36, e37, e38, e39, e40, e41, e42, e43, e44, e45, e46, e47, e48]
          clear hT9 e28 e29 e30 e31 e32 e33 e34 e35 e36 e37 e38 e39 e40 e41 e42 e43 e44 e45 e46 e47 e48
          go_simp
          have hB9 : Below wr.heap.size wr w9 := Below.tr hB7 hb9
          refine wpList_push rfl (.tmp 28) (.tmp 48) 25 rfl 32 _ 3 24 Try.underlying25 info_counter rfl (by decide) (by decide) rfl (hAcc.next hB9) rfl hN48 rfl (addR_one _ _ _ _ _ _) (by omega) (by have := hB9.size; have := hBw.size; omega) ?_
          intro v' w' hAcc' hbb hgr
          go_wp2
          go_roundw
          case rel => exact ⟨j + 1, by omega, by go_num, upto HO.out HQ.out, hAcc', Below.trans (Below.tr hBw hB9) hbb⟩
          case measure => simp [intOf]; omega
        · have hq : (t j == t' j) = false := by simpa using ht
          have hq2 : (t j != t' j) = true := by simpa using ht
          have he := Lib.hid (addN_no (n' := n) hlt hq)
          go_wp2
          refine wp_region_free (ds := [(0, 20), (1, 21), (2, 22), (3, 23), (4, 24), (5, 25), (6, 26), (7, 27)]) 8 (by kernel_rfl) (by kernel_rfl) (by first | exact .inl rfl | exact .inr (by kernel_rfl)) (by rfl) rfl rfl ?_
          apply free_is
          · intro a' w' hLe hfr hdep
            have e7 := hfr 7 rfl
            conv at e7 => rhs; whnf
            have f7 := e7; simp only [Array.getD_eq_getD_getElem?] at f7
            refine wpOp_plain rfl rfl (fun K hK => ?_)
            go_simp
            exact hK _ _ ⟨_, rfl, Below.refl _ _, rfl⟩
          apply free_is
          · intro a' w' hLe hfr hdep
            have e20 : a'.tmps.getD 20 undef = _ := hdep 0 20 (Nat.le_of_ble_eq_true rfl) rfl rfl
            conv at e20 => rhs; whnf
            have f20 := e20; simp only [Array.getD_eq_getD_getElem?] at f20
            have kc := fun i => keepc hLe (bl') (by (try simp) <;> omega) i
            have kf := fun i => keepf hLe (bl') (by (try simp) <;> omega) i
            have kz : bl' < w'.heap.size := (by have := hLe.size; (try simp at this); omega)
            have kc := fun i => keepc hLe (wr.heap.size) (by (try simp) <;> omega) i
            have kf := fun i => keepf hLe (wr.heap.size) (by (try simp) <;> omega) i
            have kz : wr.heap.size < w'.heap.size := (by have := hLe.size; (try simp at this); omega)
            refine wpOp_plain rfl rfl (fun K hK => ?_)
            go_simp
            exact hK _ _ ⟨_, rfl, Below.refl _ _, rfl⟩
          apply free_is
          · intro a' w' hLe hfr hdep
            have e1 := hfr 1 rfl
            conv at e1 => rhs; whnf
            have f1 := e1; simp only [Array.getD_eq_getD_getElem?] at f1
            refine wpOp_plain rfl rfl (fun K hK => ?_)
            go_simp
            exact hK _ _ ⟨_, rfl, Below.refl _ _, rfl⟩
          apply free_is
          · intro a' w' hLe hfr hdep
            have e6 := hfr 6 rfl
            conv at e6 => rhs; whnf
            have f6 := e6; simp only [Array.getD_eq_getD_getElem?] at f6
            refine wpOp_plain rfl rfl (fun K hK => ?_)
            go_simp
            exact hK _ _ ⟨_, rfl, Below.refl _ _, rfl⟩
          apply free_is
          · intro a' w' hLe hfr hdep
            have e22 : a'.tmps.getD 22 undef = _ := hdep 2 22 (Nat.le_of_ble_eq_true rfl) rfl rfl
            conv at e22 => rhs; whnf
            have f22 := e22; simp only [Array.getD_eq_getD_getElem?] at f22
            have e23 : a'.tmps.getD 23 undef = _ := hdep 3 23 (Nat.le_of_ble_eq_true rfl) rfl rfl
            conv at e23 => rhs; whnf
            have f23 := e23; simp only [Array.getD_eq_getD_getElem?] at f23
            refine wpOp_plain rfl rfl (fun K hK => ?_)
            go_simp
            exact hK _ _ ⟨_, rfl, Below.refl _ _, rfl⟩
          apply free_is
          · intro a' w' hLe hfr hdep
            have e24 : a'.tmps.getD 24 undef = _ := hdep 4 24 (Nat.le_of_ble_eq_true rfl) rfl rfl
            conv at e24 => rhs; whnf
            have f24 := e24; simp only [Array.getD_eq_getD_getElem?] at f24
            refine wpOp_plain rfl rfl (fun K hK => ?_)
            go_simp
            exact hK _ _ ⟨_, rfl, Below.refl _ _, rfl⟩
          apply free_is
          · intro a' w' hLe hfr hdep
            have e25 : a'.tmps.getD 25 undef = _ := hdep 5 25 (Nat.le_of_ble_eq_true rfl) rfl rfl
            conv at e25 => rhs; whnf
            have f25 := e25; simp only [Array.getD_eq_getD_getElem?] at f25
            have kc := fun i => keepc hLe (bl') (by (try simp) <;> omega) i
            have kf := fun i => keepf hLe (bl') (by (try simp) <;> omega) i
            have kz : bl' < w'.heap.size := (by have := hLe.size; (try simp at this); omega)
            have kc := fun i => keepc hLe (wr.heap.size) (by (try simp) <;> omega) i
            have kf := fun i => keepf hLe (wr.heap.size) (by (try simp) <;> omega) i
            have kz : wr.heap.size < w'.heap.size := (by have := hLe.size; (try simp at this); omega)
            refine wpOp_plain rfl rfl (fun K hK => ?_)
            go_simp
            exact hK _ _ ⟨_, rfl, Below.refl _ _, rfl⟩
          apply free_is
          · intro a' w' hLe hfr hdep
            have e21 : a'.tmps.getD 21 undef = _ := hdep 1 21 (Nat.le_of_ble_eq_true rfl) rfl rfl
            conv at e21 => rhs; whnf
            have f21 := e21; simp only [Array.getD_eq_getD_getElem?] at f21
            have e26 : a'.tmps.getD 26 undef = _ := hdep 6 26 (Nat.le_of_ble_eq_true rfl) rfl rfl
            conv at e26 => rhs; whnf
            have f26 := e26; simp only [Array.getD_eq_getD_getElem?] at f26
            refine wpOp_plain rfl rfl (fun K hK => ?_)
            go_simp
            exact hK _ _ ⟨_, rfl, Below.refl _ _, rfl⟩
          apply free_nil
          intro vs w7 hb7 hT7
          have e20 : vs 0 = _ := hT7 0 20 rfl
          conv at e20 => rhs; whnf
          have e21 : vs 1 = _ := hT7 1 21 rfl
          conv at e21 => rhs; whnf
          have e22 : vs 2 = _ := hT7 2 22 rfl
          conv at e22 => rhs; whnf
          have e23 : vs 3 = _ := hT7 3 23 rfl
          conv at e23 => rhs; whnf
          have e24 : vs 4 = _ := hT7 4 24 rfl
          conv at e24 => rhs; whnf
          have e25 : vs 5 = _ := hT7 5 25 rfl
          conv at e25 => rhs; whnf
          have e26 : vs 6 = _ := hT7 6 26 rfl
          conv at e26 => rhs; whnf
          have e27 : vs 7 = _ := hT7 7 27 rfl
          conv at e27 => rhs; whnf
          simp only [putAll, List.drop_succ_cons, List.drop_zero, e20, e21, e22, e23, e24, e25, e26, e27]
          clear hT7 e20 e21 e22 e23 e24 e25 e26 e27
          go_simp
          have hB7 : Below wr.heap.size wr w7 := Below.tr (by (repeat (first | exact Below.refl _ _ | assumption | refine Below.al ?_ _ | refine Below.dr ?_ | (refine Below.st ?_ (by simp <;> omega) _) | (refine Below.tr ?_ (by assumption))))) hb7
          go_wp2
          go_ret
          rw [he.out]
          exact ⟨_, _, rfl, Own.nil _ _ _ _ _ _ _ (by unfold maxLen; omega), Below.tr hBw hB7⟩
      · obtain rfl : j = n := by omega
        have he := Lib.hid (addN_yes hok)
        obtain ⟨A2, c2, rfl, hO⟩ := hAcc.own
        clear hok hrow hrow'
        go_wp2
        go_ret
        rw [he.out]
        exact ⟨_, _, rfl, hO, hBw⟩
  · have he := Lib.hid (addN_ne (t := t) (t' := t') hn)
    have hq : ((n : Int) == (n' : Int)) = false := by simp; omega
    have hq2 : ((n : Int) != (n' : Int)) = true := by simp; omega
    clear hrow hrow' hn
    go_enter Try.func17, Try.ntmps17
    go_wp2
    go_ret
    rw [he.out]
    exact ⟨_, _, rfl, Own.nil _ _ _ _ _ _ _ (by unfold maxLen; omega), Below.refl _ _⟩

set_option maxHeartbeats 8000000 in
theorem specAddCounters_any {w : World} {B : Nat} {A A' : Option Addr} {n c n' c' : Nat} {t p y t' p' y' : Nat → Int} (H : Rws w B 3 A n c (counterR t p y)) (H' : Rws w B 3 A' n' c' (counterR t' p' y')) (hB : B ≤ w.heap.size) (hsm : n ≤ 1048576) :
    Calls Try.prog 16 #[.slice A n c, .slice A' n' c'] w (Gives w 32 3 (addN n n' t t') (addR t p y p' y')) := by
  obtain ⟨⟨hnc, hcm⟩, hrow⟩ := H
  obtain ⟨⟨hnc', hcm'⟩, hrow'⟩ := H'
  unfold maxLen at hcm hcm'
  go_enter Try.func16, Try.ntmps16
  go_wp2
  go_loopw [5, 6] (fun v i wr => ∃ j : Nat, j ≤ n ∧ (¬ n = n' → j = 0) ∧ i = .int .i64 j ∧ (∀ i, i < j → (t i == t' i) = true) ∧ Acc wr w.heap.size 32 3 v j (addR t p y p' y') ∧ Below w.heap.size w wr) (fun _ i _ => n - (intOf i).toNat)
  case atStart => exact ⟨0, by omega, fun _ => rfl, rfl, fun i hi => absurd hi (by omega), Acc.made _ _ _ (fun _ => rfl) (Nat.le_refl _), by (repeat (first | exact Below.refl _ _ | assumption | refine Below.al ?_ _ | refine Below.dr ?_ | (refine Below.st ?_ (by simp <;> omega) _) | (refine Below.tr ?_ (by assumption))))⟩
  case round =>
    rename_i v _
    obtain ⟨j, hj, hj0, rfl, hok, hAcc, hBw⟩ := hrel
    by_cases hlt : j < n
    · by_cases hn : n = n'
      · subst hn
        obtain ⟨bl, off, rfl, hbB, hc⟩ := hrow (by omega)
        obtain ⟨bl', off', rfl, hbB', hc'⟩ := hrow' (by omega)
        have hr := hc j hlt
        have hr' := hc' j hlt
        have hbs : bl < wr.heap.size := by have := hBw.size; omega
        have hbs' : bl' < wr.heap.size := by have := hBw.size; omega
        have q0 : wr.cell? ⟨bl, off + j * 3, none⟩ = some (.int .i64 (t j)) := (keepc hBw bl (by omega) _).trans (hr 0 _ rfl)
        have q1 : wr.cell? ⟨bl, off + j * 3 + 1, none⟩ = some (.int .i64 (p j)) := (keepc hBw bl (by omega) _).trans (hr 1 _ rfl)
        have q2 : wr.cell? ⟨bl, off + j * 3 + 2, none⟩ = some (.int .i64 (y j)) := (keepc hBw bl (by omega) _).trans (hr 2 _ rfl)
        have s0 : wr.cell? ⟨bl', off' + j * 3, none⟩ = some (.int .i64 (t' j)) := (keepc hBw bl' (by omega) _).trans (hr' 0 _ rfl)
        have s1 : wr.cell? ⟨bl', off' + j * 3 + 1, none⟩ = some (.int .i64 (p' j)) := (keepc hBw bl' (by omega) _).trans (hr' 1 _ rfl)
        have s2 : wr.cell? ⟨bl', off' + j * 3 + 2, none⟩ = some (.int .i64 (y' j)) := (keepc hBw bl' (by omega) _).trans (hr' 2 _ rfl)
        clear hc hc' hr hr' hrow hrow' hj0
        have HO := Lib.hid hok
        clear hok
        have hnn : ((n : Int) != (n : Int)) = false := by simp
        by_cases ht : t j = t' j
        · have hq : (t j == t' j) = true := by simpa using ht
          have hq2 : (t j != t' j) = false := by simpa using ht
          have HQ := Lib.hid hq
          clear hq ht
          go_wp2
          refine wp_region_free (ds := [(0, 14), (1, 15), (2, 16), (3, 17), (4, 18), (5, 19), (6, 20), (7, 21), (8, 22), (9, 23), (10, 24), (11, 25), (12, 26), (13, 27), (14, 28), (15, 29), (16, 30), (17, 31)]) 18 (by kernel_rfl) (by kernel_rfl) (by first | exact .inl rfl | exact .inr (by kernel_rfl)) (by rfl) rfl rfl ?_
          apply free_is
          · intro a' w' hLe hfr hdep
            have e0 := hfr 0 rfl
            conv at e0 => rhs; whnf
            have f0 := e0; simp only [Array.getD_eq_getD_getElem?] at f0
            refine wpOp_plain rfl rfl (fun K hK => ?_)
            go_simp
            exact hK _ _ ⟨_, rfl, Below.refl _ _, rfl⟩
          apply free_is
          · intro a' w' hLe hfr hdep
            have e14 : a'.tmps.getD 14 undef = _ := hdep 0 14 (Nat.le_of_ble_eq_true rfl) rfl rfl
            conv at e14 => rhs; whnf
            have f14 := e14; simp only [Array.getD_eq_getD_getElem?] at f14
            have kc := fun i => keepc hLe (bl) (by (try simp) <;> omega) i
            have kf := fun i => keepf hLe (bl) (by (try simp) <;> omega) i
            have kz : bl < w'.heap.size := (by have := hLe.size; (try simp at this); omega)
            have kc := fun i => keepc hLe (bl') (by (try simp) <;> omega) i
            have kf := fun i => keepf hLe (bl') (by (try simp) <;> omega) i
            have kz : bl' < w'.heap.size := (by have := hLe.size; (try simp at this); omega)
            refine wpOp_plain rfl rfl (fun K hK => ?_)
            go_simp
            exact hK _ _ ⟨_, rfl, Below.refl _ _, rfl⟩
          apply free_is
          · intro a' w' hLe hfr hdep
            have e1 := hfr 1 rfl
            conv at e1 => rhs; whnf
            have f1 := e1; simp only [Array.getD_eq_getD_getElem?] at f1
            refine wpOp_plain rfl rfl (fun K hK => ?_)
            go_simp
            exact hK _ _ ⟨_, rfl, Below.refl _ _, rfl⟩
          apply free_is
          · intro a' w' hLe hfr hdep
            have e16 : a'.tmps.getD 16 undef = _ := hdep 2 16 (Nat.le_of_ble_eq_true rfl) rfl rfl
            conv at e16 => rhs; whnf
            have f16 := e16; simp only [Array.getD_eq_getD_getElem?] at f16
            have kc := fun i => keepc hLe (bl) (by (try simp) <;> omega) i
            have kf := fun i => keepf hLe (bl) (by (try simp) <;> omega) i
            have kz : bl < w'.heap.size := (by have := hLe.size; (try simp at this); omega)
            have kc := fun i => keepc hLe (bl') (by (try simp) <;> omega) i
            have kf := fun i => keepf hLe (bl') (by (try simp) <;> omega) i
            have kz : bl' < w'.heap.size := (by have := hLe.size; (try simp at this); omega)
            refine wpOp_plain rfl rfl (fun K hK => ?_)
            go_simp
            exact hK _ _ ⟨_, rfl, Below.refl _ _, rfl⟩
          apply free_is
          · intro a' w' hLe hfr hdep
            have e15 : a'.tmps.getD 15 undef = _ := hdep 1 15 (Nat.le_of_ble_eq_true rfl) rfl rfl
            conv at e15 => rhs; whnf
            have f15 := e15; simp only [Array.getD_eq_getD_getElem?] at f15
            have e17 : a'.tmps.getD 17 undef = _ := hdep 3 17 (Nat.le_of_ble_eq_true rfl) rfl rfl
            conv at e17 => rhs; whnf
            have f17 := e17; simp only [Array.getD_eq_getD_getElem?] at f17
            refine wpOp_plain rfl rfl (fun K hK => ?_)
            go_simp
            exact hK _ _ ⟨_, rfl, Below.refl _ _, rfl⟩
          apply free_is
          · intro a' w' hLe hfr hdep
            have e18 : a'.tmps.getD 18 undef = _ := hdep 4 18 (Nat.le_of_ble_eq_true rfl) rfl rfl
            conv at e18 => rhs; whnf
            have f18 := e18; simp only [Array.getD_eq_getD_getElem?] at f18
            refine wpOp_plain rfl rfl (fun K hK => ?_)
            go_simp
            exact hK _ _ ⟨_, rfl, Below.refl _ _, rfl⟩
          apply free_is
          · intro a' w' hLe hfr hdep
            have e19 : a'.tmps.getD 19 undef = _ := hdep 5 19 (Nat.le_of_ble_eq_true rfl) rfl rfl
            conv at e19 => rhs; whnf
            have f19 := e19; simp only [Array.getD_eq_getD_getElem?] at f19
            have e0 := hfr 0 rfl
            conv at e0 => rhs; whnf
            have f0 := e0; simp only [Array.getD_eq_getD_getElem?] at f0
            refine wpOp_yes rfl rfl rfl e19 (fun K hK => ?_)
            go_simp
            exact hK _ _ ⟨_, rfl, Below.refl _ _, rfl⟩
          apply free_is
          · intro a' w' hLe hfr hdep
            have e19 : a'.tmps.getD 19 undef = _ := hdep 5 19 (Nat.le_of_ble_eq_true rfl) rfl rfl
            conv at e19 => rhs; whnf
            have f19 := e19; simp only [Array.getD_eq_getD_getElem?] at f19
            have e6 := hfr 6 rfl
            conv at e6 => rhs; whnf
            have f6 := e6; simp only [Array.getD_eq_getD_getElem?] at f6
            refine wpOp_yes rfl rfl rfl e19 (fun K hK => ?_)
            go_simp
            exact hK _ _ ⟨_, rfl, Below.refl _ _, rfl⟩
          apply free_is
          · intro a' w' hLe hfr hdep
            have e19 : a'.tmps.getD 19 undef = _ := hdep 5 19 (Nat.le_of_ble_eq_true rfl) rfl rfl
            conv at e19 => rhs; whnf
            have f19 := e19; simp only [Array.getD_eq_getD_getElem?] at f19
            have e20 : a'.tmps.getD 20 undef = _ := hdep 6 20 (Nat.le_of_ble_eq_true rfl) rfl rfl
            conv at e20 => rhs; whnf
            have f20 := e20; simp only [Array.getD_eq_getD_getElem?] at f20
            have e21 : a'.tmps.getD 21 undef = _ := hdep 7 21 (Nat.le_of_ble_eq_true rfl) rfl rfl
            conv at e21 => rhs; whnf
            have f21 := e21; simp only [Array.getD_eq_getD_getElem?] at f21
            refine wpOp_yes rfl rfl rfl e19 (fun K hK => ?_)
            go_simp
            exact hK _ _ ⟨_, rfl, Below.refl _ _, rfl⟩
          apply free_is
          · intro a' w' hLe hfr hdep
            have e19 : a'.tmps.getD 19 undef = _ := hdep 5 19 (Nat.le_of_ble_eq_true rfl) rfl rfl
            conv at e19 => rhs; whnf
            have f19 := e19; simp only [Array.getD_eq_getD_getElem?] at f19
            have e22 : a'.tmps.getD 22 undef = _ := hdep 8 22 (Nat.le_of_ble_eq_true rfl) rfl rfl
            conv at e22 => rhs; whnf
            have f22 := e22; simp only [Array.getD_eq_getD_getElem?] at f22
            refine wpOp_yes rfl rfl rfl e19 (fun K hK => ?_)
            go_simp
            exact hK _ _ ⟨_, rfl, Below.refl _ _, rfl⟩
          apply free_is
          · intro a' w' hLe hfr hdep
            have e19 : a'.tmps.getD 19 undef = _ := hdep 5 19 (Nat.le_of_ble_eq_true rfl) rfl rfl
            conv at e19 => rhs; whnf
            have f19 := e19; simp only [Array.getD_eq_getD_getElem?] at f19
            have e23 : a'.tmps.getD 23 undef = _ := hdep 9 23 (Nat.le_of_ble_eq_true rfl) rfl rfl
            conv at e23 => rhs; whnf
            have f23 := e23; simp only [Array.getD_eq_getD_getElem?] at f23
            have kc := fun i => keepc hLe (bl) (by (try simp) <;> omega) i
            have kf := fun i => keepf hLe (bl) (by (try simp) <;> omega) i
            have kz : bl < w'.heap.size := (by have := hLe.size; (try simp at this); omega)
            have kc := fun i => keepc hLe (bl') (by (try simp) <;> omega) i
            have kf := fun i => keepf hLe (bl') (by (try simp) <;> omega) i
            have kz : bl' < w'.heap.size := (by have := hLe.size; (try simp at this); omega)
            refine wpOp_yes rfl rfl rfl e19 (fun K hK => ?_)
            go_simp
            exact hK _ _ ⟨_, rfl, Below.refl _ _, rfl⟩
          apply free_is
          · intro a' w' hLe hfr hdep
            have e19 : a'.tmps.getD 19 undef = _ := hdep 5 19 (Nat.le_of_ble_eq_true rfl) rfl rfl
            conv at e19 => rhs; whnf
            have f19 := e19; simp only [Array.getD_eq_getD_getElem?] at f19
            have e1 := hfr 1 rfl
            conv at e1 => rhs; whnf
            have f1 := e1; simp only [Array.getD_eq_getD_getElem?] at f1
            refine wpOp_yes rfl rfl rfl e19 (fun K hK => ?_)
            go_simp
            exact hK _ _ ⟨_, rfl, Below.refl _ _, rfl⟩
          apply free_is
          · intro a' w' hLe hfr hdep
            have e19 : a'.tmps.getD 19 undef = _ := hdep 5 19 (Nat.le_of_ble_eq_true rfl) rfl rfl
            conv at e19 => rhs; whnf
            have f19 := e19; simp only [Array.getD_eq_getD_getElem?] at f19
            have e6 := hfr 6 rfl
            conv at e6 => rhs; whnf
            have f6 := e6; simp only [Array.getD_eq_getD_getElem?] at f6
            refine wpOp_yes rfl rfl rfl e19 (fun K hK => ?_)
            go_simp
            exact hK _ _ ⟨_, rfl, Below.refl _ _, rfl⟩
          apply free_is
          · intro a' w' hLe hfr hdep
            have e19 : a'.tmps.getD 19 undef = _ := hdep 5 19 (Nat.le_of_ble_eq_true rfl) rfl rfl
            conv at e19 => rhs; whnf
            have f19 := e19; simp only [Array.getD_eq_getD_getElem?] at f19
            have e25 : a'.tmps.getD 25 undef = _ := hdep 11 25 (Nat.le_of_ble_eq_true rfl) rfl rfl
            conv at e25 => rhs; whnf
            have f25 := e25; simp only [Array.getD_eq_getD_getElem?] at f25
            have e26 : a'.tmps.getD 26 undef = _ := hdep 12 26 (Nat.le_of_ble_eq_true rfl) rfl rfl
            conv at e26 => rhs; whnf
            have f26 := e26; simp only [Array.getD_eq_getD_getElem?] at f26
            refine wpOp_yes rfl rfl rfl e19 (fun K hK => ?_)
            go_simp
            exact hK _ _ ⟨_, rfl, Below.refl _ _, rfl⟩
          apply free_is
          · intro a' w' hLe hfr hdep
            have e19 : a'.tmps.getD 19 undef = _ := hdep 5 19 (Nat.le_of_ble_eq_true rfl) rfl rfl
            conv at e19 => rhs; whnf
            have f19 := e19; simp only [Array.getD_eq_getD_getElem?] at f19
            have e27 : a'.tmps.getD 27 undef = _ := hdep 13 27 (Nat.le_of_ble_eq_true rfl) rfl rfl
            conv at e27 => rhs; whnf
            have f27 := e27; simp only [Array.getD_eq_getD_getElem?] at f27
            refine wpOp_yes rfl rfl rfl e19 (fun K hK => ?_)
            go_simp
            exact hK _ _ ⟨_, rfl, Below.refl _ _, rfl⟩
          apply free_is
          · intro a' w' hLe hfr hdep
            have e19 : a'.tmps.getD 19 undef = _ := hdep 5 19 (Nat.le_of_ble_eq_true rfl) rfl rfl
            conv at e19 => rhs; whnf
            have f19 := e19; simp only [Array.getD_eq_getD_getElem?] at f19
            have e28 : a'.tmps.getD 28 undef = _ := hdep 14 28 (Nat.le_of_ble_eq_true rfl) rfl rfl
            conv at e28 => rhs; whnf
            have f28 := e28; simp only [Array.getD_eq_getD_getElem?] at f28
            have kc := fun i => keepc hLe (bl) (by (try simp) <;> omega) i
            have kf := fun i => keepf hLe (bl) (by (try simp) <;> omega) i
            have kz : bl < w'.heap.size := (by have := hLe.size; (try simp at this); omega)
            have kc := fun i => keepc hLe (bl') (by (try simp) <;> omega) i
            have kf := fun i => keepf hLe (bl') (by (try simp) <;> omega) i
            have kz : bl' < w'.heap.size := (by have := hLe.size; (try simp at this); omega)
            refine wpOp_yes rfl rfl rfl e19 (fun K hK => ?_)
            go_simp
            exact hK _ _ ⟨_, rfl, Below.refl _ _, rfl⟩
          apply free_is
          · intro a' w' hLe hfr hdep
            have e19 : a'.tmps.getD 19 undef = _ := hdep 5 19 (Nat.le_of_ble_eq_true rfl) rfl rfl
            conv at e19 => rhs; whnf
            have f19 := e19; simp only [Array.getD_eq_getD_getElem?] at f19
            have e24 : a'.tmps.getD 24 undef = _ := hdep 10 24 (Nat.le_of_ble_eq_true rfl) rfl rfl
            conv at e24 => rhs; whnf
            have f24 := e24; simp only [Array.getD_eq_getD_getElem?] at f24
            have e29 : a'.tmps.getD 29 undef = _ := hdep 15 29 (Nat.le_of_ble_eq_true rfl) rfl rfl
            conv at e29 => rhs; whnf
            have f29 := e29; simp only [Array.getD_eq_getD_getElem?] at f29
            refine wpOp_yes rfl rfl rfl e19 (fun K hK => ?_)
            go_simp
            exact hK _ _ ⟨_, rfl, Below.refl _ _, rfl⟩
          apply free_is
          · intro a' w' hLe hfr hdep
            have e19 : a'.tmps.getD 19 undef = _ := hdep 5 19 (Nat.le_of_ble_eq_true rfl) rfl rfl
            conv at e19 => rhs; whnf
            have f19 := e19; simp only [Array.getD_eq_getD_getElem?] at f19
            have e30 : a'.tmps.getD 30 undef = _ := hdep 16 30 (Nat.le_of_ble_eq_true rfl) rfl rfl
            conv at e30 => rhs; whnf
            have f30 := e30; simp only [Array.getD_eq_getD_getElem?] at f30
            refine wpOp_plain rfl rfl (fun K hK => ?_)
            go_simp
            exact hK _ _ ⟨_, rfl, Below.refl _ _, rfl⟩
          apply free_nil
          intro vs w5 hb5 hT5
          have e14 : vs 0 = _ := hT5 0 14 rfl
          conv at e14 => rhs; whnf
          have e15 : vs 1 = _ := hT5 1 15 rfl
          conv at e15 => rhs; whnf
          have e16 : vs 2 = _ := hT5 2 16 rfl
          conv at e16 => rhs; whnf
          have e17 : vs 3 = _ := hT5 3 17 rfl
          conv at e17 => rhs; whnf
          have e18 : vs 4 = _ := hT5 4 18 rfl
          conv at e18 => rhs; whnf
          have e19 : vs 5 = _ := hT5 5 19 rfl
          conv at e19 => rhs; whnf
          have e20 : vs 6 = _ := hT5 6 20 rfl
          conv at e20 => rhs; whnf
          have e21 : vs 7 = _ := hT5 7 21 rfl
          conv at e21 => rhs; whnf
          have e22 : vs 8 = _ := hT5 8 22 rfl
          conv at e22 => rhs; whnf
          have e23 : vs 9 = _ := hT5 9 23 rfl
          conv at e23 => rhs; whnf
          have e24 : vs 10 = _ := hT5 10 24 rfl
          conv at e24 => rhs; whnf
          have e25 : vs 11 = _ := hT5 11 25 rfl
          conv at e25 => rhs; whnf
          have e26 : vs 12 = _ := hT5 12 26 rfl
          conv at e26 => rhs; whnf
          have e27 : vs 13 = _ := hT5 13 27 rfl
          conv at e27 => rhs; whnf
          have e28 : vs 14 = _ := hT5 14 28 rfl
          conv at e28 => rhs; whnf
          have e29 : vs 15 = _ := hT5 15 29 rfl
          conv at e29 => rhs; whnf
          have e30 : vs 16 = _ := hT5 16 30 rfl
          conv at e30 => rhs; whnf
          have e31 : vs 17 = _ := hT5 17 31 rfl
          conv at e31 => rhs; whnf
          simp only [putAll, List.drop_succ_cons, List.drop_zero, e14, e15, e16, e17, e18, e19, e20, e21, e22, e23, e24, e25, e26, e27, e28, e29, e30, e31]
          clear hT5 e14 e15 e16 e17 e18 e19 e20 e21 e22 e23 e24 e25 e26 e27 e28 e29 e30 e31
          go_simp
          have hz7 : wr.heap.size ≤ w5.heap.size := hb5.size
          have k7 := keepc hb5 bl' (by omega)
          have k8 := keepc hb5 bl (by omega)
          have z7 : bl' < w5.heap.size := by omega
          have z8 : bl < w5.heap.size := by omega
          go_wp2
          refine wp_region_free (ds := [(0, 33), (1, 34), (2, 35), (3, 36), (4, 37), (5, 38), (6, 39), (7, 40), (8, 41), (9, 42), (10, 43), (11, 44), (12, 45), (13, 46), (14, 47), (15, 48), (16, 49), (17, 50), (18, 51), (19, 52), (20, 53), (21, 54), (22, 55), (23, 56), (24, 57), (25, 58), (26, 59), (27, 60), (28, 61), (29, 62)]) 30 (by kernel_rfl) (by kernel_rfl) (by first | exact .inl rfl | exact .inr (by kernel_rfl)) (by rfl) rfl rfl ?_
          apply free_is
          · intro a' w' hLe hfr hdep
            have e5 := hfr 5 rfl
            conv at e5 => rhs; whnf
            have f5 := e5; simp only [Array.getD_eq_getD_getElem?] at f5
            refine wpOp_plain rfl rfl (fun K hK => ?_)
            go_simp
            exact hK _ _ ⟨_, rfl, Below.refl _ _, rfl⟩
          apply free_is
          · intro a' w' hLe hfr hdep
            have e0 := hfr 0 rfl
            conv at e0 => rhs; whnf
            have f0 := e0; simp only [Array.getD_eq_getD_getElem?] at f0
            refine wpOp_plain rfl rfl (fun K hK => ?_)
            go_simp
            exact hK _ _ ⟨_, rfl, Below.refl _ _, rfl⟩
          apply free_is
          · intro a' w' hLe hfr hdep
            have e6 := hfr 6 rfl
            conv at e6 => rhs; whnf
            have f6 := e6; simp only [Array.getD_eq_getD_getElem?] at f6
            refine wpOp_plain rfl rfl (fun K hK => ?_)
            go_simp
            exact hK _ _ ⟨_, rfl, Below.refl _ _, rfl⟩
          apply free_is
          · intro a' w' hLe hfr hdep
            have e34 : a'.tmps.getD 34 undef = _ := hdep 1 34 (Nat.le_of_ble_eq_true rfl) rfl rfl
            conv at e34 => rhs; whnf
            have f34 := e34; simp only [Array.getD_eq_getD_getElem?] at f34
            have e35 : a'.tmps.getD 35 undef = _ := hdep 2 35 (Nat.le_of_ble_eq_true rfl) rfl rfl
            conv at e35 => rhs; whnf
            have f35 := e35; simp only [Array.getD_eq_getD_getElem?] at f35
            refine wpOp_plain rfl rfl (fun K hK => ?_)
            go_simp
            exact hK _ _ ⟨_, rfl, Below.refl _ _, rfl⟩
          apply free_is
          · intro a' w' hLe hfr hdep
            have e36 : a'.tmps.getD 36 undef = _ := hdep 3 36 (Nat.le_of_ble_eq_true rfl) rfl rfl
            conv at e36 => rhs; whnf
            have f36 := e36; simp only [Array.getD_eq_getD_getElem?] at f36
            refine wpOp_plain rfl rfl (fun K hK => ?_)
            go_simp
            exact hK _ _ ⟨_, rfl, Below.refl _ _, rfl⟩
          apply free_is
          · intro a' w' hLe hfr hdep
            have e37 : a'.tmps.getD 37 undef = _ := hdep 4 37 (Nat.le_of_ble_eq_true rfl) rfl rfl
            conv at e37 => rhs; whnf
            have f37 := e37; simp only [Array.getD_eq_getD_getElem?] at f37
            have kc := fun i => keepc hLe (bl) (by (try simp) <;> omega) i
            have kf := fun i => keepf hLe (bl) (by (try simp) <;> omega) i
            have kz : bl < w'.heap.size := (by have := hLe.size; (try simp at this); omega)
            have kc := fun i => keepc hLe (bl') (by (try simp) <;> omega) i
            have kf := fun i => keepf hLe (bl') (by (try simp) <;> omega) i
            have kz : bl' < w'.heap.size := (by have := hLe.size; (try simp at this); omega)
            refine wpOp_plain rfl rfl (fun K hK => ?_)
            go_simp
            exact hK _ _ ⟨_, rfl, Below.refl _ _, rfl⟩
          apply free_is
          · intro a' w' hLe hfr hdep
            have e0 := hfr 0 rfl
            conv at e0 => rhs; whnf
            have f0 := e0; simp only [Array.getD_eq_getD_getElem?] at f0
            refine wpOp_plain rfl rfl (fun K hK => ?_)
            go_simp
            exact hK _ _ ⟨_, rfl, Below.refl _ _, rfl⟩
          apply free_is
          · intro a' w' hLe hfr hdep
            have e6 := hfr 6 rfl
            conv at e6 => rhs; whnf
            have f6 := e6; simp only [Array.getD_eq_getD_getElem?] at f6
            refine wpOp_plain rfl rfl (fun K hK => ?_)
            go_simp
            exact hK _ _ ⟨_, rfl, Below.refl _ _, rfl⟩
          apply free_is
          · intro a' w' hLe hfr hdep
            have e39 : a'.tmps.getD 39 undef = _ := hdep 6 39 (Nat.le_of_ble_eq_true rfl) rfl rfl
            conv at e39 => rhs; whnf
            have f39 := e39; simp only [Array.getD_eq_getD_getElem?] at f39
            have e40 : a'.tmps.getD 40 undef = _ := hdep 7 40 (Nat.le_of_ble_eq_true rfl) rfl rfl
            conv at e40 => rhs; whnf
            have f40 := e40; simp only [Array.getD_eq_getD_getElem?] at f40
            refine wpOp_plain rfl rfl (fun K hK => ?_)
            go_simp
            exact hK _ _ ⟨_, rfl, Below.refl _ _, rfl⟩
          apply free_is
          · intro a' w' hLe hfr hdep
            have e41 : a'.tmps.getD 41 undef = _ := hdep 8 41 (Nat.le_of_ble_eq_true rfl) rfl rfl
            conv at e41 => rhs; whnf
            have f41 := e41; simp only [Array.getD_eq_getD_getElem?] at f41
            refine wpOp_plain rfl rfl (fun K hK => ?_)
            go_simp
            exact hK _ _ ⟨_, rfl, Below.refl _ _, rfl⟩
          apply free_is
          · intro a' w' hLe hfr hdep
            have e42 : a'.tmps.getD 42 undef = _ := hdep 9 42 (Nat.le_of_ble_eq_true rfl) rfl rfl
            conv at e42 => rhs; whnf
            have f42 := e42; simp only [Array.getD_eq_getD_getElem?] at f42
            have kc := fun i => keepc hLe (bl) (by (try simp) <;> omega) i
            have kf := fun i => keepf hLe (bl) (by (try simp) <;> omega) i
            have kz : bl < w'.heap.size := (by have := hLe.size; (try simp at this); omega)
            have kc := fun i => keepc hLe (bl') (by (try simp) <;> omega) i
            have kf := fun i => keepf hLe (bl') (by (try simp) <;> omega) i
            have kz : bl' < w'.heap.size := (by have := hLe.size; (try simp at this); omega)
            refine wpOp_plain rfl rfl (fun K hK => ?_)
            go_simp
            exact hK _ _ ⟨_, rfl, Below.refl _ _, rfl⟩
          apply free_is
          · intro a' w' hLe hfr hdep
            have e1 := hfr 1 rfl
            conv at e1 => rhs; whnf
            have f1 := e1; simp only [Array.getD_eq_getD_getElem?] at f1
            refine wpOp_plain rfl rfl (fun K hK => ?_)
            go_simp
            exact hK _ _ ⟨_, rfl, Below.refl _ _, rfl⟩
          apply free_is
          · intro a' w' hLe hfr hdep
            have e6 := hfr 6 rfl
            conv at e6 => rhs; whnf
            have f6 := e6; simp only [Array.getD_eq_getD_getElem?] at f6
            refine wpOp_plain rfl rfl (fun K hK => ?_)
            go_simp
            exact hK _ _ ⟨_, rfl, Below.refl _ _, rfl⟩
          apply free_is
          · intro a' w' hLe hfr hdep
            have e44 : a'.tmps.getD 44 undef = _ := hdep 11 44 (Nat.le_of_ble_eq_true rfl) rfl rfl
            conv at e44 => rhs; whnf
            have f44 := e44; simp only [Array.getD_eq_getD_getElem?] at f44
            have e45 : a'.tmps.getD 45 undef = _ := hdep 12 45 (Nat.le_of_ble_eq_true rfl) rfl rfl
            conv at e45 => rhs; whnf
            have f45 := e45; simp only [Array.getD_eq_getD_getElem?] at f45
            refine wpOp_plain rfl rfl (fun K hK => ?_)
            go_simp
            exact hK _ _ ⟨_, rfl, Below.refl _ _, rfl⟩
          apply free_is
          · intro a' w' hLe hfr hdep
            have e46 : a'.tmps.getD 46 undef = _ := hdep 13 46 (Nat.le_of_ble_eq_true rfl) rfl rfl
            conv at e46 => rhs; whnf
            have f46 := e46; simp only [Array.getD_eq_getD_getElem?] at f46
            refine wpOp_plain rfl rfl (fun K hK => ?_)
            go_simp
            exact hK _ _ ⟨_, rfl, Below.refl _ _, rfl⟩
          apply free_is
          · intro a' w' hLe hfr hdep
            have e47 : a'.tmps.getD 47 undef = _ := hdep 14 47 (Nat.le_of_ble_eq_true rfl) rfl rfl
            conv at e47 => rhs; whnf
            have f47 := e47; simp only [Array.getD_eq_getD_getElem?] at f47
            have kc := fun i => keepc hLe (bl) (by (try simp) <;> omega) i
            have kf := fun i => keepf hLe (bl) (by (try simp) <;> omega) i
            have kz : bl < w'.heap.size := (by have := hLe.size; (try simp at this); omega)
            have kc := fun i => keepc hLe (bl') (by (try simp) <;> omega) i
            have kf := fun i => keepf hLe (bl') (by (try simp) <;> omega) i
            have kz : bl' < w'.heap.size := (by have := hLe.size; (try simp at this); omega)
            refine wpOp_plain rfl rfl (fun K hK => ?_)
            go_simp
            exact hK _ _ ⟨_, rfl, Below.refl _ _, rfl⟩
          apply free_is
          · intro a' w' hLe hfr hdep
            have e43 : a'.tmps.getD 43 undef = _ := hdep 10 43 (Nat.le_of_ble_eq_true rfl) rfl rfl
            conv at e43 => rhs; whnf
            have f43 := e43; simp only [Array.getD_eq_getD_getElem?] at f43
            have e48 : a'.tmps.getD 48 undef = _ := hdep 15 48 (Nat.le_of_ble_eq_true rfl) rfl rfl
            conv at e48 => rhs; whnf
            have f48 := e48; simp only [Array.getD_eq_getD_getElem?] at f48
            refine wpOp_plain rfl rfl (fun K hK => ?_)
            go_simp
            exact hK _ _ ⟨_, rfl, Below.refl _ _, rfl⟩
          apply free_is
          · intro a' w' hLe hfr hdep
            have e0 := hfr 0 rfl
            conv at e0 => rhs; whnf
            have f0 := e0; simp only [Array.getD_eq_getD_getElem?] at f0
            refine wpOp_plain rfl rfl (fun K hK => ?_)
            go_simp
            exact hK _ _ ⟨_, rfl, Below.refl _ _, rfl⟩
          apply free_is
          · intro a' w' hLe hfr hdep
            have e6 := hfr 6 rfl
            conv at e6 => rhs; whnf
            have f6 := e6; simp only [Array.getD_eq_getD_getElem?] at f6
            refine wpOp_plain rfl rfl (fun K hK => ?_)
            go_simp
            exact hK _ _ ⟨_, rfl, Below.refl _ _, rfl⟩
          apply free_is
          · intro a' w' hLe hfr hdep
            have e50 : a'.tmps.getD 50 undef = _ := hdep 17 50 (Nat.le_of_ble_eq_true rfl) rfl rfl
            conv at e50 => rhs; whnf
            have f50 := e50; simp only [Array.getD_eq_getD_getElem?] at f50
            have e51 : a'.tmps.getD 51 undef = _ := hdep 18 51 (Nat.le_of_ble_eq_true rfl) rfl rfl
            conv at e51 => rhs; whnf
            have f51 := e51; simp only [Array.getD_eq_getD_getElem?] at f51
            refine wpOp_plain rfl rfl (fun K hK => ?_)
            go_simp
            exact hK _ _ ⟨_, rfl, Below.refl _ _, rfl⟩
          apply free_is
          · intro a' w' hLe hfr hdep
            have e52 : a'.tmps.getD 52 undef = _ := hdep 19 52 (Nat.le_of_ble_eq_true rfl) rfl rfl
            conv at e52 => rhs; whnf
            have f52 := e52; simp only [Array.getD_eq_getD_getElem?] at f52
            refine wpOp_plain rfl rfl (fun K hK => ?_)
            go_simp
            exact hK _ _ ⟨_, rfl, Below.refl _ _, rfl⟩
          apply free_is
          · intro a' w' hLe hfr hdep
            have e53 : a'.tmps.getD 53 undef = _ := hdep 20 53 (Nat.le_of_ble_eq_true rfl) rfl rfl
            conv at e53 => rhs; whnf
            have f53 := e53; simp only [Array.getD_eq_getD_getElem?] at f53
            have kc := fun i => keepc hLe (bl) (by (try simp) <;> omega) i
            have kf := fun i => keepf hLe (bl) (by (try simp) <;> omega) i
            have kz : bl < w'.heap.size := (by have := hLe.size; (try simp at this); omega)
            have kc := fun i => keepc hLe (bl') (by (try simp) <;> omega) i
            have kf := fun i => keepf hLe (bl') (by (try simp) <;> omega) i
            have kz : bl' < w'.heap.size := (by have := hLe.size; (try simp at this); omega)
            refine wpOp_plain rfl rfl (fun K hK => ?_)
            go_simp
            exact hK _ _ ⟨_, rfl, Below.refl _ _, rfl⟩
          apply free_is
          · intro a' w' hLe hfr hdep
            have e1 := hfr 1 rfl
            conv at e1 => rhs; whnf
            have f1 := e1; simp only [Array.getD_eq_getD_getElem?] at f1
            refine wpOp_plain rfl rfl (fun K hK => ?_)
            go_simp
            exact hK _ _ ⟨_, rfl, Below.refl _ _, rfl⟩
          apply free_is
          · intro a' w' hLe hfr hdep
            have e6 := hfr 6 rfl
            conv at e6 => rhs; whnf
            have f6 := e6; simp only [Array.getD_eq_getD_getElem?] at f6
            refine wpOp_plain rfl rfl (fun K hK => ?_)
            go_simp
            exact hK _ _ ⟨_, rfl, Below.refl _ _, rfl⟩
          apply free_is
          · intro a' w' hLe hfr hdep
            have e55 : a'.tmps.getD 55 undef = _ := hdep 22 55 (Nat.le_of_ble_eq_true rfl) rfl rfl
            conv at e55 => rhs; whnf
            have f55 := e55; simp only [Array.getD_eq_getD_getElem?] at f55
            have e56 : a'.tmps.getD 56 undef = _ := hdep 23 56 (Nat.le_of_ble_eq_true rfl) rfl rfl
            conv at e56 => rhs; whnf
            have f56 := e56; simp only [Array.getD_eq_getD_getElem?] at f56
            refine wpOp_plain rfl rfl (fun K hK => ?_)
            go_simp
            exact hK _ _ ⟨_, rfl, Below.refl _ _, rfl⟩
          apply free_is
          · intro a' w' hLe hfr hdep
            have e57 : a'.tmps.getD 57 undef = _ := hdep 24 57 (Nat.le_of_ble_eq_true rfl) rfl rfl
            conv at e57 => rhs; whnf
            have f57 := e57; simp only [Array.getD_eq_getD_getElem?] at f57
            refine wpOp_plain rfl rfl (fun K hK => ?_)
            go_simp
            exact hK _ _ ⟨_, rfl, Below.refl _ _, rfl⟩
          apply free_is
          · intro a' w' hLe hfr hdep
            have e58 : a'.tmps.getD 58 undef = _ := hdep 25 58 (Nat.le_of_ble_eq_true rfl) rfl rfl
            conv at e58 => rhs; whnf
            have f58 := e58; simp only [Array.getD_eq_getD_getElem?] at f58
            have kc := fun i => keepc hLe (bl) (by (try simp) <;> omega) i
            have kf := fun i => keepf hLe (bl) (by (try simp) <;> omega) i
            have kz : bl < w'.heap.size := (by have := hLe.size; (try simp at this); omega)
            have kc := fun i => keepc hLe (bl') (by (try simp) <;> omega) i
            have kf := fun i => keepf hLe (bl') (by (try simp) <;> omega) i
            have kz : bl' < w'.heap.size := (by have := hLe.size; (try simp at this); omega)
            refine wpOp_plain rfl rfl (fun K hK => ?_)
            go_simp
            exact hK _ _ ⟨_, rfl, Below.refl _ _, rfl⟩
          apply free_is
          · intro a' w' hLe hfr hdep
            have e54 : a'.tmps.getD 54 undef = _ := hdep 21 54 (Nat.le_of_ble_eq_true rfl) rfl rfl
            conv at e54 => rhs; whnf
            have f54 := e54; simp only [Array.getD_eq_getD_getElem?] at f54
            have e59 : a'.tmps.getD 59 undef = _ := hdep 26 59 (Nat.le_of_ble_eq_true rfl) rfl rfl
            conv at e59 => rhs; whnf
            have f59 := e59; simp only [Array.getD_eq_getD_getElem?] at f59
            refine wpOp_plain rfl rfl (fun K hK => ?_)
            go_simp
            exact hK _ _ ⟨_, rfl, Below.refl _ _, rfl⟩
          apply free_is
          · intro a' w' hLe hfr hdep
            have e38 : a'.tmps.getD 38 undef = _ := hdep 5 38 (Nat.le_of_ble_eq_true rfl) rfl rfl
            conv at e38 => rhs; whnf
            have f38 := e38; simp only [Array.getD_eq_getD_getElem?] at f38
            have e49 : a'.tmps.getD 49 undef = _ := hdep 16 49 (Nat.le_of_ble_eq_true rfl) rfl rfl
            conv at e49 => rhs; whnf
            have f49 := e49; simp only [Array.getD_eq_getD_getElem?] at f49
            have e60 : a'.tmps.getD 60 undef = _ := hdep 27 60 (Nat.le_of_ble_eq_true rfl) rfl rfl
            conv at e60 => rhs; whnf
            have f60 := e60; simp only [Array.getD_eq_getD_getElem?] at f60
            refine wpOp_plain rfl rfl (fun K hK => ?_)
            go_simp
            exact hK _ _ ⟨_, rfl, Below.refl _ _, rfl⟩
          refine free_cons (kbRow w.heap.size 32 #[.int .i64 (t j), .int .i64 (IntKind.i64.wrap (p j + p' j)), .int .i64 (IntKind.i64.wrap (y j + y' j))]) ?_ ?_
          · intro a' w' hLe hfr hdep
            have e61 : a'.tmps.getD 61 undef = _ := hdep 28 61 (Nat.le_of_ble_eq_true rfl) rfl rfl
            conv at e61 => rhs; whnf
            have f61 := e61; simp only [Array.getD_eq_getD_getElem?] at f61
            refine wpOp_plain rfl rfl (fun K hK => ?_)
            go_simp
            exact hK _ _ ⟨_, rfl, (Below.refl _ _).alloc (Nat.le_refl _) _, ⟨_, rfl, by have := hLe.size; have := hBw.size; omega, heap_alloc_new _ _⟩⟩
          apply free_nil
          intro vs w9 hb9 hT9
          have e33 : vs 0 = _ := hT9 0 33 rfl
          conv at e33 => rhs; whnf
          have e34 : vs 1 = _ := hT9 1 34 rfl
          conv at e34 => rhs; whnf
          have e35 : vs 2 = _ := hT9 2 35 rfl
          conv at e35 => rhs; whnf
          have e36 : vs 3 = _ := hT9 3 36 rfl
          conv at e36 => rhs; whnf
          have e37 : vs 4 = _ := hT9 4 37 rfl
          conv at e37 => rhs; whnf
          have e38 : vs 5 = _ := hT9 5 38 rfl
          conv at e38 => rhs; whnf
          have e39 : vs 6 = _ := hT9 6 39 rfl
          conv at e39 => rhs; whnf
          have e40 : vs 7 = _ := hT9 7 40 rfl
          conv at e40 => rhs; whnf
          have e41 : vs 8 = _ := hT9 8 41 rfl
          conv at e41 => rhs; whnf
          have e42 : vs 9 = _ := hT9 9 42 rfl
          conv at e42 => rhs; whnf
          have e43 : vs 10 = _ := hT9 10 43 rfl
          conv at e43 => rhs; whnf
          have e44 : vs 11 = _ := hT9 11 44 rfl
          conv at e44 => rhs; whnf
          have e45 : vs 12 = _ := hT9 12 45 rfl
          conv at e45 => rhs; whnf
          have e46 : vs 13 = _ := hT9 13 46 rfl
          conv at e46 => rhs; whnf
          have e47 : vs 14 = _ := hT9 14 47 rfl
          conv at e47 => rhs; whnf
          have e48 : vs 15 = _ := hT9 15 48 rfl
          conv at e48 => rhs; whnf
          have e49 : vs 16 = _ := hT9 16 49 rfl
          conv at e49 => rhs; whnf
          have e50 : vs 17 = _ := hT9 17 50 rfl
          conv at e50 => rhs; whnf
          have e51 : vs 18 = _ := hT9 18 51 rfl
          conv at e51 => rhs; whnf
          have e52 : vs 19 = _ := hT9 19 52 rfl
          conv at e52 => rhs; whnf
          have e53 : vs 20 = _ := hT9 20 53 rfl
          conv at e53 => rhs; whnf
          have e54 : vs 21 = _ := hT9 21 54 rfl
          conv at e54 => rhs; whnf
          have e55 : vs 22 = _ := hT9 22 55 rfl
          conv at e55 => rhs; whnf
          have e56 : vs 23 = _ := hT9 23 56 rfl
          conv at e56 => rhs; whnf
          have e57 : vs 24 = _ := hT9 24 57 rfl
          conv at e57 => rhs; whnf
          have e58 : vs 25 = _ := hT9 25 58 rfl
          conv at e58 => rhs; whnf
          have e59 : vs 26 = _ := hT9 26 59 rfl
          conv at e59 => rhs; whnf
          have e60 : vs 27 = _ := hT9 27 60 rfl
          conv at e60 => rhs; whnf
          have e61 : vs 28 = _ := hT9 28 61 rfl
          conv at e61 => rhs; whnf
          obtain ⟨g62, e62, hg62, hN62⟩ := hT9 29 62 rfl
          simp only [putAll, List.drop_succ_cons, List.drop_zero, e33, e34, e35, e36, e37, e38, e39, e40, e41, e42, e43, e44, e45, e46, e47, e48, e49, e50, e51, e52, e53, e54, e55, e56, e57, e58, e59, e60, e61, e62]
          clear hT9 e33 e34 e35 e36 e37 e38 e39 e40 e41 e42 e43 e44 e45 e46 e47 e48 e49 e50 e51 e52 e53 e54 e55 e56 e57 e58 e59 e60 e61 e62
          go_simp
          have hB9 : Below wr.heap.size wr w9 := Below.tr hb5 hb9
          refine wpList_push rfl (.tmp 33) (.tmp 62) 25 rfl 32 _ 3 24 Try.underlying25 info_counter rfl (by decide) (by decide) rfl (hAcc.next hB9) rfl hN62 rfl (addR_one _ _ _ _ _ _) (by omega) (by have := hB9.size; have := hBw.size; omega) ?_
          intro v' w' hAcc' hbb hgr
          go_wp2
          go_roundw
          case rel => exact ⟨j + 1, by omega, by simp, by go_num, upto HO.out HQ.out, hAcc', Below.trans (Below.tr hBw hB9) hbb⟩
          case measure => simp [intOf]; omega
        · have hq : (t j == t' j) = false := by simpa using ht
          have hq2 : (t j != t' j) = true := by simpa using ht
          have he := Lib.hid (addN_no (n' := n) hlt hq)
          go_wp2
          refine wp_region_free (ds := [(0, 14), (1, 15), (2, 16), (3, 17), (4, 18), (5, 19), (6, 20), (7, 21), (8, 22), (9, 23), (10, 24), (11, 25), (12, 26), (13, 27), (14, 28), (15, 29), (16, 30), (17, 31)]) 18 (by kernel_rfl) (by kernel_rfl) (by first | exact .inl rfl | exact .inr (by kernel_rfl)) (by rfl) rfl rfl ?_
          apply free_is
          · intro a' w' hLe hfr hdep
            have e0 := hfr 0 rfl
            conv at e0 => rhs; whnf
            have f0 := e0; simp only [Array.getD_eq_getD_getElem?] at f0
            refine wpOp_plain rfl rfl (fun K hK => ?_)
            go_simp
            exact hK _ _ ⟨_, rfl, Below.refl _ _, rfl⟩
          apply free_is
          · intro a' w' hLe hfr hdep
            have e14 : a'.tmps.getD 14 undef = _ := hdep 0 14 (Nat.le_of_ble_eq_true rfl) rfl rfl
            conv at e14 => rhs; whnf
            have f14 := e14; simp only [Array.getD_eq_getD_getElem?] at f14
            have kc := fun i => keepc hLe (bl) (by (try simp) <;> omega) i
            have kf := fun i => keepf hLe (bl) (by (try simp) <;> omega) i
            have kz : bl < w'.heap.size := (by have := hLe.size; (try simp at this); omega)
            have kc := fun i => keepc hLe (bl') (by (try simp) <;> omega) i
            have kf := fun i => keepf hLe (bl') (by (try simp) <;> omega) i
            have kz : bl' < w'.heap.size := (by have := hLe.size; (try simp at this); omega)
            refine wpOp_plain rfl rfl (fun K hK => ?_)
            go_simp
            exact hK _ _ ⟨_, rfl, Below.refl _ _, rfl⟩
          apply free_is
          · intro a' w' hLe hfr hdep
            have e1 := hfr 1 rfl
            conv at e1 => rhs; whnf
            have f1 := e1; simp only [Array.getD_eq_getD_getElem?] at f1
            refine wpOp_plain rfl rfl (fun K hK => ?_)
            go_simp
            exact hK _ _ ⟨_, rfl, Below.refl _ _, rfl⟩
          apply free_is
          · intro a' w' hLe hfr hdep
            have e16 : a'.tmps.getD 16 undef = _ := hdep 2 16 (Nat.le_of_ble_eq_true rfl) rfl rfl
            conv at e16 => rhs; whnf
            have f16 := e16; simp only [Array.getD_eq_getD_getElem?] at f16
            have kc := fun i => keepc hLe (bl) (by (try simp) <;> omega) i
            have kf := fun i => keepf hLe (bl) (by (try simp) <;> omega) i
            have kz : bl < w'.heap.size := (by have := hLe.size; (try simp at this); omega)
            have kc := fun i => keepc hLe (bl') (by (try simp) <;> omega) i
            have kf := fun i => keepf hLe (bl') (by (try simp) <;> omega) i
            have kz : bl' < w'.heap.size := (by have := hLe.size; (try simp at this); omega)
            refine wpOp_plain rfl rfl (fun K hK => ?_)
            go_simp
            exact hK _ _ ⟨_, rfl, Below.refl _ _, rfl⟩
          apply free_is
          · intro a' w' hLe hfr hdep
            have e15 : a'.tmps.getD 15 undef = _ := hdep 1 15 (Nat.le_of_ble_eq_true rfl) rfl rfl
            conv at e15 => rhs; whnf
            have f15 := e15; simp only [Array.getD_eq_getD_getElem?] at f15
            have e17 : a'.tmps.getD 17 undef = _ := hdep 3 17 (Nat.le_of_ble_eq_true rfl) rfl rfl
            conv at e17 => rhs; whnf
            have f17 := e17; simp only [Array.getD_eq_getD_getElem?] at f17
            refine wpOp_plain rfl rfl (fun K hK => ?_)
            go_simp
            exact hK _ _ ⟨_, rfl, Below.refl _ _, rfl⟩
          apply free_is
          · intro a' w' hLe hfr hdep
            have e18 : a'.tmps.getD 18 undef = _ := hdep 4 18 (Nat.le_of_ble_eq_true rfl) rfl rfl
            conv at e18 => rhs; whnf
            have f18 := e18; simp only [Array.getD_eq_getD_getElem?] at f18
            refine wpOp_plain rfl rfl (fun K hK => ?_)
            go_simp
            exact hK _ _ ⟨_, rfl, Below.refl _ _, rfl⟩
          apply free_is
          · intro a' w' hLe hfr hdep
            have e19 : a'.tmps.getD 19 undef = _ := hdep 5 19 (Nat.le_of_ble_eq_true rfl) rfl rfl
            conv at e19 => rhs; whnf
            have f19 := e19; simp only [Array.getD_eq_getD_getElem?] at f19
            have e0 := hfr 0 rfl
            conv at e0 => rhs; whnf
            have f0 := e0; simp only [Array.getD_eq_getD_getElem?] at f0
            refine wpOp_yes rfl rfl rfl e19 (fun K hK => ?_)
            go_simp
            exact hK _ _ ⟨_, rfl, Below.refl _ _, rfl⟩
          apply free_is
          · intro a' w' hLe hfr hdep
            have e19 : a'.tmps.getD 19 undef = _ := hdep 5 19 (Nat.le_of_ble_eq_true rfl) rfl rfl
            conv at e19 => rhs; whnf
            have f19 := e19; simp only [Array.getD_eq_getD_getElem?] at f19
            have e6 := hfr 6 rfl
            conv at e6 => rhs; whnf
            have f6 := e6; simp only [Array.getD_eq_getD_getElem?] at f6
            refine wpOp_yes rfl rfl rfl e19 (fun K hK => ?_)
            go_simp
            exact hK _ _ ⟨_, rfl, Below.refl _ _, rfl⟩
          apply free_is
          · intro a' w' hLe hfr hdep
            have e19 : a'.tmps.getD 19 undef = _ := hdep 5 19 (Nat.le_of_ble_eq_true rfl) rfl rfl
            conv at e19 => rhs; whnf
            have f19 := e19; simp only [Array.getD_eq_getD_getElem?] at f19
            have e20 : a'.tmps.getD 20 undef = _ := hdep 6 20 (Nat.le_of_ble_eq_true rfl) rfl rfl
            conv at e20 => rhs; whnf
            have f20 := e20; simp only [Array.getD_eq_getD_getElem?] at f20
            have e21 : a'.tmps.getD 21 undef = _ := hdep 7 21 (Nat.le_of_ble_eq_true rfl) rfl rfl
            conv at e21 => rhs; whnf
            have f21 := e21; simp only [Array.getD_eq_getD_getElem?] at f21
            refine wpOp_yes rfl rfl rfl e19 (fun K hK => ?_)
            go_simp
            exact hK _ _ ⟨_, rfl, Below.refl _ _, rfl⟩
          apply free_is
          · intro a' w' hLe hfr hdep
            have e19 : a'.tmps.getD 19 undef = _ := hdep 5 19 (Nat.le_of_ble_eq_true rfl) rfl rfl
            conv at e19 => rhs; whnf
            have f19 := e19; simp only [Array.getD_eq_getD_getElem?] at f19
            have e22 : a'.tmps.getD 22 undef = _ := hdep 8 22 (Nat.le_of_ble_eq_true rfl) rfl rfl
            conv at e22 => rhs; whnf
            have f22 := e22; simp only [Array.getD_eq_getD_getElem?] at f22
            refine wpOp_yes rfl rfl rfl e19 (fun K hK => ?_)
            go_simp
            exact hK _ _ ⟨_, rfl, Below.refl _ _, rfl⟩
          apply free_is
          · intro a' w' hLe hfr hdep
            have e19 : a'.tmps.getD 19 undef = _ := hdep 5 19 (Nat.le_of_ble_eq_true rfl) rfl rfl
            conv at e19 => rhs; whnf
            have f19 := e19; simp only [Array.getD_eq_getD_getElem?] at f19
            have e23 : a'.tmps.getD 23 undef = _ := hdep 9 23 (Nat.le_of_ble_eq_true rfl) rfl rfl
            conv at e23 => rhs; whnf
            have f23 := e23; simp only [Array.getD_eq_getD_getElem?] at f23
            have kc := fun i => keepc hLe (bl) (by (try simp) <;> omega) i
            have kf := fun i => keepf hLe (bl) (by (try simp) <;> omega) i
            have kz : bl < w'.heap.size := (by have := hLe.size; (try simp at this); omega)
            have kc := fun i => keepc hLe (bl') (by (try simp) <;> omega) i
            have kf := fun i => keepf hLe (bl') (by (try simp) <;> omega) i
            have kz : bl' < w'.heap.size := (by have := hLe.size; (try simp at this); omega)
            refine wpOp_yes rfl rfl rfl e19 (fun K hK => ?_)
            go_simp
            exact hK _ _ ⟨_, rfl, Below.refl _ _, rfl⟩
          apply free_is
          · intro a' w' hLe hfr hdep
            have e19 : a'.tmps.getD 19 undef = _ := hdep 5 19 (Nat.le_of_ble_eq_true rfl) rfl rfl
            conv at e19 => rhs; whnf
            have f19 := e19; simp only [Array.getD_eq_getD_getElem?] at f19
            have e1 := hfr 1 rfl
            conv at e1 => rhs; whnf
            have f1 := e1; simp only [Array.getD_eq_getD_getElem?] at f1
            refine wpOp_yes rfl rfl rfl e19 (fun K hK => ?_)
            go_simp
            exact hK _ _ ⟨_, rfl, Below.refl _ _, rfl⟩
          apply free_is
          · intro a' w' hLe hfr hdep
            have e19 : a'.tmps.getD 19 undef = _ := hdep 5 19 (Nat.le_of_ble_eq_true rfl) rfl rfl
            conv at e19 => rhs; whnf
            have f19 := e19; simp only [Array.getD_eq_getD_getElem?] at f19
            have e6 := hfr 6 rfl
            conv at e6 => rhs; whnf
            have f6 := e6; simp only [Array.getD_eq_getD_getElem?] at f6
            refine wpOp_yes rfl rfl rfl e19 (fun K hK => ?_)
            go_simp
            exact hK _ _ ⟨_, rfl, Below.refl _ _, rfl⟩
          apply free_is
          · intro a' w' hLe hfr hdep
            have e19 : a'.tmps.getD 19 undef = _ := hdep 5 19 (Nat.le_of_ble_eq_true rfl) rfl rfl
            conv at e19 => rhs; whnf
            have f19 := e19; simp only [Array.getD_eq_getD_getElem?] at f19
            have e25 : a'.tmps.getD 25 undef = _ := hdep 11 25 (Nat.le_of_ble_eq_true rfl) rfl rfl
            conv at e25 => rhs; whnf
            have f25 := e25; simp only [Array.getD_eq_getD_getElem?] at f25
            have e26 : a'.tmps.getD 26 undef = _ := hdep 12 26 (Nat.le_of_ble_eq_true rfl) rfl rfl
            conv at e26 => rhs; whnf
            have f26 := e26; simp only [Array.getD_eq_getD_getElem?] at f26
            refine wpOp_yes rfl rfl rfl e19 (fun K hK => ?_)
            go_simp
            exact hK _ _ ⟨_, rfl, Below.refl _ _, rfl⟩
          apply free_is
          · intro a' w' hLe hfr hdep
            have e19 : a'.tmps.getD 19 undef = _ := hdep 5 19 (Nat.le_of_ble_eq_true rfl) rfl rfl
            conv at e19 => rhs; whnf
            have f19 := e19; simp only [Array.getD_eq_getD_getElem?] at f19
            have e27 : a'.tmps.getD 27 undef = _ := hdep 13 27 (Nat.le_of_ble_eq_true rfl) rfl rfl
            conv at e27 => rhs; whnf
            have f27 := e27; simp only [Array.getD_eq_getD_getElem?] at f27
            refine wpOp_yes rfl rfl rfl e19 (fun K hK => ?_)
            go_simp
            exact hK _ _ ⟨_, rfl, Below.refl _ _, rfl⟩
          apply free_is
          · intro a' w' hLe hfr hdep
            have e19 : a'.tmps.getD 19 undef = _ := hdep 5 19 (Nat.le_of_ble_eq_true rfl) rfl rfl
            conv at e19 => rhs; whnf
            have f19 := e19; simp only [Array.getD_eq_getD_getElem?] at f19
            have e28 : a'.tmps.getD 28 undef = _ := hdep 14 28 (Nat.le_of_ble_eq_true rfl) rfl rfl
            conv at e28 => rhs; whnf
            have f28 := e28; simp only [Array.getD_eq_getD_getElem?] at f28
            have kc := fun i => keepc hLe (bl) (by (try simp) <;> omega) i
            have kf := fun i => keepf hLe (bl) (by (try simp) <;> omega) i
            have kz : bl < w'.heap.size := (by have := hLe.size; (try simp at this); omega)
            have kc := fun i => keepc hLe (bl') (by (try simp) <;> omega) i
            have kf := fun i => keepf hLe (bl') (by (try simp) <;> omega) i
            have kz : bl' < w'.heap.size := (by have := hLe.size; (try simp at this); omega)
            refine wpOp_yes rfl rfl rfl e19 (fun K hK => ?_)
            go_simp
            exact hK _ _ ⟨_, rfl, Below.refl _ _, rfl⟩
          apply free_is
          · intro a' w' hLe hfr hdep
            have e19 : a'.tmps.getD 19 undef = _ := hdep 5 19 (Nat.le_of_ble_eq_true rfl) rfl rfl
            conv at e19 => rhs; whnf
            have f19 := e19; simp only [Array.getD_eq_getD_getElem?] at f19
            have e24 : a'.tmps.getD 24 undef = _ := hdep 10 24 (Nat.le_of_ble_eq_true rfl) rfl rfl
            conv at e24 => rhs; whnf
            have f24 := e24; simp only [Array.getD_eq_getD_getElem?] at f24
            have e29 : a'.tmps.getD 29 undef = _ := hdep 15 29 (Nat.le_of_ble_eq_true rfl) rfl rfl
            conv at e29 => rhs; whnf
            have f29 := e29; simp only [Array.getD_eq_getD_getElem?] at f29
            refine wpOp_yes rfl rfl rfl e19 (fun K hK => ?_)
            go_simp
            exact hK _ _ ⟨_, rfl, Below.refl _ _, rfl⟩
          apply free_is
          · intro a' w' hLe hfr hdep
            have e19 : a'.tmps.getD 19 undef = _ := hdep 5 19 (Nat.le_of_ble_eq_true rfl) rfl rfl
            conv at e19 => rhs; whnf
            have f19 := e19; simp only [Array.getD_eq_getD_getElem?] at f19
            have e30 : a'.tmps.getD 30 undef = _ := hdep 16 30 (Nat.le_of_ble_eq_true rfl) rfl rfl
            conv at e30 => rhs; whnf
            have f30 := e30; simp only [Array.getD_eq_getD_getElem?] at f30
            refine wpOp_plain rfl rfl (fun K hK => ?_)
            go_simp
            exact hK _ _ ⟨_, rfl, Below.refl _ _, rfl⟩
          apply free_nil
          intro vs w5 hb5 hT5
          have e14 : vs 0 = _ := hT5 0 14 rfl
          conv at e14 => rhs; whnf
          have e15 : vs 1 = _ := hT5 1 15 rfl
          conv at e15 => rhs; whnf
          have e16 : vs 2 = _ := hT5 2 16 rfl
          conv at e16 => rhs; whnf
          have e17 : vs 3 = _ := hT5 3 17 rfl
          conv at e17 => rhs; whnf
          have e18 : vs 4 = _ := hT5 4 18 rfl
          conv at e18 => rhs; whnf
          have e19 : vs 5 = _ := hT5 5 19 rfl
          conv at e19 => rhs; whnf
          have e20 : vs 6 = _ := hT5 6 20 rfl
          conv at e20 => rhs; whnf
          have e21 : vs 7 = _ := hT5 7 21 rfl
          conv at e21 => rhs; whnf
          have e22 : vs 8 = _ := hT5 8 22 rfl
          conv at e22 => rhs; whnf
          have e23 : vs 9 = _ := hT5 9 23 rfl
          conv at e23 => rhs; whnf
          have e24 : vs 10 = _ := hT5 10 24 rfl
          conv at e24 => rhs; whnf
          have e25 : vs 11 = _ := hT5 11 25 rfl
          conv at e25 => rhs; whnf
          have e26 : vs 12 = _ := hT5 12 26 rfl
          conv at e26 => rhs; whnf
          have e27 : vs 13 = _ := hT5 13 27 rfl
          conv at e27 => rhs; whnf
          have e28 : vs 14 = _ := hT5 14 28 rfl
          conv at e28 => rhs; whnf
          have e29 : vs 15 = _ := hT5 15 29 rfl
          conv at e29 => rhs; whnf
          have e30 : vs 16 = _ := hT5 16 30 rfl
          conv at e30 => rhs; whnf
          have e31 : vs 17 = _ := hT5 17 31 rfl
          conv at e31 => rhs; whnf
          simp only [putAll, List.drop_succ_cons, List.drop_zero, e14, e15, e16, e17, e18, e19, e20, e21, e22, e23, e24, e25, e26, e27, e28, e29, e30, e31]
          clear hT5 e14 e15 e16 e17 e18 e19 e20 e21 e22 e23 e24 e25 e26 e27 e28 e29 e30 e31
          go_simp
          go_wp2
          go_ret
          rw [he.out]
          exact ⟨_, _, rfl, Own.nil _ _ _ _ _ _ _ (by unfold maxLen; omega), by (repeat (first | exact Below.refl _ _ | assumption | refine Below.al ?_ _ | refine Below.dr ?_ | (refine Below.st ?_ (by simp <;> omega) _) | (refine Below.tr ?_ (by assumption))))⟩
      · obtain rfl := hj0 hn
        have he := Lib.hid (addN_ne (t := t) (t' := t') hn)
        have hq : ((n : Int) == (n' : Int)) = false := by simp; omega
        have hq2 : ((n : Int) != (n' : Int)) = true := by simp; omega
        clear hrow hrow' hj0 hok hn
        go_wp2
        refine wp_region_free (ds := [(0, 14), (1, 15), (2, 16), (3, 17), (4, 18), (5, 19), (6, 20), (7, 21), (8, 22), (9, 23), (10, 24), (11, 25), (12, 26), (13, 27), (14, 28), (15, 29), (16, 30), (17, 31)]) 18 (by kernel_rfl) (by kernel_rfl) (by first | exact .inl rfl | exact .inr (by kernel_rfl)) (by rfl) rfl rfl ?_
        apply free_is
        · intro a' w' hLe hfr hdep
          have e0 := hfr 0 rfl
          conv at e0 => rhs; whnf
          have f0 := e0; simp only [Array.getD_eq_getD_getElem?] at f0
          refine wpOp_plain rfl rfl (fun K hK => ?_)
          go_simp
          exact hK _ _ ⟨_, rfl, Below.refl _ _, rfl⟩
        apply free_is
        · intro a' w' hLe hfr hdep
          have e14 : a'.tmps.getD 14 undef = _ := hdep 0 14 (Nat.le_of_ble_eq_true rfl) rfl rfl
          conv at e14 => rhs; whnf
          have f14 := e14; simp only [Array.getD_eq_getD_getElem?] at f14
          refine wpOp_plain rfl rfl (fun K hK => ?_)
          go_simp
          exact hK _ _ ⟨_, rfl, Below.refl _ _, rfl⟩
        apply free_is
        · intro a' w' hLe hfr hdep
          have e1 := hfr 1 rfl
          conv at e1 => rhs; whnf
          have f1 := e1; simp only [Array.getD_eq_getD_getElem?] at f1
          refine wpOp_plain rfl rfl (fun K hK => ?_)
          go_simp
          exact hK _ _ ⟨_, rfl, Below.refl _ _, rfl⟩
        apply free_is
        · intro a' w' hLe hfr hdep
          have e16 : a'.tmps.getD 16 undef = _ := hdep 2 16 (Nat.le_of_ble_eq_true rfl) rfl rfl
          conv at e16 => rhs; whnf
          have f16 := e16; simp only [Array.getD_eq_getD_getElem?] at f16
          refine wpOp_plain rfl rfl (fun K hK => ?_)
          go_simp
          exact hK _ _ ⟨_, rfl, Below.refl _ _, rfl⟩
        apply free_is
        · intro a' w' hLe hfr hdep
          have e15 : a'.tmps.getD 15 undef = _ := hdep 1 15 (Nat.le_of_ble_eq_true rfl) rfl rfl
          conv at e15 => rhs; whnf
          have f15 := e15; simp only [Array.getD_eq_getD_getElem?] at f15
          have e17 : a'.tmps.getD 17 undef = _ := hdep 3 17 (Nat.le_of_ble_eq_true rfl) rfl rfl
          conv at e17 => rhs; whnf
          have f17 := e17; simp only [Array.getD_eq_getD_getElem?] at f17
          refine wpOp_plain rfl rfl (fun K hK => ?_)
          go_simp
          exact hK _ _ ⟨_, rfl, Below.refl _ _, rfl⟩
        apply free_is
        · intro a' w' hLe hfr hdep
          have e18 : a'.tmps.getD 18 undef = _ := hdep 4 18 (Nat.le_of_ble_eq_true rfl) rfl rfl
          conv at e18 => rhs; whnf
          have f18 := e18; simp only [Array.getD_eq_getD_getElem?] at f18
          refine wpOp_plain rfl rfl (fun K hK => ?_)
          go_simp
          exact hK _ _ ⟨_, rfl, Below.refl _ _, rfl⟩
        apply free_is
        · intro a' w' hLe hfr hdep
          have e19 : a'.tmps.getD 19 undef = _ := hdep 5 19 (Nat.le_of_ble_eq_true rfl) rfl rfl
          conv at e19 => rhs; whnf
          have f19 := e19; simp only [Array.getD_eq_getD_getElem?] at f19
          exact wpOp_no rfl rfl rfl e19 ⟨_, rfl, Below.refl _ _, rfl⟩
        apply free_is
        · intro a' w' hLe hfr hdep
          have e19 : a'.tmps.getD 19 undef = _ := hdep 5 19 (Nat.le_of_ble_eq_true rfl) rfl rfl
          conv at e19 => rhs; whnf
          have f19 := e19; simp only [Array.getD_eq_getD_getElem?] at f19
          exact wpOp_no rfl rfl rfl e19 ⟨_, rfl, Below.refl _ _, rfl⟩
        apply free_is
        · intro a' w' hLe hfr hdep
          have e19 : a'.tmps.getD 19 undef = _ := hdep 5 19 (Nat.le_of_ble_eq_true rfl) rfl rfl
          conv at e19 => rhs; whnf
          have f19 := e19; simp only [Array.getD_eq_getD_getElem?] at f19
          exact wpOp_no rfl rfl rfl e19 ⟨_, rfl, Below.refl _ _, rfl⟩
        apply free_is
        · intro a' w' hLe hfr hdep
          have e19 : a'.tmps.getD 19 undef = _ := hdep 5 19 (Nat.le_of_ble_eq_true rfl) rfl rfl
          conv at e19 => rhs; whnf
          have f19 := e19; simp only [Array.getD_eq_getD_getElem?] at f19
          exact wpOp_no rfl rfl rfl e19 ⟨_, rfl, Below.refl _ _, rfl⟩
        apply free_is
        · intro a' w' hLe hfr hdep
          have e19 : a'.tmps.getD 19 undef = _ := hdep 5 19 (Nat.le_of_ble_eq_true rfl) rfl rfl
          conv at e19 => rhs; whnf
          have f19 := e19; simp only [Array.getD_eq_getD_getElem?] at f19
          exact wpOp_no rfl rfl rfl e19 ⟨_, rfl, Below.refl _ _, rfl⟩
        apply free_is
        · intro a' w' hLe hfr hdep
          have e19 : a'.tmps.getD 19 undef = _ := hdep 5 19 (Nat.le_of_ble_eq_true rfl) rfl rfl
          conv at e19 => rhs; whnf
          have f19 := e19; simp only [Array.getD_eq_getD_getElem?] at f19
          exact wpOp_no rfl rfl rfl e19 ⟨_, rfl, Below.refl _ _, rfl⟩
        apply free_is
        · intro a' w' hLe hfr hdep
          have e19 : a'.tmps.getD 19 undef = _ := hdep 5 19 (Nat.le_of_ble_eq_true rfl) rfl rfl
          conv at e19 => rhs; whnf
          have f19 := e19; simp only [Array.getD_eq_getD_getElem?] at f19
          exact wpOp_no rfl rfl rfl e19 ⟨_, rfl, Below.refl _ _, rfl⟩
        apply free_is
        · intro a' w' hLe hfr hdep
          have e19 : a'.tmps.getD 19 undef = _ := hdep 5 19 (Nat.le_of_ble_eq_true rfl) rfl rfl
          conv at e19 => rhs; whnf
          have f19 := e19; simp only [Array.getD_eq_getD_getElem?] at f19
          exact wpOp_no rfl rfl rfl e19 ⟨_, rfl, Below.refl _ _, rfl⟩
        apply free_is
        · intro a' w' hLe hfr hdep
          have e19 : a'.tmps.getD 19 undef = _ := hdep 5 19 (Nat.le_of_ble_eq_true rfl) rfl rfl
          conv at e19 => rhs; whnf
          have f19 := e19; simp only [Array.getD_eq_getD_getElem?] at f19
          exact wpOp_no rfl rfl rfl e19 ⟨_, rfl, Below.refl _ _, rfl⟩
        apply free_is
        · intro a' w' hLe hfr hdep
          have e19 : a'.tmps.getD 19 undef = _ := hdep 5 19 (Nat.le_of_ble_eq_true rfl) rfl rfl
          conv at e19 => rhs; whnf
          have f19 := e19; simp only [Array.getD_eq_getD_getElem?] at f19
          exact wpOp_no rfl rfl rfl e19 ⟨_, rfl, Below.refl _ _, rfl⟩
        apply free_is
        · intro a' w' hLe hfr hdep
          have e19 : a'.tmps.getD 19 undef = _ := hdep 5 19 (Nat.le_of_ble_eq_true rfl) rfl rfl
          conv at e19 => rhs; whnf
          have f19 := e19; simp only [Array.getD_eq_getD_getElem?] at f19
          exact wpOp_no rfl rfl rfl e19 ⟨_, rfl, Below.refl _ _, rfl⟩
        apply free_is
        · intro a' w' hLe hfr hdep
          have e19 : a'.tmps.getD 19 undef = _ := hdep 5 19 (Nat.le_of_ble_eq_true rfl) rfl rfl
          conv at e19 => rhs; whnf
          have f19 := e19; simp only [Array.getD_eq_getD_getElem?] at f19
          have e30 : a'.tmps.getD 30 undef = _ := hdep 16 30 (Nat.le_of_ble_eq_true rfl) rfl rfl
          conv at e30 => rhs; whnf
          have f30 := e30; simp only [Array.getD_eq_getD_getElem?] at f30
          refine wpOp_plain rfl rfl (fun K hK => ?_)
          go_simp
          exact hK _ _ ⟨_, rfl, Below.refl _ _, rfl⟩
        apply free_nil
        intro vs w5 hb5 hT5
        have e14 : vs 0 = _ := hT5 0 14 rfl
        conv at e14 => rhs; whnf
        have e15 : vs 1 = _ := hT5 1 15 rfl
        conv at e15 => rhs; whnf
        have e16 : vs 2 = _ := hT5 2 16 rfl
        conv at e16 => rhs; whnf
        have e17 : vs 3 = _ := hT5 3 17 rfl
        conv at e17 => rhs; whnf
        have e18 : vs 4 = _ := hT5 4 18 rfl
        conv at e18 => rhs; whnf
        have e19 : vs 5 = _ := hT5 5 19 rfl
        conv at e19 => rhs; whnf
        have e20 : vs 6 = _ := hT5 6 20 rfl
        conv at e20 => rhs; whnf
        have e21 : vs 7 = _ := hT5 7 21 rfl
        conv at e21 => rhs; whnf
        have e22 : vs 8 = _ := hT5 8 22 rfl
        conv at e22 => rhs; whnf
        have e23 : vs 9 = _ := hT5 9 23 rfl
        conv at e23 => rhs; whnf
        have e24 : vs 10 = _ := hT5 10 24 rfl
        conv at e24 => rhs; whnf
        have e25 : vs 11 = _ := hT5 11 25 rfl
        conv at e25 => rhs; whnf
        have e26 : vs 12 = _ := hT5 12 26 rfl
        conv at e26 => rhs; whnf
        have e27 : vs 13 = _ := hT5 13 27 rfl
        conv at e27 => rhs; whnf
        have e28 : vs 14 = _ := hT5 14 28 rfl
        conv at e28 => rhs; whnf
        have e29 : vs 15 = _ := hT5 15 29 rfl
        conv at e29 => rhs; whnf
        have e30 : vs 16 = _ := hT5 16 30 rfl
        conv at e30 => rhs; whnf
        have e31 : vs 17 = _ := hT5 17 31 rfl
        conv at e31 => rhs; whnf
        simp only [putAll, List.drop_succ_cons, List.drop_zero, e14, e15, e16, e17, e18, e19, e20, e21, e22, e23, e24, e25, e26, e27, e28, e29, e30, e31]
        clear hT5 e14 e15 e16 e17 e18 e19 e20 e21 e22 e23 e24 e25 e26 e27 e28 e29 e30 e31
        go_simp
        go_wp2
        go_ret
        rw [he.out]
        exact ⟨_, _, rfl, Own.nil _ _ _ _ _ _ _ (by unfold maxLen; omega), by (repeat (first | exact Below.refl _ _ | assumption | refine Below.al ?_ _ | refine Below.dr ?_ | (refine Below.st ?_ (by simp <;> omega) _) | (refine Below.tr ?_ (by assumption))))⟩
    · obtain rfl : j = n := by omega
      have he : addN j n' t t' = j := by
        by_cases hn : j = n'
        · subst hn; exact addN_yes hok
        · rw [addN_ne hn, hj0 hn]
      have HE := Lib.hid he
      obtain ⟨A2, c2, rfl, hO⟩ := hAcc.own
      clear hok hrow hrow' he hj0
      go_wp2
      go_ret
      rw [HE.out]
      exact ⟨_, _, rfl, hO, hBw⟩
end Go.Proofs.Ytdfnpcjbecbbbaa
