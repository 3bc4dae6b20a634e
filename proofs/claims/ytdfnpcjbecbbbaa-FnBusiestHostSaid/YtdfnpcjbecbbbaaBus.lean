/-
  BusiestHost, in the program and in the reference.
-/
import Derived.Test.YtdfnpcjbecbbbaaCntT
namespace Go.Proofs.Ytdfnpcjbecbbbaa
open Go.RowKit

/-- The first one of the first j counters (of the first one alone, if j is 0) that has most packets. -/
def bIdx (p : Nat → Int) : Nat → Nat
  | 0 => 0
  | j + 1 => if p (bIdx p j) < p j then j else bIdx p j
theorem bIdx_gt {p : Nat → Int} {j : Nat} (h : p (bIdx p j) < p j) : bIdx p (j + 1) = j := by simp [bIdx, h]
theorem bIdx_le {p : Nat → Int} {j : Nat} (h : ¬ p (bIdx p j) < p j) : bIdx p (j + 1) = bIdx p j := by simp [bIdx, h]
def busI (n : Nat) (t p : Nat → Int) : Int := if n = 0 then -1 else t (bIdx p n)

set_option maxHeartbeats 4000000 in
theorem implBusiestHost_any {w : World} {B : Nat} {A : Option Addr} {n c : Nat} {t p y : Nat → Int} (H : Rws w B 3 A n c (counterR t p y)) (hB : B ≤ w.heap.size) :
    Calls Try.prog 12 #[.slice A n c] w fun e w' => e = .returned (.int .i64 (busI n t p)) ∧ Below w.heap.size w w' := by
  obtain ⟨⟨hnc, hcm⟩, hrow⟩ := H
  unfold maxLen at hcm
  by_cases hn : n = 0
  · subst hn
    clear hrow
    go_enter Try.func12, Try.ntmps12
    go_wp2
    go_ret
    exact ⟨by simp [busI], Below.refl _ _⟩
  · have he := Lib.hid (show busI n t p = t (bIdx p n) by simp [busI, hn])
    have hn1 : ((n : Int) == 0) = false := by simp; omega
    have hn2 : 0 < n := by omega
    obtain ⟨bl, off, rfl, hbB, hc⟩ := hrow hn2
    have hr0 := hc 0 hn2
    rw [Nat.zero_mul, Nat.add_zero] at hr0
    have hbs : bl < w.heap.size := by omega
    have p0 : w.cell? ⟨bl, off, none⟩ = some (.int .i64 (t 0)) := hr0 0 _ rfl
    have p1 : w.cell? ⟨bl, off + 1, none⟩ = some (.int .i64 (p 0)) := hr0 1 _ rfl
    have p2 : w.cell? ⟨bl, off + 2, none⟩ = some (.int .i64 (y 0)) := hr0 2 _ rfl
    clear hn hr0
    go_enter Try.func12, Try.ntmps12
    go_wp2
    clear p0 p1 p2
    go_loopw [14] (fun i wr => ∃ j : Nat, j ≤ n ∧ i = .int .i64 j ∧ wr.heap[w.heap.size]? = some (.cells #[.int .i64 (t (bIdx p j)), .int .i64 (p (bIdx p j)), .int .i64 (y (bIdx p j))] 32 (0, 0)) ∧ Below w.heap.size w wr) (fun i _ => n - (intOf i).toNat)
    case atStart => exact ⟨0, by omega, rfl, heap_alloc_new w _, by (repeat (first | exact Below.refl _ _ | assumption | refine Below.al ?_ _ | refine Below.dr ?_ | (refine Below.st ?_ (by simp <;> omega) _) | (refine Below.tr ?_ (by assumption))))⟩
    case round =>
      obtain ⟨j, hj, rfl, hh, hBw⟩ := hrel
      have hfs : w.heap.size < wr.heap.size := heap_lt hh
      obtain ⟨kb, fb⟩ := blk hh
      by_cases hlt : j < n
      · have hr := hc j hlt
        have hbw : bl < wr.heap.size := by omega
        have q0 : wr.cell? ⟨bl, off + j * 3, none⟩ = some (.int .i64 (t j)) := (keepc hBw bl (by omega) _).trans (hr 0 _ rfl)
        have q1 : wr.cell? ⟨bl, off + j * 3 + 1, none⟩ = some (.int .i64 (p j)) := (keepc hBw bl (by omega) _).trans (hr 1 _ rfl)
        have q2 : wr.cell? ⟨bl, off + j * 3 + 2, none⟩ = some (.int .i64 (y j)) := (keepc hBw bl (by omega) _).trans (hr 2 _ rfl)
        have HH := Lib.hid hh
        clear hc hr hrow hh
        by_cases hp : p (bIdx p j) < p j
        · have hx := Lib.hid (bIdx_gt hp)
          have hd : decide (p (bIdx p j) < p j) = true := by simpa using hp
          go_wp2_with (refine wpList_store_var rfl 32 (.tmp 3) (.tmp 23) rfl #[.int .i64 (t j), .int .i64 (p j), .int .i64 (y j)] ((Below.heap_alloc _ _ _ hfs).trans HH.out) rfl rfl (by kernel_rfl) rfl rfl ?_; intro w2 hh2 hg2 hs2)
          go_roundw
          case rel => exact ⟨j + 1, by omega, by go_num, by rw [hx.out]; exact hh2, Below.of_grown (Below.al hBw _) hg2 (Nat.le_refl _)⟩
          case measure => simp [intOf]; omega
        · have hx := Lib.hid (bIdx_le hp)
          have hd : decide (p (bIdx p j) < p j) = false := by simpa using hp
          go_wp2
          go_roundw
          case rel => exact ⟨j + 1, by omega, by go_num, by rw [hx.out]; exact (Below.heap_alloc _ _ _ hfs).trans HH.out, Below.al hBw _⟩
          case measure => simp [intOf]; omega
      · obtain rfl : j = n := by omega
        clear hrow hc
        go_wp2
        go_ret
        exact ⟨by rw [he.out] <;> rfl, hBw⟩

set_option maxHeartbeats 4000000 in
theorem specBusiestHost_any {w : World} {B : Nat} {A : Option Addr} {n c : Nat} {t p y : Nat → Int} (H : Rws w B 3 A n c (counterR t p y)) (hB : B ≤ w.heap.size) :
    Calls Try.prog 10 #[.slice A n c] w fun e w' => e = .returned (.int .i64 (busI n t p)) ∧ Below w.heap.size w w' := by
  obtain ⟨⟨hnc, hcm⟩, hrow⟩ := H
  unfold maxLen at hcm
  by_cases hn : n = 0
  · subst hn
    clear hrow
    go_enter Try.func10, Try.ntmps10
    go_wp2
    go_ret
    exact ⟨by simp [busI], Below.refl _ _⟩
  · have he := Lib.hid (show busI n t p = t (bIdx p n) by simp [busI, hn])
    have hn1 : ((n : Int) == 0) = false := by simp; omega
    have hn2 : 0 < n := by omega
    obtain ⟨bl, off, rfl, hbB, hc⟩ := hrow hn2
    have hr0 := hc 0 hn2
    rw [Nat.zero_mul, Nat.add_zero] at hr0
    have hbs : bl < w.heap.size := by omega
    have p0 : w.cell? ⟨bl, off, none⟩ = some (.int .i64 (t 0)) := hr0 0 _ rfl
    have p1 : w.cell? ⟨bl, off + 1, none⟩ = some (.int .i64 (p 0)) := hr0 1 _ rfl
    have p2 : w.cell? ⟨bl, off + 2, none⟩ = some (.int .i64 (y 0)) := hr0 2 _ rfl
    clear hn hr0
    go_enter Try.func10, Try.ntmps10
    go_wp2
    clear p0 p1 p2
    go_loopw [4] (fun i wr => ∃ j : Nat, j ≤ n ∧ i = .int .i64 j ∧ wr.heap[w.heap.size]? = some (.cells #[.int .i64 (t (bIdx p j)), .int .i64 (p (bIdx p j)), .int .i64 (y (bIdx p j))] 32 (0, 0)) ∧ Below w.heap.size w wr) (fun i _ => n - (intOf i).toNat)
    case atStart => exact ⟨0, by omega, rfl, heap_alloc_new w _, by (repeat (first | exact Below.refl _ _ | assumption | refine Below.al ?_ _ | refine Below.dr ?_ | (refine Below.st ?_ (by simp <;> omega) _) | (refine Below.tr ?_ (by assumption))))⟩
    case round =>
      obtain ⟨j, hj, rfl, hh, hBw⟩ := hrel
      have hfs : w.heap.size < wr.heap.size := heap_lt hh
      obtain ⟨kb, fb⟩ := blk hh
      by_cases hlt : j < n
      · have hr := hc j hlt
        have hbw : bl < wr.heap.size := by omega
        have q0 : wr.cell? ⟨bl, off + j * 3, none⟩ = some (.int .i64 (t j)) := (keepc hBw bl (by omega) _).trans (hr 0 _ rfl)
        have q1 : wr.cell? ⟨bl, off + j * 3 + 1, none⟩ = some (.int .i64 (p j)) := (keepc hBw bl (by omega) _).trans (hr 1 _ rfl)
        have q2 : wr.cell? ⟨bl, off + j * 3 + 2, none⟩ = some (.int .i64 (y j)) := (keepc hBw bl (by omega) _).trans (hr 2 _ rfl)
        have HH := Lib.hid hh
        clear hc hr hrow hh
        by_cases hp : p (bIdx p j) < p j
        · have hx := Lib.hid (bIdx_gt hp)
          have hd : decide (p (bIdx p j) < p j) = true := by simpa using hp
          go_wp2
          refine wp_region_free (ds := [(0, 17), (1, 18), (2, 19), (3, 20), (4, 21), (5, 22), (6, 23), (7, 24)]) 8 (by kernel_rfl) (by kernel_rfl) (by first | exact .inl rfl | exact .inr (by kernel_rfl)) (by rfl) rfl rfl ?_
          apply free_is
          · intro a' w' hLe hfr hdep
            have e0 := hfr 0 rfl
            conv at e0 => rhs; whnf
            have f0 := e0; simp only [Array.getD_eq_getD_getElem?] at f0
            refine wpOp_plain rfl rfl (fun K hK => ?_)
            go_simp
            exact hK _ _ ⟨_, rfl, Below.refl _ _, rfl⟩
          apply free_is
          · intro a' w' hLe hfr hdep
            have e4 := hfr 4 rfl
            conv at e4 => rhs; whnf
            have f4 := e4; simp only [Array.getD_eq_getD_getElem?] at f4
            refine wpOp_plain rfl rfl (fun K hK => ?_)
            go_simp
            exact hK _ _ ⟨_, rfl, Below.refl _ _, rfl⟩
          apply free_is
          · intro a' w' hLe hfr hdep
            have e17 : a'.tmps.getD 17 undef = _ := hdep 0 17 (Nat.le_of_ble_eq_true rfl) rfl rfl
            conv at e17 => rhs; whnf
            have f17 := e17; simp only [Array.getD_eq_getD_getElem?] at f17
            have e18 : a'.tmps.getD 18 undef = _ := hdep 1 18 (Nat.le_of_ble_eq_true rfl) rfl rfl
            conv at e18 => rhs; whnf
            have f18 := e18; simp only [Array.getD_eq_getD_getElem?] at f18
            refine wpOp_plain rfl rfl (fun K hK => ?_)
            go_simp
            exact hK _ _ ⟨_, rfl, Below.refl _ _, rfl⟩
          apply free_is
          · intro a' w' hLe hfr hdep
            have e19 : a'.tmps.getD 19 undef = _ := hdep 2 19 (Nat.le_of_ble_eq_true rfl) rfl rfl
            conv at e19 => rhs; whnf
            have f19 := e19; simp only [Array.getD_eq_getD_getElem?] at f19
            refine wpOp_plain rfl rfl (fun K hK => ?_)
            go_simp
            exact hK _ _ ⟨_, rfl, Below.refl _ _, rfl⟩
          apply free_is
          · intro a' w' hLe hfr hdep
            have e20 : a'.tmps.getD 20 undef = _ := hdep 3 20 (Nat.le_of_ble_eq_true rfl) rfl rfl
            conv at e20 => rhs; whnf
            have f20 := e20; simp only [Array.getD_eq_getD_getElem?] at f20
            have kc := fun i => keepc hLe (bl) (by (try simp) <;> omega) i
            have kf := fun i => keepf hLe (bl) (by (try simp) <;> omega) i
            have kz : bl < w'.heap.size := (by have := hLe.size; (try simp at this); omega)
            have kc := fun i => keepc hLe (w.heap.size) (by (try simp) <;> omega) i
            have kf := fun i => keepf hLe (w.heap.size) (by (try simp) <;> omega) i
            have kz : w.heap.size < w'.heap.size := (by have := hLe.size; (try simp at this); omega)
            refine wpOp_plain rfl rfl (fun K hK => ?_)
            go_simp
            exact hK _ _ ⟨_, rfl, Below.refl _ _, rfl⟩
          apply free_is
          · intro a' w' hLe hfr hdep
            have e3 := hfr 3 rfl
            conv at e3 => rhs; whnf
            have f3 := e3; simp only [Array.getD_eq_getD_getElem?] at f3
            refine wpOp_plain rfl rfl (fun K hK => ?_)
            go_simp
            exact hK _ _ ⟨_, rfl, Below.refl _ _, rfl⟩
          apply free_is
          · intro a' w' hLe hfr hdep
            have e22 : a'.tmps.getD 22 undef = _ := hdep 5 22 (Nat.le_of_ble_eq_true rfl) rfl rfl
            conv at e22 => rhs; whnf
            have f22 := e22; simp only [Array.getD_eq_getD_getElem?] at f22
            have kc := fun i => keepc hLe (bl) (by (try simp) <;> omega) i
            have kf := fun i => keepf hLe (bl) (by (try simp) <;> omega) i
            have kz : bl < w'.heap.size := (by have := hLe.size; (try simp at this); omega)
            have kc := fun i => keepc hLe (w.heap.size) (by (try simp) <;> omega) i
            have kf := fun i => keepf hLe (w.heap.size) (by (try simp) <;> omega) i
            have kz : w.heap.size < w'.heap.size := (by have := hLe.size; (try simp at this); omega)
            refine wpOp_plain rfl rfl (fun K hK => ?_)
            go_simp
            exact hK _ _ ⟨_, rfl, Below.refl _ _, rfl⟩
          apply free_is
          · intro a' w' hLe hfr hdep
            have e21 : a'.tmps.getD 21 undef = _ := hdep 4 21 (Nat.le_of_ble_eq_true rfl) rfl rfl
            conv at e21 => rhs; whnf
            have f21 := e21; simp only [Array.getD_eq_getD_getElem?] at f21
            have e23 : a'.tmps.getD 23 undef = _ := hdep 6 23 (Nat.le_of_ble_eq_true rfl) rfl rfl
            conv at e23 => rhs; whnf
            have f23 := e23; simp only [Array.getD_eq_getD_getElem?] at f23
            refine wpOp_plain rfl rfl (fun K hK => ?_)
            go_simp
            exact hK _ _ ⟨_, rfl, Below.refl _ _, rfl⟩
          apply free_nil
          intro vs w7 hb7 hT7
          have e17 : vs 0 = _ := hT7 0 17 rfl
          conv at e17 => rhs; whnf
          have e18 : vs 1 = _ := hT7 1 18 rfl
          conv at e18 => rhs; whnf
          have e19 : vs 2 = _ := hT7 2 19 rfl
          conv at e19 => rhs; whnf
          have e20 : vs 3 = _ := hT7 3 20 rfl
          conv at e20 => rhs; whnf
          have e21 : vs 4 = _ := hT7 4 21 rfl
          conv at e21 => rhs; whnf
          have e22 : vs 5 = _ := hT7 5 22 rfl
          conv at e22 => rhs; whnf
          have e23 : vs 6 = _ := hT7 6 23 rfl
          conv at e23 => rhs; whnf
          have e24 : vs 7 = _ := hT7 7 24 rfl
          conv at e24 => rhs; whnf
          simp only [putAll, List.drop_succ_cons, List.drop_zero, e17, e18, e19, e20, e21, e22, e23, e24]
          clear hT7 e17 e18 e19 e20 e21 e22 e23 e24
          go_simp
          have k7 := keepc hb7 bl hbw
          have z7 : bl < w7.heap.size := Nat.lt_of_lt_of_le hbw hb7.size
          have HH7 := Lib.hid ((hb7.block w.heap.size hfs).trans HH.out)
          go_wp2_with (refine wpList_store_var rfl 32 (.tmp 3) (.tmp 28) rfl #[.int .i64 (t j), .int .i64 (p j), .int .i64 (y j)] HH7.out rfl rfl (by kernel_rfl) rfl rfl ?_; intro w2 hh2 hg2 hs2)
          go_roundw
          case rel => exact ⟨j + 1, by omega, by go_num, by rw [hx.out]; exact hh2, Below.of_grown (Below.tr hBw hb7) hg2 (Nat.le_refl _)⟩
          case measure => simp [intOf]; omega
        · have hx := Lib.hid (bIdx_le hp)
          have hd : decide (p (bIdx p j) < p j) = false := by simpa using hp
          go_wp2
          refine wp_region_free (ds := [(0, 17), (1, 18), (2, 19), (3, 20), (4, 21), (5, 22), (6, 23), (7, 24)]) 8 (by kernel_rfl) (by kernel_rfl) (by first | exact .inl rfl | exact .inr (by kernel_rfl)) (by rfl) rfl rfl ?_
          apply free_is
          · intro a' w' hLe hfr hdep
            have e0 := hfr 0 rfl
            conv at e0 => rhs; whnf
            have f0 := e0; simp only [Array.getD_eq_getD_getElem?] at f0
            refine wpOp_plain rfl rfl (fun K hK => ?_)
            go_simp
            exact hK _ _ ⟨_, rfl, Below.refl _ _, rfl⟩
          apply free_is
          · intro a' w' hLe hfr hdep
            have e4 := hfr 4 rfl
            conv at e4 => rhs; whnf
            have f4 := e4; simp only [Array.getD_eq_getD_getElem?] at f4
            refine wpOp_plain rfl rfl (fun K hK => ?_)
            go_simp
            exact hK _ _ ⟨_, rfl, Below.refl _ _, rfl⟩
          apply free_is
          · intro a' w' hLe hfr hdep
            have e17 : a'.tmps.getD 17 undef = _ := hdep 0 17 (Nat.le_of_ble_eq_true rfl) rfl rfl
            conv at e17 => rhs; whnf
            have f17 := e17; simp only [Array.getD_eq_getD_getElem?] at f17
            have e18 : a'.tmps.getD 18 undef = _ := hdep 1 18 (Nat.le_of_ble_eq_true rfl) rfl rfl
            conv at e18 => rhs; whnf
            have f18 := e18; simp only [Array.getD_eq_getD_getElem?] at f18
            refine wpOp_plain rfl rfl (fun K hK => ?_)
            go_simp
            exact hK _ _ ⟨_, rfl, Below.refl _ _, rfl⟩
          apply free_is
          · intro a' w' hLe hfr hdep
            have e19 : a'.tmps.getD 19 undef = _ := hdep 2 19 (Nat.le_of_ble_eq_true rfl) rfl rfl
            conv at e19 => rhs; whnf
            have f19 := e19; simp only [Array.getD_eq_getD_getElem?] at f19
            refine wpOp_plain rfl rfl (fun K hK => ?_)
            go_simp
            exact hK _ _ ⟨_, rfl, Below.refl _ _, rfl⟩
          apply free_is
          · intro a' w' hLe hfr hdep
            have e20 : a'.tmps.getD 20 undef = _ := hdep 3 20 (Nat.le_of_ble_eq_true rfl) rfl rfl
            conv at e20 => rhs; whnf
            have f20 := e20; simp only [Array.getD_eq_getD_getElem?] at f20
            have kc := fun i => keepc hLe (bl) (by (try simp) <;> omega) i
            have kf := fun i => keepf hLe (bl) (by (try simp) <;> omega) i
            have kz : bl < w'.heap.size := (by have := hLe.size; (try simp at this); omega)
            have kc := fun i => keepc hLe (w.heap.size) (by (try simp) <;> omega) i
            have kf := fun i => keepf hLe (w.heap.size) (by (try simp) <;> omega) i
            have kz : w.heap.size < w'.heap.size := (by have := hLe.size; (try simp at this); omega)
            refine wpOp_plain rfl rfl (fun K hK => ?_)
            go_simp
            exact hK _ _ ⟨_, rfl, Below.refl _ _, rfl⟩
          apply free_is
          · intro a' w' hLe hfr hdep
            have e3 := hfr 3 rfl
            conv at e3 => rhs; whnf
            have f3 := e3; simp only [Array.getD_eq_getD_getElem?] at f3
            refine wpOp_plain rfl rfl (fun K hK => ?_)
            go_simp
            exact hK _ _ ⟨_, rfl, Below.refl _ _, rfl⟩
          apply free_is
          · intro a' w' hLe hfr hdep
            have e22 : a'.tmps.getD 22 undef = _ := hdep 5 22 (Nat.le_of_ble_eq_true rfl) rfl rfl
            conv at e22 => rhs; whnf
            have f22 := e22; simp only [Array.getD_eq_getD_getElem?] at f22
            have kc := fun i => keepc hLe (bl) (by (try simp) <;> omega) i
            have kf := fun i => keepf hLe (bl) (by (try simp) <;> omega) i
            have kz : bl < w'.heap.size := (by have := hLe.size; (try simp at this); omega)
            have kc := fun i => keepc hLe (w.heap.size) (by (try simp) <;> omega) i
            have kf := fun i => keepf hLe (w.heap.size) (by (try simp) <;> omega) i
            have kz : w.heap.size < w'.heap.size := (by have := hLe.size; (try simp at this); omega)
            refine wpOp_plain rfl rfl (fun K hK => ?_)
            go_simp
            exact hK _ _ ⟨_, rfl, Below.refl _ _, rfl⟩
          apply free_is
          · intro a' w' hLe hfr hdep
            have e21 : a'.tmps.getD 21 undef = _ := hdep 4 21 (Nat.le_of_ble_eq_true rfl) rfl rfl
            conv at e21 => rhs; whnf
            have f21 := e21; simp only [Array.getD_eq_getD_getElem?] at f21
            have e23 : a'.tmps.getD 23 undef = _ := hdep 6 23 (Nat.le_of_ble_eq_true rfl) rfl rfl
            conv at e23 => rhs; whnf
            have f23 := e23; simp only [Array.getD_eq_getD_getElem?] at f23
            refine wpOp_plain rfl rfl (fun K hK => ?_)
            go_simp
            exact hK _ _ ⟨_, rfl, Below.refl _ _, rfl⟩
          apply free_nil
          intro vs w7 hb7 hT7
          have e17 : vs 0 = _ := hT7 0 17 rfl
          conv at e17 => rhs; whnf
          have e18 : vs 1 = _ := hT7 1 18 rfl
          conv at e18 => rhs; whnf
          have e19 : vs 2 = _ := hT7 2 19 rfl
          conv at e19 => rhs; whnf
          have e20 : vs 3 = _ := hT7 3 20 rfl
          conv at e20 => rhs; whnf
          have e21 : vs 4 = _ := hT7 4 21 rfl
          conv at e21 => rhs; whnf
          have e22 : vs 5 = _ := hT7 5 22 rfl
          conv at e22 => rhs; whnf
          have e23 : vs 6 = _ := hT7 6 23 rfl
          conv at e23 => rhs; whnf
          have e24 : vs 7 = _ := hT7 7 24 rfl
          conv at e24 => rhs; whnf
          simp only [putAll, List.drop_succ_cons, List.drop_zero, e17, e18, e19, e20, e21, e22, e23, e24]
          clear hT7 e17 e18 e19 e20 e21 e22 e23 e24
          go_simp
          go_wp2
          go_roundw
          case rel => exact ⟨j + 1, by omega, by go_num, by rw [hx.out]; exact (hb7.block w.heap.size hfs).trans HH.out, Below.tr hBw hb7⟩
          case measure => simp [intOf]; omega
      · obtain rfl : j = n := by omega
        clear hrow hc
        go_wp2
        go_ret
        exact ⟨by rw [he.out] <;> rfl, hBw⟩

end Go.Proofs.Ytdfnpcjbecbbbaa
