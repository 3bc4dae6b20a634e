/-
  ReceiverValid, in the program and in the reference.
-/
import Derived.Test.YtangpebnjodpnaaTime
import Derived.Test.YtangpebnjodpnaaIntT
namespace Go.Proofs.Ytangpebnjodpnaa
open Go.RowKit

/-- Is number i kept in order? -/
def rcOk (nx rm : Int) (h : Nat → Int) (i : Nat) : Bool := decide (nx < h i) && decide (h i < nx + rm) && (i == 0 || decide (h (i - 1) < h i))
def rcvB (nx rm : Int) (n : Nat) (h : Nat → Int) : Bool := inB nx 0 100000 && inB rm 1 10 && (List.range n).all (rcOk nx rm h)
theorem rcvB_no {nx rm : Int} {n i : Nat} {h : Nat → Int} (hi : i < n) (ho : rcOk nx rm h i = false) : rcvB nx rm n h = false := by simp only [rcvB, all_no hi ho, Bool.and_false]
theorem rcvB_end {nx rm : Int} {n : Nat} {h : Nat → Int} (h1 : inB nx 0 100000 = true) (h2 : inB rm 1 10 = true) (ho : ∀ i, i < n → rcOk nx rm h i = true) : rcvB nx rm n h = true := by simp only [rcvB, all_yes ho, h1, h2, Bool.and_self]

set_option maxHeartbeats 2000000 in
theorem implReceiverValid_any {w : World} {B : Nat} {A : Option Addr} {n c : Nat} {h : Nat → Int} (nx rm : Int) (H : Rws w B 1 A n c (intR h)) (hB : B ≤ w.heap.size) :
    Calls Try.prog 6 #[.agg #[.int .i64 nx, .int .i64 rm, .slice A n c]] w fun e w' => e = .returned (.bool (rcvB nx rm n h)) ∧ Below w.heap.size w w' := by
  obtain ⟨⟨hnc, hcm⟩, hrow⟩ := H
  unfold maxLen at hcm
  cases h1 : inB nx 0 100000 with
  | false =>
    have he := Lib.hid (show rcvB nx rm n h = false by simp [rcvB, h1])
    clear hrow
    go_enter Try.func6, Try.ntmps6
    go_wp2_with (first | (go_at_call 14; refine (isTime_any _ _).mono ?_; rintro e w' ⟨rfl, rfl⟩) | (go_at_call 15; refine (in_any _ _ _ _).mono ?_; rintro e w' ⟨rfl, rfl⟩))
    go_ret
    exact ⟨by rw [he.out] <;> rfl, by (repeat (first | exact Below.refl _ _ | assumption | refine Below.al ?_ _ | refine Below.dr ?_ | (refine Below.st ?_ (by simp <;> omega) _) | (refine Below.tr ?_ (by assumption))))⟩
  | true =>
    cases h2 : inB rm 1 10 with
    | false =>
      have he := Lib.hid (show rcvB nx rm n h = false by simp [rcvB, h2])
      clear hrow
      go_enter Try.func6, Try.ntmps6
      go_wp2_with (first | (go_at_call 14; refine (isTime_any _ _).mono ?_; rintro e w' ⟨rfl, rfl⟩) | (go_at_call 15; refine (in_any _ _ _ _).mono ?_; rintro e w' ⟨rfl, rfl⟩))
      go_ret
      exact ⟨by rw [he.out] <;> rfl, by (repeat (first | exact Below.refl _ _ | assumption | refine Below.al ?_ _ | refine Below.dr ?_ | (refine Below.st ?_ (by simp <;> omega) _) | (refine Below.tr ?_ (by assumption))))⟩
    | true =>
      obtain ⟨t1, t2⟩ := inB_true.1 h1
      obtain ⟨t3, t4⟩ := inB_true.1 h2
      have HE := Lib.hid (fun ho => rcvB_end (n := n) (h := h) h1 h2 ho)
      go_enter Try.func6, Try.ntmps6
      go_wp2_with (first | (go_at_call 14; refine (isTime_any _ _).mono ?_; rintro e w' ⟨rfl, rfl⟩) | (go_at_call 15; refine (in_any _ _ _ _).mono ?_; rintro e w' ⟨rfl, rfl⟩))
      clear h1 h2
      go_loop [3, 21] (fun la i => ∃ (j : Nat) (x : Int), j ≤ n ∧ i = .int .i64 j ∧ la = .int .i64 x ∧ nx ≤ x ∧ (j = 0 → x = nx) ∧ (0 < j → x = h (j - 1)) ∧ x ≤ 101000 ∧ (∀ i, i < j → rcOk nx rm h i = true)) (fun _ i => n - (intOf i).toNat)
      case atStart => exact ⟨0, nx, by omega, rfl, rfl, by omega, fun _ => rfl, fun h => by omega, by omega, fun i hi => absurd hi (by omega)⟩
      case round =>
        obtain ⟨j, x, hj, rfl, rfl, hx0, hx1, hx2, hx3, hok⟩ := hrel
        by_cases hlt : j < n
        · obtain ⟨bl, off, rfl, hbB, hc⟩ := hrow (by omega)
          have hr := hc j hlt
          rw [Nat.mul_one] at hr
          have hbs : bl < w.heap.size := by omega
          have q0 : w.cell? ⟨bl, off + j, none⟩ = some (.int .i64 (h j)) := hr 0 _ rfl
          clear hr hc hrow
          by_cases h3 : h j ≤ x
          · have ho : rcOk nx rm h j = false := by
              rcases Nat.eq_zero_or_pos j with rfl | hp
              · have := hx1 rfl
                have h4 : ¬ nx < h 0 := by omega
                simp [rcOk, h4]
              · have := hx2 hp
                have h4 : ¬ h (j - 1) < h j := by omega
                have h5 : (j == 0) = false := by simp; omega
                simp [rcOk, h4, h5]
            have he := Lib.hid (rcvB_no hlt ho)
            clear hx1 hx2 hok ho
            go_wp2
            go_ret
            exact ⟨by rw [he.out] <;> rfl, by (repeat (first | exact Below.refl _ _ | assumption | refine Below.al ?_ _ | refine Below.dr ?_ | (refine Below.st ?_ (by simp <;> omega) _) | (refine Below.tr ?_ (by assumption))))⟩
          · by_cases h4 : nx + rm ≤ h j
            · have ho : rcOk nx rm h j = false := by
                have h5 : ¬ h j < nx + rm := by omega
                simp [rcOk, h5]
              have he := Lib.hid (rcvB_no hlt ho)
              clear hx1 hx2 hok ho
              go_wp2
              go_ret
              exact ⟨by rw [he.out] <;> rfl, by (repeat (first | exact Below.refl _ _ | assumption | refine Below.al ?_ _ | refine Below.dr ?_ | (refine Below.st ?_ (by simp <;> omega) _) | (refine Below.tr ?_ (by assumption))))⟩
            · have ho : rcOk nx rm h j = true := by
                have h5 : h j < nx + rm := by omega
                have h6 : nx < h j := by omega
                rcases Nat.eq_zero_or_pos j with rfl | hp
                · simp [rcOk, h5, h6]
                · have := hx2 hp
                  have h7 : h (j - 1) < h j := by omega
                  simp [rcOk, h5, h6, h7]
              have HO := Lib.hid (upto hok ho)
              clear hx1 hx2 hok ho
              go_wp2
              go_round
              case rel => exact ⟨j + 1, h j, by omega, by go_num, rfl, by omega, fun h => by omega, fun _ => rfl, by omega, HO.out⟩
              case measure => simp [intOf]; omega
        · obtain rfl : j = n := by omega
          have he := Lib.hid (HE.out hok)
          clear hrow hx1 hx2 hok
          go_wp2
          go_ret
          exact ⟨by rw [he.out] <;> rfl, by (repeat (first | exact Below.refl _ _ | assumption | refine Below.al ?_ _ | refine Below.dr ?_ | (refine Below.st ?_ (by simp <;> omega) _) | (refine Below.tr ?_ (by assumption))))⟩

set_option maxHeartbeats 4000000 in
theorem specReceiverValid_yes {w : World} {B : Nat} {A : Option Addr} {n c : Nat} {h : Nat → Int} (nx rm : Int) (H : Rws w B 1 A n c (intR h)) (hB : B ≤ w.heap.size) (h1 : inB nx 0 100000 = true) (h2 : inB rm 1 10 = true) :
    Calls Try.prog 7 #[.agg #[.int .i64 nx, .int .i64 rm, .slice A n c]] w fun e w' => e = .returned (.bool (rcvB nx rm n h)) ∧ Below w.heap.size w w' := by
  obtain ⟨⟨hnc, hcm⟩, hrow⟩ := H
  unfold maxLen at hcm
  obtain ⟨t1, t2⟩ := inB_true.1 h1
  obtain ⟨t3, t4⟩ := inB_true.1 h2
  have HE := Lib.hid (fun ho => rcvB_end (n := n) (h := h) h1 h2 ho)
  go_enter Try.func7, Try.ntmps7
  go_wp2
  go_loopw [3] (fun i wr => ∃ j : Nat, j ≤ n ∧ i = .int .i64 j ∧ (∀ i, i < j → rcOk nx rm h i = true) ∧ Below (w.alloc (.cells #[.int .i64 nx, .int .i64 rm, .slice A n c] 25)).heap.size (w.alloc (.cells #[.int .i64 nx, .int .i64 rm, .slice A n c] 25)) wr) (fun i _ => n - (intOf i).toNat)
  case atStart => exact ⟨0, by omega, rfl, fun i hi => absurd hi (by omega), Below.refl _ _⟩
  case round =>
    obtain ⟨j, hj, rfl, hok, hBw⟩ := hrel
    have hB0 : Below w.heap.size w wr := Below.tr (by (repeat (first | exact Below.refl _ _ | assumption | refine Below.al ?_ _ | refine Below.dr ?_ | (refine Below.st ?_ (by simp <;> omega) _) | (refine Below.tr ?_ (by assumption))))) hBw
    have hfs : w.heap.size < wr.heap.size := by have := hBw.size; simp at this; omega
    have kf : ∀ i, wr.cell? ⟨w.heap.size, i, none⟩ = #[Value.int .i64 nx, .int .i64 rm, .slice A n c][i]? := fun i => (keepc hBw w.heap.size (by simp) i).trans ((blk (heap_alloc_new w _)).1 i)
    by_cases hlt : j < n
    · obtain ⟨bl, off, rfl, hbB, hc⟩ := hrow (by omega)
      have hr := hc j hlt
      rw [Nat.mul_one] at hr
      have hbs : bl < wr.heap.size := by have := hB0.size; omega
      have q0 : wr.cell? ⟨bl, off + j, none⟩ = some (.int .i64 (h j)) := (keepc hB0 bl (by omega) _).trans (hr 0 _ rfl)
      have e1 : IntKind.i64.wrap (nx + 1) = nx + 1 := IntWalk.i64_in _ (by omega)
      have e2 : IntKind.i64.wrap (nx + rm) = nx + rm := IntWalk.i64_in _ (by omega)
      have e3 : IntKind.i64.wrap (nx + rm - 1) = nx + rm - 1 := IntWalk.i64_in _ (by omega)
      cases h3 : inB (h j) (nx + 1) (nx + rm - 1) with
      | false =>
        have ho : rcOk nx rm h j = false := by
          have h4 : ¬ (nx + 1 ≤ h j ∧ h j ≤ nx + rm - 1) := fun hh => by rw [inB_true.2 hh] at h3; cases h3
          by_cases h5 : nx < h j
          · have h6 : ¬ h j < nx + rm := by omega
            simp [rcOk, h6]
          · simp [rcOk, h5]
        have he := Lib.hid (rcvB_no hlt ho)
        clear hok ho hc hrow hr
        go_wp2
        refine wp_region_free (ds := [(0, 11), (1, 12), (2, 13), (3, 14), (4, 15), (5, 16), (6, 17), (7, 18), (8, 19), (9, 20), (10, 21), (11, 22), (12, 23), (13, 24), (14, 25), (15, 26), (16, 27), (17, 28), (18, 29), (19, 30), (20, 31), (21, 32), (22, 33), (23, 34), (24, 35), (25, 36), (26, 37), (27, 38), (28, 39), (29, 40), (30, 41), (31, 42), (32, 43), (33, 44)]) 34 (by kernel_rfl) (by kernel_rfl) (by first | exact .inl rfl | exact .inr (by kernel_rfl)) (by rfl) rfl rfl ?_
        apply free_is
        · intro a' w' hLe hfr hdep
          have e1 := hfr 1 rfl
          conv at e1 => rhs; whnf
          have f1 := e1; simp only [Array.getD_eq_getD_getElem?] at f1
          refine wpOp_plain rfl rfl (fun K hK => ?_)
          go_simp
          exact hK _ _ ⟨_, rfl, Below.refl _ _, rfl⟩
        apply free_is
        · intro a' w' hLe hfr hdep
          have e11 : a'.tmps.getD 11 undef = _ := hdep 0 11 (Nat.le_of_ble_eq_true rfl) rfl rfl
          conv at e11 => rhs; whnf
          have f11 := e11; simp only [Array.getD_eq_getD_getElem?] at f11
          have kc := fun i => keepc hLe (bl) (by (try simp) <;> omega) i
          have kf := fun i => keepf hLe (bl) (by (try simp) <;> omega) i
          have kz : bl < w'.heap.size := (by have := hLe.size; (try simp at this); omega)
          have kc := fun i => keepc hLe (w.heap.size) (by (try simp) <;> omega) i
          have kf := fun i => keepf hLe (w.heap.size) (by (try simp) <;> omega) i
          have kz : w.heap.size < w'.heap.size := (by have := hLe.size; (try simp at this); omega)
          refine wpOp_plain rfl rfl (fun K hK => ?_)
          go_simp
          exact hK _ _ ⟨_, rfl, Below.refl _ _, rfl⟩
        apply free_is
        · intro a' w' hLe hfr hdep
          have e3 := hfr 3 rfl
          conv at e3 => rhs; whnf
          have f3 := e3; simp only [Array.getD_eq_getD_getElem?] at f3
          refine wpOp_plain rfl rfl (fun K hK => ?_)
          go_simp
          exact hK _ _ ⟨_, rfl, Below.refl _ _, rfl⟩
        apply free_is
        · intro a' w' hLe hfr hdep
          have e12 : a'.tmps.getD 12 undef = _ := hdep 1 12 (Nat.le_of_ble_eq_true rfl) rfl rfl
          conv at e12 => rhs; whnf
          have f12 := e12; simp only [Array.getD_eq_getD_getElem?] at f12
          have e13 : a'.tmps.getD 13 undef = _ := hdep 2 13 (Nat.le_of_ble_eq_true rfl) rfl rfl
          conv at e13 => rhs; whnf
          have f13 := e13; simp only [Array.getD_eq_getD_getElem?] at f13
          refine wpOp_plain rfl rfl (fun K hK => ?_)
          go_simp
          exact hK _ _ ⟨_, rfl, Below.refl _ _, rfl⟩
        apply free_is
        · intro a' w' hLe hfr hdep
          have e14 : a'.tmps.getD 14 undef = _ := hdep 3 14 (Nat.le_of_ble_eq_true rfl) rfl rfl
          conv at e14 => rhs; whnf
          have f14 := e14; simp only [Array.getD_eq_getD_getElem?] at f14
          have kc := fun i => keepc hLe (bl) (by (try simp) <;> omega) i
          have kf := fun i => keepf hLe (bl) (by (try simp) <;> omega) i
          have kz : bl < w'.heap.size := (by have := hLe.size; (try simp at this); omega)
          have kc := fun i => keepc hLe (w.heap.size) (by (try simp) <;> omega) i
          have kf := fun i => keepf hLe (w.heap.size) (by (try simp) <;> omega) i
          have kz : w.heap.size < w'.heap.size := (by have := hLe.size; (try simp at this); omega)
          refine wpOp_plain rfl rfl (fun K hK => ?_)
          go_simp
          exact hK _ _ ⟨_, rfl, Below.refl _ _, rfl⟩
        apply free_is
        · intro a' w' hLe hfr hdep
          have e1 := hfr 1 rfl
          conv at e1 => rhs; whnf
          have f1 := e1; simp only [Array.getD_eq_getD_getElem?] at f1
          refine wpOp_plain rfl rfl (fun K hK => ?_)
          go_simp
          exact hK _ _ ⟨_, rfl, Below.refl _ _, rfl⟩
        apply free_is
        · intro a' w' hLe hfr hdep
          have e16 : a'.tmps.getD 16 undef = _ := hdep 5 16 (Nat.le_of_ble_eq_true rfl) rfl rfl
          conv at e16 => rhs; whnf
          have f16 := e16; simp only [Array.getD_eq_getD_getElem?] at f16
          have kc := fun i => keepc hLe (bl) (by (try simp) <;> omega) i
          have kf := fun i => keepf hLe (bl) (by (try simp) <;> omega) i
          have kz : bl < w'.heap.size := (by have := hLe.size; (try simp at this); omega)
          have kc := fun i => keepc hLe (w.heap.size) (by (try simp) <;> omega) i
          have kf := fun i => keepf hLe (w.heap.size) (by (try simp) <;> omega) i
          have kz : w.heap.size < w'.heap.size := (by have := hLe.size; (try simp at this); omega)
          refine wpOp_plain rfl rfl (fun K hK => ?_)
          go_simp
          exact hK _ _ ⟨_, rfl, Below.refl _ _, rfl⟩
        apply free_is
        · intro a' w' hLe hfr hdep
          have e17 : a'.tmps.getD 17 undef = _ := hdep 6 17 (Nat.le_of_ble_eq_true rfl) rfl rfl
          conv at e17 => rhs; whnf
          have f17 := e17; simp only [Array.getD_eq_getD_getElem?] at f17
          refine wpOp_plain rfl rfl (fun K hK => ?_)
          go_simp
          exact hK _ _ ⟨_, rfl, Below.refl _ _, rfl⟩
        apply free_is
        · intro a' w' hLe hfr hdep
          have e1 := hfr 1 rfl
          conv at e1 => rhs; whnf
          have f1 := e1; simp only [Array.getD_eq_getD_getElem?] at f1
          refine wpOp_plain rfl rfl (fun K hK => ?_)
          go_simp
          exact hK _ _ ⟨_, rfl, Below.refl _ _, rfl⟩
        apply free_is
        · intro a' w' hLe hfr hdep
          have e19 : a'.tmps.getD 19 undef = _ := hdep 8 19 (Nat.le_of_ble_eq_true rfl) rfl rfl
          conv at e19 => rhs; whnf
          have f19 := e19; simp only [Array.getD_eq_getD_getElem?] at f19
          have kc := fun i => keepc hLe (bl) (by (try simp) <;> omega) i
          have kf := fun i => keepf hLe (bl) (by (try simp) <;> omega) i
          have kz : bl < w'.heap.size := (by have := hLe.size; (try simp at this); omega)
          have kc := fun i => keepc hLe (w.heap.size) (by (try simp) <;> omega) i
          have kf := fun i => keepf hLe (w.heap.size) (by (try simp) <;> omega) i
          have kz : w.heap.size < w'.heap.size := (by have := hLe.size; (try simp at this); omega)
          refine wpOp_plain rfl rfl (fun K hK => ?_)
          go_simp
          exact hK _ _ ⟨_, rfl, Below.refl _ _, rfl⟩
        apply free_is
        · intro a' w' hLe hfr hdep
          have e1 := hfr 1 rfl
          conv at e1 => rhs; whnf
          have f1 := e1; simp only [Array.getD_eq_getD_getElem?] at f1
          refine wpOp_plain rfl rfl (fun K hK => ?_)
          go_simp
          exact hK _ _ ⟨_, rfl, Below.refl _ _, rfl⟩
        apply free_is
        · intro a' w' hLe hfr hdep
          have e21 : a'.tmps.getD 21 undef = _ := hdep 10 21 (Nat.le_of_ble_eq_true rfl) rfl rfl
          conv at e21 => rhs; whnf
          have f21 := e21; simp only [Array.getD_eq_getD_getElem?] at f21
          have kc := fun i => keepc hLe (bl) (by (try simp) <;> omega) i
          have kf := fun i => keepf hLe (bl) (by (try simp) <;> omega) i
          have kz : bl < w'.heap.size := (by have := hLe.size; (try simp at this); omega)
          have kc := fun i => keepc hLe (w.heap.size) (by (try simp) <;> omega) i
          have kf := fun i => keepf hLe (w.heap.size) (by (try simp) <;> omega) i
          have kz : w.heap.size < w'.heap.size := (by have := hLe.size; (try simp at this); omega)
          refine wpOp_plain rfl rfl (fun K hK => ?_)
          go_simp
          exact hK _ _ ⟨_, rfl, Below.refl _ _, rfl⟩
        apply free_is
        · intro a' w' hLe hfr hdep
          have e20 : a'.tmps.getD 20 undef = _ := hdep 9 20 (Nat.le_of_ble_eq_true rfl) rfl rfl
          conv at e20 => rhs; whnf
          have f20 := e20; simp only [Array.getD_eq_getD_getElem?] at f20
          have e22 : a'.tmps.getD 22 undef = _ := hdep 11 22 (Nat.le_of_ble_eq_true rfl) rfl rfl
          conv at e22 => rhs; whnf
          have f22 := e22; simp only [Array.getD_eq_getD_getElem?] at f22
          refine wpOp_plain rfl rfl (fun K hK => ?_)
          go_simp
          exact hK _ _ ⟨_, rfl, Below.refl _ _, rfl⟩
        apply free_is
        · intro a' w' hLe hfr hdep
          have e23 : a'.tmps.getD 23 undef = _ := hdep 12 23 (Nat.le_of_ble_eq_true rfl) rfl rfl
          conv at e23 => rhs; whnf
          have f23 := e23; simp only [Array.getD_eq_getD_getElem?] at f23
          refine wpOp_plain rfl rfl (fun K hK => ?_)
          go_simp
          exact hK _ _ ⟨_, rfl, Below.refl _ _, rfl⟩
        apply free_is
        · intro a' w' hLe hfr hdep
          have e15 : a'.tmps.getD 15 undef = _ := hdep 4 15 (Nat.le_of_ble_eq_true rfl) rfl rfl
          conv at e15 => rhs; whnf
          have f15 := e15; simp only [Array.getD_eq_getD_getElem?] at f15
          have e18 : a'.tmps.getD 18 undef = _ := hdep 7 18 (Nat.le_of_ble_eq_true rfl) rfl rfl
          conv at e18 => rhs; whnf
          have f18 := e18; simp only [Array.getD_eq_getD_getElem?] at f18
          have e24 : a'.tmps.getD 24 undef = _ := hdep 13 24 (Nat.le_of_ble_eq_true rfl) rfl rfl
          conv at e24 => rhs; whnf
          have f24 := e24; simp only [Array.getD_eq_getD_getElem?] at f24
          have kc := fun i => keepc hLe (bl) (by (try simp) <;> omega) i
          have kf := fun i => keepf hLe (bl) (by (try simp) <;> omega) i
          have kz : bl < w'.heap.size := (by have := hLe.size; (try simp at this); omega)
          have kc := fun i => keepc hLe (w.heap.size) (by (try simp) <;> omega) i
          have kf := fun i => keepf hLe (w.heap.size) (by (try simp) <;> omega) i
          have kz : w.heap.size < w'.heap.size := (by have := hLe.size; (try simp at this); omega)
          refine wpOp_plain rfl rfl (fun K hK => ?_)
          go_simp
          refine (l1In_any _ _ _ _).mono ?_
          rintro e w2 ⟨rfl, rfl⟩
          exact hK _ _ ⟨_, rfl, Below.refl _ _, rfl⟩
        apply free_is
        · intro a' w' hLe hfr hdep
          have e25 : a'.tmps.getD 25 undef = _ := hdep 14 25 (Nat.le_of_ble_eq_true rfl) rfl rfl
          conv at e25 => rhs; whnf
          have f25 := e25; simp only [Array.getD_eq_getD_getElem?] at f25
          refine wpOp_plain rfl rfl (fun K hK => ?_)
          go_simp
          exact hK _ _ ⟨_, rfl, Below.refl _ _, rfl⟩
        apply free_is
        · intro a' w' hLe hfr hdep
          have e26 : a'.tmps.getD 26 undef = _ := hdep 15 26 (Nat.le_of_ble_eq_true rfl) rfl rfl
          conv at e26 => rhs; whnf
          have f26 := e26; simp only [Array.getD_eq_getD_getElem?] at f26
          refine wpOp_plain rfl rfl (fun K hK => ?_)
          go_simp
          exact hK _ _ ⟨_, rfl, Below.refl _ _, rfl⟩
        apply free_is
        · intro a' w' hLe hfr hdep
          have e27 : a'.tmps.getD 27 undef = _ := hdep 16 27 (Nat.le_of_ble_eq_true rfl) rfl rfl
          conv at e27 => rhs; whnf
          have f27 := e27; simp only [Array.getD_eq_getD_getElem?] at f27
          exact wpOp_no rfl rfl rfl e27 ⟨_, rfl, Below.refl _ _, rfl⟩
        apply free_is
        · intro a' w' hLe hfr hdep
          have e27 : a'.tmps.getD 27 undef = _ := hdep 16 27 (Nat.le_of_ble_eq_true rfl) rfl rfl
          conv at e27 => rhs; whnf
          have f27 := e27; simp only [Array.getD_eq_getD_getElem?] at f27
          exact wpOp_no rfl rfl rfl e27 ⟨_, rfl, Below.refl _ _, rfl⟩
        apply free_is
        · intro a' w' hLe hfr hdep
          have e27 : a'.tmps.getD 27 undef = _ := hdep 16 27 (Nat.le_of_ble_eq_true rfl) rfl rfl
          conv at e27 => rhs; whnf
          have f27 := e27; simp only [Array.getD_eq_getD_getElem?] at f27
          exact wpOp_no rfl rfl rfl e27 ⟨_, rfl, Below.refl _ _, rfl⟩
        apply free_is
        · intro a' w' hLe hfr hdep
          have e30 : a'.tmps.getD 30 undef = _ := hdep 19 30 (Nat.le_of_ble_eq_true rfl) rfl rfl
          conv at e30 => rhs; whnf
          have f30 := e30; simp only [Array.getD_eq_getD_getElem?] at f30
          exact wpOp_un rfl rfl rfl e30 ⟨_, rfl, Below.refl _ _, rfl⟩
        apply free_is
        · intro a' w' hLe hfr hdep
          have e30 : a'.tmps.getD 30 undef = _ := hdep 19 30 (Nat.le_of_ble_eq_true rfl) rfl rfl
          conv at e30 => rhs; whnf
          have f30 := e30; simp only [Array.getD_eq_getD_getElem?] at f30
          exact wpOp_un rfl rfl rfl e30 ⟨_, rfl, Below.refl _ _, rfl⟩
        apply free_is
        · intro a' w' hLe hfr hdep
          have e30 : a'.tmps.getD 30 undef = _ := hdep 19 30 (Nat.le_of_ble_eq_true rfl) rfl rfl
          conv at e30 => rhs; whnf
          have f30 := e30; simp only [Array.getD_eq_getD_getElem?] at f30
          exact wpOp_un rfl rfl rfl e30 ⟨_, rfl, Below.refl _ _, rfl⟩
        apply free_is
        · intro a' w' hLe hfr hdep
          have e30 : a'.tmps.getD 30 undef = _ := hdep 19 30 (Nat.le_of_ble_eq_true rfl) rfl rfl
          conv at e30 => rhs; whnf
          have f30 := e30; simp only [Array.getD_eq_getD_getElem?] at f30
          exact wpOp_un rfl rfl rfl e30 ⟨_, rfl, Below.refl _ _, rfl⟩
        apply free_is
        · intro a' w' hLe hfr hdep
          have e30 : a'.tmps.getD 30 undef = _ := hdep 19 30 (Nat.le_of_ble_eq_true rfl) rfl rfl
          conv at e30 => rhs; whnf
          have f30 := e30; simp only [Array.getD_eq_getD_getElem?] at f30
          exact wpOp_un rfl rfl rfl e30 ⟨_, rfl, Below.refl _ _, rfl⟩
        apply free_is
        · intro a' w' hLe hfr hdep
          have e30 : a'.tmps.getD 30 undef = _ := hdep 19 30 (Nat.le_of_ble_eq_true rfl) rfl rfl
          conv at e30 => rhs; whnf
          have f30 := e30; simp only [Array.getD_eq_getD_getElem?] at f30
          exact wpOp_un rfl rfl rfl e30 ⟨_, rfl, Below.refl _ _, rfl⟩
        apply free_is
        · intro a' w' hLe hfr hdep
          have e30 : a'.tmps.getD 30 undef = _ := hdep 19 30 (Nat.le_of_ble_eq_true rfl) rfl rfl
          conv at e30 => rhs; whnf
          have f30 := e30; simp only [Array.getD_eq_getD_getElem?] at f30
          exact wpOp_un rfl rfl rfl e30 ⟨_, rfl, Below.refl _ _, rfl⟩
        apply free_is
        · intro a' w' hLe hfr hdep
          have e30 : a'.tmps.getD 30 undef = _ := hdep 19 30 (Nat.le_of_ble_eq_true rfl) rfl rfl
          conv at e30 => rhs; whnf
          have f30 := e30; simp only [Array.getD_eq_getD_getElem?] at f30
          exact wpOp_un rfl rfl rfl e30 ⟨_, rfl, Below.refl _ _, rfl⟩
        apply free_is
        · intro a' w' hLe hfr hdep
          have e30 : a'.tmps.getD 30 undef = _ := hdep 19 30 (Nat.le_of_ble_eq_true rfl) rfl rfl
          conv at e30 => rhs; whnf
          have f30 := e30; simp only [Array.getD_eq_getD_getElem?] at f30
          exact wpOp_un rfl rfl rfl e30 ⟨_, rfl, Below.refl _ _, rfl⟩
        apply free_is
        · intro a' w' hLe hfr hdep
          have e30 : a'.tmps.getD 30 undef = _ := hdep 19 30 (Nat.le_of_ble_eq_true rfl) rfl rfl
          conv at e30 => rhs; whnf
          have f30 := e30; simp only [Array.getD_eq_getD_getElem?] at f30
          exact wpOp_un rfl rfl rfl e30 ⟨_, rfl, Below.refl _ _, rfl⟩
        apply free_is
        · intro a' w' hLe hfr hdep
          have e30 : a'.tmps.getD 30 undef = _ := hdep 19 30 (Nat.le_of_ble_eq_true rfl) rfl rfl
          conv at e30 => rhs; whnf
          have f30 := e30; simp only [Array.getD_eq_getD_getElem?] at f30
          exact wpOp_un rfl rfl rfl e30 ⟨_, rfl, Below.refl _ _, rfl⟩
        apply free_is
        · intro a' w' hLe hfr hdep
          have e30 : a'.tmps.getD 30 undef = _ := hdep 19 30 (Nat.le_of_ble_eq_true rfl) rfl rfl
          conv at e30 => rhs; whnf
          have f30 := e30; simp only [Array.getD_eq_getD_getElem?] at f30
          exact wpOp_un rfl rfl rfl e30 ⟨_, rfl, Below.refl _ _, rfl⟩
        apply free_is
        · intro a' w' hLe hfr hdep
          have e27 : a'.tmps.getD 27 undef = _ := hdep 16 27 (Nat.le_of_ble_eq_true rfl) rfl rfl
          conv at e27 => rhs; whnf
          have f27 := e27; simp only [Array.getD_eq_getD_getElem?] at f27
          exact wpOp_no rfl rfl rfl e27 ⟨_, rfl, Below.refl _ _, rfl⟩
        apply free_is
        · intro a' w' hLe hfr hdep
          have e27 : a'.tmps.getD 27 undef = _ := hdep 16 27 (Nat.le_of_ble_eq_true rfl) rfl rfl
          conv at e27 => rhs; whnf
          have f27 := e27; simp only [Array.getD_eq_getD_getElem?] at f27
          have e43 : a'.tmps.getD 43 undef = _ := hdep 32 43 (Nat.le_of_ble_eq_true rfl) rfl rfl
          conv at e43 => rhs; whnf
          have f43 := e43; simp only [Array.getD_eq_getD_getElem?] at f43
          refine wpOp_plain rfl rfl (fun K hK => ?_)
          go_simp
          exact hK _ _ ⟨_, rfl, Below.refl _ _, rfl⟩
        apply free_nil
        intro vs w4 hb4 hT4
        have e11 : vs 0 = _ := hT4 0 11 rfl
        conv at e11 => rhs; whnf
        have e12 : vs 1 = _ := hT4 1 12 rfl
        conv at e12 => rhs; whnf
        have e13 : vs 2 = _ := hT4 2 13 rfl
        conv at e13 => rhs; whnf
        have e14 : vs 3 = _ := hT4 3 14 rfl
        conv at e14 => rhs; whnf
        have e15 : vs 4 = _ := hT4 4 15 rfl
        conv at e15 => rhs; whnf
        have e16 : vs 5 = _ := hT4 5 16 rfl
        conv at e16 => rhs; whnf
        have e17 : vs 6 = _ := hT4 6 17 rfl
        conv at e17 => rhs; whnf
        have e18 : vs 7 = _ := hT4 7 18 rfl
        conv at e18 => rhs; whnf
        have e19 : vs 8 = _ := hT4 8 19 rfl
        conv at e19 => rhs; whnf
        have e20 : vs 9 = _ := hT4 9 20 rfl
        conv at e20 => rhs; whnf
        have e21 : vs 10 = _ := hT4 10 21 rfl
        conv at e21 => rhs; whnf
        have e22 : vs 11 = _ := hT4 11 22 rfl
        conv at e22 => rhs; whnf
        have e23 : vs 12 = _ := hT4 12 23 rfl
        conv at e23 => rhs; whnf
        have e24 : vs 13 = _ := hT4 13 24 rfl
        conv at e24 => rhs; whnf
        have e25 : vs 14 = _ := hT4 14 25 rfl
        conv at e25 => rhs; whnf
        have e26 : vs 15 = _ := hT4 15 26 rfl
        conv at e26 => rhs; whnf
        have e27 : vs 16 = _ := hT4 16 27 rfl
        conv at e27 => rhs; whnf
        have e28 : vs 17 = _ := hT4 17 28 rfl
        conv at e28 => rhs; whnf
        have e29 : vs 18 = _ := hT4 18 29 rfl
        conv at e29 => rhs; whnf
        have e30 : vs 19 = _ := hT4 19 30 rfl
        conv at e30 => rhs; whnf
        have e31 : vs 20 = _ := hT4 20 31 rfl
        conv at e31 => rhs; whnf
        have e32 : vs 21 = _ := hT4 21 32 rfl
        conv at e32 => rhs; whnf
        have e33 : vs 22 = _ := hT4 22 33 rfl
        conv at e33 => rhs; whnf
        have e34 : vs 23 = _ := hT4 23 34 rfl
        conv at e34 => rhs; whnf
        have e35 : vs 24 = _ := hT4 24 35 rfl
        conv at e35 => rhs; whnf
        have e36 : vs 25 = _ := hT4 25 36 rfl
        conv at e36 => rhs; whnf
        have e37 : vs 26 = _ := hT4 26 37 rfl
        conv at e37 => rhs; whnf
        have e38 : vs 27 = _ := hT4 27 38 rfl
        conv at e38 => rhs; whnf
        have e39 : vs 28 = _ := hT4 28 39 rfl
        conv at e39 => rhs; whnf
        have e40 : vs 29 = _ := hT4 29 40 rfl
        conv at e40 => rhs; whnf
        have e41 : vs 30 = _ := hT4 30 41 rfl
        conv at e41 => rhs; whnf
        have e42 : vs 31 = _ := hT4 31 42 rfl
        conv at e42 => rhs; whnf
        have e43 : vs 32 = _ := hT4 32 43 rfl
        conv at e43 => rhs; whnf
        have e44 : vs 33 = _ := hT4 33 44 rfl
        conv at e44 => rhs; whnf
        simp only [putAll, List.drop_succ_cons, List.drop_zero, e11, e12, e13, e14, e15, e16, e17, e18, e19, e20, e21, e22, e23, e24, e25, e26, e27, e28, e29, e30, e31, e32, e33, e34, e35, e36, e37, e38, e39, e40, e41, e42, e43, e44]
        clear hT4 e11 e12 e13 e14 e15 e16 e17 e18 e19 e20 e21 e22 e23 e24 e25 e26 e27 e28 e29 e30 e31 e32 e33 e34 e35 e36 e37 e38 e39 e40 e41 e42 e43 e44
        go_simp
        go_wp2
        go_ret
        exact ⟨by rw [he.out] <;> rfl, by (repeat (first | exact Below.refl _ _ | assumption | refine Below.al ?_ _ | refine Below.dr ?_ | (refine Below.st ?_ (by simp <;> omega) _) | (refine Below.tr ?_ (by assumption))))⟩
      | true =>
        obtain ⟨s1, s2⟩ := inB_true.1 h3
        rcases Nat.eq_zero_or_pos j with rfl | hpos
        · have ho : rcOk nx rm h 0 = true := by
            have h5 : nx < h 0 := by omega
            have h6 : h 0 < nx + rm := by omega
            simp [rcOk, h5, h6]
          have HO := Lib.hid (upto hok ho)
          clear hok ho hc hrow hr
          simp only [Nat.add_zero] at q0
          go_wp2
          refine wp_region_free (ds := [(0, 11), (1, 12), (2, 13), (3, 14), (4, 15), (5, 16), (6, 17), (7, 18), (8, 19), (9, 20), (10, 21), (11, 22), (12, 23), (13, 24), (14, 25), (15, 26), (16, 27), (17, 28), (18, 29), (19, 30), (20, 31), (21, 32), (22, 33), (23, 34), (24, 35), (25, 36), (26, 37), (27, 38), (28, 39), (29, 40), (30, 41), (31, 42), (32, 43), (33, 44)]) 34 (by kernel_rfl) (by kernel_rfl) (by first | exact .inl rfl | exact .inr (by kernel_rfl)) (by rfl) rfl rfl ?_
          apply free_is
          · intro a' w' hLe hfr hdep
            have e1 := hfr 1 rfl
            conv at e1 => rhs; whnf
            have f1 := e1; simp only [Array.getD_eq_getD_getElem?] at f1
            refine wpOp_plain rfl rfl (fun K hK => ?_)
            go_simp
            exact hK _ _ ⟨_, rfl, Below.refl _ _, rfl⟩
          apply free_is
          · intro a' w' hLe hfr hdep
            have e11 : a'.tmps.getD 11 undef = _ := hdep 0 11 (Nat.le_of_ble_eq_true rfl) rfl rfl
            conv at e11 => rhs; whnf
            have f11 := e11; simp only [Array.getD_eq_getD_getElem?] at f11
            have kc := fun i => keepc hLe (bl) (by (try simp) <;> omega) i
            have kf := fun i => keepf hLe (bl) (by (try simp) <;> omega) i
            have kz : bl < w'.heap.size := (by have := hLe.size; (try simp at this); omega)
            have kc := fun i => keepc hLe (w.heap.size) (by (try simp) <;> omega) i
            have kf := fun i => keepf hLe (w.heap.size) (by (try simp) <;> omega) i
            have kz : w.heap.size < w'.heap.size := (by have := hLe.size; (try simp at this); omega)
            refine wpOp_plain rfl rfl (fun K hK => ?_)
            go_simp
            exact hK _ _ ⟨_, rfl, Below.refl _ _, rfl⟩
          apply free_is
          · intro a' w' hLe hfr hdep
            have e3 := hfr 3 rfl
            conv at e3 => rhs; whnf
            have f3 := e3; simp only [Array.getD_eq_getD_getElem?] at f3
            refine wpOp_plain rfl rfl (fun K hK => ?_)
            go_simp
            exact hK _ _ ⟨_, rfl, Below.refl _ _, rfl⟩
          apply free_is
          · intro a' w' hLe hfr hdep
            have e12 : a'.tmps.getD 12 undef = _ := hdep 1 12 (Nat.le_of_ble_eq_true rfl) rfl rfl
            conv at e12 => rhs; whnf
            have f12 := e12; simp only [Array.getD_eq_getD_getElem?] at f12
            have e13 : a'.tmps.getD 13 undef = _ := hdep 2 13 (Nat.le_of_ble_eq_true rfl) rfl rfl
            conv at e13 => rhs; whnf
            have f13 := e13; simp only [Array.getD_eq_getD_getElem?] at f13
            refine wpOp_plain rfl rfl (fun K hK => ?_)
            go_simp
            exact hK _ _ ⟨_, rfl, Below.refl _ _, rfl⟩
          apply free_is
          · intro a' w' hLe hfr hdep
            have e14 : a'.tmps.getD 14 undef = _ := hdep 3 14 (Nat.le_of_ble_eq_true rfl) rfl rfl
            conv at e14 => rhs; whnf
            have f14 := e14; simp only [Array.getD_eq_getD_getElem?] at f14
            have kc := fun i => keepc hLe (bl) (by (try simp) <;> omega) i
            have kf := fun i => keepf hLe (bl) (by (try simp) <;> omega) i
            have kz : bl < w'.heap.size := (by have := hLe.size; (try simp at this); omega)
            have kc := fun i => keepc hLe (w.heap.size) (by (try simp) <;> omega) i
            have kf := fun i => keepf hLe (w.heap.size) (by (try simp) <;> omega) i
            have kz : w.heap.size < w'.heap.size := (by have := hLe.size; (try simp at this); omega)
            refine wpOp_plain rfl rfl (fun K hK => ?_)
            go_simp
            exact hK _ _ ⟨_, rfl, Below.refl _ _, rfl⟩
          apply free_is
          · intro a' w' hLe hfr hdep
            have e1 := hfr 1 rfl
            conv at e1 => rhs; whnf
            have f1 := e1; simp only [Array.getD_eq_getD_getElem?] at f1
            refine wpOp_plain rfl rfl (fun K hK => ?_)
            go_simp
            exact hK _ _ ⟨_, rfl, Below.refl _ _, rfl⟩
          apply free_is
          · intro a' w' hLe hfr hdep
            have e16 : a'.tmps.getD 16 undef = _ := hdep 5 16 (Nat.le_of_ble_eq_true rfl) rfl rfl
            conv at e16 => rhs; whnf
            have f16 := e16; simp only [Array.getD_eq_getD_getElem?] at f16
            have kc := fun i => keepc hLe (bl) (by (try simp) <;> omega) i
            have kf := fun i => keepf hLe (bl) (by (try simp) <;> omega) i
            have kz : bl < w'.heap.size := (by have := hLe.size; (try simp at this); omega)
            have kc := fun i => keepc hLe (w.heap.size) (by (try simp) <;> omega) i
            have kf := fun i => keepf hLe (w.heap.size) (by (try simp) <;> omega) i
            have kz : w.heap.size < w'.heap.size := (by have := hLe.size; (try simp at this); omega)
            refine wpOp_plain rfl rfl (fun K hK => ?_)
            go_simp
            exact hK _ _ ⟨_, rfl, Below.refl _ _, rfl⟩
          apply free_is
          · intro a' w' hLe hfr hdep
            have e17 : a'.tmps.getD 17 undef = _ := hdep 6 17 (Nat.le_of_ble_eq_true rfl) rfl rfl
            conv at e17 => rhs; whnf
            have f17 := e17; simp only [Array.getD_eq_getD_getElem?] at f17
            refine wpOp_plain rfl rfl (fun K hK => ?_)
            go_simp
            exact hK _ _ ⟨_, rfl, Below.refl _ _, rfl⟩
          apply free_is
          · intro a' w' hLe hfr hdep
            have e1 := hfr 1 rfl
            conv at e1 => rhs; whnf
            have f1 := e1; simp only [Array.getD_eq_getD_getElem?] at f1
            refine wpOp_plain rfl rfl (fun K hK => ?_)
            go_simp
            exact hK _ _ ⟨_, rfl, Below.refl _ _, rfl⟩
          apply free_is
          · intro a' w' hLe hfr hdep
            have e19 : a'.tmps.getD 19 undef = _ := hdep 8 19 (Nat.le_of_ble_eq_true rfl) rfl rfl
            conv at e19 => rhs; whnf
            have f19 := e19; simp only [Array.getD_eq_getD_getElem?] at f19
            have kc := fun i => keepc hLe (bl) (by (try simp) <;> omega) i
            have kf := fun i => keepf hLe (bl) (by (try simp) <;> omega) i
            have kz : bl < w'.heap.size := (by have := hLe.size; (try simp at this); omega)
            have kc := fun i => keepc hLe (w.heap.size) (by (try simp) <;> omega) i
            have kf := fun i => keepf hLe (w.heap.size) (by (try simp) <;> omega) i
            have kz : w.heap.size < w'.heap.size := (by have := hLe.size; (try simp at this); omega)
            refine wpOp_plain rfl rfl (fun K hK => ?_)
            go_simp
            exact hK _ _ ⟨_, rfl, Below.refl _ _, rfl⟩
          apply free_is
          · intro a' w' hLe hfr hdep
            have e1 := hfr 1 rfl
            conv at e1 => rhs; whnf
            have f1 := e1; simp only [Array.getD_eq_getD_getElem?] at f1
            refine wpOp_plain rfl rfl (fun K hK => ?_)
            go_simp
            exact hK _ _ ⟨_, rfl, Below.refl _ _, rfl⟩
          apply free_is
          · intro a' w' hLe hfr hdep
            have e21 : a'.tmps.getD 21 undef = _ := hdep 10 21 (Nat.le_of_ble_eq_true rfl) rfl rfl
            conv at e21 => rhs; whnf
            have f21 := e21; simp only [Array.getD_eq_getD_getElem?] at f21
            have kc := fun i => keepc hLe (bl) (by (try simp) <;> omega) i
            have kf := fun i => keepf hLe (bl) (by (try simp) <;> omega) i
            have kz : bl < w'.heap.size := (by have := hLe.size; (try simp at this); omega)
            have kc := fun i => keepc hLe (w.heap.size) (by (try simp) <;> omega) i
            have kf := fun i => keepf hLe (w.heap.size) (by (try simp) <;> omega) i
            have kz : w.heap.size < w'.heap.size := (by have := hLe.size; (try simp at this); omega)
            refine wpOp_plain rfl rfl (fun K hK => ?_)
            go_simp
            exact hK _ _ ⟨_, rfl, Below.refl _ _, rfl⟩
          apply free_is
          · intro a' w' hLe hfr hdep
            have e20 : a'.tmps.getD 20 undef = _ := hdep 9 20 (Nat.le_of_ble_eq_true rfl) rfl rfl
            conv at e20 => rhs; whnf
            have f20 := e20; simp only [Array.getD_eq_getD_getElem?] at f20
            have e22 : a'.tmps.getD 22 undef = _ := hdep 11 22 (Nat.le_of_ble_eq_true rfl) rfl rfl
            conv at e22 => rhs; whnf
            have f22 := e22; simp only [Array.getD_eq_getD_getElem?] at f22
            refine wpOp_plain rfl rfl (fun K hK => ?_)
            go_simp
            exact hK _ _ ⟨_, rfl, Below.refl _ _, rfl⟩
          apply free_is
          · intro a' w' hLe hfr hdep
            have e23 : a'.tmps.getD 23 undef = _ := hdep 12 23 (Nat.le_of_ble_eq_true rfl) rfl rfl
            conv at e23 => rhs; whnf
            have f23 := e23; simp only [Array.getD_eq_getD_getElem?] at f23
            refine wpOp_plain rfl rfl (fun K hK => ?_)
            go_simp
            exact hK _ _ ⟨_, rfl, Below.refl _ _, rfl⟩
          apply free_is
          · intro a' w' hLe hfr hdep
            have e15 : a'.tmps.getD 15 undef = _ := hdep 4 15 (Nat.le_of_ble_eq_true rfl) rfl rfl
            conv at e15 => rhs; whnf
            have f15 := e15; simp only [Array.getD_eq_getD_getElem?] at f15
            have e18 : a'.tmps.getD 18 undef = _ := hdep 7 18 (Nat.le_of_ble_eq_true rfl) rfl rfl
            conv at e18 => rhs; whnf
            have f18 := e18; simp only [Array.getD_eq_getD_getElem?] at f18
            have e24 : a'.tmps.getD 24 undef = _ := hdep 13 24 (Nat.le_of_ble_eq_true rfl) rfl rfl
            conv at e24 => rhs; whnf
            have f24 := e24; simp only [Array.getD_eq_getD_getElem?] at f24
            have kc := fun i => keepc hLe (bl) (by (try simp) <;> omega) i
            have kf := fun i => keepf hLe (bl) (by (try simp) <;> omega) i
            have kz : bl < w'.heap.size := (by have := hLe.size; (try simp at this); omega)
            have kc := fun i => keepc hLe (w.heap.size) (by (try simp) <;> omega) i
            have kf := fun i => keepf hLe (w.heap.size) (by (try simp) <;> omega) i
            have kz : w.heap.size < w'.heap.size := (by have := hLe.size; (try simp at this); omega)
            refine wpOp_plain rfl rfl (fun K hK => ?_)
            go_simp
            refine (l1In_any _ _ _ _).mono ?_
            rintro e w2 ⟨rfl, rfl⟩
            exact hK _ _ ⟨_, rfl, Below.refl _ _, rfl⟩
          apply free_is
          · intro a' w' hLe hfr hdep
            have e25 : a'.tmps.getD 25 undef = _ := hdep 14 25 (Nat.le_of_ble_eq_true rfl) rfl rfl
            conv at e25 => rhs; whnf
            have f25 := e25; simp only [Array.getD_eq_getD_getElem?] at f25
            refine wpOp_plain rfl rfl (fun K hK => ?_)
            go_simp
            exact hK _ _ ⟨_, rfl, Below.refl _ _, rfl⟩
          apply free_is
          · intro a' w' hLe hfr hdep
            have e26 : a'.tmps.getD 26 undef = _ := hdep 15 26 (Nat.le_of_ble_eq_true rfl) rfl rfl
            conv at e26 => rhs; whnf
            have f26 := e26; simp only [Array.getD_eq_getD_getElem?] at f26
            refine wpOp_plain rfl rfl (fun K hK => ?_)
            go_simp
            exact hK _ _ ⟨_, rfl, Below.refl _ _, rfl⟩
          apply free_is
          · intro a' w' hLe hfr hdep
            have e27 : a'.tmps.getD 27 undef = _ := hdep 16 27 (Nat.le_of_ble_eq_true rfl) rfl rfl
            conv at e27 => rhs; whnf
            have f27 := e27; simp only [Array.getD_eq_getD_getElem?] at f27
            have e3 := hfr 3 rfl
            conv at e3 => rhs; whnf
            have f3 := e3; simp only [Array.getD_eq_getD_getElem?] at f3
            refine wpOp_yes rfl rfl rfl e27 (fun K hK => ?_)
            go_simp
            exact hK _ _ ⟨_, rfl, Below.refl _ _, rfl⟩
          apply free_is
          · intro a' w' hLe hfr hdep
            have e27 : a'.tmps.getD 27 undef = _ := hdep 16 27 (Nat.le_of_ble_eq_true rfl) rfl rfl
            conv at e27 => rhs; whnf
            have f27 := e27; simp only [Array.getD_eq_getD_getElem?] at f27
            have e28 : a'.tmps.getD 28 undef = _ := hdep 17 28 (Nat.le_of_ble_eq_true rfl) rfl rfl
            conv at e28 => rhs; whnf
            have f28 := e28; simp only [Array.getD_eq_getD_getElem?] at f28
            refine wpOp_yes rfl rfl rfl e27 (fun K hK => ?_)
            go_simp
            exact hK _ _ ⟨_, rfl, Below.refl _ _, rfl⟩
          apply free_is
          · intro a' w' hLe hfr hdep
            have e27 : a'.tmps.getD 27 undef = _ := hdep 16 27 (Nat.le_of_ble_eq_true rfl) rfl rfl
            conv at e27 => rhs; whnf
            have f27 := e27; simp only [Array.getD_eq_getD_getElem?] at f27
            have e29 : a'.tmps.getD 29 undef = _ := hdep 18 29 (Nat.le_of_ble_eq_true rfl) rfl rfl
            conv at e29 => rhs; whnf
            have f29 := e29; simp only [Array.getD_eq_getD_getElem?] at f29
            refine wpOp_yes rfl rfl rfl e27 (fun K hK => ?_)
            go_simp
            exact hK _ _ ⟨_, rfl, Below.refl _ _, rfl⟩
          apply free_is
          · intro a' w' hLe hfr hdep
            have e30 : a'.tmps.getD 30 undef = _ := hdep 19 30 (Nat.le_of_ble_eq_true rfl) rfl rfl
            conv at e30 => rhs; whnf
            have f30 := e30; simp only [Array.getD_eq_getD_getElem?] at f30
            exact wpOp_no rfl rfl rfl e30 ⟨_, rfl, Below.refl _ _, rfl⟩
          apply free_is
          · intro a' w' hLe hfr hdep
            have e30 : a'.tmps.getD 30 undef = _ := hdep 19 30 (Nat.le_of_ble_eq_true rfl) rfl rfl
            conv at e30 => rhs; whnf
            have f30 := e30; simp only [Array.getD_eq_getD_getElem?] at f30
            exact wpOp_no rfl rfl rfl e30 ⟨_, rfl, Below.refl _ _, rfl⟩
          apply free_is
          · intro a' w' hLe hfr hdep
            have e30 : a'.tmps.getD 30 undef = _ := hdep 19 30 (Nat.le_of_ble_eq_true rfl) rfl rfl
            conv at e30 => rhs; whnf
            have f30 := e30; simp only [Array.getD_eq_getD_getElem?] at f30
            exact wpOp_no rfl rfl rfl e30 ⟨_, rfl, Below.refl _ _, rfl⟩
          apply free_is
          · intro a' w' hLe hfr hdep
            have e30 : a'.tmps.getD 30 undef = _ := hdep 19 30 (Nat.le_of_ble_eq_true rfl) rfl rfl
            conv at e30 => rhs; whnf
            have f30 := e30; simp only [Array.getD_eq_getD_getElem?] at f30
            exact wpOp_no rfl rfl rfl e30 ⟨_, rfl, Below.refl _ _, rfl⟩
          apply free_is
          · intro a' w' hLe hfr hdep
            have e30 : a'.tmps.getD 30 undef = _ := hdep 19 30 (Nat.le_of_ble_eq_true rfl) rfl rfl
            conv at e30 => rhs; whnf
            have f30 := e30; simp only [Array.getD_eq_getD_getElem?] at f30
            exact wpOp_no rfl rfl rfl e30 ⟨_, rfl, Below.refl _ _, rfl⟩
          apply free_is
          · intro a' w' hLe hfr hdep
            have e30 : a'.tmps.getD 30 undef = _ := hdep 19 30 (Nat.le_of_ble_eq_true rfl) rfl rfl
            conv at e30 => rhs; whnf
            have f30 := e30; simp only [Array.getD_eq_getD_getElem?] at f30
            exact wpOp_no rfl rfl rfl e30 ⟨_, rfl, Below.refl _ _, rfl⟩
          apply free_is
          · intro a' w' hLe hfr hdep
            have e30 : a'.tmps.getD 30 undef = _ := hdep 19 30 (Nat.le_of_ble_eq_true rfl) rfl rfl
            conv at e30 => rhs; whnf
            have f30 := e30; simp only [Array.getD_eq_getD_getElem?] at f30
            exact wpOp_no rfl rfl rfl e30 ⟨_, rfl, Below.refl _ _, rfl⟩
          apply free_is
          · intro a' w' hLe hfr hdep
            have e30 : a'.tmps.getD 30 undef = _ := hdep 19 30 (Nat.le_of_ble_eq_true rfl) rfl rfl
            conv at e30 => rhs; whnf
            have f30 := e30; simp only [Array.getD_eq_getD_getElem?] at f30
            exact wpOp_no rfl rfl rfl e30 ⟨_, rfl, Below.refl _ _, rfl⟩
          apply free_is
          · intro a' w' hLe hfr hdep
            have e30 : a'.tmps.getD 30 undef = _ := hdep 19 30 (Nat.le_of_ble_eq_true rfl) rfl rfl
            conv at e30 => rhs; whnf
            have f30 := e30; simp only [Array.getD_eq_getD_getElem?] at f30
            exact wpOp_no rfl rfl rfl e30 ⟨_, rfl, Below.refl _ _, rfl⟩
          apply free_is
          · intro a' w' hLe hfr hdep
            have e30 : a'.tmps.getD 30 undef = _ := hdep 19 30 (Nat.le_of_ble_eq_true rfl) rfl rfl
            conv at e30 => rhs; whnf
            have f30 := e30; simp only [Array.getD_eq_getD_getElem?] at f30
            exact wpOp_no rfl rfl rfl e30 ⟨_, rfl, Below.refl _ _, rfl⟩
          apply free_is
          · intro a' w' hLe hfr hdep
            have e30 : a'.tmps.getD 30 undef = _ := hdep 19 30 (Nat.le_of_ble_eq_true rfl) rfl rfl
            conv at e30 => rhs; whnf
            have f30 := e30; simp only [Array.getD_eq_getD_getElem?] at f30
            exact wpOp_no rfl rfl rfl e30 ⟨_, rfl, Below.refl _ _, rfl⟩
          apply free_is
          · intro a' w' hLe hfr hdep
            have e30 : a'.tmps.getD 30 undef = _ := hdep 19 30 (Nat.le_of_ble_eq_true rfl) rfl rfl
            conv at e30 => rhs; whnf
            have f30 := e30; simp only [Array.getD_eq_getD_getElem?] at f30
            exact wpOp_no rfl rfl rfl e30 ⟨_, rfl, Below.refl _ _, rfl⟩
          apply free_is
          · intro a' w' hLe hfr hdep
            have e27 : a'.tmps.getD 27 undef = _ := hdep 16 27 (Nat.le_of_ble_eq_true rfl) rfl rfl
            conv at e27 => rhs; whnf
            have f27 := e27; simp only [Array.getD_eq_getD_getElem?] at f27
            have e30 : a'.tmps.getD 30 undef = _ := hdep 19 30 (Nat.le_of_ble_eq_true rfl) rfl rfl
            conv at e30 => rhs; whnf
            have f30 := e30; simp only [Array.getD_eq_getD_getElem?] at f30
            have e42 : a'.tmps.getD 42 undef = _ := hdep 31 42 (Nat.le_of_ble_eq_true rfl) rfl rfl
            conv at e42 => rhs; whnf
            have f42 := e42; simp only [Array.getD_eq_getD_getElem?] at f42
            refine wpOp_yes rfl rfl rfl e27 (fun K hK => ?_)
            go_simp
            exact hK _ _ ⟨_, rfl, Below.refl _ _, rfl⟩
          apply free_is
          · intro a' w' hLe hfr hdep
            have e27 : a'.tmps.getD 27 undef = _ := hdep 16 27 (Nat.le_of_ble_eq_true rfl) rfl rfl
            conv at e27 => rhs; whnf
            have f27 := e27; simp only [Array.getD_eq_getD_getElem?] at f27
            have e43 : a'.tmps.getD 43 undef = _ := hdep 32 43 (Nat.le_of_ble_eq_true rfl) rfl rfl
            conv at e43 => rhs; whnf
            have f43 := e43; simp only [Array.getD_eq_getD_getElem?] at f43
            refine wpOp_plain rfl rfl (fun K hK => ?_)
            go_simp
            exact hK _ _ ⟨_, rfl, Below.refl _ _, rfl⟩
          apply free_nil
          intro vs w4 hb4 hT4
          have e11 : vs 0 = _ := hT4 0 11 rfl
          conv at e11 => rhs; whnf
          have e12 : vs 1 = _ := hT4 1 12 rfl
          conv at e12 => rhs; whnf
          have e13 : vs 2 = _ := hT4 2 13 rfl
          conv at e13 => rhs; whnf
          have e14 : vs 3 = _ := hT4 3 14 rfl
          conv at e14 => rhs; whnf
          have e15 : vs 4 = _ := hT4 4 15 rfl
          conv at e15 => rhs; whnf
          have e16 : vs 5 = _ := hT4 5 16 rfl
          conv at e16 => rhs; whnf
          have e17 : vs 6 = _ := hT4 6 17 rfl
          conv at e17 => rhs; whnf
          have e18 : vs 7 = _ := hT4 7 18 rfl
          conv at e18 => rhs; whnf
          have e19 : vs 8 = _ := hT4 8 19 rfl
          conv at e19 => rhs; whnf
          have e20 : vs 9 = _ := hT4 9 20 rfl
          conv at e20 => rhs; whnf
          have e21 : vs 10 = _ := hT4 10 21 rfl
          conv at e21 => rhs; whnf
          have e22 : vs 11 = _ := hT4 11 22 rfl
          conv at e22 => rhs; whnf
          have e23 : vs 12 = _ := hT4 12 23 rfl
          conv at e23 => rhs; whnf
          have e24 : vs 13 = _ := hT4 13 24 rfl
          conv at e24 => rhs; whnf
          have e25 : vs 14 = _ := hT4 14 25 rfl
          conv at e25 => rhs; whnf
          have e26 : vs 15 = _ := hT4 15 26 rfl
          conv at e26 => rhs; whnf
          have e27 : vs 16 = _ := hT4 16 27 rfl
          conv at e27 => rhs; whnf
          have e28 : vs 17 = _ := hT4 17 28 rfl
          conv at e28 => rhs; whnf
          have e29 : vs 18 = _ := hT4 18 29 rfl
          conv at e29 => rhs; whnf
          have e30 : vs 19 = _ := hT4 19 30 rfl
          conv at e30 => rhs; whnf
          have e31 : vs 20 = _ := hT4 20 31 rfl
          conv at e31 => rhs; whnf
          have e32 : vs 21 = _ := hT4 21 32 rfl
          conv at e32 => rhs; whnf
          have e33 : vs 22 = _ := hT4 22 33 rfl
          conv at e33 => rhs; whnf
          have e34 : vs 23 = _ := hT4 23 34 rfl
          conv at e34 => rhs; whnf
          have e35 : vs 24 = _ := hT4 24 35 rfl
          conv at e35 => rhs; whnf
          have e36 : vs 25 = _ := hT4 25 36 rfl
          conv at e36 => rhs; whnf
          have e37 : vs 26 = _ := hT4 26 37 rfl
          conv at e37 => rhs; whnf
          have e38 : vs 27 = _ := hT4 27 38 rfl
          conv at e38 => rhs; whnf
          have e39 : vs 28 = _ := hT4 28 39 rfl
          conv at e39 => rhs; whnf
          have e40 : vs 29 = _ := hT4 29 40 rfl
          conv at e40 => rhs; whnf
          have e41 : vs 30 = _ := hT4 30 41 rfl
          conv at e41 => rhs; whnf
          have e42 : vs 31 = _ := hT4 31 42 rfl
          conv at e42 => rhs; whnf
          have e43 : vs 32 = _ := hT4 32 43 rfl
          conv at e43 => rhs; whnf
          have e44 : vs 33 = _ := hT4 33 44 rfl
          conv at e44 => rhs; whnf
          simp only [putAll, List.drop_succ_cons, List.drop_zero, e11, e12, e13, e14, e15, e16, e17, e18, e19, e20, e21, e22, e23, e24, e25, e26, e27, e28, e29, e30, e31, e32, e33, e34, e35, e36, e37, e38, e39, e40, e41, e42, e43, e44]
          clear hT4 e11 e12 e13 e14 e15 e16 e17 e18 e19 e20 e21 e22 e23 e24 e25 e26 e27 e28 e29 e30 e31 e32 e33 e34 e35 e36 e37 e38 e39 e40 e41 e42 e43 e44
          go_simp
          go_wp2
          go_roundw
          case rel => exact ⟨1, by omega, by go_num, HO.out, by (repeat (first | exact Below.refl _ _ | assumption | refine Below.al ?_ _ | refine Below.dr ?_ | (refine Below.st ?_ (by simp <;> omega) _) | (refine Below.tr ?_ (by assumption))))⟩
          case measure => simp [intOf]; omega
        · obtain ⟨i, rfl⟩ : ∃ i, j = i + 1 := ⟨j - 1, by omega⟩
          have hr' := hc i (by omega)
          rw [Nat.mul_one] at hr'
          have p0 : wr.cell? ⟨bl, off + i, none⟩ = some (.int .i64 (h i)) := (keepc hB0 bl (by omega) _).trans (hr' 0 _ rfl)
          have e4 : IntKind.i64.wrap ((i : Int) + 1 - 1) = (i : Int) := by rw [IntWalk.i64_in _ (by omega)]; omega
          have e5 : IntKind.i64.wrap (i : Int) = (i : Int) := IntWalk.i64_in _ (by omega)
          have e6 : (i : Int) < (n : Int) := by omega
          by_cases h4 : h (i + 1) ≤ h i
          · have ho : rcOk nx rm h (i + 1) = false := by
              have h5 : ¬ h i < h (i + 1) := by omega
              simp [rcOk, h5]
            have he := Lib.hid (rcvB_no hlt ho)
            have hd : decide (h (i + 1) ≤ h i) = true := by simpa using h4
            clear hok ho hc hrow hr hr'
            go_wp2
            refine wp_region_free (ds := [(0, 11), (1, 12), (2, 13), (3, 14), (4, 15), (5, 16), (6, 17), (7, 18), (8, 19), (9, 20), (10, 21), (11, 22), (12, 23), (13, 24), (14, 25), (15, 26), (16, 27), (17, 28), (18, 29), (19, 30), (20, 31), (21, 32), (22, 33), (23, 34), (24, 35), (25, 36), (26, 37), (27, 38), (28, 39), (29, 40), (30, 41), (31, 42), (32, 43), (33, 44)]) 34 (by kernel_rfl) (by kernel_rfl) (by first | exact .inl rfl | exact .inr (by kernel_rfl)) (by rfl) rfl rfl ?_
            apply free_is
            · intro a' w' hLe hfr hdep
              have e1 := hfr 1 rfl
              conv at e1 => rhs; whnf
              have f1 := e1; simp only [Array.getD_eq_getD_getElem?] at f1
              refine wpOp_plain rfl rfl (fun K hK => ?_)
              go_simp
              exact hK _ _ ⟨_, rfl, Below.refl _ _, rfl⟩
            apply free_is
            · intro a' w' hLe hfr hdep
              have e11 : a'.tmps.getD 11 undef = _ := hdep 0 11 (Nat.le_of_ble_eq_true rfl) rfl rfl
              conv at e11 => rhs; whnf
              have f11 := e11; simp only [Array.getD_eq_getD_getElem?] at f11
              have kc := fun i => keepc hLe (bl) (by (try simp) <;> omega) i
              have kf := fun i => keepf hLe (bl) (by (try simp) <;> omega) i
              have kz : bl < w'.heap.size := (by have := hLe.size; (try simp at this); omega)
              have kc := fun i => keepc hLe (w.heap.size) (by (try simp) <;> omega) i
              have kf := fun i => keepf hLe (w.heap.size) (by (try simp) <;> omega) i
              have kz : w.heap.size < w'.heap.size := (by have := hLe.size; (try simp at this); omega)
              refine wpOp_plain rfl rfl (fun K hK => ?_)
              go_simp
              exact hK _ _ ⟨_, rfl, Below.refl _ _, rfl⟩
            apply free_is
            · intro a' w' hLe hfr hdep
              have e3 := hfr 3 rfl
              conv at e3 => rhs; whnf
              have f3 := e3; simp only [Array.getD_eq_getD_getElem?] at f3
              refine wpOp_plain rfl rfl (fun K hK => ?_)
              go_simp
              exact hK _ _ ⟨_, rfl, Below.refl _ _, rfl⟩
            apply free_is
            · intro a' w' hLe hfr hdep
              have e12 : a'.tmps.getD 12 undef = _ := hdep 1 12 (Nat.le_of_ble_eq_true rfl) rfl rfl
              conv at e12 => rhs; whnf
              have f12 := e12; simp only [Array.getD_eq_getD_getElem?] at f12
              have e13 : a'.tmps.getD 13 undef = _ := hdep 2 13 (Nat.le_of_ble_eq_true rfl) rfl rfl
              conv at e13 => rhs; whnf
              have f13 := e13; simp only [Array.getD_eq_getD_getElem?] at f13
              refine wpOp_plain rfl rfl (fun K hK => ?_)
              go_simp
              exact hK _ _ ⟨_, rfl, Below.refl _ _, rfl⟩
            apply free_is
            · intro a' w' hLe hfr hdep
              have e14 : a'.tmps.getD 14 undef = _ := hdep 3 14 (Nat.le_of_ble_eq_true rfl) rfl rfl
              conv at e14 => rhs; whnf
              have f14 := e14; simp only [Array.getD_eq_getD_getElem?] at f14
              have kc := fun i => keepc hLe (bl) (by (try simp) <;> omega) i
              have kf := fun i => keepf hLe (bl) (by (try simp) <;> omega) i
              have kz : bl < w'.heap.size := (by have := hLe.size; (try simp at this); omega)
              have kc := fun i => keepc hLe (w.heap.size) (by (try simp) <;> omega) i
              have kf := fun i => keepf hLe (w.heap.size) (by (try simp) <;> omega) i
              have kz : w.heap.size < w'.heap.size := (by have := hLe.size; (try simp at this); omega)
              refine wpOp_plain rfl rfl (fun K hK => ?_)
              go_simp
              exact hK _ _ ⟨_, rfl, Below.refl _ _, rfl⟩
            apply free_is
            · intro a' w' hLe hfr hdep
              have e1 := hfr 1 rfl
              conv at e1 => rhs; whnf
              have f1 := e1; simp only [Array.getD_eq_getD_getElem?] at f1
              refine wpOp_plain rfl rfl (fun K hK => ?_)
              go_simp
              exact hK _ _ ⟨_, rfl, Below.refl _ _, rfl⟩
            apply free_is
            · intro a' w' hLe hfr hdep
              have e16 : a'.tmps.getD 16 undef = _ := hdep 5 16 (Nat.le_of_ble_eq_true rfl) rfl rfl
              conv at e16 => rhs; whnf
              have f16 := e16; simp only [Array.getD_eq_getD_getElem?] at f16
              have kc := fun i => keepc hLe (bl) (by (try simp) <;> omega) i
              have kf := fun i => keepf hLe (bl) (by (try simp) <;> omega) i
              have kz : bl < w'.heap.size := (by have := hLe.size; (try simp at this); omega)
              have kc := fun i => keepc hLe (w.heap.size) (by (try simp) <;> omega) i
              have kf := fun i => keepf hLe (w.heap.size) (by (try simp) <;> omega) i
              have kz : w.heap.size < w'.heap.size := (by have := hLe.size; (try simp at this); omega)
              refine wpOp_plain rfl rfl (fun K hK => ?_)
              go_simp
              exact hK _ _ ⟨_, rfl, Below.refl _ _, rfl⟩
            apply free_is
            · intro a' w' hLe hfr hdep
              have e17 : a'.tmps.getD 17 undef = _ := hdep 6 17 (Nat.le_of_ble_eq_true rfl) rfl rfl
              conv at e17 => rhs; whnf
              have f17 := e17; simp only [Array.getD_eq_getD_getElem?] at f17
              refine wpOp_plain rfl rfl (fun K hK => ?_)
              go_simp
              exact hK _ _ ⟨_, rfl, Below.refl _ _, rfl⟩
            apply free_is
            · intro a' w' hLe hfr hdep
              have e1 := hfr 1 rfl
              conv at e1 => rhs; whnf
              have f1 := e1; simp only [Array.getD_eq_getD_getElem?] at f1
              refine wpOp_plain rfl rfl (fun K hK => ?_)
              go_simp
              exact hK _ _ ⟨_, rfl, Below.refl _ _, rfl⟩
            apply free_is
            · intro a' w' hLe hfr hdep
              have e19 : a'.tmps.getD 19 undef = _ := hdep 8 19 (Nat.le_of_ble_eq_true rfl) rfl rfl
              conv at e19 => rhs; whnf
              have f19 := e19; simp only [Array.getD_eq_getD_getElem?] at f19
              have kc := fun i => keepc hLe (bl) (by (try simp) <;> omega) i
              have kf := fun i => keepf hLe (bl) (by (try simp) <;> omega) i
              have kz : bl < w'.heap.size := (by have := hLe.size; (try simp at this); omega)
              have kc := fun i => keepc hLe (w.heap.size) (by (try simp) <;> omega) i
              have kf := fun i => keepf hLe (w.heap.size) (by (try simp) <;> omega) i
              have kz : w.heap.size < w'.heap.size := (by have := hLe.size; (try simp at this); omega)
              refine wpOp_plain rfl rfl (fun K hK => ?_)
              go_simp
              exact hK _ _ ⟨_, rfl, Below.refl _ _, rfl⟩
            apply free_is
            · intro a' w' hLe hfr hdep
              have e1 := hfr 1 rfl
              conv at e1 => rhs; whnf
              have f1 := e1; simp only [Array.getD_eq_getD_getElem?] at f1
              refine wpOp_plain rfl rfl (fun K hK => ?_)
              go_simp
              exact hK _ _ ⟨_, rfl, Below.refl _ _, rfl⟩
            apply free_is
            · intro a' w' hLe hfr hdep
              have e21 : a'.tmps.getD 21 undef = _ := hdep 10 21 (Nat.le_of_ble_eq_true rfl) rfl rfl
              conv at e21 => rhs; whnf
              have f21 := e21; simp only [Array.getD_eq_getD_getElem?] at f21
              have kc := fun i => keepc hLe (bl) (by (try simp) <;> omega) i
              have kf := fun i => keepf hLe (bl) (by (try simp) <;> omega) i
              have kz : bl < w'.heap.size := (by have := hLe.size; (try simp at this); omega)
              have kc := fun i => keepc hLe (w.heap.size) (by (try simp) <;> omega) i
              have kf := fun i => keepf hLe (w.heap.size) (by (try simp) <;> omega) i
              have kz : w.heap.size < w'.heap.size := (by have := hLe.size; (try simp at this); omega)
              refine wpOp_plain rfl rfl (fun K hK => ?_)
              go_simp
              exact hK _ _ ⟨_, rfl, Below.refl _ _, rfl⟩
            apply free_is
            · intro a' w' hLe hfr hdep
              have e20 : a'.tmps.getD 20 undef = _ := hdep 9 20 (Nat.le_of_ble_eq_true rfl) rfl rfl
              conv at e20 => rhs; whnf
              have f20 := e20; simp only [Array.getD_eq_getD_getElem?] at f20
              have e22 : a'.tmps.getD 22 undef = _ := hdep 11 22 (Nat.le_of_ble_eq_true rfl) rfl rfl
              conv at e22 => rhs; whnf
              have f22 := e22; simp only [Array.getD_eq_getD_getElem?] at f22
              refine wpOp_plain rfl rfl (fun K hK => ?_)
              go_simp
              exact hK _ _ ⟨_, rfl, Below.refl _ _, rfl⟩
            apply free_is
            · intro a' w' hLe hfr hdep
              have e23 : a'.tmps.getD 23 undef = _ := hdep 12 23 (Nat.le_of_ble_eq_true rfl) rfl rfl
              conv at e23 => rhs; whnf
              have f23 := e23; simp only [Array.getD_eq_getD_getElem?] at f23
              refine wpOp_plain rfl rfl (fun K hK => ?_)
              go_simp
              exact hK _ _ ⟨_, rfl, Below.refl _ _, rfl⟩
            apply free_is
            · intro a' w' hLe hfr hdep
              have e15 : a'.tmps.getD 15 undef = _ := hdep 4 15 (Nat.le_of_ble_eq_true rfl) rfl rfl
              conv at e15 => rhs; whnf
              have f15 := e15; simp only [Array.getD_eq_getD_getElem?] at f15
              have e18 : a'.tmps.getD 18 undef = _ := hdep 7 18 (Nat.le_of_ble_eq_true rfl) rfl rfl
              conv at e18 => rhs; whnf
              have f18 := e18; simp only [Array.getD_eq_getD_getElem?] at f18
              have e24 : a'.tmps.getD 24 undef = _ := hdep 13 24 (Nat.le_of_ble_eq_true rfl) rfl rfl
              conv at e24 => rhs; whnf
              have f24 := e24; simp only [Array.getD_eq_getD_getElem?] at f24
              have kc := fun i => keepc hLe (bl) (by (try simp) <;> omega) i
              have kf := fun i => keepf hLe (bl) (by (try simp) <;> omega) i
              have kz : bl < w'.heap.size := (by have := hLe.size; (try simp at this); omega)
              have kc := fun i => keepc hLe (w.heap.size) (by (try simp) <;> omega) i
              have kf := fun i => keepf hLe (w.heap.size) (by (try simp) <;> omega) i
              have kz : w.heap.size < w'.heap.size := (by have := hLe.size; (try simp at this); omega)
              refine wpOp_plain rfl rfl (fun K hK => ?_)
              go_simp
              refine (l1In_any _ _ _ _).mono ?_
              rintro e w2 ⟨rfl, rfl⟩
              exact hK _ _ ⟨_, rfl, Below.refl _ _, rfl⟩
            apply free_is
            · intro a' w' hLe hfr hdep
              have e25 : a'.tmps.getD 25 undef = _ := hdep 14 25 (Nat.le_of_ble_eq_true rfl) rfl rfl
              conv at e25 => rhs; whnf
              have f25 := e25; simp only [Array.getD_eq_getD_getElem?] at f25
              refine wpOp_plain rfl rfl (fun K hK => ?_)
              go_simp
              exact hK _ _ ⟨_, rfl, Below.refl _ _, rfl⟩
            apply free_is
            · intro a' w' hLe hfr hdep
              have e26 : a'.tmps.getD 26 undef = _ := hdep 15 26 (Nat.le_of_ble_eq_true rfl) rfl rfl
              conv at e26 => rhs; whnf
              have f26 := e26; simp only [Array.getD_eq_getD_getElem?] at f26
              refine wpOp_plain rfl rfl (fun K hK => ?_)
              go_simp
              exact hK _ _ ⟨_, rfl, Below.refl _ _, rfl⟩
            apply free_is
            · intro a' w' hLe hfr hdep
              have e27 : a'.tmps.getD 27 undef = _ := hdep 16 27 (Nat.le_of_ble_eq_true rfl) rfl rfl
              conv at e27 => rhs; whnf
              have f27 := e27; simp only [Array.getD_eq_getD_getElem?] at f27
              have e3 := hfr 3 rfl
              conv at e3 => rhs; whnf
              have f3 := e3; simp only [Array.getD_eq_getD_getElem?] at f3
              refine wpOp_yes rfl rfl rfl e27 (fun K hK => ?_)
              go_simp
              exact hK _ _ ⟨_, rfl, Below.refl _ _, rfl⟩
            apply free_is
            · intro a' w' hLe hfr hdep
              have e27 : a'.tmps.getD 27 undef = _ := hdep 16 27 (Nat.le_of_ble_eq_true rfl) rfl rfl
              conv at e27 => rhs; whnf
              have f27 := e27; simp only [Array.getD_eq_getD_getElem?] at f27
              have e28 : a'.tmps.getD 28 undef = _ := hdep 17 28 (Nat.le_of_ble_eq_true rfl) rfl rfl
              conv at e28 => rhs; whnf
              have f28 := e28; simp only [Array.getD_eq_getD_getElem?] at f28
              refine wpOp_yes rfl rfl rfl e27 (fun K hK => ?_)
              go_simp
              exact hK _ _ ⟨_, rfl, Below.refl _ _, rfl⟩
            apply free_is
            · intro a' w' hLe hfr hdep
              have e27 : a'.tmps.getD 27 undef = _ := hdep 16 27 (Nat.le_of_ble_eq_true rfl) rfl rfl
              conv at e27 => rhs; whnf
              have f27 := e27; simp only [Array.getD_eq_getD_getElem?] at f27
              have e29 : a'.tmps.getD 29 undef = _ := hdep 18 29 (Nat.le_of_ble_eq_true rfl) rfl rfl
              conv at e29 => rhs; whnf
              have f29 := e29; simp only [Array.getD_eq_getD_getElem?] at f29
              refine wpOp_yes rfl rfl rfl e27 (fun K hK => ?_)
              go_simp
              exact hK _ _ ⟨_, rfl, Below.refl _ _, rfl⟩
            apply free_is
            · intro a' w' hLe hfr hdep
              have e30 : a'.tmps.getD 30 undef = _ := hdep 19 30 (Nat.le_of_ble_eq_true rfl) rfl rfl
              conv at e30 => rhs; whnf
              have f30 := e30; simp only [Array.getD_eq_getD_getElem?] at f30
              have e1 := hfr 1 rfl
              conv at e1 => rhs; whnf
              have f1 := e1; simp only [Array.getD_eq_getD_getElem?] at f1
              refine wpOp_yes rfl rfl rfl e30 (fun K hK => ?_)
              go_simp
              exact hK _ _ ⟨_, rfl, Below.refl _ _, rfl⟩
            apply free_is
            · intro a' w' hLe hfr hdep
              have e30 : a'.tmps.getD 30 undef = _ := hdep 19 30 (Nat.le_of_ble_eq_true rfl) rfl rfl
              conv at e30 => rhs; whnf
              have f30 := e30; simp only [Array.getD_eq_getD_getElem?] at f30
              have e31 : a'.tmps.getD 31 undef = _ := hdep 20 31 (Nat.le_of_ble_eq_true rfl) rfl rfl
              conv at e31 => rhs; whnf
              have f31 := e31; simp only [Array.getD_eq_getD_getElem?] at f31
              have kc := fun i => keepc hLe (bl) (by (try simp) <;> omega) i
              have kf := fun i => keepf hLe (bl) (by (try simp) <;> omega) i
              have kz : bl < w'.heap.size := (by have := hLe.size; (try simp at this); omega)
              have kc := fun i => keepc hLe (w.heap.size) (by (try simp) <;> omega) i
              have kf := fun i => keepf hLe (w.heap.size) (by (try simp) <;> omega) i
              have kz : w.heap.size < w'.heap.size := (by have := hLe.size; (try simp at this); omega)
              refine wpOp_yes rfl rfl rfl e30 (fun K hK => ?_)
              go_simp
              exact hK _ _ ⟨_, rfl, Below.refl _ _, rfl⟩
            apply free_is
            · intro a' w' hLe hfr hdep
              have e30 : a'.tmps.getD 30 undef = _ := hdep 19 30 (Nat.le_of_ble_eq_true rfl) rfl rfl
              conv at e30 => rhs; whnf
              have f30 := e30; simp only [Array.getD_eq_getD_getElem?] at f30
              have e3 := hfr 3 rfl
              conv at e3 => rhs; whnf
              have f3 := e3; simp only [Array.getD_eq_getD_getElem?] at f3
              refine wpOp_yes rfl rfl rfl e30 (fun K hK => ?_)
              go_simp
              exact hK _ _ ⟨_, rfl, Below.refl _ _, rfl⟩
            apply free_is
            · intro a' w' hLe hfr hdep
              have e30 : a'.tmps.getD 30 undef = _ := hdep 19 30 (Nat.le_of_ble_eq_true rfl) rfl rfl
              conv at e30 => rhs; whnf
              have f30 := e30; simp only [Array.getD_eq_getD_getElem?] at f30
              have e32 : a'.tmps.getD 32 undef = _ := hdep 21 32 (Nat.le_of_ble_eq_true rfl) rfl rfl
              conv at e32 => rhs; whnf
              have f32 := e32; simp only [Array.getD_eq_getD_getElem?] at f32
              have e33 : a'.tmps.getD 33 undef = _ := hdep 22 33 (Nat.le_of_ble_eq_true rfl) rfl rfl
              conv at e33 => rhs; whnf
              have f33 := e33; simp only [Array.getD_eq_getD_getElem?] at f33
              refine wpOp_yes rfl rfl rfl e30 (fun K hK => ?_)
              go_simp
              exact hK _ _ ⟨_, rfl, Below.refl _ _, rfl⟩
            apply free_is
            · intro a' w' hLe hfr hdep
              have e30 : a'.tmps.getD 30 undef = _ := hdep 19 30 (Nat.le_of_ble_eq_true rfl) rfl rfl
              conv at e30 => rhs; whnf
              have f30 := e30; simp only [Array.getD_eq_getD_getElem?] at f30
              have e34 : a'.tmps.getD 34 undef = _ := hdep 23 34 (Nat.le_of_ble_eq_true rfl) rfl rfl
              conv at e34 => rhs; whnf
              have f34 := e34; simp only [Array.getD_eq_getD_getElem?] at f34
              have kc := fun i => keepc hLe (bl) (by (try simp) <;> omega) i
              have kf := fun i => keepf hLe (bl) (by (try simp) <;> omega) i
              have kz : bl < w'.heap.size := (by have := hLe.size; (try simp at this); omega)
              have kc := fun i => keepc hLe (w.heap.size) (by (try simp) <;> omega) i
              have kf := fun i => keepf hLe (w.heap.size) (by (try simp) <;> omega) i
              have kz : w.heap.size < w'.heap.size := (by have := hLe.size; (try simp at this); omega)
              refine wpOp_yes rfl rfl rfl e30 (fun K hK => ?_)
              go_simp
              exact hK _ _ ⟨_, rfl, Below.refl _ _, rfl⟩
            apply free_is
            · intro a' w' hLe hfr hdep
              have e30 : a'.tmps.getD 30 undef = _ := hdep 19 30 (Nat.le_of_ble_eq_true rfl) rfl rfl
              conv at e30 => rhs; whnf
              have f30 := e30; simp only [Array.getD_eq_getD_getElem?] at f30
              have e1 := hfr 1 rfl
              conv at e1 => rhs; whnf
              have f1 := e1; simp only [Array.getD_eq_getD_getElem?] at f1
              refine wpOp_yes rfl rfl rfl e30 (fun K hK => ?_)
              go_simp
              exact hK _ _ ⟨_, rfl, Below.refl _ _, rfl⟩
            apply free_is
            · intro a' w' hLe hfr hdep
              have e30 : a'.tmps.getD 30 undef = _ := hdep 19 30 (Nat.le_of_ble_eq_true rfl) rfl rfl
              conv at e30 => rhs; whnf
              have f30 := e30; simp only [Array.getD_eq_getD_getElem?] at f30
              have e36 : a'.tmps.getD 36 undef = _ := hdep 25 36 (Nat.le_of_ble_eq_true rfl) rfl rfl
              conv at e36 => rhs; whnf
              have f36 := e36; simp only [Array.getD_eq_getD_getElem?] at f36
              have kc := fun i => keepc hLe (bl) (by (try simp) <;> omega) i
              have kf := fun i => keepf hLe (bl) (by (try simp) <;> omega) i
              have kz : bl < w'.heap.size := (by have := hLe.size; (try simp at this); omega)
              have kc := fun i => keepc hLe (w.heap.size) (by (try simp) <;> omega) i
              have kf := fun i => keepf hLe (w.heap.size) (by (try simp) <;> omega) i
              have kz : w.heap.size < w'.heap.size := (by have := hLe.size; (try simp at this); omega)
              refine wpOp_yes rfl rfl rfl e30 (fun K hK => ?_)
              go_simp
              exact hK _ _ ⟨_, rfl, Below.refl _ _, rfl⟩
            apply free_is
            · intro a' w' hLe hfr hdep
              have e30 : a'.tmps.getD 30 undef = _ := hdep 19 30 (Nat.le_of_ble_eq_true rfl) rfl rfl
              conv at e30 => rhs; whnf
              have f30 := e30; simp only [Array.getD_eq_getD_getElem?] at f30
              have e3 := hfr 3 rfl
              conv at e3 => rhs; whnf
              have f3 := e3; simp only [Array.getD_eq_getD_getElem?] at f3
              refine wpOp_yes rfl rfl rfl e30 (fun K hK => ?_)
              go_simp
              exact hK _ _ ⟨_, rfl, Below.refl _ _, rfl⟩
            apply free_is
            · intro a' w' hLe hfr hdep
              have e30 : a'.tmps.getD 30 undef = _ := hdep 19 30 (Nat.le_of_ble_eq_true rfl) rfl rfl
              conv at e30 => rhs; whnf
              have f30 := e30; simp only [Array.getD_eq_getD_getElem?] at f30
              have e38 : a'.tmps.getD 38 undef = _ := hdep 27 38 (Nat.le_of_ble_eq_true rfl) rfl rfl
              conv at e38 => rhs; whnf
              have f38 := e38; simp only [Array.getD_eq_getD_getElem?] at f38
              refine wpOp_yes rfl rfl rfl e30 (fun K hK => ?_)
              go_simp
              exact hK _ _ ⟨_, rfl, Below.refl _ _, rfl⟩
            apply free_is
            · intro a' w' hLe hfr hdep
              have e30 : a'.tmps.getD 30 undef = _ := hdep 19 30 (Nat.le_of_ble_eq_true rfl) rfl rfl
              conv at e30 => rhs; whnf
              have f30 := e30; simp only [Array.getD_eq_getD_getElem?] at f30
              have e37 : a'.tmps.getD 37 undef = _ := hdep 26 37 (Nat.le_of_ble_eq_true rfl) rfl rfl
              conv at e37 => rhs; whnf
              have f37 := e37; simp only [Array.getD_eq_getD_getElem?] at f37
              have e39 : a'.tmps.getD 39 undef = _ := hdep 28 39 (Nat.le_of_ble_eq_true rfl) rfl rfl
              conv at e39 => rhs; whnf
              have f39 := e39; simp only [Array.getD_eq_getD_getElem?] at f39
              refine wpOp_yes rfl rfl rfl e30 (fun K hK => ?_)
              go_simp
              exact hK _ _ ⟨_, rfl, Below.refl _ _, rfl⟩
            apply free_is
            · intro a' w' hLe hfr hdep
              have e30 : a'.tmps.getD 30 undef = _ := hdep 19 30 (Nat.le_of_ble_eq_true rfl) rfl rfl
              conv at e30 => rhs; whnf
              have f30 := e30; simp only [Array.getD_eq_getD_getElem?] at f30
              have e40 : a'.tmps.getD 40 undef = _ := hdep 29 40 (Nat.le_of_ble_eq_true rfl) rfl rfl
              conv at e40 => rhs; whnf
              have f40 := e40; simp only [Array.getD_eq_getD_getElem?] at f40
              have kc := fun i => keepc hLe (bl) (by (try simp) <;> omega) i
              have kf := fun i => keepf hLe (bl) (by (try simp) <;> omega) i
              have kz : bl < w'.heap.size := (by have := hLe.size; (try simp at this); omega)
              have kc := fun i => keepc hLe (w.heap.size) (by (try simp) <;> omega) i
              have kf := fun i => keepf hLe (w.heap.size) (by (try simp) <;> omega) i
              have kz : w.heap.size < w'.heap.size := (by have := hLe.size; (try simp at this); omega)
              refine wpOp_yes rfl rfl rfl e30 (fun K hK => ?_)
              go_simp
              exact hK _ _ ⟨_, rfl, Below.refl _ _, rfl⟩
            apply free_is
            · intro a' w' hLe hfr hdep
              have e30 : a'.tmps.getD 30 undef = _ := hdep 19 30 (Nat.le_of_ble_eq_true rfl) rfl rfl
              conv at e30 => rhs; whnf
              have f30 := e30; simp only [Array.getD_eq_getD_getElem?] at f30
              have e35 : a'.tmps.getD 35 undef = _ := hdep 24 35 (Nat.le_of_ble_eq_true rfl) rfl rfl
              conv at e35 => rhs; whnf
              have f35 := e35; simp only [Array.getD_eq_getD_getElem?] at f35
              have e41 : a'.tmps.getD 41 undef = _ := hdep 30 41 (Nat.le_of_ble_eq_true rfl) rfl rfl
              conv at e41 => rhs; whnf
              have f41 := e41; simp only [Array.getD_eq_getD_getElem?] at f41
              refine wpOp_yes rfl rfl rfl e30 (fun K hK => ?_)
              go_simp
              exact hK _ _ ⟨_, rfl, Below.refl _ _, rfl⟩
            apply free_is
            · intro a' w' hLe hfr hdep
              have e27 : a'.tmps.getD 27 undef = _ := hdep 16 27 (Nat.le_of_ble_eq_true rfl) rfl rfl
              conv at e27 => rhs; whnf
              have f27 := e27; simp only [Array.getD_eq_getD_getElem?] at f27
              have e30 : a'.tmps.getD 30 undef = _ := hdep 19 30 (Nat.le_of_ble_eq_true rfl) rfl rfl
              conv at e30 => rhs; whnf
              have f30 := e30; simp only [Array.getD_eq_getD_getElem?] at f30
              have e42 : a'.tmps.getD 42 undef = _ := hdep 31 42 (Nat.le_of_ble_eq_true rfl) rfl rfl
              conv at e42 => rhs; whnf
              have f42 := e42; simp only [Array.getD_eq_getD_getElem?] at f42
              refine wpOp_yes rfl rfl rfl e27 (fun K hK => ?_)
              go_simp
              exact hK _ _ ⟨_, rfl, Below.refl _ _, rfl⟩
            apply free_is
            · intro a' w' hLe hfr hdep
              have e27 : a'.tmps.getD 27 undef = _ := hdep 16 27 (Nat.le_of_ble_eq_true rfl) rfl rfl
              conv at e27 => rhs; whnf
              have f27 := e27; simp only [Array.getD_eq_getD_getElem?] at f27
              have e43 : a'.tmps.getD 43 undef = _ := hdep 32 43 (Nat.le_of_ble_eq_true rfl) rfl rfl
              conv at e43 => rhs; whnf
              have f43 := e43; simp only [Array.getD_eq_getD_getElem?] at f43
              refine wpOp_plain rfl rfl (fun K hK => ?_)
              go_simp
              exact hK _ _ ⟨_, rfl, Below.refl _ _, rfl⟩
            apply free_nil
            intro vs w4 hb4 hT4
            have e11 : vs 0 = _ := hT4 0 11 rfl
            conv at e11 => rhs; whnf
            have e12 : vs 1 = _ := hT4 1 12 rfl
            conv at e12 => rhs; whnf
            have e13 : vs 2 = _ := hT4 2 13 rfl
            conv at e13 => rhs; whnf
            have e14 : vs 3 = _ := hT4 3 14 rfl
            conv at e14 => rhs; whnf
            have e15 : vs 4 = _ := hT4 4 15 rfl
            conv at e15 => rhs; whnf
            have e16 : vs 5 = _ := hT4 5 16 rfl
            conv at e16 => rhs; whnf
            have e17 : vs 6 = _ := hT4 6 17 rfl
            conv at e17 => rhs; whnf
            have e18 : vs 7 = _ := hT4 7 18 rfl
            conv at e18 => rhs; whnf
            have e19 : vs 8 = _ := hT4 8 19 rfl
            conv at e19 => rhs; whnf
            have e20 : vs 9 = _ := hT4 9 20 rfl
            conv at e20 => rhs; whnf
            have e21 : vs 10 = _ := hT4 10 21 rfl
            conv at e21 => rhs; whnf
            have e22 : vs 11 = _ := hT4 11 22 rfl
            conv at e22 => rhs; whnf
            have e23 : vs 12 = _ := hT4 12 23 rfl
            conv at e23 => rhs; whnf
            have e24 : vs 13 = _ := hT4 13 24 rfl
            conv at e24 => rhs; whnf
            have e25 : vs 14 = _ := hT4 14 25 rfl
            conv at e25 => rhs; whnf
            have e26 : vs 15 = _ := hT4 15 26 rfl
            conv at e26 => rhs; whnf
            have e27 : vs 16 = _ := hT4 16 27 rfl
            conv at e27 => rhs; whnf
            have e28 : vs 17 = _ := hT4 17 28 rfl
            conv at e28 => rhs; whnf
            have e29 : vs 18 = _ := hT4 18 29 rfl
            conv at e29 => rhs; whnf
            have e30 : vs 19 = _ := hT4 19 30 rfl
            conv at e30 => rhs; whnf
            have e31 : vs 20 = _ := hT4 20 31 rfl
            conv at e31 => rhs; whnf
            have e32 : vs 21 = _ := hT4 21 32 rfl
            conv at e32 => rhs; whnf
            have e33 : vs 22 = _ := hT4 22 33 rfl
            conv at e33 => rhs; whnf
            have e34 : vs 23 = _ := hT4 23 34 rfl
            conv at e34 => rhs; whnf
            have e35 : vs 24 = _ := hT4 24 35 rfl
            conv at e35 => rhs; whnf
            have e36 : vs 25 = _ := hT4 25 36 rfl
            conv at e36 => rhs; whnf
            have e37 : vs 26 = _ := hT4 26 37 rfl
            conv at e37 => rhs; whnf
            have e38 : vs 27 = _ := hT4 27 38 rfl
            conv at e38 => rhs; whnf
            have e39 : vs 28 = _ := hT4 28 39 rfl
            conv at e39 => rhs; whnf
            have e40 : vs 29 = _ := hT4 29 40 rfl
            conv at e40 => rhs; whnf
            have e41 : vs 30 = _ := hT4 30 41 rfl
            conv at e41 => rhs; whnf
            have e42 : vs 31 = _ := hT4 31 42 rfl
            conv at e42 => rhs; whnf
            have e43 : vs 32 = _ := hT4 32 43 rfl
            conv at e43 => rhs; whnf
            have e44 : vs 33 = _ := hT4 33 44 rfl
            conv at e44 => rhs; whnf
            simp only [putAll, List.drop_succ_cons, List.drop_zero, e11, e12, e13, e14, e15, e16, e17, e18, e19, e20, e21, e22, e23, e24, e25, e26, e27, e28, e29, e30, e31, e32, e33, e34, e35, e36, e37, e38, e39, e40, e41, e42, e43, e44]
            clear hT4 e11 e12 e13 e14 e15 e16 e17 e18 e19 e20 e21 e22 e23 e24 e25 e26 e27 e28 e29 e30 e31 e32 e33 e34 e35 e36 e37 e38 e39 e40 e41 e42 e43 e44
            go_simp
            go_wp2
            go_ret
            exact ⟨by rw [he.out] <;> rfl, by (repeat (first | exact Below.refl _ _ | assumption | refine Below.al ?_ _ | refine Below.dr ?_ | (refine Below.st ?_ (by simp <;> omega) _) | (refine Below.tr ?_ (by assumption))))⟩
          · have ho : rcOk nx rm h (i + 1) = true := by
              have h5 : nx < h (i + 1) := by omega
              have h6 : h (i + 1) < nx + rm := by omega
              have h7 : h i < h (i + 1) := by omega
              simp [rcOk, h5, h6, h7]
            have HO := Lib.hid (upto hok ho)
            have hd : decide (h (i + 1) ≤ h i) = false := by simpa using h4
            clear hok ho hc hrow hr hr'
            go_wp2
            refine wp_region_free (ds := [(0, 11), (1, 12), (2, 13), (3, 14), (4, 15), (5, 16), (6, 17), (7, 18), (8, 19), (9, 20), (10, 21), (11, 22), (12, 23), (13, 24), (14, 25), (15, 26), (16, 27), (17, 28), (18, 29), (19, 30), (20, 31), (21, 32), (22, 33), (23, 34), (24, 35), (25, 36), (26, 37), (27, 38), (28, 39), (29, 40), (30, 41), (31, 42), (32, 43), (33, 44)]) 34 (by kernel_rfl) (by kernel_rfl) (by first | exact .inl rfl | exact .inr (by kernel_rfl)) (by rfl) rfl rfl ?_
            apply free_is
            · intro a' w' hLe hfr hdep
              have e1 := hfr 1 rfl
              conv at e1 => rhs; whnf
              have f1 := e1; simp only [Array.getD_eq_getD_getElem?] at f1
              refine wpOp_plain rfl rfl (fun K hK => ?_)
              go_simp
              exact hK _ _ ⟨_, rfl, Below.refl _ _, rfl⟩
            apply free_is
            · intro a' w' hLe hfr hdep
              have e11 : a'.tmps.getD 11 undef = _ := hdep 0 11 (Nat.le_of_ble_eq_true rfl) rfl rfl
              conv at e11 => rhs; whnf
              have f11 := e11; simp only [Array.getD_eq_getD_getElem?] at f11
              have kc := fun i => keepc hLe (bl) (by (try simp) <;> omega) i
              have kf := fun i => keepf hLe (bl) (by (try simp) <;> omega) i
              have kz : bl < w'.heap.size := (by have := hLe.size; (try simp at this); omega)
              have kc := fun i => keepc hLe (w.heap.size) (by (try simp) <;> omega) i
              have kf := fun i => keepf hLe (w.heap.size) (by (try simp) <;> omega) i
              have kz : w.heap.size < w'.heap.size := (by have := hLe.size; (try simp at this); omega)
              refine wpOp_plain rfl rfl (fun K hK => ?_)
              go_simp
              exact hK _ _ ⟨_, rfl, Below.refl _ _, rfl⟩
            apply free_is
            · intro a' w' hLe hfr hdep
              have e3 := hfr 3 rfl
              conv at e3 => rhs; whnf
              have f3 := e3; simp only [Array.getD_eq_getD_getElem?] at f3
              refine wpOp_plain rfl rfl (fun K hK => ?_)
              go_simp
              exact hK _ _ ⟨_, rfl, Below.refl _ _, rfl⟩
            apply free_is
            · intro a' w' hLe hfr hdep
              have e12 : a'.tmps.getD 12 undef = _ := hdep 1 12 (Nat.le_of_ble_eq_true rfl) rfl rfl
              conv at e12 => rhs; whnf
              have f12 := e12; simp only [Array.getD_eq_getD_getElem?] at f12
              have e13 : a'.tmps.getD 13 undef = _ := hdep 2 13 (Nat.le_of_ble_eq_true rfl) rfl rfl
              conv at e13 => rhs; whnf
              have f13 := e13; simp only [Array.getD_eq_getD_getElem?] at f13
              refine wpOp_plain rfl rfl (fun K hK => ?_)
              go_simp
              exact hK _ _ ⟨_, rfl, Below.refl _ _, rfl⟩
            apply free_is
            · intro a' w' hLe hfr hdep
              have e14 : a'.tmps.getD 14 undef = _ := hdep 3 14 (Nat.le_of_ble_eq_true rfl) rfl rfl
              conv at e14 => rhs; whnf
              have f14 := e14; simp only [Array.getD_eq_getD_getElem?] at f14
              have kc := fun i => keepc hLe (bl) (by (try simp) <;> omega) i
              have kf := fun i => keepf hLe (bl) (by (try simp) <;> omega) i
              have kz : bl < w'.heap.size := (by have := hLe.size; (try simp at this); omega)
              have kc := fun i => keepc hLe (w.heap.size) (by (try simp) <;> omega) i
              have kf := fun i => keepf hLe (w.heap.size) (by (try simp) <;> omega) i
              have kz : w.heap.size < w'.heap.size := (by have := hLe.size; (try simp at this); omega)
              refine wpOp_plain rfl rfl (fun K hK => ?_)
              go_simp
              exact hK _ _ ⟨_, rfl, Below.refl _ _, rfl⟩
            apply free_is
            · intro a' w' hLe hfr hdep
              have e1 := hfr 1 rfl
              conv at e1 => rhs; whnf
              have f1 := e1; simp only [Array.getD_eq_getD_getElem?] at f1
              refine wpOp_plain rfl rfl (fun K hK => ?_)
              go_simp
              exact hK _ _ ⟨_, rfl, Below.refl _ _, rfl⟩
            apply free_is
            · intro a' w' hLe hfr hdep
              have e16 : a'.tmps.getD 16 undef = _ := hdep 5 16 (Nat.le_of_ble_eq_true rfl) rfl rfl
              conv at e16 => rhs; whnf
              have f16 := e16; simp only [Array.getD_eq_getD_getElem?] at f16
              have kc := fun i => keepc hLe (bl) (by (try simp) <;> omega) i
              have kf := fun i => keepf hLe (bl) (by (try simp) <;> omega) i
              have kz : bl < w'.heap.size := (by have := hLe.size; (try simp at this); omega)
              have kc := fun i => keepc hLe (w.heap.size) (by (try simp) <;> omega) i
              have kf := fun i => keepf hLe (w.heap.size) (by (try simp) <;> omega) i
              have kz : w.heap.size < w'.heap.size := (by have := hLe.size; (try simp at this); omega)
              refine wpOp_plain rfl rfl (fun K hK => ?_)
              go_simp
              exact hK _ _ ⟨_, rfl, Below.refl _ _, rfl⟩
            apply free_is
            · intro a' w' hLe hfr hdep
              have e17 : a'.tmps.getD 17 undef = _ := hdep 6 17 (Nat.le_of_ble_eq_true rfl) rfl rfl
              conv at e17 => rhs; whnf
              have f17 := e17; simp only [Array.getD_eq_getD_getElem?] at f17
              refine wpOp_plain rfl rfl (fun K hK => ?_)
              go_simp
              exact hK _ _ ⟨_, rfl, Below.refl _ _, rfl⟩
            apply free_is
            · intro a' w' hLe hfr hdep
              have e1 := hfr 1 rfl
              conv at e1 => rhs; whnf
              have f1 := e1; simp only [Array.getD_eq_getD_getElem?] at f1
              refine wpOp_plain rfl rfl (fun K hK => ?_)
              go_simp
              exact hK _ _ ⟨_, rfl, Below.refl _ _, rfl⟩
            apply free_is
            · intro a' w' hLe hfr hdep
              have e19 : a'.tmps.getD 19 undef = _ := hdep 8 19 (Nat.le_of_ble_eq_true rfl) rfl rfl
              conv at e19 => rhs; whnf
              have f19 := e19; simp only [Array.getD_eq_getD_getElem?] at f19
              have kc := fun i => keepc hLe (bl) (by (try simp) <;> omega) i
              have kf := fun i => keepf hLe (bl) (by (try simp) <;> omega) i
              have kz : bl < w'.heap.size := (by have := hLe.size; (try simp at this); omega)
              have kc := fun i => keepc hLe (w.heap.size) (by (try simp) <;> omega) i
              have kf := fun i => keepf hLe (w.heap.size) (by (try simp) <;> omega) i
              have kz : w.heap.size < w'.heap.size := (by have := hLe.size; (try simp at this); omega)
              refine wpOp_plain rfl rfl (fun K hK => ?_)
              go_simp
              exact hK _ _ ⟨_, rfl, Below.refl _ _, rfl⟩
            apply free_is
            · intro a' w' hLe hfr hdep
              have e1 := hfr 1 rfl
              conv at e1 => rhs; whnf
              have f1 := e1; simp only [Array.getD_eq_getD_getElem?] at f1
              refine wpOp_plain rfl rfl (fun K hK => ?_)
              go_simp
              exact hK _ _ ⟨_, rfl, Below.refl _ _, rfl⟩
            apply free_is
            · intro a' w' hLe hfr hdep
              have e21 : a'.tmps.getD 21 undef = _ := hdep 10 21 (Nat.le_of_ble_eq_true rfl) rfl rfl
              conv at e21 => rhs; whnf
              have f21 := e21; simp only [Array.getD_eq_getD_getElem?] at f21
              have kc := fun i => keepc hLe (bl) (by (try simp) <;> omega) i
              have kf := fun i => keepf hLe (bl) (by (try simp) <;> omega) i
              have kz : bl < w'.heap.size := (by have := hLe.size; (try simp at this); omega)
              have kc := fun i => keepc hLe (w.heap.size) (by (try simp) <;> omega) i
              have kf := fun i => keepf hLe (w.heap.size) (by (try simp) <;> omega) i
              have kz : w.heap.size < w'.heap.size := (by have := hLe.size; (try simp at this); omega)
              refine wpOp_plain rfl rfl (fun K hK => ?_)
              go_simp
              exact hK _ _ ⟨_, rfl, Below.refl _ _, rfl⟩
            apply free_is
            · intro a' w' hLe hfr hdep
              have e20 : a'.tmps.getD 20 undef = _ := hdep 9 20 (Nat.le_of_ble_eq_true rfl) rfl rfl
              conv at e20 => rhs; whnf
              have f20 := e20; simp only [Array.getD_eq_getD_getElem?] at f20
              have e22 : a'.tmps.getD 22 undef = _ := hdep 11 22 (Nat.le_of_ble_eq_true rfl) rfl rfl
              conv at e22 => rhs; whnf
              have f22 := e22; simp only [Array.getD_eq_getD_getElem?] at f22
              refine wpOp_plain rfl rfl (fun K hK => ?_)
              go_simp
              exact hK _ _ ⟨_, rfl, Below.refl _ _, rfl⟩
            apply free_is
            · intro a' w' hLe hfr hdep
              have e23 : a'.tmps.getD 23 undef = _ := hdep 12 23 (Nat.le_of_ble_eq_true rfl) rfl rfl
              conv at e23 => rhs; whnf
              have f23 := e23; simp only [Array.getD_eq_getD_getElem?] at f23
              refine wpOp_plain rfl rfl (fun K hK => ?_)
              go_simp
              exact hK _ _ ⟨_, rfl, Below.refl _ _, rfl⟩
            apply free_is
            · intro a' w' hLe hfr hdep
              have e15 : a'.tmps.getD 15 undef = _ := hdep 4 15 (Nat.le_of_ble_eq_true rfl) rfl rfl
              conv at e15 => rhs; whnf
              have f15 := e15; simp only [Array.getD_eq_getD_getElem?] at f15
              have e18 : a'.tmps.getD 18 undef = _ := hdep 7 18 (Nat.le_of_ble_eq_true rfl) rfl rfl
              conv at e18 => rhs; whnf
              have f18 := e18; simp only [Array.getD_eq_getD_getElem?] at f18
              have e24 : a'.tmps.getD 24 undef = _ := hdep 13 24 (Nat.le_of_ble_eq_true rfl) rfl rfl
              conv at e24 => rhs; whnf
              have f24 := e24; simp only [Array.getD_eq_getD_getElem?] at f24
              have kc := fun i => keepc hLe (bl) (by (try simp) <;> omega) i
              have kf := fun i => keepf hLe (bl) (by (try simp) <;> omega) i
              have kz : bl < w'.heap.size := (by have := hLe.size; (try simp at this); omega)
              have kc := fun i => keepc hLe (w.heap.size) (by (try simp) <;> omega) i
              have kf := fun i => keepf hLe (w.heap.size) (by (try simp) <;> omega) i
              have kz : w.heap.size < w'.heap.size := (by have := hLe.size; (try simp at this); omega)
              refine wpOp_plain rfl rfl (fun K hK => ?_)
              go_simp
              refine (l1In_any _ _ _ _).mono ?_
              rintro e w2 ⟨rfl, rfl⟩
              exact hK _ _ ⟨_, rfl, Below.refl _ _, rfl⟩
            apply free_is
            · intro a' w' hLe hfr hdep
              have e25 : a'.tmps.getD 25 undef = _ := hdep 14 25 (Nat.le_of_ble_eq_true rfl) rfl rfl
              conv at e25 => rhs; whnf
              have f25 := e25; simp only [Array.getD_eq_getD_getElem?] at f25
              refine wpOp_plain rfl rfl (fun K hK => ?_)
              go_simp
              exact hK _ _ ⟨_, rfl, Below.refl _ _, rfl⟩
            apply free_is
            · intro a' w' hLe hfr hdep
              have e26 : a'.tmps.getD 26 undef = _ := hdep 15 26 (Nat.le_of_ble_eq_true rfl) rfl rfl
              conv at e26 => rhs; whnf
              have f26 := e26; simp only [Array.getD_eq_getD_getElem?] at f26
              refine wpOp_plain rfl rfl (fun K hK => ?_)
              go_simp
              exact hK _ _ ⟨_, rfl, Below.refl _ _, rfl⟩
            apply free_is
            · intro a' w' hLe hfr hdep
              have e27 : a'.tmps.getD 27 undef = _ := hdep 16 27 (Nat.le_of_ble_eq_true rfl) rfl rfl
              conv at e27 => rhs; whnf
              have f27 := e27; simp only [Array.getD_eq_getD_getElem?] at f27
              have e3 := hfr 3 rfl
              conv at e3 => rhs; whnf
              have f3 := e3; simp only [Array.getD_eq_getD_getElem?] at f3
              refine wpOp_yes rfl rfl rfl e27 (fun K hK => ?_)
              go_simp
              exact hK _ _ ⟨_, rfl, Below.refl _ _, rfl⟩
            apply free_is
            · intro a' w' hLe hfr hdep
              have e27 : a'.tmps.getD 27 undef = _ := hdep 16 27 (Nat.le_of_ble_eq_true rfl) rfl rfl
              conv at e27 => rhs; whnf
              have f27 := e27; simp only [Array.getD_eq_getD_getElem?] at f27
              have e28 : a'.tmps.getD 28 undef = _ := hdep 17 28 (Nat.le_of_ble_eq_true rfl) rfl rfl
              conv at e28 => rhs; whnf
              have f28 := e28; simp only [Array.getD_eq_getD_getElem?] at f28
              refine wpOp_yes rfl rfl rfl e27 (fun K hK => ?_)
              go_simp
              exact hK _ _ ⟨_, rfl, Below.refl _ _, rfl⟩
            apply free_is
            · intro a' w' hLe hfr hdep
              have e27 : a'.tmps.getD 27 undef = _ := hdep 16 27 (Nat.le_of_ble_eq_true rfl) rfl rfl
              conv at e27 => rhs; whnf
              have f27 := e27; simp only [Array.getD_eq_getD_getElem?] at f27
              have e29 : a'.tmps.getD 29 undef = _ := hdep 18 29 (Nat.le_of_ble_eq_true rfl) rfl rfl
              conv at e29 => rhs; whnf
              have f29 := e29; simp only [Array.getD_eq_getD_getElem?] at f29
              refine wpOp_yes rfl rfl rfl e27 (fun K hK => ?_)
              go_simp
              exact hK _ _ ⟨_, rfl, Below.refl _ _, rfl⟩
            apply free_is
            · intro a' w' hLe hfr hdep
              have e30 : a'.tmps.getD 30 undef = _ := hdep 19 30 (Nat.le_of_ble_eq_true rfl) rfl rfl
              conv at e30 => rhs; whnf
              have f30 := e30; simp only [Array.getD_eq_getD_getElem?] at f30
              have e1 := hfr 1 rfl
              conv at e1 => rhs; whnf
              have f1 := e1; simp only [Array.getD_eq_getD_getElem?] at f1
              refine wpOp_yes rfl rfl rfl e30 (fun K hK => ?_)
              go_simp
              exact hK _ _ ⟨_, rfl, Below.refl _ _, rfl⟩
            apply free_is
            · intro a' w' hLe hfr hdep
              have e30 : a'.tmps.getD 30 undef = _ := hdep 19 30 (Nat.le_of_ble_eq_true rfl) rfl rfl
              conv at e30 => rhs; whnf
              have f30 := e30; simp only [Array.getD_eq_getD_getElem?] at f30
              have e31 : a'.tmps.getD 31 undef = _ := hdep 20 31 (Nat.le_of_ble_eq_true rfl) rfl rfl
              conv at e31 => rhs; whnf
              have f31 := e31; simp only [Array.getD_eq_getD_getElem?] at f31
              have kc := fun i => keepc hLe (bl) (by (try simp) <;> omega) i
              have kf := fun i => keepf hLe (bl) (by (try simp) <;> omega) i
              have kz : bl < w'.heap.size := (by have := hLe.size; (try simp at this); omega)
              have kc := fun i => keepc hLe (w.heap.size) (by (try simp) <;> omega) i
              have kf := fun i => keepf hLe (w.heap.size) (by (try simp) <;> omega) i
              have kz : w.heap.size < w'.heap.size := (by have := hLe.size; (try simp at this); omega)
              refine wpOp_yes rfl rfl rfl e30 (fun K hK => ?_)
              go_simp
              exact hK _ _ ⟨_, rfl, Below.refl _ _, rfl⟩
            apply free_is
            · intro a' w' hLe hfr hdep
              have e30 : a'.tmps.getD 30 undef = _ := hdep 19 30 (Nat.le_of_ble_eq_true rfl) rfl rfl
              conv at e30 => rhs; whnf
              have f30 := e30; simp only [Array.getD_eq_getD_getElem?] at f30
              have e3 := hfr 3 rfl
              conv at e3 => rhs; whnf
              have f3 := e3; simp only [Array.getD_eq_getD_getElem?] at f3
              refine wpOp_yes rfl rfl rfl e30 (fun K hK => ?_)
              go_simp
              exact hK _ _ ⟨_, rfl, Below.refl _ _, rfl⟩
            apply free_is
            · intro a' w' hLe hfr hdep
              have e30 : a'.tmps.getD 30 undef = _ := hdep 19 30 (Nat.le_of_ble_eq_true rfl) rfl rfl
              conv at e30 => rhs; whnf
              have f30 := e30; simp only [Array.getD_eq_getD_getElem?] at f30
              have e32 : a'.tmps.getD 32 undef = _ := hdep 21 32 (Nat.le_of_ble_eq_true rfl) rfl rfl
              conv at e32 => rhs; whnf
              have f32 := e32; simp only [Array.getD_eq_getD_getElem?] at f32
              have e33 : a'.tmps.getD 33 undef = _ := hdep 22 33 (Nat.le_of_ble_eq_true rfl) rfl rfl
              conv at e33 => rhs; whnf
              have f33 := e33; simp only [Array.getD_eq_getD_getElem?] at f33
              refine wpOp_yes rfl rfl rfl e30 (fun K hK => ?_)
              go_simp
              exact hK _ _ ⟨_, rfl, Below.refl _ _, rfl⟩
            apply free_is
            · intro a' w' hLe hfr hdep
              have e30 : a'.tmps.getD 30 undef = _ := hdep 19 30 (Nat.le_of_ble_eq_true rfl) rfl rfl
              conv at e30 => rhs; whnf
              have f30 := e30; simp only [Array.getD_eq_getD_getElem?] at f30
              have e34 : a'.tmps.getD 34 undef = _ := hdep 23 34 (Nat.le_of_ble_eq_true rfl) rfl rfl
              conv at e34 => rhs; whnf
              have f34 := e34; simp only [Array.getD_eq_getD_getElem?] at f34
              have kc := fun i => keepc hLe (bl) (by (try simp) <;> omega) i
              have kf := fun i => keepf hLe (bl) (by (try simp) <;> omega) i
              have kz : bl < w'.heap.size := (by have := hLe.size; (try simp at this); omega)
              have kc := fun i => keepc hLe (w.heap.size) (by (try simp) <;> omega) i
              have kf := fun i => keepf hLe (w.heap.size) (by (try simp) <;> omega) i
              have kz : w.heap.size < w'.heap.size := (by have := hLe.size; (try simp at this); omega)
              refine wpOp_yes rfl rfl rfl e30 (fun K hK => ?_)
              go_simp
              exact hK _ _ ⟨_, rfl, Below.refl _ _, rfl⟩
            apply free_is
            · intro a' w' hLe hfr hdep
              have e30 : a'.tmps.getD 30 undef = _ := hdep 19 30 (Nat.le_of_ble_eq_true rfl) rfl rfl
              conv at e30 => rhs; whnf
              have f30 := e30; simp only [Array.getD_eq_getD_getElem?] at f30
              have e1 := hfr 1 rfl
              conv at e1 => rhs; whnf
              have f1 := e1; simp only [Array.getD_eq_getD_getElem?] at f1
              refine wpOp_yes rfl rfl rfl e30 (fun K hK => ?_)
              go_simp
              exact hK _ _ ⟨_, rfl, Below.refl _ _, rfl⟩
            apply free_is
            · intro a' w' hLe hfr hdep
              have e30 : a'.tmps.getD 30 undef = _ := hdep 19 30 (Nat.le_of_ble_eq_true rfl) rfl rfl
              conv at e30 => rhs; whnf
              have f30 := e30; simp only [Array.getD_eq_getD_getElem?] at f30
              have e36 : a'.tmps.getD 36 undef = _ := hdep 25 36 (Nat.le_of_ble_eq_true rfl) rfl rfl
              conv at e36 => rhs; whnf
              have f36 := e36; simp only [Array.getD_eq_getD_getElem?] at f36
              have kc := fun i => keepc hLe (bl) (by (try simp) <;> omega) i
              have kf := fun i => keepf hLe (bl) (by (try simp) <;> omega) i
              have kz : bl < w'.heap.size := (by have := hLe.size; (try simp at this); omega)
              have kc := fun i => keepc hLe (w.heap.size) (by (try simp) <;> omega) i
              have kf := fun i => keepf hLe (w.heap.size) (by (try simp) <;> omega) i
              have kz : w.heap.size < w'.heap.size := (by have := hLe.size; (try simp at this); omega)
              refine wpOp_yes rfl rfl rfl e30 (fun K hK => ?_)
              go_simp
              exact hK _ _ ⟨_, rfl, Below.refl _ _, rfl⟩
            apply free_is
            · intro a' w' hLe hfr hdep
              have e30 : a'.tmps.getD 30 undef = _ := hdep 19 30 (Nat.le_of_ble_eq_true rfl) rfl rfl
              conv at e30 => rhs; whnf
              have f30 := e30; simp only [Array.getD_eq_getD_getElem?] at f30
              have e3 := hfr 3 rfl
              conv at e3 => rhs; whnf
              have f3 := e3; simp only [Array.getD_eq_getD_getElem?] at f3
              refine wpOp_yes rfl rfl rfl e30 (fun K hK => ?_)
              go_simp
              exact hK _ _ ⟨_, rfl, Below.refl _ _, rfl⟩
            apply free_is
            · intro a' w' hLe hfr hdep
              have e30 : a'.tmps.getD 30 undef = _ := hdep 19 30 (Nat.le_of_ble_eq_true rfl) rfl rfl
              conv at e30 => rhs; whnf
              have f30 := e30; simp only [Array.getD_eq_getD_getElem?] at f30
              have e38 : a'.tmps.getD 38 undef = _ := hdep 27 38 (Nat.le_of_ble_eq_true rfl) rfl rfl
              conv at e38 => rhs; whnf
              have f38 := e38; simp only [Array.getD_eq_getD_getElem?] at f38
              refine wpOp_yes rfl rfl rfl e30 (fun K hK => ?_)
              go_simp
              exact hK _ _ ⟨_, rfl, Below.refl _ _, rfl⟩
            apply free_is
            · intro a' w' hLe hfr hdep
              have e30 : a'.tmps.getD 30 undef = _ := hdep 19 30 (Nat.le_of_ble_eq_true rfl) rfl rfl
              conv at e30 => rhs; whnf
              have f30 := e30; simp only [Array.getD_eq_getD_getElem?] at f30
              have e37 : a'.tmps.getD 37 undef = _ := hdep 26 37 (Nat.le_of_ble_eq_true rfl) rfl rfl
              conv at e37 => rhs; whnf
              have f37 := e37; simp only [Array.getD_eq_getD_getElem?] at f37
              have e39 : a'.tmps.getD 39 undef = _ := hdep 28 39 (Nat.le_of_ble_eq_true rfl) rfl rfl
              conv at e39 => rhs; whnf
              have f39 := e39; simp only [Array.getD_eq_getD_getElem?] at f39
              refine wpOp_yes rfl rfl rfl e30 (fun K hK => ?_)
              go_simp
              exact hK _ _ ⟨_, rfl, Below.refl _ _, rfl⟩
            apply free_is
            · intro a' w' hLe hfr hdep
              have e30 : a'.tmps.getD 30 undef = _ := hdep 19 30 (Nat.le_of_ble_eq_true rfl) rfl rfl
              conv at e30 => rhs; whnf
              have f30 := e30; simp only [Array.getD_eq_getD_getElem?] at f30
              have e40 : a'.tmps.getD 40 undef = _ := hdep 29 40 (Nat.le_of_ble_eq_true rfl) rfl rfl
              conv at e40 => rhs; whnf
              have f40 := e40; simp only [Array.getD_eq_getD_getElem?] at f40
              have kc := fun i => keepc hLe (bl) (by (try simp) <;> omega) i
              have kf := fun i => keepf hLe (bl) (by (try simp) <;> omega) i
              have kz : bl < w'.heap.size := (by have := hLe.size; (try simp at this); omega)
              have kc := fun i => keepc hLe (w.heap.size) (by (try simp) <;> omega) i
              have kf := fun i => keepf hLe (w.heap.size) (by (try simp) <;> omega) i
              have kz : w.heap.size < w'.heap.size := (by have := hLe.size; (try simp at this); omega)
              refine wpOp_yes rfl rfl rfl e30 (fun K hK => ?_)
              go_simp
              exact hK _ _ ⟨_, rfl, Below.refl _ _, rfl⟩
            apply free_is
            · intro a' w' hLe hfr hdep
              have e30 : a'.tmps.getD 30 undef = _ := hdep 19 30 (Nat.le_of_ble_eq_true rfl) rfl rfl
              conv at e30 => rhs; whnf
              have f30 := e30; simp only [Array.getD_eq_getD_getElem?] at f30
              have e35 : a'.tmps.getD 35 undef = _ := hdep 24 35 (Nat.le_of_ble_eq_true rfl) rfl rfl
              conv at e35 => rhs; whnf
              have f35 := e35; simp only [Array.getD_eq_getD_getElem?] at f35
              have e41 : a'.tmps.getD 41 undef = _ := hdep 30 41 (Nat.le_of_ble_eq_true rfl) rfl rfl
              conv at e41 => rhs; whnf
              have f41 := e41; simp only [Array.getD_eq_getD_getElem?] at f41
              refine wpOp_yes rfl rfl rfl e30 (fun K hK => ?_)
              go_simp
              exact hK _ _ ⟨_, rfl, Below.refl _ _, rfl⟩
            apply free_is
            · intro a' w' hLe hfr hdep
              have e27 : a'.tmps.getD 27 undef = _ := hdep 16 27 (Nat.le_of_ble_eq_true rfl) rfl rfl
              conv at e27 => rhs; whnf
              have f27 := e27; simp only [Array.getD_eq_getD_getElem?] at f27
              have e30 : a'.tmps.getD 30 undef = _ := hdep 19 30 (Nat.le_of_ble_eq_true rfl) rfl rfl
              conv at e30 => rhs; whnf
              have f30 := e30; simp only [Array.getD_eq_getD_getElem?] at f30
              have e42 : a'.tmps.getD 42 undef = _ := hdep 31 42 (Nat.le_of_ble_eq_true rfl) rfl rfl
              conv at e42 => rhs; whnf
              have f42 := e42; simp only [Array.getD_eq_getD_getElem?] at f42
              refine wpOp_yes rfl rfl rfl e27 (fun K hK => ?_)
              go_simp
              exact hK _ _ ⟨_, rfl, Below.refl _ _, rfl⟩
            apply free_is
            · intro a' w' hLe hfr hdep
              have e27 : a'.tmps.getD 27 undef = _ := hdep 16 27 (Nat.le_of_ble_eq_true rfl) rfl rfl
              conv at e27 => rhs; whnf
              have f27 := e27; simp only [Array.getD_eq_getD_getElem?] at f27
              have e43 : a'.tmps.getD 43 undef = _ := hdep 32 43 (Nat.le_of_ble_eq_true rfl) rfl rfl
              conv at e43 => rhs; whnf
              have f43 := e43; simp only [Array.getD_eq_getD_getElem?] at f43
              refine wpOp_plain rfl rfl (fun K hK => ?_)
              go_simp
              exact hK _ _ ⟨_, rfl, Below.refl _ _, rfl⟩
            apply free_nil
            intro vs w4 hb4 hT4
            have e11 : vs 0 = _ := hT4 0 11 rfl
            conv at e11 => rhs; whnf
            have e12 : vs 1 = _ := hT4 1 12 rfl
            conv at e12 => rhs; whnf
            have e13 : vs 2 = _ := hT4 2 13 rfl
            conv at e13 => rhs; whnf
            have e14 : vs 3 = _ := hT4 3 14 rfl
            conv at e14 => rhs; whnf
            have e15 : vs 4 = _ := hT4 4 15 rfl
            conv at e15 => rhs; whnf
            have e16 : vs 5 = _ := hT4 5 16 rfl
            conv at e16 => rhs; whnf
            have e17 : vs 6 = _ := hT4 6 17 rfl
            conv at e17 => rhs; whnf
            have e18 : vs 7 = _ := hT4 7 18 rfl
            conv at e18 => rhs; whnf
            have e19 : vs 8 = _ := hT4 8 19 rfl
            conv at e19 => rhs; whnf
            have e20 : vs 9 = _ := hT4 9 20 rfl
            conv at e20 => rhs; whnf
            have e21 : vs 10 = _ := hT4 10 21 rfl
            conv at e21 => rhs; whnf
            have e22 : vs 11 = _ := hT4 11 22 rfl
            conv at e22 => rhs; whnf
            have e23 : vs 12 = _ := hT4 12 23 rfl
            conv at e23 => rhs; whnf
            have e24 : vs 13 = _ := hT4 13 24 rfl
            conv at e24 => rhs; whnf
            have e25 : vs 14 = _ := hT4 14 25 rfl
            conv at e25 => rhs; whnf
            have e26 : vs 15 = _ := hT4 15 26 rfl
            conv at e26 => rhs; whnf
            have e27 : vs 16 = _ := hT4 16 27 rfl
            conv at e27 => rhs; whnf
            have e28 : vs 17 = _ := hT4 17 28 rfl
            conv at e28 => rhs; whnf
            have e29 : vs 18 = _ := hT4 18 29 rfl
            conv at e29 => rhs; whnf
            have e30 : vs 19 = _ := hT4 19 30 rfl
            conv at e30 => rhs; whnf
            have e31 : vs 20 = _ := hT4 20 31 rfl
            conv at e31 => rhs; whnf
            have e32 : vs 21 = _ := hT4 21 32 rfl
            conv at e32 => rhs; whnf
            have e33 : vs 22 = _ := hT4 22 33 rfl
            conv at e33 => rhs; whnf
            have e34 : vs 23 = _ := hT4 23 34 rfl
            conv at e34 => rhs; whnf
            have e35 : vs 24 = _ := hT4 24 35 rfl
            conv at e35 => rhs; whnf
            have e36 : vs 25 = _ := hT4 25 36 rfl
            conv at e36 => rhs; whnf
            have e37 : vs 26 = _ := hT4 26 37 rfl
            conv at e37 => rhs; whnf
            have e38 : vs 27 = _ := hT4 27 38 rfl
            conv at e38 => rhs; whnf
            have e39 : vs 28 = _ := hT4 28 39 rfl
            conv at e39 => rhs; whnf
            have e40 : vs 29 = _ := hT4 29 40 rfl
            conv at e40 => rhs; whnf
            have e41 : vs 30 = _ := hT4 30 41 rfl
            conv at e41 => rhs; whnf
            have e42 : vs 31 = _ := hT4 31 42 rfl
            conv at e42 => rhs; whnf
            have e43 : vs 32 = _ := hT4 32 43 rfl
            conv at e43 => rhs; whnf
            have e44 : vs 33 = _ := hT4 33 44 rfl
            conv at e44 => rhs; whnf
            simp only [putAll, List.drop_succ_cons, List.drop_zero, e11, e12, e13, e14, e15, e16, e17, e18, e19, e20, e21, e22, e23, e24, e25, e26, e27, e28, e29, e30, e31, e32, e33, e34, e35, e36, e37, e38, e39, e40, e41, e42, e43, e44]
            clear hT4 e11 e12 e13 e14 e15 e16 e17 e18 e19 e20 e21 e22 e23 e24 e25 e26 e27 e28 e29 e30 e31 e32 e33 e34 e35 e36 e37 e38 e39 e40 e41 e42 e43 e44
            go_simp
            go_wp2
            go_roundw
            case rel => exact ⟨i + 1 + 1, by omega, by go_num, HO.out, by (repeat (first | exact Below.refl _ _ | assumption | refine Below.al ?_ _ | refine Below.dr ?_ | (refine Below.st ?_ (by simp <;> omega) _) | (refine Below.tr ?_ (by assumption))))⟩
            case measure => simp [intOf]; omega
    · obtain rfl : j = n := by omega
      have he := Lib.hid (HE.out hok)
      clear hrow hok
      go_wp2_with (go_at_call 16; refine (l1In_any _ _ _ _).mono ?_; rintro e w' ⟨rfl, rfl⟩)
      go_ret
      exact ⟨by rw [he.out] <;> rfl, by (repeat (first | exact Below.refl _ _ | assumption | refine Below.al ?_ _ | refine Below.dr ?_ | (refine Below.st ?_ (by simp <;> omega) _) | (refine Below.tr ?_ (by assumption))))⟩

set_option maxHeartbeats 4000000 in
theorem specReceiverValid_no {w : World} {B : Nat} {A : Option Addr} {n c : Nat} {h : Nat → Int} (nx rm : Int) (H : Rws w B 1 A n c (intR h)) (hB : B ≤ w.heap.size) (hbad : inB nx 0 100000 = false ∨ inB nx 0 100000 = true ∧ inB rm 1 10 = false) :
    Calls Try.prog 7 #[.agg #[.int .i64 nx, .int .i64 rm, .slice A n c]] w fun e w' => e = .returned (.bool false) ∧ Below w.heap.size w w' := by
  obtain ⟨⟨hnc, hcm⟩, hrow⟩ := H
  unfold maxLen at hcm
  have hbd := Lib.hid hbad
  clear hbad
  go_enter Try.func7, Try.ntmps7
  go_wp2
  go_loopw [3] (fun i wr => ∃ j : Nat, j ≤ n ∧ i = .int .i64 j ∧ Below (w.alloc (.cells #[.int .i64 nx, .int .i64 rm, .slice A n c] 25)).heap.size (w.alloc (.cells #[.int .i64 nx, .int .i64 rm, .slice A n c] 25)) wr) (fun i _ => n - (intOf i).toNat)
  case atStart => exact ⟨0, by omega, rfl, Below.refl _ _⟩
  case round =>
    obtain ⟨j, hj, rfl, hBw⟩ := hrel
    have hB0 : Below w.heap.size w wr := Below.tr (by (repeat (first | exact Below.refl _ _ | assumption | refine Below.al ?_ _ | refine Below.dr ?_ | (refine Below.st ?_ (by simp <;> omega) _) | (refine Below.tr ?_ (by assumption))))) hBw
    have hfs : w.heap.size < wr.heap.size := by have := hBw.size; simp at this; omega
    have kf : ∀ i, wr.cell? ⟨w.heap.size, i, none⟩ = #[Value.int .i64 nx, .int .i64 rm, .slice A n c][i]? := fun i => (keepc hBw w.heap.size (by simp) i).trans ((blk (heap_alloc_new w _)).1 i)
    by_cases hlt : j < n
    · obtain ⟨bl, off, rfl, hbB, hc⟩ := hrow (by omega)
      have hr := hc j hlt
      rw [Nat.mul_one] at hr
      have hbs : bl < wr.heap.size := by have := hB0.size; omega
      have q0 : wr.cell? ⟨bl, off + j, none⟩ = some (.int .i64 (h j)) := (keepc hB0 bl (by omega) _).trans (hr 0 _ rfl)
      cases h3 : inB (h j) (IntKind.i64.wrap (nx + 1)) (IntKind.i64.wrap (IntKind.i64.wrap (nx + rm) - 1)) with
      | false =>
        clear hc hrow hr
        go_wp2
        refine wp_region_free (ds := [(0, 11), (1, 12), (2, 13), (3, 14), (4, 15), (5, 16), (6, 17), (7, 18), (8, 19), (9, 20), (10, 21), (11, 22), (12, 23), (13, 24), (14, 25), (15, 26), (16, 27), (17, 28), (18, 29), (19, 30), (20, 31), (21, 32), (22, 33), (23, 34), (24, 35), (25, 36), (26, 37), (27, 38), (28, 39), (29, 40), (30, 41), (31, 42), (32, 43), (33, 44)]) 34 (by kernel_rfl) (by kernel_rfl) (by first | exact .inl rfl | exact .inr (by kernel_rfl)) (by rfl) rfl rfl ?_
        apply free_is
        · intro a' w' hLe hfr hdep
          have e1 := hfr 1 rfl
          conv at e1 => rhs; whnf
          have f1 := e1; simp only [Array.getD_eq_getD_getElem?] at f1
          refine wpOp_plain rfl rfl (fun K hK => ?_)
          go_simp
          exact hK _ _ ⟨_, rfl, Below.refl _ _, rfl⟩
        apply free_is
        · intro a' w' hLe hfr hdep
          have e11 : a'.tmps.getD 11 undef = _ := hdep 0 11 (Nat.le_of_ble_eq_true rfl) rfl rfl
          conv at e11 => rhs; whnf
          have f11 := e11; simp only [Array.getD_eq_getD_getElem?] at f11
          have kc := fun i => keepc hLe (bl) (by (try simp) <;> omega) i
          have kf := fun i => keepf hLe (bl) (by (try simp) <;> omega) i
          have kz : bl < w'.heap.size := (by have := hLe.size; (try simp at this); omega)
          have kc := fun i => keepc hLe (w.heap.size) (by (try simp) <;> omega) i
          have kf := fun i => keepf hLe (w.heap.size) (by (try simp) <;> omega) i
          have kz : w.heap.size < w'.heap.size := (by have := hLe.size; (try simp at this); omega)
          refine wpOp_plain rfl rfl (fun K hK => ?_)
          go_simp
          exact hK _ _ ⟨_, rfl, Below.refl _ _, rfl⟩
        apply free_is
        · intro a' w' hLe hfr hdep
          have e3 := hfr 3 rfl
          conv at e3 => rhs; whnf
          have f3 := e3; simp only [Array.getD_eq_getD_getElem?] at f3
          refine wpOp_plain rfl rfl (fun K hK => ?_)
          go_simp
          exact hK _ _ ⟨_, rfl, Below.refl _ _, rfl⟩
        apply free_is
        · intro a' w' hLe hfr hdep
          have e12 : a'.tmps.getD 12 undef = _ := hdep 1 12 (Nat.le_of_ble_eq_true rfl) rfl rfl
          conv at e12 => rhs; whnf
          have f12 := e12; simp only [Array.getD_eq_getD_getElem?] at f12
          have e13 : a'.tmps.getD 13 undef = _ := hdep 2 13 (Nat.le_of_ble_eq_true rfl) rfl rfl
          conv at e13 => rhs; whnf
          have f13 := e13; simp only [Array.getD_eq_getD_getElem?] at f13
          refine wpOp_plain rfl rfl (fun K hK => ?_)
          go_simp
          exact hK _ _ ⟨_, rfl, Below.refl _ _, rfl⟩
        apply free_is
        · intro a' w' hLe hfr hdep
          have e14 : a'.tmps.getD 14 undef = _ := hdep 3 14 (Nat.le_of_ble_eq_true rfl) rfl rfl
          conv at e14 => rhs; whnf
          have f14 := e14; simp only [Array.getD_eq_getD_getElem?] at f14
          have kc := fun i => keepc hLe (bl) (by (try simp) <;> omega) i
          have kf := fun i => keepf hLe (bl) (by (try simp) <;> omega) i
          have kz : bl < w'.heap.size := (by have := hLe.size; (try simp at this); omega)
          have kc := fun i => keepc hLe (w.heap.size) (by (try simp) <;> omega) i
          have kf := fun i => keepf hLe (w.heap.size) (by (try simp) <;> omega) i
          have kz : w.heap.size < w'.heap.size := (by have := hLe.size; (try simp at this); omega)
          refine wpOp_plain rfl rfl (fun K hK => ?_)
          go_simp
          exact hK _ _ ⟨_, rfl, Below.refl _ _, rfl⟩
        apply free_is
        · intro a' w' hLe hfr hdep
          have e1 := hfr 1 rfl
          conv at e1 => rhs; whnf
          have f1 := e1; simp only [Array.getD_eq_getD_getElem?] at f1
          refine wpOp_plain rfl rfl (fun K hK => ?_)
          go_simp
          exact hK _ _ ⟨_, rfl, Below.refl _ _, rfl⟩
        apply free_is
        · intro a' w' hLe hfr hdep
          have e16 : a'.tmps.getD 16 undef = _ := hdep 5 16 (Nat.le_of_ble_eq_true rfl) rfl rfl
          conv at e16 => rhs; whnf
          have f16 := e16; simp only [Array.getD_eq_getD_getElem?] at f16
          have kc := fun i => keepc hLe (bl) (by (try simp) <;> omega) i
          have kf := fun i => keepf hLe (bl) (by (try simp) <;> omega) i
          have kz : bl < w'.heap.size := (by have := hLe.size; (try simp at this); omega)
          have kc := fun i => keepc hLe (w.heap.size) (by (try simp) <;> omega) i
          have kf := fun i => keepf hLe (w.heap.size) (by (try simp) <;> omega) i
          have kz : w.heap.size < w'.heap.size := (by have := hLe.size; (try simp at this); omega)
          refine wpOp_plain rfl rfl (fun K hK => ?_)
          go_simp
          exact hK _ _ ⟨_, rfl, Below.refl _ _, rfl⟩
        apply free_is
        · intro a' w' hLe hfr hdep
          have e17 : a'.tmps.getD 17 undef = _ := hdep 6 17 (Nat.le_of_ble_eq_true rfl) rfl rfl
          conv at e17 => rhs; whnf
          have f17 := e17; simp only [Array.getD_eq_getD_getElem?] at f17
          refine wpOp_plain rfl rfl (fun K hK => ?_)
          go_simp
          exact hK _ _ ⟨_, rfl, Below.refl _ _, rfl⟩
        apply free_is
        · intro a' w' hLe hfr hdep
          have e1 := hfr 1 rfl
          conv at e1 => rhs; whnf
          have f1 := e1; simp only [Array.getD_eq_getD_getElem?] at f1
          refine wpOp_plain rfl rfl (fun K hK => ?_)
          go_simp
          exact hK _ _ ⟨_, rfl, Below.refl _ _, rfl⟩
        apply free_is
        · intro a' w' hLe hfr hdep
          have e19 : a'.tmps.getD 19 undef = _ := hdep 8 19 (Nat.le_of_ble_eq_true rfl) rfl rfl
          conv at e19 => rhs; whnf
          have f19 := e19; simp only [Array.getD_eq_getD_getElem?] at f19
          have kc := fun i => keepc hLe (bl) (by (try simp) <;> omega) i
          have kf := fun i => keepf hLe (bl) (by (try simp) <;> omega) i
          have kz : bl < w'.heap.size := (by have := hLe.size; (try simp at this); omega)
          have kc := fun i => keepc hLe (w.heap.size) (by (try simp) <;> omega) i
          have kf := fun i => keepf hLe (w.heap.size) (by (try simp) <;> omega) i
          have kz : w.heap.size < w'.heap.size := (by have := hLe.size; (try simp at this); omega)
          refine wpOp_plain rfl rfl (fun K hK => ?_)
          go_simp
          exact hK _ _ ⟨_, rfl, Below.refl _ _, rfl⟩
        apply free_is
        · intro a' w' hLe hfr hdep
          have e1 := hfr 1 rfl
          conv at e1 => rhs; whnf
          have f1 := e1; simp only [Array.getD_eq_getD_getElem?] at f1
          refine wpOp_plain rfl rfl (fun K hK => ?_)
          go_simp
          exact hK _ _ ⟨_, rfl, Below.refl _ _, rfl⟩
        apply free_is
        · intro a' w' hLe hfr hdep
          have e21 : a'.tmps.getD 21 undef = _ := hdep 10 21 (Nat.le_of_ble_eq_true rfl) rfl rfl
          conv at e21 => rhs; whnf
          have f21 := e21; simp only [Array.getD_eq_getD_getElem?] at f21
          have kc := fun i => keepc hLe (bl) (by (try simp) <;> omega) i
          have kf := fun i => keepf hLe (bl) (by (try simp) <;> omega) i
          have kz : bl < w'.heap.size := (by have := hLe.size; (try simp at this); omega)
          have kc := fun i => keepc hLe (w.heap.size) (by (try simp) <;> omega) i
          have kf := fun i => keepf hLe (w.heap.size) (by (try simp) <;> omega) i
          have kz : w.heap.size < w'.heap.size := (by have := hLe.size; (try simp at this); omega)
          refine wpOp_plain rfl rfl (fun K hK => ?_)
          go_simp
          exact hK _ _ ⟨_, rfl, Below.refl _ _, rfl⟩
        apply free_is
        · intro a' w' hLe hfr hdep
          have e20 : a'.tmps.getD 20 undef = _ := hdep 9 20 (Nat.le_of_ble_eq_true rfl) rfl rfl
          conv at e20 => rhs; whnf
          have f20 := e20; simp only [Array.getD_eq_getD_getElem?] at f20
          have e22 : a'.tmps.getD 22 undef = _ := hdep 11 22 (Nat.le_of_ble_eq_true rfl) rfl rfl
          conv at e22 => rhs; whnf
          have f22 := e22; simp only [Array.getD_eq_getD_getElem?] at f22
          refine wpOp_plain rfl rfl (fun K hK => ?_)
          go_simp
          exact hK _ _ ⟨_, rfl, Below.refl _ _, rfl⟩
        apply free_is
        · intro a' w' hLe hfr hdep
          have e23 : a'.tmps.getD 23 undef = _ := hdep 12 23 (Nat.le_of_ble_eq_true rfl) rfl rfl
          conv at e23 => rhs; whnf
          have f23 := e23; simp only [Array.getD_eq_getD_getElem?] at f23
          refine wpOp_plain rfl rfl (fun K hK => ?_)
          go_simp
          exact hK _ _ ⟨_, rfl, Below.refl _ _, rfl⟩
        apply free_is
        · intro a' w' hLe hfr hdep
          have e15 : a'.tmps.getD 15 undef = _ := hdep 4 15 (Nat.le_of_ble_eq_true rfl) rfl rfl
          conv at e15 => rhs; whnf
          have f15 := e15; simp only [Array.getD_eq_getD_getElem?] at f15
          have e18 : a'.tmps.getD 18 undef = _ := hdep 7 18 (Nat.le_of_ble_eq_true rfl) rfl rfl
          conv at e18 => rhs; whnf
          have f18 := e18; simp only [Array.getD_eq_getD_getElem?] at f18
          have e24 : a'.tmps.getD 24 undef = _ := hdep 13 24 (Nat.le_of_ble_eq_true rfl) rfl rfl
          conv at e24 => rhs; whnf
          have f24 := e24; simp only [Array.getD_eq_getD_getElem?] at f24
          have kc := fun i => keepc hLe (bl) (by (try simp) <;> omega) i
          have kf := fun i => keepf hLe (bl) (by (try simp) <;> omega) i
          have kz : bl < w'.heap.size := (by have := hLe.size; (try simp at this); omega)
          have kc := fun i => keepc hLe (w.heap.size) (by (try simp) <;> omega) i
          have kf := fun i => keepf hLe (w.heap.size) (by (try simp) <;> omega) i
          have kz : w.heap.size < w'.heap.size := (by have := hLe.size; (try simp at this); omega)
          refine wpOp_plain rfl rfl (fun K hK => ?_)
          go_simp
          refine (l1In_any _ _ _ _).mono ?_
          rintro e w2 ⟨rfl, rfl⟩
          exact hK _ _ ⟨_, rfl, Below.refl _ _, rfl⟩
        apply free_is
        · intro a' w' hLe hfr hdep
          have e25 : a'.tmps.getD 25 undef = _ := hdep 14 25 (Nat.le_of_ble_eq_true rfl) rfl rfl
          conv at e25 => rhs; whnf
          have f25 := e25; simp only [Array.getD_eq_getD_getElem?] at f25
          refine wpOp_plain rfl rfl (fun K hK => ?_)
          go_simp
          exact hK _ _ ⟨_, rfl, Below.refl _ _, rfl⟩
        apply free_is
        · intro a' w' hLe hfr hdep
          have e26 : a'.tmps.getD 26 undef = _ := hdep 15 26 (Nat.le_of_ble_eq_true rfl) rfl rfl
          conv at e26 => rhs; whnf
          have f26 := e26; simp only [Array.getD_eq_getD_getElem?] at f26
          refine wpOp_plain rfl rfl (fun K hK => ?_)
          go_simp
          exact hK _ _ ⟨_, rfl, Below.refl _ _, rfl⟩
        apply free_is
        · intro a' w' hLe hfr hdep
          have e27 : a'.tmps.getD 27 undef = _ := hdep 16 27 (Nat.le_of_ble_eq_true rfl) rfl rfl
          conv at e27 => rhs; whnf
          have f27 := e27; simp only [Array.getD_eq_getD_getElem?] at f27
          exact wpOp_no rfl rfl rfl e27 ⟨_, rfl, Below.refl _ _, rfl⟩
        apply free_is
        · intro a' w' hLe hfr hdep
          have e27 : a'.tmps.getD 27 undef = _ := hdep 16 27 (Nat.le_of_ble_eq_true rfl) rfl rfl
          conv at e27 => rhs; whnf
          have f27 := e27; simp only [Array.getD_eq_getD_getElem?] at f27
          exact wpOp_no rfl rfl rfl e27 ⟨_, rfl, Below.refl _ _, rfl⟩
        apply free_is
        · intro a' w' hLe hfr hdep
          have e27 : a'.tmps.getD 27 undef = _ := hdep 16 27 (Nat.le_of_ble_eq_true rfl) rfl rfl
          conv at e27 => rhs; whnf
          have f27 := e27; simp only [Array.getD_eq_getD_getElem?] at f27
          exact wpOp_no rfl rfl rfl e27 ⟨_, rfl, Below.refl _ _, rfl⟩
        apply free_is
        · intro a' w' hLe hfr hdep
          have e30 : a'.tmps.getD 30 undef = _ := hdep 19 30 (Nat.le_of_ble_eq_true rfl) rfl rfl
          conv at e30 => rhs; whnf
          have f30 := e30; simp only [Array.getD_eq_getD_getElem?] at f30
          exact wpOp_un rfl rfl rfl e30 ⟨_, rfl, Below.refl _ _, rfl⟩
        apply free_is
        · intro a' w' hLe hfr hdep
          have e30 : a'.tmps.getD 30 undef = _ := hdep 19 30 (Nat.le_of_ble_eq_true rfl) rfl rfl
          conv at e30 => rhs; whnf
          have f30 := e30; simp only [Array.getD_eq_getD_getElem?] at f30
          exact wpOp_un rfl rfl rfl e30 ⟨_, rfl, Below.refl _ _, rfl⟩
        apply free_is
        · intro a' w' hLe hfr hdep
          have e30 : a'.tmps.getD 30 undef = _ := hdep 19 30 (Nat.le_of_ble_eq_true rfl) rfl rfl
          conv at e30 => rhs; whnf
          have f30 := e30; simp only [Array.getD_eq_getD_getElem?] at f30
          exact wpOp_un rfl rfl rfl e30 ⟨_, rfl, Below.refl _ _, rfl⟩
        apply free_is
        · intro a' w' hLe hfr hdep
          have e30 : a'.tmps.getD 30 undef = _ := hdep 19 30 (Nat.le_of_ble_eq_true rfl) rfl rfl
          conv at e30 => rhs; whnf
          have f30 := e30; simp only [Array.getD_eq_getD_getElem?] at f30
          exact wpOp_un rfl rfl rfl e30 ⟨_, rfl, Below.refl _ _, rfl⟩
        apply free_is
        · intro a' w' hLe hfr hdep
          have e30 : a'.tmps.getD 30 undef = _ := hdep 19 30 (Nat.le_of_ble_eq_true rfl) rfl rfl
          conv at e30 => rhs; whnf
          have f30 := e30; simp only [Array.getD_eq_getD_getElem?] at f30
          exact wpOp_un rfl rfl rfl e30 ⟨_, rfl, Below.refl _ _, rfl⟩
        apply free_is
        · intro a' w' hLe hfr hdep
          have e30 : a'.tmps.getD 30 undef = _ := hdep 19 30 (Nat.le_of_ble_eq_true rfl) rfl rfl
          conv at e30 => rhs; whnf
          have f30 := e30; simp only [Array.getD_eq_getD_getElem?] at f30
          exact wpOp_un rfl rfl rfl e30 ⟨_, rfl, Below.refl _ _, rfl⟩
        apply free_is
        · intro a' w' hLe hfr hdep
          have e30 : a'.tmps.getD 30 undef = _ := hdep 19 30 (Nat.le_of_ble_eq_true rfl) rfl rfl
          conv at e30 => rhs; whnf
          have f30 := e30; simp only [Array.getD_eq_getD_getElem?] at f30
          exact wpOp_un rfl rfl rfl e30 ⟨_, rfl, Below.refl _ _, rfl⟩
        apply free_is
        · intro a' w' hLe hfr hdep
          have e30 : a'.tmps.getD 30 undef = _ := hdep 19 30 (Nat.le_of_ble_eq_true rfl) rfl rfl
          conv at e30 => rhs; whnf
          have f30 := e30; simp only [Array.getD_eq_getD_getElem?] at f30
          exact wpOp_un rfl rfl rfl e30 ⟨_, rfl, Below.refl _ _, rfl⟩
        apply free_is
        · intro a' w' hLe hfr hdep
          have e30 : a'.tmps.getD 30 undef = _ := hdep 19 30 (Nat.le_of_ble_eq_true rfl) rfl rfl
          conv at e30 => rhs; whnf
          have f30 := e30; simp only [Array.getD_eq_getD_getElem?] at f30
          exact wpOp_un rfl rfl rfl e30 ⟨_, rfl, Below.refl _ _, rfl⟩
        apply free_is
        · intro a' w' hLe hfr hdep
          have e30 : a'.tmps.getD 30 undef = _ := hdep 19 30 (Nat.le_of_ble_eq_true rfl) rfl rfl
          conv at e30 => rhs; whnf
          have f30 := e30; simp only [Array.getD_eq_getD_getElem?] at f30
          exact wpOp_un rfl rfl rfl e30 ⟨_, rfl, Below.refl _ _, rfl⟩
        apply free_is
        · intro a' w' hLe hfr hdep
          have e30 : a'.tmps.getD 30 undef = _ := hdep 19 30 (Nat.le_of_ble_eq_true rfl) rfl rfl
          conv at e30 => rhs; whnf
          have f30 := e30; simp only [Array.getD_eq_getD_getElem?] at f30
          exact wpOp_un rfl rfl rfl e30 ⟨_, rfl, Below.refl _ _, rfl⟩
        apply free_is
        · intro a' w' hLe hfr hdep
          have e30 : a'.tmps.getD 30 undef = _ := hdep 19 30 (Nat.le_of_ble_eq_true rfl) rfl rfl
          conv at e30 => rhs; whnf
          have f30 := e30; simp only [Array.getD_eq_getD_getElem?] at f30
          exact wpOp_un rfl rfl rfl e30 ⟨_, rfl, Below.refl _ _, rfl⟩
        apply free_is
        · intro a' w' hLe hfr hdep
          have e27 : a'.tmps.getD 27 undef = _ := hdep 16 27 (Nat.le_of_ble_eq_true rfl) rfl rfl
          conv at e27 => rhs; whnf
          have f27 := e27; simp only [Array.getD_eq_getD_getElem?] at f27
          exact wpOp_no rfl rfl rfl e27 ⟨_, rfl, Below.refl _ _, rfl⟩
        apply free_is
        · intro a' w' hLe hfr hdep
          have e27 : a'.tmps.getD 27 undef = _ := hdep 16 27 (Nat.le_of_ble_eq_true rfl) rfl rfl
          conv at e27 => rhs; whnf
          have f27 := e27; simp only [Array.getD_eq_getD_getElem?] at f27
          have e43 : a'.tmps.getD 43 undef = _ := hdep 32 43 (Nat.le_of_ble_eq_true rfl) rfl rfl
          conv at e43 => rhs; whnf
          have f43 := e43; simp only [Array.getD_eq_getD_getElem?] at f43
          refine wpOp_plain rfl rfl (fun K hK => ?_)
          go_simp
          exact hK _ _ ⟨_, rfl, Below.refl _ _, rfl⟩
        apply free_nil
        intro vs w4 hb4 hT4
        have e11 : vs 0 = _ := hT4 0 11 rfl
        conv at e11 => rhs; whnf
        have e12 : vs 1 = _ := hT4 1 12 rfl
        conv at e12 => rhs; whnf
        have e13 : vs 2 = _ := hT4 2 13 rfl
        conv at e13 => rhs; whnf
        have e14 : vs 3 = _ := hT4 3 14 rfl
        conv at e14 => rhs; whnf
        have e15 : vs 4 = _ := hT4 4 15 rfl
        conv at e15 => rhs; whnf
        have e16 : vs 5 = _ := hT4 5 16 rfl
        conv at e16 => rhs; whnf
        have e17 : vs 6 = _ := hT4 6 17 rfl
        conv at e17 => rhs; whnf
        have e18 : vs 7 = _ := hT4 7 18 rfl
        conv at e18 => rhs; whnf
        have e19 : vs 8 = _ := hT4 8 19 rfl
        conv at e19 => rhs; whnf
        have e20 : vs 9 = _ := hT4 9 20 rfl
        conv at e20 => rhs; whnf
        have e21 : vs 10 = _ := hT4 10 21 rfl
        conv at e21 => rhs; whnf
        have e22 : vs 11 = _ := hT4 11 22 rfl
        conv at e22 => rhs; whnf
        have e23 : vs 12 = _ := hT4 12 23 rfl
        conv at e23 => rhs; whnf
        have e24 : vs 13 = _ := hT4 13 24 rfl
        conv at e24 => rhs; whnf
        have e25 : vs 14 = _ := hT4 14 25 rfl
        conv at e25 => rhs; whnf
        have e26 : vs 15 = _ := hT4 15 26 rfl
        conv at e26 => rhs; whnf
        have e27 : vs 16 = _ := hT4 16 27 rfl
        conv at e27 => rhs; whnf
        have e28 : vs 17 = _ := hT4 17 28 rfl
        conv at e28 => rhs; whnf
        have e29 : vs 18 = _ := hT4 18 29 rfl
        conv at e29 => rhs; whnf
        have e30 : vs 19 = _ := hT4 19 30 rfl
        conv at e30 => rhs; whnf
        have e31 : vs 20 = _ := hT4 20 31 rfl
        conv at e31 => rhs; whnf
        have e32 : vs 21 = _ := hT4 21 32 rfl
        conv at e32 => rhs; whnf
        have e33 : vs 22 = _ := hT4 22 33 rfl
        conv at e33 => rhs; whnf
        have e34 : vs 23 = _ := hT4 23 34 rfl
        conv at e34 => rhs; whnf
        have e35 : vs 24 = _ := hT4 24 35 rfl
        conv at e35 => rhs; whnf
        have e36 : vs 25 = _ := hT4 25 36 rfl
        conv at e36 => rhs; whnf
        have e37 : vs 26 = _ := hT4 26 37 rfl
        conv at e37 => rhs; whnf
        have e38 : vs 27 = _ := hT4 27 38 rfl
        conv at e38 => rhs; whnf
        have e39 : vs 28 = _ := hT4 28 39 rfl
        conv at e39 => rhs; whnf
        have e40 : vs 29 = _ := hT4 29 40 rfl
        conv at e40 => rhs; whnf
        have e41 : vs 30 = _ := hT4 30 41 rfl
        conv at e41 => rhs; whnf
        have e42 : vs 31 = _ := hT4 31 42 rfl
        conv at e42 => rhs; whnf
        have e43 : vs 32 = _ := hT4 32 43 rfl
        conv at e43 => rhs; whnf
        have e44 : vs 33 = _ := hT4 33 44 rfl
        conv at e44 => rhs; whnf
        simp only [putAll, List.drop_succ_cons, List.drop_zero, e11, e12, e13, e14, e15, e16, e17, e18, e19, e20, e21, e22, e23, e24, e25, e26, e27, e28, e29, e30, e31, e32, e33, e34, e35, e36, e37, e38, e39, e40, e41, e42, e43, e44]
        clear hT4 e11 e12 e13 e14 e15 e16 e17 e18 e19 e20 e21 e22 e23 e24 e25 e26 e27 e28 e29 e30 e31 e32 e33 e34 e35 e36 e37 e38 e39 e40 e41 e42 e43 e44
        go_simp
        go_wp2
        go_ret
        exact ⟨rfl, by (repeat (first | exact Below.refl _ _ | assumption | refine Below.al ?_ _ | refine Below.dr ?_ | (refine Below.st ?_ (by simp <;> omega) _) | (refine Below.tr ?_ (by assumption))))⟩
      | true =>
        rcases Nat.eq_zero_or_pos j with rfl | hpos
        · clear hc hrow hr
          simp only [Nat.add_zero] at q0
          go_wp2
          refine wp_region_free (ds := [(0, 11), (1, 12), (2, 13), (3, 14), (4, 15), (5, 16), (6, 17), (7, 18), (8, 19), (9, 20), (10, 21), (11, 22), (12, 23), (13, 24), (14, 25), (15, 26), (16, 27), (17, 28), (18, 29), (19, 30), (20, 31), (21, 32), (22, 33), (23, 34), (24, 35), (25, 36), (26, 37), (27, 38), (28, 39), (29, 40), (30, 41), (31, 42), (32, 43), (33, 44)]) 34 (by kernel_rfl) (by kernel_rfl) (by first | exact .inl rfl | exact .inr (by kernel_rfl)) (by rfl) rfl rfl ?_
          apply free_is
          · intro a' w' hLe hfr hdep
            have e1 := hfr 1 rfl
            conv at e1 => rhs; whnf
            have f1 := e1; simp only [Array.getD_eq_getD_getElem?] at f1
            refine wpOp_plain rfl rfl (fun K hK => ?_)
            go_simp
            exact hK _ _ ⟨_, rfl, Below.refl _ _, rfl⟩
          apply free_is
          · intro a' w' hLe hfr hdep
            have e11 : a'.tmps.getD 11 undef = _ := hdep 0 11 (Nat.le_of_ble_eq_true rfl) rfl rfl
            conv at e11 => rhs; whnf
            have f11 := e11; simp only [Array.getD_eq_getD_getElem?] at f11
            have kc := fun i => keepc hLe (bl) (by (try simp) <;> omega) i
            have kf := fun i => keepf hLe (bl) (by (try simp) <;> omega) i
            have kz : bl < w'.heap.size := (by have := hLe.size; (try simp at this); omega)
            have kc := fun i => keepc hLe (w.heap.size) (by (try simp) <;> omega) i
            have kf := fun i => keepf hLe (w.heap.size) (by (try simp) <;> omega) i
            have kz : w.heap.size < w'.heap.size := (by have := hLe.size; (try simp at this); omega)
            refine wpOp_plain rfl rfl (fun K hK => ?_)
            go_simp
            exact hK _ _ ⟨_, rfl, Below.refl _ _, rfl⟩
          apply free_is
          · intro a' w' hLe hfr hdep
            have e3 := hfr 3 rfl
            conv at e3 => rhs; whnf
            have f3 := e3; simp only [Array.getD_eq_getD_getElem?] at f3
            refine wpOp_plain rfl rfl (fun K hK => ?_)
            go_simp
            exact hK _ _ ⟨_, rfl, Below.refl _ _, rfl⟩
          apply free_is
          · intro a' w' hLe hfr hdep
            have e12 : a'.tmps.getD 12 undef = _ := hdep 1 12 (Nat.le_of_ble_eq_true rfl) rfl rfl
            conv at e12 => rhs; whnf
            have f12 := e12; simp only [Array.getD_eq_getD_getElem?] at f12
            have e13 : a'.tmps.getD 13 undef = _ := hdep 2 13 (Nat.le_of_ble_eq_true rfl) rfl rfl
            conv at e13 => rhs; whnf
            have f13 := e13; simp only [Array.getD_eq_getD_getElem?] at f13
            refine wpOp_plain rfl rfl (fun K hK => ?_)
            go_simp
            exact hK _ _ ⟨_, rfl, Below.refl _ _, rfl⟩
          apply free_is
          · intro a' w' hLe hfr hdep
            have e14 : a'.tmps.getD 14 undef = _ := hdep 3 14 (Nat.le_of_ble_eq_true rfl) rfl rfl
            conv at e14 => rhs; whnf
            have f14 := e14; simp only [Array.getD_eq_getD_getElem?] at f14
            have kc := fun i => keepc hLe (bl) (by (try simp) <;> omega) i
            have kf := fun i => keepf hLe (bl) (by (try simp) <;> omega) i
            have kz : bl < w'.heap.size := (by have := hLe.size; (try simp at this); omega)
            have kc := fun i => keepc hLe (w.heap.size) (by (try simp) <;> omega) i
            have kf := fun i => keepf hLe (w.heap.size) (by (try simp) <;> omega) i
            have kz : w.heap.size < w'.heap.size := (by have := hLe.size; (try simp at this); omega)
            refine wpOp_plain rfl rfl (fun K hK => ?_)
            go_simp
            exact hK _ _ ⟨_, rfl, Below.refl _ _, rfl⟩
          apply free_is
          · intro a' w' hLe hfr hdep
            have e1 := hfr 1 rfl
            conv at e1 => rhs; whnf
            have f1 := e1; simp only [Array.getD_eq_getD_getElem?] at f1
            refine wpOp_plain rfl rfl (fun K hK => ?_)
            go_simp
            exact hK _ _ ⟨_, rfl, Below.refl _ _, rfl⟩
          apply free_is
          · intro a' w' hLe hfr hdep
            have e16 : a'.tmps.getD 16 undef = _ := hdep 5 16 (Nat.le_of_ble_eq_true rfl) rfl rfl
            conv at e16 => rhs; whnf
            have f16 := e16; simp only [Array.getD_eq_getD_getElem?] at f16
            have kc := fun i => keepc hLe (bl) (by (try simp) <;> omega) i
            have kf := fun i => keepf hLe (bl) (by (try simp) <;> omega) i
            have kz : bl < w'.heap.size := (by have := hLe.size; (try simp at this); omega)
            have kc := fun i => keepc hLe (w.heap.size) (by (try simp) <;> omega) i
            have kf := fun i => keepf hLe (w.heap.size) (by (try simp) <;> omega) i
            have kz : w.heap.size < w'.heap.size := (by have := hLe.size; (try simp at this); omega)
            refine wpOp_plain rfl rfl (fun K hK => ?_)
            go_simp
            exact hK _ _ ⟨_, rfl, Below.refl _ _, rfl⟩
          apply free_is
          · intro a' w' hLe hfr hdep
            have e17 : a'.tmps.getD 17 undef = _ := hdep 6 17 (Nat.le_of_ble_eq_true rfl) rfl rfl
            conv at e17 => rhs; whnf
            have f17 := e17; simp only [Array.getD_eq_getD_getElem?] at f17
            refine wpOp_plain rfl rfl (fun K hK => ?_)
            go_simp
            exact hK _ _ ⟨_, rfl, Below.refl _ _, rfl⟩
          apply free_is
          · intro a' w' hLe hfr hdep
            have e1 := hfr 1 rfl
            conv at e1 => rhs; whnf
            have f1 := e1; simp only [Array.getD_eq_getD_getElem?] at f1
            refine wpOp_plain rfl rfl (fun K hK => ?_)
            go_simp
            exact hK _ _ ⟨_, rfl, Below.refl _ _, rfl⟩
          apply free_is
          · intro a' w' hLe hfr hdep
            have e19 : a'.tmps.getD 19 undef = _ := hdep 8 19 (Nat.le_of_ble_eq_true rfl) rfl rfl
            conv at e19 => rhs; whnf
            have f19 := e19; simp only [Array.getD_eq_getD_getElem?] at f19
            have kc := fun i => keepc hLe (bl) (by (try simp) <;> omega) i
            have kf := fun i => keepf hLe (bl) (by (try simp) <;> omega) i
            have kz : bl < w'.heap.size := (by have := hLe.size; (try simp at this); omega)
            have kc := fun i => keepc hLe (w.heap.size) (by (try simp) <;> omega) i
            have kf := fun i => keepf hLe (w.heap.size) (by (try simp) <;> omega) i
            have kz : w.heap.size < w'.heap.size := (by have := hLe.size; (try simp at this); omega)
            refine wpOp_plain rfl rfl (fun K hK => ?_)
            go_simp
            exact hK _ _ ⟨_, rfl, Below.refl _ _, rfl⟩
          apply free_is
          · intro a' w' hLe hfr hdep
            have e1 := hfr 1 rfl
            conv at e1 => rhs; whnf
            have f1 := e1; simp only [Array.getD_eq_getD_getElem?] at f1
            refine wpOp_plain rfl rfl (fun K hK => ?_)
            go_simp
            exact hK _ _ ⟨_, rfl, Below.refl _ _, rfl⟩
          apply free_is
          · intro a' w' hLe hfr hdep
            have e21 : a'.tmps.getD 21 undef = _ := hdep 10 21 (Nat.le_of_ble_eq_true rfl) rfl rfl
            conv at e21 => rhs; whnf
            have f21 := e21; simp only [Array.getD_eq_getD_getElem?] at f21
            have kc := fun i => keepc hLe (bl) (by (try simp) <;> omega) i
            have kf := fun i => keepf hLe (bl) (by (try simp) <;> omega) i
            have kz : bl < w'.heap.size := (by have := hLe.size; (try simp at this); omega)
            have kc := fun i => keepc hLe (w.heap.size) (by (try simp) <;> omega) i
            have kf := fun i => keepf hLe (w.heap.size) (by (try simp) <;> omega) i
            have kz : w.heap.size < w'.heap.size := (by have := hLe.size; (try simp at this); omega)
            refine wpOp_plain rfl rfl (fun K hK => ?_)
            go_simp
            exact hK _ _ ⟨_, rfl, Below.refl _ _, rfl⟩
          apply free_is
          · intro a' w' hLe hfr hdep
            have e20 : a'.tmps.getD 20 undef = _ := hdep 9 20 (Nat.le_of_ble_eq_true rfl) rfl rfl
            conv at e20 => rhs; whnf
            have f20 := e20; simp only [Array.getD_eq_getD_getElem?] at f20
            have e22 : a'.tmps.getD 22 undef = _ := hdep 11 22 (Nat.le_of_ble_eq_true rfl) rfl rfl
            conv at e22 => rhs; whnf
            have f22 := e22; simp only [Array.getD_eq_getD_getElem?] at f22
            refine wpOp_plain rfl rfl (fun K hK => ?_)
            go_simp
            exact hK _ _ ⟨_, rfl, Below.refl _ _, rfl⟩
          apply free_is
          · intro a' w' hLe hfr hdep
            have e23 : a'.tmps.getD 23 undef = _ := hdep 12 23 (Nat.le_of_ble_eq_true rfl) rfl rfl
            conv at e23 => rhs; whnf
            have f23 := e23; simp only [Array.getD_eq_getD_getElem?] at f23
            refine wpOp_plain rfl rfl (fun K hK => ?_)
            go_simp
            exact hK _ _ ⟨_, rfl, Below.refl _ _, rfl⟩
          apply free_is
          · intro a' w' hLe hfr hdep
            have e15 : a'.tmps.getD 15 undef = _ := hdep 4 15 (Nat.le_of_ble_eq_true rfl) rfl rfl
            conv at e15 => rhs; whnf
            have f15 := e15; simp only [Array.getD_eq_getD_getElem?] at f15
            have e18 : a'.tmps.getD 18 undef = _ := hdep 7 18 (Nat.le_of_ble_eq_true rfl) rfl rfl
            conv at e18 => rhs; whnf
            have f18 := e18; simp only [Array.getD_eq_getD_getElem?] at f18
            have e24 : a'.tmps.getD 24 undef = _ := hdep 13 24 (Nat.le_of_ble_eq_true rfl) rfl rfl
            conv at e24 => rhs; whnf
            have f24 := e24; simp only [Array.getD_eq_getD_getElem?] at f24
            have kc := fun i => keepc hLe (bl) (by (try simp) <;> omega) i
            have kf := fun i => keepf hLe (bl) (by (try simp) <;> omega) i
            have kz : bl < w'.heap.size := (by have := hLe.size; (try simp at this); omega)
            have kc := fun i => keepc hLe (w.heap.size) (by (try simp) <;> omega) i
            have kf := fun i => keepf hLe (w.heap.size) (by (try simp) <;> omega) i
            have kz : w.heap.size < w'.heap.size := (by have := hLe.size; (try simp at this); omega)
            refine wpOp_plain rfl rfl (fun K hK => ?_)
            go_simp
            refine (l1In_any _ _ _ _).mono ?_
            rintro e w2 ⟨rfl, rfl⟩
            exact hK _ _ ⟨_, rfl, Below.refl _ _, rfl⟩
          apply free_is
          · intro a' w' hLe hfr hdep
            have e25 : a'.tmps.getD 25 undef = _ := hdep 14 25 (Nat.le_of_ble_eq_true rfl) rfl rfl
            conv at e25 => rhs; whnf
            have f25 := e25; simp only [Array.getD_eq_getD_getElem?] at f25
            refine wpOp_plain rfl rfl (fun K hK => ?_)
            go_simp
            exact hK _ _ ⟨_, rfl, Below.refl _ _, rfl⟩
          apply free_is
          · intro a' w' hLe hfr hdep
            have e26 : a'.tmps.getD 26 undef = _ := hdep 15 26 (Nat.le_of_ble_eq_true rfl) rfl rfl
            conv at e26 => rhs; whnf
            have f26 := e26; simp only [Array.getD_eq_getD_getElem?] at f26
            refine wpOp_plain rfl rfl (fun K hK => ?_)
            go_simp
            exact hK _ _ ⟨_, rfl, Below.refl _ _, rfl⟩
          apply free_is
          · intro a' w' hLe hfr hdep
            have e27 : a'.tmps.getD 27 undef = _ := hdep 16 27 (Nat.le_of_ble_eq_true rfl) rfl rfl
            conv at e27 => rhs; whnf
            have f27 := e27; simp only [Array.getD_eq_getD_getElem?] at f27
            have e3 := hfr 3 rfl
            conv at e3 => rhs; whnf
            have f3 := e3; simp only [Array.getD_eq_getD_getElem?] at f3
            refine wpOp_yes rfl rfl rfl e27 (fun K hK => ?_)
            go_simp
            exact hK _ _ ⟨_, rfl, Below.refl _ _, rfl⟩
          apply free_is
          · intro a' w' hLe hfr hdep
            have e27 : a'.tmps.getD 27 undef = _ := hdep 16 27 (Nat.le_of_ble_eq_true rfl) rfl rfl
            conv at e27 => rhs; whnf
            have f27 := e27; simp only [Array.getD_eq_getD_getElem?] at f27
            have e28 : a'.tmps.getD 28 undef = _ := hdep 17 28 (Nat.le_of_ble_eq_true rfl) rfl rfl
            conv at e28 => rhs; whnf
            have f28 := e28; simp only [Array.getD_eq_getD_getElem?] at f28
            refine wpOp_yes rfl rfl rfl e27 (fun K hK => ?_)
            go_simp
            exact hK _ _ ⟨_, rfl, Below.refl _ _, rfl⟩
          apply free_is
          · intro a' w' hLe hfr hdep
            have e27 : a'.tmps.getD 27 undef = _ := hdep 16 27 (Nat.le_of_ble_eq_true rfl) rfl rfl
            conv at e27 => rhs; whnf
            have f27 := e27; simp only [Array.getD_eq_getD_getElem?] at f27
            have e29 : a'.tmps.getD 29 undef = _ := hdep 18 29 (Nat.le_of_ble_eq_true rfl) rfl rfl
            conv at e29 => rhs; whnf
            have f29 := e29; simp only [Array.getD_eq_getD_getElem?] at f29
            refine wpOp_yes rfl rfl rfl e27 (fun K hK => ?_)
            go_simp
            exact hK _ _ ⟨_, rfl, Below.refl _ _, rfl⟩
          apply free_is
          · intro a' w' hLe hfr hdep
            have e30 : a'.tmps.getD 30 undef = _ := hdep 19 30 (Nat.le_of_ble_eq_true rfl) rfl rfl
            conv at e30 => rhs; whnf
            have f30 := e30; simp only [Array.getD_eq_getD_getElem?] at f30
            exact wpOp_no rfl rfl rfl e30 ⟨_, rfl, Below.refl _ _, rfl⟩
          apply free_is
          · intro a' w' hLe hfr hdep
            have e30 : a'.tmps.getD 30 undef = _ := hdep 19 30 (Nat.le_of_ble_eq_true rfl) rfl rfl
            conv at e30 => rhs; whnf
            have f30 := e30; simp only [Array.getD_eq_getD_getElem?] at f30
            exact wpOp_no rfl rfl rfl e30 ⟨_, rfl, Below.refl _ _, rfl⟩
          apply free_is
          · intro a' w' hLe hfr hdep
            have e30 : a'.tmps.getD 30 undef = _ := hdep 19 30 (Nat.le_of_ble_eq_true rfl) rfl rfl
            conv at e30 => rhs; whnf
            have f30 := e30; simp only [Array.getD_eq_getD_getElem?] at f30
            exact wpOp_no rfl rfl rfl e30 ⟨_, rfl, Below.refl _ _, rfl⟩
          apply free_is
          · intro a' w' hLe hfr hdep
            have e30 : a'.tmps.getD 30 undef = _ := hdep 19 30 (Nat.le_of_ble_eq_true rfl) rfl rfl
            conv at e30 => rhs; whnf
            have f30 := e30; simp only [Array.getD_eq_getD_getElem?] at f30
            exact wpOp_no rfl rfl rfl e30 ⟨_, rfl, Below.refl _ _, rfl⟩
          apply free_is
          · intro a' w' hLe hfr hdep
            have e30 : a'.tmps.getD 30 undef = _ := hdep 19 30 (Nat.le_of_ble_eq_true rfl) rfl rfl
            conv at e30 => rhs; whnf
            have f30 := e30; simp only [Array.getD_eq_getD_getElem?] at f30
            exact wpOp_no rfl rfl rfl e30 ⟨_, rfl, Below.refl _ _, rfl⟩
          apply free_is
          · intro a' w' hLe hfr hdep
            have e30 : a'.tmps.getD 30 undef = _ := hdep 19 30 (Nat.le_of_ble_eq_true rfl) rfl rfl
            conv at e30 => rhs; whnf
            have f30 := e30; simp only [Array.getD_eq_getD_getElem?] at f30
            exact wpOp_no rfl rfl rfl e30 ⟨_, rfl, Below.refl _ _, rfl⟩
          apply free_is
          · intro a' w' hLe hfr hdep
            have e30 : a'.tmps.getD 30 undef = _ := hdep 19 30 (Nat.le_of_ble_eq_true rfl) rfl rfl
            conv at e30 => rhs; whnf
            have f30 := e30; simp only [Array.getD_eq_getD_getElem?] at f30
            exact wpOp_no rfl rfl rfl e30 ⟨_, rfl, Below.refl _ _, rfl⟩
          apply free_is
          · intro a' w' hLe hfr hdep
            have e30 : a'.tmps.getD 30 undef = _ := hdep 19 30 (Nat.le_of_ble_eq_true rfl) rfl rfl
            conv at e30 => rhs; whnf
            have f30 := e30; simp only [Array.getD_eq_getD_getElem?] at f30
            exact wpOp_no rfl rfl rfl e30 ⟨_, rfl, Below.refl _ _, rfl⟩
          apply free_is
          · intro a' w' hLe hfr hdep
            have e30 : a'.tmps.getD 30 undef = _ := hdep 19 30 (Nat.le_of_ble_eq_true rfl) rfl rfl
            conv at e30 => rhs; whnf
            have f30 := e30; simp only [Array.getD_eq_getD_getElem?] at f30
            exact wpOp_no rfl rfl rfl e30 ⟨_, rfl, Below.refl _ _, rfl⟩
          apply free_is
          · intro a' w' hLe hfr hdep
            have e30 : a'.tmps.getD 30 undef = _ := hdep 19 30 (Nat.le_of_ble_eq_true rfl) rfl rfl
            conv at e30 => rhs; whnf
            have f30 := e30; simp only [Array.getD_eq_getD_getElem?] at f30
            exact wpOp_no rfl rfl rfl e30 ⟨_, rfl, Below.refl _ _, rfl⟩
          apply free_is
          · intro a' w' hLe hfr hdep
            have e30 : a'.tmps.getD 30 undef = _ := hdep 19 30 (Nat.le_of_ble_eq_true rfl) rfl rfl
            conv at e30 => rhs; whnf
            have f30 := e30; simp only [Array.getD_eq_getD_getElem?] at f30
            exact wpOp_no rfl rfl rfl e30 ⟨_, rfl, Below.refl _ _, rfl⟩
          apply free_is
          · intro a' w' hLe hfr hdep
            have e30 : a'.tmps.getD 30 undef = _ := hdep 19 30 (Nat.le_of_ble_eq_true rfl) rfl rfl
            conv at e30 => rhs; whnf
            have f30 := e30; simp only [Array.getD_eq_getD_getElem?] at f30
            exact wpOp_no rfl rfl rfl e30 ⟨_, rfl, Below.refl _ _, rfl⟩
          apply free_is
          · intro a' w' hLe hfr hdep
            have e27 : a'.tmps.getD 27 undef = _ := hdep 16 27 (Nat.le_of_ble_eq_true rfl) rfl rfl
            conv at e27 => rhs; whnf
            have f27 := e27; simp only [Array.getD_eq_getD_getElem?] at f27
            have e30 : a'.tmps.getD 30 undef = _ := hdep 19 30 (Nat.le_of_ble_eq_true rfl) rfl rfl
            conv at e30 => rhs; whnf
            have f30 := e30; simp only [Array.getD_eq_getD_getElem?] at f30
            have e42 : a'.tmps.getD 42 undef = _ := hdep 31 42 (Nat.le_of_ble_eq_true rfl) rfl rfl
            conv at e42 => rhs; whnf
            have f42 := e42; simp only [Array.getD_eq_getD_getElem?] at f42
            refine wpOp_yes rfl rfl rfl e27 (fun K hK => ?_)
            go_simp
            exact hK _ _ ⟨_, rfl, Below.refl _ _, rfl⟩
          apply free_is
          · intro a' w' hLe hfr hdep
            have e27 : a'.tmps.getD 27 undef = _ := hdep 16 27 (Nat.le_of_ble_eq_true rfl) rfl rfl
            conv at e27 => rhs; whnf
            have f27 := e27; simp only [Array.getD_eq_getD_getElem?] at f27
            have e43 : a'.tmps.getD 43 undef = _ := hdep 32 43 (Nat.le_of_ble_eq_true rfl) rfl rfl
            conv at e43 => rhs; whnf
            have f43 := e43; simp only [Array.getD_eq_getD_getElem?] at f43
            refine wpOp_plain rfl rfl (fun K hK => ?_)
            go_simp
            exact hK _ _ ⟨_, rfl, Below.refl _ _, rfl⟩
          apply free_nil
          intro vs w4 hb4 hT4
          have e11 : vs 0 = _ := hT4 0 11 rfl
          conv at e11 => rhs; whnf
          have e12 : vs 1 = _ := hT4 1 12 rfl
          conv at e12 => rhs; whnf
          have e13 : vs 2 = _ := hT4 2 13 rfl
          conv at e13 => rhs; whnf
          have e14 : vs 3 = _ := hT4 3 14 rfl
          conv at e14 => rhs; whnf
          have e15 : vs 4 = _ := hT4 4 15 rfl
          conv at e15 => rhs; whnf
          have e16 : vs 5 = _ := hT4 5 16 rfl
          conv at e16 => rhs; whnf
          have e17 : vs 6 = _ := hT4 6 17 rfl
          conv at e17 => rhs; whnf
          have e18 : vs 7 = _ := hT4 7 18 rfl
          conv at e18 => rhs; whnf
          have e19 : vs 8 = _ := hT4 8 19 rfl
          conv at e19 => rhs; whnf
          have e20 : vs 9 = _ := hT4 9 20 rfl
          conv at e20 => rhs; whnf
          have e21 : vs 10 = _ := hT4 10 21 rfl
          conv at e21 => rhs; whnf
          have e22 : vs 11 = _ := hT4 11 22 rfl
          conv at e22 => rhs; whnf
          have e23 : vs 12 = _ := hT4 12 23 rfl
          conv at e23 => rhs; whnf
          have e24 : vs 13 = _ := hT4 13 24 rfl
          conv at e24 => rhs; whnf
          have e25 : vs 14 = _ := hT4 14 25 rfl
          conv at e25 => rhs; whnf
          have e26 : vs 15 = _ := hT4 15 26 rfl
          conv at e26 => rhs; whnf
          have e27 : vs 16 = _ := hT4 16 27 rfl
          conv at e27 => rhs; whnf
          have e28 : vs 17 = _ := hT4 17 28 rfl
          conv at e28 => rhs; whnf
          have e29 : vs 18 = _ := hT4 18 29 rfl
          conv at e29 => rhs; whnf
          have e30 : vs 19 = _ := hT4 19 30 rfl
          conv at e30 => rhs; whnf
          have e31 : vs 20 = _ := hT4 20 31 rfl
          conv at e31 => rhs; whnf
          have e32 : vs 21 = _ := hT4 21 32 rfl
          conv at e32 => rhs; whnf
          have e33 : vs 22 = _ := hT4 22 33 rfl
          conv at e33 => rhs; whnf
          have e34 : vs 23 = _ := hT4 23 34 rfl
          conv at e34 => rhs; whnf
          have e35 : vs 24 = _ := hT4 24 35 rfl
          conv at e35 => rhs; whnf
          have e36 : vs 25 = _ := hT4 25 36 rfl
          conv at e36 => rhs; whnf
          have e37 : vs 26 = _ := hT4 26 37 rfl
          conv at e37 => rhs; whnf
          have e38 : vs 27 = _ := hT4 27 38 rfl
          conv at e38 => rhs; whnf
          have e39 : vs 28 = _ := hT4 28 39 rfl
          conv at e39 => rhs; whnf
          have e40 : vs 29 = _ := hT4 29 40 rfl
          conv at e40 => rhs; whnf
          have e41 : vs 30 = _ := hT4 30 41 rfl
          conv at e41 => rhs; whnf
          have e42 : vs 31 = _ := hT4 31 42 rfl
          conv at e42 => rhs; whnf
          have e43 : vs 32 = _ := hT4 32 43 rfl
          conv at e43 => rhs; whnf
          have e44 : vs 33 = _ := hT4 33 44 rfl
          conv at e44 => rhs; whnf
          simp only [putAll, List.drop_succ_cons, List.drop_zero, e11, e12, e13, e14, e15, e16, e17, e18, e19, e20, e21, e22, e23, e24, e25, e26, e27, e28, e29, e30, e31, e32, e33, e34, e35, e36, e37, e38, e39, e40, e41, e42, e43, e44]
          clear hT4 e11 e12 e13 e14 e15 e16 e17 e18 e19 e20 e21 e22 e23 e24 e25 e26 e27 e28 e29 e30 e31 e32 e33 e34 e35 e36 e37 e38 e39 e40 e41 e42 e43 e44
          go_simp
          go_wp2
          go_roundw
          case rel => exact ⟨1, by omega, by go_num, by (repeat (first | exact Below.refl _ _ | assumption | refine Below.al ?_ _ | refine Below.dr ?_ | (refine Below.st ?_ (by simp <;> omega) _) | (refine Below.tr ?_ (by assumption))))⟩
          case measure => simp [intOf]; omega
        · obtain ⟨i, rfl⟩ : ∃ i, j = i + 1 := ⟨j - 1, by omega⟩
          have hr' := hc i (by omega)
          rw [Nat.mul_one] at hr'
          have p0 : wr.cell? ⟨bl, off + i, none⟩ = some (.int .i64 (h i)) := (keepc hB0 bl (by omega) _).trans (hr' 0 _ rfl)
          have e4 : IntKind.i64.wrap ((i : Int) + 1 - 1) = (i : Int) := by rw [IntWalk.i64_in _ (by omega)]; omega
          have e5 : IntKind.i64.wrap (i : Int) = (i : Int) := IntWalk.i64_in _ (by omega)
          have e6 : (i : Int) < (n : Int) := by omega
          clear hc hrow hr hr'
          by_cases h4 : h (i + 1) ≤ h i
          · have hd : decide (h (i + 1) ≤ h i) = true := by simpa using h4
            go_wp2
            refine wp_region_free (ds := [(0, 11), (1, 12), (2, 13), (3, 14), (4, 15), (5, 16), (6, 17), (7, 18), (8, 19), (9, 20), (10, 21), (11, 22), (12, 23), (13, 24), (14, 25), (15, 26), (16, 27), (17, 28), (18, 29), (19, 30), (20, 31), (21, 32), (22, 33), (23, 34), (24, 35), (25, 36), (26, 37), (27, 38), (28, 39), (29, 40), (30, 41), (31, 42), (32, 43), (33, 44)]) 34 (by kernel_rfl) (by kernel_rfl) (by first | exact .inl rfl | exact .inr (by kernel_rfl)) (by rfl) rfl rfl ?_
            apply free_is
            · intro a' w' hLe hfr hdep
              have e1 := hfr 1 rfl
              conv at e1 => rhs; whnf
              have f1 := e1; simp only [Array.getD_eq_getD_getElem?] at f1
              refine wpOp_plain rfl rfl (fun K hK => ?_)
              go_simp
              exact hK _ _ ⟨_, rfl, Below.refl _ _, rfl⟩
            apply free_is
            · intro a' w' hLe hfr hdep
              have e11 : a'.tmps.getD 11 undef = _ := hdep 0 11 (Nat.le_of_ble_eq_true rfl) rfl rfl
              conv at e11 => rhs; whnf
              have f11 := e11; simp only [Array.getD_eq_getD_getElem?] at f11
              have kc := fun i => keepc hLe (bl) (by (try simp) <;> omega) i
              have kf := fun i => keepf hLe (bl) (by (try simp) <;> omega) i
              have kz : bl < w'.heap.size := (by have := hLe.size; (try simp at this); omega)
              have kc := fun i => keepc hLe (w.heap.size) (by (try simp) <;> omega) i
              have kf := fun i => keepf hLe (w.heap.size) (by (try simp) <;> omega) i
              have kz : w.heap.size < w'.heap.size := (by have := hLe.size; (try simp at this); omega)
              refine wpOp_plain rfl rfl (fun K hK => ?_)
              go_simp
              exact hK _ _ ⟨_, rfl, Below.refl _ _, rfl⟩
            apply free_is
            · intro a' w' hLe hfr hdep
              have e3 := hfr 3 rfl
              conv at e3 => rhs; whnf
              have f3 := e3; simp only [Array.getD_eq_getD_getElem?] at f3
              refine wpOp_plain rfl rfl (fun K hK => ?_)
              go_simp
              exact hK _ _ ⟨_, rfl, Below.refl _ _, rfl⟩
            apply free_is
            · intro a' w' hLe hfr hdep
              have e12 : a'.tmps.getD 12 undef = _ := hdep 1 12 (Nat.le_of_ble_eq_true rfl) rfl rfl
              conv at e12 => rhs; whnf
              have f12 := e12; simp only [Array.getD_eq_getD_getElem?] at f12
              have e13 : a'.tmps.getD 13 undef = _ := hdep 2 13 (Nat.le_of_ble_eq_true rfl) rfl rfl
              conv at e13 => rhs; whnf
              have f13 := e13; simp only [Array.getD_eq_getD_getElem?] at f13
              refine wpOp_plain rfl rfl (fun K hK => ?_)
              go_simp
              exact hK _ _ ⟨_, rfl, Below.refl _ _, rfl⟩
            apply free_is
            · intro a' w' hLe hfr hdep
              have e14 : a'.tmps.getD 14 undef = _ := hdep 3 14 (Nat.le_of_ble_eq_true rfl) rfl rfl
              conv at e14 => rhs; whnf
              have f14 := e14; simp only [Array.getD_eq_getD_getElem?] at f14
              have kc := fun i => keepc hLe (bl) (by (try simp) <;> omega) i
              have kf := fun i => keepf hLe (bl) (by (try simp) <;> omega) i
              have kz : bl < w'.heap.size := (by have := hLe.size; (try simp at this); omega)
              have kc := fun i => keepc hLe (w.heap.size) (by (try simp) <;> omega) i
              have kf := fun i => keepf hLe (w.heap.size) (by (try simp) <;> omega) i
              have kz : w.heap.size < w'.heap.size := (by have := hLe.size; (try simp at this); omega)
              refine wpOp_plain rfl rfl (fun K hK => ?_)
              go_simp
              exact hK _ _ ⟨_, rfl, Below.refl _ _, rfl⟩
            apply free_is
            · intro a' w' hLe hfr hdep
              have e1 := hfr 1 rfl
              conv at e1 => rhs; whnf
              have f1 := e1; simp only [Array.getD_eq_getD_getElem?] at f1
              refine wpOp_plain rfl rfl (fun K hK => ?_)
              go_simp
              exact hK _ _ ⟨_, rfl, Below.refl _ _, rfl⟩
            apply free_is
            · intro a' w' hLe hfr hdep
              have e16 : a'.tmps.getD 16 undef = _ := hdep 5 16 (Nat.le_of_ble_eq_true rfl) rfl rfl
              conv at e16 => rhs; whnf
              have f16 := e16; simp only [Array.getD_eq_getD_getElem?] at f16
              have kc := fun i => keepc hLe (bl) (by (try simp) <;> omega) i
              have kf := fun i => keepf hLe (bl) (by (try simp) <;> omega) i
              have kz : bl < w'.heap.size := (by have := hLe.size; (try simp at this); omega)
              have kc := fun i => keepc hLe (w.heap.size) (by (try simp) <;> omega) i
              have kf := fun i => keepf hLe (w.heap.size) (by (try simp) <;> omega) i
              have kz : w.heap.size < w'.heap.size := (by have := hLe.size; (try simp at this); omega)
              refine wpOp_plain rfl rfl (fun K hK => ?_)
              go_simp
              exact hK _ _ ⟨_, rfl, Below.refl _ _, rfl⟩
            apply free_is
            · intro a' w' hLe hfr hdep
              have e17 : a'.tmps.getD 17 undef = _ := hdep 6 17 (Nat.le_of_ble_eq_true rfl) rfl rfl
              conv at e17 => rhs; whnf
              have f17 := e17; simp only [Array.getD_eq_getD_getElem?] at f17
              refine wpOp_plain rfl rfl (fun K hK => ?_)
              go_simp
              exact hK _ _ ⟨_, rfl, Below.refl _ _, rfl⟩
            apply free_is
            · intro a' w' hLe hfr hdep
              have e1 := hfr 1 rfl
              conv at e1 => rhs; whnf
              have f1 := e1; simp only [Array.getD_eq_getD_getElem?] at f1
              refine wpOp_plain rfl rfl (fun K hK => ?_)
              go_simp
              exact hK _ _ ⟨_, rfl, Below.refl _ _, rfl⟩
            apply free_is
            · intro a' w' hLe hfr hdep
              have e19 : a'.tmps.getD 19 undef = _ := hdep 8 19 (Nat.le_of_ble_eq_true rfl) rfl rfl
              conv at e19 => rhs; whnf
              have f19 := e19; simp only [Array.getD_eq_getD_getElem?] at f19
              have kc := fun i => keepc hLe (bl) (by (try simp) <;> omega) i
              have kf := fun i => keepf hLe (bl) (by (try simp) <;> omega) i
              have kz : bl < w'.heap.size := (by have := hLe.size; (try simp at this); omega)
              have kc := fun i => keepc hLe (w.heap.size) (by (try simp) <;> omega) i
              have kf := fun i => keepf hLe (w.heap.size) (by (try simp) <;> omega) i
              have kz : w.heap.size < w'.heap.size := (by have := hLe.size; (try simp at this); omega)
              refine wpOp_plain rfl rfl (fun K hK => ?_)
              go_simp
              exact hK _ _ ⟨_, rfl, Below.refl _ _, rfl⟩
            apply free_is
            · intro a' w' hLe hfr hdep
              have e1 := hfr 1 rfl
              conv at e1 => rhs; whnf
              have f1 := e1; simp only [Array.getD_eq_getD_getElem?] at f1
              refine wpOp_plain rfl rfl (fun K hK => ?_)
              go_simp
              exact hK _ _ ⟨_, rfl, Below.refl _ _, rfl⟩
            apply free_is
            · intro a' w' hLe hfr hdep
              have e21 : a'.tmps.getD 21 undef = _ := hdep 10 21 (Nat.le_of_ble_eq_true rfl) rfl rfl
              conv at e21 => rhs; whnf
              have f21 := e21; simp only [Array.getD_eq_getD_getElem?] at f21
              have kc := fun i => keepc hLe (bl) (by (try simp) <;> omega) i
              have kf := fun i => keepf hLe (bl) (by (try simp) <;> omega) i
              have kz : bl < w'.heap.size := (by have := hLe.size; (try simp at this); omega)
              have kc := fun i => keepc hLe (w.heap.size) (by (try simp) <;> omega) i
              have kf := fun i => keepf hLe (w.heap.size) (by (try simp) <;> omega) i
              have kz : w.heap.size < w'.heap.size := (by have := hLe.size; (try simp at this); omega)
              refine wpOp_plain rfl rfl (fun K hK => ?_)
              go_simp
              exact hK _ _ ⟨_, rfl, Below.refl _ _, rfl⟩
            apply free_is
            · intro a' w' hLe hfr hdep
              have e20 : a'.tmps.getD 20 undef = _ := hdep 9 20 (Nat.le_of_ble_eq_true rfl) rfl rfl
              conv at e20 => rhs; whnf
              have f20 := e20; simp only [Array.getD_eq_getD_getElem?] at f20
              have e22 : a'.tmps.getD 22 undef = _ := hdep 11 22 (Nat.le_of_ble_eq_true rfl) rfl rfl
              conv at e22 => rhs; whnf
              have f22 := e22; simp only [Array.getD_eq_getD_getElem?] at f22
              refine wpOp_plain rfl rfl (fun K hK => ?_)
              go_simp
              exact hK _ _ ⟨_, rfl, Below.refl _ _, rfl⟩
            apply free_is
            · intro a' w' hLe hfr hdep
              have e23 : a'.tmps.getD 23 undef = _ := hdep 12 23 (Nat.le_of_ble_eq_true rfl) rfl rfl
              conv at e23 => rhs; whnf
              have f23 := e23; simp only [Array.getD_eq_getD_getElem?] at f23
              refine wpOp_plain rfl rfl (fun K hK => ?_)
              go_simp
              exact hK _ _ ⟨_, rfl, Below.refl _ _, rfl⟩
            apply free_is
            · intro a' w' hLe hfr hdep
              have e15 : a'.tmps.getD 15 undef = _ := hdep 4 15 (Nat.le_of_ble_eq_true rfl) rfl rfl
              conv at e15 => rhs; whnf
              have f15 := e15; simp only [Array.getD_eq_getD_getElem?] at f15
              have e18 : a'.tmps.getD 18 undef = _ := hdep 7 18 (Nat.le_of_ble_eq_true rfl) rfl rfl
              conv at e18 => rhs; whnf
              have f18 := e18; simp only [Array.getD_eq_getD_getElem?] at f18
              have e24 : a'.tmps.getD 24 undef = _ := hdep 13 24 (Nat.le_of_ble_eq_true rfl) rfl rfl
              conv at e24 => rhs; whnf
              have f24 := e24; simp only [Array.getD_eq_getD_getElem?] at f24
              have kc := fun i => keepc hLe (bl) (by (try simp) <;> omega) i
              have kf := fun i => keepf hLe (bl) (by (try simp) <;> omega) i
              have kz : bl < w'.heap.size := (by have := hLe.size; (try simp at this); omega)
              have kc := fun i => keepc hLe (w.heap.size) (by (try simp) <;> omega) i
              have kf := fun i => keepf hLe (w.heap.size) (by (try simp) <;> omega) i
              have kz : w.heap.size < w'.heap.size := (by have := hLe.size; (try simp at this); omega)
              refine wpOp_plain rfl rfl (fun K hK => ?_)
              go_simp
              refine (l1In_any _ _ _ _).mono ?_
              rintro e w2 ⟨rfl, rfl⟩
              exact hK _ _ ⟨_, rfl, Below.refl _ _, rfl⟩
            apply free_is
            · intro a' w' hLe hfr hdep
              have e25 : a'.tmps.getD 25 undef = _ := hdep 14 25 (Nat.le_of_ble_eq_true rfl) rfl rfl
              conv at e25 => rhs; whnf
              have f25 := e25; simp only [Array.getD_eq_getD_getElem?] at f25
              refine wpOp_plain rfl rfl (fun K hK => ?_)
              go_simp
              exact hK _ _ ⟨_, rfl, Below.refl _ _, rfl⟩
            apply free_is
            · intro a' w' hLe hfr hdep
              have e26 : a'.tmps.getD 26 undef = _ := hdep 15 26 (Nat.le_of_ble_eq_true rfl) rfl rfl
              conv at e26 => rhs; whnf
              have f26 := e26; simp only [Array.getD_eq_getD_getElem?] at f26
              refine wpOp_plain rfl rfl (fun K hK => ?_)
              go_simp
              exact hK _ _ ⟨_, rfl, Below.refl _ _, rfl⟩
            apply free_is
            · intro a' w' hLe hfr hdep
              have e27 : a'.tmps.getD 27 undef = _ := hdep 16 27 (Nat.le_of_ble_eq_true rfl) rfl rfl
              conv at e27 => rhs; whnf
              have f27 := e27; simp only [Array.getD_eq_getD_getElem?] at f27
              have e3 := hfr 3 rfl
              conv at e3 => rhs; whnf
              have f3 := e3; simp only [Array.getD_eq_getD_getElem?] at f3
              refine wpOp_yes rfl rfl rfl e27 (fun K hK => ?_)
              go_simp
              exact hK _ _ ⟨_, rfl, Below.refl _ _, rfl⟩
            apply free_is
            · intro a' w' hLe hfr hdep
              have e27 : a'.tmps.getD 27 undef = _ := hdep 16 27 (Nat.le_of_ble_eq_true rfl) rfl rfl
              conv at e27 => rhs; whnf
              have f27 := e27; simp only [Array.getD_eq_getD_getElem?] at f27
              have e28 : a'.tmps.getD 28 undef = _ := hdep 17 28 (Nat.le_of_ble_eq_true rfl) rfl rfl
              conv at e28 => rhs; whnf
              have f28 := e28; simp only [Array.getD_eq_getD_getElem?] at f28
              refine wpOp_yes rfl rfl rfl e27 (fun K hK => ?_)
              go_simp
              exact hK _ _ ⟨_, rfl, Below.refl _ _, rfl⟩
            apply free_is
            · intro a' w' hLe hfr hdep
              have e27 : a'.tmps.getD 27 undef = _ := hdep 16 27 (Nat.le_of_ble_eq_true rfl) rfl rfl
              conv at e27 => rhs; whnf
              have f27 := e27; simp only [Array.getD_eq_getD_getElem?] at f27
              have e29 : a'.tmps.getD 29 undef = _ := hdep 18 29 (Nat.le_of_ble_eq_true rfl) rfl rfl
              conv at e29 => rhs; whnf
              have f29 := e29; simp only [Array.getD_eq_getD_getElem?] at f29
              refine wpOp_yes rfl rfl rfl e27 (fun K hK => ?_)
              go_simp
              exact hK _ _ ⟨_, rfl, Below.refl _ _, rfl⟩
            apply free_is
            · intro a' w' hLe hfr hdep
              have e30 : a'.tmps.getD 30 undef = _ := hdep 19 30 (Nat.le_of_ble_eq_true rfl) rfl rfl
              conv at e30 => rhs; whnf
              have f30 := e30; simp only [Array.getD_eq_getD_getElem?] at f30
              have e1 := hfr 1 rfl
              conv at e1 => rhs; whnf
              have f1 := e1; simp only [Array.getD_eq_getD_getElem?] at f1
              refine wpOp_yes rfl rfl rfl e30 (fun K hK => ?_)
              go_simp
              exact hK _ _ ⟨_, rfl, Below.refl _ _, rfl⟩
            apply free_is
            · intro a' w' hLe hfr hdep
              have e30 : a'.tmps.getD 30 undef = _ := hdep 19 30 (Nat.le_of_ble_eq_true rfl) rfl rfl
              conv at e30 => rhs; whnf
              have f30 := e30; simp only [Array.getD_eq_getD_getElem?] at f30
              have e31 : a'.tmps.getD 31 undef = _ := hdep 20 31 (Nat.le_of_ble_eq_true rfl) rfl rfl
              conv at e31 => rhs; whnf
              have f31 := e31; simp only [Array.getD_eq_getD_getElem?] at f31
              have kc := fun i => keepc hLe (bl) (by (try simp) <;> omega) i
              have kf := fun i => keepf hLe (bl) (by (try simp) <;> omega) i
              have kz : bl < w'.heap.size := (by have := hLe.size; (try simp at this); omega)
              have kc := fun i => keepc hLe (w.heap.size) (by (try simp) <;> omega) i
              have kf := fun i => keepf hLe (w.heap.size) (by (try simp) <;> omega) i
              have kz : w.heap.size < w'.heap.size := (by have := hLe.size; (try simp at this); omega)
              refine wpOp_yes rfl rfl rfl e30 (fun K hK => ?_)
              go_simp
              exact hK _ _ ⟨_, rfl, Below.refl _ _, rfl⟩
            apply free_is
            · intro a' w' hLe hfr hdep
              have e30 : a'.tmps.getD 30 undef = _ := hdep 19 30 (Nat.le_of_ble_eq_true rfl) rfl rfl
              conv at e30 => rhs; whnf
              have f30 := e30; simp only [Array.getD_eq_getD_getElem?] at f30
              have e3 := hfr 3 rfl
              conv at e3 => rhs; whnf
              have f3 := e3; simp only [Array.getD_eq_getD_getElem?] at f3
              refine wpOp_yes rfl rfl rfl e30 (fun K hK => ?_)
              go_simp
              exact hK _ _ ⟨_, rfl, Below.refl _ _, rfl⟩
            apply free_is
            · intro a' w' hLe hfr hdep
              have e30 : a'.tmps.getD 30 undef = _ := hdep 19 30 (Nat.le_of_ble_eq_true rfl) rfl rfl
              conv at e30 => rhs; whnf
              have f30 := e30; simp only [Array.getD_eq_getD_getElem?] at f30
              have e32 : a'.tmps.getD 32 undef = _ := hdep 21 32 (Nat.le_of_ble_eq_true rfl) rfl rfl
              conv at e32 => rhs; whnf
              have f32 := e32; simp only [Array.getD_eq_getD_getElem?] at f32
              have e33 : a'.tmps.getD 33 undef = _ := hdep 22 33 (Nat.le_of_ble_eq_true rfl) rfl rfl
              conv at e33 => rhs; whnf
              have f33 := e33; simp only [Array.getD_eq_getD_getElem?] at f33
              refine wpOp_yes rfl rfl rfl e30 (fun K hK => ?_)
              go_simp
              exact hK _ _ ⟨_, rfl, Below.refl _ _, rfl⟩
            apply free_is
            · intro a' w' hLe hfr hdep
              have e30 : a'.tmps.getD 30 undef = _ := hdep 19 30 (Nat.le_of_ble_eq_true rfl) rfl rfl
              conv at e30 => rhs; whnf
              have f30 := e30; simp only [Array.getD_eq_getD_getElem?] at f30
              have e34 : a'.tmps.getD 34 undef = _ := hdep 23 34 (Nat.le_of_ble_eq_true rfl) rfl rfl
              conv at e34 => rhs; whnf
              have f34 := e34; simp only [Array.getD_eq_getD_getElem?] at f34
              have kc := fun i => keepc hLe (bl) (by (try simp) <;> omega) i
              have kf := fun i => keepf hLe (bl) (by (try simp) <;> omega) i
              have kz : bl < w'.heap.size := (by have := hLe.size; (try simp at this); omega)
              have kc := fun i => keepc hLe (w.heap.size) (by (try simp) <;> omega) i
              have kf := fun i => keepf hLe (w.heap.size) (by (try simp) <;> omega) i
              have kz : w.heap.size < w'.heap.size := (by have := hLe.size; (try simp at this); omega)
              refine wpOp_yes rfl rfl rfl e30 (fun K hK => ?_)
              go_simp
              exact hK _ _ ⟨_, rfl, Below.refl _ _, rfl⟩
            apply free_is
            · intro a' w' hLe hfr hdep
              have e30 : a'.tmps.getD 30 undef = _ := hdep 19 30 (Nat.le_of_ble_eq_true rfl) rfl rfl
              conv at e30 => rhs; whnf
              have f30 := e30; simp only [Array.getD_eq_getD_getElem?] at f30
              have e1 := hfr 1 rfl
              conv at e1 => rhs; whnf
              have f1 := e1; simp only [Array.getD_eq_getD_getElem?] at f1
              refine wpOp_yes rfl rfl rfl e30 (fun K hK => ?_)
              go_simp
              exact hK _ _ ⟨_, rfl, Below.refl _ _, rfl⟩
            apply free_is
            · intro a' w' hLe hfr hdep
              have e30 : a'.tmps.getD 30 undef = _ := hdep 19 30 (Nat.le_of_ble_eq_true rfl) rfl rfl
              conv at e30 => rhs; whnf
              have f30 := e30; simp only [Array.getD_eq_getD_getElem?] at f30
              have e36 : a'.tmps.getD 36 undef = _ := hdep 25 36 (Nat.le_of_ble_eq_true rfl) rfl rfl
              conv at e36 => rhs; whnf
              have f36 := e36; simp only [Array.getD_eq_getD_getElem?] at f36
              have kc := fun i => keepc hLe (bl) (by (try simp) <;> omega) i
              have kf := fun i => keepf hLe (bl) (by (try simp) <;> omega) i
              have kz : bl < w'.heap.size := (by have := hLe.size; (try simp at this); omega)
              have kc := fun i => keepc hLe (w.heap.size) (by (try simp) <;> omega) i
              have kf := fun i => keepf hLe (w.heap.size) (by (try simp) <;> omega) i
              have kz : w.heap.size < w'.heap.size := (by have := hLe.size; (try simp at this); omega)
              refine wpOp_yes rfl rfl rfl e30 (fun K hK => ?_)
              go_simp
              exact hK _ _ ⟨_, rfl, Below.refl _ _, rfl⟩
            apply free_is
            · intro a' w' hLe hfr hdep
              have e30 : a'.tmps.getD 30 undef = _ := hdep 19 30 (Nat.le_of_ble_eq_true rfl) rfl rfl
              conv at e30 => rhs; whnf
              have f30 := e30; simp only [Array.getD_eq_getD_getElem?] at f30
              have e3 := hfr 3 rfl
              conv at e3 => rhs; whnf
              have f3 := e3; simp only [Array.getD_eq_getD_getElem?] at f3
              refine wpOp_yes rfl rfl rfl e30 (fun K hK => ?_)
              go_simp
              exact hK _ _ ⟨_, rfl, Below.refl _ _, rfl⟩
            apply free_is
            · intro a' w' hLe hfr hdep
              have e30 : a'.tmps.getD 30 undef = _ := hdep 19 30 (Nat.le_of_ble_eq_true rfl) rfl rfl
              conv at e30 => rhs; whnf
              have f30 := e30; simp only [Array.getD_eq_getD_getElem?] at f30
              have e38 : a'.tmps.getD 38 undef = _ := hdep 27 38 (Nat.le_of_ble_eq_true rfl) rfl rfl
              conv at e38 => rhs; whnf
              have f38 := e38; simp only [Array.getD_eq_getD_getElem?] at f38
              refine wpOp_yes rfl rfl rfl e30 (fun K hK => ?_)
              go_simp
              exact hK _ _ ⟨_, rfl, Below.refl _ _, rfl⟩
            apply free_is
            · intro a' w' hLe hfr hdep
              have e30 : a'.tmps.getD 30 undef = _ := hdep 19 30 (Nat.le_of_ble_eq_true rfl) rfl rfl
              conv at e30 => rhs; whnf
              have f30 := e30; simp only [Array.getD_eq_getD_getElem?] at f30
              have e37 : a'.tmps.getD 37 undef = _ := hdep 26 37 (Nat.le_of_ble_eq_true rfl) rfl rfl
              conv at e37 => rhs; whnf
              have f37 := e37; simp only [Array.getD_eq_getD_getElem?] at f37
              have e39 : a'.tmps.getD 39 undef = _ := hdep 28 39 (Nat.le_of_ble_eq_true rfl) rfl rfl
              conv at e39 => rhs; whnf
              have f39 := e39; simp only [Array.getD_eq_getD_getElem?] at f39
              refine wpOp_yes rfl rfl rfl e30 (fun K hK => ?_)
              go_simp
              exact hK _ _ ⟨_, rfl, Below.refl _ _, rfl⟩
            apply free_is
            · intro a' w' hLe hfr hdep
              have e30 : a'.tmps.getD 30 undef = _ := hdep 19 30 (Nat.le_of_ble_eq_true rfl) rfl rfl
              conv at e30 => rhs; whnf
              have f30 := e30; simp only [Array.getD_eq_getD_getElem?] at f30
              have e40 : a'.tmps.getD 40 undef = _ := hdep 29 40 (Nat.le_of_ble_eq_true rfl) rfl rfl
              conv at e40 => rhs; whnf
              have f40 := e40; simp only [Array.getD_eq_getD_getElem?] at f40
              have kc := fun i => keepc hLe (bl) (by (try simp) <;> omega) i
              have kf := fun i => keepf hLe (bl) (by (try simp) <;> omega) i
              have kz : bl < w'.heap.size := (by have := hLe.size; (try simp at this); omega)
              have kc := fun i => keepc hLe (w.heap.size) (by (try simp) <;> omega) i
              have kf := fun i => keepf hLe (w.heap.size) (by (try simp) <;> omega) i
              have kz : w.heap.size < w'.heap.size := (by have := hLe.size; (try simp at this); omega)
              refine wpOp_yes rfl rfl rfl e30 (fun K hK => ?_)
              go_simp
              exact hK _ _ ⟨_, rfl, Below.refl _ _, rfl⟩
            apply free_is
            · intro a' w' hLe hfr hdep
              have e30 : a'.tmps.getD 30 undef = _ := hdep 19 30 (Nat.le_of_ble_eq_true rfl) rfl rfl
              conv at e30 => rhs; whnf
              have f30 := e30; simp only [Array.getD_eq_getD_getElem?] at f30
              have e35 : a'.tmps.getD 35 undef = _ := hdep 24 35 (Nat.le_of_ble_eq_true rfl) rfl rfl
              conv at e35 => rhs; whnf
              have f35 := e35; simp only [Array.getD_eq_getD_getElem?] at f35
              have e41 : a'.tmps.getD 41 undef = _ := hdep 30 41 (Nat.le_of_ble_eq_true rfl) rfl rfl
              conv at e41 => rhs; whnf
              have f41 := e41; simp only [Array.getD_eq_getD_getElem?] at f41
              refine wpOp_yes rfl rfl rfl e30 (fun K hK => ?_)
              go_simp
              exact hK _ _ ⟨_, rfl, Below.refl _ _, rfl⟩
            apply free_is
            · intro a' w' hLe hfr hdep
              have e27 : a'.tmps.getD 27 undef = _ := hdep 16 27 (Nat.le_of_ble_eq_true rfl) rfl rfl
              conv at e27 => rhs; whnf
              have f27 := e27; simp only [Array.getD_eq_getD_getElem?] at f27
              have e30 : a'.tmps.getD 30 undef = _ := hdep 19 30 (Nat.le_of_ble_eq_true rfl) rfl rfl
              conv at e30 => rhs; whnf
              have f30 := e30; simp only [Array.getD_eq_getD_getElem?] at f30
              have e42 : a'.tmps.getD 42 undef = _ := hdep 31 42 (Nat.le_of_ble_eq_true rfl) rfl rfl
              conv at e42 => rhs; whnf
              have f42 := e42; simp only [Array.getD_eq_getD_getElem?] at f42
              refine wpOp_yes rfl rfl rfl e27 (fun K hK => ?_)
              go_simp
              exact hK _ _ ⟨_, rfl, Below.refl _ _, rfl⟩
            apply free_is
            · intro a' w' hLe hfr hdep
              have e27 : a'.tmps.getD 27 undef = _ := hdep 16 27 (Nat.le_of_ble_eq_true rfl) rfl rfl
              conv at e27 => rhs; whnf
              have f27 := e27; simp only [Array.getD_eq_getD_getElem?] at f27
              have e43 : a'.tmps.getD 43 undef = _ := hdep 32 43 (Nat.le_of_ble_eq_true rfl) rfl rfl
              conv at e43 => rhs; whnf
              have f43 := e43; simp only [Array.getD_eq_getD_getElem?] at f43
              refine wpOp_plain rfl rfl (fun K hK => ?_)
              go_simp
              exact hK _ _ ⟨_, rfl, Below.refl _ _, rfl⟩
            apply free_nil
            intro vs w4 hb4 hT4
            have e11 : vs 0 = _ := hT4 0 11 rfl
            conv at e11 => rhs; whnf
            have e12 : vs 1 = _ := hT4 1 12 rfl
            conv at e12 => rhs; whnf
            have e13 : vs 2 = _ := hT4 2 13 rfl
            conv at e13 => rhs; whnf
            have e14 : vs 3 = _ := hT4 3 14 rfl
            conv at e14 => rhs; whnf
            have e15 : vs 4 = _ := hT4 4 15 rfl
            conv at e15 => rhs; whnf
            have e16 : vs 5 = _ := hT4 5 16 rfl
            conv at e16 => rhs; whnf
            have e17 : vs 6 = _ := hT4 6 17 rfl
            conv at e17 => rhs; whnf
            have e18 : vs 7 = _ := hT4 7 18 rfl
            conv at e18 => rhs; whnf
            have e19 : vs 8 = _ := hT4 8 19 rfl
            conv at e19 => rhs; whnf
            have e20 : vs 9 = _ := hT4 9 20 rfl
            conv at e20 => rhs; whnf
            have e21 : vs 10 = _ := hT4 10 21 rfl
            conv at e21 => rhs; whnf
            have e22 : vs 11 = _ := hT4 11 22 rfl
            conv at e22 => rhs; whnf
            have e23 : vs 12 = _ := hT4 12 23 rfl
            conv at e23 => rhs; whnf
            have e24 : vs 13 = _ := hT4 13 24 rfl
            conv at e24 => rhs; whnf
            have e25 : vs 14 = _ := hT4 14 25 rfl
            conv at e25 => rhs; whnf
            have e26 : vs 15 = _ := hT4 15 26 rfl
            conv at e26 => rhs; whnf
            have e27 : vs 16 = _ := hT4 16 27 rfl
            conv at e27 => rhs; whnf
            have e28 : vs 17 = _ := hT4 17 28 rfl
            conv at e28 => rhs; whnf
            have e29 : vs 18 = _ := hT4 18 29 rfl
            conv at e29 => rhs; whnf
            have e30 : vs 19 = _ := hT4 19 30 rfl
            conv at e30 => rhs; whnf
            have e31 : vs 20 = _ := hT4 20 31 rfl
            conv at e31 => rhs; whnf
            have e32 : vs 21 = _ := hT4 21 32 rfl
            conv at e32 => rhs; whnf
            have e33 : vs 22 = _ := hT4 22 33 rfl
            conv at e33 => rhs; whnf
            have e34 : vs 23 = _ := hT4 23 34 rfl
            conv at e34 => rhs; whnf
            have e35 : vs 24 = _ := hT4 24 35 rfl
            conv at e35 => rhs; whnf
            have e36 : vs 25 = _ := hT4 25 36 rfl
            conv at e36 => rhs; whnf
            have e37 : vs 26 = _ := hT4 26 37 rfl
            conv at e37 => rhs; whnf
            have e38 : vs 27 = _ := hT4 27 38 rfl
            conv at e38 => rhs; whnf
            have e39 : vs 28 = _ := hT4 28 39 rfl
            conv at e39 => rhs; whnf
            have e40 : vs 29 = _ := hT4 29 40 rfl
            conv at e40 => rhs; whnf
            have e41 : vs 30 = _ := hT4 30 41 rfl
            conv at e41 => rhs; whnf
            have e42 : vs 31 = _ := hT4 31 42 rfl
            conv at e42 => rhs; whnf
            have e43 : vs 32 = _ := hT4 32 43 rfl
            conv at e43 => rhs; whnf
            have e44 : vs 33 = _ := hT4 33 44 rfl
            conv at e44 => rhs; whnf
            simp only [putAll, List.drop_succ_cons, List.drop_zero, e11, e12, e13, e14, e15, e16, e17, e18, e19, e20, e21, e22, e23, e24, e25, e26, e27, e28, e29, e30, e31, e32, e33, e34, e35, e36, e37, e38, e39, e40, e41, e42, e43, e44]
            clear hT4 e11 e12 e13 e14 e15 e16 e17 e18 e19 e20 e21 e22 e23 e24 e25 e26 e27 e28 e29 e30 e31 e32 e33 e34 e35 e36 e37 e38 e39 e40 e41 e42 e43 e44
            go_simp
            go_wp2
            go_ret
            exact ⟨rfl, by (repeat (first | exact Below.refl _ _ | assumption | refine Below.al ?_ _ | refine Below.dr ?_ | (refine Below.st ?_ (by simp <;> omega) _) | (refine Below.tr ?_ (by assumption))))⟩
          · have hd : decide (h (i + 1) ≤ h i) = false := by simpa using h4
            go_wp2
            refine wp_region_free (ds := [(0, 11), (1, 12), (2, 13), (3, 14), (4, 15), (5, 16), (6, 17), (7, 18), (8, 19), (9, 20), (10, 21), (11, 22), (12, 23), (13, 24), (14, 25), (15, 26), (16, 27), (17, 28), (18, 29), (19, 30), (20, 31), (21, 32), (22, 33), (23, 34), (24, 35), (25, 36), (26, 37), (27, 38), (28, 39), (29, 40), (30, 41), (31, 42), (32, 43), (33, 44)]) 34 (by kernel_rfl) (by kernel_rfl) (by first | exact .inl rfl | exact .inr (by kernel_rfl)) (by rfl) rfl rfl ?_
            apply free_is
            · intro a' w' hLe hfr hdep
              have e1 := hfr 1 rfl
              conv at e1 => rhs; whnf
              have f1 := e1; simp only [Array.getD_eq_getD_getElem?] at f1
              refine wpOp_plain rfl rfl (fun K hK => ?_)
              go_simp
              exact hK _ _ ⟨_, rfl, Below.refl _ _, rfl⟩
            apply free_is
            · intro a' w' hLe hfr hdep
              have e11 : a'.tmps.getD 11 undef = _ := hdep 0 11 (Nat.le_of_ble_eq_true rfl) rfl rfl
              conv at e11 => rhs; whnf
              have f11 := e11; simp only [Array.getD_eq_getD_getElem?] at f11
              have kc := fun i => keepc hLe (bl) (by (try simp) <;> omega) i
              have kf := fun i => keepf hLe (bl) (by (try simp) <;> omega) i
              have kz : bl < w'.heap.size := (by have := hLe.size; (try simp at this); omega)
              have kc := fun i => keepc hLe (w.heap.size) (by (try simp) <;> omega) i
              have kf := fun i => keepf hLe (w.heap.size) (by (try simp) <;> omega) i
              have kz : w.heap.size < w'.heap.size := (by have := hLe.size; (try simp at this); omega)
              refine wpOp_plain rfl rfl (fun K hK => ?_)
              go_simp
              exact hK _ _ ⟨_, rfl, Below.refl _ _, rfl⟩
            apply free_is
            · intro a' w' hLe hfr hdep
              have e3 := hfr 3 rfl
              conv at e3 => rhs; whnf
              have f3 := e3; simp only [Array.getD_eq_getD_getElem?] at f3
              refine wpOp_plain rfl rfl (fun K hK => ?_)
              go_simp
              exact hK _ _ ⟨_, rfl, Below.refl _ _, rfl⟩
            apply free_is
            · intro a' w' hLe hfr hdep
              have e12 : a'.tmps.getD 12 undef = _ := hdep 1 12 (Nat.le_of_ble_eq_true rfl) rfl rfl
              conv at e12 => rhs; whnf
              have f12 := e12; simp only [Array.getD_eq_getD_getElem?] at f12
              have e13 : a'.tmps.getD 13 undef = _ := hdep 2 13 (Nat.le_of_ble_eq_true rfl) rfl rfl
              conv at e13 => rhs; whnf
              have f13 := e13; simp only [Array.getD_eq_getD_getElem?] at f13
              refine wpOp_plain rfl rfl (fun K hK => ?_)
              go_simp
              exact hK _ _ ⟨_, rfl, Below.refl _ _, rfl⟩
            apply free_is
            · intro a' w' hLe hfr hdep
              have e14 : a'.tmps.getD 14 undef = _ := hdep 3 14 (Nat.le_of_ble_eq_true rfl) rfl rfl
              conv at e14 => rhs; whnf
              have f14 := e14; simp only [Array.getD_eq_getD_getElem?] at f14
              have kc := fun i => keepc hLe (bl) (by (try simp) <;> omega) i
              have kf := fun i => keepf hLe (bl) (by (try simp) <;> omega) i
              have kz : bl < w'.heap.size := (by have := hLe.size; (try simp at this); omega)
              have kc := fun i => keepc hLe (w.heap.size) (by (try simp) <;> omega) i
              have kf := fun i => keepf hLe (w.heap.size) (by (try simp) <;> omega) i
              have kz : w.heap.size < w'.heap.size := (by have := hLe.size; (try simp at this); omega)
              refine wpOp_plain rfl rfl (fun K hK => ?_)
              go_simp
              exact hK _ _ ⟨_, rfl, Below.refl _ _, rfl⟩
            apply free_is
            · intro a' w' hLe hfr hdep
              have e1 := hfr 1 rfl
              conv at e1 => rhs; whnf
              have f1 := e1; simp only [Array.getD_eq_getD_getElem?] at f1
              refine wpOp_plain rfl rfl (fun K hK => ?_)
              go_simp
              exact hK _ _ ⟨_, rfl, Below.refl _ _, rfl⟩
            apply free_is
            · intro a' w' hLe hfr hdep
              have e16 : a'.tmps.getD 16 undef = _ := hdep 5 16 (Nat.le_of_ble_eq_true rfl) rfl rfl
              conv at e16 => rhs; whnf
              have f16 := e16; simp only [Array.getD_eq_getD_getElem?] at f16
              have kc := fun i => keepc hLe (bl) (by (try simp) <;> omega) i
              have kf := fun i => keepf hLe (bl) (by (try simp) <;> omega) i
              have kz : bl < w'.heap.size := (by have := hLe.size; (try simp at this); omega)
              have kc := fun i => keepc hLe (w.heap.size) (by (try simp) <;> omega) i
              have kf := fun i => keepf hLe (w.heap.size) (by (try simp) <;> omega) i
              have kz : w.heap.size < w'.heap.size := (by have := hLe.size; (try simp at this); omega)
              refine wpOp_plain rfl rfl (fun K hK => ?_)
              go_simp
              exact hK _ _ ⟨_, rfl, Below.refl _ _, rfl⟩
            apply free_is
            · intro a' w' hLe hfr hdep
              have e17 : a'.tmps.getD 17 undef = _ := hdep 6 17 (Nat.le_of_ble_eq_true rfl) rfl rfl
              conv at e17 => rhs; whnf
              have f17 := e17; simp only [Array.getD_eq_getD_getElem?] at f17
              refine wpOp_plain rfl rfl (fun K hK => ?_)
              go_simp
              exact hK _ _ ⟨_, rfl, Below.refl _ _, rfl⟩
            apply free_is
            · intro a' w' hLe hfr hdep
              have e1 := hfr 1 rfl
              conv at e1 => rhs; whnf
              have f1 := e1; simp only [Array.getD_eq_getD_getElem?] at f1
              refine wpOp_plain rfl rfl (fun K hK => ?_)
              go_simp
              exact hK _ _ ⟨_, rfl, Below.refl _ _, rfl⟩
            apply free_is
            · intro a' w' hLe hfr hdep
              have e19 : a'.tmps.getD 19 undef = _ := hdep 8 19 (Nat.le_of_ble_eq_true rfl) rfl rfl
              conv at e19 => rhs; whnf
              have f19 := e19; simp only [Array.getD_eq_getD_getElem?] at f19
              have kc := fun i => keepc hLe (bl) (by (try simp) <;> omega) i
              have kf := fun i => keepf hLe (bl) (by (try simp) <;> omega) i
              have kz : bl < w'.heap.size := (by have := hLe.size; (try simp at this); omega)
              have kc := fun i => keepc hLe (w.heap.size) (by (try simp) <;> omega) i
              have kf := fun i => keepf hLe (w.heap.size) (by (try simp) <;> omega) i
              have kz : w.heap.size < w'.heap.size := (by have := hLe.size; (try simp at this); omega)
              refine wpOp_plain rfl rfl (fun K hK => ?_)
              go_simp
              exact hK _ _ ⟨_, rfl, Below.refl _ _, rfl⟩
            apply free_is
            · intro a' w' hLe hfr hdep
              have e1 := hfr 1 rfl
              conv at e1 => rhs; whnf
              have f1 := e1; simp only [Array.getD_eq_getD_getElem?] at f1
              refine wpOp_plain rfl rfl (fun K hK => ?_)
              go_simp
              exact hK _ _ ⟨_, rfl, Below.refl _ _, rfl⟩
            apply free_is
            · intro a' w' hLe hfr hdep
              have e21 : a'.tmps.getD 21 undef = _ := hdep 10 21 (Nat.le_of_ble_eq_true rfl) rfl rfl
              conv at e21 => rhs; whnf
              have f21 := e21; simp only [Array.getD_eq_getD_getElem?] at f21
              have kc := fun i => keepc hLe (bl) (by (try simp) <;> omega) i
              have kf := fun i => keepf hLe (bl) (by (try simp) <;> omega) i
              have kz : bl < w'.heap.size := (by have := hLe.size; (try simp at this); omega)
              have kc := fun i => keepc hLe (w.heap.size) (by (try simp) <;> omega) i
              have kf := fun i => keepf hLe (w.heap.size) (by (try simp) <;> omega) i
              have kz : w.heap.size < w'.heap.size := (by have := hLe.size; (try simp at this); omega)
              refine wpOp_plain rfl rfl (fun K hK => ?_)
              go_simp
              exact hK _ _ ⟨_, rfl, Below.refl _ _, rfl⟩
            apply free_is
            · intro a' w' hLe hfr hdep
              have e20 : a'.tmps.getD 20 undef = _ := hdep 9 20 (Nat.le_of_ble_eq_true rfl) rfl rfl
              conv at e20 => rhs; whnf
              have f20 := e20; simp only [Array.getD_eq_getD_getElem?] at f20
              have e22 : a'.tmps.getD 22 undef = _ := hdep 11 22 (Nat.le_of_ble_eq_true rfl) rfl rfl
              conv at e22 => rhs; whnf
              have f22 := e22; simp only [Array.getD_eq_getD_getElem?] at f22
              refine wpOp_plain rfl rfl (fun K hK => ?_)
              go_simp
              exact hK _ _ ⟨_, rfl, Below.refl _ _, rfl⟩
            apply free_is
            · intro a' w' hLe hfr hdep
              have e23 : a'.tmps.getD 23 undef = _ := hdep 12 23 (Nat.le_of_ble_eq_true rfl) rfl rfl
              conv at e23 => rhs; whnf
              have f23 := e23; simp only [Array.getD_eq_getD_getElem?] at f23
              refine wpOp_plain rfl rfl (fun K hK => ?_)
              go_simp
              exact hK _ _ ⟨_, rfl, Below.refl _ _, rfl⟩
            apply free_is
            · intro a' w' hLe hfr hdep
              have e15 : a'.tmps.getD 15 undef = _ := hdep 4 15 (Nat.le_of_ble_eq_true rfl) rfl rfl
              conv at e15 => rhs; whnf
              have f15 := e15; simp only [Array.getD_eq_getD_getElem?] at f15
              have e18 : a'.tmps.getD 18 undef = _ := hdep 7 18 (Nat.le_of_ble_eq_true rfl) rfl rfl
              conv at e18 => rhs; whnf
              have f18 := e18; simp only [Array.getD_eq_getD_getElem?] at f18
              have e24 : a'.tmps.getD 24 undef = _ := hdep 13 24 (Nat.le_of_ble_eq_true rfl) rfl rfl
              conv at e24 => rhs; whnf
              have f24 := e24; simp only [Array.getD_eq_getD_getElem?] at f24
              have kc := fun i => keepc hLe (bl) (by (try simp) <;> omega) i
              have kf := fun i => keepf hLe (bl) (by (try simp) <;> omega) i
              have kz : bl < w'.heap.size := (by have := hLe.size; (try simp at this); omega)
              have kc := fun i => keepc hLe (w.heap.size) (by (try simp) <;> omega) i
              have kf := fun i => keepf hLe (w.heap.size) (by (try simp) <;> omega) i
              have kz : w.heap.size < w'.heap.size := (by have := hLe.size; (try simp at this); omega)
              refine wpOp_plain rfl rfl (fun K hK => ?_)
              go_simp
              refine (l1In_any _ _ _ _).mono ?_
              rintro e w2 ⟨rfl, rfl⟩
              exact hK _ _ ⟨_, rfl, Below.refl _ _, rfl⟩
            apply free_is
            · intro a' w' hLe hfr hdep
              have e25 : a'.tmps.getD 25 undef = _ := hdep 14 25 (Nat.le_of_ble_eq_true rfl) rfl rfl
              conv at e25 => rhs; whnf
              have f25 := e25; simp only [Array.getD_eq_getD_getElem?] at f25
              refine wpOp_plain rfl rfl (fun K hK => ?_)
              go_simp
              exact hK _ _ ⟨_, rfl, Below.refl _ _, rfl⟩
            apply free_is
            · intro a' w' hLe hfr hdep
              have e26 : a'.tmps.getD 26 undef = _ := hdep 15 26 (Nat.le_of_ble_eq_true rfl) rfl rfl
              conv at e26 => rhs; whnf
              have f26 := e26; simp only [Array.getD_eq_getD_getElem?] at f26
              refine wpOp_plain rfl rfl (fun K hK => ?_)
              go_simp
              exact hK _ _ ⟨_, rfl, Below.refl _ _, rfl⟩
            apply free_is
            · intro a' w' hLe hfr hdep
              have e27 : a'.tmps.getD 27 undef = _ := hdep 16 27 (Nat.le_of_ble_eq_true rfl) rfl rfl
              conv at e27 => rhs; whnf
              have f27 := e27; simp only [Array.getD_eq_getD_getElem?] at f27
              have e3 := hfr 3 rfl
              conv at e3 => rhs; whnf
              have f3 := e3; simp only [Array.getD_eq_getD_getElem?] at f3
              refine wpOp_yes rfl rfl rfl e27 (fun K hK => ?_)
              go_simp
              exact hK _ _ ⟨_, rfl, Below.refl _ _, rfl⟩
            apply free_is
            · intro a' w' hLe hfr hdep
              have e27 : a'.tmps.getD 27 undef = _ := hdep 16 27 (Nat.le_of_ble_eq_true rfl) rfl rfl
              conv at e27 => rhs; whnf
              have f27 := e27; simp only [Array.getD_eq_getD_getElem?] at f27
              have e28 : a'.tmps.getD 28 undef = _ := hdep 17 28 (Nat.le_of_ble_eq_true rfl) rfl rfl
              conv at e28 => rhs; whnf
              have f28 := e28; simp only [Array.getD_eq_getD_getElem?] at f28
              refine wpOp_yes rfl rfl rfl e27 (fun K hK => ?_)
              go_simp
              exact hK _ _ ⟨_, rfl, Below.refl _ _, rfl⟩
            apply free_is
            · intro a' w' hLe hfr hdep
              have e27 : a'.tmps.getD 27 undef = _ := hdep 16 27 (Nat.le_of_ble_eq_true rfl) rfl rfl
              conv at e27 => rhs; whnf
              have f27 := e27; simp only [Array.getD_eq_getD_getElem?] at f27
              have e29 : a'.tmps.getD 29 undef = _ := hdep 18 29 (Nat.le_of_ble_eq_true rfl) rfl rfl
              conv at e29 => rhs; whnf
              have f29 := e29; simp only [Array.getD_eq_getD_getElem?] at f29
              refine wpOp_yes rfl rfl rfl e27 (fun K hK => ?_)
              go_simp
              exact hK _ _ ⟨_, rfl, Below.refl _ _, rfl⟩
            apply free_is
            · intro a' w' hLe hfr hdep
              have e30 : a'.tmps.getD 30 undef = _ := hdep 19 30 (Nat.le_of_ble_eq_true rfl) rfl rfl
              conv at e30 => rhs; whnf
              have f30 := e30; simp only [Array.getD_eq_getD_getElem?] at f30
              have e1 := hfr 1 rfl
              conv at e1 => rhs; whnf
              have f1 := e1; simp only [Array.getD_eq_getD_getElem?] at f1
              refine wpOp_yes rfl rfl rfl e30 (fun K hK => ?_)
              go_simp
              exact hK _ _ ⟨_, rfl, Below.refl _ _, rfl⟩
            apply free_is
            · intro a' w' hLe hfr hdep
              have e30 : a'.tmps.getD 30 undef = _ := hdep 19 30 (Nat.le_of_ble_eq_true rfl) rfl rfl
              conv at e30 => rhs; whnf
              have f30 := e30; simp only [Array.getD_eq_getD_getElem?] at f30
              have e31 : a'.tmps.getD 31 undef = _ := hdep 20 31 (Nat.le_of_ble_eq_true rfl) rfl rfl
              conv at e31 => rhs; whnf
              have f31 := e31; simp only [Array.getD_eq_getD_getElem?] at f31
              have kc := fun i => keepc hLe (bl) (by (try simp) <;> omega) i
              have kf := fun i => keepf hLe (bl) (by (try simp) <;> omega) i
              have kz : bl < w'.heap.size := (by have := hLe.size; (try simp at this); omega)
              have kc := fun i => keepc hLe (w.heap.size) (by (try simp) <;> omega) i
              have kf := fun i => keepf hLe (w.heap.size) (by (try simp) <;> omega) i
              have kz : w.heap.size < w'.heap.size := (by have := hLe.size; (try simp at this); omega)
              refine wpOp_yes rfl rfl rfl e30 (fun K hK => ?_)
              go_simp
              exact hK _ _ ⟨_, rfl, Below.refl _ _, rfl⟩
            apply free_is
            · intro a' w' hLe hfr hdep
              have e30 : a'.tmps.getD 30 undef = _ := hdep 19 30 (Nat.le_of_ble_eq_true rfl) rfl rfl
              conv at e30 => rhs; whnf
              have f30 := e30; simp only [Array.getD_eq_getD_getElem?] at f30
              have e3 := hfr 3 rfl
              conv at e3 => rhs; whnf
              have f3 := e3; simp only [Array.getD_eq_getD_getElem?] at f3
              refine wpOp_yes rfl rfl rfl e30 (fun K hK => ?_)
              go_simp
              exact hK _ _ ⟨_, rfl, Below.refl _ _, rfl⟩
            apply free_is
            · intro a' w' hLe hfr hdep
              have e30 : a'.tmps.getD 30 undef = _ := hdep 19 30 (Nat.le_of_ble_eq_true rfl) rfl rfl
              conv at e30 => rhs; whnf
              have f30 := e30; simp only [Array.getD_eq_getD_getElem?] at f30
              have e32 : a'.tmps.getD 32 undef = _ := hdep 21 32 (Nat.le_of_ble_eq_true rfl) rfl rfl
              conv at e32 => rhs; whnf
              have f32 := e32; simp only [Array.getD_eq_getD_getElem?] at f32
              have e33 : a'.tmps.getD 33 undef = _ := hdep 22 33 (Nat.le_of_ble_eq_true rfl) rfl rfl
              conv at e33 => rhs; whnf
              have f33 := e33; simp only [Array.getD_eq_getD_getElem?] at f33
              refine wpOp_yes rfl rfl rfl e30 (fun K hK => ?_)
              go_simp
              exact hK _ _ ⟨_, rfl, Below.refl _ _, rfl⟩
            apply free_is
            · intro a' w' hLe hfr hdep
              have e30 : a'.tmps.getD 30 undef = _ := hdep 19 30 (Nat.le_of_ble_eq_true rfl) rfl rfl
              conv at e30 => rhs; whnf
              have f30 := e30; simp only [Array.getD_eq_getD_getElem?] at f30
              have e34 : a'.tmps.getD 34 undef = _ := hdep 23 34 (Nat.le_of_ble_eq_true rfl) rfl rfl
              conv at e34 => rhs; whnf
              have f34 := e34; simp only [Array.getD_eq_getD_getElem?] at f34
              have kc := fun i => keepc hLe (bl) (by (try simp) <;> omega) i
              have kf := fun i => keepf hLe (bl) (by (try simp) <;> omega) i
              have kz : bl < w'.heap.size := (by have := hLe.size; (try simp at this); omega)
              have kc := fun i => keepc hLe (w.heap.size) (by (try simp) <;> omega) i
              have kf := fun i => keepf hLe (w.heap.size) (by (try simp) <;> omega) i
              have kz : w.heap.size < w'.heap.size := (by have := hLe.size; (try simp at this); omega)
              refine wpOp_yes rfl rfl rfl e30 (fun K hK => ?_)
              go_simp
              exact hK _ _ ⟨_, rfl, Below.refl _ _, rfl⟩
            apply free_is
            · intro a' w' hLe hfr hdep
              have e30 : a'.tmps.getD 30 undef = _ := hdep 19 30 (Nat.le_of_ble_eq_true rfl) rfl rfl
              conv at e30 => rhs; whnf
              have f30 := e30; simp only [Array.getD_eq_getD_getElem?] at f30
              have e1 := hfr 1 rfl
              conv at e1 => rhs; whnf
              have f1 := e1; simp only [Array.getD_eq_getD_getElem?] at f1
              refine wpOp_yes rfl rfl rfl e30 (fun K hK => ?_)
              go_simp
              exact hK _ _ ⟨_, rfl, Below.refl _ _, rfl⟩
            apply free_is
            · intro a' w' hLe hfr hdep
              have e30 : a'.tmps.getD 30 undef = _ := hdep 19 30 (Nat.le_of_ble_eq_true rfl) rfl rfl
              conv at e30 => rhs; whnf
              have f30 := e30; simp only [Array.getD_eq_getD_getElem?] at f30
              have e36 : a'.tmps.getD 36 undef = _ := hdep 25 36 (Nat.le_of_ble_eq_true rfl) rfl rfl
              conv at e36 => rhs; whnf
              have f36 := e36; simp only [Array.getD_eq_getD_getElem?] at f36
              have kc := fun i => keepc hLe (bl) (by (try simp) <;> omega) i
              have kf := fun i => keepf hLe (bl) (by (try simp) <;> omega) i
              have kz : bl < w'.heap.size := (by have := hLe.size; (try simp at this); omega)
              have kc := fun i => keepc hLe (w.heap.size) (by (try simp) <;> omega) i
              have kf := fun i => keepf hLe (w.heap.size) (by (try simp) <;> omega) i
              have kz : w.heap.size < w'.heap.size := (by have := hLe.size; (try simp at this); omega)
              refine wpOp_yes rfl rfl rfl e30 (fun K hK => ?_)
              go_simp
              exact hK _ _ ⟨_, rfl, Below.refl _ _, rfl⟩
            apply free_is
            · intro a' w' hLe hfr hdep
              have e30 : a'.tmps.getD 30 undef = _ := hdep 19 30 (Nat.le_of_ble_eq_true rfl) rfl rfl
              conv at e30 => rhs; whnf
              have f30 := e30; simp only [Array.getD_eq_getD_getElem?] at f30
              have e3 := hfr 3 rfl
              conv at e3 => rhs; whnf
              have f3 := e3; simp only [Array.getD_eq_getD_getElem?] at f3
              refine wpOp_yes rfl rfl rfl e30 (fun K hK => ?_)
              go_simp
              exact hK _ _ ⟨_, rfl, Below.refl _ _, rfl⟩
            apply free_is
            · intro a' w' hLe hfr hdep
              have e30 : a'.tmps.getD 30 undef = _ := hdep 19 30 (Nat.le_of_ble_eq_true rfl) rfl rfl
              conv at e30 => rhs; whnf
              have f30 := e30; simp only [Array.getD_eq_getD_getElem?] at f30
              have e38 : a'.tmps.getD 38 undef = _ := hdep 27 38 (Nat.le_of_ble_eq_true rfl) rfl rfl
              conv at e38 => rhs; whnf
              have f38 := e38; simp only [Array.getD_eq_getD_getElem?] at f38
              refine wpOp_yes rfl rfl rfl e30 (fun K hK => ?_)
              go_simp
              exact hK _ _ ⟨_, rfl, Below.refl _ _, rfl⟩
            apply free_is
            · intro a' w' hLe hfr hdep
              have e30 : a'.tmps.getD 30 undef = _ := hdep 19 30 (Nat.le_of_ble_eq_true rfl) rfl rfl
              conv at e30 => rhs; whnf
              have f30 := e30; simp only [Array.getD_eq_getD_getElem?] at f30
              have e37 : a'.tmps.getD 37 undef = _ := hdep 26 37 (Nat.le_of_ble_eq_true rfl) rfl rfl
              conv at e37 => rhs; whnf
              have f37 := e37; simp only [Array.getD_eq_getD_getElem?] at f37
              have e39 : a'.tmps.getD 39 undef = _ := hdep 28 39 (Nat.le_of_ble_eq_true rfl) rfl rfl
              conv at e39 => rhs; whnf
              have f39 := e39; simp only [Array.getD_eq_getD_getElem?] at f39
              refine wpOp_yes rfl rfl rfl e30 (fun K hK => ?_)
              go_simp
              exact hK _ _ ⟨_, rfl, Below.refl _ _, rfl⟩
            apply free_is
            · intro a' w' hLe hfr hdep
              have e30 : a'.tmps.getD 30 undef = _ := hdep 19 30 (Nat.le_of_ble_eq_true rfl) rfl rfl
              conv at e30 => rhs; whnf
              have f30 := e30; simp only [Array.getD_eq_getD_getElem?] at f30
              have e40 : a'.tmps.getD 40 undef = _ := hdep 29 40 (Nat.le_of_ble_eq_true rfl) rfl rfl
              conv at e40 => rhs; whnf
              have f40 := e40; simp only [Array.getD_eq_getD_getElem?] at f40
              have kc := fun i => keepc hLe (bl) (by (try simp) <;> omega) i
              have kf := fun i => keepf hLe (bl) (by (try simp) <;> omega) i
              have kz : bl < w'.heap.size := (by have := hLe.size; (try simp at this); omega)
              have kc := fun i => keepc hLe (w.heap.size) (by (try simp) <;> omega) i
              have kf := fun i => keepf hLe (w.heap.size) (by (try simp) <;> omega) i
              have kz : w.heap.size < w'.heap.size := (by have := hLe.size; (try simp at this); omega)
              refine wpOp_yes rfl rfl rfl e30 (fun K hK => ?_)
              go_simp
              exact hK _ _ ⟨_, rfl, Below.refl _ _, rfl⟩
            apply free_is
            · intro a' w' hLe hfr hdep
              have e30 : a'.tmps.getD 30 undef = _ := hdep 19 30 (Nat.le_of_ble_eq_true rfl) rfl rfl
              conv at e30 => rhs; whnf
              have f30 := e30; simp only [Array.getD_eq_getD_getElem?] at f30
              have e35 : a'.tmps.getD 35 undef = _ := hdep 24 35 (Nat.le_of_ble_eq_true rfl) rfl rfl
              conv at e35 => rhs; whnf
              have f35 := e35; simp only [Array.getD_eq_getD_getElem?] at f35
              have e41 : a'.tmps.getD 41 undef = _ := hdep 30 41 (Nat.le_of_ble_eq_true rfl) rfl rfl
              conv at e41 => rhs; whnf
              have f41 := e41; simp only [Array.getD_eq_getD_getElem?] at f41
              refine wpOp_yes rfl rfl rfl e30 (fun K hK => ?_)
              go_simp
              exact hK _ _ ⟨_, rfl, Below.refl _ _, rfl⟩
            apply free_is
            · intro a' w' hLe hfr hdep
              have e27 : a'.tmps.getD 27 undef = _ := hdep 16 27 (Nat.le_of_ble_eq_true rfl) rfl rfl
              conv at e27 => rhs; whnf
              have f27 := e27; simp only [Array.getD_eq_getD_getElem?] at f27
              have e30 : a'.tmps.getD 30 undef = _ := hdep 19 30 (Nat.le_of_ble_eq_true rfl) rfl rfl
              conv at e30 => rhs; whnf
              have f30 := e30; simp only [Array.getD_eq_getD_getElem?] at f30
              have e42 : a'.tmps.getD 42 undef = _ := hdep 31 42 (Nat.le_of_ble_eq_true rfl) rfl rfl
              conv at e42 => rhs; whnf
              have f42 := e42; simp only [Array.getD_eq_getD_getElem?] at f42
              refine wpOp_yes rfl rfl rfl e27 (fun K hK => ?_)
              go_simp
              exact hK _ _ ⟨_, rfl, Below.refl _ _, rfl⟩
            apply free_is
            · intro a' w' hLe hfr hdep
              have e27 : a'.tmps.getD 27 undef = _ := hdep 16 27 (Nat.le_of_ble_eq_true rfl) rfl rfl
              conv at e27 => rhs; whnf
              have f27 := e27; simp only [Array.getD_eq_getD_getElem?] at f27
              have e43 : a'.tmps.getD 43 undef = _ := hdep 32 43 (Nat.le_of_ble_eq_true rfl) rfl rfl
              conv at e43 => rhs; whnf
              have f43 := e43; simp only [Array.getD_eq_getD_getElem?] at f43
              refine wpOp_plain rfl rfl (fun K hK => ?_)
              go_simp
              exact hK _ _ ⟨_, rfl, Below.refl _ _, rfl⟩
            apply free_nil
            intro vs w4 hb4 hT4
            have e11 : vs 0 = _ := hT4 0 11 rfl
            conv at e11 => rhs; whnf
            have e12 : vs 1 = _ := hT4 1 12 rfl
            conv at e12 => rhs; whnf
            have e13 : vs 2 = _ := hT4 2 13 rfl
            conv at e13 => rhs; whnf
            have e14 : vs 3 = _ := hT4 3 14 rfl
            conv at e14 => rhs; whnf
            have e15 : vs 4 = _ := hT4 4 15 rfl
            conv at e15 => rhs; whnf
            have e16 : vs 5 = _ := hT4 5 16 rfl
            conv at e16 => rhs; whnf
            have e17 : vs 6 = _ := hT4 6 17 rfl
            conv at e17 => rhs; whnf
            have e18 : vs 7 = _ := hT4 7 18 rfl
            conv at e18 => rhs; whnf
            have e19 : vs 8 = _ := hT4 8 19 rfl
            conv at e19 => rhs; whnf
            have e20 : vs 9 = _ := hT4 9 20 rfl
            conv at e20 => rhs; whnf
            have e21 : vs 10 = _ := hT4 10 21 rfl
            conv at e21 => rhs; whnf
            have e22 : vs 11 = _ := hT4 11 22 rfl
            conv at e22 => rhs; whnf
            have e23 : vs 12 = _ := hT4 12 23 rfl
            conv at e23 => rhs; whnf
            have e24 : vs 13 = _ := hT4 13 24 rfl
            conv at e24 => rhs; whnf
            have e25 : vs 14 = _ := hT4 14 25 rfl
            conv at e25 => rhs; whnf
            have e26 : vs 15 = _ := hT4 15 26 rfl
            conv at e26 => rhs; whnf
            have e27 : vs 16 = _ := hT4 16 27 rfl
            conv at e27 => rhs; whnf
            have e28 : vs 17 = _ := hT4 17 28 rfl
            conv at e28 => rhs; whnf
            have e29 : vs 18 = _ := hT4 18 29 rfl
            conv at e29 => rhs; whnf
            have e30 : vs 19 = _ := hT4 19 30 rfl
            conv at e30 => rhs; whnf
            have e31 : vs 20 = _ := hT4 20 31 rfl
            conv at e31 => rhs; whnf
            have e32 : vs 21 = _ := hT4 21 32 rfl
            conv at e32 => rhs; whnf
            have e33 : vs 22 = _ := hT4 22 33 rfl
            conv at e33 => rhs; whnf
            have e34 : vs 23 = _ := hT4 23 34 rfl
            conv at e34 => rhs; whnf
            have e35 : vs 24 = _ := hT4 24 35 rfl
            conv at e35 => rhs; whnf
            have e36 : vs 25 = _ := hT4 25 36 rfl
            conv at e36 => rhs; whnf
            have e37 : vs 26 = _ := hT4 26 37 rfl
            conv at e37 => rhs; whnf
            have e38 : vs 27 = _ := hT4 27 38 rfl
            conv at e38 => rhs; whnf
            have e39 : vs 28 = _ := hT4 28 39 rfl
            conv at e39 => rhs; whnf
            have e40 : vs 29 = _ := hT4 29 40 rfl
            conv at e40 => rhs; whnf
            have e41 : vs 30 = _ := hT4 30 41 rfl
            conv at e41 => rhs; whnf
            have e42 : vs 31 = _ := hT4 31 42 rfl
            conv at e42 => rhs; whnf
            have e43 : vs 32 = _ := hT4 32 43 rfl
            conv at e43 => rhs; whnf
            have e44 : vs 33 = _ := hT4 33 44 rfl
            conv at e44 => rhs; whnf
            simp only [putAll, List.drop_succ_cons, List.drop_zero, e11, e12, e13, e14, e15, e16, e17, e18, e19, e20, e21, e22, e23, e24, e25, e26, e27, e28, e29, e30, e31, e32, e33, e34, e35, e36, e37, e38, e39, e40, e41, e42, e43, e44]
            clear hT4 e11 e12 e13 e14 e15 e16 e17 e18 e19 e20 e21 e22 e23 e24 e25 e26 e27 e28 e29 e30 e31 e32 e33 e34 e35 e36 e37 e38 e39 e40 e41 e42 e43 e44
            go_simp
            go_wp2
            go_roundw
            case rel => exact ⟨i + 1 + 1, by omega, by go_num, by (repeat (first | exact Below.refl _ _ | assumption | refine Below.al ?_ _ | refine Below.dr ?_ | (refine Below.st ?_ (by simp <;> omega) _) | (refine Below.tr ?_ (by assumption))))⟩
            case measure => simp [intOf]; omega
    · obtain rfl : j = n := by omega
      clear hrow
      rcases hbd.out with h1 | ⟨h1, h2⟩
      · go_wp2_with (go_at_call 16; refine (l1In_any _ _ _ _).mono ?_; rintro e w' ⟨rfl, rfl⟩)
        go_ret
        exact ⟨rfl, by (repeat (first | exact Below.refl _ _ | assumption | refine Below.al ?_ _ | refine Below.dr ?_ | (refine Below.st ?_ (by simp <;> omega) _) | (refine Below.tr ?_ (by assumption))))⟩
      · go_wp2_with (go_at_call 16; refine (l1In_any _ _ _ _).mono ?_; rintro e w' ⟨rfl, rfl⟩)
        go_ret
        exact ⟨rfl, by (repeat (first | exact Below.refl _ _ | assumption | refine Below.al ?_ _ | refine Below.dr ?_ | (refine Below.st ?_ (by simp <;> omega) _) | (refine Below.tr ?_ (by assumption))))⟩

theorem specReceiverValid_any {w : World} {B : Nat} {A : Option Addr} {n c : Nat} {h : Nat → Int} (nx rm : Int) (H : Rws w B 1 A n c (intR h)) (hB : B ≤ w.heap.size) :
    Calls Try.prog 7 #[.agg #[.int .i64 nx, .int .i64 rm, .slice A n c]] w fun e w' => e = .returned (.bool (rcvB nx rm n h)) ∧ Below w.heap.size w w' := by
  cases h1 : inB nx 0 100000 with
  | false =>
    rw [show rcvB nx rm n h = false by simp [rcvB, h1]]
    exact specReceiverValid_no nx rm H hB (.inl h1)
  | true =>
    cases h2 : inB rm 1 10 with
    | false =>
      rw [show rcvB nx rm n h = false by simp [rcvB, h2]]
      exact specReceiverValid_no nx rm H hB (.inr ⟨h1, h2⟩)
    | true => exact specReceiverValid_yes nx rm H hB h1 h2
end Go.Proofs.Ytangpebnjodpnaa
