/-
  The law 'dropped routes are gone': its walk.
-/
import Derived.Test.YtgoijpbkgkjfeaaDrD
import Derived.Test.YtgoijpbkgkjfeaaDrP
import Derived.Test.YtgoijpbkgkjfeaaFlow
namespace Go.Proofs.Ytgoijpbkgkjfeaa
open Go Go.RowKit

set_option maxHeartbeats 4000000 in
theorem neq_route (a b c : Int) (w : World) : (binOp .neq 27 (.agg #[.int .i64 a, .int .i64 b, .int .i64 c]) (.agg #[.int .i64 a, .int .i64 b, .int .i64 c])).run Try.prog w = .ok (.bool false) w := by
  have h : (binOp .eql 27 (.agg #[.int .i64 a, .int .i64 b, .int .i64 c]) (.agg #[.int .i64 a, .int .i64 b, .int .i64 c])).run Try.prog w = .ok (.bool true) w := by
    simp only [binOp]
    have hr := fun w' => run_underlying (w := w') Try.underlying27
    have hu := fun w' => run_underlying (w := w') Try.underlying25
    have hi := fun w' => run_underlying (w := w') Try.underlying3
    simp [Op.equal, Op.maxDepth, go_sem]
  exact binOp_neq h
set_option maxHeartbeats 2000000 in
theorem sameRoutes_same {w : World} {B : Nat} {A A' : Option Addr} {n c c' : Nat} {c0 : Nat → Int} {c1 : Nat → Int} {c2 : Nat → Int} (h : Rws w B 3 A n c (routeR c0 c1 c2)) (h' : Rws w B 3 A' n c' (routeR c0 c1 c2)) (hB : B ≤ w.heap.size) :
    Calls Try.prog 9 #[.slice A n c, .slice A' n c'] w fun e w' => e = .returned (.bool true) ∧ Below w.heap.size w w' := by
  obtain ⟨⟨hnc, hcm⟩, hrow⟩ := h
  obtain ⟨⟨hnc', hcm'⟩, hrow'⟩ := h'
  unfold maxLen at hcm hcm'
  go_enter Try.func9, Try.ntmps9
  go_wp2
  go_loopw [5] (fun i wr => ∃ k : Nat, k ≤ n ∧ i = .int .i64 k ∧ Below w.heap.size w wr) (fun i _ => n - (intOf i).toNat)
  case atStart => exact ⟨0, by omega, rfl, by (repeat (first | exact Below.refl _ _ | assumption | refine Below.al ?_ _ | refine Below.dr ?_ | (refine Below.st ?_ (by simp <;> omega) _) | (refine Below.tr ?_ (by assumption))))⟩
  case round =>
    obtain ⟨k, hk, rfl, hBw⟩ := hrel
    by_cases hlt : k < n
    · obtain ⟨b, off, rfl, hbB, hc⟩ := hrow (by omega)
      obtain ⟨b', off', rfl, hbB', hc'⟩ := hrow' (by omega)
      have hr := hc k hlt
      have hr' := hc' k hlt
      have hbs : b < wr.heap.size := by have := hBw.size; omega
      have hbs' : b' < wr.heap.size := by have := hBw.size; omega
      have q0 : wr.cell? ⟨b, off + k * 3, none⟩ = some (.int .i64 (c0 k)) := (keepc hBw b (by omega) _).trans (hr 0 _ rfl)
      have q1 : wr.cell? ⟨b, off + k * 3 + 1, none⟩ = some (.int .i64 (c1 k)) := (keepc hBw b (by omega) _).trans (hr 1 _ rfl)
      have q2 : wr.cell? ⟨b, off + k * 3 + 2, none⟩ = some (.int .i64 (c2 k)) := (keepc hBw b (by omega) _).trans (hr 2 _ rfl)
      have s0 : wr.cell? ⟨b', off' + k * 3, none⟩ = some (.int .i64 (c0 k)) := (keepc hBw b' (by omega) _).trans (hr' 0 _ rfl)
      have s1 : wr.cell? ⟨b', off' + k * 3 + 1, none⟩ = some (.int .i64 (c1 k)) := (keepc hBw b' (by omega) _).trans (hr' 1 _ rfl)
      have s2 : wr.cell? ⟨b', off' + k * 3 + 2, none⟩ = some (.int .i64 (c2 k)) := (keepc hBw b' (by omega) _).trans (hr' 2 _ rfl)
      have hq := neq_route (c0 k) (c1 k) (c2 k)
      clear hrow hc hr hrow' hc' hr'
      go_upto_region 6 with (fail)
      refine wp_region_free (ds := [(0, 17), (1, 18), (2, 19), (3, 20), (4, 21), (5, 22), (6, 23), (7, 24), (8, 25)]) 9 (by kernel_rfl) (by kernel_rfl) (by first | exact .inl rfl | exact .inr (by kernel_rfl)) (by rfl) rfl rfl ?_
      apply free_is
      · intro a' w' hLe hfr hdep
        have e0 := hfr 0 rfl
        conv at e0 => rhs; whnf
        have f0 := e0; simp only [Array.getD_eq_getD_getElem?] at f0
        refine wpOp_plain rfl rfl (fun K hK => ?_)
        go_simp
        exact hK _ _ ⟨_, rfl, Below.refl _ _, rfl⟩
      apply free_is
      · intro a' w' hLe hfr hdep
        have e5 := hfr 5 rfl
        conv at e5 => rhs; whnf
        have f5 := e5; simp only [Array.getD_eq_getD_getElem?] at f5
        refine wpOp_plain rfl rfl (fun K hK => ?_)
        go_simp
        exact hK _ _ ⟨_, rfl, Below.refl _ _, rfl⟩
      apply free_is
      · intro a' w' hLe hfr hdep
        have e17 : a'.tmps.getD 17 undef = _ := hdep 0 17 (Nat.le_of_ble_eq_true rfl) rfl rfl
        conv at e17 => rhs; whnf
        have f17 := e17; simp only [Array.getD_eq_getD_getElem?] at f17
        have e18 : a'.tmps.getD 18 undef = _ := hdep 1 18 (Nat.le_of_ble_eq_true rfl) rfl rfl
        conv at e18 => rhs; whnf
        have f18 := e18; simp only [Array.getD_eq_getD_getElem?] at f18
        refine wpOp_plain rfl rfl (fun K hK => ?_)
        go_simp
        exact hK _ _ ⟨_, rfl, Below.refl _ _, rfl⟩
      apply free_is
      · intro a' w' hLe hfr hdep
        have e19 : a'.tmps.getD 19 undef = _ := hdep 2 19 (Nat.le_of_ble_eq_true rfl) rfl rfl
        conv at e19 => rhs; whnf
        have f19 := e19; simp only [Array.getD_eq_getD_getElem?] at f19
        have kc := fun i => keepc hLe (b) (by (try simp) <;> omega) i
        have kf := fun i => keepf hLe (b) (by (try simp) <;> omega) i
        have kz : b < w'.heap.size := (by have := hLe.size; (try simp at this); omega)
        have kc := fun i => keepc hLe (b') (by (try simp) <;> omega) i
        have kf := fun i => keepf hLe (b') (by (try simp) <;> omega) i
        have kz : b' < w'.heap.size := (by have := hLe.size; (try simp at this); omega)
        refine wpOp_plain rfl rfl (fun K hK => ?_)
        go_simp
        exact hK _ _ ⟨_, rfl, Below.refl _ _, rfl⟩
      apply free_is
      · intro a' w' hLe hfr hdep
        have e1 := hfr 1 rfl
        conv at e1 => rhs; whnf
        have f1 := e1; simp only [Array.getD_eq_getD_getElem?] at f1
        refine wpOp_plain rfl rfl (fun K hK => ?_)
        go_simp
        exact hK _ _ ⟨_, rfl, Below.refl _ _, rfl⟩
      apply free_is
      · intro a' w' hLe hfr hdep
        have e5 := hfr 5 rfl
        conv at e5 => rhs; whnf
        have f5 := e5; simp only [Array.getD_eq_getD_getElem?] at f5
        refine wpOp_plain rfl rfl (fun K hK => ?_)
        go_simp
        exact hK _ _ ⟨_, rfl, Below.refl _ _, rfl⟩
      apply free_is
      · intro a' w' hLe hfr hdep
        have e21 : a'.tmps.getD 21 undef = _ := hdep 4 21 (Nat.le_of_ble_eq_true rfl) rfl rfl
        conv at e21 => rhs; whnf
        have f21 := e21; simp only [Array.getD_eq_getD_getElem?] at f21
        have e22 : a'.tmps.getD 22 undef = _ := hdep 5 22 (Nat.le_of_ble_eq_true rfl) rfl rfl
        conv at e22 => rhs; whnf
        have f22 := e22; simp only [Array.getD_eq_getD_getElem?] at f22
        refine wpOp_plain rfl rfl (fun K hK => ?_)
        go_simp
        exact hK _ _ ⟨_, rfl, Below.refl _ _, rfl⟩
      apply free_is
      · intro a' w' hLe hfr hdep
        have e23 : a'.tmps.getD 23 undef = _ := hdep 6 23 (Nat.le_of_ble_eq_true rfl) rfl rfl
        conv at e23 => rhs; whnf
        have f23 := e23; simp only [Array.getD_eq_getD_getElem?] at f23
        have kc := fun i => keepc hLe (b) (by (try simp) <;> omega) i
        have kf := fun i => keepf hLe (b) (by (try simp) <;> omega) i
        have kz : b < w'.heap.size := (by have := hLe.size; (try simp at this); omega)
        have kc := fun i => keepc hLe (b') (by (try simp) <;> omega) i
        have kf := fun i => keepf hLe (b') (by (try simp) <;> omega) i
        have kz : b' < w'.heap.size := (by have := hLe.size; (try simp at this); omega)
        refine wpOp_plain rfl rfl (fun K hK => ?_)
        go_simp
        exact hK _ _ ⟨_, rfl, Below.refl _ _, rfl⟩
      apply free_is
      · intro a' w' hLe hfr hdep
        have e20 : a'.tmps.getD 20 undef = _ := hdep 3 20 (Nat.le_of_ble_eq_true rfl) rfl rfl
        conv at e20 => rhs; whnf
        have f20 := e20; simp only [Array.getD_eq_getD_getElem?] at f20
        have e24 : a'.tmps.getD 24 undef = _ := hdep 7 24 (Nat.le_of_ble_eq_true rfl) rfl rfl
        conv at e24 => rhs; whnf
        have f24 := e24; simp only [Array.getD_eq_getD_getElem?] at f24
        refine wpOp_plain rfl rfl (fun K hK => ?_)
        go_simp
        exact hK _ _ ⟨_, rfl, Below.refl _ _, rfl⟩
      apply free_nil
      intro vs w1 hb1 hT1
      have e17 : vs 0 = _ := hT1 0 17 rfl
      conv at e17 => rhs; whnf
      have e18 : vs 1 = _ := hT1 1 18 rfl
      conv at e18 => rhs; whnf
      have e19 : vs 2 = _ := hT1 2 19 rfl
      conv at e19 => rhs; whnf
      have e20 : vs 3 = _ := hT1 3 20 rfl
      conv at e20 => rhs; whnf
      have e21 : vs 4 = _ := hT1 4 21 rfl
      conv at e21 => rhs; whnf
      have e22 : vs 5 = _ := hT1 5 22 rfl
      conv at e22 => rhs; whnf
      have e23 : vs 6 = _ := hT1 6 23 rfl
      conv at e23 => rhs; whnf
      have e24 : vs 7 = _ := hT1 7 24 rfl
      conv at e24 => rhs; whnf
      have e25 : vs 8 = _ := hT1 8 25 rfl
      conv at e25 => rhs; whnf
      simp only [putAll, List.drop_succ_cons, List.drop_zero, e17, e18, e19, e20, e21, e22, e23, e24, e25]
      clear hT1 e17 e18 e19 e20 e21 e22 e23 e24 e25
      go_simp
      go_wp2
      go_roundw
      case rel => exact ⟨k + 1, by omega, by go_num, Below.tr hBw hb1⟩
      case measure => simp [intOf]; omega
    · obtain rfl : k = n := by omega
      go_wp2
      go_ret
      exact ⟨rfl, hBw⟩
end Go.Proofs.Ytgoijpbkgkjfeaa
