/-
  The law 'dropped routes are gone': its walk.
-/
import Derived.Test.YtjjbfjjmpapajaaDrD
import Derived.Test.YtjjbfjjmpapajaaDrP
import Derived.Test.YtjjbfjjmpapajaaFlow
namespace Go.Proofs.Ytjjbfjjmpapajaa
open Go Go.RowKit

set_option maxHeartbeats 4000000 in
theorem neq_route (a b c : Int) (w : World) : (binOp .neq 45 (.agg #[.int .i64 a, .int .i64 b, .int .i64 c]) (.agg #[.int .i64 a, .int .i64 b, .int .i64 c])).run Try.prog w = .ok (.bool false) w := by
  have h : (binOp .eql 45 (.agg #[.int .i64 a, .int .i64 b, .int .i64 c]) (.agg #[.int .i64 a, .int .i64 b, .int .i64 c])).run Try.prog w = .ok (.bool true) w := by
    simp only [binOp]
    have hr := fun w' => run_underlying (w := w') Try.underlying45
    have hu := fun w' => run_underlying (w := w') Try.underlying25
    have hi := fun w' => run_underlying (w := w') Try.underlying3
    simp [Op.equal, Op.maxDepth, go_sem]
  exact binOp_neq h
set_option maxHeartbeats 2000000 in
theorem sameRoutes_same {w : World} {B : Nat} {A A' : Option Addr} {n c c' : Nat} {c0 : Nat → Int} {c1 : Nat → Int} {c2 : Nat → Int} (h : Rws w B 3 A n c (routeR c0 c1 c2)) (h' : Rws w B 3 A' n c' (routeR c0 c1 c2)) (hB : B ≤ w.heap.size) :
    Calls Try.prog 35 #[.slice A n c, .slice A' n c'] w fun e w' => e = .returned (.bool true) ∧ Below w.heap.size w w' := by
  obtain ⟨⟨hnc, hcm⟩, hrow⟩ := h
  obtain ⟨⟨hnc', hcm'⟩, hrow'⟩ := h'
  unfold maxLen at hcm hcm'
  go_enter Try.func35, Try.ntmps35
  go_wp2
  go_loopw [5] (fun i wr => ∃ k : Nat, k ≤ n ∧ i = .int .i64 k ∧ Below w.heap.size w wr) (fun i _ => n - (intOf i).toNat)
  case atStart => exact ⟨0, by omega, rfl, by (repeat (first | exact Below.refl _ _ | assumption | refine Below.al ?_ _ | refine Below.dr ?_ | (refine Below.st ?_ (by simp <;> omega) _) | (refine Below.tr ?_ (by assumption))))⟩
  case round =>
    obtain ⟨k, hk, rfl, hBw⟩ := hrel
    by_cases hlt : k < n
    · obtain ⟨b, off, rfl, hbB, hc⟩ := hrow (by omega)
      obtain ⟨b', off', rfl, hbB', hc'⟩ := hrow' (by omega)
      have hr := hc k hlt
      have hr' := hc' k hlt
      have hbs : b < wr.heap.size := by have := hBw.size; omega
      have hbs' : b' < wr.heap.size := by have := hBw.size; omega
      have q0 : wr.cell? ⟨b, off + k * 3, none⟩ = some (.int .i64 (c0 k)) := (keepc hBw b (by omega) _).trans (hr 0 _ rfl)
      have q1 : wr.cell? ⟨b, off + k * 3 + 1, none⟩ = some (.int .i64 (c1 k)) := (keepc hBw b (by omega) _).trans (hr 1 _ rfl)
      have q2 : wr.cell? ⟨b, off + k * 3 + 2, none⟩ = some (.int .i64 (c2 k)) := (keepc hBw b (by omega) _).trans (hr 2 _ rfl)
      have s0 : wr.cell? ⟨b', off' + k * 3, none⟩ = some (.int .i64 (c0 k)) := (keepc hBw b' (by omega) _).trans (hr' 0 _ rfl)
      have s1 : wr.cell? ⟨b', off' + k * 3 + 1, none⟩ = some (.int .i64 (c1 k)) := (keepc hBw b' (by omega) _).trans (hr' 1 _ rfl)
      have s2 : wr.cell? ⟨b', off' + k * 3 + 2, none⟩ = some (.int .i64 (c2 k)) := (keepc hBw b' (by omega) _).trans (hr' 2 _ rfl)
      have hq := neq_route (c0 k) (c1 k) (c2 k)
      clear hrow hc hr hrow' hc' hr'
      go_upto_region 6 with (fail)
      refine wp_region_free (ds := [(0, 17), (1, 18), (2, 19), (3, 20), (4, 21), (5, 22), (6, 23), (7, 24), (8, 25)]) 9 (by kernel_rfl) (by kernel_rfl) (by first | exact .inl rfl | exact .inr (by kernel_rfl)) (by rfl) rfl rfl ?_
      apply free_is
      · intro a' w' hLe hfr hdep
        have e0 := hfr 0 rfl
        conv at e0 => rhs; whnf
        have f0 := e0; simp only [Array.getD_eq_getD_getElem?] at f0
        refine wpOp_plain rfl rfl (fun K hK => ?_)
        go_simp
        exact hK _ _ ⟨_, rfl, Below.refl _ _, rfl⟩
      apply free_is
      · intro a' w' hLe hfr hdep
        have e5 := hfr 5 rfl
        conv at e5 => rhs; whnf
        have f5 := e5; simp only [Array.getD_eq_getD_getElem?] at f5
        refine wpOp_plain rfl rfl (fun K hK => ?_)
        go_simp
        exact hK _ _ ⟨_, rfl, Below.refl _ _, rfl⟩
      apply free_is
      · intro a' w' hLe hfr hdep
        have e17 : a'.tmps.getD 17 undef = _ := hdep 0 17 (Nat.le_of_ble_eq_true rfl) rfl rfl
        conv at e17 => rhs; whnf
        have f17 := e17; simp only [Array.getD_eq_getD_getElem?] at f17
        have e18 : a'.tmps.getD 18 undef = _ := hdep 1 18 (Nat.le_of_ble_eq_true rfl) rfl rfl
        conv at e18 => rhs; whnf
        have f18 := e18; simp only [Array.getD_eq_getD_getElem?] at f18
        refine wpOp_plain rfl rfl (fun K hK => ?_)
        go_simp
        exact hK _ _ ⟨_, rfl, Below.refl _ _, rfl⟩
      apply free_is
      · intro a' w' hLe hfr hdep
        have e19 : a'.tmps.getD 19 undef = _ := hdep 2 19 (Nat.le_of_ble_eq_true rfl) rfl rfl
        conv at e19 => rhs; whnf
        have f19 := e19; simp only [Array.getD_eq_getD_getElem?] at f19
        have kc := fun i => keepc hLe (b) (by (try simp) <;> omega) i
        have kf := fun i => keepf hLe (b) (by (try simp) <;> omega) i
        have kz : b < w'.heap.size := (by have := hLe.size; (try simp at this); omega)
        have kc := fun i => keepc hLe (b') (by (try simp) <;> omega) i
        have kf := fun i => keepf hLe (b') (by (try simp) <;> omega) i
        have kz : b' < w'.heap.size := (by have := hLe.size; (try simp at this); omega)
        refine wpOp_plain rfl rfl (fun K hK => ?_)
        go_simp
        exact hK _ _ ⟨_, rfl, Below.refl _ _, rfl⟩
      apply free_is
      · intro a' w' hLe hfr hdep
        have e1 := hfr 1 rfl
        conv at e1 => rhs; whnf
        have f1 := e1; simp only [Array.getD_eq_getD_getElem?] at f1
        refine wpOp_plain rfl rfl (fun K hK => ?_)
        go_simp
        exact hK _ _ ⟨_, rfl, Below.refl _ _, rfl⟩
      apply free_is
      · intro a' w' hLe hfr hdep
        have e5 := hfr 5 rfl
        conv at e5 => rhs; whnf
        have f5 := e5; simp only [Array.getD_eq_getD_getElem?] at f5
        refine wpOp_plain rfl rfl (fun K hK => ?_)
        go_simp
        exact hK _ _ ⟨_, rfl, Below.refl _ _, rfl⟩
      apply free_is
      · intro a' w' hLe hfr hdep
        have e21 : a'.tmps.getD 21 undef = _ := hdep 4 21 (Nat.le_of_ble_eq_true rfl) rfl rfl
        conv at e21 => rhs; whnf
        have f21 := e21; simp only [Array.getD_eq_getD_getElem?] at f21
        have e22 : a'.tmps.getD 22 undef = _ := hdep 5 22 (Nat.le_of_ble_eq_true rfl) rfl rfl
        conv at e22 => rhs; whnf
        have f22 := e22; simp only [Array.getD_eq_getD_getElem?] at f22
        refine wpOp_plain rfl rfl (fun K hK => ?_)
        go_simp
        exact hK _ _ ⟨_, rfl, Below.refl _ _, rfl⟩
      apply free_is
      · intro a' w' hLe hfr hdep
        have e23 : a'.tmps.getD 23 undef = _ := hdep 6 23 (Nat.le_of_ble_eq_true rfl) rfl rfl
        conv at e23 => rhs; whnf
        have f23 := e23; simp only [Array.getD_eq_getD_getElem?] at f23
        have kc := fun i => keepc hLe (b) (by (try simp) <;> omega) i
        have kf := fun i => keepf hLe (b) (by (try simp) <;> omega) i
        have kz : b < w'.heap.size := (by have := hLe.size; (try simp at this); omega)
        have kc := fun i => keepc hLe (b') (by (try simp) <;> omega) i
        have kf := fun i => keepf hLe (b') (by (try simp) <;> omega) i
        have kz : b' < w'.heap.size := (by have := hLe.size; (try simp at this); omega)
        refine wpOp_plain rfl rfl (fun K hK => ?_)
        go_simp
        exact hK _ _ ⟨_, rfl, Below.refl _ _, rfl⟩
      apply free_is
      · intro a' w' hLe hfr hdep
        have e20 : a'.tmps.getD 20 undef = _ := hdep 3 20 (Nat.le_of_ble_eq_true rfl) rfl rfl
        conv at e20 => rhs; whnf
        have f20 := e20; simp only [Array.getD_eq_getD_getElem?] at f20
        have e24 : a'.tmps.getD 24 undef = _ := hdep 7 24 (Nat.le_of_ble_eq_true rfl) rfl rfl
        conv at e24 => rhs; whnf
        have f24 := e24; simp only [Array.getD_eq_getD_getElem?] at f24
        refine wpOp_plain rfl rfl (fun K hK => ?_)
        go_simp
        exact hK _ _ ⟨_, rfl, Below.refl _ _, rfl⟩
      apply free_nil
      intro vs w1 hb1 hT1
      have e17 : vs 0 = _ := hT1 0 17 rfl
      conv at e17 => rhs; whnf
      have e18 : vs 1 = _ := hT1 1 18 rfl
      conv at e18 => rhs; whnf
      have e19 : vs 2 = _ := hT1 2 19 rfl
      conv at e19 => rhs; whnf
      have e20 : vs 3 = _ := hT1 3 20 rfl
      conv at e20 => rhs; whnf
      have e21 : vs 4 = _ := hT1 4 21 rfl
      conv at e21 => rhs; whnf
      have e22 : vs 5 = _ := hT1 5 22 rfl
      conv at e22 => rhs; whnf
      have e23 : vs 6 = _ := hT1 6 23 rfl
      conv at e23 => rhs; whnf
      have e24 : vs 7 = _ := hT1 7 24 rfl
      conv at e24 => rhs; whnf
      have e25 : vs 8 = _ := hT1 8 25 rfl
      conv at e25 => rhs; whnf
      simp only [putAll, List.drop_succ_cons, List.drop_zero, e17, e18, e19, e20, e21, e22, e23, e24, e25]
      clear hT1 e17 e18 e19 e20 e21 e22 e23 e24 e25
      go_simp
      go_wp2
      go_roundw
      case rel => exact ⟨k + 1, by omega, by go_num, Below.tr hBw hb1⟩
      case measure => simp [intOf]; omega
    · obtain rfl : k = n := by omega
      go_wp2
      go_ret
      exact ⟨rfl, hBw⟩
set_option maxRecDepth 20000 in
set_option maxHeartbeats 16000000 in
theorem dropRoute_walk {w : World} {A : Option Addr} {n c : Nat} (h : Bytes w w.heap.size A n c) :
    Calls Try.prog 12 #[.slice A n c] w (Truly w) := by
  by_cases hn : 1048576 < n
  · go_enter Try.func12, Try.ntmps12
    go_wp2
    go_ret
    exact ⟨rfl, Below.refl _ _⟩
  go_enter Try.func12, Try.ntmps12
  go_wp2_with fail
  refine (drawDropRoute_any h).mono ?_
  rintro e w1 ⟨A1, n1, k1, a, b, d, x, y, rfl, hn1, hO1, hb1⟩
  obtain ⟨N, y0, y1, y2, hI, hS, hA, hNB, hV, hNo, hC⟩ := drop_law n1 a b d x y (by omega)
  have HI := Lib.hid hI
  have HS := Lib.hid hS
  have HA := Lib.hid hA
  have HV := Lib.hid hV
  have HNo := Lib.hid hNo
  have HC := Lib.hid hC
  have H1 := Lib.hid (hO1.rows.next (below_al1 w1 (.cells #[.int .i64 x, .int .i64 y] 25)))
  have hcm1 := hO1.1
  have hnc1 := hO1.2.1
  unfold maxLen at hcm1
  clear hI hS hA hV hNo hC hO1 hn h
  have j1 : ∀ i, (w1.alloc (.cells #[.int .i64 x, .int .i64 y] 25)).cell? ⟨w1.heap.size, i, none⟩ = #[Value.int .i64 x, .int .i64 y][i]? := (blk (heap_alloc_new w1 _)).1
  go_wp2_with fail
  clear j1
  refine (HI.out _ _ _ _ H1.out (Nat.le_refl _)).mono ?_
  rintro e w2 ⟨A2, k2, rfl, hO2, hb2⟩
  have hB2 : Below w1.heap.size w1 w2 := Below.tr (below_al1 w1 (.cells #[.int .i64 x, .int .i64 y] 25)) hb2
  have q2 := (hb2.block w1.heap.size (by simp)).trans (heap_alloc_new w1 (.cells #[.int .i64 x, .int .i64 y] 25))
  have H2 := Lib.hid (H1.out.next hb2)
  have hs2 := heap_lt q2
  obtain ⟨c2, f2⟩ := blk q2
  clear H1 hb2
  go_wp2_with fail
  clear c2 f2
  refine (HS.out _ _ _ _ H2.out (Nat.le_refl _)).mono ?_
  rintro e w3 ⟨A3, k3, rfl, hO3, hb3⟩
  have hB3 := Below.tr hB2 hb3
  have q3 := (hb3.block w1.heap.size hs2).trans q2
  have H3 := Lib.hid (H2.out.next hb3)
  have hO23 := hO2.next hb3
  have hs3 := heap_lt q3
  clear H2 hb3 q2 hO2
  go_wp2_with fail
  refine (sameRoutes_same hO23.rows hO3.rows (Nat.le_refl _)).mono ?_
  rintro e w4 ⟨rfl, hb4⟩
  have hB4 := Below.tr hB3 hb4
  have q4 := (hb4.block w1.heap.size hs3).trans q3
  have H4 := Lib.hid (H3.out.next hb4)
  have G4 := Lib.hid (hO23.rows.next hb4)
  have hs4 := heap_lt q4
  have hcm2 := hO23.1
  have hnc2 := hO23.2.1
  unfold maxLen at hcm2
  clear H3 hb4 q3 hO23 hO3
  go_wp2_with fail
  go_loopw [6] (fun i wr => ∃ j : Nat, j ≤ N ∧ i = .int .i64 j ∧ Below w4.heap.size w4 wr) (fun i _ => N - (intOf i).toNat)
  case atStart => exact ⟨0, by omega, rfl, Below.refl _ _⟩
  case round =>
    obtain ⟨j, hj, rfl, hBw⟩ := hrel
    have hsw := hBw.size
    have qr := (hBw.block w1.heap.size hs4).trans q4
    obtain ⟨cr, fr⟩ := blk qr
    have hsr := heap_lt qr
    by_cases hlt : j < N
    · obtain ⟨bx, ox, rfl, hbx, hcx⟩ := G4.out.2 (by omega)
      have rx := hcx j hlt
      have x0 : wr.cell? ⟨bx, ox + j * 3, none⟩ = some (.int .i64 (y0 j)) := (keepc hBw bx hbx _).trans (rx 0 _ rfl)
      have x1 : wr.cell? ⟨bx, ox + j * 3 + 1, none⟩ = some (.int .i64 (y1 j)) := (keepc hBw bx hbx _).trans (rx 1 _ rfl)
      have hxs : bx < wr.heap.size := by omega
      have hq := eql_hit (HNo.out j hlt)
      clear hcx rx
      go_wp2
      refine wp_region_free (ds := [(0, 30), (1, 31), (2, 32), (3, 33), (4, 34), (5, 35), (6, 36)]) 7 (by kernel_rfl) (by kernel_rfl) (by first | exact .inl rfl | exact .inr (by kernel_rfl)) (by rfl) rfl rfl ?_
      apply free_is
      · intro a' w' hLe hfr hdep
        have e5 := hfr 5 rfl
        conv at e5 => rhs; whnf
        have f5 := e5; simp only [Array.getD_eq_getD_getElem?] at f5
        refine wpOp_plain rfl rfl (fun K hK => ?_)
        go_simp
        exact hK _ _ ⟨_, rfl, Below.refl _ _, rfl⟩
      apply free_is
      · intro a' w' hLe hfr hdep
        have e6 := hfr 6 rfl
        conv at e6 => rhs; whnf
        have f6 := e6; simp only [Array.getD_eq_getD_getElem?] at f6
        refine wpOp_plain rfl rfl (fun K hK => ?_)
        go_simp
        exact hK _ _ ⟨_, rfl, Below.refl _ _, rfl⟩
      apply free_is
      · intro a' w' hLe hfr hdep
        have e30 : a'.tmps.getD 30 undef = _ := hdep 0 30 (Nat.le_of_ble_eq_true rfl) rfl rfl
        conv at e30 => rhs; whnf
        have f30 := e30; simp only [Array.getD_eq_getD_getElem?] at f30
        have e31 : a'.tmps.getD 31 undef = _ := hdep 1 31 (Nat.le_of_ble_eq_true rfl) rfl rfl
        conv at e31 => rhs; whnf
        have f31 := e31; simp only [Array.getD_eq_getD_getElem?] at f31
        refine wpOp_plain rfl rfl (fun K hK => ?_)
        go_simp
        exact hK _ _ ⟨_, rfl, Below.refl _ _, rfl⟩
      apply free_is
      · intro a' w' hLe hfr hdep
        have e32 : a'.tmps.getD 32 undef = _ := hdep 2 32 (Nat.le_of_ble_eq_true rfl) rfl rfl
        conv at e32 => rhs; whnf
        have f32 := e32; simp only [Array.getD_eq_getD_getElem?] at f32
        refine wpOp_plain rfl rfl (fun K hK => ?_)
        go_simp
        exact hK _ _ ⟨_, rfl, Below.refl _ _, rfl⟩
      apply free_is
      · intro a' w' hLe hfr hdep
        have e33 : a'.tmps.getD 33 undef = _ := hdep 3 33 (Nat.le_of_ble_eq_true rfl) rfl rfl
        conv at e33 => rhs; whnf
        have f33 := e33; simp only [Array.getD_eq_getD_getElem?] at f33
        have kc := fun i => keepc hLe (bx) (by (try simp) <;> omega) i
        have kf := fun i => keepf hLe (bx) (by (try simp) <;> omega) i
        have kz : bx < w'.heap.size := (by have := hLe.size; (try simp at this); omega)
        have kc := fun i => keepc hLe (w1.heap.size) (by (try simp) <;> omega) i
        have kf := fun i => keepf hLe (w1.heap.size) (by (try simp) <;> omega) i
        have kz : w1.heap.size < w'.heap.size := (by have := hLe.size; (try simp at this); omega)
        refine wpOp_plain rfl rfl (fun K hK => ?_)
        go_simp
        exact hK _ _ ⟨_, rfl, Below.refl _ _, rfl⟩
      apply free_is
      · intro a' w' hLe hfr hdep
        have e4 := hfr 4 rfl
        conv at e4 => rhs; whnf
        have f4 := e4; simp only [Array.getD_eq_getD_getElem?] at f4
        have kc := fun i => keepc hLe (bx) (by (try simp) <;> omega) i
        have kf := fun i => keepf hLe (bx) (by (try simp) <;> omega) i
        have kz : bx < w'.heap.size := (by have := hLe.size; (try simp at this); omega)
        have kc := fun i => keepc hLe (w1.heap.size) (by (try simp) <;> omega) i
        have kf := fun i => keepf hLe (w1.heap.size) (by (try simp) <;> omega) i
        have kz : w1.heap.size < w'.heap.size := (by have := hLe.size; (try simp at this); omega)
        refine wpOp_plain rfl rfl (fun K hK => ?_)
        go_simp
        exact hK _ _ ⟨_, rfl, Below.refl _ _, rfl⟩
      apply free_is
      · intro a' w' hLe hfr hdep
        have e34 : a'.tmps.getD 34 undef = _ := hdep 4 34 (Nat.le_of_ble_eq_true rfl) rfl rfl
        conv at e34 => rhs; whnf
        have f34 := e34; simp only [Array.getD_eq_getD_getElem?] at f34
        have e35 : a'.tmps.getD 35 undef = _ := hdep 5 35 (Nat.le_of_ble_eq_true rfl) rfl rfl
        conv at e35 => rhs; whnf
        have f35 := e35; simp only [Array.getD_eq_getD_getElem?] at f35
        refine wpOp_plain rfl rfl (fun K hK => ?_)
        go_simp
        exact hK _ _ ⟨_, rfl, Below.refl _ _, rfl⟩
      apply free_nil
      intro vs w9 hb9 hT9
      have e30 : vs 0 = _ := hT9 0 30 rfl
      conv at e30 => rhs; whnf
      have e31 : vs 1 = _ := hT9 1 31 rfl
      conv at e31 => rhs; whnf
      have e32 : vs 2 = _ := hT9 2 32 rfl
      conv at e32 => rhs; whnf
      have e33 : vs 3 = _ := hT9 3 33 rfl
      conv at e33 => rhs; whnf
      have e34 : vs 4 = _ := hT9 4 34 rfl
      conv at e34 => rhs; whnf
      have e35 : vs 5 = _ := hT9 5 35 rfl
      conv at e35 => rhs; whnf
      have e36 : vs 6 = _ := hT9 6 36 rfl
      conv at e36 => rhs; whnf
      simp only [putAll, List.drop_succ_cons, List.drop_zero, e30, e31, e32, e33, e34, e35, e36]
      clear hT9 e30 e31 e32 e33 e34 e35 e36
      go_simp
      go_wp2
      go_roundw
      case rel => exact ⟨j + 1, by omega, by go_num, Below.tr hBw hb9⟩
      case measure => simp [intOf]; omega
    · obtain rfl : j = N := by omega
      have hB5 := Below.tr hB4 hBw
      have G5 := Lib.hid (G4.out.next hBw)
      have H5 := Lib.hid (H4.out.next hBw)
      clear G4 H4
      go_wp2_with fail
      refine (implRoutesValid_any G5.out (Nat.le_refl _)).mono ?_
      rintro e w6 ⟨rfl, hb6⟩
      rw [HV.out]
      have hB6 := Below.tr hB5 hb6
      have G6 := Lib.hid (G5.out.next hb6)
      have H6 := Lib.hid (H5.out.next hb6)
      have q6 := (hb6.block w1.heap.size hsr).trans qr
      obtain ⟨c6, f6⟩ := blk q6
      have hs6 := heap_lt q6
      clear G5 H5 hb6
      go_wp2_with fail
      refine (HA.out _ _ _ _ G6.out (Nat.le_refl _)).mono ?_
      rintro e w7 ⟨A7, k7, rfl, hO7, hb7⟩
      have hB7 := Below.tr hB6 hb7
      have G7 := Lib.hid (G6.out.next hb7)
      have H7 := Lib.hid (H6.out.next hb7)
      clear G6 H6 hb7
      go_wp2_with fail
      refine (sameRoutes_same hO7.rows G7.out (Nat.le_refl _)).mono ?_
      rintro e w8 ⟨rfl, hb8⟩
      have hB8 := Below.tr hB7 hb8
      have H8 := Lib.hid (H7.out.next hb8)
      clear G7 H7 hb8 hO7
      go_wp2_with fail
      refine (implRoutesValid_any H8.out (Nat.le_refl _)).mono ?_
      rintro e w9 ⟨rfl, hb9⟩
      have hB9 := Below.tr hB8 hb9
      have e1 : IntKind.i64.wrap ((j : Int) + 1) = (j : Int) + 1 := IntWalk.i64_in _ (by omega)
      cases hv : rtsB n1 a b d with
      | false =>
        go_wp2_with (go_at_call 19; refine (alive_any _).mono ?_; rintro e wa ⟨rfl, hba⟩)
        go_ret
        exact ⟨rfl, Below.tr (Below.tr hb1 hB9) (by assumption)⟩
      | true =>
        have hcount := HC.out hv
        have hd : (n1 : Int) ≤ (j : Int) + 1 := by omega
        clear hv
        go_wp2_with (go_at_call 19; refine (alive_any _).mono ?_; rintro e wa ⟨rfl, hba⟩)
        go_ret
        exact ⟨rfl, Below.tr (Below.tr hb1 hB9) (by assumption)⟩
end Go.Proofs.Ytjjbfjjmpapajaa
