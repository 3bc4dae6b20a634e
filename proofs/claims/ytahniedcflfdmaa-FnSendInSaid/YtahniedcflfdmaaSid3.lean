/-
  The law 'what comes in goes to the slot's flow': its walk.
-/
import Derived.Test.YtahniedcflfdmaaSid2
namespace Go.Proofs.Ytahniedcflfdmaa
open Go Go.RowKit

theorem siV_of {w w' : World} {e : Ending} {x0 x1 : Int} {n : Nat} {f0 f1 f2 f3 f4 : Nat → Int} {g0 g1 g2 g3 g4 p0 p1 p2 p3 p4 : Int} {v : Bool} (h : SiV w x0 x1 n f0 f1 f2 f3 f4 g0 g1 g2 g3 g4 e w')
    (hv : v = siB x0 x1 n f0 f1 f2 f3 f4 g0 g1 g2 g3 g4) (hp : p0 = pk v (f2 (g3 - x1).toNat) ∧ p1 = pk v (f3 (g3 - x1).toNat) ∧ p2 = pk v (f0 (g3 - x1).toNat) ∧ p3 = pk v (f1 (g3 - x1).toNat) ∧ p4 = pk v (f4 (g3 - x1).toNat)) :
    e = .returned (.tuple #[.agg #[.int .i64 p0, .int .i64 p1, .int .i64 p2, .int .i64 p3, .int .i64 p4], .bool v]) ∧ Below w.heap.size w w' := by
  subst hv
  obtain ⟨rfl, rfl, rfl, rfl, rfl⟩ := hp
  exact h
theorem siB_facts {x0 x1 : Int} {n : Nat} {f0 f1 f2 f3 f4 : Nat → Int} {g0 g1 g2 g3 g4 : Int} (h : siB x0 x1 n f0 f1 f2 f3 f4 g0 g1 g2 g3 g4 = true) :
    (g3 - x1).toNat < n ∧ flowB (f0 (g3 - x1).toNat) (f1 (g3 - x1).toNat) (f2 (g3 - x1).toNat) (f3 (g3 - x1).toNat) (f4 (g3 - x1).toNat) = true ∧ f2 (g3 - x1).toNat = g0 ∧ f3 (g3 - x1).toNat = g1 ∧ 0 ≤ g0 ∧ g0 ≤ 255 := by
  simp only [siB, Bool.and_eq_true, decide_eq_true_eq, Bool.not_eq_true'] at h
  obtain ⟨⟨⟨⟨⟨⟨⟨h1, h2⟩, h3⟩, h4⟩, h5⟩, h6⟩, h7⟩, h8⟩ := h
  have h9 := inB_true.1 h4
  have hk : (g3 - x1).toNat < n := by omega
  have h10 := (flowB_bd h2).1
  exact ⟨hk, outB_slot h1 hk h5, h6, h7, h10⟩
theorem siB_other {x0 x1 : Int} {n : Nat} {f0 f1 f2 f3 f4 : Nat → Int} {g0 z g1 g2 g3 g4 : Int} (h : f2 (g3 - x1).toNat = g0) (hz : z ≠ g0) : siB x0 x1 n f0 f1 f2 f3 f4 z g1 g2 g3 g4 = false := by
  have : decide (f2 (g3 - x1).toNat = z) = false := by rw [h]; simp; omega
  simp only [siB, this, Bool.and_false, Bool.false_and]
theorem flowB_turn {a b c d e : Int} (h : flowB a b c d e = true) : flowB c d a b e = true := by
  have := flowB_bd h
  simp [flowB, inB]; omega
set_option maxRecDepth 20000 in
set_option maxHeartbeats 8000000 in
theorem sendIn_walk {w : World} {A : Option Addr} {n c : Nat} (h : Bytes w w.heap.size A n c) :
    Calls Try.prog 7 #[.slice A n c] w (Truly w) := by
  by_cases hn : 1048576 < n
  · go_enter Try.func7, Try.ntmps7
    go_wp2
    go_ret
    exact ⟨rfl, Below.refl _ _⟩
  go_enter Try.func7, Try.ntmps7
  go_wp2_with fail
  refine (drawSendIn_any h).mono ?_
  rintro e w1 ⟨x0, x1, A1, n1, c1, f0, f1, f2, f3, f4, y0, y1, y2, y3, y4, rfl, hn9, hR1, hb1⟩
  have H1 := Lib.hid (hR1.next (show Below w1.heap.size w1 ((w1.alloc (.cells #[.int .i64 x0, .int .i64 x1, .slice A1 n1 c1] 29)).alloc (.cells #[.int .i64 y0, .int .i64 y1, .int .i64 y2, .int .i64 y3, .int .i64 y4] 39)) by (repeat (first | exact Below.refl _ _ | assumption | refine Below.al ?_ _ | refine Below.dr ?_ | (refine Below.st ?_ (by simp <;> omega) _) | (refine Below.tr ?_ (by assumption))))))
  obtain ⟨v, hv⟩ : ∃ v, v = siB x0 x1 n1 f0 f1 f2 f3 f4 y0 y1 y2 y3 y4 := ⟨_, rfl⟩
  obtain ⟨p0, hp0⟩ : ∃ p, p = pk v (f2 (y3 - x1).toNat) := ⟨_, rfl⟩
  obtain ⟨p1, hp1⟩ : ∃ p, p = pk v (f3 (y3 - x1).toNat) := ⟨_, rfl⟩
  obtain ⟨p2, hp2⟩ : ∃ p, p = pk v (f0 (y3 - x1).toNat) := ⟨_, rfl⟩
  obtain ⟨p3, hp3⟩ : ∃ p, p = pk v (f1 (y3 - x1).toNat) := ⟨_, rfl⟩
  obtain ⟨p4, hp4⟩ : ∃ p, p = pk v (f4 (y3 - x1).toNat) := ⟨_, rfl⟩
  have hpp := Lib.hid (And.intro hp0 (And.intro hp1 (And.intro hp2 (And.intro hp3 hp4))))
  replace hv := Lib.hid hv
  clear hR1 h hn hp0 hp1 hp2 hp3 hp4
  go_wp2_with fail
  refine (implSendIn_any x0 x1 y0 y1 y2 y3 y4 H1.out (Nat.le_refl _)).mono ?_
  rintro e w2 hC
  obtain ⟨rfl, hb2⟩ := siV_of hC hv.out hpp.out
  have hB2 : Below w1.heap.size w1 w2 := Below.tr (show Below w1.heap.size w1 ((w1.alloc (.cells #[.int .i64 x0, .int .i64 x1, .slice A1 n1 c1] 29)).alloc (.cells #[.int .i64 y0, .int .i64 y1, .int .i64 y2, .int .i64 y3, .int .i64 y4] 39)) by (repeat (first | exact Below.refl _ _ | assumption | refine Below.al ?_ _ | refine Below.dr ?_ | (refine Below.st ?_ (by simp <;> omega) _) | (refine Below.tr ?_ (by assumption))))) hb2
  have q2 := (hb2.block w1.heap.size (by simp; omega)).trans ((heap_alloc_old _ _ (by simp)).trans (heap_alloc_new w1 (.cells #[.int .i64 x0, .int .i64 x1, .slice A1 n1 c1] 29)))
  have r2 := (hb2.block (w1.heap.size + 1) (by simp)).trans (heap_new1 w1 (.cells #[.int .i64 x0, .int .i64 x1, .slice A1 n1 c1] 29) (.cells #[.int .i64 y0, .int .i64 y1, .int .i64 y2, .int .i64 y3, .int .i64 y4] 39))
  have H2 := Lib.hid (H1.out.next hb2)
  have l2 := heap_lt r2
  have m2 : w1.heap.size < w2.heap.size := by omega
  obtain ⟨k2, u2⟩ := blk q2
  obtain ⟨k3, u3⟩ := blk r2
  clear hC hb2 H1
  go_wp2_with fail
  refine (specSendIn_any x0 x1 y0 y1 y2 y3 y4 (H2.out.next (below_bo w2 (.cells #[.int .i64 p0, .int .i64 p1, .int .i64 p2, .int .i64 p3, .int .i64 p4] 39))) (Nat.le_refl _)).mono ?_
  rintro e w3 hC
  obtain ⟨rfl, hb3⟩ := siV_of hC hv.out hpp.out
  have hB3 : Below w1.heap.size w1 w3 := Below.tr (Below.tr hB2 (below_bo w2 (.cells #[.int .i64 p0, .int .i64 p1, .int .i64 p2, .int .i64 p3, .int .i64 p4] 39))) hb3
  have q3 := (hb3.block w1.heap.size (by simp; omega)).trans ((heap_alloc_old w2 (.cells #[.int .i64 p0, .int .i64 p1, .int .i64 p2, .int .i64 p3, .int .i64 p4] 39) (by omega)).trans q2)
  have r3 := (hb3.block (w1.heap.size + 1) (by simp; omega)).trans ((heap_alloc_old w2 (.cells #[.int .i64 p0, .int .i64 p1, .int .i64 p2, .int .i64 p3, .int .i64 p4] 39) l2).trans r2)
  have s3 := (hb3.block w2.heap.size (by simp)).trans (heap_alloc_new w2 (.cells #[.int .i64 p0, .int .i64 p1, .int .i64 p2, .int .i64 p3, .int .i64 p4] 39))
  have H3 := Lib.hid ((H2.out.next (below_bo w2 (.cells #[.int .i64 p0, .int .i64 p1, .int .i64 p2, .int .i64 p3, .int .i64 p4] 39))).next hb3)
  have l3 := heap_lt s3
  have m3 : w1.heap.size < w3.heap.size := by omega
  have m4 : w1.heap.size + 1 < w3.heap.size := by omega
  clear hC hb3 H2 k2 u2 k3 u3 q2 r2 hB2
  obtain ⟨k2, u2⟩ := blk q3
  obtain ⟨k3, u3⟩ := blk r3
  obtain ⟨k4, u4⟩ := blk s3
  have r36 : ∀ W, (binOp .neq 39 (.agg #[.int .i64 p0, .int .i64 p1, .int .i64 p2, .int .i64 p3, .int .i64 p4]) (.agg #[.int .i64 p0, .int .i64 p1, .int .i64 p2, .int .i64 p3, .int .i64 p4])).run Try.prog W = .ok (.bool false) W := fun W => binOp_neq (v := true) ((eql_flow _ _ _ _ _ _ _ _ _ _ W).trans (by simp))
  cases v with
  | false =>
    have r46 : ∀ W, (binOp .eql 39 (.agg #[.int .i64 p0, .int .i64 p1, .int .i64 p2, .int .i64 p3, .int .i64 p4]) (.agg #[.int .i64 0, .int .i64 0, .int .i64 0, .int .i64 0, .int .i64 0])).run Try.prog W = .ok (.bool true) W := fun W => (eql_flow _ _ _ _ _ _ _ _ _ _ W).trans (by have := hpp.out; simp [pk] at this; simp [this])
    go_wp2_with (go_at_call 14; refine (alive_any _).mono ?_; rintro e wa ⟨rfl, hba⟩)
    go_ret
    exact ⟨rfl, Below.tr (Below.tr hb1 (by exact Below.tr hB3 (below_bo _ _))) hba⟩
  | true =>
    have HB := Lib.hid (siB_facts hv.out.symm)
    go_upto_region 10 with (fail)
    have H5 := Lib.hid (H3.out.next (below_bo w3 (.cells #[.int .i64 p0, .int .i64 p1, .int .i64 p2, .int .i64 p3, .int .i64 p4] 39)))
    have q5 := (heap_alloc_old w3 (.cells #[.int .i64 p0, .int .i64 p1, .int .i64 p2, .int .i64 p3, .int .i64 p4] 39) m3).trans q3
    have r5 := (heap_alloc_old w3 (.cells #[.int .i64 p0, .int .i64 p1, .int .i64 p2, .int .i64 p3, .int .i64 p4] 39) m4).trans r3
    have s5 := (heap_alloc_old w3 (.cells #[.int .i64 p0, .int .i64 p1, .int .i64 p2, .int .i64 p3, .int .i64 p4] 39) l3).trans s3
    have hB5 := Below.tr hB3 (below_bo w3 (.cells #[.int .i64 p0, .int .i64 p1, .int .i64 p2, .int .i64 p3, .int .i64 p4] 39))
    obtain ⟨w5, hw5⟩ : ∃ w5, w5 = w3.alloc (.cells #[.int .i64 p0, .int .i64 p1, .int .i64 p2, .int .i64 p3, .int .i64 p4] 39) := ⟨_, rfl⟩
    rw [← hw5] at q5 r5 s5 H5 hB5 ⊢
    have hl5 : w3.heap.size < w5.heap.size := by rw [hw5]; simp
    have HP := Lib.hid (show p0 = f2 (y3 - x1).toNat ∧ p1 = f3 (y3 - x1).toNat ∧ p2 = f0 (y3 - x1).toNat ∧ p3 = f1 (y3 - x1).toNat ∧ p4 = f4 (y3 - x1).toNat from hpp.out)
    have hF : RowKit.Hid (flowB p0 p1 p2 p3 p4 = true) := Lib.hid (by obtain ⟨a0, a1, a2, a3, a4⟩ := HP.out; rw [a0, a1, a2, a3, a4]; exact flowB_turn HB.out.2.1)
    have hpe0 : (p0 == y0) = true := by have h1 := HP.out.1; have h2 := HB.out.2.2.1; simp; omega
    have hpe1 : (p1 == y1) = true := by have h1 := HP.out.2.1; have h2 := HB.out.2.2.2.1; simp; omega
    clear k2 u2 k3 u3 k4 u4 q3 r3 s3 H3 hB3 hw5 r36 m2 m3 m4 l2 l3 hpp
    have l5 := heap_lt s5
    obtain ⟨k5, u5⟩ := blk q5
    obtain ⟨k6, u6⟩ := blk r5
    obtain ⟨k7, u7⟩ := blk s5
    have hlq := heap_lt q5
    have hlr := heap_lt r5
    go_wp2_with fail
    go_loopw [9, 10] (fun b9 i wr => ∃ (j : Nat) (bb : Bool), j ≤ n1 ∧ b9 = .bool bb ∧ i = .int .i64 j ∧ ((y3 - x1).toNat < j → bb = true) ∧ Below w5.heap.size w5 wr) (fun _ i _ => n1 - (intOf i).toNat)
    case atStart => exact ⟨0, false, by omega, rfl, rfl, fun h => absurd h (by omega), Below.refl _ _⟩
    case round =>
      obtain ⟨j, bb, hj, rfl, rfl, hbb, hBw⟩ := hrel
      have HJ := Lib.hid hbb
      have hsw := hBw.size
      have ko : ∀ i, wr.cell? ⟨w1.heap.size, i, none⟩ = #[Value.int .i64 x0, .int .i64 x1, .slice A1 n1 c1][i]? := fun i => (keepc hBw w1.heap.size hlq i).trans (k5 i)
      have kf : ∀ i, wr.cell? ⟨w1.heap.size + 1, i, none⟩ = #[Value.int .i64 y0, .int .i64 y1, .int .i64 y2, .int .i64 y3, .int .i64 y4][i]? := fun i => (keepc hBw (w1.heap.size + 1) hlr i).trans (k6 i)
      have kg : ∀ i, wr.cell? ⟨w2.heap.size, i, none⟩ = #[Value.int .i64 p0, .int .i64 p1, .int .i64 p2, .int .i64 p3, .int .i64 p4][i]? := fun i => (keepc hBw w2.heap.size l5 i).trans (k7 i)
      have lw1 : w1.heap.size < wr.heap.size := by omega
      have lw2 : w1.heap.size + 1 < wr.heap.size := by omega
      have lw3 : w2.heap.size < wr.heap.size := by omega
      clear hbb k5 u5 k6 u6 k7 u7
      by_cases hlt : j < n1
      · obtain ⟨bx, ox, rfl, hbx, hcx⟩ := H5.out.2 (by omega)
        have rx := hcx j hlt
        have hxs : bx < wr.heap.size := by omega
        have q0 : wr.cell? ⟨bx, ox + j * 5, none⟩ = some (.int .i64 (f0 j)) := (keepc hBw bx (by omega) _).trans (rx 0 _ rfl)
        have q1 : wr.cell? ⟨bx, ox + j * 5 + 1, none⟩ = some (.int .i64 (f1 j)) := (keepc hBw bx (by omega) _).trans (rx 1 _ rfl)
        have q2 : wr.cell? ⟨bx, ox + j * 5 + 2, none⟩ = some (.int .i64 (f2 j)) := (keepc hBw bx (by omega) _).trans (rx 2 _ rfl)
        have q3 : wr.cell? ⟨bx, ox + j * 5 + 3, none⟩ = some (.int .i64 (f3 j)) := (keepc hBw bx (by omega) _).trans (rx 3 _ rfl)
        have q4 : wr.cell? ⟨bx, ox + j * 5 + 4, none⟩ = some (.int .i64 (f4 j)) := (keepc hBw bx (by omega) _).trans (rx 4 _ rfl)
        clear hcx rx
        cases bb with
        | true =>
          go_upto_region 14 with (fail)
          refine wp_region_still (ds := [(0, 57), (1, 58), (2, 59), (3, 60), (4, 61), (5, 62), (6, 63), (7, 64), (8, 65), (9, 66), (10, 67)]) 11 (by kernel_rfl) (by kernel_rfl) (by first | exact .inl rfl | exact .inr (by kernel_rfl)) (by rfl) rfl rfl ?_
          apply still_cons
          · intro a' w' hLe hfr hdep
            have e9 := hfr 9 rfl
            conv at e9 => rhs; whnf
            have f9 := e9; simp only [Array.getD_eq_getD_getElem?] at f9
            refine wpOp_plain rfl rfl (fun K hK => ?_)
            go_simp
            exact hK _ _ ⟨rfl, Below.refl _ _⟩
          apply still_cons
          · intro a' w' hLe hfr hdep
            have e57 := hdep 0 57 (Nat.le_of_ble_eq_true rfl) rfl rfl
            conv at e57 => rhs; whnf
            have f57 := e57; simp only [Array.getD_eq_getD_getElem?] at f57
            refine wpOp_plain rfl rfl (fun K hK => ?_)
            go_simp
            exact hK _ _ ⟨rfl, Below.refl _ _⟩
          apply still_cons
          · intro a' w' hLe hfr hdep
            have e58 := hdep 1 58 (Nat.le_of_ble_eq_true rfl) rfl rfl
            conv at e58 => rhs; whnf
            have f58 := e58; simp only [Array.getD_eq_getD_getElem?] at f58
            exact wpOp_no rfl rfl rfl e58 ⟨rfl, Below.refl _ _⟩
          apply still_cons
          · intro a' w' hLe hfr hdep
            have e58 := hdep 1 58 (Nat.le_of_ble_eq_true rfl) rfl rfl
            conv at e58 => rhs; whnf
            have f58 := e58; simp only [Array.getD_eq_getD_getElem?] at f58
            exact wpOp_no rfl rfl rfl e58 ⟨rfl, Below.refl _ _⟩
          apply still_cons
          · intro a' w' hLe hfr hdep
            have e58 := hdep 1 58 (Nat.le_of_ble_eq_true rfl) rfl rfl
            conv at e58 => rhs; whnf
            have f58 := e58; simp only [Array.getD_eq_getD_getElem?] at f58
            exact wpOp_no rfl rfl rfl e58 ⟨rfl, Below.refl _ _⟩
          apply still_cons
          · intro a' w' hLe hfr hdep
            have e58 := hdep 1 58 (Nat.le_of_ble_eq_true rfl) rfl rfl
            conv at e58 => rhs; whnf
            have f58 := e58; simp only [Array.getD_eq_getD_getElem?] at f58
            exact wpOp_no rfl rfl rfl e58 ⟨rfl, Below.refl _ _⟩
          apply still_cons
          · intro a' w' hLe hfr hdep
            have e58 := hdep 1 58 (Nat.le_of_ble_eq_true rfl) rfl rfl
            conv at e58 => rhs; whnf
            have f58 := e58; simp only [Array.getD_eq_getD_getElem?] at f58
            exact wpOp_no rfl rfl rfl e58 ⟨rfl, Below.refl _ _⟩
          apply still_cons
          · intro a' w' hLe hfr hdep
            have e58 := hdep 1 58 (Nat.le_of_ble_eq_true rfl) rfl rfl
            conv at e58 => rhs; whnf
            have f58 := e58; simp only [Array.getD_eq_getD_getElem?] at f58
            exact wpOp_no rfl rfl rfl e58 ⟨rfl, Below.refl _ _⟩
          apply still_cons
          · intro a' w' hLe hfr hdep
            have e58 := hdep 1 58 (Nat.le_of_ble_eq_true rfl) rfl rfl
            conv at e58 => rhs; whnf
            have f58 := e58; simp only [Array.getD_eq_getD_getElem?] at f58
            exact wpOp_no rfl rfl rfl e58 ⟨rfl, Below.refl _ _⟩
          apply still_cons
          · intro a' w' hLe hfr hdep
            have e58 := hdep 1 58 (Nat.le_of_ble_eq_true rfl) rfl rfl
            conv at e58 => rhs; whnf
            have f58 := e58; simp only [Array.getD_eq_getD_getElem?] at f58
            exact wpOp_no rfl rfl rfl e58 ⟨rfl, Below.refl _ _⟩
          apply still_cons
          · intro a' w' hLe hfr hdep
            have e58 := hdep 1 58 (Nat.le_of_ble_eq_true rfl) rfl rfl
            conv at e58 => rhs; whnf
            have f58 := e58; simp only [Array.getD_eq_getD_getElem?] at f58
            have e66 := hdep 9 66 (Nat.le_of_ble_eq_true rfl) rfl rfl
            conv at e66 => rhs; whnf
            have f66 := e66; simp only [Array.getD_eq_getD_getElem?] at f66
            refine wpOp_plain rfl rfl (fun K hK => ?_)
            go_simp
            exact hK _ _ ⟨rfl, Below.refl _ _⟩
          apply still_nil
          intro w9 hb9
          simp only [putAll, List.drop_succ_cons, List.drop_zero]
          go_simp
          clear q0 q1 q2 q3 q4
          go_wp2
          go_roundw
          case rel => exact ⟨j + 1, true, by omega, rfl, by go_num, fun _ => rfl, Below.tr hBw hb9⟩
          case measure => simp [intOf]; omega
        | false =>
          obtain ⟨E, hE⟩ : ∃ E, E = (decide (f0 j = p2) && decide (f1 j = p3) && decide (f2 j = p0) && decide (f3 j = p1) && decide (f4 j = p4)) := ⟨_, rfl⟩
          have r66 : ∀ W, (binOp .eql 39 (.agg #[.int .i64 (f0 j), .int .i64 (f1 j), .int .i64 (f2 j), .int .i64 (f3 j), .int .i64 (f4 j)]) (.agg #[.int .i64 (p2), .int .i64 (p3), .int .i64 (p0), .int .i64 (p1), .int .i64 (p4)])).run Try.prog W = .ok (.bool E) W := fun W => (eql_flow _ _ _ _ _ _ _ _ _ _ W).trans (by rw [hE])
          have HE := Lib.hid hE
          clear hE
          go_upto_region 14 with (fail)
          refine wp_region_still (ds := [(0, 57), (1, 58), (2, 59), (3, 60), (4, 61), (5, 62), (6, 63), (7, 64), (8, 65), (9, 66), (10, 67)]) 11 (by kernel_rfl) (by kernel_rfl) (by first | exact .inl rfl | exact .inr (by kernel_rfl)) (by rfl) rfl rfl ?_
          apply still_cons
          · intro a' w' hLe hfr hdep
            have e9 := hfr 9 rfl
            conv at e9 => rhs; whnf
            have f9 := e9; simp only [Array.getD_eq_getD_getElem?] at f9
            refine wpOp_plain rfl rfl (fun K hK => ?_)
            go_simp
            exact hK _ _ ⟨rfl, Below.refl _ _⟩
          apply still_cons
          · intro a' w' hLe hfr hdep
            have e57 := hdep 0 57 (Nat.le_of_ble_eq_true rfl) rfl rfl
            conv at e57 => rhs; whnf
            have f57 := e57; simp only [Array.getD_eq_getD_getElem?] at f57
            refine wpOp_plain rfl rfl (fun K hK => ?_)
            go_simp
            exact hK _ _ ⟨rfl, Below.refl _ _⟩
          apply still_cons
          · intro a' w' hLe hfr hdep
            have e58 := hdep 1 58 (Nat.le_of_ble_eq_true rfl) rfl rfl
            conv at e58 => rhs; whnf
            have f58 := e58; simp only [Array.getD_eq_getD_getElem?] at f58
            have e3 := hfr 3 rfl
            conv at e3 => rhs; whnf
            have f3 := e3; simp only [Array.getD_eq_getD_getElem?] at f3
            refine wpOp_yes rfl rfl rfl e58 (fun K hK => ?_)
            go_simp
            exact hK _ _ ⟨rfl, Below.refl _ _⟩
          apply still_cons
          · intro a' w' hLe hfr hdep
            have e58 := hdep 1 58 (Nat.le_of_ble_eq_true rfl) rfl rfl
            conv at e58 => rhs; whnf
            have f58 := e58; simp only [Array.getD_eq_getD_getElem?] at f58
            have e59 := hdep 2 59 (Nat.le_of_ble_eq_true rfl) rfl rfl
            conv at e59 => rhs; whnf
            have f59 := e59; simp only [Array.getD_eq_getD_getElem?] at f59
            have kc := fun i => keepc hLe (bx) (by (try simp) <;> omega) i
            have kf := fun i => keepf hLe (bx) (by (try simp) <;> omega) i
            have kc := fun i => keepc hLe (w1.heap.size) (by (try simp) <;> omega) i
            have kf := fun i => keepf hLe (w1.heap.size) (by (try simp) <;> omega) i
            have kc := fun i => keepc hLe (w2.heap.size) (by (try simp) <;> omega) i
            have kf := fun i => keepf hLe (w2.heap.size) (by (try simp) <;> omega) i
            refine wpOp_yes rfl rfl rfl e58 (fun K hK => ?_)
            go_simp
            exact hK _ _ ⟨rfl, Below.refl _ _⟩
          apply still_cons
          · intro a' w' hLe hfr hdep
            have e58 := hdep 1 58 (Nat.le_of_ble_eq_true rfl) rfl rfl
            conv at e58 => rhs; whnf
            have f58 := e58; simp only [Array.getD_eq_getD_getElem?] at f58
            have e10 := hfr 10 rfl
            conv at e10 => rhs; whnf
            have f10 := e10; simp only [Array.getD_eq_getD_getElem?] at f10
            refine wpOp_yes rfl rfl rfl e58 (fun K hK => ?_)
            go_simp
            exact hK _ _ ⟨rfl, Below.refl _ _⟩
          apply still_cons
          · intro a' w' hLe hfr hdep
            have e58 := hdep 1 58 (Nat.le_of_ble_eq_true rfl) rfl rfl
            conv at e58 => rhs; whnf
            have f58 := e58; simp only [Array.getD_eq_getD_getElem?] at f58
            have e60 := hdep 3 60 (Nat.le_of_ble_eq_true rfl) rfl rfl
            conv at e60 => rhs; whnf
            have f60 := e60; simp only [Array.getD_eq_getD_getElem?] at f60
            have e61 := hdep 4 61 (Nat.le_of_ble_eq_true rfl) rfl rfl
            conv at e61 => rhs; whnf
            have f61 := e61; simp only [Array.getD_eq_getD_getElem?] at f61
            refine wpOp_yes rfl rfl rfl e58 (fun K hK => ?_)
            go_simp
            exact hK _ _ ⟨rfl, Below.refl _ _⟩
          apply still_cons
          · intro a' w' hLe hfr hdep
            have e58 := hdep 1 58 (Nat.le_of_ble_eq_true rfl) rfl rfl
            conv at e58 => rhs; whnf
            have f58 := e58; simp only [Array.getD_eq_getD_getElem?] at f58
            have e62 := hdep 5 62 (Nat.le_of_ble_eq_true rfl) rfl rfl
            conv at e62 => rhs; whnf
            have f62 := e62; simp only [Array.getD_eq_getD_getElem?] at f62
            have kc := fun i => keepc hLe (bx) (by (try simp) <;> omega) i
            have kf := fun i => keepf hLe (bx) (by (try simp) <;> omega) i
            have kc := fun i => keepc hLe (w1.heap.size) (by (try simp) <;> omega) i
            have kf := fun i => keepf hLe (w1.heap.size) (by (try simp) <;> omega) i
            have kc := fun i => keepc hLe (w2.heap.size) (by (try simp) <;> omega) i
            have kf := fun i => keepf hLe (w2.heap.size) (by (try simp) <;> omega) i
            refine wpOp_yes rfl rfl rfl e58 (fun K hK => ?_)
            go_simp
            exact hK _ _ ⟨rfl, Below.refl _ _⟩
          apply still_cons
          · intro a' w' hLe hfr hdep
            have e58 := hdep 1 58 (Nat.le_of_ble_eq_true rfl) rfl rfl
            conv at e58 => rhs; whnf
            have f58 := e58; simp only [Array.getD_eq_getD_getElem?] at f58
            have e5 := hfr 5 rfl
            conv at e5 => rhs; whnf
            have f5 := e5; simp only [Array.getD_eq_getD_getElem?] at f5
            have kc := fun i => keepc hLe (bx) (by (try simp) <;> omega) i
            have kf := fun i => keepf hLe (bx) (by (try simp) <;> omega) i
            have kc := fun i => keepc hLe (w1.heap.size) (by (try simp) <;> omega) i
            have kf := fun i => keepf hLe (w1.heap.size) (by (try simp) <;> omega) i
            have kc := fun i => keepc hLe (w2.heap.size) (by (try simp) <;> omega) i
            have kf := fun i => keepf hLe (w2.heap.size) (by (try simp) <;> omega) i
            refine wpOp_yes rfl rfl rfl e58 (fun K hK => ?_)
            go_simp
            exact hK _ _ ⟨rfl, Below.refl _ _⟩
          apply still_cons
          · intro a' w' hLe hfr hdep
            have e58 := hdep 1 58 (Nat.le_of_ble_eq_true rfl) rfl rfl
            conv at e58 => rhs; whnf
            have f58 := e58; simp only [Array.getD_eq_getD_getElem?] at f58
            have e64 := hdep 7 64 (Nat.le_of_ble_eq_true rfl) rfl rfl
            conv at e64 => rhs; whnf
            have f64 := e64; simp only [Array.getD_eq_getD_getElem?] at f64
            refine wpOp_yes rfl rfl rfl e58 (fun K hK => ?_)
            go_simp
            refine (implTurnFlow_yes hF.out _).mono ?_
            rintro e w2 ⟨rfl, hb⟩
            exact hK _ _ ⟨rfl, hb⟩
          apply still_cons
          · intro a' w' hLe hfr hdep
            have e58 := hdep 1 58 (Nat.le_of_ble_eq_true rfl) rfl rfl
            conv at e58 => rhs; whnf
            have f58 := e58; simp only [Array.getD_eq_getD_getElem?] at f58
            have e63 := hdep 6 63 (Nat.le_of_ble_eq_true rfl) rfl rfl
            conv at e63 => rhs; whnf
            have f63 := e63; simp only [Array.getD_eq_getD_getElem?] at f63
            have e65 := hdep 8 65 (Nat.le_of_ble_eq_true rfl) rfl rfl
            conv at e65 => rhs; whnf
            have f65 := e65; simp only [Array.getD_eq_getD_getElem?] at f65
            refine wpOp_yes rfl rfl rfl e58 (fun K hK => ?_)
            go_simp
            exact hK _ _ ⟨rfl, Below.refl _ _⟩
          apply still_cons
          · intro a' w' hLe hfr hdep
            have e58 := hdep 1 58 (Nat.le_of_ble_eq_true rfl) rfl rfl
            conv at e58 => rhs; whnf
            have f58 := e58; simp only [Array.getD_eq_getD_getElem?] at f58
            have e66 := hdep 9 66 (Nat.le_of_ble_eq_true rfl) rfl rfl
            conv at e66 => rhs; whnf
            have f66 := e66; simp only [Array.getD_eq_getD_getElem?] at f66
            refine wpOp_plain rfl rfl (fun K hK => ?_)
            go_simp
            exact hK _ _ ⟨rfl, Below.refl _ _⟩
          apply still_nil
          intro w9 hb9
          simp only [putAll, List.drop_succ_cons, List.drop_zero]
          go_simp
          clear q0 q1 q2 q3 q4 r66
          go_wp2
          go_roundw
          case rel => exact ⟨j + 1, E, by omega, rfl, by go_num, fun h1 => by
            by_cases h2 : (y3 - x1).toNat < j
            · exact absurd (HJ.out h2) (by decide)
            · obtain rfl : j = (y3 - x1).toNat := by omega
              obtain ⟨a0, a1, a2, a3, a4⟩ := HP.out
              rw [HE.out, a0, a1, a2, a3, a4]; simp, Below.tr hBw hb9⟩
          case measure => simp [intOf]; omega
      · obtain rfl : bb = true := HJ.out (by have := HB.out.1; omega)
        obtain rfl : j = n1 := by omega
        have hy0 := HB.out.2.2.2.2
        go_wp2_with fail
        have hso := siB_other (x0 := x0) (x1 := x1) (n := j) (f0 := f0) (f1 := f1) (f3 := f3) (f4 := f4) (g1 := y1) (g2 := y2) (g4 := y4) (z := (y0 + 1) % 256) HB.out.2.2.1 (by omega)
        refine (implSendIn_any x0 x1 ((y0 + 1) % 256) y1 y2 y3 y4 (H5.out.next (Below.tr hBw (below_bo wr (.cells #[.int .i64 ((y0 + 1) % 256), .int .i64 y1, .int .i64 y2, .int .i64 y3, .int .i64 y4] 39)))) (Nat.le_refl _)).mono ?_
        rintro e w6 hC
        obtain ⟨rfl, hb6⟩ := siV_of (v := false) (p0 := 0) (p1 := 0) (p2 := 0) (p3 := 0) (p4 := 0) hC hso.symm ⟨rfl, rfl, rfl, rfl, rfl⟩
        have hBa : Below wr.heap.size wr w6 := Below.tr (below_bo wr (.cells #[.int .i64 ((y0 + 1) % 256), .int .i64 y1, .int .i64 y2, .int .i64 y3, .int .i64 y4] 39)) hb6
        have kf6 : ∀ i, w6.cell? ⟨w1.heap.size + 1, i, none⟩ = _ := fun i => (keepc hBa (w1.heap.size + 1) lw2 i).trans (kf i)
        have kg6 : ∀ i, w6.cell? ⟨w2.heap.size, i, none⟩ = _ := fun i => (keepc hBa w2.heap.size lw3 i).trans (kg i)
        have ls6 := hBa.size
        have lx2 : w1.heap.size + 1 < w6.heap.size := by omega
        have lx3 : w2.heap.size < w6.heap.size := by omega
        clear hC hso hb6 ko kf kg
        go_wp2_with fail
        go_ret
        exact ⟨rfl, Below.tr (Below.tr hb1 (Below.tr hB5 hBw)) (by exact Below.tr hBa (below_bo _ _))⟩
end Go.Proofs.Ytahniedcflfdmaa
