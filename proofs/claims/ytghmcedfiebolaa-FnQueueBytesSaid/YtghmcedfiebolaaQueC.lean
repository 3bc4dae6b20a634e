/-
  QueueBytes, in the program and in the reference: the walks where the queues are valid.
-/
import Derived.Test.YtghmcedfiebolaaQueB
namespace Go.Proofs.Ytghmcedfiebolaa
open Go Go.RowKit

set_option maxHeartbeats 8000000 in
theorem implQueueBytes_yes {w : World} {B : Nat} {A A' : Option Addr} {n c c' : Nat} {qn : Nat → Nat} {q : Nat → Nat → Int} {sh : Nat → Int} {K M : Nat} (H : Qs w B A n c qn q) (H' : Rws w B 1 A' n c' (intR sh)) (hB : B ≤ w.heap.size) (hv : qvB n qn q n sh = true) (hK : K < n) (hM : M ≤ 9223372036854775807) :
    Calls Try.prog 24 #[.slice A n c, .slice A' n c', .int .i64 (K : Int), .int .i64 (M : Int)] w fun e w' => e = .returned (.int .i64 (sentTo q (qOut n qn q sh) K M)) ∧ Below w.heap.size w w' := by
  have hl := H.len
  unfold maxLen at hl
  have HH := Lib.hid H
  have HH' := Lib.hid H'
  have hV := Lib.hid hv
  have hi : inB (K : Int) 0 ((n : Int) - 1) = true := inB_true.2 (by omega)
  obtain ⟨QA, qc, ⟨_, hrow⟩, HI⟩ := H
  have hRow := Lib.hid hrow
  have hI := Lib.hid HI
  have hno := qoN_le n qn q n sh
  have HN := Lib.hid (show qoN n qn q n sh = (qOut n qn q sh).length by simp [qoN, hv])
  clear H' hrow HI
  go_enter Try.func24, Try.ntmps24
  go_wp2_with fail
  refine (implQueuesValid_any HH.out HH'.out hB).mono ?_
  rintro e w' ⟨rfl, rfl⟩
  rw [hv]
  clear hv
  go_wp2_with (go_at_call 33; refine (in_any _ _ _ _).mono ?_; rintro e w' ⟨rfl, rfl⟩)
  refine (implQueueOrder_any HH.out HH'.out hB).mono ?_
  rintro e w1 ⟨Ao, co, rfl, hO, hb1⟩
  rw [HN.out] at hO hno ⊢
  have hO2 := hO.2.1
  have hO3 := hO.1
  unfold maxLen at hO3
  have hR := Lib.hid hO.rows.2
  have hs1 := hb1.size
  clear hO hi
  go_wp2_with fail
  go_loopw [9, 32] (fun su i wr => ∃ j : Nat, j ≤ (qOut n qn q sh).length ∧ i = .int .i64 j ∧ su = .int .i64 (sentTo q (qOut n qn q sh) K (min j M)) ∧ Below w1.heap.size w1 wr) (fun _ i _ => (qOut n qn q sh).length - (intOf i).toNat)
  case atStart => exact ⟨0, by omega, rfl, by simp [sentTo, cnt, sumTo], Below.refl _ _⟩
  case round =>
    obtain ⟨j, hj, rfl, rfl, hBj⟩ := hrel
    have hBw := Below.tr hb1 hBj
    by_cases hjl : j < (qOut n qn q sh).length
    · obtain ⟨bo, oo, rfl, hbo, hco⟩ := hR.out (by omega)
      have hr := hco j hjl
      obtain ⟨a1, a2, a3⟩ := sent_at hV.out hjl
      have hhit := fun h => sent_hit (k := K) hV.out hjl h
      have hmiss := fun h => sent_miss (q := q) (k := K) hjl h
      have hbd := sent_bounds hV.out hK (min j M)
      have hszj := hBj.size
      have hbol : bo < wr.heap.size := by omega
      have o0 : wr.cell? ⟨bo, oo + j * 2, none⟩ = some (.int .i64 (((qOut n qn q sh).getD j (0, 0)).1 : Nat)) := (keepc hBj bo hbo _).trans (hr 0 _ rfl)
      have o1 : wr.cell? ⟨bo, oo + j * 2 + 1, none⟩ = some (.int .i64 (((qOut n qn q sh).getD j (0, 0)).2 : Nat)) := (keepc hBj bo hbo _).trans (hr 1 _ rfl)
      clear hr hco a3
      generalize ((qOut n qn q sh).getD j (0, 0)).1 = x at *
      generalize ((qOut n qn q sh).getD j (0, 0)).2 = y at *
      have HH1 := Lib.hid hhit
      have HH2 := Lib.hid hmiss
      clear hhit hmiss
      by_cases hjM : j < M
      · have hd : decide (j < M) = true := by simpa using hjM
        have hmin : min j M = j := by omega
        have hmin2 : min (j + 1) M = j + 1 := by omega
        have HM1 := Lib.hid hmin
        have HM2 := Lib.hid hmin2
        rw [hmin] at hbd ⊢
        clear hmin hmin2
        by_cases hx : x = K
        · subst hx
          obtain ⟨bl, off, rfl, hbl, hc⟩ := hRow.out (by omega)
          have hr := hc x a1
          rw [Nat.mul_one] at hr
          have hbll : bl < wr.heap.size := by omega
          have q0 : wr.cell? ⟨bl, off + x, none⟩ = some (.slice (QA x) (qn x) (qc x)) := (keepc hBw bl (by omega) _).trans (hr 0 _ rfl)
          obtain ⟨b2, o2, e2, hb2, hc2⟩ := (hI.out x a1).2 (by omega)
          have hqc := (hI.out x a1).1
          rw [e2] at q0
          have hr2 := hc2 y a2
          rw [Nat.mul_one] at hr2
          have hb2l : b2 < wr.heap.size := by omega
          have z0 : wr.cell? ⟨b2, o2 + y, none⟩ = some (.int .i64 (q x y)) := (keepc hBw b2 (by omega) _).trans (hr2 0 _ rfl)
          obtain ⟨_, _, _, hv4⟩ := qvB_true.1 hV.out
          have hv5 := (hv4 x a1).2.2.2 y a2
          have hst := Lib.hid (HH1.out rfl)
          clear hr hc hr2 hc2 e2 hv4
          unfold maxLen at hqc
          generalize qc x = cx at *
          have es : IntKind.i64.wrap (sentTo q (qOut n qn q sh) x j + q x y) = sentTo q (qOut n qn q sh) x j + q x y := IntWalk.i64_in _ (by omega)
          go_upto_region 8 with (fail)
          refine wp_region_still (ds := [(0, 46), (1, 47), (2, 48), (3, 49), (4, 50), (5, 51), (6, 52), (7, 53), (8, 54), (9, 55)]) 10 (by kernel_rfl) (by kernel_rfl) (by first | exact .inl rfl | exact .inr (by kernel_rfl)) (by rfl) rfl rfl ?_
          apply still_cons
          · intro a' w' hLe hfr hdep
            have e9 := hfr 9 rfl
            conv at e9 => rhs; whnf
            have f9 := e9; simp only [Array.getD_eq_getD_getElem?] at f9
            refine wpOp_plain rfl rfl (fun K hK => ?_)
            go_simp
            exact hK _ _ ⟨rfl, Below.refl _ _⟩
          apply still_cons
          · intro a' w' hLe hfr hdep
            have e0 := hfr 0 rfl
            conv at e0 => rhs; whnf
            have f0 := e0; simp only [Array.getD_eq_getD_getElem?] at f0
            refine wpOp_plain rfl rfl (fun K hK => ?_)
            go_simp
            exact hK _ _ ⟨rfl, Below.refl _ _⟩
          apply still_cons
          · intro a' w' hLe hfr hdep
            have e2 := hfr 2 rfl
            conv at e2 => rhs; whnf
            have f2 := e2; simp only [Array.getD_eq_getD_getElem?] at f2
            refine wpOp_plain rfl rfl (fun K hK => ?_)
            go_simp
            exact hK _ _ ⟨rfl, Below.refl _ _⟩
          apply still_cons
          · intro a' w' hLe hfr hdep
            have e47 := hdep 1 47 (Nat.le_of_ble_eq_true rfl) rfl rfl
            conv at e47 => rhs; whnf
            have f47 := e47; simp only [Array.getD_eq_getD_getElem?] at f47
            have e48 := hdep 2 48 (Nat.le_of_ble_eq_true rfl) rfl rfl
            conv at e48 => rhs; whnf
            have f48 := e48; simp only [Array.getD_eq_getD_getElem?] at f48
            refine wpOp_plain rfl rfl (fun K hK => ?_)
            go_simp
            exact hK _ _ ⟨rfl, Below.refl _ _⟩
          apply still_cons
          · intro a' w' hLe hfr hdep
            have e49 := hdep 3 49 (Nat.le_of_ble_eq_true rfl) rfl rfl
            conv at e49 => rhs; whnf
            have f49 := e49; simp only [Array.getD_eq_getD_getElem?] at f49
            have kc := fun i => keepc hLe (bl) (by (try simp) <;> omega) i
            have kf := fun i => keepf hLe (bl) (by (try simp) <;> omega) i
            have kc := fun i => keepc hLe (b2) (by (try simp) <;> omega) i
            have kf := fun i => keepf hLe (b2) (by (try simp) <;> omega) i
            have kc := fun i => keepc hLe (wr.heap.size) (by (try simp) <;> omega) i
            have kf := fun i => keepf hLe (wr.heap.size) (by (try simp) <;> omega) i
            refine wpOp_plain rfl rfl (fun K hK => ?_)
            go_simp
            exact hK _ _ ⟨rfl, Below.refl _ _⟩
          apply still_cons
          · intro a' w' hLe hfr hdep
            have e11 := hfr 11 rfl
            conv at e11 => rhs; whnf
            have f11 := e11; simp only [Array.getD_eq_getD_getElem?] at f11
            refine wpOp_plain rfl rfl (fun K hK => ?_)
            go_simp
            exact hK _ _ ⟨rfl, Below.refl _ _⟩
          apply still_cons
          · intro a' w' hLe hfr hdep
            have e51 := hdep 5 51 (Nat.le_of_ble_eq_true rfl) rfl rfl
            conv at e51 => rhs; whnf
            have f51 := e51; simp only [Array.getD_eq_getD_getElem?] at f51
            have kc := fun i => keepc hLe (bl) (by (try simp) <;> omega) i
            have kf := fun i => keepf hLe (bl) (by (try simp) <;> omega) i
            have kc := fun i => keepc hLe (b2) (by (try simp) <;> omega) i
            have kf := fun i => keepf hLe (b2) (by (try simp) <;> omega) i
            have kc := fun i => keepc hLe (wr.heap.size) (by (try simp) <;> omega) i
            have kf := fun i => keepf hLe (wr.heap.size) (by (try simp) <;> omega) i
            refine wpOp_plain rfl rfl (fun K hK => ?_)
            go_simp
            exact hK _ _ ⟨rfl, Below.refl _ _⟩
          apply still_cons
          · intro a' w' hLe hfr hdep
            have e50 := hdep 4 50 (Nat.le_of_ble_eq_true rfl) rfl rfl
            conv at e50 => rhs; whnf
            have f50 := e50; simp only [Array.getD_eq_getD_getElem?] at f50
            have e52 := hdep 6 52 (Nat.le_of_ble_eq_true rfl) rfl rfl
            conv at e52 => rhs; whnf
            have f52 := e52; simp only [Array.getD_eq_getD_getElem?] at f52
            refine wpOp_plain rfl rfl (fun K hK => ?_)
            go_simp
            exact hK _ _ ⟨rfl, Below.refl _ _⟩
          apply still_cons
          · intro a' w' hLe hfr hdep
            have e53 := hdep 7 53 (Nat.le_of_ble_eq_true rfl) rfl rfl
            conv at e53 => rhs; whnf
            have f53 := e53; simp only [Array.getD_eq_getD_getElem?] at f53
            have kc := fun i => keepc hLe (bl) (by (try simp) <;> omega) i
            have kf := fun i => keepf hLe (bl) (by (try simp) <;> omega) i
            have kc := fun i => keepc hLe (b2) (by (try simp) <;> omega) i
            have kf := fun i => keepf hLe (b2) (by (try simp) <;> omega) i
            have kc := fun i => keepc hLe (wr.heap.size) (by (try simp) <;> omega) i
            have kf := fun i => keepf hLe (wr.heap.size) (by (try simp) <;> omega) i
            refine wpOp_plain rfl rfl (fun K hK => ?_)
            go_simp
            exact hK _ _ ⟨rfl, Below.refl _ _⟩
          apply still_cons
          · intro a' w' hLe hfr hdep
            have e46 := hdep 0 46 (Nat.le_of_ble_eq_true rfl) rfl rfl
            conv at e46 => rhs; whnf
            have f46 := e46; simp only [Array.getD_eq_getD_getElem?] at f46
            have e54 := hdep 8 54 (Nat.le_of_ble_eq_true rfl) rfl rfl
            conv at e54 => rhs; whnf
            have f54 := e54; simp only [Array.getD_eq_getD_getElem?] at f54
            refine wpOp_plain rfl rfl (fun K hK => ?_)
            go_simp
            exact hK _ _ ⟨rfl, Below.refl _ _⟩
          apply still_nil
          intro w8 hb8
          simp only [putAll, List.drop_succ_cons, List.drop_zero]
          go_simp
          have hB8 := Below.tr (Below.al hBj _) hb8
          go_wp2
          go_roundw
          case rel => exact ⟨j + 1, by omega, by go_num, by rw [HM2.out, hst.out], hB8⟩
          case measure => simp [intOf]; omega
        · have hxe : ((x : Int) == (K : Int)) = false := by simp; omega
          have hxe2 : (x == K) = false := by simpa using hx
          have hst := Lib.hid (HH2.out hx)
          go_wp2
          go_roundw
          case rel => exact ⟨j + 1, by omega, by go_num, by rw [HM2.out, hst.out], Below.al hBj _⟩
          case measure => simp [intOf]; omega
      · have hd : decide (j < M) = false := by simpa using hjM
        have HM1 := Lib.hid (show min (j + 1) M = min j M by omega)
        go_wp2
        go_roundw
        case rel => exact ⟨j + 1, by omega, by go_num, by rw [HM1.out], Below.al hBj _⟩
        case measure => simp [intOf]; omega
    · have hje : j = (qOut n qn q sh).length := by omega
      have hlast : sentTo q (qOut n qn q sh) K (min j M) = sentTo q (qOut n qn q sh) K M := by
        rcases Nat.le_total j M with h | h
        · rw [Nat.min_eq_left h, hje, sent_all (i := M) (by omega)]
        · rw [Nat.min_eq_right h]
      have HL := Lib.hid hlast
      clear hlast hje
      go_wp2
      go_ret
      exact ⟨by rw [← HL.out] <;> rfl, hBw⟩

set_option maxHeartbeats 8000000 in
theorem specQueueBytes_yes {w : World} {B : Nat} {A A' : Option Addr} {n c c' : Nat} {qn : Nat → Nat} {q : Nat → Nat → Int} {sh : Nat → Int} {K M : Nat} (H : Qs w B A n c qn q) (H' : Rws w B 1 A' n c' (intR sh)) (hB : B ≤ w.heap.size) (hv : qvB n qn q n sh = true) (hK : K < n) (hM : M ≤ 9223372036854775807) :
    Calls Try.prog 23 #[.slice A n c, .slice A' n c', .int .i64 (K : Int), .int .i64 (M : Int)] w fun e w' => e = .returned (.int .i64 (sentTo q (qOut n qn q sh) K M)) ∧ Below w.heap.size w w' := by
  have hl := H.len
  unfold maxLen at hl
  have HH := Lib.hid H
  have HH' := Lib.hid H'
  have hV := Lib.hid hv
  have hi : inB (K : Int) 0 ((n : Int) - 1) = true := inB_true.2 (by omega)
  obtain ⟨QA, qc, ⟨_, hrow⟩, HI⟩ := H
  have hRow := Lib.hid hrow
  have hI := Lib.hid HI
  have hno := qoN_le n qn q n sh
  have HN := Lib.hid (show qoN n qn q n sh = (qOut n qn q sh).length by simp [qoN, hv])
  clear H' hrow HI
  go_enter Try.func23, Try.ntmps23
  go_wp2_with fail
  refine (specQueuesValid_any HH.out HH'.out hB).mono ?_
  rintro e w' ⟨rfl, rfl⟩
  rw [hv]
  clear hv
  go_wp2_with (go_at_call 32; refine (l1In_any _ _ _ _).mono ?_; rintro e w' ⟨rfl, rfl⟩)
  refine (specQueueOrder_any HH.out HH'.out hB).mono ?_
  rintro e w1 ⟨Ao, co, rfl, hO, hb1⟩
  rw [HN.out] at hO hno ⊢
  have hO2 := hO.2.1
  have hO3 := hO.1
  unfold maxLen at hO3
  have hR := Lib.hid hO.rows.2
  have hs1 := hb1.size
  clear hO hi
  go_wp2_with fail
  go_loopw [9, 11] (fun su i wr => ∃ j : Nat, j ≤ (qOut n qn q sh).length ∧ j ≤ M ∧ i = .int .i64 j ∧ su = .int .i64 (sentTo q (qOut n qn q sh) K j) ∧ Below w1.heap.size w1 wr) (fun _ i _ => (qOut n qn q sh).length - (intOf i).toNat)
  case atStart => exact ⟨0, by omega, by omega, rfl, by simp [sentTo, cnt, sumTo], Below.refl _ _⟩
  case round =>
    obtain ⟨j, hj, hjm, rfl, rfl, hBj⟩ := hrel
    have hBw := Below.tr hb1 hBj
    by_cases hjl : j < (qOut n qn q sh).length
    · by_cases hjM : j < M
      · obtain ⟨bo, oo, rfl, hbo, hco⟩ := hR.out (by omega)
        have hr := hco j hjl
        obtain ⟨a1, a2, a3⟩ := sent_at hV.out hjl
        have hhit := fun h => sent_hit (k := K) hV.out hjl h
        have hmiss := fun h => sent_miss (q := q) (k := K) hjl h
        have hbd := sent_bounds hV.out hK j
        have hszj := hBj.size
        have hbol : bo < wr.heap.size := by omega
        have o0 : wr.cell? ⟨bo, oo + j * 2, none⟩ = some (.int .i64 (((qOut n qn q sh).getD j (0, 0)).1 : Nat)) := (keepc hBj bo hbo _).trans (hr 0 _ rfl)
        have o1 : wr.cell? ⟨bo, oo + j * 2 + 1, none⟩ = some (.int .i64 (((qOut n qn q sh).getD j (0, 0)).2 : Nat)) := (keepc hBj bo hbo _).trans (hr 1 _ rfl)
        clear hr hco a3
        generalize ((qOut n qn q sh).getD j (0, 0)).1 = x at *
        generalize ((qOut n qn q sh).getD j (0, 0)).2 = y at *
        have HH1 := Lib.hid hhit
        have HH2 := Lib.hid hmiss
        clear hhit hmiss
        by_cases hx : x = K
        · subst hx
          obtain ⟨bl, off, rfl, hbl, hc⟩ := hRow.out (by omega)
          have hr := hc x a1
          rw [Nat.mul_one] at hr
          have hbll : bl < wr.heap.size := by omega
          have q0 : wr.cell? ⟨bl, off + x, none⟩ = some (.slice (QA x) (qn x) (qc x)) := (keepc hBw bl (by omega) _).trans (hr 0 _ rfl)
          obtain ⟨b2, o2, e2, hb2, hc2⟩ := (hI.out x a1).2 (by omega)
          have hqc := (hI.out x a1).1
          rw [e2] at q0
          have hr2 := hc2 y a2
          rw [Nat.mul_one] at hr2
          have hb2l : b2 < wr.heap.size := by omega
          have z0 : wr.cell? ⟨b2, o2 + y, none⟩ = some (.int .i64 (q x y)) := (keepc hBw b2 (by omega) _).trans (hr2 0 _ rfl)
          obtain ⟨_, _, _, hv4⟩ := qvB_true.1 hV.out
          have hv5 := (hv4 x a1).2.2.2 y a2
          have hst := Lib.hid (HH1.out rfl)
          clear hr hc hr2 hc2 e2 hv4
          unfold maxLen at hqc
          generalize qc x = cx at *
          have es : IntKind.i64.wrap (sentTo q (qOut n qn q sh) x j + q x y) = sentTo q (qOut n qn q sh) x j + q x y := IntWalk.i64_in _ (by omega)
          go_upto_region 9 with (fail)
          refine wp_region_still (ds := [(0, 49), (1, 50), (2, 51), (3, 52), (4, 53), (5, 54), (6, 55), (7, 56), (8, 57), (9, 58), (10, 59), (11, 60), (12, 61)]) 13 (by kernel_rfl) (by kernel_rfl) (by first | exact .inl rfl | exact .inr (by kernel_rfl)) (by rfl) rfl rfl ?_
          apply still_cons
          · intro a' w' hLe hfr hdep
            have e9 := hfr 9 rfl
            conv at e9 => rhs; whnf
            have f9 := e9; simp only [Array.getD_eq_getD_getElem?] at f9
            refine wpOp_plain rfl rfl (fun K hK => ?_)
            go_simp
            exact hK _ _ ⟨rfl, Below.refl _ _⟩
          apply still_cons
          · intro a' w' hLe hfr hdep
            have e0 := hfr 0 rfl
            conv at e0 => rhs; whnf
            have f0 := e0; simp only [Array.getD_eq_getD_getElem?] at f0
            refine wpOp_plain rfl rfl (fun K hK => ?_)
            go_simp
            exact hK _ _ ⟨rfl, Below.refl _ _⟩
          apply still_cons
          · intro a' w' hLe hfr hdep
            have e2 := hfr 2 rfl
            conv at e2 => rhs; whnf
            have f2 := e2; simp only [Array.getD_eq_getD_getElem?] at f2
            refine wpOp_plain rfl rfl (fun K hK => ?_)
            go_simp
            exact hK _ _ ⟨rfl, Below.refl _ _⟩
          apply still_cons
          · intro a' w' hLe hfr hdep
            have e50 := hdep 1 50 (Nat.le_of_ble_eq_true rfl) rfl rfl
            conv at e50 => rhs; whnf
            have f50 := e50; simp only [Array.getD_eq_getD_getElem?] at f50
            have e51 := hdep 2 51 (Nat.le_of_ble_eq_true rfl) rfl rfl
            conv at e51 => rhs; whnf
            have f51 := e51; simp only [Array.getD_eq_getD_getElem?] at f51
            refine wpOp_plain rfl rfl (fun K hK => ?_)
            go_simp
            exact hK _ _ ⟨rfl, Below.refl _ _⟩
          apply still_cons
          · intro a' w' hLe hfr hdep
            have e52 := hdep 3 52 (Nat.le_of_ble_eq_true rfl) rfl rfl
            conv at e52 => rhs; whnf
            have f52 := e52; simp only [Array.getD_eq_getD_getElem?] at f52
            have kc := fun i => keepc hLe (bl) (by (try simp) <;> omega) i
            have kf := fun i => keepf hLe (bl) (by (try simp) <;> omega) i
            have kc := fun i => keepc hLe (b2) (by (try simp) <;> omega) i
            have kf := fun i => keepf hLe (b2) (by (try simp) <;> omega) i
            have kc := fun i => keepc hLe (bo) (by (try simp) <;> omega) i
            have kf := fun i => keepf hLe (bo) (by (try simp) <;> omega) i
            refine wpOp_plain rfl rfl (fun K hK => ?_)
            go_simp
            exact hK _ _ ⟨rfl, Below.refl _ _⟩
          apply still_cons
          · intro a' w' hLe hfr hdep
            have e10 := hfr 10 rfl
            conv at e10 => rhs; whnf
            have f10 := e10; simp only [Array.getD_eq_getD_getElem?] at f10
            refine wpOp_plain rfl rfl (fun K hK => ?_)
            go_simp
            exact hK _ _ ⟨rfl, Below.refl _ _⟩
          apply still_cons
          · intro a' w' hLe hfr hdep
            have e11 := hfr 11 rfl
            conv at e11 => rhs; whnf
            have f11 := e11; simp only [Array.getD_eq_getD_getElem?] at f11
            refine wpOp_plain rfl rfl (fun K hK => ?_)
            go_simp
            exact hK _ _ ⟨rfl, Below.refl _ _⟩
          apply still_cons
          · intro a' w' hLe hfr hdep
            have e54 := hdep 5 54 (Nat.le_of_ble_eq_true rfl) rfl rfl
            conv at e54 => rhs; whnf
            have f54 := e54; simp only [Array.getD_eq_getD_getElem?] at f54
            have e55 := hdep 6 55 (Nat.le_of_ble_eq_true rfl) rfl rfl
            conv at e55 => rhs; whnf
            have f55 := e55; simp only [Array.getD_eq_getD_getElem?] at f55
            refine wpOp_plain rfl rfl (fun K hK => ?_)
            go_simp
            exact hK _ _ ⟨rfl, Below.refl _ _⟩
          apply still_cons
          · intro a' w' hLe hfr hdep
            have e56 := hdep 7 56 (Nat.le_of_ble_eq_true rfl) rfl rfl
            conv at e56 => rhs; whnf
            have f56 := e56; simp only [Array.getD_eq_getD_getElem?] at f56
            refine wpOp_plain rfl rfl (fun K hK => ?_)
            go_simp
            exact hK _ _ ⟨rfl, Below.refl _ _⟩
          apply still_cons
          · intro a' w' hLe hfr hdep
            have e57 := hdep 8 57 (Nat.le_of_ble_eq_true rfl) rfl rfl
            conv at e57 => rhs; whnf
            have f57 := e57; simp only [Array.getD_eq_getD_getElem?] at f57
            have kc := fun i => keepc hLe (bl) (by (try simp) <;> omega) i
            have kf := fun i => keepf hLe (bl) (by (try simp) <;> omega) i
            have kc := fun i => keepc hLe (b2) (by (try simp) <;> omega) i
            have kf := fun i => keepf hLe (b2) (by (try simp) <;> omega) i
            have kc := fun i => keepc hLe (bo) (by (try simp) <;> omega) i
            have kf := fun i => keepf hLe (bo) (by (try simp) <;> omega) i
            refine wpOp_plain rfl rfl (fun K hK => ?_)
            go_simp
            exact hK _ _ ⟨rfl, Below.refl _ _⟩
          apply still_cons
          · intro a' w' hLe hfr hdep
            have e53 := hdep 4 53 (Nat.le_of_ble_eq_true rfl) rfl rfl
            conv at e53 => rhs; whnf
            have f53 := e53; simp only [Array.getD_eq_getD_getElem?] at f53
            have e58 := hdep 9 58 (Nat.le_of_ble_eq_true rfl) rfl rfl
            conv at e58 => rhs; whnf
            have f58 := e58; simp only [Array.getD_eq_getD_getElem?] at f58
            refine wpOp_plain rfl rfl (fun K hK => ?_)
            go_simp
            exact hK _ _ ⟨rfl, Below.refl _ _⟩
          apply still_cons
          · intro a' w' hLe hfr hdep
            have e59 := hdep 10 59 (Nat.le_of_ble_eq_true rfl) rfl rfl
            conv at e59 => rhs; whnf
            have f59 := e59; simp only [Array.getD_eq_getD_getElem?] at f59
            have kc := fun i => keepc hLe (bl) (by (try simp) <;> omega) i
            have kf := fun i => keepf hLe (bl) (by (try simp) <;> omega) i
            have kc := fun i => keepc hLe (b2) (by (try simp) <;> omega) i
            have kf := fun i => keepf hLe (b2) (by (try simp) <;> omega) i
            have kc := fun i => keepc hLe (bo) (by (try simp) <;> omega) i
            have kf := fun i => keepf hLe (bo) (by (try simp) <;> omega) i
            refine wpOp_plain rfl rfl (fun K hK => ?_)
            go_simp
            exact hK _ _ ⟨rfl, Below.refl _ _⟩
          apply still_cons
          · intro a' w' hLe hfr hdep
            have e49 := hdep 0 49 (Nat.le_of_ble_eq_true rfl) rfl rfl
            conv at e49 => rhs; whnf
            have f49 := e49; simp only [Array.getD_eq_getD_getElem?] at f49
            have e60 := hdep 11 60 (Nat.le_of_ble_eq_true rfl) rfl rfl
            conv at e60 => rhs; whnf
            have f60 := e60; simp only [Array.getD_eq_getD_getElem?] at f60
            refine wpOp_plain rfl rfl (fun K hK => ?_)
            go_simp
            exact hK _ _ ⟨rfl, Below.refl _ _⟩
          apply still_nil
          intro w8 hb8
          simp only [putAll, List.drop_succ_cons, List.drop_zero]
          go_simp
          have hB8 := Below.tr hBj hb8
          go_wp2
          go_roundw
          case rel => exact ⟨j + 1, by omega, by omega, by go_num, by rw [hst.out], hB8⟩
          case measure => simp [intOf]; omega
        · have hxe : ((x : Int) == (K : Int)) = false := by simp; omega
          have hxe2 : (x == K) = false := by simpa using hx
          have hst := Lib.hid (HH2.out hx)
          go_wp2
          go_roundw
          case rel => exact ⟨j + 1, by omega, by omega, by go_num, by rw [hst.out], hBj⟩
          case measure => simp [intOf]; omega
      · obtain rfl : j = M := by omega
        go_wp2
        go_ret
        exact ⟨rfl, hBw⟩
    · have hje : j = (qOut n qn q sh).length := by omega
      have hlast : sentTo q (qOut n qn q sh) K j = sentTo q (qOut n qn q sh) K M := by rw [hje, sent_all (i := M) (by omega)]
      have HL := Lib.hid hlast
      clear hlast hje
      go_wp2
      go_ret
      exact ⟨by rw [← HL.out] <;> rfl, hBw⟩

theorem implQueueBytes_any {w : World} {B : Nat} {A A' : Option Addr} {n c m c' : Nat} {qn : Nat → Nat} {q : Nat → Nat → Int} {sh : Nat → Int} (qu many : Int) (H : Qs w B A n c qn q) (H' : Rws w B 1 A' m c' (intR sh)) (hB : B ≤ w.heap.size) (hM : many ≤ 9223372036854775807) :
    Calls Try.prog 24 #[.slice A n c, .slice A' m c', .int .i64 qu, .int .i64 many] w fun e w' => e = .returned (.int .i64 (qbV n qn q m sh qu many)) ∧ Below w.heap.size w w' := by
  cases h : (qvB n qn q m sh && inB qu 0 ((n : Int) - 1) && decide (0 ≤ many)) with
  | false =>
    rw [qbV_no h]
    refine (implQueueBytes_any_no qu many H H' hB h).mono ?_
    rintro e w' ⟨h1, rfl⟩
    exact ⟨h1, Below.refl _ _⟩
  | true =>
    simp only [Bool.and_eq_true, decide_eq_true_eq] at h
    obtain ⟨⟨hv, hi⟩, h0⟩ := h
    have h2 := inB_true.1 hi
    obtain ⟨K, rfl⟩ := Int.eq_ofNat_of_zero_le h2.1
    obtain ⟨M, rfl⟩ := Int.eq_ofNat_of_zero_le h0
    obtain ⟨_, _, hmn, _⟩ := qvB_true.1 hv
    subst hmn
    rw [qbV_yes hv (by omega)]
    exact implQueueBytes_yes H H' hB hv (by omega) (by omega)
theorem specQueueBytes_any {w : World} {B : Nat} {A A' : Option Addr} {n c m c' : Nat} {qn : Nat → Nat} {q : Nat → Nat → Int} {sh : Nat → Int} (qu many : Int) (H : Qs w B A n c qn q) (H' : Rws w B 1 A' m c' (intR sh)) (hB : B ≤ w.heap.size) (hM : many ≤ 9223372036854775807) :
    Calls Try.prog 23 #[.slice A n c, .slice A' m c', .int .i64 qu, .int .i64 many] w fun e w' => e = .returned (.int .i64 (qbV n qn q m sh qu many)) ∧ Below w.heap.size w w' := by
  cases h : (qvB n qn q m sh && inB qu 0 ((n : Int) - 1) && decide (0 ≤ many)) with
  | false =>
    rw [qbV_no h]
    refine (specQueueBytes_any_no qu many H H' hB h).mono ?_
    rintro e w' ⟨h1, rfl⟩
    exact ⟨h1, Below.refl _ _⟩
  | true =>
    simp only [Bool.and_eq_true, decide_eq_true_eq] at h
    obtain ⟨⟨hv, hi⟩, h0⟩ := h
    have h2 := inB_true.1 hi
    obtain ⟨K, rfl⟩ := Int.eq_ofNat_of_zero_le h2.1
    obtain ⟨M, rfl⟩ := Int.eq_ofNat_of_zero_le h0
    obtain ⟨_, _, hmn, _⟩ := qvB_true.1 hv
    subst hmn
    rw [qbV_yes hv (by omega)]
    exact specQueueBytes_yes H H' hB hv (by omega) (by omega)
end Go.Proofs.Ytghmcedfiebolaa
