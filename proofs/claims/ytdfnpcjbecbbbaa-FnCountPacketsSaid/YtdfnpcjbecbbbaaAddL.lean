/-
  The law 'sums of counters are sums': its walk.
-/
import Derived.Test.YtdfnpcjbecbbbaaAdd
import Derived.Test.YtdfnpcjbecbbbaaPoolD
import Derived.Test.YtdfnpcjbecbbbaaFlow
namespace Go.Proofs.Ytdfnpcjbecbbbaa
open Go.RowKit

set_option maxHeartbeats 2000000 in
theorem sameCounters_same {w : World} {B : Nat} {A A' : Option Addr} {n c c' : Nat} {c0 : Nat → Int} {c1 : Nat → Int} {c2 : Nat → Int} (h : Rws w B 3 A n c (counterR c0 c1 c2)) (h' : Rws w B 3 A' n c' (counterR c0 c1 c2)) (hB : B ≤ w.heap.size) :
    Calls Try.prog 21 #[.slice A n c, .slice A' n c'] w fun e w' => e = .returned (.bool true) ∧ Below w.heap.size w w' := by
  obtain ⟨⟨hnc, hcm⟩, hrow⟩ := h
  obtain ⟨⟨hnc', hcm'⟩, hrow'⟩ := h'
  unfold maxLen at hcm hcm'
  go_enter Try.func21, Try.ntmps21
  go_wp2
  go_loopw [5] (fun i wr => ∃ k : Nat, k ≤ n ∧ i = .int .i64 k ∧ Below w.heap.size w wr) (fun i _ => n - (intOf i).toNat)
  case atStart => exact ⟨0, by omega, rfl, by (repeat (first | exact Below.refl _ _ | assumption | refine Below.al ?_ _ | refine Below.dr ?_ | (refine Below.st ?_ (by simp <;> omega) _) | (refine Below.tr ?_ (by assumption))))⟩
  case round =>
    obtain ⟨k, hk, rfl, hBw⟩ := hrel
    by_cases hlt : k < n
    · obtain ⟨b, off, rfl, hbB, hc⟩ := hrow (by omega)
      obtain ⟨b', off', rfl, hbB', hc'⟩ := hrow' (by omega)
      have hr := hc k hlt
      have hr' := hc' k hlt
      have hbs : b < wr.heap.size := by have := hBw.size; omega
      have hbs' : b' < wr.heap.size := by have := hBw.size; omega
      have q0 : wr.cell? ⟨b, off + k * 3, none⟩ = some (.int .i64 (c0 k)) := (keepc hBw b (by omega) _).trans (hr 0 _ rfl)
      have q1 : wr.cell? ⟨b, off + k * 3 + 1, none⟩ = some (.int .i64 (c1 k)) := (keepc hBw b (by omega) _).trans (hr 1 _ rfl)
      have q2 : wr.cell? ⟨b, off + k * 3 + 2, none⟩ = some (.int .i64 (c2 k)) := (keepc hBw b (by omega) _).trans (hr 2 _ rfl)
      have s0 : wr.cell? ⟨b', off' + k * 3, none⟩ = some (.int .i64 (c0 k)) := (keepc hBw b' (by omega) _).trans (hr' 0 _ rfl)
      have s1 : wr.cell? ⟨b', off' + k * 3 + 1, none⟩ = some (.int .i64 (c1 k)) := (keepc hBw b' (by omega) _).trans (hr' 1 _ rfl)
      have s2 : wr.cell? ⟨b', off' + k * 3 + 2, none⟩ = some (.int .i64 (c2 k)) := (keepc hBw b' (by omega) _).trans (hr' 2 _ rfl)
      clear hrow hc hr hrow' hc' hr'
      go_upto_region 6 with (fail)
      refine wp_region_still (ds := [(0, 17), (1, 18), (2, 19), (3, 20), (4, 21), (5, 22), (6, 23), (7, 24), (8, 25)]) 9 (by kernel_rfl) (by kernel_rfl) (by first | exact .inl rfl | exact .inr (by kernel_rfl)) (by rfl) rfl rfl ?_
      apply still_cons
      · intro a' w' hLe hfr hdep
        have e0 := hfr 0 rfl
        conv at e0 => rhs; whnf
        have f0 := e0; simp only [Array.getD_eq_getD_getElem?] at f0
        refine wpOp_plain rfl rfl (fun K hK => ?_)
        go_simp
        exact hK _ _ ⟨rfl, Below.refl _ _⟩
      apply still_cons
      · intro a' w' hLe hfr hdep
        have e5 := hfr 5 rfl
        conv at e5 => rhs; whnf
        have f5 := e5; simp only [Array.getD_eq_getD_getElem?] at f5
        refine wpOp_plain rfl rfl (fun K hK => ?_)
        go_simp
        exact hK _ _ ⟨rfl, Below.refl _ _⟩
      apply still_cons
      · intro a' w' hLe hfr hdep
        have e17 := hdep 0 17 (Nat.le_of_ble_eq_true rfl) rfl rfl
        conv at e17 => rhs; whnf
        have f17 := e17; simp only [Array.getD_eq_getD_getElem?] at f17
        have e18 := hdep 1 18 (Nat.le_of_ble_eq_true rfl) rfl rfl
        conv at e18 => rhs; whnf
        have f18 := e18; simp only [Array.getD_eq_getD_getElem?] at f18
        refine wpOp_plain rfl rfl (fun K hK => ?_)
        go_simp
        exact hK _ _ ⟨rfl, Below.refl _ _⟩
      apply still_cons
      · intro a' w' hLe hfr hdep
        have e19 := hdep 2 19 (Nat.le_of_ble_eq_true rfl) rfl rfl
        conv at e19 => rhs; whnf
        have f19 := e19; simp only [Array.getD_eq_getD_getElem?] at f19
        have kc := fun i => keepc hLe (b) (by (try simp) <;> omega) i
        have kf := fun i => keepf hLe (b) (by (try simp) <;> omega) i
        have kc := fun i => keepc hLe (b') (by (try simp) <;> omega) i
        have kf := fun i => keepf hLe (b') (by (try simp) <;> omega) i
        refine wpOp_plain rfl rfl (fun K hK => ?_)
        go_simp
        exact hK _ _ ⟨rfl, Below.refl _ _⟩
      apply still_cons
      · intro a' w' hLe hfr hdep
        have e1 := hfr 1 rfl
        conv at e1 => rhs; whnf
        have f1 := e1; simp only [Array.getD_eq_getD_getElem?] at f1
        refine wpOp_plain rfl rfl (fun K hK => ?_)
        go_simp
        exact hK _ _ ⟨rfl, Below.refl _ _⟩
      apply still_cons
      · intro a' w' hLe hfr hdep
        have e5 := hfr 5 rfl
        conv at e5 => rhs; whnf
        have f5 := e5; simp only [Array.getD_eq_getD_getElem?] at f5
        refine wpOp_plain rfl rfl (fun K hK => ?_)
        go_simp
        exact hK _ _ ⟨rfl, Below.refl _ _⟩
      apply still_cons
      · intro a' w' hLe hfr hdep
        have e21 := hdep 4 21 (Nat.le_of_ble_eq_true rfl) rfl rfl
        conv at e21 => rhs; whnf
        have f21 := e21; simp only [Array.getD_eq_getD_getElem?] at f21
        have e22 := hdep 5 22 (Nat.le_of_ble_eq_true rfl) rfl rfl
        conv at e22 => rhs; whnf
        have f22 := e22; simp only [Array.getD_eq_getD_getElem?] at f22
        refine wpOp_plain rfl rfl (fun K hK => ?_)
        go_simp
        exact hK _ _ ⟨rfl, Below.refl _ _⟩
      apply still_cons
      · intro a' w' hLe hfr hdep
        have e23 := hdep 6 23 (Nat.le_of_ble_eq_true rfl) rfl rfl
        conv at e23 => rhs; whnf
        have f23 := e23; simp only [Array.getD_eq_getD_getElem?] at f23
        have kc := fun i => keepc hLe (b) (by (try simp) <;> omega) i
        have kf := fun i => keepf hLe (b) (by (try simp) <;> omega) i
        have kc := fun i => keepc hLe (b') (by (try simp) <;> omega) i
        have kf := fun i => keepf hLe (b') (by (try simp) <;> omega) i
        refine wpOp_plain rfl rfl (fun K hK => ?_)
        go_simp
        exact hK _ _ ⟨rfl, Below.refl _ _⟩
      apply still_cons
      · intro a' w' hLe hfr hdep
        have e20 := hdep 3 20 (Nat.le_of_ble_eq_true rfl) rfl rfl
        conv at e20 => rhs; whnf
        have f20 := e20; simp only [Array.getD_eq_getD_getElem?] at f20
        have e24 := hdep 7 24 (Nat.le_of_ble_eq_true rfl) rfl rfl
        conv at e24 => rhs; whnf
        have f24 := e24; simp only [Array.getD_eq_getD_getElem?] at f24
        refine wpOp_plain rfl rfl (fun K hK => ?_)
        go_simp
        exact hK _ _ ⟨rfl, Below.refl _ _⟩
      apply still_nil
      intro w1 hb1
      simp only [putAll, List.drop_succ_cons, List.drop_zero]
      go_simp
      go_wp2
      go_roundw
      case rel => exact ⟨k + 1, by omega, by go_num, Below.tr hBw hb1⟩
      case measure => simp [intOf]; omega
    · obtain rfl : k = n := by omega
      go_wp2
      go_ret
      exact ⟨rfl, hBw⟩

theorem addN_pos {n n' : Nat} {t t' : Nat → Int} (h : 0 < addN n n' t t') : n = addN n n' t t' ∧ n' = addN n n' t t' ∧ ∀ i, i < addN n n' t t' → t i = t' i := by
  by_cases hc : n = n' ∧ addOk t t' n = true
  · have he : addN n n' t t' = n := by simp [addN, hc.1, hc.1 ▸ hc.2]
    rw [he]
    refine ⟨rfl, hc.1.symm, fun i hi => ?_⟩
    have := List.all_eq_true.1 hc.2 i (List.mem_range.2 hi)
    simpa using this
  · have he : addN n n' t t' = 0 := by simp only [addN, if_neg hc]
    omega
theorem addN_comm (n n' : Nat) (t t' : Nat → Int) : addN n' n t' t = addN n n' t t' := by
  have ho : ∀ k, addOk t' t k = addOk t t' k := fun k => by
    unfold addOk
    congr 1
    funext i
    rw [Bool.eq_iff_iff, beq_iff_eq, beq_iff_eq]
    exact eq_comm
  by_cases hn : n = n'
  · subst hn; simp [addN, ho]
  · have hn' : ¬ n' = n := fun e => hn e.symm
    rw [addN_ne hn, addN_ne hn']
theorem addR_comm {t p y t' p' y' : Nat → Int} {i : Nat} (h : t i = t' i) : addR t' p' y' p y i = addR t p y p' y' i := by
  simp only [addR, counterR]
  rw [h, Int.add_comm (p' i), Int.add_comm (y' i)]

set_option maxRecDepth 20000 in
set_option maxHeartbeats 8000000 in
theorem addCounters_walk {w : World} {A : Option Addr} {n c : Nat} (h : Bytes w w.heap.size A n c) :
    Calls Try.prog 6 #[.slice A n c] w (Truly w) := by
  by_cases hn : 1048576 < n
  · go_enter Try.func6, Try.ntmps6
    go_wp2
    go_ret
    exact ⟨rfl, Below.refl _ _⟩
  · go_enter Try.func6, Try.ntmps6
    go_wp2_with fail
    refine (drawAddCounters_any h).mono ?_
    rintro e w1 ⟨A1, n1, c1, A2, n2, c2, t, p, y, t2, p2, y2, rfl, hn1, hn2, hO1, hO2, hb⟩
    have H1 := Lib.hid hO1.rows
    have H2 := Lib.hid hO2.rows
    clear hO1 hO2 hn
    have hP := fun h => addN_pos (n := n1) (n' := n2) (t := t) (t' := t2) h
    have hC := addN_comm n1 n2 t t2
    have hle := addN_le n1 n2 t t2
    go_wp2_with fail
    refine (implAddCounters_any H1.out H2.out (Nat.le_refl _) (by omega)).mono ?_
    rintro e w2 ⟨A3, c3, rfl, hO3, hb2⟩
    have hs2 := hb2.size
    go_wp2_with fail
    refine (specAddCounters_any (H1.out.below hb2) (H2.out.below hb2) hb2.size (by omega)).mono ?_
    rintro e w3 ⟨A4, c4, rfl, hO4, hb3⟩
    have hs3 := hb3.size
    have hB3 := Below.tr hb2 hb3
    have hO5 := hO3.next hb3
    generalize addN n1 n2 t t2 = N at *
    have H5 := Lib.hid hO5.rows
    have H4 := Lib.hid hO4.rows
    clear hO3 hO5 hO4
    go_wp2_with fail
    refine (sameCounters_same H5.out H4.out (Nat.le_refl _)).mono ?_
    rintro e w4 ⟨rfl, hb4⟩
    have hs4 := hb4.size
    have hB4 := Below.tr hB3 hb4
    clear H4
    go_wp2_with fail
    refine (implAddCounters_any (H2.out.below hB4) (H1.out.below hB4) hB4.size (by omega)).mono ?_
    rintro e w5 ⟨A6, c6, rfl, hO6, hb5⟩
    rw [hC] at hO6
    have hB5 := Below.tr hB4 hb5
    have H6 := Lib.hid (hO6.congr (R' := addR t p y p2 y2) fun i hi => addR_comm ((hP (by omega)).2.2 i hi)).rows
    have H7 := Lib.hid ((H5.out.below hb4).below (hb5.mono hs4))
    have hs5 := hb5.size
    clear hO6 H5
    go_wp2_with fail
    refine (sameCounters_same (H7.out.more (by omega)) H6.out (Nat.le_refl _)).mono ?_
    rintro e w6 ⟨rfl, hb6⟩
    have hB6 := Below.tr hB5 hb6
    have H8 := Lib.hid (H7.out.below (hb6.mono (by omega)))
    have hs6 := hb6.size
    clear H6 H7
    have hcm8 := H8.out.1
    have hcm1 := H1.out.1
    have hcm2 := H2.out.1
    unfold maxLen at hcm8 hcm1 hcm2
    have hB1s := hB6.size
    clear hC
    go_wp2_with fail
    go_loopw [6] (fun i wr => ∃ j : Nat, j ≤ N ∧ i = .int .i64 j ∧ Below w6.heap.size w6 wr) (fun i _ => N - (intOf i).toNat)
    case atStart => exact ⟨0, by omega, rfl, Below.refl _ _⟩
    case round =>
      obtain ⟨j, hj, rfl, hBw⟩ := hrel
      by_cases hlt : j < N
      · obtain ⟨hP1, hP2, hPt⟩ := hP (by omega)
        subst hP1
        have hd1 : decide (n1 ≤ j) = false := by simp; omega
        have hd2 : decide (n2 ≤ j) = false := by simp; omega
        obtain ⟨bx, ox, rfl, hbx, hcx⟩ := H8.out.2 (by omega)
        obtain ⟨ba, oa, rfl, hba, hca⟩ := H1.out.2 (by omega)
        obtain ⟨bb, ob, rfl, hbb, hcb⟩ := H2.out.2 (by omega)
        have rx := hcx j hlt
        have ra := hca j hlt
        have rb := hcb j (by omega)
        have hW := Below.tr hB6 hBw
        have hsw := hBw.size
        have x0 : wr.cell? ⟨bx, ox + j * 3, none⟩ = some (.int .i64 (t j)) := (keepc hBw bx (by omega) _).trans (rx 0 _ rfl)
        have x1 : wr.cell? ⟨bx, ox + j * 3 + 1, none⟩ = some (.int .i64 (IntKind.i64.wrap (p j + p2 j))) := (keepc hBw bx (by omega) _).trans (rx 1 _ rfl)
        have a0 : wr.cell? ⟨ba, oa + j * 3, none⟩ = some (.int .i64 (t j)) := (keepc hW ba (by omega) _).trans (ra 0 _ rfl)
        have a1 : wr.cell? ⟨ba, oa + j * 3 + 1, none⟩ = some (.int .i64 (p j)) := (keepc hW ba (by omega) _).trans (ra 1 _ rfl)
        have b1 : wr.cell? ⟨bb, ob + j * 3 + 1, none⟩ = some (.int .i64 (p2 j)) := (keepc hW bb (by omega) _).trans (rb 1 _ rfl)
        have hxs : bx < wr.heap.size := by omega
        have has : ba < wr.heap.size := by omega
        have hbs : bb < wr.heap.size := by omega
        have hlt2 : j < n2 := by omega
        clear hcx hca hcb rx ra rb hP hPt hP2 hle
        go_upto_region 10 with (fail)
        refine wp_region_still (ds := [(0, 38), (1, 39), (2, 40), (3, 41), (4, 42), (5, 43), (6, 44), (7, 45), (8, 46), (9, 47), (10, 48), (11, 49), (12, 50), (13, 51), (14, 52), (15, 53), (16, 54), (17, 55), (18, 56), (19, 57), (20, 58), (21, 59), (22, 60), (23, 61), (24, 62), (25, 63), (26, 64), (27, 65), (28, 66), (29, 67), (30, 68), (31, 69), (32, 70), (33, 71), (34, 72), (35, 73), (36, 74), (37, 75), (38, 76), (39, 77), (40, 78), (41, 79)]) 42 (by kernel_rfl) (by kernel_rfl) (by first | exact .inl rfl | exact .inr (by kernel_rfl)) (by rfl) rfl rfl ?_
        apply still_cons
        · intro a' w' hLe hfr hdep
          have e6 := hfr 6 rfl
          conv at e6 => rhs; whnf
          have f6 := e6; simp only [Array.getD_eq_getD_getElem?] at f6
          refine wpOp_plain rfl rfl (fun K hK => ?_)
          go_simp
          exact hK _ _ ⟨rfl, Below.refl _ _⟩
        apply still_cons
        · intro a' w' hLe hfr hdep
          have e3 := hfr 3 rfl
          conv at e3 => rhs; whnf
          have f3 := e3; simp only [Array.getD_eq_getD_getElem?] at f3
          refine wpOp_plain rfl rfl (fun K hK => ?_)
          go_simp
          exact hK _ _ ⟨rfl, Below.refl _ _⟩
        apply still_cons
        · intro a' w' hLe hfr hdep
          have e39 := hdep 1 39 (Nat.le_of_ble_eq_true rfl) rfl rfl
          conv at e39 => rhs; whnf
          have f39 := e39; simp only [Array.getD_eq_getD_getElem?] at f39
          refine wpOp_plain rfl rfl (fun K hK => ?_)
          go_simp
          exact hK _ _ ⟨rfl, Below.refl _ _⟩
        apply still_cons
        · intro a' w' hLe hfr hdep
          have e38 := hdep 0 38 (Nat.le_of_ble_eq_true rfl) rfl rfl
          conv at e38 => rhs; whnf
          have f38 := e38; simp only [Array.getD_eq_getD_getElem?] at f38
          have e40 := hdep 2 40 (Nat.le_of_ble_eq_true rfl) rfl rfl
          conv at e40 => rhs; whnf
          have f40 := e40; simp only [Array.getD_eq_getD_getElem?] at f40
          refine wpOp_plain rfl rfl (fun K hK => ?_)
          go_simp
          exact hK _ _ ⟨rfl, Below.refl _ _⟩
        apply still_cons
        · intro a' w' hLe hfr hdep
          have e41 := hdep 3 41 (Nat.le_of_ble_eq_true rfl) rfl rfl
          conv at e41 => rhs; whnf
          have f41 := e41; simp only [Array.getD_eq_getD_getElem?] at f41
          refine wpOp_plain rfl rfl (fun K hK => ?_)
          go_simp
          exact hK _ _ ⟨rfl, Below.refl _ _⟩
        apply still_cons
        · intro a' w' hLe hfr hdep
          have e42 := hdep 4 42 (Nat.le_of_ble_eq_true rfl) rfl rfl
          conv at e42 => rhs; whnf
          have f42 := e42; simp only [Array.getD_eq_getD_getElem?] at f42
          have e6 := hfr 6 rfl
          conv at e6 => rhs; whnf
          have f6 := e6; simp only [Array.getD_eq_getD_getElem?] at f6
          refine wpOp_yes rfl rfl rfl e42 (fun K hK => ?_)
          go_simp
          exact hK _ _ ⟨rfl, Below.refl _ _⟩
        apply still_cons
        · intro a' w' hLe hfr hdep
          have e42 := hdep 4 42 (Nat.le_of_ble_eq_true rfl) rfl rfl
          conv at e42 => rhs; whnf
          have f42 := e42; simp only [Array.getD_eq_getD_getElem?] at f42
          have e4 := hfr 4 rfl
          conv at e4 => rhs; whnf
          have f4 := e4; simp only [Array.getD_eq_getD_getElem?] at f4
          refine wpOp_yes rfl rfl rfl e42 (fun K hK => ?_)
          go_simp
          exact hK _ _ ⟨rfl, Below.refl _ _⟩
        apply still_cons
        · intro a' w' hLe hfr hdep
          have e42 := hdep 4 42 (Nat.le_of_ble_eq_true rfl) rfl rfl
          conv at e42 => rhs; whnf
          have f42 := e42; simp only [Array.getD_eq_getD_getElem?] at f42
          have e44 := hdep 6 44 (Nat.le_of_ble_eq_true rfl) rfl rfl
          conv at e44 => rhs; whnf
          have f44 := e44; simp only [Array.getD_eq_getD_getElem?] at f44
          refine wpOp_yes rfl rfl rfl e42 (fun K hK => ?_)
          go_simp
          exact hK _ _ ⟨rfl, Below.refl _ _⟩
        apply still_cons
        · intro a' w' hLe hfr hdep
          have e42 := hdep 4 42 (Nat.le_of_ble_eq_true rfl) rfl rfl
          conv at e42 => rhs; whnf
          have f42 := e42; simp only [Array.getD_eq_getD_getElem?] at f42
          have e43 := hdep 5 43 (Nat.le_of_ble_eq_true rfl) rfl rfl
          conv at e43 => rhs; whnf
          have f43 := e43; simp only [Array.getD_eq_getD_getElem?] at f43
          have e45 := hdep 7 45 (Nat.le_of_ble_eq_true rfl) rfl rfl
          conv at e45 => rhs; whnf
          have f45 := e45; simp only [Array.getD_eq_getD_getElem?] at f45
          refine wpOp_yes rfl rfl rfl e42 (fun K hK => ?_)
          go_simp
          exact hK _ _ ⟨rfl, Below.refl _ _⟩
        apply still_cons
        · intro a' w' hLe hfr hdep
          have e42 := hdep 4 42 (Nat.le_of_ble_eq_true rfl) rfl rfl
          conv at e42 => rhs; whnf
          have f42 := e42; simp only [Array.getD_eq_getD_getElem?] at f42
          have e46 := hdep 8 46 (Nat.le_of_ble_eq_true rfl) rfl rfl
          conv at e46 => rhs; whnf
          have f46 := e46; simp only [Array.getD_eq_getD_getElem?] at f46
          refine wpOp_plain rfl rfl (fun K hK => ?_)
          go_simp
          exact hK _ _ ⟨rfl, Below.refl _ _⟩
        apply still_cons
        · intro a' w' hLe hfr hdep
          have e47 := hdep 9 47 (Nat.le_of_ble_eq_true rfl) rfl rfl
          conv at e47 => rhs; whnf
          have f47 := e47; simp only [Array.getD_eq_getD_getElem?] at f47
          refine wpOp_plain rfl rfl (fun K hK => ?_)
          go_simp
          exact hK _ _ ⟨rfl, Below.refl _ _⟩
        apply still_cons
        · intro a' w' hLe hfr hdep
          have e48 := hdep 10 48 (Nat.le_of_ble_eq_true rfl) rfl rfl
          conv at e48 => rhs; whnf
          have f48 := e48; simp only [Array.getD_eq_getD_getElem?] at f48
          have e5 := hfr 5 rfl
          conv at e5 => rhs; whnf
          have f5 := e5; simp only [Array.getD_eq_getD_getElem?] at f5
          refine wpOp_yes rfl rfl rfl e48 (fun K hK => ?_)
          go_simp
          exact hK _ _ ⟨rfl, Below.refl _ _⟩
        apply still_cons
        · intro a' w' hLe hfr hdep
          have e48 := hdep 10 48 (Nat.le_of_ble_eq_true rfl) rfl rfl
          conv at e48 => rhs; whnf
          have f48 := e48; simp only [Array.getD_eq_getD_getElem?] at f48
          have e6 := hfr 6 rfl
          conv at e6 => rhs; whnf
          have f6 := e6; simp only [Array.getD_eq_getD_getElem?] at f6
          refine wpOp_yes rfl rfl rfl e48 (fun K hK => ?_)
          go_simp
          exact hK _ _ ⟨rfl, Below.refl _ _⟩
        apply still_cons
        · intro a' w' hLe hfr hdep
          have e48 := hdep 10 48 (Nat.le_of_ble_eq_true rfl) rfl rfl
          conv at e48 => rhs; whnf
          have f48 := e48; simp only [Array.getD_eq_getD_getElem?] at f48
          have e49 := hdep 11 49 (Nat.le_of_ble_eq_true rfl) rfl rfl
          conv at e49 => rhs; whnf
          have f49 := e49; simp only [Array.getD_eq_getD_getElem?] at f49
          have e50 := hdep 12 50 (Nat.le_of_ble_eq_true rfl) rfl rfl
          conv at e50 => rhs; whnf
          have f50 := e50; simp only [Array.getD_eq_getD_getElem?] at f50
          refine wpOp_yes rfl rfl rfl e48 (fun K hK => ?_)
          go_simp
          exact hK _ _ ⟨rfl, Below.refl _ _⟩
        apply still_cons
        · intro a' w' hLe hfr hdep
          have e48 := hdep 10 48 (Nat.le_of_ble_eq_true rfl) rfl rfl
          conv at e48 => rhs; whnf
          have f48 := e48; simp only [Array.getD_eq_getD_getElem?] at f48
          have e51 := hdep 13 51 (Nat.le_of_ble_eq_true rfl) rfl rfl
          conv at e51 => rhs; whnf
          have f51 := e51; simp only [Array.getD_eq_getD_getElem?] at f51
          refine wpOp_yes rfl rfl rfl e48 (fun K hK => ?_)
          go_simp
          exact hK _ _ ⟨rfl, Below.refl _ _⟩
        apply still_cons
        · intro a' w' hLe hfr hdep
          have e48 := hdep 10 48 (Nat.le_of_ble_eq_true rfl) rfl rfl
          conv at e48 => rhs; whnf
          have f48 := e48; simp only [Array.getD_eq_getD_getElem?] at f48
          have e52 := hdep 14 52 (Nat.le_of_ble_eq_true rfl) rfl rfl
          conv at e52 => rhs; whnf
          have f52 := e52; simp only [Array.getD_eq_getD_getElem?] at f52
          have kc := fun i => keepc hLe (bx) (by (try simp) <;> omega) i
          have kf := fun i => keepf hLe (bx) (by (try simp) <;> omega) i
          have kc := fun i => keepc hLe (ba) (by (try simp) <;> omega) i
          have kf := fun i => keepf hLe (ba) (by (try simp) <;> omega) i
          have kc := fun i => keepc hLe (bb) (by (try simp) <;> omega) i
          have kf := fun i => keepf hLe (bb) (by (try simp) <;> omega) i
          refine wpOp_yes rfl rfl rfl e48 (fun K hK => ?_)
          go_simp
          exact hK _ _ ⟨rfl, Below.refl _ _⟩
        apply still_cons
        · intro a' w' hLe hfr hdep
          have e48 := hdep 10 48 (Nat.le_of_ble_eq_true rfl) rfl rfl
          conv at e48 => rhs; whnf
          have f48 := e48; simp only [Array.getD_eq_getD_getElem?] at f48
          have e3 := hfr 3 rfl
          conv at e3 => rhs; whnf
          have f3 := e3; simp only [Array.getD_eq_getD_getElem?] at f3
          refine wpOp_yes rfl rfl rfl e48 (fun K hK => ?_)
          go_simp
          exact hK _ _ ⟨rfl, Below.refl _ _⟩
        apply still_cons
        · intro a' w' hLe hfr hdep
          have e48 := hdep 10 48 (Nat.le_of_ble_eq_true rfl) rfl rfl
          conv at e48 => rhs; whnf
          have f48 := e48; simp only [Array.getD_eq_getD_getElem?] at f48
          have e6 := hfr 6 rfl
          conv at e6 => rhs; whnf
          have f6 := e6; simp only [Array.getD_eq_getD_getElem?] at f6
          refine wpOp_yes rfl rfl rfl e48 (fun K hK => ?_)
          go_simp
          exact hK _ _ ⟨rfl, Below.refl _ _⟩
        apply still_cons
        · intro a' w' hLe hfr hdep
          have e48 := hdep 10 48 (Nat.le_of_ble_eq_true rfl) rfl rfl
          conv at e48 => rhs; whnf
          have f48 := e48; simp only [Array.getD_eq_getD_getElem?] at f48
          have e54 := hdep 16 54 (Nat.le_of_ble_eq_true rfl) rfl rfl
          conv at e54 => rhs; whnf
          have f54 := e54; simp only [Array.getD_eq_getD_getElem?] at f54
          have e55 := hdep 17 55 (Nat.le_of_ble_eq_true rfl) rfl rfl
          conv at e55 => rhs; whnf
          have f55 := e55; simp only [Array.getD_eq_getD_getElem?] at f55
          refine wpOp_yes rfl rfl rfl e48 (fun K hK => ?_)
          go_simp
          exact hK _ _ ⟨rfl, Below.refl _ _⟩
        apply still_cons
        · intro a' w' hLe hfr hdep
          have e48 := hdep 10 48 (Nat.le_of_ble_eq_true rfl) rfl rfl
          conv at e48 => rhs; whnf
          have f48 := e48; simp only [Array.getD_eq_getD_getElem?] at f48
          have e56 := hdep 18 56 (Nat.le_of_ble_eq_true rfl) rfl rfl
          conv at e56 => rhs; whnf
          have f56 := e56; simp only [Array.getD_eq_getD_getElem?] at f56
          refine wpOp_yes rfl rfl rfl e48 (fun K hK => ?_)
          go_simp
          exact hK _ _ ⟨rfl, Below.refl _ _⟩
        apply still_cons
        · intro a' w' hLe hfr hdep
          have e48 := hdep 10 48 (Nat.le_of_ble_eq_true rfl) rfl rfl
          conv at e48 => rhs; whnf
          have f48 := e48; simp only [Array.getD_eq_getD_getElem?] at f48
          have e57 := hdep 19 57 (Nat.le_of_ble_eq_true rfl) rfl rfl
          conv at e57 => rhs; whnf
          have f57 := e57; simp only [Array.getD_eq_getD_getElem?] at f57
          have kc := fun i => keepc hLe (bx) (by (try simp) <;> omega) i
          have kf := fun i => keepf hLe (bx) (by (try simp) <;> omega) i
          have kc := fun i => keepc hLe (ba) (by (try simp) <;> omega) i
          have kf := fun i => keepf hLe (ba) (by (try simp) <;> omega) i
          have kc := fun i => keepc hLe (bb) (by (try simp) <;> omega) i
          have kf := fun i => keepf hLe (bb) (by (try simp) <;> omega) i
          refine wpOp_yes rfl rfl rfl e48 (fun K hK => ?_)
          go_simp
          exact hK _ _ ⟨rfl, Below.refl _ _⟩
        apply still_cons
        · intro a' w' hLe hfr hdep
          have e48 := hdep 10 48 (Nat.le_of_ble_eq_true rfl) rfl rfl
          conv at e48 => rhs; whnf
          have f48 := e48; simp only [Array.getD_eq_getD_getElem?] at f48
          have e4 := hfr 4 rfl
          conv at e4 => rhs; whnf
          have f4 := e4; simp only [Array.getD_eq_getD_getElem?] at f4
          refine wpOp_yes rfl rfl rfl e48 (fun K hK => ?_)
          go_simp
          exact hK _ _ ⟨rfl, Below.refl _ _⟩
        apply still_cons
        · intro a' w' hLe hfr hdep
          have e48 := hdep 10 48 (Nat.le_of_ble_eq_true rfl) rfl rfl
          conv at e48 => rhs; whnf
          have f48 := e48; simp only [Array.getD_eq_getD_getElem?] at f48
          have e6 := hfr 6 rfl
          conv at e6 => rhs; whnf
          have f6 := e6; simp only [Array.getD_eq_getD_getElem?] at f6
          refine wpOp_yes rfl rfl rfl e48 (fun K hK => ?_)
          go_simp
          exact hK _ _ ⟨rfl, Below.refl _ _⟩
        apply still_cons
        · intro a' w' hLe hfr hdep
          have e48 := hdep 10 48 (Nat.le_of_ble_eq_true rfl) rfl rfl
          conv at e48 => rhs; whnf
          have f48 := e48; simp only [Array.getD_eq_getD_getElem?] at f48
          have e59 := hdep 21 59 (Nat.le_of_ble_eq_true rfl) rfl rfl
          conv at e59 => rhs; whnf
          have f59 := e59; simp only [Array.getD_eq_getD_getElem?] at f59
          have e60 := hdep 22 60 (Nat.le_of_ble_eq_true rfl) rfl rfl
          conv at e60 => rhs; whnf
          have f60 := e60; simp only [Array.getD_eq_getD_getElem?] at f60
          refine wpOp_yes rfl rfl rfl e48 (fun K hK => ?_)
          go_simp
          exact hK _ _ ⟨rfl, Below.refl _ _⟩
        apply still_cons
        · intro a' w' hLe hfr hdep
          have e48 := hdep 10 48 (Nat.le_of_ble_eq_true rfl) rfl rfl
          conv at e48 => rhs; whnf
          have f48 := e48; simp only [Array.getD_eq_getD_getElem?] at f48
          have e61 := hdep 23 61 (Nat.le_of_ble_eq_true rfl) rfl rfl
          conv at e61 => rhs; whnf
          have f61 := e61; simp only [Array.getD_eq_getD_getElem?] at f61
          refine wpOp_yes rfl rfl rfl e48 (fun K hK => ?_)
          go_simp
          exact hK _ _ ⟨rfl, Below.refl _ _⟩
        apply still_cons
        · intro a' w' hLe hfr hdep
          have e48 := hdep 10 48 (Nat.le_of_ble_eq_true rfl) rfl rfl
          conv at e48 => rhs; whnf
          have f48 := e48; simp only [Array.getD_eq_getD_getElem?] at f48
          have e62 := hdep 24 62 (Nat.le_of_ble_eq_true rfl) rfl rfl
          conv at e62 => rhs; whnf
          have f62 := e62; simp only [Array.getD_eq_getD_getElem?] at f62
          have kc := fun i => keepc hLe (bx) (by (try simp) <;> omega) i
          have kf := fun i => keepf hLe (bx) (by (try simp) <;> omega) i
          have kc := fun i => keepc hLe (ba) (by (try simp) <;> omega) i
          have kf := fun i => keepf hLe (ba) (by (try simp) <;> omega) i
          have kc := fun i => keepc hLe (bb) (by (try simp) <;> omega) i
          have kf := fun i => keepf hLe (bb) (by (try simp) <;> omega) i
          refine wpOp_yes rfl rfl rfl e48 (fun K hK => ?_)
          go_simp
          exact hK _ _ ⟨rfl, Below.refl _ _⟩
        apply still_cons
        · intro a' w' hLe hfr hdep
          have e48 := hdep 10 48 (Nat.le_of_ble_eq_true rfl) rfl rfl
          conv at e48 => rhs; whnf
          have f48 := e48; simp only [Array.getD_eq_getD_getElem?] at f48
          have e58 := hdep 20 58 (Nat.le_of_ble_eq_true rfl) rfl rfl
          conv at e58 => rhs; whnf
          have f58 := e58; simp only [Array.getD_eq_getD_getElem?] at f58
          have e63 := hdep 25 63 (Nat.le_of_ble_eq_true rfl) rfl rfl
          conv at e63 => rhs; whnf
          have f63 := e63; simp only [Array.getD_eq_getD_getElem?] at f63
          refine wpOp_yes rfl rfl rfl e48 (fun K hK => ?_)
          go_simp
          exact hK _ _ ⟨rfl, Below.refl _ _⟩
        apply still_cons
        · intro a' w' hLe hfr hdep
          have e48 := hdep 10 48 (Nat.le_of_ble_eq_true rfl) rfl rfl
          conv at e48 => rhs; whnf
          have f48 := e48; simp only [Array.getD_eq_getD_getElem?] at f48
          have e53 := hdep 15 53 (Nat.le_of_ble_eq_true rfl) rfl rfl
          conv at e53 => rhs; whnf
          have f53 := e53; simp only [Array.getD_eq_getD_getElem?] at f53
          have e64 := hdep 26 64 (Nat.le_of_ble_eq_true rfl) rfl rfl
          conv at e64 => rhs; whnf
          have f64 := e64; simp only [Array.getD_eq_getD_getElem?] at f64
          refine wpOp_yes rfl rfl rfl e48 (fun K hK => ?_)
          go_simp
          exact hK _ _ ⟨rfl, Below.refl _ _⟩
        apply still_cons
        · intro a' w' hLe hfr hdep
          have e48 := hdep 10 48 (Nat.le_of_ble_eq_true rfl) rfl rfl
          conv at e48 => rhs; whnf
          have f48 := e48; simp only [Array.getD_eq_getD_getElem?] at f48
          have e65 := hdep 27 65 (Nat.le_of_ble_eq_true rfl) rfl rfl
          conv at e65 => rhs; whnf
          have f65 := e65; simp only [Array.getD_eq_getD_getElem?] at f65
          refine wpOp_plain rfl rfl (fun K hK => ?_)
          go_simp
          exact hK _ _ ⟨rfl, Below.refl _ _⟩
        apply still_cons
        · intro a' w' hLe hfr hdep
          have e66 := hdep 28 66 (Nat.le_of_ble_eq_true rfl) rfl rfl
          conv at e66 => rhs; whnf
          have f66 := e66; simp only [Array.getD_eq_getD_getElem?] at f66
          refine wpOp_plain rfl rfl (fun K hK => ?_)
          go_simp
          exact hK _ _ ⟨rfl, Below.refl _ _⟩
        apply still_cons
        · intro a' w' hLe hfr hdep
          have e67 := hdep 29 67 (Nat.le_of_ble_eq_true rfl) rfl rfl
          conv at e67 => rhs; whnf
          have f67 := e67; simp only [Array.getD_eq_getD_getElem?] at f67
          have e5 := hfr 5 rfl
          conv at e5 => rhs; whnf
          have f5 := e5; simp only [Array.getD_eq_getD_getElem?] at f5
          refine wpOp_yes rfl rfl rfl e67 (fun K hK => ?_)
          go_simp
          exact hK _ _ ⟨rfl, Below.refl _ _⟩
        apply still_cons
        · intro a' w' hLe hfr hdep
          have e67 := hdep 29 67 (Nat.le_of_ble_eq_true rfl) rfl rfl
          conv at e67 => rhs; whnf
          have f67 := e67; simp only [Array.getD_eq_getD_getElem?] at f67
          have e6 := hfr 6 rfl
          conv at e6 => rhs; whnf
          have f6 := e6; simp only [Array.getD_eq_getD_getElem?] at f6
          refine wpOp_yes rfl rfl rfl e67 (fun K hK => ?_)
          go_simp
          exact hK _ _ ⟨rfl, Below.refl _ _⟩
        apply still_cons
        · intro a' w' hLe hfr hdep
          have e67 := hdep 29 67 (Nat.le_of_ble_eq_true rfl) rfl rfl
          conv at e67 => rhs; whnf
          have f67 := e67; simp only [Array.getD_eq_getD_getElem?] at f67
          have e68 := hdep 30 68 (Nat.le_of_ble_eq_true rfl) rfl rfl
          conv at e68 => rhs; whnf
          have f68 := e68; simp only [Array.getD_eq_getD_getElem?] at f68
          have e69 := hdep 31 69 (Nat.le_of_ble_eq_true rfl) rfl rfl
          conv at e69 => rhs; whnf
          have f69 := e69; simp only [Array.getD_eq_getD_getElem?] at f69
          refine wpOp_yes rfl rfl rfl e67 (fun K hK => ?_)
          go_simp
          exact hK _ _ ⟨rfl, Below.refl _ _⟩
        apply still_cons
        · intro a' w' hLe hfr hdep
          have e67 := hdep 29 67 (Nat.le_of_ble_eq_true rfl) rfl rfl
          conv at e67 => rhs; whnf
          have f67 := e67; simp only [Array.getD_eq_getD_getElem?] at f67
          have e70 := hdep 32 70 (Nat.le_of_ble_eq_true rfl) rfl rfl
          conv at e70 => rhs; whnf
          have f70 := e70; simp only [Array.getD_eq_getD_getElem?] at f70
          refine wpOp_yes rfl rfl rfl e67 (fun K hK => ?_)
          go_simp
          exact hK _ _ ⟨rfl, Below.refl _ _⟩
        apply still_cons
        · intro a' w' hLe hfr hdep
          have e67 := hdep 29 67 (Nat.le_of_ble_eq_true rfl) rfl rfl
          conv at e67 => rhs; whnf
          have f67 := e67; simp only [Array.getD_eq_getD_getElem?] at f67
          have e71 := hdep 33 71 (Nat.le_of_ble_eq_true rfl) rfl rfl
          conv at e71 => rhs; whnf
          have f71 := e71; simp only [Array.getD_eq_getD_getElem?] at f71
          have kc := fun i => keepc hLe (bx) (by (try simp) <;> omega) i
          have kf := fun i => keepf hLe (bx) (by (try simp) <;> omega) i
          have kc := fun i => keepc hLe (ba) (by (try simp) <;> omega) i
          have kf := fun i => keepf hLe (ba) (by (try simp) <;> omega) i
          have kc := fun i => keepc hLe (bb) (by (try simp) <;> omega) i
          have kf := fun i => keepf hLe (bb) (by (try simp) <;> omega) i
          refine wpOp_yes rfl rfl rfl e67 (fun K hK => ?_)
          go_simp
          exact hK _ _ ⟨rfl, Below.refl _ _⟩
        apply still_cons
        · intro a' w' hLe hfr hdep
          have e67 := hdep 29 67 (Nat.le_of_ble_eq_true rfl) rfl rfl
          conv at e67 => rhs; whnf
          have f67 := e67; simp only [Array.getD_eq_getD_getElem?] at f67
          have e3 := hfr 3 rfl
          conv at e3 => rhs; whnf
          have f3 := e3; simp only [Array.getD_eq_getD_getElem?] at f3
          refine wpOp_yes rfl rfl rfl e67 (fun K hK => ?_)
          go_simp
          exact hK _ _ ⟨rfl, Below.refl _ _⟩
        apply still_cons
        · intro a' w' hLe hfr hdep
          have e67 := hdep 29 67 (Nat.le_of_ble_eq_true rfl) rfl rfl
          conv at e67 => rhs; whnf
          have f67 := e67; simp only [Array.getD_eq_getD_getElem?] at f67
          have e6 := hfr 6 rfl
          conv at e6 => rhs; whnf
          have f6 := e6; simp only [Array.getD_eq_getD_getElem?] at f6
          refine wpOp_yes rfl rfl rfl e67 (fun K hK => ?_)
          go_simp
          exact hK _ _ ⟨rfl, Below.refl _ _⟩
        apply still_cons
        · intro a' w' hLe hfr hdep
          have e67 := hdep 29 67 (Nat.le_of_ble_eq_true rfl) rfl rfl
          conv at e67 => rhs; whnf
          have f67 := e67; simp only [Array.getD_eq_getD_getElem?] at f67
          have e73 := hdep 35 73 (Nat.le_of_ble_eq_true rfl) rfl rfl
          conv at e73 => rhs; whnf
          have f73 := e73; simp only [Array.getD_eq_getD_getElem?] at f73
          have e74 := hdep 36 74 (Nat.le_of_ble_eq_true rfl) rfl rfl
          conv at e74 => rhs; whnf
          have f74 := e74; simp only [Array.getD_eq_getD_getElem?] at f74
          refine wpOp_yes rfl rfl rfl e67 (fun K hK => ?_)
          go_simp
          exact hK _ _ ⟨rfl, Below.refl _ _⟩
        apply still_cons
        · intro a' w' hLe hfr hdep
          have e67 := hdep 29 67 (Nat.le_of_ble_eq_true rfl) rfl rfl
          conv at e67 => rhs; whnf
          have f67 := e67; simp only [Array.getD_eq_getD_getElem?] at f67
          have e75 := hdep 37 75 (Nat.le_of_ble_eq_true rfl) rfl rfl
          conv at e75 => rhs; whnf
          have f75 := e75; simp only [Array.getD_eq_getD_getElem?] at f75
          refine wpOp_yes rfl rfl rfl e67 (fun K hK => ?_)
          go_simp
          exact hK _ _ ⟨rfl, Below.refl _ _⟩
        apply still_cons
        · intro a' w' hLe hfr hdep
          have e67 := hdep 29 67 (Nat.le_of_ble_eq_true rfl) rfl rfl
          conv at e67 => rhs; whnf
          have f67 := e67; simp only [Array.getD_eq_getD_getElem?] at f67
          have e76 := hdep 38 76 (Nat.le_of_ble_eq_true rfl) rfl rfl
          conv at e76 => rhs; whnf
          have f76 := e76; simp only [Array.getD_eq_getD_getElem?] at f76
          have kc := fun i => keepc hLe (bx) (by (try simp) <;> omega) i
          have kf := fun i => keepf hLe (bx) (by (try simp) <;> omega) i
          have kc := fun i => keepc hLe (ba) (by (try simp) <;> omega) i
          have kf := fun i => keepf hLe (ba) (by (try simp) <;> omega) i
          have kc := fun i => keepc hLe (bb) (by (try simp) <;> omega) i
          have kf := fun i => keepf hLe (bb) (by (try simp) <;> omega) i
          refine wpOp_yes rfl rfl rfl e67 (fun K hK => ?_)
          go_simp
          exact hK _ _ ⟨rfl, Below.refl _ _⟩
        apply still_cons
        · intro a' w' hLe hfr hdep
          have e67 := hdep 29 67 (Nat.le_of_ble_eq_true rfl) rfl rfl
          conv at e67 => rhs; whnf
          have f67 := e67; simp only [Array.getD_eq_getD_getElem?] at f67
          have e72 := hdep 34 72 (Nat.le_of_ble_eq_true rfl) rfl rfl
          conv at e72 => rhs; whnf
          have f72 := e72; simp only [Array.getD_eq_getD_getElem?] at f72
          have e77 := hdep 39 77 (Nat.le_of_ble_eq_true rfl) rfl rfl
          conv at e77 => rhs; whnf
          have f77 := e77; simp only [Array.getD_eq_getD_getElem?] at f77
          refine wpOp_yes rfl rfl rfl e67 (fun K hK => ?_)
          go_simp
          exact hK _ _ ⟨rfl, Below.refl _ _⟩
        apply still_cons
        · intro a' w' hLe hfr hdep
          have e67 := hdep 29 67 (Nat.le_of_ble_eq_true rfl) rfl rfl
          conv at e67 => rhs; whnf
          have f67 := e67; simp only [Array.getD_eq_getD_getElem?] at f67
          have e78 := hdep 40 78 (Nat.le_of_ble_eq_true rfl) rfl rfl
          conv at e78 => rhs; whnf
          have f78 := e78; simp only [Array.getD_eq_getD_getElem?] at f78
          refine wpOp_plain rfl rfl (fun K hK => ?_)
          go_simp
          exact hK _ _ ⟨rfl, Below.refl _ _⟩
        apply still_nil
        intro w9 hb9
        simp only [putAll, List.drop_succ_cons, List.drop_zero]
        go_simp
        clear x0 x1 a0 a1 b1
        go_wp2
        go_roundw
        case rel => exact ⟨j + 1, by omega, by go_num, Below.tr hBw hb9⟩
        case measure => simp [intOf]; omega
      · obtain rfl : j = N := by omega
        clear hP
        go_wp2_with (go_at_call 15; refine (alive_any _).mono ?_; rintro e wa ⟨rfl, hba⟩)
        go_ret
        exact ⟨rfl, Below.tr hb (Below.tr hB6 (by (repeat (first | exact Below.refl _ _ | assumption | refine Below.al ?_ _ | refine Below.dr ?_ | (refine Below.st ?_ (by simp <;> omega) _) | (refine Below.tr ?_ (by assumption))))))⟩
end Go.Proofs.Ytdfnpcjbecbbbaa
