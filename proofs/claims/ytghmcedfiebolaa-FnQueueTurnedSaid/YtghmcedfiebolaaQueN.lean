/-
  The laws 'all packets are sent' and 'turned queues send as much': their walks.
-/
import Derived.Test.YtghmcedfiebolaaQueP
import Derived.Test.YtghmcedfiebolaaQueL
namespace Go.Proofs.Ytghmcedfiebolaa
open Go Go.RowKit Go.Joins

set_option maxHeartbeats 2000000 in
theorem sameSent_same {w : World} {B : Nat} {A A' : Option Addr} {n c c' : Nat} {o : Outs} (h : Rws w B 2 A n c (outR o)) (h' : Rws w B 2 A' n c' (outR o)) (hB : B ≤ w.heap.size) :
    Calls Try.prog 21 #[.slice A n c, .slice A' n c'] w fun e w' => e = .returned (.bool true) ∧ Below w.heap.size w w' := by
  obtain ⟨⟨hnc, hcm⟩, hrow⟩ := h
  obtain ⟨⟨hnc', hcm'⟩, hrow'⟩ := h'
  unfold maxLen at hcm hcm'
  go_enter Try.func21, Try.ntmps21
  go_wp2
  go_loopw [5] (fun i wr => ∃ k : Nat, k ≤ n ∧ i = .int .i64 k ∧ Below w.heap.size w wr) (fun i _ => n - (intOf i).toNat)
  case atStart => exact ⟨0, by omega, rfl, by (repeat (first | exact Below.refl _ _ | assumption | refine Below.al ?_ _ | refine Below.dr ?_ | (refine Below.st ?_ (by simp <;> omega) _) | (refine Below.tr ?_ (by assumption))))⟩
  case round =>
    obtain ⟨k, hk, rfl, hBw⟩ := hrel
    by_cases hlt : k < n
    · obtain ⟨b, off, rfl, hbB, hc⟩ := hrow (by omega)
      obtain ⟨b', off', rfl, hbB', hc'⟩ := hrow' (by omega)
      have hr := hc k hlt
      have hr' := hc' k hlt
      have hbs : b < wr.heap.size := by have := hBw.size; omega
      have hbs' : b' < wr.heap.size := by have := hBw.size; omega
      have q0 : wr.cell? ⟨b, off + k * 2, none⟩ = some (.int .i64 ((o.getD k (0, 0)).1 : Nat)) := (keepc hBw b (by omega) _).trans (hr 0 _ rfl)
      have q1 : wr.cell? ⟨b, off + k * 2 + 1, none⟩ = some (.int .i64 ((o.getD k (0, 0)).2 : Nat)) := (keepc hBw b (by omega) _).trans (hr 1 _ rfl)
      have s0 : wr.cell? ⟨b', off' + k * 2, none⟩ = some (.int .i64 ((o.getD k (0, 0)).1 : Nat)) := (keepc hBw b' (by omega) _).trans (hr' 0 _ rfl)
      have s1 : wr.cell? ⟨b', off' + k * 2 + 1, none⟩ = some (.int .i64 ((o.getD k (0, 0)).2 : Nat)) := (keepc hBw b' (by omega) _).trans (hr' 1 _ rfl)
      clear hrow hc hr hrow' hc' hr'
      generalize (o.getD k (0, 0)).1 = x at *
      generalize (o.getD k (0, 0)).2 = y at *
      go_upto_region 6 with (fail)
      refine wp_region_still (ds := [(0, 17), (1, 18), (2, 19), (3, 20), (4, 21), (5, 22), (6, 23), (7, 24), (8, 25)]) 9 (by kernel_rfl) (by kernel_rfl) (by first | exact .inl rfl | exact .inr (by kernel_rfl)) (by rfl) rfl rfl ?_
      apply still_cons
      · intro a' w' hLe hfr hdep
        have e0 := hfr 0 rfl
        conv at e0 => rhs; whnf
        have f0 := e0; simp only [Array.getD_eq_getD_getElem?] at f0
        refine wpOp_plain rfl rfl (fun K hK => ?_)
        go_simp
        exact hK _ _ ⟨rfl, Below.refl _ _⟩
      apply still_cons
      · intro a' w' hLe hfr hdep
        have e5 := hfr 5 rfl
        conv at e5 => rhs; whnf
        have f5 := e5; simp only [Array.getD_eq_getD_getElem?] at f5
        refine wpOp_plain rfl rfl (fun K hK => ?_)
        go_simp
        exact hK _ _ ⟨rfl, Below.refl _ _⟩
      apply still_cons
      · intro a' w' hLe hfr hdep
        have e17 := hdep 0 17 (Nat.le_of_ble_eq_true rfl) rfl rfl
        conv at e17 => rhs; whnf
        have f17 := e17; simp only [Array.getD_eq_getD_getElem?] at f17
        have e18 := hdep 1 18 (Nat.le_of_ble_eq_true rfl) rfl rfl
        conv at e18 => rhs; whnf
        have f18 := e18; simp only [Array.getD_eq_getD_getElem?] at f18
        refine wpOp_plain rfl rfl (fun K hK => ?_)
        go_simp
        exact hK _ _ ⟨rfl, Below.refl _ _⟩
      apply still_cons
      · intro a' w' hLe hfr hdep
        have e19 := hdep 2 19 (Nat.le_of_ble_eq_true rfl) rfl rfl
        conv at e19 => rhs; whnf
        have f19 := e19; simp only [Array.getD_eq_getD_getElem?] at f19
        have kc := fun i => keepc hLe (b) (by (try simp) <;> omega) i
        have kf := fun i => keepf hLe (b) (by (try simp) <;> omega) i
        have kc := fun i => keepc hLe (b') (by (try simp) <;> omega) i
        have kf := fun i => keepf hLe (b') (by (try simp) <;> omega) i
        refine wpOp_plain rfl rfl (fun K hK => ?_)
        go_simp
        exact hK _ _ ⟨rfl, Below.refl _ _⟩
      apply still_cons
      · intro a' w' hLe hfr hdep
        have e1 := hfr 1 rfl
        conv at e1 => rhs; whnf
        have f1 := e1; simp only [Array.getD_eq_getD_getElem?] at f1
        refine wpOp_plain rfl rfl (fun K hK => ?_)
        go_simp
        exact hK _ _ ⟨rfl, Below.refl _ _⟩
      apply still_cons
      · intro a' w' hLe hfr hdep
        have e5 := hfr 5 rfl
        conv at e5 => rhs; whnf
        have f5 := e5; simp only [Array.getD_eq_getD_getElem?] at f5
        refine wpOp_plain rfl rfl (fun K hK => ?_)
        go_simp
        exact hK _ _ ⟨rfl, Below.refl _ _⟩
      apply still_cons
      · intro a' w' hLe hfr hdep
        have e21 := hdep 4 21 (Nat.le_of_ble_eq_true rfl) rfl rfl
        conv at e21 => rhs; whnf
        have f21 := e21; simp only [Array.getD_eq_getD_getElem?] at f21
        have e22 := hdep 5 22 (Nat.le_of_ble_eq_true rfl) rfl rfl
        conv at e22 => rhs; whnf
        have f22 := e22; simp only [Array.getD_eq_getD_getElem?] at f22
        refine wpOp_plain rfl rfl (fun K hK => ?_)
        go_simp
        exact hK _ _ ⟨rfl, Below.refl _ _⟩
      apply still_cons
      · intro a' w' hLe hfr hdep
        have e23 := hdep 6 23 (Nat.le_of_ble_eq_true rfl) rfl rfl
        conv at e23 => rhs; whnf
        have f23 := e23; simp only [Array.getD_eq_getD_getElem?] at f23
        have kc := fun i => keepc hLe (b) (by (try simp) <;> omega) i
        have kf := fun i => keepf hLe (b) (by (try simp) <;> omega) i
        have kc := fun i => keepc hLe (b') (by (try simp) <;> omega) i
        have kf := fun i => keepf hLe (b') (by (try simp) <;> omega) i
        refine wpOp_plain rfl rfl (fun K hK => ?_)
        go_simp
        exact hK _ _ ⟨rfl, Below.refl _ _⟩
      apply still_cons
      · intro a' w' hLe hfr hdep
        have e20 := hdep 3 20 (Nat.le_of_ble_eq_true rfl) rfl rfl
        conv at e20 => rhs; whnf
        have f20 := e20; simp only [Array.getD_eq_getD_getElem?] at f20
        have e24 := hdep 7 24 (Nat.le_of_ble_eq_true rfl) rfl rfl
        conv at e24 => rhs; whnf
        have f24 := e24; simp only [Array.getD_eq_getD_getElem?] at f24
        refine wpOp_plain rfl rfl (fun K hK => ?_)
        go_simp
        exact hK _ _ ⟨rfl, Below.refl _ _⟩
      apply still_nil
      intro w1 hb1
      simp only [putAll, List.drop_succ_cons, List.drop_zero]
      go_simp
      go_wp2
      go_roundw
      case rel => exact ⟨k + 1, by omega, by go_num, Below.tr hBw hb1⟩
      case measure => simp [intOf]; omega
    · obtain rfl : k = n := by omega
      go_wp2
      go_ret
      exact ⟨rfl, hBw⟩

theorem qoN_no {n m : Nat} {qn : Nat → Nat} {q : Nat → Nat → Int} {sh : Nat → Int} (h : qvB n qn q m sh = false) : qoN n qn q m sh = 0 := by simp [qoN, h]
theorem qoN_yes {n m : Nat} {qn : Nat → Nat} {q : Nat → Nat → Int} {sh : Nat → Int} (h : qvB n qn q m sh = true) : qoN n qn q m sh = (qOut n qn q sh).length := by simp [qoN, h]
theorem cnt_upd {o : Outs} {j x y : Nat} (hj : j < o.length) (hx : (o.getD j (0, 0)).1 = x) (hy : y = cnt (o.take j) x) : upd (fun i => ((cnt (o.take j) i : Nat) : Int)) x ((y : Int) + 1) = fun i => ((cnt (o.take (j + 1)) i : Nat) : Int) := by
  funext i
  rw [cnt_take_succ hj, hx]
  unfold upd
  by_cases h : i = x
  · subst h
    rw [if_pos rfl, if_pos rfl, hy]
    simp
  · rw [if_neg h, if_neg (Ne.symm h)]
    simp

set_option maxRecDepth 100000 in
set_option maxHeartbeats 8000000 in
theorem queueOrder_walk {w : World} {A : Option Addr} {n c : Nat} (h : Bytes w w.heap.size A n c) :
    Calls Try.prog 5 #[.slice A n c] w (Truly w) := by
  by_cases hn : 1048576 < n
  · have hd : decide ((1048576 : Int) < (n : Int)) = true := by simp; omega
    go_enter Try.func5, Try.ntmps5
    go_wp2
    go_ret
    exact ⟨rfl, Below.refl _ _⟩
  have hd : decide ((1048576 : Int) < (n : Int)) = false := by simp; omega
  obtain ⟨iT, hi, hz, hs, hb⟩ := info_parts info_int
  have hmk := fun (n1 : Nat) (h5 : n1 ≤ 5) => run_make_rows (P := Try.prog) 23 3 iT _ 1 Try.underlying23 hi hz hs n1 (by rw [hb]; omega) (by omega)
  simp only [Nat.mul_one, rowI_made] at hmk
  have HM := Lib.hid hmk
  clear hn hmk hi hz hs hb
  go_enter Try.func5, Try.ntmps5
  go_wp2_with fail
  refine (drawQueueOrder_any h).mono ?_
  rintro e w1 ⟨A1, n1, c1, qn, q, A2, n2, c2, sh, rfl, h1, h2, h3, h4, h5, hb1⟩
  have H4 := Lib.hid h4
  have H5 := Lib.hid h5
  have hnc := h4.len
  unfold maxLen at hnc
  clear h3 h4 h5 hd
  go_wp2_with fail
  refine (implQueueOrder_any H4.out H5.out (Nat.le_refl _)).mono ?_
  rintro e w2 ⟨Ax, cx, rfl, hx_2, hb2⟩
  have H4b := Lib.hid (H4.out.next hb2)
  have H5b := Lib.hid (H5.out.next hb2)
  have hB2 := Below.tr hb1 hb2
  go_wp2_with fail
  refine (specQueueOrder_any H4b.out H5b.out (Nat.le_refl _)).mono ?_
  rintro e w3 ⟨Ao, co, rfl, ho_3, hb3⟩
  have hx_3 := hx_2.next hb3
  have H4c := Lib.hid (H4b.out.next hb3)
  have H5c := Lib.hid (H5b.out.next hb3)
  have hB3 := Below.tr hB2 hb3
  go_wp2_with fail
  refine (sameSent_same hx_3.rows ho_3.rows (Nat.le_refl _)).mono ?_
  rintro e w4 ⟨rfl, hb4⟩
  have hx_4 := Lib.hid (hx_3.next hb4)
  have H4d := Lib.hid (H4c.out.next hb4)
  have H5d := Lib.hid (H5c.out.next hb4)
  have hB4 := Below.tr hB3 hb4
  have hno := qoN_le n1 qn q n2 sh
  have hxc := hx_4.out.1
  have hxn := hx_4.out.2.1
  unfold maxLen at hxc
  clear H4 H5 H4b H5b H4c H5c ho_3 hx_2 hx_3 hb2 hb3 hb4 hB2 hB3
  go_wp2_with fail
  refine (implQueuesValid_any H4d.out H5d.out (Nat.le_refl _)).mono ?_
  rintro e w' ⟨rfl, rfl⟩
  cases hv : qvB n1 qn q n2 sh with
  | false =>
    rw [qoN_no hv] at hxn ⊢
    go_wp2_with (go_at_call 18; refine (alive_any _).mono ?_; rintro e wa ⟨rfl, hba⟩)
    go_ret
    exact ⟨rfl, Below.tr hB4 (by (repeat (first | exact Below.refl _ _ | assumption | refine Below.al ?_ _ | refine Below.dr ?_ | (refine Below.st ?_ (by simp <;> omega) _) | (refine Below.tr ?_ (by assumption)))))⟩
  | true =>
    obtain ⟨v1, v2, v3, v4⟩ := qvB_true.1 hv
    subst v3
    have HN := Lib.hid (qoN_yes hv)
    have hV := Lib.hid hv
    have hX := Lib.hid hx_4.out.rows.2
    rw [HN.out] at hno hxn hX ⊢
    have hfacts := Lib.hid (qOut_facts hv)
    obtain ⟨QA, qc, ⟨_, hrow⟩, HI⟩ := H4d.out
    have hRow := Lib.hid hrow
    have hI := Lib.hid (fun i hi => (HI i hi).1)
    have hsz := HN
    have hmk := HM.out n2 h1
    clear hv v4 hx_4 hrow HI H5d HN
    go_wp2_with fail
    clear hmk
    have hg0 : (w4.alloc (.cells (rowI (fun i => ((cnt ((qOut n2 qn q sh).take 0) i : Nat) : Int)) n2) 3)).heap[w4.heap.size]? = some (.cells (rowI (fun i => ((cnt ((qOut n2 qn q sh).take 0) i : Nat) : Int)) n2) 3 (0, 0)) := heap_alloc_new _ _
    go_loopw [7] (fun i wr => ∃ j : Nat, j ≤ (qOut n2 qn q sh).length ∧ i = .int .i64 j ∧ wr.heap[w4.heap.size]? = some (.cells (rowI (fun i => ((cnt ((qOut n2 qn q sh).take j) i : Nat) : Int)) n2) 3 (0, 0)) ∧ Below w4.heap.size w4 wr) (fun i _ => (qOut n2 qn q sh).length - (intOf i).toNat)
    case atStart => exact ⟨0, by omega, rfl, hg0, below_new w4 _⟩
    case round =>
      obtain ⟨j, hj, rfl, hg, hBj⟩ := hrel
      clear hg0
      have hgl := heap_lt hg
      by_cases hjl : j < (qOut n2 qn q sh).length
      · obtain ⟨bo, oo, rfl, hbo, hco⟩ := hX.out (by omega)
        have hr := hco j hjl
        obtain ⟨a1, a2, a3⟩ := okO_at hfacts.out.1 hjl |> fun h => (⟨h.1, trivial, h.2⟩ : _ ∧ True ∧ _)
        have hszj := hBj.size
        have hbol : bo < wr.heap.size := by omega
        have o0 : wr.cell? ⟨bo, oo + j * 2, none⟩ = some (.int .i64 (((qOut n2 qn q sh).getD j (0, 0)).1 : Nat)) := (keepc hBj bo hbo _).trans (hr 0 _ rfl)
        have o1 : wr.cell? ⟨bo, oo + j * 2 + 1, none⟩ = some (.int .i64 (((qOut n2 qn q sh).getD j (0, 0)).2 : Nat)) := (keepc hBj bo hbo _).trans (hr 1 _ rfl)
        have hup := fun x hx y hy => cnt_upd (x := x) (y := y) hjl hx hy
        obtain ⟨x, hx⟩ : ∃ x, ((qOut n2 qn q sh).getD j (0, 0)).1 = x := ⟨_, rfl⟩
        obtain ⟨y, hy⟩ : ∃ y, ((qOut n2 qn q sh).getD j (0, 0)).2 = y := ⟨_, rfl⟩
        rw [hx] at o0 a1 a3
        rw [hy] at o1 a3
        have HU := Lib.hid (hup x hx y a3)
        have hyb : y ≤ (qOut n2 qn q sh).length := by
          rw [a3]
          unfold cnt
          have := List.length_filter_le (fun z : Nat × Nat => z.1 == x) ((qOut n2 qn q sh).take j)
          have := List.length_take_le j (qOut n2 qn q sh)
          omega
        obtain ⟨kb, fb⟩ := blk hg
        have p0 : wr.cell? ⟨w4.heap.size, x, none⟩ = some (.int .i64 (y : Int)) := by rw [kb, rowI_at a1, a3]
        have f0 := fb x
        have ey : IntKind.i64.wrap ((y : Int) + 1) = (y : Int) + 1 := IntWalk.i64_in _ (by omega)
        have hdx : decide (n2 ≤ x) = false := by simp; omega
        have hdx0 : decide ((x : Int) < 0) = false := by simp
        have hdx1 : decide ((n2 : Int) ≤ (x : Int)) = false := by simp; omega
        have hg4 : w4.heap.size < wr.heap.size := hgl
        clear hr hco a3 hup hx hy kb fb
        go_upto_region 13 with (fail)
        refine wp_region_still (ds := [(0, 45), (1, 46), (2, 47), (3, 48), (4, 49), (5, 50), (6, 51), (7, 52), (8, 53), (9, 54), (10, 55), (11, 56), (12, 57), (13, 58), (14, 59), (15, 60), (16, 61), (17, 62), (18, 63), (19, 64), (20, 65), (21, 66), (22, 67), (23, 68), (24, 69), (25, 70), (26, 71), (27, 72), (28, 73), (29, 74), (30, 75), (31, 76)]) 32 (by kernel_rfl) (by kernel_rfl) (by first | exact .inl rfl | exact .inr (by kernel_rfl)) (by rfl) rfl rfl ?_
        apply still_cons
        · intro a' w' hLe hfr hdep
          have e5 := hfr 5 rfl
          conv at e5 => rhs; whnf
          have f5 := e5; simp only [Array.getD_eq_getD_getElem?] at f5
          refine wpOp_plain rfl rfl (fun K hK => ?_)
          go_simp
          exact hK _ _ ⟨rfl, Below.refl _ _⟩
        apply still_cons
        · intro a' w' hLe hfr hdep
          have e7 := hfr 7 rfl
          conv at e7 => rhs; whnf
          have f7 := e7; simp only [Array.getD_eq_getD_getElem?] at f7
          refine wpOp_plain rfl rfl (fun K hK => ?_)
          go_simp
          exact hK _ _ ⟨rfl, Below.refl _ _⟩
        apply still_cons
        · intro a' w' hLe hfr hdep
          have e45 := hdep 0 45 (Nat.le_of_ble_eq_true rfl) rfl rfl
          conv at e45 => rhs; whnf
          have f45 := e45; simp only [Array.getD_eq_getD_getElem?] at f45
          have e46 := hdep 1 46 (Nat.le_of_ble_eq_true rfl) rfl rfl
          conv at e46 => rhs; whnf
          have f46 := e46; simp only [Array.getD_eq_getD_getElem?] at f46
          refine wpOp_plain rfl rfl (fun K hK => ?_)
          go_simp
          exact hK _ _ ⟨rfl, Below.refl _ _⟩
        apply still_cons
        · intro a' w' hLe hfr hdep
          have e47 := hdep 2 47 (Nat.le_of_ble_eq_true rfl) rfl rfl
          conv at e47 => rhs; whnf
          have f47 := e47; simp only [Array.getD_eq_getD_getElem?] at f47
          refine wpOp_plain rfl rfl (fun K hK => ?_)
          go_simp
          exact hK _ _ ⟨rfl, Below.refl _ _⟩
        apply still_cons
        · intro a' w' hLe hfr hdep
          have e48 := hdep 3 48 (Nat.le_of_ble_eq_true rfl) rfl rfl
          conv at e48 => rhs; whnf
          have f48 := e48; simp only [Array.getD_eq_getD_getElem?] at f48
          have kc := fun i => keepc hLe (bo) (by (try simp) <;> omega) i
          have kf := fun i => keepf hLe (bo) (by (try simp) <;> omega) i
          have kc := fun i => keepc hLe (w4.heap.size) (by (try simp) <;> omega) i
          have kf := fun i => keepf hLe (w4.heap.size) (by (try simp) <;> omega) i
          refine wpOp_plain rfl rfl (fun K hK => ?_)
          go_simp
          exact hK _ _ ⟨rfl, Below.refl _ _⟩
        apply still_cons
        · intro a' w' hLe hfr hdep
          have e49 := hdep 4 49 (Nat.le_of_ble_eq_true rfl) rfl rfl
          conv at e49 => rhs; whnf
          have f49 := e49; simp only [Array.getD_eq_getD_getElem?] at f49
          refine wpOp_plain rfl rfl (fun K hK => ?_)
          go_simp
          exact hK _ _ ⟨rfl, Below.refl _ _⟩
        apply still_cons
        · intro a' w' hLe hfr hdep
          have e50 := hdep 5 50 (Nat.le_of_ble_eq_true rfl) rfl rfl
          conv at e50 => rhs; whnf
          have f50 := e50; simp only [Array.getD_eq_getD_getElem?] at f50
          refine wpOp_plain rfl rfl (fun K hK => ?_)
          go_simp
          exact hK _ _ ⟨rfl, Below.refl _ _⟩
        apply still_cons
        · intro a' w' hLe hfr hdep
          have e51 := hdep 6 51 (Nat.le_of_ble_eq_true rfl) rfl rfl
          conv at e51 => rhs; whnf
          have f51 := e51; simp only [Array.getD_eq_getD_getElem?] at f51
          have e5 := hfr 5 rfl
          conv at e5 => rhs; whnf
          have f5 := e5; simp only [Array.getD_eq_getD_getElem?] at f5
          refine wpOp_yes rfl rfl rfl e51 (fun K hK => ?_)
          go_simp
          exact hK _ _ ⟨rfl, Below.refl _ _⟩
        apply still_cons
        · intro a' w' hLe hfr hdep
          have e51 := hdep 6 51 (Nat.le_of_ble_eq_true rfl) rfl rfl
          conv at e51 => rhs; whnf
          have f51 := e51; simp only [Array.getD_eq_getD_getElem?] at f51
          have e7 := hfr 7 rfl
          conv at e7 => rhs; whnf
          have f7 := e7; simp only [Array.getD_eq_getD_getElem?] at f7
          refine wpOp_yes rfl rfl rfl e51 (fun K hK => ?_)
          go_simp
          exact hK _ _ ⟨rfl, Below.refl _ _⟩
        apply still_cons
        · intro a' w' hLe hfr hdep
          have e51 := hdep 6 51 (Nat.le_of_ble_eq_true rfl) rfl rfl
          conv at e51 => rhs; whnf
          have f51 := e51; simp only [Array.getD_eq_getD_getElem?] at f51
          have e52 := hdep 7 52 (Nat.le_of_ble_eq_true rfl) rfl rfl
          conv at e52 => rhs; whnf
          have f52 := e52; simp only [Array.getD_eq_getD_getElem?] at f52
          have e53 := hdep 8 53 (Nat.le_of_ble_eq_true rfl) rfl rfl
          conv at e53 => rhs; whnf
          have f53 := e53; simp only [Array.getD_eq_getD_getElem?] at f53
          refine wpOp_yes rfl rfl rfl e51 (fun K hK => ?_)
          go_simp
          exact hK _ _ ⟨rfl, Below.refl _ _⟩
        apply still_cons
        · intro a' w' hLe hfr hdep
          have e51 := hdep 6 51 (Nat.le_of_ble_eq_true rfl) rfl rfl
          conv at e51 => rhs; whnf
          have f51 := e51; simp only [Array.getD_eq_getD_getElem?] at f51
          have e54 := hdep 9 54 (Nat.le_of_ble_eq_true rfl) rfl rfl
          conv at e54 => rhs; whnf
          have f54 := e54; simp only [Array.getD_eq_getD_getElem?] at f54
          refine wpOp_yes rfl rfl rfl e51 (fun K hK => ?_)
          go_simp
          exact hK _ _ ⟨rfl, Below.refl _ _⟩
        apply still_cons
        · intro a' w' hLe hfr hdep
          have e51 := hdep 6 51 (Nat.le_of_ble_eq_true rfl) rfl rfl
          conv at e51 => rhs; whnf
          have f51 := e51; simp only [Array.getD_eq_getD_getElem?] at f51
          have e55 := hdep 10 55 (Nat.le_of_ble_eq_true rfl) rfl rfl
          conv at e55 => rhs; whnf
          have f55 := e55; simp only [Array.getD_eq_getD_getElem?] at f55
          have kc := fun i => keepc hLe (bo) (by (try simp) <;> omega) i
          have kf := fun i => keepf hLe (bo) (by (try simp) <;> omega) i
          have kc := fun i => keepc hLe (w4.heap.size) (by (try simp) <;> omega) i
          have kf := fun i => keepf hLe (w4.heap.size) (by (try simp) <;> omega) i
          refine wpOp_yes rfl rfl rfl e51 (fun K hK => ?_)
          go_simp
          exact hK _ _ ⟨rfl, Below.refl _ _⟩
        apply still_cons
        · intro a' w' hLe hfr hdep
          have e51 := hdep 6 51 (Nat.le_of_ble_eq_true rfl) rfl rfl
          conv at e51 => rhs; whnf
          have f51 := e51; simp only [Array.getD_eq_getD_getElem?] at f51
          have e3 := hfr 3 rfl
          conv at e3 => rhs; whnf
          have f3 := e3; simp only [Array.getD_eq_getD_getElem?] at f3
          refine wpOp_yes rfl rfl rfl e51 (fun K hK => ?_)
          go_simp
          exact hK _ _ ⟨rfl, Below.refl _ _⟩
        apply still_cons
        · intro a' w' hLe hfr hdep
          have e51 := hdep 6 51 (Nat.le_of_ble_eq_true rfl) rfl rfl
          conv at e51 => rhs; whnf
          have f51 := e51; simp only [Array.getD_eq_getD_getElem?] at f51
          have e57 := hdep 12 57 (Nat.le_of_ble_eq_true rfl) rfl rfl
          conv at e57 => rhs; whnf
          have f57 := e57; simp only [Array.getD_eq_getD_getElem?] at f57
          refine wpOp_yes rfl rfl rfl e51 (fun K hK => ?_)
          go_simp
          exact hK _ _ ⟨rfl, Below.refl _ _⟩
        apply still_cons
        · intro a' w' hLe hfr hdep
          have e51 := hdep 6 51 (Nat.le_of_ble_eq_true rfl) rfl rfl
          conv at e51 => rhs; whnf
          have f51 := e51; simp only [Array.getD_eq_getD_getElem?] at f51
          have e56 := hdep 11 56 (Nat.le_of_ble_eq_true rfl) rfl rfl
          conv at e56 => rhs; whnf
          have f56 := e56; simp only [Array.getD_eq_getD_getElem?] at f56
          have e58 := hdep 13 58 (Nat.le_of_ble_eq_true rfl) rfl rfl
          conv at e58 => rhs; whnf
          have f58 := e58; simp only [Array.getD_eq_getD_getElem?] at f58
          refine wpOp_yes rfl rfl rfl e51 (fun K hK => ?_)
          go_simp
          exact hK _ _ ⟨rfl, Below.refl _ _⟩
        apply still_cons
        · intro a' w' hLe hfr hdep
          have e51 := hdep 6 51 (Nat.le_of_ble_eq_true rfl) rfl rfl
          conv at e51 => rhs; whnf
          have f51 := e51; simp only [Array.getD_eq_getD_getElem?] at f51
          have e59 := hdep 14 59 (Nat.le_of_ble_eq_true rfl) rfl rfl
          conv at e59 => rhs; whnf
          have f59 := e59; simp only [Array.getD_eq_getD_getElem?] at f59
          refine wpOp_plain rfl rfl (fun K hK => ?_)
          go_simp
          exact hK _ _ ⟨rfl, Below.refl _ _⟩
        apply still_cons
        · intro a' w' hLe hfr hdep
          have e60 := hdep 15 60 (Nat.le_of_ble_eq_true rfl) rfl rfl
          conv at e60 => rhs; whnf
          have f60 := e60; simp only [Array.getD_eq_getD_getElem?] at f60
          refine wpOp_plain rfl rfl (fun K hK => ?_)
          go_simp
          exact hK _ _ ⟨rfl, Below.refl _ _⟩
        apply still_cons
        · intro a' w' hLe hfr hdep
          have e61 := hdep 16 61 (Nat.le_of_ble_eq_true rfl) rfl rfl
          conv at e61 => rhs; whnf
          have f61 := e61; simp only [Array.getD_eq_getD_getElem?] at f61
          have e5 := hfr 5 rfl
          conv at e5 => rhs; whnf
          have f5 := e5; simp only [Array.getD_eq_getD_getElem?] at f5
          refine wpOp_yes rfl rfl rfl e61 (fun K hK => ?_)
          go_simp
          exact hK _ _ ⟨rfl, Below.refl _ _⟩
        apply still_cons
        · intro a' w' hLe hfr hdep
          have e61 := hdep 16 61 (Nat.le_of_ble_eq_true rfl) rfl rfl
          conv at e61 => rhs; whnf
          have f61 := e61; simp only [Array.getD_eq_getD_getElem?] at f61
          have e7 := hfr 7 rfl
          conv at e7 => rhs; whnf
          have f7 := e7; simp only [Array.getD_eq_getD_getElem?] at f7
          refine wpOp_yes rfl rfl rfl e61 (fun K hK => ?_)
          go_simp
          exact hK _ _ ⟨rfl, Below.refl _ _⟩
        apply still_cons
        · intro a' w' hLe hfr hdep
          have e61 := hdep 16 61 (Nat.le_of_ble_eq_true rfl) rfl rfl
          conv at e61 => rhs; whnf
          have f61 := e61; simp only [Array.getD_eq_getD_getElem?] at f61
          have e62 := hdep 17 62 (Nat.le_of_ble_eq_true rfl) rfl rfl
          conv at e62 => rhs; whnf
          have f62 := e62; simp only [Array.getD_eq_getD_getElem?] at f62
          have e63 := hdep 18 63 (Nat.le_of_ble_eq_true rfl) rfl rfl
          conv at e63 => rhs; whnf
          have f63 := e63; simp only [Array.getD_eq_getD_getElem?] at f63
          refine wpOp_yes rfl rfl rfl e61 (fun K hK => ?_)
          go_simp
          exact hK _ _ ⟨rfl, Below.refl _ _⟩
        apply still_cons
        · intro a' w' hLe hfr hdep
          have e61 := hdep 16 61 (Nat.le_of_ble_eq_true rfl) rfl rfl
          conv at e61 => rhs; whnf
          have f61 := e61; simp only [Array.getD_eq_getD_getElem?] at f61
          have e64 := hdep 19 64 (Nat.le_of_ble_eq_true rfl) rfl rfl
          conv at e64 => rhs; whnf
          have f64 := e64; simp only [Array.getD_eq_getD_getElem?] at f64
          refine wpOp_yes rfl rfl rfl e61 (fun K hK => ?_)
          go_simp
          exact hK _ _ ⟨rfl, Below.refl _ _⟩
        apply still_cons
        · intro a' w' hLe hfr hdep
          have e61 := hdep 16 61 (Nat.le_of_ble_eq_true rfl) rfl rfl
          conv at e61 => rhs; whnf
          have f61 := e61; simp only [Array.getD_eq_getD_getElem?] at f61
          have e65 := hdep 20 65 (Nat.le_of_ble_eq_true rfl) rfl rfl
          conv at e65 => rhs; whnf
          have f65 := e65; simp only [Array.getD_eq_getD_getElem?] at f65
          have kc := fun i => keepc hLe (bo) (by (try simp) <;> omega) i
          have kf := fun i => keepf hLe (bo) (by (try simp) <;> omega) i
          have kc := fun i => keepc hLe (w4.heap.size) (by (try simp) <;> omega) i
          have kf := fun i => keepf hLe (w4.heap.size) (by (try simp) <;> omega) i
          refine wpOp_yes rfl rfl rfl e61 (fun K hK => ?_)
          go_simp
          exact hK _ _ ⟨rfl, Below.refl _ _⟩
        apply still_cons
        · intro a' w' hLe hfr hdep
          have e61 := hdep 16 61 (Nat.le_of_ble_eq_true rfl) rfl rfl
          conv at e61 => rhs; whnf
          have f61 := e61; simp only [Array.getD_eq_getD_getElem?] at f61
          have e6 := hfr 6 rfl
          conv at e6 => rhs; whnf
          have f6 := e6; simp only [Array.getD_eq_getD_getElem?] at f6
          refine wpOp_yes rfl rfl rfl e61 (fun K hK => ?_)
          go_simp
          exact hK _ _ ⟨rfl, Below.refl _ _⟩
        apply still_cons
        · intro a' w' hLe hfr hdep
          have e61 := hdep 16 61 (Nat.le_of_ble_eq_true rfl) rfl rfl
          conv at e61 => rhs; whnf
          have f61 := e61; simp only [Array.getD_eq_getD_getElem?] at f61
          have e5 := hfr 5 rfl
          conv at e5 => rhs; whnf
          have f5 := e5; simp only [Array.getD_eq_getD_getElem?] at f5
          refine wpOp_yes rfl rfl rfl e61 (fun K hK => ?_)
          go_simp
          exact hK _ _ ⟨rfl, Below.refl _ _⟩
        apply still_cons
        · intro a' w' hLe hfr hdep
          have e61 := hdep 16 61 (Nat.le_of_ble_eq_true rfl) rfl rfl
          conv at e61 => rhs; whnf
          have f61 := e61; simp only [Array.getD_eq_getD_getElem?] at f61
          have e7 := hfr 7 rfl
          conv at e7 => rhs; whnf
          have f7 := e7; simp only [Array.getD_eq_getD_getElem?] at f7
          refine wpOp_yes rfl rfl rfl e61 (fun K hK => ?_)
          go_simp
          exact hK _ _ ⟨rfl, Below.refl _ _⟩
        apply still_cons
        · intro a' w' hLe hfr hdep
          have e61 := hdep 16 61 (Nat.le_of_ble_eq_true rfl) rfl rfl
          conv at e61 => rhs; whnf
          have f61 := e61; simp only [Array.getD_eq_getD_getElem?] at f61
          have e68 := hdep 23 68 (Nat.le_of_ble_eq_true rfl) rfl rfl
          conv at e68 => rhs; whnf
          have f68 := e68; simp only [Array.getD_eq_getD_getElem?] at f68
          have e69 := hdep 24 69 (Nat.le_of_ble_eq_true rfl) rfl rfl
          conv at e69 => rhs; whnf
          have f69 := e69; simp only [Array.getD_eq_getD_getElem?] at f69
          refine wpOp_yes rfl rfl rfl e61 (fun K hK => ?_)
          go_simp
          exact hK _ _ ⟨rfl, Below.refl _ _⟩
        apply still_cons
        · intro a' w' hLe hfr hdep
          have e61 := hdep 16 61 (Nat.le_of_ble_eq_true rfl) rfl rfl
          conv at e61 => rhs; whnf
          have f61 := e61; simp only [Array.getD_eq_getD_getElem?] at f61
          have e70 := hdep 25 70 (Nat.le_of_ble_eq_true rfl) rfl rfl
          conv at e70 => rhs; whnf
          have f70 := e70; simp only [Array.getD_eq_getD_getElem?] at f70
          refine wpOp_yes rfl rfl rfl e61 (fun K hK => ?_)
          go_simp
          exact hK _ _ ⟨rfl, Below.refl _ _⟩
        apply still_cons
        · intro a' w' hLe hfr hdep
          have e61 := hdep 16 61 (Nat.le_of_ble_eq_true rfl) rfl rfl
          conv at e61 => rhs; whnf
          have f61 := e61; simp only [Array.getD_eq_getD_getElem?] at f61
          have e71 := hdep 26 71 (Nat.le_of_ble_eq_true rfl) rfl rfl
          conv at e71 => rhs; whnf
          have f71 := e71; simp only [Array.getD_eq_getD_getElem?] at f71
          have kc := fun i => keepc hLe (bo) (by (try simp) <;> omega) i
          have kf := fun i => keepf hLe (bo) (by (try simp) <;> omega) i
          have kc := fun i => keepc hLe (w4.heap.size) (by (try simp) <;> omega) i
          have kf := fun i => keepf hLe (w4.heap.size) (by (try simp) <;> omega) i
          refine wpOp_yes rfl rfl rfl e61 (fun K hK => ?_)
          go_simp
          exact hK _ _ ⟨rfl, Below.refl _ _⟩
        apply still_cons
        · intro a' w' hLe hfr hdep
          have e61 := hdep 16 61 (Nat.le_of_ble_eq_true rfl) rfl rfl
          conv at e61 => rhs; whnf
          have f61 := e61; simp only [Array.getD_eq_getD_getElem?] at f61
          have e67 := hdep 22 67 (Nat.le_of_ble_eq_true rfl) rfl rfl
          conv at e67 => rhs; whnf
          have f67 := e67; simp only [Array.getD_eq_getD_getElem?] at f67
          have e72 := hdep 27 72 (Nat.le_of_ble_eq_true rfl) rfl rfl
          conv at e72 => rhs; whnf
          have f72 := e72; simp only [Array.getD_eq_getD_getElem?] at f72
          refine wpOp_yes rfl rfl rfl e61 (fun K hK => ?_)
          go_simp
          exact hK _ _ ⟨rfl, Below.refl _ _⟩
        apply still_cons
        · intro a' w' hLe hfr hdep
          have e61 := hdep 16 61 (Nat.le_of_ble_eq_true rfl) rfl rfl
          conv at e61 => rhs; whnf
          have f61 := e61; simp only [Array.getD_eq_getD_getElem?] at f61
          have e73 := hdep 28 73 (Nat.le_of_ble_eq_true rfl) rfl rfl
          conv at e73 => rhs; whnf
          have f73 := e73; simp only [Array.getD_eq_getD_getElem?] at f73
          have kc := fun i => keepc hLe (bo) (by (try simp) <;> omega) i
          have kf := fun i => keepf hLe (bo) (by (try simp) <;> omega) i
          have kc := fun i => keepc hLe (w4.heap.size) (by (try simp) <;> omega) i
          have kf := fun i => keepf hLe (w4.heap.size) (by (try simp) <;> omega) i
          refine wpOp_yes rfl rfl rfl e61 (fun K hK => ?_)
          go_simp
          exact hK _ _ ⟨rfl, Below.refl _ _⟩
        apply still_cons
        · intro a' w' hLe hfr hdep
          have e61 := hdep 16 61 (Nat.le_of_ble_eq_true rfl) rfl rfl
          conv at e61 => rhs; whnf
          have f61 := e61; simp only [Array.getD_eq_getD_getElem?] at f61
          have e66 := hdep 21 66 (Nat.le_of_ble_eq_true rfl) rfl rfl
          conv at e66 => rhs; whnf
          have f66 := e66; simp only [Array.getD_eq_getD_getElem?] at f66
          have e74 := hdep 29 74 (Nat.le_of_ble_eq_true rfl) rfl rfl
          conv at e74 => rhs; whnf
          have f74 := e74; simp only [Array.getD_eq_getD_getElem?] at f74
          refine wpOp_yes rfl rfl rfl e61 (fun K hK => ?_)
          go_simp
          exact hK _ _ ⟨rfl, Below.refl _ _⟩
        apply still_cons
        · intro a' w' hLe hfr hdep
          have e61 := hdep 16 61 (Nat.le_of_ble_eq_true rfl) rfl rfl
          conv at e61 => rhs; whnf
          have f61 := e61; simp only [Array.getD_eq_getD_getElem?] at f61
          have e75 := hdep 30 75 (Nat.le_of_ble_eq_true rfl) rfl rfl
          conv at e75 => rhs; whnf
          have f75 := e75; simp only [Array.getD_eq_getD_getElem?] at f75
          refine wpOp_plain rfl rfl (fun K hK => ?_)
          go_simp
          exact hK _ _ ⟨rfl, Below.refl _ _⟩
        apply still_nil
        intro w13 hb13
        simp only [putAll, List.drop_succ_cons, List.drop_zero]
        go_simp
        have o0' := (keepc hb13 bo hbol (oo + j * 2)).trans o0
        have p0' := (keepc hb13 w4.heap.size hgl x).trans p0
        have hg13 := (hb13.block w4.heap.size hgl).trans hg
        have hs13 := hb13.size
        have hB13 := Below.tr hBj hb13
        clear o0 o1 p0 f0 hg hb13 hBj
        go_upto_region 15 with (fail)
        refine wp_region_still (ds := [(0, 77), (1, 78), (2, 79), (3, 80), (4, 81), (5, 82), (6, 83), (7, 84), (8, 85), (9, 86), (10, 87), (11, 88), (12, 89), (13, 90), (14, 91), (15, 92)]) 16 (by kernel_rfl) (by kernel_rfl) (by first | exact .inl rfl | exact .inr (by kernel_rfl)) (by rfl) rfl rfl ?_
        apply still_cons
        · intro a' w' hLe hfr hdep
          have e6 := hfr 6 rfl
          conv at e6 => rhs; whnf
          have f6 := e6; simp only [Array.getD_eq_getD_getElem?] at f6
          refine wpOp_plain rfl rfl (fun K hK => ?_)
          go_simp
          exact hK _ _ ⟨rfl, Below.refl _ _⟩
        apply still_cons
        · intro a' w' hLe hfr hdep
          have e5 := hfr 5 rfl
          conv at e5 => rhs; whnf
          have f5 := e5; simp only [Array.getD_eq_getD_getElem?] at f5
          refine wpOp_plain rfl rfl (fun K hK => ?_)
          go_simp
          exact hK _ _ ⟨rfl, Below.refl _ _⟩
        apply still_cons
        · intro a' w' hLe hfr hdep
          have e7 := hfr 7 rfl
          conv at e7 => rhs; whnf
          have f7 := e7; simp only [Array.getD_eq_getD_getElem?] at f7
          refine wpOp_plain rfl rfl (fun K hK => ?_)
          go_simp
          exact hK _ _ ⟨rfl, Below.refl _ _⟩
        apply still_cons
        · intro a' w' hLe hfr hdep
          have e78 := hdep 1 78 (Nat.le_of_ble_eq_true rfl) rfl rfl
          conv at e78 => rhs; whnf
          have f78 := e78; simp only [Array.getD_eq_getD_getElem?] at f78
          have e79 := hdep 2 79 (Nat.le_of_ble_eq_true rfl) rfl rfl
          conv at e79 => rhs; whnf
          have f79 := e79; simp only [Array.getD_eq_getD_getElem?] at f79
          refine wpOp_plain rfl rfl (fun K hK => ?_)
          go_simp
          exact hK _ _ ⟨rfl, Below.refl _ _⟩
        apply still_cons
        · intro a' w' hLe hfr hdep
          have e80 := hdep 3 80 (Nat.le_of_ble_eq_true rfl) rfl rfl
          conv at e80 => rhs; whnf
          have f80 := e80; simp only [Array.getD_eq_getD_getElem?] at f80
          refine wpOp_plain rfl rfl (fun K hK => ?_)
          go_simp
          exact hK _ _ ⟨rfl, Below.refl _ _⟩
        apply still_cons
        · intro a' w' hLe hfr hdep
          have e81 := hdep 4 81 (Nat.le_of_ble_eq_true rfl) rfl rfl
          conv at e81 => rhs; whnf
          have f81 := e81; simp only [Array.getD_eq_getD_getElem?] at f81
          have kc := fun i => keepc hLe (bo) (by (try simp) <;> omega) i
          have kf := fun i => keepf hLe (bo) (by (try simp) <;> omega) i
          have kc := fun i => keepc hLe (w4.heap.size) (by (try simp) <;> omega) i
          have kf := fun i => keepf hLe (w4.heap.size) (by (try simp) <;> omega) i
          refine wpOp_plain rfl rfl (fun K hK => ?_)
          go_simp
          exact hK _ _ ⟨rfl, Below.refl _ _⟩
        apply still_cons
        · intro a' w' hLe hfr hdep
          have e6 := hfr 6 rfl
          conv at e6 => rhs; whnf
          have f6 := e6; simp only [Array.getD_eq_getD_getElem?] at f6
          refine wpOp_plain rfl rfl (fun K hK => ?_)
          go_simp
          exact hK _ _ ⟨rfl, Below.refl _ _⟩
        apply still_cons
        · intro a' w' hLe hfr hdep
          have e5 := hfr 5 rfl
          conv at e5 => rhs; whnf
          have f5 := e5; simp only [Array.getD_eq_getD_getElem?] at f5
          refine wpOp_plain rfl rfl (fun K hK => ?_)
          go_simp
          exact hK _ _ ⟨rfl, Below.refl _ _⟩
        apply still_cons
        · intro a' w' hLe hfr hdep
          have e7 := hfr 7 rfl
          conv at e7 => rhs; whnf
          have f7 := e7; simp only [Array.getD_eq_getD_getElem?] at f7
          refine wpOp_plain rfl rfl (fun K hK => ?_)
          go_simp
          exact hK _ _ ⟨rfl, Below.refl _ _⟩
        apply still_cons
        · intro a' w' hLe hfr hdep
          have e84 := hdep 7 84 (Nat.le_of_ble_eq_true rfl) rfl rfl
          conv at e84 => rhs; whnf
          have f84 := e84; simp only [Array.getD_eq_getD_getElem?] at f84
          have e85 := hdep 8 85 (Nat.le_of_ble_eq_true rfl) rfl rfl
          conv at e85 => rhs; whnf
          have f85 := e85; simp only [Array.getD_eq_getD_getElem?] at f85
          refine wpOp_plain rfl rfl (fun K hK => ?_)
          go_simp
          exact hK _ _ ⟨rfl, Below.refl _ _⟩
        apply still_cons
        · intro a' w' hLe hfr hdep
          have e86 := hdep 9 86 (Nat.le_of_ble_eq_true rfl) rfl rfl
          conv at e86 => rhs; whnf
          have f86 := e86; simp only [Array.getD_eq_getD_getElem?] at f86
          refine wpOp_plain rfl rfl (fun K hK => ?_)
          go_simp
          exact hK _ _ ⟨rfl, Below.refl _ _⟩
        apply still_cons
        · intro a' w' hLe hfr hdep
          have e87 := hdep 10 87 (Nat.le_of_ble_eq_true rfl) rfl rfl
          conv at e87 => rhs; whnf
          have f87 := e87; simp only [Array.getD_eq_getD_getElem?] at f87
          have kc := fun i => keepc hLe (bo) (by (try simp) <;> omega) i
          have kf := fun i => keepf hLe (bo) (by (try simp) <;> omega) i
          have kc := fun i => keepc hLe (w4.heap.size) (by (try simp) <;> omega) i
          have kf := fun i => keepf hLe (w4.heap.size) (by (try simp) <;> omega) i
          refine wpOp_plain rfl rfl (fun K hK => ?_)
          go_simp
          exact hK _ _ ⟨rfl, Below.refl _ _⟩
        apply still_cons
        · intro a' w' hLe hfr hdep
          have e83 := hdep 6 83 (Nat.le_of_ble_eq_true rfl) rfl rfl
          conv at e83 => rhs; whnf
          have f83 := e83; simp only [Array.getD_eq_getD_getElem?] at f83
          have e88 := hdep 11 88 (Nat.le_of_ble_eq_true rfl) rfl rfl
          conv at e88 => rhs; whnf
          have f88 := e88; simp only [Array.getD_eq_getD_getElem?] at f88
          refine wpOp_plain rfl rfl (fun K hK => ?_)
          go_simp
          exact hK _ _ ⟨rfl, Below.refl _ _⟩
        apply still_cons
        · intro a' w' hLe hfr hdep
          have e89 := hdep 12 89 (Nat.le_of_ble_eq_true rfl) rfl rfl
          conv at e89 => rhs; whnf
          have f89 := e89; simp only [Array.getD_eq_getD_getElem?] at f89
          have kc := fun i => keepc hLe (bo) (by (try simp) <;> omega) i
          have kf := fun i => keepf hLe (bo) (by (try simp) <;> omega) i
          have kc := fun i => keepc hLe (w4.heap.size) (by (try simp) <;> omega) i
          have kf := fun i => keepf hLe (w4.heap.size) (by (try simp) <;> omega) i
          refine wpOp_plain rfl rfl (fun K hK => ?_)
          go_simp
          exact hK _ _ ⟨rfl, Below.refl _ _⟩
        apply still_cons
        · intro a' w' hLe hfr hdep
          have e90 := hdep 13 90 (Nat.le_of_ble_eq_true rfl) rfl rfl
          conv at e90 => rhs; whnf
          have f90 := e90; simp only [Array.getD_eq_getD_getElem?] at f90
          refine wpOp_plain rfl rfl (fun K hK => ?_)
          go_simp
          exact hK _ _ ⟨rfl, Below.refl _ _⟩
        apply still_cons
        · intro a' w' hLe hfr hdep
          have e77 := hdep 0 77 (Nat.le_of_ble_eq_true rfl) rfl rfl
          conv at e77 => rhs; whnf
          have f77 := e77; simp only [Array.getD_eq_getD_getElem?] at f77
          have e82 := hdep 5 82 (Nat.le_of_ble_eq_true rfl) rfl rfl
          conv at e82 => rhs; whnf
          have f82 := e82; simp only [Array.getD_eq_getD_getElem?] at f82
          refine wpOp_plain rfl rfl (fun K hK => ?_)
          go_simp
          exact hK _ _ ⟨rfl, Below.refl _ _⟩
        apply still_nil
        intro w15 hb15
        simp only [putAll, List.drop_succ_cons, List.drop_zero]
        go_simp
        have hg15 := (hb15.block w4.heap.size (by omega)).trans hg13
        have p15 := (keepc hb15 w4.heap.size (by omega) x).trans p0'
        have f15 := (blk hg15).2 x
        have hB15 := Below.tr hB13 hb15
        clear o0' p0' hg13 hB13 hb15
        go_wp2
        go_roundw
        case rel =>
          have hset := heap_setCell_same w15 w4.heap.size x _ _ (.int .i64 ((y : Int) + 1)) hg15
          rw [rowI_set, HU.out] at hset
          exact ⟨j + 1, by omega, by go_num, hset, Below.st hB15 (by simp) _⟩
        case measure => simp [intOf]; omega
      · have hje : j = (qOut n2 qn q sh).length := by omega
        rw [hje, List.take_of_length_le (Nat.le_refl _)] at hg
        clear hje
        go_wp2_with fail
        obtain ⟨wo, rfl⟩ : ∃ wo : World, wo = wr := ⟨_, rfl⟩
        go_loopw [8] (fun i wi => ∃ k : Nat, k ≤ n2 ∧ i = .int .i64 k ∧ Below wo.heap.size wo wi) (fun i _ => n2 - (intOf i).toNat)
        case atStart => exact ⟨0, by omega, rfl, Below.refl _ _⟩
        case round =>
          obtain ⟨k, hk, rfl, hBk⟩ := hrel
          by_cases hkn : k < n2
          · obtain ⟨bl, off, rfl, hbl, hc⟩ := hRow.out (by omega)
            have hr := hc k hkn
            rw [Nat.mul_one] at hr
            have hB4k := Below.tr hBj hBk
            have hs4 := hBj.size
            have hsk := hBk.size
            have hbll : bl < wr.heap.size := by omega
            have hgkl : w4.heap.size < wr.heap.size := by omega
            have q0 : wr.cell? ⟨bl, off + k, none⟩ = some (.slice (QA k) (qn k) (qc k)) := (keepc hB4k bl (by omega) _).trans (hr 0 _ rfl)
            have p0 : wr.cell? ⟨w4.heap.size, k, none⟩ = some (.int .i64 (qn k : Nat)) := by rw [keepc hBk w4.heap.size hgl, (blk hg).1, rowI_at hkn, hfacts.out.2.1 k hkn]
            have hqc := hI.out k hkn
            unfold maxLen at hqc
            clear hr hc hB4k
            generalize QA k = Ak at *
            generalize qc k = ck at *
            go_upto_region 19 with (fail)
            refine wp_region_still (ds := [(0, 99), (1, 100), (2, 101), (3, 102), (4, 103), (5, 104), (6, 105), (7, 106), (8, 107), (9, 108)]) 10 (by kernel_rfl) (by kernel_rfl) (by first | exact .inl rfl | exact .inr (by kernel_rfl)) (by rfl) rfl rfl ?_
            apply still_cons
            · intro a' w' hLe hfr hdep
              have e6 := hfr 6 rfl
              conv at e6 => rhs; whnf
              have f6 := e6; simp only [Array.getD_eq_getD_getElem?] at f6
              refine wpOp_plain rfl rfl (fun K hK => ?_)
              go_simp
              exact hK _ _ ⟨rfl, Below.refl _ _⟩
            apply still_cons
            · intro a' w' hLe hfr hdep
              have e8 := hfr 8 rfl
              conv at e8 => rhs; whnf
              have f8 := e8; simp only [Array.getD_eq_getD_getElem?] at f8
              refine wpOp_plain rfl rfl (fun K hK => ?_)
              go_simp
              exact hK _ _ ⟨rfl, Below.refl _ _⟩
            apply still_cons
            · intro a' w' hLe hfr hdep
              have e99 := hdep 0 99 (Nat.le_of_ble_eq_true rfl) rfl rfl
              conv at e99 => rhs; whnf
              have f99 := e99; simp only [Array.getD_eq_getD_getElem?] at f99
              have e100 := hdep 1 100 (Nat.le_of_ble_eq_true rfl) rfl rfl
              conv at e100 => rhs; whnf
              have f100 := e100; simp only [Array.getD_eq_getD_getElem?] at f100
              refine wpOp_plain rfl rfl (fun K hK => ?_)
              go_simp
              exact hK _ _ ⟨rfl, Below.refl _ _⟩
            apply still_cons
            · intro a' w' hLe hfr hdep
              have e101 := hdep 2 101 (Nat.le_of_ble_eq_true rfl) rfl rfl
              conv at e101 => rhs; whnf
              have f101 := e101; simp only [Array.getD_eq_getD_getElem?] at f101
              have kc := fun i => keepc hLe (bl) (by (try simp) <;> omega) i
              have kf := fun i => keepf hLe (bl) (by (try simp) <;> omega) i
              have kc := fun i => keepc hLe (w4.heap.size) (by (try simp) <;> omega) i
              have kf := fun i => keepf hLe (w4.heap.size) (by (try simp) <;> omega) i
              refine wpOp_plain rfl rfl (fun K hK => ?_)
              go_simp
              exact hK _ _ ⟨rfl, Below.refl _ _⟩
            apply still_cons
            · intro a' w' hLe hfr hdep
              have e3 := hfr 3 rfl
              conv at e3 => rhs; whnf
              have f3 := e3; simp only [Array.getD_eq_getD_getElem?] at f3
              refine wpOp_plain rfl rfl (fun K hK => ?_)
              go_simp
              exact hK _ _ ⟨rfl, Below.refl _ _⟩
            apply still_cons
            · intro a' w' hLe hfr hdep
              have e8 := hfr 8 rfl
              conv at e8 => rhs; whnf
              have f8 := e8; simp only [Array.getD_eq_getD_getElem?] at f8
              refine wpOp_plain rfl rfl (fun K hK => ?_)
              go_simp
              exact hK _ _ ⟨rfl, Below.refl _ _⟩
            apply still_cons
            · intro a' w' hLe hfr hdep
              have e103 := hdep 4 103 (Nat.le_of_ble_eq_true rfl) rfl rfl
              conv at e103 => rhs; whnf
              have f103 := e103; simp only [Array.getD_eq_getD_getElem?] at f103
              have e104 := hdep 5 104 (Nat.le_of_ble_eq_true rfl) rfl rfl
              conv at e104 => rhs; whnf
              have f104 := e104; simp only [Array.getD_eq_getD_getElem?] at f104
              refine wpOp_plain rfl rfl (fun K hK => ?_)
              go_simp
              exact hK _ _ ⟨rfl, Below.refl _ _⟩
            apply still_cons
            · intro a' w' hLe hfr hdep
              have e105 := hdep 6 105 (Nat.le_of_ble_eq_true rfl) rfl rfl
              conv at e105 => rhs; whnf
              have f105 := e105; simp only [Array.getD_eq_getD_getElem?] at f105
              have kc := fun i => keepc hLe (bl) (by (try simp) <;> omega) i
              have kf := fun i => keepf hLe (bl) (by (try simp) <;> omega) i
              have kc := fun i => keepc hLe (w4.heap.size) (by (try simp) <;> omega) i
              have kf := fun i => keepf hLe (w4.heap.size) (by (try simp) <;> omega) i
              refine wpOp_plain rfl rfl (fun K hK => ?_)
              go_simp
              exact hK _ _ ⟨rfl, Below.refl _ _⟩
            apply still_cons
            · intro a' w' hLe hfr hdep
              have e106 := hdep 7 106 (Nat.le_of_ble_eq_true rfl) rfl rfl
              conv at e106 => rhs; whnf
              have f106 := e106; simp only [Array.getD_eq_getD_getElem?] at f106
              refine wpOp_plain rfl rfl (fun K hK => ?_)
              go_simp
              exact hK _ _ ⟨rfl, Below.refl _ _⟩
            apply still_cons
            · intro a' w' hLe hfr hdep
              have e102 := hdep 3 102 (Nat.le_of_ble_eq_true rfl) rfl rfl
              conv at e102 => rhs; whnf
              have f102 := e102; simp only [Array.getD_eq_getD_getElem?] at f102
              have e107 := hdep 8 107 (Nat.le_of_ble_eq_true rfl) rfl rfl
              conv at e107 => rhs; whnf
              have f107 := e107; simp only [Array.getD_eq_getD_getElem?] at f107
              refine wpOp_plain rfl rfl (fun K hK => ?_)
              go_simp
              exact hK _ _ ⟨rfl, Below.refl _ _⟩
            apply still_nil
            intro w19 hb19
            simp only [putAll, List.drop_succ_cons, List.drop_zero]
            go_simp
            have hB19 := Below.tr hBk hb19
            go_wp2
            go_roundw
            case rel => exact ⟨k + 1, by omega, by go_num, hB19⟩
            case measure => simp [intOf]; omega
          · obtain rfl : k = n2 := by omega
            go_wp2
            go_ret
            exact ⟨rfl, Below.tr (Below.tr hB4 hBj) hBk⟩
end Go.Proofs.Ytghmcedfiebolaa
