/-
  The law 'hidden screens never decide': its walk.
-/
import Derived.Test.YtcljfakpcecejaaHidM
import Derived.Test.YtcljfakpcecejaaHidS
import Derived.Test.YtcljfakpcecejaaScrE
namespace Go.Proofs.Ytcljfakpcecejaa
open Go.RowKit Go.Joins

theorem Bytes.next {w w' : World} {A : Option Addr} {n c : Nat} (h : Bytes w w.heap.size A n c) (hb : Below w.heap.size w w') : Bytes w' w'.heap.size A n c := by
  have h2 := h.keep (w' := w') fun p hp => hb.cell hp
  exact ⟨h2.1, fun hi => by
    obtain ⟨b, off, e, hlt, hx⟩ := h2.2 hi
    exact ⟨b, off, e, Nat.lt_of_lt_of_le hlt hb.size, hx⟩⟩
set_option maxHeartbeats 2000000 in
theorem sameInts_same {w : World} {B : Nat} {A A' : Option Addr} {n c c' : Nat} {c0 : Nat → Int} (h : Rws w B 1 A n c (intR c0)) (h' : Rws w B 1 A' n c' (intR c0)) (hB : B ≤ w.heap.size) :
    Calls Try.prog 30 #[.slice A n c, .slice A' n c'] w fun e w' => e = .returned (.bool true) ∧ Below w.heap.size w w' := by
  obtain ⟨⟨hnc, hcm⟩, hrow⟩ := h
  obtain ⟨⟨hnc', hcm'⟩, hrow'⟩ := h'
  unfold maxLen at hcm hcm'
  go_enter Try.func30, Try.ntmps30
  go_wp2
  go_loopw [5] (fun i wr => ∃ k : Nat, k ≤ n ∧ i = .int .i64 k ∧ Below w.heap.size w wr) (fun i _ => n - (intOf i).toNat)
  case atStart => exact ⟨0, by omega, rfl, by (repeat (first | exact Below.refl _ _ | assumption | refine Below.al ?_ _ | refine Below.dr ?_ | (refine Below.st ?_ (by simp <;> omega) _) | (refine Below.tr ?_ (by assumption))))⟩
  case round =>
    obtain ⟨k, hk, rfl, hBw⟩ := hrel
    by_cases hlt : k < n
    · obtain ⟨b, off, rfl, hbB, hc⟩ := hrow (by omega)
      obtain ⟨b', off', rfl, hbB', hc'⟩ := hrow' (by omega)
      have hr := hc k hlt
      rw [Nat.mul_one] at hr
      have hr' := hc' k hlt
      rw [Nat.mul_one] at hr'
      have hbs : b < wr.heap.size := by have := hBw.size; omega
      have hbs' : b' < wr.heap.size := by have := hBw.size; omega
      have q0 : wr.cell? ⟨b, off + k, none⟩ = some (.int .i64 (c0 k)) := (keepc hBw b (by omega) _).trans (hr 0 _ rfl)
      have s0 : wr.cell? ⟨b', off' + k, none⟩ = some (.int .i64 (c0 k)) := (keepc hBw b' (by omega) _).trans (hr' 0 _ rfl)
      clear hrow hc hr hrow' hc' hr'
      go_upto_region 6 with (fail)
      refine wp_region_still (ds := [(0, 17), (1, 18), (2, 19), (3, 20), (4, 21), (5, 22), (6, 23), (7, 24), (8, 25)]) 9 (by kernel_rfl) (by kernel_rfl) (by first | exact .inl rfl | exact .inr (by kernel_rfl)) (by rfl) rfl rfl ?_
      apply still_cons
      · intro a' w' hLe hfr hdep
        have e0 := hfr 0 rfl
        conv at e0 => rhs; whnf
        have f0 := e0; simp only [Array.getD_eq_getD_getElem?] at f0
        refine wpOp_plain rfl rfl (fun K hK => ?_)
        go_simp
        exact hK _ _ ⟨rfl, Below.refl _ _⟩
      apply still_cons
      · intro a' w' hLe hfr hdep
        have e5 := hfr 5 rfl
        conv at e5 => rhs; whnf
        have f5 := e5; simp only [Array.getD_eq_getD_getElem?] at f5
        refine wpOp_plain rfl rfl (fun K hK => ?_)
        go_simp
        exact hK _ _ ⟨rfl, Below.refl _ _⟩
      apply still_cons
      · intro a' w' hLe hfr hdep
        have e17 := hdep 0 17 (Nat.le_of_ble_eq_true rfl) rfl rfl
        conv at e17 => rhs; whnf
        have f17 := e17; simp only [Array.getD_eq_getD_getElem?] at f17
        have e18 := hdep 1 18 (Nat.le_of_ble_eq_true rfl) rfl rfl
        conv at e18 => rhs; whnf
        have f18 := e18; simp only [Array.getD_eq_getD_getElem?] at f18
        refine wpOp_plain rfl rfl (fun K hK => ?_)
        go_simp
        exact hK _ _ ⟨rfl, Below.refl _ _⟩
      apply still_cons
      · intro a' w' hLe hfr hdep
        have e19 := hdep 2 19 (Nat.le_of_ble_eq_true rfl) rfl rfl
        conv at e19 => rhs; whnf
        have f19 := e19; simp only [Array.getD_eq_getD_getElem?] at f19
        have kc := fun i => keepc hLe (b) (by (try simp) <;> omega) i
        have kf := fun i => keepf hLe (b) (by (try simp) <;> omega) i
        have kc := fun i => keepc hLe (b') (by (try simp) <;> omega) i
        have kf := fun i => keepf hLe (b') (by (try simp) <;> omega) i
        refine wpOp_plain rfl rfl (fun K hK => ?_)
        go_simp
        exact hK _ _ ⟨rfl, Below.refl _ _⟩
      apply still_cons
      · intro a' w' hLe hfr hdep
        have e1 := hfr 1 rfl
        conv at e1 => rhs; whnf
        have f1 := e1; simp only [Array.getD_eq_getD_getElem?] at f1
        refine wpOp_plain rfl rfl (fun K hK => ?_)
        go_simp
        exact hK _ _ ⟨rfl, Below.refl _ _⟩
      apply still_cons
      · intro a' w' hLe hfr hdep
        have e5 := hfr 5 rfl
        conv at e5 => rhs; whnf
        have f5 := e5; simp only [Array.getD_eq_getD_getElem?] at f5
        refine wpOp_plain rfl rfl (fun K hK => ?_)
        go_simp
        exact hK _ _ ⟨rfl, Below.refl _ _⟩
      apply still_cons
      · intro a' w' hLe hfr hdep
        have e21 := hdep 4 21 (Nat.le_of_ble_eq_true rfl) rfl rfl
        conv at e21 => rhs; whnf
        have f21 := e21; simp only [Array.getD_eq_getD_getElem?] at f21
        have e22 := hdep 5 22 (Nat.le_of_ble_eq_true rfl) rfl rfl
        conv at e22 => rhs; whnf
        have f22 := e22; simp only [Array.getD_eq_getD_getElem?] at f22
        refine wpOp_plain rfl rfl (fun K hK => ?_)
        go_simp
        exact hK _ _ ⟨rfl, Below.refl _ _⟩
      apply still_cons
      · intro a' w' hLe hfr hdep
        have e23 := hdep 6 23 (Nat.le_of_ble_eq_true rfl) rfl rfl
        conv at e23 => rhs; whnf
        have f23 := e23; simp only [Array.getD_eq_getD_getElem?] at f23
        have kc := fun i => keepc hLe (b) (by (try simp) <;> omega) i
        have kf := fun i => keepf hLe (b) (by (try simp) <;> omega) i
        have kc := fun i => keepc hLe (b') (by (try simp) <;> omega) i
        have kf := fun i => keepf hLe (b') (by (try simp) <;> omega) i
        refine wpOp_plain rfl rfl (fun K hK => ?_)
        go_simp
        exact hK _ _ ⟨rfl, Below.refl _ _⟩
      apply still_cons
      · intro a' w' hLe hfr hdep
        have e20 := hdep 3 20 (Nat.le_of_ble_eq_true rfl) rfl rfl
        conv at e20 => rhs; whnf
        have f20 := e20; simp only [Array.getD_eq_getD_getElem?] at f20
        have e24 := hdep 7 24 (Nat.le_of_ble_eq_true rfl) rfl rfl
        conv at e24 => rhs; whnf
        have f24 := e24; simp only [Array.getD_eq_getD_getElem?] at f24
        refine wpOp_plain rfl rfl (fun K hK => ?_)
        go_simp
        exact hK _ _ ⟨rfl, Below.refl _ _⟩
      apply still_nil
      intro w1 hb1
      simp only [putAll, List.drop_succ_cons, List.drop_zero]
      go_simp
      go_wp2
      go_roundw
      case rel => exact ⟨k + 1, by omega, by go_num, Below.tr hBw hb1⟩
      case measure => simp [intOf]; omega
    · obtain rfl : k = n := by omega
      go_wp2
      go_ret
      exact ⟨rfl, hBw⟩
theorem info_screenH : (Try.prog.info? 31).map (fun i => (i.zero, i.size, i.bytes)) = some (some (.agg #[.int .i64 0, .int .i64 0, .int .i64 0, .int .i64 0, .int .i64 0, .bool false]), 6, 48) := by kernel_rfl
theorem not_num {p : Nat → Bool} {n q j : Nat} (hq : q < (numsTo p n).length) (hj : p j = false) : (numAt p n q == (j : Int)) = false := by
  have h2 : (numsTo p n)[q] ∈ numsTo p n := List.getElem_mem hq
  have h3 := (List.mem_filter.1 h2).2
  have h4 : numAt p n q = ((numsTo p n)[q] : Nat) := by simp [numAt, List.getD_eq_getElem?_getD, hq]
  rw [h4, beq_eq_false_iff_ne]
  intro e
  have e2 : (numsTo p n)[q] = j := by omega
  rw [e2, hj] at h3
  cases h3

set_option maxRecDepth 20000 in
set_option maxHeartbeats 16000000 in
theorem hiddenScreens_walk {w : World} {A A' : Option Addr} {n c n' c' : Nat} (h : Bytes w w.heap.size A n c) (h' : Bytes w w.heap.size A' n' c') :
    Calls Try.prog 9 #[.slice A n c, .slice A' n' c'] w (Truly w) := by
  by_cases hn : 1048576 < n
  · have hd : decide ((1048576 : Int) < (n : Int)) = true := by simp; omega
    go_enter Try.func9, Try.ntmps9
    go_wp2
    go_ret
    exact ⟨rfl, Below.refl _ _⟩
  by_cases hn' : 1048576 < n'
  · have hd : decide ((1048576 : Int) < (n : Int)) = false := by simp; omega
    have hd' : decide ((1048576 : Int) < (n' : Int)) = true := by simp; omega
    go_enter Try.func9, Try.ntmps9
    go_wp2
    go_ret
    exact ⟨rfl, Below.refl _ _⟩
  have hd : decide ((1048576 : Int) < (n : Int)) = false := by simp; omega
  have hd' : decide ((1048576 : Int) < (n' : Int)) = false := by simp; omega
  clear hn hn'
  go_enter Try.func9, Try.ntmps9
  go_wp2_with fail
  refine (drawHiddenScreens_any h).mono ?_
  rintro e w1 ⟨A1, nn, c1, R, rfl, hnn, hR, hO, hb⟩
  obtain ⟨b, k, l, hi, d, ps, rfl⟩ := screenR_of hR
  have H1 := Lib.hid hO.rows
  have hcc := hO.1
  have hnc := hO.2.1
  unfold maxLen at hcc
  have hb' := Bytes.next h' hb
  clear hR hO
  go_wp2_with fail
  refine (implHiddenScreens_any H1.out (Nat.le_refl _) (by omega)).mono ?_
  rintro e w2 ⟨A2, c2, rfl, hO2, hb2⟩
  have hs2 := hb2.size
  go_wp2_with fail
  refine (specHiddenScreens_any (H1.out.below hb2) hb2.size (by omega)).mono ?_
  rintro e w3 ⟨A3, c3, rfl, hO3, hb3⟩
  have hs3 := hb3.size
  have hB3 := Below.tr hb2 hb3
  have H2 := Lib.hid (hO2.next hb3).rows
  have H3 := Lib.hid hO3.rows
  clear hO2 hO3
  go_wp2_with fail
  refine (sameInts_same H2.out H3.out (Nat.le_refl _)).mono ?_
  rintro e w4 ⟨rfl, hb4⟩
  have hB4 := Below.tr hB3 hb4
  have H4 := Lib.hid (H2.out.below hb4)
  have hs4 := hb4.size
  clear H2 H3
  go_wp2_with fail
  refine (implScreensValid_any (H1.out.below hB4) hB4.size).mono ?_
  rintro e w5 ⟨rfl, hb5⟩
  have hB5 := Below.tr hB4 hb5
  have H5 := Lib.hid (H4.out.below (hb5.mono hs4))
  have hs5 := hb5.size
  have hs15 := hB5.size
  clear H4
  have hx5 := H5.out.1
  unfold maxLen at hx5
  cases hv : scsB nn b k l hi d with
  | false =>
    have hN : hidN nn b k l hi d = 0 := by simp [hidN, hv]
    rw [hN]
    go_wp2_with (go_at_call 18; refine (alive_any _).mono ?_; rintro e wa ⟨rfl, hba⟩)
    go_ret
    exact ⟨rfl, Below.tr hb (Below.tr hB5 (by (repeat (first | exact Below.refl _ _ | assumption | refine Below.al ?_ _ | refine Below.dr ?_ | (refine Below.st ?_ (by simp <;> omega) _) | (refine Below.tr ?_ (by assumption))))))⟩
  | true =>
    have hN : hidN nn b k l hi d = (numsTo (hidB b k l hi d) nn).length := by simp [hidN, hv]
    rw [hN] at hx5 ⊢
    have HX := Lib.hid (hN ▸ H5.out)
    have hHv := Lib.hid hv
    clear H5 hN hv
    have hle := numsTo_le (hidB b k l hi d) nn
    go_wp2_with fail
    refine (drawScreenFlow_any (hb'.next hB5)).mono ?_
    rintro e w6 ⟨A6, n6, c6, R6, f0, f1, f2, f3, f4, rfl, hn6, hR6, hO6, hb6⟩
    clear hn6 hR6 hO6 hb'
    have hs6 := hb6.size
    have hB6 := Below.tr hB5 hb6
    have hl6 := hB6.size
    go_wp2_with fail
    refine (implScreenFlow_any f0 f1 f2 f3 f4 (H1.out.below (hB6.alloc hl6 _)) (by simp; omega)).mono ?_
    rintro e w7 ⟨rfl, hb7⟩
    have hs7 := hb7.size
    simp at hs7
    have hB67 : Below w6.heap.size w6 w7 := (below_alloc1 w6 _).trans (hb7.mono (by simp))
    have hB57 : Below w5.heap.size w5 w7 := Below.tr hb6 hB67
    have hB7 : Below w1.heap.size w1 w7 := Below.tr hB6 hB67
    have kf7 : ∀ i, w7.cell? ⟨w6.heap.size, i, none⟩ = #[Value.int .i64 f0, .int .i64 f1, .int .i64 f2, .int .i64 f3, .int .i64 f4][i]? := fun i => (keepc hb7 w6.heap.size (by simp) i).trans ((blk (heap_alloc_new w6 _)).1 i)
    have hKs := fun (j : Nat) (hh : hidB b k l hi d j = true) => sfI_shown (n := nn) (f0 := f0) (f1 := f1) (f2 := f2) (f3 := f3) (f4 := f4) hh
    have hPs := sfP_sub (ps := ps) (f0 := f0) (f1 := f1) (f2 := f2) (f3 := f3) (f4 := f4) hHv.out
    generalize sfI nn (sfF nn b k l hi d f0 f1 f2 f3 f4) = K at *
    generalize sfP nn (sfF nn b k l hi d f0 f1 f2 f3 f4) ps = Q at *
    have HPs := Lib.hid hPs
    clear hPs hb7 hb6 hb5 hb4 hb3 hb2
    obtain ⟨N, hNe⟩ : ∃ N, N = (numsTo (hidB b k l hi d) nn).length := ⟨_, rfl⟩
    rw [← hNe] at HX hx5 hle ⊢
    have HN := Lib.hid hNe
    clear hNe
    have hP0 : Acc (w7.alloc (.cells #[] 31)) w7.heap.size 31 6 (.slice (some ⟨w7.heap.size, 0, none⟩) 0 0) 0 (screenR (sub nn b k l hi d b) (sub nn b k l hi d k) (sub nn b k l hi d l) (sub nn b k l hi d hi) (sub nn b k l hi d d) (sub nn b k l hi d ps)) := Acc.made w7 _ _ (fun _ => rfl) (Nat.le_refl _)
    go_wp2_with fail
    go_loopw [11, 12, 13] (fun v t i wr => ∃ j : Nat, j ≤ nn ∧ i = .int .i64 j ∧ t = .int .i64 ((numsTo (hidB b k l hi d) j).length : Nat) ∧ Acc wr w7.heap.size 31 6 v (numsTo (shown b k l hi d) j).length (screenR (sub nn b k l hi d b) (sub nn b k l hi d k) (sub nn b k l hi d l) (sub nn b k l hi d hi) (sub nn b k l hi d d) (sub nn b k l hi d ps)) ∧ Below w7.heap.size w7 wr) (fun _ _ i _ => nn - (intOf i).toNat)
    case atStart => exact ⟨0, by omega, rfl, rfl, hP0, below_alloc1 w7 _⟩
    case round =>
      obtain ⟨j, hj, rfl, rfl, hP, hBw⟩ := hrel
      clear hP0
      have hW1 := Below.tr hB7 hBw
      have hW5 := Below.tr hB57 hBw
      have hsw := hBw.size
      by_cases hlt : j < nn
      · have hsl := numsTo_le (shown b k l hi d) j
        have hn7 := fun h => nth_at (p := shown b k l hi d) (i := j) (n := nn) h hlt
        have hn8 := fun h => nth_at (p := hidB b k l hi d) (i := j) (n := nn) h hlt
        have hn9 := fun h => numAt_is (p := hidB b k l hi d) (i := j) (n := nn) h hlt
        rw [← HN.out] at hn8
        obtain ⟨a, ha⟩ : ∃ a, a = (numsTo (hidB b k l hi d) j).length := ⟨_, rfl⟩
        obtain ⟨s, hse⟩ : ∃ s, s = (numsTo (shown b k l hi d) j).length := ⟨_, rfl⟩
        rw [← ha] at hn8 hn9 ⊢
        rw [← hse] at hP hsl hn7
        have HA := Lib.hid ha
        have HS := Lib.hid hse
        have HP := Lib.hid hP
        obtain ⟨Av, cv, rfl, hncv, hcmv⟩ := hP.form
        unfold maxLen at hcmv
        clear ha hse hP
        obtain ⟨bl, off, rfl, hbl, hc⟩ := H1.out.2 (by omega)
        have hr := hc j hlt
        have hbs : bl < wr.heap.size := by omega
        have q0 : wr.cell? ⟨bl, off + j * 6, none⟩ = some (.int .i64 (b j)) := (keepc hW1 bl (by omega) _).trans (hr 0 _ rfl)
        have q1 : wr.cell? ⟨bl, off + j * 6 + 1, none⟩ = some (.int .i64 (k j)) := (keepc hW1 bl (by omega) _).trans (hr 1 _ rfl)
        have q2 : wr.cell? ⟨bl, off + j * 6 + 2, none⟩ = some (.int .i64 (l j)) := (keepc hW1 bl (by omega) _).trans (hr 2 _ rfl)
        have q3 : wr.cell? ⟨bl, off + j * 6 + 3, none⟩ = some (.int .i64 (hi j)) := (keepc hW1 bl (by omega) _).trans (hr 3 _ rfl)
        have q4 : wr.cell? ⟨bl, off + j * 6 + 4, none⟩ = some (.int .i64 (d j)) := (keepc hW1 bl (by omega) _).trans (hr 4 _ rfl)
        have q5 : wr.cell? ⟨bl, off + j * 6 + 5, none⟩ = some (.bool (ps j)) := (keepc hW1 bl (by omega) _).trans (hr 5 _ rfl)
        clear hr hc
        cases hh : hidB b k l hi d j with
        | true =>
          have hsj : shown b k l hi d j = false := by simp [shown, hh]
          have h8 := (hn8 hh).2
          have h9 := hn9 hh
          obtain ⟨bx, ox, rfl, hbx, hcx⟩ := HX.out.2 (by omega)
          have rx := hcx a h8
          rw [Nat.mul_one] at rx
          have x0 : wr.cell? ⟨bx, ox + a, none⟩ = some (.int .i64 (j : Int)) := ((keepc hW5 bx (by omega) _).trans (rx 0 _ rfl)).trans (by rw [h9])
          have hd1 : decide (a < N) = true := by simpa using h8
          have hd2 : (K == (j : Int)) = false := by simpa using hKs j hh
          clear rx hcx hn7 hn8 hn9 h9 hKs
          go_wp2
          go_roundw
          case rel => exact ⟨j + 1, by omega, by go_num, by rw [numsTo_yes hh, ← HA.out]; go_num, by rw [numsTo_no hsj, ← HS.out]; exact HP.out, hBw⟩
          case measure => simp [intOf]; omega
        | false =>
          have hsj : shown b k l hi d j = true := by simp [shown, hh]
          have nth7 := Lib.hid (hn7 hsj).1
          clear hn7 hn8 hn9 hKs
          by_cases haN : a < N
          · obtain ⟨bx, ox, rfl, hbx, hcx⟩ := HX.out.2 (by omega)
            have rx := hcx a haN
            rw [Nat.mul_one] at rx
            have x0 : wr.cell? ⟨bx, ox + a, none⟩ = some (.int .i64 (numAt (hidB b k l hi d) nn a)) := (keepc hW5 bx (by omega) _).trans (rx 0 _ rfl)
            have hd1 : decide (a < N) = true := by simpa using haN
            have hd2 : (numAt (hidB b k l hi d) nn a == (j : Int)) = false := not_num (by rw [← HN.out]; exact haN) hh
            clear rx hcx
            go_wp2_with (at_builtin; refine wpList_push rfl (.tmp 77) (.tmp 82) 37 rfl 31 _ 6 48 Try.underlying37 info_screenH (by decide) (by decide) (by decide) rfl (HP.out.next (Below.al (Below.refl _ _) _)) rfl (heap_alloc_new _ _) (by simp [screenR, sub, nth7.out]) (screenR_one _ _ _ _ _ _ _) (by omega) (by have := hBw.size; simp <;> omega) ?_; intro v' w8 hP8 hB8 hg8)
            go_roundw
            case rel => exact ⟨j + 1, by omega, by go_num, by rw [numsTo_no hh, ← HA.out], by rw [numsTo_yes hsj, ← HS.out]; exact hP8, Below.trans (Below.al hBw _) hB8⟩
            case measure => simp [intOf]; omega
          · have hd1 : decide (a < N) = false := by simpa using haN
            go_wp2_with (at_builtin; refine wpList_push rfl (.tmp 77) (.tmp 82) 37 rfl 31 _ 6 48 Try.underlying37 info_screenH (by decide) (by decide) (by decide) rfl (HP.out.next (Below.al (Below.refl _ _) _)) rfl (heap_alloc_new _ _) (by simp [screenR, sub, nth7.out]) (screenR_one _ _ _ _ _ _ _) (by omega) (by have := hBw.size; simp <;> omega) ?_; intro v' w8 hP8 hB8 hg8)
            go_roundw
            case rel => exact ⟨j + 1, by omega, by go_num, by rw [numsTo_no hh, ← HA.out], by rw [numsTo_yes hsj, ← HS.out]; exact hP8, Below.trans (Below.al hBw _) hB8⟩
            case measure => simp [intOf]; omega
      · obtain rfl : j = nn := by omega
        rw [← HN.out]
        obtain ⟨Av, cv, rfl, hOv⟩ := hP.own
        have HPv := Lib.hid hOv.rows
        have kfw : ∀ i, wr.cell? ⟨w6.heap.size, i, none⟩ = #[Value.int .i64 f0, .int .i64 f1, .int .i64 f2, .int .i64 f3, .int .i64 f4][i]? := fun i => (keepc hBw w6.heap.size (by omega) i).trans (kf7 i)
        have hfs : w6.heap.size < wr.heap.size := by omega
        clear hP hOv hKs
        go_wp2_with fail
        refine (implScreenFlow_any f0 f1 f2 f3 f4 HPv.out (Nat.le_refl _)).mono ?_
        rintro e w9 ⟨rfl, hb9⟩
        rw [HPs.out]
        go_wp2
        go_ret
        exact ⟨rfl, Below.tr hb (Below.tr hW1 (by (repeat (first | exact Below.refl _ _ | assumption | refine Below.al ?_ _ | refine Below.dr ?_ | (refine Below.st ?_ (by simp <;> omega) _) | (refine Below.tr ?_ (by assumption))))))⟩
end Go.Proofs.Ytcljfakpcecejaa
