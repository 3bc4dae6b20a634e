/-
  The law 'added routes are used': its walk.
-/
import Derived.Test.YtgoijpbkgkjfeaaAdP
namespace Go.Proofs.Ytgoijpbkgkjfeaa
open Go Go.RowKit

set_option maxHeartbeats 2000000 in
theorem sameRoutes_diff {w : World} {A A' : Option Addr} {n n' c c' : Nat} (h : n ≠ n') :
    Calls Try.prog 9 #[.slice A n c, .slice A' n' c'] w fun e w' => e = .returned (.bool false) ∧ w' = w := by
  have hne : ((n : Int) == (n' : Int)) = false := by simp; omega
  have hne2 : ((n : Int) != (n' : Int)) = true := by simp; omega
  go_enter Try.func9, Try.ntmps9
  go_wp2
  go_ret
  exact ⟨rfl, rfl⟩
theorem lon_step {b k : Nat → Int} {y ad : Int} {i : Nat} : lonB b k y ad (i + 1) = (lonB b k y ad i || (hasB (b i) (k i) ad && decide (y < k i))) := rfl
set_option maxRecDepth 20000 in
set_option maxHeartbeats 16000000 in
theorem addRoute_walk {w : World} {A : Option Addr} {n c : Nat} (h : Bytes w w.heap.size A n c) :
    Calls Try.prog 5 #[.slice A n c] w (Truly w) := by
  by_cases hn : 1048576 < n
  · go_enter Try.func5, Try.ntmps5
    go_wp2
    go_ret
    exact ⟨rfl, Below.refl _ _⟩
  go_enter Try.func5, Try.ntmps5
  go_wp2_with fail
  refine (drawAddRoute_any h).mono ?_
  rintro e w1 ⟨A1, n1, k1, a, b, d, x, y, z, rfl, hn1, hO1, hb1⟩
  obtain ⟨N, ok, y0, y1, y2, hI, hS, hF, hT, hNB⟩ := add_law (n := n1) (a := a) (b := b) (c := d) (x := x) (y := y) (z := z) (by omega)
  have HI := Lib.hid hI
  have HS := Lib.hid hS
  have HF := Lib.hid hF
  have HT := Lib.hid hT
  have H1 := Lib.hid (hO1.rows.next (below_al1 w1 (.cells #[.int .i64 x, .int .i64 y, .int .i64 z] 27)))
  have hcm1 := hO1.1
  have hnc1 := hO1.2.1
  unfold maxLen at hcm1
  clear hI hS hF hT hO1 hn h
  have j1 : ∀ i, (w1.alloc (.cells #[.int .i64 x, .int .i64 y, .int .i64 z] 27)).cell? ⟨w1.heap.size, i, none⟩ = #[Value.int .i64 x, .int .i64 y, .int .i64 z][i]? := (blk (heap_alloc_new w1 _)).1
  go_wp2_with fail
  clear j1
  refine (HI.out _ _ _ _ H1.out (Nat.le_refl _)).mono ?_
  rintro e w2 ⟨A2, k2, rfl, hO2, hb2⟩
  have hB2 : Below w1.heap.size w1 w2 := Below.tr (below_al1 w1 (.cells #[.int .i64 x, .int .i64 y, .int .i64 z] 27)) hb2
  have q2 := (hb2.block w1.heap.size (by simp)).trans (heap_alloc_new w1 (.cells #[.int .i64 x, .int .i64 y, .int .i64 z] 27))
  have H2 := Lib.hid (H1.out.next hb2)
  have hs2 := heap_lt q2
  obtain ⟨c2, f2⟩ := blk q2
  clear H1 hb2
  go_wp2_with fail
  clear c2 f2
  refine (HS.out _ _ _ _ H2.out (Nat.le_refl _)).mono ?_
  rintro e w3 ⟨A3, k3, rfl, hO3, hb3⟩
  have hB3 := Below.tr hB2 hb3
  have q3 := (hb3.block w1.heap.size hs2).trans q2
  have H3 := Lib.hid (H2.out.next hb3)
  have hO23 := hO2.next hb3
  have hs3 := heap_lt q3
  clear H2 hb3 q2 hO2
  go_wp2_with fail
  refine (sameRoutes_same hO23.rows hO3.rows (Nat.le_refl _)).mono ?_
  rintro e w4 ⟨rfl, hb4⟩
  have hB4 := Below.tr hB3 hb4
  have q4 := (hb4.block w1.heap.size hs3).trans q3
  have H4 := Lib.hid (H3.out.next hb4)
  have G4 := Lib.hid (hO23.rows.next hb4)
  have hs4 := heap_lt q4
  have hcm2 := hO23.1
  have hnc2 := hO23.2.1
  unfold maxLen at hcm2
  clear H3 hb4 q3 hO23 hO3 HI HS
  cases ok with
  | false =>
    clear HT
    by_cases hNn : N = n1
    · have hrow : ∀ i, i < N → routeR y0 y1 y2 i = routeR a b d i := fun i hi => by
        rcases HF.out rfl with h0 | ⟨_, h0⟩
        · omega
        · exact h0 i (by omega)
      subst hNn
      have HR := Lib.hid hrow
      clear hrow HF
      go_wp2_with fail
      refine (sameRoutes_same (G4.out.congr HR.out) H4.out (Nat.le_refl _)).mono ?_
      rintro e w5 ⟨rfl, hb5⟩
      go_wp2_with (go_at_call 10; refine (alive_any _).mono ?_; rintro e wa ⟨rfl, hba⟩)
      go_ret
      exact ⟨rfl, Below.tr (Below.tr (Below.tr hb1 hB4) hb5) (by assumption)⟩
    · have hN0 : N = 0 := by
        rcases HF.out rfl with h0 | ⟨h0, _⟩
        · exact h0
        · exact absurd h0 hNn
      subst hN0
      clear HF
      go_wp2_with fail
      refine (sameRoutes_diff hNn).mono ?_
      rintro e w5 ⟨rfl, rfl⟩
      go_wp2_with (go_at_call 10; refine (alive_any _).mono ?_; rintro e wa ⟨rfl, hba⟩)
      go_ret
      exact ⟨rfl, Below.tr (Below.tr hb1 hB4) (by assumption)⟩
  | true =>
    obtain ⟨hv0, hv, hLL⟩ := HT.out (by first | rfl | trivial)
    have HV0 := Lib.hid hv0
    have HV := Lib.hid hv
    have HL := Lib.hid hLL
    clear HF HT hv0 hv hLL
    go_wp2_with fail
    go_loopw [9] (fun ad wr => ∃ j : Nat, j ≤ 256 ∧ ad = .int .i64 j ∧ Below w4.heap.size w4 wr) (fun ad _ => 256 - (intOf ad).toNat)
    case atStart => exact ⟨0, by omega, rfl, Below.refl _ _⟩
    case round =>
      obtain ⟨ad, had, rfl, hBw⟩ := hrel
      obtain ⟨wo, rfl⟩ : ∃ wo : World, wo = wr := ⟨_, rfl⟩
      have hso := hBw.size
      have qo := (hBw.block w1.heap.size hs4).trans q4
      have Ho := Lib.hid (H4.out.next hBw)
      have Go := Lib.hid (G4.out.next hBw)
      have hsr := heap_lt qo
      have hBo := Below.tr hB4 hBw
      by_cases hlt : ad ≤ 255
      · have hltI : (ad : Int) ≤ 255 := by omega
        go_wp2_with fail
        go_loopw [10, 11] (fun lg i wr => ∃ j : Nat, j ≤ n1 ∧ i = .int .i64 j ∧ lg = .bool (lonB a b y ad j) ∧ Below wo.heap.size wo wr) (fun _ i _ => n1 - (intOf i).toNat)
        case atStart => exact ⟨0, by omega, rfl, rfl, Below.refl _ _⟩
        case round =>
          obtain ⟨j, hj, rfl, rfl, hBi⟩ := hrel
          have hsi := hBi.size
          have qi := (hBi.block w1.heap.size hsr).trans qo
          have hsri := heap_lt qi
          obtain ⟨ci, fi⟩ := blk qi
          by_cases hlj : j < n1
          · obtain ⟨bl, off, rfl, hbl, hc⟩ := Ho.out.2 (by omega)
            have hr := hc j hlj
            have hbs : bl < wr.heap.size := by omega
            have p0 : wr.cell? ⟨bl, off + j * 3, none⟩ = some (.int .i64 (a j)) := (keepc hBi bl hbl _).trans (hr 0 _ rfl)
            have p1 : wr.cell? ⟨bl, off + j * 3 + 1, none⟩ = some (.int .i64 (b j)) := (keepc hBi bl hbl _).trans (hr 1 _ rfl)
            have hljI : (j : Int) < (n1 : Int) := by omega
            clear hc hr
            cases hlg : lonB a b y ad j with
            | true =>
              have K1 := Lib.hid (show lonB a b y ad (j + 1) = true by rw [lon_step, hlg]; rfl)
              clear hlg
              go_wp2
              refine wp_region_free (ds := [(0, 65), (1, 66), (2, 67), (3, 68), (4, 69), (5, 70), (6, 71), (7, 72), (8, 73), (9, 74), (10, 75), (11, 76), (12, 77), (13, 78), (14, 79), (15, 80), (16, 81), (17, 82), (18, 83), (19, 84), (20, 85), (21, 86)]) 22 (by kernel_rfl) (by kernel_rfl) (by first | exact .inl rfl | exact .inr (by kernel_rfl)) (by rfl) rfl rfl ?_
              apply free_is
              · intro a' w' hLe hfr hdep
                have e10 := hfr 10 rfl
                conv at e10 => rhs; whnf
                have f10 := e10; simp only [Array.getD_eq_getD_getElem?] at f10
                refine wpOp_plain rfl rfl (fun K hK => ?_)
                go_simp
                exact hK _ _ ⟨_, rfl, Below.refl _ _, rfl⟩
              apply free_is
              · intro a' w' hLe hfr hdep
                have e65 : a'.tmps.getD 65 undef = _ := hdep 0 65 (Nat.le_of_ble_eq_true rfl) rfl rfl
                conv at e65 => rhs; whnf
                have f65 := e65; simp only [Array.getD_eq_getD_getElem?] at f65
                refine wpOp_plain rfl rfl (fun K hK => ?_)
                go_simp
                exact hK _ _ ⟨_, rfl, Below.refl _ _, rfl⟩
              apply free_is
              · intro a' w' hLe hfr hdep
                have e66 : a'.tmps.getD 66 undef = _ := hdep 1 66 (Nat.le_of_ble_eq_true rfl) rfl rfl
                conv at e66 => rhs; whnf
                have f66 := e66; simp only [Array.getD_eq_getD_getElem?] at f66
                exact wpOp_no rfl rfl rfl e66 ⟨_, rfl, Below.refl _ _, rfl⟩
              apply free_is
              · intro a' w' hLe hfr hdep
                have e66 : a'.tmps.getD 66 undef = _ := hdep 1 66 (Nat.le_of_ble_eq_true rfl) rfl rfl
                conv at e66 => rhs; whnf
                have f66 := e66; simp only [Array.getD_eq_getD_getElem?] at f66
                exact wpOp_no rfl rfl rfl e66 ⟨_, rfl, Below.refl _ _, rfl⟩
              apply free_is
              · intro a' w' hLe hfr hdep
                have e66 : a'.tmps.getD 66 undef = _ := hdep 1 66 (Nat.le_of_ble_eq_true rfl) rfl rfl
                conv at e66 => rhs; whnf
                have f66 := e66; simp only [Array.getD_eq_getD_getElem?] at f66
                exact wpOp_no rfl rfl rfl e66 ⟨_, rfl, Below.refl _ _, rfl⟩
              apply free_is
              · intro a' w' hLe hfr hdep
                have e66 : a'.tmps.getD 66 undef = _ := hdep 1 66 (Nat.le_of_ble_eq_true rfl) rfl rfl
                conv at e66 => rhs; whnf
                have f66 := e66; simp only [Array.getD_eq_getD_getElem?] at f66
                exact wpOp_no rfl rfl rfl e66 ⟨_, rfl, Below.refl _ _, rfl⟩
              apply free_is
              · intro a' w' hLe hfr hdep
                have e66 : a'.tmps.getD 66 undef = _ := hdep 1 66 (Nat.le_of_ble_eq_true rfl) rfl rfl
                conv at e66 => rhs; whnf
                have f66 := e66; simp only [Array.getD_eq_getD_getElem?] at f66
                exact wpOp_no rfl rfl rfl e66 ⟨_, rfl, Below.refl _ _, rfl⟩
              apply free_is
              · intro a' w' hLe hfr hdep
                have e66 : a'.tmps.getD 66 undef = _ := hdep 1 66 (Nat.le_of_ble_eq_true rfl) rfl rfl
                conv at e66 => rhs; whnf
                have f66 := e66; simp only [Array.getD_eq_getD_getElem?] at f66
                exact wpOp_no rfl rfl rfl e66 ⟨_, rfl, Below.refl _ _, rfl⟩
              apply free_is
              · intro a' w' hLe hfr hdep
                have e66 : a'.tmps.getD 66 undef = _ := hdep 1 66 (Nat.le_of_ble_eq_true rfl) rfl rfl
                conv at e66 => rhs; whnf
                have f66 := e66; simp only [Array.getD_eq_getD_getElem?] at f66
                exact wpOp_no rfl rfl rfl e66 ⟨_, rfl, Below.refl _ _, rfl⟩
              apply free_is
              · intro a' w' hLe hfr hdep
                have e66 : a'.tmps.getD 66 undef = _ := hdep 1 66 (Nat.le_of_ble_eq_true rfl) rfl rfl
                conv at e66 => rhs; whnf
                have f66 := e66; simp only [Array.getD_eq_getD_getElem?] at f66
                exact wpOp_no rfl rfl rfl e66 ⟨_, rfl, Below.refl _ _, rfl⟩
              apply free_is
              · intro a' w' hLe hfr hdep
                have e74 : a'.tmps.getD 74 undef = _ := hdep 9 74 (Nat.le_of_ble_eq_true rfl) rfl rfl
                conv at e74 => rhs; whnf
                have f74 := e74; simp only [Array.getD_eq_getD_getElem?] at f74
                exact wpOp_un rfl rfl rfl e74 ⟨_, rfl, Below.refl _ _, rfl⟩
              apply free_is
              · intro a' w' hLe hfr hdep
                have e74 : a'.tmps.getD 74 undef = _ := hdep 9 74 (Nat.le_of_ble_eq_true rfl) rfl rfl
                conv at e74 => rhs; whnf
                have f74 := e74; simp only [Array.getD_eq_getD_getElem?] at f74
                exact wpOp_un rfl rfl rfl e74 ⟨_, rfl, Below.refl _ _, rfl⟩
              apply free_is
              · intro a' w' hLe hfr hdep
                have e74 : a'.tmps.getD 74 undef = _ := hdep 9 74 (Nat.le_of_ble_eq_true rfl) rfl rfl
                conv at e74 => rhs; whnf
                have f74 := e74; simp only [Array.getD_eq_getD_getElem?] at f74
                exact wpOp_un rfl rfl rfl e74 ⟨_, rfl, Below.refl _ _, rfl⟩
              apply free_is
              · intro a' w' hLe hfr hdep
                have e74 : a'.tmps.getD 74 undef = _ := hdep 9 74 (Nat.le_of_ble_eq_true rfl) rfl rfl
                conv at e74 => rhs; whnf
                have f74 := e74; simp only [Array.getD_eq_getD_getElem?] at f74
                exact wpOp_un rfl rfl rfl e74 ⟨_, rfl, Below.refl _ _, rfl⟩
              apply free_is
              · intro a' w' hLe hfr hdep
                have e74 : a'.tmps.getD 74 undef = _ := hdep 9 74 (Nat.le_of_ble_eq_true rfl) rfl rfl
                conv at e74 => rhs; whnf
                have f74 := e74; simp only [Array.getD_eq_getD_getElem?] at f74
                exact wpOp_un rfl rfl rfl e74 ⟨_, rfl, Below.refl _ _, rfl⟩
              apply free_is
              · intro a' w' hLe hfr hdep
                have e74 : a'.tmps.getD 74 undef = _ := hdep 9 74 (Nat.le_of_ble_eq_true rfl) rfl rfl
                conv at e74 => rhs; whnf
                have f74 := e74; simp only [Array.getD_eq_getD_getElem?] at f74
                exact wpOp_un rfl rfl rfl e74 ⟨_, rfl, Below.refl _ _, rfl⟩
              apply free_is
              · intro a' w' hLe hfr hdep
                have e74 : a'.tmps.getD 74 undef = _ := hdep 9 74 (Nat.le_of_ble_eq_true rfl) rfl rfl
                conv at e74 => rhs; whnf
                have f74 := e74; simp only [Array.getD_eq_getD_getElem?] at f74
                exact wpOp_un rfl rfl rfl e74 ⟨_, rfl, Below.refl _ _, rfl⟩
              apply free_is
              · intro a' w' hLe hfr hdep
                have e74 : a'.tmps.getD 74 undef = _ := hdep 9 74 (Nat.le_of_ble_eq_true rfl) rfl rfl
                conv at e74 => rhs; whnf
                have f74 := e74; simp only [Array.getD_eq_getD_getElem?] at f74
                exact wpOp_un rfl rfl rfl e74 ⟨_, rfl, Below.refl _ _, rfl⟩
              apply free_is
              · intro a' w' hLe hfr hdep
                have e74 : a'.tmps.getD 74 undef = _ := hdep 9 74 (Nat.le_of_ble_eq_true rfl) rfl rfl
                conv at e74 => rhs; whnf
                have f74 := e74; simp only [Array.getD_eq_getD_getElem?] at f74
                exact wpOp_un rfl rfl rfl e74 ⟨_, rfl, Below.refl _ _, rfl⟩
              apply free_is
              · intro a' w' hLe hfr hdep
                have e74 : a'.tmps.getD 74 undef = _ := hdep 9 74 (Nat.le_of_ble_eq_true rfl) rfl rfl
                conv at e74 => rhs; whnf
                have f74 := e74; simp only [Array.getD_eq_getD_getElem?] at f74
                exact wpOp_un rfl rfl rfl e74 ⟨_, rfl, Below.refl _ _, rfl⟩
              apply free_is
              · intro a' w' hLe hfr hdep
                have e66 : a'.tmps.getD 66 undef = _ := hdep 1 66 (Nat.le_of_ble_eq_true rfl) rfl rfl
                conv at e66 => rhs; whnf
                have f66 := e66; simp only [Array.getD_eq_getD_getElem?] at f66
                exact wpOp_no rfl rfl rfl e66 ⟨_, rfl, Below.refl _ _, rfl⟩
              apply free_is
              · intro a' w' hLe hfr hdep
                have e66 : a'.tmps.getD 66 undef = _ := hdep 1 66 (Nat.le_of_ble_eq_true rfl) rfl rfl
                conv at e66 => rhs; whnf
                have f66 := e66; simp only [Array.getD_eq_getD_getElem?] at f66
                have e85 : a'.tmps.getD 85 undef = _ := hdep 20 85 (Nat.le_of_ble_eq_true rfl) rfl rfl
                conv at e85 => rhs; whnf
                have f85 := e85; simp only [Array.getD_eq_getD_getElem?] at f85
                refine wpOp_plain rfl rfl (fun K hK => ?_)
                go_simp
                exact hK _ _ ⟨_, rfl, Below.refl _ _, rfl⟩
              apply free_nil
              intro vs w7 hb7 hT7
              have e65 : vs 0 = _ := hT7 0 65 rfl
              conv at e65 => rhs; whnf
              have e66 : vs 1 = _ := hT7 1 66 rfl
              conv at e66 => rhs; whnf
              have e67 : vs 2 = _ := hT7 2 67 rfl
              conv at e67 => rhs; whnf
              have e68 : vs 3 = _ := hT7 3 68 rfl
              conv at e68 => rhs; whnf
              have e69 : vs 4 = _ := hT7 4 69 rfl
              conv at e69 => rhs; whnf
              have e70 : vs 5 = _ := hT7 5 70 rfl
              conv at e70 => rhs; whnf
              have e71 : vs 6 = _ := hT7 6 71 rfl
              conv at e71 => rhs; whnf
              have e72 : vs 7 = _ := hT7 7 72 rfl
              conv at e72 => rhs; whnf
              have e73 : vs 8 = _ := hT7 8 73 rfl
              conv at e73 => rhs; whnf
              have e74 : vs 9 = _ := hT7 9 74 rfl
              conv at e74 => rhs; whnf
              have e75 : vs 10 = _ := hT7 10 75 rfl
              conv at e75 => rhs; whnf
              have e76 : vs 11 = _ := hT7 11 76 rfl
              conv at e76 => rhs; whnf
              have e77 : vs 12 = _ := hT7 12 77 rfl
              conv at e77 => rhs; whnf
              have e78 : vs 13 = _ := hT7 13 78 rfl
              conv at e78 => rhs; whnf
              have e79 : vs 14 = _ := hT7 14 79 rfl
              conv at e79 => rhs; whnf
              have e80 : vs 15 = _ := hT7 15 80 rfl
              conv at e80 => rhs; whnf
              have e81 : vs 16 = _ := hT7 16 81 rfl
              conv at e81 => rhs; whnf
              have e82 : vs 17 = _ := hT7 17 82 rfl
              conv at e82 => rhs; whnf
              have e83 : vs 18 = _ := hT7 18 83 rfl
              conv at e83 => rhs; whnf
              have e84 : vs 19 = _ := hT7 19 84 rfl
              conv at e84 => rhs; whnf
              have e85 : vs 20 = _ := hT7 20 85 rfl
              conv at e85 => rhs; whnf
              have e86 : vs 21 = _ := hT7 21 86 rfl
              conv at e86 => rhs; whnf
              simp only [putAll, List.drop_succ_cons, List.drop_zero, e65, e66, e67, e68, e69, e70, e71, e72, e73, e74, e75, e76, e77, e78, e79, e80, e81, e82, e83, e84, e85, e86]
              clear hT7 e65 e66 e67 e68 e69 e70 e71 e72 e73 e74 e75 e76 e77 e78 e79 e80 e81 e82 e83 e84 e85 e86
              go_simp
              go_wp2
              go_roundw
              case rel => exact ⟨j + 1, by omega, by go_num, by rw [K1.out], Below.tr hBi hb7⟩
              case measure => simp [intOf]; omega
            | false =>
              cases hh : hasB (a j) (b j) ad with
              | false =>
                have K1 := Lib.hid (show lonB a b y ad (j + 1) = false by rw [lon_step, hlg, hh]; rfl)
                clear hlg
                go_wp2
                refine wp_region_free (ds := [(0, 65), (1, 66), (2, 67), (3, 68), (4, 69), (5, 70), (6, 71), (7, 72), (8, 73), (9, 74), (10, 75), (11, 76), (12, 77), (13, 78), (14, 79), (15, 80), (16, 81), (17, 82), (18, 83), (19, 84), (20, 85), (21, 86)]) 22 (by kernel_rfl) (by kernel_rfl) (by first | exact .inl rfl | exact .inr (by kernel_rfl)) (by rfl) rfl rfl ?_
                apply free_is
                · intro a' w' hLe hfr hdep
                  have e10 := hfr 10 rfl
                  conv at e10 => rhs; whnf
                  have f10 := e10; simp only [Array.getD_eq_getD_getElem?] at f10
                  refine wpOp_plain rfl rfl (fun K hK => ?_)
                  go_simp
                  exact hK _ _ ⟨_, rfl, Below.refl _ _, rfl⟩
                apply free_is
                · intro a' w' hLe hfr hdep
                  have e65 : a'.tmps.getD 65 undef = _ := hdep 0 65 (Nat.le_of_ble_eq_true rfl) rfl rfl
                  conv at e65 => rhs; whnf
                  have f65 := e65; simp only [Array.getD_eq_getD_getElem?] at f65
                  refine wpOp_plain rfl rfl (fun K hK => ?_)
                  go_simp
                  exact hK _ _ ⟨_, rfl, Below.refl _ _, rfl⟩
                apply free_is
                · intro a' w' hLe hfr hdep
                  have e66 : a'.tmps.getD 66 undef = _ := hdep 1 66 (Nat.le_of_ble_eq_true rfl) rfl rfl
                  conv at e66 => rhs; whnf
                  have f66 := e66; simp only [Array.getD_eq_getD_getElem?] at f66
                  have e3 := hfr 3 rfl
                  conv at e3 => rhs; whnf
                  have f3 := e3; simp only [Array.getD_eq_getD_getElem?] at f3
                  refine wpOp_yes rfl rfl rfl e66 (fun K hK => ?_)
                  go_simp
                  exact hK _ _ ⟨_, rfl, Below.refl _ _, rfl⟩
                apply free_is
                · intro a' w' hLe hfr hdep
                  have e66 : a'.tmps.getD 66 undef = _ := hdep 1 66 (Nat.le_of_ble_eq_true rfl) rfl rfl
                  conv at e66 => rhs; whnf
                  have f66 := e66; simp only [Array.getD_eq_getD_getElem?] at f66
                  have e11 := hfr 11 rfl
                  conv at e11 => rhs; whnf
                  have f11 := e11; simp only [Array.getD_eq_getD_getElem?] at f11
                  refine wpOp_yes rfl rfl rfl e66 (fun K hK => ?_)
                  go_simp
                  exact hK _ _ ⟨_, rfl, Below.refl _ _, rfl⟩
                apply free_is
                · intro a' w' hLe hfr hdep
                  have e66 : a'.tmps.getD 66 undef = _ := hdep 1 66 (Nat.le_of_ble_eq_true rfl) rfl rfl
                  conv at e66 => rhs; whnf
                  have f66 := e66; simp only [Array.getD_eq_getD_getElem?] at f66
                  have e67 : a'.tmps.getD 67 undef = _ := hdep 2 67 (Nat.le_of_ble_eq_true rfl) rfl rfl
                  conv at e67 => rhs; whnf
                  have f67 := e67; simp only [Array.getD_eq_getD_getElem?] at f67
                  have e68 : a'.tmps.getD 68 undef = _ := hdep 3 68 (Nat.le_of_ble_eq_true rfl) rfl rfl
                  conv at e68 => rhs; whnf
                  have f68 := e68; simp only [Array.getD_eq_getD_getElem?] at f68
                  refine wpOp_yes rfl rfl rfl e66 (fun K hK => ?_)
                  go_simp
                  exact hK _ _ ⟨_, rfl, Below.refl _ _, rfl⟩
                apply free_is
                · intro a' w' hLe hfr hdep
                  have e66 : a'.tmps.getD 66 undef = _ := hdep 1 66 (Nat.le_of_ble_eq_true rfl) rfl rfl
                  conv at e66 => rhs; whnf
                  have f66 := e66; simp only [Array.getD_eq_getD_getElem?] at f66
                  have e69 : a'.tmps.getD 69 undef = _ := hdep 4 69 (Nat.le_of_ble_eq_true rfl) rfl rfl
                  conv at e69 => rhs; whnf
                  have f69 := e69; simp only [Array.getD_eq_getD_getElem?] at f69
                  refine wpOp_yes rfl rfl rfl e66 (fun K hK => ?_)
                  go_simp
                  exact hK _ _ ⟨_, rfl, Below.refl _ _, rfl⟩
                apply free_is
                · intro a' w' hLe hfr hdep
                  have e66 : a'.tmps.getD 66 undef = _ := hdep 1 66 (Nat.le_of_ble_eq_true rfl) rfl rfl
                  conv at e66 => rhs; whnf
                  have f66 := e66; simp only [Array.getD_eq_getD_getElem?] at f66
                  have e70 : a'.tmps.getD 70 undef = _ := hdep 5 70 (Nat.le_of_ble_eq_true rfl) rfl rfl
                  conv at e70 => rhs; whnf
                  have f70 := e70; simp only [Array.getD_eq_getD_getElem?] at f70
                  have kc := fun i => keepc hLe (bl) (by (try simp) <;> omega) i
                  have kf := fun i => keepf hLe (bl) (by (try simp) <;> omega) i
                  have kz : bl < w'.heap.size := (by have := hLe.size; (try simp at this); omega)
                  have kc := fun i => keepc hLe (w1.heap.size) (by (try simp) <;> omega) i
                  have kf := fun i => keepf hLe (w1.heap.size) (by (try simp) <;> omega) i
                  have kz : w1.heap.size < w'.heap.size := (by have := hLe.size; (try simp at this); omega)
                  refine wpOp_yes rfl rfl rfl e66 (fun K hK => ?_)
                  go_simp
                  exact hK _ _ ⟨_, rfl, Below.refl _ _, rfl⟩
                apply free_is
                · intro a' w' hLe hfr hdep
                  have e66 : a'.tmps.getD 66 undef = _ := hdep 1 66 (Nat.le_of_ble_eq_true rfl) rfl rfl
                  conv at e66 => rhs; whnf
                  have f66 := e66; simp only [Array.getD_eq_getD_getElem?] at f66
                  have e9 := hfr 9 rfl
                  conv at e9 => rhs; whnf
                  have f9 := e9; simp only [Array.getD_eq_getD_getElem?] at f9
                  refine wpOp_yes rfl rfl rfl e66 (fun K hK => ?_)
                  go_simp
                  exact hK _ _ ⟨_, rfl, Below.refl _ _, rfl⟩
                apply free_is
                · intro a' w' hLe hfr hdep
                  have e66 : a'.tmps.getD 66 undef = _ := hdep 1 66 (Nat.le_of_ble_eq_true rfl) rfl rfl
                  conv at e66 => rhs; whnf
                  have f66 := e66; simp only [Array.getD_eq_getD_getElem?] at f66
                  have e71 : a'.tmps.getD 71 undef = _ := hdep 6 71 (Nat.le_of_ble_eq_true rfl) rfl rfl
                  conv at e71 => rhs; whnf
                  have f71 := e71; simp only [Array.getD_eq_getD_getElem?] at f71
                  have e72 : a'.tmps.getD 72 undef = _ := hdep 7 72 (Nat.le_of_ble_eq_true rfl) rfl rfl
                  conv at e72 => rhs; whnf
                  have f72 := e72; simp only [Array.getD_eq_getD_getElem?] at f72
                  have kc := fun i => keepc hLe (bl) (by (try simp) <;> omega) i
                  have kf := fun i => keepf hLe (bl) (by (try simp) <;> omega) i
                  have kz : bl < w'.heap.size := (by have := hLe.size; (try simp at this); omega)
                  have kc := fun i => keepc hLe (w1.heap.size) (by (try simp) <;> omega) i
                  have kf := fun i => keepf hLe (w1.heap.size) (by (try simp) <;> omega) i
                  have kz : w1.heap.size < w'.heap.size := (by have := hLe.size; (try simp at this); omega)
                  refine wpOp_yes rfl rfl rfl e66 (fun K hK => ?_)
                  go_simp
                  refine (implPrefixHas_any _ _ _ _).mono ?_
                  rintro e w2 ⟨rfl, hb⟩
                  exact hK _ _ ⟨_, rfl, hb, rfl⟩
                apply free_is
                · intro a' w' hLe hfr hdep
                  have e66 : a'.tmps.getD 66 undef = _ := hdep 1 66 (Nat.le_of_ble_eq_true rfl) rfl rfl
                  conv at e66 => rhs; whnf
                  have f66 := e66; simp only [Array.getD_eq_getD_getElem?] at f66
                  have e73 : a'.tmps.getD 73 undef = _ := hdep 8 73 (Nat.le_of_ble_eq_true rfl) rfl rfl
                  conv at e73 => rhs; whnf
                  have f73 := e73; simp only [Array.getD_eq_getD_getElem?] at f73
                  refine wpOp_yes rfl rfl rfl e66 (fun K hK => ?_)
                  go_simp
                  exact hK _ _ ⟨_, rfl, Below.refl _ _, rfl⟩
                apply free_is
                · intro a' w' hLe hfr hdep
                  have e74 : a'.tmps.getD 74 undef = _ := hdep 9 74 (Nat.le_of_ble_eq_true rfl) rfl rfl
                  conv at e74 => rhs; whnf
                  have f74 := e74; simp only [Array.getD_eq_getD_getElem?] at f74
                  exact wpOp_no rfl rfl rfl e74 ⟨_, rfl, Below.refl _ _, rfl⟩
                apply free_is
                · intro a' w' hLe hfr hdep
                  have e74 : a'.tmps.getD 74 undef = _ := hdep 9 74 (Nat.le_of_ble_eq_true rfl) rfl rfl
                  conv at e74 => rhs; whnf
                  have f74 := e74; simp only [Array.getD_eq_getD_getElem?] at f74
                  exact wpOp_no rfl rfl rfl e74 ⟨_, rfl, Below.refl _ _, rfl⟩
                apply free_is
                · intro a' w' hLe hfr hdep
                  have e74 : a'.tmps.getD 74 undef = _ := hdep 9 74 (Nat.le_of_ble_eq_true rfl) rfl rfl
                  conv at e74 => rhs; whnf
                  have f74 := e74; simp only [Array.getD_eq_getD_getElem?] at f74
                  exact wpOp_no rfl rfl rfl e74 ⟨_, rfl, Below.refl _ _, rfl⟩
                apply free_is
                · intro a' w' hLe hfr hdep
                  have e74 : a'.tmps.getD 74 undef = _ := hdep 9 74 (Nat.le_of_ble_eq_true rfl) rfl rfl
                  conv at e74 => rhs; whnf
                  have f74 := e74; simp only [Array.getD_eq_getD_getElem?] at f74
                  exact wpOp_no rfl rfl rfl e74 ⟨_, rfl, Below.refl _ _, rfl⟩
                apply free_is
                · intro a' w' hLe hfr hdep
                  have e74 : a'.tmps.getD 74 undef = _ := hdep 9 74 (Nat.le_of_ble_eq_true rfl) rfl rfl
                  conv at e74 => rhs; whnf
                  have f74 := e74; simp only [Array.getD_eq_getD_getElem?] at f74
                  exact wpOp_no rfl rfl rfl e74 ⟨_, rfl, Below.refl _ _, rfl⟩
                apply free_is
                · intro a' w' hLe hfr hdep
                  have e74 : a'.tmps.getD 74 undef = _ := hdep 9 74 (Nat.le_of_ble_eq_true rfl) rfl rfl
                  conv at e74 => rhs; whnf
                  have f74 := e74; simp only [Array.getD_eq_getD_getElem?] at f74
                  exact wpOp_no rfl rfl rfl e74 ⟨_, rfl, Below.refl _ _, rfl⟩
                apply free_is
                · intro a' w' hLe hfr hdep
                  have e74 : a'.tmps.getD 74 undef = _ := hdep 9 74 (Nat.le_of_ble_eq_true rfl) rfl rfl
                  conv at e74 => rhs; whnf
                  have f74 := e74; simp only [Array.getD_eq_getD_getElem?] at f74
                  exact wpOp_no rfl rfl rfl e74 ⟨_, rfl, Below.refl _ _, rfl⟩
                apply free_is
                · intro a' w' hLe hfr hdep
                  have e74 : a'.tmps.getD 74 undef = _ := hdep 9 74 (Nat.le_of_ble_eq_true rfl) rfl rfl
                  conv at e74 => rhs; whnf
                  have f74 := e74; simp only [Array.getD_eq_getD_getElem?] at f74
                  exact wpOp_no rfl rfl rfl e74 ⟨_, rfl, Below.refl _ _, rfl⟩
                apply free_is
                · intro a' w' hLe hfr hdep
                  have e74 : a'.tmps.getD 74 undef = _ := hdep 9 74 (Nat.le_of_ble_eq_true rfl) rfl rfl
                  conv at e74 => rhs; whnf
                  have f74 := e74; simp only [Array.getD_eq_getD_getElem?] at f74
                  exact wpOp_no rfl rfl rfl e74 ⟨_, rfl, Below.refl _ _, rfl⟩
                apply free_is
                · intro a' w' hLe hfr hdep
                  have e74 : a'.tmps.getD 74 undef = _ := hdep 9 74 (Nat.le_of_ble_eq_true rfl) rfl rfl
                  conv at e74 => rhs; whnf
                  have f74 := e74; simp only [Array.getD_eq_getD_getElem?] at f74
                  exact wpOp_no rfl rfl rfl e74 ⟨_, rfl, Below.refl _ _, rfl⟩
                apply free_is
                · intro a' w' hLe hfr hdep
                  have e66 : a'.tmps.getD 66 undef = _ := hdep 1 66 (Nat.le_of_ble_eq_true rfl) rfl rfl
                  conv at e66 => rhs; whnf
                  have f66 := e66; simp only [Array.getD_eq_getD_getElem?] at f66
                  have e74 : a'.tmps.getD 74 undef = _ := hdep 9 74 (Nat.le_of_ble_eq_true rfl) rfl rfl
                  conv at e74 => rhs; whnf
                  have f74 := e74; simp only [Array.getD_eq_getD_getElem?] at f74
                  have e84 : a'.tmps.getD 84 undef = _ := hdep 19 84 (Nat.le_of_ble_eq_true rfl) rfl rfl
                  conv at e84 => rhs; whnf
                  have f84 := e84; simp only [Array.getD_eq_getD_getElem?] at f84
                  refine wpOp_yes rfl rfl rfl e66 (fun K hK => ?_)
                  go_simp
                  exact hK _ _ ⟨_, rfl, Below.refl _ _, rfl⟩
                apply free_is
                · intro a' w' hLe hfr hdep
                  have e66 : a'.tmps.getD 66 undef = _ := hdep 1 66 (Nat.le_of_ble_eq_true rfl) rfl rfl
                  conv at e66 => rhs; whnf
                  have f66 := e66; simp only [Array.getD_eq_getD_getElem?] at f66
                  have e85 : a'.tmps.getD 85 undef = _ := hdep 20 85 (Nat.le_of_ble_eq_true rfl) rfl rfl
                  conv at e85 => rhs; whnf
                  have f85 := e85; simp only [Array.getD_eq_getD_getElem?] at f85
                  refine wpOp_plain rfl rfl (fun K hK => ?_)
                  go_simp
                  exact hK _ _ ⟨_, rfl, Below.refl _ _, rfl⟩
                apply free_nil
                intro vs w7 hb7 hT7
                have e65 : vs 0 = _ := hT7 0 65 rfl
                conv at e65 => rhs; whnf
                have e66 : vs 1 = _ := hT7 1 66 rfl
                conv at e66 => rhs; whnf
                have e67 : vs 2 = _ := hT7 2 67 rfl
                conv at e67 => rhs; whnf
                have e68 : vs 3 = _ := hT7 3 68 rfl
                conv at e68 => rhs; whnf
                have e69 : vs 4 = _ := hT7 4 69 rfl
                conv at e69 => rhs; whnf
                have e70 : vs 5 = _ := hT7 5 70 rfl
                conv at e70 => rhs; whnf
                have e71 : vs 6 = _ := hT7 6 71 rfl
                conv at e71 => rhs; whnf
                have e72 : vs 7 = _ := hT7 7 72 rfl
                conv at e72 => rhs; whnf
                have e73 : vs 8 = _ := hT7 8 73 rfl
                conv at e73 => rhs; whnf
                have e74 : vs 9 = _ := hT7 9 74 rfl
                conv at e74 => rhs; whnf
                have e75 : vs 10 = _ := hT7 10 75 rfl
                conv at e75 => rhs; whnf
                have e76 : vs 11 = _ := hT7 11 76 rfl
                conv at e76 => rhs; whnf
                have e77 : vs 12 = _ := hT7 12 77 rfl
                conv at e77 => rhs; whnf
                have e78 : vs 13 = _ := hT7 13 78 rfl
                conv at e78 => rhs; whnf
                have e79 : vs 14 = _ := hT7 14 79 rfl
                conv at e79 => rhs; whnf
                have e80 : vs 15 = _ := hT7 15 80 rfl
                conv at e80 => rhs; whnf
                have e81 : vs 16 = _ := hT7 16 81 rfl
                conv at e81 => rhs; whnf
                have e82 : vs 17 = _ := hT7 17 82 rfl
                conv at e82 => rhs; whnf
                have e83 : vs 18 = _ := hT7 18 83 rfl
                conv at e83 => rhs; whnf
                have e84 : vs 19 = _ := hT7 19 84 rfl
                conv at e84 => rhs; whnf
                have e85 : vs 20 = _ := hT7 20 85 rfl
                conv at e85 => rhs; whnf
                have e86 : vs 21 = _ := hT7 21 86 rfl
                conv at e86 => rhs; whnf
                simp only [putAll, List.drop_succ_cons, List.drop_zero, e65, e66, e67, e68, e69, e70, e71, e72, e73, e74, e75, e76, e77, e78, e79, e80, e81, e82, e83, e84, e85, e86]
                clear hT7 e65 e66 e67 e68 e69 e70 e71 e72 e73 e74 e75 e76 e77 e78 e79 e80 e81 e82 e83 e84 e85 e86
                go_simp
                go_wp2
                go_roundw
                case rel => exact ⟨j + 1, by omega, by go_num, by rw [K1.out], Below.tr hBi hb7⟩
                case measure => simp [intOf]; omega
              | true =>
                have K1 := Lib.hid (show lonB a b y ad (j + 1) = decide (y < b j) by rw [lon_step, hlg, hh]; rfl)
                clear hlg
                go_wp2
                refine wp_region_free (ds := [(0, 65), (1, 66), (2, 67), (3, 68), (4, 69), (5, 70), (6, 71), (7, 72), (8, 73), (9, 74), (10, 75), (11, 76), (12, 77), (13, 78), (14, 79), (15, 80), (16, 81), (17, 82), (18, 83), (19, 84), (20, 85), (21, 86)]) 22 (by kernel_rfl) (by kernel_rfl) (by first | exact .inl rfl | exact .inr (by kernel_rfl)) (by rfl) rfl rfl ?_
                apply free_is
                · intro a' w' hLe hfr hdep
                  have e10 := hfr 10 rfl
                  conv at e10 => rhs; whnf
                  have f10 := e10; simp only [Array.getD_eq_getD_getElem?] at f10
                  refine wpOp_plain rfl rfl (fun K hK => ?_)
                  go_simp
                  exact hK _ _ ⟨_, rfl, Below.refl _ _, rfl⟩
                apply free_is
                · intro a' w' hLe hfr hdep
                  have e65 : a'.tmps.getD 65 undef = _ := hdep 0 65 (Nat.le_of_ble_eq_true rfl) rfl rfl
                  conv at e65 => rhs; whnf
                  have f65 := e65; simp only [Array.getD_eq_getD_getElem?] at f65
                  refine wpOp_plain rfl rfl (fun K hK => ?_)
                  go_simp
                  exact hK _ _ ⟨_, rfl, Below.refl _ _, rfl⟩
                apply free_is
                · intro a' w' hLe hfr hdep
                  have e66 : a'.tmps.getD 66 undef = _ := hdep 1 66 (Nat.le_of_ble_eq_true rfl) rfl rfl
                  conv at e66 => rhs; whnf
                  have f66 := e66; simp only [Array.getD_eq_getD_getElem?] at f66
                  have e3 := hfr 3 rfl
                  conv at e3 => rhs; whnf
                  have f3 := e3; simp only [Array.getD_eq_getD_getElem?] at f3
                  refine wpOp_yes rfl rfl rfl e66 (fun K hK => ?_)
                  go_simp
                  exact hK _ _ ⟨_, rfl, Below.refl _ _, rfl⟩
                apply free_is
                · intro a' w' hLe hfr hdep
                  have e66 : a'.tmps.getD 66 undef = _ := hdep 1 66 (Nat.le_of_ble_eq_true rfl) rfl rfl
                  conv at e66 => rhs; whnf
                  have f66 := e66; simp only [Array.getD_eq_getD_getElem?] at f66
                  have e11 := hfr 11 rfl
                  conv at e11 => rhs; whnf
                  have f11 := e11; simp only [Array.getD_eq_getD_getElem?] at f11
                  refine wpOp_yes rfl rfl rfl e66 (fun K hK => ?_)
                  go_simp
                  exact hK _ _ ⟨_, rfl, Below.refl _ _, rfl⟩
                apply free_is
                · intro a' w' hLe hfr hdep
                  have e66 : a'.tmps.getD 66 undef = _ := hdep 1 66 (Nat.le_of_ble_eq_true rfl) rfl rfl
                  conv at e66 => rhs; whnf
                  have f66 := e66; simp only [Array.getD_eq_getD_getElem?] at f66
                  have e67 : a'.tmps.getD 67 undef = _ := hdep 2 67 (Nat.le_of_ble_eq_true rfl) rfl rfl
                  conv at e67 => rhs; whnf
                  have f67 := e67; simp only [Array.getD_eq_getD_getElem?] at f67
                  have e68 : a'.tmps.getD 68 undef = _ := hdep 3 68 (Nat.le_of_ble_eq_true rfl) rfl rfl
                  conv at e68 => rhs; whnf
                  have f68 := e68; simp only [Array.getD_eq_getD_getElem?] at f68
                  refine wpOp_yes rfl rfl rfl e66 (fun K hK => ?_)
                  go_simp
                  exact hK _ _ ⟨_, rfl, Below.refl _ _, rfl⟩
                apply free_is
                · intro a' w' hLe hfr hdep
                  have e66 : a'.tmps.getD 66 undef = _ := hdep 1 66 (Nat.le_of_ble_eq_true rfl) rfl rfl
                  conv at e66 => rhs; whnf
                  have f66 := e66; simp only [Array.getD_eq_getD_getElem?] at f66
                  have e69 : a'.tmps.getD 69 undef = _ := hdep 4 69 (Nat.le_of_ble_eq_true rfl) rfl rfl
                  conv at e69 => rhs; whnf
                  have f69 := e69; simp only [Array.getD_eq_getD_getElem?] at f69
                  refine wpOp_yes rfl rfl rfl e66 (fun K hK => ?_)
                  go_simp
                  exact hK _ _ ⟨_, rfl, Below.refl _ _, rfl⟩
                apply free_is
                · intro a' w' hLe hfr hdep
                  have e66 : a'.tmps.getD 66 undef = _ := hdep 1 66 (Nat.le_of_ble_eq_true rfl) rfl rfl
                  conv at e66 => rhs; whnf
                  have f66 := e66; simp only [Array.getD_eq_getD_getElem?] at f66
                  have e70 : a'.tmps.getD 70 undef = _ := hdep 5 70 (Nat.le_of_ble_eq_true rfl) rfl rfl
                  conv at e70 => rhs; whnf
                  have f70 := e70; simp only [Array.getD_eq_getD_getElem?] at f70
                  have kc := fun i => keepc hLe (bl) (by (try simp) <;> omega) i
                  have kf := fun i => keepf hLe (bl) (by (try simp) <;> omega) i
                  have kz : bl < w'.heap.size := (by have := hLe.size; (try simp at this); omega)
                  have kc := fun i => keepc hLe (w1.heap.size) (by (try simp) <;> omega) i
                  have kf := fun i => keepf hLe (w1.heap.size) (by (try simp) <;> omega) i
                  have kz : w1.heap.size < w'.heap.size := (by have := hLe.size; (try simp at this); omega)
                  refine wpOp_yes rfl rfl rfl e66 (fun K hK => ?_)
                  go_simp
                  exact hK _ _ ⟨_, rfl, Below.refl _ _, rfl⟩
                apply free_is
                · intro a' w' hLe hfr hdep
                  have e66 : a'.tmps.getD 66 undef = _ := hdep 1 66 (Nat.le_of_ble_eq_true rfl) rfl rfl
                  conv at e66 => rhs; whnf
                  have f66 := e66; simp only [Array.getD_eq_getD_getElem?] at f66
                  have e9 := hfr 9 rfl
                  conv at e9 => rhs; whnf
                  have f9 := e9; simp only [Array.getD_eq_getD_getElem?] at f9
                  refine wpOp_yes rfl rfl rfl e66 (fun K hK => ?_)
                  go_simp
                  exact hK _ _ ⟨_, rfl, Below.refl _ _, rfl⟩
                apply free_is
                · intro a' w' hLe hfr hdep
                  have e66 : a'.tmps.getD 66 undef = _ := hdep 1 66 (Nat.le_of_ble_eq_true rfl) rfl rfl
                  conv at e66 => rhs; whnf
                  have f66 := e66; simp only [Array.getD_eq_getD_getElem?] at f66
                  have e71 : a'.tmps.getD 71 undef = _ := hdep 6 71 (Nat.le_of_ble_eq_true rfl) rfl rfl
                  conv at e71 => rhs; whnf
                  have f71 := e71; simp only [Array.getD_eq_getD_getElem?] at f71
                  have e72 : a'.tmps.getD 72 undef = _ := hdep 7 72 (Nat.le_of_ble_eq_true rfl) rfl rfl
                  conv at e72 => rhs; whnf
                  have f72 := e72; simp only [Array.getD_eq_getD_getElem?] at f72
                  have kc := fun i => keepc hLe (bl) (by (try simp) <;> omega) i
                  have kf := fun i => keepf hLe (bl) (by (try simp) <;> omega) i
                  have kz : bl < w'.heap.size := (by have := hLe.size; (try simp at this); omega)
                  have kc := fun i => keepc hLe (w1.heap.size) (by (try simp) <;> omega) i
                  have kf := fun i => keepf hLe (w1.heap.size) (by (try simp) <;> omega) i
                  have kz : w1.heap.size < w'.heap.size := (by have := hLe.size; (try simp at this); omega)
                  refine wpOp_yes rfl rfl rfl e66 (fun K hK => ?_)
                  go_simp
                  refine (implPrefixHas_any _ _ _ _).mono ?_
                  rintro e w2 ⟨rfl, hb⟩
                  exact hK _ _ ⟨_, rfl, hb, rfl⟩
                apply free_is
                · intro a' w' hLe hfr hdep
                  have e66 : a'.tmps.getD 66 undef = _ := hdep 1 66 (Nat.le_of_ble_eq_true rfl) rfl rfl
                  conv at e66 => rhs; whnf
                  have f66 := e66; simp only [Array.getD_eq_getD_getElem?] at f66
                  have e73 : a'.tmps.getD 73 undef = _ := hdep 8 73 (Nat.le_of_ble_eq_true rfl) rfl rfl
                  conv at e73 => rhs; whnf
                  have f73 := e73; simp only [Array.getD_eq_getD_getElem?] at f73
                  refine wpOp_yes rfl rfl rfl e66 (fun K hK => ?_)
                  go_simp
                  exact hK _ _ ⟨_, rfl, Below.refl _ _, rfl⟩
                apply free_is
                · intro a' w' hLe hfr hdep
                  have e74 : a'.tmps.getD 74 undef = _ := hdep 9 74 (Nat.le_of_ble_eq_true rfl) rfl rfl
                  conv at e74 => rhs; whnf
                  have f74 := e74; simp only [Array.getD_eq_getD_getElem?] at f74
                  have e3 := hfr 3 rfl
                  conv at e3 => rhs; whnf
                  have f3 := e3; simp only [Array.getD_eq_getD_getElem?] at f3
                  refine wpOp_yes rfl rfl rfl e74 (fun K hK => ?_)
                  go_simp
                  exact hK _ _ ⟨_, rfl, Below.refl _ _, rfl⟩
                apply free_is
                · intro a' w' hLe hfr hdep
                  have e74 : a'.tmps.getD 74 undef = _ := hdep 9 74 (Nat.le_of_ble_eq_true rfl) rfl rfl
                  conv at e74 => rhs; whnf
                  have f74 := e74; simp only [Array.getD_eq_getD_getElem?] at f74
                  have e11 := hfr 11 rfl
                  conv at e11 => rhs; whnf
                  have f11 := e11; simp only [Array.getD_eq_getD_getElem?] at f11
                  refine wpOp_yes rfl rfl rfl e74 (fun K hK => ?_)
                  go_simp
                  exact hK _ _ ⟨_, rfl, Below.refl _ _, rfl⟩
                apply free_is
                · intro a' w' hLe hfr hdep
                  have e74 : a'.tmps.getD 74 undef = _ := hdep 9 74 (Nat.le_of_ble_eq_true rfl) rfl rfl
                  conv at e74 => rhs; whnf
                  have f74 := e74; simp only [Array.getD_eq_getD_getElem?] at f74
                  have e75 : a'.tmps.getD 75 undef = _ := hdep 10 75 (Nat.le_of_ble_eq_true rfl) rfl rfl
                  conv at e75 => rhs; whnf
                  have f75 := e75; simp only [Array.getD_eq_getD_getElem?] at f75
                  have e76 : a'.tmps.getD 76 undef = _ := hdep 11 76 (Nat.le_of_ble_eq_true rfl) rfl rfl
                  conv at e76 => rhs; whnf
                  have f76 := e76; simp only [Array.getD_eq_getD_getElem?] at f76
                  refine wpOp_yes rfl rfl rfl e74 (fun K hK => ?_)
                  go_simp
                  exact hK _ _ ⟨_, rfl, Below.refl _ _, rfl⟩
                apply free_is
                · intro a' w' hLe hfr hdep
                  have e74 : a'.tmps.getD 74 undef = _ := hdep 9 74 (Nat.le_of_ble_eq_true rfl) rfl rfl
                  conv at e74 => rhs; whnf
                  have f74 := e74; simp only [Array.getD_eq_getD_getElem?] at f74
                  have e77 : a'.tmps.getD 77 undef = _ := hdep 12 77 (Nat.le_of_ble_eq_true rfl) rfl rfl
                  conv at e77 => rhs; whnf
                  have f77 := e77; simp only [Array.getD_eq_getD_getElem?] at f77
                  refine wpOp_yes rfl rfl rfl e74 (fun K hK => ?_)
                  go_simp
                  exact hK _ _ ⟨_, rfl, Below.refl _ _, rfl⟩
                apply free_is
                · intro a' w' hLe hfr hdep
                  have e74 : a'.tmps.getD 74 undef = _ := hdep 9 74 (Nat.le_of_ble_eq_true rfl) rfl rfl
                  conv at e74 => rhs; whnf
                  have f74 := e74; simp only [Array.getD_eq_getD_getElem?] at f74
                  have e78 : a'.tmps.getD 78 undef = _ := hdep 13 78 (Nat.le_of_ble_eq_true rfl) rfl rfl
                  conv at e78 => rhs; whnf
                  have f78 := e78; simp only [Array.getD_eq_getD_getElem?] at f78
                  refine wpOp_yes rfl rfl rfl e74 (fun K hK => ?_)
                  go_simp
                  exact hK _ _ ⟨_, rfl, Below.refl _ _, rfl⟩
                apply free_is
                · intro a' w' hLe hfr hdep
                  have e74 : a'.tmps.getD 74 undef = _ := hdep 9 74 (Nat.le_of_ble_eq_true rfl) rfl rfl
                  conv at e74 => rhs; whnf
                  have f74 := e74; simp only [Array.getD_eq_getD_getElem?] at f74
                  have e79 : a'.tmps.getD 79 undef = _ := hdep 14 79 (Nat.le_of_ble_eq_true rfl) rfl rfl
                  conv at e79 => rhs; whnf
                  have f79 := e79; simp only [Array.getD_eq_getD_getElem?] at f79
                  have kc := fun i => keepc hLe (bl) (by (try simp) <;> omega) i
                  have kf := fun i => keepf hLe (bl) (by (try simp) <;> omega) i
                  have kz : bl < w'.heap.size := (by have := hLe.size; (try simp at this); omega)
                  have kc := fun i => keepc hLe (w1.heap.size) (by (try simp) <;> omega) i
                  have kf := fun i => keepf hLe (w1.heap.size) (by (try simp) <;> omega) i
                  have kz : w1.heap.size < w'.heap.size := (by have := hLe.size; (try simp at this); omega)
                  refine wpOp_yes rfl rfl rfl e74 (fun K hK => ?_)
                  go_simp
                  exact hK _ _ ⟨_, rfl, Below.refl _ _, rfl⟩
                apply free_is
                · intro a' w' hLe hfr hdep
                  have e74 : a'.tmps.getD 74 undef = _ := hdep 9 74 (Nat.le_of_ble_eq_true rfl) rfl rfl
                  conv at e74 => rhs; whnf
                  have f74 := e74; simp only [Array.getD_eq_getD_getElem?] at f74
                  have e4 := hfr 4 rfl
                  conv at e4 => rhs; whnf
                  have f4 := e4; simp only [Array.getD_eq_getD_getElem?] at f4
                  refine wpOp_yes rfl rfl rfl e74 (fun K hK => ?_)
                  go_simp
                  exact hK _ _ ⟨_, rfl, Below.refl _ _, rfl⟩
                apply free_is
                · intro a' w' hLe hfr hdep
                  have e74 : a'.tmps.getD 74 undef = _ := hdep 9 74 (Nat.le_of_ble_eq_true rfl) rfl rfl
                  conv at e74 => rhs; whnf
                  have f74 := e74; simp only [Array.getD_eq_getD_getElem?] at f74
                  have e81 : a'.tmps.getD 81 undef = _ := hdep 16 81 (Nat.le_of_ble_eq_true rfl) rfl rfl
                  conv at e81 => rhs; whnf
                  have f81 := e81; simp only [Array.getD_eq_getD_getElem?] at f81
                  refine wpOp_yes rfl rfl rfl e74 (fun K hK => ?_)
                  go_simp
                  exact hK _ _ ⟨_, rfl, Below.refl _ _, rfl⟩
                apply free_is
                · intro a' w' hLe hfr hdep
                  have e74 : a'.tmps.getD 74 undef = _ := hdep 9 74 (Nat.le_of_ble_eq_true rfl) rfl rfl
                  conv at e74 => rhs; whnf
                  have f74 := e74; simp only [Array.getD_eq_getD_getElem?] at f74
                  have e82 : a'.tmps.getD 82 undef = _ := hdep 17 82 (Nat.le_of_ble_eq_true rfl) rfl rfl
                  conv at e82 => rhs; whnf
                  have f82 := e82; simp only [Array.getD_eq_getD_getElem?] at f82
                  have kc := fun i => keepc hLe (bl) (by (try simp) <;> omega) i
                  have kf := fun i => keepf hLe (bl) (by (try simp) <;> omega) i
                  have kz : bl < w'.heap.size := (by have := hLe.size; (try simp at this); omega)
                  have kc := fun i => keepc hLe (w1.heap.size) (by (try simp) <;> omega) i
                  have kf := fun i => keepf hLe (w1.heap.size) (by (try simp) <;> omega) i
                  have kz : w1.heap.size < w'.heap.size := (by have := hLe.size; (try simp at this); omega)
                  refine wpOp_yes rfl rfl rfl e74 (fun K hK => ?_)
                  go_simp
                  exact hK _ _ ⟨_, rfl, Below.refl _ _, rfl⟩
                apply free_is
                · intro a' w' hLe hfr hdep
                  have e74 : a'.tmps.getD 74 undef = _ := hdep 9 74 (Nat.le_of_ble_eq_true rfl) rfl rfl
                  conv at e74 => rhs; whnf
                  have f74 := e74; simp only [Array.getD_eq_getD_getElem?] at f74
                  have e80 : a'.tmps.getD 80 undef = _ := hdep 15 80 (Nat.le_of_ble_eq_true rfl) rfl rfl
                  conv at e80 => rhs; whnf
                  have f80 := e80; simp only [Array.getD_eq_getD_getElem?] at f80
                  have e83 : a'.tmps.getD 83 undef = _ := hdep 18 83 (Nat.le_of_ble_eq_true rfl) rfl rfl
                  conv at e83 => rhs; whnf
                  have f83 := e83; simp only [Array.getD_eq_getD_getElem?] at f83
                  refine wpOp_yes rfl rfl rfl e74 (fun K hK => ?_)
                  go_simp
                  exact hK _ _ ⟨_, rfl, Below.refl _ _, rfl⟩
                apply free_is
                · intro a' w' hLe hfr hdep
                  have e66 : a'.tmps.getD 66 undef = _ := hdep 1 66 (Nat.le_of_ble_eq_true rfl) rfl rfl
                  conv at e66 => rhs; whnf
                  have f66 := e66; simp only [Array.getD_eq_getD_getElem?] at f66
                  have e74 : a'.tmps.getD 74 undef = _ := hdep 9 74 (Nat.le_of_ble_eq_true rfl) rfl rfl
                  conv at e74 => rhs; whnf
                  have f74 := e74; simp only [Array.getD_eq_getD_getElem?] at f74
                  have e84 : a'.tmps.getD 84 undef = _ := hdep 19 84 (Nat.le_of_ble_eq_true rfl) rfl rfl
                  conv at e84 => rhs; whnf
                  have f84 := e84; simp only [Array.getD_eq_getD_getElem?] at f84
                  refine wpOp_yes rfl rfl rfl e66 (fun K hK => ?_)
                  go_simp
                  exact hK _ _ ⟨_, rfl, Below.refl _ _, rfl⟩
                apply free_is
                · intro a' w' hLe hfr hdep
                  have e66 : a'.tmps.getD 66 undef = _ := hdep 1 66 (Nat.le_of_ble_eq_true rfl) rfl rfl
                  conv at e66 => rhs; whnf
                  have f66 := e66; simp only [Array.getD_eq_getD_getElem?] at f66
                  have e85 : a'.tmps.getD 85 undef = _ := hdep 20 85 (Nat.le_of_ble_eq_true rfl) rfl rfl
                  conv at e85 => rhs; whnf
                  have f85 := e85; simp only [Array.getD_eq_getD_getElem?] at f85
                  refine wpOp_plain rfl rfl (fun K hK => ?_)
                  go_simp
                  exact hK _ _ ⟨_, rfl, Below.refl _ _, rfl⟩
                apply free_nil
                intro vs w7 hb7 hT7
                have e65 : vs 0 = _ := hT7 0 65 rfl
                conv at e65 => rhs; whnf
                have e66 : vs 1 = _ := hT7 1 66 rfl
                conv at e66 => rhs; whnf
                have e67 : vs 2 = _ := hT7 2 67 rfl
                conv at e67 => rhs; whnf
                have e68 : vs 3 = _ := hT7 3 68 rfl
                conv at e68 => rhs; whnf
                have e69 : vs 4 = _ := hT7 4 69 rfl
                conv at e69 => rhs; whnf
                have e70 : vs 5 = _ := hT7 5 70 rfl
                conv at e70 => rhs; whnf
                have e71 : vs 6 = _ := hT7 6 71 rfl
                conv at e71 => rhs; whnf
                have e72 : vs 7 = _ := hT7 7 72 rfl
                conv at e72 => rhs; whnf
                have e73 : vs 8 = _ := hT7 8 73 rfl
                conv at e73 => rhs; whnf
                have e74 : vs 9 = _ := hT7 9 74 rfl
                conv at e74 => rhs; whnf
                have e75 : vs 10 = _ := hT7 10 75 rfl
                conv at e75 => rhs; whnf
                have e76 : vs 11 = _ := hT7 11 76 rfl
                conv at e76 => rhs; whnf
                have e77 : vs 12 = _ := hT7 12 77 rfl
                conv at e77 => rhs; whnf
                have e78 : vs 13 = _ := hT7 13 78 rfl
                conv at e78 => rhs; whnf
                have e79 : vs 14 = _ := hT7 14 79 rfl
                conv at e79 => rhs; whnf
                have e80 : vs 15 = _ := hT7 15 80 rfl
                conv at e80 => rhs; whnf
                have e81 : vs 16 = _ := hT7 16 81 rfl
                conv at e81 => rhs; whnf
                have e82 : vs 17 = _ := hT7 17 82 rfl
                conv at e82 => rhs; whnf
                have e83 : vs 18 = _ := hT7 18 83 rfl
                conv at e83 => rhs; whnf
                have e84 : vs 19 = _ := hT7 19 84 rfl
                conv at e84 => rhs; whnf
                have e85 : vs 20 = _ := hT7 20 85 rfl
                conv at e85 => rhs; whnf
                have e86 : vs 21 = _ := hT7 21 86 rfl
                conv at e86 => rhs; whnf
                simp only [putAll, List.drop_succ_cons, List.drop_zero, e65, e66, e67, e68, e69, e70, e71, e72, e73, e74, e75, e76, e77, e78, e79, e80, e81, e82, e83, e84, e85, e86]
                clear hT7 e65 e66 e67 e68 e69 e70 e71 e72 e73 e74 e75 e76 e77 e78 e79 e80 e81 e82 e83 e84 e85 e86
                go_simp
                go_wp2
                go_roundw
                case rel => exact ⟨j + 1, by omega, by go_num, by rw [K1.out], Below.tr hBi hb7⟩
                case measure => simp [intOf]; omega
          · obtain rfl : n1 = j := by omega
            have G5 := Lib.hid (Go.out.next hBi)
            have H5 := Lib.hid (Ho.out.next hBi)
            cases hlg : lonB a b y ad n1 with
            | true =>
              have HRO := Lib.hid (route_old HV0.out HV.out HL.out (.inr hlg))
              clear hlg
              cases hh : hasB x y ad with
              | true =>
                go_wp2
                refine wp_region_free (ds := [(0, 87), (1, 88), (2, 89), (3, 90), (4, 91), (5, 92), (6, 93), (7, 94), (8, 95), (9, 96), (10, 97), (11, 98), (12, 99), (13, 100), (14, 101), (15, 102)]) 16 (by kernel_rfl) (by kernel_rfl) (by first | exact .inl rfl | exact .inr (by kernel_rfl)) (by rfl) rfl rfl ?_
                apply free_is
                · intro a' w' hLe hfr hdep
                  have e4 := hfr 4 rfl
                  conv at e4 => rhs; whnf
                  have f4 := e4; simp only [Array.getD_eq_getD_getElem?] at f4
                  refine wpOp_plain rfl rfl (fun K hK => ?_)
                  go_simp
                  exact hK _ _ ⟨_, rfl, Below.refl _ _, rfl⟩
                apply free_is
                · intro a' w' hLe hfr hdep
                  have e87 : a'.tmps.getD 87 undef = _ := hdep 0 87 (Nat.le_of_ble_eq_true rfl) rfl rfl
                  conv at e87 => rhs; whnf
                  have f87 := e87; simp only [Array.getD_eq_getD_getElem?] at f87
                  have kc := fun i => keepc hLe (w1.heap.size) (by (try simp) <;> omega) i
                  have kf := fun i => keepf hLe (w1.heap.size) (by (try simp) <;> omega) i
                  have kz : w1.heap.size < w'.heap.size := (by have := hLe.size; (try simp at this); omega)
                  refine wpOp_plain rfl rfl (fun K hK => ?_)
                  go_simp
                  exact hK _ _ ⟨_, rfl, Below.refl _ _, rfl⟩
                apply free_is
                · intro a' w' hLe hfr hdep
                  have e9 := hfr 9 rfl
                  conv at e9 => rhs; whnf
                  have f9 := e9; simp only [Array.getD_eq_getD_getElem?] at f9
                  refine wpOp_plain rfl rfl (fun K hK => ?_)
                  go_simp
                  exact hK _ _ ⟨_, rfl, Below.refl _ _, rfl⟩
                apply free_is
                · intro a' w' hLe hfr hdep
                  have e88 : a'.tmps.getD 88 undef = _ := hdep 1 88 (Nat.le_of_ble_eq_true rfl) rfl rfl
                  conv at e88 => rhs; whnf
                  have f88 := e88; simp only [Array.getD_eq_getD_getElem?] at f88
                  have e89 : a'.tmps.getD 89 undef = _ := hdep 2 89 (Nat.le_of_ble_eq_true rfl) rfl rfl
                  conv at e89 => rhs; whnf
                  have f89 := e89; simp only [Array.getD_eq_getD_getElem?] at f89
                  have kc := fun i => keepc hLe (w1.heap.size) (by (try simp) <;> omega) i
                  have kf := fun i => keepf hLe (w1.heap.size) (by (try simp) <;> omega) i
                  have kz : w1.heap.size < w'.heap.size := (by have := hLe.size; (try simp at this); omega)
                  refine wpOp_plain rfl rfl (fun K hK => ?_)
                  go_simp
                  refine (implPrefixHas_any _ _ _ _).mono ?_
                  rintro e w2 ⟨rfl, hb⟩
                  exact hK _ _ ⟨_, rfl, hb, rfl⟩
                apply free_is
                · intro a' w' hLe hfr hdep
                  have e90 : a'.tmps.getD 90 undef = _ := hdep 3 90 (Nat.le_of_ble_eq_true rfl) rfl rfl
                  conv at e90 => rhs; whnf
                  have f90 := e90; simp only [Array.getD_eq_getD_getElem?] at f90
                  refine wpOp_plain rfl rfl (fun K hK => ?_)
                  go_simp
                  exact hK _ _ ⟨_, rfl, Below.refl _ _, rfl⟩
                apply free_is
                · intro a' w' hLe hfr hdep
                  have e91 : a'.tmps.getD 91 undef = _ := hdep 4 91 (Nat.le_of_ble_eq_true rfl) rfl rfl
                  conv at e91 => rhs; whnf
                  have f91 := e91; simp only [Array.getD_eq_getD_getElem?] at f91
                  have e10 := hfr 10 rfl
                  conv at e10 => rhs; whnf
                  have f10 := e10; simp only [Array.getD_eq_getD_getElem?] at f10
                  refine wpOp_yes rfl rfl rfl e91 (fun K hK => ?_)
                  go_simp
                  exact hK _ _ ⟨_, rfl, Below.refl _ _, rfl⟩
                apply free_is
                · intro a' w' hLe hfr hdep
                  have e91 : a'.tmps.getD 91 undef = _ := hdep 4 91 (Nat.le_of_ble_eq_true rfl) rfl rfl
                  conv at e91 => rhs; whnf
                  have f91 := e91; simp only [Array.getD_eq_getD_getElem?] at f91
                  have e92 : a'.tmps.getD 92 undef = _ := hdep 5 92 (Nat.le_of_ble_eq_true rfl) rfl rfl
                  conv at e92 => rhs; whnf
                  have f92 := e92; simp only [Array.getD_eq_getD_getElem?] at f92
                  refine wpOp_yes rfl rfl rfl e91 (fun K hK => ?_)
                  go_simp
                  exact hK _ _ ⟨_, rfl, Below.refl _ _, rfl⟩
                apply free_is
                · intro a' w' hLe hfr hdep
                  have e91 : a'.tmps.getD 91 undef = _ := hdep 4 91 (Nat.le_of_ble_eq_true rfl) rfl rfl
                  conv at e91 => rhs; whnf
                  have f91 := e91; simp only [Array.getD_eq_getD_getElem?] at f91
                  have e93 : a'.tmps.getD 93 undef = _ := hdep 6 93 (Nat.le_of_ble_eq_true rfl) rfl rfl
                  conv at e93 => rhs; whnf
                  have f93 := e93; simp only [Array.getD_eq_getD_getElem?] at f93
                  refine wpOp_plain rfl rfl (fun K hK => ?_)
                  go_simp
                  exact hK _ _ ⟨_, rfl, Below.refl _ _, rfl⟩
                apply free_is
                · intro a' w' hLe hfr hdep
                  have e94 : a'.tmps.getD 94 undef = _ := hdep 7 94 (Nat.le_of_ble_eq_true rfl) rfl rfl
                  conv at e94 => rhs; whnf
                  have f94 := e94; simp only [Array.getD_eq_getD_getElem?] at f94
                  refine wpOp_plain rfl rfl (fun K hK => ?_)
                  go_simp
                  exact hK _ _ ⟨_, rfl, Below.refl _ _, rfl⟩
                apply free_is
                · intro a' w' hLe hfr hdep
                  have e95 : a'.tmps.getD 95 undef = _ := hdep 8 95 (Nat.le_of_ble_eq_true rfl) rfl rfl
                  conv at e95 => rhs; whnf
                  have f95 := e95; simp only [Array.getD_eq_getD_getElem?] at f95
                  exact wpOp_no rfl rfl rfl e95 ⟨_, rfl, Below.refl _ _, rfl⟩
                apply free_is
                · intro a' w' hLe hfr hdep
                  have e95 : a'.tmps.getD 95 undef = _ := hdep 8 95 (Nat.le_of_ble_eq_true rfl) rfl rfl
                  conv at e95 => rhs; whnf
                  have f95 := e95; simp only [Array.getD_eq_getD_getElem?] at f95
                  exact wpOp_no rfl rfl rfl e95 ⟨_, rfl, Below.refl _ _, rfl⟩
                apply free_is
                · intro a' w' hLe hfr hdep
                  have e95 : a'.tmps.getD 95 undef = _ := hdep 8 95 (Nat.le_of_ble_eq_true rfl) rfl rfl
                  conv at e95 => rhs; whnf
                  have f95 := e95; simp only [Array.getD_eq_getD_getElem?] at f95
                  exact wpOp_no rfl rfl rfl e95 ⟨_, rfl, Below.refl _ _, rfl⟩
                apply free_is
                · intro a' w' hLe hfr hdep
                  have e95 : a'.tmps.getD 95 undef = _ := hdep 8 95 (Nat.le_of_ble_eq_true rfl) rfl rfl
                  conv at e95 => rhs; whnf
                  have f95 := e95; simp only [Array.getD_eq_getD_getElem?] at f95
                  exact wpOp_no rfl rfl rfl e95 ⟨_, rfl, Below.refl _ _, rfl⟩
                apply free_is
                · intro a' w' hLe hfr hdep
                  have e95 : a'.tmps.getD 95 undef = _ := hdep 8 95 (Nat.le_of_ble_eq_true rfl) rfl rfl
                  conv at e95 => rhs; whnf
                  have f95 := e95; simp only [Array.getD_eq_getD_getElem?] at f95
                  exact wpOp_no rfl rfl rfl e95 ⟨_, rfl, Below.refl _ _, rfl⟩
                apply free_is
                · intro a' w' hLe hfr hdep
                  have e95 : a'.tmps.getD 95 undef = _ := hdep 8 95 (Nat.le_of_ble_eq_true rfl) rfl rfl
                  conv at e95 => rhs; whnf
                  have f95 := e95; simp only [Array.getD_eq_getD_getElem?] at f95
                  exact wpOp_no rfl rfl rfl e95 ⟨_, rfl, Below.refl _ _, rfl⟩
                apply free_is
                · intro a' w' hLe hfr hdep
                  have e95 : a'.tmps.getD 95 undef = _ := hdep 8 95 (Nat.le_of_ble_eq_true rfl) rfl rfl
                  conv at e95 => rhs; whnf
                  have f95 := e95; simp only [Array.getD_eq_getD_getElem?] at f95
                  have e101 : a'.tmps.getD 101 undef = _ := hdep 14 101 (Nat.le_of_ble_eq_true rfl) rfl rfl
                  conv at e101 => rhs; whnf
                  have f101 := e101; simp only [Array.getD_eq_getD_getElem?] at f101
                  refine wpOp_plain rfl rfl (fun K hK => ?_)
                  go_simp
                  exact hK _ _ ⟨_, rfl, Below.refl _ _, rfl⟩
                apply free_nil
                intro vs w7 hb7 hT7
                have e87 : vs 0 = _ := hT7 0 87 rfl
                conv at e87 => rhs; whnf
                have e88 : vs 1 = _ := hT7 1 88 rfl
                conv at e88 => rhs; whnf
                have e89 : vs 2 = _ := hT7 2 89 rfl
                conv at e89 => rhs; whnf
                have e90 : vs 3 = _ := hT7 3 90 rfl
                conv at e90 => rhs; whnf
                have e91 : vs 4 = _ := hT7 4 91 rfl
                conv at e91 => rhs; whnf
                have e92 : vs 5 = _ := hT7 5 92 rfl
                conv at e92 => rhs; whnf
                have e93 : vs 6 = _ := hT7 6 93 rfl
                conv at e93 => rhs; whnf
                have e94 : vs 7 = _ := hT7 7 94 rfl
                conv at e94 => rhs; whnf
                have e95 : vs 8 = _ := hT7 8 95 rfl
                conv at e95 => rhs; whnf
                have e96 : vs 9 = _ := hT7 9 96 rfl
                conv at e96 => rhs; whnf
                have e97 : vs 10 = _ := hT7 10 97 rfl
                conv at e97 => rhs; whnf
                have e98 : vs 11 = _ := hT7 11 98 rfl
                conv at e98 => rhs; whnf
                have e99 : vs 12 = _ := hT7 12 99 rfl
                conv at e99 => rhs; whnf
                have e100 : vs 13 = _ := hT7 13 100 rfl
                conv at e100 => rhs; whnf
                have e101 : vs 14 = _ := hT7 14 101 rfl
                conv at e101 => rhs; whnf
                have e102 : vs 15 = _ := hT7 15 102 rfl
                conv at e102 => rhs; whnf
                simp only [putAll, List.drop_succ_cons, List.drop_zero, e87, e88, e89, e90, e91, e92, e93, e94, e95, e96, e97, e98, e99, e100, e101, e102]
                clear hT7 e87 e88 e89 e90 e91 e92 e93 e94 e95 e96 e97 e98 e99 e100 e101 e102
                go_simp
                have q7 := (hb7.block w1.heap.size hsri).trans qi
                obtain ⟨c7, f7⟩ := blk q7
                have hs7 := heap_lt q7
                go_wp2_with fail
                refine (implPrefixHas_any _ _ _ _).mono ?_
                rintro e w8 ⟨rfl, hb8⟩
                have hb78 := Below.tr hb7 hb8
                go_wp2_with fail
                refine (implRouteFor_any _ (G5.out.below hb78) hb78.size).mono ?_
                rintro e w9 ⟨rfl, hb9⟩
                rw [HRO.out]
                have hb79 := Below.tr hb78 hb9
                go_wp2_with fail
                refine (implRouteFor_any _ (H5.out.below hb79) hb79.size).mono ?_
                rintro e w10 ⟨rfl, hb10⟩
                go_wp2_with fail
                go_roundw
                case rel => exact ⟨ad + 1, by omega, by go_num, Below.tr (Below.tr (Below.tr hBw hBi) hb79) hb10⟩
                case measure => simp [intOf]; omega
              | false =>
                go_wp2
                refine wp_region_free (ds := [(0, 87), (1, 88), (2, 89), (3, 90), (4, 91), (5, 92), (6, 93), (7, 94), (8, 95), (9, 96), (10, 97), (11, 98), (12, 99), (13, 100), (14, 101), (15, 102)]) 16 (by kernel_rfl) (by kernel_rfl) (by first | exact .inl rfl | exact .inr (by kernel_rfl)) (by rfl) rfl rfl ?_
                apply free_is
                · intro a' w' hLe hfr hdep
                  have e4 := hfr 4 rfl
                  conv at e4 => rhs; whnf
                  have f4 := e4; simp only [Array.getD_eq_getD_getElem?] at f4
                  refine wpOp_plain rfl rfl (fun K hK => ?_)
                  go_simp
                  exact hK _ _ ⟨_, rfl, Below.refl _ _, rfl⟩
                apply free_is
                · intro a' w' hLe hfr hdep
                  have e87 : a'.tmps.getD 87 undef = _ := hdep 0 87 (Nat.le_of_ble_eq_true rfl) rfl rfl
                  conv at e87 => rhs; whnf
                  have f87 := e87; simp only [Array.getD_eq_getD_getElem?] at f87
                  have kc := fun i => keepc hLe (w1.heap.size) (by (try simp) <;> omega) i
                  have kf := fun i => keepf hLe (w1.heap.size) (by (try simp) <;> omega) i
                  have kz : w1.heap.size < w'.heap.size := (by have := hLe.size; (try simp at this); omega)
                  refine wpOp_plain rfl rfl (fun K hK => ?_)
                  go_simp
                  exact hK _ _ ⟨_, rfl, Below.refl _ _, rfl⟩
                apply free_is
                · intro a' w' hLe hfr hdep
                  have e9 := hfr 9 rfl
                  conv at e9 => rhs; whnf
                  have f9 := e9; simp only [Array.getD_eq_getD_getElem?] at f9
                  refine wpOp_plain rfl rfl (fun K hK => ?_)
                  go_simp
                  exact hK _ _ ⟨_, rfl, Below.refl _ _, rfl⟩
                apply free_is
                · intro a' w' hLe hfr hdep
                  have e88 : a'.tmps.getD 88 undef = _ := hdep 1 88 (Nat.le_of_ble_eq_true rfl) rfl rfl
                  conv at e88 => rhs; whnf
                  have f88 := e88; simp only [Array.getD_eq_getD_getElem?] at f88
                  have e89 : a'.tmps.getD 89 undef = _ := hdep 2 89 (Nat.le_of_ble_eq_true rfl) rfl rfl
                  conv at e89 => rhs; whnf
                  have f89 := e89; simp only [Array.getD_eq_getD_getElem?] at f89
                  have kc := fun i => keepc hLe (w1.heap.size) (by (try simp) <;> omega) i
                  have kf := fun i => keepf hLe (w1.heap.size) (by (try simp) <;> omega) i
                  have kz : w1.heap.size < w'.heap.size := (by have := hLe.size; (try simp at this); omega)
                  refine wpOp_plain rfl rfl (fun K hK => ?_)
                  go_simp
                  refine (implPrefixHas_any _ _ _ _).mono ?_
                  rintro e w2 ⟨rfl, hb⟩
                  exact hK _ _ ⟨_, rfl, hb, rfl⟩
                apply free_is
                · intro a' w' hLe hfr hdep
                  have e90 : a'.tmps.getD 90 undef = _ := hdep 3 90 (Nat.le_of_ble_eq_true rfl) rfl rfl
                  conv at e90 => rhs; whnf
                  have f90 := e90; simp only [Array.getD_eq_getD_getElem?] at f90
                  refine wpOp_plain rfl rfl (fun K hK => ?_)
                  go_simp
                  exact hK _ _ ⟨_, rfl, Below.refl _ _, rfl⟩
                apply free_is
                · intro a' w' hLe hfr hdep
                  have e91 : a'.tmps.getD 91 undef = _ := hdep 4 91 (Nat.le_of_ble_eq_true rfl) rfl rfl
                  conv at e91 => rhs; whnf
                  have f91 := e91; simp only [Array.getD_eq_getD_getElem?] at f91
                  exact wpOp_no rfl rfl rfl e91 ⟨_, rfl, Below.refl _ _, rfl⟩
                apply free_is
                · intro a' w' hLe hfr hdep
                  have e91 : a'.tmps.getD 91 undef = _ := hdep 4 91 (Nat.le_of_ble_eq_true rfl) rfl rfl
                  conv at e91 => rhs; whnf
                  have f91 := e91; simp only [Array.getD_eq_getD_getElem?] at f91
                  exact wpOp_no rfl rfl rfl e91 ⟨_, rfl, Below.refl _ _, rfl⟩
                apply free_is
                · intro a' w' hLe hfr hdep
                  have e91 : a'.tmps.getD 91 undef = _ := hdep 4 91 (Nat.le_of_ble_eq_true rfl) rfl rfl
                  conv at e91 => rhs; whnf
                  have f91 := e91; simp only [Array.getD_eq_getD_getElem?] at f91
                  have e93 : a'.tmps.getD 93 undef = _ := hdep 6 93 (Nat.le_of_ble_eq_true rfl) rfl rfl
                  conv at e93 => rhs; whnf
                  have f93 := e93; simp only [Array.getD_eq_getD_getElem?] at f93
                  refine wpOp_plain rfl rfl (fun K hK => ?_)
                  go_simp
                  exact hK _ _ ⟨_, rfl, Below.refl _ _, rfl⟩
                apply free_is
                · intro a' w' hLe hfr hdep
                  have e94 : a'.tmps.getD 94 undef = _ := hdep 7 94 (Nat.le_of_ble_eq_true rfl) rfl rfl
                  conv at e94 => rhs; whnf
                  have f94 := e94; simp only [Array.getD_eq_getD_getElem?] at f94
                  refine wpOp_plain rfl rfl (fun K hK => ?_)
                  go_simp
                  exact hK _ _ ⟨_, rfl, Below.refl _ _, rfl⟩
                apply free_is
                · intro a' w' hLe hfr hdep
                  have e95 : a'.tmps.getD 95 undef = _ := hdep 8 95 (Nat.le_of_ble_eq_true rfl) rfl rfl
                  conv at e95 => rhs; whnf
                  have f95 := e95; simp only [Array.getD_eq_getD_getElem?] at f95
                  exact wpOp_no rfl rfl rfl e95 ⟨_, rfl, Below.refl _ _, rfl⟩
                apply free_is
                · intro a' w' hLe hfr hdep
                  have e95 : a'.tmps.getD 95 undef = _ := hdep 8 95 (Nat.le_of_ble_eq_true rfl) rfl rfl
                  conv at e95 => rhs; whnf
                  have f95 := e95; simp only [Array.getD_eq_getD_getElem?] at f95
                  exact wpOp_no rfl rfl rfl e95 ⟨_, rfl, Below.refl _ _, rfl⟩
                apply free_is
                · intro a' w' hLe hfr hdep
                  have e95 : a'.tmps.getD 95 undef = _ := hdep 8 95 (Nat.le_of_ble_eq_true rfl) rfl rfl
                  conv at e95 => rhs; whnf
                  have f95 := e95; simp only [Array.getD_eq_getD_getElem?] at f95
                  exact wpOp_no rfl rfl rfl e95 ⟨_, rfl, Below.refl _ _, rfl⟩
                apply free_is
                · intro a' w' hLe hfr hdep
                  have e95 : a'.tmps.getD 95 undef = _ := hdep 8 95 (Nat.le_of_ble_eq_true rfl) rfl rfl
                  conv at e95 => rhs; whnf
                  have f95 := e95; simp only [Array.getD_eq_getD_getElem?] at f95
                  exact wpOp_no rfl rfl rfl e95 ⟨_, rfl, Below.refl _ _, rfl⟩
                apply free_is
                · intro a' w' hLe hfr hdep
                  have e95 : a'.tmps.getD 95 undef = _ := hdep 8 95 (Nat.le_of_ble_eq_true rfl) rfl rfl
                  conv at e95 => rhs; whnf
                  have f95 := e95; simp only [Array.getD_eq_getD_getElem?] at f95
                  exact wpOp_no rfl rfl rfl e95 ⟨_, rfl, Below.refl _ _, rfl⟩
                apply free_is
                · intro a' w' hLe hfr hdep
                  have e95 : a'.tmps.getD 95 undef = _ := hdep 8 95 (Nat.le_of_ble_eq_true rfl) rfl rfl
                  conv at e95 => rhs; whnf
                  have f95 := e95; simp only [Array.getD_eq_getD_getElem?] at f95
                  exact wpOp_no rfl rfl rfl e95 ⟨_, rfl, Below.refl _ _, rfl⟩
                apply free_is
                · intro a' w' hLe hfr hdep
                  have e95 : a'.tmps.getD 95 undef = _ := hdep 8 95 (Nat.le_of_ble_eq_true rfl) rfl rfl
                  conv at e95 => rhs; whnf
                  have f95 := e95; simp only [Array.getD_eq_getD_getElem?] at f95
                  have e101 : a'.tmps.getD 101 undef = _ := hdep 14 101 (Nat.le_of_ble_eq_true rfl) rfl rfl
                  conv at e101 => rhs; whnf
                  have f101 := e101; simp only [Array.getD_eq_getD_getElem?] at f101
                  refine wpOp_plain rfl rfl (fun K hK => ?_)
                  go_simp
                  exact hK _ _ ⟨_, rfl, Below.refl _ _, rfl⟩
                apply free_nil
                intro vs w7 hb7 hT7
                have e87 : vs 0 = _ := hT7 0 87 rfl
                conv at e87 => rhs; whnf
                have e88 : vs 1 = _ := hT7 1 88 rfl
                conv at e88 => rhs; whnf
                have e89 : vs 2 = _ := hT7 2 89 rfl
                conv at e89 => rhs; whnf
                have e90 : vs 3 = _ := hT7 3 90 rfl
                conv at e90 => rhs; whnf
                have e91 : vs 4 = _ := hT7 4 91 rfl
                conv at e91 => rhs; whnf
                have e92 : vs 5 = _ := hT7 5 92 rfl
                conv at e92 => rhs; whnf
                have e93 : vs 6 = _ := hT7 6 93 rfl
                conv at e93 => rhs; whnf
                have e94 : vs 7 = _ := hT7 7 94 rfl
                conv at e94 => rhs; whnf
                have e95 : vs 8 = _ := hT7 8 95 rfl
                conv at e95 => rhs; whnf
                have e96 : vs 9 = _ := hT7 9 96 rfl
                conv at e96 => rhs; whnf
                have e97 : vs 10 = _ := hT7 10 97 rfl
                conv at e97 => rhs; whnf
                have e98 : vs 11 = _ := hT7 11 98 rfl
                conv at e98 => rhs; whnf
                have e99 : vs 12 = _ := hT7 12 99 rfl
                conv at e99 => rhs; whnf
                have e100 : vs 13 = _ := hT7 13 100 rfl
                conv at e100 => rhs; whnf
                have e101 : vs 14 = _ := hT7 14 101 rfl
                conv at e101 => rhs; whnf
                have e102 : vs 15 = _ := hT7 15 102 rfl
                conv at e102 => rhs; whnf
                simp only [putAll, List.drop_succ_cons, List.drop_zero, e87, e88, e89, e90, e91, e92, e93, e94, e95, e96, e97, e98, e99, e100, e101, e102]
                clear hT7 e87 e88 e89 e90 e91 e92 e93 e94 e95 e96 e97 e98 e99 e100 e101 e102
                go_simp
                have q7 := (hb7.block w1.heap.size hsri).trans qi
                obtain ⟨c7, f7⟩ := blk q7
                have hs7 := heap_lt q7
                go_wp2_with fail
                refine (implPrefixHas_any _ _ _ _).mono ?_
                rintro e w8 ⟨rfl, hb8⟩
                have hb78 := Below.tr hb7 hb8
                go_wp2_with fail
                refine (implRouteFor_any _ (G5.out.below hb78) hb78.size).mono ?_
                rintro e w9 ⟨rfl, hb9⟩
                rw [HRO.out]
                have hb79 := Below.tr hb78 hb9
                go_wp2_with fail
                refine (implRouteFor_any _ (H5.out.below hb79) hb79.size).mono ?_
                rintro e w10 ⟨rfl, hb10⟩
                go_wp2_with fail
                go_roundw
                case rel => exact ⟨ad + 1, by omega, by go_num, Below.tr (Below.tr (Below.tr hBw hBi) hb79) hb10⟩
                case measure => simp [intOf]; omega
            | false =>
              cases hh : hasB x y ad with
              | true =>
                have HRN := route_new HV.out HL.out hh hlg
                clear hlg
                go_wp2
                refine wp_region_free (ds := [(0, 87), (1, 88), (2, 89), (3, 90), (4, 91), (5, 92), (6, 93), (7, 94), (8, 95), (9, 96), (10, 97), (11, 98), (12, 99), (13, 100), (14, 101), (15, 102)]) 16 (by kernel_rfl) (by kernel_rfl) (by first | exact .inl rfl | exact .inr (by kernel_rfl)) (by rfl) rfl rfl ?_
                apply free_is
                · intro a' w' hLe hfr hdep
                  have e4 := hfr 4 rfl
                  conv at e4 => rhs; whnf
                  have f4 := e4; simp only [Array.getD_eq_getD_getElem?] at f4
                  refine wpOp_plain rfl rfl (fun K hK => ?_)
                  go_simp
                  exact hK _ _ ⟨_, rfl, Below.refl _ _, rfl⟩
                apply free_is
                · intro a' w' hLe hfr hdep
                  have e87 : a'.tmps.getD 87 undef = _ := hdep 0 87 (Nat.le_of_ble_eq_true rfl) rfl rfl
                  conv at e87 => rhs; whnf
                  have f87 := e87; simp only [Array.getD_eq_getD_getElem?] at f87
                  have kc := fun i => keepc hLe (w1.heap.size) (by (try simp) <;> omega) i
                  have kf := fun i => keepf hLe (w1.heap.size) (by (try simp) <;> omega) i
                  have kz : w1.heap.size < w'.heap.size := (by have := hLe.size; (try simp at this); omega)
                  refine wpOp_plain rfl rfl (fun K hK => ?_)
                  go_simp
                  exact hK _ _ ⟨_, rfl, Below.refl _ _, rfl⟩
                apply free_is
                · intro a' w' hLe hfr hdep
                  have e9 := hfr 9 rfl
                  conv at e9 => rhs; whnf
                  have f9 := e9; simp only [Array.getD_eq_getD_getElem?] at f9
                  refine wpOp_plain rfl rfl (fun K hK => ?_)
                  go_simp
                  exact hK _ _ ⟨_, rfl, Below.refl _ _, rfl⟩
                apply free_is
                · intro a' w' hLe hfr hdep
                  have e88 : a'.tmps.getD 88 undef = _ := hdep 1 88 (Nat.le_of_ble_eq_true rfl) rfl rfl
                  conv at e88 => rhs; whnf
                  have f88 := e88; simp only [Array.getD_eq_getD_getElem?] at f88
                  have e89 : a'.tmps.getD 89 undef = _ := hdep 2 89 (Nat.le_of_ble_eq_true rfl) rfl rfl
                  conv at e89 => rhs; whnf
                  have f89 := e89; simp only [Array.getD_eq_getD_getElem?] at f89
                  have kc := fun i => keepc hLe (w1.heap.size) (by (try simp) <;> omega) i
                  have kf := fun i => keepf hLe (w1.heap.size) (by (try simp) <;> omega) i
                  have kz : w1.heap.size < w'.heap.size := (by have := hLe.size; (try simp at this); omega)
                  refine wpOp_plain rfl rfl (fun K hK => ?_)
                  go_simp
                  refine (implPrefixHas_any _ _ _ _).mono ?_
                  rintro e w2 ⟨rfl, hb⟩
                  exact hK _ _ ⟨_, rfl, hb, rfl⟩
                apply free_is
                · intro a' w' hLe hfr hdep
                  have e90 : a'.tmps.getD 90 undef = _ := hdep 3 90 (Nat.le_of_ble_eq_true rfl) rfl rfl
                  conv at e90 => rhs; whnf
                  have f90 := e90; simp only [Array.getD_eq_getD_getElem?] at f90
                  refine wpOp_plain rfl rfl (fun K hK => ?_)
                  go_simp
                  exact hK _ _ ⟨_, rfl, Below.refl _ _, rfl⟩
                apply free_is
                · intro a' w' hLe hfr hdep
                  have e91 : a'.tmps.getD 91 undef = _ := hdep 4 91 (Nat.le_of_ble_eq_true rfl) rfl rfl
                  conv at e91 => rhs; whnf
                  have f91 := e91; simp only [Array.getD_eq_getD_getElem?] at f91
                  have e10 := hfr 10 rfl
                  conv at e10 => rhs; whnf
                  have f10 := e10; simp only [Array.getD_eq_getD_getElem?] at f10
                  refine wpOp_yes rfl rfl rfl e91 (fun K hK => ?_)
                  go_simp
                  exact hK _ _ ⟨_, rfl, Below.refl _ _, rfl⟩
                apply free_is
                · intro a' w' hLe hfr hdep
                  have e91 : a'.tmps.getD 91 undef = _ := hdep 4 91 (Nat.le_of_ble_eq_true rfl) rfl rfl
                  conv at e91 => rhs; whnf
                  have f91 := e91; simp only [Array.getD_eq_getD_getElem?] at f91
                  have e92 : a'.tmps.getD 92 undef = _ := hdep 5 92 (Nat.le_of_ble_eq_true rfl) rfl rfl
                  conv at e92 => rhs; whnf
                  have f92 := e92; simp only [Array.getD_eq_getD_getElem?] at f92
                  refine wpOp_yes rfl rfl rfl e91 (fun K hK => ?_)
                  go_simp
                  exact hK _ _ ⟨_, rfl, Below.refl _ _, rfl⟩
                apply free_is
                · intro a' w' hLe hfr hdep
                  have e91 : a'.tmps.getD 91 undef = _ := hdep 4 91 (Nat.le_of_ble_eq_true rfl) rfl rfl
                  conv at e91 => rhs; whnf
                  have f91 := e91; simp only [Array.getD_eq_getD_getElem?] at f91
                  have e93 : a'.tmps.getD 93 undef = _ := hdep 6 93 (Nat.le_of_ble_eq_true rfl) rfl rfl
                  conv at e93 => rhs; whnf
                  have f93 := e93; simp only [Array.getD_eq_getD_getElem?] at f93
                  refine wpOp_plain rfl rfl (fun K hK => ?_)
                  go_simp
                  exact hK _ _ ⟨_, rfl, Below.refl _ _, rfl⟩
                apply free_is
                · intro a' w' hLe hfr hdep
                  have e94 : a'.tmps.getD 94 undef = _ := hdep 7 94 (Nat.le_of_ble_eq_true rfl) rfl rfl
                  conv at e94 => rhs; whnf
                  have f94 := e94; simp only [Array.getD_eq_getD_getElem?] at f94
                  refine wpOp_plain rfl rfl (fun K hK => ?_)
                  go_simp
                  exact hK _ _ ⟨_, rfl, Below.refl _ _, rfl⟩
                apply free_is
                · intro a' w' hLe hfr hdep
                  have e95 : a'.tmps.getD 95 undef = _ := hdep 8 95 (Nat.le_of_ble_eq_true rfl) rfl rfl
                  conv at e95 => rhs; whnf
                  have f95 := e95; simp only [Array.getD_eq_getD_getElem?] at f95
                  have e5 := hfr 5 rfl
                  conv at e5 => rhs; whnf
                  have f5 := e5; simp only [Array.getD_eq_getD_getElem?] at f5
                  refine wpOp_yes rfl rfl rfl e95 (fun K hK => ?_)
                  go_simp
                  exact hK _ _ ⟨_, rfl, Below.refl _ _, rfl⟩
                apply free_is
                · intro a' w' hLe hfr hdep
                  have e95 : a'.tmps.getD 95 undef = _ := hdep 8 95 (Nat.le_of_ble_eq_true rfl) rfl rfl
                  conv at e95 => rhs; whnf
                  have f95 := e95; simp only [Array.getD_eq_getD_getElem?] at f95
                  have e9 := hfr 9 rfl
                  conv at e9 => rhs; whnf
                  have f9 := e9; simp only [Array.getD_eq_getD_getElem?] at f9
                  refine wpOp_yes rfl rfl rfl e95 (fun K hK => ?_)
                  go_simp
                  exact hK _ _ ⟨_, rfl, Below.refl _ _, rfl⟩
                apply free_is
                · intro a' w' hLe hfr hdep
                  have e95 : a'.tmps.getD 95 undef = _ := hdep 8 95 (Nat.le_of_ble_eq_true rfl) rfl rfl
                  conv at e95 => rhs; whnf
                  have f95 := e95; simp only [Array.getD_eq_getD_getElem?] at f95
                  have e96 : a'.tmps.getD 96 undef = _ := hdep 9 96 (Nat.le_of_ble_eq_true rfl) rfl rfl
                  conv at e96 => rhs; whnf
                  have f96 := e96; simp only [Array.getD_eq_getD_getElem?] at f96
                  have e97 : a'.tmps.getD 97 undef = _ := hdep 10 97 (Nat.le_of_ble_eq_true rfl) rfl rfl
                  conv at e97 => rhs; whnf
                  have f97 := e97; simp only [Array.getD_eq_getD_getElem?] at f97
                  have kc := fun i => keepc hLe (w1.heap.size) (by (try simp) <;> omega) i
                  have kf := fun i => keepf hLe (w1.heap.size) (by (try simp) <;> omega) i
                  have kz : w1.heap.size < w'.heap.size := (by have := hLe.size; (try simp at this); omega)
                  refine wpOp_yes rfl rfl rfl e95 (fun K hK => ?_)
                  go_simp
                  refine (implRouteFor_any _ (G5.out.below hLe) hLe.size).mono ?_
                  rintro e w2 ⟨rfl, hb⟩
                  exact hK _ _ ⟨_, rfl, hb, rfl⟩
                apply free_is
                · intro a' w' hLe hfr hdep
                  have e95 : a'.tmps.getD 95 undef = _ := hdep 8 95 (Nat.le_of_ble_eq_true rfl) rfl rfl
                  conv at e95 => rhs; whnf
                  have f95 := e95; simp only [Array.getD_eq_getD_getElem?] at f95
                  have e4 := hfr 4 rfl
                  conv at e4 => rhs; whnf
                  have f4 := e4; simp only [Array.getD_eq_getD_getElem?] at f4
                  refine wpOp_yes rfl rfl rfl e95 (fun K hK => ?_)
                  go_simp
                  exact hK _ _ ⟨_, rfl, Below.refl _ _, rfl⟩
                apply free_is
                · intro a' w' hLe hfr hdep
                  have e95 : a'.tmps.getD 95 undef = _ := hdep 8 95 (Nat.le_of_ble_eq_true rfl) rfl rfl
                  conv at e95 => rhs; whnf
                  have f95 := e95; simp only [Array.getD_eq_getD_getElem?] at f95
                  have e99 : a'.tmps.getD 99 undef = _ := hdep 12 99 (Nat.le_of_ble_eq_true rfl) rfl rfl
                  conv at e99 => rhs; whnf
                  have f99 := e99; simp only [Array.getD_eq_getD_getElem?] at f99
                  have kc := fun i => keepc hLe (w1.heap.size) (by (try simp) <;> omega) i
                  have kf := fun i => keepf hLe (w1.heap.size) (by (try simp) <;> omega) i
                  have kz : w1.heap.size < w'.heap.size := (by have := hLe.size; (try simp at this); omega)
                  refine wpOp_yes rfl rfl rfl e95 (fun K hK => ?_)
                  go_simp
                  exact hK _ _ ⟨_, rfl, Below.refl _ _, rfl⟩
                apply free_is
                · intro a' w' hLe hfr hdep
                  have e95 : a'.tmps.getD 95 undef = _ := hdep 8 95 (Nat.le_of_ble_eq_true rfl) rfl rfl
                  conv at e95 => rhs; whnf
                  have f95 := e95; simp only [Array.getD_eq_getD_getElem?] at f95
                  have e98 : a'.tmps.getD 98 undef = _ := hdep 11 98 (Nat.le_of_ble_eq_true rfl) rfl rfl
                  conv at e98 => rhs; whnf
                  have f98 := e98; simp only [Array.getD_eq_getD_getElem?] at f98
                  have e100 : a'.tmps.getD 100 undef = _ := hdep 13 100 (Nat.le_of_ble_eq_true rfl) rfl rfl
                  conv at e100 => rhs; whnf
                  have f100 := e100; simp only [Array.getD_eq_getD_getElem?] at f100
                  refine wpOp_yes rfl rfl rfl e95 (fun K hK => ?_)
                  go_simp
                  exact hK _ _ ⟨_, rfl, Below.refl _ _, rfl⟩
                apply free_is
                · intro a' w' hLe hfr hdep
                  have e95 : a'.tmps.getD 95 undef = _ := hdep 8 95 (Nat.le_of_ble_eq_true rfl) rfl rfl
                  conv at e95 => rhs; whnf
                  have f95 := e95; simp only [Array.getD_eq_getD_getElem?] at f95
                  have e101 : a'.tmps.getD 101 undef = _ := hdep 14 101 (Nat.le_of_ble_eq_true rfl) rfl rfl
                  conv at e101 => rhs; whnf
                  have f101 := e101; simp only [Array.getD_eq_getD_getElem?] at f101
                  refine wpOp_plain rfl rfl (fun K hK => ?_)
                  go_simp
                  exact hK _ _ ⟨_, rfl, Below.refl _ _, rfl⟩
                apply free_nil
                intro vs w7 hb7 hT7
                have e87 : vs 0 = _ := hT7 0 87 rfl
                conv at e87 => rhs; whnf
                have e88 : vs 1 = _ := hT7 1 88 rfl
                conv at e88 => rhs; whnf
                have e89 : vs 2 = _ := hT7 2 89 rfl
                conv at e89 => rhs; whnf
                have e90 : vs 3 = _ := hT7 3 90 rfl
                conv at e90 => rhs; whnf
                have e91 : vs 4 = _ := hT7 4 91 rfl
                conv at e91 => rhs; whnf
                have e92 : vs 5 = _ := hT7 5 92 rfl
                conv at e92 => rhs; whnf
                have e93 : vs 6 = _ := hT7 6 93 rfl
                conv at e93 => rhs; whnf
                have e94 : vs 7 = _ := hT7 7 94 rfl
                conv at e94 => rhs; whnf
                have e95 : vs 8 = _ := hT7 8 95 rfl
                conv at e95 => rhs; whnf
                have e96 : vs 9 = _ := hT7 9 96 rfl
                conv at e96 => rhs; whnf
                have e97 : vs 10 = _ := hT7 10 97 rfl
                conv at e97 => rhs; whnf
                have e98 : vs 11 = _ := hT7 11 98 rfl
                conv at e98 => rhs; whnf
                have e99 : vs 12 = _ := hT7 12 99 rfl
                conv at e99 => rhs; whnf
                have e100 : vs 13 = _ := hT7 13 100 rfl
                conv at e100 => rhs; whnf
                have e101 : vs 14 = _ := hT7 14 101 rfl
                conv at e101 => rhs; whnf
                have e102 : vs 15 = _ := hT7 15 102 rfl
                conv at e102 => rhs; whnf
                simp only [putAll, List.drop_succ_cons, List.drop_zero, e87, e88, e89, e90, e91, e92, e93, e94, e95, e96, e97, e98, e99, e100, e101, e102]
                clear hT7 e87 e88 e89 e90 e91 e92 e93 e94 e95 e96 e97 e98 e99 e100 e101 e102
                go_simp
                have q7 := (hb7.block w1.heap.size hsri).trans qi
                obtain ⟨c7, f7⟩ := blk q7
                have hs7 := heap_lt q7
                go_wp2_with fail
                refine (implPrefixHas_any _ _ _ _).mono ?_
                rintro e w8 ⟨rfl, hb8⟩
                go_wp2_with fail
                go_roundw
                case rel => exact ⟨ad + 1, by omega, by go_num, Below.tr (Below.tr (Below.tr hBw hBi) hb7) hb8⟩
                case measure => simp [intOf]; omega
              | false =>
                have HRO := Lib.hid (route_old HV0.out HV.out HL.out (.inl hh))
                clear hlg
                go_wp2
                refine wp_region_free (ds := [(0, 87), (1, 88), (2, 89), (3, 90), (4, 91), (5, 92), (6, 93), (7, 94), (8, 95), (9, 96), (10, 97), (11, 98), (12, 99), (13, 100), (14, 101), (15, 102)]) 16 (by kernel_rfl) (by kernel_rfl) (by first | exact .inl rfl | exact .inr (by kernel_rfl)) (by rfl) rfl rfl ?_
                apply free_is
                · intro a' w' hLe hfr hdep
                  have e4 := hfr 4 rfl
                  conv at e4 => rhs; whnf
                  have f4 := e4; simp only [Array.getD_eq_getD_getElem?] at f4
                  refine wpOp_plain rfl rfl (fun K hK => ?_)
                  go_simp
                  exact hK _ _ ⟨_, rfl, Below.refl _ _, rfl⟩
                apply free_is
                · intro a' w' hLe hfr hdep
                  have e87 : a'.tmps.getD 87 undef = _ := hdep 0 87 (Nat.le_of_ble_eq_true rfl) rfl rfl
                  conv at e87 => rhs; whnf
                  have f87 := e87; simp only [Array.getD_eq_getD_getElem?] at f87
                  have kc := fun i => keepc hLe (w1.heap.size) (by (try simp) <;> omega) i
                  have kf := fun i => keepf hLe (w1.heap.size) (by (try simp) <;> omega) i
                  have kz : w1.heap.size < w'.heap.size := (by have := hLe.size; (try simp at this); omega)
                  refine wpOp_plain rfl rfl (fun K hK => ?_)
                  go_simp
                  exact hK _ _ ⟨_, rfl, Below.refl _ _, rfl⟩
                apply free_is
                · intro a' w' hLe hfr hdep
                  have e9 := hfr 9 rfl
                  conv at e9 => rhs; whnf
                  have f9 := e9; simp only [Array.getD_eq_getD_getElem?] at f9
                  refine wpOp_plain rfl rfl (fun K hK => ?_)
                  go_simp
                  exact hK _ _ ⟨_, rfl, Below.refl _ _, rfl⟩
                apply free_is
                · intro a' w' hLe hfr hdep
                  have e88 : a'.tmps.getD 88 undef = _ := hdep 1 88 (Nat.le_of_ble_eq_true rfl) rfl rfl
                  conv at e88 => rhs; whnf
                  have f88 := e88; simp only [Array.getD_eq_getD_getElem?] at f88
                  have e89 : a'.tmps.getD 89 undef = _ := hdep 2 89 (Nat.le_of_ble_eq_true rfl) rfl rfl
                  conv at e89 => rhs; whnf
                  have f89 := e89; simp only [Array.getD_eq_getD_getElem?] at f89
                  have kc := fun i => keepc hLe (w1.heap.size) (by (try simp) <;> omega) i
                  have kf := fun i => keepf hLe (w1.heap.size) (by (try simp) <;> omega) i
                  have kz : w1.heap.size < w'.heap.size := (by have := hLe.size; (try simp at this); omega)
                  refine wpOp_plain rfl rfl (fun K hK => ?_)
                  go_simp
                  refine (implPrefixHas_any _ _ _ _).mono ?_
                  rintro e w2 ⟨rfl, hb⟩
                  exact hK _ _ ⟨_, rfl, hb, rfl⟩
                apply free_is
                · intro a' w' hLe hfr hdep
                  have e90 : a'.tmps.getD 90 undef = _ := hdep 3 90 (Nat.le_of_ble_eq_true rfl) rfl rfl
                  conv at e90 => rhs; whnf
                  have f90 := e90; simp only [Array.getD_eq_getD_getElem?] at f90
                  refine wpOp_plain rfl rfl (fun K hK => ?_)
                  go_simp
                  exact hK _ _ ⟨_, rfl, Below.refl _ _, rfl⟩
                apply free_is
                · intro a' w' hLe hfr hdep
                  have e91 : a'.tmps.getD 91 undef = _ := hdep 4 91 (Nat.le_of_ble_eq_true rfl) rfl rfl
                  conv at e91 => rhs; whnf
                  have f91 := e91; simp only [Array.getD_eq_getD_getElem?] at f91
                  exact wpOp_no rfl rfl rfl e91 ⟨_, rfl, Below.refl _ _, rfl⟩
                apply free_is
                · intro a' w' hLe hfr hdep
                  have e91 : a'.tmps.getD 91 undef = _ := hdep 4 91 (Nat.le_of_ble_eq_true rfl) rfl rfl
                  conv at e91 => rhs; whnf
                  have f91 := e91; simp only [Array.getD_eq_getD_getElem?] at f91
                  exact wpOp_no rfl rfl rfl e91 ⟨_, rfl, Below.refl _ _, rfl⟩
                apply free_is
                · intro a' w' hLe hfr hdep
                  have e91 : a'.tmps.getD 91 undef = _ := hdep 4 91 (Nat.le_of_ble_eq_true rfl) rfl rfl
                  conv at e91 => rhs; whnf
                  have f91 := e91; simp only [Array.getD_eq_getD_getElem?] at f91
                  have e93 : a'.tmps.getD 93 undef = _ := hdep 6 93 (Nat.le_of_ble_eq_true rfl) rfl rfl
                  conv at e93 => rhs; whnf
                  have f93 := e93; simp only [Array.getD_eq_getD_getElem?] at f93
                  refine wpOp_plain rfl rfl (fun K hK => ?_)
                  go_simp
                  exact hK _ _ ⟨_, rfl, Below.refl _ _, rfl⟩
                apply free_is
                · intro a' w' hLe hfr hdep
                  have e94 : a'.tmps.getD 94 undef = _ := hdep 7 94 (Nat.le_of_ble_eq_true rfl) rfl rfl
                  conv at e94 => rhs; whnf
                  have f94 := e94; simp only [Array.getD_eq_getD_getElem?] at f94
                  refine wpOp_plain rfl rfl (fun K hK => ?_)
                  go_simp
                  exact hK _ _ ⟨_, rfl, Below.refl _ _, rfl⟩
                apply free_is
                · intro a' w' hLe hfr hdep
                  have e95 : a'.tmps.getD 95 undef = _ := hdep 8 95 (Nat.le_of_ble_eq_true rfl) rfl rfl
                  conv at e95 => rhs; whnf
                  have f95 := e95; simp only [Array.getD_eq_getD_getElem?] at f95
                  exact wpOp_no rfl rfl rfl e95 ⟨_, rfl, Below.refl _ _, rfl⟩
                apply free_is
                · intro a' w' hLe hfr hdep
                  have e95 : a'.tmps.getD 95 undef = _ := hdep 8 95 (Nat.le_of_ble_eq_true rfl) rfl rfl
                  conv at e95 => rhs; whnf
                  have f95 := e95; simp only [Array.getD_eq_getD_getElem?] at f95
                  exact wpOp_no rfl rfl rfl e95 ⟨_, rfl, Below.refl _ _, rfl⟩
                apply free_is
                · intro a' w' hLe hfr hdep
                  have e95 : a'.tmps.getD 95 undef = _ := hdep 8 95 (Nat.le_of_ble_eq_true rfl) rfl rfl
                  conv at e95 => rhs; whnf
                  have f95 := e95; simp only [Array.getD_eq_getD_getElem?] at f95
                  exact wpOp_no rfl rfl rfl e95 ⟨_, rfl, Below.refl _ _, rfl⟩
                apply free_is
                · intro a' w' hLe hfr hdep
                  have e95 : a'.tmps.getD 95 undef = _ := hdep 8 95 (Nat.le_of_ble_eq_true rfl) rfl rfl
                  conv at e95 => rhs; whnf
                  have f95 := e95; simp only [Array.getD_eq_getD_getElem?] at f95
                  exact wpOp_no rfl rfl rfl e95 ⟨_, rfl, Below.refl _ _, rfl⟩
                apply free_is
                · intro a' w' hLe hfr hdep
                  have e95 : a'.tmps.getD 95 undef = _ := hdep 8 95 (Nat.le_of_ble_eq_true rfl) rfl rfl
                  conv at e95 => rhs; whnf
                  have f95 := e95; simp only [Array.getD_eq_getD_getElem?] at f95
                  exact wpOp_no rfl rfl rfl e95 ⟨_, rfl, Below.refl _ _, rfl⟩
                apply free_is
                · intro a' w' hLe hfr hdep
                  have e95 : a'.tmps.getD 95 undef = _ := hdep 8 95 (Nat.le_of_ble_eq_true rfl) rfl rfl
                  conv at e95 => rhs; whnf
                  have f95 := e95; simp only [Array.getD_eq_getD_getElem?] at f95
                  exact wpOp_no rfl rfl rfl e95 ⟨_, rfl, Below.refl _ _, rfl⟩
                apply free_is
                · intro a' w' hLe hfr hdep
                  have e95 : a'.tmps.getD 95 undef = _ := hdep 8 95 (Nat.le_of_ble_eq_true rfl) rfl rfl
                  conv at e95 => rhs; whnf
                  have f95 := e95; simp only [Array.getD_eq_getD_getElem?] at f95
                  have e101 : a'.tmps.getD 101 undef = _ := hdep 14 101 (Nat.le_of_ble_eq_true rfl) rfl rfl
                  conv at e101 => rhs; whnf
                  have f101 := e101; simp only [Array.getD_eq_getD_getElem?] at f101
                  refine wpOp_plain rfl rfl (fun K hK => ?_)
                  go_simp
                  exact hK _ _ ⟨_, rfl, Below.refl _ _, rfl⟩
                apply free_nil
                intro vs w7 hb7 hT7
                have e87 : vs 0 = _ := hT7 0 87 rfl
                conv at e87 => rhs; whnf
                have e88 : vs 1 = _ := hT7 1 88 rfl
                conv at e88 => rhs; whnf
                have e89 : vs 2 = _ := hT7 2 89 rfl
                conv at e89 => rhs; whnf
                have e90 : vs 3 = _ := hT7 3 90 rfl
                conv at e90 => rhs; whnf
                have e91 : vs 4 = _ := hT7 4 91 rfl
                conv at e91 => rhs; whnf
                have e92 : vs 5 = _ := hT7 5 92 rfl
                conv at e92 => rhs; whnf
                have e93 : vs 6 = _ := hT7 6 93 rfl
                conv at e93 => rhs; whnf
                have e94 : vs 7 = _ := hT7 7 94 rfl
                conv at e94 => rhs; whnf
                have e95 : vs 8 = _ := hT7 8 95 rfl
                conv at e95 => rhs; whnf
                have e96 : vs 9 = _ := hT7 9 96 rfl
                conv at e96 => rhs; whnf
                have e97 : vs 10 = _ := hT7 10 97 rfl
                conv at e97 => rhs; whnf
                have e98 : vs 11 = _ := hT7 11 98 rfl
                conv at e98 => rhs; whnf
                have e99 : vs 12 = _ := hT7 12 99 rfl
                conv at e99 => rhs; whnf
                have e100 : vs 13 = _ := hT7 13 100 rfl
                conv at e100 => rhs; whnf
                have e101 : vs 14 = _ := hT7 14 101 rfl
                conv at e101 => rhs; whnf
                have e102 : vs 15 = _ := hT7 15 102 rfl
                conv at e102 => rhs; whnf
                simp only [putAll, List.drop_succ_cons, List.drop_zero, e87, e88, e89, e90, e91, e92, e93, e94, e95, e96, e97, e98, e99, e100, e101, e102]
                clear hT7 e87 e88 e89 e90 e91 e92 e93 e94 e95 e96 e97 e98 e99 e100 e101 e102
                go_simp
                have q7 := (hb7.block w1.heap.size hsri).trans qi
                obtain ⟨c7, f7⟩ := blk q7
                have hs7 := heap_lt q7
                go_wp2_with fail
                refine (implPrefixHas_any _ _ _ _).mono ?_
                rintro e w8 ⟨rfl, hb8⟩
                have hb78 := Below.tr hb7 hb8
                go_wp2_with fail
                refine (implRouteFor_any _ (G5.out.below hb78) hb78.size).mono ?_
                rintro e w9 ⟨rfl, hb9⟩
                rw [HRO.out]
                have hb79 := Below.tr hb78 hb9
                go_wp2_with fail
                refine (implRouteFor_any _ (H5.out.below hb79) hb79.size).mono ?_
                rintro e w10 ⟨rfl, hb10⟩
                go_wp2_with fail
                go_roundw
                case rel => exact ⟨ad + 1, by omega, by go_num, Below.tr (Below.tr (Below.tr hBw hBi) hb79) hb10⟩
                case measure => simp [intOf]; omega
      · obtain rfl : ad = 256 := by omega
        obtain ⟨co, fo⟩ := blk qo
        go_wp2_with fail
        refine (implDropRoute_any x y Ho.out (Nat.le_refl _) (by omega)).mono ?_
        rintro e w5 ⟨A5, k5, rfl, hO5, hb5⟩
        have hB5 := Below.tr hBo hb5
        have q5 := (hb5.block w1.heap.size hsr).trans qo
        have G5 := Lib.hid (Go.out.next hb5)
        have H5 := Lib.hid (Ho.out.next hb5)
        have hs5 := heap_lt q5
        clear hO5 hb5 co fo
        go_wp2_with fail
        refine (implRoutesValid_any G5.out (Nat.le_refl _)).mono ?_
        rintro e w6 ⟨rfl, hb6⟩
        rw [HV.out]
        have hB6 := Below.tr hB5 hb6
        have q6 := (hb6.block w1.heap.size hs5).trans q5
        have G6 := Lib.hid (G5.out.next hb6)
        have H6 := Lib.hid (H5.out.next hb6)
        obtain ⟨c6, f6⟩ := blk q6
        clear hb6 q5
        by_cases hold : drN n1 a b d x y < n1
        · have hd : decide (drN n1 a b d x y < n1) = true := decide_eq_true hold
          have HOLD := Lib.hid hold
          clear hold
          go_wp2_with fail
          go_ret
          exact ⟨rfl, Below.tr hb1 hB6⟩
        · obtain ⟨e1, e2⟩ := drop_back HV0.out HV.out HL.out hold
          have hd : decide (drN n1 a b d x y < n1) = false := decide_eq_false hold
          have E1 := Lib.hid e1
          have E2 := Lib.hid e2
          have HOLD := Lib.hid hold
          clear hold e1 e2
          go_wp2_with fail
          refine (implDropRoute_any x y G6.out (Nat.le_refl _) (by omega)).mono ?_
          rintro e w7 ⟨A7, k7, rfl, hO7, hb7⟩
          rw [E1.out] at hO7
          rw [E1.out]
          go_wp2_with fail
          refine (sameRoutes_same (hO7.rows.congr E2.out) (H6.out.next hb7) (Nat.le_refl _)).mono ?_
          rintro e w8 ⟨rfl, hb8⟩
          go_wp2_with fail
          go_ret
          exact ⟨rfl, Below.tr (Below.tr (Below.tr hb1 hB6) hb7) hb8⟩
end Go.Proofs.Ytgoijpbkgkjfeaa
