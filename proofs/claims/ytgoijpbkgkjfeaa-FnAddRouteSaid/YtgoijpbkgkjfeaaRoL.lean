/-
  The law 'the order in which routes are added does not matter': its walk.
-/
import Derived.Test.YtgoijpbkgkjfeaaIns3
import Derived.Test.YtgoijpbkgkjfeaaAds
import Derived.Test.YtgoijpbkgkjfeaaAdD
import Derived.Test.YtgoijpbkgkjfeaaDrL
namespace Go.Proofs.Ytgoijpbkgkjfeaa
open Go Go.RowKit

theorem ar_list {n : Nat} {a b c : Nat → Int} {x y z : Int} (h : arOk n a b c x y z = true) : toL (arN n a b c x y z) (arC n a b c x y z a x) (arC n a b c x y z b y) (arC n a b c x y z c z) = insR (x, y, z) (toL n a b c) := by
  have h' := h
  simp only [arOk, Bool.and_eq_true] at h'
  simp only [arN, arC, h, h'.1, if_true]
  exact toL_ins
/-- What the law asks of the three further calls. -/
theorem order_law {n : Nat} {a b c : Nat → Int} {x y z x' y' z' : Int} (hn : n ≤ 1000000) : ∃ N ok, ∃ y0 y1 y2 : Nat → Int, ∃ N1 ok1, ∃ u0 u1 u2 : Nat → Int, ∃ N2 ok2, ∃ v0 v1 v2 : Nat → Int, ∃ N3 ok3, ∃ t0 t1 t2 : Nat → Int,
    (∀ (W : World) (B : Nat) (A : Option Addr) (k : Nat), Rws W B 3 A n k (routeR a b c) → B ≤ W.heap.size → Calls Try.prog 7 #[.slice A n k, .agg #[.int .i64 x, .int .i64 y, .int .i64 z]] W (GivesB W 27 3 N (routeR y0 y1 y2) ok)) ∧
    (∀ (W : World) (B : Nat) (A : Option Addr) (k : Nat), Rws W B 3 A n k (routeR a b c) → B ≤ W.heap.size → Calls Try.prog 8 #[.slice A n k, .agg #[.int .i64 x, .int .i64 y, .int .i64 z]] W (GivesB W 27 3 N (routeR y0 y1 y2) ok)) ∧
    (∀ (W : World) (B : Nat) (A : Option Addr) (k : Nat), Rws W B 3 A N k (routeR y0 y1 y2) → B ≤ W.heap.size → Calls Try.prog 7 #[.slice A N k, .agg #[.int .i64 x', .int .i64 y', .int .i64 z']] W (GivesB W 27 3 N1 (routeR u0 u1 u2) ok1)) ∧
    (∀ (W : World) (B : Nat) (A : Option Addr) (k : Nat), Rws W B 3 A n k (routeR a b c) → B ≤ W.heap.size → Calls Try.prog 7 #[.slice A n k, .agg #[.int .i64 x', .int .i64 y', .int .i64 z']] W (GivesB W 27 3 N2 (routeR v0 v1 v2) ok2)) ∧
    (∀ (W : World) (B : Nat) (A : Option Addr) (k : Nat), Rws W B 3 A N2 k (routeR v0 v1 v2) → B ≤ W.heap.size → Calls Try.prog 7 #[.slice A N2 k, .agg #[.int .i64 x, .int .i64 y, .int .i64 z]] W (GivesB W 27 3 N3 (routeR t0 t1 t2) ok3)) ∧
    ((decide (x = x') && decide (y = y')) = false → ok = true → ok1 = true → ok2 = true → ok3 = true → N1 = N3 ∧ ∀ i, i < N1 → routeR u0 u1 u2 i = routeR t0 t1 t2 i) := by
  have hN := arN_le (n := n) (a := a) (b := b) (c := c) (x := x) (y := y) (z := z)
  have hN2 := arN_le (n := n) (a := a) (b := b) (c := c) (x := x') (y := y') (z := z')
  refine ⟨_, _, _, _, _, _, _, _, _, _, _, _, _, _, _, _, _, _, _, _, fun _ _ _ _ h hB => implAddRoute_any x y z h hB (by omega), fun _ _ _ _ h hB => specAddRoute_any x y z h hB (by omega), fun _ _ _ _ h hB => implAddRoute_any x' y' z' h hB (by omega), fun _ _ _ _ h hB => implAddRoute_any x' y' z' h hB (by omega), fun _ _ _ _ h hB => implAddRoute_any x y z h hB (by omega), fun hne h0 h1 h2 h3 => ?_⟩
  have e := ar_list h1
  rw [ar_list h0] at e
  have e' := ar_list h3
  rw [ar_list h2] at e'
  have hs : sameR (x', y', z') (x, y, z) = false := sameR_no.2 (by simp at hne; simp only; intro ⟨h4, h5⟩; exact hne h4.symm h5.symm)
  rw [insR_comm hs, ← e'] at e
  obtain ⟨h4, h5⟩ := toL_inj e
  refine ⟨h4, fun i hi => ?_⟩
  obtain ⟨g1, g2, g3⟩ := h5 i hi
  unfold routeR
  rw [g1, g2, g3]
set_option maxRecDepth 20000 in
set_option maxHeartbeats 16000000 in
theorem routeOrder_walk {w : World} {A : Option Addr} {n c : Nat} (h : Bytes w w.heap.size A n c) :
    Calls Try.prog 3 #[.slice A n c] w (Truly w) := by
  by_cases hn : 1048576 < n
  · go_enter Try.func3, Try.ntmps3
    go_wp2
    go_ret
    exact ⟨rfl, Below.refl _ _⟩
  go_enter Try.func3, Try.ntmps3
  go_wp2_with fail
  refine (drawAddRoute_any h).mono ?_
  rintro e w1 ⟨A1, n1, k1, a, b, d, x, y, z, rfl, hn1, hO1, hb1⟩
  obtain ⟨N, ok, y0, y1, y2, N1, ok1, u0, u1, u2, N2, ok2, v0, v1, v2, N3, ok3, t0, t1, t2, hI, hS, hI1, hI2, hI3, hL⟩ := order_law (n := n1) (a := a) (b := b) (c := d) (x := x) (y := y) (z := z) (x' := 128) (y' := 1) (z' := 3) (by omega)
  have HI := Lib.hid hI
  have HS := Lib.hid hS
  have HI1 := Lib.hid hI1
  have HI2 := Lib.hid hI2
  have HI3 := Lib.hid hI3
  have HL := Lib.hid hL
  have H1 := Lib.hid (hO1.rows.next (below_al1 w1 (.cells #[.int .i64 x, .int .i64 y, .int .i64 z] 27)))
  clear hI hS hI1 hI2 hI3 hL hO1 hn h
  have j1 : ∀ i, (w1.alloc (.cells #[.int .i64 x, .int .i64 y, .int .i64 z] 27)).cell? ⟨w1.heap.size, i, none⟩ = #[Value.int .i64 x, .int .i64 y, .int .i64 z][i]? := (blk (heap_alloc_new w1 _)).1
  go_wp2_with fail
  clear j1
  refine (HI.out _ _ _ _ H1.out (Nat.le_refl _)).mono ?_
  rintro e w2 ⟨A2, k2, rfl, hO2, hb2⟩
  have hB2 : Below w1.heap.size w1 w2 := Below.tr (below_al1 w1 (.cells #[.int .i64 x, .int .i64 y, .int .i64 z] 27)) hb2
  have q2 := (hb2.block w1.heap.size (by simp)).trans (heap_alloc_new w1 (.cells #[.int .i64 x, .int .i64 y, .int .i64 z] 27))
  have H2 := Lib.hid (H1.out.next hb2)
  have hs2 := heap_lt q2
  obtain ⟨c2, f2⟩ := blk q2
  clear H1 hb2
  go_wp2_with fail
  clear c2 f2
  refine (HS.out _ _ _ _ H2.out (Nat.le_refl _)).mono ?_
  rintro e w3 ⟨A3, k3, rfl, hO3, hb3⟩
  have hB3 := Below.tr hB2 hb3
  have q3 := (hb3.block w1.heap.size hs2).trans q2
  have H3 := Lib.hid (H2.out.next hb3)
  have hO23 := hO2.next hb3
  have hs3 := heap_lt q3
  clear H2 hb3 q2 hO2
  go_wp2_with fail
  refine (sameRoutes_same hO23.rows hO3.rows (Nat.le_refl _)).mono ?_
  rintro e w4 ⟨rfl, hb4⟩
  have hB4 := Below.tr hB3 hb4
  have q4 := (hb4.block w1.heap.size hs3).trans q3
  have H4 := Lib.hid (H3.out.next hb4)
  have G4 := Lib.hid (hO23.rows.next hb4)
  have hs4 := heap_lt q4
  obtain ⟨c4, f4⟩ := blk q4
  clear H3 hb4 q3 hO23 hO3
  cases ok with
  | false =>
    go_wp2_with (go_at_call 10; refine (alive_any _).mono ?_; rintro e wa ⟨rfl, hba⟩)
    go_ret
    exact ⟨rfl, Below.tr (Below.tr hb1 hB4) (Below.tr (below_al1 w4 _) (by assumption))⟩
  | true =>
    have hq0 := eql_pfx x y 128 1
    cases hv : (decide (x = 128) && decide (y = 1)) with
    | true =>
      have hq := hq0
      rw [hv] at hq
      clear hq0 hv
      go_wp2_with (go_at_call 10; refine (alive_any _).mono ?_; rintro e wa ⟨rfl, hba⟩)
      go_ret
      exact ⟨rfl, Below.tr (Below.tr hb1 hB4) (Below.tr (below_al1 w4 _) (by assumption))⟩
    | false =>
      have hq := hq0
      rw [hv] at hq
      have HV := Lib.hid hv
      clear hq0 hv
      have j4 : ∀ i, (w4.alloc (.cells #[.int .i64 128, .int .i64 1, .int .i64 3] 27)).cell? ⟨w4.heap.size, i, none⟩ = #[Value.int .i64 128, .int .i64 1, .int .i64 3][i]? := (blk (heap_alloc_new w4 _)).1
      go_wp2_with fail
      clear hq j4 c4 f4
      have H5 := Lib.hid (H4.out.next (below_al1 w4 (.cells #[.int .i64 128, .int .i64 1, .int .i64 3] 27)))
      refine (HI1.out _ _ _ _ (G4.out.next (below_al1 w4 (.cells #[.int .i64 128, .int .i64 1, .int .i64 3] 27))) (Nat.le_refl _)).mono ?_
      rintro e w6 ⟨A6, k6, rfl, hO6, hb6⟩
      have hB6 : Below w1.heap.size w1 w6 := Below.tr (Below.tr hB4 (below_al1 w4 (.cells #[.int .i64 128, .int .i64 1, .int .i64 3] 27))) hb6
      have H6 := Lib.hid (H5.out.next hb6)
      have q6 := (hb6.block w1.heap.size (by simp; omega)).trans ((heap_alloc_old w4 (.cells #[.int .i64 128, .int .i64 1, .int .i64 3] 27) hs4).trans q4)
      have o6 := (hb6.block w4.heap.size (by simp)).trans (heap_alloc_new w4 (.cells #[.int .i64 128, .int .i64 1, .int .i64 3] 27))
      have hs6 := heap_lt o6
      obtain ⟨c6, f6⟩ := blk o6
      clear H4 H5 G4 hb6 q4
      go_wp2_with fail
      clear c6 f6
      refine (HI2.out _ _ _ _ H6.out (Nat.le_refl _)).mono ?_
      rintro e w7 ⟨A7, k7, rfl, hO7, hb7⟩
      have hB7 := Below.tr hB6 hb7
      have hO67 := hO6.next hb7
      have q7 := (hb7.block w1.heap.size (by omega)).trans q6
      have hs7 := heap_lt q7
      obtain ⟨c7, f7⟩ := blk q7
      clear hb7 q6 o6 hO6 H6
      go_wp2_with fail
      clear c7 f7
      refine (HI3.out _ _ _ _ hO7.rows (Nat.le_refl _)).mono ?_
      rintro e w8 ⟨A8, k8, rfl, hO8, hb8⟩
      have hB8 := Below.tr hB7 hb8
      have hO68 := hO67.next hb8
      clear hb8 hO67 hO7 q7
      cases ok1 with
      | false =>
        go_wp2_with fail
        go_ret
        exact ⟨rfl, Below.tr hb1 hB8⟩
      | true =>
        cases ok2 with
        | false =>
          go_wp2_with fail
          go_ret
          exact ⟨rfl, Below.tr hb1 hB8⟩
        | true =>
          cases ok3 with
          | false =>
            go_wp2_with fail
            go_ret
            exact ⟨rfl, Below.tr hb1 hB8⟩
          | true =>
            obtain ⟨rfl, hrr⟩ := HL.out HV.out (by first | rfl | trivial) (by first | rfl | trivial) (by first | rfl | trivial) (by first | rfl | trivial)
            go_wp2_with fail
            refine (sameRoutes_same hO68.rows (hO8.rows.congr fun i hi => (hrr i hi).symm) (Nat.le_refl _)).mono ?_
            rintro e w9 ⟨rfl, hb9⟩
            go_wp2_with fail
            go_ret
            exact ⟨rfl, Below.tr (Below.tr hb1 hB8) hb9⟩
end Go.Proofs.Ytgoijpbkgkjfeaa
