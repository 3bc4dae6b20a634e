/-
  The law 'wider screens fit more': its walk.
-/
import Derived.Test.YtcljfakpcecejaaScrI
import Derived.Test.YtcljfakpcecejaaScr
namespace Go.Proofs.Ytcljfakpcecejaa
open Go.RowKit Go.Joins

theorem flowValid_b (a b c d k : Int) (w : World) :
    Calls Try.prog 24 #[.agg #[.int .i64 a, .int .i64 b, .int .i64 c, .int .i64 d, .int .i64 k]] w fun e w' => e = .returned (.bool (flowB a b c d k)) ∧ Below w.heap.size w w' :=
  (implFlowValid_any a b c d k w).mono fun _ _ h => ⟨h.1, h.2 ▸ below_alloc1 w _⟩
theorem flow_from {f0 f1 f2 f3 f4 : Int} (h : flowB f0 f1 f2 f3 f4 = true) : inB f0 0 255 = true ∧ inB f3 0 999 = true := by
  simp only [flowB, Bool.and_eq_true] at h
  exact ⟨h.1.1.1.1, h.1.2⟩
theorem fits_all (f0 f1 f2 f3 f4 : Int) : fitsB 0 0 0 999 0 f0 f1 f2 f3 f4 = flowB f0 f1 f2 f3 f4 := by
  cases hf : flowB f0 f1 f2 f3 f4 with
  | false => simp [fitsB, hf]
  | true =>
    obtain ⟨h1, h2⟩ := flow_from hf
    have h0 : pfxB 0 0 = true := by rfl
    have h3 : inB f0 0 (pfxSize 0 - 1) = true := h1
    simp [fitsB, hf, hasB, h0, h1, h2, h3]
theorem fits_wide {b k l h d f0 f1 f2 f3 f4 : Int} (hv : fitsB b k l h d f0 f1 f2 f3 f4 = true) : flowB f0 f1 f2 f3 f4 = true ∧ hasB b k f0 = true ∧ fitsB b k 0 999 0 f0 f1 f2 f3 f4 = true := by
  simp only [fitsB, Bool.and_eq_true] at hv
  obtain ⟨⟨⟨h1, h2⟩, _⟩, _⟩ := hv
  obtain ⟨_, h4⟩ := flow_from h1
  exact ⟨h1, h2, by simp [fitsB, h1, h2, h4]⟩

set_option maxHeartbeats 8000000 in
theorem screenFits_walk {w : World} {A : Option Addr} {n c : Nat} (h : Bytes w w.heap.size A n c) :
    Calls Try.prog 6 #[.slice A n c] w (Truly w) := by
  by_cases hn : 1048576 < n
  · go_enter Try.func6, Try.ntmps6
    go_wp2
    go_ret
    exact ⟨rfl, Below.refl _ _⟩
  · go_enter Try.func6, Try.ntmps6
    go_wp2_with fail
    refine (drawScreenFits_any h).mono ?_
    rintro e w1 ⟨b, k, l, hi, d, ps, f0, f1, f2, f3, f4, rfl, hb⟩
    clear hn
    have hz := fits_all f0 f1 f2 f3 f4
    cases hv : fitsB b k l hi d f0 f1 f2 f3 f4 with
    | false =>
      cases hf : flowB f0 f1 f2 f3 f4 with
      | false =>
        rw [hf] at hz
        go_upto_region 8 with ((first | (go_at_call 14; refine (implScreenFits_any _ _ _ _ _ _ _ _ _ _ _ _).mono ?_; rintro e w2 ⟨rfl, hb2⟩; have c2 := keepc hb2 w1.heap.size (by (try simp) <;> omega); have d2 := keepc hb2 (w1.heap.size + 1) (by (try simp) <;> omega); have z2 : w1.heap.size + 2 ≤ w2.heap.size := (by have := hb2.size; (try simp at this); omega)) | (go_at_call 11; refine (specScreenFits_any _ _ _ _ _ _ _ _ _ _ _ _).mono ?_; rintro e w3 ⟨rfl, hb3⟩; have c3 := keepc hb3 w1.heap.size (by (try simp) <;> omega); have d3 := keepc hb3 (w1.heap.size + 1) (by (try simp) <;> omega); have z3 : w1.heap.size + 2 ≤ w3.heap.size := (by have := hb3.size; (try simp at this); omega))))
        have e3 : ∀ i, w3.cell? ⟨w1.heap.size + 1, i, none⟩ = #[Value.int .i64 f0, .int .i64 f1, .int .i64 f2, .int .i64 f3, .int .i64 f4][i]? := fun i => (d3 i).trans ((d2 i).trans (by simp))
        have e4 : ∀ i, (w3.alloc (.cells #[.int .i64 b, .int .i64 k, .int .i64 0, .int .i64 999, .int .i64 0, .bool false] 31)).cell? ⟨w1.heap.size + 1, i, none⟩ = #[Value.int .i64 f0, .int .i64 f1, .int .i64 f2, .int .i64 f3, .int .i64 f4][i]? := fun i => (keepc (below_alloc1 w3 _) (w1.heap.size + 1) (by omega) i).trans (e3 i)
        have g3 : ∀ i, w3.cell? ⟨w1.heap.size, i, none⟩ = #[Value.int .i64 b, .int .i64 k, .int .i64 l, .int .i64 hi, .int .i64 d, .bool ps][i]? := fun i => (c3 i).trans ((c2 i).trans ((keepc (below_alloc1 (w1.alloc (.cells #[.int .i64 b, .int .i64 k, .int .i64 l, .int .i64 hi, .int .i64 d, .bool ps] 31)) _) w1.heap.size (by simp) i).trans ((blk (heap_alloc_new w1 _)).1 i)))
        have g4 : ∀ i, (w3.alloc (.cells #[.int .i64 b, .int .i64 k, .int .i64 0, .int .i64 999, .int .i64 0, .bool false] 31)).cell? ⟨w1.heap.size, i, none⟩ = #[Value.int .i64 b, .int .i64 k, .int .i64 l, .int .i64 hi, .int .i64 d, .bool ps][i]? := fun i => (keepc (below_alloc1 w3 _) w1.heap.size (by omega) i).trans (g3 i)
        refine wp_region_still (ds := [(0, 26), (1, 27), (2, 28), (3, 29), (4, 30), (5, 31), (6, 32), (7, 33), (8, 34), (9, 35), (10, 36), (11, 37), (12, 38), (13, 39), (14, 40), (15, 41), (16, 42), (17, 43), (18, 44), (19, 45), (20, 46), (21, 47), (22, 48), (23, 49), (24, 50), (25, 2)]) 26 (by kernel_rfl) (by kernel_rfl) (by first | exact .inl rfl | exact .inr (by kernel_rfl)) (by rfl) rfl rfl ?_
        apply still_cons
        · intro a' w' hLe hfr hdep
          have e5 := hfr 5 rfl
          conv at e5 => rhs; whnf
          have f5 := e5; simp only [Array.getD_eq_getD_getElem?] at f5
          refine wpOp_plain rfl rfl (fun K hK => ?_)
          go_simp
          exact hK _ _ ⟨rfl, Below.refl _ _⟩
        apply still_cons
        · intro a' w' hLe hfr hdep
          have e26 := hdep 0 26 (Nat.le_of_ble_eq_true rfl) rfl rfl
          conv at e26 => rhs; whnf
          have f26 := e26; simp only [Array.getD_eq_getD_getElem?] at f26
          refine wpOp_plain rfl rfl (fun K hK => ?_)
          go_simp
          exact hK _ _ ⟨rfl, Below.refl _ _⟩
        apply still_cons
        · intro a' w' hLe hfr hdep
          have e27 := hdep 1 27 (Nat.le_of_ble_eq_true rfl) rfl rfl
          conv at e27 => rhs; whnf
          have f27 := e27; simp only [Array.getD_eq_getD_getElem?] at f27
          refine wpOp_plain rfl rfl (fun K hK => ?_)
          go_simp
          exact hK _ _ ⟨rfl, Below.refl _ _⟩
        apply still_cons
        · intro a' w' hLe hfr hdep
          have e28 := hdep 2 28 (Nat.le_of_ble_eq_true rfl) rfl rfl
          conv at e28 => rhs; whnf
          have f28 := e28; simp only [Array.getD_eq_getD_getElem?] at f28
          exact wpOp_no rfl rfl rfl e28 ⟨rfl, Below.refl _ _⟩
        apply still_cons
        · intro a' w' hLe hfr hdep
          have e28 := hdep 2 28 (Nat.le_of_ble_eq_true rfl) rfl rfl
          conv at e28 => rhs; whnf
          have f28 := e28; simp only [Array.getD_eq_getD_getElem?] at f28
          exact wpOp_no rfl rfl rfl e28 ⟨rfl, Below.refl _ _⟩
        apply still_cons
        · intro a' w' hLe hfr hdep
          have e28 := hdep 2 28 (Nat.le_of_ble_eq_true rfl) rfl rfl
          conv at e28 => rhs; whnf
          have f28 := e28; simp only [Array.getD_eq_getD_getElem?] at f28
          exact wpOp_no rfl rfl rfl e28 ⟨rfl, Below.refl _ _⟩
        apply still_cons
        · intro a' w' hLe hfr hdep
          have e28 := hdep 2 28 (Nat.le_of_ble_eq_true rfl) rfl rfl
          conv at e28 => rhs; whnf
          have f28 := e28; simp only [Array.getD_eq_getD_getElem?] at f28
          exact wpOp_no rfl rfl rfl e28 ⟨rfl, Below.refl _ _⟩
        apply still_cons
        · intro a' w' hLe hfr hdep
          have e32 := hdep 6 32 (Nat.le_of_ble_eq_true rfl) rfl rfl
          conv at e32 => rhs; whnf
          have f32 := e32; simp only [Array.getD_eq_getD_getElem?] at f32
          exact wpOp_un rfl rfl rfl e32 ⟨rfl, Below.refl _ _⟩
        apply still_cons
        · intro a' w' hLe hfr hdep
          have e32 := hdep 6 32 (Nat.le_of_ble_eq_true rfl) rfl rfl
          conv at e32 => rhs; whnf
          have f32 := e32; simp only [Array.getD_eq_getD_getElem?] at f32
          exact wpOp_un rfl rfl rfl e32 ⟨rfl, Below.refl _ _⟩
        apply still_cons
        · intro a' w' hLe hfr hdep
          have e32 := hdep 6 32 (Nat.le_of_ble_eq_true rfl) rfl rfl
          conv at e32 => rhs; whnf
          have f32 := e32; simp only [Array.getD_eq_getD_getElem?] at f32
          exact wpOp_un rfl rfl rfl e32 ⟨rfl, Below.refl _ _⟩
        apply still_cons
        · intro a' w' hLe hfr hdep
          have e32 := hdep 6 32 (Nat.le_of_ble_eq_true rfl) rfl rfl
          conv at e32 => rhs; whnf
          have f32 := e32; simp only [Array.getD_eq_getD_getElem?] at f32
          exact wpOp_un rfl rfl rfl e32 ⟨rfl, Below.refl _ _⟩
        apply still_cons
        · intro a' w' hLe hfr hdep
          have e32 := hdep 6 32 (Nat.le_of_ble_eq_true rfl) rfl rfl
          conv at e32 => rhs; whnf
          have f32 := e32; simp only [Array.getD_eq_getD_getElem?] at f32
          exact wpOp_un rfl rfl rfl e32 ⟨rfl, Below.refl _ _⟩
        apply still_cons
        · intro a' w' hLe hfr hdep
          have e28 := hdep 2 28 (Nat.le_of_ble_eq_true rfl) rfl rfl
          conv at e28 => rhs; whnf
          have f28 := e28; simp only [Array.getD_eq_getD_getElem?] at f28
          exact wpOp_no rfl rfl rfl e28 ⟨rfl, Below.refl _ _⟩
        apply still_cons
        · intro a' w' hLe hfr hdep
          have e28 := hdep 2 28 (Nat.le_of_ble_eq_true rfl) rfl rfl
          conv at e28 => rhs; whnf
          have f28 := e28; simp only [Array.getD_eq_getD_getElem?] at f28
          have e38 := hdep 12 38 (Nat.le_of_ble_eq_true rfl) rfl rfl
          conv at e38 => rhs; whnf
          have f38 := e38; simp only [Array.getD_eq_getD_getElem?] at f38
          refine wpOp_plain rfl rfl (fun K hK => ?_)
          go_simp
          exact hK _ _ ⟨rfl, Below.refl _ _⟩
        apply still_cons
        · intro a' w' hLe hfr hdep
          have e39 := hdep 13 39 (Nat.le_of_ble_eq_true rfl) rfl rfl
          conv at e39 => rhs; whnf
          have f39 := e39; simp only [Array.getD_eq_getD_getElem?] at f39
          refine wpOp_plain rfl rfl (fun K hK => ?_)
          go_simp
          exact hK _ _ ⟨rfl, Below.refl _ _⟩
        apply still_cons
        · intro a' w' hLe hfr hdep
          have e40 := hdep 14 40 (Nat.le_of_ble_eq_true rfl) rfl rfl
          conv at e40 => rhs; whnf
          have f40 := e40; simp only [Array.getD_eq_getD_getElem?] at f40
          refine wpOp_yes rfl rfl rfl e40 (fun K hK => ?_)
          go_simp
          exact hK _ _ ⟨rfl, Below.refl _ _⟩
        apply still_cons
        · intro a' w' hLe hfr hdep
          have e40 := hdep 14 40 (Nat.le_of_ble_eq_true rfl) rfl rfl
          conv at e40 => rhs; whnf
          have f40 := e40; simp only [Array.getD_eq_getD_getElem?] at f40
          have e4 := hfr 4 rfl
          conv at e4 => rhs; whnf
          have f4 := e4; simp only [Array.getD_eq_getD_getElem?] at f4
          have kc := fun i => keepc hLe (w1.heap.size) (by (try simp) <;> omega) i
          have kf := fun i => keepf hLe (w1.heap.size) (by (try simp) <;> omega) i
          have kc := fun i => keepc hLe (w1.heap.size + 1) (by (try simp) <;> omega) i
          have kf := fun i => keepf hLe (w1.heap.size + 1) (by (try simp) <;> omega) i
          have kc := fun i => keepc hLe (w3.heap.size) (by (try simp) <;> omega) i
          have kf := fun i => keepf hLe (w3.heap.size) (by (try simp) <;> omega) i
          refine wpOp_yes rfl rfl rfl e40 (fun K hK => ?_)
          go_simp
          exact hK _ _ ⟨rfl, Below.refl _ _⟩
        apply still_cons
        · intro a' w' hLe hfr hdep
          have e40 := hdep 14 40 (Nat.le_of_ble_eq_true rfl) rfl rfl
          conv at e40 => rhs; whnf
          have f40 := e40; simp only [Array.getD_eq_getD_getElem?] at f40
          have e41 := hdep 15 41 (Nat.le_of_ble_eq_true rfl) rfl rfl
          conv at e41 => rhs; whnf
          have f41 := e41; simp only [Array.getD_eq_getD_getElem?] at f41
          have e42 := hdep 16 42 (Nat.le_of_ble_eq_true rfl) rfl rfl
          conv at e42 => rhs; whnf
          have f42 := e42; simp only [Array.getD_eq_getD_getElem?] at f42
          refine wpOp_yes rfl rfl rfl e40 (fun K hK => ?_)
          go_simp
          refine (implScreenFits_any _ _ _ _ _ _ _ _ _ _ _ _).mono ?_
          rintro e w2 ⟨rfl, hb⟩
          exact hK _ _ ⟨rfl, hb⟩
        apply still_cons
        · intro a' w' hLe hfr hdep
          have e40 := hdep 14 40 (Nat.le_of_ble_eq_true rfl) rfl rfl
          conv at e40 => rhs; whnf
          have f40 := e40; simp only [Array.getD_eq_getD_getElem?] at f40
          have e4 := hfr 4 rfl
          conv at e4 => rhs; whnf
          have f4 := e4; simp only [Array.getD_eq_getD_getElem?] at f4
          have kc := fun i => keepc hLe (w1.heap.size) (by (try simp) <;> omega) i
          have kf := fun i => keepf hLe (w1.heap.size) (by (try simp) <;> omega) i
          have kc := fun i => keepc hLe (w1.heap.size + 1) (by (try simp) <;> omega) i
          have kf := fun i => keepf hLe (w1.heap.size + 1) (by (try simp) <;> omega) i
          have kc := fun i => keepc hLe (w3.heap.size) (by (try simp) <;> omega) i
          have kf := fun i => keepf hLe (w3.heap.size) (by (try simp) <;> omega) i
          refine wpOp_yes rfl rfl rfl e40 (fun K hK => ?_)
          go_simp
          exact hK _ _ ⟨rfl, Below.refl _ _⟩
        apply still_cons
        · intro a' w' hLe hfr hdep
          have e40 := hdep 14 40 (Nat.le_of_ble_eq_true rfl) rfl rfl
          conv at e40 => rhs; whnf
          have f40 := e40; simp only [Array.getD_eq_getD_getElem?] at f40
          have e44 := hdep 18 44 (Nat.le_of_ble_eq_true rfl) rfl rfl
          conv at e44 => rhs; whnf
          have f44 := e44; simp only [Array.getD_eq_getD_getElem?] at f44
          refine wpOp_yes rfl rfl rfl e40 (fun K hK => ?_)
          go_simp
          refine (flowValid_b _ _ _ _ _ _).mono ?_
          rintro e w2 ⟨rfl, hb⟩
          exact hK _ _ ⟨rfl, hb⟩
        apply still_cons
        · intro a' w' hLe hfr hdep
          have e40 := hdep 14 40 (Nat.le_of_ble_eq_true rfl) rfl rfl
          conv at e40 => rhs; whnf
          have f40 := e40; simp only [Array.getD_eq_getD_getElem?] at f40
          have e43 := hdep 17 43 (Nat.le_of_ble_eq_true rfl) rfl rfl
          conv at e43 => rhs; whnf
          have f43 := e43; simp only [Array.getD_eq_getD_getElem?] at f43
          have e45 := hdep 19 45 (Nat.le_of_ble_eq_true rfl) rfl rfl
          conv at e45 => rhs; whnf
          have f45 := e45; simp only [Array.getD_eq_getD_getElem?] at f45
          refine wpOp_yes rfl rfl rfl e40 (fun K hK => ?_)
          go_simp
          exact hK _ _ ⟨rfl, Below.refl _ _⟩
        apply still_cons
        · intro a' w' hLe hfr hdep
          have e40 := hdep 14 40 (Nat.le_of_ble_eq_true rfl) rfl rfl
          conv at e40 => rhs; whnf
          have f40 := e40; simp only [Array.getD_eq_getD_getElem?] at f40
          have e46 := hdep 20 46 (Nat.le_of_ble_eq_true rfl) rfl rfl
          conv at e46 => rhs; whnf
          have f46 := e46; simp only [Array.getD_eq_getD_getElem?] at f46
          refine wpOp_plain rfl rfl (fun K hK => ?_)
          go_simp
          exact hK _ _ ⟨rfl, Below.refl _ _⟩
        apply still_cons
        · intro a' w' hLe hfr hdep
          have e47 := hdep 21 47 (Nat.le_of_ble_eq_true rfl) rfl rfl
          conv at e47 => rhs; whnf
          have f47 := e47; simp only [Array.getD_eq_getD_getElem?] at f47
          refine wpOp_plain rfl rfl (fun K hK => ?_)
          go_simp
          exact hK _ _ ⟨rfl, Below.refl _ _⟩
        apply still_cons
        · intro a' w' hLe hfr hdep
          have e48 := hdep 22 48 (Nat.le_of_ble_eq_true rfl) rfl rfl
          conv at e48 => rhs; whnf
          have f48 := e48; simp only [Array.getD_eq_getD_getElem?] at f48
          refine wpOp_yes rfl rfl rfl e48 (fun K hK => ?_)
          go_simp
          refine (alive_any _).mono ?_
          rintro e w2 ⟨rfl, hb⟩
          exact hK _ _ ⟨rfl, hb⟩
        apply still_cons
        · intro a' w' hLe hfr hdep
          have e48 := hdep 22 48 (Nat.le_of_ble_eq_true rfl) rfl rfl
          conv at e48 => rhs; whnf
          have f48 := e48; simp only [Array.getD_eq_getD_getElem?] at f48
          have e49 := hdep 23 49 (Nat.le_of_ble_eq_true rfl) rfl rfl
          conv at e49 => rhs; whnf
          have f49 := e49; simp only [Array.getD_eq_getD_getElem?] at f49
          refine wpOp_plain rfl rfl (fun K hK => ?_)
          go_simp
          exact hK _ _ ⟨rfl, Below.refl _ _⟩
        apply still_cons
        · intro a' w' hLe hfr hdep
          have e50 := hdep 24 50 (Nat.le_of_ble_eq_true rfl) rfl rfl
          conv at e50 => rhs; whnf
          have f50 := e50; simp only [Array.getD_eq_getD_getElem?] at f50
          refine wpOp_plain rfl rfl (fun K hK => ?_)
          go_simp
          exact hK _ _ ⟨rfl, Below.refl _ _⟩
        apply still_nil
        intro w8 hb8
        simp only [putAll, List.drop_succ_cons, List.drop_zero]
        go_simp
        go_wp2
        go_ret
        exact ⟨rfl, Below.tr hb (by (repeat (first | exact Below.refl _ _ | assumption | refine Below.al ?_ _ | refine Below.dr ?_ | (refine Below.st ?_ (by simp <;> omega) _) | (refine Below.tr ?_ (by assumption)))))⟩
      | true =>
        rw [hf] at hz
        go_upto_region 8 with ((first | (go_at_call 14; refine (implScreenFits_any _ _ _ _ _ _ _ _ _ _ _ _).mono ?_; rintro e w2 ⟨rfl, hb2⟩; have c2 := keepc hb2 w1.heap.size (by (try simp) <;> omega); have d2 := keepc hb2 (w1.heap.size + 1) (by (try simp) <;> omega); have z2 : w1.heap.size + 2 ≤ w2.heap.size := (by have := hb2.size; (try simp at this); omega)) | (go_at_call 11; refine (specScreenFits_any _ _ _ _ _ _ _ _ _ _ _ _).mono ?_; rintro e w3 ⟨rfl, hb3⟩; have c3 := keepc hb3 w1.heap.size (by (try simp) <;> omega); have d3 := keepc hb3 (w1.heap.size + 1) (by (try simp) <;> omega); have z3 : w1.heap.size + 2 ≤ w3.heap.size := (by have := hb3.size; (try simp at this); omega))))
        have e3 : ∀ i, w3.cell? ⟨w1.heap.size + 1, i, none⟩ = #[Value.int .i64 f0, .int .i64 f1, .int .i64 f2, .int .i64 f3, .int .i64 f4][i]? := fun i => (d3 i).trans ((d2 i).trans (by simp))
        have e4 : ∀ i, (w3.alloc (.cells #[.int .i64 b, .int .i64 k, .int .i64 0, .int .i64 999, .int .i64 0, .bool false] 31)).cell? ⟨w1.heap.size + 1, i, none⟩ = #[Value.int .i64 f0, .int .i64 f1, .int .i64 f2, .int .i64 f3, .int .i64 f4][i]? := fun i => (keepc (below_alloc1 w3 _) (w1.heap.size + 1) (by omega) i).trans (e3 i)
        have g3 : ∀ i, w3.cell? ⟨w1.heap.size, i, none⟩ = #[Value.int .i64 b, .int .i64 k, .int .i64 l, .int .i64 hi, .int .i64 d, .bool ps][i]? := fun i => (c3 i).trans ((c2 i).trans ((keepc (below_alloc1 (w1.alloc (.cells #[.int .i64 b, .int .i64 k, .int .i64 l, .int .i64 hi, .int .i64 d, .bool ps] 31)) _) w1.heap.size (by simp) i).trans ((blk (heap_alloc_new w1 _)).1 i)))
        have g4 : ∀ i, (w3.alloc (.cells #[.int .i64 b, .int .i64 k, .int .i64 0, .int .i64 999, .int .i64 0, .bool false] 31)).cell? ⟨w1.heap.size, i, none⟩ = #[Value.int .i64 b, .int .i64 k, .int .i64 l, .int .i64 hi, .int .i64 d, .bool ps][i]? := fun i => (keepc (below_alloc1 w3 _) w1.heap.size (by omega) i).trans (g3 i)
        refine wp_region_still (ds := [(0, 26), (1, 27), (2, 28), (3, 29), (4, 30), (5, 31), (6, 32), (7, 33), (8, 34), (9, 35), (10, 36), (11, 37), (12, 38), (13, 39), (14, 40), (15, 41), (16, 42), (17, 43), (18, 44), (19, 45), (20, 46), (21, 47), (22, 48), (23, 49), (24, 50), (25, 2)]) 26 (by kernel_rfl) (by kernel_rfl) (by first | exact .inl rfl | exact .inr (by kernel_rfl)) (by rfl) rfl rfl ?_
        apply still_cons
        · intro a' w' hLe hfr hdep
          have e5 := hfr 5 rfl
          conv at e5 => rhs; whnf
          have f5 := e5; simp only [Array.getD_eq_getD_getElem?] at f5
          refine wpOp_plain rfl rfl (fun K hK => ?_)
          go_simp
          exact hK _ _ ⟨rfl, Below.refl _ _⟩
        apply still_cons
        · intro a' w' hLe hfr hdep
          have e26 := hdep 0 26 (Nat.le_of_ble_eq_true rfl) rfl rfl
          conv at e26 => rhs; whnf
          have f26 := e26; simp only [Array.getD_eq_getD_getElem?] at f26
          refine wpOp_plain rfl rfl (fun K hK => ?_)
          go_simp
          exact hK _ _ ⟨rfl, Below.refl _ _⟩
        apply still_cons
        · intro a' w' hLe hfr hdep
          have e27 := hdep 1 27 (Nat.le_of_ble_eq_true rfl) rfl rfl
          conv at e27 => rhs; whnf
          have f27 := e27; simp only [Array.getD_eq_getD_getElem?] at f27
          refine wpOp_plain rfl rfl (fun K hK => ?_)
          go_simp
          exact hK _ _ ⟨rfl, Below.refl _ _⟩
        apply still_cons
        · intro a' w' hLe hfr hdep
          have e28 := hdep 2 28 (Nat.le_of_ble_eq_true rfl) rfl rfl
          conv at e28 => rhs; whnf
          have f28 := e28; simp only [Array.getD_eq_getD_getElem?] at f28
          exact wpOp_no rfl rfl rfl e28 ⟨rfl, Below.refl _ _⟩
        apply still_cons
        · intro a' w' hLe hfr hdep
          have e28 := hdep 2 28 (Nat.le_of_ble_eq_true rfl) rfl rfl
          conv at e28 => rhs; whnf
          have f28 := e28; simp only [Array.getD_eq_getD_getElem?] at f28
          exact wpOp_no rfl rfl rfl e28 ⟨rfl, Below.refl _ _⟩
        apply still_cons
        · intro a' w' hLe hfr hdep
          have e28 := hdep 2 28 (Nat.le_of_ble_eq_true rfl) rfl rfl
          conv at e28 => rhs; whnf
          have f28 := e28; simp only [Array.getD_eq_getD_getElem?] at f28
          exact wpOp_no rfl rfl rfl e28 ⟨rfl, Below.refl _ _⟩
        apply still_cons
        · intro a' w' hLe hfr hdep
          have e28 := hdep 2 28 (Nat.le_of_ble_eq_true rfl) rfl rfl
          conv at e28 => rhs; whnf
          have f28 := e28; simp only [Array.getD_eq_getD_getElem?] at f28
          exact wpOp_no rfl rfl rfl e28 ⟨rfl, Below.refl _ _⟩
        apply still_cons
        · intro a' w' hLe hfr hdep
          have e32 := hdep 6 32 (Nat.le_of_ble_eq_true rfl) rfl rfl
          conv at e32 => rhs; whnf
          have f32 := e32; simp only [Array.getD_eq_getD_getElem?] at f32
          exact wpOp_un rfl rfl rfl e32 ⟨rfl, Below.refl _ _⟩
        apply still_cons
        · intro a' w' hLe hfr hdep
          have e32 := hdep 6 32 (Nat.le_of_ble_eq_true rfl) rfl rfl
          conv at e32 => rhs; whnf
          have f32 := e32; simp only [Array.getD_eq_getD_getElem?] at f32
          exact wpOp_un rfl rfl rfl e32 ⟨rfl, Below.refl _ _⟩
        apply still_cons
        · intro a' w' hLe hfr hdep
          have e32 := hdep 6 32 (Nat.le_of_ble_eq_true rfl) rfl rfl
          conv at e32 => rhs; whnf
          have f32 := e32; simp only [Array.getD_eq_getD_getElem?] at f32
          exact wpOp_un rfl rfl rfl e32 ⟨rfl, Below.refl _ _⟩
        apply still_cons
        · intro a' w' hLe hfr hdep
          have e32 := hdep 6 32 (Nat.le_of_ble_eq_true rfl) rfl rfl
          conv at e32 => rhs; whnf
          have f32 := e32; simp only [Array.getD_eq_getD_getElem?] at f32
          exact wpOp_un rfl rfl rfl e32 ⟨rfl, Below.refl _ _⟩
        apply still_cons
        · intro a' w' hLe hfr hdep
          have e32 := hdep 6 32 (Nat.le_of_ble_eq_true rfl) rfl rfl
          conv at e32 => rhs; whnf
          have f32 := e32; simp only [Array.getD_eq_getD_getElem?] at f32
          exact wpOp_un rfl rfl rfl e32 ⟨rfl, Below.refl _ _⟩
        apply still_cons
        · intro a' w' hLe hfr hdep
          have e28 := hdep 2 28 (Nat.le_of_ble_eq_true rfl) rfl rfl
          conv at e28 => rhs; whnf
          have f28 := e28; simp only [Array.getD_eq_getD_getElem?] at f28
          exact wpOp_no rfl rfl rfl e28 ⟨rfl, Below.refl _ _⟩
        apply still_cons
        · intro a' w' hLe hfr hdep
          have e28 := hdep 2 28 (Nat.le_of_ble_eq_true rfl) rfl rfl
          conv at e28 => rhs; whnf
          have f28 := e28; simp only [Array.getD_eq_getD_getElem?] at f28
          have e38 := hdep 12 38 (Nat.le_of_ble_eq_true rfl) rfl rfl
          conv at e38 => rhs; whnf
          have f38 := e38; simp only [Array.getD_eq_getD_getElem?] at f38
          refine wpOp_plain rfl rfl (fun K hK => ?_)
          go_simp
          exact hK _ _ ⟨rfl, Below.refl _ _⟩
        apply still_cons
        · intro a' w' hLe hfr hdep
          have e39 := hdep 13 39 (Nat.le_of_ble_eq_true rfl) rfl rfl
          conv at e39 => rhs; whnf
          have f39 := e39; simp only [Array.getD_eq_getD_getElem?] at f39
          refine wpOp_plain rfl rfl (fun K hK => ?_)
          go_simp
          exact hK _ _ ⟨rfl, Below.refl _ _⟩
        apply still_cons
        · intro a' w' hLe hfr hdep
          have e40 := hdep 14 40 (Nat.le_of_ble_eq_true rfl) rfl rfl
          conv at e40 => rhs; whnf
          have f40 := e40; simp only [Array.getD_eq_getD_getElem?] at f40
          refine wpOp_yes rfl rfl rfl e40 (fun K hK => ?_)
          go_simp
          exact hK _ _ ⟨rfl, Below.refl _ _⟩
        apply still_cons
        · intro a' w' hLe hfr hdep
          have e40 := hdep 14 40 (Nat.le_of_ble_eq_true rfl) rfl rfl
          conv at e40 => rhs; whnf
          have f40 := e40; simp only [Array.getD_eq_getD_getElem?] at f40
          have e4 := hfr 4 rfl
          conv at e4 => rhs; whnf
          have f4 := e4; simp only [Array.getD_eq_getD_getElem?] at f4
          have kc := fun i => keepc hLe (w1.heap.size) (by (try simp) <;> omega) i
          have kf := fun i => keepf hLe (w1.heap.size) (by (try simp) <;> omega) i
          have kc := fun i => keepc hLe (w1.heap.size + 1) (by (try simp) <;> omega) i
          have kf := fun i => keepf hLe (w1.heap.size + 1) (by (try simp) <;> omega) i
          have kc := fun i => keepc hLe (w3.heap.size) (by (try simp) <;> omega) i
          have kf := fun i => keepf hLe (w3.heap.size) (by (try simp) <;> omega) i
          refine wpOp_yes rfl rfl rfl e40 (fun K hK => ?_)
          go_simp
          exact hK _ _ ⟨rfl, Below.refl _ _⟩
        apply still_cons
        · intro a' w' hLe hfr hdep
          have e40 := hdep 14 40 (Nat.le_of_ble_eq_true rfl) rfl rfl
          conv at e40 => rhs; whnf
          have f40 := e40; simp only [Array.getD_eq_getD_getElem?] at f40
          have e41 := hdep 15 41 (Nat.le_of_ble_eq_true rfl) rfl rfl
          conv at e41 => rhs; whnf
          have f41 := e41; simp only [Array.getD_eq_getD_getElem?] at f41
          have e42 := hdep 16 42 (Nat.le_of_ble_eq_true rfl) rfl rfl
          conv at e42 => rhs; whnf
          have f42 := e42; simp only [Array.getD_eq_getD_getElem?] at f42
          refine wpOp_yes rfl rfl rfl e40 (fun K hK => ?_)
          go_simp
          refine (implScreenFits_any _ _ _ _ _ _ _ _ _ _ _ _).mono ?_
          rintro e w2 ⟨rfl, hb⟩
          exact hK _ _ ⟨rfl, hb⟩
        apply still_cons
        · intro a' w' hLe hfr hdep
          have e40 := hdep 14 40 (Nat.le_of_ble_eq_true rfl) rfl rfl
          conv at e40 => rhs; whnf
          have f40 := e40; simp only [Array.getD_eq_getD_getElem?] at f40
          have e4 := hfr 4 rfl
          conv at e4 => rhs; whnf
          have f4 := e4; simp only [Array.getD_eq_getD_getElem?] at f4
          have kc := fun i => keepc hLe (w1.heap.size) (by (try simp) <;> omega) i
          have kf := fun i => keepf hLe (w1.heap.size) (by (try simp) <;> omega) i
          have kc := fun i => keepc hLe (w1.heap.size + 1) (by (try simp) <;> omega) i
          have kf := fun i => keepf hLe (w1.heap.size + 1) (by (try simp) <;> omega) i
          have kc := fun i => keepc hLe (w3.heap.size) (by (try simp) <;> omega) i
          have kf := fun i => keepf hLe (w3.heap.size) (by (try simp) <;> omega) i
          refine wpOp_yes rfl rfl rfl e40 (fun K hK => ?_)
          go_simp
          exact hK _ _ ⟨rfl, Below.refl _ _⟩
        apply still_cons
        · intro a' w' hLe hfr hdep
          have e40 := hdep 14 40 (Nat.le_of_ble_eq_true rfl) rfl rfl
          conv at e40 => rhs; whnf
          have f40 := e40; simp only [Array.getD_eq_getD_getElem?] at f40
          have e44 := hdep 18 44 (Nat.le_of_ble_eq_true rfl) rfl rfl
          conv at e44 => rhs; whnf
          have f44 := e44; simp only [Array.getD_eq_getD_getElem?] at f44
          refine wpOp_yes rfl rfl rfl e40 (fun K hK => ?_)
          go_simp
          refine (flowValid_b _ _ _ _ _ _).mono ?_
          rintro e w2 ⟨rfl, hb⟩
          exact hK _ _ ⟨rfl, hb⟩
        apply still_cons
        · intro a' w' hLe hfr hdep
          have e40 := hdep 14 40 (Nat.le_of_ble_eq_true rfl) rfl rfl
          conv at e40 => rhs; whnf
          have f40 := e40; simp only [Array.getD_eq_getD_getElem?] at f40
          have e43 := hdep 17 43 (Nat.le_of_ble_eq_true rfl) rfl rfl
          conv at e43 => rhs; whnf
          have f43 := e43; simp only [Array.getD_eq_getD_getElem?] at f43
          have e45 := hdep 19 45 (Nat.le_of_ble_eq_true rfl) rfl rfl
          conv at e45 => rhs; whnf
          have f45 := e45; simp only [Array.getD_eq_getD_getElem?] at f45
          refine wpOp_yes rfl rfl rfl e40 (fun K hK => ?_)
          go_simp
          exact hK _ _ ⟨rfl, Below.refl _ _⟩
        apply still_cons
        · intro a' w' hLe hfr hdep
          have e40 := hdep 14 40 (Nat.le_of_ble_eq_true rfl) rfl rfl
          conv at e40 => rhs; whnf
          have f40 := e40; simp only [Array.getD_eq_getD_getElem?] at f40
          have e46 := hdep 20 46 (Nat.le_of_ble_eq_true rfl) rfl rfl
          conv at e46 => rhs; whnf
          have f46 := e46; simp only [Array.getD_eq_getD_getElem?] at f46
          refine wpOp_plain rfl rfl (fun K hK => ?_)
          go_simp
          exact hK _ _ ⟨rfl, Below.refl _ _⟩
        apply still_cons
        · intro a' w' hLe hfr hdep
          have e47 := hdep 21 47 (Nat.le_of_ble_eq_true rfl) rfl rfl
          conv at e47 => rhs; whnf
          have f47 := e47; simp only [Array.getD_eq_getD_getElem?] at f47
          refine wpOp_plain rfl rfl (fun K hK => ?_)
          go_simp
          exact hK _ _ ⟨rfl, Below.refl _ _⟩
        apply still_cons
        · intro a' w' hLe hfr hdep
          have e48 := hdep 22 48 (Nat.le_of_ble_eq_true rfl) rfl rfl
          conv at e48 => rhs; whnf
          have f48 := e48; simp only [Array.getD_eq_getD_getElem?] at f48
          refine wpOp_yes rfl rfl rfl e48 (fun K hK => ?_)
          go_simp
          refine (alive_any _).mono ?_
          rintro e w2 ⟨rfl, hb⟩
          exact hK _ _ ⟨rfl, hb⟩
        apply still_cons
        · intro a' w' hLe hfr hdep
          have e48 := hdep 22 48 (Nat.le_of_ble_eq_true rfl) rfl rfl
          conv at e48 => rhs; whnf
          have f48 := e48; simp only [Array.getD_eq_getD_getElem?] at f48
          have e49 := hdep 23 49 (Nat.le_of_ble_eq_true rfl) rfl rfl
          conv at e49 => rhs; whnf
          have f49 := e49; simp only [Array.getD_eq_getD_getElem?] at f49
          refine wpOp_plain rfl rfl (fun K hK => ?_)
          go_simp
          exact hK _ _ ⟨rfl, Below.refl _ _⟩
        apply still_cons
        · intro a' w' hLe hfr hdep
          have e50 := hdep 24 50 (Nat.le_of_ble_eq_true rfl) rfl rfl
          conv at e50 => rhs; whnf
          have f50 := e50; simp only [Array.getD_eq_getD_getElem?] at f50
          refine wpOp_plain rfl rfl (fun K hK => ?_)
          go_simp
          exact hK _ _ ⟨rfl, Below.refl _ _⟩
        apply still_nil
        intro w8 hb8
        simp only [putAll, List.drop_succ_cons, List.drop_zero]
        go_simp
        go_wp2
        go_ret
        exact ⟨rfl, Below.tr hb (by (repeat (first | exact Below.refl _ _ | assumption | refine Below.al ?_ _ | refine Below.dr ?_ | (refine Below.st ?_ (by simp <;> omega) _) | (refine Below.tr ?_ (by assumption)))))⟩
    | true =>
      obtain ⟨hf, hs, hw⟩ := fits_wide hv
      rw [hf] at hz
      go_upto_region 8 with ((first | (go_at_call 14; refine (implScreenFits_any _ _ _ _ _ _ _ _ _ _ _ _).mono ?_; rintro e w2 ⟨rfl, hb2⟩; have c2 := keepc hb2 w1.heap.size (by (try simp) <;> omega); have d2 := keepc hb2 (w1.heap.size + 1) (by (try simp) <;> omega); have z2 : w1.heap.size + 2 ≤ w2.heap.size := (by have := hb2.size; (try simp at this); omega)) | (go_at_call 11; refine (specScreenFits_any _ _ _ _ _ _ _ _ _ _ _ _).mono ?_; rintro e w3 ⟨rfl, hb3⟩; have c3 := keepc hb3 w1.heap.size (by (try simp) <;> omega); have d3 := keepc hb3 (w1.heap.size + 1) (by (try simp) <;> omega); have z3 : w1.heap.size + 2 ≤ w3.heap.size := (by have := hb3.size; (try simp at this); omega))))
      have e3 : ∀ i, w3.cell? ⟨w1.heap.size + 1, i, none⟩ = #[Value.int .i64 f0, .int .i64 f1, .int .i64 f2, .int .i64 f3, .int .i64 f4][i]? := fun i => (d3 i).trans ((d2 i).trans (by simp))
      have e4 : ∀ i, (w3.alloc (.cells #[.int .i64 b, .int .i64 k, .int .i64 0, .int .i64 999, .int .i64 0, .bool false] 31)).cell? ⟨w1.heap.size + 1, i, none⟩ = #[Value.int .i64 f0, .int .i64 f1, .int .i64 f2, .int .i64 f3, .int .i64 f4][i]? := fun i => (keepc (below_alloc1 w3 _) (w1.heap.size + 1) (by omega) i).trans (e3 i)
      have g3 : ∀ i, w3.cell? ⟨w1.heap.size, i, none⟩ = #[Value.int .i64 b, .int .i64 k, .int .i64 l, .int .i64 hi, .int .i64 d, .bool ps][i]? := fun i => (c3 i).trans ((c2 i).trans ((keepc (below_alloc1 (w1.alloc (.cells #[.int .i64 b, .int .i64 k, .int .i64 l, .int .i64 hi, .int .i64 d, .bool ps] 31)) _) w1.heap.size (by simp) i).trans ((blk (heap_alloc_new w1 _)).1 i)))
      have g4 : ∀ i, (w3.alloc (.cells #[.int .i64 b, .int .i64 k, .int .i64 0, .int .i64 999, .int .i64 0, .bool false] 31)).cell? ⟨w1.heap.size, i, none⟩ = #[Value.int .i64 b, .int .i64 k, .int .i64 l, .int .i64 hi, .int .i64 d, .bool ps][i]? := fun i => (keepc (below_alloc1 w3 _) w1.heap.size (by omega) i).trans (g3 i)
      refine wp_region_still (ds := [(0, 26), (1, 27), (2, 28), (3, 29), (4, 30), (5, 31), (6, 32), (7, 33), (8, 34), (9, 35), (10, 36), (11, 37), (12, 38), (13, 39), (14, 40), (15, 41), (16, 42), (17, 43), (18, 44), (19, 45), (20, 46), (21, 47), (22, 48), (23, 49), (24, 50), (25, 2)]) 26 (by kernel_rfl) (by kernel_rfl) (by first | exact .inl rfl | exact .inr (by kernel_rfl)) (by rfl) rfl rfl ?_
      apply still_cons
      · intro a' w' hLe hfr hdep
        have e5 := hfr 5 rfl
        conv at e5 => rhs; whnf
        have f5 := e5; simp only [Array.getD_eq_getD_getElem?] at f5
        refine wpOp_plain rfl rfl (fun K hK => ?_)
        go_simp
        exact hK _ _ ⟨rfl, Below.refl _ _⟩
      apply still_cons
      · intro a' w' hLe hfr hdep
        have e26 := hdep 0 26 (Nat.le_of_ble_eq_true rfl) rfl rfl
        conv at e26 => rhs; whnf
        have f26 := e26; simp only [Array.getD_eq_getD_getElem?] at f26
        refine wpOp_plain rfl rfl (fun K hK => ?_)
        go_simp
        exact hK _ _ ⟨rfl, Below.refl _ _⟩
      apply still_cons
      · intro a' w' hLe hfr hdep
        have e27 := hdep 1 27 (Nat.le_of_ble_eq_true rfl) rfl rfl
        conv at e27 => rhs; whnf
        have f27 := e27; simp only [Array.getD_eq_getD_getElem?] at f27
        refine wpOp_plain rfl rfl (fun K hK => ?_)
        go_simp
        exact hK _ _ ⟨rfl, Below.refl _ _⟩
      apply still_cons
      · intro a' w' hLe hfr hdep
        have e28 := hdep 2 28 (Nat.le_of_ble_eq_true rfl) rfl rfl
        conv at e28 => rhs; whnf
        have f28 := e28; simp only [Array.getD_eq_getD_getElem?] at f28
        have e6 := hfr 6 rfl
        conv at e6 => rhs; whnf
        have f6 := e6; simp only [Array.getD_eq_getD_getElem?] at f6
        have kc := fun i => keepc hLe (w1.heap.size) (by (try simp) <;> omega) i
        have kf := fun i => keepf hLe (w1.heap.size) (by (try simp) <;> omega) i
        have kc := fun i => keepc hLe (w1.heap.size + 1) (by (try simp) <;> omega) i
        have kf := fun i => keepf hLe (w1.heap.size + 1) (by (try simp) <;> omega) i
        have kc := fun i => keepc hLe (w3.heap.size) (by (try simp) <;> omega) i
        have kf := fun i => keepf hLe (w3.heap.size) (by (try simp) <;> omega) i
        refine wpOp_yes rfl rfl rfl e28 (fun K hK => ?_)
        go_simp
        exact hK _ _ ⟨rfl, Below.refl _ _⟩
      apply still_cons
      · intro a' w' hLe hfr hdep
        have e28 := hdep 2 28 (Nat.le_of_ble_eq_true rfl) rfl rfl
        conv at e28 => rhs; whnf
        have f28 := e28; simp only [Array.getD_eq_getD_getElem?] at f28
        have e4 := hfr 4 rfl
        conv at e4 => rhs; whnf
        have f4 := e4; simp only [Array.getD_eq_getD_getElem?] at f4
        have kc := fun i => keepc hLe (w1.heap.size) (by (try simp) <;> omega) i
        have kf := fun i => keepf hLe (w1.heap.size) (by (try simp) <;> omega) i
        have kc := fun i => keepc hLe (w1.heap.size + 1) (by (try simp) <;> omega) i
        have kf := fun i => keepf hLe (w1.heap.size + 1) (by (try simp) <;> omega) i
        have kc := fun i => keepc hLe (w3.heap.size) (by (try simp) <;> omega) i
        have kf := fun i => keepf hLe (w3.heap.size) (by (try simp) <;> omega) i
        refine wpOp_yes rfl rfl rfl e28 (fun K hK => ?_)
        go_simp
        exact hK _ _ ⟨rfl, Below.refl _ _⟩
      apply still_cons
      · intro a' w' hLe hfr hdep
        have e28 := hdep 2 28 (Nat.le_of_ble_eq_true rfl) rfl rfl
        conv at e28 => rhs; whnf
        have f28 := e28; simp only [Array.getD_eq_getD_getElem?] at f28
        have e29 := hdep 3 29 (Nat.le_of_ble_eq_true rfl) rfl rfl
        conv at e29 => rhs; whnf
        have f29 := e29; simp only [Array.getD_eq_getD_getElem?] at f29
        have e30 := hdep 4 30 (Nat.le_of_ble_eq_true rfl) rfl rfl
        conv at e30 => rhs; whnf
        have f30 := e30; simp only [Array.getD_eq_getD_getElem?] at f30
        refine wpOp_yes rfl rfl rfl e28 (fun K hK => ?_)
        go_simp
        refine (implScreenFits_any _ _ _ _ _ _ _ _ _ _ _ _).mono ?_
        rintro e w2 ⟨rfl, hb⟩
        exact hK _ _ ⟨rfl, hb⟩
      apply still_cons
      · intro a' w' hLe hfr hdep
        have e28 := hdep 2 28 (Nat.le_of_ble_eq_true rfl) rfl rfl
        conv at e28 => rhs; whnf
        have f28 := e28; simp only [Array.getD_eq_getD_getElem?] at f28
        have e31 := hdep 5 31 (Nat.le_of_ble_eq_true rfl) rfl rfl
        conv at e31 => rhs; whnf
        have f31 := e31; simp only [Array.getD_eq_getD_getElem?] at f31
        refine wpOp_yes rfl rfl rfl e28 (fun K hK => ?_)
        go_simp
        exact hK _ _ ⟨rfl, Below.refl _ _⟩
      apply still_cons
      · intro a' w' hLe hfr hdep
        have e32 := hdep 6 32 (Nat.le_of_ble_eq_true rfl) rfl rfl
        conv at e32 => rhs; whnf
        have f32 := e32; simp only [Array.getD_eq_getD_getElem?] at f32
        have e3 := hfr 3 rfl
        conv at e3 => rhs; whnf
        have f3 := e3; simp only [Array.getD_eq_getD_getElem?] at f3
        refine wpOp_yes rfl rfl rfl e32 (fun K hK => ?_)
        go_simp
        exact hK _ _ ⟨rfl, Below.refl _ _⟩
      apply still_cons
      · intro a' w' hLe hfr hdep
        have e32 := hdep 6 32 (Nat.le_of_ble_eq_true rfl) rfl rfl
        conv at e32 => rhs; whnf
        have f32 := e32; simp only [Array.getD_eq_getD_getElem?] at f32
        have e33 := hdep 7 33 (Nat.le_of_ble_eq_true rfl) rfl rfl
        conv at e33 => rhs; whnf
        have f33 := e33; simp only [Array.getD_eq_getD_getElem?] at f33
        have kc := fun i => keepc hLe (w1.heap.size) (by (try simp) <;> omega) i
        have kf := fun i => keepf hLe (w1.heap.size) (by (try simp) <;> omega) i
        have kc := fun i => keepc hLe (w1.heap.size + 1) (by (try simp) <;> omega) i
        have kf := fun i => keepf hLe (w1.heap.size + 1) (by (try simp) <;> omega) i
        have kc := fun i => keepc hLe (w3.heap.size) (by (try simp) <;> omega) i
        have kf := fun i => keepf hLe (w3.heap.size) (by (try simp) <;> omega) i
        refine wpOp_yes rfl rfl rfl e32 (fun K hK => ?_)
        go_simp
        exact hK _ _ ⟨rfl, Below.refl _ _⟩
      apply still_cons
      · intro a' w' hLe hfr hdep
        have e32 := hdep 6 32 (Nat.le_of_ble_eq_true rfl) rfl rfl
        conv at e32 => rhs; whnf
        have f32 := e32; simp only [Array.getD_eq_getD_getElem?] at f32
        have e4 := hfr 4 rfl
        conv at e4 => rhs; whnf
        have f4 := e4; simp only [Array.getD_eq_getD_getElem?] at f4
        refine wpOp_yes rfl rfl rfl e32 (fun K hK => ?_)
        go_simp
        exact hK _ _ ⟨rfl, Below.refl _ _⟩
      apply still_cons
      · intro a' w' hLe hfr hdep
        have e32 := hdep 6 32 (Nat.le_of_ble_eq_true rfl) rfl rfl
        conv at e32 => rhs; whnf
        have f32 := e32; simp only [Array.getD_eq_getD_getElem?] at f32
        have e35 := hdep 9 35 (Nat.le_of_ble_eq_true rfl) rfl rfl
        conv at e35 => rhs; whnf
        have f35 := e35; simp only [Array.getD_eq_getD_getElem?] at f35
        have kc := fun i => keepc hLe (w1.heap.size) (by (try simp) <;> omega) i
        have kf := fun i => keepf hLe (w1.heap.size) (by (try simp) <;> omega) i
        have kc := fun i => keepc hLe (w1.heap.size + 1) (by (try simp) <;> omega) i
        have kf := fun i => keepf hLe (w1.heap.size + 1) (by (try simp) <;> omega) i
        have kc := fun i => keepc hLe (w3.heap.size) (by (try simp) <;> omega) i
        have kf := fun i => keepf hLe (w3.heap.size) (by (try simp) <;> omega) i
        refine wpOp_yes rfl rfl rfl e32 (fun K hK => ?_)
        go_simp
        exact hK _ _ ⟨rfl, Below.refl _ _⟩
      apply still_cons
      · intro a' w' hLe hfr hdep
        have e32 := hdep 6 32 (Nat.le_of_ble_eq_true rfl) rfl rfl
        conv at e32 => rhs; whnf
        have f32 := e32; simp only [Array.getD_eq_getD_getElem?] at f32
        have e34 := hdep 8 34 (Nat.le_of_ble_eq_true rfl) rfl rfl
        conv at e34 => rhs; whnf
        have f34 := e34; simp only [Array.getD_eq_getD_getElem?] at f34
        have e36 := hdep 10 36 (Nat.le_of_ble_eq_true rfl) rfl rfl
        conv at e36 => rhs; whnf
        have f36 := e36; simp only [Array.getD_eq_getD_getElem?] at f36
        refine wpOp_yes rfl rfl rfl e32 (fun K hK => ?_)
        go_simp
        refine (implPrefixHas_any _ _ _ _).mono ?_
        rintro e w2 ⟨rfl, hb⟩
        exact hK _ _ ⟨rfl, hb⟩
      apply still_cons
      · intro a' w' hLe hfr hdep
        have e28 := hdep 2 28 (Nat.le_of_ble_eq_true rfl) rfl rfl
        conv at e28 => rhs; whnf
        have f28 := e28; simp only [Array.getD_eq_getD_getElem?] at f28
        have e32 := hdep 6 32 (Nat.le_of_ble_eq_true rfl) rfl rfl
        conv at e32 => rhs; whnf
        have f32 := e32; simp only [Array.getD_eq_getD_getElem?] at f32
        have e37 := hdep 11 37 (Nat.le_of_ble_eq_true rfl) rfl rfl
        conv at e37 => rhs; whnf
        have f37 := e37; simp only [Array.getD_eq_getD_getElem?] at f37
        refine wpOp_yes rfl rfl rfl e28 (fun K hK => ?_)
        go_simp
        exact hK _ _ ⟨rfl, Below.refl _ _⟩
      apply still_cons
      · intro a' w' hLe hfr hdep
        have e28 := hdep 2 28 (Nat.le_of_ble_eq_true rfl) rfl rfl
        conv at e28 => rhs; whnf
        have f28 := e28; simp only [Array.getD_eq_getD_getElem?] at f28
        have e38 := hdep 12 38 (Nat.le_of_ble_eq_true rfl) rfl rfl
        conv at e38 => rhs; whnf
        have f38 := e38; simp only [Array.getD_eq_getD_getElem?] at f38
        refine wpOp_plain rfl rfl (fun K hK => ?_)
        go_simp
        exact hK _ _ ⟨rfl, Below.refl _ _⟩
      apply still_cons
      · intro a' w' hLe hfr hdep
        have e39 := hdep 13 39 (Nat.le_of_ble_eq_true rfl) rfl rfl
        conv at e39 => rhs; whnf
        have f39 := e39; simp only [Array.getD_eq_getD_getElem?] at f39
        refine wpOp_plain rfl rfl (fun K hK => ?_)
        go_simp
        exact hK _ _ ⟨rfl, Below.refl _ _⟩
      apply still_cons
      · intro a' w' hLe hfr hdep
        have e40 := hdep 14 40 (Nat.le_of_ble_eq_true rfl) rfl rfl
        conv at e40 => rhs; whnf
        have f40 := e40; simp only [Array.getD_eq_getD_getElem?] at f40
        refine wpOp_yes rfl rfl rfl e40 (fun K hK => ?_)
        go_simp
        exact hK _ _ ⟨rfl, Below.refl _ _⟩
      apply still_cons
      · intro a' w' hLe hfr hdep
        have e40 := hdep 14 40 (Nat.le_of_ble_eq_true rfl) rfl rfl
        conv at e40 => rhs; whnf
        have f40 := e40; simp only [Array.getD_eq_getD_getElem?] at f40
        have e4 := hfr 4 rfl
        conv at e4 => rhs; whnf
        have f4 := e4; simp only [Array.getD_eq_getD_getElem?] at f4
        have kc := fun i => keepc hLe (w1.heap.size) (by (try simp) <;> omega) i
        have kf := fun i => keepf hLe (w1.heap.size) (by (try simp) <;> omega) i
        have kc := fun i => keepc hLe (w1.heap.size + 1) (by (try simp) <;> omega) i
        have kf := fun i => keepf hLe (w1.heap.size + 1) (by (try simp) <;> omega) i
        have kc := fun i => keepc hLe (w3.heap.size) (by (try simp) <;> omega) i
        have kf := fun i => keepf hLe (w3.heap.size) (by (try simp) <;> omega) i
        refine wpOp_yes rfl rfl rfl e40 (fun K hK => ?_)
        go_simp
        exact hK _ _ ⟨rfl, Below.refl _ _⟩
      apply still_cons
      · intro a' w' hLe hfr hdep
        have e40 := hdep 14 40 (Nat.le_of_ble_eq_true rfl) rfl rfl
        conv at e40 => rhs; whnf
        have f40 := e40; simp only [Array.getD_eq_getD_getElem?] at f40
        have e41 := hdep 15 41 (Nat.le_of_ble_eq_true rfl) rfl rfl
        conv at e41 => rhs; whnf
        have f41 := e41; simp only [Array.getD_eq_getD_getElem?] at f41
        have e42 := hdep 16 42 (Nat.le_of_ble_eq_true rfl) rfl rfl
        conv at e42 => rhs; whnf
        have f42 := e42; simp only [Array.getD_eq_getD_getElem?] at f42
        refine wpOp_yes rfl rfl rfl e40 (fun K hK => ?_)
        go_simp
        refine (implScreenFits_any _ _ _ _ _ _ _ _ _ _ _ _).mono ?_
        rintro e w2 ⟨rfl, hb⟩
        exact hK _ _ ⟨rfl, hb⟩
      apply still_cons
      · intro a' w' hLe hfr hdep
        have e40 := hdep 14 40 (Nat.le_of_ble_eq_true rfl) rfl rfl
        conv at e40 => rhs; whnf
        have f40 := e40; simp only [Array.getD_eq_getD_getElem?] at f40
        have e4 := hfr 4 rfl
        conv at e4 => rhs; whnf
        have f4 := e4; simp only [Array.getD_eq_getD_getElem?] at f4
        have kc := fun i => keepc hLe (w1.heap.size) (by (try simp) <;> omega) i
        have kf := fun i => keepf hLe (w1.heap.size) (by (try simp) <;> omega) i
        have kc := fun i => keepc hLe (w1.heap.size + 1) (by (try simp) <;> omega) i
        have kf := fun i => keepf hLe (w1.heap.size + 1) (by (try simp) <;> omega) i
        have kc := fun i => keepc hLe (w3.heap.size) (by (try simp) <;> omega) i
        have kf := fun i => keepf hLe (w3.heap.size) (by (try simp) <;> omega) i
        refine wpOp_yes rfl rfl rfl e40 (fun K hK => ?_)
        go_simp
        exact hK _ _ ⟨rfl, Below.refl _ _⟩
      apply still_cons
      · intro a' w' hLe hfr hdep
        have e40 := hdep 14 40 (Nat.le_of_ble_eq_true rfl) rfl rfl
        conv at e40 => rhs; whnf
        have f40 := e40; simp only [Array.getD_eq_getD_getElem?] at f40
        have e44 := hdep 18 44 (Nat.le_of_ble_eq_true rfl) rfl rfl
        conv at e44 => rhs; whnf
        have f44 := e44; simp only [Array.getD_eq_getD_getElem?] at f44
        refine wpOp_yes rfl rfl rfl e40 (fun K hK => ?_)
        go_simp
        refine (flowValid_b _ _ _ _ _ _).mono ?_
        rintro e w2 ⟨rfl, hb⟩
        exact hK _ _ ⟨rfl, hb⟩
      apply still_cons
      · intro a' w' hLe hfr hdep
        have e40 := hdep 14 40 (Nat.le_of_ble_eq_true rfl) rfl rfl
        conv at e40 => rhs; whnf
        have f40 := e40; simp only [Array.getD_eq_getD_getElem?] at f40
        have e43 := hdep 17 43 (Nat.le_of_ble_eq_true rfl) rfl rfl
        conv at e43 => rhs; whnf
        have f43 := e43; simp only [Array.getD_eq_getD_getElem?] at f43
        have e45 := hdep 19 45 (Nat.le_of_ble_eq_true rfl) rfl rfl
        conv at e45 => rhs; whnf
        have f45 := e45; simp only [Array.getD_eq_getD_getElem?] at f45
        refine wpOp_yes rfl rfl rfl e40 (fun K hK => ?_)
        go_simp
        exact hK _ _ ⟨rfl, Below.refl _ _⟩
      apply still_cons
      · intro a' w' hLe hfr hdep
        have e40 := hdep 14 40 (Nat.le_of_ble_eq_true rfl) rfl rfl
        conv at e40 => rhs; whnf
        have f40 := e40; simp only [Array.getD_eq_getD_getElem?] at f40
        have e46 := hdep 20 46 (Nat.le_of_ble_eq_true rfl) rfl rfl
        conv at e46 => rhs; whnf
        have f46 := e46; simp only [Array.getD_eq_getD_getElem?] at f46
        refine wpOp_plain rfl rfl (fun K hK => ?_)
        go_simp
        exact hK _ _ ⟨rfl, Below.refl _ _⟩
      apply still_cons
      · intro a' w' hLe hfr hdep
        have e47 := hdep 21 47 (Nat.le_of_ble_eq_true rfl) rfl rfl
        conv at e47 => rhs; whnf
        have f47 := e47; simp only [Array.getD_eq_getD_getElem?] at f47
        refine wpOp_plain rfl rfl (fun K hK => ?_)
        go_simp
        exact hK _ _ ⟨rfl, Below.refl _ _⟩
      apply still_cons
      · intro a' w' hLe hfr hdep
        have e48 := hdep 22 48 (Nat.le_of_ble_eq_true rfl) rfl rfl
        conv at e48 => rhs; whnf
        have f48 := e48; simp only [Array.getD_eq_getD_getElem?] at f48
        refine wpOp_yes rfl rfl rfl e48 (fun K hK => ?_)
        go_simp
        refine (alive_any _).mono ?_
        rintro e w2 ⟨rfl, hb⟩
        exact hK _ _ ⟨rfl, hb⟩
      apply still_cons
      · intro a' w' hLe hfr hdep
        have e48 := hdep 22 48 (Nat.le_of_ble_eq_true rfl) rfl rfl
        conv at e48 => rhs; whnf
        have f48 := e48; simp only [Array.getD_eq_getD_getElem?] at f48
        have e49 := hdep 23 49 (Nat.le_of_ble_eq_true rfl) rfl rfl
        conv at e49 => rhs; whnf
        have f49 := e49; simp only [Array.getD_eq_getD_getElem?] at f49
        refine wpOp_plain rfl rfl (fun K hK => ?_)
        go_simp
        exact hK _ _ ⟨rfl, Below.refl _ _⟩
      apply still_cons
      · intro a' w' hLe hfr hdep
        have e50 := hdep 24 50 (Nat.le_of_ble_eq_true rfl) rfl rfl
        conv at e50 => rhs; whnf
        have f50 := e50; simp only [Array.getD_eq_getD_getElem?] at f50
        refine wpOp_plain rfl rfl (fun K hK => ?_)
        go_simp
        exact hK _ _ ⟨rfl, Below.refl _ _⟩
      apply still_nil
      intro w8 hb8
      simp only [putAll, List.drop_succ_cons, List.drop_zero]
      go_simp
      go_wp2
      go_ret
      exact ⟨rfl, Below.tr hb (by (repeat (first | exact Below.refl _ _ | assumption | refine Below.al ?_ _ | refine Below.dr ?_ | (refine Below.st ?_ (by simp <;> omega) _) | (refine Below.tr ?_ (by assumption)))))⟩
end Go.Proofs.Ytcljfakpcecejaa
