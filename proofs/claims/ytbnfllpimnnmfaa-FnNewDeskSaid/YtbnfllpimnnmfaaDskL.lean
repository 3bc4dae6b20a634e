/-
  The laws on new desks: their walks.
-/
import Derived.Test.YtbnfllpimnnmfaaDsk
import Derived.Test.YtbnfllpimnnmfaaFree
namespace Go.Proofs.Ytbnfllpimnnmfaa
open Go Go.RowKit Go.Joins

set_option maxRecDepth 20000 in
set_option maxHeartbeats 8000000 in
theorem exactNewDesk_walk (sz st : Int) {w : World} :
    Calls Try.prog 7 #[.int .i64 sz, .int .i64 st] w (Truly w) := by
  have hI := fun w => implNewDesk_any sz st w
  have hS := fun w => specNewDesk_any sz st w
  unfold DeskR at hS
  generalize ndI sz st sz = a at hI hS
  generalize ndI sz st st = b at hI hS
  have HI := Lib.hid hI
  have HS := Lib.hid hS
  clear hI hS
  go_enter Try.func7, Try.ntmps7
  go_wp2_with fail
  refine (HS.out _).mono ?_
  rintro e w1 ⟨A, c, A', c', rfl, hb1⟩
  go_wp2_with fail
  refine (HI.out _).mono ?_
  rintro e w2 ⟨rfl, hb2⟩
  have hB2 : Below w.heap.size w w2 := Below.tr hb1 ((below_new w1 _).trans (hb2.mono (by simp)))
  have hz1 : w1.heap.size < w2.heap.size := by have := hb2.size; simp at this; omega
  have hB3 := Below.tr hB2 (below_new w2 (.cells #[Value.slice none 0 0, .int .i64 a, .int .i64 b, .slice none 0 0, .int .i64 0] 37))
  have K1 := Lib.hid (fun (W : World) (hW : Below (w2.alloc (.cells #[Value.slice none 0 0, .int .i64 a, .int .i64 b, .slice none 0 0, .int .i64 0] 37)).heap.size (w2.alloc (.cells #[Value.slice none 0 0, .int .i64 a, .int .i64 b, .slice none 0 0, .int .i64 0] 37)) W) (i : Nat) =>
    show W.cell? ⟨w1.heap.size, i, none⟩ = #[Value.slice A 0 c, .int .i64 a, .int .i64 b, .slice A' 0 c', .int .i64 0][i]? from (keepc hW w1.heap.size (by simp; omega) i).trans ((keepc (below_new w2 _) w1.heap.size hz1 i).trans ((keepc hb2 w1.heap.size (by simp) i).trans ((blk (heap_alloc_new w1 _)).1 i))))
  have K2 := Lib.hid (fun (W : World) (hW : Below (w2.alloc (.cells #[Value.slice none 0 0, .int .i64 a, .int .i64 b, .slice none 0 0, .int .i64 0] 37)).heap.size (w2.alloc (.cells #[Value.slice none 0 0, .int .i64 a, .int .i64 b, .slice none 0 0, .int .i64 0] 37)) W) (i : Nat) =>
    show W.cell? ⟨w2.heap.size, i, none⟩ = #[Value.slice none 0 0, .int .i64 a, .int .i64 b, .slice none 0 0, .int .i64 0][i]? from (keepc hW w2.heap.size (by simp) i).trans ((blk (heap_alloc_new w2 _)).1 i))
  have k1 := K1.out _ (Below.refl _ _)
  clear hb1 hb2
  go_wp2_with fail
  refine (eqDesk_nil _ _ _).mono ?_
  rintro e w3 ⟨rfl, hb3⟩
  clear k1
  have k2 := K2.out _ hb3
  have z3 := hb3.size
  simp at z3
  go_wp2_with fail
  refine (markDesk_nil _ _ 1 (by omega) _).mono ?_
  rintro e w4 ⟨rfl, hb4⟩
  have hb4 := Below.tr hb3 hb4
  clear k2 hb3
  have k2 := K2.out _ hb4
  go_wp2_with fail
  refine (heldDesk_nil _ _ 1 (by omega) _).mono ?_
  rintro e w5 ⟨rfl, hb5⟩
  have hb5 := Below.tr hb4 hb5
  clear k2 hb4
  go_wp2_with fail
  refine (HI.out _).mono ?_
  rintro e w6 ⟨rfl, hb6⟩
  have hb6 := Below.tr hb5 hb6
  clear hb5
  have hb7 := Below.tr hb6 (below_new w6 (.cells #[Value.slice none 0 0, .int .i64 a, .int .i64 b, .slice none 0 0, .int .i64 0] 37))
  have k1 := K1.out _ hb7
  go_wp2_with fail
  refine (eqDesk_nil _ _ _).mono ?_
  rintro e w8 ⟨rfl, hb8⟩
  have hb8 := Below.tr hb7 hb8
  clear k1 hb7
  have k2 := K2.out _ hb8
  go_wp2_with fail
  refine (heldDesk_nil _ _ 1 (by omega) _).mono ?_
  rintro e w9 ⟨rfl, hb9⟩
  have hb9 := Below.tr hb8 hb9
  clear k2
  go_wp2
  go_ret
  exact ⟨rfl, Below.tr hB3 hb9⟩

def kbDesk (a b : Int) : KB := ⟨fun v _ => ∃ A c A' c', v = .agg #[.slice A 0 c, .int .i64 a, .int .i64 b, .slice A' 0 c', .int .i64 0], fun _ _ _ h _ => h⟩
/-- Two numbers. -/
def Two (w : World) (e : Ending) (w' : World) : Prop := ∃ x y : Int, e = .returned (.tuple #[.int .i64 x, .int .i64 y]) ∧ Below w.heap.size w w'
set_option maxHeartbeats 4000000 in
theorem drawNewDesk_any {w : World} {A : Option Addr} {n c : Nat} (h : Bytes w w.heap.size A n c) :
    Calls Try.prog 13 #[.slice A n c] w (Two w) := by
  go_enter Try.func13, Try.ntmps13
  go_wp2_with fail
  refine (open_any h (Nat.le_refl _)).mono ?_
  rintro e w1 ⟨m, g, rfl, hgl, hr1, hb1, hs1⟩
  have hg2 := hr1.lt
  obtain ⟨B, hBe⟩ : ∃ B, B = w.heap.size := ⟨_, rfl⟩
  rw [← hBe] at hr1
  go_upto_region 2 with (fail)
  refine wp_region_draws (ds := [(0, 7), (1, 8), (2, 9), (3, 10), (4, 11), (5, 12), (6, 13), (7, 14), (8, 15), (9, 2), (10, 3)]) (B := B) (g := g) (z := g) (O := fun _ => False) (A := A) (m := m) (c := c) (p := _) 11 1 [kIs g g (fun _ => False) (.pointer (some ⟨g, 0, none⟩)), kInt g g (fun _ => False) 0 13, kIs g g (fun _ => False) (.pointer (some ⟨g, 0, none⟩)), kInt g g (fun _ => False) 0 255, kArr g g (fun _ => False) 3 3 (fun cs => ∃ y0 : Int, 0 ≤ y0 ∧ y0 ≤ 255 ∧ cs = #[.int .i64 y0, .int .i64 100000, .int .i64 100001]), kIs g g (fun _ => False) (.pointer (some ⟨g, 0, none⟩)), kInt g g (fun _ => False) 0 2, kCell g g (fun _ => False) (fun v => ∃ y0 : Int, 0 ≤ y0 ∧ y0 ≤ 100001 ∧ v = .int .i64 y0), kInt g g (fun _ => False) 0 100001, kInt g g (fun _ => False) 0 13, kInt g g (fun _ => False) 0 100001] (by kernel_rfl) (by kernel_rfl) (by first | exact .inl rfl | exact .inr (by kernel_rfl)) hr1 (Rd.lt hr1) (by rfl) ?_ rfl rfl ?_
  · refine each_cons ?_ ( each_cons ?_ ( each_cons ?_ ( each_cons ?_ ( each_cons ?_ ( each_cons ?_ ( each_cons ?_ ( each_cons ?_ ( each_cons ?_ ( each_cons ?_ ( each_cons ?_ ( each_nil)))))))))))
    · intro q a' w' hq hRd hLe hzl hfr hdep
      have e4 : a'.tmps.getD 4 undef = .pointer (some ⟨g, 0, none⟩) := hfr 4 rfl
      have f4 := e4; simp only [Array.getD_eq_getD_getElem?] at f4
      refine wpOp_plain rfl rfl (fun K hK => ?_)
      go_simp
      exact hK _ _ ⟨_, q, rfl, by omega, hRd, Turns.refl _, rfl, nofun⟩
    · intro q a' w' hq hRd hLe hzl hfr hdep
      have e7 : a'.tmps.getD 7 undef = .pointer (some ⟨g, 0, none⟩) := hdep 0 _ 7 rfl rfl rfl
      have f7 := e7; simp only [Array.getD_eq_getD_getElem?] at f7
      refine wpOp_plain rfl rfl (fun K hK => ?_)
      go_simp
      refine (pick_any hRd _ (by omega)).mono ?_
      rintro e w2 ⟨k, rfl, hk, hr, hg, hs⟩
      have hk1 := hk.1; have hk2 := hk.2.1; have hk3 := hk.2.2
      exact hK _ _ ⟨_, _, rfl, by omega, hr, Turns.of_grown hg, ⟨k, rfl, by omega, by omega⟩, nofun⟩
    · intro q a' w' hq hRd hLe hzl hfr hdep
      have e4 : a'.tmps.getD 4 undef = .pointer (some ⟨g, 0, none⟩) := hfr 4 rfl
      have f4 := e4; simp only [Array.getD_eq_getD_getElem?] at f4
      refine wpOp_plain rfl rfl (fun K hK => ?_)
      go_simp
      exact hK _ _ ⟨_, q, rfl, by omega, hRd, Turns.refl _, rfl, nofun⟩
    · intro q a' w' hq hRd hLe hzl hfr hdep
      have e9 : a'.tmps.getD 9 undef = .pointer (some ⟨g, 0, none⟩) := hdep 2 _ 9 rfl rfl rfl
      have f9 := e9; simp only [Array.getD_eq_getD_getElem?] at f9
      refine wpOp_plain rfl rfl (fun K hK => ?_)
      go_simp
      refine (pick_any hRd _ (by omega)).mono ?_
      rintro e w2 ⟨k, rfl, hk, hr, hg, hs⟩
      have hk1 := hk.1; have hk2 := hk.2.1; have hk3 := hk.2.2
      exact hK _ _ ⟨_, _, rfl, by omega, hr, Turns.of_grown hg, ⟨k, rfl, by omega, by omega⟩, nofun⟩
    · intro q a' w' hq hRd hLe hzl hfr hdep
      obtain ⟨x10, e10, b10, c10⟩ : (kInt g g (fun _ => False) 0 255).p (a'.tmps.getD 10 undef) w' := hdep 3 _ 10 rfl rfl rfl
      have f10 := e10; simp only [Array.getD_eq_getD_getElem?] at f10
      refine wpOp_plain rfl rfl (fun K hK => ?_)
      go_simp
      exact hK _ _ ⟨_, q, rfl, by omega, hRd.alloc _, Turns.alloc _ _, ⟨_, _, rfl, by have := hRd.lt; omega, heap_alloc_new _ _, x10, by omega, by omega, rfl⟩, nofun⟩
    · intro q a' w' hq hRd hLe hzl hfr hdep
      have e4 : a'.tmps.getD 4 undef = .pointer (some ⟨g, 0, none⟩) := hfr 4 rfl
      have f4 := e4; simp only [Array.getD_eq_getD_getElem?] at f4
      refine wpOp_plain rfl rfl (fun K hK => ?_)
      go_simp
      exact hK _ _ ⟨_, q, rfl, by omega, hRd, Turns.refl _, rfl, nofun⟩
    · intro q a' w' hq hRd hLe hzl hfr hdep
      have e12 : a'.tmps.getD 12 undef = .pointer (some ⟨g, 0, none⟩) := hdep 5 _ 12 rfl rfl rfl
      have f12 := e12; simp only [Array.getD_eq_getD_getElem?] at f12
      refine wpOp_plain rfl rfl (fun K hK => ?_)
      go_simp
      refine (pick_any hRd _ (by omega)).mono ?_
      rintro e w2 ⟨k, rfl, hk, hr, hg, hs⟩
      have hk1 := hk.1; have hk2 := hk.2.1; have hk3 := hk.2.2
      exact hK _ _ ⟨_, _, rfl, by omega, hr, Turns.of_grown hg, ⟨k, rfl, by omega, by omega⟩, nofun⟩
    · intro q a' w' hq hRd hLe hzl hfr hdep
      obtain ⟨a11, cs11, e11, hb11, hh11, y11_0, by11_0, cy11_0, rfl⟩ : (kArr g g (fun _ => False) 3 3 (fun cs => ∃ y0 : Int, 0 ≤ y0 ∧ y0 ≤ 255 ∧ cs = #[.int .i64 y0, .int .i64 100000, .int .i64 100001])).p (a'.tmps.getD 11 undef) w' := hdep 4 _ 11 rfl rfl rfl
      have f11 := e11; simp only [Array.getD_eq_getD_getElem?] at f11
      obtain ⟨x13, e13, b13, c13⟩ : (kInt g g (fun _ => False) 0 2).p (a'.tmps.getD 13 undef) w' := hdep 6 _ 13 rfl rfl rfl
      have f13 := e13; simp only [Array.getD_eq_getD_getElem?] at f13
      rcases (show x13 = 0 ∨ x13 = 1 ∨ x13 = 2 by omega) with rfl | rfl | rfl
      · refine wpOp_plain rfl rfl (fun K hK => ?_)
        go_simp
        exact hK _ _ ⟨_, q, rfl, by omega, hRd, Turns.refl _, ⟨_, _, _, rfl, hb11, (cell_of_row _ _ 0 _ _ _ hh11).trans rfl, y11_0, by omega, by omega, rfl⟩, nofun⟩
      · refine wpOp_plain rfl rfl (fun K hK => ?_)
        go_simp
        exact hK _ _ ⟨_, q, rfl, by omega, hRd, Turns.refl _, ⟨_, _, _, rfl, hb11, (cell_of_row _ _ 1 _ _ _ hh11).trans rfl, 100000, by omega, by omega, rfl⟩, nofun⟩
      · refine wpOp_plain rfl rfl (fun K hK => ?_)
        go_simp
        exact hK _ _ ⟨_, q, rfl, by omega, hRd, Turns.refl _, ⟨_, _, _, rfl, hb11, (cell_of_row _ _ 2 _ _ _ hh11).trans rfl, 100001, by omega, by omega, rfl⟩, nofun⟩
    · intro q a' w' hq hRd hLe hzl hfr hdep
      obtain ⟨a14, o14, v14, e14, hb14, hc14, y14_0, by14_0, cy14_0, rfl⟩ : (kCell g g (fun _ => False) (fun v => ∃ y0 : Int, 0 ≤ y0 ∧ y0 ≤ 100001 ∧ v = .int .i64 y0)).p (a'.tmps.getD 14 undef) w' := hdep 7 _ 14 rfl rfl rfl
      have f14 := e14; simp only [Array.getD_eq_getD_getElem?] at f14
      refine wpOp_plain rfl rfl (fun K hK => ?_)
      go_simp
      exact hK _ _ ⟨_, q, rfl, by omega, hRd, Turns.refl _, ⟨_, rfl, by omega, by omega⟩, nofun⟩
    · intro q a' w' hq hRd hLe hzl hfr hdep
      obtain ⟨x8, e8, b8, c8⟩ : (kInt g g (fun _ => False) 0 13).p (a'.tmps.getD 8 undef) w' := hdep 1 _ 8 rfl rfl rfl
      have f8 := e8; simp only [Array.getD_eq_getD_getElem?] at f8
      refine wpOp_plain rfl rfl (fun K hK => ?_)
      go_simp
      exact hK _ _ ⟨_, q, rfl, by omega, hRd, Turns.refl _, ⟨_, rfl, b8, c8⟩, nofun⟩
    · intro q a' w' hq hRd hLe hzl hfr hdep
      obtain ⟨x15, e15, b15, c15⟩ : (kInt g g (fun _ => False) 0 100001).p (a'.tmps.getD 15 undef) w' := hdep 8 _ 15 rfl rfl rfl
      have f15 := e15; simp only [Array.getD_eq_getD_getElem?] at f15
      refine wpOp_plain rfl rfl (fun K hK => ?_)
      go_simp
      exact hK _ _ ⟨_, q, rfl, by omega, hRd, Turns.refl _, ⟨_, rfl, b15, c15⟩, nofun⟩
  intro vs w4 q4 hq4 hr4 hg4 hT4 hN4
  replace hg4 := hg4.grown
  obtain ⟨x2, e2, b2, c2⟩ : (kInt g g (fun _ => False) 0 13).p (vs 9) w4 := hT4 9 2 rfl
  obtain ⟨x3, e3, b3, c3⟩ : (kInt g g (fun _ => False) 0 100001).p (vs 10) w4 := hT4 10 3 rfl
  clear hT4 hN4
  simp only [putAll, List.drop_succ_cons, List.drop_zero, e2, e3]
  clear e2 e3
  go_simp
  have hB4 : Below w.heap.size w w4 := hb1.trans (below_grown hg4 hb1.size hgl)
  go_wp2
  go_ret2
  exact ⟨x2, x3, rfl, hB4⟩

set_option maxRecDepth 20000 in
set_option maxHeartbeats 8000000 in
theorem newDesk_walk {w : World} {A : Option Addr} {n c : Nat} (h : Bytes w w.heap.size A n c) :
    Calls Try.prog 4 #[.slice A n c] w (Truly w) := by
  by_cases hn : 1048576 < n
  · have hd : decide ((1048576 : Int) < (n : Int)) = true := by simp; omega
    go_enter Try.func4, Try.ntmps4
    go_wp2
    go_ret
    exact ⟨rfl, Below.refl _ _⟩
  have hd : decide ((1048576 : Int) < (n : Int)) = false := by simp; omega
  clear hn
  go_enter Try.func4, Try.ntmps4
  go_wp2_with fail
  refine (drawNewDesk_any h).mono ?_
  rintro e w1 ⟨sz, st, rfl, hb1⟩
  have hI := fun w => implNewDesk_any sz st w
  have hS := fun w => specNewDesk_any sz st w
  unfold DeskR at hS
  have hT : tabB (ndI sz st sz) (ndI sz st st) = tabB sz st ∧ (tabB sz st = true → ndI sz st sz ≠ 0) ∧ (tabB sz st = false → ndI sz st sz = 0) := by
    cases ht : tabB sz st with
    | false => rw [ndI_no ht, ndI_no ht]; exact ⟨by decide, fun h => by simp at h, fun _ => rfl⟩
    | true =>
      rw [ndI_yes ht, ndI_yes ht]
      refine ⟨ht, fun _ => ?_, fun h => by simp at h⟩
      simp only [tabB, Bool.and_eq_true] at ht
      have := inB_true.1 ht.1
      omega
  generalize ndI sz st sz = a at hI hS hT
  generalize ndI sz st st = b at hI hS hT
  have HI := Lib.hid hI
  have HS := Lib.hid hS
  have HT := Lib.hid hT
  clear hI hS hT hd
  go_wp2_with fail
  refine (HI.out _).mono ?_
  rintro e w2 ⟨rfl, hb2⟩
  have hB2 := Below.tr hb1 (Below.tr hb2 (below_new w2 (.cells #[Value.slice none 0 0, .int .i64 a, .int .i64 b, .slice none 0 0, .int .i64 0] 37)))
  go_upto_region 5 with (fail)
  refine wp_region_free (ds := [(0, 17), (1, 18), (2, 19), (3, 20), (4, 21), (5, 22)]) 6 (by kernel_rfl) (by kernel_rfl) (by first | exact .inl rfl | exact .inr (by kernel_rfl)) (by rfl) rfl rfl ?_
  apply free_is
  · intro a' w' hLe hfr hdep
    have e5 := hfr 5 rfl
    conv at e5 => rhs; whnf
    have f5 := e5; simp only [Array.getD_eq_getD_getElem?] at f5
    have kc := fun i => keepc hLe (w2.heap.size) (by (try simp) <;> omega) i
    have kf := fun i => keepf hLe (w2.heap.size) (by (try simp) <;> omega) i
    have kz : w2.heap.size < w'.heap.size := (by have := hLe.size; (try simp at this); omega)
    refine wpOp_plain rfl rfl (fun K hK => ?_)
    go_simp
    exact hK _ _ ⟨_, rfl, Below.refl _ _, rfl⟩
  apply free_is
  · intro a' w' hLe hfr hdep
    have e3 := hfr 3 rfl
    conv at e3 => rhs; whnf
    have f3 := e3; simp only [Array.getD_eq_getD_getElem?] at f3
    refine wpOp_plain rfl rfl (fun K hK => ?_)
    go_simp
    exact hK _ _ ⟨_, rfl, Below.refl _ _, rfl⟩
  apply free_is
  · intro a' w' hLe hfr hdep
    have e4 := hfr 4 rfl
    conv at e4 => rhs; whnf
    have f4 := e4; simp only [Array.getD_eq_getD_getElem?] at f4
    refine wpOp_plain rfl rfl (fun K hK => ?_)
    go_simp
    exact hK _ _ ⟨_, rfl, Below.refl _ _, rfl⟩
  refine free_cons (kbDesk a b) ?_ ?_
  · intro a' w' hLe hfr hdep
    have e18 : a'.tmps.getD 18 undef = _ := hdep 1 18 (Nat.le_of_ble_eq_true rfl) rfl rfl
    conv at e18 => rhs; whnf
    have f18 := e18; simp only [Array.getD_eq_getD_getElem?] at f18
    have e19 : a'.tmps.getD 19 undef = _ := hdep 2 19 (Nat.le_of_ble_eq_true rfl) rfl rfl
    conv at e19 => rhs; whnf
    have f19 := e19; simp only [Array.getD_eq_getD_getElem?] at f19
    have kc := fun i => keepc hLe (w2.heap.size) (by (try simp) <;> omega) i
    have kf := fun i => keepf hLe (w2.heap.size) (by (try simp) <;> omega) i
    have kz : w2.heap.size < w'.heap.size := (by have := hLe.size; (try simp at this); omega)
    refine wpOp_plain rfl rfl (fun K hK => ?_)
    go_simp
    refine (HS.out _).mono ?_
    rintro e w2 ⟨A, c, A', c', rfl, hb⟩
    exact hK _ _ ⟨_, rfl, hb, ⟨A, c, A', c', rfl⟩⟩
  apply free_is
  · intro a' w' hLe hfr hdep
    have e17 : a'.tmps.getD 17 undef = _ := hdep 0 17 (Nat.le_of_ble_eq_true rfl) rfl rfl
    conv at e17 => rhs; whnf
    have f17 := e17; simp only [Array.getD_eq_getD_getElem?] at f17
    obtain ⟨A20, c20, A'20, c'20, e20⟩ := hdep 3 20 (Nat.le_of_ble_eq_true rfl) rfl rfl
    have f20 := e20; simp only [Array.getD_eq_getD_getElem?] at f20
    have kc := fun i => keepc hLe (w2.heap.size) (by (try simp) <;> omega) i
    have kf := fun i => keepf hLe (w2.heap.size) (by (try simp) <;> omega) i
    have kz : w2.heap.size < w'.heap.size := (by have := hLe.size; (try simp at this); omega)
    refine wpOp_plain rfl rfl (fun K hK => ?_)
    go_simp
    refine (sameDesk_nil _ _ _).mono ?_
    rintro e w2 ⟨rfl, hb⟩
    exact hK _ _ ⟨_, rfl, hb, rfl⟩
  apply free_is
  · intro a' w' hLe hfr hdep
    have e21 : a'.tmps.getD 21 undef = _ := hdep 4 21 (Nat.le_of_ble_eq_true rfl) rfl rfl
    conv at e21 => rhs; whnf
    have f21 := e21; simp only [Array.getD_eq_getD_getElem?] at f21
    refine wpOp_plain rfl rfl (fun K hK => ?_)
    go_simp
    exact hK _ _ ⟨_, rfl, Below.refl _ _, rfl⟩
  apply free_nil
  intro vs w5 hb5 hT5
  have e17 : vs 0 = _ := hT5 0 17 rfl
  conv at e17 => rhs; whnf
  have e18 : vs 1 = _ := hT5 1 18 rfl
  conv at e18 => rhs; whnf
  have e19 : vs 2 = _ := hT5 2 19 rfl
  conv at e19 => rhs; whnf
  obtain ⟨A20, c20, A'20, c'20, e20⟩ := hT5 3 20 rfl
  have e21 : vs 4 = _ := hT5 4 21 rfl
  conv at e21 => rhs; whnf
  have e22 : vs 5 = _ := hT5 5 22 rfl
  conv at e22 => rhs; whnf
  simp only [putAll, List.drop_succ_cons, List.drop_zero, e17, e18, e19, e20, e21, e22]
  clear hT5 e17 e18 e19 e20 e21 e22
  go_simp
  have k5 : ∀ i, w5.cell? ⟨w2.heap.size, i, none⟩ = #[Value.slice none 0 0, .int .i64 a, .int .i64 b, .slice none 0 0, .int .i64 0][i]? := fun i => (keepc hb5 w2.heap.size (by simp) i).trans ((blk (heap_alloc_new w2 _)).1 i)
  have z5 : w2.heap.size < w5.heap.size := by have := hb5.size; simp at this; omega
  have hB5 := Below.tr hB2 hb5
  obtain ⟨t1, t2, t3⟩ := HT.out
  cases ht : tabB sz st with
  | false =>
    have ha := t3 ht
    subst ha
    rw [ht] at t1
    have T1 := Lib.hid t1
    clear t1 t2 t3 ht HI HS HT
    go_wp2_with fail
    refine (implDeskValid_nil _ _ _).mono ?_
    rintro e w6 ⟨rfl, hb6⟩
    rw [T1.out]
    go_wp2_with (go_at_call 18; refine (alive_any _).mono ?_; rintro e wa ⟨rfl, hba⟩)
    go_ret
    exact ⟨rfl, Below.tr (Below.tr hB5 hb6) (by (repeat (first | exact Below.refl _ _ | assumption | refine Below.al ?_ _ | refine Below.dr ?_ | (refine Below.st ?_ (by simp <;> omega) _) | (refine Below.tr ?_ (by assumption)))))⟩
  | true =>
    have ha := t2 ht
    have hd1 : (a == 0) = false := by simpa using ha
    rw [ht] at t1
    have T1 := Lib.hid t1
    clear t1 t2 t3 ht ha HI HS HT
    go_wp2_with fail
    refine (implDeskValid_nil _ _ _).mono ?_
    rintro e w6 ⟨rfl, hb6⟩
    rw [T1.out]
    have k6 : ∀ i, w6.cell? ⟨w2.heap.size, i, none⟩ = #[Value.slice none 0 0, .int .i64 a, .int .i64 b, .slice none 0 0, .int .i64 0][i]? := fun i => (keepc hb6 w2.heap.size z5 i).trans (k5 i)
    have z6 : w2.heap.size < w6.heap.size := Nat.lt_of_lt_of_le z5 hb6.size
    clear k5
    go_wp2
    go_ret
    exact ⟨rfl, Below.tr hB5 hb6⟩
end Go.Proofs.Ytbnfllpimnnmfaa
