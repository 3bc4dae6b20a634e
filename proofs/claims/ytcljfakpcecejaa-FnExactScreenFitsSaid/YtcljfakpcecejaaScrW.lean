/-
  The law 'the program's ScreenFits returns what the reference's returns': its walk.
-/
import Derived.Test.YtcljfakpcecejaaScr
import Derived.Test.YtcljfakpcecejaaFree
namespace Go.Proofs.Ytcljfakpcecejaa
open Go.RowKit

set_option maxHeartbeats 2000000 in
theorem exactScreenFits_walk (x0 x1 x2 x3 x4 : Int) (x5 : Bool) (f0 f1 f2 f3 f4 : Int) (w : World) :
    Calls Try.prog 3 #[.agg #[.int .i64 x0, .int .i64 x1, .int .i64 x2, .int .i64 x3, .int .i64 x4, .bool x5], .agg #[.int .i64 f0, .int .i64 f1, .int .i64 f2, .int .i64 f3, .int .i64 f4]] w (Truly w) := by
  go_enter Try.func3, Try.ntmps3
  go_wp2
  refine wp_region_free (ds := [(0, 7), (1, 8), (2, 9), (3, 10), (4, 11), (5, 5)]) 6 (by kernel_rfl) (by kernel_rfl) (by first | exact .inl rfl | exact .inr (by kernel_rfl)) (by rfl) rfl rfl ?_
  apply free_is
  · intro a' w' hLe hfr hdep
    have e2 := hfr 2 rfl
    conv at e2 => rhs; whnf
    have f2 := e2; simp only [Array.getD_eq_getD_getElem?] at f2
    have kc := fun i => keepc hLe (w.heap.size) (by (try simp) <;> omega) i
    have kf := fun i => keepf hLe (w.heap.size) (by (try simp) <;> omega) i
    have kz : w.heap.size < w'.heap.size := (by have := hLe.size; (try simp at this); omega)
    have kc := fun i => keepc hLe (w.heap.size + 1) (by (try simp) <;> omega) i
    have kf := fun i => keepf hLe (w.heap.size + 1) (by (try simp) <;> omega) i
    have kz : w.heap.size + 1 < w'.heap.size := (by have := hLe.size; (try simp at this); omega)
    refine wpOp_plain rfl rfl (fun K hK => ?_)
    go_simp
    exact hK _ _ ⟨_, rfl, Below.refl _ _, rfl⟩
  apply free_is
  · intro a' w' hLe hfr hdep
    have e7 : a'.tmps.getD 7 undef = _ := hdep 0 7 (Nat.le_of_ble_eq_true rfl) rfl rfl
    conv at e7 => rhs; whnf
    have f7 := e7; simp only [Array.getD_eq_getD_getElem?] at f7
    have kc := fun i => keepc hLe (w.heap.size) (by (try simp) <;> omega) i
    have kf := fun i => keepf hLe (w.heap.size) (by (try simp) <;> omega) i
    have kz : w.heap.size < w'.heap.size := (by have := hLe.size; (try simp at this); omega)
    have kc := fun i => keepc hLe (w.heap.size + 1) (by (try simp) <;> omega) i
    have kf := fun i => keepf hLe (w.heap.size + 1) (by (try simp) <;> omega) i
    have kz : w.heap.size + 1 < w'.heap.size := (by have := hLe.size; (try simp at this); omega)
    refine wpOp_plain rfl rfl (fun K hK => ?_)
    go_simp
    refine (toScreen_any _ _ _ _ _ _ _).mono ?_
    rintro e w2 ⟨rfl, hb⟩
    exact hK _ _ ⟨_, rfl, hb, rfl⟩
  apply free_is
  · intro a' w' hLe hfr hdep
    have e3 := hfr 3 rfl
    conv at e3 => rhs; whnf
    have f3 := e3; simp only [Array.getD_eq_getD_getElem?] at f3
    have kc := fun i => keepc hLe (w.heap.size) (by (try simp) <;> omega) i
    have kf := fun i => keepf hLe (w.heap.size) (by (try simp) <;> omega) i
    have kz : w.heap.size < w'.heap.size := (by have := hLe.size; (try simp at this); omega)
    have kc := fun i => keepc hLe (w.heap.size + 1) (by (try simp) <;> omega) i
    have kf := fun i => keepf hLe (w.heap.size + 1) (by (try simp) <;> omega) i
    have kz : w.heap.size + 1 < w'.heap.size := (by have := hLe.size; (try simp at this); omega)
    refine wpOp_plain rfl rfl (fun K hK => ?_)
    go_simp
    exact hK _ _ ⟨_, rfl, Below.refl _ _, rfl⟩
  apply free_is
  · intro a' w' hLe hfr hdep
    have e9 : a'.tmps.getD 9 undef = _ := hdep 2 9 (Nat.le_of_ble_eq_true rfl) rfl rfl
    conv at e9 => rhs; whnf
    have f9 := e9; simp only [Array.getD_eq_getD_getElem?] at f9
    have kc := fun i => keepc hLe (w.heap.size) (by (try simp) <;> omega) i
    have kf := fun i => keepf hLe (w.heap.size) (by (try simp) <;> omega) i
    have kz : w.heap.size < w'.heap.size := (by have := hLe.size; (try simp at this); omega)
    have kc := fun i => keepc hLe (w.heap.size + 1) (by (try simp) <;> omega) i
    have kf := fun i => keepf hLe (w.heap.size + 1) (by (try simp) <;> omega) i
    have kz : w.heap.size + 1 < w'.heap.size := (by have := hLe.size; (try simp at this); omega)
    refine wpOp_plain rfl rfl (fun K hK => ?_)
    go_simp
    refine (toFlow_any _ _ _ _ _ _).mono ?_
    rintro e w2 ⟨rfl, hb⟩
    exact hK _ _ ⟨_, rfl, hb, rfl⟩
  apply free_is
  · intro a' w' hLe hfr hdep
    have e8 : a'.tmps.getD 8 undef = _ := hdep 1 8 (Nat.le_of_ble_eq_true rfl) rfl rfl
    conv at e8 => rhs; whnf
    have f8 := e8; simp only [Array.getD_eq_getD_getElem?] at f8
    have e10 : a'.tmps.getD 10 undef = _ := hdep 3 10 (Nat.le_of_ble_eq_true rfl) rfl rfl
    conv at e10 => rhs; whnf
    have f10 := e10; simp only [Array.getD_eq_getD_getElem?] at f10
    have kc := fun i => keepc hLe (w.heap.size) (by (try simp) <;> omega) i
    have kf := fun i => keepf hLe (w.heap.size) (by (try simp) <;> omega) i
    have kz : w.heap.size < w'.heap.size := (by have := hLe.size; (try simp at this); omega)
    have kc := fun i => keepc hLe (w.heap.size + 1) (by (try simp) <;> omega) i
    have kf := fun i => keepf hLe (w.heap.size + 1) (by (try simp) <;> omega) i
    have kz : w.heap.size + 1 < w'.heap.size := (by have := hLe.size; (try simp at this); omega)
    refine wpOp_plain rfl rfl (fun K hK => ?_)
    go_simp
    refine (specScreenFits_any _ _ _ _ _ _ _ _ _ _ _ _).mono ?_
    rintro e w2 ⟨rfl, hb⟩
    exact hK _ _ ⟨_, rfl, hb, rfl⟩
  apply free_is
  · intro a' w' hLe hfr hdep
    have e11 : a'.tmps.getD 11 undef = _ := hdep 4 11 (Nat.le_of_ble_eq_true rfl) rfl rfl
    conv at e11 => rhs; whnf
    have f11 := e11; simp only [Array.getD_eq_getD_getElem?] at f11
    refine wpOp_plain rfl rfl (fun K hK => ?_)
    go_simp
    exact hK _ _ ⟨_, rfl, Below.refl _ _, rfl⟩
  apply free_nil
  intro vs w1 hb1 hT1
  have e7 : vs 0 = _ := hT1 0 7 rfl
  conv at e7 => rhs; whnf
  have e8 : vs 1 = _ := hT1 1 8 rfl
  conv at e8 => rhs; whnf
  have e9 : vs 2 = _ := hT1 2 9 rfl
  conv at e9 => rhs; whnf
  have e10 : vs 3 = _ := hT1 3 10 rfl
  conv at e10 => rhs; whnf
  have e11 : vs 4 = _ := hT1 4 11 rfl
  conv at e11 => rhs; whnf
  have e5 : vs 5 = _ := hT1 5 5 rfl
  conv at e5 => rhs; whnf
  simp only [putAll, List.drop_succ_cons, List.drop_zero, e7, e8, e9, e10, e11, e5]
  clear hT1 e7 e8 e9 e10 e11 e5
  go_simp
  have hs1 := hb1.size
  simp at hs1
  have k0 := fun i => keepc hb1 w.heap.size (by simp <;> omega) i
  have k1 := fun i => keepc hb1 (w.heap.size + 1) (by simp <;> omega) i
  go_wp2
  refine wp_region_free (ds := [(0, 12), (1, 13), (2, 14), (3, 15), (4, 16), (5, 6)]) 6 (by kernel_rfl) (by kernel_rfl) (by first | exact .inl rfl | exact .inr (by kernel_rfl)) (by rfl) rfl rfl ?_
  apply free_is
  · intro a' w' hLe hfr hdep
    have e2 := hfr 2 rfl
    conv at e2 => rhs; whnf
    have f2 := e2; simp only [Array.getD_eq_getD_getElem?] at f2
    have kc := fun i => keepc hLe (w.heap.size) (by (try simp) <;> omega) i
    have kf := fun i => keepf hLe (w.heap.size) (by (try simp) <;> omega) i
    have kz : w.heap.size < w'.heap.size := (by have := hLe.size; (try simp at this); omega)
    have kc := fun i => keepc hLe (w.heap.size + 1) (by (try simp) <;> omega) i
    have kf := fun i => keepf hLe (w.heap.size + 1) (by (try simp) <;> omega) i
    have kz : w.heap.size + 1 < w'.heap.size := (by have := hLe.size; (try simp at this); omega)
    refine wpOp_plain rfl rfl (fun K hK => ?_)
    go_simp
    exact hK _ _ ⟨_, rfl, Below.refl _ _, rfl⟩
  apply free_is
  · intro a' w' hLe hfr hdep
    have e12 : a'.tmps.getD 12 undef = _ := hdep 0 12 (Nat.le_of_ble_eq_true rfl) rfl rfl
    conv at e12 => rhs; whnf
    have f12 := e12; simp only [Array.getD_eq_getD_getElem?] at f12
    have kc := fun i => keepc hLe (w.heap.size) (by (try simp) <;> omega) i
    have kf := fun i => keepf hLe (w.heap.size) (by (try simp) <;> omega) i
    have kz : w.heap.size < w'.heap.size := (by have := hLe.size; (try simp at this); omega)
    have kc := fun i => keepc hLe (w.heap.size + 1) (by (try simp) <;> omega) i
    have kf := fun i => keepf hLe (w.heap.size + 1) (by (try simp) <;> omega) i
    have kz : w.heap.size + 1 < w'.heap.size := (by have := hLe.size; (try simp at this); omega)
    refine wpOp_plain rfl rfl (fun K hK => ?_)
    go_simp
    refine (toScreen_any _ _ _ _ _ _ _).mono ?_
    rintro e w2 ⟨rfl, hb⟩
    exact hK _ _ ⟨_, rfl, hb, rfl⟩
  apply free_is
  · intro a' w' hLe hfr hdep
    have e3 := hfr 3 rfl
    conv at e3 => rhs; whnf
    have f3 := e3; simp only [Array.getD_eq_getD_getElem?] at f3
    have kc := fun i => keepc hLe (w.heap.size) (by (try simp) <;> omega) i
    have kf := fun i => keepf hLe (w.heap.size) (by (try simp) <;> omega) i
    have kz : w.heap.size < w'.heap.size := (by have := hLe.size; (try simp at this); omega)
    have kc := fun i => keepc hLe (w.heap.size + 1) (by (try simp) <;> omega) i
    have kf := fun i => keepf hLe (w.heap.size + 1) (by (try simp) <;> omega) i
    have kz : w.heap.size + 1 < w'.heap.size := (by have := hLe.size; (try simp at this); omega)
    refine wpOp_plain rfl rfl (fun K hK => ?_)
    go_simp
    exact hK _ _ ⟨_, rfl, Below.refl _ _, rfl⟩
  apply free_is
  · intro a' w' hLe hfr hdep
    have e14 : a'.tmps.getD 14 undef = _ := hdep 2 14 (Nat.le_of_ble_eq_true rfl) rfl rfl
    conv at e14 => rhs; whnf
    have f14 := e14; simp only [Array.getD_eq_getD_getElem?] at f14
    have kc := fun i => keepc hLe (w.heap.size) (by (try simp) <;> omega) i
    have kf := fun i => keepf hLe (w.heap.size) (by (try simp) <;> omega) i
    have kz : w.heap.size < w'.heap.size := (by have := hLe.size; (try simp at this); omega)
    have kc := fun i => keepc hLe (w.heap.size + 1) (by (try simp) <;> omega) i
    have kf := fun i => keepf hLe (w.heap.size + 1) (by (try simp) <;> omega) i
    have kz : w.heap.size + 1 < w'.heap.size := (by have := hLe.size; (try simp at this); omega)
    refine wpOp_plain rfl rfl (fun K hK => ?_)
    go_simp
    refine (toFlow_any _ _ _ _ _ _).mono ?_
    rintro e w2 ⟨rfl, hb⟩
    exact hK _ _ ⟨_, rfl, hb, rfl⟩
  apply free_is
  · intro a' w' hLe hfr hdep
    have e13 : a'.tmps.getD 13 undef = _ := hdep 1 13 (Nat.le_of_ble_eq_true rfl) rfl rfl
    conv at e13 => rhs; whnf
    have f13 := e13; simp only [Array.getD_eq_getD_getElem?] at f13
    have e15 : a'.tmps.getD 15 undef = _ := hdep 3 15 (Nat.le_of_ble_eq_true rfl) rfl rfl
    conv at e15 => rhs; whnf
    have f15 := e15; simp only [Array.getD_eq_getD_getElem?] at f15
    have kc := fun i => keepc hLe (w.heap.size) (by (try simp) <;> omega) i
    have kf := fun i => keepf hLe (w.heap.size) (by (try simp) <;> omega) i
    have kz : w.heap.size < w'.heap.size := (by have := hLe.size; (try simp at this); omega)
    have kc := fun i => keepc hLe (w.heap.size + 1) (by (try simp) <;> omega) i
    have kf := fun i => keepf hLe (w.heap.size + 1) (by (try simp) <;> omega) i
    have kz : w.heap.size + 1 < w'.heap.size := (by have := hLe.size; (try simp at this); omega)
    refine wpOp_plain rfl rfl (fun K hK => ?_)
    go_simp
    refine (implScreenFits_any _ _ _ _ _ _ _ _ _ _ _ _).mono ?_
    rintro e w2 ⟨rfl, hb⟩
    exact hK _ _ ⟨_, rfl, hb, rfl⟩
  apply free_is
  · intro a' w' hLe hfr hdep
    have e16 : a'.tmps.getD 16 undef = _ := hdep 4 16 (Nat.le_of_ble_eq_true rfl) rfl rfl
    conv at e16 => rhs; whnf
    have f16 := e16; simp only [Array.getD_eq_getD_getElem?] at f16
    refine wpOp_plain rfl rfl (fun K hK => ?_)
    go_simp
    exact hK _ _ ⟨_, rfl, Below.refl _ _, rfl⟩
  apply free_nil
  intro vs w2 hb2 hT2
  have e12 : vs 0 = _ := hT2 0 12 rfl
  conv at e12 => rhs; whnf
  have e13 : vs 1 = _ := hT2 1 13 rfl
  conv at e13 => rhs; whnf
  have e14 : vs 2 = _ := hT2 2 14 rfl
  conv at e14 => rhs; whnf
  have e15 : vs 3 = _ := hT2 3 15 rfl
  conv at e15 => rhs; whnf
  have e16 : vs 4 = _ := hT2 4 16 rfl
  conv at e16 => rhs; whnf
  have e6 : vs 5 = _ := hT2 5 6 rfl
  conv at e6 => rhs; whnf
  simp only [putAll, List.drop_succ_cons, List.drop_zero, e12, e13, e14, e15, e16, e6]
  clear hT2 e12 e13 e14 e15 e16 e6
  go_simp
  go_wp2
  go_ret
  exact ⟨rfl, by (repeat (first | exact Below.refl _ _ | assumption | refine Below.al ?_ _ | refine Below.dr ?_ | (refine Below.st ?_ (by simp <;> omega) _) | (refine Below.tr ?_ (by assumption))))⟩
end Go.Proofs.Ytcljfakpcecejaa
