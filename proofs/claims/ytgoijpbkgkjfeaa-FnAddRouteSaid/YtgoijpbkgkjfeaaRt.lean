/-
  What the routes' functions compute, in the program and in the reference: their order, RoutesValid, RouteFor.
-/
import Derived.Test.YtgoijpbkgkjfeaaPfx2
import Derived.Test.YtgoijpbkgkjfeaaRtT
namespace Go.Proofs.Ytgoijpbkgkjfeaa
open Go.RowKit

/-- Does a prefix stand before another one? -/
def befB (b k b' k' : Int) : Bool := decide (b < b') || (b == b' && decide (k < k'))

set_option maxHeartbeats 1000000 in
theorem specBefore_any (b k b' k' : Int) (w : World) :
    Calls Try.prog 30 #[.agg #[.int .i64 b, .int .i64 k], .agg #[.int .i64 b', .int .i64 k']] w fun e w' => e = .returned (.bool (befB b k b' k')) ∧ Below w.heap.size w w' := by
  by_cases h1 : b < b'
  · go_enter Try.func30, Try.ntmps30
    go_wp2
    go_ret
    exact ⟨by simp [befB, h1], by (repeat (first | exact Below.refl _ _ | assumption | refine Below.al ?_ _ | refine Below.dr ?_ | (refine Below.st ?_ (by simp <;> omega) _) | (refine Below.tr ?_ (by assumption))))⟩
  · by_cases h2 : b = b'
    · subst h2
      go_enter Try.func30, Try.ntmps30
      go_wp2
      go_ret
      exact ⟨by simp [befB], by (repeat (first | exact Below.refl _ _ | assumption | refine Below.al ?_ _ | refine Below.dr ?_ | (refine Below.st ?_ (by simp <;> omega) _) | (refine Below.tr ?_ (by assumption))))⟩
    · have h3 : (b == b') = false := by simpa using h2
      go_enter Try.func30, Try.ntmps30
      go_wp2
      go_ret
      exact ⟨by simp [befB, h1, h2], by (repeat (first | exact Below.refl _ _ | assumption | refine Below.al ?_ _ | refine Below.dr ?_ | (refine Below.st ?_ (by simp <;> omega) _) | (refine Below.tr ?_ (by assumption))))⟩

/-- What cmp.Compare tells. -/
def cmpI (x y : Int) : Int := if x < y then -1 else if y < x then 1 else 0
set_option maxHeartbeats 1000000 in
theorem compare_any (x y : Int) (w : World) : Calls Try.prog 41 #[.int .i64 x, .int .i64 y] w fun e w' => e = .returned (.int .i64 (cmpI x y)) ∧ w = w' := by
  unfold cmpI
  by_cases h1 : x < y
  · go_enter Try.func41, Try.ntmps41
    go_wp2
    go_ret
    exact ⟨by simp [h1], rfl⟩
  · by_cases h2 : y < x
    · go_enter Try.func41, Try.ntmps41
      go_wp2
      go_ret
      exact ⟨by simp [h1, h2], rfl⟩
    · go_enter Try.func41, Try.ntmps41
      go_wp2
      go_ret
      exact ⟨by simp [h1, h2], rfl⟩

/-- A block of one's own, known whole. -/
def kbBlk (B : Nat) (t : TypeId) (cs : Array Value) : KB :=
  ⟨fun v w => ∃ g, v = .slice (some ⟨g, 0, none⟩) cs.size cs.size ∧ B ≤ g ∧ w.heap[g]? = some (.cells cs t (0, 0)), fun _ _ _ ⟨g, h1, h2, h3⟩ hb => ⟨g, h1, h2, (hb.block g (heap_lt h3)).trans h3⟩⟩

/-- What cmp.Or of two tells. -/
def orI (x y : Int) : Int := if x = 0 then y else x
set_option maxHeartbeats 1000000 in
theorem cmpOr_any {w : World} {g : Nat} (x y : Int) (h : w.heap[g]? = some (.cells #[.int .i64 x, .int .i64 y] 3 (0, 0))) :
    Calls Try.prog 40 #[.slice (some ⟨g, 0, none⟩) 2 2] w fun e w' => e = .returned (.int .i64 (orI x y)) ∧ w = w' := by
  unfold orI
  have q0 : w.cell? ⟨g, 0, none⟩ = some (.int .i64 x) := (blk h).1 0
  have q1 : w.cell? ⟨g, 1, none⟩ = some (.int .i64 y) := (blk h).1 1
  clear h
  go_enter Try.func40, Try.ntmps40
  go_wp2
  go_loop [8] (fun i => i = .int .i64 0 ∨ (i = .int .i64 1 ∧ x = 0) ∨ (i = .int .i64 2 ∧ x = 0 ∧ y = 0)) (fun i => (2 - intOf i).toNat)
  case atStart => exact .inl rfl
  case round =>
    rcases hrel with rfl | ⟨rfl, rfl⟩ | ⟨rfl, rfl, rfl⟩
    · by_cases hx : x = 0
      · subst hx
        go_wp2
        go_round
        case rel => exact .inr (.inl (by simp))
        case measure => simp [intOf]
      · have h2 : (x == 0) = false := by simpa using hx
        have h3 : (x != 0) = true := by simpa using hx
        go_wp2
        go_ret
        exact ⟨by simp [hx], rfl⟩
    · by_cases hy : y = 0
      · subst hy
        go_wp2
        go_round
        case rel => exact .inr (.inr (by simp))
        case measure => simp [intOf]
      · have h2 : (y == 0) = false := by simpa using hy
        have h3 : (y != 0) = true := by simpa using hy
        go_wp2
        go_ret
        exact ⟨by simp, rfl⟩
    · go_wp2
      go_ret
      exact ⟨by simp, rfl⟩

def cmpP (b k b' k' : Int) : Int := orI (cmpI b b') (cmpI k k')
theorem cmpP_bef (b k b' k' : Int) : decide (0 ≤ cmpP b k b' k') = !befB b k b' k' := by
  unfold cmpP orI cmpI befB
  by_cases h1 : b < b' <;> by_cases h2 : b' < b <;> by_cases h3 : k < k' <;> by_cases h4 : k' < k <;> simp [h1, h2, h3, h4] <;> (try omega)

set_option maxHeartbeats 2000000 in
theorem comparePrefixes_any (b k b' k' : Int) (w : World) :
    Calls Try.prog 27 #[.agg #[.int .i64 b, .int .i64 k], .agg #[.int .i64 b', .int .i64 k']] w fun e w' => e = .returned (.int .i64 (cmpP b k b' k')) ∧ Below w.heap.size w w' := by
  go_enter Try.func27, Try.ntmps27
  go_wp2
  refine wp_region_free (ds := [(0, 5), (1, 6), (2, 7), (3, 8), (4, 9), (5, 10), (6, 11), (7, 12), (8, 13), (9, 14), (10, 15), (11, 16), (12, 4)]) 13 (by kernel_rfl) (by kernel_rfl) (by first | exact .inl rfl | exact .inr (by kernel_rfl)) (by rfl) rfl rfl ?_
  apply free_is
  · intro a' w' hLe hfr hdep
    have e2 := hfr 2 rfl
    conv at e2 => rhs; whnf
    have f2 := e2; simp only [Array.getD_eq_getD_getElem?] at f2
    refine wpOp_plain rfl rfl (fun K hK => ?_)
    go_simp
    exact hK _ _ ⟨_, rfl, Below.refl _ _, rfl⟩
  apply free_is
  · intro a' w' hLe hfr hdep
    have e5 : a'.tmps.getD 5 undef = _ := hdep 0 5 (Nat.le_of_ble_eq_true rfl) rfl rfl
    conv at e5 => rhs; whnf
    have f5 := e5; simp only [Array.getD_eq_getD_getElem?] at f5
    have kc := fun i => keepc hLe (w.heap.size) (by (try simp) <;> omega) i
    have kf := fun i => keepf hLe (w.heap.size) (by (try simp) <;> omega) i
    have kz : w.heap.size < w'.heap.size := (by have := hLe.size; (try simp at this); omega)
    have kc := fun i => keepc hLe (w.heap.size + 1) (by (try simp) <;> omega) i
    have kf := fun i => keepf hLe (w.heap.size + 1) (by (try simp) <;> omega) i
    have kz : w.heap.size + 1 < w'.heap.size := (by have := hLe.size; (try simp at this); omega)
    refine wpOp_plain rfl rfl (fun K hK => ?_)
    go_simp
    exact hK _ _ ⟨_, rfl, Below.refl _ _, rfl⟩
  apply free_is
  · intro a' w' hLe hfr hdep
    have e3 := hfr 3 rfl
    conv at e3 => rhs; whnf
    have f3 := e3; simp only [Array.getD_eq_getD_getElem?] at f3
    refine wpOp_plain rfl rfl (fun K hK => ?_)
    go_simp
    exact hK _ _ ⟨_, rfl, Below.refl _ _, rfl⟩
  apply free_is
  · intro a' w' hLe hfr hdep
    have e7 : a'.tmps.getD 7 undef = _ := hdep 2 7 (Nat.le_of_ble_eq_true rfl) rfl rfl
    conv at e7 => rhs; whnf
    have f7 := e7; simp only [Array.getD_eq_getD_getElem?] at f7
    have kc := fun i => keepc hLe (w.heap.size) (by (try simp) <;> omega) i
    have kf := fun i => keepf hLe (w.heap.size) (by (try simp) <;> omega) i
    have kz : w.heap.size < w'.heap.size := (by have := hLe.size; (try simp at this); omega)
    have kc := fun i => keepc hLe (w.heap.size + 1) (by (try simp) <;> omega) i
    have kf := fun i => keepf hLe (w.heap.size + 1) (by (try simp) <;> omega) i
    have kz : w.heap.size + 1 < w'.heap.size := (by have := hLe.size; (try simp at this); omega)
    refine wpOp_plain rfl rfl (fun K hK => ?_)
    go_simp
    exact hK _ _ ⟨_, rfl, Below.refl _ _, rfl⟩
  apply free_is
  · intro a' w' hLe hfr hdep
    have e6 : a'.tmps.getD 6 undef = _ := hdep 1 6 (Nat.le_of_ble_eq_true rfl) rfl rfl
    conv at e6 => rhs; whnf
    have f6 := e6; simp only [Array.getD_eq_getD_getElem?] at f6
    have e8 : a'.tmps.getD 8 undef = _ := hdep 3 8 (Nat.le_of_ble_eq_true rfl) rfl rfl
    conv at e8 => rhs; whnf
    have f8 := e8; simp only [Array.getD_eq_getD_getElem?] at f8
    have kc := fun i => keepc hLe (w.heap.size) (by (try simp) <;> omega) i
    have kf := fun i => keepf hLe (w.heap.size) (by (try simp) <;> omega) i
    have kz : w.heap.size < w'.heap.size := (by have := hLe.size; (try simp at this); omega)
    have kc := fun i => keepc hLe (w.heap.size + 1) (by (try simp) <;> omega) i
    have kf := fun i => keepf hLe (w.heap.size + 1) (by (try simp) <;> omega) i
    have kz : w.heap.size + 1 < w'.heap.size := (by have := hLe.size; (try simp at this); omega)
    refine wpOp_plain rfl rfl (fun K hK => ?_)
    go_simp
    refine (compare_any _ _ _).mono ?_
    rintro e w2 ⟨rfl, rfl⟩
    exact hK _ _ ⟨_, rfl, Below.refl _ _, rfl⟩
  apply free_is
  · intro a' w' hLe hfr hdep
    have e2 := hfr 2 rfl
    conv at e2 => rhs; whnf
    have f2 := e2; simp only [Array.getD_eq_getD_getElem?] at f2
    refine wpOp_plain rfl rfl (fun K hK => ?_)
    go_simp
    exact hK _ _ ⟨_, rfl, Below.refl _ _, rfl⟩
  apply free_is
  · intro a' w' hLe hfr hdep
    have e10 : a'.tmps.getD 10 undef = _ := hdep 5 10 (Nat.le_of_ble_eq_true rfl) rfl rfl
    conv at e10 => rhs; whnf
    have f10 := e10; simp only [Array.getD_eq_getD_getElem?] at f10
    have kc := fun i => keepc hLe (w.heap.size) (by (try simp) <;> omega) i
    have kf := fun i => keepf hLe (w.heap.size) (by (try simp) <;> omega) i
    have kz : w.heap.size < w'.heap.size := (by have := hLe.size; (try simp at this); omega)
    have kc := fun i => keepc hLe (w.heap.size + 1) (by (try simp) <;> omega) i
    have kf := fun i => keepf hLe (w.heap.size + 1) (by (try simp) <;> omega) i
    have kz : w.heap.size + 1 < w'.heap.size := (by have := hLe.size; (try simp at this); omega)
    refine wpOp_plain rfl rfl (fun K hK => ?_)
    go_simp
    exact hK _ _ ⟨_, rfl, Below.refl _ _, rfl⟩
  apply free_is
  · intro a' w' hLe hfr hdep
    have e3 := hfr 3 rfl
    conv at e3 => rhs; whnf
    have f3 := e3; simp only [Array.getD_eq_getD_getElem?] at f3
    refine wpOp_plain rfl rfl (fun K hK => ?_)
    go_simp
    exact hK _ _ ⟨_, rfl, Below.refl _ _, rfl⟩
  apply free_is
  · intro a' w' hLe hfr hdep
    have e12 : a'.tmps.getD 12 undef = _ := hdep 7 12 (Nat.le_of_ble_eq_true rfl) rfl rfl
    conv at e12 => rhs; whnf
    have f12 := e12; simp only [Array.getD_eq_getD_getElem?] at f12
    have kc := fun i => keepc hLe (w.heap.size) (by (try simp) <;> omega) i
    have kf := fun i => keepf hLe (w.heap.size) (by (try simp) <;> omega) i
    have kz : w.heap.size < w'.heap.size := (by have := hLe.size; (try simp at this); omega)
    have kc := fun i => keepc hLe (w.heap.size + 1) (by (try simp) <;> omega) i
    have kf := fun i => keepf hLe (w.heap.size + 1) (by (try simp) <;> omega) i
    have kz : w.heap.size + 1 < w'.heap.size := (by have := hLe.size; (try simp at this); omega)
    refine wpOp_plain rfl rfl (fun K hK => ?_)
    go_simp
    exact hK _ _ ⟨_, rfl, Below.refl _ _, rfl⟩
  apply free_is
  · intro a' w' hLe hfr hdep
    have e11 : a'.tmps.getD 11 undef = _ := hdep 6 11 (Nat.le_of_ble_eq_true rfl) rfl rfl
    conv at e11 => rhs; whnf
    have f11 := e11; simp only [Array.getD_eq_getD_getElem?] at f11
    have e13 : a'.tmps.getD 13 undef = _ := hdep 8 13 (Nat.le_of_ble_eq_true rfl) rfl rfl
    conv at e13 => rhs; whnf
    have f13 := e13; simp only [Array.getD_eq_getD_getElem?] at f13
    have kc := fun i => keepc hLe (w.heap.size) (by (try simp) <;> omega) i
    have kf := fun i => keepf hLe (w.heap.size) (by (try simp) <;> omega) i
    have kz : w.heap.size < w'.heap.size := (by have := hLe.size; (try simp at this); omega)
    have kc := fun i => keepc hLe (w.heap.size + 1) (by (try simp) <;> omega) i
    have kf := fun i => keepf hLe (w.heap.size + 1) (by (try simp) <;> omega) i
    have kz : w.heap.size + 1 < w'.heap.size := (by have := hLe.size; (try simp at this); omega)
    refine wpOp_plain rfl rfl (fun K hK => ?_)
    go_simp
    refine (compare_any _ _ _).mono ?_
    rintro e w2 ⟨rfl, rfl⟩
    exact hK _ _ ⟨_, rfl, Below.refl _ _, rfl⟩
  refine free_cons (kbBlk w.heap.size 3 #[.int .i64 (cmpI b b'), .int .i64 (cmpI k k')]) ?_ ?_
  · intro a' w' hLe hfr hdep
    have e9 : a'.tmps.getD 9 undef = _ := hdep 4 9 (Nat.le_of_ble_eq_true rfl) rfl rfl
    conv at e9 => rhs; whnf
    have f9 := e9; simp only [Array.getD_eq_getD_getElem?] at f9
    have e14 : a'.tmps.getD 14 undef = _ := hdep 9 14 (Nat.le_of_ble_eq_true rfl) rfl rfl
    conv at e14 => rhs; whnf
    have f14 := e14; simp only [Array.getD_eq_getD_getElem?] at f14
    refine wpOp_plain rfl rfl (fun K hK => ?_)
    go_simp
    exact hK _ _ ⟨_, rfl, (Below.refl _ _).alloc (Nat.le_refl _) _, ⟨_, rfl, by have := hLe.size; (try simp at this); omega, heap_alloc_new _ _⟩⟩
  apply free_is
  · intro a' w' hLe hfr hdep
    obtain ⟨g15, e15, hg15, hN15⟩ := hdep 10 15 (Nat.le_of_ble_eq_true rfl) rfl rfl
    have f15 := e15; simp only [Array.getD_eq_getD_getElem?] at f15
    have kc := fun i => keepc hLe (w.heap.size) (by (try simp) <;> omega) i
    have kf := fun i => keepf hLe (w.heap.size) (by (try simp) <;> omega) i
    have kz : w.heap.size < w'.heap.size := (by have := hLe.size; (try simp at this); omega)
    have kc := fun i => keepc hLe (w.heap.size + 1) (by (try simp) <;> omega) i
    have kf := fun i => keepf hLe (w.heap.size + 1) (by (try simp) <;> omega) i
    have kz : w.heap.size + 1 < w'.heap.size := (by have := hLe.size; (try simp at this); omega)
    refine wpOp_plain rfl rfl (fun K hK => ?_)
    go_simp
    refine (cmpOr_any _ _ hN15).mono ?_
    rintro e w2 ⟨rfl, rfl⟩
    exact hK _ _ ⟨_, rfl, Below.refl _ _, rfl⟩
  apply free_is
  · intro a' w' hLe hfr hdep
    have e16 : a'.tmps.getD 16 undef = _ := hdep 11 16 (Nat.le_of_ble_eq_true rfl) rfl rfl
    conv at e16 => rhs; whnf
    have f16 := e16; simp only [Array.getD_eq_getD_getElem?] at f16
    refine wpOp_plain rfl rfl (fun K hK => ?_)
    go_simp
    exact hK _ _ ⟨_, rfl, Below.refl _ _, rfl⟩
  apply free_nil
  intro vs w1 hb1 hT1
  have e5 : vs 0 = _ := hT1 0 5 rfl
  conv at e5 => rhs; whnf
  have e6 : vs 1 = _ := hT1 1 6 rfl
  conv at e6 => rhs; whnf
  have e7 : vs 2 = _ := hT1 2 7 rfl
  conv at e7 => rhs; whnf
  have e8 : vs 3 = _ := hT1 3 8 rfl
  conv at e8 => rhs; whnf
  have e9 : vs 4 = _ := hT1 4 9 rfl
  conv at e9 => rhs; whnf
  have e10 : vs 5 = _ := hT1 5 10 rfl
  conv at e10 => rhs; whnf
  have e11 : vs 6 = _ := hT1 6 11 rfl
  conv at e11 => rhs; whnf
  have e12 : vs 7 = _ := hT1 7 12 rfl
  conv at e12 => rhs; whnf
  have e13 : vs 8 = _ := hT1 8 13 rfl
  conv at e13 => rhs; whnf
  have e14 : vs 9 = _ := hT1 9 14 rfl
  conv at e14 => rhs; whnf
  obtain ⟨g15, e15, hg15, hN15⟩ := hT1 10 15 rfl
  have e16 : vs 11 = _ := hT1 11 16 rfl
  conv at e16 => rhs; whnf
  have e4 : vs 12 = _ := hT1 12 4 rfl
  conv at e4 => rhs; whnf
  simp only [putAll, List.drop_succ_cons, List.drop_zero, e5, e6, e7, e8, e9, e10, e11, e12, e13, e14, e15, e16, e4]
  clear hT1 e5 e6 e7 e8 e9 e10 e11 e12 e13 e14 e15 e16 e4
  go_simp
  go_wp2
  go_ret
  exact ⟨rfl, by (repeat (first | exact Below.refl _ _ | assumption | refine Below.al ?_ _ | refine Below.dr ?_ | (refine Below.st ?_ (by simp <;> omega) _) | (refine Below.tr ?_ (by assumption))))⟩
end Go.Proofs.Ytgoijpbkgkjfeaa
