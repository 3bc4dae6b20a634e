/-
  The law 'outlets have ports': its walk.
-/
import Derived.Test.YtahniedcflfdmaaOue
namespace Go.Proofs.Ytahniedcflfdmaa
open Go Go.RowKit

/-- A drawn outlet. -/
def OutOnly (w : World) (e : Ending) (w' : World) : Prop :=
  ∃ x0 x1 : Int, ∃ A n c, ∃ f0 f1 f2 f3 f4 : Nat → Int, e = .returned (.agg #[.int .i64 x0, .int .i64 x1, .slice A n c]) ∧ 1 ≤ n ∧ n ≤ 9 ∧ Rws w' w'.heap.size 5 A n c (flowR f0 f1 f2 f3 f4) ∧ Below w.heap.size w w'
theorem pacc_flows {w : World} {B : Nat} {A : Option Addr} {n c : Nat} (h : PAcc w B 39 [true, true, true, true, true] (.slice A n c) n) : ∃ f0 f1 f2 f3 f4 : Nat → Int, Rws w w.heap.size 5 A n c (flowR f0 f1 f2 f3 f4) := by
  obtain ⟨R, h1, h2⟩ := h
  obtain ⟨A', c', e, h3⟩ := h2.own
  cases e
  obtain ⟨f0, f1, f2, f3, f4, rfl⟩ := flowR_of h1
  exact ⟨f0, f1, f2, f3, f4, h3.rows⟩
set_option maxHeartbeats 4000000 in
theorem drawOutletValid_any {w : World} {A : Option Addr} {n c : Nat} (h : Bytes w w.heap.size A n c) :
    Calls Try.prog 13 #[.slice A n c] w (OutOnly w) := by
  go_enter Try.func13, Try.ntmps13
  go_wp2_with fail
  refine (open_any (h.alloc (Nat.le_refl _) _) (by simp)).mono ?_
  rintro e w1 ⟨m, g, rfl, hgl, hr1, hb1, hs1⟩
  have hz1 := (hb1.block w.heap.size (by simp)).trans (heap_alloc_new w _)
  have hB1 : Below w.heap.size w w1 := (below_bo w _).trans (hb1.mono (by simp))
  have hs2 := hB1.size
  simp at hgl
  have hzl := heap_lt hz1
  clear hs1 hb1
  go_wp2_with fail
  refine (l20Outlet_any hr1 _ (by omega) (by omega)).mono ?_
  rintro e w2 ⟨x0, x1, A1, n1, c1, q, rfl, hn1, hn2, hP2, hq, hr2, hg2⟩
  have hz2 := heap_far hz1 hg2 (by omega)
  have hB2 : Below w.heap.size w w2 := hB1.trans (below_grown hg2 hs2 (by omega))
  go_wp2_with (refine wpList_store_var rfl 29 (.tmp 2) (.tmp 5) rfl #[.int .i64 x0, .int .i64 x1, .slice A1 n1 c1] hz2 rfl rfl (by kernel_rfl) rfl rfl ?_; intro w9 hh9 hg9 hs9; obtain ⟨k9, f9⟩ := blk hh9)
  have hP9 := hP2.kept hg9 (.inr fun e => by have := (hP2.block _ e).1; omega)
  obtain ⟨f0, f1, f2, f3, f4, hR9⟩ := pacc_flows hP9
  refine bodyPost_ret (v := .agg #[.int .i64 x0, .int .i64 x1, .slice A1 n1 c1]) (by simp [results, Try.results13, go_sem, k9]) rfl ⟨x0, x1, A1, n1, c1, f0, f1, f2, f3, f4, rfl, hn1, hn2, hR9, Below.of_grown hB2 hg9 (Nat.le_refl _)⟩

def kbNew (B : Nat) (n : Nat) : KB := ⟨fun v w => ∃ b, v = .slice (some ⟨b, 0, none⟩) n n ∧ B ≤ b ∧ New w b 39 5 n n (fun _ => [.int .i64 0, .int .i64 0, .int .i64 0, .int .i64 0, .int .i64 0]), fun _ _ _ ⟨b, h1, h2, h3⟩ hb => ⟨b, h1, h2, h3.below hb h3.lt⟩⟩
def kbEO (B : Nat) (x0 x1 : Int) (n : Nat) : KB := ⟨fun v w => ∃ b, v = .agg #[.int .i64 x0, .int .i64 x1, .slice (some ⟨b, 0, none⟩) n n] ∧ B ≤ b ∧ New w b 39 5 n n (fun _ => [.int .i64 0, .int .i64 0, .int .i64 0, .int .i64 0, .int .i64 0]), fun _ _ _ ⟨b, h1, h2, h3⟩ hb => ⟨b, h1, h2, h3.below hb h3.lt⟩⟩
def kbNewO (B : Nat) : KB := ⟨fun v w => ∃ a, v = .pointer (some ⟨a, 0, none⟩) ∧ B ≤ a ∧ w.heap[a]? = some (.cells #[.int .i64 0, .int .i64 0, .slice none 0 0] 29), fun _ _ _ ⟨a, h1, h2, h3⟩ hb => ⟨a, h1, h2, (hb.block a (heap_lt h3)).trans h3⟩⟩
theorem outB_none (x0 x1 : Int) (f0 f1 f2 f3 f4 : Nat → Int) : outB x0 x1 0 f0 f1 f2 f3 f4 = false := by
  simp [outB, inB]
theorem outB_zeros {x0 x1 : Int} {n : Nat} {f0 f1 f2 f3 f4 : Nat → Int} (h : outB x0 x1 n f0 f1 f2 f3 f4 = true) : outB x0 x1 n (fun _ => 0) (fun _ => 0) (fun _ => 0) (fun _ => 0) (fun _ => 0) = true :=
  outB_mk h fun j _ => by simp [sloB, noB]
set_option maxRecDepth 20000 in
set_option maxHeartbeats 8000000 in
theorem outletValid_walk {w : World} {A : Option Addr} {n c : Nat} (h : Bytes w w.heap.size A n c) :
    Calls Try.prog 4 #[.slice A n c] w (Truly w) := by
  by_cases hn : 1048576 < n
  · go_enter Try.func4, Try.ntmps4
    go_wp2
    go_ret
    exact ⟨rfl, Below.refl _ _⟩
  go_enter Try.func4, Try.ntmps4
  go_wp2_with fail
  refine (drawOutletValid_any h).mono ?_
  rintro e w1 ⟨x0, x1, A1, n1, c1, f0, f1, f2, f3, f4, rfl, hn1, hn2, hR1, hb1⟩
  have H1 := Lib.hid (hR1.next (below_bo w1 (.cells #[.int .i64 x0, .int .i64 x1, .slice A1 n1 c1] 29)))
  clear hR1 h hn
  go_wp2_with fail
  refine (implOutletValid_any x0 x1 H1.out (Nat.le_refl _)).mono ?_
  rintro e w2 ⟨rfl, hb2⟩
  have hB2 : Below w1.heap.size w1 w2 := Below.tr (below_bo w1 (.cells #[.int .i64 x0, .int .i64 x1, .slice A1 n1 c1] 29)) hb2
  have q2 := (hb2.block w1.heap.size (by simp)).trans (heap_alloc_new w1 (.cells #[.int .i64 x0, .int .i64 x1, .slice A1 n1 c1] 29))
  have H2 := Lib.hid (H1.out.next hb2)
  obtain ⟨k2, g2⟩ := blk q2
  have l2 := heap_lt q2
  clear hb2 H1
  go_wp2_with fail
  refine (specOutletValid_any x0 x1 H2.out (Nat.le_refl _)).mono ?_
  rintro e w3 ⟨rfl, hb3⟩
  have hB3 := Below.tr hB2 hb3
  have q3 := (hb3.block w1.heap.size l2).trans q2
  have H3 := Lib.hid (H2.out.next hb3)
  clear hb3 H2 k2 g2 l2 q2 hB2
  obtain ⟨k3, g3⟩ := blk q3
  have l3 := heap_lt q3
  obtain ⟨iT, hi, hzz⟩ := Option.map_eq_some_iff.1 info_flowP
  simp only [Prod.mk.injEq] at hzz
  obtain ⟨hz, hs, hbt⟩ := hzz
  have hmk := run_make_rows (P := Try.prog) 27 39 iT _ 5 Try.underlying27 hi hz hs n1 (by rw [hbt]; omega) (by omega)
  clear hi hz hs hbt
  go_upto_region 7 with (fail)
  refine wp_region_free (ds := [(0, 17), (1, 18), (2, 19), (3, 20), (4, 21), (5, 22), (6, 23), (7, 24), (8, 25), (9, 5)]) 10 (by kernel_rfl) (by kernel_rfl) (by first | exact .inl rfl | exact .inr (by kernel_rfl)) (by rfl) rfl rfl ?_
  apply free_is
  · intro a' w' hLe hfr hdep
    have e3 := hfr 3 rfl
    conv at e3 => rhs; whnf
    have f3 := e3; simp only [Array.getD_eq_getD_getElem?] at f3
    refine wpOp_plain rfl rfl (fun K hK => ?_)
    go_simp
    exact hK _ _ ⟨_, rfl, Below.refl _ _, rfl⟩
  apply free_is
  · intro a' w' hLe hfr hdep
    have e17 : a'.tmps.getD 17 undef = _ := hdep 0 17 (Nat.le_of_ble_eq_true rfl) rfl rfl
    conv at e17 => rhs; whnf
    have f17 := e17; simp only [Array.getD_eq_getD_getElem?] at f17
    have kc := fun i => keepc hLe (w1.heap.size) (by (try simp) <;> omega) i
    have kf := fun i => keepf hLe (w1.heap.size) (by (try simp) <;> omega) i
    have kz : w1.heap.size < w'.heap.size := (by have := hLe.size; (try simp at this); omega)
    refine wpOp_plain rfl rfl (fun K hK => ?_)
    go_simp
    exact hK _ _ ⟨_, rfl, Below.refl _ _, rfl⟩
  apply free_is
  · intro a' w' hLe hfr hdep
    have e3 := hfr 3 rfl
    conv at e3 => rhs; whnf
    have f3 := e3; simp only [Array.getD_eq_getD_getElem?] at f3
    refine wpOp_plain rfl rfl (fun K hK => ?_)
    go_simp
    exact hK _ _ ⟨_, rfl, Below.refl _ _, rfl⟩
  apply free_is
  · intro a' w' hLe hfr hdep
    have e19 : a'.tmps.getD 19 undef = _ := hdep 2 19 (Nat.le_of_ble_eq_true rfl) rfl rfl
    conv at e19 => rhs; whnf
    have f19 := e19; simp only [Array.getD_eq_getD_getElem?] at f19
    have kc := fun i => keepc hLe (w1.heap.size) (by (try simp) <;> omega) i
    have kf := fun i => keepf hLe (w1.heap.size) (by (try simp) <;> omega) i
    have kz : w1.heap.size < w'.heap.size := (by have := hLe.size; (try simp at this); omega)
    refine wpOp_plain rfl rfl (fun K hK => ?_)
    go_simp
    exact hK _ _ ⟨_, rfl, Below.refl _ _, rfl⟩
  apply free_is
  · intro a' w' hLe hfr hdep
    have e3 := hfr 3 rfl
    conv at e3 => rhs; whnf
    have f3 := e3; simp only [Array.getD_eq_getD_getElem?] at f3
    refine wpOp_plain rfl rfl (fun K hK => ?_)
    go_simp
    exact hK _ _ ⟨_, rfl, Below.refl _ _, rfl⟩
  apply free_is
  · intro a' w' hLe hfr hdep
    have e21 : a'.tmps.getD 21 undef = _ := hdep 4 21 (Nat.le_of_ble_eq_true rfl) rfl rfl
    conv at e21 => rhs; whnf
    have f21 := e21; simp only [Array.getD_eq_getD_getElem?] at f21
    have kc := fun i => keepc hLe (w1.heap.size) (by (try simp) <;> omega) i
    have kf := fun i => keepf hLe (w1.heap.size) (by (try simp) <;> omega) i
    have kz : w1.heap.size < w'.heap.size := (by have := hLe.size; (try simp at this); omega)
    refine wpOp_plain rfl rfl (fun K hK => ?_)
    go_simp
    exact hK _ _ ⟨_, rfl, Below.refl _ _, rfl⟩
  apply free_is
  · intro a' w' hLe hfr hdep
    have e22 : a'.tmps.getD 22 undef = _ := hdep 5 22 (Nat.le_of_ble_eq_true rfl) rfl rfl
    conv at e22 => rhs; whnf
    have f22 := e22; simp only [Array.getD_eq_getD_getElem?] at f22
    have kc := fun i => keepc hLe (w1.heap.size) (by (try simp) <;> omega) i
    have kf := fun i => keepf hLe (w1.heap.size) (by (try simp) <;> omega) i
    have kz : w1.heap.size < w'.heap.size := (by have := hLe.size; (try simp at this); omega)
    refine wpOp_plain rfl rfl (fun K hK => ?_)
    go_simp
    exact hK _ _ ⟨_, rfl, Below.refl _ _, rfl⟩
  refine free_cons (kbNew w3.heap.size n1) ?_ ?_
  · intro a' w' hLe hfr hdep
    have e23 : a'.tmps.getD 23 undef = _ := hdep 6 23 (Nat.le_of_ble_eq_true rfl) rfl rfl
    conv at e23 => rhs; whnf
    have f23 := e23; simp only [Array.getD_eq_getD_getElem?] at f23
    refine wpOp_plain rfl rfl (fun K hK => ?_)
    go_simp
    exact hK _ _ ⟨_, rfl, (Below.refl _ _).alloc (Nat.le_refl _) _, ⟨_, rfl, by have := hLe.size; (try simp at this); omega, new_zero _ _ _ _ _ rfl (by omega)⟩⟩
  refine free_cons (kbEO w3.heap.size x0 x1 n1) ?_ ?_
  · intro a' w' hLe hfr hdep
    have e18 : a'.tmps.getD 18 undef = _ := hdep 1 18 (Nat.le_of_ble_eq_true rfl) rfl rfl
    conv at e18 => rhs; whnf
    have f18 := e18; simp only [Array.getD_eq_getD_getElem?] at f18
    have e20 : a'.tmps.getD 20 undef = _ := hdep 3 20 (Nat.le_of_ble_eq_true rfl) rfl rfl
    conv at e20 => rhs; whnf
    have f20 := e20; simp only [Array.getD_eq_getD_getElem?] at f20
    obtain ⟨b24, e24, hb24, hN24⟩ := hdep 7 24 (Nat.le_of_ble_eq_true rfl) rfl rfl
    have f24 := e24; simp only [Array.getD_eq_getD_getElem?] at f24
    refine wpOp_plain rfl rfl (fun K hK => ?_)
    go_simp
    exact hK _ _ ⟨_, rfl, Below.refl _ _, ⟨b24, rfl, hb24, hN24⟩⟩
  refine free_cons (kbNewO w3.heap.size) ?_ ?_
  · intro a' w' hLe hfr hdep
    refine wpOp_plain rfl rfl (fun K hK => ?_)
    go_simp
    exact hK _ _ ⟨_, rfl, (Below.refl _ _).alloc (Nat.le_refl _) _, ⟨_, rfl, by have := hLe.size; (try simp at this); omega, heap_alloc_new _ _⟩⟩
  apply free_nil
  intro vs w4 hb4 hT4
  have e17 : vs 0 = _ := hT4 0 17 rfl
  conv at e17 => rhs; whnf
  have e18 : vs 1 = _ := hT4 1 18 rfl
  conv at e18 => rhs; whnf
  have e19 : vs 2 = _ := hT4 2 19 rfl
  conv at e19 => rhs; whnf
  have e20 : vs 3 = _ := hT4 3 20 rfl
  conv at e20 => rhs; whnf
  have e21 : vs 4 = _ := hT4 4 21 rfl
  conv at e21 => rhs; whnf
  have e22 : vs 5 = _ := hT4 5 22 rfl
  conv at e22 => rhs; whnf
  have e23 : vs 6 = _ := hT4 6 23 rfl
  conv at e23 => rhs; whnf
  obtain ⟨b24, e24, hb24, hN24⟩ := hT4 7 24 rfl
  obtain ⟨b25, e25, hb25, hN25⟩ := hT4 8 25 rfl
  obtain ⟨a5, e5, hB5, hh5⟩ := hT4 9 5 rfl
  simp only [putAll, List.drop_succ_cons, List.drop_zero, e17, e18, e19, e20, e21, e22, e23, e24, e25, e5]
  clear hT4 e17 e18 e19 e20 e21 e22 e23 e24 e25 e5
  go_simp
  clear hmk
  have hB4 := Below.tr hB3 hb4
  have q4 := (hb4.block w1.heap.size l3).trans q3
  have H4 := Lib.hid (H3.out.next hb4)
  have s4 := hb4.size
  clear hb4 H3 q3
  refine wpList_store_var rfl 29 (.tmp 5) (.tmp 25) rfl #[.int .i64 x0, .int .i64 x1, .slice (some ⟨b25, 0, none⟩) n1 n1] hh5 rfl rfl (by kernel_rfl) rfl rfl ?_
  intro w5 hh55 hg5 hs5
  have hbne : b25 ≠ a5 := fun e => by obtain ⟨cs, h1, _⟩ := hN25; rw [e] at h1; exact typed_ne h1 hh5 (by decide)
  have hN5 := hN25.keep (hg5.block b25 hN25.lt (by simpa using hbne))
  have hB5 := Below.of_grown hB4 hg5 (by omega)
  have q5 := heap_far q4 hg5 (by omega)
  have hZR : Rws w5 w5.heap.size 5 (some ⟨b25, 0, none⟩) n1 n1 (flowR (fun _ => 0) (fun _ => 0) (fun _ => 0) (fun _ => 0) (fun _ => 0)) := hN5.rows (by unfold maxLen; omega) hN5.lt
  have HZ := Lib.hid hZR
  obtain ⟨k5, g5⟩ := blk q5
  obtain ⟨k6, g6⟩ := blk hh55
  have l5 := heap_lt q5
  have l6 := heap_lt hh55
  clear hN25 hN24 hZR hN5 hh5 hg5 H4 q4 k3 g3
  go_wp2_with fail
  refine (implOutletValid_any (f0 := f0) (f1 := f1) (f2 := f2) (f3 := f3) (f4 := f4) x0 x1 (Rws.nil w5 0 5 _) (Nat.zero_le _)).mono ?_
  rintro e w6 ⟨rfl, hb6⟩
  rw [outB_none]
  have hB6 := Below.tr hB5 hb6
  have q6 := (hb6.block a5 l6).trans hh55
  have HZ6 := Lib.hid (HZ.out.next hb6)
  clear k5 g5 k6 g6 HZ
  obtain ⟨k6, g6⟩ := blk q6
  have l6' := heap_lt q6
  clear hb6
  cases hv : outB x0 x1 n1 f0 f1 f2 f3 f4 with
  | false =>
    go_wp2_with (go_at_call 14; refine (alive_any _).mono ?_; rintro e wa ⟨rfl, hba⟩)
    go_ret
    exact ⟨rfl, Below.tr (Below.tr hb1 hB6) hba⟩
  | true =>
    have hz := outB_zeros hv
    go_wp2_with fail
    refine (implOutletValid_any x0 x1 HZ6.out (Nat.le_refl _)).mono ?_
    rintro e w7 ⟨rfl, hb7⟩
    rw [hz]
    go_wp2_with (go_at_call 14; refine (alive_any _).mono ?_; rintro e wa ⟨rfl, hba⟩)
    go_ret
    exact ⟨rfl, Below.tr (Below.tr hb1 (Below.tr hB6 hb7)) hba⟩
end Go.Proofs.Ytahniedcflfdmaa
