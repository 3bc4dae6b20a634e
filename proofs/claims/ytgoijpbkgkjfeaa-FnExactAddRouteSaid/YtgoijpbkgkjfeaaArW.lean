/-
  The walk of the law that compares AddRoute in the program and the reference.
-/
import Derived.Test.YtgoijpbkgkjfeaaIns3
import Derived.Test.YtgoijpbkgkjfeaaAds
import Derived.Test.YtgoijpbkgkjfeaaRtM
namespace Go.Proofs.Ytgoijpbkgkjfeaa
open Go Go.RowKit

theorem wrote_cell {w w' : World} {D C : Nat} (h : WroteIn w w' D C) {b : Nat} (hb : b < w.heap.size) (hd : b < D ∨ C ≤ b) (i : Nat) : w'.cell? ⟨b, i, none⟩ = w.cell? ⟨b, i, none⟩ := World.cell?_of_block (w := w) (a := ⟨b, _, none⟩) (h.block b hb hd)
/-- New rows. -/
def kbOwn (B : Nat) (t : TypeId) (m n : Nat) (R : Nat → List Value) : KB :=
  ⟨fun v w => ∃ A c, v = .slice A n c ∧ Own w B t m A n c R, fun _ _ _ ⟨A, c, e, h⟩ hb => ⟨A, c, e, h.next hb⟩⟩
/-- .. and a Bool. -/
def kbOwnB (B : Nat) (t : TypeId) (m n : Nat) (R : Nat → List Value) (ok : Bool) : KB :=
  ⟨fun v w => ∃ A c, v = .tuple #[.slice A n c, .bool ok] ∧ Own w B t m A n c R, fun _ _ _ ⟨A, c, e, h⟩ hb => ⟨A, c, e, h.next hb⟩⟩
set_option maxRecDepth 20000 in
set_option maxHeartbeats 16000000 in
theorem exactAddRoute_walk (x y z : Int) {w : World} {A1 : Option Addr} {n1 k1 : Nat} {c0 c1 c2 : Nat → Int} (h1 : Rws w w.heap.size 3 A1 n1 k1 (routeR c0 c1 c2)) :
    Calls Try.prog 4 #[.slice A1 n1 k1, .agg #[.int .i64 x, .int .i64 y, .int .i64 z]] w (Truly w) := by
  have hnc1 := h1.1.1
  have hcm1 := h1.1.2
  have HH1 := Lib.hid h1
  clear h1
  by_cases hn1 : (n1 : Int) ≤ 1048576
  rotate_left
  · have hsz1 : szI n1 (1048576) = -1 := if_neg hn1
    go_enter Try.func4, Try.ntmps4
    go_wp2_with fail
    refine (szRouteS_any (1048576) hnc1 hcm1 (by omega) (by omega) _).mono ?_
    rintro e w' ⟨rfl, rfl⟩
    go_wp2_with fail
    go_ret
    exact ⟨rfl, by (repeat (first | exact Below.refl _ _ | assumption | refine Below.al ?_ _ | refine Below.dr ?_ | (refine Below.st ?_ (by simp <;> omega) _) | (refine Below.tr ?_ (by assumption))))⟩
  have hsz1 : szI n1 (1048576) = 1048576 - (n1 : Int) := if_pos hn1
  obtain ⟨N, ok, y0, y1, y2, hI, hS, hNB⟩ : ∃ N ok y0 y1 y2,
      (∀ (W : World) (B : Nat) (A : Option Addr) (c : Nat), Rws W B 3 A n1 c (routeR c0 c1 c2) → B ≤ W.heap.size → Calls Try.prog 7 #[.slice A n1 c, .agg #[.int .i64 x, .int .i64 y, .int .i64 z]] W (GivesB W 27 3 N (routeR y0 y1 y2) ok)) ∧
      (∀ (W : World) (B : Nat) (A : Option Addr) (c : Nat), Rws W B 3 A n1 c (routeR c0 c1 c2) → B ≤ W.heap.size → Calls Try.prog 8 #[.slice A n1 c, .agg #[.int .i64 x, .int .i64 y, .int .i64 z]] W (GivesB W 27 3 N (routeR y0 y1 y2) ok)) ∧ N ≤ n1 + 1 :=
    ⟨arN n1 c0 c1 c2 x y z, arOk n1 c0 c1 c2 x y z, arC n1 c0 c1 c2 x y z c0 x, arC n1 c0 c1 c2 x y z c1 y, arC n1 c0 c1 c2 x y z c2 z, fun _ _ _ _ h hB => implAddRoute_any x y z h hB (by omega), fun _ _ _ _ h hB => specAddRoute_any x y z h hB (by omega), arN_le⟩
  have HI := Lib.hid hI
  have HS := Lib.hid hS
  clear hI hS
  go_enter Try.func4, Try.ntmps4
  go_wp2_with fail
  refine (szRouteS_any (1048576) hnc1 hcm1 (by omega) (by omega) _).mono ?_
  rintro e w' ⟨rfl, rfl⟩
  have jN : ∀ i, (w.alloc (.cells #[.int .i64 x, .int .i64 y, .int .i64 z] 38)).cell? ⟨w.heap.size, i, none⟩ = #[Value.int .i64 x, .int .i64 y, .int .i64 z][i]? := (blk (heap_alloc_new w _)).1
  go_wp2_with fail
  clear jN
  obtain ⟨w1, e1⟩ : ∃ W : World, W = w.alloc (.cells #[.int .i64 x, .int .i64 y, .int .i64 z] 38) := ⟨_, rfl⟩
  have hB1 : Below w.heap.size w w1 := by rw [e1]; exact below_nd _ _
  have hs1 : w.heap.size < w1.heap.size := by rw [e1]; simp
  have kN_1 : ∀ i, w1.cell? ⟨w.heap.size, i, none⟩ = #[Value.int .i64 x, .int .i64 y, .int .i64 z][i]? := fun i => by rw [e1]; exact (blk (heap_alloc_new w _)).1 i
  rw [← e1]
  clear e1
  refine wp_region_free (ds := [(0, 22), (1, 23), (2, 24), (3, 25), (4, 26), (5, 21), (6, 27), (7, 28), (8, 6), (9, 7)]) 10 (by kernel_rfl) (by kernel_rfl) (by first | exact .inl rfl | exact .inr (by kernel_rfl)) (by rfl) rfl rfl ?_
  apply free_is
  · intro a' w' hLe hfr hdep
    have e0 := hfr 0 rfl
    conv at e0 => rhs; whnf
    have f0 := e0; simp only [Array.getD_eq_getD_getElem?] at f0
    refine wpOp_plain rfl rfl (fun K hK => ?_)
    go_simp
    exact hK _ _ ⟨_, rfl, Below.refl _ _, rfl⟩
  refine free_cons (kbMade (w.heap.size)  27 3 n1 (routeR c0 c1 c2)) ?_ ?_
  · intro a' w' hLe hfr hdep
    have e22 : a'.tmps.getD 22 undef = _ := hdep 0 22 (Nat.le_of_ble_eq_true rfl) rfl rfl
    conv at e22 => rhs; whnf
    have f22 := e22; simp only [Array.getD_eq_getD_getElem?] at f22
    have kc := fun i => keepc hLe (w.heap.size) (by (try simp) <;> omega) i
    have kf := fun i => keepf hLe (w.heap.size) (by (try simp) <;> omega) i
    have kz : w.heap.size < w'.heap.size := (by have := hLe.size; (try simp at this); omega)
    refine wpOp_plain rfl rfl (fun K hK => ?_)
    go_simp
    refine (toRouteS_any (HH1.out.below (Below.tr hB1 hLe)) (by have := (Below.tr hB1 hLe).size; omega) (by omega)).mono ?_
    rintro e w2 ⟨g, rfl, hg1, hN1, hb⟩
    exact hK _ _ ⟨_, rfl, hb, ⟨g, rfl, by have := hLe.size; (try simp at this); omega, hN1⟩⟩
  apply free_is
  · intro a' w' hLe hfr hdep
    have e3 := hfr 3 rfl
    conv at e3 => rhs; whnf
    have f3 := e3; simp only [Array.getD_eq_getD_getElem?] at f3
    have kc := fun i => keepc hLe (w.heap.size) (by (try simp) <;> omega) i
    have kf := fun i => keepf hLe (w.heap.size) (by (try simp) <;> omega) i
    have kz : w.heap.size < w'.heap.size := (by have := hLe.size; (try simp at this); omega)
    refine wpOp_plain rfl rfl (fun K hK => ?_)
    go_simp
    exact hK _ _ ⟨_, rfl, Below.refl _ _, rfl⟩
  apply free_is
  · intro a' w' hLe hfr hdep
    have e24 : a'.tmps.getD 24 undef = _ := hdep 2 24 (Nat.le_of_ble_eq_true rfl) rfl rfl
    conv at e24 => rhs; whnf
    have f24 := e24; simp only [Array.getD_eq_getD_getElem?] at f24
    have kc := fun i => keepc hLe (w.heap.size) (by (try simp) <;> omega) i
    have kf := fun i => keepf hLe (w.heap.size) (by (try simp) <;> omega) i
    have kz : w.heap.size < w'.heap.size := (by have := hLe.size; (try simp at this); omega)
    refine wpOp_plain rfl rfl (fun K hK => ?_)
    go_simp
    refine (toRoute_any _ _ _ _).mono ?_
    rintro e w2 ⟨rfl, hb⟩
    exact hK _ _ ⟨_, rfl, hb, rfl⟩
  refine free_cons (kbOwnB w1.heap.size 27 3 N (routeR y0 y1 y2) ok) ?_ ?_
  · intro a' w' hLe hfr hdep
    obtain ⟨g23, e23, hg23, hN23⟩ := hdep 1 23 (Nat.le_of_ble_eq_true rfl) rfl rfl
    have f23 := e23; simp only [Array.getD_eq_getD_getElem?] at f23
    have e25 : a'.tmps.getD 25 undef = _ := hdep 3 25 (Nat.le_of_ble_eq_true rfl) rfl rfl
    conv at e25 => rhs; whnf
    have f25 := e25; simp only [Array.getD_eq_getD_getElem?] at f25
    have kc := fun i => keepc hLe (w.heap.size) (by (try simp) <;> omega) i
    have kf := fun i => keepf hLe (w.heap.size) (by (try simp) <;> omega) i
    have kz : w.heap.size < w'.heap.size := (by have := hLe.size; (try simp at this); omega)
    refine wpOp_plain rfl rfl (fun K hK => ?_)
    go_simp
    refine (HS.out _ _ _ _ (hN23.rows (by unfold maxLen; omega) hN23.lt) (Nat.le_refl _)).mono ?_
    rintro e w2 ⟨Ar, cr, rfl, hO, hb⟩
    exact hK _ _ ⟨_, rfl, hb, ⟨Ar, cr, rfl, hO.more (by have := hLe.size; (try simp at this); omega)⟩⟩
  refine free_cons (kbOwnB w1.heap.size 27 3 N (routeR y0 y1 y2) ok) ?_ ?_
  · intro a' w' hLe hfr hdep
    obtain ⟨A26, c26, e26, hO26⟩ := hdep 4 26 (Nat.le_of_ble_eq_true rfl) rfl rfl
    have f26 := e26; simp only [Array.getD_eq_getD_getElem?] at f26
    refine wpOp_plain rfl rfl (fun K hK => ?_)
    go_simp
    exact hK _ _ ⟨_, rfl, Below.refl _ _, ⟨A26, c26, rfl, hO26⟩⟩
  refine free_cons (kbOwn w1.heap.size 27 3 N (routeR y0 y1 y2)) ?_ ?_
  · intro a' w' hLe hfr hdep
    obtain ⟨A21, c21, e21, hO21⟩ := hdep 5 21 (Nat.le_of_ble_eq_true rfl) rfl rfl
    have f21 := e21; simp only [Array.getD_eq_getD_getElem?] at f21
    refine wpOp_plain rfl rfl (fun K hK => ?_)
    go_simp
    exact hK _ _ ⟨_, rfl, Below.refl _ _, ⟨A21, c21, rfl, hO21⟩⟩
  apply free_is
  · intro a' w' hLe hfr hdep
    obtain ⟨A21, c21, e21, hO21⟩ := hdep 5 21 (Nat.le_of_ble_eq_true rfl) rfl rfl
    have f21 := e21; simp only [Array.getD_eq_getD_getElem?] at f21
    refine wpOp_plain rfl rfl (fun K hK => ?_)
    go_simp
    exact hK _ _ ⟨_, rfl, Below.refl _ _, rfl⟩
  refine free_cons (kbOwn w1.heap.size 27 3 N (routeR y0 y1 y2)) ?_ ?_
  · intro a' w' hLe hfr hdep
    obtain ⟨A27, c27, e27, hO27⟩ := hdep 6 27 (Nat.le_of_ble_eq_true rfl) rfl rfl
    have f27 := e27; simp only [Array.getD_eq_getD_getElem?] at f27
    refine wpOp_plain rfl rfl (fun K hK => ?_)
    go_simp
    exact hK _ _ ⟨_, rfl, Below.refl _ _, ⟨A27, c27, rfl, hO27⟩⟩
  apply free_is
  · intro a' w' hLe hfr hdep
    have e28 : a'.tmps.getD 28 undef = _ := hdep 7 28 (Nat.le_of_ble_eq_true rfl) rfl rfl
    conv at e28 => rhs; whnf
    have f28 := e28; simp only [Array.getD_eq_getD_getElem?] at f28
    refine wpOp_plain rfl rfl (fun K hK => ?_)
    go_simp
    exact hK _ _ ⟨_, rfl, Below.refl _ _, rfl⟩
  apply free_nil
  intro vs w2 hb2 hT2
  have e22 : vs 0 = _ := hT2 0 22 rfl
  conv at e22 => rhs; whnf
  obtain ⟨g23, e23, hg23, hN23⟩ := hT2 1 23 rfl
  have e24 : vs 2 = _ := hT2 2 24 rfl
  conv at e24 => rhs; whnf
  have e25 : vs 3 = _ := hT2 3 25 rfl
  conv at e25 => rhs; whnf
  obtain ⟨A26, c26, e26, hO26⟩ := hT2 4 26 rfl
  obtain ⟨A21, c21, e21, hO21⟩ := hT2 5 21 rfl
  obtain ⟨A27, c27, e27, hO27⟩ := hT2 6 27 rfl
  have e28 : vs 7 = _ := hT2 7 28 rfl
  conv at e28 => rhs; whnf
  obtain ⟨A6, c6, e6, hO6⟩ := hT2 8 6 rfl
  have e7 : vs 9 = _ := hT2 9 7 rfl
  conv at e7 => rhs; whnf
  simp only [putAll, List.drop_succ_cons, List.drop_zero, e22, e23, e24, e25, e26, e21, e27, e28, e6, e7]
  clear hT2 e22 e23 e24 e25 e26 e21 e27 e28 e6 e7
  go_simp
  have hB2 := Below.tr hB1 hb2
  have hs2 := hb2.size
  have kN_2 := fun i => (keepc hb2 w.heap.size (by omega) i).trans (kN_1 i)
  clear hb2 kN_1
  have ho_2 := hO6
  have lo := ho_2.lies
  clear hO6
  go_wp2_with fail
  refine (toRouteS_any (HH1.out.below hB2) hB2.size (by omega)).mono ?_
  rintro e w3 ⟨g3, rfl, hg3, hN3, hb3⟩
  have hB3 := Below.tr hB2 hb3
  have hs3 := hb3.size
  have kN_3 := fun i => (keepc hb3 w.heap.size (by omega) i).trans (kN_2 i)
  have ho_3 := ho_2.next hb3
  clear hb3 kN_2 ho_2
  have hx_3 := Own.of_new hN3 (by unfold maxLen; omega) hg3
  have lx := hx_3.lies
  clear hN3
  go_wp2_with fail
  refine (toRoute_any _ _ _ _).mono ?_
  rintro e w4 ⟨rfl, hb4⟩
  have hB4 := Below.tr hB3 hb4
  have hs4 := hb4.size
  have kN_4 := fun i => (keepc hb4 w.heap.size (by omega) i).trans (kN_3 i)
  have ho_4 := ho_3.next hb4
  have hx_4 := hx_3.next hb4
  clear hb4 kN_3 ho_3 hx_3
  go_wp2_with fail
  refine (HI.out _ _ _ _ hx_4.rows (Nat.le_refl _)).mono ?_
  rintro e w5 ⟨A_g, q_g, rfl, hg_5, hb5⟩
  have hB5 := Below.tr hB4 hb5
  have hs5 := hb5.size
  have kN_5 := fun i => (keepc hb5 w.heap.size (by omega) i).trans (kN_4 i)
  have ho_5 := ho_4.next hb5
  have hx_5 := hx_4.next hb5
  clear hb5 kN_4 ho_4 hx_4
  have lg := hg_5.lies
  go_wp2_with fail
  refine (eqRouteS_same hg_5.rows ho_5.rows (Nat.le_refl _)).mono ?_
  rintro e w6 ⟨rfl, hb6⟩
  have hB6 := Below.tr hB5 hb6
  have hs6 := hb6.size
  have kN_6 := fun i => (keepc hb6 w.heap.size (by omega) i).trans (kN_5 i)
  have ho_6 := ho_5.next hb6
  have hx_6 := hx_5.next hb6
  have hg_6 := hg_5.next hb6
  clear hb6 kN_5 ho_5 hx_5 hg_5
  go_wp2_with fail
  refine (toRouteS_any (HH1.out.below hB6) hB6.size (by omega)).mono ?_
  rintro e w7 ⟨g7, rfl, hg7, hN7, hb7⟩
  have hB7 := Below.tr hB6 hb7
  have hs7 := hb7.size
  have kN_7 := fun i => (keepc hb7 w.heap.size (by omega) i).trans (kN_6 i)
  have ho_7 := ho_6.next hb7
  have hx_7 := hx_6.next hb7
  have hg_7 := hg_6.next hb7
  clear hb7 kN_6 ho_6 hx_6 hg_6
  have hy_7 := Own.of_new hN7 (by unfold maxLen; omega) hg7
  have ly := hy_7.lies
  clear hN7
  go_wp2_with fail
  refine (eqRouteS_same hx_7.rows hy_7.rows (Nat.le_refl _)).mono ?_
  rintro e w8 ⟨rfl, hb8⟩
  have hB8 := Below.tr hB7 hb8
  have hs8 := hb8.size
  have kN_8 := fun i => (keepc hb8 w.heap.size (by omega) i).trans (kN_7 i)
  have ho_8 := ho_7.next hb8
  have hx_8 := hx_7.next hb8
  have hg_8 := hg_7.next hb8
  have hy_8 := hy_7.next hb8
  clear hb8 kN_7 ho_7 hx_7 hg_7 hy_7
  go_wp2_with fail
  clear hy_8
  refine (markRouteS_any (1) hx_8 (by omega) (by omega) (by omega)).mono ?_
  rintro e w9 ⟨rfl, hx_9, hw⟩
  replace hw := hw _ _ lx
  have hs9 := hw.size
  have hB9 := Below.wrote hB8 hw (by omega)
  have kN_9 := fun i => (wrote_cell hw (b := w.heap.size) (by omega) (by omega) i).trans (kN_8 i)
  have ho_9 := ho_8.apart hw lo (by omega)
  have hg_9 := hg_8.apart hw lg (by omega)
  clear hw kN_8
  go_wp2_with fail
  clear hx_9
  refine (eqRouteS_same hg_9.rows ho_9.rows (Nat.le_refl _)).mono ?_
  rintro e w10 ⟨rfl, hb10⟩
  have hB10 := Below.tr hB9 hb10
  have hs10 := hb10.size
  have kN_10 := fun i => (keepc hb10 w.heap.size (by omega) i).trans (kN_9 i)
  have ho_10 := ho_9.next hb10
  have hg_10 := hg_9.next hb10
  clear hb10 kN_9 ho_9 hg_9
  go_wp2_with fail
  refine (markRouteS_any (1) hg_10 (by omega) (by omega) (by omega)).mono ?_
  rintro e w11 ⟨rfl, hg_11, hw⟩
  replace hw := hw _ _ lg
  have hs11 := hw.size
  have hB11 := Below.wrote hB10 hw (by omega)
  have kN_11 := fun i => (wrote_cell hw (b := w.heap.size) (by omega) (by omega) i).trans (kN_10 i)
  have ho_11 := ho_10.apart hw lo (by omega)
  clear hw kN_10
  go_wp2_with fail
  refine (heldRouteS_same (1) hg_11.rows (Nat.le_refl _) (by omega) (by omega) (by omega)).mono ?_
  rintro e w' ⟨rfl, rfl⟩
  go_wp2_with fail
  refine wp_region_free (ds := [(0, 80), (1, 81), (2, 82), (3, 83), (4, 84), (5, 79), (6, 85), (7, 86), (8, 14), (9, 15)]) 10 (by kernel_rfl) (by kernel_rfl) (by first | exact .inl rfl | exact .inr (by kernel_rfl)) (by rfl) rfl rfl ?_
  apply free_is
  · intro a' w' hLe hfr hdep
    have e0 := hfr 0 rfl
    conv at e0 => rhs; whnf
    have f0 := e0; simp only [Array.getD_eq_getD_getElem?] at f0
    refine wpOp_plain rfl rfl (fun K hK => ?_)
    go_simp
    exact hK _ _ ⟨_, rfl, Below.refl _ _, rfl⟩
  refine free_cons (kbMade (w.heap.size)  27 3 n1 (routeR c0 c1 c2)) ?_ ?_
  · intro a' w' hLe hfr hdep
    have e80 : a'.tmps.getD 80 undef = _ := hdep 0 80 (Nat.le_of_ble_eq_true rfl) rfl rfl
    conv at e80 => rhs; whnf
    have f80 := e80; simp only [Array.getD_eq_getD_getElem?] at f80
    have kc := fun i => keepc hLe (w.heap.size) (by (try simp) <;> omega) i
    have kf := fun i => keepf hLe (w.heap.size) (by (try simp) <;> omega) i
    have kz : w.heap.size < w'.heap.size := (by have := hLe.size; (try simp at this); omega)
    refine wpOp_plain rfl rfl (fun K hK => ?_)
    go_simp
    refine (toRouteS_any (HH1.out.below (Below.tr hB11 hLe)) (by have := (Below.tr hB11 hLe).size; omega) (by omega)).mono ?_
    rintro e w2 ⟨g, rfl, hg1, hN1, hb⟩
    exact hK _ _ ⟨_, rfl, hb, ⟨g, rfl, by have := hLe.size; (try simp at this); omega, hN1⟩⟩
  apply free_is
  · intro a' w' hLe hfr hdep
    have e3 := hfr 3 rfl
    conv at e3 => rhs; whnf
    have f3 := e3; simp only [Array.getD_eq_getD_getElem?] at f3
    have kc := fun i => keepc hLe (w.heap.size) (by (try simp) <;> omega) i
    have kf := fun i => keepf hLe (w.heap.size) (by (try simp) <;> omega) i
    have kz : w.heap.size < w'.heap.size := (by have := hLe.size; (try simp at this); omega)
    refine wpOp_plain rfl rfl (fun K hK => ?_)
    go_simp
    exact hK _ _ ⟨_, rfl, Below.refl _ _, rfl⟩
  apply free_is
  · intro a' w' hLe hfr hdep
    have e82 : a'.tmps.getD 82 undef = _ := hdep 2 82 (Nat.le_of_ble_eq_true rfl) rfl rfl
    conv at e82 => rhs; whnf
    have f82 := e82; simp only [Array.getD_eq_getD_getElem?] at f82
    have kc := fun i => keepc hLe (w.heap.size) (by (try simp) <;> omega) i
    have kf := fun i => keepf hLe (w.heap.size) (by (try simp) <;> omega) i
    have kz : w.heap.size < w'.heap.size := (by have := hLe.size; (try simp at this); omega)
    refine wpOp_plain rfl rfl (fun K hK => ?_)
    go_simp
    refine (toRoute_any _ _ _ _).mono ?_
    rintro e w2 ⟨rfl, hb⟩
    exact hK _ _ ⟨_, rfl, hb, rfl⟩
  refine free_cons (kbOwnB w11.heap.size 27 3 N (routeR y0 y1 y2) ok) ?_ ?_
  · intro a' w' hLe hfr hdep
    obtain ⟨g81, e81, hg81, hN81⟩ := hdep 1 81 (Nat.le_of_ble_eq_true rfl) rfl rfl
    have f81 := e81; simp only [Array.getD_eq_getD_getElem?] at f81
    have e83 : a'.tmps.getD 83 undef = _ := hdep 3 83 (Nat.le_of_ble_eq_true rfl) rfl rfl
    conv at e83 => rhs; whnf
    have f83 := e83; simp only [Array.getD_eq_getD_getElem?] at f83
    have kc := fun i => keepc hLe (w.heap.size) (by (try simp) <;> omega) i
    have kf := fun i => keepf hLe (w.heap.size) (by (try simp) <;> omega) i
    have kz : w.heap.size < w'.heap.size := (by have := hLe.size; (try simp at this); omega)
    refine wpOp_plain rfl rfl (fun K hK => ?_)
    go_simp
    refine (HI.out _ _ _ _ (hN81.rows (by unfold maxLen; omega) hN81.lt) (Nat.le_refl _)).mono ?_
    rintro e w2 ⟨Ar, cr, rfl, hO, hb⟩
    exact hK _ _ ⟨_, rfl, hb, ⟨Ar, cr, rfl, hO.more (by have := hLe.size; (try simp at this); omega)⟩⟩
  refine free_cons (kbOwnB w11.heap.size 27 3 N (routeR y0 y1 y2) ok) ?_ ?_
  · intro a' w' hLe hfr hdep
    obtain ⟨A84, c84, e84, hO84⟩ := hdep 4 84 (Nat.le_of_ble_eq_true rfl) rfl rfl
    have f84 := e84; simp only [Array.getD_eq_getD_getElem?] at f84
    refine wpOp_plain rfl rfl (fun K hK => ?_)
    go_simp
    exact hK _ _ ⟨_, rfl, Below.refl _ _, ⟨A84, c84, rfl, hO84⟩⟩
  refine free_cons (kbOwn w11.heap.size 27 3 N (routeR y0 y1 y2)) ?_ ?_
  · intro a' w' hLe hfr hdep
    obtain ⟨A79, c79, e79, hO79⟩ := hdep 5 79 (Nat.le_of_ble_eq_true rfl) rfl rfl
    have f79 := e79; simp only [Array.getD_eq_getD_getElem?] at f79
    refine wpOp_plain rfl rfl (fun K hK => ?_)
    go_simp
    exact hK _ _ ⟨_, rfl, Below.refl _ _, ⟨A79, c79, rfl, hO79⟩⟩
  apply free_is
  · intro a' w' hLe hfr hdep
    obtain ⟨A79, c79, e79, hO79⟩ := hdep 5 79 (Nat.le_of_ble_eq_true rfl) rfl rfl
    have f79 := e79; simp only [Array.getD_eq_getD_getElem?] at f79
    refine wpOp_plain rfl rfl (fun K hK => ?_)
    go_simp
    exact hK _ _ ⟨_, rfl, Below.refl _ _, rfl⟩
  refine free_cons (kbOwn w11.heap.size 27 3 N (routeR y0 y1 y2)) ?_ ?_
  · intro a' w' hLe hfr hdep
    obtain ⟨A85, c85, e85, hO85⟩ := hdep 6 85 (Nat.le_of_ble_eq_true rfl) rfl rfl
    have f85 := e85; simp only [Array.getD_eq_getD_getElem?] at f85
    refine wpOp_plain rfl rfl (fun K hK => ?_)
    go_simp
    exact hK _ _ ⟨_, rfl, Below.refl _ _, ⟨A85, c85, rfl, hO85⟩⟩
  apply free_is
  · intro a' w' hLe hfr hdep
    have e86 : a'.tmps.getD 86 undef = _ := hdep 7 86 (Nat.le_of_ble_eq_true rfl) rfl rfl
    conv at e86 => rhs; whnf
    have f86 := e86; simp only [Array.getD_eq_getD_getElem?] at f86
    refine wpOp_plain rfl rfl (fun K hK => ?_)
    go_simp
    exact hK _ _ ⟨_, rfl, Below.refl _ _, rfl⟩
  apply free_nil
  intro vs w12 hb12 hT12
  have e80 : vs 0 = _ := hT12 0 80 rfl
  conv at e80 => rhs; whnf
  obtain ⟨g81, e81, hg81, hN81⟩ := hT12 1 81 rfl
  have e82 : vs 2 = _ := hT12 2 82 rfl
  conv at e82 => rhs; whnf
  have e83 : vs 3 = _ := hT12 3 83 rfl
  conv at e83 => rhs; whnf
  obtain ⟨A84, c84, e84, hO84⟩ := hT12 4 84 rfl
  obtain ⟨A79, c79, e79, hO79⟩ := hT12 5 79 rfl
  obtain ⟨A85, c85, e85, hO85⟩ := hT12 6 85 rfl
  have e86 : vs 7 = _ := hT12 7 86 rfl
  conv at e86 => rhs; whnf
  obtain ⟨A14, c14, e14, hO14⟩ := hT12 8 14 rfl
  have e15 : vs 9 = _ := hT12 9 15 rfl
  conv at e15 => rhs; whnf
  simp only [putAll, List.drop_succ_cons, List.drop_zero, e80, e81, e82, e83, e84, e79, e85, e86, e14, e15]
  clear hT12 e80 e81 e82 e83 e84 e79 e85 e86 e14 e15
  go_simp
  have hB12 := Below.tr hB11 hb12
  have hs12 := hb12.size
  have kN_12 := fun i => (keepc hb12 w.heap.size (by omega) i).trans (kN_11 i)
  have ho_12 := ho_11.next hb12
  have hg_12 := hg_11.next hb12
  clear hb12 kN_11 ho_11 hg_11
  have hh_12 := hO14
  have lh := hh_12.lies
  clear hO14
  go_wp2_with fail
  refine (eqRouteS_same hh_12.rows ho_12.rows (Nat.le_refl _)).mono ?_
  rintro e w13 ⟨rfl, hb13⟩
  have hB13 := Below.tr hB12 hb13
  have hs13 := hb13.size
  have kN_13 := fun i => (keepc hb13 w.heap.size (by omega) i).trans (kN_12 i)
  have ho_13 := ho_12.next hb13
  have hg_13 := hg_12.next hb13
  have hh_13 := hh_12.next hb13
  clear hb13 kN_12 ho_12 hg_12 hh_12
  go_wp2_with fail
  refine (heldRouteS_same (1) hg_13.rows (Nat.le_refl _) (by omega) (by omega) (by omega)).mono ?_
  rintro e w' ⟨rfl, rfl⟩
  go_wp2_with fail
  go_ret
  exact ⟨rfl, hB13⟩
end Go.Proofs.Ytgoijpbkgkjfeaa
