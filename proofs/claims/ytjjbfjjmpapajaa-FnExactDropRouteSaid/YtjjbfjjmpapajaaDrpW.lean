/-
  The walk of the law that compares DropRoute in the program and the reference.
-/
import Derived.Test.YtjjbfjjmpapajaaDel3
import Derived.Test.YtjjbfjjmpapajaaRtM
namespace Go.Proofs.Ytjjbfjjmpapajaa
open Go Go.RowKit

theorem wrote_cell {w w' : World} {D C : Nat} (h : WroteIn w w' D C) {b : Nat} (hb : b < w.heap.size) (hd : b < D ∨ C ≤ b) (i : Nat) : w'.cell? ⟨b, i, none⟩ = w.cell? ⟨b, i, none⟩ := World.cell?_of_block (w := w) (a := ⟨b, _, none⟩) (h.block b hb hd)
/-- New rows. -/
def kbOwn (B : Nat) (t : TypeId) (m n : Nat) (R : Nat → List Value) : KB :=
  ⟨fun v w => ∃ A c, v = .slice A n c ∧ Own w B t m A n c R, fun _ _ _ ⟨A, c, e, h⟩ hb => ⟨A, c, e, h.next hb⟩⟩
theorem drN_le (n : Nat) (a b c : Nat → Int) (x y : Int) : drN n a b c x y ≤ n := by unfold drN; split; exact kn_le n; omega
set_option maxRecDepth 20000 in
set_option maxHeartbeats 16000000 in
theorem exactDropRoute_walk (x y : Int) {w : World} {A1 : Option Addr} {n1 k1 : Nat} {c0 c1 c2 : Nat → Int} (h1 : Rws w w.heap.size 3 A1 n1 k1 (routeR c0 c1 c2)) :
    Calls Try.prog 11 #[.slice A1 n1 k1, .agg #[.int .i64 x, .int .i64 y]] w (Truly w) := by
  have hnc1 := h1.1.1
  have hcm1 := h1.1.2
  have HH1 := Lib.hid h1
  clear h1
  by_cases hn1 : (n1 : Int) ≤ 1048576
  rotate_left
  · have hsz1 : szI n1 (1048576) = -1 := if_neg hn1
    go_enter Try.func11, Try.ntmps11
    go_wp2_with fail
    refine (szRouteS_any (1048576) hnc1 hcm1 (by omega) (by omega) _).mono ?_
    rintro e w' ⟨rfl, rfl⟩
    go_wp2_with fail
    go_ret
    exact ⟨rfl, by (repeat (first | exact Below.refl _ _ | assumption | refine Below.al ?_ _ | refine Below.dr ?_ | (refine Below.st ?_ (by simp <;> omega) _) | (refine Below.tr ?_ (by assumption))))⟩
  have hsz1 : szI n1 (1048576) = 1048576 - (n1 : Int) := if_pos hn1
  obtain ⟨N, y0, y1, y2, hI, hS, hNB⟩ : ∃ N y0 y1 y2,
      (∀ (W : World) (B : Nat) (A : Option Addr) (c : Nat), Rws W B 3 A n1 c (routeR c0 c1 c2) → B ≤ W.heap.size → Calls Try.prog 31 #[.slice A n1 c, .agg #[.int .i64 x, .int .i64 y]] W (Gives W 45 3 N (routeR y0 y1 y2))) ∧
      (∀ (W : World) (B : Nat) (A : Option Addr) (c : Nat), Rws W B 3 A n1 c (routeR c0 c1 c2) → B ≤ W.heap.size → Calls Try.prog 30 #[.slice A n1 c, .agg #[.int .i64 x, .int .i64 y]] W (Gives W 45 3 N (routeR y0 y1 y2))) ∧ N ≤ n1 :=
    ⟨drN n1 c0 c1 c2 x y, fun i => c0 (ki c0 c1 x y n1 i), fun i => c1 (ki c0 c1 x y n1 i), fun i => c2 (ki c0 c1 x y n1 i), fun _ _ _ _ h hB => implDropRoute_any x y h hB (by omega), fun _ _ _ _ h hB => specDropRoute_any x y h hB (by omega), drN_le _ _ _ _ _ _⟩
  have HI := Lib.hid hI
  have HS := Lib.hid hS
  clear hI hS
  go_enter Try.func11, Try.ntmps11
  go_wp2_with fail
  refine (szRouteS_any (1048576) hnc1 hcm1 (by omega) (by omega) _).mono ?_
  rintro e w' ⟨rfl, rfl⟩
  have jN : ∀ i, (w.alloc (.cells #[.int .i64 x, .int .i64 y] 23)).cell? ⟨w.heap.size, i, none⟩ = #[Value.int .i64 x, .int .i64 y][i]? := (blk (heap_alloc_new w _)).1
  go_wp2_with fail
  clear jN
  obtain ⟨w1, e1⟩ : ∃ W : World, W = w.alloc (.cells #[.int .i64 x, .int .i64 y] 23) := ⟨_, rfl⟩
  have hB1 : Below w.heap.size w w1 := by rw [e1]; exact below_nd _ _
  have hs1 : w.heap.size < w1.heap.size := by rw [e1]; simp
  have kN_1 : ∀ i, w1.cell? ⟨w.heap.size, i, none⟩ = #[Value.int .i64 x, .int .i64 y][i]? := fun i => by rw [e1]; exact (blk (heap_alloc_new w _)).1 i
  rw [← e1]
  clear e1
  refine wp_region_free (ds := [(0, 18), (1, 19), (2, 20), (3, 21), (4, 22), (5, 6)]) 6 (by kernel_rfl) (by kernel_rfl) (by first | exact .inl rfl | exact .inr (by kernel_rfl)) (by rfl) rfl rfl ?_
  apply free_is
  · intro a' w' hLe hfr hdep
    have e0 := hfr 0 rfl
    conv at e0 => rhs; whnf
    have f0 := e0; simp only [Array.getD_eq_getD_getElem?] at f0
    refine wpOp_plain rfl rfl (fun K hK => ?_)
    go_simp
    exact hK _ _ ⟨_, rfl, Below.refl _ _, rfl⟩
  refine free_cons (kbMade (w.heap.size)  45 3 n1 (routeR c0 c1 c2)) ?_ ?_
  · intro a' w' hLe hfr hdep
    have e18 : a'.tmps.getD 18 undef = _ := hdep 0 18 (Nat.le_of_ble_eq_true rfl) rfl rfl
    conv at e18 => rhs; whnf
    have f18 := e18; simp only [Array.getD_eq_getD_getElem?] at f18
    have kc := fun i => keepc hLe (w.heap.size) (by (try simp) <;> omega) i
    have kf := fun i => keepf hLe (w.heap.size) (by (try simp) <;> omega) i
    have kz : w.heap.size < w'.heap.size := (by have := hLe.size; (try simp at this); omega)
    refine wpOp_plain rfl rfl (fun K hK => ?_)
    go_simp
    refine (toRouteS_any (HH1.out.below (Below.tr hB1 hLe)) (by have := (Below.tr hB1 hLe).size; omega) (by omega)).mono ?_
    rintro e w2 ⟨g, rfl, hg1, hN1, hb⟩
    exact hK _ _ ⟨_, rfl, hb, ⟨g, rfl, by have := hLe.size; (try simp at this); omega, hN1⟩⟩
  apply free_is
  · intro a' w' hLe hfr hdep
    have e3 := hfr 3 rfl
    conv at e3 => rhs; whnf
    have f3 := e3; simp only [Array.getD_eq_getD_getElem?] at f3
    have kc := fun i => keepc hLe (w.heap.size) (by (try simp) <;> omega) i
    have kf := fun i => keepf hLe (w.heap.size) (by (try simp) <;> omega) i
    have kz : w.heap.size < w'.heap.size := (by have := hLe.size; (try simp at this); omega)
    refine wpOp_plain rfl rfl (fun K hK => ?_)
    go_simp
    exact hK _ _ ⟨_, rfl, Below.refl _ _, rfl⟩
  apply free_is
  · intro a' w' hLe hfr hdep
    have e20 : a'.tmps.getD 20 undef = _ := hdep 2 20 (Nat.le_of_ble_eq_true rfl) rfl rfl
    conv at e20 => rhs; whnf
    have f20 := e20; simp only [Array.getD_eq_getD_getElem?] at f20
    have kc := fun i => keepc hLe (w.heap.size) (by (try simp) <;> omega) i
    have kf := fun i => keepf hLe (w.heap.size) (by (try simp) <;> omega) i
    have kz : w.heap.size < w'.heap.size := (by have := hLe.size; (try simp at this); omega)
    refine wpOp_plain rfl rfl (fun K hK => ?_)
    go_simp
    refine (toPrefix_any _ _ _).mono ?_
    rintro e w2 ⟨rfl, hb⟩
    exact hK _ _ ⟨_, rfl, hb, rfl⟩
  refine free_cons (kbOwn w1.heap.size 45 3 N (routeR y0 y1 y2)) ?_ ?_
  · intro a' w' hLe hfr hdep
    obtain ⟨g19, e19, hg19, hN19⟩ := hdep 1 19 (Nat.le_of_ble_eq_true rfl) rfl rfl
    have f19 := e19; simp only [Array.getD_eq_getD_getElem?] at f19
    have e21 : a'.tmps.getD 21 undef = _ := hdep 3 21 (Nat.le_of_ble_eq_true rfl) rfl rfl
    conv at e21 => rhs; whnf
    have f21 := e21; simp only [Array.getD_eq_getD_getElem?] at f21
    have kc := fun i => keepc hLe (w.heap.size) (by (try simp) <;> omega) i
    have kf := fun i => keepf hLe (w.heap.size) (by (try simp) <;> omega) i
    have kz : w.heap.size < w'.heap.size := (by have := hLe.size; (try simp at this); omega)
    refine wpOp_plain rfl rfl (fun K hK => ?_)
    go_simp
    refine (HS.out _ _ _ _ (hN19.rows (by unfold maxLen; omega) hN19.lt) (Nat.le_refl _)).mono ?_
    rintro e w2 ⟨Ar, cr, rfl, hO, hb⟩
    exact hK _ _ ⟨_, rfl, hb, ⟨Ar, cr, rfl, hO.more (by have := hLe.size; (try simp at this); omega)⟩⟩
  refine free_cons (kbOwn w1.heap.size 45 3 N (routeR y0 y1 y2)) ?_ ?_
  · intro a' w' hLe hfr hdep
    obtain ⟨A22, c22, e22, hO22⟩ := hdep 4 22 (Nat.le_of_ble_eq_true rfl) rfl rfl
    have f22 := e22; simp only [Array.getD_eq_getD_getElem?] at f22
    refine wpOp_plain rfl rfl (fun K hK => ?_)
    go_simp
    exact hK _ _ ⟨_, rfl, Below.refl _ _, ⟨A22, c22, rfl, hO22⟩⟩
  apply free_nil
  intro vs w2 hb2 hT2
  have e18 : vs 0 = _ := hT2 0 18 rfl
  conv at e18 => rhs; whnf
  obtain ⟨g19, e19, hg19, hN19⟩ := hT2 1 19 rfl
  have e20 : vs 2 = _ := hT2 2 20 rfl
  conv at e20 => rhs; whnf
  have e21 : vs 3 = _ := hT2 3 21 rfl
  conv at e21 => rhs; whnf
  obtain ⟨A22, c22, e22, hO22⟩ := hT2 4 22 rfl
  obtain ⟨A6, c6, e6, hO6⟩ := hT2 5 6 rfl
  simp only [putAll, List.drop_succ_cons, List.drop_zero, e18, e19, e20, e21, e22, e6]
  clear hT2 e18 e19 e20 e21 e22 e6
  go_simp
  have hB2 := Below.tr hB1 hb2
  have hs2 := hb2.size
  have kN_2 := fun i => (keepc hb2 w.heap.size (by omega) i).trans (kN_1 i)
  clear hb2 kN_1
  have ho_2 := hO6
  have lo := ho_2.lies
  clear hO6
  go_wp2_with fail
  refine (toRouteS_any (HH1.out.below hB2) hB2.size (by omega)).mono ?_
  rintro e w3 ⟨g3, rfl, hg3, hN3, hb3⟩
  have hB3 := Below.tr hB2 hb3
  have hs3 := hb3.size
  have kN_3 := fun i => (keepc hb3 w.heap.size (by omega) i).trans (kN_2 i)
  have ho_3 := ho_2.next hb3
  clear hb3 kN_2 ho_2
  have hx_3 := Own.of_new hN3 (by unfold maxLen; omega) hg3
  have lx := hx_3.lies
  clear hN3
  go_wp2_with fail
  refine (toPrefix_any _ _ _).mono ?_
  rintro e w4 ⟨rfl, hb4⟩
  have hB4 := Below.tr hB3 hb4
  have hs4 := hb4.size
  have kN_4 := fun i => (keepc hb4 w.heap.size (by omega) i).trans (kN_3 i)
  have ho_4 := ho_3.next hb4
  have hx_4 := hx_3.next hb4
  clear hb4 kN_3 ho_3 hx_3
  go_wp2_with fail
  refine (HI.out _ _ _ _ hx_4.rows (Nat.le_refl _)).mono ?_
  rintro e w5 ⟨A_g, q_g, rfl, hg_5, hb5⟩
  have hB5 := Below.tr hB4 hb5
  have hs5 := hb5.size
  have kN_5 := fun i => (keepc hb5 w.heap.size (by omega) i).trans (kN_4 i)
  have ho_5 := ho_4.next hb5
  have hx_5 := hx_4.next hb5
  clear hb5 kN_4 ho_4 hx_4
  have lg := hg_5.lies
  go_wp2_with fail
  refine (eqRouteS_same hg_5.rows ho_5.rows (Nat.le_refl _)).mono ?_
  rintro e w6 ⟨rfl, hb6⟩
  have hB6 := Below.tr hB5 hb6
  have hs6 := hb6.size
  have kN_6 := fun i => (keepc hb6 w.heap.size (by omega) i).trans (kN_5 i)
  have ho_6 := ho_5.next hb6
  have hx_6 := hx_5.next hb6
  have hg_6 := hg_5.next hb6
  clear hb6 kN_5 ho_5 hx_5 hg_5
  go_wp2_with fail
  refine (toRouteS_any (HH1.out.below hB6) hB6.size (by omega)).mono ?_
  rintro e w7 ⟨g7, rfl, hg7, hN7, hb7⟩
  have hB7 := Below.tr hB6 hb7
  have hs7 := hb7.size
  have kN_7 := fun i => (keepc hb7 w.heap.size (by omega) i).trans (kN_6 i)
  have ho_7 := ho_6.next hb7
  have hx_7 := hx_6.next hb7
  have hg_7 := hg_6.next hb7
  clear hb7 kN_6 ho_6 hx_6 hg_6
  have hy_7 := Own.of_new hN7 (by unfold maxLen; omega) hg7
  have ly := hy_7.lies
  clear hN7
  go_wp2_with fail
  refine (eqRouteS_same hx_7.rows hy_7.rows (Nat.le_refl _)).mono ?_
  rintro e w8 ⟨rfl, hb8⟩
  have hB8 := Below.tr hB7 hb8
  have hs8 := hb8.size
  have kN_8 := fun i => (keepc hb8 w.heap.size (by omega) i).trans (kN_7 i)
  have ho_8 := ho_7.next hb8
  have hx_8 := hx_7.next hb8
  have hg_8 := hg_7.next hb8
  have hy_8 := hy_7.next hb8
  clear hb8 kN_7 ho_7 hx_7 hg_7 hy_7
  go_wp2_with fail
  clear hy_8
  refine (markRouteS_any (1) hx_8 (by omega) (by omega) (by omega)).mono ?_
  rintro e w9 ⟨rfl, hx_9, hw⟩
  replace hw := hw _ _ lx
  have hs9 := hw.size
  have hB9 := Below.wrote hB8 hw (by omega)
  have kN_9 := fun i => (wrote_cell hw (b := w.heap.size) (by omega) (by omega) i).trans (kN_8 i)
  have ho_9 := ho_8.apart hw lo (by omega)
  have hg_9 := hg_8.apart hw lg (by omega)
  clear hw kN_8
  go_wp2_with fail
  clear hx_9
  refine (eqRouteS_same hg_9.rows ho_9.rows (Nat.le_refl _)).mono ?_
  rintro e w10 ⟨rfl, hb10⟩
  have hB10 := Below.tr hB9 hb10
  have hs10 := hb10.size
  have kN_10 := fun i => (keepc hb10 w.heap.size (by omega) i).trans (kN_9 i)
  have ho_10 := ho_9.next hb10
  have hg_10 := hg_9.next hb10
  clear hb10 kN_9 ho_9 hg_9
  go_wp2_with fail
  refine (markRouteS_any (1) hg_10 (by omega) (by omega) (by omega)).mono ?_
  rintro e w11 ⟨rfl, hg_11, hw⟩
  replace hw := hw _ _ lg
  have hs11 := hw.size
  have hB11 := Below.wrote hB10 hw (by omega)
  have kN_11 := fun i => (wrote_cell hw (b := w.heap.size) (by omega) (by omega) i).trans (kN_10 i)
  have ho_11 := ho_10.apart hw lo (by omega)
  clear hw kN_10
  go_wp2_with fail
  refine (heldRouteS_same (1) hg_11.rows (Nat.le_refl _) (by omega) (by omega) (by omega)).mono ?_
  rintro e w' ⟨rfl, rfl⟩
  go_wp2_with fail
  refine wp_region_free (ds := [(0, 60), (1, 61), (2, 62), (3, 63), (4, 64), (5, 12)]) 6 (by kernel_rfl) (by kernel_rfl) (by first | exact .inl rfl | exact .inr (by kernel_rfl)) (by rfl) rfl rfl ?_
  apply free_is
  · intro a' w' hLe hfr hdep
    have e0 := hfr 0 rfl
    conv at e0 => rhs; whnf
    have f0 := e0; simp only [Array.getD_eq_getD_getElem?] at f0
    refine wpOp_plain rfl rfl (fun K hK => ?_)
    go_simp
    exact hK _ _ ⟨_, rfl, Below.refl _ _, rfl⟩
  refine free_cons (kbMade (w.heap.size)  45 3 n1 (routeR c0 c1 c2)) ?_ ?_
  · intro a' w' hLe hfr hdep
    have e60 : a'.tmps.getD 60 undef = _ := hdep 0 60 (Nat.le_of_ble_eq_true rfl) rfl rfl
    conv at e60 => rhs; whnf
    have f60 := e60; simp only [Array.getD_eq_getD_getElem?] at f60
    have kc := fun i => keepc hLe (w.heap.size) (by (try simp) <;> omega) i
    have kf := fun i => keepf hLe (w.heap.size) (by (try simp) <;> omega) i
    have kz : w.heap.size < w'.heap.size := (by have := hLe.size; (try simp at this); omega)
    refine wpOp_plain rfl rfl (fun K hK => ?_)
    go_simp
    refine (toRouteS_any (HH1.out.below (Below.tr hB11 hLe)) (by have := (Below.tr hB11 hLe).size; omega) (by omega)).mono ?_
    rintro e w2 ⟨g, rfl, hg1, hN1, hb⟩
    exact hK _ _ ⟨_, rfl, hb, ⟨g, rfl, by have := hLe.size; (try simp at this); omega, hN1⟩⟩
  apply free_is
  · intro a' w' hLe hfr hdep
    have e3 := hfr 3 rfl
    conv at e3 => rhs; whnf
    have f3 := e3; simp only [Array.getD_eq_getD_getElem?] at f3
    have kc := fun i => keepc hLe (w.heap.size) (by (try simp) <;> omega) i
    have kf := fun i => keepf hLe (w.heap.size) (by (try simp) <;> omega) i
    have kz : w.heap.size < w'.heap.size := (by have := hLe.size; (try simp at this); omega)
    refine wpOp_plain rfl rfl (fun K hK => ?_)
    go_simp
    exact hK _ _ ⟨_, rfl, Below.refl _ _, rfl⟩
  apply free_is
  · intro a' w' hLe hfr hdep
    have e62 : a'.tmps.getD 62 undef = _ := hdep 2 62 (Nat.le_of_ble_eq_true rfl) rfl rfl
    conv at e62 => rhs; whnf
    have f62 := e62; simp only [Array.getD_eq_getD_getElem?] at f62
    have kc := fun i => keepc hLe (w.heap.size) (by (try simp) <;> omega) i
    have kf := fun i => keepf hLe (w.heap.size) (by (try simp) <;> omega) i
    have kz : w.heap.size < w'.heap.size := (by have := hLe.size; (try simp at this); omega)
    refine wpOp_plain rfl rfl (fun K hK => ?_)
    go_simp
    refine (toPrefix_any _ _ _).mono ?_
    rintro e w2 ⟨rfl, hb⟩
    exact hK _ _ ⟨_, rfl, hb, rfl⟩
  refine free_cons (kbOwn w11.heap.size 45 3 N (routeR y0 y1 y2)) ?_ ?_
  · intro a' w' hLe hfr hdep
    obtain ⟨g61, e61, hg61, hN61⟩ := hdep 1 61 (Nat.le_of_ble_eq_true rfl) rfl rfl
    have f61 := e61; simp only [Array.getD_eq_getD_getElem?] at f61
    have e63 : a'.tmps.getD 63 undef = _ := hdep 3 63 (Nat.le_of_ble_eq_true rfl) rfl rfl
    conv at e63 => rhs; whnf
    have f63 := e63; simp only [Array.getD_eq_getD_getElem?] at f63
    have kc := fun i => keepc hLe (w.heap.size) (by (try simp) <;> omega) i
    have kf := fun i => keepf hLe (w.heap.size) (by (try simp) <;> omega) i
    have kz : w.heap.size < w'.heap.size := (by have := hLe.size; (try simp at this); omega)
    refine wpOp_plain rfl rfl (fun K hK => ?_)
    go_simp
    refine (HI.out _ _ _ _ (hN61.rows (by unfold maxLen; omega) hN61.lt) (Nat.le_refl _)).mono ?_
    rintro e w2 ⟨Ar, cr, rfl, hO, hb⟩
    exact hK _ _ ⟨_, rfl, hb, ⟨Ar, cr, rfl, hO.more (by have := hLe.size; (try simp at this); omega)⟩⟩
  refine free_cons (kbOwn w11.heap.size 45 3 N (routeR y0 y1 y2)) ?_ ?_
  · intro a' w' hLe hfr hdep
    obtain ⟨A64, c64, e64, hO64⟩ := hdep 4 64 (Nat.le_of_ble_eq_true rfl) rfl rfl
    have f64 := e64; simp only [Array.getD_eq_getD_getElem?] at f64
    refine wpOp_plain rfl rfl (fun K hK => ?_)
    go_simp
    exact hK _ _ ⟨_, rfl, Below.refl _ _, ⟨A64, c64, rfl, hO64⟩⟩
  apply free_nil
  intro vs w12 hb12 hT12
  have e60 : vs 0 = _ := hT12 0 60 rfl
  conv at e60 => rhs; whnf
  obtain ⟨g61, e61, hg61, hN61⟩ := hT12 1 61 rfl
  have e62 : vs 2 = _ := hT12 2 62 rfl
  conv at e62 => rhs; whnf
  have e63 : vs 3 = _ := hT12 3 63 rfl
  conv at e63 => rhs; whnf
  obtain ⟨A64, c64, e64, hO64⟩ := hT12 4 64 rfl
  obtain ⟨A12, c12, e12, hO12⟩ := hT12 5 12 rfl
  simp only [putAll, List.drop_succ_cons, List.drop_zero, e60, e61, e62, e63, e64, e12]
  clear hT12 e60 e61 e62 e63 e64 e12
  go_simp
  have hB12 := Below.tr hB11 hb12
  have hs12 := hb12.size
  have kN_12 := fun i => (keepc hb12 w.heap.size (by omega) i).trans (kN_11 i)
  have ho_12 := ho_11.next hb12
  have hg_12 := hg_11.next hb12
  clear hb12 kN_11 ho_11 hg_11
  have hh_12 := hO12
  have lh := hh_12.lies
  clear hO12
  go_wp2_with fail
  refine (eqRouteS_same hh_12.rows ho_12.rows (Nat.le_refl _)).mono ?_
  rintro e w13 ⟨rfl, hb13⟩
  have hB13 := Below.tr hB12 hb13
  have hs13 := hb13.size
  have kN_13 := fun i => (keepc hb13 w.heap.size (by omega) i).trans (kN_12 i)
  have ho_13 := ho_12.next hb13
  have hg_13 := hg_12.next hb13
  have hh_13 := hh_12.next hb13
  clear hb13 kN_12 ho_12 hg_12 hh_12
  go_wp2_with fail
  refine (heldRouteS_same (1) hg_13.rows (Nat.le_refl _) (by omega) (by omega) (by omega)).mono ?_
  rintro e w' ⟨rfl, rfl⟩
  go_wp2_with fail
  go_ret
  exact ⟨rfl, hB13⟩
end Go.Proofs.Ytjjbfjjmpapajaa
