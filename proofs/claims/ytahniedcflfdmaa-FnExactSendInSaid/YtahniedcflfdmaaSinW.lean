/-
  The law 'SendIn returns what the reference returns': its walk.
-/
import Derived.Test.YtahniedcflfdmaaSin
import Derived.Test.YtahniedcflfdmaaSinS
import Derived.Test.YtahniedcflfdmaaOutT
import Derived.Test.YtahniedcflfdmaaOwn
import Derived.Test.YtahniedcflfdmaaLate
import Derived.Deep.DeepCutAuto
namespace Go.Proofs.Ytahniedcflfdmaa
open Go Go.RowKit

theorem below_new' (w : World) (o : Obj) : Below w.heap.size w (w.alloc o) := (Below.refl _ _).alloc (Nat.le_refl _) o
theorem siV_ex (x0 x1 : Int) (n : Nat) (f0 f1 f2 f3 f4 : Nat → Int) (g0 g1 g2 g3 g4 : Int) : ∃ y0 y1 y2 y3 y4 b, ∀ w e w', SiV w x0 x1 n f0 f1 f2 f3 f4 g0 g1 g2 g3 g4 e w' →
    e = .returned (.tuple #[.agg #[.int .i64 y0, .int .i64 y1, .int .i64 y2, .int .i64 y3, .int .i64 y4], .bool b]) ∧ Below w.heap.size w w' := ⟨_, _, _, _, _, _, fun _ _ _ h => h⟩
/-- A cell of its own. -/
def kbCell (B : Nat) (o : Obj) : KB :=
  ⟨fun v w => ∃ b, v = .pointer (some ⟨b, 0, none⟩) ∧ B ≤ b ∧ w.heap[b]? = some o, fun _ _ _ ⟨b, h1, h2, h3⟩ hb => ⟨b, h1, h2, (hb.block b (heap_lt h3)).trans h3⟩⟩
theorem grown_cell {w w' : World} {r : Nat} (h : w.grownBy w' (some r)) {b : Nat} (hb : b < w.heap.size) (hd : b ≠ r) (i : Nat) : w'.cell? ⟨b, i, none⟩ = w.cell? ⟨b, i, none⟩ :=
  World.cell?_of_block (w := w) (a := ⟨b, _, none⟩) (h.block b hb (by simpa using hd))
theorem own_ne {x g r : Nat} (hA : (some ⟨x, 0, none⟩ : Option Addr) = some ⟨g, 0, none⟩) (h : x ≠ r) : some g ≠ some r := by
  have hx : x = g := by simpa using hA
  subst hx
  simpa using h
set_option maxRecDepth 20000 in
set_option maxHeartbeats 16000000 in
theorem exactSendIn_walk (x0 x1 z0 z1 z2 z3 z4 : Int) {w : World} {A : Option Addr} {n c : Nat} {c0 c1 c2 c3 c4 : Nat → Int} (h : Rws w w.heap.size 5 A n c (flowR c0 c1 c2 c3 c4)) :
    Calls Try.prog 5 #[.agg #[.int .i64 x0, .int .i64 x1, .slice A n c], .agg #[.int .i64 z0, .int .i64 z1, .int .i64 z2, .int .i64 z3, .int .i64 z4]] w (Truly w) := by
  have hnc := h.1.1
  have hcm := h.1.2
  have HH := Lib.hid h
  clear h
  by_cases hn : (n : Int) ≤ 1048576
  rotate_left
  · have hsz : szI n 1048576 = -1 := if_neg hn
    go_enter Try.func5, Try.ntmps5
    go_wp2_with fail
    refine (szOutlet_any x0 x1 1048576 hnc hcm (by omega) (by omega) _).mono ?_
    rintro e w1 ⟨rfl, hb1⟩
    have hB1 := Below.tr (show Below w.heap.size w _ by (repeat (first | exact Below.refl _ _ | assumption | refine Below.al ?_ _ | refine Below.dr ?_ | (refine Below.st ?_ (by simp <;> omega) _) | (refine Below.tr ?_ (by assumption))))) hb1
    go_wp2_with fail
    go_ret
    exact ⟨rfl, hB1⟩
  have hsz : szI n 1048576 = 1048576 - n := if_pos hn
  obtain ⟨y0, y1, y2, y3, y4, b, hy⟩ := siV_ex x0 x1 n c0 c1 c2 c3 c4 z0 z1 z2 z3 z4
  have HI := Lib.hid (fun (w : World) (B : Nat) (A : Option Addr) (c : Nat) (h : Rws w B 5 A n c (flowR c0 c1 c2 c3 c4)) (hB : B ≤ w.heap.size) => (implSendIn_any x0 x1 z0 z1 z2 z3 z4 h hB).mono (fun _ _ h => hy _ _ _ h))
  have HS := Lib.hid (fun (w : World) (B : Nat) (A : Option Addr) (c : Nat) (h : Rws w B 5 A n c (flowR c0 c1 c2 c3 c4)) (hB : B ≤ w.heap.size) => (specSendIn_any x0 x1 z0 z1 z2 z3 z4 h hB).mono (fun _ _ h => hy _ _ _ h))
  clear hy
  go_enter Try.func5, Try.ntmps5
  go_wp2_with fail
  refine (szOutlet_any x0 x1 1048576 hnc hcm (by omega) (by omega) _).mono ?_
  rintro e w1 ⟨rfl, hb1⟩
  have hB1 := Below.tr (show Below w.heap.size w _ by (repeat (first | exact Below.refl _ _ | assumption | refine Below.al ?_ _ | refine Below.dr ?_ | (refine Below.st ?_ (by simp <;> omega) _) | (refine Below.tr ?_ (by assumption))))) hb1
  have kA_1 := keepc hb1 w.heap.size (by simp <;> omega)
  have kF_1 := keepc hb1 (w.heap.size + 1) (by simp)
  have zA_1 : w.heap.size + 1 < w1.heap.size := (by have := hb1.size; simp at this; omega)
  have zB_1 : w.heap.size < w1.heap.size := by omega
  have kA_1 : ∀ i, w1.cell? ⟨w.heap.size, i, none⟩ = #[Value.int .i64 x0, .int .i64 x1, .slice A n c][i]? := fun i => (kA_1 i).trans (by simp)
  have kF_1 : ∀ i, w1.cell? ⟨w.heap.size + 1, i, none⟩ = #[Value.int .i64 z0, .int .i64 z1, .int .i64 z2, .int .i64 z3, .int .i64 z4][i]? := fun i => (kF_1 i).trans (by have := (blk (heap_new1 w (.cells #[.int .i64 x0, .int .i64 x1, .slice A n c] 24) (.cells #[.int .i64 z0, .int .i64 z1, .int .i64 z2, .int .i64 z3, .int .i64 z4] 38))).1 i; simp)
  go_upto_region 5 with (fail)
  go_cut [6, 7] (fun va vb wx => ∃ (q : Nat) (W : World), W = wx ∧ va = .pointer (some ⟨q, 0, none⟩) ∧ vb = .bool b ∧ w1.heap.size ≤ q ∧ W.heap[q]? = some (.cells #[.int .i64 y0, .int .i64 y1, .int .i64 y2, .int .i64 y3, .int .i64 y4] 39 (0, 0)) ∧ Below w1.heap.size w1 W)
  case first =>
    refine wp_region_late (ds := [(0, 17), (1, 18), (2, 19), (3, 20), (4, 21), (5, 16), (6, 22), (7, 23), (8, 6)]) (ds2 := [(0, 17), (1, 18), (2, 19), (3, 20), (4, 21), (5, 16), (6, 22), (8, 6)]) 9 7 (by kernel_rfl) (by kernel_rfl) (by rfl) rfl rfl rfl rfl ?_
    apply free_is
    · intro a' w' hLe hfr hdep
      have e2 := hfr 2 rfl
      conv at e2 => rhs; whnf
      have f2 := e2; simp only [Array.getD_eq_getD_getElem?] at f2
      have kc := fun i => keepc hLe (w.heap.size) (by (try simp) <;> omega) i
      have kf := fun i => keepf hLe (w.heap.size) (by (try simp) <;> omega) i
      have kz : w.heap.size < w'.heap.size := (by have := hLe.size; (try simp at this); omega)
      have kc := fun i => keepc hLe (w.heap.size + 1) (by (try simp) <;> omega) i
      have kf := fun i => keepf hLe (w.heap.size + 1) (by (try simp) <;> omega) i
      have kz : w.heap.size + 1 < w'.heap.size := (by have := hLe.size; (try simp at this); omega)
      refine wpOp_plain rfl rfl (fun K hK => ?_)
      go_simp
      exact hK _ _ ⟨_, rfl, Below.refl _ _, rfl⟩
    refine free_cons (kbOutlet w.heap.size x0 x1 n (flowR c0 c1 c2 c3 c4)) ?_ ?_
    · intro a' w' hLe hfr hdep
      have e17 : a'.tmps.getD 17 undef = _ := hdep 0 17 (Nat.le_of_ble_eq_true rfl) rfl rfl
      conv at e17 => rhs; whnf
      have f17 := e17; simp only [Array.getD_eq_getD_getElem?] at f17
      have kc := fun i => keepc hLe (w.heap.size) (by (try simp) <;> omega) i
      have kf := fun i => keepf hLe (w.heap.size) (by (try simp) <;> omega) i
      have kz : w.heap.size < w'.heap.size := (by have := hLe.size; (try simp at this); omega)
      have kc := fun i => keepc hLe (w.heap.size + 1) (by (try simp) <;> omega) i
      have kf := fun i => keepf hLe (w.heap.size + 1) (by (try simp) <;> omega) i
      have kz : w.heap.size + 1 < w'.heap.size := (by have := hLe.size; (try simp at this); omega)
      refine wpOp_plain rfl rfl (fun K hK => ?_)
      go_simp
      refine (toOutlet_any x0 x1 (HH.out.below (Below.tr hB1 hLe)) (by have := (Below.tr hB1 hLe).size; omega) (by omega)).mono ?_
      rintro e w2 ⟨g, rfl, hg1, hN1, hb⟩
      exact hK _ _ ⟨_, rfl, hb, ⟨g, rfl, by have := (Below.tr hB1 hLe).size; omega, hN1⟩⟩
    apply free_is
    · intro a' w' hLe hfr hdep
      have e3 := hfr 3 rfl
      conv at e3 => rhs; whnf
      have f3 := e3; simp only [Array.getD_eq_getD_getElem?] at f3
      have kc := fun i => keepc hLe (w.heap.size) (by (try simp) <;> omega) i
      have kf := fun i => keepf hLe (w.heap.size) (by (try simp) <;> omega) i
      have kz : w.heap.size < w'.heap.size := (by have := hLe.size; (try simp at this); omega)
      have kc := fun i => keepc hLe (w.heap.size + 1) (by (try simp) <;> omega) i
      have kf := fun i => keepf hLe (w.heap.size + 1) (by (try simp) <;> omega) i
      have kz : w.heap.size + 1 < w'.heap.size := (by have := hLe.size; (try simp at this); omega)
      refine wpOp_plain rfl rfl (fun K hK => ?_)
      go_simp
      exact hK _ _ ⟨_, rfl, Below.refl _ _, rfl⟩
    apply free_is
    · intro a' w' hLe hfr hdep
      have e19 : a'.tmps.getD 19 undef = _ := hdep 2 19 (Nat.le_of_ble_eq_true rfl) rfl rfl
      conv at e19 => rhs; whnf
      have f19 := e19; simp only [Array.getD_eq_getD_getElem?] at f19
      have kc := fun i => keepc hLe (w.heap.size) (by (try simp) <;> omega) i
      have kf := fun i => keepf hLe (w.heap.size) (by (try simp) <;> omega) i
      have kz : w.heap.size < w'.heap.size := (by have := hLe.size; (try simp at this); omega)
      have kc := fun i => keepc hLe (w.heap.size + 1) (by (try simp) <;> omega) i
      have kf := fun i => keepf hLe (w.heap.size + 1) (by (try simp) <;> omega) i
      have kz : w.heap.size + 1 < w'.heap.size := (by have := hLe.size; (try simp at this); omega)
      refine wpOp_plain rfl rfl (fun K hK => ?_)
      go_simp
      refine (toFlow_any _ _ _ _ _ _).mono ?_
      rintro e w2 ⟨rfl, hb⟩
      exact hK _ _ ⟨_, rfl, hb, rfl⟩
    apply free_is
    · intro a' w' hLe hfr hdep
      obtain ⟨g18, e18, hg18, hN18⟩ := hdep 1 18 (Nat.le_of_ble_eq_true rfl) rfl rfl
      have f18 := e18; simp only [Array.getD_eq_getD_getElem?] at f18
      have e20 : a'.tmps.getD 20 undef = _ := hdep 3 20 (Nat.le_of_ble_eq_true rfl) rfl rfl
      conv at e20 => rhs; whnf
      have f20 := e20; simp only [Array.getD_eq_getD_getElem?] at f20
      have kc := fun i => keepc hLe (w.heap.size) (by (try simp) <;> omega) i
      have kf := fun i => keepf hLe (w.heap.size) (by (try simp) <;> omega) i
      have kz : w.heap.size < w'.heap.size := (by have := hLe.size; (try simp at this); omega)
      have kc := fun i => keepc hLe (w.heap.size + 1) (by (try simp) <;> omega) i
      have kf := fun i => keepf hLe (w.heap.size + 1) (by (try simp) <;> omega) i
      have kz : w.heap.size + 1 < w'.heap.size := (by have := hLe.size; (try simp at this); omega)
      refine wpOp_plain rfl rfl (fun K hK => ?_)
      go_simp
      refine (HS.out _ _ _ _ (hN18.rows (by unfold maxLen; omega) hN18.lt) (Nat.le_refl _)).mono ?_
      rintro e w2 ⟨rfl, hb⟩
      exact hK _ _ ⟨_, rfl, hb, rfl⟩
    apply free_is
    · intro a' w' hLe hfr hdep
      have e21 : a'.tmps.getD 21 undef = _ := hdep 4 21 (Nat.le_of_ble_eq_true rfl) rfl rfl
      conv at e21 => rhs; whnf
      have f21 := e21; simp only [Array.getD_eq_getD_getElem?] at f21
      refine wpOp_plain rfl rfl (fun K hK => ?_)
      go_simp
      exact hK _ _ ⟨_, rfl, Below.refl _ _, rfl⟩
    apply free_is
    · intro a' w' hLe hfr hdep
      have e16 : a'.tmps.getD 16 undef = _ := hdep 5 16 (Nat.le_of_ble_eq_true rfl) rfl rfl
      conv at e16 => rhs; whnf
      have f16 := e16; simp only [Array.getD_eq_getD_getElem?] at f16
      refine wpOp_plain rfl rfl (fun K hK => ?_)
      go_simp
      exact hK _ _ ⟨_, rfl, Below.refl _ _, rfl⟩
    apply free_is
    · intro a' w' hLe hfr hdep
      have e16 : a'.tmps.getD 16 undef = _ := hdep 5 16 (Nat.le_of_ble_eq_true rfl) rfl rfl
      conv at e16 => rhs; whnf
      have f16 := e16; simp only [Array.getD_eq_getD_getElem?] at f16
      refine wpOp_plain rfl rfl (fun K hK => ?_)
      go_simp
      exact hK _ _ ⟨_, rfl, Below.refl _ _, rfl⟩
    refine free_cons (kbCell w1.heap.size (.cells #[.int .i64 0, .int .i64 0, .int .i64 0, .int .i64 0, .int .i64 0] 39)) ?_ ?_
    · intro a' w' hLe hfr hdep
      refine wpOp_plain rfl rfl (fun K hK => ?_)
      go_simp
      exact hK _ _ ⟨_, rfl, (Below.refl _ _).alloc (Nat.le_refl _) _, ⟨_, rfl, by have := hLe.size; omega, heap_alloc_new _ _⟩⟩
    apply free_nil
    refine ⟨?_, ?_⟩
    · intro vs w99 hb99 hT99
      have e17 : vs 0 = _ := hT99 0 17 rfl
      conv at e17 => rhs; whnf
      obtain ⟨g18, e18, hg18, hN18⟩ := hT99 1 18 rfl
      have e19 : vs 2 = _ := hT99 2 19 rfl
      conv at e19 => rhs; whnf
      have e20 : vs 3 = _ := hT99 3 20 rfl
      conv at e20 => rhs; whnf
      have e21 : vs 4 = _ := hT99 4 21 rfl
      conv at e21 => rhs; whnf
      have e16 : vs 5 = _ := hT99 5 16 rfl
      conv at e16 => rhs; whnf
      have e22 : vs 6 = _ := hT99 6 22 rfl
      conv at e22 => rhs; whnf
      have e23 : vs 7 = _ := hT99 7 23 rfl
      conv at e23 => rhs; whnf
      obtain ⟨b6, e6, hb6, hz6⟩ := hT99 8 6 rfl
      simp only [putAll, List.drop_succ_cons, List.drop_zero, e17, e18, e19, e20, e21, e16, e22, e23, e6]
      clear hT99 e17 e18 e19 e20 e21 e16 e22 e23 e6
      go_simp
      (go_wp2_with (refine wpList_store_var rfl 39 (.tmp 6) (.tmp 22) rfl #[.int .i64 y0, .int .i64 y1, .int .i64 y2, .int .i64 y3, .int .i64 y4] hz6 rfl rfl (by kernel_rfl) rfl rfl ?_; intro w98 hh98 hg98 hs98); go_meet; exact ⟨b6, _, rfl, rfl, rfl, hb6, hh98, Below.of_grown hb99 hg98 hb6⟩)
    · intro vs w99 hb99 hT99
      have e17 : vs 0 = _ := hT99 0 17 rfl
      conv at e17 => rhs; whnf
      obtain ⟨g18, e18, hg18, hN18⟩ := hT99 1 18 rfl
      have e19 : vs 2 = _ := hT99 2 19 rfl
      conv at e19 => rhs; whnf
      have e20 : vs 3 = _ := hT99 3 20 rfl
      conv at e20 => rhs; whnf
      have e21 : vs 4 = _ := hT99 4 21 rfl
      conv at e21 => rhs; whnf
      have e16 : vs 5 = _ := hT99 5 16 rfl
      conv at e16 => rhs; whnf
      have e22 : vs 6 = _ := hT99 6 22 rfl
      conv at e22 => rhs; whnf
      obtain ⟨b6, e6, hb6, hz6⟩ := hT99 8 6 rfl
      simp only [putAll, List.drop_succ_cons, List.drop_zero, e17, e18, e19, e20, e21, e16, e22, e6]
      clear hT99 e17 e18 e19 e20 e21 e16 e22 e6
      go_simp
      (go_wp2_with (refine wpList_store_var rfl 39 (.tmp 6) (.tmp 22) rfl #[.int .i64 y0, .int .i64 y1, .int .i64 y2, .int .i64 y3, .int .i64 y4] hz6 rfl rfl (by kernel_rfl) rfl rfl ?_; intro w98 hh98 hg98 hs98); go_meet; exact ⟨b6, _, rfl, rfl, rfl, hb6, hh98, Below.of_grown hb99 hg98 hb6⟩)
  case rest =>
  obtain ⟨b6, w2, rfl, rfl, rfl, hc6, hW6, hb2⟩ := hcut
  have hs2 := hb2.size
  have hB2 := Below.tr hB1 hb2
  have kA_2 := fun i => (keepc hb2 (w.heap.size) (by omega) i).trans (kA_1 i)
  have kF_2 := fun i => (keepc hb2 (w.heap.size + 1) (by omega) i).trans (kF_1 i)
  have hz2 := heap_lt hW6
  have kW_2 := (blk hW6).1
  clear hb2 hW6 kA_1 kF_1
  go_wp2_with fail
  refine (toOutlet_any x0 x1 (HH.out.below hB2) hB2.size (by omega)).mono ?_
  rintro e w3 ⟨gx, rfl, hgx, hNx, hb3⟩
  have hs3 := hb3.size
  have hB3 := Below.tr hB2 hb3
  have kA_3 := fun i => (keepc hb3 (w.heap.size) (by omega) i).trans (kA_2 i)
  have kF_3 := fun i => (keepc hb3 (w.heap.size + 1) (by omega) i).trans (kF_2 i)
  have kW_3 := fun i => (keepc hb3 (b6) (by omega) i).trans (kW_2 i)
  clear hb3 kA_2 kF_2 kW_2
  have ox_3 : Own w3 w2.heap.size 39 5 (some ⟨gx, 0, none⟩) n n (flowR c0 c1 c2 c3 c4) := Own.of_new hNx (by unfold maxLen; omega) hgx
  have lxx := hNx.lt
  clear hNx hgx
  have jA := fun i => (keepc (below_new' w3 (.cells #[.int .i64 x0, .int .i64 x1, .slice (some ⟨gx, 0, none⟩) n n] 29)) (w.heap.size) (by omega) i).trans (kA_3 i)
  have jF := fun i => (keepc (below_new' w3 (.cells #[.int .i64 x0, .int .i64 x1, .slice (some ⟨gx, 0, none⟩) n n] 29)) (w.heap.size + 1) (by omega) i).trans (kF_3 i)
  have jW := fun i => (keepc (below_new' w3 (.cells #[.int .i64 x0, .int .i64 x1, .slice (some ⟨gx, 0, none⟩) n n] 29)) (b6) (by omega) i).trans (kW_3 i)
  have jX : ∀ i, (w3.alloc (.cells #[.int .i64 x0, .int .i64 x1, .slice (some ⟨gx, 0, none⟩) n n] 29)).cell? ⟨w3.heap.size, i, none⟩ = #[Value.int .i64 x0, .int .i64 x1, .slice (some ⟨gx, 0, none⟩) n n][i]? := (blk (heap_alloc_new w3 (.cells #[.int .i64 x0, .int .i64 x1, .slice (some ⟨gx, 0, none⟩) n n] 29))).1
  go_upto_region 7 with (fail)
  clear jA jF jW jX
  obtain ⟨w4, e4⟩ : ∃ W : World, W = w3.alloc (.cells #[.int .i64 x0, .int .i64 x1, .slice (some ⟨gx, 0, none⟩) n n] 29) := ⟨_, rfl⟩
  have hb4 : Below w3.heap.size w3 w4 := by rw [e4]; exact below_new' _ _
  have zs4 : w3.heap.size < w4.heap.size := by rw [e4]; simp
  rw [← e4]
  have hs4 := hb4.size
  have hB4 := Below.tr hB3 hb4
  have kA_4 := fun i => (keepc hb4 (w.heap.size) (by omega) i).trans (kA_3 i)
  have kF_4 := fun i => (keepc hb4 (w.heap.size + 1) (by omega) i).trans (kF_3 i)
  have kW_4 := fun i => (keepc hb4 (b6) (by omega) i).trans (kW_3 i)
  have ox_4 := ox_3.next hb4
  clear hb4 kA_3 kF_3 kW_3 ox_3
  have kX_4 : ∀ i, w4.cell? ⟨w3.heap.size, i, none⟩ = #[Value.int .i64 x0, .int .i64 x1, .slice (some ⟨gx, 0, none⟩) n n][i]? := fun i => by rw [e4]; exact (blk (heap_alloc_new w3 _)).1 i
  clear e4
  go_cut [9, 10] (fun va vb wx => ∃ (q : Nat) (W : World), W = wx ∧ va = .pointer (some ⟨q, 0, none⟩) ∧ vb = .bool b ∧ w4.heap.size ≤ q ∧ W.heap[q]? = some (.cells #[.int .i64 y0, .int .i64 y1, .int .i64 y2, .int .i64 y3, .int .i64 y4] 39 (0, 0)) ∧ Below w4.heap.size w4 W)
  case first =>
    refine wp_region_late (ds := [(0, 27), (1, 28), (2, 29), (3, 30), (4, 26), (5, 31), (6, 32), (7, 9)]) (ds2 := [(0, 27), (1, 28), (2, 29), (3, 30), (4, 26), (5, 31), (7, 9)]) 8 6 (by kernel_rfl) (by kernel_rfl) (by rfl) rfl rfl rfl rfl ?_
    apply free_is
    · intro a' w' hLe hfr hdep
      have e8 := hfr 8 rfl
      conv at e8 => rhs; whnf
      have f8 := e8; simp only [Array.getD_eq_getD_getElem?] at f8
      have kc := fun i => keepc hLe (w.heap.size) (by (try simp) <;> omega) i
      have kf := fun i => keepf hLe (w.heap.size) (by (try simp) <;> omega) i
      have kz : w.heap.size < w'.heap.size := (by have := hLe.size; (try simp at this); omega)
      have kc := fun i => keepc hLe (w.heap.size + 1) (by (try simp) <;> omega) i
      have kf := fun i => keepf hLe (w.heap.size + 1) (by (try simp) <;> omega) i
      have kz : w.heap.size + 1 < w'.heap.size := (by have := hLe.size; (try simp at this); omega)
      have kc := fun i => keepc hLe (b6) (by (try simp) <;> omega) i
      have kf := fun i => keepf hLe (b6) (by (try simp) <;> omega) i
      have kz : b6 < w'.heap.size := (by have := hLe.size; (try simp at this); omega)
      have kc := fun i => keepc hLe (w3.heap.size) (by (try simp) <;> omega) i
      have kf := fun i => keepf hLe (w3.heap.size) (by (try simp) <;> omega) i
      have kz : w3.heap.size < w'.heap.size := (by have := hLe.size; (try simp at this); omega)
      refine wpOp_plain rfl rfl (fun K hK => ?_)
      go_simp
      exact hK _ _ ⟨_, rfl, Below.refl _ _, rfl⟩
    apply free_is
    · intro a' w' hLe hfr hdep
      have e3 := hfr 3 rfl
      conv at e3 => rhs; whnf
      have f3 := e3; simp only [Array.getD_eq_getD_getElem?] at f3
      have kc := fun i => keepc hLe (w.heap.size) (by (try simp) <;> omega) i
      have kf := fun i => keepf hLe (w.heap.size) (by (try simp) <;> omega) i
      have kz : w.heap.size < w'.heap.size := (by have := hLe.size; (try simp at this); omega)
      have kc := fun i => keepc hLe (w.heap.size + 1) (by (try simp) <;> omega) i
      have kf := fun i => keepf hLe (w.heap.size + 1) (by (try simp) <;> omega) i
      have kz : w.heap.size + 1 < w'.heap.size := (by have := hLe.size; (try simp at this); omega)
      have kc := fun i => keepc hLe (b6) (by (try simp) <;> omega) i
      have kf := fun i => keepf hLe (b6) (by (try simp) <;> omega) i
      have kz : b6 < w'.heap.size := (by have := hLe.size; (try simp at this); omega)
      have kc := fun i => keepc hLe (w3.heap.size) (by (try simp) <;> omega) i
      have kf := fun i => keepf hLe (w3.heap.size) (by (try simp) <;> omega) i
      have kz : w3.heap.size < w'.heap.size := (by have := hLe.size; (try simp at this); omega)
      refine wpOp_plain rfl rfl (fun K hK => ?_)
      go_simp
      exact hK _ _ ⟨_, rfl, Below.refl _ _, rfl⟩
    apply free_is
    · intro a' w' hLe hfr hdep
      have e28 : a'.tmps.getD 28 undef = _ := hdep 1 28 (Nat.le_of_ble_eq_true rfl) rfl rfl
      conv at e28 => rhs; whnf
      have f28 := e28; simp only [Array.getD_eq_getD_getElem?] at f28
      have kc := fun i => keepc hLe (w.heap.size) (by (try simp) <;> omega) i
      have kf := fun i => keepf hLe (w.heap.size) (by (try simp) <;> omega) i
      have kz : w.heap.size < w'.heap.size := (by have := hLe.size; (try simp at this); omega)
      have kc := fun i => keepc hLe (w.heap.size + 1) (by (try simp) <;> omega) i
      have kf := fun i => keepf hLe (w.heap.size + 1) (by (try simp) <;> omega) i
      have kz : w.heap.size + 1 < w'.heap.size := (by have := hLe.size; (try simp at this); omega)
      have kc := fun i => keepc hLe (b6) (by (try simp) <;> omega) i
      have kf := fun i => keepf hLe (b6) (by (try simp) <;> omega) i
      have kz : b6 < w'.heap.size := (by have := hLe.size; (try simp at this); omega)
      have kc := fun i => keepc hLe (w3.heap.size) (by (try simp) <;> omega) i
      have kf := fun i => keepf hLe (w3.heap.size) (by (try simp) <;> omega) i
      have kz : w3.heap.size < w'.heap.size := (by have := hLe.size; (try simp at this); omega)
      refine wpOp_plain rfl rfl (fun K hK => ?_)
      go_simp
      refine (toFlow_any _ _ _ _ _ _).mono ?_
      rintro e w2 ⟨rfl, hb⟩
      exact hK _ _ ⟨_, rfl, hb, rfl⟩
    apply free_is
    · intro a' w' hLe hfr hdep
      have e27 : a'.tmps.getD 27 undef = _ := hdep 0 27 (Nat.le_of_ble_eq_true rfl) rfl rfl
      conv at e27 => rhs; whnf
      have f27 := e27; simp only [Array.getD_eq_getD_getElem?] at f27
      have e29 : a'.tmps.getD 29 undef = _ := hdep 2 29 (Nat.le_of_ble_eq_true rfl) rfl rfl
      conv at e29 => rhs; whnf
      have f29 := e29; simp only [Array.getD_eq_getD_getElem?] at f29
      have kc := fun i => keepc hLe (w.heap.size) (by (try simp) <;> omega) i
      have kf := fun i => keepf hLe (w.heap.size) (by (try simp) <;> omega) i
      have kz : w.heap.size < w'.heap.size := (by have := hLe.size; (try simp at this); omega)
      have kc := fun i => keepc hLe (w.heap.size + 1) (by (try simp) <;> omega) i
      have kf := fun i => keepf hLe (w.heap.size + 1) (by (try simp) <;> omega) i
      have kz : w.heap.size + 1 < w'.heap.size := (by have := hLe.size; (try simp at this); omega)
      have kc := fun i => keepc hLe (b6) (by (try simp) <;> omega) i
      have kf := fun i => keepf hLe (b6) (by (try simp) <;> omega) i
      have kz : b6 < w'.heap.size := (by have := hLe.size; (try simp at this); omega)
      have kc := fun i => keepc hLe (w3.heap.size) (by (try simp) <;> omega) i
      have kf := fun i => keepf hLe (w3.heap.size) (by (try simp) <;> omega) i
      have kz : w3.heap.size < w'.heap.size := (by have := hLe.size; (try simp at this); omega)
      refine wpOp_plain rfl rfl (fun K hK => ?_)
      go_simp
      refine (HI.out _ _ _ _ (ox_4.rows.next hLe) (Nat.le_refl _)).mono ?_
      rintro e w2 ⟨rfl, hb⟩
      exact hK _ _ ⟨_, rfl, hb, rfl⟩
    apply free_is
    · intro a' w' hLe hfr hdep
      have e30 : a'.tmps.getD 30 undef = _ := hdep 3 30 (Nat.le_of_ble_eq_true rfl) rfl rfl
      conv at e30 => rhs; whnf
      have f30 := e30; simp only [Array.getD_eq_getD_getElem?] at f30
      refine wpOp_plain rfl rfl (fun K hK => ?_)
      go_simp
      exact hK _ _ ⟨_, rfl, Below.refl _ _, rfl⟩
    apply free_is
    · intro a' w' hLe hfr hdep
      have e26 : a'.tmps.getD 26 undef = _ := hdep 4 26 (Nat.le_of_ble_eq_true rfl) rfl rfl
      conv at e26 => rhs; whnf
      have f26 := e26; simp only [Array.getD_eq_getD_getElem?] at f26
      refine wpOp_plain rfl rfl (fun K hK => ?_)
      go_simp
      exact hK _ _ ⟨_, rfl, Below.refl _ _, rfl⟩
    apply free_is
    · intro a' w' hLe hfr hdep
      have e26 : a'.tmps.getD 26 undef = _ := hdep 4 26 (Nat.le_of_ble_eq_true rfl) rfl rfl
      conv at e26 => rhs; whnf
      have f26 := e26; simp only [Array.getD_eq_getD_getElem?] at f26
      refine wpOp_plain rfl rfl (fun K hK => ?_)
      go_simp
      exact hK _ _ ⟨_, rfl, Below.refl _ _, rfl⟩
    refine free_cons (kbCell w4.heap.size (.cells #[.int .i64 0, .int .i64 0, .int .i64 0, .int .i64 0, .int .i64 0] 39)) ?_ ?_
    · intro a' w' hLe hfr hdep
      refine wpOp_plain rfl rfl (fun K hK => ?_)
      go_simp
      exact hK _ _ ⟨_, rfl, (Below.refl _ _).alloc (Nat.le_refl _) _, ⟨_, rfl, by have := hLe.size; omega, heap_alloc_new _ _⟩⟩
    apply free_nil
    refine ⟨?_, ?_⟩
    · intro vs w99 hb99 hT99
      have e27 : vs 0 = _ := hT99 0 27 rfl
      conv at e27 => rhs; whnf
      have e28 : vs 1 = _ := hT99 1 28 rfl
      conv at e28 => rhs; whnf
      have e29 : vs 2 = _ := hT99 2 29 rfl
      conv at e29 => rhs; whnf
      have e30 : vs 3 = _ := hT99 3 30 rfl
      conv at e30 => rhs; whnf
      have e26 : vs 4 = _ := hT99 4 26 rfl
      conv at e26 => rhs; whnf
      have e31 : vs 5 = _ := hT99 5 31 rfl
      conv at e31 => rhs; whnf
      have e32 : vs 6 = _ := hT99 6 32 rfl
      conv at e32 => rhs; whnf
      obtain ⟨b9, e9, hb9, hz9⟩ := hT99 7 9 rfl
      simp only [putAll, List.drop_succ_cons, List.drop_zero, e27, e28, e29, e30, e26, e31, e32, e9]
      clear hT99 e27 e28 e29 e30 e26 e31 e32 e9
      go_simp
      (go_wp2_with (refine wpList_store_var rfl 39 (.tmp 9) (.tmp 31) rfl #[.int .i64 y0, .int .i64 y1, .int .i64 y2, .int .i64 y3, .int .i64 y4] hz9 rfl rfl (by kernel_rfl) rfl rfl ?_; intro w98 hh98 hg98 hs98); go_meet; exact ⟨b9, _, rfl, rfl, rfl, hb9, hh98, Below.of_grown hb99 hg98 hb9⟩)
    · intro vs w99 hb99 hT99
      have e27 : vs 0 = _ := hT99 0 27 rfl
      conv at e27 => rhs; whnf
      have e28 : vs 1 = _ := hT99 1 28 rfl
      conv at e28 => rhs; whnf
      have e29 : vs 2 = _ := hT99 2 29 rfl
      conv at e29 => rhs; whnf
      have e30 : vs 3 = _ := hT99 3 30 rfl
      conv at e30 => rhs; whnf
      have e26 : vs 4 = _ := hT99 4 26 rfl
      conv at e26 => rhs; whnf
      have e31 : vs 5 = _ := hT99 5 31 rfl
      conv at e31 => rhs; whnf
      obtain ⟨b9, e9, hb9, hz9⟩ := hT99 7 9 rfl
      simp only [putAll, List.drop_succ_cons, List.drop_zero, e27, e28, e29, e30, e26, e31, e9]
      clear hT99 e27 e28 e29 e30 e26 e31 e9
      go_simp
      (go_wp2_with (refine wpList_store_var rfl 39 (.tmp 9) (.tmp 31) rfl #[.int .i64 y0, .int .i64 y1, .int .i64 y2, .int .i64 y3, .int .i64 y4] hz9 rfl rfl (by kernel_rfl) rfl rfl ?_; intro w98 hh98 hg98 hs98); go_meet; exact ⟨b9, _, rfl, rfl, rfl, hb9, hh98, Below.of_grown hb99 hg98 hb9⟩)
  case rest =>
  obtain ⟨b9, w5, rfl, rfl, rfl, hc9, hW9, hb5⟩ := hcut
  have hs5 := hb5.size
  have hB5 := Below.tr hB4 hb5
  have kA_5 := fun i => (keepc hb5 (w.heap.size) (by omega) i).trans (kA_4 i)
  have kF_5 := fun i => (keepc hb5 (w.heap.size + 1) (by omega) i).trans (kF_4 i)
  have kW_5 := fun i => (keepc hb5 (b6) (by omega) i).trans (kW_4 i)
  have kX_5 := fun i => (keepc hb5 (w3.heap.size) (by omega) i).trans (kX_4 i)
  have ox_5 := ox_4.next hb5
  have hz5 := heap_lt hW9
  have kG_5 := (blk hW9).1
  clear hb5 hW9 kA_4 kF_4 kW_4 kX_4 ox_4
  go_wp2_with fail
  refine (eqFlow_same y0 y1 y2 y3 y4 _).mono ?_
  rintro e w6 ⟨rfl, hb6⟩
  have hs6 := hb6.size
  have hB6 := Below.tr hB5 hb6
  have kA_6 := fun i => (keepc hb6 (w.heap.size) (by omega) i).trans (kA_5 i)
  have kF_6 := fun i => (keepc hb6 (w.heap.size + 1) (by omega) i).trans (kF_5 i)
  have kW_6 := fun i => (keepc hb6 (b6) (by omega) i).trans (kW_5 i)
  have kX_6 := fun i => (keepc hb6 (w3.heap.size) (by omega) i).trans (kX_5 i)
  have kG_6 := fun i => (keepc hb6 (b9) (by omega) i).trans (kG_5 i)
  have ox_6 := ox_5.next hb6
  clear hb6 kA_5 kF_5 kW_5 kX_5 kG_5 ox_5
  go_wp2_with fail
  refine wp_region_free (ds := [(0, 42), (1, 43), (2, 44), (3, 45), (4, 46)]) 5 (by kernel_rfl) (by kernel_rfl) (by first | exact .inl rfl | exact .inr (by kernel_rfl)) (by rfl) rfl rfl ?_
  apply free_is
  · intro a' w' hLe hfr hdep
    have e8 := hfr 8 rfl
    conv at e8 => rhs; whnf
    have f8 := e8; simp only [Array.getD_eq_getD_getElem?] at f8
    have kc := fun i => keepc hLe (w.heap.size) (by (try simp) <;> omega) i
    have kf := fun i => keepf hLe (w.heap.size) (by (try simp) <;> omega) i
    have kz : w.heap.size < w'.heap.size := (by have := hLe.size; (try simp at this); omega)
    have kc := fun i => keepc hLe (w.heap.size + 1) (by (try simp) <;> omega) i
    have kf := fun i => keepf hLe (w.heap.size + 1) (by (try simp) <;> omega) i
    have kz : w.heap.size + 1 < w'.heap.size := (by have := hLe.size; (try simp at this); omega)
    have kc := fun i => keepc hLe (b6) (by (try simp) <;> omega) i
    have kf := fun i => keepf hLe (b6) (by (try simp) <;> omega) i
    have kz : b6 < w'.heap.size := (by have := hLe.size; (try simp at this); omega)
    have kc := fun i => keepc hLe (w3.heap.size) (by (try simp) <;> omega) i
    have kf := fun i => keepf hLe (w3.heap.size) (by (try simp) <;> omega) i
    have kz : w3.heap.size < w'.heap.size := (by have := hLe.size; (try simp at this); omega)
    have kc := fun i => keepc hLe (b9) (by (try simp) <;> omega) i
    have kf := fun i => keepf hLe (b9) (by (try simp) <;> omega) i
    have kz : b9 < w'.heap.size := (by have := hLe.size; (try simp at this); omega)
    refine wpOp_plain rfl rfl (fun K hK => ?_)
    go_simp
    exact hK _ _ ⟨_, rfl, Below.refl _ _, rfl⟩
  apply free_is
  · intro a' w' hLe hfr hdep
    have e2 := hfr 2 rfl
    conv at e2 => rhs; whnf
    have f2 := e2; simp only [Array.getD_eq_getD_getElem?] at f2
    have kc := fun i => keepc hLe (w.heap.size) (by (try simp) <;> omega) i
    have kf := fun i => keepf hLe (w.heap.size) (by (try simp) <;> omega) i
    have kz : w.heap.size < w'.heap.size := (by have := hLe.size; (try simp at this); omega)
    have kc := fun i => keepc hLe (w.heap.size + 1) (by (try simp) <;> omega) i
    have kf := fun i => keepf hLe (w.heap.size + 1) (by (try simp) <;> omega) i
    have kz : w.heap.size + 1 < w'.heap.size := (by have := hLe.size; (try simp at this); omega)
    have kc := fun i => keepc hLe (b6) (by (try simp) <;> omega) i
    have kf := fun i => keepf hLe (b6) (by (try simp) <;> omega) i
    have kz : b6 < w'.heap.size := (by have := hLe.size; (try simp at this); omega)
    have kc := fun i => keepc hLe (w3.heap.size) (by (try simp) <;> omega) i
    have kf := fun i => keepf hLe (w3.heap.size) (by (try simp) <;> omega) i
    have kz : w3.heap.size < w'.heap.size := (by have := hLe.size; (try simp at this); omega)
    have kc := fun i => keepc hLe (b9) (by (try simp) <;> omega) i
    have kf := fun i => keepf hLe (b9) (by (try simp) <;> omega) i
    have kz : b9 < w'.heap.size := (by have := hLe.size; (try simp at this); omega)
    refine wpOp_plain rfl rfl (fun K hK => ?_)
    go_simp
    exact hK _ _ ⟨_, rfl, Below.refl _ _, rfl⟩
  refine free_cons (kbOutlet w.heap.size x0 x1 n (flowR c0 c1 c2 c3 c4)) ?_ ?_
  · intro a' w' hLe hfr hdep
    have e43 : a'.tmps.getD 43 undef = _ := hdep 1 43 (Nat.le_of_ble_eq_true rfl) rfl rfl
    conv at e43 => rhs; whnf
    have f43 := e43; simp only [Array.getD_eq_getD_getElem?] at f43
    have kc := fun i => keepc hLe (w.heap.size) (by (try simp) <;> omega) i
    have kf := fun i => keepf hLe (w.heap.size) (by (try simp) <;> omega) i
    have kz : w.heap.size < w'.heap.size := (by have := hLe.size; (try simp at this); omega)
    have kc := fun i => keepc hLe (w.heap.size + 1) (by (try simp) <;> omega) i
    have kf := fun i => keepf hLe (w.heap.size + 1) (by (try simp) <;> omega) i
    have kz : w.heap.size + 1 < w'.heap.size := (by have := hLe.size; (try simp at this); omega)
    have kc := fun i => keepc hLe (b6) (by (try simp) <;> omega) i
    have kf := fun i => keepf hLe (b6) (by (try simp) <;> omega) i
    have kz : b6 < w'.heap.size := (by have := hLe.size; (try simp at this); omega)
    have kc := fun i => keepc hLe (w3.heap.size) (by (try simp) <;> omega) i
    have kf := fun i => keepf hLe (w3.heap.size) (by (try simp) <;> omega) i
    have kz : w3.heap.size < w'.heap.size := (by have := hLe.size; (try simp at this); omega)
    have kc := fun i => keepc hLe (b9) (by (try simp) <;> omega) i
    have kf := fun i => keepf hLe (b9) (by (try simp) <;> omega) i
    have kz : b9 < w'.heap.size := (by have := hLe.size; (try simp at this); omega)
    refine wpOp_plain rfl rfl (fun K hK => ?_)
    go_simp
    refine (toOutlet_any x0 x1 (HH.out.below (Below.tr hB6 hLe)) (by have := (Below.tr hB6 hLe).size; omega) (by omega)).mono ?_
    rintro e w2 ⟨g, rfl, hg1, hN1, hb⟩
    exact hK _ _ ⟨_, rfl, hb, ⟨g, rfl, by have := (Below.tr hB6 hLe).size; omega, hN1⟩⟩
  apply free_is
  · intro a' w' hLe hfr hdep
    have e42 : a'.tmps.getD 42 undef = _ := hdep 0 42 (Nat.le_of_ble_eq_true rfl) rfl rfl
    conv at e42 => rhs; whnf
    have f42 := e42; simp only [Array.getD_eq_getD_getElem?] at f42
    obtain ⟨g44, e44, hg44, hN44⟩ := hdep 2 44 (Nat.le_of_ble_eq_true rfl) rfl rfl
    have f44 := e44; simp only [Array.getD_eq_getD_getElem?] at f44
    have kc := fun i => keepc hLe (w.heap.size) (by (try simp) <;> omega) i
    have kf := fun i => keepf hLe (w.heap.size) (by (try simp) <;> omega) i
    have kz : w.heap.size < w'.heap.size := (by have := hLe.size; (try simp at this); omega)
    have kc := fun i => keepc hLe (w.heap.size + 1) (by (try simp) <;> omega) i
    have kf := fun i => keepf hLe (w.heap.size + 1) (by (try simp) <;> omega) i
    have kz : w.heap.size + 1 < w'.heap.size := (by have := hLe.size; (try simp at this); omega)
    have kc := fun i => keepc hLe (b6) (by (try simp) <;> omega) i
    have kf := fun i => keepf hLe (b6) (by (try simp) <;> omega) i
    have kz : b6 < w'.heap.size := (by have := hLe.size; (try simp at this); omega)
    have kc := fun i => keepc hLe (w3.heap.size) (by (try simp) <;> omega) i
    have kf := fun i => keepf hLe (w3.heap.size) (by (try simp) <;> omega) i
    have kz : w3.heap.size < w'.heap.size := (by have := hLe.size; (try simp at this); omega)
    have kc := fun i => keepc hLe (b9) (by (try simp) <;> omega) i
    have kf := fun i => keepf hLe (b9) (by (try simp) <;> omega) i
    have kz : b9 < w'.heap.size := (by have := hLe.size; (try simp at this); omega)
    refine wpOp_plain rfl rfl (fun K hK => ?_)
    go_simp
    refine (eqOutlet_same x0 x1 (ox_6.rows.next hLe) (hN44.rows (by unfold maxLen; omega) hN44.lt) (Nat.le_refl _)).mono ?_
    rintro e w2 ⟨rfl, hb⟩
    exact hK _ _ ⟨_, rfl, hb, rfl⟩
  apply free_is
  · intro a' w' hLe hfr hdep
    have e45 : a'.tmps.getD 45 undef = _ := hdep 3 45 (Nat.le_of_ble_eq_true rfl) rfl rfl
    conv at e45 => rhs; whnf
    have f45 := e45; simp only [Array.getD_eq_getD_getElem?] at f45
    refine wpOp_plain rfl rfl (fun K hK => ?_)
    go_simp
    exact hK _ _ ⟨_, rfl, Below.refl _ _, rfl⟩
  apply free_nil
  intro vs w7 hb7 hT7
  have e42 : vs 0 = _ := hT7 0 42 rfl
  conv at e42 => rhs; whnf
  have e43 : vs 1 = _ := hT7 1 43 rfl
  conv at e43 => rhs; whnf
  obtain ⟨g44, e44, hg44, hN44⟩ := hT7 2 44 rfl
  have e45 : vs 3 = _ := hT7 3 45 rfl
  conv at e45 => rhs; whnf
  have e46 : vs 4 = _ := hT7 4 46 rfl
  conv at e46 => rhs; whnf
  simp only [putAll, List.drop_succ_cons, List.drop_zero, e42, e43, e44, e45, e46]
  clear hT7 e42 e43 e44 e45 e46
  go_simp
  have hs7 := hb7.size
  have hB7 := Below.tr hB6 hb7
  have kA_7 := fun i => (keepc hb7 (w.heap.size) (by omega) i).trans (kA_6 i)
  have kF_7 := fun i => (keepc hb7 (w.heap.size + 1) (by omega) i).trans (kF_6 i)
  have kW_7 := fun i => (keepc hb7 (b6) (by omega) i).trans (kW_6 i)
  have kX_7 := fun i => (keepc hb7 (w3.heap.size) (by omega) i).trans (kX_6 i)
  have kG_7 := fun i => (keepc hb7 (b9) (by omega) i).trans (kG_6 i)
  have ox_7 := ox_6.next hb7
  clear hb7 kA_6 kF_6 kW_6 kX_6 kG_6 ox_6
  go_wp2_with fail
  go_ret
  exact ⟨rfl, hB7⟩
end Go.Proofs.Ytahniedcflfdmaa
