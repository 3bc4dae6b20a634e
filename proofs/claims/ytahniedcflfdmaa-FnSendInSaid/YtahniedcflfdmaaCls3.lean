/-
  The law 'a closed flow leaves its slot': its walk.
-/
import Derived.Test.YtahniedcflfdmaaCls2
namespace Go.Proofs.Ytahniedcflfdmaa
open Go Go.RowKit

/-- What CloseOut leaves, with names for its parts. -/
def CloseG (w : World) (z0 z1 : Int) (m : Nat) (g0 g1 g2 g3 g4 : Nat → Int) (e : Ending) (w' : World) : Prop :=
  ∃ A c, e = .returned (.agg #[.int .i64 z0, .int .i64 z1, .slice A m c]) ∧ Rws w' w'.heap.size 5 A m c (flowR g0 g1 g2 g3 g4) ∧ Below w.heap.size w w'
theorem closeG_of {w w' : World} {e : Ending} {x0 x1 : Int} {n : Nat} {f0 f1 f2 f3 f4 : Nat → Int} {y0 y1 y2 y3 y4 : Int} {z0 z1 : Int} {m : Nat} {g0 g1 g2 g3 g4 : Nat → Int} (h : CloseP w x0 x1 n f0 f1 f2 f3 f4 y0 y1 y2 y3 y4 e w')
    (h0 : z0 = if outB x0 x1 n f0 f1 f2 f3 f4 then x0 else 0) (h1 : z1 = if outB x0 x1 n f0 f1 f2 f3 f4 then x1 else 0) (hm : m = if outB x0 x1 n f0 f1 f2 f3 f4 then n else 0)
    (hg : g0 = setC f0 (plF f0 f1 f2 f3 f4 y0 y1 y2 y3 y4 n) 0 ∧ g1 = setC f1 (plF f0 f1 f2 f3 f4 y0 y1 y2 y3 y4 n) 0 ∧ g2 = setC f2 (plF f0 f1 f2 f3 f4 y0 y1 y2 y3 y4 n) 0 ∧ g3 = setC f3 (plF f0 f1 f2 f3 f4 y0 y1 y2 y3 y4 n) 0 ∧ g4 = setC f4 (plF f0 f1 f2 f3 f4 y0 y1 y2 y3 y4 n) 0) : CloseG w z0 z1 m g0 g1 g2 g3 g4 e w' := by
  obtain ⟨A, c, h2, h3, h4⟩ := h
  obtain ⟨rfl, rfl, rfl, rfl, rfl⟩ := hg
  rw [← h0, ← h1, ← hm] at h2
  rw [← hm] at h3
  obtain ⟨A', c', e', hO⟩ := h3.own
  cases e'
  exact ⟨_, _, h2, hO.rows, h4⟩
def zB (y0 y1 y2 y3 y4 : Int) : Bool := decide (y0 = 0) && decide (y1 = 0) && decide (y2 = 0) && decide (y3 = 0) && decide (y4 = 0)
/-- Slot k before and after. -/
theorem close_cases {x0 x1 : Int} {n : Nat} {f0 f1 f2 f3 f4 : Nat → Int} {y0 y1 y2 y3 y4 : Int} (h : outB x0 x1 n f0 f1 f2 f3 f4 = true) {k : Nat} (hk : k < n) :
    (isF f0 f1 f2 f3 f4 y0 y1 y2 y3 y4 k = true ∧ ∀ f : Nat → Int, setC f (plF f0 f1 f2 f3 f4 y0 y1 y2 y3 y4 n) 0 k = 0) ∨
    ((∀ f : Nat → Int, setC f (plF f0 f1 f2 f3 f4 y0 y1 y2 y3 y4 n) 0 k = f k) ∧ (isF f0 f1 f2 f3 f4 y0 y1 y2 y3 y4 k = true → (decide (y0 = 0) && decide (y1 = 0) && decide (y2 = 0) && decide (y3 = 0) && decide (y4 = 0)) = true)) := by
  rcases plF_cases (a := f0) (b := f1) (c := f2) (d := f3) (e := f4) (y0 := y0) (y1 := y1) (y2 := y2) (y3 := y3) (y4 := y4) n with ⟨hp, h2⟩ | ⟨j, hj, hp, h2, h3⟩
  · right
    rw [hp]
    exact ⟨fun f => by simp only [setC]; rw [if_neg (by omega)], fun h4 => by rw [h2 k hk] at h4; cases h4⟩
  · rw [hp]
    by_cases hkj : k = j
    · subst hkj
      exact .inl ⟨h2, fun f => by simp [setC]⟩
    · refine .inr ⟨fun f => by simp only [setC]; rw [if_neg (by omega)], fun h4 => ?_⟩
      by_cases hlt : k < j
      · rw [h3 k hlt] at h4; cases h4
      · have h5 := outB_sloB h hk
        rw [sloB_iff] at h5
        have e1 : f0 k = y0 ∧ f1 k = y1 ∧ f2 k = y2 ∧ f3 k = y3 ∧ f4 k = y4 := by simpa [isF, and_assoc] using h4
        have e2 : f0 j = y0 ∧ f1 j = y1 ∧ f2 j = y2 ∧ f3 j = y3 ∧ f4 j = y4 := by simpa [isF, and_assoc] using h2
        obtain ⟨a0, a1, a2, a3, a4⟩ := e1
        obtain ⟨b0, b1, b2, b3, b4⟩ := e2
        rcases h5 with h5 | ⟨_, h6⟩
        · rw [noB_iff, a0, a1, a2, a3, a4] at h5
          simpa [and_assoc] using h5
        · exfalso
          have h7 := h6 j (by omega)
          simp [sfB, a0, a1, a2, a3, a4, b0, b1, b2, b3, b4] at h7
theorem close_cases2 {x0 x1 : Int} {n : Nat} {f0 f1 f2 f3 f4 g0 g1 g2 g3 g4 : Nat → Int} {y0 y1 y2 y3 y4 : Int} (h : outB x0 x1 n f0 f1 f2 f3 f4 = true)
    (hg : g0 = setC f0 (plF f0 f1 f2 f3 f4 y0 y1 y2 y3 y4 n) 0 ∧ g1 = setC f1 (plF f0 f1 f2 f3 f4 y0 y1 y2 y3 y4 n) 0 ∧ g2 = setC f2 (plF f0 f1 f2 f3 f4 y0 y1 y2 y3 y4 n) 0 ∧ g3 = setC f3 (plF f0 f1 f2 f3 f4 y0 y1 y2 y3 y4 n) 0 ∧ g4 = setC f4 (plF f0 f1 f2 f3 f4 y0 y1 y2 y3 y4 n) 0) {k : Nat} (hk : k < n) :
    (zB y0 y1 y2 y3 y4 = false ∧ (f0 k = y0 ∧ f1 k = y1 ∧ f2 k = y2 ∧ f3 k = y3 ∧ f4 k = y4) ∧ (g0 k = 0 ∧ g1 k = 0 ∧ g2 k = 0 ∧ g3 k = 0 ∧ g4 k = 0)) ∨
    ((g0 k = f0 k ∧ g1 k = f1 k ∧ g2 k = f2 k ∧ g3 k = f3 k ∧ g4 k = f4 k) ∧ (zB y0 y1 y2 y3 y4 = true ∨ (zB y0 y1 y2 y3 y4 = false ∧ isF f0 f1 f2 f3 f4 y0 y1 y2 y3 y4 k = false))) := by
  obtain ⟨rfl, rfl, rfl, rfl, rfl⟩ := hg
  rcases close_cases (y0 := y0) (y1 := y1) (y2 := y2) (y3 := y3) (y4 := y4) h hk with ⟨h1, h2⟩ | ⟨h1, h2⟩
  · have e1 : f0 k = y0 ∧ f1 k = y1 ∧ f2 k = y2 ∧ f3 k = y3 ∧ f4 k = y4 := by simpa [isF, and_assoc] using h1
    cases hz : zB y0 y1 y2 y3 y4 with
    | false => exact .inl ⟨rfl, e1, h2 _, h2 _, h2 _, h2 _, h2 _⟩
    | true =>
      obtain ⟨a0, a1, a2, a3, a4⟩ := e1
      have e2 : y0 = 0 ∧ y1 = 0 ∧ y2 = 0 ∧ y3 = 0 ∧ y4 = 0 := by simpa [zB, and_assoc] using hz
      obtain ⟨b0, b1, b2, b3, b4⟩ := e2
      exact .inr ⟨⟨by rw [h2]; omega, by rw [h2]; omega, by rw [h2]; omega, by rw [h2]; omega, by rw [h2]; omega⟩, .inl rfl⟩
  · refine .inr ⟨⟨h1 _, h1 _, h1 _, h1 _, h1 _⟩, ?_⟩
    cases hz : zB y0 y1 y2 y3 y4 with
    | true => exact .inl rfl
    | false =>
      refine .inr ⟨rfl, ?_⟩
      cases hf : isF f0 f1 f2 f3 f4 y0 y1 y2 y3 y4 k with
      | false => rfl
      | true => exact absurd ((h2 hf : zB y0 y1 y2 y3 y4 = true).symm.trans hz) (by decide)
theorem closeG_valid {x0 x1 : Int} {n : Nat} {f0 f1 f2 f3 f4 : Nat → Int} {y0 y1 y2 y3 y4 : Int} {z0 z1 : Int} {m : Nat} {g0 g1 g2 g3 g4 : Nat → Int} (h : outB x0 x1 n f0 f1 f2 f3 f4 = true)
    (h0 : z0 = if outB x0 x1 n f0 f1 f2 f3 f4 then x0 else 0) (h1 : z1 = if outB x0 x1 n f0 f1 f2 f3 f4 then x1 else 0) (hm : m = if outB x0 x1 n f0 f1 f2 f3 f4 then n else 0)
    (hg : g0 = setC f0 (plF f0 f1 f2 f3 f4 y0 y1 y2 y3 y4 n) 0 ∧ g1 = setC f1 (plF f0 f1 f2 f3 f4 y0 y1 y2 y3 y4 n) 0 ∧ g2 = setC f2 (plF f0 f1 f2 f3 f4 y0 y1 y2 y3 y4 n) 0 ∧ g3 = setC f3 (plF f0 f1 f2 f3 f4 y0 y1 y2 y3 y4 n) 0 ∧ g4 = setC f4 (plF f0 f1 f2 f3 f4 y0 y1 y2 y3 y4 n) 0) : outB z0 z1 m g0 g1 g2 g3 g4 = true := by
  obtain ⟨rfl, rfl, rfl, rfl, rfl⟩ := hg
  rw [h] at h0 h1 hm
  simp only [if_true] at h0 h1 hm
  subst h0 h1 hm
  rcases plF_cases (a := f0) (b := f1) (c := f2) (d := f3) (e := f4) (y0 := y0) (y1 := y1) (y2 := y2) (y3 := y3) (y4 := y4) m with ⟨hp, _⟩ | ⟨k, _, hp, _⟩
  · rw [hp]; simp only [setC_no]; exact h
  · rw [hp]; exact outB_zero h
def kbRws (z0 z1 : Int) (m : Nat) (R : Nat → List Value) : KB := ⟨fun v w => ∃ A c, v = .agg #[.int .i64 z0, .int .i64 z1, .slice A m c] ∧ Rws w w.heap.size 5 A m c R, fun _ _ _ ⟨A, c, h1, h2⟩ hb => ⟨A, c, h1, h2.next hb⟩⟩
set_option maxRecDepth 20000 in
set_option maxHeartbeats 8000000 in
theorem closeOut_walk {w : World} {A : Option Addr} {n c : Nat} (h : Bytes w w.heap.size A n c) :
    Calls Try.prog 6 #[.slice A n c] w (Truly w) := by
  by_cases hn : 1048576 < n
  · go_enter Try.func6, Try.ntmps6
    go_wp2
    go_ret
    exact ⟨rfl, Below.refl _ _⟩
  go_enter Try.func6, Try.ntmps6
  go_wp2_with fail
  refine (drawCloseOut_any h).mono ?_
  rintro e w1 ⟨x0, x1, b, n1, c1, f0, f1, f2, f3, f4, y0, y1, y2, y3, y4, rfl, hn1, hn2, hbb, hR1, hb1⟩
  have H1 := Lib.hid (hR1.next (show Below w1.heap.size w1 ((w1.alloc (.cells #[.int .i64 x0, .int .i64 x1, .slice (some ⟨b, 0, none⟩) n1 c1] 29)).alloc (.cells #[.int .i64 y0, .int .i64 y1, .int .i64 y2, .int .i64 y3, .int .i64 y4] 39)) by (repeat (first | exact Below.refl _ _ | assumption | refine Below.al ?_ _ | refine Below.dr ?_ | (refine Below.st ?_ (by simp <;> omega) _) | (refine Below.tr ?_ (by assumption))))))
  obtain ⟨v, hv⟩ : ∃ v, v = outB x0 x1 n1 f0 f1 f2 f3 f4 := ⟨_, rfl⟩
  obtain ⟨z0, hz0⟩ : ∃ z0, z0 = if outB x0 x1 n1 f0 f1 f2 f3 f4 then x0 else 0 := ⟨_, rfl⟩
  obtain ⟨z1, hz1⟩ : ∃ z1, z1 = if outB x0 x1 n1 f0 f1 f2 f3 f4 then x1 else 0 := ⟨_, rfl⟩
  obtain ⟨m, hm⟩ : ∃ m, m = if outB x0 x1 n1 f0 f1 f2 f3 f4 then n1 else 0 := ⟨_, rfl⟩
  obtain ⟨g0, hg0⟩ : ∃ g, g = setC f0 (plF f0 f1 f2 f3 f4 y0 y1 y2 y3 y4 n1) 0 := ⟨_, rfl⟩
  obtain ⟨g1, hg1⟩ : ∃ g, g = setC f1 (plF f0 f1 f2 f3 f4 y0 y1 y2 y3 y4 n1) 0 := ⟨_, rfl⟩
  obtain ⟨g2, hg2⟩ : ∃ g, g = setC f2 (plF f0 f1 f2 f3 f4 y0 y1 y2 y3 y4 n1) 0 := ⟨_, rfl⟩
  obtain ⟨g3, hg3⟩ : ∃ g, g = setC f3 (plF f0 f1 f2 f3 f4 y0 y1 y2 y3 y4 n1) 0 := ⟨_, rfl⟩
  obtain ⟨g4, hg4⟩ : ∃ g, g = setC f4 (plF f0 f1 f2 f3 f4 y0 y1 y2 y3 y4 n1) 0 := ⟨_, rfl⟩
  replace hz0 := Lib.hid hz0
  replace hz1 := Lib.hid hz1
  replace hm := Lib.hid hm
  replace hv := Lib.hid hv
  have hgg := Lib.hid (And.intro hg0 (And.intro hg1 (And.intro hg2 (And.intro hg3 hg4))))
  clear hR1 h hn hg0 hg1 hg2 hg3 hg4
  go_wp2_with fail
  refine (implCloseOut_any x0 x1 y0 y1 y2 y3 y4 H1.out (Nat.le_refl _) (by omega)).mono ?_
  rintro e w2 hC
  obtain ⟨A2, c2, rfl, hY2, hb2⟩ := closeG_of hC hz0.out hz1.out hm.out hgg.out
  have hB2 : Below w1.heap.size w1 w2 := Below.tr (show Below w1.heap.size w1 ((w1.alloc (.cells #[.int .i64 x0, .int .i64 x1, .slice (some ⟨b, 0, none⟩) n1 c1] 29)).alloc (.cells #[.int .i64 y0, .int .i64 y1, .int .i64 y2, .int .i64 y3, .int .i64 y4] 39)) by (repeat (first | exact Below.refl _ _ | assumption | refine Below.al ?_ _ | refine Below.dr ?_ | (refine Below.st ?_ (by simp <;> omega) _) | (refine Below.tr ?_ (by assumption))))) hb2
  have q2 := (hb2.block w1.heap.size (by simp; omega)).trans ((heap_alloc_old _ _ (by simp)).trans (heap_alloc_new w1 (.cells #[.int .i64 x0, .int .i64 x1, .slice (some ⟨b, 0, none⟩) n1 c1] 29)))
  have r2 := (hb2.block (w1.heap.size + 1) (by simp)).trans (heap_new1 w1 (.cells #[.int .i64 x0, .int .i64 x1, .slice (some ⟨b, 0, none⟩) n1 c1] 29) (.cells #[.int .i64 y0, .int .i64 y1, .int .i64 y2, .int .i64 y3, .int .i64 y4] 39))
  have H2 := Lib.hid (H1.out.next hb2)
  have l2 := heap_lt r2
  have HY := Lib.hid (hY2.next (below_bo w2 (.cells #[.int .i64 z0, .int .i64 z1, .slice A2 m c2] 29)))
  have H3 := Lib.hid (H2.out.next (below_bo w2 (.cells #[.int .i64 z0, .int .i64 z1, .slice A2 m c2] 29)))
  have hB3 := Below.tr hB2 (below_bo w2 (.cells #[.int .i64 z0, .int .i64 z1, .slice A2 m c2] 29))
  obtain ⟨w3, hw3⟩ : ∃ w3, w3 = w2.alloc (.cells #[.int .i64 z0, .int .i64 z1, .slice A2 m c2] 29) := ⟨_, rfl⟩
  have q3 := (heap_alloc_old w2 (.cells #[.int .i64 z0, .int .i64 z1, .slice A2 m c2] 29) (by omega)).trans q2
  have r3 := (heap_alloc_old w2 (.cells #[.int .i64 z0, .int .i64 z1, .slice A2 m c2] 29) l2).trans r2
  have s3 := heap_alloc_new w2 (.cells #[.int .i64 z0, .int .i64 z1, .slice A2 m c2] 29)
  obtain ⟨k2, u2⟩ := blk q2
  obtain ⟨k3, u3⟩ := blk r2
  clear hC hb2 H1 hY2 H2 hB2
  go_upto_region 5 with (fail)
  rw [← hw3] at q3 r3 s3 HY H3 hB3 ⊢
  clear k2 u2 k3 u3 q2 r2 hw3
  obtain ⟨k2, u2⟩ := blk q3
  obtain ⟨k3, u3⟩ := blk r3
  obtain ⟨k4, u4⟩ := blk s3
  have l3 := heap_lt s3
  refine wp_region_free (ds := [(0, 18), (1, 19), (2, 20), (3, 21), (4, 22), (5, 23)]) 6 (by kernel_rfl) (by kernel_rfl) (by first | exact .inl rfl | exact .inr (by kernel_rfl)) (by rfl) rfl rfl ?_
  apply free_is
  · intro a' w' hLe hfr hdep
    have e5 := hfr 5 rfl
    conv at e5 => rhs; whnf
    have f5 := e5; simp only [Array.getD_eq_getD_getElem?] at f5
    have kc := fun i => keepc hLe (w1.heap.size) (by (try simp) <;> omega) i
    have kf := fun i => keepf hLe (w1.heap.size) (by (try simp) <;> omega) i
    have kz : w1.heap.size < w'.heap.size := (by have := hLe.size; (try simp at this); omega)
    have kc := fun i => keepc hLe (w1.heap.size + 1) (by (try simp) <;> omega) i
    have kf := fun i => keepf hLe (w1.heap.size + 1) (by (try simp) <;> omega) i
    have kz : w1.heap.size + 1 < w'.heap.size := (by have := hLe.size; (try simp at this); omega)
    have kc := fun i => keepc hLe (w2.heap.size) (by (try simp) <;> omega) i
    have kf := fun i => keepf hLe (w2.heap.size) (by (try simp) <;> omega) i
    have kz : w2.heap.size < w'.heap.size := (by have := hLe.size; (try simp at this); omega)
    refine wpOp_plain rfl rfl (fun K hK => ?_)
    go_simp
    exact hK _ _ ⟨_, rfl, Below.refl _ _, rfl⟩
  apply free_is
  · intro a' w' hLe hfr hdep
    have e3 := hfr 3 rfl
    conv at e3 => rhs; whnf
    have f3 := e3; simp only [Array.getD_eq_getD_getElem?] at f3
    have kc := fun i => keepc hLe (w1.heap.size) (by (try simp) <;> omega) i
    have kf := fun i => keepf hLe (w1.heap.size) (by (try simp) <;> omega) i
    have kz : w1.heap.size < w'.heap.size := (by have := hLe.size; (try simp at this); omega)
    have kc := fun i => keepc hLe (w1.heap.size + 1) (by (try simp) <;> omega) i
    have kf := fun i => keepf hLe (w1.heap.size + 1) (by (try simp) <;> omega) i
    have kz : w1.heap.size + 1 < w'.heap.size := (by have := hLe.size; (try simp at this); omega)
    have kc := fun i => keepc hLe (w2.heap.size) (by (try simp) <;> omega) i
    have kf := fun i => keepf hLe (w2.heap.size) (by (try simp) <;> omega) i
    have kz : w2.heap.size < w'.heap.size := (by have := hLe.size; (try simp at this); omega)
    refine wpOp_plain rfl rfl (fun K hK => ?_)
    go_simp
    exact hK _ _ ⟨_, rfl, Below.refl _ _, rfl⟩
  apply free_is
  · intro a' w' hLe hfr hdep
    have e4 := hfr 4 rfl
    conv at e4 => rhs; whnf
    have f4 := e4; simp only [Array.getD_eq_getD_getElem?] at f4
    have kc := fun i => keepc hLe (w1.heap.size) (by (try simp) <;> omega) i
    have kf := fun i => keepf hLe (w1.heap.size) (by (try simp) <;> omega) i
    have kz : w1.heap.size < w'.heap.size := (by have := hLe.size; (try simp at this); omega)
    have kc := fun i => keepc hLe (w1.heap.size + 1) (by (try simp) <;> omega) i
    have kf := fun i => keepf hLe (w1.heap.size + 1) (by (try simp) <;> omega) i
    have kz : w1.heap.size + 1 < w'.heap.size := (by have := hLe.size; (try simp at this); omega)
    have kc := fun i => keepc hLe (w2.heap.size) (by (try simp) <;> omega) i
    have kf := fun i => keepf hLe (w2.heap.size) (by (try simp) <;> omega) i
    have kz : w2.heap.size < w'.heap.size := (by have := hLe.size; (try simp at this); omega)
    refine wpOp_plain rfl rfl (fun K hK => ?_)
    go_simp
    exact hK _ _ ⟨_, rfl, Below.refl _ _, rfl⟩
  refine free_cons (kbRws z0 z1 m (flowR g0 g1 g2 g3 g4)) ?_ ?_
  · intro a' w' hLe hfr hdep
    have e19 : a'.tmps.getD 19 undef = _ := hdep 1 19 (Nat.le_of_ble_eq_true rfl) rfl rfl
    conv at e19 => rhs; whnf
    have f19 := e19; simp only [Array.getD_eq_getD_getElem?] at f19
    have e20 : a'.tmps.getD 20 undef = _ := hdep 2 20 (Nat.le_of_ble_eq_true rfl) rfl rfl
    conv at e20 => rhs; whnf
    have f20 := e20; simp only [Array.getD_eq_getD_getElem?] at f20
    have kc := fun i => keepc hLe (w1.heap.size) (by (try simp) <;> omega) i
    have kf := fun i => keepf hLe (w1.heap.size) (by (try simp) <;> omega) i
    have kz : w1.heap.size < w'.heap.size := (by have := hLe.size; (try simp at this); omega)
    have kc := fun i => keepc hLe (w1.heap.size + 1) (by (try simp) <;> omega) i
    have kf := fun i => keepf hLe (w1.heap.size + 1) (by (try simp) <;> omega) i
    have kz : w1.heap.size + 1 < w'.heap.size := (by have := hLe.size; (try simp at this); omega)
    have kc := fun i => keepc hLe (w2.heap.size) (by (try simp) <;> omega) i
    have kf := fun i => keepf hLe (w2.heap.size) (by (try simp) <;> omega) i
    have kz : w2.heap.size < w'.heap.size := (by have := hLe.size; (try simp at this); omega)
    refine wpOp_plain rfl rfl (fun K hK => ?_)
    go_simp
    refine ((specCloseOut_any x0 x1 y0 y1 y2 y3 y4 (H3.out.next hLe) (Nat.le_refl _) (by omega)).mono fun _ _ hC => closeG_of hC hz0.out hz1.out hm.out hgg.out).mono ?_
    rintro e w2 ⟨A4, c4, rfl, hR4, hb⟩
    exact hK _ _ ⟨_, rfl, hb, ⟨A4, c4, rfl, hR4⟩⟩
  apply free_is
  · intro a' w' hLe hfr hdep
    have e18 : a'.tmps.getD 18 undef = _ := hdep 0 18 (Nat.le_of_ble_eq_true rfl) rfl rfl
    conv at e18 => rhs; whnf
    have f18 := e18; simp only [Array.getD_eq_getD_getElem?] at f18
    obtain ⟨A21, c21, e21, hR21⟩ := hdep 3 21 (Nat.le_of_ble_eq_true rfl) rfl rfl
    have f21 := e21; simp only [Array.getD_eq_getD_getElem?] at f21
    have kc := fun i => keepc hLe (w1.heap.size) (by (try simp) <;> omega) i
    have kf := fun i => keepf hLe (w1.heap.size) (by (try simp) <;> omega) i
    have kz : w1.heap.size < w'.heap.size := (by have := hLe.size; (try simp at this); omega)
    have kc := fun i => keepc hLe (w1.heap.size + 1) (by (try simp) <;> omega) i
    have kf := fun i => keepf hLe (w1.heap.size + 1) (by (try simp) <;> omega) i
    have kz : w1.heap.size + 1 < w'.heap.size := (by have := hLe.size; (try simp at this); omega)
    have kc := fun i => keepc hLe (w2.heap.size) (by (try simp) <;> omega) i
    have kf := fun i => keepf hLe (w2.heap.size) (by (try simp) <;> omega) i
    have kz : w2.heap.size < w'.heap.size := (by have := hLe.size; (try simp at this); omega)
    refine wpOp_plain rfl rfl (fun K hK => ?_)
    go_simp
    refine (sameOutlet_same z0 z1 (HY.out.next hLe) hR21 (Nat.le_refl _)).mono ?_
    rintro e w2 ⟨rfl, hb⟩
    exact hK _ _ ⟨_, rfl, hb, rfl⟩
  apply free_is
  · intro a' w' hLe hfr hdep
    have e22 : a'.tmps.getD 22 undef = _ := hdep 4 22 (Nat.le_of_ble_eq_true rfl) rfl rfl
    conv at e22 => rhs; whnf
    have f22 := e22; simp only [Array.getD_eq_getD_getElem?] at f22
    refine wpOp_plain rfl rfl (fun K hK => ?_)
    go_simp
    exact hK _ _ ⟨_, rfl, Below.refl _ _, rfl⟩
  apply free_nil
  intro vs w4 hb4 hT4
  have e18 : vs 0 = _ := hT4 0 18 rfl
  conv at e18 => rhs; whnf
  have e19 : vs 1 = _ := hT4 1 19 rfl
  conv at e19 => rhs; whnf
  have e20 : vs 2 = _ := hT4 2 20 rfl
  conv at e20 => rhs; whnf
  obtain ⟨A21, c21, e21, hR21⟩ := hT4 3 21 rfl
  have e22 : vs 4 = _ := hT4 4 22 rfl
  conv at e22 => rhs; whnf
  have e23 : vs 5 = _ := hT4 5 23 rfl
  conv at e23 => rhs; whnf
  simp only [putAll, List.drop_succ_cons, List.drop_zero, e18, e19, e20, e21, e22, e23]
  clear hT4 e18 e19 e20 e21 e22 e23
  go_simp
  have q5 := (hb4.block w1.heap.size (by omega)).trans q3
  have r5 := (hb4.block (w1.heap.size + 1) (by omega)).trans r3
  have s5 := (hb4.block w2.heap.size (by omega)).trans s3
  have HX5 := Lib.hid (H3.out.next hb4)
  have HY5 := Lib.hid (HY.out.next hb4)
  have hB5 := Below.tr hB3 hb4
  have l5 := heap_lt s5
  clear hb4 hR21 k2 u2 k3 u3 k4 u4 q3 r3 s3 HY H3 hB3 l3
  obtain ⟨k5, u5⟩ := blk q5
  obtain ⟨k6, u6⟩ := blk r5
  obtain ⟨k7, u7⟩ := blk s5
  cases v with
  | false =>
    obtain rfl : m = 0 := by rw [hm.out, ← hv.out]; rfl
    go_wp2_with fail
    refine (implOutletValid_any x0 x1 HX5.out (Nat.le_refl _)).mono ?_
    rintro e w6 ⟨rfl, hb6⟩
    rw [← hv.out]
    go_wp2_with (go_at_call 14; refine (alive_any _).mono ?_; rintro e wa ⟨rfl, hba⟩)
    go_ret
    exact ⟨rfl, Below.tr (Below.tr hb1 (Below.tr hB5 hb6)) hba⟩
  | true =>
    have hmn : RowKit.Hid (m = n1) := Lib.hid (by rw [hm.out, ← hv.out]; rfl)
    have hmp : ((m : Int) == 0) = false := by have := hmn.out; simp; omega
    have hm9 : m ≤ 9 := by have := hmn.out; omega
    go_wp2_with fail
    go_loopw [6] (fun i wr => ∃ k : Nat, k ≤ m ∧ i = .int .i64 k ∧ Below w4.heap.size w4 wr) (fun i _ => m - (intOf i).toNat)
    case atStart => exact ⟨0, by omega, rfl, Below.refl _ _⟩
    case round =>
      obtain ⟨k, hk, rfl, hBw⟩ := hrel
      have hmn2 := hmn.out
      have hsw := hBw.size
      have ko : ∀ i, wr.cell? ⟨w1.heap.size, i, none⟩ = #[Value.int .i64 x0, .int .i64 x1, .slice (some ⟨b, 0, none⟩) n1 c1][i]? := fun i => (keepc hBw w1.heap.size (by omega) i).trans (k5 i)
      have kf : ∀ i, wr.cell? ⟨w1.heap.size + 1, i, none⟩ = #[Value.int .i64 y0, .int .i64 y1, .int .i64 y2, .int .i64 y3, .int .i64 y4][i]? := fun i => (keepc hBw (w1.heap.size + 1) (by omega) i).trans (k6 i)
      have kg : ∀ i, wr.cell? ⟨w2.heap.size, i, none⟩ = #[Value.int .i64 z0, .int .i64 z1, .slice A2 m c2][i]? := fun i => (keepc hBw w2.heap.size (by omega) i).trans (k7 i)
      by_cases hlt : k < m
      · obtain ⟨bx, ox, ex, hbx, hcx⟩ := HX5.out.2 (by omega)
        cases ex
        obtain ⟨by', oy, rfl, hby, hcy⟩ := HY5.out.2 (by omega)
        have rx := hcx k (by omega)
        have ry := hcy k hlt
        have hlt2 : k < n1 := by omega
        have hxs : b < wr.heap.size := by omega
        have hys : by' < wr.heap.size := by omega
        have hc1 : w1.heap.size < wr.heap.size := by omega
        have hc2 : w1.heap.size + 1 < wr.heap.size := by omega
        have hc3 : w2.heap.size < wr.heap.size := by omega
        have X0 : w4.cell? ⟨b, k * 5, none⟩ = some (.int .i64 (f0 k)) := by have hz := rx 0 _ rfl; rw [Nat.zero_add] at hz; exact hz
        have X1 : w4.cell? ⟨b, k * 5 + 1, none⟩ = some (.int .i64 (f1 k)) := by have hz := rx 1 _ rfl; rw [Nat.zero_add] at hz; exact hz
        have X2 : w4.cell? ⟨b, k * 5 + 2, none⟩ = some (.int .i64 (f2 k)) := by have hz := rx 2 _ rfl; rw [Nat.zero_add] at hz; exact hz
        have X3 : w4.cell? ⟨b, k * 5 + 3, none⟩ = some (.int .i64 (f3 k)) := by have hz := rx 3 _ rfl; rw [Nat.zero_add] at hz; exact hz
        have X4 : w4.cell? ⟨b, k * 5 + 4, none⟩ = some (.int .i64 (f4 k)) := by have hz := rx 4 _ rfl; rw [Nat.zero_add] at hz; exact hz
        rcases close_cases2 (y0 := y0) (y1 := y1) (y2 := y2) (y3 := y3) (y4 := y4) hv.out.symm hgg.out hlt2 with ⟨hz, ⟨Rq0, Rq1, Rq2, Rq3, Rq4⟩, ⟨Rs0, Rs1, Rs2, Rs3, Rs4⟩⟩ | ⟨⟨Rs0, Rs1, Rs2, Rs3, Rs4⟩, hz | ⟨hz, hf⟩⟩
        · have q0 : wr.cell? ⟨b, k * 5, none⟩ = some (.int .i64 (y0)) := ((keepc hBw b (by omega) _).trans (X0)).trans (by simp [Rq0])
          have q1 : wr.cell? ⟨b, k * 5 + 1, none⟩ = some (.int .i64 (y1)) := ((keepc hBw b (by omega) _).trans (X1)).trans (by simp [Rq1])
          have q2 : wr.cell? ⟨b, k * 5 + 2, none⟩ = some (.int .i64 (y2)) := ((keepc hBw b (by omega) _).trans (X2)).trans (by simp [Rq2])
          have q3 : wr.cell? ⟨b, k * 5 + 3, none⟩ = some (.int .i64 (y3)) := ((keepc hBw b (by omega) _).trans (X3)).trans (by simp [Rq3])
          have q4 : wr.cell? ⟨b, k * 5 + 4, none⟩ = some (.int .i64 (y4)) := ((keepc hBw b (by omega) _).trans (X4)).trans (by simp [Rq4])
          have s0 : wr.cell? ⟨by', oy + k * 5, none⟩ = some (.int .i64 (0)) := ((keepc hBw by' (by omega) _).trans (ry 0 _ rfl)).trans (by simp [Rs0])
          have s1 : wr.cell? ⟨by', oy + k * 5 + 1, none⟩ = some (.int .i64 (0)) := ((keepc hBw by' (by omega) _).trans (ry 1 _ rfl)).trans (by simp [Rs1])
          have s2 : wr.cell? ⟨by', oy + k * 5 + 2, none⟩ = some (.int .i64 (0)) := ((keepc hBw by' (by omega) _).trans (ry 2 _ rfl)).trans (by simp [Rs2])
          have s3 : wr.cell? ⟨by', oy + k * 5 + 3, none⟩ = some (.int .i64 (0)) := ((keepc hBw by' (by omega) _).trans (ry 3 _ rfl)).trans (by simp [Rs3])
          have s4 : wr.cell? ⟨by', oy + k * 5 + 4, none⟩ = some (.int .i64 (0)) := ((keepc hBw by' (by omega) _).trans (ry 4 _ rfl)).trans (by simp [Rs4])
          have r80 : ∀ W, (binOp .neq 39 (.agg #[.int .i64 (y0), .int .i64 (y1), .int .i64 (y2), .int .i64 (y3), .int .i64 (y4)]) (.agg #[.int .i64 (0), .int .i64 (0), .int .i64 (0), .int .i64 (0), .int .i64 (0)])).run Try.prog W = .ok (.bool true) W := fun W => binOp_neq (v := false) ((eql_flow _ _ _ _ _ _ _ _ _ _ W).trans (by rw [← hz]; rfl))
          have r88 : ∀ W, (binOp .eql 39 (.agg #[.int .i64 (0), .int .i64 (0), .int .i64 (0), .int .i64 (0), .int .i64 (0)]) (.agg #[.int .i64 (y0), .int .i64 (y1), .int .i64 (y2), .int .i64 (y3), .int .i64 (y4)])).run Try.prog W = .ok (.bool false) W := fun W => (eql_flow _ _ _ _ _ _ _ _ _ _ W).trans (by rw [← hz]; simp only [zB, eq_comm])
          have r58 : ∀ W, (binOp .neq 39 (.agg #[.int .i64 (0), .int .i64 (0), .int .i64 (0), .int .i64 (0), .int .i64 (0)]) (.agg #[.int .i64 (y0), .int .i64 (y1), .int .i64 (y2), .int .i64 (y3), .int .i64 (y4)])).run Try.prog W = .ok (.bool true) W := fun W => binOp_neq (v := false) (r88 W)
          have r66 : ∀ W, (binOp .neq 39 (.agg #[.int .i64 (y0), .int .i64 (y1), .int .i64 (y2), .int .i64 (y3), .int .i64 (y4)]) (.agg #[.int .i64 (y0), .int .i64 (y1), .int .i64 (y2), .int .i64 (y3), .int .i64 (y4)])).run Try.prog W = .ok (.bool false) W := fun W => binOp_neq (v := true) ((eql_flow _ _ _ _ _ _ _ _ _ _ W).trans (by simp))
          have r74 : ∀ W, (binOp .neq 39 (.agg #[.int .i64 (0), .int .i64 (0), .int .i64 (0), .int .i64 (0), .int .i64 (0)]) (.agg #[.int .i64 (0), .int .i64 (0), .int .i64 (0), .int .i64 (0), .int .i64 (0)])).run Try.prog W = .ok (.bool false) W := fun W => binOp_neq (v := true) ((eql_flow _ _ _ _ _ _ _ _ _ _ W).trans (by simp))
          clear hz Rq0 Rq1 Rq2 Rq3 Rq4 Rs0 Rs1 Rs2 Rs3 Rs4
          clear hmn2 X0 X1 X2 X3 X4 hcx hcy rx ry k5 u5 k6 u6 k7 u7
          go_upto_region 12 with (fail)
          refine wp_region_still (ds := [(0, 48), (1, 49), (2, 50), (3, 51), (4, 52), (5, 53), (6, 54), (7, 55), (8, 56), (9, 57), (10, 58), (11, 59), (12, 60), (13, 61), (14, 62), (15, 63), (16, 64), (17, 65), (18, 66), (19, 67), (20, 68), (21, 69), (22, 70), (23, 71), (24, 72), (25, 73), (26, 74), (27, 75), (28, 76), (29, 77), (30, 78), (31, 79), (32, 80), (33, 81), (34, 82), (35, 83), (36, 84), (37, 85), (38, 86), (39, 87), (40, 88), (41, 89), (42, 90)]) 43 (by kernel_rfl) (by kernel_rfl) (by first | exact .inl rfl | exact .inr (by kernel_rfl)) (by rfl) rfl rfl ?_
          apply still_cons
          · intro a' w' hLe hfr hdep
            have e5 := hfr 5 rfl
            conv at e5 => rhs; whnf
            have f5 := e5; simp only [Array.getD_eq_getD_getElem?] at f5
            refine wpOp_plain rfl rfl (fun K hK => ?_)
            go_simp
            exact hK _ _ ⟨rfl, Below.refl _ _⟩
          apply still_cons
          · intro a' w' hLe hfr hdep
            have e48 := hdep 0 48 (Nat.le_of_ble_eq_true rfl) rfl rfl
            conv at e48 => rhs; whnf
            have f48 := e48; simp only [Array.getD_eq_getD_getElem?] at f48
            have kc := fun i => keepc hLe (b) (by (try simp) <;> omega) i
            have kf := fun i => keepf hLe (b) (by (try simp) <;> omega) i
            have kc := fun i => keepc hLe (by') (by (try simp) <;> omega) i
            have kf := fun i => keepf hLe (by') (by (try simp) <;> omega) i
            have kc := fun i => keepc hLe (w1.heap.size) (by (try simp) <;> omega) i
            have kf := fun i => keepf hLe (w1.heap.size) (by (try simp) <;> omega) i
            have kc := fun i => keepc hLe (w1.heap.size + 1) (by (try simp) <;> omega) i
            have kf := fun i => keepf hLe (w1.heap.size + 1) (by (try simp) <;> omega) i
            have kc := fun i => keepc hLe (w2.heap.size) (by (try simp) <;> omega) i
            have kf := fun i => keepf hLe (w2.heap.size) (by (try simp) <;> omega) i
            refine wpOp_plain rfl rfl (fun K hK => ?_)
            go_simp
            exact hK _ _ ⟨rfl, Below.refl _ _⟩
          apply still_cons
          · intro a' w' hLe hfr hdep
            have e6 := hfr 6 rfl
            conv at e6 => rhs; whnf
            have f6 := e6; simp only [Array.getD_eq_getD_getElem?] at f6
            refine wpOp_plain rfl rfl (fun K hK => ?_)
            go_simp
            exact hK _ _ ⟨rfl, Below.refl _ _⟩
          apply still_cons
          · intro a' w' hLe hfr hdep
            have e49 := hdep 1 49 (Nat.le_of_ble_eq_true rfl) rfl rfl
            conv at e49 => rhs; whnf
            have f49 := e49; simp only [Array.getD_eq_getD_getElem?] at f49
            have e50 := hdep 2 50 (Nat.le_of_ble_eq_true rfl) rfl rfl
            conv at e50 => rhs; whnf
            have f50 := e50; simp only [Array.getD_eq_getD_getElem?] at f50
            refine wpOp_plain rfl rfl (fun K hK => ?_)
            go_simp
            exact hK _ _ ⟨rfl, Below.refl _ _⟩
          apply still_cons
          · intro a' w' hLe hfr hdep
            have e51 := hdep 3 51 (Nat.le_of_ble_eq_true rfl) rfl rfl
            conv at e51 => rhs; whnf
            have f51 := e51; simp only [Array.getD_eq_getD_getElem?] at f51
            have kc := fun i => keepc hLe (b) (by (try simp) <;> omega) i
            have kf := fun i => keepf hLe (b) (by (try simp) <;> omega) i
            have kc := fun i => keepc hLe (by') (by (try simp) <;> omega) i
            have kf := fun i => keepf hLe (by') (by (try simp) <;> omega) i
            have kc := fun i => keepc hLe (w1.heap.size) (by (try simp) <;> omega) i
            have kf := fun i => keepf hLe (w1.heap.size) (by (try simp) <;> omega) i
            have kc := fun i => keepc hLe (w1.heap.size + 1) (by (try simp) <;> omega) i
            have kf := fun i => keepf hLe (w1.heap.size + 1) (by (try simp) <;> omega) i
            have kc := fun i => keepc hLe (w2.heap.size) (by (try simp) <;> omega) i
            have kf := fun i => keepf hLe (w2.heap.size) (by (try simp) <;> omega) i
            refine wpOp_plain rfl rfl (fun K hK => ?_)
            go_simp
            exact hK _ _ ⟨rfl, Below.refl _ _⟩
          apply still_cons
          · intro a' w' hLe hfr hdep
            have e3 := hfr 3 rfl
            conv at e3 => rhs; whnf
            have f3 := e3; simp only [Array.getD_eq_getD_getElem?] at f3
            refine wpOp_plain rfl rfl (fun K hK => ?_)
            go_simp
            exact hK _ _ ⟨rfl, Below.refl _ _⟩
          apply still_cons
          · intro a' w' hLe hfr hdep
            have e53 := hdep 5 53 (Nat.le_of_ble_eq_true rfl) rfl rfl
            conv at e53 => rhs; whnf
            have f53 := e53; simp only [Array.getD_eq_getD_getElem?] at f53
            have kc := fun i => keepc hLe (b) (by (try simp) <;> omega) i
            have kf := fun i => keepf hLe (b) (by (try simp) <;> omega) i
            have kc := fun i => keepc hLe (by') (by (try simp) <;> omega) i
            have kf := fun i => keepf hLe (by') (by (try simp) <;> omega) i
            have kc := fun i => keepc hLe (w1.heap.size) (by (try simp) <;> omega) i
            have kf := fun i => keepf hLe (w1.heap.size) (by (try simp) <;> omega) i
            have kc := fun i => keepc hLe (w1.heap.size + 1) (by (try simp) <;> omega) i
            have kf := fun i => keepf hLe (w1.heap.size + 1) (by (try simp) <;> omega) i
            have kc := fun i => keepc hLe (w2.heap.size) (by (try simp) <;> omega) i
            have kf := fun i => keepf hLe (w2.heap.size) (by (try simp) <;> omega) i
            refine wpOp_plain rfl rfl (fun K hK => ?_)
            go_simp
            exact hK _ _ ⟨rfl, Below.refl _ _⟩
          apply still_cons
          · intro a' w' hLe hfr hdep
            have e6 := hfr 6 rfl
            conv at e6 => rhs; whnf
            have f6 := e6; simp only [Array.getD_eq_getD_getElem?] at f6
            refine wpOp_plain rfl rfl (fun K hK => ?_)
            go_simp
            exact hK _ _ ⟨rfl, Below.refl _ _⟩
          apply still_cons
          · intro a' w' hLe hfr hdep
            have e54 := hdep 6 54 (Nat.le_of_ble_eq_true rfl) rfl rfl
            conv at e54 => rhs; whnf
            have f54 := e54; simp only [Array.getD_eq_getD_getElem?] at f54
            have e55 := hdep 7 55 (Nat.le_of_ble_eq_true rfl) rfl rfl
            conv at e55 => rhs; whnf
            have f55 := e55; simp only [Array.getD_eq_getD_getElem?] at f55
            refine wpOp_plain rfl rfl (fun K hK => ?_)
            go_simp
            exact hK _ _ ⟨rfl, Below.refl _ _⟩
          apply still_cons
          · intro a' w' hLe hfr hdep
            have e56 := hdep 8 56 (Nat.le_of_ble_eq_true rfl) rfl rfl
            conv at e56 => rhs; whnf
            have f56 := e56; simp only [Array.getD_eq_getD_getElem?] at f56
            have kc := fun i => keepc hLe (b) (by (try simp) <;> omega) i
            have kf := fun i => keepf hLe (b) (by (try simp) <;> omega) i
            have kc := fun i => keepc hLe (by') (by (try simp) <;> omega) i
            have kf := fun i => keepf hLe (by') (by (try simp) <;> omega) i
            have kc := fun i => keepc hLe (w1.heap.size) (by (try simp) <;> omega) i
            have kf := fun i => keepf hLe (w1.heap.size) (by (try simp) <;> omega) i
            have kc := fun i => keepc hLe (w1.heap.size + 1) (by (try simp) <;> omega) i
            have kf := fun i => keepf hLe (w1.heap.size + 1) (by (try simp) <;> omega) i
            have kc := fun i => keepc hLe (w2.heap.size) (by (try simp) <;> omega) i
            have kf := fun i => keepf hLe (w2.heap.size) (by (try simp) <;> omega) i
            refine wpOp_plain rfl rfl (fun K hK => ?_)
            go_simp
            exact hK _ _ ⟨rfl, Below.refl _ _⟩
          apply still_cons
          · intro a' w' hLe hfr hdep
            have e52 := hdep 4 52 (Nat.le_of_ble_eq_true rfl) rfl rfl
            conv at e52 => rhs; whnf
            have f52 := e52; simp only [Array.getD_eq_getD_getElem?] at f52
            have e57 := hdep 9 57 (Nat.le_of_ble_eq_true rfl) rfl rfl
            conv at e57 => rhs; whnf
            have f57 := e57; simp only [Array.getD_eq_getD_getElem?] at f57
            refine wpOp_plain rfl rfl (fun K hK => ?_)
            go_simp
            exact hK _ _ ⟨rfl, Below.refl _ _⟩
          apply still_cons
          · intro a' w' hLe hfr hdep
            have e58 := hdep 10 58 (Nat.le_of_ble_eq_true rfl) rfl rfl
            conv at e58 => rhs; whnf
            have f58 := e58; simp only [Array.getD_eq_getD_getElem?] at f58
            refine wpOp_plain rfl rfl (fun K hK => ?_)
            go_simp
            exact hK _ _ ⟨rfl, Below.refl _ _⟩
          apply still_cons
          · intro a' w' hLe hfr hdep
            have e59 := hdep 11 59 (Nat.le_of_ble_eq_true rfl) rfl rfl
            conv at e59 => rhs; whnf
            have f59 := e59; simp only [Array.getD_eq_getD_getElem?] at f59
            have e3 := hfr 3 rfl
            conv at e3 => rhs; whnf
            have f3 := e3; simp only [Array.getD_eq_getD_getElem?] at f3
            refine wpOp_yes rfl rfl rfl e59 (fun K hK => ?_)
            go_simp
            exact hK _ _ ⟨rfl, Below.refl _ _⟩
          apply still_cons
          · intro a' w' hLe hfr hdep
            have e59 := hdep 11 59 (Nat.le_of_ble_eq_true rfl) rfl rfl
            conv at e59 => rhs; whnf
            have f59 := e59; simp only [Array.getD_eq_getD_getElem?] at f59
            have e60 := hdep 12 60 (Nat.le_of_ble_eq_true rfl) rfl rfl
            conv at e60 => rhs; whnf
            have f60 := e60; simp only [Array.getD_eq_getD_getElem?] at f60
            have kc := fun i => keepc hLe (b) (by (try simp) <;> omega) i
            have kf := fun i => keepf hLe (b) (by (try simp) <;> omega) i
            have kc := fun i => keepc hLe (by') (by (try simp) <;> omega) i
            have kf := fun i => keepf hLe (by') (by (try simp) <;> omega) i
            have kc := fun i => keepc hLe (w1.heap.size) (by (try simp) <;> omega) i
            have kf := fun i => keepf hLe (w1.heap.size) (by (try simp) <;> omega) i
            have kc := fun i => keepc hLe (w1.heap.size + 1) (by (try simp) <;> omega) i
            have kf := fun i => keepf hLe (w1.heap.size + 1) (by (try simp) <;> omega) i
            have kc := fun i => keepc hLe (w2.heap.size) (by (try simp) <;> omega) i
            have kf := fun i => keepf hLe (w2.heap.size) (by (try simp) <;> omega) i
            refine wpOp_yes rfl rfl rfl e59 (fun K hK => ?_)
            go_simp
            exact hK _ _ ⟨rfl, Below.refl _ _⟩
          apply still_cons
          · intro a' w' hLe hfr hdep
            have e59 := hdep 11 59 (Nat.le_of_ble_eq_true rfl) rfl rfl
            conv at e59 => rhs; whnf
            have f59 := e59; simp only [Array.getD_eq_getD_getElem?] at f59
            have e6 := hfr 6 rfl
            conv at e6 => rhs; whnf
            have f6 := e6; simp only [Array.getD_eq_getD_getElem?] at f6
            refine wpOp_yes rfl rfl rfl e59 (fun K hK => ?_)
            go_simp
            exact hK _ _ ⟨rfl, Below.refl _ _⟩
          apply still_cons
          · intro a' w' hLe hfr hdep
            have e59 := hdep 11 59 (Nat.le_of_ble_eq_true rfl) rfl rfl
            conv at e59 => rhs; whnf
            have f59 := e59; simp only [Array.getD_eq_getD_getElem?] at f59
            have e61 := hdep 13 61 (Nat.le_of_ble_eq_true rfl) rfl rfl
            conv at e61 => rhs; whnf
            have f61 := e61; simp only [Array.getD_eq_getD_getElem?] at f61
            have e62 := hdep 14 62 (Nat.le_of_ble_eq_true rfl) rfl rfl
            conv at e62 => rhs; whnf
            have f62 := e62; simp only [Array.getD_eq_getD_getElem?] at f62
            refine wpOp_yes rfl rfl rfl e59 (fun K hK => ?_)
            go_simp
            exact hK _ _ ⟨rfl, Below.refl _ _⟩
          apply still_cons
          · intro a' w' hLe hfr hdep
            have e59 := hdep 11 59 (Nat.le_of_ble_eq_true rfl) rfl rfl
            conv at e59 => rhs; whnf
            have f59 := e59; simp only [Array.getD_eq_getD_getElem?] at f59
            have e63 := hdep 15 63 (Nat.le_of_ble_eq_true rfl) rfl rfl
            conv at e63 => rhs; whnf
            have f63 := e63; simp only [Array.getD_eq_getD_getElem?] at f63
            have kc := fun i => keepc hLe (b) (by (try simp) <;> omega) i
            have kf := fun i => keepf hLe (b) (by (try simp) <;> omega) i
            have kc := fun i => keepc hLe (by') (by (try simp) <;> omega) i
            have kf := fun i => keepf hLe (by') (by (try simp) <;> omega) i
            have kc := fun i => keepc hLe (w1.heap.size) (by (try simp) <;> omega) i
            have kf := fun i => keepf hLe (w1.heap.size) (by (try simp) <;> omega) i
            have kc := fun i => keepc hLe (w1.heap.size + 1) (by (try simp) <;> omega) i
            have kf := fun i => keepf hLe (w1.heap.size + 1) (by (try simp) <;> omega) i
            have kc := fun i => keepc hLe (w2.heap.size) (by (try simp) <;> omega) i
            have kf := fun i => keepf hLe (w2.heap.size) (by (try simp) <;> omega) i
            refine wpOp_yes rfl rfl rfl e59 (fun K hK => ?_)
            go_simp
            exact hK _ _ ⟨rfl, Below.refl _ _⟩
          apply still_cons
          · intro a' w' hLe hfr hdep
            have e59 := hdep 11 59 (Nat.le_of_ble_eq_true rfl) rfl rfl
            conv at e59 => rhs; whnf
            have f59 := e59; simp only [Array.getD_eq_getD_getElem?] at f59
            have e4 := hfr 4 rfl
            conv at e4 => rhs; whnf
            have f4 := e4; simp only [Array.getD_eq_getD_getElem?] at f4
            have kc := fun i => keepc hLe (b) (by (try simp) <;> omega) i
            have kf := fun i => keepf hLe (b) (by (try simp) <;> omega) i
            have kc := fun i => keepc hLe (by') (by (try simp) <;> omega) i
            have kf := fun i => keepf hLe (by') (by (try simp) <;> omega) i
            have kc := fun i => keepc hLe (w1.heap.size) (by (try simp) <;> omega) i
            have kf := fun i => keepf hLe (w1.heap.size) (by (try simp) <;> omega) i
            have kc := fun i => keepc hLe (w1.heap.size + 1) (by (try simp) <;> omega) i
            have kf := fun i => keepf hLe (w1.heap.size + 1) (by (try simp) <;> omega) i
            have kc := fun i => keepc hLe (w2.heap.size) (by (try simp) <;> omega) i
            have kf := fun i => keepf hLe (w2.heap.size) (by (try simp) <;> omega) i
            refine wpOp_yes rfl rfl rfl e59 (fun K hK => ?_)
            go_simp
            exact hK _ _ ⟨rfl, Below.refl _ _⟩
          apply still_cons
          · intro a' w' hLe hfr hdep
            have e59 := hdep 11 59 (Nat.le_of_ble_eq_true rfl) rfl rfl
            conv at e59 => rhs; whnf
            have f59 := e59; simp only [Array.getD_eq_getD_getElem?] at f59
            have e64 := hdep 16 64 (Nat.le_of_ble_eq_true rfl) rfl rfl
            conv at e64 => rhs; whnf
            have f64 := e64; simp only [Array.getD_eq_getD_getElem?] at f64
            have e65 := hdep 17 65 (Nat.le_of_ble_eq_true rfl) rfl rfl
            conv at e65 => rhs; whnf
            have f65 := e65; simp only [Array.getD_eq_getD_getElem?] at f65
            refine wpOp_yes rfl rfl rfl e59 (fun K hK => ?_)
            go_simp
            exact hK _ _ ⟨rfl, Below.refl _ _⟩
          apply still_cons
          · intro a' w' hLe hfr hdep
            have e59 := hdep 11 59 (Nat.le_of_ble_eq_true rfl) rfl rfl
            conv at e59 => rhs; whnf
            have f59 := e59; simp only [Array.getD_eq_getD_getElem?] at f59
            have e66 := hdep 18 66 (Nat.le_of_ble_eq_true rfl) rfl rfl
            conv at e66 => rhs; whnf
            have f66 := e66; simp only [Array.getD_eq_getD_getElem?] at f66
            refine wpOp_yes rfl rfl rfl e59 (fun K hK => ?_)
            go_simp
            exact hK _ _ ⟨rfl, Below.refl _ _⟩
          apply still_cons
          · intro a' w' hLe hfr hdep
            have e67 := hdep 19 67 (Nat.le_of_ble_eq_true rfl) rfl rfl
            conv at e67 => rhs; whnf
            have f67 := e67; simp only [Array.getD_eq_getD_getElem?] at f67
            have e5 := hfr 5 rfl
            conv at e5 => rhs; whnf
            have f5 := e5; simp only [Array.getD_eq_getD_getElem?] at f5
            refine wpOp_yes rfl rfl rfl e67 (fun K hK => ?_)
            go_simp
            exact hK _ _ ⟨rfl, Below.refl _ _⟩
          apply still_cons
          · intro a' w' hLe hfr hdep
            have e67 := hdep 19 67 (Nat.le_of_ble_eq_true rfl) rfl rfl
            conv at e67 => rhs; whnf
            have f67 := e67; simp only [Array.getD_eq_getD_getElem?] at f67
            have e68 := hdep 20 68 (Nat.le_of_ble_eq_true rfl) rfl rfl
            conv at e68 => rhs; whnf
            have f68 := e68; simp only [Array.getD_eq_getD_getElem?] at f68
            have kc := fun i => keepc hLe (b) (by (try simp) <;> omega) i
            have kf := fun i => keepf hLe (b) (by (try simp) <;> omega) i
            have kc := fun i => keepc hLe (by') (by (try simp) <;> omega) i
            have kf := fun i => keepf hLe (by') (by (try simp) <;> omega) i
            have kc := fun i => keepc hLe (w1.heap.size) (by (try simp) <;> omega) i
            have kf := fun i => keepf hLe (w1.heap.size) (by (try simp) <;> omega) i
            have kc := fun i => keepc hLe (w1.heap.size + 1) (by (try simp) <;> omega) i
            have kf := fun i => keepf hLe (w1.heap.size + 1) (by (try simp) <;> omega) i
            have kc := fun i => keepc hLe (w2.heap.size) (by (try simp) <;> omega) i
            have kf := fun i => keepf hLe (w2.heap.size) (by (try simp) <;> omega) i
            refine wpOp_yes rfl rfl rfl e67 (fun K hK => ?_)
            go_simp
            exact hK _ _ ⟨rfl, Below.refl _ _⟩
          apply still_cons
          · intro a' w' hLe hfr hdep
            have e67 := hdep 19 67 (Nat.le_of_ble_eq_true rfl) rfl rfl
            conv at e67 => rhs; whnf
            have f67 := e67; simp only [Array.getD_eq_getD_getElem?] at f67
            have e6 := hfr 6 rfl
            conv at e6 => rhs; whnf
            have f6 := e6; simp only [Array.getD_eq_getD_getElem?] at f6
            refine wpOp_yes rfl rfl rfl e67 (fun K hK => ?_)
            go_simp
            exact hK _ _ ⟨rfl, Below.refl _ _⟩
          apply still_cons
          · intro a' w' hLe hfr hdep
            have e67 := hdep 19 67 (Nat.le_of_ble_eq_true rfl) rfl rfl
            conv at e67 => rhs; whnf
            have f67 := e67; simp only [Array.getD_eq_getD_getElem?] at f67
            have e69 := hdep 21 69 (Nat.le_of_ble_eq_true rfl) rfl rfl
            conv at e69 => rhs; whnf
            have f69 := e69; simp only [Array.getD_eq_getD_getElem?] at f69
            have e70 := hdep 22 70 (Nat.le_of_ble_eq_true rfl) rfl rfl
            conv at e70 => rhs; whnf
            have f70 := e70; simp only [Array.getD_eq_getD_getElem?] at f70
            refine wpOp_yes rfl rfl rfl e67 (fun K hK => ?_)
            go_simp
            exact hK _ _ ⟨rfl, Below.refl _ _⟩
          apply still_cons
          · intro a' w' hLe hfr hdep
            have e67 := hdep 19 67 (Nat.le_of_ble_eq_true rfl) rfl rfl
            conv at e67 => rhs; whnf
            have f67 := e67; simp only [Array.getD_eq_getD_getElem?] at f67
            have e71 := hdep 23 71 (Nat.le_of_ble_eq_true rfl) rfl rfl
            conv at e71 => rhs; whnf
            have f71 := e71; simp only [Array.getD_eq_getD_getElem?] at f71
            have kc := fun i => keepc hLe (b) (by (try simp) <;> omega) i
            have kf := fun i => keepf hLe (b) (by (try simp) <;> omega) i
            have kc := fun i => keepc hLe (by') (by (try simp) <;> omega) i
            have kf := fun i => keepf hLe (by') (by (try simp) <;> omega) i
            have kc := fun i => keepc hLe (w1.heap.size) (by (try simp) <;> omega) i
            have kf := fun i => keepf hLe (w1.heap.size) (by (try simp) <;> omega) i
            have kc := fun i => keepc hLe (w1.heap.size + 1) (by (try simp) <;> omega) i
            have kf := fun i => keepf hLe (w1.heap.size + 1) (by (try simp) <;> omega) i
            have kc := fun i => keepc hLe (w2.heap.size) (by (try simp) <;> omega) i
            have kf := fun i => keepf hLe (w2.heap.size) (by (try simp) <;> omega) i
            refine wpOp_yes rfl rfl rfl e67 (fun K hK => ?_)
            go_simp
            exact hK _ _ ⟨rfl, Below.refl _ _⟩
          apply still_cons
          · intro a' w' hLe hfr hdep
            have e67 := hdep 19 67 (Nat.le_of_ble_eq_true rfl) rfl rfl
            conv at e67 => rhs; whnf
            have f67 := e67; simp only [Array.getD_eq_getD_getElem?] at f67
            refine wpOp_yes rfl rfl rfl e67 (fun K hK => ?_)
            go_simp
            exact hK _ _ ⟨rfl, Below.refl _ _⟩
          apply still_cons
          · intro a' w' hLe hfr hdep
            have e67 := hdep 19 67 (Nat.le_of_ble_eq_true rfl) rfl rfl
            conv at e67 => rhs; whnf
            have f67 := e67; simp only [Array.getD_eq_getD_getElem?] at f67
            have e72 := hdep 24 72 (Nat.le_of_ble_eq_true rfl) rfl rfl
            conv at e72 => rhs; whnf
            have f72 := e72; simp only [Array.getD_eq_getD_getElem?] at f72
            have e73 := hdep 25 73 (Nat.le_of_ble_eq_true rfl) rfl rfl
            conv at e73 => rhs; whnf
            have f73 := e73; simp only [Array.getD_eq_getD_getElem?] at f73
            refine wpOp_yes rfl rfl rfl e67 (fun K hK => ?_)
            go_simp
            exact hK _ _ ⟨rfl, Below.refl _ _⟩
          apply still_cons
          · intro a' w' hLe hfr hdep
            have e59 := hdep 11 59 (Nat.le_of_ble_eq_true rfl) rfl rfl
            conv at e59 => rhs; whnf
            have f59 := e59; simp only [Array.getD_eq_getD_getElem?] at f59
            have e67 := hdep 19 67 (Nat.le_of_ble_eq_true rfl) rfl rfl
            conv at e67 => rhs; whnf
            have f67 := e67; simp only [Array.getD_eq_getD_getElem?] at f67
            have e74 := hdep 26 74 (Nat.le_of_ble_eq_true rfl) rfl rfl
            conv at e74 => rhs; whnf
            have f74 := e74; simp only [Array.getD_eq_getD_getElem?] at f74
            refine wpOp_yes rfl rfl rfl e59 (fun K hK => ?_)
            go_simp
            exact hK _ _ ⟨rfl, Below.refl _ _⟩
          apply still_cons
          · intro a' w' hLe hfr hdep
            have e59 := hdep 11 59 (Nat.le_of_ble_eq_true rfl) rfl rfl
            conv at e59 => rhs; whnf
            have f59 := e59; simp only [Array.getD_eq_getD_getElem?] at f59
            have e75 := hdep 27 75 (Nat.le_of_ble_eq_true rfl) rfl rfl
            conv at e75 => rhs; whnf
            have f75 := e75; simp only [Array.getD_eq_getD_getElem?] at f75
            refine wpOp_plain rfl rfl (fun K hK => ?_)
            go_simp
            exact hK _ _ ⟨rfl, Below.refl _ _⟩
          apply still_cons
          · intro a' w' hLe hfr hdep
            have e76 := hdep 28 76 (Nat.le_of_ble_eq_true rfl) rfl rfl
            conv at e76 => rhs; whnf
            have f76 := e76; simp only [Array.getD_eq_getD_getElem?] at f76
            refine wpOp_plain rfl rfl (fun K hK => ?_)
            go_simp
            exact hK _ _ ⟨rfl, Below.refl _ _⟩
          apply still_cons
          · intro a' w' hLe hfr hdep
            have e77 := hdep 29 77 (Nat.le_of_ble_eq_true rfl) rfl rfl
            conv at e77 => rhs; whnf
            have f77 := e77; simp only [Array.getD_eq_getD_getElem?] at f77
            have e4 := hfr 4 rfl
            conv at e4 => rhs; whnf
            have f4 := e4; simp only [Array.getD_eq_getD_getElem?] at f4
            have kc := fun i => keepc hLe (b) (by (try simp) <;> omega) i
            have kf := fun i => keepf hLe (b) (by (try simp) <;> omega) i
            have kc := fun i => keepc hLe (by') (by (try simp) <;> omega) i
            have kf := fun i => keepf hLe (by') (by (try simp) <;> omega) i
            have kc := fun i => keepc hLe (w1.heap.size) (by (try simp) <;> omega) i
            have kf := fun i => keepf hLe (w1.heap.size) (by (try simp) <;> omega) i
            have kc := fun i => keepc hLe (w1.heap.size + 1) (by (try simp) <;> omega) i
            have kf := fun i => keepf hLe (w1.heap.size + 1) (by (try simp) <;> omega) i
            have kc := fun i => keepc hLe (w2.heap.size) (by (try simp) <;> omega) i
            have kf := fun i => keepf hLe (w2.heap.size) (by (try simp) <;> omega) i
            refine wpOp_yes rfl rfl rfl e77 (fun K hK => ?_)
            go_simp
            exact hK _ _ ⟨rfl, Below.refl _ _⟩
          apply still_cons
          · intro a' w' hLe hfr hdep
            have e77 := hdep 29 77 (Nat.le_of_ble_eq_true rfl) rfl rfl
            conv at e77 => rhs; whnf
            have f77 := e77; simp only [Array.getD_eq_getD_getElem?] at f77
            refine wpOp_yes rfl rfl rfl e77 (fun K hK => ?_)
            go_simp
            exact hK _ _ ⟨rfl, Below.refl _ _⟩
          apply still_cons
          · intro a' w' hLe hfr hdep
            have e77 := hdep 29 77 (Nat.le_of_ble_eq_true rfl) rfl rfl
            conv at e77 => rhs; whnf
            have f77 := e77; simp only [Array.getD_eq_getD_getElem?] at f77
            have e78 := hdep 30 78 (Nat.le_of_ble_eq_true rfl) rfl rfl
            conv at e78 => rhs; whnf
            have f78 := e78; simp only [Array.getD_eq_getD_getElem?] at f78
            have e79 := hdep 31 79 (Nat.le_of_ble_eq_true rfl) rfl rfl
            conv at e79 => rhs; whnf
            have f79 := e79; simp only [Array.getD_eq_getD_getElem?] at f79
            refine wpOp_yes rfl rfl rfl e77 (fun K hK => ?_)
            go_simp
            exact hK _ _ ⟨rfl, Below.refl _ _⟩
          apply still_cons
          · intro a' w' hLe hfr hdep
            have e77 := hdep 29 77 (Nat.le_of_ble_eq_true rfl) rfl rfl
            conv at e77 => rhs; whnf
            have f77 := e77; simp only [Array.getD_eq_getD_getElem?] at f77
            have e80 := hdep 32 80 (Nat.le_of_ble_eq_true rfl) rfl rfl
            conv at e80 => rhs; whnf
            have f80 := e80; simp only [Array.getD_eq_getD_getElem?] at f80
            refine wpOp_yes rfl rfl rfl e77 (fun K hK => ?_)
            go_simp
            exact hK _ _ ⟨rfl, Below.refl _ _⟩
          apply still_cons
          · intro a' w' hLe hfr hdep
            have e81 := hdep 33 81 (Nat.le_of_ble_eq_true rfl) rfl rfl
            conv at e81 => rhs; whnf
            have f81 := e81; simp only [Array.getD_eq_getD_getElem?] at f81
            have e5 := hfr 5 rfl
            conv at e5 => rhs; whnf
            have f5 := e5; simp only [Array.getD_eq_getD_getElem?] at f5
            refine wpOp_yes rfl rfl rfl e81 (fun K hK => ?_)
            go_simp
            exact hK _ _ ⟨rfl, Below.refl _ _⟩
          apply still_cons
          · intro a' w' hLe hfr hdep
            have e81 := hdep 33 81 (Nat.le_of_ble_eq_true rfl) rfl rfl
            conv at e81 => rhs; whnf
            have f81 := e81; simp only [Array.getD_eq_getD_getElem?] at f81
            have e82 := hdep 34 82 (Nat.le_of_ble_eq_true rfl) rfl rfl
            conv at e82 => rhs; whnf
            have f82 := e82; simp only [Array.getD_eq_getD_getElem?] at f82
            have kc := fun i => keepc hLe (b) (by (try simp) <;> omega) i
            have kf := fun i => keepf hLe (b) (by (try simp) <;> omega) i
            have kc := fun i => keepc hLe (by') (by (try simp) <;> omega) i
            have kf := fun i => keepf hLe (by') (by (try simp) <;> omega) i
            have kc := fun i => keepc hLe (w1.heap.size) (by (try simp) <;> omega) i
            have kf := fun i => keepf hLe (w1.heap.size) (by (try simp) <;> omega) i
            have kc := fun i => keepc hLe (w1.heap.size + 1) (by (try simp) <;> omega) i
            have kf := fun i => keepf hLe (w1.heap.size + 1) (by (try simp) <;> omega) i
            have kc := fun i => keepc hLe (w2.heap.size) (by (try simp) <;> omega) i
            have kf := fun i => keepf hLe (w2.heap.size) (by (try simp) <;> omega) i
            refine wpOp_yes rfl rfl rfl e81 (fun K hK => ?_)
            go_simp
            exact hK _ _ ⟨rfl, Below.refl _ _⟩
          apply still_cons
          · intro a' w' hLe hfr hdep
            have e81 := hdep 33 81 (Nat.le_of_ble_eq_true rfl) rfl rfl
            conv at e81 => rhs; whnf
            have f81 := e81; simp only [Array.getD_eq_getD_getElem?] at f81
            have e6 := hfr 6 rfl
            conv at e6 => rhs; whnf
            have f6 := e6; simp only [Array.getD_eq_getD_getElem?] at f6
            refine wpOp_yes rfl rfl rfl e81 (fun K hK => ?_)
            go_simp
            exact hK _ _ ⟨rfl, Below.refl _ _⟩
          apply still_cons
          · intro a' w' hLe hfr hdep
            have e81 := hdep 33 81 (Nat.le_of_ble_eq_true rfl) rfl rfl
            conv at e81 => rhs; whnf
            have f81 := e81; simp only [Array.getD_eq_getD_getElem?] at f81
            have e83 := hdep 35 83 (Nat.le_of_ble_eq_true rfl) rfl rfl
            conv at e83 => rhs; whnf
            have f83 := e83; simp only [Array.getD_eq_getD_getElem?] at f83
            have e84 := hdep 36 84 (Nat.le_of_ble_eq_true rfl) rfl rfl
            conv at e84 => rhs; whnf
            have f84 := e84; simp only [Array.getD_eq_getD_getElem?] at f84
            refine wpOp_yes rfl rfl rfl e81 (fun K hK => ?_)
            go_simp
            exact hK _ _ ⟨rfl, Below.refl _ _⟩
          apply still_cons
          · intro a' w' hLe hfr hdep
            have e81 := hdep 33 81 (Nat.le_of_ble_eq_true rfl) rfl rfl
            conv at e81 => rhs; whnf
            have f81 := e81; simp only [Array.getD_eq_getD_getElem?] at f81
            have e85 := hdep 37 85 (Nat.le_of_ble_eq_true rfl) rfl rfl
            conv at e85 => rhs; whnf
            have f85 := e85; simp only [Array.getD_eq_getD_getElem?] at f85
            have kc := fun i => keepc hLe (b) (by (try simp) <;> omega) i
            have kf := fun i => keepf hLe (b) (by (try simp) <;> omega) i
            have kc := fun i => keepc hLe (by') (by (try simp) <;> omega) i
            have kf := fun i => keepf hLe (by') (by (try simp) <;> omega) i
            have kc := fun i => keepc hLe (w1.heap.size) (by (try simp) <;> omega) i
            have kf := fun i => keepf hLe (w1.heap.size) (by (try simp) <;> omega) i
            have kc := fun i => keepc hLe (w1.heap.size + 1) (by (try simp) <;> omega) i
            have kf := fun i => keepf hLe (w1.heap.size + 1) (by (try simp) <;> omega) i
            have kc := fun i => keepc hLe (w2.heap.size) (by (try simp) <;> omega) i
            have kf := fun i => keepf hLe (w2.heap.size) (by (try simp) <;> omega) i
            refine wpOp_yes rfl rfl rfl e81 (fun K hK => ?_)
            go_simp
            exact hK _ _ ⟨rfl, Below.refl _ _⟩
          apply still_cons
          · intro a' w' hLe hfr hdep
            have e81 := hdep 33 81 (Nat.le_of_ble_eq_true rfl) rfl rfl
            conv at e81 => rhs; whnf
            have f81 := e81; simp only [Array.getD_eq_getD_getElem?] at f81
            have e4 := hfr 4 rfl
            conv at e4 => rhs; whnf
            have f4 := e4; simp only [Array.getD_eq_getD_getElem?] at f4
            have kc := fun i => keepc hLe (b) (by (try simp) <;> omega) i
            have kf := fun i => keepf hLe (b) (by (try simp) <;> omega) i
            have kc := fun i => keepc hLe (by') (by (try simp) <;> omega) i
            have kf := fun i => keepf hLe (by') (by (try simp) <;> omega) i
            have kc := fun i => keepc hLe (w1.heap.size) (by (try simp) <;> omega) i
            have kf := fun i => keepf hLe (w1.heap.size) (by (try simp) <;> omega) i
            have kc := fun i => keepc hLe (w1.heap.size + 1) (by (try simp) <;> omega) i
            have kf := fun i => keepf hLe (w1.heap.size + 1) (by (try simp) <;> omega) i
            have kc := fun i => keepc hLe (w2.heap.size) (by (try simp) <;> omega) i
            have kf := fun i => keepf hLe (w2.heap.size) (by (try simp) <;> omega) i
            refine wpOp_yes rfl rfl rfl e81 (fun K hK => ?_)
            go_simp
            exact hK _ _ ⟨rfl, Below.refl _ _⟩
          apply still_cons
          · intro a' w' hLe hfr hdep
            have e81 := hdep 33 81 (Nat.le_of_ble_eq_true rfl) rfl rfl
            conv at e81 => rhs; whnf
            have f81 := e81; simp only [Array.getD_eq_getD_getElem?] at f81
            have e86 := hdep 38 86 (Nat.le_of_ble_eq_true rfl) rfl rfl
            conv at e86 => rhs; whnf
            have f86 := e86; simp only [Array.getD_eq_getD_getElem?] at f86
            have e87 := hdep 39 87 (Nat.le_of_ble_eq_true rfl) rfl rfl
            conv at e87 => rhs; whnf
            have f87 := e87; simp only [Array.getD_eq_getD_getElem?] at f87
            refine wpOp_yes rfl rfl rfl e81 (fun K hK => ?_)
            go_simp
            exact hK _ _ ⟨rfl, Below.refl _ _⟩
          apply still_cons
          · intro a' w' hLe hfr hdep
            have e77 := hdep 29 77 (Nat.le_of_ble_eq_true rfl) rfl rfl
            conv at e77 => rhs; whnf
            have f77 := e77; simp only [Array.getD_eq_getD_getElem?] at f77
            have e81 := hdep 33 81 (Nat.le_of_ble_eq_true rfl) rfl rfl
            conv at e81 => rhs; whnf
            have f81 := e81; simp only [Array.getD_eq_getD_getElem?] at f81
            have e88 := hdep 40 88 (Nat.le_of_ble_eq_true rfl) rfl rfl
            conv at e88 => rhs; whnf
            have f88 := e88; simp only [Array.getD_eq_getD_getElem?] at f88
            refine wpOp_yes rfl rfl rfl e77 (fun K hK => ?_)
            go_simp
            exact hK _ _ ⟨rfl, Below.refl _ _⟩
          apply still_cons
          · intro a' w' hLe hfr hdep
            have e77 := hdep 29 77 (Nat.le_of_ble_eq_true rfl) rfl rfl
            conv at e77 => rhs; whnf
            have f77 := e77; simp only [Array.getD_eq_getD_getElem?] at f77
            have e89 := hdep 41 89 (Nat.le_of_ble_eq_true rfl) rfl rfl
            conv at e89 => rhs; whnf
            have f89 := e89; simp only [Array.getD_eq_getD_getElem?] at f89
            refine wpOp_plain rfl rfl (fun K hK => ?_)
            go_simp
            exact hK _ _ ⟨rfl, Below.refl _ _⟩
          apply still_nil
          intro w9 hb9
          simp only [putAll, List.drop_succ_cons, List.drop_zero]
          go_simp
          clear q0 q1 q2 q3 q4 s0 s1 s2 s3 s4
          go_wp2
          go_roundw
          case rel => exact ⟨k + 1, by omega, by go_num, Below.tr hBw hb9⟩
          case measure => simp [intOf]; omega
        · have q0 : wr.cell? ⟨b, k * 5, none⟩ = some (.int .i64 (f0 k)) := ((keepc hBw b (by omega) _).trans (X0))
          have q1 : wr.cell? ⟨b, k * 5 + 1, none⟩ = some (.int .i64 (f1 k)) := ((keepc hBw b (by omega) _).trans (X1))
          have q2 : wr.cell? ⟨b, k * 5 + 2, none⟩ = some (.int .i64 (f2 k)) := ((keepc hBw b (by omega) _).trans (X2))
          have q3 : wr.cell? ⟨b, k * 5 + 3, none⟩ = some (.int .i64 (f3 k)) := ((keepc hBw b (by omega) _).trans (X3))
          have q4 : wr.cell? ⟨b, k * 5 + 4, none⟩ = some (.int .i64 (f4 k)) := ((keepc hBw b (by omega) _).trans (X4))
          have s0 : wr.cell? ⟨by', oy + k * 5, none⟩ = some (.int .i64 (f0 k)) := ((keepc hBw by' (by omega) _).trans (ry 0 _ rfl)).trans (by simp [Rs0])
          have s1 : wr.cell? ⟨by', oy + k * 5 + 1, none⟩ = some (.int .i64 (f1 k)) := ((keepc hBw by' (by omega) _).trans (ry 1 _ rfl)).trans (by simp [Rs1])
          have s2 : wr.cell? ⟨by', oy + k * 5 + 2, none⟩ = some (.int .i64 (f2 k)) := ((keepc hBw by' (by omega) _).trans (ry 2 _ rfl)).trans (by simp [Rs2])
          have s3 : wr.cell? ⟨by', oy + k * 5 + 3, none⟩ = some (.int .i64 (f3 k)) := ((keepc hBw by' (by omega) _).trans (ry 3 _ rfl)).trans (by simp [Rs3])
          have s4 : wr.cell? ⟨by', oy + k * 5 + 4, none⟩ = some (.int .i64 (f4 k)) := ((keepc hBw by' (by omega) _).trans (ry 4 _ rfl)).trans (by simp [Rs4])
          have r58 : ∀ W, (binOp .neq 39 (.agg #[.int .i64 (f0 k), .int .i64 (f1 k), .int .i64 (f2 k), .int .i64 (f3 k), .int .i64 (f4 k)]) (.agg #[.int .i64 (f0 k), .int .i64 (f1 k), .int .i64 (f2 k), .int .i64 (f3 k), .int .i64 (f4 k)])).run Try.prog W = .ok (.bool false) W := fun W => binOp_neq (v := true) ((eql_flow _ _ _ _ _ _ _ _ _ _ W).trans (by simp))
          have r80 : ∀ W, (binOp .neq 39 (.agg #[.int .i64 (y0), .int .i64 (y1), .int .i64 (y2), .int .i64 (y3), .int .i64 (y4)]) (.agg #[.int .i64 (0), .int .i64 (0), .int .i64 (0), .int .i64 (0), .int .i64 (0)])).run Try.prog W = .ok (.bool false) W := fun W => binOp_neq (v := true) ((eql_flow _ _ _ _ _ _ _ _ _ _ W).trans (by rw [← hz]; rfl))
          clear hz Rs0 Rs1 Rs2 Rs3 Rs4
          clear hmn2 X0 X1 X2 X3 X4 hcx hcy rx ry k5 u5 k6 u6 k7 u7
          go_upto_region 12 with (fail)
          refine wp_region_still (ds := [(0, 48), (1, 49), (2, 50), (3, 51), (4, 52), (5, 53), (6, 54), (7, 55), (8, 56), (9, 57), (10, 58), (11, 59), (12, 60), (13, 61), (14, 62), (15, 63), (16, 64), (17, 65), (18, 66), (19, 67), (20, 68), (21, 69), (22, 70), (23, 71), (24, 72), (25, 73), (26, 74), (27, 75), (28, 76), (29, 77), (30, 78), (31, 79), (32, 80), (33, 81), (34, 82), (35, 83), (36, 84), (37, 85), (38, 86), (39, 87), (40, 88), (41, 89), (42, 90)]) 43 (by kernel_rfl) (by kernel_rfl) (by first | exact .inl rfl | exact .inr (by kernel_rfl)) (by rfl) rfl rfl ?_
          apply still_cons
          · intro a' w' hLe hfr hdep
            have e5 := hfr 5 rfl
            conv at e5 => rhs; whnf
            have f5 := e5; simp only [Array.getD_eq_getD_getElem?] at f5
            refine wpOp_plain rfl rfl (fun K hK => ?_)
            go_simp
            exact hK _ _ ⟨rfl, Below.refl _ _⟩
          apply still_cons
          · intro a' w' hLe hfr hdep
            have e48 := hdep 0 48 (Nat.le_of_ble_eq_true rfl) rfl rfl
            conv at e48 => rhs; whnf
            have f48 := e48; simp only [Array.getD_eq_getD_getElem?] at f48
            have kc := fun i => keepc hLe (b) (by (try simp) <;> omega) i
            have kf := fun i => keepf hLe (b) (by (try simp) <;> omega) i
            have kc := fun i => keepc hLe (by') (by (try simp) <;> omega) i
            have kf := fun i => keepf hLe (by') (by (try simp) <;> omega) i
            have kc := fun i => keepc hLe (w1.heap.size) (by (try simp) <;> omega) i
            have kf := fun i => keepf hLe (w1.heap.size) (by (try simp) <;> omega) i
            have kc := fun i => keepc hLe (w1.heap.size + 1) (by (try simp) <;> omega) i
            have kf := fun i => keepf hLe (w1.heap.size + 1) (by (try simp) <;> omega) i
            have kc := fun i => keepc hLe (w2.heap.size) (by (try simp) <;> omega) i
            have kf := fun i => keepf hLe (w2.heap.size) (by (try simp) <;> omega) i
            refine wpOp_plain rfl rfl (fun K hK => ?_)
            go_simp
            exact hK _ _ ⟨rfl, Below.refl _ _⟩
          apply still_cons
          · intro a' w' hLe hfr hdep
            have e6 := hfr 6 rfl
            conv at e6 => rhs; whnf
            have f6 := e6; simp only [Array.getD_eq_getD_getElem?] at f6
            refine wpOp_plain rfl rfl (fun K hK => ?_)
            go_simp
            exact hK _ _ ⟨rfl, Below.refl _ _⟩
          apply still_cons
          · intro a' w' hLe hfr hdep
            have e49 := hdep 1 49 (Nat.le_of_ble_eq_true rfl) rfl rfl
            conv at e49 => rhs; whnf
            have f49 := e49; simp only [Array.getD_eq_getD_getElem?] at f49
            have e50 := hdep 2 50 (Nat.le_of_ble_eq_true rfl) rfl rfl
            conv at e50 => rhs; whnf
            have f50 := e50; simp only [Array.getD_eq_getD_getElem?] at f50
            refine wpOp_plain rfl rfl (fun K hK => ?_)
            go_simp
            exact hK _ _ ⟨rfl, Below.refl _ _⟩
          apply still_cons
          · intro a' w' hLe hfr hdep
            have e51 := hdep 3 51 (Nat.le_of_ble_eq_true rfl) rfl rfl
            conv at e51 => rhs; whnf
            have f51 := e51; simp only [Array.getD_eq_getD_getElem?] at f51
            have kc := fun i => keepc hLe (b) (by (try simp) <;> omega) i
            have kf := fun i => keepf hLe (b) (by (try simp) <;> omega) i
            have kc := fun i => keepc hLe (by') (by (try simp) <;> omega) i
            have kf := fun i => keepf hLe (by') (by (try simp) <;> omega) i
            have kc := fun i => keepc hLe (w1.heap.size) (by (try simp) <;> omega) i
            have kf := fun i => keepf hLe (w1.heap.size) (by (try simp) <;> omega) i
            have kc := fun i => keepc hLe (w1.heap.size + 1) (by (try simp) <;> omega) i
            have kf := fun i => keepf hLe (w1.heap.size + 1) (by (try simp) <;> omega) i
            have kc := fun i => keepc hLe (w2.heap.size) (by (try simp) <;> omega) i
            have kf := fun i => keepf hLe (w2.heap.size) (by (try simp) <;> omega) i
            refine wpOp_plain rfl rfl (fun K hK => ?_)
            go_simp
            exact hK _ _ ⟨rfl, Below.refl _ _⟩
          apply still_cons
          · intro a' w' hLe hfr hdep
            have e3 := hfr 3 rfl
            conv at e3 => rhs; whnf
            have f3 := e3; simp only [Array.getD_eq_getD_getElem?] at f3
            refine wpOp_plain rfl rfl (fun K hK => ?_)
            go_simp
            exact hK _ _ ⟨rfl, Below.refl _ _⟩
          apply still_cons
          · intro a' w' hLe hfr hdep
            have e53 := hdep 5 53 (Nat.le_of_ble_eq_true rfl) rfl rfl
            conv at e53 => rhs; whnf
            have f53 := e53; simp only [Array.getD_eq_getD_getElem?] at f53
            have kc := fun i => keepc hLe (b) (by (try simp) <;> omega) i
            have kf := fun i => keepf hLe (b) (by (try simp) <;> omega) i
            have kc := fun i => keepc hLe (by') (by (try simp) <;> omega) i
            have kf := fun i => keepf hLe (by') (by (try simp) <;> omega) i
            have kc := fun i => keepc hLe (w1.heap.size) (by (try simp) <;> omega) i
            have kf := fun i => keepf hLe (w1.heap.size) (by (try simp) <;> omega) i
            have kc := fun i => keepc hLe (w1.heap.size + 1) (by (try simp) <;> omega) i
            have kf := fun i => keepf hLe (w1.heap.size + 1) (by (try simp) <;> omega) i
            have kc := fun i => keepc hLe (w2.heap.size) (by (try simp) <;> omega) i
            have kf := fun i => keepf hLe (w2.heap.size) (by (try simp) <;> omega) i
            refine wpOp_plain rfl rfl (fun K hK => ?_)
            go_simp
            exact hK _ _ ⟨rfl, Below.refl _ _⟩
          apply still_cons
          · intro a' w' hLe hfr hdep
            have e6 := hfr 6 rfl
            conv at e6 => rhs; whnf
            have f6 := e6; simp only [Array.getD_eq_getD_getElem?] at f6
            refine wpOp_plain rfl rfl (fun K hK => ?_)
            go_simp
            exact hK _ _ ⟨rfl, Below.refl _ _⟩
          apply still_cons
          · intro a' w' hLe hfr hdep
            have e54 := hdep 6 54 (Nat.le_of_ble_eq_true rfl) rfl rfl
            conv at e54 => rhs; whnf
            have f54 := e54; simp only [Array.getD_eq_getD_getElem?] at f54
            have e55 := hdep 7 55 (Nat.le_of_ble_eq_true rfl) rfl rfl
            conv at e55 => rhs; whnf
            have f55 := e55; simp only [Array.getD_eq_getD_getElem?] at f55
            refine wpOp_plain rfl rfl (fun K hK => ?_)
            go_simp
            exact hK _ _ ⟨rfl, Below.refl _ _⟩
          apply still_cons
          · intro a' w' hLe hfr hdep
            have e56 := hdep 8 56 (Nat.le_of_ble_eq_true rfl) rfl rfl
            conv at e56 => rhs; whnf
            have f56 := e56; simp only [Array.getD_eq_getD_getElem?] at f56
            have kc := fun i => keepc hLe (b) (by (try simp) <;> omega) i
            have kf := fun i => keepf hLe (b) (by (try simp) <;> omega) i
            have kc := fun i => keepc hLe (by') (by (try simp) <;> omega) i
            have kf := fun i => keepf hLe (by') (by (try simp) <;> omega) i
            have kc := fun i => keepc hLe (w1.heap.size) (by (try simp) <;> omega) i
            have kf := fun i => keepf hLe (w1.heap.size) (by (try simp) <;> omega) i
            have kc := fun i => keepc hLe (w1.heap.size + 1) (by (try simp) <;> omega) i
            have kf := fun i => keepf hLe (w1.heap.size + 1) (by (try simp) <;> omega) i
            have kc := fun i => keepc hLe (w2.heap.size) (by (try simp) <;> omega) i
            have kf := fun i => keepf hLe (w2.heap.size) (by (try simp) <;> omega) i
            refine wpOp_plain rfl rfl (fun K hK => ?_)
            go_simp
            exact hK _ _ ⟨rfl, Below.refl _ _⟩
          apply still_cons
          · intro a' w' hLe hfr hdep
            have e52 := hdep 4 52 (Nat.le_of_ble_eq_true rfl) rfl rfl
            conv at e52 => rhs; whnf
            have f52 := e52; simp only [Array.getD_eq_getD_getElem?] at f52
            have e57 := hdep 9 57 (Nat.le_of_ble_eq_true rfl) rfl rfl
            conv at e57 => rhs; whnf
            have f57 := e57; simp only [Array.getD_eq_getD_getElem?] at f57
            refine wpOp_plain rfl rfl (fun K hK => ?_)
            go_simp
            exact hK _ _ ⟨rfl, Below.refl _ _⟩
          apply still_cons
          · intro a' w' hLe hfr hdep
            have e58 := hdep 10 58 (Nat.le_of_ble_eq_true rfl) rfl rfl
            conv at e58 => rhs; whnf
            have f58 := e58; simp only [Array.getD_eq_getD_getElem?] at f58
            refine wpOp_plain rfl rfl (fun K hK => ?_)
            go_simp
            exact hK _ _ ⟨rfl, Below.refl _ _⟩
          apply still_cons
          · intro a' w' hLe hfr hdep
            have e59 := hdep 11 59 (Nat.le_of_ble_eq_true rfl) rfl rfl
            conv at e59 => rhs; whnf
            have f59 := e59; simp only [Array.getD_eq_getD_getElem?] at f59
            exact wpOp_no rfl rfl rfl e59 ⟨rfl, Below.refl _ _⟩
          apply still_cons
          · intro a' w' hLe hfr hdep
            have e59 := hdep 11 59 (Nat.le_of_ble_eq_true rfl) rfl rfl
            conv at e59 => rhs; whnf
            have f59 := e59; simp only [Array.getD_eq_getD_getElem?] at f59
            exact wpOp_no rfl rfl rfl e59 ⟨rfl, Below.refl _ _⟩
          apply still_cons
          · intro a' w' hLe hfr hdep
            have e59 := hdep 11 59 (Nat.le_of_ble_eq_true rfl) rfl rfl
            conv at e59 => rhs; whnf
            have f59 := e59; simp only [Array.getD_eq_getD_getElem?] at f59
            exact wpOp_no rfl rfl rfl e59 ⟨rfl, Below.refl _ _⟩
          apply still_cons
          · intro a' w' hLe hfr hdep
            have e59 := hdep 11 59 (Nat.le_of_ble_eq_true rfl) rfl rfl
            conv at e59 => rhs; whnf
            have f59 := e59; simp only [Array.getD_eq_getD_getElem?] at f59
            exact wpOp_no rfl rfl rfl e59 ⟨rfl, Below.refl _ _⟩
          apply still_cons
          · intro a' w' hLe hfr hdep
            have e59 := hdep 11 59 (Nat.le_of_ble_eq_true rfl) rfl rfl
            conv at e59 => rhs; whnf
            have f59 := e59; simp only [Array.getD_eq_getD_getElem?] at f59
            exact wpOp_no rfl rfl rfl e59 ⟨rfl, Below.refl _ _⟩
          apply still_cons
          · intro a' w' hLe hfr hdep
            have e59 := hdep 11 59 (Nat.le_of_ble_eq_true rfl) rfl rfl
            conv at e59 => rhs; whnf
            have f59 := e59; simp only [Array.getD_eq_getD_getElem?] at f59
            exact wpOp_no rfl rfl rfl e59 ⟨rfl, Below.refl _ _⟩
          apply still_cons
          · intro a' w' hLe hfr hdep
            have e59 := hdep 11 59 (Nat.le_of_ble_eq_true rfl) rfl rfl
            conv at e59 => rhs; whnf
            have f59 := e59; simp only [Array.getD_eq_getD_getElem?] at f59
            exact wpOp_no rfl rfl rfl e59 ⟨rfl, Below.refl _ _⟩
          apply still_cons
          · intro a' w' hLe hfr hdep
            have e59 := hdep 11 59 (Nat.le_of_ble_eq_true rfl) rfl rfl
            conv at e59 => rhs; whnf
            have f59 := e59; simp only [Array.getD_eq_getD_getElem?] at f59
            exact wpOp_no rfl rfl rfl e59 ⟨rfl, Below.refl _ _⟩
          apply still_cons
          · intro a' w' hLe hfr hdep
            have e67 := hdep 19 67 (Nat.le_of_ble_eq_true rfl) rfl rfl
            conv at e67 => rhs; whnf
            have f67 := e67; simp only [Array.getD_eq_getD_getElem?] at f67
            exact wpOp_un rfl rfl rfl e67 ⟨rfl, Below.refl _ _⟩
          apply still_cons
          · intro a' w' hLe hfr hdep
            have e67 := hdep 19 67 (Nat.le_of_ble_eq_true rfl) rfl rfl
            conv at e67 => rhs; whnf
            have f67 := e67; simp only [Array.getD_eq_getD_getElem?] at f67
            exact wpOp_un rfl rfl rfl e67 ⟨rfl, Below.refl _ _⟩
          apply still_cons
          · intro a' w' hLe hfr hdep
            have e67 := hdep 19 67 (Nat.le_of_ble_eq_true rfl) rfl rfl
            conv at e67 => rhs; whnf
            have f67 := e67; simp only [Array.getD_eq_getD_getElem?] at f67
            exact wpOp_un rfl rfl rfl e67 ⟨rfl, Below.refl _ _⟩
          apply still_cons
          · intro a' w' hLe hfr hdep
            have e67 := hdep 19 67 (Nat.le_of_ble_eq_true rfl) rfl rfl
            conv at e67 => rhs; whnf
            have f67 := e67; simp only [Array.getD_eq_getD_getElem?] at f67
            exact wpOp_un rfl rfl rfl e67 ⟨rfl, Below.refl _ _⟩
          apply still_cons
          · intro a' w' hLe hfr hdep
            have e67 := hdep 19 67 (Nat.le_of_ble_eq_true rfl) rfl rfl
            conv at e67 => rhs; whnf
            have f67 := e67; simp only [Array.getD_eq_getD_getElem?] at f67
            exact wpOp_un rfl rfl rfl e67 ⟨rfl, Below.refl _ _⟩
          apply still_cons
          · intro a' w' hLe hfr hdep
            have e67 := hdep 19 67 (Nat.le_of_ble_eq_true rfl) rfl rfl
            conv at e67 => rhs; whnf
            have f67 := e67; simp only [Array.getD_eq_getD_getElem?] at f67
            exact wpOp_un rfl rfl rfl e67 ⟨rfl, Below.refl _ _⟩
          apply still_cons
          · intro a' w' hLe hfr hdep
            have e67 := hdep 19 67 (Nat.le_of_ble_eq_true rfl) rfl rfl
            conv at e67 => rhs; whnf
            have f67 := e67; simp only [Array.getD_eq_getD_getElem?] at f67
            exact wpOp_un rfl rfl rfl e67 ⟨rfl, Below.refl _ _⟩
          apply still_cons
          · intro a' w' hLe hfr hdep
            have e59 := hdep 11 59 (Nat.le_of_ble_eq_true rfl) rfl rfl
            conv at e59 => rhs; whnf
            have f59 := e59; simp only [Array.getD_eq_getD_getElem?] at f59
            exact wpOp_no rfl rfl rfl e59 ⟨rfl, Below.refl _ _⟩
          apply still_cons
          · intro a' w' hLe hfr hdep
            have e59 := hdep 11 59 (Nat.le_of_ble_eq_true rfl) rfl rfl
            conv at e59 => rhs; whnf
            have f59 := e59; simp only [Array.getD_eq_getD_getElem?] at f59
            have e75 := hdep 27 75 (Nat.le_of_ble_eq_true rfl) rfl rfl
            conv at e75 => rhs; whnf
            have f75 := e75; simp only [Array.getD_eq_getD_getElem?] at f75
            refine wpOp_plain rfl rfl (fun K hK => ?_)
            go_simp
            exact hK _ _ ⟨rfl, Below.refl _ _⟩
          apply still_cons
          · intro a' w' hLe hfr hdep
            have e76 := hdep 28 76 (Nat.le_of_ble_eq_true rfl) rfl rfl
            conv at e76 => rhs; whnf
            have f76 := e76; simp only [Array.getD_eq_getD_getElem?] at f76
            refine wpOp_plain rfl rfl (fun K hK => ?_)
            go_simp
            exact hK _ _ ⟨rfl, Below.refl _ _⟩
          apply still_cons
          · intro a' w' hLe hfr hdep
            have e77 := hdep 29 77 (Nat.le_of_ble_eq_true rfl) rfl rfl
            conv at e77 => rhs; whnf
            have f77 := e77; simp only [Array.getD_eq_getD_getElem?] at f77
            have e4 := hfr 4 rfl
            conv at e4 => rhs; whnf
            have f4 := e4; simp only [Array.getD_eq_getD_getElem?] at f4
            have kc := fun i => keepc hLe (b) (by (try simp) <;> omega) i
            have kf := fun i => keepf hLe (b) (by (try simp) <;> omega) i
            have kc := fun i => keepc hLe (by') (by (try simp) <;> omega) i
            have kf := fun i => keepf hLe (by') (by (try simp) <;> omega) i
            have kc := fun i => keepc hLe (w1.heap.size) (by (try simp) <;> omega) i
            have kf := fun i => keepf hLe (w1.heap.size) (by (try simp) <;> omega) i
            have kc := fun i => keepc hLe (w1.heap.size + 1) (by (try simp) <;> omega) i
            have kf := fun i => keepf hLe (w1.heap.size + 1) (by (try simp) <;> omega) i
            have kc := fun i => keepc hLe (w2.heap.size) (by (try simp) <;> omega) i
            have kf := fun i => keepf hLe (w2.heap.size) (by (try simp) <;> omega) i
            refine wpOp_yes rfl rfl rfl e77 (fun K hK => ?_)
            go_simp
            exact hK _ _ ⟨rfl, Below.refl _ _⟩
          apply still_cons
          · intro a' w' hLe hfr hdep
            have e77 := hdep 29 77 (Nat.le_of_ble_eq_true rfl) rfl rfl
            conv at e77 => rhs; whnf
            have f77 := e77; simp only [Array.getD_eq_getD_getElem?] at f77
            refine wpOp_yes rfl rfl rfl e77 (fun K hK => ?_)
            go_simp
            exact hK _ _ ⟨rfl, Below.refl _ _⟩
          apply still_cons
          · intro a' w' hLe hfr hdep
            have e77 := hdep 29 77 (Nat.le_of_ble_eq_true rfl) rfl rfl
            conv at e77 => rhs; whnf
            have f77 := e77; simp only [Array.getD_eq_getD_getElem?] at f77
            have e78 := hdep 30 78 (Nat.le_of_ble_eq_true rfl) rfl rfl
            conv at e78 => rhs; whnf
            have f78 := e78; simp only [Array.getD_eq_getD_getElem?] at f78
            have e79 := hdep 31 79 (Nat.le_of_ble_eq_true rfl) rfl rfl
            conv at e79 => rhs; whnf
            have f79 := e79; simp only [Array.getD_eq_getD_getElem?] at f79
            refine wpOp_yes rfl rfl rfl e77 (fun K hK => ?_)
            go_simp
            exact hK _ _ ⟨rfl, Below.refl _ _⟩
          apply still_cons
          · intro a' w' hLe hfr hdep
            have e77 := hdep 29 77 (Nat.le_of_ble_eq_true rfl) rfl rfl
            conv at e77 => rhs; whnf
            have f77 := e77; simp only [Array.getD_eq_getD_getElem?] at f77
            have e80 := hdep 32 80 (Nat.le_of_ble_eq_true rfl) rfl rfl
            conv at e80 => rhs; whnf
            have f80 := e80; simp only [Array.getD_eq_getD_getElem?] at f80
            refine wpOp_yes rfl rfl rfl e77 (fun K hK => ?_)
            go_simp
            exact hK _ _ ⟨rfl, Below.refl _ _⟩
          apply still_cons
          · intro a' w' hLe hfr hdep
            have e81 := hdep 33 81 (Nat.le_of_ble_eq_true rfl) rfl rfl
            conv at e81 => rhs; whnf
            have f81 := e81; simp only [Array.getD_eq_getD_getElem?] at f81
            exact wpOp_no rfl rfl rfl e81 ⟨rfl, Below.refl _ _⟩
          apply still_cons
          · intro a' w' hLe hfr hdep
            have e81 := hdep 33 81 (Nat.le_of_ble_eq_true rfl) rfl rfl
            conv at e81 => rhs; whnf
            have f81 := e81; simp only [Array.getD_eq_getD_getElem?] at f81
            exact wpOp_no rfl rfl rfl e81 ⟨rfl, Below.refl _ _⟩
          apply still_cons
          · intro a' w' hLe hfr hdep
            have e81 := hdep 33 81 (Nat.le_of_ble_eq_true rfl) rfl rfl
            conv at e81 => rhs; whnf
            have f81 := e81; simp only [Array.getD_eq_getD_getElem?] at f81
            exact wpOp_no rfl rfl rfl e81 ⟨rfl, Below.refl _ _⟩
          apply still_cons
          · intro a' w' hLe hfr hdep
            have e81 := hdep 33 81 (Nat.le_of_ble_eq_true rfl) rfl rfl
            conv at e81 => rhs; whnf
            have f81 := e81; simp only [Array.getD_eq_getD_getElem?] at f81
            exact wpOp_no rfl rfl rfl e81 ⟨rfl, Below.refl _ _⟩
          apply still_cons
          · intro a' w' hLe hfr hdep
            have e81 := hdep 33 81 (Nat.le_of_ble_eq_true rfl) rfl rfl
            conv at e81 => rhs; whnf
            have f81 := e81; simp only [Array.getD_eq_getD_getElem?] at f81
            exact wpOp_no rfl rfl rfl e81 ⟨rfl, Below.refl _ _⟩
          apply still_cons
          · intro a' w' hLe hfr hdep
            have e81 := hdep 33 81 (Nat.le_of_ble_eq_true rfl) rfl rfl
            conv at e81 => rhs; whnf
            have f81 := e81; simp only [Array.getD_eq_getD_getElem?] at f81
            exact wpOp_no rfl rfl rfl e81 ⟨rfl, Below.refl _ _⟩
          apply still_cons
          · intro a' w' hLe hfr hdep
            have e81 := hdep 33 81 (Nat.le_of_ble_eq_true rfl) rfl rfl
            conv at e81 => rhs; whnf
            have f81 := e81; simp only [Array.getD_eq_getD_getElem?] at f81
            exact wpOp_no rfl rfl rfl e81 ⟨rfl, Below.refl _ _⟩
          apply still_cons
          · intro a' w' hLe hfr hdep
            have e77 := hdep 29 77 (Nat.le_of_ble_eq_true rfl) rfl rfl
            conv at e77 => rhs; whnf
            have f77 := e77; simp only [Array.getD_eq_getD_getElem?] at f77
            have e81 := hdep 33 81 (Nat.le_of_ble_eq_true rfl) rfl rfl
            conv at e81 => rhs; whnf
            have f81 := e81; simp only [Array.getD_eq_getD_getElem?] at f81
            have e88 := hdep 40 88 (Nat.le_of_ble_eq_true rfl) rfl rfl
            conv at e88 => rhs; whnf
            have f88 := e88; simp only [Array.getD_eq_getD_getElem?] at f88
            refine wpOp_yes rfl rfl rfl e77 (fun K hK => ?_)
            go_simp
            exact hK _ _ ⟨rfl, Below.refl _ _⟩
          apply still_cons
          · intro a' w' hLe hfr hdep
            have e77 := hdep 29 77 (Nat.le_of_ble_eq_true rfl) rfl rfl
            conv at e77 => rhs; whnf
            have f77 := e77; simp only [Array.getD_eq_getD_getElem?] at f77
            have e89 := hdep 41 89 (Nat.le_of_ble_eq_true rfl) rfl rfl
            conv at e89 => rhs; whnf
            have f89 := e89; simp only [Array.getD_eq_getD_getElem?] at f89
            refine wpOp_plain rfl rfl (fun K hK => ?_)
            go_simp
            exact hK _ _ ⟨rfl, Below.refl _ _⟩
          apply still_nil
          intro w9 hb9
          simp only [putAll, List.drop_succ_cons, List.drop_zero]
          go_simp
          clear q0 q1 q2 q3 q4 s0 s1 s2 s3 s4
          go_wp2
          go_roundw
          case rel => exact ⟨k + 1, by omega, by go_num, Below.tr hBw hb9⟩
          case measure => simp [intOf]; omega
        · have q0 : wr.cell? ⟨b, k * 5, none⟩ = some (.int .i64 (f0 k)) := ((keepc hBw b (by omega) _).trans (X0))
          have q1 : wr.cell? ⟨b, k * 5 + 1, none⟩ = some (.int .i64 (f1 k)) := ((keepc hBw b (by omega) _).trans (X1))
          have q2 : wr.cell? ⟨b, k * 5 + 2, none⟩ = some (.int .i64 (f2 k)) := ((keepc hBw b (by omega) _).trans (X2))
          have q3 : wr.cell? ⟨b, k * 5 + 3, none⟩ = some (.int .i64 (f3 k)) := ((keepc hBw b (by omega) _).trans (X3))
          have q4 : wr.cell? ⟨b, k * 5 + 4, none⟩ = some (.int .i64 (f4 k)) := ((keepc hBw b (by omega) _).trans (X4))
          have s0 : wr.cell? ⟨by', oy + k * 5, none⟩ = some (.int .i64 (f0 k)) := ((keepc hBw by' (by omega) _).trans (ry 0 _ rfl)).trans (by simp [Rs0])
          have s1 : wr.cell? ⟨by', oy + k * 5 + 1, none⟩ = some (.int .i64 (f1 k)) := ((keepc hBw by' (by omega) _).trans (ry 1 _ rfl)).trans (by simp [Rs1])
          have s2 : wr.cell? ⟨by', oy + k * 5 + 2, none⟩ = some (.int .i64 (f2 k)) := ((keepc hBw by' (by omega) _).trans (ry 2 _ rfl)).trans (by simp [Rs2])
          have s3 : wr.cell? ⟨by', oy + k * 5 + 3, none⟩ = some (.int .i64 (f3 k)) := ((keepc hBw by' (by omega) _).trans (ry 3 _ rfl)).trans (by simp [Rs3])
          have s4 : wr.cell? ⟨by', oy + k * 5 + 4, none⟩ = some (.int .i64 (f4 k)) := ((keepc hBw by' (by omega) _).trans (ry 4 _ rfl)).trans (by simp [Rs4])
          have r58 : ∀ W, (binOp .neq 39 (.agg #[.int .i64 (f0 k), .int .i64 (f1 k), .int .i64 (f2 k), .int .i64 (f3 k), .int .i64 (f4 k)]) (.agg #[.int .i64 (f0 k), .int .i64 (f1 k), .int .i64 (f2 k), .int .i64 (f3 k), .int .i64 (f4 k)])).run Try.prog W = .ok (.bool false) W := fun W => binOp_neq (v := true) ((eql_flow _ _ _ _ _ _ _ _ _ _ W).trans (by simp))
          have r80 : ∀ W, (binOp .neq 39 (.agg #[.int .i64 (y0), .int .i64 (y1), .int .i64 (y2), .int .i64 (y3), .int .i64 (y4)]) (.agg #[.int .i64 (0), .int .i64 (0), .int .i64 (0), .int .i64 (0), .int .i64 (0)])).run Try.prog W = .ok (.bool true) W := fun W => binOp_neq (v := false) ((eql_flow _ _ _ _ _ _ _ _ _ _ W).trans (by rw [← hz]; rfl))
          have r88 : ∀ W, (binOp .eql 39 (.agg #[.int .i64 (f0 k), .int .i64 (f1 k), .int .i64 (f2 k), .int .i64 (f3 k), .int .i64 (f4 k)]) (.agg #[.int .i64 (y0), .int .i64 (y1), .int .i64 (y2), .int .i64 (y3), .int .i64 (y4)])).run Try.prog W = .ok (.bool false) W := fun W => (eql_flow _ _ _ _ _ _ _ _ _ _ W).trans (by rw [← hf]; rfl)
          clear hz hf Rs0 Rs1 Rs2 Rs3 Rs4
          clear hmn2 X0 X1 X2 X3 X4 hcx hcy rx ry k5 u5 k6 u6 k7 u7
          go_upto_region 12 with (fail)
          refine wp_region_still (ds := [(0, 48), (1, 49), (2, 50), (3, 51), (4, 52), (5, 53), (6, 54), (7, 55), (8, 56), (9, 57), (10, 58), (11, 59), (12, 60), (13, 61), (14, 62), (15, 63), (16, 64), (17, 65), (18, 66), (19, 67), (20, 68), (21, 69), (22, 70), (23, 71), (24, 72), (25, 73), (26, 74), (27, 75), (28, 76), (29, 77), (30, 78), (31, 79), (32, 80), (33, 81), (34, 82), (35, 83), (36, 84), (37, 85), (38, 86), (39, 87), (40, 88), (41, 89), (42, 90)]) 43 (by kernel_rfl) (by kernel_rfl) (by first | exact .inl rfl | exact .inr (by kernel_rfl)) (by rfl) rfl rfl ?_
          apply still_cons
          · intro a' w' hLe hfr hdep
            have e5 := hfr 5 rfl
            conv at e5 => rhs; whnf
            have f5 := e5; simp only [Array.getD_eq_getD_getElem?] at f5
            refine wpOp_plain rfl rfl (fun K hK => ?_)
            go_simp
            exact hK _ _ ⟨rfl, Below.refl _ _⟩
          apply still_cons
          · intro a' w' hLe hfr hdep
            have e48 := hdep 0 48 (Nat.le_of_ble_eq_true rfl) rfl rfl
            conv at e48 => rhs; whnf
            have f48 := e48; simp only [Array.getD_eq_getD_getElem?] at f48
            have kc := fun i => keepc hLe (b) (by (try simp) <;> omega) i
            have kf := fun i => keepf hLe (b) (by (try simp) <;> omega) i
            have kc := fun i => keepc hLe (by') (by (try simp) <;> omega) i
            have kf := fun i => keepf hLe (by') (by (try simp) <;> omega) i
            have kc := fun i => keepc hLe (w1.heap.size) (by (try simp) <;> omega) i
            have kf := fun i => keepf hLe (w1.heap.size) (by (try simp) <;> omega) i
            have kc := fun i => keepc hLe (w1.heap.size + 1) (by (try simp) <;> omega) i
            have kf := fun i => keepf hLe (w1.heap.size + 1) (by (try simp) <;> omega) i
            have kc := fun i => keepc hLe (w2.heap.size) (by (try simp) <;> omega) i
            have kf := fun i => keepf hLe (w2.heap.size) (by (try simp) <;> omega) i
            refine wpOp_plain rfl rfl (fun K hK => ?_)
            go_simp
            exact hK _ _ ⟨rfl, Below.refl _ _⟩
          apply still_cons
          · intro a' w' hLe hfr hdep
            have e6 := hfr 6 rfl
            conv at e6 => rhs; whnf
            have f6 := e6; simp only [Array.getD_eq_getD_getElem?] at f6
            refine wpOp_plain rfl rfl (fun K hK => ?_)
            go_simp
            exact hK _ _ ⟨rfl, Below.refl _ _⟩
          apply still_cons
          · intro a' w' hLe hfr hdep
            have e49 := hdep 1 49 (Nat.le_of_ble_eq_true rfl) rfl rfl
            conv at e49 => rhs; whnf
            have f49 := e49; simp only [Array.getD_eq_getD_getElem?] at f49
            have e50 := hdep 2 50 (Nat.le_of_ble_eq_true rfl) rfl rfl
            conv at e50 => rhs; whnf
            have f50 := e50; simp only [Array.getD_eq_getD_getElem?] at f50
            refine wpOp_plain rfl rfl (fun K hK => ?_)
            go_simp
            exact hK _ _ ⟨rfl, Below.refl _ _⟩
          apply still_cons
          · intro a' w' hLe hfr hdep
            have e51 := hdep 3 51 (Nat.le_of_ble_eq_true rfl) rfl rfl
            conv at e51 => rhs; whnf
            have f51 := e51; simp only [Array.getD_eq_getD_getElem?] at f51
            have kc := fun i => keepc hLe (b) (by (try simp) <;> omega) i
            have kf := fun i => keepf hLe (b) (by (try simp) <;> omega) i
            have kc := fun i => keepc hLe (by') (by (try simp) <;> omega) i
            have kf := fun i => keepf hLe (by') (by (try simp) <;> omega) i
            have kc := fun i => keepc hLe (w1.heap.size) (by (try simp) <;> omega) i
            have kf := fun i => keepf hLe (w1.heap.size) (by (try simp) <;> omega) i
            have kc := fun i => keepc hLe (w1.heap.size + 1) (by (try simp) <;> omega) i
            have kf := fun i => keepf hLe (w1.heap.size + 1) (by (try simp) <;> omega) i
            have kc := fun i => keepc hLe (w2.heap.size) (by (try simp) <;> omega) i
            have kf := fun i => keepf hLe (w2.heap.size) (by (try simp) <;> omega) i
            refine wpOp_plain rfl rfl (fun K hK => ?_)
            go_simp
            exact hK _ _ ⟨rfl, Below.refl _ _⟩
          apply still_cons
          · intro a' w' hLe hfr hdep
            have e3 := hfr 3 rfl
            conv at e3 => rhs; whnf
            have f3 := e3; simp only [Array.getD_eq_getD_getElem?] at f3
            refine wpOp_plain rfl rfl (fun K hK => ?_)
            go_simp
            exact hK _ _ ⟨rfl, Below.refl _ _⟩
          apply still_cons
          · intro a' w' hLe hfr hdep
            have e53 := hdep 5 53 (Nat.le_of_ble_eq_true rfl) rfl rfl
            conv at e53 => rhs; whnf
            have f53 := e53; simp only [Array.getD_eq_getD_getElem?] at f53
            have kc := fun i => keepc hLe (b) (by (try simp) <;> omega) i
            have kf := fun i => keepf hLe (b) (by (try simp) <;> omega) i
            have kc := fun i => keepc hLe (by') (by (try simp) <;> omega) i
            have kf := fun i => keepf hLe (by') (by (try simp) <;> omega) i
            have kc := fun i => keepc hLe (w1.heap.size) (by (try simp) <;> omega) i
            have kf := fun i => keepf hLe (w1.heap.size) (by (try simp) <;> omega) i
            have kc := fun i => keepc hLe (w1.heap.size + 1) (by (try simp) <;> omega) i
            have kf := fun i => keepf hLe (w1.heap.size + 1) (by (try simp) <;> omega) i
            have kc := fun i => keepc hLe (w2.heap.size) (by (try simp) <;> omega) i
            have kf := fun i => keepf hLe (w2.heap.size) (by (try simp) <;> omega) i
            refine wpOp_plain rfl rfl (fun K hK => ?_)
            go_simp
            exact hK _ _ ⟨rfl, Below.refl _ _⟩
          apply still_cons
          · intro a' w' hLe hfr hdep
            have e6 := hfr 6 rfl
            conv at e6 => rhs; whnf
            have f6 := e6; simp only [Array.getD_eq_getD_getElem?] at f6
            refine wpOp_plain rfl rfl (fun K hK => ?_)
            go_simp
            exact hK _ _ ⟨rfl, Below.refl _ _⟩
          apply still_cons
          · intro a' w' hLe hfr hdep
            have e54 := hdep 6 54 (Nat.le_of_ble_eq_true rfl) rfl rfl
            conv at e54 => rhs; whnf
            have f54 := e54; simp only [Array.getD_eq_getD_getElem?] at f54
            have e55 := hdep 7 55 (Nat.le_of_ble_eq_true rfl) rfl rfl
            conv at e55 => rhs; whnf
            have f55 := e55; simp only [Array.getD_eq_getD_getElem?] at f55
            refine wpOp_plain rfl rfl (fun K hK => ?_)
            go_simp
            exact hK _ _ ⟨rfl, Below.refl _ _⟩
          apply still_cons
          · intro a' w' hLe hfr hdep
            have e56 := hdep 8 56 (Nat.le_of_ble_eq_true rfl) rfl rfl
            conv at e56 => rhs; whnf
            have f56 := e56; simp only [Array.getD_eq_getD_getElem?] at f56
            have kc := fun i => keepc hLe (b) (by (try simp) <;> omega) i
            have kf := fun i => keepf hLe (b) (by (try simp) <;> omega) i
            have kc := fun i => keepc hLe (by') (by (try simp) <;> omega) i
            have kf := fun i => keepf hLe (by') (by (try simp) <;> omega) i
            have kc := fun i => keepc hLe (w1.heap.size) (by (try simp) <;> omega) i
            have kf := fun i => keepf hLe (w1.heap.size) (by (try simp) <;> omega) i
            have kc := fun i => keepc hLe (w1.heap.size + 1) (by (try simp) <;> omega) i
            have kf := fun i => keepf hLe (w1.heap.size + 1) (by (try simp) <;> omega) i
            have kc := fun i => keepc hLe (w2.heap.size) (by (try simp) <;> omega) i
            have kf := fun i => keepf hLe (w2.heap.size) (by (try simp) <;> omega) i
            refine wpOp_plain rfl rfl (fun K hK => ?_)
            go_simp
            exact hK _ _ ⟨rfl, Below.refl _ _⟩
          apply still_cons
          · intro a' w' hLe hfr hdep
            have e52 := hdep 4 52 (Nat.le_of_ble_eq_true rfl) rfl rfl
            conv at e52 => rhs; whnf
            have f52 := e52; simp only [Array.getD_eq_getD_getElem?] at f52
            have e57 := hdep 9 57 (Nat.le_of_ble_eq_true rfl) rfl rfl
            conv at e57 => rhs; whnf
            have f57 := e57; simp only [Array.getD_eq_getD_getElem?] at f57
            refine wpOp_plain rfl rfl (fun K hK => ?_)
            go_simp
            exact hK _ _ ⟨rfl, Below.refl _ _⟩
          apply still_cons
          · intro a' w' hLe hfr hdep
            have e58 := hdep 10 58 (Nat.le_of_ble_eq_true rfl) rfl rfl
            conv at e58 => rhs; whnf
            have f58 := e58; simp only [Array.getD_eq_getD_getElem?] at f58
            refine wpOp_plain rfl rfl (fun K hK => ?_)
            go_simp
            exact hK _ _ ⟨rfl, Below.refl _ _⟩
          apply still_cons
          · intro a' w' hLe hfr hdep
            have e59 := hdep 11 59 (Nat.le_of_ble_eq_true rfl) rfl rfl
            conv at e59 => rhs; whnf
            have f59 := e59; simp only [Array.getD_eq_getD_getElem?] at f59
            exact wpOp_no rfl rfl rfl e59 ⟨rfl, Below.refl _ _⟩
          apply still_cons
          · intro a' w' hLe hfr hdep
            have e59 := hdep 11 59 (Nat.le_of_ble_eq_true rfl) rfl rfl
            conv at e59 => rhs; whnf
            have f59 := e59; simp only [Array.getD_eq_getD_getElem?] at f59
            exact wpOp_no rfl rfl rfl e59 ⟨rfl, Below.refl _ _⟩
          apply still_cons
          · intro a' w' hLe hfr hdep
            have e59 := hdep 11 59 (Nat.le_of_ble_eq_true rfl) rfl rfl
            conv at e59 => rhs; whnf
            have f59 := e59; simp only [Array.getD_eq_getD_getElem?] at f59
            exact wpOp_no rfl rfl rfl e59 ⟨rfl, Below.refl _ _⟩
          apply still_cons
          · intro a' w' hLe hfr hdep
            have e59 := hdep 11 59 (Nat.le_of_ble_eq_true rfl) rfl rfl
            conv at e59 => rhs; whnf
            have f59 := e59; simp only [Array.getD_eq_getD_getElem?] at f59
            exact wpOp_no rfl rfl rfl e59 ⟨rfl, Below.refl _ _⟩
          apply still_cons
          · intro a' w' hLe hfr hdep
            have e59 := hdep 11 59 (Nat.le_of_ble_eq_true rfl) rfl rfl
            conv at e59 => rhs; whnf
            have f59 := e59; simp only [Array.getD_eq_getD_getElem?] at f59
            exact wpOp_no rfl rfl rfl e59 ⟨rfl, Below.refl _ _⟩
          apply still_cons
          · intro a' w' hLe hfr hdep
            have e59 := hdep 11 59 (Nat.le_of_ble_eq_true rfl) rfl rfl
            conv at e59 => rhs; whnf
            have f59 := e59; simp only [Array.getD_eq_getD_getElem?] at f59
            exact wpOp_no rfl rfl rfl e59 ⟨rfl, Below.refl _ _⟩
          apply still_cons
          · intro a' w' hLe hfr hdep
            have e59 := hdep 11 59 (Nat.le_of_ble_eq_true rfl) rfl rfl
            conv at e59 => rhs; whnf
            have f59 := e59; simp only [Array.getD_eq_getD_getElem?] at f59
            exact wpOp_no rfl rfl rfl e59 ⟨rfl, Below.refl _ _⟩
          apply still_cons
          · intro a' w' hLe hfr hdep
            have e59 := hdep 11 59 (Nat.le_of_ble_eq_true rfl) rfl rfl
            conv at e59 => rhs; whnf
            have f59 := e59; simp only [Array.getD_eq_getD_getElem?] at f59
            exact wpOp_no rfl rfl rfl e59 ⟨rfl, Below.refl _ _⟩
          apply still_cons
          · intro a' w' hLe hfr hdep
            have e67 := hdep 19 67 (Nat.le_of_ble_eq_true rfl) rfl rfl
            conv at e67 => rhs; whnf
            have f67 := e67; simp only [Array.getD_eq_getD_getElem?] at f67
            exact wpOp_un rfl rfl rfl e67 ⟨rfl, Below.refl _ _⟩
          apply still_cons
          · intro a' w' hLe hfr hdep
            have e67 := hdep 19 67 (Nat.le_of_ble_eq_true rfl) rfl rfl
            conv at e67 => rhs; whnf
            have f67 := e67; simp only [Array.getD_eq_getD_getElem?] at f67
            exact wpOp_un rfl rfl rfl e67 ⟨rfl, Below.refl _ _⟩
          apply still_cons
          · intro a' w' hLe hfr hdep
            have e67 := hdep 19 67 (Nat.le_of_ble_eq_true rfl) rfl rfl
            conv at e67 => rhs; whnf
            have f67 := e67; simp only [Array.getD_eq_getD_getElem?] at f67
            exact wpOp_un rfl rfl rfl e67 ⟨rfl, Below.refl _ _⟩
          apply still_cons
          · intro a' w' hLe hfr hdep
            have e67 := hdep 19 67 (Nat.le_of_ble_eq_true rfl) rfl rfl
            conv at e67 => rhs; whnf
            have f67 := e67; simp only [Array.getD_eq_getD_getElem?] at f67
            exact wpOp_un rfl rfl rfl e67 ⟨rfl, Below.refl _ _⟩
          apply still_cons
          · intro a' w' hLe hfr hdep
            have e67 := hdep 19 67 (Nat.le_of_ble_eq_true rfl) rfl rfl
            conv at e67 => rhs; whnf
            have f67 := e67; simp only [Array.getD_eq_getD_getElem?] at f67
            exact wpOp_un rfl rfl rfl e67 ⟨rfl, Below.refl _ _⟩
          apply still_cons
          · intro a' w' hLe hfr hdep
            have e67 := hdep 19 67 (Nat.le_of_ble_eq_true rfl) rfl rfl
            conv at e67 => rhs; whnf
            have f67 := e67; simp only [Array.getD_eq_getD_getElem?] at f67
            exact wpOp_un rfl rfl rfl e67 ⟨rfl, Below.refl _ _⟩
          apply still_cons
          · intro a' w' hLe hfr hdep
            have e67 := hdep 19 67 (Nat.le_of_ble_eq_true rfl) rfl rfl
            conv at e67 => rhs; whnf
            have f67 := e67; simp only [Array.getD_eq_getD_getElem?] at f67
            exact wpOp_un rfl rfl rfl e67 ⟨rfl, Below.refl _ _⟩
          apply still_cons
          · intro a' w' hLe hfr hdep
            have e59 := hdep 11 59 (Nat.le_of_ble_eq_true rfl) rfl rfl
            conv at e59 => rhs; whnf
            have f59 := e59; simp only [Array.getD_eq_getD_getElem?] at f59
            exact wpOp_no rfl rfl rfl e59 ⟨rfl, Below.refl _ _⟩
          apply still_cons
          · intro a' w' hLe hfr hdep
            have e59 := hdep 11 59 (Nat.le_of_ble_eq_true rfl) rfl rfl
            conv at e59 => rhs; whnf
            have f59 := e59; simp only [Array.getD_eq_getD_getElem?] at f59
            have e75 := hdep 27 75 (Nat.le_of_ble_eq_true rfl) rfl rfl
            conv at e75 => rhs; whnf
            have f75 := e75; simp only [Array.getD_eq_getD_getElem?] at f75
            refine wpOp_plain rfl rfl (fun K hK => ?_)
            go_simp
            exact hK _ _ ⟨rfl, Below.refl _ _⟩
          apply still_cons
          · intro a' w' hLe hfr hdep
            have e76 := hdep 28 76 (Nat.le_of_ble_eq_true rfl) rfl rfl
            conv at e76 => rhs; whnf
            have f76 := e76; simp only [Array.getD_eq_getD_getElem?] at f76
            refine wpOp_plain rfl rfl (fun K hK => ?_)
            go_simp
            exact hK _ _ ⟨rfl, Below.refl _ _⟩
          apply still_cons
          · intro a' w' hLe hfr hdep
            have e77 := hdep 29 77 (Nat.le_of_ble_eq_true rfl) rfl rfl
            conv at e77 => rhs; whnf
            have f77 := e77; simp only [Array.getD_eq_getD_getElem?] at f77
            have e4 := hfr 4 rfl
            conv at e4 => rhs; whnf
            have f4 := e4; simp only [Array.getD_eq_getD_getElem?] at f4
            have kc := fun i => keepc hLe (b) (by (try simp) <;> omega) i
            have kf := fun i => keepf hLe (b) (by (try simp) <;> omega) i
            have kc := fun i => keepc hLe (by') (by (try simp) <;> omega) i
            have kf := fun i => keepf hLe (by') (by (try simp) <;> omega) i
            have kc := fun i => keepc hLe (w1.heap.size) (by (try simp) <;> omega) i
            have kf := fun i => keepf hLe (w1.heap.size) (by (try simp) <;> omega) i
            have kc := fun i => keepc hLe (w1.heap.size + 1) (by (try simp) <;> omega) i
            have kf := fun i => keepf hLe (w1.heap.size + 1) (by (try simp) <;> omega) i
            have kc := fun i => keepc hLe (w2.heap.size) (by (try simp) <;> omega) i
            have kf := fun i => keepf hLe (w2.heap.size) (by (try simp) <;> omega) i
            refine wpOp_yes rfl rfl rfl e77 (fun K hK => ?_)
            go_simp
            exact hK _ _ ⟨rfl, Below.refl _ _⟩
          apply still_cons
          · intro a' w' hLe hfr hdep
            have e77 := hdep 29 77 (Nat.le_of_ble_eq_true rfl) rfl rfl
            conv at e77 => rhs; whnf
            have f77 := e77; simp only [Array.getD_eq_getD_getElem?] at f77
            refine wpOp_yes rfl rfl rfl e77 (fun K hK => ?_)
            go_simp
            exact hK _ _ ⟨rfl, Below.refl _ _⟩
          apply still_cons
          · intro a' w' hLe hfr hdep
            have e77 := hdep 29 77 (Nat.le_of_ble_eq_true rfl) rfl rfl
            conv at e77 => rhs; whnf
            have f77 := e77; simp only [Array.getD_eq_getD_getElem?] at f77
            have e78 := hdep 30 78 (Nat.le_of_ble_eq_true rfl) rfl rfl
            conv at e78 => rhs; whnf
            have f78 := e78; simp only [Array.getD_eq_getD_getElem?] at f78
            have e79 := hdep 31 79 (Nat.le_of_ble_eq_true rfl) rfl rfl
            conv at e79 => rhs; whnf
            have f79 := e79; simp only [Array.getD_eq_getD_getElem?] at f79
            refine wpOp_yes rfl rfl rfl e77 (fun K hK => ?_)
            go_simp
            exact hK _ _ ⟨rfl, Below.refl _ _⟩
          apply still_cons
          · intro a' w' hLe hfr hdep
            have e77 := hdep 29 77 (Nat.le_of_ble_eq_true rfl) rfl rfl
            conv at e77 => rhs; whnf
            have f77 := e77; simp only [Array.getD_eq_getD_getElem?] at f77
            have e80 := hdep 32 80 (Nat.le_of_ble_eq_true rfl) rfl rfl
            conv at e80 => rhs; whnf
            have f80 := e80; simp only [Array.getD_eq_getD_getElem?] at f80
            refine wpOp_yes rfl rfl rfl e77 (fun K hK => ?_)
            go_simp
            exact hK _ _ ⟨rfl, Below.refl _ _⟩
          apply still_cons
          · intro a' w' hLe hfr hdep
            have e81 := hdep 33 81 (Nat.le_of_ble_eq_true rfl) rfl rfl
            conv at e81 => rhs; whnf
            have f81 := e81; simp only [Array.getD_eq_getD_getElem?] at f81
            have e5 := hfr 5 rfl
            conv at e5 => rhs; whnf
            have f5 := e5; simp only [Array.getD_eq_getD_getElem?] at f5
            refine wpOp_yes rfl rfl rfl e81 (fun K hK => ?_)
            go_simp
            exact hK _ _ ⟨rfl, Below.refl _ _⟩
          apply still_cons
          · intro a' w' hLe hfr hdep
            have e81 := hdep 33 81 (Nat.le_of_ble_eq_true rfl) rfl rfl
            conv at e81 => rhs; whnf
            have f81 := e81; simp only [Array.getD_eq_getD_getElem?] at f81
            have e82 := hdep 34 82 (Nat.le_of_ble_eq_true rfl) rfl rfl
            conv at e82 => rhs; whnf
            have f82 := e82; simp only [Array.getD_eq_getD_getElem?] at f82
            have kc := fun i => keepc hLe (b) (by (try simp) <;> omega) i
            have kf := fun i => keepf hLe (b) (by (try simp) <;> omega) i
            have kc := fun i => keepc hLe (by') (by (try simp) <;> omega) i
            have kf := fun i => keepf hLe (by') (by (try simp) <;> omega) i
            have kc := fun i => keepc hLe (w1.heap.size) (by (try simp) <;> omega) i
            have kf := fun i => keepf hLe (w1.heap.size) (by (try simp) <;> omega) i
            have kc := fun i => keepc hLe (w1.heap.size + 1) (by (try simp) <;> omega) i
            have kf := fun i => keepf hLe (w1.heap.size + 1) (by (try simp) <;> omega) i
            have kc := fun i => keepc hLe (w2.heap.size) (by (try simp) <;> omega) i
            have kf := fun i => keepf hLe (w2.heap.size) (by (try simp) <;> omega) i
            refine wpOp_yes rfl rfl rfl e81 (fun K hK => ?_)
            go_simp
            exact hK _ _ ⟨rfl, Below.refl _ _⟩
          apply still_cons
          · intro a' w' hLe hfr hdep
            have e81 := hdep 33 81 (Nat.le_of_ble_eq_true rfl) rfl rfl
            conv at e81 => rhs; whnf
            have f81 := e81; simp only [Array.getD_eq_getD_getElem?] at f81
            have e6 := hfr 6 rfl
            conv at e6 => rhs; whnf
            have f6 := e6; simp only [Array.getD_eq_getD_getElem?] at f6
            refine wpOp_yes rfl rfl rfl e81 (fun K hK => ?_)
            go_simp
            exact hK _ _ ⟨rfl, Below.refl _ _⟩
          apply still_cons
          · intro a' w' hLe hfr hdep
            have e81 := hdep 33 81 (Nat.le_of_ble_eq_true rfl) rfl rfl
            conv at e81 => rhs; whnf
            have f81 := e81; simp only [Array.getD_eq_getD_getElem?] at f81
            have e83 := hdep 35 83 (Nat.le_of_ble_eq_true rfl) rfl rfl
            conv at e83 => rhs; whnf
            have f83 := e83; simp only [Array.getD_eq_getD_getElem?] at f83
            have e84 := hdep 36 84 (Nat.le_of_ble_eq_true rfl) rfl rfl
            conv at e84 => rhs; whnf
            have f84 := e84; simp only [Array.getD_eq_getD_getElem?] at f84
            refine wpOp_yes rfl rfl rfl e81 (fun K hK => ?_)
            go_simp
            exact hK _ _ ⟨rfl, Below.refl _ _⟩
          apply still_cons
          · intro a' w' hLe hfr hdep
            have e81 := hdep 33 81 (Nat.le_of_ble_eq_true rfl) rfl rfl
            conv at e81 => rhs; whnf
            have f81 := e81; simp only [Array.getD_eq_getD_getElem?] at f81
            have e85 := hdep 37 85 (Nat.le_of_ble_eq_true rfl) rfl rfl
            conv at e85 => rhs; whnf
            have f85 := e85; simp only [Array.getD_eq_getD_getElem?] at f85
            have kc := fun i => keepc hLe (b) (by (try simp) <;> omega) i
            have kf := fun i => keepf hLe (b) (by (try simp) <;> omega) i
            have kc := fun i => keepc hLe (by') (by (try simp) <;> omega) i
            have kf := fun i => keepf hLe (by') (by (try simp) <;> omega) i
            have kc := fun i => keepc hLe (w1.heap.size) (by (try simp) <;> omega) i
            have kf := fun i => keepf hLe (w1.heap.size) (by (try simp) <;> omega) i
            have kc := fun i => keepc hLe (w1.heap.size + 1) (by (try simp) <;> omega) i
            have kf := fun i => keepf hLe (w1.heap.size + 1) (by (try simp) <;> omega) i
            have kc := fun i => keepc hLe (w2.heap.size) (by (try simp) <;> omega) i
            have kf := fun i => keepf hLe (w2.heap.size) (by (try simp) <;> omega) i
            refine wpOp_yes rfl rfl rfl e81 (fun K hK => ?_)
            go_simp
            exact hK _ _ ⟨rfl, Below.refl _ _⟩
          apply still_cons
          · intro a' w' hLe hfr hdep
            have e81 := hdep 33 81 (Nat.le_of_ble_eq_true rfl) rfl rfl
            conv at e81 => rhs; whnf
            have f81 := e81; simp only [Array.getD_eq_getD_getElem?] at f81
            have e4 := hfr 4 rfl
            conv at e4 => rhs; whnf
            have f4 := e4; simp only [Array.getD_eq_getD_getElem?] at f4
            have kc := fun i => keepc hLe (b) (by (try simp) <;> omega) i
            have kf := fun i => keepf hLe (b) (by (try simp) <;> omega) i
            have kc := fun i => keepc hLe (by') (by (try simp) <;> omega) i
            have kf := fun i => keepf hLe (by') (by (try simp) <;> omega) i
            have kc := fun i => keepc hLe (w1.heap.size) (by (try simp) <;> omega) i
            have kf := fun i => keepf hLe (w1.heap.size) (by (try simp) <;> omega) i
            have kc := fun i => keepc hLe (w1.heap.size + 1) (by (try simp) <;> omega) i
            have kf := fun i => keepf hLe (w1.heap.size + 1) (by (try simp) <;> omega) i
            have kc := fun i => keepc hLe (w2.heap.size) (by (try simp) <;> omega) i
            have kf := fun i => keepf hLe (w2.heap.size) (by (try simp) <;> omega) i
            refine wpOp_yes rfl rfl rfl e81 (fun K hK => ?_)
            go_simp
            exact hK _ _ ⟨rfl, Below.refl _ _⟩
          apply still_cons
          · intro a' w' hLe hfr hdep
            have e81 := hdep 33 81 (Nat.le_of_ble_eq_true rfl) rfl rfl
            conv at e81 => rhs; whnf
            have f81 := e81; simp only [Array.getD_eq_getD_getElem?] at f81
            have e86 := hdep 38 86 (Nat.le_of_ble_eq_true rfl) rfl rfl
            conv at e86 => rhs; whnf
            have f86 := e86; simp only [Array.getD_eq_getD_getElem?] at f86
            have e87 := hdep 39 87 (Nat.le_of_ble_eq_true rfl) rfl rfl
            conv at e87 => rhs; whnf
            have f87 := e87; simp only [Array.getD_eq_getD_getElem?] at f87
            refine wpOp_yes rfl rfl rfl e81 (fun K hK => ?_)
            go_simp
            exact hK _ _ ⟨rfl, Below.refl _ _⟩
          apply still_cons
          · intro a' w' hLe hfr hdep
            have e77 := hdep 29 77 (Nat.le_of_ble_eq_true rfl) rfl rfl
            conv at e77 => rhs; whnf
            have f77 := e77; simp only [Array.getD_eq_getD_getElem?] at f77
            have e81 := hdep 33 81 (Nat.le_of_ble_eq_true rfl) rfl rfl
            conv at e81 => rhs; whnf
            have f81 := e81; simp only [Array.getD_eq_getD_getElem?] at f81
            have e88 := hdep 40 88 (Nat.le_of_ble_eq_true rfl) rfl rfl
            conv at e88 => rhs; whnf
            have f88 := e88; simp only [Array.getD_eq_getD_getElem?] at f88
            refine wpOp_yes rfl rfl rfl e77 (fun K hK => ?_)
            go_simp
            exact hK _ _ ⟨rfl, Below.refl _ _⟩
          apply still_cons
          · intro a' w' hLe hfr hdep
            have e77 := hdep 29 77 (Nat.le_of_ble_eq_true rfl) rfl rfl
            conv at e77 => rhs; whnf
            have f77 := e77; simp only [Array.getD_eq_getD_getElem?] at f77
            have e89 := hdep 41 89 (Nat.le_of_ble_eq_true rfl) rfl rfl
            conv at e89 => rhs; whnf
            have f89 := e89; simp only [Array.getD_eq_getD_getElem?] at f89
            refine wpOp_plain rfl rfl (fun K hK => ?_)
            go_simp
            exact hK _ _ ⟨rfl, Below.refl _ _⟩
          apply still_nil
          intro w9 hb9
          simp only [putAll, List.drop_succ_cons, List.drop_zero]
          go_simp
          clear q0 q1 q2 q3 q4 s0 s1 s2 s3 s4
          go_wp2
          go_roundw
          case rel => exact ⟨k + 1, by omega, by go_num, Below.tr hBw hb9⟩
          case measure => simp [intOf]; omega
      · obtain rfl : k = m := by omega
        clear hmn2
        have hkn : ((k : Int) == (n1 : Int)) = true := by have := hmn.out; simp; omega
        have hyv := Lib.hid (closeG_valid hv.out.symm hz0.out hz1.out hm.out hgg.out)
        clear hz0 hz1 hm hv hgg HX5
        go_upto_region 14 with (fail)
        go_wp2_with fail
        refine (implOutletValid_any z0 z1 (HY5.out.next hBw) (Nat.le_refl _)).mono ?_
        rintro e w6 ⟨rfl, hb6⟩
        rw [hyv.out]
        have ko6 : ∀ i, w6.cell? ⟨w1.heap.size, i, none⟩ = _ := fun i => (keepc hb6 w1.heap.size (by omega) i).trans (ko i)
        have kg6 : ∀ i, w6.cell? ⟨w2.heap.size, i, none⟩ = _ := fun i => (keepc hb6 w2.heap.size (by omega) i).trans (kg i)
        clear ko kf kg k5 k6 k7 u5 u6 u7
        go_wp2_with fail
        go_ret
        exact ⟨rfl, Below.tr (Below.tr hb1 (Below.tr hB5 hBw)) hb6⟩
end Go.Proofs.Ytahniedcflfdmaa
