/-
  The walk of the law that compares DeskValid in the program and the reference.
-/
import Derived.Test.YtbnfllpimnnmfaaDev
import Derived.Test.YtbnfllpimnnmfaaDevT
namespace Go.Proofs.Ytbnfllpimnnmfaa
open Go.ChangeShapes Go.WideShapes Go.ChangeAt Go.RowKit Go.Joins Go.Deep

set_option maxHeartbeats 4000000 in
theorem exactDeskValid_walk (x0 x1 now : Int) {w : World} {m c' : Nat} {A' A : Option Addr} {n c : Nat} {a b d f0 f1 f2 f3 f4 to la : Nat → Int} (h' : Rws w w.heap.size 3 A' m c' (hostR a b d)) (h : Rws w w.heap.size 7 A n c (entryR f0 f1 f2 f3 f4 to la)) :
    Calls Try.prog 6 #[.agg #[.slice A' m c', .int .i64 x0, .int .i64 x1, .slice A n c, .int .i64 now]] w (Truly w) := by
  have hnc := h.1.1
  have hcm := h.1.2
  have hnc' := h'.1.1
  have hcm' := h'.1.2
  have HH := Lib.hid h
  have HH' := Lib.hid h'
  clear h h'
  by_cases hmn : (m : Int) ≤ 1048576 ∧ (n : Int) ≤ 1048576 - m
  · have hm := hmn.1
    have hn := hmn.2
    have hsz : szII m n 1048576 = 1048576 - m - n := by unfold szII szI; rw [if_pos hm, if_pos hn]
    clear hmn
    go_enter Try.func6, Try.ntmps6
    go_wp2_with fail
    refine (szDesk_any _ _ _ 1048576 hnc' hcm' hnc hcm (by omega) (by omega) _).mono ?_
    rintro e w1 ⟨rfl, hb1⟩
    have hB1 := Below.tr (show Below w.heap.size w _ by (repeat (first | exact Below.refl _ _ | assumption | refine Below.al ?_ _ | refine Below.dr ?_ | (refine Below.st ?_ (by simp <;> omega) _) | (refine Below.tr ?_ (by assumption))))) hb1
    have k1 := keepc hb1 w.heap.size (by simp)
    have z1 : w.heap.size < w1.heap.size := (by have := hb1.size; simp at this; omega)
    go_wp2_with fail
    refine (toDesk_any _ _ _ (HH'.out.below hB1) (HH.out.below hB1) hB1.size (by omega) (by omega)).mono ?_
    rintro e w2 ⟨g2', g2, rfl, hg2, hN2', hN2, hb2⟩
    have hB2 := Below.tr hB1 hb2
    have k2 := keepc hb2 w.heap.size z1
    have z2 : w.heap.size < w2.heap.size := Nat.lt_of_lt_of_le z1 hb2.size
    go_wp2_with fail
    refine (specDeskValid_any _ _ _ (hN2'.rows (by unfold maxLen; omega) hN2'.lt) (hN2.rows (by unfold maxLen; omega) hN2.lt) (Nat.le_refl _)).mono ?_
    rintro e w3 ⟨rfl, hb3⟩
    have hB3 := Below.tr hB2 hb3
    have k3 := keepc hb3 w.heap.size z2
    have z3 : w.heap.size < w3.heap.size := Nat.lt_of_lt_of_le z2 hb3.size
    go_wp2_with fail
    refine (toDesk_any _ _ _ (HH'.out.below hB3) (HH.out.below hB3) hB3.size (by omega) (by omega)).mono ?_
    rintro e w4 ⟨g4', g4, rfl, hg4, hN4', hN4, hb4⟩
    have hB4 := Below.tr hB3 hb4
    have k4 := keepc hb4 w.heap.size z3
    have z4 : w.heap.size < w4.heap.size := Nat.lt_of_lt_of_le z3 hb4.size
    have hR4 := Lib.hid (hN4.rows (by unfold maxLen; omega) hN4.lt)
    have hR4' := Lib.hid (hN4'.rows (by unfold maxLen; omega) hN4'.lt)
    clear hN2 hN4 hN2' hN4'
    go_wp2_with fail
    refine (implDeskValid_any _ _ _ (hR4'.out.below (by (repeat (first | exact Below.refl _ _ | assumption | refine Below.al ?_ _ | refine Below.dr ?_ | (refine Below.st ?_ (by simp <;> omega) _) | (refine Below.tr ?_ (by assumption)))))) (hR4.out.below (by (repeat (first | exact Below.refl _ _ | assumption | refine Below.al ?_ _ | refine Below.dr ?_ | (refine Below.st ?_ (by simp <;> omega) _) | (refine Below.tr ?_ (by assumption)))))) (by simp)).mono ?_
    rintro e w5 ⟨rfl, hb5⟩
    have hb45 : Below w4.heap.size w4 w5 := Below.tr (by (repeat (first | exact Below.refl _ _ | assumption | refine Below.al ?_ _ | refine Below.dr ?_ | (refine Below.st ?_ (by simp <;> omega) _) | (refine Below.tr ?_ (by assumption))))) hb5
    have hB5 := Below.tr hB4 hb45
    have k5 := keepc hb5 w.heap.size (by simp <;> omega)
    have z5 : w4.heap.size < w5.heap.size := (by have := hb5.size; simp at this; omega)
    have k6 : ∀ i, w5.cell? ⟨w4.heap.size, i, none⟩ = #[Value.slice (some ⟨g4', 0, none⟩) m m, .int .i64 x0, .int .i64 x1, .slice (some ⟨g4, 0, none⟩) n n, .int .i64 now][i]? := fun i => (keepc hb5 w4.heap.size (by simp) i).trans ((blk (heap_alloc_new w4 _)).1 i)
    go_wp2_with fail
    refine wp_region_free (ds := [(0, 22), (1, 23), (2, 24), (3, 25), (4, 26)]) 5 (by kernel_rfl) (by kernel_rfl) (by first | exact .inl rfl | exact .inr (by kernel_rfl)) (by rfl) rfl rfl ?_
    apply free_is
    · intro a' w' hLe hfr hdep
      have e5 := hfr 5 rfl
      conv at e5 => rhs; whnf
      have f5 := e5; simp only [Array.getD_eq_getD_getElem?] at f5
      have kc := fun i => keepc hLe (w.heap.size) (by (try simp) <;> omega) i
      have kf := fun i => keepf hLe (w.heap.size) (by (try simp) <;> omega) i
      have kz : w.heap.size < w'.heap.size := (by have := hLe.size; (try simp at this); omega)
      have kc := fun i => keepc hLe (w4.heap.size) (by (try simp) <;> omega) i
      have kf := fun i => keepf hLe (w4.heap.size) (by (try simp) <;> omega) i
      have kz : w4.heap.size < w'.heap.size := (by have := hLe.size; (try simp at this); omega)
      refine wpOp_plain rfl rfl (fun K hK => ?_)
      go_simp
      exact hK _ _ ⟨_, rfl, Below.refl _ _, rfl⟩
    apply free_is
    · intro a' w' hLe hfr hdep
      have e1 := hfr 1 rfl
      conv at e1 => rhs; whnf
      have f1 := e1; simp only [Array.getD_eq_getD_getElem?] at f1
      have kc := fun i => keepc hLe (w.heap.size) (by (try simp) <;> omega) i
      have kf := fun i => keepf hLe (w.heap.size) (by (try simp) <;> omega) i
      have kz : w.heap.size < w'.heap.size := (by have := hLe.size; (try simp at this); omega)
      have kc := fun i => keepc hLe (w4.heap.size) (by (try simp) <;> omega) i
      have kf := fun i => keepf hLe (w4.heap.size) (by (try simp) <;> omega) i
      have kz : w4.heap.size < w'.heap.size := (by have := hLe.size; (try simp at this); omega)
      refine wpOp_plain rfl rfl (fun K hK => ?_)
      go_simp
      exact hK _ _ ⟨_, rfl, Below.refl _ _, rfl⟩
    refine free_cons (kbDesk w.heap.size x0 x1 now m n (hostR a b d) (entryR f0 f1 f2 f3 f4 to la)) ?_ ?_
    · intro a' w' hLe hfr hdep
      have e23 : a'.tmps.getD 23 undef = _ := hdep 1 23 (Nat.le_of_ble_eq_true rfl) rfl rfl
      conv at e23 => rhs; whnf
      have f23 := e23; simp only [Array.getD_eq_getD_getElem?] at f23
      have kc := fun i => keepc hLe (w.heap.size) (by (try simp) <;> omega) i
      have kf := fun i => keepf hLe (w.heap.size) (by (try simp) <;> omega) i
      have kz : w.heap.size < w'.heap.size := (by have := hLe.size; (try simp at this); omega)
      have kc := fun i => keepc hLe (w4.heap.size) (by (try simp) <;> omega) i
      have kf := fun i => keepf hLe (w4.heap.size) (by (try simp) <;> omega) i
      have kz : w4.heap.size < w'.heap.size := (by have := hLe.size; (try simp at this); omega)
      refine wpOp_plain rfl rfl (fun K hK => ?_)
      go_simp
      refine (toDesk_any _ _ _ (HH'.out.below (Below.tr hB5 hLe)) (HH.out.below (Below.tr hB5 hLe)) (by have := (Below.tr hB5 hLe).size; omega) (by omega) (by omega)).mono ?_
      rintro e w2 ⟨g', g, rfl, hg1, hN', hN1, hb⟩
      exact hK _ _ ⟨_, rfl, hb, ⟨g', g, rfl, by have := (Below.tr hB5 hLe).size; omega, hN', hN1⟩⟩
    apply free_is
    · intro a' w' hLe hfr hdep
      have e22 : a'.tmps.getD 22 undef = _ := hdep 0 22 (Nat.le_of_ble_eq_true rfl) rfl rfl
      conv at e22 => rhs; whnf
      have f22 := e22; simp only [Array.getD_eq_getD_getElem?] at f22
      obtain ⟨p24, g24, e24, hg24, hM24, hN24⟩ := hdep 2 24 (Nat.le_of_ble_eq_true rfl) rfl rfl
      have f24 := e24; simp only [Array.getD_eq_getD_getElem?] at f24
      have kc := fun i => keepc hLe (w.heap.size) (by (try simp) <;> omega) i
      have kf := fun i => keepf hLe (w.heap.size) (by (try simp) <;> omega) i
      have kz : w.heap.size < w'.heap.size := (by have := hLe.size; (try simp at this); omega)
      have kc := fun i => keepc hLe (w4.heap.size) (by (try simp) <;> omega) i
      have kf := fun i => keepf hLe (w4.heap.size) (by (try simp) <;> omega) i
      have kz : w4.heap.size < w'.heap.size := (by have := hLe.size; (try simp at this); omega)
      refine wpOp_plain rfl rfl (fun K hK => ?_)
      go_simp
      refine (eqDesk_same _ _ _ ((hR4'.out.below (Below.tr hb45 hLe)).more (Below.tr hb45 hLe).size) ((hR4.out.below (Below.tr hb45 hLe)).more (Below.tr hb45 hLe).size) (hM24.rows (by unfold maxLen; omega) hM24.lt) (hN24.rows (by unfold maxLen; omega) hN24.lt) (Nat.le_refl _)).mono ?_
      rintro e w2 ⟨rfl, hb⟩
      exact hK _ _ ⟨_, rfl, hb, rfl⟩
    apply free_is
    · intro a' w' hLe hfr hdep
      have e25 : a'.tmps.getD 25 undef = _ := hdep 3 25 (Nat.le_of_ble_eq_true rfl) rfl rfl
      conv at e25 => rhs; whnf
      have f25 := e25; simp only [Array.getD_eq_getD_getElem?] at f25
      refine wpOp_plain rfl rfl (fun K hK => ?_)
      go_simp
      exact hK _ _ ⟨_, rfl, Below.refl _ _, rfl⟩
    apply free_nil
    intro vs w6 hb6 hT6
    have e22 : vs 0 = _ := hT6 0 22 rfl
    conv at e22 => rhs; whnf
    have e23 : vs 1 = _ := hT6 1 23 rfl
    conv at e23 => rhs; whnf
    obtain ⟨p24, g24, e24, hg24, hM24, hN24⟩ := hT6 2 24 rfl
    have e25 : vs 3 = _ := hT6 3 25 rfl
    conv at e25 => rhs; whnf
    have e26 : vs 4 = _ := hT6 4 26 rfl
    conv at e26 => rhs; whnf
    simp only [putAll, List.drop_succ_cons, List.drop_zero, e22, e23, e24, e25, e26]
    clear hT6 e22 e23 e24 e25 e26
    go_simp
    go_wp2_with fail
    go_ret
    exact ⟨rfl, Below.tr hB5 hb6⟩
  · have hsz : szII m n 1048576 = -1 := by
      unfold szII szI
      split
      · rename_i h1; rw [if_neg (fun h2 => hmn ⟨h1, h2⟩)]
      · rfl
    clear hmn
    go_enter Try.func6, Try.ntmps6
    go_wp2_with fail
    refine (szDesk_any _ _ _ 1048576 hnc' hcm' hnc hcm (by omega) (by omega) _).mono ?_
    rintro e w1 ⟨rfl, hb1⟩
    have hB1 := Below.tr (show Below w.heap.size w _ by (repeat (first | exact Below.refl _ _ | assumption | refine Below.al ?_ _ | refine Below.dr ?_ | (refine Below.st ?_ (by simp <;> omega) _) | (refine Below.tr ?_ (by assumption))))) hb1
    go_wp2_with fail
    go_ret
    exact ⟨rfl, hB1⟩

/-! ### the argument opened -/
section
variable {H : Type} {enc : TypeId × Value → H} {P : Program}
theorem open_desk {W : World} {t th tt te eh ee : TypeId} {fs0 fs1 fs2 gs0 gs1 gs2 : Field} (ht : P.underlying t = some (.struct #[fs0, fs1, fs2])) (h0 : fs0.type = th) (h1 : fs1.type = tt) (h2 : fs2.type = te) (o0 : fs0.offset = 0) (o1 : fs1.offset = 1) (o2 : fs2.offset = 4)
    (htt : P.underlying tt = some (.struct #[gs0, gs1, gs2])) (g0 : gs0.type = te) (g1 : gs1.type = te) (p0 : gs0.offset = 0) (p1 : gs1.offset = 1) (p2 : gs2.offset = 2)
    (hth : P.underlying th = some (.slice eh)) (htg : P.underlying gs2.type = some (.slice ee)) (hte : P.underlying te = some (.int .i64)) (ct : P.cellsOf t = 5) (ch : P.cellsOf th = 1) (cg : P.cellsOf gs2.type = 1) (ctt : P.cellsOf tt = 3) (cte : P.cellsOf te = 1)
    (feh : flatOf P 8 eh = some [true, true, true]) (fee : flatOf P 8 ee = some [true, true, true, true, true, true, true]) (ceh : P.cellsOf eh = 3) (cee : P.cellsOf ee = 7)
    {r : Reach} {b0 : Nat} {v : Value} {d : DataW H} {p : List MemPlace} (hv : Value.okWide P W r b0 t v) (h : DataW.Trod enc P W 0 (fun _ => true) true t v d p) :
    ∃ A' m c' x0 x1 A n c now, v = .agg #[.slice A' m c', .int .i64 x0, .int .i64 x1, .slice A n c, .int .i64 now] ∧ (∃ R, (∀ i, Plain [true, true, true] (R i)) ∧ Rws W W.heap.size 3 A' m c' R) ∧ (∃ R, (∀ i, Plain [true, true, true, true, true, true, true] (R i)) ∧ Rws W W.heap.size 7 A n c R) := by
  obtain ⟨cs, rfl, hsz⟩ := okWide_struct ht hv
  obtain ⟨fuel, hf⟩ := h
  have hf' : DataW.trod enc P W 0 (fun _ => true) true fuel t cs.toList = some (d, p) := by simpa [Value.cells] using hf
  obtain ⟨y0, y1, y2, q, _, hl, e0, e1, e2⟩ := Go.Deep.trod_struct3 ht hf'
  rw [h0, o0, ch] at e0
  rw [h1, o1, ctt] at e1
  rw [h2, o2, cte] at e2
  obtain ⟨l⟩ := cs
  rw [ct] at hsz
  match l, hsz with
  | [v0, v1, v2, v3, v4], _ =>
    simp at e0 e1 e2
    obtain ⟨A', m, c', rfl, R', hR', hW'⟩ := rows_cell 8 [true, true, true] hth feh ceh (by decide) e0
    obtain ⟨now, en, _⟩ := DataW.trod_int hte e2
    obtain ⟨z0, z1, z2, q', _, hl', k0, k1, k2⟩ := Go.Deep.trod_struct3 htt e1
    rw [g0, p0, cte] at k0
    rw [g1, p1, cte] at k1
    rw [p2, cg] at k2
    simp at k0 k1 k2
    obtain ⟨x0, ex, _⟩ := DataW.trod_int hte k0
    obtain ⟨x1, ey, _⟩ := DataW.trod_int hte k1
    obtain ⟨A, n, c, rfl, R, hR, hW⟩ := rows_cell 8 [true, true, true, true, true, true, true] htg fee cee (by decide) k2
    simp at en ex ey
    subst en ex ey
    exact ⟨A', m, c', x0, x1, A, n, c, now, rfl, ⟨R', hR', hW'⟩, ⟨R, hR, hW⟩⟩
end
end Go.Proofs.Ytbnfllpimnnmfaa
