/-
  AddRoute of the reference.
-/
import Derived.Test.YtgoijpbkgkjfeaaArp
import Derived.Test.YtgoijpbkgkjfeaaList
import Derived.Test.YtgoijpbkgkjfeaaRow
namespace Go.Proofs.Ytgoijpbkgkjfeaa
open Go Go.RowKit

/-- How many routes are there behind j of the old ones. -/
def adK (n : Nat) (a b : Nat → Int) (x y : Int) (j : Nat) : Nat := if j ≤ apo n a b x y then j else if afd n a b x y then j else j + 1
section
variable {n : Nat} {a b c : Nat → Int} {x y z : Int} {j : Nat}
theorem adK_le : adK n a b x y j ≤ j + 1 := by
  unfold adK
  split
  · omega
  · split <;> omega
theorem adK_lo (h : j ≤ apo n a b x y) : adK n a b x y j = j := by unfold adK; rw [if_pos h]
theorem adK_yes (h : apo n a b x y < j) (h2 : afd n a b x y = true) : adK n a b x y j = j := by unfold adK; rw [if_neg (by omega), h2]; rfl
theorem adK_no (h : apo n a b x y < j) (h2 : afd n a b x y = false) : adK n a b x y j = j + 1 := by unfold adK; rw [if_neg (by omega), h2]; rfl
theorem adK_next (h : apo n a b x y < j) : adK n a b x y (j + 1) = adK n a b x y j + 1 := by
  cases h2 : afd n a b x y
  · rw [adK_no h h2, adK_no (by omega) h2]
  · rw [adK_yes h h2, adK_yes (by omega) h2]
theorem adR_next (h : apo n a b x y < j) : adR n a b c x y z (adK n a b x y j) = routeR a b c j := by
  unfold adK; rw [if_neg (by omega)]
  cases hf : afd n a b x y
  · simp only [Bool.false_eq_true, if_false]
    rw [adR_hi (by omega), hf]
    rfl
  · simp only [if_true]
    rw [adR_hi h, hf]
    rfl
theorem adK_end (h : apo n a b x y < n) : adK n a b x y n = aN n a b x y := by
  unfold adK aN; rw [if_neg (by omega)]
theorem adK_add (h : apo n a b x y = n) : aN n a b x y = n + 1 := by
  unfold aN; rw [afd_no h]; rfl
end
theorem rte_one (x y z : Int) : ∀ u ∈ ([.int .i64 x, .int .i64 y, .int .i64 z] : List Value), u.oneCell' = true := by
  intro u hu
  simp only [List.mem_cons, List.not_mem_nil, or_false] at hu
  rcases hu with rfl | rfl | rfl <;> rfl
theorem one_of {r r' : List Value} (h : r' = r) (h1 : ∀ u ∈ r, u.oneCell' = true) : ∀ u ∈ r', u.oneCell' = true := h ▸ h1
theorem bel_nd (w : World) (o : Obj) : Below w.heap.size w (w.alloc o) := (Below.refl _ _).alloc (Nat.le_refl _) o
set_option maxHeartbeats 16000000 in
theorem specAddRoute_any {w : World} {B : Nat} {A : Option Addr} {n cc : Nat} {a b c : Nat → Int} (x y z : Int) (H : Rws w B 3 A n cc (routeR a b c)) (hB : B ≤ w.heap.size) (hn : n ≤ 1048576) :
    Calls Try.prog 8 #[.slice A n cc, .agg #[.int .i64 x, .int .i64 y, .int .i64 z]] w (GivesB w 27 3 (arN n a b c x y z) (routeR (arC n a b c x y z a x) (arC n a b c x y z b y) (arC n a b c x y z c z)) (arOk n a b c x y z)) := by
  have H0 := H
  obtain ⟨⟨hnc, hcm⟩, hrow⟩ := H0
  unfold maxLen at hcm
  have H1 := Lib.hid H
  clear H
  cases hv : rtsB n a b c with
  | false =>
    clear hrow
    obtain ⟨h1, h2⟩ := ar_bad (x := x) (y := y) (z := z) hv
    have Y1 := Lib.hid h1
    have Y2 := Lib.hid h2
    clear h1 h2
    go_enter Try.func8, Try.ntmps8
    go_wp2_with (go_at_call 29; refine (specRoutesValid_any (H1.out.below ((Below.refl _ _).alloc hB _)) (by simp <;> omega)).mono ?_; rintro e w1 ⟨rfl, hb1⟩)
    go_ret2
    exact ⟨_, _, by rw [Y1.out, Y2.out] <;> rfl, by rw [Y1.out]; exact Own.nil _ _ _ _ _ _ _ (by unfold maxLen; omega), by (repeat (first | exact Below.refl _ _ | assumption | refine Below.al ?_ _ | refine Below.dr ?_ | (refine Below.st ?_ (by simp <;> omega) _) | (refine Below.tr ?_ (by assumption))))⟩
  | true =>
    have HV := Lib.hid hv
    have hn12 := rts_le hv
    have hap : apo n a b x y ≤ n := apo_le
    go_enter Try.func8, Try.ntmps8
    go_wp2_with (go_at_call 29; refine (specRoutesValid_any (H1.out.below ((Below.refl _ _).alloc hB _)) (by simp <;> omega)).mono ?_; rintro e w1 ⟨rfl, hb1⟩)
    have hbx := (hb1.block w.heap.size (by simp)).trans (heap_alloc_new w _)
    have hB1 : Below w.heap.size w w1 := Below.tr (by (repeat (first | exact Below.refl _ _ | assumption | refine Below.al ?_ _ | refine Below.dr ?_ | (refine Below.st ?_ (by simp <;> omega) _) | (refine Below.tr ?_ (by assumption))))) hb1
    have hs1 : w.heap.size + 1 ≤ w1.heap.size := (by have := hb1.size; simp at this; omega)
    have hP1 : Acc (w1.alloc (.cells #[] 27)) (w.heap.size + 1) 27 3 (.slice (some ⟨w1.heap.size, 0, none⟩) 0 0) 0 (adR n a b c x y z) := Acc.made w1 _ _ (fun _ => rfl) hs1
    have hbx2 := (Below.heap_alloc w1 (.cells #[] 27) w.heap.size (by omega)).trans hbx
    have hB2 := Below.al hB1 (.cells #[] 27)
    clear hb1 hv hbx
    go_loopw [6, 7, 8] (fun v dn i wr => ∃ (j : Nat) (d : Bool), j ≤ n ∧ d = decide (apo n a b x y < j) ∧ i = .int .i64 j ∧ dn = .bool d ∧ Acc wr (w.heap.size + 1) 27 3 v (adK n a b x y j) (adR n a b c x y z) ∧ wr.heap[w.heap.size]? = some (.cells #[.int .i64 x, .int .i64 y, .int .i64 z] 27 (0, 0)) ∧ Below w.heap.size w wr) (fun _ _ i _ => n - (intOf i).toNat)
    case atStart => exact ⟨0, false, by omega, by simp, rfl, rfl, by rw [adK_lo (by omega)]; exact hP1, hbx2, hB2⟩
    case round =>
      rename_i v _
      obtain ⟨j, d, hj, hd, rfl, rfl, hP, hx, hBw⟩ := hrel
      clear hP1 hbx2 hB2 hB1
      obtain ⟨A', c', rfl, hnc', hcm'⟩ := hP.form
      have hfs : w.heap.size < wr.heap.size := heap_lt hx
      obtain ⟨kx, fx⟩ := blk hx
      have hkl : adK n a b x y j ≤ j + 1 := adK_le
      by_cases hlt : j < n
      · obtain ⟨bl, off, rfl, hbB, hc⟩ := hrow (by omega)
        have hr := hc j hlt
        have hbs : bl < wr.heap.size := by have := hBw.size; omega
        have q0 : wr.cell? ⟨bl, off + j * 3, none⟩ = some (.int .i64 (a j)) := (keepc hBw bl (by omega) _).trans (hr 0 _ rfl)
        have q1 : wr.cell? ⟨bl, off + j * 3 + 1, none⟩ = some (.int .i64 (b j)) := (keepc hBw bl (by omega) _).trans (hr 1 _ rfl)
        have q2 : wr.cell? ⟨bl, off + j * 3 + 2, none⟩ = some (.int .i64 (c j)) := (keepc hBw bl (by omega) _).trans (hr 2 _ rfl)
        have hlt2 : (j : Int) < (n : Int) := by omega
        clear hr hc hrow
        rcases Nat.lt_trichotomy j (apo n a b x y) with hpos | hpos | hpos
        · obtain rfl : d = false := by rw [hd]; simp; omega
          have hbf : befB (a j) (b j) x y = true := apo_bef hpos
          have hq := neq_hit (v := true) (bef_nohit hbf)
          have K1 := Lib.hid (show adK n a b x y (j + 1) = adK n a b x y j + 1 by rw [adK_lo (show j + 1 ≤ _ by omega), adK_lo (show j ≤ _ by omega)])
          have hrowj := Lib.hid (show adR n a b c x y z (adK n a b x y j) = routeR a b c j by rw [adK_lo (by omega), adR_lo hpos])
          clear hd
          go_wp2
          refine wp_region_free (ds := [(0, 20), (1, 21), (2, 22), (3, 23), (4, 24), (5, 25), (6, 26), (7, 27), (8, 28), (9, 29), (10, 30), (11, 31), (12, 32)]) 13 (by kernel_rfl) (by kernel_rfl) (by first | exact .inl rfl | exact .inr (by kernel_rfl)) (by rfl) rfl rfl ?_
          apply free_is
          · intro a' w' hLe hfr hdep
            have e7 := hfr 7 rfl
            conv at e7 => rhs; whnf
            have f7 := e7; simp only [Array.getD_eq_getD_getElem?] at f7
            refine wpOp_plain rfl rfl (fun K hK => ?_)
            go_simp
            exact hK _ _ ⟨_, rfl, Below.refl _ _, rfl⟩
          apply free_is
          · intro a' w' hLe hfr hdep
            have e20 : a'.tmps.getD 20 undef = _ := hdep 0 20 (Nat.le_of_ble_eq_true rfl) rfl rfl
            conv at e20 => rhs; whnf
            have f20 := e20; simp only [Array.getD_eq_getD_getElem?] at f20
            refine wpOp_plain rfl rfl (fun K hK => ?_)
            go_simp
            exact hK _ _ ⟨_, rfl, Below.refl _ _, rfl⟩
          apply free_is
          · intro a' w' hLe hfr hdep
            have e21 : a'.tmps.getD 21 undef = _ := hdep 1 21 (Nat.le_of_ble_eq_true rfl) rfl rfl
            conv at e21 => rhs; whnf
            have f21 := e21; simp only [Array.getD_eq_getD_getElem?] at f21
            refine wpOp_plain rfl rfl (fun K hK => ?_)
            go_simp
            exact hK _ _ ⟨_, rfl, Below.refl _ _, rfl⟩
          apply free_is
          · intro a' w' hLe hfr hdep
            have e22 : a'.tmps.getD 22 undef = _ := hdep 2 22 (Nat.le_of_ble_eq_true rfl) rfl rfl
            conv at e22 => rhs; whnf
            have f22 := e22; simp only [Array.getD_eq_getD_getElem?] at f22
            have e0 := hfr 0 rfl
            conv at e0 => rhs; whnf
            have f0 := e0; simp only [Array.getD_eq_getD_getElem?] at f0
            refine wpOp_yes rfl rfl rfl e22 (fun K hK => ?_)
            go_simp
            exact hK _ _ ⟨_, rfl, Below.refl _ _, rfl⟩
          apply free_is
          · intro a' w' hLe hfr hdep
            have e22 : a'.tmps.getD 22 undef = _ := hdep 2 22 (Nat.le_of_ble_eq_true rfl) rfl rfl
            conv at e22 => rhs; whnf
            have f22 := e22; simp only [Array.getD_eq_getD_getElem?] at f22
            have e8 := hfr 8 rfl
            conv at e8 => rhs; whnf
            have f8 := e8; simp only [Array.getD_eq_getD_getElem?] at f8
            refine wpOp_yes rfl rfl rfl e22 (fun K hK => ?_)
            go_simp
            exact hK _ _ ⟨_, rfl, Below.refl _ _, rfl⟩
          apply free_is
          · intro a' w' hLe hfr hdep
            have e22 : a'.tmps.getD 22 undef = _ := hdep 2 22 (Nat.le_of_ble_eq_true rfl) rfl rfl
            conv at e22 => rhs; whnf
            have f22 := e22; simp only [Array.getD_eq_getD_getElem?] at f22
            have e23 : a'.tmps.getD 23 undef = _ := hdep 3 23 (Nat.le_of_ble_eq_true rfl) rfl rfl
            conv at e23 => rhs; whnf
            have f23 := e23; simp only [Array.getD_eq_getD_getElem?] at f23
            have e24 : a'.tmps.getD 24 undef = _ := hdep 4 24 (Nat.le_of_ble_eq_true rfl) rfl rfl
            conv at e24 => rhs; whnf
            have f24 := e24; simp only [Array.getD_eq_getD_getElem?] at f24
            refine wpOp_yes rfl rfl rfl e22 (fun K hK => ?_)
            go_simp
            exact hK _ _ ⟨_, rfl, Below.refl _ _, rfl⟩
          apply free_is
          · intro a' w' hLe hfr hdep
            have e22 : a'.tmps.getD 22 undef = _ := hdep 2 22 (Nat.le_of_ble_eq_true rfl) rfl rfl
            conv at e22 => rhs; whnf
            have f22 := e22; simp only [Array.getD_eq_getD_getElem?] at f22
            have e25 : a'.tmps.getD 25 undef = _ := hdep 5 25 (Nat.le_of_ble_eq_true rfl) rfl rfl
            conv at e25 => rhs; whnf
            have f25 := e25; simp only [Array.getD_eq_getD_getElem?] at f25
            refine wpOp_yes rfl rfl rfl e22 (fun K hK => ?_)
            go_simp
            exact hK _ _ ⟨_, rfl, Below.refl _ _, rfl⟩
          apply free_is
          · intro a' w' hLe hfr hdep
            have e22 : a'.tmps.getD 22 undef = _ := hdep 2 22 (Nat.le_of_ble_eq_true rfl) rfl rfl
            conv at e22 => rhs; whnf
            have f22 := e22; simp only [Array.getD_eq_getD_getElem?] at f22
            have e26 : a'.tmps.getD 26 undef = _ := hdep 6 26 (Nat.le_of_ble_eq_true rfl) rfl rfl
            conv at e26 => rhs; whnf
            have f26 := e26; simp only [Array.getD_eq_getD_getElem?] at f26
            have kc := fun i => keepc hLe (bl) (by (try simp) <;> omega) i
            have kf := fun i => keepf hLe (bl) (by (try simp) <;> omega) i
            have kz : bl < w'.heap.size := (by have := hLe.size; (try simp at this); omega)
            have kc := fun i => keepc hLe (w.heap.size) (by (try simp) <;> omega) i
            have kf := fun i => keepf hLe (w.heap.size) (by (try simp) <;> omega) i
            have kz : w.heap.size < w'.heap.size := (by have := hLe.size; (try simp at this); omega)
            refine wpOp_yes rfl rfl rfl e22 (fun K hK => ?_)
            go_simp
            exact hK _ _ ⟨_, rfl, Below.refl _ _, rfl⟩
          apply free_is
          · intro a' w' hLe hfr hdep
            have e22 : a'.tmps.getD 22 undef = _ := hdep 2 22 (Nat.le_of_ble_eq_true rfl) rfl rfl
            conv at e22 => rhs; whnf
            have f22 := e22; simp only [Array.getD_eq_getD_getElem?] at f22
            have e3 := hfr 3 rfl
            conv at e3 => rhs; whnf
            have f3 := e3; simp only [Array.getD_eq_getD_getElem?] at f3
            refine wpOp_yes rfl rfl rfl e22 (fun K hK => ?_)
            go_simp
            exact hK _ _ ⟨_, rfl, Below.refl _ _, rfl⟩
          apply free_is
          · intro a' w' hLe hfr hdep
            have e22 : a'.tmps.getD 22 undef = _ := hdep 2 22 (Nat.le_of_ble_eq_true rfl) rfl rfl
            conv at e22 => rhs; whnf
            have f22 := e22; simp only [Array.getD_eq_getD_getElem?] at f22
            have e28 : a'.tmps.getD 28 undef = _ := hdep 8 28 (Nat.le_of_ble_eq_true rfl) rfl rfl
            conv at e28 => rhs; whnf
            have f28 := e28; simp only [Array.getD_eq_getD_getElem?] at f28
            have kc := fun i => keepc hLe (bl) (by (try simp) <;> omega) i
            have kf := fun i => keepf hLe (bl) (by (try simp) <;> omega) i
            have kz : bl < w'.heap.size := (by have := hLe.size; (try simp at this); omega)
            have kc := fun i => keepc hLe (w.heap.size) (by (try simp) <;> omega) i
            have kf := fun i => keepf hLe (w.heap.size) (by (try simp) <;> omega) i
            have kz : w.heap.size < w'.heap.size := (by have := hLe.size; (try simp at this); omega)
            refine wpOp_yes rfl rfl rfl e22 (fun K hK => ?_)
            go_simp
            exact hK _ _ ⟨_, rfl, Below.refl _ _, rfl⟩
          apply free_is
          · intro a' w' hLe hfr hdep
            have e22 : a'.tmps.getD 22 undef = _ := hdep 2 22 (Nat.le_of_ble_eq_true rfl) rfl rfl
            conv at e22 => rhs; whnf
            have f22 := e22; simp only [Array.getD_eq_getD_getElem?] at f22
            have e27 : a'.tmps.getD 27 undef = _ := hdep 7 27 (Nat.le_of_ble_eq_true rfl) rfl rfl
            conv at e27 => rhs; whnf
            have f27 := e27; simp only [Array.getD_eq_getD_getElem?] at f27
            have e29 : a'.tmps.getD 29 undef = _ := hdep 9 29 (Nat.le_of_ble_eq_true rfl) rfl rfl
            conv at e29 => rhs; whnf
            have f29 := e29; simp only [Array.getD_eq_getD_getElem?] at f29
            have kc := fun i => keepc hLe (bl) (by (try simp) <;> omega) i
            have kf := fun i => keepf hLe (bl) (by (try simp) <;> omega) i
            have kz : bl < w'.heap.size := (by have := hLe.size; (try simp at this); omega)
            have kc := fun i => keepc hLe (w.heap.size) (by (try simp) <;> omega) i
            have kf := fun i => keepf hLe (w.heap.size) (by (try simp) <;> omega) i
            have kz : w.heap.size < w'.heap.size := (by have := hLe.size; (try simp at this); omega)
            refine wpOp_yes rfl rfl rfl e22 (fun K hK => ?_)
            go_simp
            refine (specBefore_any _ _ _ _ _).mono ?_
            rintro e w2 ⟨rfl, hb⟩
            exact hK _ _ ⟨_, rfl, hb, rfl⟩
          apply free_is
          · intro a' w' hLe hfr hdep
            have e22 : a'.tmps.getD 22 undef = _ := hdep 2 22 (Nat.le_of_ble_eq_true rfl) rfl rfl
            conv at e22 => rhs; whnf
            have f22 := e22; simp only [Array.getD_eq_getD_getElem?] at f22
            have e30 : a'.tmps.getD 30 undef = _ := hdep 10 30 (Nat.le_of_ble_eq_true rfl) rfl rfl
            conv at e30 => rhs; whnf
            have f30 := e30; simp only [Array.getD_eq_getD_getElem?] at f30
            refine wpOp_yes rfl rfl rfl e22 (fun K hK => ?_)
            go_simp
            exact hK _ _ ⟨_, rfl, Below.refl _ _, rfl⟩
          apply free_is
          · intro a' w' hLe hfr hdep
            have e22 : a'.tmps.getD 22 undef = _ := hdep 2 22 (Nat.le_of_ble_eq_true rfl) rfl rfl
            conv at e22 => rhs; whnf
            have f22 := e22; simp only [Array.getD_eq_getD_getElem?] at f22
            have e31 : a'.tmps.getD 31 undef = _ := hdep 11 31 (Nat.le_of_ble_eq_true rfl) rfl rfl
            conv at e31 => rhs; whnf
            have f31 := e31; simp only [Array.getD_eq_getD_getElem?] at f31
            refine wpOp_plain rfl rfl (fun K hK => ?_)
            go_simp
            exact hK _ _ ⟨_, rfl, Below.refl _ _, rfl⟩
          apply free_nil
          intro vs w8 hb8 hT8
          have e20 : vs 0 = _ := hT8 0 20 rfl
          conv at e20 => rhs; whnf
          have e21 : vs 1 = _ := hT8 1 21 rfl
          conv at e21 => rhs; whnf
          have e22 : vs 2 = _ := hT8 2 22 rfl
          conv at e22 => rhs; whnf
          have e23 : vs 3 = _ := hT8 3 23 rfl
          conv at e23 => rhs; whnf
          have e24 : vs 4 = _ := hT8 4 24 rfl
          conv at e24 => rhs; whnf
          have e25 : vs 5 = _ := hT8 5 25 rfl
          conv at e25 => rhs; whnf
          have e26 : vs 6 = _ := hT8 6 26 rfl
          conv at e26 => rhs; whnf
          have e27 : vs 7 = _ := hT8 7 27 rfl
          conv at e27 => rhs; whnf
          have e28 : vs 8 = _ := hT8 8 28 rfl
          conv at e28 => rhs; whnf
          have e29 : vs 9 = _ := hT8 9 29 rfl
          conv at e29 => rhs; whnf
          have e30 : vs 10 = _ := hT8 10 30 rfl
          conv at e30 => rhs; whnf
          have e31 : vs 11 = _ := hT8 11 31 rfl
          conv at e31 => rhs; whnf
          have e32 : vs 12 = _ := hT8 12 32 rfl
          conv at e32 => rhs; whnf
          simp only [putAll, List.drop_succ_cons, List.drop_zero, e20, e21, e22, e23, e24, e25, e26, e27, e28, e29, e30, e31, e32]
          clear hT8 e20 e21 e22 e23 e24 e25 e26 e27 e28 e29 e30 e31 e32
          go_simp
          have k8 := keepc hb8 bl hbs
          have k9 := keepc hb8 w.heap.size hfs
          have z8 : bl < w8.heap.size := Nat.lt_of_lt_of_le hbs hb8.size
          have z9 : w.heap.size < w8.heap.size := Nat.lt_of_lt_of_le hfs hb8.size
          have hx8 := Lib.hid ((hb8.block w.heap.size hfs).trans hx)
          have hP8 := hP.next hb8
          have hB8 := Below.tr hBw hb8
          clear hP hx
          have hba : Below (w.heap.size + 1) w8 w8 := Below.refl _ _
          have hP10 := hP8
          have k10 := keepc hba bl (by omega)
          have k11 := keepc hba w.heap.size (by omega)
          have hsa := hba.size
          have hx10 := Lib.hid ((hba.block w.heap.size (by omega)).trans hx8.out)
          have hB11 := hB8.trans (hba.mono (by omega))
          clear hP8 hba
          go_wp2
          refine wp_region_free (ds := [(0, 37), (1, 38), (2, 39), (3, 40), (4, 41), (5, 42), (6, 43), (7, 44)]) 8 (by kernel_rfl) (by kernel_rfl) (by first | exact .inl rfl | exact .inr (by kernel_rfl)) (by rfl) rfl rfl ?_
          apply free_is
          · intro a' w' hLe hfr hdep
            have e0 := hfr 0 rfl
            conv at e0 => rhs; whnf
            have f0 := e0; simp only [Array.getD_eq_getD_getElem?] at f0
            refine wpOp_plain rfl rfl (fun K hK => ?_)
            go_simp
            exact hK _ _ ⟨_, rfl, Below.refl _ _, rfl⟩
          apply free_is
          · intro a' w' hLe hfr hdep
            have e8 := hfr 8 rfl
            conv at e8 => rhs; whnf
            have f8 := e8; simp only [Array.getD_eq_getD_getElem?] at f8
            refine wpOp_plain rfl rfl (fun K hK => ?_)
            go_simp
            exact hK _ _ ⟨_, rfl, Below.refl _ _, rfl⟩
          apply free_is
          · intro a' w' hLe hfr hdep
            have e37 : a'.tmps.getD 37 undef = _ := hdep 0 37 (Nat.le_of_ble_eq_true rfl) rfl rfl
            conv at e37 => rhs; whnf
            have f37 := e37; simp only [Array.getD_eq_getD_getElem?] at f37
            have e38 : a'.tmps.getD 38 undef = _ := hdep 1 38 (Nat.le_of_ble_eq_true rfl) rfl rfl
            conv at e38 => rhs; whnf
            have f38 := e38; simp only [Array.getD_eq_getD_getElem?] at f38
            refine wpOp_plain rfl rfl (fun K hK => ?_)
            go_simp
            exact hK _ _ ⟨_, rfl, Below.refl _ _, rfl⟩
          apply free_is
          · intro a' w' hLe hfr hdep
            have e39 : a'.tmps.getD 39 undef = _ := hdep 2 39 (Nat.le_of_ble_eq_true rfl) rfl rfl
            conv at e39 => rhs; whnf
            have f39 := e39; simp only [Array.getD_eq_getD_getElem?] at f39
            refine wpOp_plain rfl rfl (fun K hK => ?_)
            go_simp
            exact hK _ _ ⟨_, rfl, Below.refl _ _, rfl⟩
          apply free_is
          · intro a' w' hLe hfr hdep
            have e40 : a'.tmps.getD 40 undef = _ := hdep 3 40 (Nat.le_of_ble_eq_true rfl) rfl rfl
            conv at e40 => rhs; whnf
            have f40 := e40; simp only [Array.getD_eq_getD_getElem?] at f40
            have kc := fun i => keepc hLe (bl) (by (try simp) <;> omega) i
            have kf := fun i => keepf hLe (bl) (by (try simp) <;> omega) i
            have kz : bl < w'.heap.size := (by have := hLe.size; (try simp at this); omega)
            have kc := fun i => keepc hLe (w.heap.size) (by (try simp) <;> omega) i
            have kf := fun i => keepf hLe (w.heap.size) (by (try simp) <;> omega) i
            have kz : w.heap.size < w'.heap.size := (by have := hLe.size; (try simp at this); omega)
            refine wpOp_plain rfl rfl (fun K hK => ?_)
            go_simp
            exact hK _ _ ⟨_, rfl, Below.refl _ _, rfl⟩
          apply free_is
          · intro a' w' hLe hfr hdep
            have e3 := hfr 3 rfl
            conv at e3 => rhs; whnf
            have f3 := e3; simp only [Array.getD_eq_getD_getElem?] at f3
            refine wpOp_plain rfl rfl (fun K hK => ?_)
            go_simp
            exact hK _ _ ⟨_, rfl, Below.refl _ _, rfl⟩
          apply free_is
          · intro a' w' hLe hfr hdep
            have e42 : a'.tmps.getD 42 undef = _ := hdep 5 42 (Nat.le_of_ble_eq_true rfl) rfl rfl
            conv at e42 => rhs; whnf
            have f42 := e42; simp only [Array.getD_eq_getD_getElem?] at f42
            have kc := fun i => keepc hLe (bl) (by (try simp) <;> omega) i
            have kf := fun i => keepf hLe (bl) (by (try simp) <;> omega) i
            have kz : bl < w'.heap.size := (by have := hLe.size; (try simp at this); omega)
            have kc := fun i => keepc hLe (w.heap.size) (by (try simp) <;> omega) i
            have kf := fun i => keepf hLe (w.heap.size) (by (try simp) <;> omega) i
            have kz : w.heap.size < w'.heap.size := (by have := hLe.size; (try simp at this); omega)
            refine wpOp_plain rfl rfl (fun K hK => ?_)
            go_simp
            exact hK _ _ ⟨_, rfl, Below.refl _ _, rfl⟩
          apply free_is
          · intro a' w' hLe hfr hdep
            have e41 : a'.tmps.getD 41 undef = _ := hdep 4 41 (Nat.le_of_ble_eq_true rfl) rfl rfl
            conv at e41 => rhs; whnf
            have f41 := e41; simp only [Array.getD_eq_getD_getElem?] at f41
            have e43 : a'.tmps.getD 43 undef = _ := hdep 6 43 (Nat.le_of_ble_eq_true rfl) rfl rfl
            conv at e43 => rhs; whnf
            have f43 := e43; simp only [Array.getD_eq_getD_getElem?] at f43
            refine wpOp_plain rfl rfl (fun K hK => ?_)
            go_simp
            exact hK _ _ ⟨_, rfl, Below.refl _ _, rfl⟩
          apply free_nil
          intro vs w12 hb12 hT12
          have e37 : vs 0 = _ := hT12 0 37 rfl
          conv at e37 => rhs; whnf
          have e38 : vs 1 = _ := hT12 1 38 rfl
          conv at e38 => rhs; whnf
          have e39 : vs 2 = _ := hT12 2 39 rfl
          conv at e39 => rhs; whnf
          have e40 : vs 3 = _ := hT12 3 40 rfl
          conv at e40 => rhs; whnf
          have e41 : vs 4 = _ := hT12 4 41 rfl
          conv at e41 => rhs; whnf
          have e42 : vs 5 = _ := hT12 5 42 rfl
          conv at e42 => rhs; whnf
          have e43 : vs 6 = _ := hT12 6 43 rfl
          conv at e43 => rhs; whnf
          have e44 : vs 7 = _ := hT12 7 44 rfl
          conv at e44 => rhs; whnf
          simp only [putAll, List.drop_succ_cons, List.drop_zero, e37, e38, e39, e40, e41, e42, e43, e44]
          clear hT12 e37 e38 e39 e40 e41 e42 e43 e44
          go_simp
          have hP12 := hP10.next hb12
          have hB12 := Below.tr hB11 hb12
          have hx12 := Lib.hid ((hb12.block w.heap.size (by omega)).trans hx10.out)
          have k12 := keepc hb12 bl (by omega)
          have z12 : bl < w12.heap.size := by have := hb12.size; omega
          go_wp2_with (at_builtin; refine wpList_push rfl (.tmp 45) (.tmp 50) 23 rfl 27 _ 3 24 Try.underlying23 info_route (by decide) (by decide) (by decide) rfl (hP12.next (bel_nd _ _)) rfl (heap_alloc_new _ _) (hrowj.out.symm) (one_of hrowj.out (routeR_one a b c j)) (by omega) (by have := hB12.size; simp <;> omega) ?_; intro v9 w9 hA9 hB9 hg9)
          have hx13 := Lib.hid ((hB9.block w.heap.size (by omega)).trans ((Below.heap_alloc _ _ _ (heap_lt hx12.out)).trans hx12.out))
          have hB14 : Below w.heap.size w w9 := (Below.al hB12 _).trans (hB9.mono (by omega))
          go_roundw
          case rel => exact ⟨j + 1, false, by omega, by simp; omega, by go_num, rfl, by rw [K1.out]; exact hA9, hx13.out, hB14⟩
          case measure => simp [intOf]; omega
        · obtain rfl : d = false := by rw [hd]; simp; omega
          have hbf : befB (a j) (b j) x y = false := by rw [hpos]; exact apo_at (by omega)
          have K0 := Lib.hid (show adK n a b x y j = j from adK_lo (by omega))
          have hr0 := Lib.hid (show adR n a b c x y z (adK n a b x y j) = [.int .i64 x, .int .i64 y, .int .i64 z] by rw [K0.out]; exact adR_at hpos)
          have hfd : afd n a b x y = hitB a b x y j := by rw [afd_at (by omega), hpos]
          have HPOS := Lib.hid hpos
          clear hd
          cases hh : hitB a b x y j with
          | true =>
            have hq := neq_hit (v := false) hh
            have K1 := Lib.hid (show adK n a b x y (j + 1) = adK n a b x y j + 1 by rw [K0.out, adK_yes (by omega) (hfd.trans hh)])
            clear hh hfd hpos
            go_wp2
            refine wp_region_free (ds := [(0, 20), (1, 21), (2, 22), (3, 23), (4, 24), (5, 25), (6, 26), (7, 27), (8, 28), (9, 29), (10, 30), (11, 31), (12, 32)]) 13 (by kernel_rfl) (by kernel_rfl) (by first | exact .inl rfl | exact .inr (by kernel_rfl)) (by rfl) rfl rfl ?_
            apply free_is
            · intro a' w' hLe hfr hdep
              have e7 := hfr 7 rfl
              conv at e7 => rhs; whnf
              have f7 := e7; simp only [Array.getD_eq_getD_getElem?] at f7
              refine wpOp_plain rfl rfl (fun K hK => ?_)
              go_simp
              exact hK _ _ ⟨_, rfl, Below.refl _ _, rfl⟩
            apply free_is
            · intro a' w' hLe hfr hdep
              have e20 : a'.tmps.getD 20 undef = _ := hdep 0 20 (Nat.le_of_ble_eq_true rfl) rfl rfl
              conv at e20 => rhs; whnf
              have f20 := e20; simp only [Array.getD_eq_getD_getElem?] at f20
              refine wpOp_plain rfl rfl (fun K hK => ?_)
              go_simp
              exact hK _ _ ⟨_, rfl, Below.refl _ _, rfl⟩
            apply free_is
            · intro a' w' hLe hfr hdep
              have e21 : a'.tmps.getD 21 undef = _ := hdep 1 21 (Nat.le_of_ble_eq_true rfl) rfl rfl
              conv at e21 => rhs; whnf
              have f21 := e21; simp only [Array.getD_eq_getD_getElem?] at f21
              refine wpOp_plain rfl rfl (fun K hK => ?_)
              go_simp
              exact hK _ _ ⟨_, rfl, Below.refl _ _, rfl⟩
            apply free_is
            · intro a' w' hLe hfr hdep
              have e22 : a'.tmps.getD 22 undef = _ := hdep 2 22 (Nat.le_of_ble_eq_true rfl) rfl rfl
              conv at e22 => rhs; whnf
              have f22 := e22; simp only [Array.getD_eq_getD_getElem?] at f22
              have e0 := hfr 0 rfl
              conv at e0 => rhs; whnf
              have f0 := e0; simp only [Array.getD_eq_getD_getElem?] at f0
              refine wpOp_yes rfl rfl rfl e22 (fun K hK => ?_)
              go_simp
              exact hK _ _ ⟨_, rfl, Below.refl _ _, rfl⟩
            apply free_is
            · intro a' w' hLe hfr hdep
              have e22 : a'.tmps.getD 22 undef = _ := hdep 2 22 (Nat.le_of_ble_eq_true rfl) rfl rfl
              conv at e22 => rhs; whnf
              have f22 := e22; simp only [Array.getD_eq_getD_getElem?] at f22
              have e8 := hfr 8 rfl
              conv at e8 => rhs; whnf
              have f8 := e8; simp only [Array.getD_eq_getD_getElem?] at f8
              refine wpOp_yes rfl rfl rfl e22 (fun K hK => ?_)
              go_simp
              exact hK _ _ ⟨_, rfl, Below.refl _ _, rfl⟩
            apply free_is
            · intro a' w' hLe hfr hdep
              have e22 : a'.tmps.getD 22 undef = _ := hdep 2 22 (Nat.le_of_ble_eq_true rfl) rfl rfl
              conv at e22 => rhs; whnf
              have f22 := e22; simp only [Array.getD_eq_getD_getElem?] at f22
              have e23 : a'.tmps.getD 23 undef = _ := hdep 3 23 (Nat.le_of_ble_eq_true rfl) rfl rfl
              conv at e23 => rhs; whnf
              have f23 := e23; simp only [Array.getD_eq_getD_getElem?] at f23
              have e24 : a'.tmps.getD 24 undef = _ := hdep 4 24 (Nat.le_of_ble_eq_true rfl) rfl rfl
              conv at e24 => rhs; whnf
              have f24 := e24; simp only [Array.getD_eq_getD_getElem?] at f24
              refine wpOp_yes rfl rfl rfl e22 (fun K hK => ?_)
              go_simp
              exact hK _ _ ⟨_, rfl, Below.refl _ _, rfl⟩
            apply free_is
            · intro a' w' hLe hfr hdep
              have e22 : a'.tmps.getD 22 undef = _ := hdep 2 22 (Nat.le_of_ble_eq_true rfl) rfl rfl
              conv at e22 => rhs; whnf
              have f22 := e22; simp only [Array.getD_eq_getD_getElem?] at f22
              have e25 : a'.tmps.getD 25 undef = _ := hdep 5 25 (Nat.le_of_ble_eq_true rfl) rfl rfl
              conv at e25 => rhs; whnf
              have f25 := e25; simp only [Array.getD_eq_getD_getElem?] at f25
              refine wpOp_yes rfl rfl rfl e22 (fun K hK => ?_)
              go_simp
              exact hK _ _ ⟨_, rfl, Below.refl _ _, rfl⟩
            apply free_is
            · intro a' w' hLe hfr hdep
              have e22 : a'.tmps.getD 22 undef = _ := hdep 2 22 (Nat.le_of_ble_eq_true rfl) rfl rfl
              conv at e22 => rhs; whnf
              have f22 := e22; simp only [Array.getD_eq_getD_getElem?] at f22
              have e26 : a'.tmps.getD 26 undef = _ := hdep 6 26 (Nat.le_of_ble_eq_true rfl) rfl rfl
              conv at e26 => rhs; whnf
              have f26 := e26; simp only [Array.getD_eq_getD_getElem?] at f26
              have kc := fun i => keepc hLe (bl) (by (try simp) <;> omega) i
              have kf := fun i => keepf hLe (bl) (by (try simp) <;> omega) i
              have kz : bl < w'.heap.size := (by have := hLe.size; (try simp at this); omega)
              have kc := fun i => keepc hLe (w.heap.size) (by (try simp) <;> omega) i
              have kf := fun i => keepf hLe (w.heap.size) (by (try simp) <;> omega) i
              have kz : w.heap.size < w'.heap.size := (by have := hLe.size; (try simp at this); omega)
              refine wpOp_yes rfl rfl rfl e22 (fun K hK => ?_)
              go_simp
              exact hK _ _ ⟨_, rfl, Below.refl _ _, rfl⟩
            apply free_is
            · intro a' w' hLe hfr hdep
              have e22 : a'.tmps.getD 22 undef = _ := hdep 2 22 (Nat.le_of_ble_eq_true rfl) rfl rfl
              conv at e22 => rhs; whnf
              have f22 := e22; simp only [Array.getD_eq_getD_getElem?] at f22
              have e3 := hfr 3 rfl
              conv at e3 => rhs; whnf
              have f3 := e3; simp only [Array.getD_eq_getD_getElem?] at f3
              refine wpOp_yes rfl rfl rfl e22 (fun K hK => ?_)
              go_simp
              exact hK _ _ ⟨_, rfl, Below.refl _ _, rfl⟩
            apply free_is
            · intro a' w' hLe hfr hdep
              have e22 : a'.tmps.getD 22 undef = _ := hdep 2 22 (Nat.le_of_ble_eq_true rfl) rfl rfl
              conv at e22 => rhs; whnf
              have f22 := e22; simp only [Array.getD_eq_getD_getElem?] at f22
              have e28 : a'.tmps.getD 28 undef = _ := hdep 8 28 (Nat.le_of_ble_eq_true rfl) rfl rfl
              conv at e28 => rhs; whnf
              have f28 := e28; simp only [Array.getD_eq_getD_getElem?] at f28
              have kc := fun i => keepc hLe (bl) (by (try simp) <;> omega) i
              have kf := fun i => keepf hLe (bl) (by (try simp) <;> omega) i
              have kz : bl < w'.heap.size := (by have := hLe.size; (try simp at this); omega)
              have kc := fun i => keepc hLe (w.heap.size) (by (try simp) <;> omega) i
              have kf := fun i => keepf hLe (w.heap.size) (by (try simp) <;> omega) i
              have kz : w.heap.size < w'.heap.size := (by have := hLe.size; (try simp at this); omega)
              refine wpOp_yes rfl rfl rfl e22 (fun K hK => ?_)
              go_simp
              exact hK _ _ ⟨_, rfl, Below.refl _ _, rfl⟩
            apply free_is
            · intro a' w' hLe hfr hdep
              have e22 : a'.tmps.getD 22 undef = _ := hdep 2 22 (Nat.le_of_ble_eq_true rfl) rfl rfl
              conv at e22 => rhs; whnf
              have f22 := e22; simp only [Array.getD_eq_getD_getElem?] at f22
              have e27 : a'.tmps.getD 27 undef = _ := hdep 7 27 (Nat.le_of_ble_eq_true rfl) rfl rfl
              conv at e27 => rhs; whnf
              have f27 := e27; simp only [Array.getD_eq_getD_getElem?] at f27
              have e29 : a'.tmps.getD 29 undef = _ := hdep 9 29 (Nat.le_of_ble_eq_true rfl) rfl rfl
              conv at e29 => rhs; whnf
              have f29 := e29; simp only [Array.getD_eq_getD_getElem?] at f29
              have kc := fun i => keepc hLe (bl) (by (try simp) <;> omega) i
              have kf := fun i => keepf hLe (bl) (by (try simp) <;> omega) i
              have kz : bl < w'.heap.size := (by have := hLe.size; (try simp at this); omega)
              have kc := fun i => keepc hLe (w.heap.size) (by (try simp) <;> omega) i
              have kf := fun i => keepf hLe (w.heap.size) (by (try simp) <;> omega) i
              have kz : w.heap.size < w'.heap.size := (by have := hLe.size; (try simp at this); omega)
              refine wpOp_yes rfl rfl rfl e22 (fun K hK => ?_)
              go_simp
              refine (specBefore_any _ _ _ _ _).mono ?_
              rintro e w2 ⟨rfl, hb⟩
              exact hK _ _ ⟨_, rfl, hb, rfl⟩
            apply free_is
            · intro a' w' hLe hfr hdep
              have e22 : a'.tmps.getD 22 undef = _ := hdep 2 22 (Nat.le_of_ble_eq_true rfl) rfl rfl
              conv at e22 => rhs; whnf
              have f22 := e22; simp only [Array.getD_eq_getD_getElem?] at f22
              have e30 : a'.tmps.getD 30 undef = _ := hdep 10 30 (Nat.le_of_ble_eq_true rfl) rfl rfl
              conv at e30 => rhs; whnf
              have f30 := e30; simp only [Array.getD_eq_getD_getElem?] at f30
              refine wpOp_yes rfl rfl rfl e22 (fun K hK => ?_)
              go_simp
              exact hK _ _ ⟨_, rfl, Below.refl _ _, rfl⟩
            apply free_is
            · intro a' w' hLe hfr hdep
              have e22 : a'.tmps.getD 22 undef = _ := hdep 2 22 (Nat.le_of_ble_eq_true rfl) rfl rfl
              conv at e22 => rhs; whnf
              have f22 := e22; simp only [Array.getD_eq_getD_getElem?] at f22
              have e31 : a'.tmps.getD 31 undef = _ := hdep 11 31 (Nat.le_of_ble_eq_true rfl) rfl rfl
              conv at e31 => rhs; whnf
              have f31 := e31; simp only [Array.getD_eq_getD_getElem?] at f31
              refine wpOp_plain rfl rfl (fun K hK => ?_)
              go_simp
              exact hK _ _ ⟨_, rfl, Below.refl _ _, rfl⟩
            apply free_nil
            intro vs w8 hb8 hT8
            have e20 : vs 0 = _ := hT8 0 20 rfl
            conv at e20 => rhs; whnf
            have e21 : vs 1 = _ := hT8 1 21 rfl
            conv at e21 => rhs; whnf
            have e22 : vs 2 = _ := hT8 2 22 rfl
            conv at e22 => rhs; whnf
            have e23 : vs 3 = _ := hT8 3 23 rfl
            conv at e23 => rhs; whnf
            have e24 : vs 4 = _ := hT8 4 24 rfl
            conv at e24 => rhs; whnf
            have e25 : vs 5 = _ := hT8 5 25 rfl
            conv at e25 => rhs; whnf
            have e26 : vs 6 = _ := hT8 6 26 rfl
            conv at e26 => rhs; whnf
            have e27 : vs 7 = _ := hT8 7 27 rfl
            conv at e27 => rhs; whnf
            have e28 : vs 8 = _ := hT8 8 28 rfl
            conv at e28 => rhs; whnf
            have e29 : vs 9 = _ := hT8 9 29 rfl
            conv at e29 => rhs; whnf
            have e30 : vs 10 = _ := hT8 10 30 rfl
            conv at e30 => rhs; whnf
            have e31 : vs 11 = _ := hT8 11 31 rfl
            conv at e31 => rhs; whnf
            have e32 : vs 12 = _ := hT8 12 32 rfl
            conv at e32 => rhs; whnf
            simp only [putAll, List.drop_succ_cons, List.drop_zero, e20, e21, e22, e23, e24, e25, e26, e27, e28, e29, e30, e31, e32]
            clear hT8 e20 e21 e22 e23 e24 e25 e26 e27 e28 e29 e30 e31 e32
            go_simp
            have k8 := keepc hb8 bl hbs
            have k9 := keepc hb8 w.heap.size hfs
            have z8 : bl < w8.heap.size := Nat.lt_of_lt_of_le hbs hb8.size
            have z9 : w.heap.size < w8.heap.size := Nat.lt_of_lt_of_le hfs hb8.size
            have hx8 := Lib.hid ((hb8.block w.heap.size hfs).trans hx)
            have hP8 := hP.next hb8
            have hB8 := Below.tr hBw hb8
            clear hP hx
            go_wp2_with (at_builtin; refine wpList_push rfl (.tmp 33) (.tmp 35) 23 rfl 27 _ 3 24 Try.underlying23 info_route (by decide) (by decide) (by decide) rfl (hP8.next (bel_nd _ _)) rfl (heap_alloc_new _ _) (hr0.out.symm) (one_of hr0.out (rte_one x y z)) (by omega) (by have := hB8.size; simp <;> omega) ?_; intro v9 w9 hA9 hB9 hg9)
            have hba : Below (w.heap.size + 1) w8 w9 := ((Below.refl _ _).alloc (by omega) _).trans hB9
            have k10 := keepc hba bl (by omega)
            have k11 := keepc hba w.heap.size (by omega)
            have hsa := hba.size
            have hx10 := Lib.hid ((hba.block w.heap.size (by omega)).trans hx8.out)
            have hB11 := hB8.trans (hba.mono (by omega))
            obtain ⟨A3, c3, hv3, hnc3, hcm3⟩ := hA9.form
            subst hv3
            have hP10 := hA9
            clear hP8 hba hA9
            go_wp2
            refine wp_region_free (ds := [(0, 37), (1, 38), (2, 39), (3, 40), (4, 41), (5, 42), (6, 43), (7, 44)]) 8 (by kernel_rfl) (by kernel_rfl) (by first | exact .inl rfl | exact .inr (by kernel_rfl)) (by rfl) rfl rfl ?_
            apply free_is
            · intro a' w' hLe hfr hdep
              have e0 := hfr 0 rfl
              conv at e0 => rhs; whnf
              have f0 := e0; simp only [Array.getD_eq_getD_getElem?] at f0
              refine wpOp_plain rfl rfl (fun K hK => ?_)
              go_simp
              exact hK _ _ ⟨_, rfl, Below.refl _ _, rfl⟩
            apply free_is
            · intro a' w' hLe hfr hdep
              have e8 := hfr 8 rfl
              conv at e8 => rhs; whnf
              have f8 := e8; simp only [Array.getD_eq_getD_getElem?] at f8
              refine wpOp_plain rfl rfl (fun K hK => ?_)
              go_simp
              exact hK _ _ ⟨_, rfl, Below.refl _ _, rfl⟩
            apply free_is
            · intro a' w' hLe hfr hdep
              have e37 : a'.tmps.getD 37 undef = _ := hdep 0 37 (Nat.le_of_ble_eq_true rfl) rfl rfl
              conv at e37 => rhs; whnf
              have f37 := e37; simp only [Array.getD_eq_getD_getElem?] at f37
              have e38 : a'.tmps.getD 38 undef = _ := hdep 1 38 (Nat.le_of_ble_eq_true rfl) rfl rfl
              conv at e38 => rhs; whnf
              have f38 := e38; simp only [Array.getD_eq_getD_getElem?] at f38
              refine wpOp_plain rfl rfl (fun K hK => ?_)
              go_simp
              exact hK _ _ ⟨_, rfl, Below.refl _ _, rfl⟩
            apply free_is
            · intro a' w' hLe hfr hdep
              have e39 : a'.tmps.getD 39 undef = _ := hdep 2 39 (Nat.le_of_ble_eq_true rfl) rfl rfl
              conv at e39 => rhs; whnf
              have f39 := e39; simp only [Array.getD_eq_getD_getElem?] at f39
              refine wpOp_plain rfl rfl (fun K hK => ?_)
              go_simp
              exact hK _ _ ⟨_, rfl, Below.refl _ _, rfl⟩
            apply free_is
            · intro a' w' hLe hfr hdep
              have e40 : a'.tmps.getD 40 undef = _ := hdep 3 40 (Nat.le_of_ble_eq_true rfl) rfl rfl
              conv at e40 => rhs; whnf
              have f40 := e40; simp only [Array.getD_eq_getD_getElem?] at f40
              have kc := fun i => keepc hLe (bl) (by (try simp) <;> omega) i
              have kf := fun i => keepf hLe (bl) (by (try simp) <;> omega) i
              have kz : bl < w'.heap.size := (by have := hLe.size; (try simp at this); omega)
              have kc := fun i => keepc hLe (w.heap.size) (by (try simp) <;> omega) i
              have kf := fun i => keepf hLe (w.heap.size) (by (try simp) <;> omega) i
              have kz : w.heap.size < w'.heap.size := (by have := hLe.size; (try simp at this); omega)
              refine wpOp_plain rfl rfl (fun K hK => ?_)
              go_simp
              exact hK _ _ ⟨_, rfl, Below.refl _ _, rfl⟩
            apply free_is
            · intro a' w' hLe hfr hdep
              have e3 := hfr 3 rfl
              conv at e3 => rhs; whnf
              have f3 := e3; simp only [Array.getD_eq_getD_getElem?] at f3
              refine wpOp_plain rfl rfl (fun K hK => ?_)
              go_simp
              exact hK _ _ ⟨_, rfl, Below.refl _ _, rfl⟩
            apply free_is
            · intro a' w' hLe hfr hdep
              have e42 : a'.tmps.getD 42 undef = _ := hdep 5 42 (Nat.le_of_ble_eq_true rfl) rfl rfl
              conv at e42 => rhs; whnf
              have f42 := e42; simp only [Array.getD_eq_getD_getElem?] at f42
              have kc := fun i => keepc hLe (bl) (by (try simp) <;> omega) i
              have kf := fun i => keepf hLe (bl) (by (try simp) <;> omega) i
              have kz : bl < w'.heap.size := (by have := hLe.size; (try simp at this); omega)
              have kc := fun i => keepc hLe (w.heap.size) (by (try simp) <;> omega) i
              have kf := fun i => keepf hLe (w.heap.size) (by (try simp) <;> omega) i
              have kz : w.heap.size < w'.heap.size := (by have := hLe.size; (try simp at this); omega)
              refine wpOp_plain rfl rfl (fun K hK => ?_)
              go_simp
              exact hK _ _ ⟨_, rfl, Below.refl _ _, rfl⟩
            apply free_is
            · intro a' w' hLe hfr hdep
              have e41 : a'.tmps.getD 41 undef = _ := hdep 4 41 (Nat.le_of_ble_eq_true rfl) rfl rfl
              conv at e41 => rhs; whnf
              have f41 := e41; simp only [Array.getD_eq_getD_getElem?] at f41
              have e43 : a'.tmps.getD 43 undef = _ := hdep 6 43 (Nat.le_of_ble_eq_true rfl) rfl rfl
              conv at e43 => rhs; whnf
              have f43 := e43; simp only [Array.getD_eq_getD_getElem?] at f43
              refine wpOp_plain rfl rfl (fun K hK => ?_)
              go_simp
              exact hK _ _ ⟨_, rfl, Below.refl _ _, rfl⟩
            apply free_nil
            intro vs w12 hb12 hT12
            have e37 : vs 0 = _ := hT12 0 37 rfl
            conv at e37 => rhs; whnf
            have e38 : vs 1 = _ := hT12 1 38 rfl
            conv at e38 => rhs; whnf
            have e39 : vs 2 = _ := hT12 2 39 rfl
            conv at e39 => rhs; whnf
            have e40 : vs 3 = _ := hT12 3 40 rfl
            conv at e40 => rhs; whnf
            have e41 : vs 4 = _ := hT12 4 41 rfl
            conv at e41 => rhs; whnf
            have e42 : vs 5 = _ := hT12 5 42 rfl
            conv at e42 => rhs; whnf
            have e43 : vs 6 = _ := hT12 6 43 rfl
            conv at e43 => rhs; whnf
            have e44 : vs 7 = _ := hT12 7 44 rfl
            conv at e44 => rhs; whnf
            simp only [putAll, List.drop_succ_cons, List.drop_zero, e37, e38, e39, e40, e41, e42, e43, e44]
            clear hT12 e37 e38 e39 e40 e41 e42 e43 e44
            go_simp
            have hP12 := hP10.next hb12
            have hB12 := Below.tr hB11 hb12
            have hx12 := Lib.hid ((hb12.block w.heap.size (by omega)).trans hx10.out)
            have k12 := keepc hb12 bl (by omega)
            have z12 : bl < w12.heap.size := by have := hb12.size; omega
            go_wp2
            go_roundw
            case rel => exact ⟨j + 1, true, by omega, by have := HPOS.out; simp; omega, by go_num, rfl, by rw [K1.out]; exact hP12, hx12.out, hB12⟩
            case measure => simp [intOf]; omega
          | false =>
            have hq := neq_hit (v := true) hh
            have K1 := Lib.hid (show adK n a b x y (j + 1) = adK n a b x y j + 1 + 1 by rw [K0.out, adK_no (by omega) (hfd.trans hh)])
            have hr1 := Lib.hid (show adR n a b c x y z (adK n a b x y j + 1) = routeR a b c j by rw [K0.out, adR_hi (by omega), hfd.trans hh]; rfl)
            clear hh hfd hpos
            go_wp2
            refine wp_region_free (ds := [(0, 20), (1, 21), (2, 22), (3, 23), (4, 24), (5, 25), (6, 26), (7, 27), (8, 28), (9, 29), (10, 30), (11, 31), (12, 32)]) 13 (by kernel_rfl) (by kernel_rfl) (by first | exact .inl rfl | exact .inr (by kernel_rfl)) (by rfl) rfl rfl ?_
            apply free_is
            · intro a' w' hLe hfr hdep
              have e7 := hfr 7 rfl
              conv at e7 => rhs; whnf
              have f7 := e7; simp only [Array.getD_eq_getD_getElem?] at f7
              refine wpOp_plain rfl rfl (fun K hK => ?_)
              go_simp
              exact hK _ _ ⟨_, rfl, Below.refl _ _, rfl⟩
            apply free_is
            · intro a' w' hLe hfr hdep
              have e20 : a'.tmps.getD 20 undef = _ := hdep 0 20 (Nat.le_of_ble_eq_true rfl) rfl rfl
              conv at e20 => rhs; whnf
              have f20 := e20; simp only [Array.getD_eq_getD_getElem?] at f20
              refine wpOp_plain rfl rfl (fun K hK => ?_)
              go_simp
              exact hK _ _ ⟨_, rfl, Below.refl _ _, rfl⟩
            apply free_is
            · intro a' w' hLe hfr hdep
              have e21 : a'.tmps.getD 21 undef = _ := hdep 1 21 (Nat.le_of_ble_eq_true rfl) rfl rfl
              conv at e21 => rhs; whnf
              have f21 := e21; simp only [Array.getD_eq_getD_getElem?] at f21
              refine wpOp_plain rfl rfl (fun K hK => ?_)
              go_simp
              exact hK _ _ ⟨_, rfl, Below.refl _ _, rfl⟩
            apply free_is
            · intro a' w' hLe hfr hdep
              have e22 : a'.tmps.getD 22 undef = _ := hdep 2 22 (Nat.le_of_ble_eq_true rfl) rfl rfl
              conv at e22 => rhs; whnf
              have f22 := e22; simp only [Array.getD_eq_getD_getElem?] at f22
              have e0 := hfr 0 rfl
              conv at e0 => rhs; whnf
              have f0 := e0; simp only [Array.getD_eq_getD_getElem?] at f0
              refine wpOp_yes rfl rfl rfl e22 (fun K hK => ?_)
              go_simp
              exact hK _ _ ⟨_, rfl, Below.refl _ _, rfl⟩
            apply free_is
            · intro a' w' hLe hfr hdep
              have e22 : a'.tmps.getD 22 undef = _ := hdep 2 22 (Nat.le_of_ble_eq_true rfl) rfl rfl
              conv at e22 => rhs; whnf
              have f22 := e22; simp only [Array.getD_eq_getD_getElem?] at f22
              have e8 := hfr 8 rfl
              conv at e8 => rhs; whnf
              have f8 := e8; simp only [Array.getD_eq_getD_getElem?] at f8
              refine wpOp_yes rfl rfl rfl e22 (fun K hK => ?_)
              go_simp
              exact hK _ _ ⟨_, rfl, Below.refl _ _, rfl⟩
            apply free_is
            · intro a' w' hLe hfr hdep
              have e22 : a'.tmps.getD 22 undef = _ := hdep 2 22 (Nat.le_of_ble_eq_true rfl) rfl rfl
              conv at e22 => rhs; whnf
              have f22 := e22; simp only [Array.getD_eq_getD_getElem?] at f22
              have e23 : a'.tmps.getD 23 undef = _ := hdep 3 23 (Nat.le_of_ble_eq_true rfl) rfl rfl
              conv at e23 => rhs; whnf
              have f23 := e23; simp only [Array.getD_eq_getD_getElem?] at f23
              have e24 : a'.tmps.getD 24 undef = _ := hdep 4 24 (Nat.le_of_ble_eq_true rfl) rfl rfl
              conv at e24 => rhs; whnf
              have f24 := e24; simp only [Array.getD_eq_getD_getElem?] at f24
              refine wpOp_yes rfl rfl rfl e22 (fun K hK => ?_)
              go_simp
              exact hK _ _ ⟨_, rfl, Below.refl _ _, rfl⟩
            apply free_is
            · intro a' w' hLe hfr hdep
              have e22 : a'.tmps.getD 22 undef = _ := hdep 2 22 (Nat.le_of_ble_eq_true rfl) rfl rfl
              conv at e22 => rhs; whnf
              have f22 := e22; simp only [Array.getD_eq_getD_getElem?] at f22
              have e25 : a'.tmps.getD 25 undef = _ := hdep 5 25 (Nat.le_of_ble_eq_true rfl) rfl rfl
              conv at e25 => rhs; whnf
              have f25 := e25; simp only [Array.getD_eq_getD_getElem?] at f25
              refine wpOp_yes rfl rfl rfl e22 (fun K hK => ?_)
              go_simp
              exact hK _ _ ⟨_, rfl, Below.refl _ _, rfl⟩
            apply free_is
            · intro a' w' hLe hfr hdep
              have e22 : a'.tmps.getD 22 undef = _ := hdep 2 22 (Nat.le_of_ble_eq_true rfl) rfl rfl
              conv at e22 => rhs; whnf
              have f22 := e22; simp only [Array.getD_eq_getD_getElem?] at f22
              have e26 : a'.tmps.getD 26 undef = _ := hdep 6 26 (Nat.le_of_ble_eq_true rfl) rfl rfl
              conv at e26 => rhs; whnf
              have f26 := e26; simp only [Array.getD_eq_getD_getElem?] at f26
              have kc := fun i => keepc hLe (bl) (by (try simp) <;> omega) i
              have kf := fun i => keepf hLe (bl) (by (try simp) <;> omega) i
              have kz : bl < w'.heap.size := (by have := hLe.size; (try simp at this); omega)
              have kc := fun i => keepc hLe (w.heap.size) (by (try simp) <;> omega) i
              have kf := fun i => keepf hLe (w.heap.size) (by (try simp) <;> omega) i
              have kz : w.heap.size < w'.heap.size := (by have := hLe.size; (try simp at this); omega)
              refine wpOp_yes rfl rfl rfl e22 (fun K hK => ?_)
              go_simp
              exact hK _ _ ⟨_, rfl, Below.refl _ _, rfl⟩
            apply free_is
            · intro a' w' hLe hfr hdep
              have e22 : a'.tmps.getD 22 undef = _ := hdep 2 22 (Nat.le_of_ble_eq_true rfl) rfl rfl
              conv at e22 => rhs; whnf
              have f22 := e22; simp only [Array.getD_eq_getD_getElem?] at f22
              have e3 := hfr 3 rfl
              conv at e3 => rhs; whnf
              have f3 := e3; simp only [Array.getD_eq_getD_getElem?] at f3
              refine wpOp_yes rfl rfl rfl e22 (fun K hK => ?_)
              go_simp
              exact hK _ _ ⟨_, rfl, Below.refl _ _, rfl⟩
            apply free_is
            · intro a' w' hLe hfr hdep
              have e22 : a'.tmps.getD 22 undef = _ := hdep 2 22 (Nat.le_of_ble_eq_true rfl) rfl rfl
              conv at e22 => rhs; whnf
              have f22 := e22; simp only [Array.getD_eq_getD_getElem?] at f22
              have e28 : a'.tmps.getD 28 undef = _ := hdep 8 28 (Nat.le_of_ble_eq_true rfl) rfl rfl
              conv at e28 => rhs; whnf
              have f28 := e28; simp only [Array.getD_eq_getD_getElem?] at f28
              have kc := fun i => keepc hLe (bl) (by (try simp) <;> omega) i
              have kf := fun i => keepf hLe (bl) (by (try simp) <;> omega) i
              have kz : bl < w'.heap.size := (by have := hLe.size; (try simp at this); omega)
              have kc := fun i => keepc hLe (w.heap.size) (by (try simp) <;> omega) i
              have kf := fun i => keepf hLe (w.heap.size) (by (try simp) <;> omega) i
              have kz : w.heap.size < w'.heap.size := (by have := hLe.size; (try simp at this); omega)
              refine wpOp_yes rfl rfl rfl e22 (fun K hK => ?_)
              go_simp
              exact hK _ _ ⟨_, rfl, Below.refl _ _, rfl⟩
            apply free_is
            · intro a' w' hLe hfr hdep
              have e22 : a'.tmps.getD 22 undef = _ := hdep 2 22 (Nat.le_of_ble_eq_true rfl) rfl rfl
              conv at e22 => rhs; whnf
              have f22 := e22; simp only [Array.getD_eq_getD_getElem?] at f22
              have e27 : a'.tmps.getD 27 undef = _ := hdep 7 27 (Nat.le_of_ble_eq_true rfl) rfl rfl
              conv at e27 => rhs; whnf
              have f27 := e27; simp only [Array.getD_eq_getD_getElem?] at f27
              have e29 : a'.tmps.getD 29 undef = _ := hdep 9 29 (Nat.le_of_ble_eq_true rfl) rfl rfl
              conv at e29 => rhs; whnf
              have f29 := e29; simp only [Array.getD_eq_getD_getElem?] at f29
              have kc := fun i => keepc hLe (bl) (by (try simp) <;> omega) i
              have kf := fun i => keepf hLe (bl) (by (try simp) <;> omega) i
              have kz : bl < w'.heap.size := (by have := hLe.size; (try simp at this); omega)
              have kc := fun i => keepc hLe (w.heap.size) (by (try simp) <;> omega) i
              have kf := fun i => keepf hLe (w.heap.size) (by (try simp) <;> omega) i
              have kz : w.heap.size < w'.heap.size := (by have := hLe.size; (try simp at this); omega)
              refine wpOp_yes rfl rfl rfl e22 (fun K hK => ?_)
              go_simp
              refine (specBefore_any _ _ _ _ _).mono ?_
              rintro e w2 ⟨rfl, hb⟩
              exact hK _ _ ⟨_, rfl, hb, rfl⟩
            apply free_is
            · intro a' w' hLe hfr hdep
              have e22 : a'.tmps.getD 22 undef = _ := hdep 2 22 (Nat.le_of_ble_eq_true rfl) rfl rfl
              conv at e22 => rhs; whnf
              have f22 := e22; simp only [Array.getD_eq_getD_getElem?] at f22
              have e30 : a'.tmps.getD 30 undef = _ := hdep 10 30 (Nat.le_of_ble_eq_true rfl) rfl rfl
              conv at e30 => rhs; whnf
              have f30 := e30; simp only [Array.getD_eq_getD_getElem?] at f30
              refine wpOp_yes rfl rfl rfl e22 (fun K hK => ?_)
              go_simp
              exact hK _ _ ⟨_, rfl, Below.refl _ _, rfl⟩
            apply free_is
            · intro a' w' hLe hfr hdep
              have e22 : a'.tmps.getD 22 undef = _ := hdep 2 22 (Nat.le_of_ble_eq_true rfl) rfl rfl
              conv at e22 => rhs; whnf
              have f22 := e22; simp only [Array.getD_eq_getD_getElem?] at f22
              have e31 : a'.tmps.getD 31 undef = _ := hdep 11 31 (Nat.le_of_ble_eq_true rfl) rfl rfl
              conv at e31 => rhs; whnf
              have f31 := e31; simp only [Array.getD_eq_getD_getElem?] at f31
              refine wpOp_plain rfl rfl (fun K hK => ?_)
              go_simp
              exact hK _ _ ⟨_, rfl, Below.refl _ _, rfl⟩
            apply free_nil
            intro vs w8 hb8 hT8
            have e20 : vs 0 = _ := hT8 0 20 rfl
            conv at e20 => rhs; whnf
            have e21 : vs 1 = _ := hT8 1 21 rfl
            conv at e21 => rhs; whnf
            have e22 : vs 2 = _ := hT8 2 22 rfl
            conv at e22 => rhs; whnf
            have e23 : vs 3 = _ := hT8 3 23 rfl
            conv at e23 => rhs; whnf
            have e24 : vs 4 = _ := hT8 4 24 rfl
            conv at e24 => rhs; whnf
            have e25 : vs 5 = _ := hT8 5 25 rfl
            conv at e25 => rhs; whnf
            have e26 : vs 6 = _ := hT8 6 26 rfl
            conv at e26 => rhs; whnf
            have e27 : vs 7 = _ := hT8 7 27 rfl
            conv at e27 => rhs; whnf
            have e28 : vs 8 = _ := hT8 8 28 rfl
            conv at e28 => rhs; whnf
            have e29 : vs 9 = _ := hT8 9 29 rfl
            conv at e29 => rhs; whnf
            have e30 : vs 10 = _ := hT8 10 30 rfl
            conv at e30 => rhs; whnf
            have e31 : vs 11 = _ := hT8 11 31 rfl
            conv at e31 => rhs; whnf
            have e32 : vs 12 = _ := hT8 12 32 rfl
            conv at e32 => rhs; whnf
            simp only [putAll, List.drop_succ_cons, List.drop_zero, e20, e21, e22, e23, e24, e25, e26, e27, e28, e29, e30, e31, e32]
            clear hT8 e20 e21 e22 e23 e24 e25 e26 e27 e28 e29 e30 e31 e32
            go_simp
            have k8 := keepc hb8 bl hbs
            have k9 := keepc hb8 w.heap.size hfs
            have z8 : bl < w8.heap.size := Nat.lt_of_lt_of_le hbs hb8.size
            have z9 : w.heap.size < w8.heap.size := Nat.lt_of_lt_of_le hfs hb8.size
            have hx8 := Lib.hid ((hb8.block w.heap.size hfs).trans hx)
            have hP8 := hP.next hb8
            have hB8 := Below.tr hBw hb8
            clear hP hx
            go_wp2_with (at_builtin; refine wpList_push rfl (.tmp 33) (.tmp 35) 23 rfl 27 _ 3 24 Try.underlying23 info_route (by decide) (by decide) (by decide) rfl (hP8.next (bel_nd _ _)) rfl (heap_alloc_new _ _) (hr0.out.symm) (one_of hr0.out (rte_one x y z)) (by omega) (by have := hB8.size; simp <;> omega) ?_; intro v9 w9 hA9 hB9 hg9)
            have hba : Below (w.heap.size + 1) w8 w9 := ((Below.refl _ _).alloc (by omega) _).trans hB9
            have k10 := keepc hba bl (by omega)
            have k11 := keepc hba w.heap.size (by omega)
            have hsa := hba.size
            have hx10 := Lib.hid ((hba.block w.heap.size (by omega)).trans hx8.out)
            have hB11 := hB8.trans (hba.mono (by omega))
            obtain ⟨A3, c3, hv3, hnc3, hcm3⟩ := hA9.form
            subst hv3
            have hP10 := hA9
            clear hP8 hba hA9 hB9 hg9
            go_wp2
            refine wp_region_free (ds := [(0, 37), (1, 38), (2, 39), (3, 40), (4, 41), (5, 42), (6, 43), (7, 44)]) 8 (by kernel_rfl) (by kernel_rfl) (by first | exact .inl rfl | exact .inr (by kernel_rfl)) (by rfl) rfl rfl ?_
            apply free_is
            · intro a' w' hLe hfr hdep
              have e0 := hfr 0 rfl
              conv at e0 => rhs; whnf
              have f0 := e0; simp only [Array.getD_eq_getD_getElem?] at f0
              refine wpOp_plain rfl rfl (fun K hK => ?_)
              go_simp
              exact hK _ _ ⟨_, rfl, Below.refl _ _, rfl⟩
            apply free_is
            · intro a' w' hLe hfr hdep
              have e8 := hfr 8 rfl
              conv at e8 => rhs; whnf
              have f8 := e8; simp only [Array.getD_eq_getD_getElem?] at f8
              refine wpOp_plain rfl rfl (fun K hK => ?_)
              go_simp
              exact hK _ _ ⟨_, rfl, Below.refl _ _, rfl⟩
            apply free_is
            · intro a' w' hLe hfr hdep
              have e37 : a'.tmps.getD 37 undef = _ := hdep 0 37 (Nat.le_of_ble_eq_true rfl) rfl rfl
              conv at e37 => rhs; whnf
              have f37 := e37; simp only [Array.getD_eq_getD_getElem?] at f37
              have e38 : a'.tmps.getD 38 undef = _ := hdep 1 38 (Nat.le_of_ble_eq_true rfl) rfl rfl
              conv at e38 => rhs; whnf
              have f38 := e38; simp only [Array.getD_eq_getD_getElem?] at f38
              refine wpOp_plain rfl rfl (fun K hK => ?_)
              go_simp
              exact hK _ _ ⟨_, rfl, Below.refl _ _, rfl⟩
            apply free_is
            · intro a' w' hLe hfr hdep
              have e39 : a'.tmps.getD 39 undef = _ := hdep 2 39 (Nat.le_of_ble_eq_true rfl) rfl rfl
              conv at e39 => rhs; whnf
              have f39 := e39; simp only [Array.getD_eq_getD_getElem?] at f39
              refine wpOp_plain rfl rfl (fun K hK => ?_)
              go_simp
              exact hK _ _ ⟨_, rfl, Below.refl _ _, rfl⟩
            apply free_is
            · intro a' w' hLe hfr hdep
              have e40 : a'.tmps.getD 40 undef = _ := hdep 3 40 (Nat.le_of_ble_eq_true rfl) rfl rfl
              conv at e40 => rhs; whnf
              have f40 := e40; simp only [Array.getD_eq_getD_getElem?] at f40
              have kc := fun i => keepc hLe (bl) (by (try simp) <;> omega) i
              have kf := fun i => keepf hLe (bl) (by (try simp) <;> omega) i
              have kz : bl < w'.heap.size := (by have := hLe.size; (try simp at this); omega)
              have kc := fun i => keepc hLe (w.heap.size) (by (try simp) <;> omega) i
              have kf := fun i => keepf hLe (w.heap.size) (by (try simp) <;> omega) i
              have kz : w.heap.size < w'.heap.size := (by have := hLe.size; (try simp at this); omega)
              refine wpOp_plain rfl rfl (fun K hK => ?_)
              go_simp
              exact hK _ _ ⟨_, rfl, Below.refl _ _, rfl⟩
            apply free_is
            · intro a' w' hLe hfr hdep
              have e3 := hfr 3 rfl
              conv at e3 => rhs; whnf
              have f3 := e3; simp only [Array.getD_eq_getD_getElem?] at f3
              refine wpOp_plain rfl rfl (fun K hK => ?_)
              go_simp
              exact hK _ _ ⟨_, rfl, Below.refl _ _, rfl⟩
            apply free_is
            · intro a' w' hLe hfr hdep
              have e42 : a'.tmps.getD 42 undef = _ := hdep 5 42 (Nat.le_of_ble_eq_true rfl) rfl rfl
              conv at e42 => rhs; whnf
              have f42 := e42; simp only [Array.getD_eq_getD_getElem?] at f42
              have kc := fun i => keepc hLe (bl) (by (try simp) <;> omega) i
              have kf := fun i => keepf hLe (bl) (by (try simp) <;> omega) i
              have kz : bl < w'.heap.size := (by have := hLe.size; (try simp at this); omega)
              have kc := fun i => keepc hLe (w.heap.size) (by (try simp) <;> omega) i
              have kf := fun i => keepf hLe (w.heap.size) (by (try simp) <;> omega) i
              have kz : w.heap.size < w'.heap.size := (by have := hLe.size; (try simp at this); omega)
              refine wpOp_plain rfl rfl (fun K hK => ?_)
              go_simp
              exact hK _ _ ⟨_, rfl, Below.refl _ _, rfl⟩
            apply free_is
            · intro a' w' hLe hfr hdep
              have e41 : a'.tmps.getD 41 undef = _ := hdep 4 41 (Nat.le_of_ble_eq_true rfl) rfl rfl
              conv at e41 => rhs; whnf
              have f41 := e41; simp only [Array.getD_eq_getD_getElem?] at f41
              have e43 : a'.tmps.getD 43 undef = _ := hdep 6 43 (Nat.le_of_ble_eq_true rfl) rfl rfl
              conv at e43 => rhs; whnf
              have f43 := e43; simp only [Array.getD_eq_getD_getElem?] at f43
              refine wpOp_plain rfl rfl (fun K hK => ?_)
              go_simp
              exact hK _ _ ⟨_, rfl, Below.refl _ _, rfl⟩
            apply free_nil
            intro vs w12 hb12 hT12
            have e37 : vs 0 = _ := hT12 0 37 rfl
            conv at e37 => rhs; whnf
            have e38 : vs 1 = _ := hT12 1 38 rfl
            conv at e38 => rhs; whnf
            have e39 : vs 2 = _ := hT12 2 39 rfl
            conv at e39 => rhs; whnf
            have e40 : vs 3 = _ := hT12 3 40 rfl
            conv at e40 => rhs; whnf
            have e41 : vs 4 = _ := hT12 4 41 rfl
            conv at e41 => rhs; whnf
            have e42 : vs 5 = _ := hT12 5 42 rfl
            conv at e42 => rhs; whnf
            have e43 : vs 6 = _ := hT12 6 43 rfl
            conv at e43 => rhs; whnf
            have e44 : vs 7 = _ := hT12 7 44 rfl
            conv at e44 => rhs; whnf
            simp only [putAll, List.drop_succ_cons, List.drop_zero, e37, e38, e39, e40, e41, e42, e43, e44]
            clear hT12 e37 e38 e39 e40 e41 e42 e43 e44
            go_simp
            have hP12 := hP10.next hb12
            have hB12 := Below.tr hB11 hb12
            have hx12 := Lib.hid ((hb12.block w.heap.size (by omega)).trans hx10.out)
            have k12 := keepc hb12 bl (by omega)
            have z12 : bl < w12.heap.size := by have := hb12.size; omega
            go_wp2_with (at_builtin; refine wpList_push rfl (.tmp 45) (.tmp 50) 23 rfl 27 _ 3 24 Try.underlying23 info_route (by decide) (by decide) (by decide) rfl (hP12.next (bel_nd _ _)) rfl (heap_alloc_new _ _) (hr1.out.symm) (one_of hr1.out (routeR_one a b c j)) (by omega) (by have := hB12.size; simp <;> omega) ?_; intro v9 w9 hA9 hB9 hg9)
            have hx13 := Lib.hid ((hB9.block w.heap.size (by omega)).trans ((Below.heap_alloc _ _ _ (heap_lt hx12.out)).trans hx12.out))
            have hB14 : Below w.heap.size w w9 := (Below.al hB12 _).trans (hB9.mono (by omega))
            go_roundw
            case rel => exact ⟨j + 1, true, by omega, by have := HPOS.out; simp; omega, by go_num, rfl, by rw [K1.out]; exact hA9, hx13.out, hB14⟩
            case measure => simp [intOf]; omega
        · obtain rfl : d = true := by rw [hd]; simp; omega
          have hq := neq_hit (v := true) (hi_nohit HV.out hpos hlt)
          have K1 := Lib.hid (adK_next hpos)
          have hrowj := Lib.hid (adR_next (c := c) (z := z) hpos)
          clear hd
          go_wp2
          refine wp_region_free (ds := [(0, 20), (1, 21), (2, 22), (3, 23), (4, 24), (5, 25), (6, 26), (7, 27), (8, 28), (9, 29), (10, 30), (11, 31), (12, 32)]) 13 (by kernel_rfl) (by kernel_rfl) (by first | exact .inl rfl | exact .inr (by kernel_rfl)) (by rfl) rfl rfl ?_
          apply free_is
          · intro a' w' hLe hfr hdep
            have e7 := hfr 7 rfl
            conv at e7 => rhs; whnf
            have f7 := e7; simp only [Array.getD_eq_getD_getElem?] at f7
            refine wpOp_plain rfl rfl (fun K hK => ?_)
            go_simp
            exact hK _ _ ⟨_, rfl, Below.refl _ _, rfl⟩
          apply free_is
          · intro a' w' hLe hfr hdep
            have e20 : a'.tmps.getD 20 undef = _ := hdep 0 20 (Nat.le_of_ble_eq_true rfl) rfl rfl
            conv at e20 => rhs; whnf
            have f20 := e20; simp only [Array.getD_eq_getD_getElem?] at f20
            refine wpOp_plain rfl rfl (fun K hK => ?_)
            go_simp
            exact hK _ _ ⟨_, rfl, Below.refl _ _, rfl⟩
          apply free_is
          · intro a' w' hLe hfr hdep
            have e21 : a'.tmps.getD 21 undef = _ := hdep 1 21 (Nat.le_of_ble_eq_true rfl) rfl rfl
            conv at e21 => rhs; whnf
            have f21 := e21; simp only [Array.getD_eq_getD_getElem?] at f21
            refine wpOp_plain rfl rfl (fun K hK => ?_)
            go_simp
            exact hK _ _ ⟨_, rfl, Below.refl _ _, rfl⟩
          apply free_is
          · intro a' w' hLe hfr hdep
            have e22 : a'.tmps.getD 22 undef = _ := hdep 2 22 (Nat.le_of_ble_eq_true rfl) rfl rfl
            conv at e22 => rhs; whnf
            have f22 := e22; simp only [Array.getD_eq_getD_getElem?] at f22
            exact wpOp_no rfl rfl rfl e22 ⟨_, rfl, Below.refl _ _, rfl⟩
          apply free_is
          · intro a' w' hLe hfr hdep
            have e22 : a'.tmps.getD 22 undef = _ := hdep 2 22 (Nat.le_of_ble_eq_true rfl) rfl rfl
            conv at e22 => rhs; whnf
            have f22 := e22; simp only [Array.getD_eq_getD_getElem?] at f22
            exact wpOp_no rfl rfl rfl e22 ⟨_, rfl, Below.refl _ _, rfl⟩
          apply free_is
          · intro a' w' hLe hfr hdep
            have e22 : a'.tmps.getD 22 undef = _ := hdep 2 22 (Nat.le_of_ble_eq_true rfl) rfl rfl
            conv at e22 => rhs; whnf
            have f22 := e22; simp only [Array.getD_eq_getD_getElem?] at f22
            exact wpOp_no rfl rfl rfl e22 ⟨_, rfl, Below.refl _ _, rfl⟩
          apply free_is
          · intro a' w' hLe hfr hdep
            have e22 : a'.tmps.getD 22 undef = _ := hdep 2 22 (Nat.le_of_ble_eq_true rfl) rfl rfl
            conv at e22 => rhs; whnf
            have f22 := e22; simp only [Array.getD_eq_getD_getElem?] at f22
            exact wpOp_no rfl rfl rfl e22 ⟨_, rfl, Below.refl _ _, rfl⟩
          apply free_is
          · intro a' w' hLe hfr hdep
            have e22 : a'.tmps.getD 22 undef = _ := hdep 2 22 (Nat.le_of_ble_eq_true rfl) rfl rfl
            conv at e22 => rhs; whnf
            have f22 := e22; simp only [Array.getD_eq_getD_getElem?] at f22
            exact wpOp_no rfl rfl rfl e22 ⟨_, rfl, Below.refl _ _, rfl⟩
          apply free_is
          · intro a' w' hLe hfr hdep
            have e22 : a'.tmps.getD 22 undef = _ := hdep 2 22 (Nat.le_of_ble_eq_true rfl) rfl rfl
            conv at e22 => rhs; whnf
            have f22 := e22; simp only [Array.getD_eq_getD_getElem?] at f22
            exact wpOp_no rfl rfl rfl e22 ⟨_, rfl, Below.refl _ _, rfl⟩
          apply free_is
          · intro a' w' hLe hfr hdep
            have e22 : a'.tmps.getD 22 undef = _ := hdep 2 22 (Nat.le_of_ble_eq_true rfl) rfl rfl
            conv at e22 => rhs; whnf
            have f22 := e22; simp only [Array.getD_eq_getD_getElem?] at f22
            exact wpOp_no rfl rfl rfl e22 ⟨_, rfl, Below.refl _ _, rfl⟩
          apply free_is
          · intro a' w' hLe hfr hdep
            have e22 : a'.tmps.getD 22 undef = _ := hdep 2 22 (Nat.le_of_ble_eq_true rfl) rfl rfl
            conv at e22 => rhs; whnf
            have f22 := e22; simp only [Array.getD_eq_getD_getElem?] at f22
            exact wpOp_no rfl rfl rfl e22 ⟨_, rfl, Below.refl _ _, rfl⟩
          apply free_is
          · intro a' w' hLe hfr hdep
            have e22 : a'.tmps.getD 22 undef = _ := hdep 2 22 (Nat.le_of_ble_eq_true rfl) rfl rfl
            conv at e22 => rhs; whnf
            have f22 := e22; simp only [Array.getD_eq_getD_getElem?] at f22
            exact wpOp_no rfl rfl rfl e22 ⟨_, rfl, Below.refl _ _, rfl⟩
          apply free_is
          · intro a' w' hLe hfr hdep
            have e22 : a'.tmps.getD 22 undef = _ := hdep 2 22 (Nat.le_of_ble_eq_true rfl) rfl rfl
            conv at e22 => rhs; whnf
            have f22 := e22; simp only [Array.getD_eq_getD_getElem?] at f22
            have e31 : a'.tmps.getD 31 undef = _ := hdep 11 31 (Nat.le_of_ble_eq_true rfl) rfl rfl
            conv at e31 => rhs; whnf
            have f31 := e31; simp only [Array.getD_eq_getD_getElem?] at f31
            refine wpOp_plain rfl rfl (fun K hK => ?_)
            go_simp
            exact hK _ _ ⟨_, rfl, Below.refl _ _, rfl⟩
          apply free_nil
          intro vs w8 hb8 hT8
          have e20 : vs 0 = _ := hT8 0 20 rfl
          conv at e20 => rhs; whnf
          have e21 : vs 1 = _ := hT8 1 21 rfl
          conv at e21 => rhs; whnf
          have e22 : vs 2 = _ := hT8 2 22 rfl
          conv at e22 => rhs; whnf
          have e23 : vs 3 = _ := hT8 3 23 rfl
          conv at e23 => rhs; whnf
          have e24 : vs 4 = _ := hT8 4 24 rfl
          conv at e24 => rhs; whnf
          have e25 : vs 5 = _ := hT8 5 25 rfl
          conv at e25 => rhs; whnf
          have e26 : vs 6 = _ := hT8 6 26 rfl
          conv at e26 => rhs; whnf
          have e27 : vs 7 = _ := hT8 7 27 rfl
          conv at e27 => rhs; whnf
          have e28 : vs 8 = _ := hT8 8 28 rfl
          conv at e28 => rhs; whnf
          have e29 : vs 9 = _ := hT8 9 29 rfl
          conv at e29 => rhs; whnf
          have e30 : vs 10 = _ := hT8 10 30 rfl
          conv at e30 => rhs; whnf
          have e31 : vs 11 = _ := hT8 11 31 rfl
          conv at e31 => rhs; whnf
          have e32 : vs 12 = _ := hT8 12 32 rfl
          conv at e32 => rhs; whnf
          simp only [putAll, List.drop_succ_cons, List.drop_zero, e20, e21, e22, e23, e24, e25, e26, e27, e28, e29, e30, e31, e32]
          clear hT8 e20 e21 e22 e23 e24 e25 e26 e27 e28 e29 e30 e31 e32
          go_simp
          have k8 := keepc hb8 bl hbs
          have k9 := keepc hb8 w.heap.size hfs
          have z8 : bl < w8.heap.size := Nat.lt_of_lt_of_le hbs hb8.size
          have z9 : w.heap.size < w8.heap.size := Nat.lt_of_lt_of_le hfs hb8.size
          have hx8 := Lib.hid ((hb8.block w.heap.size hfs).trans hx)
          have hP8 := hP.next hb8
          have hB8 := Below.tr hBw hb8
          clear hP hx
          have hba : Below (w.heap.size + 1) w8 w8 := Below.refl _ _
          have hP10 := hP8
          have k10 := keepc hba bl (by omega)
          have k11 := keepc hba w.heap.size (by omega)
          have hsa := hba.size
          have hx10 := Lib.hid ((hba.block w.heap.size (by omega)).trans hx8.out)
          have hB11 := hB8.trans (hba.mono (by omega))
          clear hP8 hba
          go_wp2
          refine wp_region_free (ds := [(0, 37), (1, 38), (2, 39), (3, 40), (4, 41), (5, 42), (6, 43), (7, 44)]) 8 (by kernel_rfl) (by kernel_rfl) (by first | exact .inl rfl | exact .inr (by kernel_rfl)) (by rfl) rfl rfl ?_
          apply free_is
          · intro a' w' hLe hfr hdep
            have e0 := hfr 0 rfl
            conv at e0 => rhs; whnf
            have f0 := e0; simp only [Array.getD_eq_getD_getElem?] at f0
            refine wpOp_plain rfl rfl (fun K hK => ?_)
            go_simp
            exact hK _ _ ⟨_, rfl, Below.refl _ _, rfl⟩
          apply free_is
          · intro a' w' hLe hfr hdep
            have e8 := hfr 8 rfl
            conv at e8 => rhs; whnf
            have f8 := e8; simp only [Array.getD_eq_getD_getElem?] at f8
            refine wpOp_plain rfl rfl (fun K hK => ?_)
            go_simp
            exact hK _ _ ⟨_, rfl, Below.refl _ _, rfl⟩
          apply free_is
          · intro a' w' hLe hfr hdep
            have e37 : a'.tmps.getD 37 undef = _ := hdep 0 37 (Nat.le_of_ble_eq_true rfl) rfl rfl
            conv at e37 => rhs; whnf
            have f37 := e37; simp only [Array.getD_eq_getD_getElem?] at f37
            have e38 : a'.tmps.getD 38 undef = _ := hdep 1 38 (Nat.le_of_ble_eq_true rfl) rfl rfl
            conv at e38 => rhs; whnf
            have f38 := e38; simp only [Array.getD_eq_getD_getElem?] at f38
            refine wpOp_plain rfl rfl (fun K hK => ?_)
            go_simp
            exact hK _ _ ⟨_, rfl, Below.refl _ _, rfl⟩
          apply free_is
          · intro a' w' hLe hfr hdep
            have e39 : a'.tmps.getD 39 undef = _ := hdep 2 39 (Nat.le_of_ble_eq_true rfl) rfl rfl
            conv at e39 => rhs; whnf
            have f39 := e39; simp only [Array.getD_eq_getD_getElem?] at f39
            refine wpOp_plain rfl rfl (fun K hK => ?_)
            go_simp
            exact hK _ _ ⟨_, rfl, Below.refl _ _, rfl⟩
          apply free_is
          · intro a' w' hLe hfr hdep
            have e40 : a'.tmps.getD 40 undef = _ := hdep 3 40 (Nat.le_of_ble_eq_true rfl) rfl rfl
            conv at e40 => rhs; whnf
            have f40 := e40; simp only [Array.getD_eq_getD_getElem?] at f40
            have kc := fun i => keepc hLe (bl) (by (try simp) <;> omega) i
            have kf := fun i => keepf hLe (bl) (by (try simp) <;> omega) i
            have kz : bl < w'.heap.size := (by have := hLe.size; (try simp at this); omega)
            have kc := fun i => keepc hLe (w.heap.size) (by (try simp) <;> omega) i
            have kf := fun i => keepf hLe (w.heap.size) (by (try simp) <;> omega) i
            have kz : w.heap.size < w'.heap.size := (by have := hLe.size; (try simp at this); omega)
            refine wpOp_plain rfl rfl (fun K hK => ?_)
            go_simp
            exact hK _ _ ⟨_, rfl, Below.refl _ _, rfl⟩
          apply free_is
          · intro a' w' hLe hfr hdep
            have e3 := hfr 3 rfl
            conv at e3 => rhs; whnf
            have f3 := e3; simp only [Array.getD_eq_getD_getElem?] at f3
            refine wpOp_plain rfl rfl (fun K hK => ?_)
            go_simp
            exact hK _ _ ⟨_, rfl, Below.refl _ _, rfl⟩
          apply free_is
          · intro a' w' hLe hfr hdep
            have e42 : a'.tmps.getD 42 undef = _ := hdep 5 42 (Nat.le_of_ble_eq_true rfl) rfl rfl
            conv at e42 => rhs; whnf
            have f42 := e42; simp only [Array.getD_eq_getD_getElem?] at f42
            have kc := fun i => keepc hLe (bl) (by (try simp) <;> omega) i
            have kf := fun i => keepf hLe (bl) (by (try simp) <;> omega) i
            have kz : bl < w'.heap.size := (by have := hLe.size; (try simp at this); omega)
            have kc := fun i => keepc hLe (w.heap.size) (by (try simp) <;> omega) i
            have kf := fun i => keepf hLe (w.heap.size) (by (try simp) <;> omega) i
            have kz : w.heap.size < w'.heap.size := (by have := hLe.size; (try simp at this); omega)
            refine wpOp_plain rfl rfl (fun K hK => ?_)
            go_simp
            exact hK _ _ ⟨_, rfl, Below.refl _ _, rfl⟩
          apply free_is
          · intro a' w' hLe hfr hdep
            have e41 : a'.tmps.getD 41 undef = _ := hdep 4 41 (Nat.le_of_ble_eq_true rfl) rfl rfl
            conv at e41 => rhs; whnf
            have f41 := e41; simp only [Array.getD_eq_getD_getElem?] at f41
            have e43 : a'.tmps.getD 43 undef = _ := hdep 6 43 (Nat.le_of_ble_eq_true rfl) rfl rfl
            conv at e43 => rhs; whnf
            have f43 := e43; simp only [Array.getD_eq_getD_getElem?] at f43
            refine wpOp_plain rfl rfl (fun K hK => ?_)
            go_simp
            exact hK _ _ ⟨_, rfl, Below.refl _ _, rfl⟩
          apply free_nil
          intro vs w12 hb12 hT12
          have e37 : vs 0 = _ := hT12 0 37 rfl
          conv at e37 => rhs; whnf
          have e38 : vs 1 = _ := hT12 1 38 rfl
          conv at e38 => rhs; whnf
          have e39 : vs 2 = _ := hT12 2 39 rfl
          conv at e39 => rhs; whnf
          have e40 : vs 3 = _ := hT12 3 40 rfl
          conv at e40 => rhs; whnf
          have e41 : vs 4 = _ := hT12 4 41 rfl
          conv at e41 => rhs; whnf
          have e42 : vs 5 = _ := hT12 5 42 rfl
          conv at e42 => rhs; whnf
          have e43 : vs 6 = _ := hT12 6 43 rfl
          conv at e43 => rhs; whnf
          have e44 : vs 7 = _ := hT12 7 44 rfl
          conv at e44 => rhs; whnf
          simp only [putAll, List.drop_succ_cons, List.drop_zero, e37, e38, e39, e40, e41, e42, e43, e44]
          clear hT12 e37 e38 e39 e40 e41 e42 e43 e44
          go_simp
          have hP12 := hP10.next hb12
          have hB12 := Below.tr hB11 hb12
          have hx12 := Lib.hid ((hb12.block w.heap.size (by omega)).trans hx10.out)
          have k12 := keepc hb12 bl (by omega)
          have z12 : bl < w12.heap.size := by have := hb12.size; omega
          go_wp2_with (at_builtin; refine wpList_push rfl (.tmp 45) (.tmp 50) 23 rfl 27 _ 3 24 Try.underlying23 info_route (by decide) (by decide) (by decide) rfl (hP12.next (bel_nd _ _)) rfl (heap_alloc_new _ _) (hrowj.out.symm) (one_of hrowj.out (routeR_one a b c j)) (by omega) (by have := hB12.size; simp <;> omega) ?_; intro v9 w9 hA9 hB9 hg9)
          have hx13 := Lib.hid ((hB9.block w.heap.size (by omega)).trans ((Below.heap_alloc _ _ _ (heap_lt hx12.out)).trans hx12.out))
          have hB14 : Below w.heap.size w w9 := (Below.al hB12 _).trans (hB9.mono (by omega))
          go_roundw
          case rel => exact ⟨j + 1, true, by omega, by simp; omega, by go_num, rfl, by rw [K1.out]; exact hA9, hx13.out, hB14⟩
          case measure => simp [intOf]; omega
      · obtain rfl : n = j := by omega
        clear hrow
        by_cases hpos : apo n a b x y < n
        · obtain rfl : d = true := by rw [hd]; simp; omega
          have EN := Lib.hid (adK_end hpos).symm
          obtain ⟨A5, c5, he5, hO5⟩ := hP.own
          cases he5
          have hB11 := hBw
          clear hd hP
          go_wp2_with fail
          refine (specRoutesValid_any (b := (aC n a b x y a x)) (k := (aC n a b x y b y)) (h := (aC n a b x y c z)) hO5.rows (Nat.le_refl _)).mono ?_
          rintro e w5 ⟨rfl, hb5⟩
          have hB5 := Below.tr hB11 hb5
          have hO6 := hO5.next hb5
          cases hv2 : rtsB (adK n a b x y n) (aC n a b x y a x) (aC n a b x y b y) (aC n a b x y c z) with
          | true =>
            obtain ⟨y1, y2, y3⟩ := ar_yes (x := x) (y := y) (z := z) HV.out (by rw [EN.out]; exact hv2)
            have Y1 := Lib.hid y1
            have Y2 := Lib.hid y2
            have Y3 := Lib.hid y3
            clear y1 y2 y3 hv2
            go_wp2
            go_ret2
            exact ⟨_, _, by rw [Y1.out, Y2.out, EN.out] <;> rfl, by rw [Y1.out, Y3.out, EN.out]; exact hO6.more (by omega), hB5⟩
          | false =>
            obtain ⟨y1, y2, y3⟩ := ar_no (x := x) (y := y) (z := z) HV.out (by rw [EN.out]; exact hv2)
            have Y1 := Lib.hid y1
            have Y2 := Lib.hid y2
            have Y3 := Lib.hid y3
            clear y1 y2 y3 hv2
            go_wp2_with (at_builtin; refine wpList_pushAll rfl (.tmp 61) (.tmp 62) 23 rfl 27 _ 3 24 Try.underlying23 info_route (by decide) (by decide) (by decide) (B := w5.heap.size) (n1 := 0) (R1 := fun _ => [.int .i64 0, .int .i64 0, .int .i64 0]) rfl (Acc.made _ _ _ (fun _ => rfl) (Nat.le_refl _)) rfl (H1.out.below ((Below.al hB5 _).mono hB)) (fun _ => rfl) (routeR_one _ _ _) (by omega) (by omega) (by simp) ?_; intro v6 w6 hAcc6 hBb6 hg6)
            rw [Nat.zero_add] at hAcc6
            obtain ⟨A6, c6, rfl, hO9⟩ := hAcc6.own
            go_ret2
            exact ⟨A6, c6, by rw [Y1.out, Y2.out] <;> rfl, by rw [Y1.out, Y3.out]; exact (hO9.congr fun i _ => by simp [glue]).more hB5.size, (Below.al hB5 _).trans (hBb6.mono hB5.size)⟩
        · have hpe : apo n a b x y = n := by omega
          obtain rfl : d = false := by rw [hd]; simp; omega
          have K0 := Lib.hid (show adK n a b x y n = n from adK_lo (by omega))
          have EN := Lib.hid (show aN n a b x y = adK n a b x y n + 1 by rw [K0.out]; exact adK_add hpe)
          have hr0 := Lib.hid (show adR n a b c x y z (adK n a b x y n) = [.int .i64 x, .int .i64 y, .int .i64 z] by rw [K0.out]; exact adR_at hpe.symm)
          clear hd hpe
          go_wp2_with (at_builtin; refine wpList_push rfl (.tmp 54) (.tmp 56) 23 rfl 27 _ 3 24 Try.underlying23 info_route (by decide) (by decide) (by decide) rfl (hP.next (bel_nd _ _)) rfl (heap_alloc_new _ _) (hr0.out.symm) (one_of hr0.out (rte_one x y z)) (by omega) (by have := hBw.size; simp <;> omega) ?_; intro v9 w9 hA9 hB9 hg9)
          have hB11 : Below w.heap.size w w9 := (Below.al hBw _).trans (hB9.mono (by omega))
          obtain ⟨A5, c5, he5, hO5⟩ := hA9.own
          subst he5
          clear hA9
          go_wp2_with fail
          refine (specRoutesValid_any (b := (aC n a b x y a x)) (k := (aC n a b x y b y)) (h := (aC n a b x y c z)) hO5.rows (Nat.le_refl _)).mono ?_
          rintro e w5 ⟨rfl, hb5⟩
          have hB5 := Below.tr hB11 hb5
          have hO6 := hO5.next hb5
          cases hv2 : rtsB (adK n a b x y n + 1) (aC n a b x y a x) (aC n a b x y b y) (aC n a b x y c z) with
          | true =>
            obtain ⟨y1, y2, y3⟩ := ar_yes (x := x) (y := y) (z := z) HV.out (by rw [EN.out]; exact hv2)
            have Y1 := Lib.hid y1
            have Y2 := Lib.hid y2
            have Y3 := Lib.hid y3
            clear y1 y2 y3 hv2
            go_wp2
            go_ret2
            exact ⟨_, _, by rw [Y1.out, Y2.out, EN.out] <;> rfl, by rw [Y1.out, Y3.out, EN.out]; exact hO6.more (by omega), hB5⟩
          | false =>
            obtain ⟨y1, y2, y3⟩ := ar_no (x := x) (y := y) (z := z) HV.out (by rw [EN.out]; exact hv2)
            have Y1 := Lib.hid y1
            have Y2 := Lib.hid y2
            have Y3 := Lib.hid y3
            clear y1 y2 y3 hv2
            go_wp2_with (at_builtin; refine wpList_pushAll rfl (.tmp 61) (.tmp 62) 23 rfl 27 _ 3 24 Try.underlying23 info_route (by decide) (by decide) (by decide) (B := w5.heap.size) (n1 := 0) (R1 := fun _ => [.int .i64 0, .int .i64 0, .int .i64 0]) rfl (Acc.made _ _ _ (fun _ => rfl) (Nat.le_refl _)) rfl (H1.out.below ((Below.al hB5 _).mono hB)) (fun _ => rfl) (routeR_one _ _ _) (by omega) (by omega) (by simp) ?_; intro v6 w6 hAcc6 hBb6 hg6)
            rw [Nat.zero_add] at hAcc6
            obtain ⟨A6, c6, rfl, hO9⟩ := hAcc6.own
            go_ret2
            exact ⟨A6, c6, by rw [Y1.out, Y2.out] <;> rfl, by rw [Y1.out, Y3.out]; exact (hO9.congr fun i _ => by simp [glue]).more hB5.size, (Below.al hB5 _).trans (hBb6.mono hB5.size)⟩
end Go.Proofs.Ytgoijpbkgkjfeaa
