/-
  ScreenFlow, in the program and in the reference.
-/
import Derived.Test.YtcljfakpcecejaaScrV
namespace Go.Proofs.Ytcljfakpcecejaa
open Go.RowKit

/-- Does screen i of valid screens fit the flow? -/
def sfF (n : Nat) (b k l h d : Nat → Int) (f0 f1 f2 f3 f4 : Int) (i : Nat) : Bool := scsB n b k l h d && fitsB (b i) (k i) (l i) (h i) (d i) f0 f1 f2 f3 f4
/-- The first screen that decides, and what it tells. -/
def sfI (n : Nat) (F : Nat → Bool) : Int := if findTo F n < n then (findTo F n : Int) else -1
def sfP (n : Nat) (F : Nat → Bool) (ps : Nat → Bool) : Bool := decide (findTo F n < n) && ps (findTo F n)
theorem sf_hit {n j : Nat} {F ps : Nat → Bool} (hj : j < n) (hno : ∀ i, i < j → F i = false) (hy : F j = true) : sfI n F = j ∧ sfP n F ps = ps j := by
  have e := findTo_hit hj hno hy
  simp [sfI, sfP, e, hj]
theorem sf_none {n : Nat} {F ps : Nat → Bool} (hno : ∀ i, i < n → F i = false) : sfI n F = -1 ∧ sfP n F ps = false := by
  have e := findTo_none hno
  simp [sfI, sfP, e]

set_option maxHeartbeats 4000000 in
theorem implScreenFlow_any {w : World} {B : Nat} {A : Option Addr} {n c : Nat} {b k l h d : Nat → Int} {ps : Nat → Bool} (f0 f1 f2 f3 f4 : Int) (H : Rws w B 6 A n c (screenR b k l h d ps)) (hB : B ≤ w.heap.size) :
    Calls Try.prog 26 #[.slice A n c, .agg #[.int .i64 f0, .int .i64 f1, .int .i64 f2, .int .i64 f3, .int .i64 f4]] w fun e w' => e = .returned (.tuple #[.int .i64 (sfI n (sfF n b k l h d f0 f1 f2 f3 f4)), .bool (sfP n (sfF n b k l h d f0 f1 f2 f3 f4) ps)]) ∧ Below w.heap.size w w' := by
  have H0 := H
  obtain ⟨⟨hnc, hcm⟩, hrow⟩ := H0
  unfold maxLen at hcm
  cases hv : scsB n b k l h d with
  | false =>
    obtain ⟨r1, r2⟩ := sf_none (n := n) (F := sfF n b k l h d f0 f1 f2 f3 f4) (ps := ps) (fun i _ => by simp [sfF, hv])
    have hr1 := Lib.hid r1
    have hr2 := Lib.hid r2
    clear r1 r2 hrow
    have H1 := Lib.hid H
    clear H
    go_enter Try.func26, Try.ntmps26
    go_wp2_with (go_at_call 16; refine (implScreensValid_any (H1.out.below ((Below.refl _ _).alloc hB _)) (by simp <;> omega)).mono ?_; rintro e w1 ⟨rfl, hb1⟩)
    go_ret2
    exact ⟨by rw [hr1.out, hr2.out] <;> rfl, by (repeat (first | exact Below.refl _ _ | assumption | refine Below.al ?_ _ | refine Below.dr ?_ | (refine Below.st ?_ (by simp <;> omega) _) | (refine Below.tr ?_ (by assumption))))⟩
  | true =>
    have H1 := Lib.hid H
    clear H
    go_enter Try.func26, Try.ntmps26
    go_wp2_with (go_at_call 16; refine (implScreensValid_any (H1.out.below ((Below.refl _ _).alloc hB _)) (by simp <;> omega)).mono ?_; rintro e w1 ⟨rfl, hb1⟩)
    go_loopw [13] (fun i wr => ∃ j : Nat, j ≤ n ∧ i = .int .i64 j ∧ (∀ i, i < j → sfF n b k l h d f0 f1 f2 f3 f4 i = false) ∧ Below (w.alloc (.cells #[.int .i64 f0, .int .i64 f1, .int .i64 f2, .int .i64 f3, .int .i64 f4] 33)).heap.size (w.alloc (.cells #[.int .i64 f0, .int .i64 f1, .int .i64 f2, .int .i64 f3, .int .i64 f4] 33)) wr) (fun i _ => n - (intOf i).toNat)
    case atStart => exact ⟨0, by omega, rfl, fun i hi => absurd hi (by omega), hb1⟩
    case round =>
      obtain ⟨j, hj, rfl, hok, hBw⟩ := hrel
      have hB0 : Below w.heap.size w wr := Below.tr (by (repeat (first | exact Below.refl _ _ | assumption | refine Below.al ?_ _ | refine Below.dr ?_ | (refine Below.st ?_ (by simp <;> omega) _) | (refine Below.tr ?_ (by assumption))))) hBw
      by_cases hlt : j < n
      · obtain ⟨bl, off, rfl, hbB, hc⟩ := hrow (by omega)
        have hr := hc j hlt
        have hbs : bl < wr.heap.size := by have := hB0.size; omega
        have hfs : w.heap.size < wr.heap.size := by have := hBw.size; simp at this; omega
        have q0 : wr.cell? ⟨bl, off + j * 6, none⟩ = some (.int .i64 (b j)) := (keepc hB0 bl (by omega) _).trans (hr 0 _ rfl)
        have q1 : wr.cell? ⟨bl, off + j * 6 + 1, none⟩ = some (.int .i64 (k j)) := (keepc hB0 bl (by omega) _).trans (hr 1 _ rfl)
        have q2 : wr.cell? ⟨bl, off + j * 6 + 2, none⟩ = some (.int .i64 (l j)) := (keepc hB0 bl (by omega) _).trans (hr 2 _ rfl)
        have q3 : wr.cell? ⟨bl, off + j * 6 + 3, none⟩ = some (.int .i64 (h j)) := (keepc hB0 bl (by omega) _).trans (hr 3 _ rfl)
        have q4 : wr.cell? ⟨bl, off + j * 6 + 4, none⟩ = some (.int .i64 (d j)) := (keepc hB0 bl (by omega) _).trans (hr 4 _ rfl)
        have q5 : wr.cell? ⟨bl, off + j * 6 + 5, none⟩ = some (.bool (ps j)) := (keepc hB0 bl (by omega) _).trans (hr 5 _ rfl)
        have kf : ∀ i, wr.cell? ⟨w.heap.size, i, none⟩ = #[Value.int .i64 f0, .int .i64 f1, .int .i64 f2, .int .i64 f3, .int .i64 f4][i]? := fun i => (keepc hBw w.heap.size (by simp) i).trans ((blk (heap_alloc_new w _)).1 i)
        have HO := Lib.hid hok
        clear hok hr hc hrow hb1
        cases hq : fitsB (b j) (k j) (l j) (h j) (d j) f0 f1 f2 f3 f4 with
        | false =>
          have hno := Lib.hid (show sfF n b k l h d f0 f1 f2 f3 f4 j = false by simp [sfF, hq])
          go_wp2_with (go_at_call 14; refine (implScreenFits_any _ _ _ _ _ _ _ _ _ _ _ _).mono ?_; rintro e w2 ⟨rfl, hb2⟩)
          go_roundw
          case rel => exact ⟨j + 1, by omega, by go_num, upto HO.out hno.out, by (repeat (first | exact Below.refl _ _ | assumption | refine Below.al ?_ _ | refine Below.dr ?_ | (refine Below.st ?_ (by simp <;> omega) _) | (refine Below.tr ?_ (by assumption))))⟩
          case measure => simp [intOf]; omega
        | true =>
          have hy : sfF n b k l h d f0 f1 f2 f3 f4 j = true := by simp [sfF, hv, hq]
          obtain ⟨r1, r2⟩ := sf_hit (ps := ps) hlt HO.out hy
          have hr1 := Lib.hid r1
          have hr2 := Lib.hid r2
          clear r1 r2 hy
          go_wp2_with (go_at_call 14; refine (implScreenFits_any _ _ _ _ _ _ _ _ _ _ _ _).mono ?_; rintro e w2 ⟨rfl, hb2⟩; have k0 := keepc hb2 wr.heap.size (by simp <;> omega); have z0 : wr.heap.size < w2.heap.size := (by have := hb2.size; simp at this; omega))
          refine wp_region_free (ds := [(0, 21), (1, 22), (2, 23), (3, 4), (4, 5)]) 5 (by kernel_rfl) (by kernel_rfl) (by first | exact .inl rfl | exact .inr (by kernel_rfl)) (by rfl) rfl rfl ?_
          apply free_is
          · intro a' w' hLe hfr hdep
            have e6 := hfr 6 rfl
            conv at e6 => rhs; whnf
            have f6 := e6; simp only [Array.getD_eq_getD_getElem?] at f6
            refine wpOp_plain rfl rfl (fun K hK => ?_)
            go_simp
            exact hK _ _ ⟨_, rfl, Below.refl _ _, rfl⟩
          apply free_is
          · intro a' w' hLe hfr hdep
            have e7 := hfr 7 rfl
            conv at e7 => rhs; whnf
            have f7 := e7; simp only [Array.getD_eq_getD_getElem?] at f7
            refine wpOp_plain rfl rfl (fun K hK => ?_)
            go_simp
            exact hK _ _ ⟨_, rfl, Below.refl _ _, rfl⟩
          apply free_is
          · intro a' w' hLe hfr hdep
            have e22 : a'.tmps.getD 22 undef = _ := hdep 1 22 (Nat.le_of_ble_eq_true rfl) rfl rfl
            conv at e22 => rhs; whnf
            have f22 := e22; simp only [Array.getD_eq_getD_getElem?] at f22
            have kc := fun i => keepc hLe (wr.heap.size) (by (try simp) <;> omega) i
            have kf := fun i => keepf hLe (wr.heap.size) (by (try simp) <;> omega) i
            have kz : wr.heap.size < w'.heap.size := (by have := hLe.size; (try simp at this); omega)
            refine wpOp_plain rfl rfl (fun K hK => ?_)
            go_simp
            exact hK _ _ ⟨_, rfl, Below.refl _ _, rfl⟩
          apply free_is
          · intro a' w' hLe hfr hdep
            have e21 : a'.tmps.getD 21 undef = _ := hdep 0 21 (Nat.le_of_ble_eq_true rfl) rfl rfl
            conv at e21 => rhs; whnf
            have f21 := e21; simp only [Array.getD_eq_getD_getElem?] at f21
            refine wpOp_plain rfl rfl (fun K hK => ?_)
            go_simp
            exact hK _ _ ⟨_, rfl, Below.refl _ _, rfl⟩
          apply free_is
          · intro a' w' hLe hfr hdep
            have e23 : a'.tmps.getD 23 undef = _ := hdep 2 23 (Nat.le_of_ble_eq_true rfl) rfl rfl
            conv at e23 => rhs; whnf
            have f23 := e23; simp only [Array.getD_eq_getD_getElem?] at f23
            refine wpOp_plain rfl rfl (fun K hK => ?_)
            go_simp
            exact hK _ _ ⟨_, rfl, Below.refl _ _, rfl⟩
          apply free_nil
          intro vs w7 hb7 hT7
          have e21 : vs 0 = _ := hT7 0 21 rfl
          conv at e21 => rhs; whnf
          have e22 : vs 1 = _ := hT7 1 22 rfl
          conv at e22 => rhs; whnf
          have e23 : vs 2 = _ := hT7 2 23 rfl
          conv at e23 => rhs; whnf
          have e4 : vs 3 = _ := hT7 3 4 rfl
          conv at e4 => rhs; whnf
          have e5 : vs 4 = _ := hT7 4 5 rfl
          conv at e5 => rhs; whnf
          simp only [putAll, List.drop_succ_cons, List.drop_zero, e21, e22, e23, e4, e5]
          clear hT7 e21 e22 e23 e4 e5
          go_simp
          go_wp2
          go_ret2
          exact ⟨by rw [hr1.out, hr2.out] <;> rfl, by (repeat (first | exact Below.refl _ _ | assumption | refine Below.al ?_ _ | refine Below.dr ?_ | (refine Below.st ?_ (by simp <;> omega) _) | (refine Below.tr ?_ (by assumption))))⟩
      · obtain rfl : j = n := by omega
        obtain ⟨r1, r2⟩ := sf_none (ps := ps) hok
        have hr1 := Lib.hid r1
        have hr2 := Lib.hid r2
        clear r1 r2 hok hrow
        go_wp2
        go_ret2
        exact ⟨by rw [hr1.out, hr2.out] <;> rfl, hB0⟩

set_option maxHeartbeats 4000000 in
theorem specScreenFlow_any {w : World} {B : Nat} {A : Option Addr} {n c : Nat} {b k l h d : Nat → Int} {ps : Nat → Bool} (f0 f1 f2 f3 f4 : Int) (H : Rws w B 6 A n c (screenR b k l h d ps)) (hB : B ≤ w.heap.size) :
    Calls Try.prog 27 #[.slice A n c, .agg #[.int .i64 f0, .int .i64 f1, .int .i64 f2, .int .i64 f3, .int .i64 f4]] w fun e w' => e = .returned (.tuple #[.int .i64 (sfI n (sfF n b k l h d f0 f1 f2 f3 f4)), .bool (sfP n (sfF n b k l h d f0 f1 f2 f3 f4) ps)]) ∧ Below w.heap.size w w' := by
  have H0 := H
  obtain ⟨⟨hnc, hcm⟩, hrow⟩ := H0
  unfold maxLen at hcm
  have H1 := Lib.hid H
  clear H
  go_enter Try.func27, Try.ntmps27
  go_wp2
  go_loopw [6] (fun i wr => ∃ j : Nat, j ≤ n ∧ i = .int .i64 j ∧ (∀ i, i < j → sfF n b k l h d f0 f1 f2 f3 f4 i = false) ∧ Below (w.alloc (.cells #[.int .i64 f0, .int .i64 f1, .int .i64 f2, .int .i64 f3, .int .i64 f4] 33)).heap.size (w.alloc (.cells #[.int .i64 f0, .int .i64 f1, .int .i64 f2, .int .i64 f3, .int .i64 f4] 33)) wr) (fun i _ => n - (intOf i).toNat)
  case atStart => exact ⟨0, by omega, rfl, fun i hi => absurd hi (by omega), Below.refl _ _⟩
  case round =>
    obtain ⟨j, hj, rfl, hok, hBw⟩ := hrel
    have hB0 : Below w.heap.size w wr := Below.tr (by (repeat (first | exact Below.refl _ _ | assumption | refine Below.al ?_ _ | refine Below.dr ?_ | (refine Below.st ?_ (by simp <;> omega) _) | (refine Below.tr ?_ (by assumption))))) hBw
    have hfs : w.heap.size < wr.heap.size := by have := hBw.size; simp at this; omega
    by_cases hlt : j < n
    · cases hv : scsB n b k l h d with
      | false =>
        obtain ⟨r1, r2⟩ := sf_none (n := n) (F := sfF n b k l h d f0 f1 f2 f3 f4) (ps := ps) (fun i _ => by simp [sfF, hv])
        have hr1 := Lib.hid r1
        have hr2 := Lib.hid r2
        clear r1 r2 hrow hok
        go_wp2_with (go_at_call 17; refine (specScreensValid_any (H1.out.below (hB0.mono hB)) (by omega)).mono ?_; rintro e w1 ⟨rfl, hb1⟩)
        go_ret2
        exact ⟨by rw [hr1.out, hr2.out] <;> rfl, by (repeat (first | exact Below.refl _ _ | assumption | refine Below.al ?_ _ | refine Below.dr ?_ | (refine Below.st ?_ (by simp <;> omega) _) | (refine Below.tr ?_ (by assumption))))⟩
      | true =>
        obtain ⟨bl, off, rfl, hbB, hc⟩ := hrow (by omega)
        have hr := hc j hlt
        have hbs : bl < wr.heap.size := by have := hB0.size; omega
        have q0 : wr.cell? ⟨bl, off + j * 6, none⟩ = some (.int .i64 (b j)) := (keepc hB0 bl (by omega) _).trans (hr 0 _ rfl)
        have q1 : wr.cell? ⟨bl, off + j * 6 + 1, none⟩ = some (.int .i64 (k j)) := (keepc hB0 bl (by omega) _).trans (hr 1 _ rfl)
        have q2 : wr.cell? ⟨bl, off + j * 6 + 2, none⟩ = some (.int .i64 (l j)) := (keepc hB0 bl (by omega) _).trans (hr 2 _ rfl)
        have q3 : wr.cell? ⟨bl, off + j * 6 + 3, none⟩ = some (.int .i64 (h j)) := (keepc hB0 bl (by omega) _).trans (hr 3 _ rfl)
        have q4 : wr.cell? ⟨bl, off + j * 6 + 4, none⟩ = some (.int .i64 (d j)) := (keepc hB0 bl (by omega) _).trans (hr 4 _ rfl)
        have q5 : wr.cell? ⟨bl, off + j * 6 + 5, none⟩ = some (.bool (ps j)) := (keepc hB0 bl (by omega) _).trans (hr 5 _ rfl)
        have kf : ∀ i, wr.cell? ⟨w.heap.size, i, none⟩ = #[Value.int .i64 f0, .int .i64 f1, .int .i64 f2, .int .i64 f3, .int .i64 f4][i]? := fun i => (keepc hBw w.heap.size (by simp) i).trans ((blk (heap_alloc_new w _)).1 i)
        have HO := Lib.hid hok
        clear hok hr hc hrow
        go_wp2_with (go_at_call 17; refine (specScreensValid_any (H1.out.below (hB0.mono hB)) (by omega)).mono ?_; rintro e w1 ⟨rfl, hb1⟩; have k1 := keepc hb1 bl hbs; have k2 := keepc hb1 w.heap.size hfs; have z1 : bl < w1.heap.size := Nat.lt_of_lt_of_le hbs hb1.size; have z2 : w.heap.size < w1.heap.size := Nat.lt_of_lt_of_le hfs hb1.size)
        cases hq : fitsB (b j) (k j) (l j) (h j) (d j) f0 f1 f2 f3 f4 with
        | false =>
          have hno := Lib.hid (show sfF n b k l h d f0 f1 f2 f3 f4 j = false by simp [sfF, hq])
          refine wp_region_free (ds := [(0, 17), (1, 18), (2, 19), (3, 20), (4, 21), (5, 22)]) 6 (by kernel_rfl) (by kernel_rfl) (by first | exact .inl rfl | exact .inr (by kernel_rfl)) (by rfl) rfl rfl ?_
          apply free_is
          · intro a' w' hLe hfr hdep
            have e0 := hfr 0 rfl
            conv at e0 => rhs; whnf
            have f0 := e0; simp only [Array.getD_eq_getD_getElem?] at f0
            refine wpOp_plain rfl rfl (fun K hK => ?_)
            go_simp
            exact hK _ _ ⟨_, rfl, Below.refl _ _, rfl⟩
          apply free_is
          · intro a' w' hLe hfr hdep
            have e6 := hfr 6 rfl
            conv at e6 => rhs; whnf
            have f6 := e6; simp only [Array.getD_eq_getD_getElem?] at f6
            refine wpOp_plain rfl rfl (fun K hK => ?_)
            go_simp
            exact hK _ _ ⟨_, rfl, Below.refl _ _, rfl⟩
          apply free_is
          · intro a' w' hLe hfr hdep
            have e17 : a'.tmps.getD 17 undef = _ := hdep 0 17 (Nat.le_of_ble_eq_true rfl) rfl rfl
            conv at e17 => rhs; whnf
            have f17 := e17; simp only [Array.getD_eq_getD_getElem?] at f17
            have e18 : a'.tmps.getD 18 undef = _ := hdep 1 18 (Nat.le_of_ble_eq_true rfl) rfl rfl
            conv at e18 => rhs; whnf
            have f18 := e18; simp only [Array.getD_eq_getD_getElem?] at f18
            refine wpOp_plain rfl rfl (fun K hK => ?_)
            go_simp
            exact hK _ _ ⟨_, rfl, Below.refl _ _, rfl⟩
          apply free_is
          · intro a' w' hLe hfr hdep
            have e19 : a'.tmps.getD 19 undef = _ := hdep 2 19 (Nat.le_of_ble_eq_true rfl) rfl rfl
            conv at e19 => rhs; whnf
            have f19 := e19; simp only [Array.getD_eq_getD_getElem?] at f19
            have kc := fun i => keepc hLe (bl) (by (try simp) <;> omega) i
            have kf := fun i => keepf hLe (bl) (by (try simp) <;> omega) i
            have kz : bl < w'.heap.size := (by have := hLe.size; (try simp at this); omega)
            have kc := fun i => keepc hLe (w.heap.size) (by (try simp) <;> omega) i
            have kf := fun i => keepf hLe (w.heap.size) (by (try simp) <;> omega) i
            have kz : w.heap.size < w'.heap.size := (by have := hLe.size; (try simp at this); omega)
            refine wpOp_plain rfl rfl (fun K hK => ?_)
            go_simp
            exact hK _ _ ⟨_, rfl, Below.refl _ _, rfl⟩
          apply free_is
          · intro a' w' hLe hfr hdep
            have e3 := hfr 3 rfl
            conv at e3 => rhs; whnf
            have f3 := e3; simp only [Array.getD_eq_getD_getElem?] at f3
            have kc := fun i => keepc hLe (bl) (by (try simp) <;> omega) i
            have kf := fun i => keepf hLe (bl) (by (try simp) <;> omega) i
            have kz : bl < w'.heap.size := (by have := hLe.size; (try simp at this); omega)
            have kc := fun i => keepc hLe (w.heap.size) (by (try simp) <;> omega) i
            have kf := fun i => keepf hLe (w.heap.size) (by (try simp) <;> omega) i
            have kz : w.heap.size < w'.heap.size := (by have := hLe.size; (try simp at this); omega)
            refine wpOp_plain rfl rfl (fun K hK => ?_)
            go_simp
            exact hK _ _ ⟨_, rfl, Below.refl _ _, rfl⟩
          apply free_is
          · intro a' w' hLe hfr hdep
            have e20 : a'.tmps.getD 20 undef = _ := hdep 3 20 (Nat.le_of_ble_eq_true rfl) rfl rfl
            conv at e20 => rhs; whnf
            have f20 := e20; simp only [Array.getD_eq_getD_getElem?] at f20
            have e21 : a'.tmps.getD 21 undef = _ := hdep 4 21 (Nat.le_of_ble_eq_true rfl) rfl rfl
            conv at e21 => rhs; whnf
            have f21 := e21; simp only [Array.getD_eq_getD_getElem?] at f21
            have kc := fun i => keepc hLe (bl) (by (try simp) <;> omega) i
            have kf := fun i => keepf hLe (bl) (by (try simp) <;> omega) i
            have kz : bl < w'.heap.size := (by have := hLe.size; (try simp at this); omega)
            have kc := fun i => keepc hLe (w.heap.size) (by (try simp) <;> omega) i
            have kf := fun i => keepf hLe (w.heap.size) (by (try simp) <;> omega) i
            have kz : w.heap.size < w'.heap.size := (by have := hLe.size; (try simp at this); omega)
            refine wpOp_plain rfl rfl (fun K hK => ?_)
            go_simp
            refine (specScreenFits_any _ _ _ _ _ _ _ _ _ _ _ _).mono ?_
            rintro e w2 ⟨rfl, hb⟩
            exact hK _ _ ⟨_, rfl, hb, rfl⟩
          apply free_nil
          intro vs w4 hb4 hT4
          have e17 : vs 0 = _ := hT4 0 17 rfl
          conv at e17 => rhs; whnf
          have e18 : vs 1 = _ := hT4 1 18 rfl
          conv at e18 => rhs; whnf
          have e19 : vs 2 = _ := hT4 2 19 rfl
          conv at e19 => rhs; whnf
          have e20 : vs 3 = _ := hT4 3 20 rfl
          conv at e20 => rhs; whnf
          have e21 : vs 4 = _ := hT4 4 21 rfl
          conv at e21 => rhs; whnf
          have e22 : vs 5 = _ := hT4 5 22 rfl
          conv at e22 => rhs; whnf
          simp only [putAll, List.drop_succ_cons, List.drop_zero, e17, e18, e19, e20, e21, e22]
          clear hT4 e17 e18 e19 e20 e21 e22
          go_simp
          go_wp2
          go_roundw
          case rel => exact ⟨j + 1, by omega, by go_num, upto HO.out hno.out, by (repeat (first | exact Below.refl _ _ | assumption | refine Below.al ?_ _ | refine Below.dr ?_ | (refine Below.st ?_ (by simp <;> omega) _) | (refine Below.tr ?_ (by assumption))))⟩
          case measure => simp [intOf]; omega
        | true =>
          have hy : sfF n b k l h d f0 f1 f2 f3 f4 j = true := by simp [sfF, hv, hq]
          obtain ⟨r1, r2⟩ := sf_hit (ps := ps) hlt HO.out hy
          have hr1 := Lib.hid r1
          have hr2 := Lib.hid r2
          clear r1 r2 hy
          refine wp_region_free (ds := [(0, 17), (1, 18), (2, 19), (3, 20), (4, 21), (5, 22)]) 6 (by kernel_rfl) (by kernel_rfl) (by first | exact .inl rfl | exact .inr (by kernel_rfl)) (by rfl) rfl rfl ?_
          apply free_is
          · intro a' w' hLe hfr hdep
            have e0 := hfr 0 rfl
            conv at e0 => rhs; whnf
            have f0 := e0; simp only [Array.getD_eq_getD_getElem?] at f0
            refine wpOp_plain rfl rfl (fun K hK => ?_)
            go_simp
            exact hK _ _ ⟨_, rfl, Below.refl _ _, rfl⟩
          apply free_is
          · intro a' w' hLe hfr hdep
            have e6 := hfr 6 rfl
            conv at e6 => rhs; whnf
            have f6 := e6; simp only [Array.getD_eq_getD_getElem?] at f6
            refine wpOp_plain rfl rfl (fun K hK => ?_)
            go_simp
            exact hK _ _ ⟨_, rfl, Below.refl _ _, rfl⟩
          apply free_is
          · intro a' w' hLe hfr hdep
            have e17 : a'.tmps.getD 17 undef = _ := hdep 0 17 (Nat.le_of_ble_eq_true rfl) rfl rfl
            conv at e17 => rhs; whnf
            have f17 := e17; simp only [Array.getD_eq_getD_getElem?] at f17
            have e18 : a'.tmps.getD 18 undef = _ := hdep 1 18 (Nat.le_of_ble_eq_true rfl) rfl rfl
            conv at e18 => rhs; whnf
            have f18 := e18; simp only [Array.getD_eq_getD_getElem?] at f18
            refine wpOp_plain rfl rfl (fun K hK => ?_)
            go_simp
            exact hK _ _ ⟨_, rfl, Below.refl _ _, rfl⟩
          apply free_is
          · intro a' w' hLe hfr hdep
            have e19 : a'.tmps.getD 19 undef = _ := hdep 2 19 (Nat.le_of_ble_eq_true rfl) rfl rfl
            conv at e19 => rhs; whnf
            have f19 := e19; simp only [Array.getD_eq_getD_getElem?] at f19
            have kc := fun i => keepc hLe (bl) (by (try simp) <;> omega) i
            have kf := fun i => keepf hLe (bl) (by (try simp) <;> omega) i
            have kz : bl < w'.heap.size := (by have := hLe.size; (try simp at this); omega)
            have kc := fun i => keepc hLe (w.heap.size) (by (try simp) <;> omega) i
            have kf := fun i => keepf hLe (w.heap.size) (by (try simp) <;> omega) i
            have kz : w.heap.size < w'.heap.size := (by have := hLe.size; (try simp at this); omega)
            refine wpOp_plain rfl rfl (fun K hK => ?_)
            go_simp
            exact hK _ _ ⟨_, rfl, Below.refl _ _, rfl⟩
          apply free_is
          · intro a' w' hLe hfr hdep
            have e3 := hfr 3 rfl
            conv at e3 => rhs; whnf
            have f3 := e3; simp only [Array.getD_eq_getD_getElem?] at f3
            have kc := fun i => keepc hLe (bl) (by (try simp) <;> omega) i
            have kf := fun i => keepf hLe (bl) (by (try simp) <;> omega) i
            have kz : bl < w'.heap.size := (by have := hLe.size; (try simp at this); omega)
            have kc := fun i => keepc hLe (w.heap.size) (by (try simp) <;> omega) i
            have kf := fun i => keepf hLe (w.heap.size) (by (try simp) <;> omega) i
            have kz : w.heap.size < w'.heap.size := (by have := hLe.size; (try simp at this); omega)
            refine wpOp_plain rfl rfl (fun K hK => ?_)
            go_simp
            exact hK _ _ ⟨_, rfl, Below.refl _ _, rfl⟩
          apply free_is
          · intro a' w' hLe hfr hdep
            have e20 : a'.tmps.getD 20 undef = _ := hdep 3 20 (Nat.le_of_ble_eq_true rfl) rfl rfl
            conv at e20 => rhs; whnf
            have f20 := e20; simp only [Array.getD_eq_getD_getElem?] at f20
            have e21 : a'.tmps.getD 21 undef = _ := hdep 4 21 (Nat.le_of_ble_eq_true rfl) rfl rfl
            conv at e21 => rhs; whnf
            have f21 := e21; simp only [Array.getD_eq_getD_getElem?] at f21
            have kc := fun i => keepc hLe (bl) (by (try simp) <;> omega) i
            have kf := fun i => keepf hLe (bl) (by (try simp) <;> omega) i
            have kz : bl < w'.heap.size := (by have := hLe.size; (try simp at this); omega)
            have kc := fun i => keepc hLe (w.heap.size) (by (try simp) <;> omega) i
            have kf := fun i => keepf hLe (w.heap.size) (by (try simp) <;> omega) i
            have kz : w.heap.size < w'.heap.size := (by have := hLe.size; (try simp at this); omega)
            refine wpOp_plain rfl rfl (fun K hK => ?_)
            go_simp
            refine (specScreenFits_any _ _ _ _ _ _ _ _ _ _ _ _).mono ?_
            rintro e w2 ⟨rfl, hb⟩
            exact hK _ _ ⟨_, rfl, hb, rfl⟩
          apply free_nil
          intro vs w4 hb4 hT4
          have e17 : vs 0 = _ := hT4 0 17 rfl
          conv at e17 => rhs; whnf
          have e18 : vs 1 = _ := hT4 1 18 rfl
          conv at e18 => rhs; whnf
          have e19 : vs 2 = _ := hT4 2 19 rfl
          conv at e19 => rhs; whnf
          have e20 : vs 3 = _ := hT4 3 20 rfl
          conv at e20 => rhs; whnf
          have e21 : vs 4 = _ := hT4 4 21 rfl
          conv at e21 => rhs; whnf
          have e22 : vs 5 = _ := hT4 5 22 rfl
          conv at e22 => rhs; whnf
          simp only [putAll, List.drop_succ_cons, List.drop_zero, e17, e18, e19, e20, e21, e22]
          clear hT4 e17 e18 e19 e20 e21 e22
          go_simp
          have k3 := keepc hb4 bl z1
          have z3 : bl < w4.heap.size := Nat.lt_of_lt_of_le z1 hb4.size
          go_wp2
          refine wp_region_free (ds := [(0, 23), (1, 24), (2, 25), (3, 26), (4, 27), (5, 28), (6, 4), (7, 5)]) 8 (by kernel_rfl) (by kernel_rfl) (by first | exact .inl rfl | exact .inr (by kernel_rfl)) (by rfl) rfl rfl ?_
          apply free_is
          · intro a' w' hLe hfr hdep
            have e6 := hfr 6 rfl
            conv at e6 => rhs; whnf
            have f6 := e6; simp only [Array.getD_eq_getD_getElem?] at f6
            refine wpOp_plain rfl rfl (fun K hK => ?_)
            go_simp
            exact hK _ _ ⟨_, rfl, Below.refl _ _, rfl⟩
          apply free_is
          · intro a' w' hLe hfr hdep
            have e0 := hfr 0 rfl
            conv at e0 => rhs; whnf
            have f0 := e0; simp only [Array.getD_eq_getD_getElem?] at f0
            refine wpOp_plain rfl rfl (fun K hK => ?_)
            go_simp
            exact hK _ _ ⟨_, rfl, Below.refl _ _, rfl⟩
          apply free_is
          · intro a' w' hLe hfr hdep
            have e6 := hfr 6 rfl
            conv at e6 => rhs; whnf
            have f6 := e6; simp only [Array.getD_eq_getD_getElem?] at f6
            refine wpOp_plain rfl rfl (fun K hK => ?_)
            go_simp
            exact hK _ _ ⟨_, rfl, Below.refl _ _, rfl⟩
          apply free_is
          · intro a' w' hLe hfr hdep
            have e24 : a'.tmps.getD 24 undef = _ := hdep 1 24 (Nat.le_of_ble_eq_true rfl) rfl rfl
            conv at e24 => rhs; whnf
            have f24 := e24; simp only [Array.getD_eq_getD_getElem?] at f24
            have e25 : a'.tmps.getD 25 undef = _ := hdep 2 25 (Nat.le_of_ble_eq_true rfl) rfl rfl
            conv at e25 => rhs; whnf
            have f25 := e25; simp only [Array.getD_eq_getD_getElem?] at f25
            refine wpOp_plain rfl rfl (fun K hK => ?_)
            go_simp
            exact hK _ _ ⟨_, rfl, Below.refl _ _, rfl⟩
          apply free_is
          · intro a' w' hLe hfr hdep
            have e26 : a'.tmps.getD 26 undef = _ := hdep 3 26 (Nat.le_of_ble_eq_true rfl) rfl rfl
            conv at e26 => rhs; whnf
            have f26 := e26; simp only [Array.getD_eq_getD_getElem?] at f26
            refine wpOp_plain rfl rfl (fun K hK => ?_)
            go_simp
            exact hK _ _ ⟨_, rfl, Below.refl _ _, rfl⟩
          apply free_is
          · intro a' w' hLe hfr hdep
            have e27 : a'.tmps.getD 27 undef = _ := hdep 4 27 (Nat.le_of_ble_eq_true rfl) rfl rfl
            conv at e27 => rhs; whnf
            have f27 := e27; simp only [Array.getD_eq_getD_getElem?] at f27
            have kc := fun i => keepc hLe (bl) (by (try simp) <;> omega) i
            have kf := fun i => keepf hLe (bl) (by (try simp) <;> omega) i
            have kz : bl < w'.heap.size := (by have := hLe.size; (try simp at this); omega)
            refine wpOp_plain rfl rfl (fun K hK => ?_)
            go_simp
            exact hK _ _ ⟨_, rfl, Below.refl _ _, rfl⟩
          apply free_is
          · intro a' w' hLe hfr hdep
            have e23 : a'.tmps.getD 23 undef = _ := hdep 0 23 (Nat.le_of_ble_eq_true rfl) rfl rfl
            conv at e23 => rhs; whnf
            have f23 := e23; simp only [Array.getD_eq_getD_getElem?] at f23
            refine wpOp_plain rfl rfl (fun K hK => ?_)
            go_simp
            exact hK _ _ ⟨_, rfl, Below.refl _ _, rfl⟩
          apply free_is
          · intro a' w' hLe hfr hdep
            have e28 : a'.tmps.getD 28 undef = _ := hdep 5 28 (Nat.le_of_ble_eq_true rfl) rfl rfl
            conv at e28 => rhs; whnf
            have f28 := e28; simp only [Array.getD_eq_getD_getElem?] at f28
            refine wpOp_plain rfl rfl (fun K hK => ?_)
            go_simp
            exact hK _ _ ⟨_, rfl, Below.refl _ _, rfl⟩
          apply free_nil
          intro vs w5 hb5 hT5
          have e23 : vs 0 = _ := hT5 0 23 rfl
          conv at e23 => rhs; whnf
          have e24 : vs 1 = _ := hT5 1 24 rfl
          conv at e24 => rhs; whnf
          have e25 : vs 2 = _ := hT5 2 25 rfl
          conv at e25 => rhs; whnf
          have e26 : vs 3 = _ := hT5 3 26 rfl
          conv at e26 => rhs; whnf
          have e27 : vs 4 = _ := hT5 4 27 rfl
          conv at e27 => rhs; whnf
          have e28 : vs 5 = _ := hT5 5 28 rfl
          conv at e28 => rhs; whnf
          have e4 : vs 6 = _ := hT5 6 4 rfl
          conv at e4 => rhs; whnf
          have e5 : vs 7 = _ := hT5 7 5 rfl
          conv at e5 => rhs; whnf
          simp only [putAll, List.drop_succ_cons, List.drop_zero, e23, e24, e25, e26, e27, e28, e4, e5]
          clear hT5 e23 e24 e25 e26 e27 e28 e4 e5
          go_simp
          go_wp2
          go_ret2
          exact ⟨by rw [hr1.out, hr2.out] <;> rfl, by (repeat (first | exact Below.refl _ _ | assumption | refine Below.al ?_ _ | refine Below.dr ?_ | (refine Below.st ?_ (by simp <;> omega) _) | (refine Below.tr ?_ (by assumption))))⟩
    · obtain rfl : j = n := by omega
      obtain ⟨r1, r2⟩ := sf_none (ps := ps) hok
      have hr1 := Lib.hid r1
      have hr2 := Lib.hid r2
      clear r1 r2 hok hrow
      go_wp2
      go_ret2
      exact ⟨by rw [hr1.out, hr2.out] <;> rfl, hB0⟩
end Go.Proofs.Ytcljfakpcecejaa
