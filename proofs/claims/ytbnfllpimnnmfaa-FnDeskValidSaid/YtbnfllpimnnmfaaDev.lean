/-
  DeskValid, in the program and in the reference.
-/
import Derived.Test.YtbnfllpimnnmfaaDkH2
import Derived.Test.YtbnfllpimnnmfaaTabS
namespace Go.Proofs.Ytbnfllpimnnmfaa
open Go Go.RowKit

/-- When the last packet came, or 0. -/
def lastT (n : Nat) (la : Nat → Int) : Int := if n = 0 then 0 else la (n - 1)
def fitB (now : Int) (n : Nat) (la : Nat → Int) : Bool := inB now 0 100000 && (decide (n = 0) || decide (la (n - 1) ≤ now))
theorem tab_last {x0 x1 : Int} {n : Nat} {a b c d e t l : Nat → Int} (h : tabVB x0 x1 n a b c d e t l = true) (now : Int) : fitB now n l = inB now (lastT n l) 100000 := by
  unfold fitB lastT
  rcases Nat.eq_zero_or_pos n with rfl | hn
  · simp
  · simp only [tabVB, Bool.and_eq_true] at h
    have h1 := all_get h.1 (show n - 1 < n by omega)
    simp only [taOk, enOk, Bool.and_eq_true] at h1
    have h2 := inB_true.1 h1.1.1.2
    have h0 : ¬ n = 0 := by omega
    simp only [h0, if_false, decide_false, Bool.false_or]
    unfold inB
    by_cases h3 : l (n - 1) ≤ now
    · have : (0 : Int) ≤ now := by omega
      simp [h3, this]
    · simp [h3]

theorem below_bx (w : World) (o : Obj) : Below w.heap.size w (w.alloc o) := (Below.refl _ _).alloc (Nat.le_refl _) o
theorem l9Last_any (x0 x1 : Int) {w : World} {B : Nat} {A : Option Addr} {n c : Nat} {f0 f1 f2 f3 f4 to la : Nat → Int} (H : Rws w B 7 A n c (entryR f0 f1 f2 f3 f4 to la)) (hB : B ≤ w.heap.size) :
    Calls Try.prog 42 #[.agg #[.int .i64 x0, .int .i64 x1, .slice A n c]] w fun e w' => e = .returned (.int .i64 (lastT n la)) ∧ Below w.heap.size w w' := by
  obtain ⟨⟨hnc, hcm⟩, hrow⟩ := H
  unfold maxLen at hcm
  rcases Nat.eq_zero_or_pos n with rfl | hn
  · go_enter Try.func42, Try.ntmps42
    go_wp2
    go_ret
    exact ⟨rfl, by (repeat (first | exact Below.refl _ _ | assumption | refine Below.al ?_ _ | refine Below.dr ?_ | (refine Below.st ?_ (by simp <;> omega) _) | (refine Below.tr ?_ (by assumption))))⟩
  · obtain ⟨m, rfl⟩ : ∃ m, n = m + 1 := ⟨n - 1, by omega⟩
    obtain ⟨bl, off, rfl, hbB, hc⟩ := hrow (by omega)
    have hr := hc m (by omega)
    have hbs : bl < w.heap.size := by omega
    have q6 : w.cell? ⟨bl, off + m * 7 + 6, none⟩ = some (.int .i64 (la m)) := hr 6 _ rfl
    have e1 : IntKind.i64.wrap ((m : Int) + 1 - 1) = (m : Int) := by rw [IntWalk.i64_in _ (by omega)]; omega
    have e2 : IntKind.i64.wrap ((m : Int) + 1) = (m : Int) + 1 := IntWalk.i64_in _ (by omega)
    have e3 : ((m : Int) + 1 == 0) = false := by simp; omega
    have e4 : IntKind.i64.wrap (m : Int) = (m : Int) := IntWalk.i64_in _ (by omega)
    have hE := Lib.hid (show lastT (m + 1) la = la m by simp [lastT])
    clear hc hr hrow
    go_enter Try.func42, Try.ntmps42
    go_wp2
    go_ret
    exact ⟨by rw [hE.out] <;> rfl, by (repeat (first | exact Below.refl _ _ | assumption | refine Below.al ?_ _ | refine Below.dr ?_ | (refine Below.st ?_ (by simp <;> omega) _) | (refine Below.tr ?_ (by assumption))))⟩
theorem fitsTime_any (x0 x1 now : Int) {w : World} {B : Nat} {A : Option Addr} {n c : Nat} {f0 f1 f2 f3 f4 to la : Nat → Int} (H : Rws w B 7 A n c (entryR f0 f1 f2 f3 f4 to la)) (hB : B ≤ w.heap.size) :
    Calls Try.prog 38 #[.agg #[.int .i64 x0, .int .i64 x1, .slice A n c], .int .i64 now] w fun e w' => e = .returned (.bool (fitB now n la)) ∧ Below w.heap.size w w' := by
  obtain ⟨⟨hnc, hcm⟩, hrow⟩ := H
  unfold maxLen at hcm
  cases h0 : inB now 0 100000 with
  | false =>
    have hE := Lib.hid (show fitB now n la = false by simp [fitB, h0])
    go_enter Try.func38, Try.ntmps38
    go_wp2_with (go_at_call 31; refine (isTime_any _ _).mono ?_; rintro e w' ⟨rfl, rfl⟩)
    go_ret
    exact ⟨by rw [hE.out] <;> rfl, by (repeat (first | exact Below.refl _ _ | assumption | refine Below.al ?_ _ | refine Below.dr ?_ | (refine Below.st ?_ (by simp <;> omega) _) | (refine Below.tr ?_ (by assumption))))⟩
  | true =>
  rcases Nat.eq_zero_or_pos n with rfl | hn
  · have hE := Lib.hid (show fitB now 0 la = true by simp [fitB, h0])
    go_enter Try.func38, Try.ntmps38
    go_wp2_with (go_at_call 31; refine (isTime_any _ _).mono ?_; rintro e w' ⟨rfl, rfl⟩)
    go_ret
    exact ⟨by rw [hE.out] <;> rfl, by (repeat (first | exact Below.refl _ _ | assumption | refine Below.al ?_ _ | refine Below.dr ?_ | (refine Below.st ?_ (by simp <;> omega) _) | (refine Below.tr ?_ (by assumption))))⟩
  · obtain ⟨m, rfl⟩ : ∃ m, n = m + 1 := ⟨n - 1, by omega⟩
    obtain ⟨bl, off, rfl, hbB, hc⟩ := hrow (by omega)
    have hr := hc m (by omega)
    have hbs : bl < w.heap.size := by omega
    have q6 : w.cell? ⟨bl, off + m * 7 + 6, none⟩ = some (.int .i64 (la m)) := hr 6 _ rfl
    have e1 : IntKind.i64.wrap ((m : Int) + 1 - 1) = (m : Int) := by rw [IntWalk.i64_in _ (by omega)]; omega
    have e2 : IntKind.i64.wrap ((m : Int) + 1) = (m : Int) + 1 := IntWalk.i64_in _ (by omega)
    have e3 : ((m : Int) + 1 == 0) = false := by simp; omega
    have e4 : IntKind.i64.wrap (m : Int) = (m : Int) := IntWalk.i64_in _ (by omega)
    have hE := Lib.hid (show fitB now (m + 1) la = decide (la m ≤ now) by simp [fitB, h0])
    clear hc hr hrow
    go_enter Try.func38, Try.ntmps38
    go_wp2_with (go_at_call 31; refine (isTime_any _ _).mono ?_; rintro e w' ⟨rfl, rfl⟩)
    go_ret
    exact ⟨by rw [hE.out] <;> rfl, by (repeat (first | exact Below.refl _ _ | assumption | refine Below.al ?_ _ | refine Below.dr ?_ | (refine Below.st ?_ (by simp <;> omega) _) | (refine Below.tr ?_ (by assumption))))⟩

def deskB (m : Nat) (a b d : Nat → Int) (x0 x1 : Int) (n : Nat) (f0 f1 f2 f3 f4 to la : Nat → Int) (now : Int) : Bool := poolB m a b d && tabVB x0 x1 n f0 f1 f2 f3 f4 to la && inB now (lastT n la) 100000
set_option maxHeartbeats 4000000 in
theorem implDeskValid_any (x0 x1 now : Int) {w : World} {B m c' : Nat} {A' A : Option Addr} {n c : Nat} {a b d f0 f1 f2 f3 f4 to la : Nat → Int} (H' : Rws w B 3 A' m c' (hostR a b d)) (H : Rws w B 7 A n c (entryR f0 f1 f2 f3 f4 to la)) (hB : B ≤ w.heap.size) :
    Calls Try.prog 17 #[.agg #[.slice A' m c', .int .i64 x0, .int .i64 x1, .slice A n c, .int .i64 now]] w fun e w' => e = .returned (.bool (deskB m a b d x0 x1 n f0 f1 f2 f3 f4 to la now)) ∧ Below w.heap.size w w' := by
  have HH' := Lib.hid (H'.below ((below_bx w (.cells #[.slice A' m c', .int .i64 x0, .int .i64 x1, .slice A n c, .int .i64 now] 37)).mono hB))
  have HH := Lib.hid (H.below ((below_bx w (.cells #[.slice A' m c', .int .i64 x0, .int .i64 x1, .slice A n c, .int .i64 now] 37)).mono hB))
  clear H H'
  go_enter Try.func17, Try.ntmps17
  go_wp2_with fail
  refine (implPoolValid_any HH'.out (by simp; omega)).mono ?_
  rintro e w1 ⟨rfl, hb1⟩
  have hB1 : Below w.heap.size w w1 := Below.tr (by (repeat (first | exact Below.refl _ _ | assumption | refine Below.al ?_ _ | refine Below.dr ?_ | (refine Below.st ?_ (by simp <;> omega) _) | (refine Below.tr ?_ (by assumption))))) hb1
  have k1 : ∀ i, w1.cell? ⟨w.heap.size, i, none⟩ = #[Value.slice A' m c', .int .i64 x0, .int .i64 x1, .slice A n c, .int .i64 now][i]? := fun i => (keepc hb1 w.heap.size (by simp) i).trans ((blk (heap_alloc_new w _)).1 i)
  have HH1 := Lib.hid (HH.out.below (hb1.mono (by simp; omega)))
  have hs1 := hb1.size
  simp at hs1
  cases h1 : poolB m a b d with
  | false =>
    have hE := Lib.hid (show deskB m a b d x0 x1 n f0 f1 f2 f3 f4 to la now = false by simp [deskB, h1])
    go_wp2
    go_ret
    exact ⟨by rw [hE.out] <;> rfl, hB1⟩
  | true =>
  go_wp2_with fail
  refine (implTableValid_any _ _ HH1.out (by omega)).mono ?_
  rintro e w2 ⟨rfl, hb2⟩
  have hB2 := Below.tr hB1 hb2
  have k2 := fun i => (keepc hb2 w.heap.size (by omega) i).trans (k1 i)
  have hs2 := hb2.size
  cases h2 : tabVB x0 x1 n f0 f1 f2 f3 f4 to la with
  | false =>
    have hE := Lib.hid (show deskB m a b d x0 x1 n f0 f1 f2 f3 f4 to la now = false by simp [deskB, h2])
    clear k1
    go_wp2
    go_ret
    exact ⟨by rw [hE.out] <;> rfl, hB2⟩
  | true =>
  have hE := Lib.hid (show deskB m a b d x0 x1 n f0 f1 f2 f3 f4 to la now = fitB now n la by rw [tab_last h2]; simp [deskB, h1, h2])
  have HH2 := Lib.hid (HH1.out.below (hb2.mono (by omega)))
  clear k1
  go_wp2_with fail
  refine (fitsTime_any _ _ _ HH2.out (by omega)).mono ?_
  rintro e w3 ⟨rfl, hb3⟩
  go_wp2
  go_ret
  exact ⟨by rw [hE.out] <;> rfl, Below.tr hB2 hb3⟩
set_option maxHeartbeats 4000000 in
theorem specDeskValid_any (x0 x1 now : Int) {w : World} {B m c' : Nat} {A' A : Option Addr} {n c : Nat} {a b d f0 f1 f2 f3 f4 to la : Nat → Int} (H' : Rws w B 3 A' m c' (hostR a b d)) (H : Rws w B 7 A n c (entryR f0 f1 f2 f3 f4 to la)) (hB : B ≤ w.heap.size) :
    Calls Try.prog 20 #[.agg #[.slice A' m c', .int .i64 x0, .int .i64 x1, .slice A n c, .int .i64 now]] w fun e w' => e = .returned (.bool (deskB m a b d x0 x1 n f0 f1 f2 f3 f4 to la now)) ∧ Below w.heap.size w w' := by
  have HH' := Lib.hid (H'.below ((below_bx w (.cells #[.slice A' m c', .int .i64 x0, .int .i64 x1, .slice A n c, .int .i64 now] 37)).mono hB))
  have HH := Lib.hid (H.below ((below_bx w (.cells #[.slice A' m c', .int .i64 x0, .int .i64 x1, .slice A n c, .int .i64 now] 37)).mono hB))
  clear H H'
  cases h1 : poolB m a b d with
  | false =>
    have hE := Lib.hid (show deskB m a b d x0 x1 n f0 f1 f2 f3 f4 to la now = false by simp [deskB, h1])
    go_enter Try.func20, Try.ntmps20
    go_wp2
    refine wp_region_free (ds := [(0, 3), (1, 4), (2, 5), (3, 6), (4, 7), (5, 8), (6, 9), (7, 10), (8, 11), (9, 12), (10, 13), (11, 14), (12, 15), (13, 16), (14, 17), (15, 18), (16, 2)]) 17 (by kernel_rfl) (by kernel_rfl) (by first | exact .inl rfl | exact .inr (by kernel_rfl)) (by rfl) rfl rfl ?_
    apply free_is
    · intro a' w' hLe hfr hdep
      have e1 := hfr 1 rfl
      conv at e1 => rhs; whnf
      have f1 := e1; simp only [Array.getD_eq_getD_getElem?] at f1
      refine wpOp_plain rfl rfl (fun K hK => ?_)
      go_simp
      exact hK _ _ ⟨_, rfl, Below.refl _ _, rfl⟩
    apply free_is
    · intro a' w' hLe hfr hdep
      have e3 : a'.tmps.getD 3 undef = _ := hdep 0 3 (Nat.le_of_ble_eq_true rfl) rfl rfl
      conv at e3 => rhs; whnf
      have f3 := e3; simp only [Array.getD_eq_getD_getElem?] at f3
      have kc := fun i => keepc hLe (w.heap.size) (by (try simp) <;> omega) i
      have kf := fun i => keepf hLe (w.heap.size) (by (try simp) <;> omega) i
      have kz : w.heap.size < w'.heap.size := (by have := hLe.size; (try simp at this); omega)
      refine wpOp_plain rfl rfl (fun K hK => ?_)
      go_simp
      exact hK _ _ ⟨_, rfl, Below.refl _ _, rfl⟩
    apply free_is
    · intro a' w' hLe hfr hdep
      have e4 : a'.tmps.getD 4 undef = _ := hdep 1 4 (Nat.le_of_ble_eq_true rfl) rfl rfl
      conv at e4 => rhs; whnf
      have f4 := e4; simp only [Array.getD_eq_getD_getElem?] at f4
      have kc := fun i => keepc hLe (w.heap.size) (by (try simp) <;> omega) i
      have kf := fun i => keepf hLe (w.heap.size) (by (try simp) <;> omega) i
      have kz : w.heap.size < w'.heap.size := (by have := hLe.size; (try simp at this); omega)
      refine wpOp_plain rfl rfl (fun K hK => ?_)
      go_simp
      refine (specPoolValid_any (HH'.out.below (hLe.mono (by simp; omega))) (by have := hLe.size; simp at this; omega)).mono ?_
      rintro e w2 ⟨rfl, hb⟩
      exact hK _ _ ⟨_, rfl, hb, rfl⟩
    apply free_is
    · intro a' w' hLe hfr hdep
      have e5 : a'.tmps.getD 5 undef = _ := hdep 2 5 (Nat.le_of_ble_eq_true rfl) rfl rfl
      conv at e5 => rhs; whnf
      have f5 := e5; simp only [Array.getD_eq_getD_getElem?] at f5
      refine wpOp_plain rfl rfl (fun K hK => ?_)
      go_simp
      exact hK _ _ ⟨_, rfl, Below.refl _ _, rfl⟩
    apply free_is
    · intro a' w' hLe hfr hdep
      have e6 : a'.tmps.getD 6 undef = _ := hdep 3 6 (Nat.le_of_ble_eq_true rfl) rfl rfl
      conv at e6 => rhs; whnf
      have f6 := e6; simp only [Array.getD_eq_getD_getElem?] at f6
      exact wpOp_no rfl rfl rfl e6 ⟨_, rfl, Below.refl _ _, rfl⟩
    apply free_is
    · intro a' w' hLe hfr hdep
      have e6 : a'.tmps.getD 6 undef = _ := hdep 3 6 (Nat.le_of_ble_eq_true rfl) rfl rfl
      conv at e6 => rhs; whnf
      have f6 := e6; simp only [Array.getD_eq_getD_getElem?] at f6
      exact wpOp_no rfl rfl rfl e6 ⟨_, rfl, Below.refl _ _, rfl⟩
    apply free_is
    · intro a' w' hLe hfr hdep
      have e6 : a'.tmps.getD 6 undef = _ := hdep 3 6 (Nat.le_of_ble_eq_true rfl) rfl rfl
      conv at e6 => rhs; whnf
      have f6 := e6; simp only [Array.getD_eq_getD_getElem?] at f6
      exact wpOp_no rfl rfl rfl e6 ⟨_, rfl, Below.refl _ _, rfl⟩
    apply free_is
    · intro a' w' hLe hfr hdep
      have e6 : a'.tmps.getD 6 undef = _ := hdep 3 6 (Nat.le_of_ble_eq_true rfl) rfl rfl
      conv at e6 => rhs; whnf
      have f6 := e6; simp only [Array.getD_eq_getD_getElem?] at f6
      have e9 : a'.tmps.getD 9 undef = _ := hdep 6 9 (Nat.le_of_ble_eq_true rfl) rfl rfl
      conv at e9 => rhs; whnf
      have f9 := e9; simp only [Array.getD_eq_getD_getElem?] at f9
      refine wpOp_plain rfl rfl (fun K hK => ?_)
      go_simp
      exact hK _ _ ⟨_, rfl, Below.refl _ _, rfl⟩
    apply free_is
    · intro a' w' hLe hfr hdep
      have e10 : a'.tmps.getD 10 undef = _ := hdep 7 10 (Nat.le_of_ble_eq_true rfl) rfl rfl
      conv at e10 => rhs; whnf
      have f10 := e10; simp only [Array.getD_eq_getD_getElem?] at f10
      refine wpOp_plain rfl rfl (fun K hK => ?_)
      go_simp
      exact hK _ _ ⟨_, rfl, Below.refl _ _, rfl⟩
    apply free_is
    · intro a' w' hLe hfr hdep
      have e11 : a'.tmps.getD 11 undef = _ := hdep 8 11 (Nat.le_of_ble_eq_true rfl) rfl rfl
      conv at e11 => rhs; whnf
      have f11 := e11; simp only [Array.getD_eq_getD_getElem?] at f11
      exact wpOp_no rfl rfl rfl e11 ⟨_, rfl, Below.refl _ _, rfl⟩
    apply free_is
    · intro a' w' hLe hfr hdep
      have e11 : a'.tmps.getD 11 undef = _ := hdep 8 11 (Nat.le_of_ble_eq_true rfl) rfl rfl
      conv at e11 => rhs; whnf
      have f11 := e11; simp only [Array.getD_eq_getD_getElem?] at f11
      exact wpOp_no rfl rfl rfl e11 ⟨_, rfl, Below.refl _ _, rfl⟩
    apply free_is
    · intro a' w' hLe hfr hdep
      have e11 : a'.tmps.getD 11 undef = _ := hdep 8 11 (Nat.le_of_ble_eq_true rfl) rfl rfl
      conv at e11 => rhs; whnf
      have f11 := e11; simp only [Array.getD_eq_getD_getElem?] at f11
      exact wpOp_no rfl rfl rfl e11 ⟨_, rfl, Below.refl _ _, rfl⟩
    apply free_is
    · intro a' w' hLe hfr hdep
      have e11 : a'.tmps.getD 11 undef = _ := hdep 8 11 (Nat.le_of_ble_eq_true rfl) rfl rfl
      conv at e11 => rhs; whnf
      have f11 := e11; simp only [Array.getD_eq_getD_getElem?] at f11
      exact wpOp_no rfl rfl rfl e11 ⟨_, rfl, Below.refl _ _, rfl⟩
    apply free_is
    · intro a' w' hLe hfr hdep
      have e11 : a'.tmps.getD 11 undef = _ := hdep 8 11 (Nat.le_of_ble_eq_true rfl) rfl rfl
      conv at e11 => rhs; whnf
      have f11 := e11; simp only [Array.getD_eq_getD_getElem?] at f11
      exact wpOp_no rfl rfl rfl e11 ⟨_, rfl, Below.refl _ _, rfl⟩
    apply free_is
    · intro a' w' hLe hfr hdep
      have e11 : a'.tmps.getD 11 undef = _ := hdep 8 11 (Nat.le_of_ble_eq_true rfl) rfl rfl
      conv at e11 => rhs; whnf
      have f11 := e11; simp only [Array.getD_eq_getD_getElem?] at f11
      exact wpOp_no rfl rfl rfl e11 ⟨_, rfl, Below.refl _ _, rfl⟩
    apply free_is
    · intro a' w' hLe hfr hdep
      have e11 : a'.tmps.getD 11 undef = _ := hdep 8 11 (Nat.le_of_ble_eq_true rfl) rfl rfl
      conv at e11 => rhs; whnf
      have f11 := e11; simp only [Array.getD_eq_getD_getElem?] at f11
      have e17 : a'.tmps.getD 17 undef = _ := hdep 14 17 (Nat.le_of_ble_eq_true rfl) rfl rfl
      conv at e17 => rhs; whnf
      have f17 := e17; simp only [Array.getD_eq_getD_getElem?] at f17
      refine wpOp_plain rfl rfl (fun K hK => ?_)
      go_simp
      exact hK _ _ ⟨_, rfl, Below.refl _ _, rfl⟩
    apply free_is
    · intro a' w' hLe hfr hdep
      have e18 : a'.tmps.getD 18 undef = _ := hdep 15 18 (Nat.le_of_ble_eq_true rfl) rfl rfl
      conv at e18 => rhs; whnf
      have f18 := e18; simp only [Array.getD_eq_getD_getElem?] at f18
      refine wpOp_plain rfl rfl (fun K hK => ?_)
      go_simp
      exact hK _ _ ⟨_, rfl, Below.refl _ _, rfl⟩
    apply free_nil
    intro vs w1 hb1 hT1
    have e3 : vs 0 = _ := hT1 0 3 rfl
    conv at e3 => rhs; whnf
    have e4 : vs 1 = _ := hT1 1 4 rfl
    conv at e4 => rhs; whnf
    have e5 : vs 2 = _ := hT1 2 5 rfl
    conv at e5 => rhs; whnf
    have e6 : vs 3 = _ := hT1 3 6 rfl
    conv at e6 => rhs; whnf
    have e7 : vs 4 = _ := hT1 4 7 rfl
    conv at e7 => rhs; whnf
    have e8 : vs 5 = _ := hT1 5 8 rfl
    conv at e8 => rhs; whnf
    have e9 : vs 6 = _ := hT1 6 9 rfl
    conv at e9 => rhs; whnf
    have e10 : vs 7 = _ := hT1 7 10 rfl
    conv at e10 => rhs; whnf
    have e11 : vs 8 = _ := hT1 8 11 rfl
    conv at e11 => rhs; whnf
    have e12 : vs 9 = _ := hT1 9 12 rfl
    conv at e12 => rhs; whnf
    have e13 : vs 10 = _ := hT1 10 13 rfl
    conv at e13 => rhs; whnf
    have e14 : vs 11 = _ := hT1 11 14 rfl
    conv at e14 => rhs; whnf
    have e15 : vs 12 = _ := hT1 12 15 rfl
    conv at e15 => rhs; whnf
    have e16 : vs 13 = _ := hT1 13 16 rfl
    conv at e16 => rhs; whnf
    have e17 : vs 14 = _ := hT1 14 17 rfl
    conv at e17 => rhs; whnf
    have e18 : vs 15 = _ := hT1 15 18 rfl
    conv at e18 => rhs; whnf
    have e2 : vs 16 = _ := hT1 16 2 rfl
    conv at e2 => rhs; whnf
    simp only [putAll, List.drop_succ_cons, List.drop_zero, e3, e4, e5, e6, e7, e8, e9, e10, e11, e12, e13, e14, e15, e16, e17, e18, e2]
    clear hT1 e3 e4 e5 e6 e7 e8 e9 e10 e11 e12 e13 e14 e15 e16 e17 e18 e2
    go_simp
    go_wp2
    go_ret
    exact ⟨by rw [hE.out] <;> rfl, Below.tr (by (repeat (first | exact Below.refl _ _ | assumption | refine Below.al ?_ _ | refine Below.dr ?_ | (refine Below.st ?_ (by simp <;> omega) _) | (refine Below.tr ?_ (by assumption))))) hb1⟩
  | true =>
  cases h2 : tabVB x0 x1 n f0 f1 f2 f3 f4 to la with
  | false =>
    have hE := Lib.hid (show deskB m a b d x0 x1 n f0 f1 f2 f3 f4 to la now = false by simp [deskB, h2])
    go_enter Try.func20, Try.ntmps20
    go_wp2
    refine wp_region_free (ds := [(0, 3), (1, 4), (2, 5), (3, 6), (4, 7), (5, 8), (6, 9), (7, 10), (8, 11), (9, 12), (10, 13), (11, 14), (12, 15), (13, 16), (14, 17), (15, 18), (16, 2)]) 17 (by kernel_rfl) (by kernel_rfl) (by first | exact .inl rfl | exact .inr (by kernel_rfl)) (by rfl) rfl rfl ?_
    apply free_is
    · intro a' w' hLe hfr hdep
      have e1 := hfr 1 rfl
      conv at e1 => rhs; whnf
      have f1 := e1; simp only [Array.getD_eq_getD_getElem?] at f1
      refine wpOp_plain rfl rfl (fun K hK => ?_)
      go_simp
      exact hK _ _ ⟨_, rfl, Below.refl _ _, rfl⟩
    apply free_is
    · intro a' w' hLe hfr hdep
      have e3 : a'.tmps.getD 3 undef = _ := hdep 0 3 (Nat.le_of_ble_eq_true rfl) rfl rfl
      conv at e3 => rhs; whnf
      have f3 := e3; simp only [Array.getD_eq_getD_getElem?] at f3
      have kc := fun i => keepc hLe (w.heap.size) (by (try simp) <;> omega) i
      have kf := fun i => keepf hLe (w.heap.size) (by (try simp) <;> omega) i
      have kz : w.heap.size < w'.heap.size := (by have := hLe.size; (try simp at this); omega)
      refine wpOp_plain rfl rfl (fun K hK => ?_)
      go_simp
      exact hK _ _ ⟨_, rfl, Below.refl _ _, rfl⟩
    apply free_is
    · intro a' w' hLe hfr hdep
      have e4 : a'.tmps.getD 4 undef = _ := hdep 1 4 (Nat.le_of_ble_eq_true rfl) rfl rfl
      conv at e4 => rhs; whnf
      have f4 := e4; simp only [Array.getD_eq_getD_getElem?] at f4
      have kc := fun i => keepc hLe (w.heap.size) (by (try simp) <;> omega) i
      have kf := fun i => keepf hLe (w.heap.size) (by (try simp) <;> omega) i
      have kz : w.heap.size < w'.heap.size := (by have := hLe.size; (try simp at this); omega)
      refine wpOp_plain rfl rfl (fun K hK => ?_)
      go_simp
      refine (specPoolValid_any (HH'.out.below (hLe.mono (by simp; omega))) (by have := hLe.size; simp at this; omega)).mono ?_
      rintro e w2 ⟨rfl, hb⟩
      exact hK _ _ ⟨_, rfl, hb, rfl⟩
    apply free_is
    · intro a' w' hLe hfr hdep
      have e5 : a'.tmps.getD 5 undef = _ := hdep 2 5 (Nat.le_of_ble_eq_true rfl) rfl rfl
      conv at e5 => rhs; whnf
      have f5 := e5; simp only [Array.getD_eq_getD_getElem?] at f5
      refine wpOp_plain rfl rfl (fun K hK => ?_)
      go_simp
      exact hK _ _ ⟨_, rfl, Below.refl _ _, rfl⟩
    apply free_is
    · intro a' w' hLe hfr hdep
      have e6 : a'.tmps.getD 6 undef = _ := hdep 3 6 (Nat.le_of_ble_eq_true rfl) rfl rfl
      conv at e6 => rhs; whnf
      have f6 := e6; simp only [Array.getD_eq_getD_getElem?] at f6
      have e1 := hfr 1 rfl
      conv at e1 => rhs; whnf
      have f1 := e1; simp only [Array.getD_eq_getD_getElem?] at f1
      refine wpOp_yes rfl rfl rfl e6 (fun K hK => ?_)
      go_simp
      exact hK _ _ ⟨_, rfl, Below.refl _ _, rfl⟩
    apply free_is
    · intro a' w' hLe hfr hdep
      have e6 : a'.tmps.getD 6 undef = _ := hdep 3 6 (Nat.le_of_ble_eq_true rfl) rfl rfl
      conv at e6 => rhs; whnf
      have f6 := e6; simp only [Array.getD_eq_getD_getElem?] at f6
      have e7 : a'.tmps.getD 7 undef = _ := hdep 4 7 (Nat.le_of_ble_eq_true rfl) rfl rfl
      conv at e7 => rhs; whnf
      have f7 := e7; simp only [Array.getD_eq_getD_getElem?] at f7
      have kc := fun i => keepc hLe (w.heap.size) (by (try simp) <;> omega) i
      have kf := fun i => keepf hLe (w.heap.size) (by (try simp) <;> omega) i
      have kz : w.heap.size < w'.heap.size := (by have := hLe.size; (try simp at this); omega)
      refine wpOp_yes rfl rfl rfl e6 (fun K hK => ?_)
      go_simp
      exact hK _ _ ⟨_, rfl, Below.refl _ _, rfl⟩
    apply free_is
    · intro a' w' hLe hfr hdep
      have e6 : a'.tmps.getD 6 undef = _ := hdep 3 6 (Nat.le_of_ble_eq_true rfl) rfl rfl
      conv at e6 => rhs; whnf
      have f6 := e6; simp only [Array.getD_eq_getD_getElem?] at f6
      have e8 : a'.tmps.getD 8 undef = _ := hdep 5 8 (Nat.le_of_ble_eq_true rfl) rfl rfl
      conv at e8 => rhs; whnf
      have f8 := e8; simp only [Array.getD_eq_getD_getElem?] at f8
      have kc := fun i => keepc hLe (w.heap.size) (by (try simp) <;> omega) i
      have kf := fun i => keepf hLe (w.heap.size) (by (try simp) <;> omega) i
      have kz : w.heap.size < w'.heap.size := (by have := hLe.size; (try simp at this); omega)
      refine wpOp_yes rfl rfl rfl e6 (fun K hK => ?_)
      go_simp
      refine (specTableValid_any _ _ (HH.out.below (hLe.mono (by simp; omega))) (by have := hLe.size; simp at this; omega)).mono ?_
      rintro e w2 ⟨rfl, hb⟩
      exact hK _ _ ⟨_, rfl, hb, rfl⟩
    apply free_is
    · intro a' w' hLe hfr hdep
      have e6 : a'.tmps.getD 6 undef = _ := hdep 3 6 (Nat.le_of_ble_eq_true rfl) rfl rfl
      conv at e6 => rhs; whnf
      have f6 := e6; simp only [Array.getD_eq_getD_getElem?] at f6
      have e9 : a'.tmps.getD 9 undef = _ := hdep 6 9 (Nat.le_of_ble_eq_true rfl) rfl rfl
      conv at e9 => rhs; whnf
      have f9 := e9; simp only [Array.getD_eq_getD_getElem?] at f9
      refine wpOp_plain rfl rfl (fun K hK => ?_)
      go_simp
      exact hK _ _ ⟨_, rfl, Below.refl _ _, rfl⟩
    apply free_is
    · intro a' w' hLe hfr hdep
      have e10 : a'.tmps.getD 10 undef = _ := hdep 7 10 (Nat.le_of_ble_eq_true rfl) rfl rfl
      conv at e10 => rhs; whnf
      have f10 := e10; simp only [Array.getD_eq_getD_getElem?] at f10
      refine wpOp_plain rfl rfl (fun K hK => ?_)
      go_simp
      exact hK _ _ ⟨_, rfl, Below.refl _ _, rfl⟩
    apply free_is
    · intro a' w' hLe hfr hdep
      have e11 : a'.tmps.getD 11 undef = _ := hdep 8 11 (Nat.le_of_ble_eq_true rfl) rfl rfl
      conv at e11 => rhs; whnf
      have f11 := e11; simp only [Array.getD_eq_getD_getElem?] at f11
      exact wpOp_no rfl rfl rfl e11 ⟨_, rfl, Below.refl _ _, rfl⟩
    apply free_is
    · intro a' w' hLe hfr hdep
      have e11 : a'.tmps.getD 11 undef = _ := hdep 8 11 (Nat.le_of_ble_eq_true rfl) rfl rfl
      conv at e11 => rhs; whnf
      have f11 := e11; simp only [Array.getD_eq_getD_getElem?] at f11
      exact wpOp_no rfl rfl rfl e11 ⟨_, rfl, Below.refl _ _, rfl⟩
    apply free_is
    · intro a' w' hLe hfr hdep
      have e11 : a'.tmps.getD 11 undef = _ := hdep 8 11 (Nat.le_of_ble_eq_true rfl) rfl rfl
      conv at e11 => rhs; whnf
      have f11 := e11; simp only [Array.getD_eq_getD_getElem?] at f11
      exact wpOp_no rfl rfl rfl e11 ⟨_, rfl, Below.refl _ _, rfl⟩
    apply free_is
    · intro a' w' hLe hfr hdep
      have e11 : a'.tmps.getD 11 undef = _ := hdep 8 11 (Nat.le_of_ble_eq_true rfl) rfl rfl
      conv at e11 => rhs; whnf
      have f11 := e11; simp only [Array.getD_eq_getD_getElem?] at f11
      exact wpOp_no rfl rfl rfl e11 ⟨_, rfl, Below.refl _ _, rfl⟩
    apply free_is
    · intro a' w' hLe hfr hdep
      have e11 : a'.tmps.getD 11 undef = _ := hdep 8 11 (Nat.le_of_ble_eq_true rfl) rfl rfl
      conv at e11 => rhs; whnf
      have f11 := e11; simp only [Array.getD_eq_getD_getElem?] at f11
      exact wpOp_no rfl rfl rfl e11 ⟨_, rfl, Below.refl _ _, rfl⟩
    apply free_is
    · intro a' w' hLe hfr hdep
      have e11 : a'.tmps.getD 11 undef = _ := hdep 8 11 (Nat.le_of_ble_eq_true rfl) rfl rfl
      conv at e11 => rhs; whnf
      have f11 := e11; simp only [Array.getD_eq_getD_getElem?] at f11
      exact wpOp_no rfl rfl rfl e11 ⟨_, rfl, Below.refl _ _, rfl⟩
    apply free_is
    · intro a' w' hLe hfr hdep
      have e11 : a'.tmps.getD 11 undef = _ := hdep 8 11 (Nat.le_of_ble_eq_true rfl) rfl rfl
      conv at e11 => rhs; whnf
      have f11 := e11; simp only [Array.getD_eq_getD_getElem?] at f11
      have e17 : a'.tmps.getD 17 undef = _ := hdep 14 17 (Nat.le_of_ble_eq_true rfl) rfl rfl
      conv at e17 => rhs; whnf
      have f17 := e17; simp only [Array.getD_eq_getD_getElem?] at f17
      refine wpOp_plain rfl rfl (fun K hK => ?_)
      go_simp
      exact hK _ _ ⟨_, rfl, Below.refl _ _, rfl⟩
    apply free_is
    · intro a' w' hLe hfr hdep
      have e18 : a'.tmps.getD 18 undef = _ := hdep 15 18 (Nat.le_of_ble_eq_true rfl) rfl rfl
      conv at e18 => rhs; whnf
      have f18 := e18; simp only [Array.getD_eq_getD_getElem?] at f18
      refine wpOp_plain rfl rfl (fun K hK => ?_)
      go_simp
      exact hK _ _ ⟨_, rfl, Below.refl _ _, rfl⟩
    apply free_nil
    intro vs w1 hb1 hT1
    have e3 : vs 0 = _ := hT1 0 3 rfl
    conv at e3 => rhs; whnf
    have e4 : vs 1 = _ := hT1 1 4 rfl
    conv at e4 => rhs; whnf
    have e5 : vs 2 = _ := hT1 2 5 rfl
    conv at e5 => rhs; whnf
    have e6 : vs 3 = _ := hT1 3 6 rfl
    conv at e6 => rhs; whnf
    have e7 : vs 4 = _ := hT1 4 7 rfl
    conv at e7 => rhs; whnf
    have e8 : vs 5 = _ := hT1 5 8 rfl
    conv at e8 => rhs; whnf
    have e9 : vs 6 = _ := hT1 6 9 rfl
    conv at e9 => rhs; whnf
    have e10 : vs 7 = _ := hT1 7 10 rfl
    conv at e10 => rhs; whnf
    have e11 : vs 8 = _ := hT1 8 11 rfl
    conv at e11 => rhs; whnf
    have e12 : vs 9 = _ := hT1 9 12 rfl
    conv at e12 => rhs; whnf
    have e13 : vs 10 = _ := hT1 10 13 rfl
    conv at e13 => rhs; whnf
    have e14 : vs 11 = _ := hT1 11 14 rfl
    conv at e14 => rhs; whnf
    have e15 : vs 12 = _ := hT1 12 15 rfl
    conv at e15 => rhs; whnf
    have e16 : vs 13 = _ := hT1 13 16 rfl
    conv at e16 => rhs; whnf
    have e17 : vs 14 = _ := hT1 14 17 rfl
    conv at e17 => rhs; whnf
    have e18 : vs 15 = _ := hT1 15 18 rfl
    conv at e18 => rhs; whnf
    have e2 : vs 16 = _ := hT1 16 2 rfl
    conv at e2 => rhs; whnf
    simp only [putAll, List.drop_succ_cons, List.drop_zero, e3, e4, e5, e6, e7, e8, e9, e10, e11, e12, e13, e14, e15, e16, e17, e18, e2]
    clear hT1 e3 e4 e5 e6 e7 e8 e9 e10 e11 e12 e13 e14 e15 e16 e17 e18 e2
    go_simp
    go_wp2
    go_ret
    exact ⟨by rw [hE.out] <;> rfl, Below.tr (by (repeat (first | exact Below.refl _ _ | assumption | refine Below.al ?_ _ | refine Below.dr ?_ | (refine Below.st ?_ (by simp <;> omega) _) | (refine Below.tr ?_ (by assumption))))) hb1⟩
  | true =>
    have hE := Lib.hid (show deskB m a b d x0 x1 n f0 f1 f2 f3 f4 to la now = inB now (lastT n la) 100000 by simp [deskB, h1, h2])
    go_enter Try.func20, Try.ntmps20
    go_wp2
    refine wp_region_free (ds := [(0, 3), (1, 4), (2, 5), (3, 6), (4, 7), (5, 8), (6, 9), (7, 10), (8, 11), (9, 12), (10, 13), (11, 14), (12, 15), (13, 16), (14, 17), (15, 18), (16, 2)]) 17 (by kernel_rfl) (by kernel_rfl) (by first | exact .inl rfl | exact .inr (by kernel_rfl)) (by rfl) rfl rfl ?_
    apply free_is
    · intro a' w' hLe hfr hdep
      have e1 := hfr 1 rfl
      conv at e1 => rhs; whnf
      have f1 := e1; simp only [Array.getD_eq_getD_getElem?] at f1
      refine wpOp_plain rfl rfl (fun K hK => ?_)
      go_simp
      exact hK _ _ ⟨_, rfl, Below.refl _ _, rfl⟩
    apply free_is
    · intro a' w' hLe hfr hdep
      have e3 : a'.tmps.getD 3 undef = _ := hdep 0 3 (Nat.le_of_ble_eq_true rfl) rfl rfl
      conv at e3 => rhs; whnf
      have f3 := e3; simp only [Array.getD_eq_getD_getElem?] at f3
      have kc := fun i => keepc hLe (w.heap.size) (by (try simp) <;> omega) i
      have kf := fun i => keepf hLe (w.heap.size) (by (try simp) <;> omega) i
      have kz : w.heap.size < w'.heap.size := (by have := hLe.size; (try simp at this); omega)
      refine wpOp_plain rfl rfl (fun K hK => ?_)
      go_simp
      exact hK _ _ ⟨_, rfl, Below.refl _ _, rfl⟩
    apply free_is
    · intro a' w' hLe hfr hdep
      have e4 : a'.tmps.getD 4 undef = _ := hdep 1 4 (Nat.le_of_ble_eq_true rfl) rfl rfl
      conv at e4 => rhs; whnf
      have f4 := e4; simp only [Array.getD_eq_getD_getElem?] at f4
      have kc := fun i => keepc hLe (w.heap.size) (by (try simp) <;> omega) i
      have kf := fun i => keepf hLe (w.heap.size) (by (try simp) <;> omega) i
      have kz : w.heap.size < w'.heap.size := (by have := hLe.size; (try simp at this); omega)
      refine wpOp_plain rfl rfl (fun K hK => ?_)
      go_simp
      refine (specPoolValid_any (HH'.out.below (hLe.mono (by simp; omega))) (by have := hLe.size; simp at this; omega)).mono ?_
      rintro e w2 ⟨rfl, hb⟩
      exact hK _ _ ⟨_, rfl, hb, rfl⟩
    apply free_is
    · intro a' w' hLe hfr hdep
      have e5 : a'.tmps.getD 5 undef = _ := hdep 2 5 (Nat.le_of_ble_eq_true rfl) rfl rfl
      conv at e5 => rhs; whnf
      have f5 := e5; simp only [Array.getD_eq_getD_getElem?] at f5
      refine wpOp_plain rfl rfl (fun K hK => ?_)
      go_simp
      exact hK _ _ ⟨_, rfl, Below.refl _ _, rfl⟩
    apply free_is
    · intro a' w' hLe hfr hdep
      have e6 : a'.tmps.getD 6 undef = _ := hdep 3 6 (Nat.le_of_ble_eq_true rfl) rfl rfl
      conv at e6 => rhs; whnf
      have f6 := e6; simp only [Array.getD_eq_getD_getElem?] at f6
      have e1 := hfr 1 rfl
      conv at e1 => rhs; whnf
      have f1 := e1; simp only [Array.getD_eq_getD_getElem?] at f1
      refine wpOp_yes rfl rfl rfl e6 (fun K hK => ?_)
      go_simp
      exact hK _ _ ⟨_, rfl, Below.refl _ _, rfl⟩
    apply free_is
    · intro a' w' hLe hfr hdep
      have e6 : a'.tmps.getD 6 undef = _ := hdep 3 6 (Nat.le_of_ble_eq_true rfl) rfl rfl
      conv at e6 => rhs; whnf
      have f6 := e6; simp only [Array.getD_eq_getD_getElem?] at f6
      have e7 : a'.tmps.getD 7 undef = _ := hdep 4 7 (Nat.le_of_ble_eq_true rfl) rfl rfl
      conv at e7 => rhs; whnf
      have f7 := e7; simp only [Array.getD_eq_getD_getElem?] at f7
      have kc := fun i => keepc hLe (w.heap.size) (by (try simp) <;> omega) i
      have kf := fun i => keepf hLe (w.heap.size) (by (try simp) <;> omega) i
      have kz : w.heap.size < w'.heap.size := (by have := hLe.size; (try simp at this); omega)
      refine wpOp_yes rfl rfl rfl e6 (fun K hK => ?_)
      go_simp
      exact hK _ _ ⟨_, rfl, Below.refl _ _, rfl⟩
    apply free_is
    · intro a' w' hLe hfr hdep
      have e6 : a'.tmps.getD 6 undef = _ := hdep 3 6 (Nat.le_of_ble_eq_true rfl) rfl rfl
      conv at e6 => rhs; whnf
      have f6 := e6; simp only [Array.getD_eq_getD_getElem?] at f6
      have e8 : a'.tmps.getD 8 undef = _ := hdep 5 8 (Nat.le_of_ble_eq_true rfl) rfl rfl
      conv at e8 => rhs; whnf
      have f8 := e8; simp only [Array.getD_eq_getD_getElem?] at f8
      have kc := fun i => keepc hLe (w.heap.size) (by (try simp) <;> omega) i
      have kf := fun i => keepf hLe (w.heap.size) (by (try simp) <;> omega) i
      have kz : w.heap.size < w'.heap.size := (by have := hLe.size; (try simp at this); omega)
      refine wpOp_yes rfl rfl rfl e6 (fun K hK => ?_)
      go_simp
      refine (specTableValid_any _ _ (HH.out.below (hLe.mono (by simp; omega))) (by have := hLe.size; simp at this; omega)).mono ?_
      rintro e w2 ⟨rfl, hb⟩
      exact hK _ _ ⟨_, rfl, hb, rfl⟩
    apply free_is
    · intro a' w' hLe hfr hdep
      have e6 : a'.tmps.getD 6 undef = _ := hdep 3 6 (Nat.le_of_ble_eq_true rfl) rfl rfl
      conv at e6 => rhs; whnf
      have f6 := e6; simp only [Array.getD_eq_getD_getElem?] at f6
      have e9 : a'.tmps.getD 9 undef = _ := hdep 6 9 (Nat.le_of_ble_eq_true rfl) rfl rfl
      conv at e9 => rhs; whnf
      have f9 := e9; simp only [Array.getD_eq_getD_getElem?] at f9
      refine wpOp_plain rfl rfl (fun K hK => ?_)
      go_simp
      exact hK _ _ ⟨_, rfl, Below.refl _ _, rfl⟩
    apply free_is
    · intro a' w' hLe hfr hdep
      have e10 : a'.tmps.getD 10 undef = _ := hdep 7 10 (Nat.le_of_ble_eq_true rfl) rfl rfl
      conv at e10 => rhs; whnf
      have f10 := e10; simp only [Array.getD_eq_getD_getElem?] at f10
      refine wpOp_plain rfl rfl (fun K hK => ?_)
      go_simp
      exact hK _ _ ⟨_, rfl, Below.refl _ _, rfl⟩
    apply free_is
    · intro a' w' hLe hfr hdep
      have e11 : a'.tmps.getD 11 undef = _ := hdep 8 11 (Nat.le_of_ble_eq_true rfl) rfl rfl
      conv at e11 => rhs; whnf
      have f11 := e11; simp only [Array.getD_eq_getD_getElem?] at f11
      have e1 := hfr 1 rfl
      conv at e1 => rhs; whnf
      have f1 := e1; simp only [Array.getD_eq_getD_getElem?] at f1
      refine wpOp_yes rfl rfl rfl e11 (fun K hK => ?_)
      go_simp
      exact hK _ _ ⟨_, rfl, Below.refl _ _, rfl⟩
    apply free_is
    · intro a' w' hLe hfr hdep
      have e11 : a'.tmps.getD 11 undef = _ := hdep 8 11 (Nat.le_of_ble_eq_true rfl) rfl rfl
      conv at e11 => rhs; whnf
      have f11 := e11; simp only [Array.getD_eq_getD_getElem?] at f11
      have e12 : a'.tmps.getD 12 undef = _ := hdep 9 12 (Nat.le_of_ble_eq_true rfl) rfl rfl
      conv at e12 => rhs; whnf
      have f12 := e12; simp only [Array.getD_eq_getD_getElem?] at f12
      have kc := fun i => keepc hLe (w.heap.size) (by (try simp) <;> omega) i
      have kf := fun i => keepf hLe (w.heap.size) (by (try simp) <;> omega) i
      have kz : w.heap.size < w'.heap.size := (by have := hLe.size; (try simp at this); omega)
      refine wpOp_yes rfl rfl rfl e11 (fun K hK => ?_)
      go_simp
      exact hK _ _ ⟨_, rfl, Below.refl _ _, rfl⟩
    apply free_is
    · intro a' w' hLe hfr hdep
      have e11 : a'.tmps.getD 11 undef = _ := hdep 8 11 (Nat.le_of_ble_eq_true rfl) rfl rfl
      conv at e11 => rhs; whnf
      have f11 := e11; simp only [Array.getD_eq_getD_getElem?] at f11
      have e1 := hfr 1 rfl
      conv at e1 => rhs; whnf
      have f1 := e1; simp only [Array.getD_eq_getD_getElem?] at f1
      refine wpOp_yes rfl rfl rfl e11 (fun K hK => ?_)
      go_simp
      exact hK _ _ ⟨_, rfl, Below.refl _ _, rfl⟩
    apply free_is
    · intro a' w' hLe hfr hdep
      have e11 : a'.tmps.getD 11 undef = _ := hdep 8 11 (Nat.le_of_ble_eq_true rfl) rfl rfl
      conv at e11 => rhs; whnf
      have f11 := e11; simp only [Array.getD_eq_getD_getElem?] at f11
      have e14 : a'.tmps.getD 14 undef = _ := hdep 11 14 (Nat.le_of_ble_eq_true rfl) rfl rfl
      conv at e14 => rhs; whnf
      have f14 := e14; simp only [Array.getD_eq_getD_getElem?] at f14
      have kc := fun i => keepc hLe (w.heap.size) (by (try simp) <;> omega) i
      have kf := fun i => keepf hLe (w.heap.size) (by (try simp) <;> omega) i
      have kz : w.heap.size < w'.heap.size := (by have := hLe.size; (try simp at this); omega)
      refine wpOp_yes rfl rfl rfl e11 (fun K hK => ?_)
      go_simp
      exact hK _ _ ⟨_, rfl, Below.refl _ _, rfl⟩
    apply free_is
    · intro a' w' hLe hfr hdep
      have e11 : a'.tmps.getD 11 undef = _ := hdep 8 11 (Nat.le_of_ble_eq_true rfl) rfl rfl
      conv at e11 => rhs; whnf
      have f11 := e11; simp only [Array.getD_eq_getD_getElem?] at f11
      have e15 : a'.tmps.getD 15 undef = _ := hdep 12 15 (Nat.le_of_ble_eq_true rfl) rfl rfl
      conv at e15 => rhs; whnf
      have f15 := e15; simp only [Array.getD_eq_getD_getElem?] at f15
      have kc := fun i => keepc hLe (w.heap.size) (by (try simp) <;> omega) i
      have kf := fun i => keepf hLe (w.heap.size) (by (try simp) <;> omega) i
      have kz : w.heap.size < w'.heap.size := (by have := hLe.size; (try simp at this); omega)
      refine wpOp_yes rfl rfl rfl e11 (fun K hK => ?_)
      go_simp
      refine (l9Last_any _ _ (HH.out.below (hLe.mono (by simp; omega))) (by have := hLe.size; simp at this; omega)).mono ?_
      rintro e w2 ⟨rfl, hb⟩
      exact hK _ _ ⟨_, rfl, hb, rfl⟩
    apply free_is
    · intro a' w' hLe hfr hdep
      have e11 : a'.tmps.getD 11 undef = _ := hdep 8 11 (Nat.le_of_ble_eq_true rfl) rfl rfl
      conv at e11 => rhs; whnf
      have f11 := e11; simp only [Array.getD_eq_getD_getElem?] at f11
      have e13 : a'.tmps.getD 13 undef = _ := hdep 10 13 (Nat.le_of_ble_eq_true rfl) rfl rfl
      conv at e13 => rhs; whnf
      have f13 := e13; simp only [Array.getD_eq_getD_getElem?] at f13
      have e16 : a'.tmps.getD 16 undef = _ := hdep 13 16 (Nat.le_of_ble_eq_true rfl) rfl rfl
      conv at e16 => rhs; whnf
      have f16 := e16; simp only [Array.getD_eq_getD_getElem?] at f16
      have kc := fun i => keepc hLe (w.heap.size) (by (try simp) <;> omega) i
      have kf := fun i => keepf hLe (w.heap.size) (by (try simp) <;> omega) i
      have kz : w.heap.size < w'.heap.size := (by have := hLe.size; (try simp at this); omega)
      refine wpOp_yes rfl rfl rfl e11 (fun K hK => ?_)
      go_simp
      refine (l1In_any _ _ _ _).mono ?_
      rintro e w2 ⟨rfl, rfl⟩
      exact hK _ _ ⟨_, rfl, Below.refl _ _, rfl⟩
    apply free_is
    · intro a' w' hLe hfr hdep
      have e11 : a'.tmps.getD 11 undef = _ := hdep 8 11 (Nat.le_of_ble_eq_true rfl) rfl rfl
      conv at e11 => rhs; whnf
      have f11 := e11; simp only [Array.getD_eq_getD_getElem?] at f11
      have e17 : a'.tmps.getD 17 undef = _ := hdep 14 17 (Nat.le_of_ble_eq_true rfl) rfl rfl
      conv at e17 => rhs; whnf
      have f17 := e17; simp only [Array.getD_eq_getD_getElem?] at f17
      refine wpOp_plain rfl rfl (fun K hK => ?_)
      go_simp
      exact hK _ _ ⟨_, rfl, Below.refl _ _, rfl⟩
    apply free_is
    · intro a' w' hLe hfr hdep
      have e18 : a'.tmps.getD 18 undef = _ := hdep 15 18 (Nat.le_of_ble_eq_true rfl) rfl rfl
      conv at e18 => rhs; whnf
      have f18 := e18; simp only [Array.getD_eq_getD_getElem?] at f18
      refine wpOp_plain rfl rfl (fun K hK => ?_)
      go_simp
      exact hK _ _ ⟨_, rfl, Below.refl _ _, rfl⟩
    apply free_nil
    intro vs w1 hb1 hT1
    have e3 : vs 0 = _ := hT1 0 3 rfl
    conv at e3 => rhs; whnf
    have e4 : vs 1 = _ := hT1 1 4 rfl
    conv at e4 => rhs; whnf
    have e5 : vs 2 = _ := hT1 2 5 rfl
    conv at e5 => rhs; whnf
    have e6 : vs 3 = _ := hT1 3 6 rfl
    conv at e6 => rhs; whnf
    have e7 : vs 4 = _ := hT1 4 7 rfl
    conv at e7 => rhs; whnf
    have e8 : vs 5 = _ := hT1 5 8 rfl
    conv at e8 => rhs; whnf
    have e9 : vs 6 = _ := hT1 6 9 rfl
    conv at e9 => rhs; whnf
    have e10 : vs 7 = _ := hT1 7 10 rfl
    conv at e10 => rhs; whnf
    have e11 : vs 8 = _ := hT1 8 11 rfl
    conv at e11 => rhs; whnf
    have e12 : vs 9 = _ := hT1 9 12 rfl
    conv at e12 => rhs; whnf
    have e13 : vs 10 = _ := hT1 10 13 rfl
    conv at e13 => rhs; whnf
    have e14 : vs 11 = _ := hT1 11 14 rfl
    conv at e14 => rhs; whnf
    have e15 : vs 12 = _ := hT1 12 15 rfl
    conv at e15 => rhs; whnf
    have e16 : vs 13 = _ := hT1 13 16 rfl
    conv at e16 => rhs; whnf
    have e17 : vs 14 = _ := hT1 14 17 rfl
    conv at e17 => rhs; whnf
    have e18 : vs 15 = _ := hT1 15 18 rfl
    conv at e18 => rhs; whnf
    have e2 : vs 16 = _ := hT1 16 2 rfl
    conv at e2 => rhs; whnf
    simp only [putAll, List.drop_succ_cons, List.drop_zero, e3, e4, e5, e6, e7, e8, e9, e10, e11, e12, e13, e14, e15, e16, e17, e18, e2]
    clear hT1 e3 e4 e5 e6 e7 e8 e9 e10 e11 e12 e13 e14 e15 e16 e17 e18 e2
    go_simp
    go_wp2
    go_ret
    exact ⟨by rw [hE.out] <;> rfl, Below.tr (by (repeat (first | exact Below.refl _ _ | assumption | refine Below.al ?_ _ | refine Below.dr ?_ | (refine Below.st ?_ (by simp <;> omega) _) | (refine Below.tr ?_ (by assumption))))) hb1⟩
end Go.Proofs.Ytbnfllpimnnmfaa
