/-
  RouteFor, in the program and in the reference.
-/
import Derived.Test.YtgoijpbkgkjfeaaRv
namespace Go.Proofs.Ytgoijpbkgkjfeaa
open Go.RowKit

/-- The most bits of the first i routes whose prefixes the address a has; the host of that route. -/
def rfB (b k : Nat → Int) (a : Int) : Nat → Int
  | 0 => -1
  | i + 1 => if hasB (b i) (k i) a && decide (rfB b k a i < k i) then k i else rfB b k a i
def rfH (b k h : Nat → Int) (a : Int) : Nat → Int
  | 0 => -1
  | i + 1 => if hasB (b i) (k i) a && decide (rfB b k a i < k i) then h i else rfH b k h a i
/-- The host for an address. -/
def rtF (n : Nat) (b k h : Nat → Int) (a : Int) : Int := if rtsB n b k h then rfH b k h a n else -1
theorem hasB_out {b k a : Int} (h : inB a 0 255 = false) : hasB b k a = false := by simp [hasB, h]
theorem rf_out {b k h : Nat → Int} {a : Int} (ha : inB a 0 255 = false) : ∀ i, rfH b k h a i = -1
  | 0 => rfl
  | i + 1 => by simp [rfH, hasB_out ha, rf_out ha i]
theorem rf_no {b k h : Nat → Int} {a : Int} {i : Nat} (hq : hasB (b i) (k i) a = false) : rfB b k a (i + 1) = rfB b k a i ∧ rfH b k h a (i + 1) = rfH b k h a i := by simp [rfB, rfH, hq]
theorem rf_le {b k h : Nat → Int} {a : Int} {i : Nat} (hq : k i ≤ rfB b k a i) : rfB b k a (i + 1) = rfB b k a i ∧ rfH b k h a (i + 1) = rfH b k h a i := by
  have : ¬ rfB b k a i < k i := by omega
  simp [rfB, rfH, this]
theorem rf_lt {b k h : Nat → Int} {a : Int} {i : Nat} (hq : hasB (b i) (k i) a = true) (hl : rfB b k a i < k i) : rfB b k a (i + 1) = k i ∧ rfH b k h a (i + 1) = h i := by simp [rfB, rfH, hq, hl]

set_option maxHeartbeats 4000000 in
theorem implRouteFor_any {w : World} {B : Nat} {A : Option Addr} {n c : Nat} {b k h : Nat → Int} (a : Int) (H : Rws w B 3 A n c (routeR b k h)) (hB : B ≤ w.heap.size) :
    Calls Try.prog 18 #[.slice A n c, .int .i64 a] w fun e w' => e = .returned (.int .i64 (rtF n b k h a)) ∧ Below w.heap.size w w' := by
  have H0 := H
  obtain ⟨⟨hnc, hcm⟩, hrow⟩ := H0
  unfold maxLen at hcm
  have H1 := Lib.hid H
  clear H
  cases hv : rtsB n b k h with
  | false =>
    have he := Lib.hid (show rtF n b k h a = -1 by simp [rtF, hv])
    clear hrow
    go_enter Try.func18, Try.ntmps18
    go_wp2_with (go_at_call 20; refine (implRoutesValid_any H1.out hB).mono ?_; rintro e w1 ⟨rfl, hb1⟩)
    go_ret
    exact ⟨by rw [he.out] <;> rfl, hb1⟩
  | true =>
    cases ha : inB a 0 255 with
    | false =>
      have he := Lib.hid (show rtF n b k h a = -1 by simp [rtF, hv, rf_out ha])
      clear hrow
      go_enter Try.func18, Try.ntmps18
      go_wp2_with (first | (go_at_call 20; refine (implRoutesValid_any H1.out hB).mono ?_; rintro e w1 ⟨rfl, hb1⟩) | (go_at_call 35; refine (in_any _ _ _ _).mono ?_; rintro e w' ⟨rfl, rfl⟩))
      go_ret
      exact ⟨by rw [he.out] <;> rfl, hb1⟩
    | true =>
      have he := Lib.hid (show rtF n b k h a = rfH b k h a n by simp [rtF, hv])
      go_enter Try.func18, Try.ntmps18
      go_wp2_with (first | (go_at_call 20; refine (implRoutesValid_any H1.out hB).mono ?_; rintro e w1 ⟨rfl, hb1⟩) | (go_at_call 35; refine (in_any _ _ _ _).mono ?_; rintro e w' ⟨rfl, rfl⟩))
      clear hv ha
      go_loopw [5, 6, 19] (fun p m i wr => ∃ j : Nat, j ≤ n ∧ i = .int .i64 j ∧ p = .int .i64 (rfH b k h a j) ∧ m = .int .i64 (rfB b k a j) ∧ Below w.heap.size w wr) (fun _ _ i _ => n - (intOf i).toNat)
      case atStart => exact ⟨0, by omega, rfl, rfl, rfl, hb1⟩
      case round =>
        obtain ⟨j, hj, rfl, rfl, rfl, hBw⟩ := hrel
        clear hb1
        by_cases hlt : j < n
        · obtain ⟨bl, off, rfl, hbB, hc⟩ := hrow (by omega)
          have hr := hc j hlt
          have hbs : bl < wr.heap.size := by have := hBw.size; omega
          have q0 : wr.cell? ⟨bl, off + j * 3, none⟩ = some (.int .i64 (b j)) := (keepc hBw bl (by omega) _).trans (hr 0 _ rfl)
          have q1 : wr.cell? ⟨bl, off + j * 3 + 1, none⟩ = some (.int .i64 (k j)) := (keepc hBw bl (by omega) _).trans (hr 1 _ rfl)
          have q2 : wr.cell? ⟨bl, off + j * 3 + 2, none⟩ = some (.int .i64 (h j)) := (keepc hBw bl (by omega) _).trans (hr 2 _ rfl)
          clear hr hc hrow
          cases hq : hasB (b j) (k j) a with
          | false =>
            obtain ⟨r1, r2⟩ := rf_no (h := h) hq
            have hr1 := Lib.hid r1
            have hr2 := Lib.hid r2
            clear r1 r2
            go_wp2_with (go_at_call 17; refine (implPrefixHas_any _ _ _ _).mono ?_; rintro e w2 ⟨rfl, hb2⟩; have k0 := keepc hb2 wr.heap.size (by simp <;> omega); have z0 : wr.heap.size < w2.heap.size := (by have := hb2.size; simp at this; omega))
            go_roundw
            case rel => exact ⟨j + 1, by omega, by go_num, by rw [hr2.out], by rw [hr1.out], by (repeat (first | exact Below.refl _ _ | assumption | refine Below.al ?_ _ | refine Below.dr ?_ | (refine Below.st ?_ (by simp <;> omega) _) | (refine Below.tr ?_ (by assumption))))⟩
            case measure => simp [intOf]; omega
          | true =>
            by_cases hm : rfB b k a j < k j
            · obtain ⟨r1, r2⟩ := rf_lt (h := h) hq hm
              have hr1 := Lib.hid r1
              have hr2 := Lib.hid r2
              clear r1 r2
              go_wp2_with (go_at_call 17; refine (implPrefixHas_any _ _ _ _).mono ?_; rintro e w2 ⟨rfl, hb2⟩; have k0 := keepc hb2 wr.heap.size (by simp <;> omega); have z0 : wr.heap.size < w2.heap.size := (by have := hb2.size; simp at this; omega))
              refine wp_region_free (ds := [(0, 34), (1, 35), (2, 36), (3, 37), (4, 38), (5, 5), (6, 6)]) 7 (by kernel_rfl) (by kernel_rfl) (by first | exact .inl rfl | exact .inr (by kernel_rfl)) (by rfl) rfl rfl ?_
              apply free_is
              · intro a' w' hLe hfr hdep
                have e8 := hfr 8 rfl
                conv at e8 => rhs; whnf
                have f8 := e8; simp only [Array.getD_eq_getD_getElem?] at f8
                refine wpOp_plain rfl rfl (fun K hK => ?_)
                go_simp
                exact hK _ _ ⟨_, rfl, Below.refl _ _, rfl⟩
              apply free_is
              · intro a' w' hLe hfr hdep
                have e34 : a'.tmps.getD 34 undef = _ := hdep 0 34 (Nat.le_of_ble_eq_true rfl) rfl rfl
                conv at e34 => rhs; whnf
                have f34 := e34; simp only [Array.getD_eq_getD_getElem?] at f34
                have kc := fun i => keepc hLe (wr.heap.size) (by (try simp) <;> omega) i
                have kf := fun i => keepf hLe (wr.heap.size) (by (try simp) <;> omega) i
                have kz : wr.heap.size < w'.heap.size := (by have := hLe.size; (try simp at this); omega)
                refine wpOp_plain rfl rfl (fun K hK => ?_)
                go_simp
                exact hK _ _ ⟨_, rfl, Below.refl _ _, rfl⟩
              apply free_is
              · intro a' w' hLe hfr hdep
                have e8 := hfr 8 rfl
                conv at e8 => rhs; whnf
                have f8 := e8; simp only [Array.getD_eq_getD_getElem?] at f8
                refine wpOp_plain rfl rfl (fun K hK => ?_)
                go_simp
                exact hK _ _ ⟨_, rfl, Below.refl _ _, rfl⟩
              apply free_is
              · intro a' w' hLe hfr hdep
                have e36 : a'.tmps.getD 36 undef = _ := hdep 2 36 (Nat.le_of_ble_eq_true rfl) rfl rfl
                conv at e36 => rhs; whnf
                have f36 := e36; simp only [Array.getD_eq_getD_getElem?] at f36
                refine wpOp_plain rfl rfl (fun K hK => ?_)
                go_simp
                exact hK _ _ ⟨_, rfl, Below.refl _ _, rfl⟩
              apply free_is
              · intro a' w' hLe hfr hdep
                have e37 : a'.tmps.getD 37 undef = _ := hdep 3 37 (Nat.le_of_ble_eq_true rfl) rfl rfl
                conv at e37 => rhs; whnf
                have f37 := e37; simp only [Array.getD_eq_getD_getElem?] at f37
                have kc := fun i => keepc hLe (wr.heap.size) (by (try simp) <;> omega) i
                have kf := fun i => keepf hLe (wr.heap.size) (by (try simp) <;> omega) i
                have kz : wr.heap.size < w'.heap.size := (by have := hLe.size; (try simp at this); omega)
                refine wpOp_plain rfl rfl (fun K hK => ?_)
                go_simp
                exact hK _ _ ⟨_, rfl, Below.refl _ _, rfl⟩
              apply free_is
              · intro a' w' hLe hfr hdep
                have e35 : a'.tmps.getD 35 undef = _ := hdep 1 35 (Nat.le_of_ble_eq_true rfl) rfl rfl
                conv at e35 => rhs; whnf
                have f35 := e35; simp only [Array.getD_eq_getD_getElem?] at f35
                refine wpOp_plain rfl rfl (fun K hK => ?_)
                go_simp
                exact hK _ _ ⟨_, rfl, Below.refl _ _, rfl⟩
              apply free_is
              · intro a' w' hLe hfr hdep
                have e38 : a'.tmps.getD 38 undef = _ := hdep 4 38 (Nat.le_of_ble_eq_true rfl) rfl rfl
                conv at e38 => rhs; whnf
                have f38 := e38; simp only [Array.getD_eq_getD_getElem?] at f38
                refine wpOp_plain rfl rfl (fun K hK => ?_)
                go_simp
                exact hK _ _ ⟨_, rfl, Below.refl _ _, rfl⟩
              apply free_nil
              intro vs w8 hb8 hT8
              have e34 : vs 0 = _ := hT8 0 34 rfl
              conv at e34 => rhs; whnf
              have e35 : vs 1 = _ := hT8 1 35 rfl
              conv at e35 => rhs; whnf
              have e36 : vs 2 = _ := hT8 2 36 rfl
              conv at e36 => rhs; whnf
              have e37 : vs 3 = _ := hT8 3 37 rfl
              conv at e37 => rhs; whnf
              have e38 : vs 4 = _ := hT8 4 38 rfl
              conv at e38 => rhs; whnf
              have e5 : vs 5 = _ := hT8 5 5 rfl
              conv at e5 => rhs; whnf
              have e6 : vs 6 = _ := hT8 6 6 rfl
              conv at e6 => rhs; whnf
              simp only [putAll, List.drop_succ_cons, List.drop_zero, e34, e35, e36, e37, e38, e5, e6]
              clear hT8 e34 e35 e36 e37 e38 e5 e6
              go_simp
              go_wp2
              go_roundw
              case rel => exact ⟨j + 1, by omega, by go_num, by rw [hr2.out], by rw [hr1.out], by (repeat (first | exact Below.refl _ _ | assumption | refine Below.al ?_ _ | refine Below.dr ?_ | (refine Below.st ?_ (by simp <;> omega) _) | (refine Below.tr ?_ (by assumption))))⟩
              case measure => simp [intOf]; omega
            · obtain ⟨r1, r2⟩ := rf_le (h := h) (show k j ≤ rfB b k a j by omega)
              have hr1 := Lib.hid r1
              have hr2 := Lib.hid r2
              clear r1 r2
              go_wp2_with (go_at_call 17; refine (implPrefixHas_any _ _ _ _).mono ?_; rintro e w2 ⟨rfl, hb2⟩; have k0 := keepc hb2 wr.heap.size (by simp <;> omega); have z0 : wr.heap.size < w2.heap.size := (by have := hb2.size; simp at this; omega))
              go_roundw
              case rel => exact ⟨j + 1, by omega, by go_num, by rw [hr2.out], by rw [hr1.out], by (repeat (first | exact Below.refl _ _ | assumption | refine Below.al ?_ _ | refine Below.dr ?_ | (refine Below.st ?_ (by simp <;> omega) _) | (refine Below.tr ?_ (by assumption))))⟩
              case measure => simp [intOf]; omega
        · obtain rfl : j = n := by omega
          clear hrow
          go_wp2
          go_ret
          exact ⟨by rw [he.out] <;> rfl, hBw⟩

end Go.Proofs.Ytgoijpbkgkjfeaa
