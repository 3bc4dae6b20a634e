/-
  The law 'the first screen decides': its walk.
-/
import Derived.Test.YtcljfakpcecejaaScrE
namespace Go.Proofs.Ytcljfakpcecejaa
open Go.RowKit

set_option maxHeartbeats 4000000 in
theorem screenFlow_walk {w : World} {A : Option Addr} {n c : Nat} (h : Bytes w w.heap.size A n c) :
    Calls Try.prog 7 #[.slice A n c] w (Truly w) := by
  by_cases hn : 1048576 < n
  · go_enter Try.func7, Try.ntmps7
    go_wp2
    go_ret
    exact ⟨rfl, Below.refl _ _⟩
  · go_enter Try.func7, Try.ntmps7
    go_wp2_with fail
    refine (drawScreenFlow_any h).mono ?_
    rintro e w1 ⟨A', nn, c', R, f0, f1, f2, f3, f4, rfl, hnn, hR, hO, hb⟩
    obtain ⟨c0, c1, c2, c3, c4, c5, rfl⟩ := screenR_of hR
    have hR1 := Lib.hid hO.rows
    have hrow := hO.rows.2
    have hncc := hO.rows.1.1
    have hccm := hO.rows.1.2
    unfold maxLen at hccm
    clear hR hO h hn
    go_wp2_with fail
    refine (implScreenFlow_any _ _ _ _ _ (hR1.out.below (by (repeat (first | exact Below.refl _ _ | assumption | refine Below.al ?_ _ | refine Below.dr ?_ | (refine Below.st ?_ (by simp <;> omega) _) | (refine Below.tr ?_ (by assumption)))))) (by simp)).mono ?_
    rintro e w2 ⟨rfl, hb2⟩
    have hB2 : Below w1.heap.size w1 w2 := Below.tr (by (repeat (first | exact Below.refl _ _ | assumption | refine Below.al ?_ _ | refine Below.dr ?_ | (refine Below.st ?_ (by simp <;> omega) _) | (refine Below.tr ?_ (by assumption))))) hb2
    have k2 := keepc hb2 w1.heap.size (by simp)
    have z2 : w1.heap.size < w2.heap.size := (by have := hb2.size; simp at this; omega)
    go_wp2_with fail
    refine (specScreenFlow_any _ _ _ _ _ (hR1.out.below hB2) hB2.size).mono ?_
    rintro e w3 ⟨rfl, hb3⟩
    have hB3 := Below.tr hB2 hb3
    have z3 : w1.heap.size < w3.heap.size := Nat.lt_of_lt_of_le z2 hb3.size
    go_wp2_with fail
    refine (implScreensValid_any (hR1.out.below hB3) hB3.size).mono ?_
    rintro e w4 ⟨rfl, hb4⟩
    have hB4 := Below.tr hB3 hb4
    have hX4 := Below.tr (Below.tr hb2 hb3) hb4
    cases hv : scsB nn c0 c1 c2 c3 c4 with
    | false =>
      obtain ⟨r1, r2⟩ := sf_none (n := nn) (F := sfF nn c0 c1 c2 c3 c4 f0 f1 f2 f3 f4) (ps := c5) (fun i _ => by simp [sfF, hv])
      clear hrow
      go_wp2_with (go_at_call 18; refine (alive_any _).mono ?_; rintro e wa ⟨rfl, hba⟩)
      go_ret
      exact ⟨rfl, by (repeat (first | exact Below.refl _ _ | assumption | refine Below.al ?_ _ | refine Below.dr ?_ | (refine Below.st ?_ (by simp <;> omega) _) | (refine Below.tr ?_ (by assumption))))⟩
    | true =>
      clear k2
      go_wp2_with fail
      go_loopw [9] (fun i wr => ∃ j : Nat, j ≤ nn ∧ i = .int .i64 j ∧ (∀ i, i < j → sfF nn c0 c1 c2 c3 c4 f0 f1 f2 f3 f4 i = false) ∧ Below (w1.alloc (.cells #[.int .i64 f0, .int .i64 f1, .int .i64 f2, .int .i64 f3, .int .i64 f4] 33)).heap.size (w1.alloc (.cells #[.int .i64 f0, .int .i64 f1, .int .i64 f2, .int .i64 f3, .int .i64 f4] 33)) wr) (fun i _ => nn - (intOf i).toNat)
      case atStart => exact ⟨0, by omega, rfl, fun i hi => absurd hi (by omega), hX4⟩
      case round =>
        obtain ⟨j, hj, rfl, hok, hBw⟩ := hrel
        have hB0 : Below w1.heap.size w1 wr := Below.tr (by (repeat (first | exact Below.refl _ _ | assumption | refine Below.al ?_ _ | refine Below.dr ?_ | (refine Below.st ?_ (by simp <;> omega) _) | (refine Below.tr ?_ (by assumption))))) hBw
        have hfs : w1.heap.size < wr.heap.size := by have := hBw.size; simp at this; omega
        have kf : ∀ i, wr.cell? ⟨w1.heap.size, i, none⟩ = #[Value.int .i64 f0, .int .i64 f1, .int .i64 f2, .int .i64 f3, .int .i64 f4][i]? := fun i => (keepc hBw w1.heap.size (by simp) i).trans ((blk (heap_alloc_new w1 _)).1 i)
        by_cases hlt : j < nn
        · obtain ⟨bl, off, rfl, hbB, hc⟩ := hrow (by omega)
          have hr := hc j hlt
          have hbs : bl < wr.heap.size := by have := hB0.size; omega
          have q0 : wr.cell? ⟨bl, off + j * 6, none⟩ = some (.int .i64 (c0 j)) := (keepc hB0 bl (by omega) _).trans (hr 0 _ rfl)
          have q1 : wr.cell? ⟨bl, off + j * 6 + 1, none⟩ = some (.int .i64 (c1 j)) := (keepc hB0 bl (by omega) _).trans (hr 1 _ rfl)
          have q2 : wr.cell? ⟨bl, off + j * 6 + 2, none⟩ = some (.int .i64 (c2 j)) := (keepc hB0 bl (by omega) _).trans (hr 2 _ rfl)
          have q3 : wr.cell? ⟨bl, off + j * 6 + 3, none⟩ = some (.int .i64 (c3 j)) := (keepc hB0 bl (by omega) _).trans (hr 3 _ rfl)
          have q4 : wr.cell? ⟨bl, off + j * 6 + 4, none⟩ = some (.int .i64 (c4 j)) := (keepc hB0 bl (by omega) _).trans (hr 4 _ rfl)
          have q5 : wr.cell? ⟨bl, off + j * 6 + 5, none⟩ = some (.bool (c5 j)) := (keepc hB0 bl (by omega) _).trans (hr 5 _ rfl)
          have HO := Lib.hid hok
          clear hok hr hc hrow
          cases hq : fitsB (c0 j) (c1 j) (c2 j) (c3 j) (c4 j) f0 f1 f2 f3 f4 with
          | false =>
            have hno := Lib.hid (show sfF nn c0 c1 c2 c3 c4 f0 f1 f2 f3 f4 j = false by simp [sfF, hq])
            go_wp2
            refine wp_region_free (ds := [(0, 57), (1, 58), (2, 59), (3, 60), (4, 61), (5, 62), (6, 10)]) 7 (by kernel_rfl) (by kernel_rfl) (by first | exact .inl rfl | exact .inr (by kernel_rfl)) (by rfl) rfl rfl ?_
            apply free_is
            · intro a' w' hLe hfr hdep
              have e3 := hfr 3 rfl
              conv at e3 => rhs; whnf
              have f3 := e3; simp only [Array.getD_eq_getD_getElem?] at f3
              refine wpOp_plain rfl rfl (fun K hK => ?_)
              go_simp
              exact hK _ _ ⟨_, rfl, Below.refl _ _, rfl⟩
            apply free_is
            · intro a' w' hLe hfr hdep
              have e9 := hfr 9 rfl
              conv at e9 => rhs; whnf
              have f9 := e9; simp only [Array.getD_eq_getD_getElem?] at f9
              refine wpOp_plain rfl rfl (fun K hK => ?_)
              go_simp
              exact hK _ _ ⟨_, rfl, Below.refl _ _, rfl⟩
            apply free_is
            · intro a' w' hLe hfr hdep
              have e57 : a'.tmps.getD 57 undef = _ := hdep 0 57 (Nat.le_of_ble_eq_true rfl) rfl rfl
              conv at e57 => rhs; whnf
              have f57 := e57; simp only [Array.getD_eq_getD_getElem?] at f57
              have e58 : a'.tmps.getD 58 undef = _ := hdep 1 58 (Nat.le_of_ble_eq_true rfl) rfl rfl
              conv at e58 => rhs; whnf
              have f58 := e58; simp only [Array.getD_eq_getD_getElem?] at f58
              refine wpOp_plain rfl rfl (fun K hK => ?_)
              go_simp
              exact hK _ _ ⟨_, rfl, Below.refl _ _, rfl⟩
            apply free_is
            · intro a' w' hLe hfr hdep
              have e59 : a'.tmps.getD 59 undef = _ := hdep 2 59 (Nat.le_of_ble_eq_true rfl) rfl rfl
              conv at e59 => rhs; whnf
              have f59 := e59; simp only [Array.getD_eq_getD_getElem?] at f59
              have kc := fun i => keepc hLe (bl) (by (try simp) <;> omega) i
              have kf := fun i => keepf hLe (bl) (by (try simp) <;> omega) i
              have kz : bl < w'.heap.size := (by have := hLe.size; (try simp at this); omega)
              have kc := fun i => keepc hLe (w1.heap.size) (by (try simp) <;> omega) i
              have kf := fun i => keepf hLe (w1.heap.size) (by (try simp) <;> omega) i
              have kz : w1.heap.size < w'.heap.size := (by have := hLe.size; (try simp at this); omega)
              refine wpOp_plain rfl rfl (fun K hK => ?_)
              go_simp
              exact hK _ _ ⟨_, rfl, Below.refl _ _, rfl⟩
            apply free_is
            · intro a' w' hLe hfr hdep
              have e4 := hfr 4 rfl
              conv at e4 => rhs; whnf
              have f4 := e4; simp only [Array.getD_eq_getD_getElem?] at f4
              have kc := fun i => keepc hLe (bl) (by (try simp) <;> omega) i
              have kf := fun i => keepf hLe (bl) (by (try simp) <;> omega) i
              have kz : bl < w'.heap.size := (by have := hLe.size; (try simp at this); omega)
              have kc := fun i => keepc hLe (w1.heap.size) (by (try simp) <;> omega) i
              have kf := fun i => keepf hLe (w1.heap.size) (by (try simp) <;> omega) i
              have kz : w1.heap.size < w'.heap.size := (by have := hLe.size; (try simp at this); omega)
              refine wpOp_plain rfl rfl (fun K hK => ?_)
              go_simp
              exact hK _ _ ⟨_, rfl, Below.refl _ _, rfl⟩
            apply free_is
            · intro a' w' hLe hfr hdep
              have e60 : a'.tmps.getD 60 undef = _ := hdep 3 60 (Nat.le_of_ble_eq_true rfl) rfl rfl
              conv at e60 => rhs; whnf
              have f60 := e60; simp only [Array.getD_eq_getD_getElem?] at f60
              have e61 : a'.tmps.getD 61 undef = _ := hdep 4 61 (Nat.le_of_ble_eq_true rfl) rfl rfl
              conv at e61 => rhs; whnf
              have f61 := e61; simp only [Array.getD_eq_getD_getElem?] at f61
              have kc := fun i => keepc hLe (bl) (by (try simp) <;> omega) i
              have kf := fun i => keepf hLe (bl) (by (try simp) <;> omega) i
              have kz : bl < w'.heap.size := (by have := hLe.size; (try simp at this); omega)
              have kc := fun i => keepc hLe (w1.heap.size) (by (try simp) <;> omega) i
              have kf := fun i => keepf hLe (w1.heap.size) (by (try simp) <;> omega) i
              have kz : w1.heap.size < w'.heap.size := (by have := hLe.size; (try simp at this); omega)
              refine wpOp_plain rfl rfl (fun K hK => ?_)
              go_simp
              refine (implScreenFits_any _ _ _ _ _ _ _ _ _ _ _ _).mono ?_
              rintro e w2 ⟨rfl, hb⟩
              exact hK _ _ ⟨_, rfl, hb, rfl⟩
            apply free_is
            · intro a' w' hLe hfr hdep
              have e62 : a'.tmps.getD 62 undef = _ := hdep 5 62 (Nat.le_of_ble_eq_true rfl) rfl rfl
              conv at e62 => rhs; whnf
              have f62 := e62; simp only [Array.getD_eq_getD_getElem?] at f62
              refine wpOp_plain rfl rfl (fun K hK => ?_)
              go_simp
              exact hK _ _ ⟨_, rfl, Below.refl _ _, rfl⟩
            apply free_nil
            intro vs w5 hb5 hT5
            have e57 : vs 0 = _ := hT5 0 57 rfl
            conv at e57 => rhs; whnf
            have e58 : vs 1 = _ := hT5 1 58 rfl
            conv at e58 => rhs; whnf
            have e59 : vs 2 = _ := hT5 2 59 rfl
            conv at e59 => rhs; whnf
            have e60 : vs 3 = _ := hT5 3 60 rfl
            conv at e60 => rhs; whnf
            have e61 : vs 4 = _ := hT5 4 61 rfl
            conv at e61 => rhs; whnf
            have e62 : vs 5 = _ := hT5 5 62 rfl
            conv at e62 => rhs; whnf
            have e10 : vs 6 = _ := hT5 6 10 rfl
            conv at e10 => rhs; whnf
            simp only [putAll, List.drop_succ_cons, List.drop_zero, e57, e58, e59, e60, e61, e62, e10]
            clear hT5 e57 e58 e59 e60 e61 e62 e10
            go_simp
            go_wp2
            go_roundw
            case rel => exact ⟨j + 1, by omega, by go_num, upto HO.out hno.out, Below.tr hBw hb5⟩
            case measure => simp [intOf]; omega
          | true =>
            have hy : sfF nn c0 c1 c2 c3 c4 f0 f1 f2 f3 f4 j = true := by simp [sfF, hv, hq]
            obtain ⟨r1, r2⟩ := sf_hit (ps := c5) hlt HO.out hy
            clear hy
            go_wp2
            refine wp_region_free (ds := [(0, 57), (1, 58), (2, 59), (3, 60), (4, 61), (5, 62), (6, 10)]) 7 (by kernel_rfl) (by kernel_rfl) (by first | exact .inl rfl | exact .inr (by kernel_rfl)) (by rfl) rfl rfl ?_
            apply free_is
            · intro a' w' hLe hfr hdep
              have e3 := hfr 3 rfl
              conv at e3 => rhs; whnf
              have f3 := e3; simp only [Array.getD_eq_getD_getElem?] at f3
              refine wpOp_plain rfl rfl (fun K hK => ?_)
              go_simp
              exact hK _ _ ⟨_, rfl, Below.refl _ _, rfl⟩
            apply free_is
            · intro a' w' hLe hfr hdep
              have e9 := hfr 9 rfl
              conv at e9 => rhs; whnf
              have f9 := e9; simp only [Array.getD_eq_getD_getElem?] at f9
              refine wpOp_plain rfl rfl (fun K hK => ?_)
              go_simp
              exact hK _ _ ⟨_, rfl, Below.refl _ _, rfl⟩
            apply free_is
            · intro a' w' hLe hfr hdep
              have e57 : a'.tmps.getD 57 undef = _ := hdep 0 57 (Nat.le_of_ble_eq_true rfl) rfl rfl
              conv at e57 => rhs; whnf
              have f57 := e57; simp only [Array.getD_eq_getD_getElem?] at f57
              have e58 : a'.tmps.getD 58 undef = _ := hdep 1 58 (Nat.le_of_ble_eq_true rfl) rfl rfl
              conv at e58 => rhs; whnf
              have f58 := e58; simp only [Array.getD_eq_getD_getElem?] at f58
              refine wpOp_plain rfl rfl (fun K hK => ?_)
              go_simp
              exact hK _ _ ⟨_, rfl, Below.refl _ _, rfl⟩
            apply free_is
            · intro a' w' hLe hfr hdep
              have e59 : a'.tmps.getD 59 undef = _ := hdep 2 59 (Nat.le_of_ble_eq_true rfl) rfl rfl
              conv at e59 => rhs; whnf
              have f59 := e59; simp only [Array.getD_eq_getD_getElem?] at f59
              have kc := fun i => keepc hLe (bl) (by (try simp) <;> omega) i
              have kf := fun i => keepf hLe (bl) (by (try simp) <;> omega) i
              have kz : bl < w'.heap.size := (by have := hLe.size; (try simp at this); omega)
              have kc := fun i => keepc hLe (w1.heap.size) (by (try simp) <;> omega) i
              have kf := fun i => keepf hLe (w1.heap.size) (by (try simp) <;> omega) i
              have kz : w1.heap.size < w'.heap.size := (by have := hLe.size; (try simp at this); omega)
              refine wpOp_plain rfl rfl (fun K hK => ?_)
              go_simp
              exact hK _ _ ⟨_, rfl, Below.refl _ _, rfl⟩
            apply free_is
            · intro a' w' hLe hfr hdep
              have e4 := hfr 4 rfl
              conv at e4 => rhs; whnf
              have f4 := e4; simp only [Array.getD_eq_getD_getElem?] at f4
              have kc := fun i => keepc hLe (bl) (by (try simp) <;> omega) i
              have kf := fun i => keepf hLe (bl) (by (try simp) <;> omega) i
              have kz : bl < w'.heap.size := (by have := hLe.size; (try simp at this); omega)
              have kc := fun i => keepc hLe (w1.heap.size) (by (try simp) <;> omega) i
              have kf := fun i => keepf hLe (w1.heap.size) (by (try simp) <;> omega) i
              have kz : w1.heap.size < w'.heap.size := (by have := hLe.size; (try simp at this); omega)
              refine wpOp_plain rfl rfl (fun K hK => ?_)
              go_simp
              exact hK _ _ ⟨_, rfl, Below.refl _ _, rfl⟩
            apply free_is
            · intro a' w' hLe hfr hdep
              have e60 : a'.tmps.getD 60 undef = _ := hdep 3 60 (Nat.le_of_ble_eq_true rfl) rfl rfl
              conv at e60 => rhs; whnf
              have f60 := e60; simp only [Array.getD_eq_getD_getElem?] at f60
              have e61 : a'.tmps.getD 61 undef = _ := hdep 4 61 (Nat.le_of_ble_eq_true rfl) rfl rfl
              conv at e61 => rhs; whnf
              have f61 := e61; simp only [Array.getD_eq_getD_getElem?] at f61
              have kc := fun i => keepc hLe (bl) (by (try simp) <;> omega) i
              have kf := fun i => keepf hLe (bl) (by (try simp) <;> omega) i
              have kz : bl < w'.heap.size := (by have := hLe.size; (try simp at this); omega)
              have kc := fun i => keepc hLe (w1.heap.size) (by (try simp) <;> omega) i
              have kf := fun i => keepf hLe (w1.heap.size) (by (try simp) <;> omega) i
              have kz : w1.heap.size < w'.heap.size := (by have := hLe.size; (try simp at this); omega)
              refine wpOp_plain rfl rfl (fun K hK => ?_)
              go_simp
              refine (implScreenFits_any _ _ _ _ _ _ _ _ _ _ _ _).mono ?_
              rintro e w2 ⟨rfl, hb⟩
              exact hK _ _ ⟨_, rfl, hb, rfl⟩
            apply free_is
            · intro a' w' hLe hfr hdep
              have e62 : a'.tmps.getD 62 undef = _ := hdep 5 62 (Nat.le_of_ble_eq_true rfl) rfl rfl
              conv at e62 => rhs; whnf
              have f62 := e62; simp only [Array.getD_eq_getD_getElem?] at f62
              refine wpOp_plain rfl rfl (fun K hK => ?_)
              go_simp
              exact hK _ _ ⟨_, rfl, Below.refl _ _, rfl⟩
            apply free_nil
            intro vs w5 hb5 hT5
            have e57 : vs 0 = _ := hT5 0 57 rfl
            conv at e57 => rhs; whnf
            have e58 : vs 1 = _ := hT5 1 58 rfl
            conv at e58 => rhs; whnf
            have e59 : vs 2 = _ := hT5 2 59 rfl
            conv at e59 => rhs; whnf
            have e60 : vs 3 = _ := hT5 3 60 rfl
            conv at e60 => rhs; whnf
            have e61 : vs 4 = _ := hT5 4 61 rfl
            conv at e61 => rhs; whnf
            have e62 : vs 5 = _ := hT5 5 62 rfl
            conv at e62 => rhs; whnf
            have e10 : vs 6 = _ := hT5 6 10 rfl
            conv at e10 => rhs; whnf
            simp only [putAll, List.drop_succ_cons, List.drop_zero, e57, e58, e59, e60, e61, e62, e10]
            clear hT5 e57 e58 e59 e60 e61 e62 e10
            go_simp
            have k3 := keepc hb5 bl hbs
            have z5 : bl < w5.heap.size := Nat.lt_of_lt_of_le hbs hb5.size
            go_wp2
            go_ret
            exact ⟨rfl, Below.tr hb (Below.tr hB0 hb5)⟩
        · obtain rfl : j = nn := by omega
          obtain ⟨r1, r2⟩ := sf_none (ps := c5) hok
          clear hok hrow
          go_wp2
          go_ret
          exact ⟨rfl, Below.tr hb hB0⟩
end Go.Proofs.Ytcljfakpcecejaa
