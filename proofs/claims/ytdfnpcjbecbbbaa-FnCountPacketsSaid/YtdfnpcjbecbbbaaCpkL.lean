/-
  The law 'two parts of the packets, added, have the counters of all together': its walk.
-/
import Derived.Test.YtdfnpcjbecbbbaaCpkD
import Derived.Test.YtdfnpcjbecbbbaaCpkS
import Derived.Test.YtdfnpcjbecbbbaaCpkP
import Derived.Test.YtdfnpcjbecbbbaaAddL
namespace Go.Proofs.Ytdfnpcjbecbbbaa
open Go Go.RowKit

/-- New rows. -/
def kbOwn (B : Nat) (t : TypeId) (m n : Nat) (R : Nat → List Value) : KB :=
  ⟨fun v w => ∃ A c, v = .slice A n c ∧ Own w B t m A n c R, fun _ _ _ ⟨A, c, e, h⟩ hb => ⟨A, c, e, h.next hb⟩⟩
set_option maxRecDepth 20000 in
set_option maxHeartbeats 16000000 in
theorem countPackets_walk {w : World} {A : Option Addr} {n c : Nat} (h : Bytes w w.heap.size A n c) :
    Calls Try.prog 7 #[.slice A n c] w (Truly w) := by
  by_cases hn : 1048576 < n
  · go_enter Try.func7, Try.ntmps7
    go_wp2
    go_ret
    exact ⟨rfl, Below.refl _ _⟩
  · go_enter Try.func7, Try.ntmps7
    go_wp2_with fail
    refine (drawCountPackets_any h).mono ?_
    rintro e w1 ⟨A1, n1, c1, A2, m, c2, A3, m', c3, a, b, d, hh, s, rfl, hn1, hO1, hO2, hO3, hb⟩
    have H1 := Lib.hid hO1.rows
    have H2 := Lib.hid hO2.rows
    have H3 := Lib.hid hO3.rows
    have hc2 := hO2.2.1
    have hc3 := hO3.2.1
    have hm2 := hO2.1
    have hm3 := hO3.1
    unfold maxLen at hm2 hm3
    clear hO1 hO2 hO3 hn h
    go_wp2_with fail
    refine (implCountPackets_any H1.out H2.out H3.out (Nat.le_refl _)).mono ?_
    rintro e w2 ⟨A4, c4, rfl, hO4, hb2⟩
    have hs2 := hb2.size
    go_wp2_with fail
    refine (specCountPackets_any (H1.out.below hb2) (H2.out.below hb2) (H3.out.below hb2) hb2.size).mono ?_
    rintro e w3 ⟨A5, c5, rfl, hO5, hb3⟩
    have hB3 := Below.tr hb2 hb3
    have hP := fun h => cpkN_pos (n := n1) (a := a) (b := b) (d := d) (m := m) (m' := m') (s := s) h
    have hle := cpkN_le n1 a b d m m' s
    have H4 := Lib.hid (hO4.next hb3).rows
    have H5 := Lib.hid hO5.rows
    clear hO4 hO5
    generalize cpkN n1 a b d m m' s = N at *
    go_wp2_with fail
    refine (sameCounters_same H4.out H5.out (Nat.le_refl _)).mono ?_
    rintro e w4 ⟨rfl, hb4⟩
    have hB4 := Below.tr hB3 hb4
    have hs4 := hB4.size
    have H6 := Lib.hid (H4.out.next hb4)
    have HP := Lib.hid (H1.out.below hB4)
    have HH := Lib.hid (H2.out.below hB4)
    have HS := Lib.hid (H3.out.below hB4)
    clear H4 H5 hb4 hb2 hb3 hB3 H1 H2 H3
    rcases Nat.eq_zero_or_pos N with rfl | hpos
    · clear hP
      go_wp2_with (go_at_call 15; refine (alive_any _).mono ?_; rintro e wa ⟨rfl, hba⟩)
      go_ret
      exact ⟨rfl, Below.tr hb (Below.tr hB4 (by assumption))⟩
    · obtain ⟨hp, rfl, h40, hs, rfl⟩ := hP hpos
      have hk2 : m / 2 ≤ c2 := by omega
      have hk3 : m / 2 ≤ c3 := by omega
      have hkm : m / 2 ≤ m := by omega
      have hsm : N ≤ 1048576 := by omega
      have hrow : ∀ (W : World) (B : Nat) (A : Option Addr) (c : Nat), Own W B 32 3 A N c (cpkR a hh s (m / 2 + (m - m / 2))) → Rws W W.heap.size 3 A N c (cpkR a hh s m)   := fun _ _ _ _ h => by
        rw [show m / 2 + (m - m / 2) = m by omega] at h
        exact h.rows
      have HR := Lib.hid hrow
      have hs1 := Lib.hid (show ∀ i, i < m / 2 → inB (s i) 0 100000 = true from fun i hi => hs i (by omega))
      have hs2 := Lib.hid (show ∀ i, i < m - m / 2 → inB (shf (m / 2) s i) 0 100000 = true from fun i hi => hs (m / 2 + i) (by omega))
      have hs3 := Lib.hid (show ∀ i, i < m / 2 + (m - m / 2) → inB (s i) 0 100000 = true from fun i hi => hs i (by omega))
      have hN0 : ((N : Int) == 0) = false := by simp; omega
      clear hrow hle hpos hs
      rcases Nat.eq_zero_or_pos m with rfl | hmp
      · have hs0 := Lib.hid (show ∀ i, i < 0 → inB (s i) 0 100000 = true from fun i hi => absurd hi (by omega))
        have hs9 := Lib.hid (show ∀ i, i < 0 → inB (shf 0 s i) 0 100000 = true from fun i hi => absurd hi (by omega))
        have hs5 := Lib.hid (show ∀ i, i < 0 + 0 → inB (s i) 0 100000 = true from fun i hi => absurd hi (by omega))
        have hR0 : ∀ (W : World) (B : Nat) (A : Option Addr) (c : Nat), Own W B 32 3 A N c (cpkR a hh s (0 + 0)) → Rws W W.heap.size 3 A N c (cpkR a hh s 0) := fun _ _ _ _ h => h.rows
        have HR0 := Lib.hid hR0
        clear hR0 hs1 hs2 hs3 HR
        by_cases z2 : c2 = 0
        case' pos => subst z2
        all_goals by_cases z3 : c3 = 0
        case' pos => subst z3
        all_goals
          go_upto_region 10 with (fail)
          refine wp_region_free (ds := [(0, 35), (1, 36), (2, 37), (3, 38), (4, 39), (5, 40), (6, 41), (7, 42), (8, 43), (9, 44), (10, 45), (11, 46), (12, 47), (13, 48), (14, 49), (15, 50), (16, 51), (17, 52), (18, 53), (19, 54), (20, 55), (21, 56), (22, 57), (23, 58), (24, 59), (25, 60), (26, 2)]) 27 (by kernel_rfl) (by kernel_rfl) (by first | exact .inl rfl | exact .inr (by kernel_rfl)) (by rfl) rfl rfl ?_
          apply free_is
          · intro a' w' hLe hfr hdep
            have e4 := hfr 4 rfl
            conv at e4 => rhs; whnf
            have f4 := e4; simp only [Array.getD_eq_getD_getElem?] at f4
            refine wpOp_plain rfl rfl (fun K hK => ?_)
            go_simp
            exact hK _ _ ⟨_, rfl, Below.refl _ _, rfl⟩
          apply free_is
          · intro a' w' hLe hfr hdep
            have e35 : a'.tmps.getD 35 undef = _ := hdep 0 35 (Nat.le_of_ble_eq_true rfl) rfl rfl
            conv at e35 => rhs; whnf
            have f35 := e35; simp only [Array.getD_eq_getD_getElem?] at f35
            refine wpOp_plain rfl rfl (fun K hK => ?_)
            go_simp
            exact hK _ _ ⟨_, rfl, Below.refl _ _, rfl⟩
          apply free_is
          · intro a' w' hLe hfr hdep
            have e5 := hfr 5 rfl
            conv at e5 => rhs; whnf
            have f5 := e5; simp only [Array.getD_eq_getD_getElem?] at f5
            refine wpOp_plain rfl rfl (fun K hK => ?_)
            go_simp
            exact hK _ _ ⟨_, rfl, Below.refl _ _, rfl⟩
          apply free_is
          · intro a' w' hLe hfr hdep
            have e37 : a'.tmps.getD 37 undef = _ := hdep 2 37 (Nat.le_of_ble_eq_true rfl) rfl rfl
            conv at e37 => rhs; whnf
            have f37 := e37; simp only [Array.getD_eq_getD_getElem?] at f37
            refine wpOp_plain rfl rfl (fun K hK => ?_)
            go_simp
            exact hK _ _ ⟨_, rfl, Below.refl _ _, rfl⟩
          apply free_is
          · intro a' w' hLe hfr hdep
            have e36 : a'.tmps.getD 36 undef = _ := hdep 1 36 (Nat.le_of_ble_eq_true rfl) rfl rfl
            conv at e36 => rhs; whnf
            have f36 := e36; simp only [Array.getD_eq_getD_getElem?] at f36
            have e38 : a'.tmps.getD 38 undef = _ := hdep 3 38 (Nat.le_of_ble_eq_true rfl) rfl rfl
            conv at e38 => rhs; whnf
            have f38 := e38; simp only [Array.getD_eq_getD_getElem?] at f38
            refine wpOp_plain rfl rfl (fun K hK => ?_)
            go_simp
            exact hK _ _ ⟨_, rfl, Below.refl _ _, rfl⟩
          apply free_is
          · intro a' w' hLe hfr hdep
            have e39 : a'.tmps.getD 39 undef = _ := hdep 4 39 (Nat.le_of_ble_eq_true rfl) rfl rfl
            conv at e39 => rhs; whnf
            have f39 := e39; simp only [Array.getD_eq_getD_getElem?] at f39
            refine wpOp_plain rfl rfl (fun K hK => ?_)
            go_simp
            exact hK _ _ ⟨_, rfl, Below.refl _ _, rfl⟩
          apply free_is
          · intro a' w' hLe hfr hdep
            have e40 : a'.tmps.getD 40 undef = _ := hdep 5 40 (Nat.le_of_ble_eq_true rfl) rfl rfl
            conv at e40 => rhs; whnf
            have f40 := e40; simp only [Array.getD_eq_getD_getElem?] at f40
            have e3 := hfr 3 rfl
            conv at e3 => rhs; whnf
            have f3 := e3; simp only [Array.getD_eq_getD_getElem?] at f3
            refine wpOp_yes rfl rfl rfl e40 (fun K hK => ?_)
            go_simp
            exact hK _ _ ⟨_, rfl, Below.refl _ _, rfl⟩
          apply free_is
          · intro a' w' hLe hfr hdep
            have e40 : a'.tmps.getD 40 undef = _ := hdep 5 40 (Nat.le_of_ble_eq_true rfl) rfl rfl
            conv at e40 => rhs; whnf
            have f40 := e40; simp only [Array.getD_eq_getD_getElem?] at f40
            have e4 := hfr 4 rfl
            conv at e4 => rhs; whnf
            have f4 := e4; simp only [Array.getD_eq_getD_getElem?] at f4
            refine wpOp_yes rfl rfl rfl e40 (fun K hK => ?_)
            go_simp
            exact hK _ _ ⟨_, rfl, Below.refl _ _, rfl⟩
          apply free_is
          · intro a' w' hLe hfr hdep
            have e40 : a'.tmps.getD 40 undef = _ := hdep 5 40 (Nat.le_of_ble_eq_true rfl) rfl rfl
            conv at e40 => rhs; whnf
            have f40 := e40; simp only [Array.getD_eq_getD_getElem?] at f40
            have e7 := hfr 7 rfl
            conv at e7 => rhs; whnf
            have f7 := e7; simp only [Array.getD_eq_getD_getElem?] at f7
            refine wpOp_yes rfl rfl rfl e40 (fun K hK => ?_)
            go_simp
            exact hK _ _ ⟨_, rfl, Below.refl _ _, rfl⟩
          apply free_is
          · intro a' w' hLe hfr hdep
            have e40 : a'.tmps.getD 40 undef = _ := hdep 5 40 (Nat.le_of_ble_eq_true rfl) rfl rfl
            conv at e40 => rhs; whnf
            have f40 := e40; simp only [Array.getD_eq_getD_getElem?] at f40
            have e42 : a'.tmps.getD 42 undef = _ := hdep 7 42 (Nat.le_of_ble_eq_true rfl) rfl rfl
            conv at e42 => rhs; whnf
            have f42 := e42; simp only [Array.getD_eq_getD_getElem?] at f42
            have e43 : a'.tmps.getD 43 undef = _ := hdep 8 43 (Nat.le_of_ble_eq_true rfl) rfl rfl
            conv at e43 => rhs; whnf
            have f43 := e43; simp only [Array.getD_eq_getD_getElem?] at f43
            refine wpOp_yes rfl rfl rfl e40 (fun K hK => ?_)
            go_simp
            exact hK _ _ ⟨_, rfl, Below.refl _ _, rfl⟩
          apply free_is
          · intro a' w' hLe hfr hdep
            have e40 : a'.tmps.getD 40 undef = _ := hdep 5 40 (Nat.le_of_ble_eq_true rfl) rfl rfl
            conv at e40 => rhs; whnf
            have f40 := e40; simp only [Array.getD_eq_getD_getElem?] at f40
            have e5 := hfr 5 rfl
            conv at e5 => rhs; whnf
            have f5 := e5; simp only [Array.getD_eq_getD_getElem?] at f5
            refine wpOp_yes rfl rfl rfl e40 (fun K hK => ?_)
            go_simp
            exact hK _ _ ⟨_, rfl, Below.refl _ _, rfl⟩
          apply free_is
          · intro a' w' hLe hfr hdep
            have e40 : a'.tmps.getD 40 undef = _ := hdep 5 40 (Nat.le_of_ble_eq_true rfl) rfl rfl
            conv at e40 => rhs; whnf
            have f40 := e40; simp only [Array.getD_eq_getD_getElem?] at f40
            have e7 := hfr 7 rfl
            conv at e7 => rhs; whnf
            have f7 := e7; simp only [Array.getD_eq_getD_getElem?] at f7
            refine wpOp_yes rfl rfl rfl e40 (fun K hK => ?_)
            go_simp
            exact hK _ _ ⟨_, rfl, Below.refl _ _, rfl⟩
          apply free_is
          · intro a' w' hLe hfr hdep
            have e40 : a'.tmps.getD 40 undef = _ := hdep 5 40 (Nat.le_of_ble_eq_true rfl) rfl rfl
            conv at e40 => rhs; whnf
            have f40 := e40; simp only [Array.getD_eq_getD_getElem?] at f40
            have e45 : a'.tmps.getD 45 undef = _ := hdep 10 45 (Nat.le_of_ble_eq_true rfl) rfl rfl
            conv at e45 => rhs; whnf
            have f45 := e45; simp only [Array.getD_eq_getD_getElem?] at f45
            have e46 : a'.tmps.getD 46 undef = _ := hdep 11 46 (Nat.le_of_ble_eq_true rfl) rfl rfl
            conv at e46 => rhs; whnf
            have f46 := e46; simp only [Array.getD_eq_getD_getElem?] at f46
            refine wpOp_yes rfl rfl rfl e40 (fun K hK => ?_)
            go_simp
            exact hK _ _ ⟨_, rfl, Below.refl _ _, rfl⟩
          refine free_cons (kbOwn w4.heap.size 32 3 N (cpkR a hh s 0)) ?_ ?_
          · intro a' w' hLe hfr hdep
            have e40 : a'.tmps.getD 40 undef = _ := hdep 5 40 (Nat.le_of_ble_eq_true rfl) rfl rfl
            conv at e40 => rhs; whnf
            have f40 := e40; simp only [Array.getD_eq_getD_getElem?] at f40
            have e41 : a'.tmps.getD 41 undef = _ := hdep 6 41 (Nat.le_of_ble_eq_true rfl) rfl rfl
            conv at e41 => rhs; whnf
            have f41 := e41; simp only [Array.getD_eq_getD_getElem?] at f41
            have e44 : a'.tmps.getD 44 undef = _ := hdep 9 44 (Nat.le_of_ble_eq_true rfl) rfl rfl
            conv at e44 => rhs; whnf
            have f44 := e44; simp only [Array.getD_eq_getD_getElem?] at f44
            have e47 : a'.tmps.getD 47 undef = _ := hdep 12 47 (Nat.le_of_ble_eq_true rfl) rfl rfl
            conv at e47 => rhs; whnf
            have f47 := e47; simp only [Array.getD_eq_getD_getElem?] at f47
            refine wpOp_yes rfl rfl rfl e40 (fun K hK => ?_)
            go_simp
            refine (half_first (k := 0) (h := hh) (s := s) hp (by omega) hs0.out (HP.out.below (hLe.mono hs4)) ((Rws.none_ (by unfold maxLen; omega))) ((Rws.none_ (by unfold maxLen; omega))) (by have := hLe.size; (try simp at this); omega)).mono ?_
            rintro e w2 ⟨Ar, cr, rfl, hO, hb⟩
            exact hK _ _ ⟨_, rfl, hb, ⟨Ar, cr, rfl, hO.more (by have := hLe.size; (try simp at this); omega)⟩⟩
          apply free_is
          · intro a' w' hLe hfr hdep
            have e40 : a'.tmps.getD 40 undef = _ := hdep 5 40 (Nat.le_of_ble_eq_true rfl) rfl rfl
            conv at e40 => rhs; whnf
            have f40 := e40; simp only [Array.getD_eq_getD_getElem?] at f40
            have e3 := hfr 3 rfl
            conv at e3 => rhs; whnf
            have f3 := e3; simp only [Array.getD_eq_getD_getElem?] at f3
            refine wpOp_yes rfl rfl rfl e40 (fun K hK => ?_)
            go_simp
            exact hK _ _ ⟨_, rfl, Below.refl _ _, rfl⟩
          apply free_is
          · intro a' w' hLe hfr hdep
            have e40 : a'.tmps.getD 40 undef = _ := hdep 5 40 (Nat.le_of_ble_eq_true rfl) rfl rfl
            conv at e40 => rhs; whnf
            have f40 := e40; simp only [Array.getD_eq_getD_getElem?] at f40
            have e4 := hfr 4 rfl
            conv at e4 => rhs; whnf
            have f4 := e4; simp only [Array.getD_eq_getD_getElem?] at f4
            refine wpOp_yes rfl rfl rfl e40 (fun K hK => ?_)
            go_simp
            exact hK _ _ ⟨_, rfl, Below.refl _ _, rfl⟩
          apply free_is
          · intro a' w' hLe hfr hdep
            have e40 : a'.tmps.getD 40 undef = _ := hdep 5 40 (Nat.le_of_ble_eq_true rfl) rfl rfl
            conv at e40 => rhs; whnf
            have f40 := e40; simp only [Array.getD_eq_getD_getElem?] at f40
            have e7 := hfr 7 rfl
            conv at e7 => rhs; whnf
            have f7 := e7; simp only [Array.getD_eq_getD_getElem?] at f7
            refine wpOp_yes rfl rfl rfl e40 (fun K hK => ?_)
            go_simp
            exact hK _ _ ⟨_, rfl, Below.refl _ _, rfl⟩
          apply free_is
          · intro a' w' hLe hfr hdep
            have e40 : a'.tmps.getD 40 undef = _ := hdep 5 40 (Nat.le_of_ble_eq_true rfl) rfl rfl
            conv at e40 => rhs; whnf
            have f40 := e40; simp only [Array.getD_eq_getD_getElem?] at f40
            have e50 : a'.tmps.getD 50 undef = _ := hdep 15 50 (Nat.le_of_ble_eq_true rfl) rfl rfl
            conv at e50 => rhs; whnf
            have f50 := e50; simp only [Array.getD_eq_getD_getElem?] at f50
            have e51 : a'.tmps.getD 51 undef = _ := hdep 16 51 (Nat.le_of_ble_eq_true rfl) rfl rfl
            conv at e51 => rhs; whnf
            have f51 := e51; simp only [Array.getD_eq_getD_getElem?] at f51
            refine wpOp_yes rfl rfl rfl e40 (fun K hK => ?_)
            go_simp
            exact hK _ _ ⟨_, rfl, Below.refl _ _, rfl⟩
          apply free_is
          · intro a' w' hLe hfr hdep
            have e40 : a'.tmps.getD 40 undef = _ := hdep 5 40 (Nat.le_of_ble_eq_true rfl) rfl rfl
            conv at e40 => rhs; whnf
            have f40 := e40; simp only [Array.getD_eq_getD_getElem?] at f40
            have e5 := hfr 5 rfl
            conv at e5 => rhs; whnf
            have f5 := e5; simp only [Array.getD_eq_getD_getElem?] at f5
            refine wpOp_yes rfl rfl rfl e40 (fun K hK => ?_)
            go_simp
            exact hK _ _ ⟨_, rfl, Below.refl _ _, rfl⟩
          apply free_is
          · intro a' w' hLe hfr hdep
            have e40 : a'.tmps.getD 40 undef = _ := hdep 5 40 (Nat.le_of_ble_eq_true rfl) rfl rfl
            conv at e40 => rhs; whnf
            have f40 := e40; simp only [Array.getD_eq_getD_getElem?] at f40
            have e7 := hfr 7 rfl
            conv at e7 => rhs; whnf
            have f7 := e7; simp only [Array.getD_eq_getD_getElem?] at f7
            refine wpOp_yes rfl rfl rfl e40 (fun K hK => ?_)
            go_simp
            exact hK _ _ ⟨_, rfl, Below.refl _ _, rfl⟩
          apply free_is
          · intro a' w' hLe hfr hdep
            have e40 : a'.tmps.getD 40 undef = _ := hdep 5 40 (Nat.le_of_ble_eq_true rfl) rfl rfl
            conv at e40 => rhs; whnf
            have f40 := e40; simp only [Array.getD_eq_getD_getElem?] at f40
            have e53 : a'.tmps.getD 53 undef = _ := hdep 18 53 (Nat.le_of_ble_eq_true rfl) rfl rfl
            conv at e53 => rhs; whnf
            have f53 := e53; simp only [Array.getD_eq_getD_getElem?] at f53
            have e54 : a'.tmps.getD 54 undef = _ := hdep 19 54 (Nat.le_of_ble_eq_true rfl) rfl rfl
            conv at e54 => rhs; whnf
            have f54 := e54; simp only [Array.getD_eq_getD_getElem?] at f54
            refine wpOp_yes rfl rfl rfl e40 (fun K hK => ?_)
            go_simp
            exact hK _ _ ⟨_, rfl, Below.refl _ _, rfl⟩
          refine free_cons (kbOwn w4.heap.size 32 3 N (cpkR a (shf 0 hh) (shf 0 s) 0)) ?_ ?_
          · intro a' w' hLe hfr hdep
            have e40 : a'.tmps.getD 40 undef = _ := hdep 5 40 (Nat.le_of_ble_eq_true rfl) rfl rfl
            conv at e40 => rhs; whnf
            have f40 := e40; simp only [Array.getD_eq_getD_getElem?] at f40
            have e49 : a'.tmps.getD 49 undef = _ := hdep 14 49 (Nat.le_of_ble_eq_true rfl) rfl rfl
            conv at e49 => rhs; whnf
            have f49 := e49; simp only [Array.getD_eq_getD_getElem?] at f49
            have e52 : a'.tmps.getD 52 undef = _ := hdep 17 52 (Nat.le_of_ble_eq_true rfl) rfl rfl
            conv at e52 => rhs; whnf
            have f52 := e52; simp only [Array.getD_eq_getD_getElem?] at f52
            have e55 : a'.tmps.getD 55 undef = _ := hdep 20 55 (Nat.le_of_ble_eq_true rfl) rfl rfl
            conv at e55 => rhs; whnf
            have f55 := e55; simp only [Array.getD_eq_getD_getElem?] at f55
            refine wpOp_yes rfl rfl rfl e40 (fun K hK => ?_)
            go_simp
            refine (half_first (k := 0) (h := shf 0 hh) (s := shf 0 s) hp (by omega) hs9.out (HP.out.below (hLe.mono hs4)) ((Rws.none_ (by unfold maxLen; omega))) ((Rws.none_ (by unfold maxLen; omega))) (by have := hLe.size; (try simp at this); omega)).mono ?_
            rintro e w2 ⟨Ar, cr, rfl, hO, hb⟩
            exact hK _ _ ⟨_, rfl, hb, ⟨Ar, cr, rfl, hO.more (by have := hLe.size; (try simp at this); omega)⟩⟩
          refine free_cons (kbOwn w4.heap.size 32 3 N (cpkR a hh s (0 + 0))) ?_ ?_
          · intro a' w' hLe hfr hdep
            have e40 : a'.tmps.getD 40 undef = _ := hdep 5 40 (Nat.le_of_ble_eq_true rfl) rfl rfl
            conv at e40 => rhs; whnf
            have f40 := e40; simp only [Array.getD_eq_getD_getElem?] at f40
            obtain ⟨A48, c48, e48, hO48⟩ := hdep 13 48 (Nat.le_of_ble_eq_true rfl) rfl rfl
            have f48 := e48; simp only [Array.getD_eq_getD_getElem?] at f48
            obtain ⟨A56, c56, e56, hO56⟩ := hdep 21 56 (Nat.le_of_ble_eq_true rfl) rfl rfl
            have f56 := e56; simp only [Array.getD_eq_getD_getElem?] at f56
            refine wpOp_yes rfl rfl rfl e40 (fun K hK => ?_)
            go_simp
            refine (add_halves (k := 0) (j := 0) (by omega) (by omega) hs5.out hO48.rows hO56.rows (Nat.le_refl _) (by omega)).mono ?_
            rintro e w2 ⟨Ar, cr, rfl, hO, hb⟩
            exact hK _ _ ⟨_, rfl, hb, ⟨Ar, cr, rfl, hO.more (by have := hLe.size; (try simp at this); omega)⟩⟩
          apply free_is
          · intro a' w' hLe hfr hdep
            have e40 : a'.tmps.getD 40 undef = _ := hdep 5 40 (Nat.le_of_ble_eq_true rfl) rfl rfl
            conv at e40 => rhs; whnf
            have f40 := e40; simp only [Array.getD_eq_getD_getElem?] at f40
            have e6 := hfr 6 rfl
            conv at e6 => rhs; whnf
            have f6 := e6; simp only [Array.getD_eq_getD_getElem?] at f6
            refine wpOp_yes rfl rfl rfl e40 (fun K hK => ?_)
            go_simp
            exact hK _ _ ⟨_, rfl, Below.refl _ _, rfl⟩
          apply free_is
          · intro a' w' hLe hfr hdep
            have e40 : a'.tmps.getD 40 undef = _ := hdep 5 40 (Nat.le_of_ble_eq_true rfl) rfl rfl
            conv at e40 => rhs; whnf
            have f40 := e40; simp only [Array.getD_eq_getD_getElem?] at f40
            obtain ⟨A57, c57, e57, hO57⟩ := hdep 22 57 (Nat.le_of_ble_eq_true rfl) rfl rfl
            have f57 := e57; simp only [Array.getD_eq_getD_getElem?] at f57
            have e58 : a'.tmps.getD 58 undef = _ := hdep 23 58 (Nat.le_of_ble_eq_true rfl) rfl rfl
            conv at e58 => rhs; whnf
            have f58 := e58; simp only [Array.getD_eq_getD_getElem?] at f58
            refine wpOp_yes rfl rfl rfl e40 (fun K hK => ?_)
            go_simp
            refine (sameCounters_same (HR0.out _ _ _ _ hO57) (H6.out.next hLe) (Nat.le_refl _)).mono ?_
            rintro e w2 ⟨rfl, hb⟩
            exact hK _ _ ⟨_, rfl, hb, rfl⟩
          apply free_is
          · intro a' w' hLe hfr hdep
            have e40 : a'.tmps.getD 40 undef = _ := hdep 5 40 (Nat.le_of_ble_eq_true rfl) rfl rfl
            conv at e40 => rhs; whnf
            have f40 := e40; simp only [Array.getD_eq_getD_getElem?] at f40
            have e59 : a'.tmps.getD 59 undef = _ := hdep 24 59 (Nat.le_of_ble_eq_true rfl) rfl rfl
            conv at e59 => rhs; whnf
            have f59 := e59; simp only [Array.getD_eq_getD_getElem?] at f59
            refine wpOp_plain rfl rfl (fun K hK => ?_)
            go_simp
            exact hK _ _ ⟨_, rfl, Below.refl _ _, rfl⟩
          apply free_is
          · intro a' w' hLe hfr hdep
            have e60 : a'.tmps.getD 60 undef = _ := hdep 25 60 (Nat.le_of_ble_eq_true rfl) rfl rfl
            conv at e60 => rhs; whnf
            have f60 := e60; simp only [Array.getD_eq_getD_getElem?] at f60
            refine wpOp_plain rfl rfl (fun K hK => ?_)
            go_simp
            exact hK _ _ ⟨_, rfl, Below.refl _ _, rfl⟩
          apply free_nil
          intro vs w9 hb9 hT9
          have e35 : vs 0 = _ := hT9 0 35 rfl
          conv at e35 => rhs; whnf
          have e36 : vs 1 = _ := hT9 1 36 rfl
          conv at e36 => rhs; whnf
          have e37 : vs 2 = _ := hT9 2 37 rfl
          conv at e37 => rhs; whnf
          have e38 : vs 3 = _ := hT9 3 38 rfl
          conv at e38 => rhs; whnf
          have e39 : vs 4 = _ := hT9 4 39 rfl
          conv at e39 => rhs; whnf
          have e40 : vs 5 = _ := hT9 5 40 rfl
          conv at e40 => rhs; whnf
          have e41 : vs 6 = _ := hT9 6 41 rfl
          conv at e41 => rhs; whnf
          have e42 : vs 7 = _ := hT9 7 42 rfl
          conv at e42 => rhs; whnf
          have e43 : vs 8 = _ := hT9 8 43 rfl
          conv at e43 => rhs; whnf
          have e44 : vs 9 = _ := hT9 9 44 rfl
          conv at e44 => rhs; whnf
          have e45 : vs 10 = _ := hT9 10 45 rfl
          conv at e45 => rhs; whnf
          have e46 : vs 11 = _ := hT9 11 46 rfl
          conv at e46 => rhs; whnf
          have e47 : vs 12 = _ := hT9 12 47 rfl
          conv at e47 => rhs; whnf
          obtain ⟨A48, c48, e48, hO48⟩ := hT9 13 48 rfl
          have e49 : vs 14 = _ := hT9 14 49 rfl
          conv at e49 => rhs; whnf
          have e50 : vs 15 = _ := hT9 15 50 rfl
          conv at e50 => rhs; whnf
          have e51 : vs 16 = _ := hT9 16 51 rfl
          conv at e51 => rhs; whnf
          have e52 : vs 17 = _ := hT9 17 52 rfl
          conv at e52 => rhs; whnf
          have e53 : vs 18 = _ := hT9 18 53 rfl
          conv at e53 => rhs; whnf
          have e54 : vs 19 = _ := hT9 19 54 rfl
          conv at e54 => rhs; whnf
          have e55 : vs 20 = _ := hT9 20 55 rfl
          conv at e55 => rhs; whnf
          obtain ⟨A56, c56, e56, hO56⟩ := hT9 21 56 rfl
          obtain ⟨A57, c57, e57, hO57⟩ := hT9 22 57 rfl
          have e58 : vs 23 = _ := hT9 23 58 rfl
          conv at e58 => rhs; whnf
          have e59 : vs 24 = _ := hT9 24 59 rfl
          conv at e59 => rhs; whnf
          have e60 : vs 25 = _ := hT9 25 60 rfl
          conv at e60 => rhs; whnf
          have e2 : vs 26 = _ := hT9 26 2 rfl
          conv at e2 => rhs; whnf
          simp only [putAll, List.drop_succ_cons, List.drop_zero, e35, e36, e37, e38, e39, e40, e41, e42, e43, e44, e45, e46, e47, e48, e49, e50, e51, e52, e53, e54, e55, e56, e57, e58, e59, e60, e2]
          clear hT9 e35 e36 e37 e38 e39 e40 e41 e42 e43 e44 e45 e46 e47 e48 e49 e50 e51 e52 e53 e54 e55 e56 e57 e58 e59 e60 e2
          go_simp
          go_wp2_with fail
          go_ret
          exact ⟨rfl, Below.tr hb (Below.tr hB4 hb9)⟩
      · obtain ⟨b2, o2, rfl, hb2, _⟩ := HH.out.2 hmp
        obtain ⟨b3, o3, rfl, hb3, _⟩ := HS.out.2 hmp
        have hf2 := HH.out.from_ (m / 2) (by omega)
        rw [Nat.mul_one] at hf2
        replace hf2 := Lib.hid hf2
        have hf3 := HS.out.from_ (m / 2) (by omega)
        rw [Nat.mul_one] at hf3
        replace hf3 := Lib.hid hf3
        have ht2 := Lib.hid (HH.out.take (m / 2) (by omega))
        have ht3 := Lib.hid (HS.out.take (m / 2) (by omega))
        have hne2 : ¬ (c2 = m / 2) := by omega
        have hne3 : ¬ (c3 = m / 2) := by omega
        have e1 : (0 : Int) ≤ (m : Int) / 2 := by omega
        have e2 : (m : Int) / 2 ≤ (c2 : Int) := by omega
        have e3 : (m : Int) / 2 ≤ (c3 : Int) := by omega
        have e4 : ((m : Int) / 2).toNat = m / 2 := by omega
        have e5 : (m : Int) / 2 ≤ (m : Int) := by omega
        go_upto_region 10 with (fail)
        refine wp_region_free (ds := [(0, 35), (1, 36), (2, 37), (3, 38), (4, 39), (5, 40), (6, 41), (7, 42), (8, 43), (9, 44), (10, 45), (11, 46), (12, 47), (13, 48), (14, 49), (15, 50), (16, 51), (17, 52), (18, 53), (19, 54), (20, 55), (21, 56), (22, 57), (23, 58), (24, 59), (25, 60), (26, 2)]) 27 (by kernel_rfl) (by kernel_rfl) (by first | exact .inl rfl | exact .inr (by kernel_rfl)) (by rfl) rfl rfl ?_
        apply free_is
        · intro a' w' hLe hfr hdep
          have e4 := hfr 4 rfl
          conv at e4 => rhs; whnf
          have f4 := e4; simp only [Array.getD_eq_getD_getElem?] at f4
          refine wpOp_plain rfl rfl (fun K hK => ?_)
          go_simp
          exact hK _ _ ⟨_, rfl, Below.refl _ _, rfl⟩
        apply free_is
        · intro a' w' hLe hfr hdep
          have e35 : a'.tmps.getD 35 undef = _ := hdep 0 35 (Nat.le_of_ble_eq_true rfl) rfl rfl
          conv at e35 => rhs; whnf
          have f35 := e35; simp only [Array.getD_eq_getD_getElem?] at f35
          refine wpOp_plain rfl rfl (fun K hK => ?_)
          go_simp
          exact hK _ _ ⟨_, rfl, Below.refl _ _, rfl⟩
        apply free_is
        · intro a' w' hLe hfr hdep
          have e5 := hfr 5 rfl
          conv at e5 => rhs; whnf
          have f5 := e5; simp only [Array.getD_eq_getD_getElem?] at f5
          refine wpOp_plain rfl rfl (fun K hK => ?_)
          go_simp
          exact hK _ _ ⟨_, rfl, Below.refl _ _, rfl⟩
        apply free_is
        · intro a' w' hLe hfr hdep
          have e37 : a'.tmps.getD 37 undef = _ := hdep 2 37 (Nat.le_of_ble_eq_true rfl) rfl rfl
          conv at e37 => rhs; whnf
          have f37 := e37; simp only [Array.getD_eq_getD_getElem?] at f37
          refine wpOp_plain rfl rfl (fun K hK => ?_)
          go_simp
          exact hK _ _ ⟨_, rfl, Below.refl _ _, rfl⟩
        apply free_is
        · intro a' w' hLe hfr hdep
          have e36 : a'.tmps.getD 36 undef = _ := hdep 1 36 (Nat.le_of_ble_eq_true rfl) rfl rfl
          conv at e36 => rhs; whnf
          have f36 := e36; simp only [Array.getD_eq_getD_getElem?] at f36
          have e38 : a'.tmps.getD 38 undef = _ := hdep 3 38 (Nat.le_of_ble_eq_true rfl) rfl rfl
          conv at e38 => rhs; whnf
          have f38 := e38; simp only [Array.getD_eq_getD_getElem?] at f38
          refine wpOp_plain rfl rfl (fun K hK => ?_)
          go_simp
          exact hK _ _ ⟨_, rfl, Below.refl _ _, rfl⟩
        apply free_is
        · intro a' w' hLe hfr hdep
          have e39 : a'.tmps.getD 39 undef = _ := hdep 4 39 (Nat.le_of_ble_eq_true rfl) rfl rfl
          conv at e39 => rhs; whnf
          have f39 := e39; simp only [Array.getD_eq_getD_getElem?] at f39
          refine wpOp_plain rfl rfl (fun K hK => ?_)
          go_simp
          exact hK _ _ ⟨_, rfl, Below.refl _ _, rfl⟩
        apply free_is
        · intro a' w' hLe hfr hdep
          have e40 : a'.tmps.getD 40 undef = _ := hdep 5 40 (Nat.le_of_ble_eq_true rfl) rfl rfl
          conv at e40 => rhs; whnf
          have f40 := e40; simp only [Array.getD_eq_getD_getElem?] at f40
          have e3 := hfr 3 rfl
          conv at e3 => rhs; whnf
          have f3 := e3; simp only [Array.getD_eq_getD_getElem?] at f3
          refine wpOp_yes rfl rfl rfl e40 (fun K hK => ?_)
          go_simp
          exact hK _ _ ⟨_, rfl, Below.refl _ _, rfl⟩
        apply free_is
        · intro a' w' hLe hfr hdep
          have e40 : a'.tmps.getD 40 undef = _ := hdep 5 40 (Nat.le_of_ble_eq_true rfl) rfl rfl
          conv at e40 => rhs; whnf
          have f40 := e40; simp only [Array.getD_eq_getD_getElem?] at f40
          have e4 := hfr 4 rfl
          conv at e4 => rhs; whnf
          have f4 := e4; simp only [Array.getD_eq_getD_getElem?] at f4
          refine wpOp_yes rfl rfl rfl e40 (fun K hK => ?_)
          go_simp
          exact hK _ _ ⟨_, rfl, Below.refl _ _, rfl⟩
        apply free_is
        · intro a' w' hLe hfr hdep
          have e40 : a'.tmps.getD 40 undef = _ := hdep 5 40 (Nat.le_of_ble_eq_true rfl) rfl rfl
          conv at e40 => rhs; whnf
          have f40 := e40; simp only [Array.getD_eq_getD_getElem?] at f40
          have e7 := hfr 7 rfl
          conv at e7 => rhs; whnf
          have f7 := e7; simp only [Array.getD_eq_getD_getElem?] at f7
          refine wpOp_yes rfl rfl rfl e40 (fun K hK => ?_)
          go_simp
          exact hK _ _ ⟨_, rfl, Below.refl _ _, rfl⟩
        apply free_is
        · intro a' w' hLe hfr hdep
          have e40 : a'.tmps.getD 40 undef = _ := hdep 5 40 (Nat.le_of_ble_eq_true rfl) rfl rfl
          conv at e40 => rhs; whnf
          have f40 := e40; simp only [Array.getD_eq_getD_getElem?] at f40
          have e42 : a'.tmps.getD 42 undef = _ := hdep 7 42 (Nat.le_of_ble_eq_true rfl) rfl rfl
          conv at e42 => rhs; whnf
          have f42 := e42; simp only [Array.getD_eq_getD_getElem?] at f42
          have e43 : a'.tmps.getD 43 undef = _ := hdep 8 43 (Nat.le_of_ble_eq_true rfl) rfl rfl
          conv at e43 => rhs; whnf
          have f43 := e43; simp only [Array.getD_eq_getD_getElem?] at f43
          refine wpOp_yes rfl rfl rfl e40 (fun K hK => ?_)
          go_simp
          exact hK _ _ ⟨_, rfl, Below.refl _ _, rfl⟩
        apply free_is
        · intro a' w' hLe hfr hdep
          have e40 : a'.tmps.getD 40 undef = _ := hdep 5 40 (Nat.le_of_ble_eq_true rfl) rfl rfl
          conv at e40 => rhs; whnf
          have f40 := e40; simp only [Array.getD_eq_getD_getElem?] at f40
          have e5 := hfr 5 rfl
          conv at e5 => rhs; whnf
          have f5 := e5; simp only [Array.getD_eq_getD_getElem?] at f5
          refine wpOp_yes rfl rfl rfl e40 (fun K hK => ?_)
          go_simp
          exact hK _ _ ⟨_, rfl, Below.refl _ _, rfl⟩
        apply free_is
        · intro a' w' hLe hfr hdep
          have e40 : a'.tmps.getD 40 undef = _ := hdep 5 40 (Nat.le_of_ble_eq_true rfl) rfl rfl
          conv at e40 => rhs; whnf
          have f40 := e40; simp only [Array.getD_eq_getD_getElem?] at f40
          have e7 := hfr 7 rfl
          conv at e7 => rhs; whnf
          have f7 := e7; simp only [Array.getD_eq_getD_getElem?] at f7
          refine wpOp_yes rfl rfl rfl e40 (fun K hK => ?_)
          go_simp
          exact hK _ _ ⟨_, rfl, Below.refl _ _, rfl⟩
        apply free_is
        · intro a' w' hLe hfr hdep
          have e40 : a'.tmps.getD 40 undef = _ := hdep 5 40 (Nat.le_of_ble_eq_true rfl) rfl rfl
          conv at e40 => rhs; whnf
          have f40 := e40; simp only [Array.getD_eq_getD_getElem?] at f40
          have e45 : a'.tmps.getD 45 undef = _ := hdep 10 45 (Nat.le_of_ble_eq_true rfl) rfl rfl
          conv at e45 => rhs; whnf
          have f45 := e45; simp only [Array.getD_eq_getD_getElem?] at f45
          have e46 : a'.tmps.getD 46 undef = _ := hdep 11 46 (Nat.le_of_ble_eq_true rfl) rfl rfl
          conv at e46 => rhs; whnf
          have f46 := e46; simp only [Array.getD_eq_getD_getElem?] at f46
          refine wpOp_yes rfl rfl rfl e40 (fun K hK => ?_)
          go_simp
          exact hK _ _ ⟨_, rfl, Below.refl _ _, rfl⟩
        refine free_cons (kbOwn w4.heap.size 32 3 N (cpkR a hh s (m / 2))) ?_ ?_
        · intro a' w' hLe hfr hdep
          have e40 : a'.tmps.getD 40 undef = _ := hdep 5 40 (Nat.le_of_ble_eq_true rfl) rfl rfl
          conv at e40 => rhs; whnf
          have f40 := e40; simp only [Array.getD_eq_getD_getElem?] at f40
          have e41 : a'.tmps.getD 41 undef = _ := hdep 6 41 (Nat.le_of_ble_eq_true rfl) rfl rfl
          conv at e41 => rhs; whnf
          have f41 := e41; simp only [Array.getD_eq_getD_getElem?] at f41
          have e44 : a'.tmps.getD 44 undef = _ := hdep 9 44 (Nat.le_of_ble_eq_true rfl) rfl rfl
          conv at e44 => rhs; whnf
          have f44 := e44; simp only [Array.getD_eq_getD_getElem?] at f44
          have e47 : a'.tmps.getD 47 undef = _ := hdep 12 47 (Nat.le_of_ble_eq_true rfl) rfl rfl
          conv at e47 => rhs; whnf
          have f47 := e47; simp only [Array.getD_eq_getD_getElem?] at f47
          refine wpOp_yes rfl rfl rfl e40 (fun K hK => ?_)
          go_simp
          refine (half_first hp (by omega) hs1.out (HP.out.below (hLe.mono hs4)) (ht2.out.below (hLe.mono hs4)) (ht3.out.below (hLe.mono hs4)) (by have := hLe.size; (try simp at this); omega)).mono ?_
          rintro e w2 ⟨Ar, cr, rfl, hO, hb⟩
          exact hK _ _ ⟨_, rfl, hb, ⟨Ar, cr, rfl, hO.more (by have := hLe.size; (try simp at this); omega)⟩⟩
        apply free_is
        · intro a' w' hLe hfr hdep
          have e40 : a'.tmps.getD 40 undef = _ := hdep 5 40 (Nat.le_of_ble_eq_true rfl) rfl rfl
          conv at e40 => rhs; whnf
          have f40 := e40; simp only [Array.getD_eq_getD_getElem?] at f40
          have e3 := hfr 3 rfl
          conv at e3 => rhs; whnf
          have f3 := e3; simp only [Array.getD_eq_getD_getElem?] at f3
          refine wpOp_yes rfl rfl rfl e40 (fun K hK => ?_)
          go_simp
          exact hK _ _ ⟨_, rfl, Below.refl _ _, rfl⟩
        apply free_is
        · intro a' w' hLe hfr hdep
          have e40 : a'.tmps.getD 40 undef = _ := hdep 5 40 (Nat.le_of_ble_eq_true rfl) rfl rfl
          conv at e40 => rhs; whnf
          have f40 := e40; simp only [Array.getD_eq_getD_getElem?] at f40
          have e4 := hfr 4 rfl
          conv at e4 => rhs; whnf
          have f4 := e4; simp only [Array.getD_eq_getD_getElem?] at f4
          refine wpOp_yes rfl rfl rfl e40 (fun K hK => ?_)
          go_simp
          exact hK _ _ ⟨_, rfl, Below.refl _ _, rfl⟩
        apply free_is
        · intro a' w' hLe hfr hdep
          have e40 : a'.tmps.getD 40 undef = _ := hdep 5 40 (Nat.le_of_ble_eq_true rfl) rfl rfl
          conv at e40 => rhs; whnf
          have f40 := e40; simp only [Array.getD_eq_getD_getElem?] at f40
          have e7 := hfr 7 rfl
          conv at e7 => rhs; whnf
          have f7 := e7; simp only [Array.getD_eq_getD_getElem?] at f7
          refine wpOp_yes rfl rfl rfl e40 (fun K hK => ?_)
          go_simp
          exact hK _ _ ⟨_, rfl, Below.refl _ _, rfl⟩
        apply free_is
        · intro a' w' hLe hfr hdep
          have e40 : a'.tmps.getD 40 undef = _ := hdep 5 40 (Nat.le_of_ble_eq_true rfl) rfl rfl
          conv at e40 => rhs; whnf
          have f40 := e40; simp only [Array.getD_eq_getD_getElem?] at f40
          have e50 : a'.tmps.getD 50 undef = _ := hdep 15 50 (Nat.le_of_ble_eq_true rfl) rfl rfl
          conv at e50 => rhs; whnf
          have f50 := e50; simp only [Array.getD_eq_getD_getElem?] at f50
          have e51 : a'.tmps.getD 51 undef = _ := hdep 16 51 (Nat.le_of_ble_eq_true rfl) rfl rfl
          conv at e51 => rhs; whnf
          have f51 := e51; simp only [Array.getD_eq_getD_getElem?] at f51
          refine wpOp_yes rfl rfl rfl e40 (fun K hK => ?_)
          go_simp
          exact hK _ _ ⟨_, rfl, Below.refl _ _, rfl⟩
        apply free_is
        · intro a' w' hLe hfr hdep
          have e40 : a'.tmps.getD 40 undef = _ := hdep 5 40 (Nat.le_of_ble_eq_true rfl) rfl rfl
          conv at e40 => rhs; whnf
          have f40 := e40; simp only [Array.getD_eq_getD_getElem?] at f40
          have e5 := hfr 5 rfl
          conv at e5 => rhs; whnf
          have f5 := e5; simp only [Array.getD_eq_getD_getElem?] at f5
          refine wpOp_yes rfl rfl rfl e40 (fun K hK => ?_)
          go_simp
          exact hK _ _ ⟨_, rfl, Below.refl _ _, rfl⟩
        apply free_is
        · intro a' w' hLe hfr hdep
          have e40 : a'.tmps.getD 40 undef = _ := hdep 5 40 (Nat.le_of_ble_eq_true rfl) rfl rfl
          conv at e40 => rhs; whnf
          have f40 := e40; simp only [Array.getD_eq_getD_getElem?] at f40
          have e7 := hfr 7 rfl
          conv at e7 => rhs; whnf
          have f7 := e7; simp only [Array.getD_eq_getD_getElem?] at f7
          refine wpOp_yes rfl rfl rfl e40 (fun K hK => ?_)
          go_simp
          exact hK _ _ ⟨_, rfl, Below.refl _ _, rfl⟩
        apply free_is
        · intro a' w' hLe hfr hdep
          have e40 : a'.tmps.getD 40 undef = _ := hdep 5 40 (Nat.le_of_ble_eq_true rfl) rfl rfl
          conv at e40 => rhs; whnf
          have f40 := e40; simp only [Array.getD_eq_getD_getElem?] at f40
          have e53 : a'.tmps.getD 53 undef = _ := hdep 18 53 (Nat.le_of_ble_eq_true rfl) rfl rfl
          conv at e53 => rhs; whnf
          have f53 := e53; simp only [Array.getD_eq_getD_getElem?] at f53
          have e54 : a'.tmps.getD 54 undef = _ := hdep 19 54 (Nat.le_of_ble_eq_true rfl) rfl rfl
          conv at e54 => rhs; whnf
          have f54 := e54; simp only [Array.getD_eq_getD_getElem?] at f54
          refine wpOp_yes rfl rfl rfl e40 (fun K hK => ?_)
          go_simp
          exact hK _ _ ⟨_, rfl, Below.refl _ _, rfl⟩
        refine free_cons (kbOwn w4.heap.size 32 3 N (cpkR a (shf (m / 2) hh) (shf (m / 2) s) (m - m / 2))) ?_ ?_
        · intro a' w' hLe hfr hdep
          have e40 : a'.tmps.getD 40 undef = _ := hdep 5 40 (Nat.le_of_ble_eq_true rfl) rfl rfl
          conv at e40 => rhs; whnf
          have f40 := e40; simp only [Array.getD_eq_getD_getElem?] at f40
          have e49 : a'.tmps.getD 49 undef = _ := hdep 14 49 (Nat.le_of_ble_eq_true rfl) rfl rfl
          conv at e49 => rhs; whnf
          have f49 := e49; simp only [Array.getD_eq_getD_getElem?] at f49
          have e52 : a'.tmps.getD 52 undef = _ := hdep 17 52 (Nat.le_of_ble_eq_true rfl) rfl rfl
          conv at e52 => rhs; whnf
          have f52 := e52; simp only [Array.getD_eq_getD_getElem?] at f52
          have e55 : a'.tmps.getD 55 undef = _ := hdep 20 55 (Nat.le_of_ble_eq_true rfl) rfl rfl
          conv at e55 => rhs; whnf
          have f55 := e55; simp only [Array.getD_eq_getD_getElem?] at f55
          refine wpOp_yes rfl rfl rfl e40 (fun K hK => ?_)
          go_simp
          refine (half_first hp (by omega) hs2.out (HP.out.below (hLe.mono hs4)) (hf2.out.below (hLe.mono hs4)) (hf3.out.below (hLe.mono hs4)) (by have := hLe.size; (try simp at this); omega)).mono ?_
          rintro e w2 ⟨Ar, cr, rfl, hO, hb⟩
          exact hK _ _ ⟨_, rfl, hb, ⟨Ar, cr, rfl, hO.more (by have := hLe.size; (try simp at this); omega)⟩⟩
        refine free_cons (kbOwn w4.heap.size 32 3 N (cpkR a hh s (m / 2 + (m - m / 2)))) ?_ ?_
        · intro a' w' hLe hfr hdep
          have e40 : a'.tmps.getD 40 undef = _ := hdep 5 40 (Nat.le_of_ble_eq_true rfl) rfl rfl
          conv at e40 => rhs; whnf
          have f40 := e40; simp only [Array.getD_eq_getD_getElem?] at f40
          obtain ⟨A48, c48, e48, hO48⟩ := hdep 13 48 (Nat.le_of_ble_eq_true rfl) rfl rfl
          have f48 := e48; simp only [Array.getD_eq_getD_getElem?] at f48
          obtain ⟨A56, c56, e56, hO56⟩ := hdep 21 56 (Nat.le_of_ble_eq_true rfl) rfl rfl
          have f56 := e56; simp only [Array.getD_eq_getD_getElem?] at f56
          refine wpOp_yes rfl rfl rfl e40 (fun K hK => ?_)
          go_simp
          refine (add_halves (k := m / 2) (j := m - m / 2) (by omega) (by omega) hs3.out hO48.rows hO56.rows (Nat.le_refl _) (by omega)).mono ?_
          rintro e w2 ⟨Ar, cr, rfl, hO, hb⟩
          exact hK _ _ ⟨_, rfl, hb, ⟨Ar, cr, rfl, hO.more (by have := hLe.size; (try simp at this); omega)⟩⟩
        apply free_is
        · intro a' w' hLe hfr hdep
          have e40 : a'.tmps.getD 40 undef = _ := hdep 5 40 (Nat.le_of_ble_eq_true rfl) rfl rfl
          conv at e40 => rhs; whnf
          have f40 := e40; simp only [Array.getD_eq_getD_getElem?] at f40
          have e6 := hfr 6 rfl
          conv at e6 => rhs; whnf
          have f6 := e6; simp only [Array.getD_eq_getD_getElem?] at f6
          refine wpOp_yes rfl rfl rfl e40 (fun K hK => ?_)
          go_simp
          exact hK _ _ ⟨_, rfl, Below.refl _ _, rfl⟩
        apply free_is
        · intro a' w' hLe hfr hdep
          have e40 : a'.tmps.getD 40 undef = _ := hdep 5 40 (Nat.le_of_ble_eq_true rfl) rfl rfl
          conv at e40 => rhs; whnf
          have f40 := e40; simp only [Array.getD_eq_getD_getElem?] at f40
          obtain ⟨A57, c57, e57, hO57⟩ := hdep 22 57 (Nat.le_of_ble_eq_true rfl) rfl rfl
          have f57 := e57; simp only [Array.getD_eq_getD_getElem?] at f57
          have e58 : a'.tmps.getD 58 undef = _ := hdep 23 58 (Nat.le_of_ble_eq_true rfl) rfl rfl
          conv at e58 => rhs; whnf
          have f58 := e58; simp only [Array.getD_eq_getD_getElem?] at f58
          refine wpOp_yes rfl rfl rfl e40 (fun K hK => ?_)
          go_simp
          refine (sameCounters_same (HR.out _ _ _ _ hO57) (H6.out.next hLe) (Nat.le_refl _)).mono ?_
          rintro e w2 ⟨rfl, hb⟩
          exact hK _ _ ⟨_, rfl, hb, rfl⟩
        apply free_is
        · intro a' w' hLe hfr hdep
          have e40 : a'.tmps.getD 40 undef = _ := hdep 5 40 (Nat.le_of_ble_eq_true rfl) rfl rfl
          conv at e40 => rhs; whnf
          have f40 := e40; simp only [Array.getD_eq_getD_getElem?] at f40
          have e59 : a'.tmps.getD 59 undef = _ := hdep 24 59 (Nat.le_of_ble_eq_true rfl) rfl rfl
          conv at e59 => rhs; whnf
          have f59 := e59; simp only [Array.getD_eq_getD_getElem?] at f59
          refine wpOp_plain rfl rfl (fun K hK => ?_)
          go_simp
          exact hK _ _ ⟨_, rfl, Below.refl _ _, rfl⟩
        apply free_is
        · intro a' w' hLe hfr hdep
          have e60 : a'.tmps.getD 60 undef = _ := hdep 25 60 (Nat.le_of_ble_eq_true rfl) rfl rfl
          conv at e60 => rhs; whnf
          have f60 := e60; simp only [Array.getD_eq_getD_getElem?] at f60
          refine wpOp_plain rfl rfl (fun K hK => ?_)
          go_simp
          exact hK _ _ ⟨_, rfl, Below.refl _ _, rfl⟩
        apply free_nil
        intro vs w9 hb9 hT9
        have e35 : vs 0 = _ := hT9 0 35 rfl
        conv at e35 => rhs; whnf
        have e36 : vs 1 = _ := hT9 1 36 rfl
        conv at e36 => rhs; whnf
        have e37 : vs 2 = _ := hT9 2 37 rfl
        conv at e37 => rhs; whnf
        have e38 : vs 3 = _ := hT9 3 38 rfl
        conv at e38 => rhs; whnf
        have e39 : vs 4 = _ := hT9 4 39 rfl
        conv at e39 => rhs; whnf
        have e40 : vs 5 = _ := hT9 5 40 rfl
        conv at e40 => rhs; whnf
        have e41 : vs 6 = _ := hT9 6 41 rfl
        conv at e41 => rhs; whnf
        have e42 : vs 7 = _ := hT9 7 42 rfl
        conv at e42 => rhs; whnf
        have e43 : vs 8 = _ := hT9 8 43 rfl
        conv at e43 => rhs; whnf
        have e44 : vs 9 = _ := hT9 9 44 rfl
        conv at e44 => rhs; whnf
        have e45 : vs 10 = _ := hT9 10 45 rfl
        conv at e45 => rhs; whnf
        have e46 : vs 11 = _ := hT9 11 46 rfl
        conv at e46 => rhs; whnf
        have e47 : vs 12 = _ := hT9 12 47 rfl
        conv at e47 => rhs; whnf
        obtain ⟨A48, c48, e48, hO48⟩ := hT9 13 48 rfl
        have e49 : vs 14 = _ := hT9 14 49 rfl
        conv at e49 => rhs; whnf
        have e50 : vs 15 = _ := hT9 15 50 rfl
        conv at e50 => rhs; whnf
        have e51 : vs 16 = _ := hT9 16 51 rfl
        conv at e51 => rhs; whnf
        have e52 : vs 17 = _ := hT9 17 52 rfl
        conv at e52 => rhs; whnf
        have e53 : vs 18 = _ := hT9 18 53 rfl
        conv at e53 => rhs; whnf
        have e54 : vs 19 = _ := hT9 19 54 rfl
        conv at e54 => rhs; whnf
        have e55 : vs 20 = _ := hT9 20 55 rfl
        conv at e55 => rhs; whnf
        obtain ⟨A56, c56, e56, hO56⟩ := hT9 21 56 rfl
        obtain ⟨A57, c57, e57, hO57⟩ := hT9 22 57 rfl
        have e58 : vs 23 = _ := hT9 23 58 rfl
        conv at e58 => rhs; whnf
        have e59 : vs 24 = _ := hT9 24 59 rfl
        conv at e59 => rhs; whnf
        have e60 : vs 25 = _ := hT9 25 60 rfl
        conv at e60 => rhs; whnf
        have e2 : vs 26 = _ := hT9 26 2 rfl
        conv at e2 => rhs; whnf
        simp only [putAll, List.drop_succ_cons, List.drop_zero, e35, e36, e37, e38, e39, e40, e41, e42, e43, e44, e45, e46, e47, e48, e49, e50, e51, e52, e53, e54, e55, e56, e57, e58, e59, e60, e2]
        clear hT9 e35 e36 e37 e38 e39 e40 e41 e42 e43 e44 e45 e46 e47 e48 e49 e50 e51 e52 e53 e54 e55 e56 e57 e58 e59 e60 e2
        go_simp
        go_wp2_with fail
        go_ret
        exact ⟨rfl, Below.tr hb (Below.tr hB4 hb9)⟩
end Go.Proofs.Ytdfnpcjbecbbbaa

