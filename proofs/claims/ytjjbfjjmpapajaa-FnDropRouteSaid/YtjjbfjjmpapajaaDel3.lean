/-
  DropRoute, in the program and in the reference: what both return.
-/
import Derived.Test.YtjjbfjjmpapajaaDel2
import Derived.Test.YtjjbfjjmpapajaaAll
import Derived.Test.YtjjbfjjmpapajaaFree
namespace Go.Proofs.Ytjjbfjjmpapajaa
open Go Go.RowKit

theorem glue_zero (R1 R2 : Nat → List Value) : glue R1 0 R2 = R2 := by funext i; simp [glue]
set_option maxHeartbeats 4000000 in
theorem deleteRoute_own {w : World} {B n cc : Nat} {A : Option Addr} {a b c : Nat → Int} {h : Nat} {x y : Int} (hO : Own w B 45 3 A n cc (routeR a b c)) (hh : w.heap[h]? = some (.cells #[.int .i64 x, .int .i64 y] 25 (0, 0))) (hBh : h < B) (hB : B ≤ w.heap.size) :
    Calls Try.prog 48 #[.slice A n cc, (.func (.func 49) #[] #[.pointer (some ⟨h, 0, none⟩)])] w fun e w' => e = .returned (.slice A (kn a b x y n) cc) ∧ Own w' B 45 3 A (kn a b x y n) cc (fun i => routeR a b c (ki a b x y n i)) ∧ Below B w w' := by
  rcases Nat.eq_zero_or_pos n with rfl | hn
  · have hcm := hO.1
    have hI := indexRoute_any (A := A) (cc := cc) (a := a) (b := b) (c := c) (Rws.none_ hcm (w := w) (B := w.heap.size)) (Nat.le_refl _) hh
    go_enter Try.func48, Try.ntmps48
    go_wp2_with fail
    refine hI.mono ?_
    rintro e w1 ⟨r, rfl, hr, hb1⟩
    obtain rfl : r = -1 := by
      rcases hr with ⟨h, _⟩ | ⟨k, hk, _⟩
      · exact h
      · omega
    go_wp2
    go_ret
    exact ⟨rfl, Own.nil _ _ _ _ _ _ _ hcm, hb1.mono hB⟩
  · obtain ⟨g, rfl, hBg, hN⟩ := hO.at_ hn
    refine (deleteRoute_any hN hO.1 hh (by omega)).mono ?_
    rintro e w' ⟨rfl, hN', hG⟩
    exact ⟨rfl, Own.of_new hN' hO.1 hBg, below_grown hG hB hBg⟩
set_option maxHeartbeats 4000000 in
theorem implDropRoute_any {w : World} {B n cc : Nat} {A : Option Addr} {a b c : Nat → Int} (x y : Int) (H : Rws w B 3 A n cc (routeR a b c)) (hB : B ≤ w.heap.size) (hn : n ≤ 1048576) :
    Calls Try.prog 31 #[.slice A n cc, .agg #[.int .i64 x, .int .i64 y]] w (Gives w 45 3 (drN n a b c x y) (drR n a b c x y)) := by
  have H1 := Lib.hid (H.below ((show Below w.heap.size w (w.alloc (.cells #[.int .i64 x, .int .i64 y] 25)) by (repeat (first | exact Below.refl _ _ | assumption | refine Below.al ?_ _ | refine Below.dr ?_ | (refine Below.st ?_ (by simp <;> omega) _) | (refine Below.tr ?_ (by assumption))))).mono hB))
  clear H
  go_enter Try.func31, Try.ntmps31
  go_wp2_with fail
  refine (implRoutesValid_any H1.out (by simp; omega)).mono ?_
  rintro e w1 ⟨rfl, hb1⟩
  have hs1 := hb1.size
  simp at hs1
  have hh1 := (hb1.block w.heap.size (by simp)).trans (heap_alloc_new w (.cells #[.int .i64 x, .int .i64 y] 25))
  have hB1 : Below w.heap.size w w1 := Below.tr (by (repeat (first | exact Below.refl _ _ | assumption | refine Below.al ?_ _ | refine Below.dr ?_ | (refine Below.st ?_ (by simp <;> omega) _) | (refine Below.tr ?_ (by assumption))))) hb1
  cases hv : rtsB n a b c with
  | false =>
    go_wp2
    go_ret
    exact ⟨none, 0, by simp [drN, hv], by rw [show drN n a b c x y = 0 by simp [drN, hv]]; exact Own.nil _ _ _ _ _ _ _ (by unfold maxLen; omega), hB1⟩
  | true =>
    have hD := Lib.hid (show drN n a b c x y = kn a b x y n by simp [drN, hv])
    have H2 := Lib.hid (H1.out.below (hb1.mono (by simp; omega)))
    have hmf : ∀ (fn : Fn) (first cap : Array Value) (w : World), (Instr.makeFunc fn first cap).run Try.prog w = .ok (.func fn first cap) w := fun _ _ _ _ => rfl
    clear H1 hb1 hv
    go_wp2_with (at_builtin; refine wpList_pushAll rfl (.const (.slice none 0 0)) (.tmp 8) 39 rfl 45 _ 3 24 Try.underlying39 info_route (by decide) (by decide) (by decide) rfl (Acc.nil _ w1.heap.size 45 (routeR a b c) (fun _ => rfl)) rfl H2.out (fun _ => rfl) (routeR_one a b c) (by omega) (by omega) (Nat.le_refl _) ?_; intro v' w3 hA hb3 hg3)
    rw [Nat.zero_add, glue_zero] at hA
    obtain ⟨A', c', rfl, hO⟩ := hA.own
    have hh3 := (hb3.block w.heap.size (by omega)).trans hh1
    have hs3 := hb3.size
    refine (deleteRoute_own hO hh3 (by omega) (by omega)).mono ?_
    rintro e w4 ⟨rfl, hO4, hb4⟩
    go_wp2
    go_ret
    exact ⟨A', c', by rw [hD.out] <;> rfl, by rw [hD.out]; exact hO4.more (by omega), Below.tr hB1 (hb3.trans hb4)⟩

theorem below_nd (w : World) (o : Obj) : Below w.heap.size w (w.alloc o) := (Below.refl _ _).alloc (Nat.le_refl _) o
theorem neq_hit {a b : Nat → Int} {x y : Int} {i : Nat} {v : Bool} (h : hitB a b x y i = !v) (w : World) : (binOp .neq 25 (.agg #[.int .i64 (a i), .int .i64 (b i)]) (.agg #[.int .i64 x, .int .i64 y])).run Try.prog w = .ok (.bool v) w := by
  have := binOp_neq (eql_hit h w)
  rwa [Bool.not_not] at this
set_option maxHeartbeats 8000000 in
theorem specDropRoute_any {w : World} {B n cc : Nat} {A : Option Addr} {a b c : Nat → Int} (x y : Int) (H : Rws w B 3 A n cc (routeR a b c)) (hB : B ≤ w.heap.size) (hn : n ≤ 1048576) :
    Calls Try.prog 30 #[.slice A n cc, .agg #[.int .i64 x, .int .i64 y]] w (Gives w 45 3 (drN n a b c x y) (drR n a b c x y)) := by
  have HH := Lib.hid H
  clear H
  go_enter Try.func30, Try.ntmps30
  go_wp2
  have hA0 : Acc ((w.alloc (.cells #[.int .i64 x, .int .i64 y] 25)).alloc (.cells #[] 45)) (w.heap.size + 1) 45 3 (.slice (some ⟨(w.alloc (.cells #[.int .i64 x, .int .i64 y] 25)).heap.size, 0, none⟩) 0 0) 0 (drR n a b c x y) := Acc.made (w.alloc (.cells #[.int .i64 x, .int .i64 y] 25)) 45 _ (fun _ => rfl) (by simp)
  simp only [World.size_alloc] at hA0
  go_loopw [5, 6] (fun v i wr => ∃ j : Nat, j ≤ n ∧ i = .int .i64 j ∧ (0 < j → rtsB n a b c = true) ∧ Acc wr (w.heap.size + 1) 45 3 v (kn a b x y j) (drR n a b c x y) ∧ Below (w.alloc (.cells #[.int .i64 x, .int .i64 y] 25)).heap.size (w.alloc (.cells #[.int .i64 x, .int .i64 y] 25)) wr) (fun _ i _ => n - (intOf i).toNat)
  case atStart => exact ⟨0, by omega, rfl, fun h => absurd h (by omega), hA0, by (repeat (first | exact Below.refl _ _ | assumption | refine Below.al ?_ _ | refine Below.dr ?_ | (refine Below.st ?_ (by simp <;> omega) _) | (refine Below.tr ?_ (by assumption))))⟩
  case round =>
    obtain ⟨j, hj, rfl, hv0, hA, hBw⟩ := hrel
    clear hA0
    have hB0 : Below w.heap.size w wr := Below.tr (by (repeat (first | exact Below.refl _ _ | assumption | refine Below.al ?_ _ | refine Below.dr ?_ | (refine Below.st ?_ (by simp <;> omega) _) | (refine Below.tr ?_ (by assumption))))) hBw
    have hB0' := hB0.mono hB
    have hsw := hBw.size
    simp at hsw
    by_cases hlt : j < n
    · obtain ⟨bl, off, rfl, hbB, hc⟩ := HH.out.2 (by omega)
      cases hv : rtsB n a b c with
      | false =>
        have hj0 : j = 0 := by
          rcases Nat.eq_zero_or_pos j with h | h
          · exact h
          · have := hv0 h; rw [hv] at this; cases this
        subst hj0
        have hD := Lib.hid (show drN n a b c x y = 0 by simp [drN, hv])
        obtain ⟨A', c', rfl, hO⟩ := hA.own
        clear hc hv0
        go_wp2_with (go_at_call 22; refine (specRoutesValid_any (HH.out.below hB0') (by omega)).mono ?_; rintro e w2 ⟨rfl, hb2⟩)
        go_ret
        exact ⟨A', c', by rw [hD.out] <;> rfl, by rw [hD.out]; exact Own.nil _ _ _ _ _ _ _ hO.1, Below.tr hB0 hb2⟩
      | true =>
        have hr := hc j hlt
        have hk2 : kn a b x y j ≤ j := kn_le j
        obtain ⟨A', c', rfl, hnc', hcm'⟩ := hA.form
        clear hc hv0
        go_wp2_with fail
        refine (specRoutesValid_any (HH.out.below hB0') (by omega)).mono ?_
        rintro e w2 ⟨rfl, hb2⟩
        rw [hv]
        have hA2 := hA.next hb2
        have hB2 := Below.tr hBw hb2
        have hW2 := Below.tr hB0 hb2
        have hbs : bl < w2.heap.size := by have := hW2.size; omega
        have hfs : w.heap.size < w2.heap.size := by have := hb2.size; omega
        have kf : ∀ i, w2.cell? ⟨w.heap.size, i, none⟩ = #[Value.int .i64 x, .int .i64 y][i]? := fun i => (keepc hB2 w.heap.size (by simp) i).trans ((blk (heap_alloc_new w _)).1 i)
        have q0 : w2.cell? ⟨bl, off + j * 3, none⟩ = some (.int .i64 (a j)) := (keepc hW2 bl (by omega) _).trans (hr 0 _ rfl)
        have q1 : w2.cell? ⟨bl, off + j * 3 + 1, none⟩ = some (.int .i64 (b j)) := (keepc hW2 bl (by omega) _).trans (hr 1 _ rfl)
        have q2 : w2.cell? ⟨bl, off + j * 3 + 2, none⟩ = some (.int .i64 (c j)) := (keepc hW2 bl (by omega) _).trans (hr 2 _ rfl)
        have hlt2 : (j : Int) < (n : Int) := by omega
        clear hr hA hBw hB0 hb2
        cases hx : hitB a b x y j with
        | true =>
          have hq := neq_hit (v := false) hx
          have HX := Lib.hid (kn_hit hx)
          clear hx hv
          go_wp2
          refine wp_region_free (ds := [(0, 18), (1, 19), (2, 20), (3, 21), (4, 22), (5, 23), (6, 24)]) 7 (by kernel_rfl) (by kernel_rfl) (by first | exact .inl rfl | exact .inr (by kernel_rfl)) (by rfl) rfl rfl ?_
          apply free_is
          · intro a' w' hLe hfr hdep
            have e0 := hfr 0 rfl
            conv at e0 => rhs; whnf
            have f0 := e0; simp only [Array.getD_eq_getD_getElem?] at f0
            refine wpOp_plain rfl rfl (fun K hK => ?_)
            go_simp
            exact hK _ _ ⟨_, rfl, Below.refl _ _, rfl⟩
          apply free_is
          · intro a' w' hLe hfr hdep
            have e6 := hfr 6 rfl
            conv at e6 => rhs; whnf
            have f6 := e6; simp only [Array.getD_eq_getD_getElem?] at f6
            refine wpOp_plain rfl rfl (fun K hK => ?_)
            go_simp
            exact hK _ _ ⟨_, rfl, Below.refl _ _, rfl⟩
          apply free_is
          · intro a' w' hLe hfr hdep
            have e18 : a'.tmps.getD 18 undef = _ := hdep 0 18 (Nat.le_of_ble_eq_true rfl) rfl rfl
            conv at e18 => rhs; whnf
            have f18 := e18; simp only [Array.getD_eq_getD_getElem?] at f18
            have e19 : a'.tmps.getD 19 undef = _ := hdep 1 19 (Nat.le_of_ble_eq_true rfl) rfl rfl
            conv at e19 => rhs; whnf
            have f19 := e19; simp only [Array.getD_eq_getD_getElem?] at f19
            refine wpOp_plain rfl rfl (fun K hK => ?_)
            go_simp
            exact hK _ _ ⟨_, rfl, Below.refl _ _, rfl⟩
          apply free_is
          · intro a' w' hLe hfr hdep
            have e20 : a'.tmps.getD 20 undef = _ := hdep 2 20 (Nat.le_of_ble_eq_true rfl) rfl rfl
            conv at e20 => rhs; whnf
            have f20 := e20; simp only [Array.getD_eq_getD_getElem?] at f20
            refine wpOp_plain rfl rfl (fun K hK => ?_)
            go_simp
            exact hK _ _ ⟨_, rfl, Below.refl _ _, rfl⟩
          apply free_is
          · intro a' w' hLe hfr hdep
            have e21 : a'.tmps.getD 21 undef = _ := hdep 3 21 (Nat.le_of_ble_eq_true rfl) rfl rfl
            conv at e21 => rhs; whnf
            have f21 := e21; simp only [Array.getD_eq_getD_getElem?] at f21
            have kc := fun i => keepc hLe (bl) (by (try simp) <;> omega) i
            have kf := fun i => keepf hLe (bl) (by (try simp) <;> omega) i
            have kz : bl < w'.heap.size := (by have := hLe.size; (try simp at this); omega)
            have kc := fun i => keepc hLe (w.heap.size) (by (try simp) <;> omega) i
            have kf := fun i => keepf hLe (w.heap.size) (by (try simp) <;> omega) i
            have kz : w.heap.size < w'.heap.size := (by have := hLe.size; (try simp at this); omega)
            refine wpOp_plain rfl rfl (fun K hK => ?_)
            go_simp
            exact hK _ _ ⟨_, rfl, Below.refl _ _, rfl⟩
          apply free_is
          · intro a' w' hLe hfr hdep
            have e3 := hfr 3 rfl
            conv at e3 => rhs; whnf
            have f3 := e3; simp only [Array.getD_eq_getD_getElem?] at f3
            have kc := fun i => keepc hLe (bl) (by (try simp) <;> omega) i
            have kf := fun i => keepf hLe (bl) (by (try simp) <;> omega) i
            have kz : bl < w'.heap.size := (by have := hLe.size; (try simp at this); omega)
            have kc := fun i => keepc hLe (w.heap.size) (by (try simp) <;> omega) i
            have kf := fun i => keepf hLe (w.heap.size) (by (try simp) <;> omega) i
            have kz : w.heap.size < w'.heap.size := (by have := hLe.size; (try simp at this); omega)
            refine wpOp_plain rfl rfl (fun K hK => ?_)
            go_simp
            exact hK _ _ ⟨_, rfl, Below.refl _ _, rfl⟩
          apply free_is
          · intro a' w' hLe hfr hdep
            have e22 : a'.tmps.getD 22 undef = _ := hdep 4 22 (Nat.le_of_ble_eq_true rfl) rfl rfl
            conv at e22 => rhs; whnf
            have f22 := e22; simp only [Array.getD_eq_getD_getElem?] at f22
            have e23 : a'.tmps.getD 23 undef = _ := hdep 5 23 (Nat.le_of_ble_eq_true rfl) rfl rfl
            conv at e23 => rhs; whnf
            have f23 := e23; simp only [Array.getD_eq_getD_getElem?] at f23
            refine wpOp_plain rfl rfl (fun K hK => ?_)
            go_simp
            exact hK _ _ ⟨_, rfl, Below.refl _ _, rfl⟩
          apply free_nil
          intro vs w5 hb5 hT5
          have e18 : vs 0 = _ := hT5 0 18 rfl
          conv at e18 => rhs; whnf
          have e19 : vs 1 = _ := hT5 1 19 rfl
          conv at e19 => rhs; whnf
          have e20 : vs 2 = _ := hT5 2 20 rfl
          conv at e20 => rhs; whnf
          have e21 : vs 3 = _ := hT5 3 21 rfl
          conv at e21 => rhs; whnf
          have e22 : vs 4 = _ := hT5 4 22 rfl
          conv at e22 => rhs; whnf
          have e23 : vs 5 = _ := hT5 5 23 rfl
          conv at e23 => rhs; whnf
          have e24 : vs 6 = _ := hT5 6 24 rfl
          conv at e24 => rhs; whnf
          simp only [putAll, List.drop_succ_cons, List.drop_zero, e18, e19, e20, e21, e22, e23, e24]
          clear hT5 e18 e19 e20 e21 e22 e23 e24
          go_simp
          go_wp2
          go_roundw
          case rel => exact ⟨j + 1, by omega, by go_num, (fun _ => by first | rfl | trivial), by rw [HX.out.1]; exact hA2.next hb5, Below.tr hB2 hb5⟩
          case measure => simp [intOf]; omega
        | false =>
          have hq := neq_hit (v := true) hx
          have HX := Lib.hid (kn_keep hx)
          have hrow := Lib.hid (show drR n a b c x y (kn a b x y j) = routeR a b c j by unfold drR; rw [ki_at hlt hx])
          clear hx hv
          go_wp2
          refine wp_region_free (ds := [(0, 18), (1, 19), (2, 20), (3, 21), (4, 22), (5, 23), (6, 24)]) 7 (by kernel_rfl) (by kernel_rfl) (by first | exact .inl rfl | exact .inr (by kernel_rfl)) (by rfl) rfl rfl ?_
          apply free_is
          · intro a' w' hLe hfr hdep
            have e0 := hfr 0 rfl
            conv at e0 => rhs; whnf
            have f0 := e0; simp only [Array.getD_eq_getD_getElem?] at f0
            refine wpOp_plain rfl rfl (fun K hK => ?_)
            go_simp
            exact hK _ _ ⟨_, rfl, Below.refl _ _, rfl⟩
          apply free_is
          · intro a' w' hLe hfr hdep
            have e6 := hfr 6 rfl
            conv at e6 => rhs; whnf
            have f6 := e6; simp only [Array.getD_eq_getD_getElem?] at f6
            refine wpOp_plain rfl rfl (fun K hK => ?_)
            go_simp
            exact hK _ _ ⟨_, rfl, Below.refl _ _, rfl⟩
          apply free_is
          · intro a' w' hLe hfr hdep
            have e18 : a'.tmps.getD 18 undef = _ := hdep 0 18 (Nat.le_of_ble_eq_true rfl) rfl rfl
            conv at e18 => rhs; whnf
            have f18 := e18; simp only [Array.getD_eq_getD_getElem?] at f18
            have e19 : a'.tmps.getD 19 undef = _ := hdep 1 19 (Nat.le_of_ble_eq_true rfl) rfl rfl
            conv at e19 => rhs; whnf
            have f19 := e19; simp only [Array.getD_eq_getD_getElem?] at f19
            refine wpOp_plain rfl rfl (fun K hK => ?_)
            go_simp
            exact hK _ _ ⟨_, rfl, Below.refl _ _, rfl⟩
          apply free_is
          · intro a' w' hLe hfr hdep
            have e20 : a'.tmps.getD 20 undef = _ := hdep 2 20 (Nat.le_of_ble_eq_true rfl) rfl rfl
            conv at e20 => rhs; whnf
            have f20 := e20; simp only [Array.getD_eq_getD_getElem?] at f20
            refine wpOp_plain rfl rfl (fun K hK => ?_)
            go_simp
            exact hK _ _ ⟨_, rfl, Below.refl _ _, rfl⟩
          apply free_is
          · intro a' w' hLe hfr hdep
            have e21 : a'.tmps.getD 21 undef = _ := hdep 3 21 (Nat.le_of_ble_eq_true rfl) rfl rfl
            conv at e21 => rhs; whnf
            have f21 := e21; simp only [Array.getD_eq_getD_getElem?] at f21
            have kc := fun i => keepc hLe (bl) (by (try simp) <;> omega) i
            have kf := fun i => keepf hLe (bl) (by (try simp) <;> omega) i
            have kz : bl < w'.heap.size := (by have := hLe.size; (try simp at this); omega)
            have kc := fun i => keepc hLe (w.heap.size) (by (try simp) <;> omega) i
            have kf := fun i => keepf hLe (w.heap.size) (by (try simp) <;> omega) i
            have kz : w.heap.size < w'.heap.size := (by have := hLe.size; (try simp at this); omega)
            refine wpOp_plain rfl rfl (fun K hK => ?_)
            go_simp
            exact hK _ _ ⟨_, rfl, Below.refl _ _, rfl⟩
          apply free_is
          · intro a' w' hLe hfr hdep
            have e3 := hfr 3 rfl
            conv at e3 => rhs; whnf
            have f3 := e3; simp only [Array.getD_eq_getD_getElem?] at f3
            have kc := fun i => keepc hLe (bl) (by (try simp) <;> omega) i
            have kf := fun i => keepf hLe (bl) (by (try simp) <;> omega) i
            have kz : bl < w'.heap.size := (by have := hLe.size; (try simp at this); omega)
            have kc := fun i => keepc hLe (w.heap.size) (by (try simp) <;> omega) i
            have kf := fun i => keepf hLe (w.heap.size) (by (try simp) <;> omega) i
            have kz : w.heap.size < w'.heap.size := (by have := hLe.size; (try simp at this); omega)
            refine wpOp_plain rfl rfl (fun K hK => ?_)
            go_simp
            exact hK _ _ ⟨_, rfl, Below.refl _ _, rfl⟩
          apply free_is
          · intro a' w' hLe hfr hdep
            have e22 : a'.tmps.getD 22 undef = _ := hdep 4 22 (Nat.le_of_ble_eq_true rfl) rfl rfl
            conv at e22 => rhs; whnf
            have f22 := e22; simp only [Array.getD_eq_getD_getElem?] at f22
            have e23 : a'.tmps.getD 23 undef = _ := hdep 5 23 (Nat.le_of_ble_eq_true rfl) rfl rfl
            conv at e23 => rhs; whnf
            have f23 := e23; simp only [Array.getD_eq_getD_getElem?] at f23
            refine wpOp_plain rfl rfl (fun K hK => ?_)
            go_simp
            exact hK _ _ ⟨_, rfl, Below.refl _ _, rfl⟩
          apply free_nil
          intro vs w5 hb5 hT5
          have e18 : vs 0 = _ := hT5 0 18 rfl
          conv at e18 => rhs; whnf
          have e19 : vs 1 = _ := hT5 1 19 rfl
          conv at e19 => rhs; whnf
          have e20 : vs 2 = _ := hT5 2 20 rfl
          conv at e20 => rhs; whnf
          have e21 : vs 3 = _ := hT5 3 21 rfl
          conv at e21 => rhs; whnf
          have e22 : vs 4 = _ := hT5 4 22 rfl
          conv at e22 => rhs; whnf
          have e23 : vs 5 = _ := hT5 5 23 rfl
          conv at e23 => rhs; whnf
          have e24 : vs 6 = _ := hT5 6 24 rfl
          conv at e24 => rhs; whnf
          simp only [putAll, List.drop_succ_cons, List.drop_zero, e18, e19, e20, e21, e22, e23, e24]
          clear hT5 e18 e19 e20 e21 e22 e23 e24
          go_simp
          have hA5 := hA2.next hb5
          have hB5 := Below.tr hB2 hb5
          have hs5 := hb5.size
          have p0 : w5.cell? ⟨bl, off + j * 3, none⟩ = some (.int .i64 (a j)) := (keepc hb5 bl hbs _).trans q0
          have p1 : w5.cell? ⟨bl, off + j * 3 + 1, none⟩ = some (.int .i64 (b j)) := (keepc hb5 bl hbs _).trans q1
          have p2 : w5.cell? ⟨bl, off + j * 3 + 2, none⟩ = some (.int .i64 (c j)) := (keepc hb5 bl hbs _).trans q2
          have hbs5 : bl < w5.heap.size := by omega
          clear q0 q1 q2 hA2 hB2 kf
          go_wp2_with (at_builtin; refine wpList_push rfl (.tmp 25) (.tmp 30) 39 rfl 45 _ 3 24 Try.underlying39 info_route (by decide) (by decide) (by decide) rfl (hA5.next (below_nd _ _)) rfl (heap_alloc_new _ _) (by rw [hrow.out] <;> rfl) (by rw [hrow.out]; exact routeR_one a b c j) (by omega) (by simp; omega) ?_; intro v' w6 hA6 hB6 hg6)
          go_roundw
          case rel => exact ⟨j + 1, by omega, by go_num, (fun _ => by first | rfl | trivial), by rw [HX.out.1]; exact hA6, (Below.tr hB5 (below_nd w5 (.cells #[.int .i64 (a j), .int .i64 (b j), .int .i64 (c j)] 45))).trans (hB6.mono (by simp))⟩
          case measure => simp [intOf]; omega
    · obtain rfl : j = n := by omega
      obtain ⟨A', c', rfl, hO⟩ := hA.own
      have hD := Lib.hid (show drN j a b c x y = kn a b x y j by
        rcases Nat.eq_zero_or_pos j with rfl | h
        · unfold drN; split <;> rfl
        · simp [drN, hv0 h])
      clear hv0
      go_wp2
      go_ret
      exact ⟨A', c', by rw [hD.out] <;> rfl, by rw [hD.out]; exact hO.more (by omega), hB0⟩
end Go.Proofs.Ytjjbfjjmpapajaa
