/-
  Packets sent, as the laws compare and mark them.
-/
import Derived.Test.YtghmcedfiebolaaMem
import Derived.Test.YtghmcedfiebolaaReg
import Derived.Test.YtghmcedfiebolaaStill
import Derived.Test.YtghmcedfiebolaaFree
import Derived.Test.YtghmcedfiebolaaOwn
namespace Go.Proofs.Ytghmcedfiebolaa
open Go.RowKit

/-- The rows of a slice of Sent. -/
def sentR (c0 : Nat → Int) (c1 : Nat → Int) (i : Nat) : List Value := [.int .i64 (c0 i), .int .i64 (c1 i)]
theorem sentR_one (c0 : Nat → Int) (c1 : Nat → Int) (k : Nat) : ∀ u ∈ sentR c0 c1 k, u.oneCell' = true := by
  intro u hu
  simp only [sentR, List.mem_cons, List.not_mem_nil, or_false] at hu
  rcases hu with rfl | rfl <;> rfl
theorem sentR_of {Q : Nat → List Value} (h : ∀ i, Plain [true, true] (Q i)) : ∃ c0 c1, Q = sentR c0 c1 := by
  refine ⟨fun i => match (Q i)[0]? with | some (Value.int _ n) => n | _ => 0, fun i => match (Q i)[1]? with | some (Value.int _ n) => n | _ => 0, funext fun i => ?_⟩
  have h0 := h i
  obtain ⟨n0, u0, e0, _, h1⟩ := h0
  obtain ⟨n1, u1, e1, _, h2⟩ := h1
  have e2 : u1 = [] := h2
  simp only [sentR, e0, e1, e2]
  rfl
theorem info_sent : (Try.prog.info? 39).map (fun i => (i.zero, i.size, i.bytes)) = some (some (.agg #[.int .i64 0, .int .i64 0]), 2, 16) := by kernel_rfl
set_option maxHeartbeats 1000000 in
theorem eqSent_same (x0 : Int) (x1 : Int) (w : World) :
    Calls Try.prog 38 #[.agg #[.int .i64 x0, .int .i64 x1], .agg #[.int .i64 x0, .int .i64 x1]] w fun e w' => e = .returned (.bool true) ∧ Below w.heap.size w w' := by
  go_enter Try.func38, Try.ntmps38
  go_wp2
  go_ret
  exact ⟨rfl, by (repeat (first | exact Below.refl _ _ | assumption | refine Below.al ?_ _ | refine Below.dr ?_ | (refine Below.st ?_ (by simp <;> omega) _) | (refine Below.tr ?_ (by assumption))))⟩
set_option maxHeartbeats 2000000 in
theorem eqSentS_same {w : World} {B : Nat} {A A' : Option Addr} {n c c' : Nat} {c0 : Nat → Int} {c1 : Nat → Int} (h : Rws w B 2 A n c (sentR c0 c1)) (h' : Rws w B 2 A' n c' (sentR c0 c1)) (hB : B ≤ w.heap.size) :
    Calls Try.prog 26 #[.slice A n c, .slice A' n c'] w fun e w' => e = .returned (.bool true) ∧ Below w.heap.size w w' := by
  obtain ⟨⟨hnc, hcm⟩, hrow⟩ := h
  obtain ⟨⟨hnc', hcm'⟩, hrow'⟩ := h'
  unfold maxLen at hcm hcm'
  go_enter Try.func26, Try.ntmps26
  go_wp2
  go_loopw [5] (fun i wr => ∃ k : Nat, k ≤ n ∧ i = .int .i64 k ∧ Below w.heap.size w wr) (fun i _ => n - (intOf i).toNat)
  case atStart => exact ⟨0, by omega, rfl, by (repeat (first | exact Below.refl _ _ | assumption | refine Below.al ?_ _ | refine Below.dr ?_ | (refine Below.st ?_ (by simp <;> omega) _) | (refine Below.tr ?_ (by assumption))))⟩
  case round =>
    obtain ⟨k, hk, rfl, hBw⟩ := hrel
    by_cases hlt : k < n
    · obtain ⟨b, off, rfl, hbB, hc⟩ := hrow (by omega)
      obtain ⟨b', off', rfl, hbB', hc'⟩ := hrow' (by omega)
      have hr := hc k hlt
      have hr' := hc' k hlt
      have hbs : b < wr.heap.size := by have := hBw.size; omega
      have hbs' : b' < wr.heap.size := by have := hBw.size; omega
      have q0 : wr.cell? ⟨b, off + k * 2, none⟩ = some (.int .i64 (c0 k)) := (keepc hBw b (by omega) _).trans (hr 0 _ rfl)
      have q1 : wr.cell? ⟨b, off + k * 2 + 1, none⟩ = some (.int .i64 (c1 k)) := (keepc hBw b (by omega) _).trans (hr 1 _ rfl)
      have s0 : wr.cell? ⟨b', off' + k * 2, none⟩ = some (.int .i64 (c0 k)) := (keepc hBw b' (by omega) _).trans (hr' 0 _ rfl)
      have s1 : wr.cell? ⟨b', off' + k * 2 + 1, none⟩ = some (.int .i64 (c1 k)) := (keepc hBw b' (by omega) _).trans (hr' 1 _ rfl)
      clear hrow hc hr hrow' hc' hr'
      go_wp2
      refine wp_region_still (ds := [(0, 17), (1, 18), (2, 19), (3, 20), (4, 21), (5, 22), (6, 23), (7, 24), (8, 25), (9, 26)]) 10 (by kernel_rfl) (by kernel_rfl) (by first | exact .inl rfl | exact .inr (by kernel_rfl)) (by rfl) rfl rfl ?_
      apply still_cons
      · intro a' w' hLe hfr hdep
        have e0 := hfr 0 rfl
        conv at e0 => rhs; whnf
        have f0 := e0; simp only [Array.getD_eq_getD_getElem?] at f0
        refine wpOp_plain rfl rfl (fun K hK => ?_)
        go_simp
        exact hK _ _ ⟨rfl, Below.refl _ _⟩
      apply still_cons
      · intro a' w' hLe hfr hdep
        have e5 := hfr 5 rfl
        conv at e5 => rhs; whnf
        have f5 := e5; simp only [Array.getD_eq_getD_getElem?] at f5
        refine wpOp_plain rfl rfl (fun K hK => ?_)
        go_simp
        exact hK _ _ ⟨rfl, Below.refl _ _⟩
      apply still_cons
      · intro a' w' hLe hfr hdep
        have e17 := hdep 0 17 (Nat.le_of_ble_eq_true rfl) rfl rfl
        conv at e17 => rhs; whnf
        have f17 := e17; simp only [Array.getD_eq_getD_getElem?] at f17
        have e18 := hdep 1 18 (Nat.le_of_ble_eq_true rfl) rfl rfl
        conv at e18 => rhs; whnf
        have f18 := e18; simp only [Array.getD_eq_getD_getElem?] at f18
        refine wpOp_plain rfl rfl (fun K hK => ?_)
        go_simp
        exact hK _ _ ⟨rfl, Below.refl _ _⟩
      apply still_cons
      · intro a' w' hLe hfr hdep
        have e19 := hdep 2 19 (Nat.le_of_ble_eq_true rfl) rfl rfl
        conv at e19 => rhs; whnf
        have f19 := e19; simp only [Array.getD_eq_getD_getElem?] at f19
        have kc := fun i => keepc hLe (b) (by (try simp) <;> omega) i
        have kf := fun i => keepf hLe (b) (by (try simp) <;> omega) i
        have kc := fun i => keepc hLe (b') (by (try simp) <;> omega) i
        have kf := fun i => keepf hLe (b') (by (try simp) <;> omega) i
        refine wpOp_plain rfl rfl (fun K hK => ?_)
        go_simp
        exact hK _ _ ⟨rfl, Below.refl _ _⟩
      apply still_cons
      · intro a' w' hLe hfr hdep
        have e1 := hfr 1 rfl
        conv at e1 => rhs; whnf
        have f1 := e1; simp only [Array.getD_eq_getD_getElem?] at f1
        refine wpOp_plain rfl rfl (fun K hK => ?_)
        go_simp
        exact hK _ _ ⟨rfl, Below.refl _ _⟩
      apply still_cons
      · intro a' w' hLe hfr hdep
        have e5 := hfr 5 rfl
        conv at e5 => rhs; whnf
        have f5 := e5; simp only [Array.getD_eq_getD_getElem?] at f5
        refine wpOp_plain rfl rfl (fun K hK => ?_)
        go_simp
        exact hK _ _ ⟨rfl, Below.refl _ _⟩
      apply still_cons
      · intro a' w' hLe hfr hdep
        have e21 := hdep 4 21 (Nat.le_of_ble_eq_true rfl) rfl rfl
        conv at e21 => rhs; whnf
        have f21 := e21; simp only [Array.getD_eq_getD_getElem?] at f21
        have e22 := hdep 5 22 (Nat.le_of_ble_eq_true rfl) rfl rfl
        conv at e22 => rhs; whnf
        have f22 := e22; simp only [Array.getD_eq_getD_getElem?] at f22
        refine wpOp_plain rfl rfl (fun K hK => ?_)
        go_simp
        exact hK _ _ ⟨rfl, Below.refl _ _⟩
      apply still_cons
      · intro a' w' hLe hfr hdep
        have e23 := hdep 6 23 (Nat.le_of_ble_eq_true rfl) rfl rfl
        conv at e23 => rhs; whnf
        have f23 := e23; simp only [Array.getD_eq_getD_getElem?] at f23
        have kc := fun i => keepc hLe (b) (by (try simp) <;> omega) i
        have kf := fun i => keepf hLe (b) (by (try simp) <;> omega) i
        have kc := fun i => keepc hLe (b') (by (try simp) <;> omega) i
        have kf := fun i => keepf hLe (b') (by (try simp) <;> omega) i
        refine wpOp_plain rfl rfl (fun K hK => ?_)
        go_simp
        exact hK _ _ ⟨rfl, Below.refl _ _⟩
      apply still_cons
      · intro a' w' hLe hfr hdep
        have e20 := hdep 3 20 (Nat.le_of_ble_eq_true rfl) rfl rfl
        conv at e20 => rhs; whnf
        have f20 := e20; simp only [Array.getD_eq_getD_getElem?] at f20
        have e24 := hdep 7 24 (Nat.le_of_ble_eq_true rfl) rfl rfl
        conv at e24 => rhs; whnf
        have f24 := e24; simp only [Array.getD_eq_getD_getElem?] at f24
        refine wpOp_plain rfl rfl (fun K hK => ?_)
        go_simp
        refine (eqSent_same _ _ _).mono ?_
        rintro e w2 ⟨rfl, hb⟩
        exact hK _ _ ⟨rfl, hb⟩
      apply still_cons
      · intro a' w' hLe hfr hdep
        have e25 := hdep 8 25 (Nat.le_of_ble_eq_true rfl) rfl rfl
        conv at e25 => rhs; whnf
        have f25 := e25; simp only [Array.getD_eq_getD_getElem?] at f25
        refine wpOp_plain rfl rfl (fun K hK => ?_)
        go_simp
        exact hK _ _ ⟨rfl, Below.refl _ _⟩
      apply still_nil
      intro w1 hb1
      simp only [putAll, List.drop_succ_cons, List.drop_zero]
      go_simp
      go_wp2
      go_roundw
      case rel => exact ⟨k + 1, by omega, by go_num, Below.tr hBw hb1⟩
      case measure => simp [intOf]; omega
    · obtain rfl : k = n := by omega
      go_wp2
      go_ret
      exact ⟨rfl, hBw⟩
/-- The rows that 'mark' leaves: numbers in order. -/
def markSent (k0 : Int) (i : Nat) : List Value := [.int .i64 (k0 + 2 * (i : Int)), .int .i64 (k0 + 2 * (i : Int) + 1)]
set_option maxHeartbeats 2000000 in
theorem markSentS_new {w : World} {g n c : Nat} {Q : Nat → List Value} (k0 : Int) (h : New w g 39 2 n c Q) (hc : c ≤ maxLen) (h0 : 0 ≤ k0) (h1 : k0 ≤ 1000000000) (hn : n ≤ 1000000000) :
    Calls Try.prog 29 #[.slice (some ⟨g, 0, none⟩) n c, .int .i64 k0] w fun e w' => e = .returned (.int .i64 (k0 + 2 * (n : Int))) ∧ New w' g 39 2 n c (markSent k0) ∧ w.grownBy w' (some g) := by
  have hH := h
  obtain ⟨_, _, _, hnc, _⟩ := hH
  unfold maxLen at hc
  have HH := Lib.hid (h.fewer 0 (Nat.zero_le _))
  clear h
  go_enter Try.func29, Try.ntmps29
  go_wp2
  go_loopw [1, 5] (fun q i wr => ∃ k : Nat, k ≤ n ∧ i = .int .i64 k ∧ q = .int .i64 (k0 + 2 * (k : Int)) ∧ New wr g 39 2 k c (markSent k0) ∧ w.grownBy wr (some g)) (fun _ i _ => n - (intOf i).toNat)
  case atStart => exact ⟨0, by omega, rfl, by simp, HH.out.congr (fun i hi => absurd hi (by omega)), World.grownBy.refl w _⟩
  case round =>
    obtain ⟨k, hk, rfl, rfl, hN, hg⟩ := hrel
    by_cases hlt : k < n
    · have hgs := hN.lt
      have hfr := hN.free
      obtain ⟨o0, q0⟩ := hN.is (k * 2) (by omega)
      obtain ⟨o1, q1⟩ := hN.is (k * 2 + 1) (by omega)
      have HN := Lib.hid hN
      clear hN
      go_wp2
      go_roundw
      case rel => exact ⟨k + 1, by omega, by go_num, by simp <;> omega, new_sets (R := markSent k0) HN.out (by omega) (fun _ => rfl), setsFrom_grown (markSent k0 k) _ _ _ (k * 2) hg⟩
      case measure => simp [intOf]; omega
    · obtain rfl : k = n := by omega
      go_wp2
      go_ret
      exact ⟨rfl, hN, hg⟩
set_option maxHeartbeats 1000000 in
theorem markSentS_nil {A : Option Addr} {c : Nat} (k0 : Int) (h0 : 0 ≤ k0) (h1 : k0 ≤ 1000000000) (w : World) :
    Calls Try.prog 29 #[.slice A 0 c, .int .i64 k0] w fun e w' => e = .returned (.int .i64 k0) ∧ w = w' := by
  go_enter Try.func29, Try.ntmps29
  go_wp2
  go_loop [1, 5] (fun q i => q = .int .i64 k0 ∧ i = .int .i64 0) (fun _ _ => 0)
  case atStart => exact ⟨rfl, rfl⟩
  case round =>
    obtain ⟨rfl, rfl⟩ := hrel
    go_wp2
    go_ret
    exact ⟨rfl, rfl⟩
/-- 'mark' on a slice of one's own. -/
theorem markSentS_any {w : World} {B : Nat} {A : Option Addr} {n c : Nat} {Q : Nat → List Value} (k0 : Int) (h : Own w B 39 2 A n c Q) (h0 : 0 ≤ k0) (h1 : k0 ≤ 1000000000) (hn : n ≤ 1000000000) :
    Calls Try.prog 29 #[.slice A n c, .int .i64 k0] w fun e w' => e = .returned (.int .i64 (k0 + 2 * (n : Int))) ∧ Own w' B 39 2 A n c (markSent k0) ∧ (∀ D C, Lies A n D C → WroteIn w w' D C) := by
  rcases Nat.eq_zero_or_pos n with rfl | hp
  · refine (markSentS_nil k0 h0 h1 w).mono ?_
    rintro e w' ⟨rfl, rfl⟩
    exact ⟨by simp, Own.nil _ _ _ _ _ _ _ h.1, fun D C hl => WroteIn.of (Wrote.refl _ _) (fun _ => rfl) hl⟩
  · obtain ⟨g, rfl, hB, hN⟩ := h.at_ hp
    refine (markSentS_new k0 hN h.1 h0 h1 hn).mono ?_
    rintro e w' ⟨rfl, hN', hg⟩
    exact ⟨rfl, Own.of_new hN' h.1 hB, fun D C hl => WroteIn.of (Wrote.of_grown hg) (fun h0 => by omega) hl⟩
set_option maxHeartbeats 2000000 in
theorem heldSentS_same {w : World} {B : Nat} {A : Option Addr} {n c : Nat} (k0 : Int) (h : Rws w B 2 A n c (markSent k0)) (hB : B ≤ w.heap.size) (h0 : 0 ≤ k0) (h1 : k0 ≤ 1000000000) (hn : n ≤ 1000000000) :
    Calls Try.prog 30 #[.slice A n c, .int .i64 k0] w fun e w' => e = .returned (.int .i64 (k0 + 2 * (n : Int))) ∧ w = w' := by
  obtain ⟨⟨hnc, hcm⟩, hrow⟩ := h
  unfold maxLen at hcm
  go_enter Try.func30, Try.ntmps30
  go_wp2
  go_loop [1, 5] (fun q i => ∃ k : Nat, k ≤ n ∧ i = .int .i64 k ∧ q = .int .i64 (k0 + 2 * (k : Int))) (fun _ i => n - (intOf i).toNat)
  case atStart => exact ⟨0, by omega, rfl, by simp⟩
  case round =>
    obtain ⟨k, hk, rfl, rfl⟩ := hrel
    by_cases hlt : k < n
    · obtain ⟨b, off, rfl, hbB, hc⟩ := hrow (by omega)
      have hr := hc k hlt
      have hbs : b < w.heap.size := by omega
      have q0 : w.cell? ⟨b, off + k * 2, none⟩ = some (.int .i64 (k0 + 2 * (k : Int))) := hr 0 _ rfl
      have q1 : w.cell? ⟨b, off + k * 2 + 1, none⟩ = some (.int .i64 (k0 + 2 * (k : Int) + 1)) := hr 1 _ rfl
      clear hrow hc hr
      go_wp2
      go_round
      case rel => exact ⟨k + 1, by omega, by go_num, by simp <;> omega⟩
      case measure => simp [intOf]; omega
    · obtain rfl : k = n := by omega
      go_wp2
      go_ret
      exact ⟨rfl, rfl⟩

end Go.Proofs.Ytghmcedfiebolaa
