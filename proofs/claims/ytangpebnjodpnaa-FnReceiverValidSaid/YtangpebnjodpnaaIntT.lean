/-
  Slices of ints as the laws copy and compare them.
-/
import Derived.Test.YtangpebnjodpnaaMem
import Derived.Test.YtangpebnjodpnaaReg
import Derived.Test.YtangpebnjodpnaaStill
import Derived.Test.YtangpebnjodpnaaFree
namespace Go.Proofs.Ytangpebnjodpnaa
open Go.RowKit

/-- The rows of a slice of Int. -/
def intR (c0 : Nat → Int) (i : Nat) : List Value := [.int .i64 (c0 i)]
theorem intR_one (c0 : Nat → Int) (k : Nat) : ∀ u ∈ intR c0 k, u.oneCell' = true := by
  intro u hu
  simp only [intR, List.mem_cons, List.not_mem_nil, or_false] at hu
  rcases hu with rfl <;> rfl
theorem intR_of {Q : Nat → List Value} (h : ∀ i, Plain [true] (Q i)) : ∃ c0, Q = intR c0 := by
  refine ⟨fun i => match (Q i)[0]? with | some (Value.int _ n) => n | _ => 0, funext fun i => ?_⟩
  have h0 := h i
  obtain ⟨n0, u0, e0, _, h1⟩ := h0
  have e1 : u0 = [] := h1
  simp only [intR, e0, e1]
  rfl
theorem info_int : (Try.prog.info? 3).map (fun i => (i.zero, i.size, i.bytes)) = some (some (.int .i64 0), 1, 8) := by kernel_rfl
set_option maxHeartbeats 2000000 in
theorem toIntS_any {w : World} {B : Nat} {A : Option Addr} {n c : Nat} {c0 : Nat → Int} (h : Rws w B 1 A n c (intR c0)) (hB : B ≤ w.heap.size) (hn : n ≤ 1048576) :
    Calls Try.prog 19 #[.slice A n c] w (Made w 3 1 n (intR c0)) := by
  obtain ⟨iT, hi, hz, hs, hb⟩ := info_parts info_int
  have hmk := run_make_rows (P := Try.prog) 23 3 iT _ 1 Try.underlying23 hi hz hs n (by rw [hb]; omega) (by omega)
  obtain ⟨⟨hnc, hcm⟩, hrow⟩ := h
  unfold maxLen at hcm
  clear hi hz hs hb
  go_enter Try.func19, Try.ntmps19
  go_wp2
  clear hmk
  go_loopw [4] (fun i wr => ∃ k : Nat, k ≤ n ∧ i = .int .i64 k ∧ New wr w.heap.size 3 1 k n (intR c0) ∧ Below w.heap.size w wr) (fun i _ => n - (intOf i).toNat)
  case atStart => exact ⟨0, by omega, rfl, by simpa using new_made w 3 _ 1 n _, by (repeat (first | exact Below.refl _ _ | assumption | refine Below.al ?_ _ | refine Below.dr ?_ | (refine Below.st ?_ (by simp <;> omega) _) | (refine Below.tr ?_ (by assumption))))⟩
  case round =>
    obtain ⟨k, hk, rfl, hN, hBw⟩ := hrel
    by_cases hlt : k < n
    · obtain ⟨b, off, rfl, hbB, hc⟩ := hrow (by omega)
      have hr := hc k hlt
      rw [Nat.mul_one] at hr
      have hbs : b < wr.heap.size := by have := hBw.size; omega
      have hgs := hN.lt
      have q0 : wr.cell? ⟨b, off + k, none⟩ = some (.int .i64 (c0 k)) := (keepc hBw b (by omega) _).trans (hr 0 _ rfl)
      clear hrow hc hr
      go_wp2_with (refine wpList_store_next1 rfl 3 (.tmp 20) (.tmp 19) rfl (.int .i64 (c0 k)) hN hlt (fun _ => rfl) rfl rfl rfl (by kernel_rfl) (intR_one _ _) ?_; intro w2 hN2 hg2 hs2)
      go_roundw
      case rel => exact ⟨k + 1, by omega, by go_num, hN2, Below.of_grown hBw hg2 (Nat.le_refl _)⟩
      case measure => simp [intOf]; omega
    · obtain rfl : k = n := by omega
      go_wp2
      go_ret
      exact ⟨_, rfl, Nat.le_refl _, hN, hBw⟩
set_option maxHeartbeats 2000000 in
theorem eqIntS_same {w : World} {B : Nat} {A A' : Option Addr} {n c c' : Nat} {c0 : Nat → Int} (h : Rws w B 1 A n c (intR c0)) (h' : Rws w B 1 A' n c' (intR c0)) (hB : B ≤ w.heap.size) :
    Calls Try.prog 20 #[.slice A n c, .slice A' n c'] w fun e w' => e = .returned (.bool true) ∧ Below w.heap.size w w' := by
  obtain ⟨⟨hnc, hcm⟩, hrow⟩ := h
  obtain ⟨⟨hnc', hcm'⟩, hrow'⟩ := h'
  unfold maxLen at hcm hcm'
  go_enter Try.func20, Try.ntmps20
  go_wp2
  go_loopw [5] (fun i wr => ∃ k : Nat, k ≤ n ∧ i = .int .i64 k ∧ Below w.heap.size w wr) (fun i _ => n - (intOf i).toNat)
  case atStart => exact ⟨0, by omega, rfl, by (repeat (first | exact Below.refl _ _ | assumption | refine Below.al ?_ _ | refine Below.dr ?_ | (refine Below.st ?_ (by simp <;> omega) _) | (refine Below.tr ?_ (by assumption))))⟩
  case round =>
    obtain ⟨k, hk, rfl, hBw⟩ := hrel
    by_cases hlt : k < n
    · obtain ⟨b, off, rfl, hbB, hc⟩ := hrow (by omega)
      obtain ⟨b', off', rfl, hbB', hc'⟩ := hrow' (by omega)
      have hr := hc k hlt
      rw [Nat.mul_one] at hr
      have hr' := hc' k hlt
      rw [Nat.mul_one] at hr'
      have hbs : b < wr.heap.size := by have := hBw.size; omega
      have hbs' : b' < wr.heap.size := by have := hBw.size; omega
      have q0 : wr.cell? ⟨b, off + k, none⟩ = some (.int .i64 (c0 k)) := (keepc hBw b (by omega) _).trans (hr 0 _ rfl)
      have s0 : wr.cell? ⟨b', off' + k, none⟩ = some (.int .i64 (c0 k)) := (keepc hBw b' (by omega) _).trans (hr' 0 _ rfl)
      clear hrow hc hr hrow' hc' hr'
      go_wp2
      refine wp_region_still (ds := [(0, 17), (1, 18), (2, 19), (3, 20), (4, 21), (5, 22), (6, 23), (7, 24), (8, 25)]) 9 (by kernel_rfl) (by kernel_rfl) (by first | exact .inl rfl | exact .inr (by kernel_rfl)) (by rfl) rfl rfl ?_
      apply still_cons
      · intro a' w' hLe hfr hdep
        have e0 := hfr 0 rfl
        conv at e0 => rhs; whnf
        have f0 := e0; simp only [Array.getD_eq_getD_getElem?] at f0
        refine wpOp_plain rfl rfl (fun K hK => ?_)
        go_simp
        exact hK _ _ ⟨rfl, Below.refl _ _⟩
      apply still_cons
      · intro a' w' hLe hfr hdep
        have e5 := hfr 5 rfl
        conv at e5 => rhs; whnf
        have f5 := e5; simp only [Array.getD_eq_getD_getElem?] at f5
        refine wpOp_plain rfl rfl (fun K hK => ?_)
        go_simp
        exact hK _ _ ⟨rfl, Below.refl _ _⟩
      apply still_cons
      · intro a' w' hLe hfr hdep
        have e17 := hdep 0 17 (Nat.le_of_ble_eq_true rfl) rfl rfl
        conv at e17 => rhs; whnf
        have f17 := e17; simp only [Array.getD_eq_getD_getElem?] at f17
        have e18 := hdep 1 18 (Nat.le_of_ble_eq_true rfl) rfl rfl
        conv at e18 => rhs; whnf
        have f18 := e18; simp only [Array.getD_eq_getD_getElem?] at f18
        refine wpOp_plain rfl rfl (fun K hK => ?_)
        go_simp
        exact hK _ _ ⟨rfl, Below.refl _ _⟩
      apply still_cons
      · intro a' w' hLe hfr hdep
        have e19 := hdep 2 19 (Nat.le_of_ble_eq_true rfl) rfl rfl
        conv at e19 => rhs; whnf
        have f19 := e19; simp only [Array.getD_eq_getD_getElem?] at f19
        have kc := fun i => keepc hLe (b) (by (try simp) <;> omega) i
        have kf := fun i => keepf hLe (b) (by (try simp) <;> omega) i
        have kc := fun i => keepc hLe (b') (by (try simp) <;> omega) i
        have kf := fun i => keepf hLe (b') (by (try simp) <;> omega) i
        refine wpOp_plain rfl rfl (fun K hK => ?_)
        go_simp
        exact hK _ _ ⟨rfl, Below.refl _ _⟩
      apply still_cons
      · intro a' w' hLe hfr hdep
        have e1 := hfr 1 rfl
        conv at e1 => rhs; whnf
        have f1 := e1; simp only [Array.getD_eq_getD_getElem?] at f1
        refine wpOp_plain rfl rfl (fun K hK => ?_)
        go_simp
        exact hK _ _ ⟨rfl, Below.refl _ _⟩
      apply still_cons
      · intro a' w' hLe hfr hdep
        have e5 := hfr 5 rfl
        conv at e5 => rhs; whnf
        have f5 := e5; simp only [Array.getD_eq_getD_getElem?] at f5
        refine wpOp_plain rfl rfl (fun K hK => ?_)
        go_simp
        exact hK _ _ ⟨rfl, Below.refl _ _⟩
      apply still_cons
      · intro a' w' hLe hfr hdep
        have e21 := hdep 4 21 (Nat.le_of_ble_eq_true rfl) rfl rfl
        conv at e21 => rhs; whnf
        have f21 := e21; simp only [Array.getD_eq_getD_getElem?] at f21
        have e22 := hdep 5 22 (Nat.le_of_ble_eq_true rfl) rfl rfl
        conv at e22 => rhs; whnf
        have f22 := e22; simp only [Array.getD_eq_getD_getElem?] at f22
        refine wpOp_plain rfl rfl (fun K hK => ?_)
        go_simp
        exact hK _ _ ⟨rfl, Below.refl _ _⟩
      apply still_cons
      · intro a' w' hLe hfr hdep
        have e23 := hdep 6 23 (Nat.le_of_ble_eq_true rfl) rfl rfl
        conv at e23 => rhs; whnf
        have f23 := e23; simp only [Array.getD_eq_getD_getElem?] at f23
        have kc := fun i => keepc hLe (b) (by (try simp) <;> omega) i
        have kf := fun i => keepf hLe (b) (by (try simp) <;> omega) i
        have kc := fun i => keepc hLe (b') (by (try simp) <;> omega) i
        have kf := fun i => keepf hLe (b') (by (try simp) <;> omega) i
        refine wpOp_plain rfl rfl (fun K hK => ?_)
        go_simp
        exact hK _ _ ⟨rfl, Below.refl _ _⟩
      apply still_cons
      · intro a' w' hLe hfr hdep
        have e20 := hdep 3 20 (Nat.le_of_ble_eq_true rfl) rfl rfl
        conv at e20 => rhs; whnf
        have f20 := e20; simp only [Array.getD_eq_getD_getElem?] at f20
        have e24 := hdep 7 24 (Nat.le_of_ble_eq_true rfl) rfl rfl
        conv at e24 => rhs; whnf
        have f24 := e24; simp only [Array.getD_eq_getD_getElem?] at f24
        refine wpOp_plain rfl rfl (fun K hK => ?_)
        go_simp
        exact hK _ _ ⟨rfl, Below.refl _ _⟩
      apply still_nil
      intro w1 hb1
      simp only [putAll, List.drop_succ_cons, List.drop_zero]
      go_simp
      go_wp2
      go_roundw
      case rel => exact ⟨k + 1, by omega, by go_num, Below.tr hBw hb1⟩
      case measure => simp [intOf]; omega
    · obtain rfl : k = n := by omega
      go_wp2
      go_ret
      exact ⟨rfl, hBw⟩
set_option maxHeartbeats 400000 in
theorem szIntS_any {A : Option Addr} {n c : Nat} (l : Int) (hn : n ≤ c) (hc : c ≤ maxLen) (h0 : 0 ≤ l) (h1 : l ≤ 1048576) (w : World) :
    Calls Try.prog 18 #[.slice A n c, .int .i64 l] w fun e w' => e = .returned (.int .i64 (szI n l)) ∧ w = w' := by
  unfold maxLen at hc
  unfold szI
  by_cases h : (n : Int) ≤ l
  · rw [if_pos h]
    go_enter Try.func18, Try.ntmps18
    go_wp2
    go_ret
    exact ⟨rfl, rfl⟩
  · rw [if_neg h]
    go_enter Try.func18, Try.ntmps18
    go_wp2
    go_ret
    exact ⟨rfl, rfl⟩

end Go.Proofs.Ytangpebnjodpnaa
