/-
  Hosts as the laws copy and compare them.
-/
import Derived.Test.YtbnfllpimnnmfaaMem
import Derived.Test.YtbnfllpimnnmfaaReg
import Derived.Test.YtbnfllpimnnmfaaStill
import Derived.Test.YtbnfllpimnnmfaaFree
import Derived.Test.YtbnfllpimnnmfaaOwn
namespace Go.Proofs.Ytbnfllpimnnmfaa
open Go.RowKit

/-- The rows of a slice of Host. -/
def hostR (c0 : Nat → Int) (c1 : Nat → Int) (c2 : Nat → Int) (i : Nat) : List Value := [.int .i64 (c0 i), .int .i64 (c1 i), .int .i64 (c2 i)]
theorem hostR_one (c0 : Nat → Int) (c1 : Nat → Int) (c2 : Nat → Int) (k : Nat) : ∀ u ∈ hostR c0 c1 c2 k, u.oneCell' = true := by
  intro u hu
  simp only [hostR, List.mem_cons, List.not_mem_nil, or_false] at hu
  rcases hu with rfl | rfl | rfl <;> rfl
theorem hostR_of {Q : Nat → List Value} (h : ∀ i, Plain [true, true, true] (Q i)) : ∃ c0 c1 c2, Q = hostR c0 c1 c2 := by
  refine ⟨fun i => match (Q i)[0]? with | some (Value.int _ n) => n | _ => 0, fun i => match (Q i)[1]? with | some (Value.int _ n) => n | _ => 0, fun i => match (Q i)[2]? with | some (Value.int _ n) => n | _ => 0, funext fun i => ?_⟩
  have h0 := h i
  obtain ⟨n0, u0, e0, _, h1⟩ := h0
  obtain ⟨n1, u1, e1, _, h2⟩ := h1
  obtain ⟨n2, u2, e2, _, h3⟩ := h2
  have e3 : u2 = [] := h3
  simp only [hostR, e0, e1, e2, e3]
  rfl
set_option maxHeartbeats 1000000 in
theorem toHost_any (x0 : Int) (x1 : Int) (x2 : Int) (w : World) :
    Calls Try.prog 61 #[.agg #[.int .i64 x0, .int .i64 x1, .int .i64 x2]] w fun e w' => e = .returned (.agg #[.int .i64 x0, .int .i64 x1, .int .i64 x2]) ∧ Below w.heap.size w w' := by
  go_enter Try.func61, Try.ntmps61
  go_wp2
  refine bodyPost_ret (v := .agg #[.int .i64 x0, .int .i64 x1, .int .i64 x2]) (by simp [results, Try.results61, go_sem]) rfl ⟨rfl, ?_⟩
  (repeat (first | exact Below.refl _ _ | assumption | refine Below.al ?_ _ | refine Below.dr ?_ | (refine Below.st ?_ (by simp <;> omega) _) | (refine Below.tr ?_ (by assumption))))
theorem info_host : (Try.prog.info? 78).map (fun i => (i.zero, i.size, i.bytes)) = some (some (.agg #[.int .i64 0, .int .i64 0, .int .i64 0]), 3, 24) := by kernel_rfl
set_option maxHeartbeats 2000000 in
theorem toHostS_any {w : World} {B : Nat} {A : Option Addr} {n c : Nat} {c0 : Nat → Int} {c1 : Nat → Int} {c2 : Nat → Int} (h : Rws w B 3 A n c (hostR c0 c1 c2)) (hB : B ≤ w.heap.size) (hn : n ≤ 1048576) :
    Calls Try.prog 46 #[.slice A n c] w (Made w 78 3 n (hostR c0 c1 c2)) := by
  obtain ⟨iT, hi, hz, hs, hb⟩ := info_parts info_host
  have hmk := run_make_rows (P := Try.prog) 32 78 iT _ 3 Try.underlying32 hi hz hs n (by rw [hb]; omega) (by omega)
  obtain ⟨⟨hnc, hcm⟩, hrow⟩ := h
  unfold maxLen at hcm
  clear hi hz hs hb
  go_enter Try.func46, Try.ntmps46
  go_wp2
  clear hmk
  go_loopw [4] (fun i wr => ∃ k : Nat, k ≤ n ∧ i = .int .i64 k ∧ New wr w.heap.size 78 3 k n (hostR c0 c1 c2) ∧ Below w.heap.size w wr) (fun i _ => n - (intOf i).toNat)
  case atStart => exact ⟨0, by omega, rfl, new_made _ _ _ _ _ _, by (repeat (first | exact Below.refl _ _ | assumption | refine Below.al ?_ _ | refine Below.dr ?_ | (refine Below.st ?_ (by simp <;> omega) _) | (refine Below.tr ?_ (by assumption))))⟩
  case round =>
    obtain ⟨k, hk, rfl, hN, hBw⟩ := hrel
    by_cases hlt : k < n
    · obtain ⟨b, off, rfl, hbB, hc⟩ := hrow (by omega)
      have hr := hc k hlt
      have hbs : b < wr.heap.size := by have := hBw.size; omega
      have hgs := hN.lt
      have q0 : wr.cell? ⟨b, off + k * 3, none⟩ = some (.int .i64 (c0 k)) := (keepc hBw b (by omega) _).trans (hr 0 _ rfl)
      have q1 : wr.cell? ⟨b, off + k * 3 + 1, none⟩ = some (.int .i64 (c1 k)) := (keepc hBw b (by omega) _).trans (hr 1 _ rfl)
      have q2 : wr.cell? ⟨b, off + k * 3 + 2, none⟩ = some (.int .i64 (c2 k)) := (keepc hBw b (by omega) _).trans (hr 2 _ rfl)
      clear hrow hc hr
      go_wp2_with (first | (go_at_call 61; refine (toHost_any _ _ _ _).mono ?_; rintro e w1 ⟨rfl, hb1⟩; have hN1 := hN.below hb1 hgs; have hg1 := Nat.lt_of_lt_of_le hgs hb1.size) | (refine wpList_store_next rfl 78 (.tmp 21) (.tmp 20) rfl (.agg #[.int .i64 (c0 k), .int .i64 (c1 k), .int .i64 (c2 k)]) hN1 hlt (fun _ => rfl) rfl rfl rfl (by kernel_rfl) (hostR_one _ _ _ _) ?_; intro w2 hN2 hg2 hs2))
      go_roundw
      case rel => exact ⟨k + 1, by omega, by go_num, hN2, Below.of_grown (Below.tr hBw hb1) hg2 (Nat.le_refl _)⟩
      case measure => simp [intOf]; omega
    · obtain rfl : k = n := by omega
      go_wp2
      go_ret
      exact ⟨_, rfl, Nat.le_refl _, hN, hBw⟩
set_option maxHeartbeats 1000000 in
theorem eqHost_same (x0 : Int) (x1 : Int) (x2 : Int) (w : World) :
    Calls Try.prog 63 #[.agg #[.int .i64 x0, .int .i64 x1, .int .i64 x2], .agg #[.int .i64 x0, .int .i64 x1, .int .i64 x2]] w fun e w' => e = .returned (.bool true) ∧ Below w.heap.size w w' := by
  go_enter Try.func63, Try.ntmps63
  go_wp2
  go_ret
  exact ⟨rfl, by (repeat (first | exact Below.refl _ _ | assumption | refine Below.al ?_ _ | refine Below.dr ?_ | (refine Below.st ?_ (by simp <;> omega) _) | (refine Below.tr ?_ (by assumption))))⟩
set_option maxHeartbeats 2000000 in
theorem eqHostS_same {w : World} {B : Nat} {A A' : Option Addr} {n c c' : Nat} {c0 : Nat → Int} {c1 : Nat → Int} {c2 : Nat → Int} (h : Rws w B 3 A n c (hostR c0 c1 c2)) (h' : Rws w B 3 A' n c' (hostR c0 c1 c2)) (hB : B ≤ w.heap.size) :
    Calls Try.prog 48 #[.slice A n c, .slice A' n c'] w fun e w' => e = .returned (.bool true) ∧ Below w.heap.size w w' := by
  obtain ⟨⟨hnc, hcm⟩, hrow⟩ := h
  obtain ⟨⟨hnc', hcm'⟩, hrow'⟩ := h'
  unfold maxLen at hcm hcm'
  go_enter Try.func48, Try.ntmps48
  go_wp2
  go_loopw [5] (fun i wr => ∃ k : Nat, k ≤ n ∧ i = .int .i64 k ∧ Below w.heap.size w wr) (fun i _ => n - (intOf i).toNat)
  case atStart => exact ⟨0, by omega, rfl, by (repeat (first | exact Below.refl _ _ | assumption | refine Below.al ?_ _ | refine Below.dr ?_ | (refine Below.st ?_ (by simp <;> omega) _) | (refine Below.tr ?_ (by assumption))))⟩
  case round =>
    obtain ⟨k, hk, rfl, hBw⟩ := hrel
    by_cases hlt : k < n
    · obtain ⟨b, off, rfl, hbB, hc⟩ := hrow (by omega)
      obtain ⟨b', off', rfl, hbB', hc'⟩ := hrow' (by omega)
      have hr := hc k hlt
      have hr' := hc' k hlt
      have hbs : b < wr.heap.size := by have := hBw.size; omega
      have hbs' : b' < wr.heap.size := by have := hBw.size; omega
      have q0 : wr.cell? ⟨b, off + k * 3, none⟩ = some (.int .i64 (c0 k)) := (keepc hBw b (by omega) _).trans (hr 0 _ rfl)
      have q1 : wr.cell? ⟨b, off + k * 3 + 1, none⟩ = some (.int .i64 (c1 k)) := (keepc hBw b (by omega) _).trans (hr 1 _ rfl)
      have q2 : wr.cell? ⟨b, off + k * 3 + 2, none⟩ = some (.int .i64 (c2 k)) := (keepc hBw b (by omega) _).trans (hr 2 _ rfl)
      have s0 : wr.cell? ⟨b', off' + k * 3, none⟩ = some (.int .i64 (c0 k)) := (keepc hBw b' (by omega) _).trans (hr' 0 _ rfl)
      have s1 : wr.cell? ⟨b', off' + k * 3 + 1, none⟩ = some (.int .i64 (c1 k)) := (keepc hBw b' (by omega) _).trans (hr' 1 _ rfl)
      have s2 : wr.cell? ⟨b', off' + k * 3 + 2, none⟩ = some (.int .i64 (c2 k)) := (keepc hBw b' (by omega) _).trans (hr' 2 _ rfl)
      clear hrow hc hr hrow' hc' hr'
      go_wp2
      refine wp_region_still (ds := [(0, 17), (1, 18), (2, 19), (3, 20), (4, 21), (5, 22), (6, 23), (7, 24), (8, 25), (9, 26)]) 10 (by kernel_rfl) (by kernel_rfl) (by first | exact .inl rfl | exact .inr (by kernel_rfl)) (by rfl) rfl rfl ?_
      apply still_cons
      · intro a' w' hLe hfr hdep
        have e0 := hfr 0 rfl
        conv at e0 => rhs; whnf
        have f0 := e0; simp only [Array.getD_eq_getD_getElem?] at f0
        refine wpOp_plain rfl rfl (fun K hK => ?_)
        go_simp
        exact hK _ _ ⟨rfl, Below.refl _ _⟩
      apply still_cons
      · intro a' w' hLe hfr hdep
        have e5 := hfr 5 rfl
        conv at e5 => rhs; whnf
        have f5 := e5; simp only [Array.getD_eq_getD_getElem?] at f5
        refine wpOp_plain rfl rfl (fun K hK => ?_)
        go_simp
        exact hK _ _ ⟨rfl, Below.refl _ _⟩
      apply still_cons
      · intro a' w' hLe hfr hdep
        have e17 := hdep 0 17 (Nat.le_of_ble_eq_true rfl) rfl rfl
        conv at e17 => rhs; whnf
        have f17 := e17; simp only [Array.getD_eq_getD_getElem?] at f17
        have e18 := hdep 1 18 (Nat.le_of_ble_eq_true rfl) rfl rfl
        conv at e18 => rhs; whnf
        have f18 := e18; simp only [Array.getD_eq_getD_getElem?] at f18
        refine wpOp_plain rfl rfl (fun K hK => ?_)
        go_simp
        exact hK _ _ ⟨rfl, Below.refl _ _⟩
      apply still_cons
      · intro a' w' hLe hfr hdep
        have e19 := hdep 2 19 (Nat.le_of_ble_eq_true rfl) rfl rfl
        conv at e19 => rhs; whnf
        have f19 := e19; simp only [Array.getD_eq_getD_getElem?] at f19
        have kc := fun i => keepc hLe (b) (by (try simp) <;> omega) i
        have kf := fun i => keepf hLe (b) (by (try simp) <;> omega) i
        have kc := fun i => keepc hLe (b') (by (try simp) <;> omega) i
        have kf := fun i => keepf hLe (b') (by (try simp) <;> omega) i
        refine wpOp_plain rfl rfl (fun K hK => ?_)
        go_simp
        exact hK _ _ ⟨rfl, Below.refl _ _⟩
      apply still_cons
      · intro a' w' hLe hfr hdep
        have e1 := hfr 1 rfl
        conv at e1 => rhs; whnf
        have f1 := e1; simp only [Array.getD_eq_getD_getElem?] at f1
        refine wpOp_plain rfl rfl (fun K hK => ?_)
        go_simp
        exact hK _ _ ⟨rfl, Below.refl _ _⟩
      apply still_cons
      · intro a' w' hLe hfr hdep
        have e5 := hfr 5 rfl
        conv at e5 => rhs; whnf
        have f5 := e5; simp only [Array.getD_eq_getD_getElem?] at f5
        refine wpOp_plain rfl rfl (fun K hK => ?_)
        go_simp
        exact hK _ _ ⟨rfl, Below.refl _ _⟩
      apply still_cons
      · intro a' w' hLe hfr hdep
        have e21 := hdep 4 21 (Nat.le_of_ble_eq_true rfl) rfl rfl
        conv at e21 => rhs; whnf
        have f21 := e21; simp only [Array.getD_eq_getD_getElem?] at f21
        have e22 := hdep 5 22 (Nat.le_of_ble_eq_true rfl) rfl rfl
        conv at e22 => rhs; whnf
        have f22 := e22; simp only [Array.getD_eq_getD_getElem?] at f22
        refine wpOp_plain rfl rfl (fun K hK => ?_)
        go_simp
        exact hK _ _ ⟨rfl, Below.refl _ _⟩
      apply still_cons
      · intro a' w' hLe hfr hdep
        have e23 := hdep 6 23 (Nat.le_of_ble_eq_true rfl) rfl rfl
        conv at e23 => rhs; whnf
        have f23 := e23; simp only [Array.getD_eq_getD_getElem?] at f23
        have kc := fun i => keepc hLe (b) (by (try simp) <;> omega) i
        have kf := fun i => keepf hLe (b) (by (try simp) <;> omega) i
        have kc := fun i => keepc hLe (b') (by (try simp) <;> omega) i
        have kf := fun i => keepf hLe (b') (by (try simp) <;> omega) i
        refine wpOp_plain rfl rfl (fun K hK => ?_)
        go_simp
        exact hK _ _ ⟨rfl, Below.refl _ _⟩
      apply still_cons
      · intro a' w' hLe hfr hdep
        have e20 := hdep 3 20 (Nat.le_of_ble_eq_true rfl) rfl rfl
        conv at e20 => rhs; whnf
        have f20 := e20; simp only [Array.getD_eq_getD_getElem?] at f20
        have e24 := hdep 7 24 (Nat.le_of_ble_eq_true rfl) rfl rfl
        conv at e24 => rhs; whnf
        have f24 := e24; simp only [Array.getD_eq_getD_getElem?] at f24
        refine wpOp_plain rfl rfl (fun K hK => ?_)
        go_simp
        refine (eqHost_same _ _ _ _).mono ?_
        rintro e w2 ⟨rfl, hb⟩
        exact hK _ _ ⟨rfl, hb⟩
      apply still_cons
      · intro a' w' hLe hfr hdep
        have e25 := hdep 8 25 (Nat.le_of_ble_eq_true rfl) rfl rfl
        conv at e25 => rhs; whnf
        have f25 := e25; simp only [Array.getD_eq_getD_getElem?] at f25
        refine wpOp_plain rfl rfl (fun K hK => ?_)
        go_simp
        exact hK _ _ ⟨rfl, Below.refl _ _⟩
      apply still_nil
      intro w1 hb1
      simp only [putAll, List.drop_succ_cons, List.drop_zero]
      go_simp
      go_wp2
      go_roundw
      case rel => exact ⟨k + 1, by omega, by go_num, Below.tr hBw hb1⟩
      case measure => simp [intOf]; omega
    · obtain rfl : k = n := by omega
      go_wp2
      go_ret
      exact ⟨rfl, hBw⟩
set_option maxHeartbeats 400000 in
theorem szHostS_any {A : Option Addr} {n c : Nat} (l : Int) (hn : n ≤ c) (hc : c ≤ maxLen) (h0 : 0 ≤ l) (h1 : l ≤ 1048576) (w : World) :
    Calls Try.prog 44 #[.slice A n c, .int .i64 l] w fun e w' => e = .returned (.int .i64 (szI n l)) ∧ w = w' := by
  unfold maxLen at hc
  unfold szI
  by_cases h : (n : Int) ≤ l
  · rw [if_pos h]
    go_enter Try.func44, Try.ntmps44
    go_wp2
    go_ret
    exact ⟨rfl, rfl⟩
  · rw [if_neg h]
    go_enter Try.func44, Try.ntmps44
    go_wp2
    go_ret
    exact ⟨rfl, rfl⟩

end Go.Proofs.Ytbnfllpimnnmfaa
