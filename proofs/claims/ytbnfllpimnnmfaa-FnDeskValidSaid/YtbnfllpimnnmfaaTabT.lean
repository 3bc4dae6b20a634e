/-
  Entries and tables as the laws copy and compare them.
-/
import Derived.Test.YtbnfllpimnnmfaaMem
import Derived.Test.YtbnfllpimnnmfaaReg
import Derived.Test.YtbnfllpimnnmfaaStill
import Derived.Test.YtbnfllpimnnmfaaFree
namespace Go.Proofs.Ytbnfllpimnnmfaa
open Go.RowKit

set_option maxHeartbeats 1000000 in
theorem toFlow_any (x0 : Int) (x1 : Int) (x2 : Int) (x3 : Int) (x4 : Int) (w : World) :
    Calls Try.prog 54 #[.agg #[.int .i64 x0, .int .i64 x1, .int .i64 x2, .int .i64 x3, .int .i64 x4]] w fun e w' => e = .returned (.agg #[.int .i64 x0, .int .i64 x1, .int .i64 x2, .int .i64 x3, .int .i64 x4]) ∧ Below w.heap.size w w' := by
  go_enter Try.func54, Try.ntmps54
  go_wp2
  refine bodyPost_ret (v := .agg #[.int .i64 x0, .int .i64 x1, .int .i64 x2, .int .i64 x3, .int .i64 x4]) (by simp [results, Try.results54, go_sem]) rfl ⟨rfl, ?_⟩
  (repeat (first | exact Below.refl _ _ | assumption | refine Below.al ?_ _ | refine Below.dr ?_ | (refine Below.st ?_ (by simp <;> omega) _) | (refine Below.tr ?_ (by assumption))))
set_option maxHeartbeats 1000000 in
theorem eqFlow_same (x0 : Int) (x1 : Int) (x2 : Int) (x3 : Int) (x4 : Int) (w : World) :
    Calls Try.prog 55 #[.agg #[.int .i64 x0, .int .i64 x1, .int .i64 x2, .int .i64 x3, .int .i64 x4], .agg #[.int .i64 x0, .int .i64 x1, .int .i64 x2, .int .i64 x3, .int .i64 x4]] w fun e w' => e = .returned (.bool true) ∧ Below w.heap.size w w' := by
  go_enter Try.func55, Try.ntmps55
  go_wp2
  go_ret
  exact ⟨rfl, by (repeat (first | exact Below.refl _ _ | assumption | refine Below.al ?_ _ | refine Below.dr ?_ | (refine Below.st ?_ (by simp <;> omega) _) | (refine Below.tr ?_ (by assumption))))⟩

/-- The rows of a slice of Entry. -/
def entryR (c0 : Nat → Int) (c1 : Nat → Int) (c2 : Nat → Int) (c3 : Nat → Int) (c4 : Nat → Int) (c5 : Nat → Int) (c6 : Nat → Int) (i : Nat) : List Value := [.int .i64 (c0 i), .int .i64 (c1 i), .int .i64 (c2 i), .int .i64 (c3 i), .int .i64 (c4 i), .int .i64 (c5 i), .int .i64 (c6 i)]
theorem entryR_one (c0 : Nat → Int) (c1 : Nat → Int) (c2 : Nat → Int) (c3 : Nat → Int) (c4 : Nat → Int) (c5 : Nat → Int) (c6 : Nat → Int) (k : Nat) : ∀ u ∈ entryR c0 c1 c2 c3 c4 c5 c6 k, u.oneCell' = true := by
  intro u hu
  simp only [entryR, List.mem_cons, List.not_mem_nil, or_false] at hu
  rcases hu with rfl | rfl | rfl | rfl | rfl | rfl | rfl <;> rfl
theorem entryR_of {Q : Nat → List Value} (h : ∀ i, Plain [true, true, true, true, true, true, true] (Q i)) : ∃ c0 c1 c2 c3 c4 c5 c6, Q = entryR c0 c1 c2 c3 c4 c5 c6 := by
  refine ⟨fun i => match (Q i)[0]? with | some (Value.int _ n) => n | _ => 0, fun i => match (Q i)[1]? with | some (Value.int _ n) => n | _ => 0, fun i => match (Q i)[2]? with | some (Value.int _ n) => n | _ => 0, fun i => match (Q i)[3]? with | some (Value.int _ n) => n | _ => 0, fun i => match (Q i)[4]? with | some (Value.int _ n) => n | _ => 0, fun i => match (Q i)[5]? with | some (Value.int _ n) => n | _ => 0, fun i => match (Q i)[6]? with | some (Value.int _ n) => n | _ => 0, funext fun i => ?_⟩
  have h0 := h i
  obtain ⟨n0, u0, e0, _, h1⟩ := h0
  obtain ⟨n1, u1, e1, _, h2⟩ := h1
  obtain ⟨n2, u2, e2, _, h3⟩ := h2
  obtain ⟨n3, u3, e3, _, h4⟩ := h3
  obtain ⟨n4, u4, e4, _, h5⟩ := h4
  obtain ⟨n5, u5, e5, _, h6⟩ := h5
  obtain ⟨n6, u6, e6, _, h7⟩ := h6
  have e7 : u6 = [] := h7
  simp only [entryR, e0, e1, e2, e3, e4, e5, e6, e7]
  rfl
set_option maxHeartbeats 1000000 in
theorem toEntry_any (x0 : Int) (x1 : Int) (x2 : Int) (x3 : Int) (x4 : Int) (x5 : Int) (x6 : Int) (w : World) :
    Calls Try.prog 70 #[.agg #[.int .i64 x0, .int .i64 x1, .int .i64 x2, .int .i64 x3, .int .i64 x4, .int .i64 x5, .int .i64 x6]] w fun e w' => e = .returned (.agg #[.int .i64 x0, .int .i64 x1, .int .i64 x2, .int .i64 x3, .int .i64 x4, .int .i64 x5, .int .i64 x6]) ∧ Below w.heap.size w w' := by
  go_enter Try.func70, Try.ntmps70
  go_wp2
  refine bodyPost_ret (v := .agg #[.int .i64 x0, .int .i64 x1, .int .i64 x2, .int .i64 x3, .int .i64 x4]) (by simp [results, Try.results54, go_sem]) rfl ?_
  rename_i hK
  refine hK _ _ ?_
  clear hK
  go_wp2
  refine bodyPost_ret (v := .agg #[.int .i64 x0, .int .i64 x1, .int .i64 x2, .int .i64 x3, .int .i64 x4, .int .i64 x5, .int .i64 x6]) (by simp [results, Try.results70, go_sem]) rfl ⟨rfl, ?_⟩
  (repeat (first | exact Below.refl _ _ | assumption | refine Below.al ?_ _ | refine Below.dr ?_ | (refine Below.st ?_ (by simp <;> omega) _) | (refine Below.tr ?_ (by assumption))))
theorem info_entry : (Try.prog.info? 81).map (fun i => (i.zero, i.size, i.bytes)) = some (some (.agg #[.int .i64 0, .int .i64 0, .int .i64 0, .int .i64 0, .int .i64 0, .int .i64 0, .int .i64 0]), 7, 56) := by kernel_rfl
set_option maxHeartbeats 2000000 in
theorem toEntryS_any {w : World} {B : Nat} {A : Option Addr} {n c : Nat} {c0 : Nat → Int} {c1 : Nat → Int} {c2 : Nat → Int} {c3 : Nat → Int} {c4 : Nat → Int} {c5 : Nat → Int} {c6 : Nat → Int} (h : Rws w B 7 A n c (entryR c0 c1 c2 c3 c4 c5 c6)) (hB : B ≤ w.heap.size) (hn : n ≤ 1048576) :
    Calls Try.prog 62 #[.slice A n c] w (Made w 81 7 n (entryR c0 c1 c2 c3 c4 c5 c6)) := by
  obtain ⟨iT, hi, hz, hs, hb⟩ := info_parts info_entry
  have hmk := run_make_rows (P := Try.prog) 33 81 iT _ 7 Try.underlying33 hi hz hs n (by rw [hb]; omega) (by omega)
  obtain ⟨⟨hnc, hcm⟩, hrow⟩ := h
  unfold maxLen at hcm
  clear hi hz hs hb
  go_enter Try.func62, Try.ntmps62
  go_wp2
  clear hmk
  go_loopw [4] (fun i wr => ∃ k : Nat, k ≤ n ∧ i = .int .i64 k ∧ New wr w.heap.size 81 7 k n (entryR c0 c1 c2 c3 c4 c5 c6) ∧ Below w.heap.size w wr) (fun i _ => n - (intOf i).toNat)
  case atStart => exact ⟨0, by omega, rfl, new_made _ _ _ _ _ _, by (repeat (first | exact Below.refl _ _ | assumption | refine Below.al ?_ _ | refine Below.dr ?_ | (refine Below.st ?_ (by simp <;> omega) _) | (refine Below.tr ?_ (by assumption))))⟩
  case round =>
    obtain ⟨k, hk, rfl, hN, hBw⟩ := hrel
    by_cases hlt : k < n
    · obtain ⟨b, off, rfl, hbB, hc⟩ := hrow (by omega)
      have hr := hc k hlt
      have hbs : b < wr.heap.size := by have := hBw.size; omega
      have hgs := hN.lt
      have q0 : wr.cell? ⟨b, off + k * 7, none⟩ = some (.int .i64 (c0 k)) := (keepc hBw b (by omega) _).trans (hr 0 _ rfl)
      have q1 : wr.cell? ⟨b, off + k * 7 + 1, none⟩ = some (.int .i64 (c1 k)) := (keepc hBw b (by omega) _).trans (hr 1 _ rfl)
      have q2 : wr.cell? ⟨b, off + k * 7 + 2, none⟩ = some (.int .i64 (c2 k)) := (keepc hBw b (by omega) _).trans (hr 2 _ rfl)
      have q3 : wr.cell? ⟨b, off + k * 7 + 3, none⟩ = some (.int .i64 (c3 k)) := (keepc hBw b (by omega) _).trans (hr 3 _ rfl)
      have q4 : wr.cell? ⟨b, off + k * 7 + 4, none⟩ = some (.int .i64 (c4 k)) := (keepc hBw b (by omega) _).trans (hr 4 _ rfl)
      have q5 : wr.cell? ⟨b, off + k * 7 + 5, none⟩ = some (.int .i64 (c5 k)) := (keepc hBw b (by omega) _).trans (hr 5 _ rfl)
      have q6 : wr.cell? ⟨b, off + k * 7 + 6, none⟩ = some (.int .i64 (c6 k)) := (keepc hBw b (by omega) _).trans (hr 6 _ rfl)
      clear hrow hc hr
      go_wp2_with (first | (go_at_call 70; refine (toEntry_any _ _ _ _ _ _ _ _).mono ?_; rintro e w1 ⟨rfl, hb1⟩; have hN1 := hN.below hb1 hgs; have hg1 := Nat.lt_of_lt_of_le hgs hb1.size) | (refine wpList_store_next rfl 81 (.tmp 21) (.tmp 20) rfl (.agg #[.int .i64 (c0 k), .int .i64 (c1 k), .int .i64 (c2 k), .int .i64 (c3 k), .int .i64 (c4 k), .int .i64 (c5 k), .int .i64 (c6 k)]) hN1 hlt (fun _ => rfl) rfl rfl rfl (by kernel_rfl) (entryR_one _ _ _ _ _ _ _ _) ?_; intro w2 hN2 hg2 hs2))
      go_roundw
      case rel => exact ⟨k + 1, by omega, by go_num, hN2, Below.of_grown (Below.tr hBw hb1) hg2 (Nat.le_refl _)⟩
      case measure => simp [intOf]; omega
    · obtain rfl : k = n := by omega
      go_wp2
      go_ret
      exact ⟨_, rfl, Nat.le_refl _, hN, hBw⟩
set_option maxHeartbeats 1000000 in
theorem eqEntry_same (x0 : Int) (x1 : Int) (x2 : Int) (x3 : Int) (x4 : Int) (x5 : Int) (x6 : Int) (w : World) :
    Calls Try.prog 71 #[.agg #[.int .i64 x0, .int .i64 x1, .int .i64 x2, .int .i64 x3, .int .i64 x4, .int .i64 x5, .int .i64 x6], .agg #[.int .i64 x0, .int .i64 x1, .int .i64 x2, .int .i64 x3, .int .i64 x4, .int .i64 x5, .int .i64 x6]] w fun e w' => e = .returned (.bool true) ∧ Below w.heap.size w w' := by
  go_enter Try.func71, Try.ntmps71
  go_wp2
  go_ret
  exact ⟨rfl, by (repeat (first | exact Below.refl _ _ | assumption | refine Below.al ?_ _ | refine Below.dr ?_ | (refine Below.st ?_ (by simp <;> omega) _) | (refine Below.tr ?_ (by assumption))))⟩
set_option maxHeartbeats 2000000 in
theorem eqEntryS_same {w : World} {B : Nat} {A A' : Option Addr} {n c c' : Nat} {c0 : Nat → Int} {c1 : Nat → Int} {c2 : Nat → Int} {c3 : Nat → Int} {c4 : Nat → Int} {c5 : Nat → Int} {c6 : Nat → Int} (h : Rws w B 7 A n c (entryR c0 c1 c2 c3 c4 c5 c6)) (h' : Rws w B 7 A' n c' (entryR c0 c1 c2 c3 c4 c5 c6)) (hB : B ≤ w.heap.size) :
    Calls Try.prog 64 #[.slice A n c, .slice A' n c'] w fun e w' => e = .returned (.bool true) ∧ Below w.heap.size w w' := by
  obtain ⟨⟨hnc, hcm⟩, hrow⟩ := h
  obtain ⟨⟨hnc', hcm'⟩, hrow'⟩ := h'
  unfold maxLen at hcm hcm'
  go_enter Try.func64, Try.ntmps64
  go_wp2
  go_loopw [5] (fun i wr => ∃ k : Nat, k ≤ n ∧ i = .int .i64 k ∧ Below w.heap.size w wr) (fun i _ => n - (intOf i).toNat)
  case atStart => exact ⟨0, by omega, rfl, by (repeat (first | exact Below.refl _ _ | assumption | refine Below.al ?_ _ | refine Below.dr ?_ | (refine Below.st ?_ (by simp <;> omega) _) | (refine Below.tr ?_ (by assumption))))⟩
  case round =>
    obtain ⟨k, hk, rfl, hBw⟩ := hrel
    by_cases hlt : k < n
    · obtain ⟨b, off, rfl, hbB, hc⟩ := hrow (by omega)
      obtain ⟨b', off', rfl, hbB', hc'⟩ := hrow' (by omega)
      have hr := hc k hlt
      have hr' := hc' k hlt
      have hbs : b < wr.heap.size := by have := hBw.size; omega
      have hbs' : b' < wr.heap.size := by have := hBw.size; omega
      have q0 : wr.cell? ⟨b, off + k * 7, none⟩ = some (.int .i64 (c0 k)) := (keepc hBw b (by omega) _).trans (hr 0 _ rfl)
      have q1 : wr.cell? ⟨b, off + k * 7 + 1, none⟩ = some (.int .i64 (c1 k)) := (keepc hBw b (by omega) _).trans (hr 1 _ rfl)
      have q2 : wr.cell? ⟨b, off + k * 7 + 2, none⟩ = some (.int .i64 (c2 k)) := (keepc hBw b (by omega) _).trans (hr 2 _ rfl)
      have q3 : wr.cell? ⟨b, off + k * 7 + 3, none⟩ = some (.int .i64 (c3 k)) := (keepc hBw b (by omega) _).trans (hr 3 _ rfl)
      have q4 : wr.cell? ⟨b, off + k * 7 + 4, none⟩ = some (.int .i64 (c4 k)) := (keepc hBw b (by omega) _).trans (hr 4 _ rfl)
      have q5 : wr.cell? ⟨b, off + k * 7 + 5, none⟩ = some (.int .i64 (c5 k)) := (keepc hBw b (by omega) _).trans (hr 5 _ rfl)
      have q6 : wr.cell? ⟨b, off + k * 7 + 6, none⟩ = some (.int .i64 (c6 k)) := (keepc hBw b (by omega) _).trans (hr 6 _ rfl)
      have s0 : wr.cell? ⟨b', off' + k * 7, none⟩ = some (.int .i64 (c0 k)) := (keepc hBw b' (by omega) _).trans (hr' 0 _ rfl)
      have s1 : wr.cell? ⟨b', off' + k * 7 + 1, none⟩ = some (.int .i64 (c1 k)) := (keepc hBw b' (by omega) _).trans (hr' 1 _ rfl)
      have s2 : wr.cell? ⟨b', off' + k * 7 + 2, none⟩ = some (.int .i64 (c2 k)) := (keepc hBw b' (by omega) _).trans (hr' 2 _ rfl)
      have s3 : wr.cell? ⟨b', off' + k * 7 + 3, none⟩ = some (.int .i64 (c3 k)) := (keepc hBw b' (by omega) _).trans (hr' 3 _ rfl)
      have s4 : wr.cell? ⟨b', off' + k * 7 + 4, none⟩ = some (.int .i64 (c4 k)) := (keepc hBw b' (by omega) _).trans (hr' 4 _ rfl)
      have s5 : wr.cell? ⟨b', off' + k * 7 + 5, none⟩ = some (.int .i64 (c5 k)) := (keepc hBw b' (by omega) _).trans (hr' 5 _ rfl)
      have s6 : wr.cell? ⟨b', off' + k * 7 + 6, none⟩ = some (.int .i64 (c6 k)) := (keepc hBw b' (by omega) _).trans (hr' 6 _ rfl)
      clear hrow hc hr hrow' hc' hr'
      go_wp2
      refine wp_region_still (ds := [(0, 17), (1, 18), (2, 19), (3, 20), (4, 21), (5, 22), (6, 23), (7, 24), (8, 25), (9, 26)]) 10 (by kernel_rfl) (by kernel_rfl) (by first | exact .inl rfl | exact .inr (by kernel_rfl)) (by rfl) rfl rfl ?_
      apply still_cons
      · intro a' w' hLe hfr hdep
        have e0 := hfr 0 rfl
        conv at e0 => rhs; whnf
        have f0 := e0; simp only [Array.getD_eq_getD_getElem?] at f0
        refine wpOp_plain rfl rfl (fun K hK => ?_)
        go_simp
        exact hK _ _ ⟨rfl, Below.refl _ _⟩
      apply still_cons
      · intro a' w' hLe hfr hdep
        have e5 := hfr 5 rfl
        conv at e5 => rhs; whnf
        have f5 := e5; simp only [Array.getD_eq_getD_getElem?] at f5
        refine wpOp_plain rfl rfl (fun K hK => ?_)
        go_simp
        exact hK _ _ ⟨rfl, Below.refl _ _⟩
      apply still_cons
      · intro a' w' hLe hfr hdep
        have e17 := hdep 0 17 (Nat.le_of_ble_eq_true rfl) rfl rfl
        conv at e17 => rhs; whnf
        have f17 := e17; simp only [Array.getD_eq_getD_getElem?] at f17
        have e18 := hdep 1 18 (Nat.le_of_ble_eq_true rfl) rfl rfl
        conv at e18 => rhs; whnf
        have f18 := e18; simp only [Array.getD_eq_getD_getElem?] at f18
        refine wpOp_plain rfl rfl (fun K hK => ?_)
        go_simp
        exact hK _ _ ⟨rfl, Below.refl _ _⟩
      apply still_cons
      · intro a' w' hLe hfr hdep
        have e19 := hdep 2 19 (Nat.le_of_ble_eq_true rfl) rfl rfl
        conv at e19 => rhs; whnf
        have f19 := e19; simp only [Array.getD_eq_getD_getElem?] at f19
        have kc := fun i => keepc hLe (b) (by (try simp) <;> omega) i
        have kf := fun i => keepf hLe (b) (by (try simp) <;> omega) i
        have kc := fun i => keepc hLe (b') (by (try simp) <;> omega) i
        have kf := fun i => keepf hLe (b') (by (try simp) <;> omega) i
        refine wpOp_plain rfl rfl (fun K hK => ?_)
        go_simp
        exact hK _ _ ⟨rfl, Below.refl _ _⟩
      apply still_cons
      · intro a' w' hLe hfr hdep
        have e1 := hfr 1 rfl
        conv at e1 => rhs; whnf
        have f1 := e1; simp only [Array.getD_eq_getD_getElem?] at f1
        refine wpOp_plain rfl rfl (fun K hK => ?_)
        go_simp
        exact hK _ _ ⟨rfl, Below.refl _ _⟩
      apply still_cons
      · intro a' w' hLe hfr hdep
        have e5 := hfr 5 rfl
        conv at e5 => rhs; whnf
        have f5 := e5; simp only [Array.getD_eq_getD_getElem?] at f5
        refine wpOp_plain rfl rfl (fun K hK => ?_)
        go_simp
        exact hK _ _ ⟨rfl, Below.refl _ _⟩
      apply still_cons
      · intro a' w' hLe hfr hdep
        have e21 := hdep 4 21 (Nat.le_of_ble_eq_true rfl) rfl rfl
        conv at e21 => rhs; whnf
        have f21 := e21; simp only [Array.getD_eq_getD_getElem?] at f21
        have e22 := hdep 5 22 (Nat.le_of_ble_eq_true rfl) rfl rfl
        conv at e22 => rhs; whnf
        have f22 := e22; simp only [Array.getD_eq_getD_getElem?] at f22
        refine wpOp_plain rfl rfl (fun K hK => ?_)
        go_simp
        exact hK _ _ ⟨rfl, Below.refl _ _⟩
      apply still_cons
      · intro a' w' hLe hfr hdep
        have e23 := hdep 6 23 (Nat.le_of_ble_eq_true rfl) rfl rfl
        conv at e23 => rhs; whnf
        have f23 := e23; simp only [Array.getD_eq_getD_getElem?] at f23
        have kc := fun i => keepc hLe (b) (by (try simp) <;> omega) i
        have kf := fun i => keepf hLe (b) (by (try simp) <;> omega) i
        have kc := fun i => keepc hLe (b') (by (try simp) <;> omega) i
        have kf := fun i => keepf hLe (b') (by (try simp) <;> omega) i
        refine wpOp_plain rfl rfl (fun K hK => ?_)
        go_simp
        exact hK _ _ ⟨rfl, Below.refl _ _⟩
      apply still_cons
      · intro a' w' hLe hfr hdep
        have e20 := hdep 3 20 (Nat.le_of_ble_eq_true rfl) rfl rfl
        conv at e20 => rhs; whnf
        have f20 := e20; simp only [Array.getD_eq_getD_getElem?] at f20
        have e24 := hdep 7 24 (Nat.le_of_ble_eq_true rfl) rfl rfl
        conv at e24 => rhs; whnf
        have f24 := e24; simp only [Array.getD_eq_getD_getElem?] at f24
        refine wpOp_plain rfl rfl (fun K hK => ?_)
        go_simp
        refine (eqEntry_same _ _ _ _ _ _ _ _).mono ?_
        rintro e w2 ⟨rfl, hb⟩
        exact hK _ _ ⟨rfl, hb⟩
      apply still_cons
      · intro a' w' hLe hfr hdep
        have e25 := hdep 8 25 (Nat.le_of_ble_eq_true rfl) rfl rfl
        conv at e25 => rhs; whnf
        have f25 := e25; simp only [Array.getD_eq_getD_getElem?] at f25
        refine wpOp_plain rfl rfl (fun K hK => ?_)
        go_simp
        exact hK _ _ ⟨rfl, Below.refl _ _⟩
      apply still_nil
      intro w1 hb1
      simp only [putAll, List.drop_succ_cons, List.drop_zero]
      go_simp
      go_wp2
      go_roundw
      case rel => exact ⟨k + 1, by omega, by go_num, Below.tr hBw hb1⟩
      case measure => simp [intOf]; omega
    · obtain rfl : k = n := by omega
      go_wp2
      go_ret
      exact ⟨rfl, hBw⟩
set_option maxHeartbeats 400000 in
theorem szEntryS_any {A : Option Addr} {n c : Nat} (l : Int) (hn : n ≤ c) (hc : c ≤ maxLen) (h0 : 0 ≤ l) (h1 : l ≤ 1048576) (w : World) :
    Calls Try.prog 60 #[.slice A n c, .int .i64 l] w fun e w' => e = .returned (.int .i64 (szI n l)) ∧ w = w' := by
  unfold maxLen at hc
  unfold szI
  by_cases h : (n : Int) ≤ l
  · rw [if_pos h]
    go_enter Try.func60, Try.ntmps60
    go_wp2
    go_ret
    exact ⟨rfl, rfl⟩
  · rw [if_neg h]
    go_enter Try.func60, Try.ntmps60
    go_wp2
    go_ret
    exact ⟨rfl, rfl⟩

/-- A new Table whose slice lies in a block of its own. -/
def kbTable (B : Nat) (x0 x1 : Int) (n : Nat) (R : Nat → List Value) : KB :=
  ⟨fun v w => ∃ g, v = .agg #[.int .i64 x0, .int .i64 x1, .slice (some ⟨g, 0, none⟩) n n] ∧ B ≤ g ∧ New w g 81 7 n n R, fun _ _ _ ⟨g, h1, h2, h3⟩ hb => ⟨g, h1, h2, h3.below hb h3.lt⟩⟩
def MadeTable (w : World) (x0 x1 : Int) (n : Nat) (R : Nat → List Value) (e : Ending) (w' : World) : Prop :=
  ∃ g, e = .returned (.agg #[.int .i64 x0, .int .i64 x1, .slice (some ⟨g, 0, none⟩) n n]) ∧ w.heap.size ≤ g ∧ New w' g 81 7 n n R ∧ Below w.heap.size w w'
set_option maxHeartbeats 2000000 in
theorem toTable_any {w : World} {B : Nat} {A : Option Addr} {n c : Nat} {c0 : Nat → Int} {c1 : Nat → Int} {c2 : Nat → Int} {c3 : Nat → Int} {c4 : Nat → Int} {c5 : Nat → Int} {c6 : Nat → Int} (x0 x1 : Int) (h : Rws w B 7 A n c (entryR c0 c1 c2 c3 c4 c5 c6)) (hB : B ≤ w.heap.size) (hn : n ≤ 1048576) :
    Calls Try.prog 47 #[.agg #[.int .i64 x0, .int .i64 x1, .slice A n c]] w (MadeTable w x0 x1 n (entryR c0 c1 c2 c3 c4 c5 c6)) := by
  have HH := Lib.hid h
  clear h
  go_enter Try.func47, Try.ntmps47
  go_wp2_with fail
  refine (toEntryS_any (HH.out.below ((show Below w.heap.size w _ by (repeat (first | exact Below.refl _ _ | assumption | refine Below.al ?_ _ | refine Below.dr ?_ | (refine Below.st ?_ (by simp <;> omega) _) | (refine Below.tr ?_ (by assumption))))).mono hB)) (by simp <;> omega) hn).mono ?_
  rintro e w1 ⟨g, rfl, hg, hN, hb⟩
  have hB1 : Below w.heap.size w w1 := Below.tr (by (repeat (first | exact Below.refl _ _ | assumption | refine Below.al ?_ _ | refine Below.dr ?_ | (refine Below.st ?_ (by simp <;> omega) _) | (refine Below.tr ?_ (by assumption))))) hb
  have hR := (hb.block (w.heap.size + 1) (by simp <;> omega)).trans ((heap_alloc_old _ _ (by simp <;> omega)).trans (heap_new1 w _ _))
  have hO := (hb.block (w.heap.size + 1 + 1) (by simp <;> omega)).trans (heap_new2 w _ _ _)
  have hgl := hN.lt
  simp at hg
  clear hb
  go_wp2_with (refine wpList_store_at rfl 33 (.tmp 13) (.tmp 12) rfl (.slice (some ⟨g, 0, none⟩) n n) #[.int .i64 x0, .int .i64 x1, .slice (some ⟨g, 0, none⟩) n n] hO rfl rfl (by kernel_rfl) rfl rfl (by simp) rfl ?_)
  intro w2 hh2 hg2 hs2
  obtain ⟨k2, f2⟩ := blk hh2
  have hR2 := heap_far hR hg2 (by omega)
  have hN2 := hN.keep (hg2.block g hgl (by simp <;> omega))
  have hB2 := Below.of_grown hB1 hg2 (by omega)
  have hz2 := heap_lt hh2
  clear hR hO hh2 hN hB1
  go_wp2_with (refine wpList_store_var rfl 35 (.tmp 2) (.tmp 14) rfl #[.int .i64 x0, .int .i64 x1, .slice (some ⟨g, 0, none⟩) n n] hR2 rfl rfl (by kernel_rfl) rfl rfl ?_)
  intro w9 hh9 hg9 hs9
  obtain ⟨k9, f9⟩ := blk hh9
  have hN9 := hN2.keep (hg9.block g (by omega) (by simp <;> omega))
  go_wp2
  refine bodyPost_ret (v := .agg #[.int .i64 x0, .int .i64 x1, .slice (some ⟨g, 0, none⟩) n n]) (by simp [results, Try.results47, go_sem, k9]) rfl ⟨g, rfl, by omega, hN9, Below.of_grown hB2 hg9 (by omega)⟩
set_option maxHeartbeats 2000000 in
theorem eqTable_same {w : World} {B : Nat} {A A' : Option Addr} {n c c' : Nat} {c0 : Nat → Int} {c1 : Nat → Int} {c2 : Nat → Int} {c3 : Nat → Int} {c4 : Nat → Int} {c5 : Nat → Int} {c6 : Nat → Int} (x0 x1 : Int) (h : Rws w B 7 A n c (entryR c0 c1 c2 c3 c4 c5 c6)) (h' : Rws w B 7 A' n c' (entryR c0 c1 c2 c3 c4 c5 c6)) (hB : B ≤ w.heap.size) :
    Calls Try.prog 49 #[.agg #[.int .i64 x0, .int .i64 x1, .slice A n c], .agg #[.int .i64 x0, .int .i64 x1, .slice A' n c']] w fun e w' => e = .returned (.bool true) ∧ Below w.heap.size w w' := by
  have HH := Lib.hid h
  have HH' := Lib.hid h'
  clear h h'
  go_enter Try.func49, Try.ntmps49
  go_wp2_with (go_at_call 64; refine (eqEntryS_same (HH.out.below ((show Below w.heap.size w _ by (repeat (first | exact Below.refl _ _ | assumption | refine Below.al ?_ _ | refine Below.dr ?_ | (refine Below.st ?_ (by simp <;> omega) _) | (refine Below.tr ?_ (by assumption))))).mono hB)) (HH'.out.below ((show Below w.heap.size w _ by (repeat (first | exact Below.refl _ _ | assumption | refine Below.al ?_ _ | refine Below.dr ?_ | (refine Below.st ?_ (by simp <;> omega) _) | (refine Below.tr ?_ (by assumption))))).mono hB)) (by simp <;> omega)).mono ?_; rintro e w1 ⟨rfl, hb⟩)
  go_ret
  exact ⟨rfl, by (repeat (first | exact Below.refl _ _ | assumption | refine Below.al ?_ _ | refine Below.dr ?_ | (refine Below.st ?_ (by simp <;> omega) _) | (refine Below.tr ?_ (by assumption))))⟩
set_option maxHeartbeats 1000000 in
theorem szTable_any {A : Option Addr} {n c : Nat} (x0 x1 l : Int) (hn : n ≤ c) (hc : c ≤ maxLen) (h0 : 0 ≤ l) (h1 : l ≤ 1048576) (w : World) :
    Calls Try.prog 45 #[.agg #[.int .i64 x0, .int .i64 x1, .slice A n c], .int .i64 l] w fun e w' => e = .returned (.int .i64 (szI n l)) ∧ Below w.heap.size w w' := by
  by_cases h : (n : Int) ≤ l
  · have hsz : szI n l = l - n := if_pos h
    go_enter Try.func45, Try.ntmps45
    go_wp2_with (go_at_call 60; refine (szEntryS_any l hn hc h0 h1 _).mono ?_; rintro e w1 ⟨rfl, rfl⟩)
    go_ret
    exact ⟨by rw [hsz] <;> rfl, by (repeat (first | exact Below.refl _ _ | assumption | refine Below.al ?_ _ | refine Below.dr ?_ | (refine Below.st ?_ (by simp <;> omega) _) | (refine Below.tr ?_ (by assumption))))⟩
  · have hsz : szI n l = -1 := if_neg h
    go_enter Try.func45, Try.ntmps45
    go_wp2_with (go_at_call 60; refine (szEntryS_any l hn hc h0 h1 _).mono ?_; rintro e w1 ⟨rfl, rfl⟩)
    go_ret
    exact ⟨by rw [hsz] <;> rfl, by (repeat (first | exact Below.refl _ _ | assumption | refine Below.al ?_ _ | refine Below.dr ?_ | (refine Below.st ?_ (by simp <;> omega) _) | (refine Below.tr ?_ (by assumption))))⟩

end Go.Proofs.Ytbnfllpimnnmfaa
