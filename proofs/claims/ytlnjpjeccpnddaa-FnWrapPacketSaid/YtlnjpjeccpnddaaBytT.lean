/-
  Slices of bytes as the laws copy, compare and mark them.
-/
import Derived.Test.YtlnjpjeccpnddaaMem
import Derived.Test.YtlnjpjeccpnddaaReg
import Derived.Test.YtlnjpjeccpnddaaStill
import Derived.Test.YtlnjpjeccpnddaaFree
import Derived.Test.YtlnjpjeccpnddaaOwn
namespace Go.Proofs.Ytlnjpjeccpnddaa
open Go.RowKit

/-- The rows of a slice of bytes. -/
def byteR (c0 : Nat → Nat) (i : Nat) : List Value := [.int .u8 (c0 i : Nat)]
theorem byteR_one (c0 : Nat → Nat) (k : Nat) : ∀ u ∈ byteR c0 k, u.oneCell' = true := by
  intro u hu
  simp only [byteR, List.mem_cons, List.not_mem_nil, or_false] at hu
  rcases hu with rfl <;> rfl
theorem Rws.bytes {w : World} {B : Nat} {A : Option Addr} {n c : Nat} {c0 : Nat → Nat} (h : Rws w B 1 A n c (byteR c0)) (hb : ∀ i, c0 i ≤ 255) : Bytes w B A n c :=
  ⟨h.1, fun hn => by
    obtain ⟨b, off, e, hB, hc⟩ := h.2 hn
    exact ⟨b, off, e, hB, c0, hb, fun i hi => by have := hc i hi 0 _ rfl; rw [Nat.mul_one, Nat.add_zero] at this; exact this⟩⟩
theorem Bytes.rows {w : World} {B : Nat} {A : Option Addr} {n c : Nat} (h : Bytes w B A n c) : ∃ c0 : Nat → Nat, (∀ i, c0 i ≤ 255) ∧ Rws w B 1 A n c (byteR c0) := by
  rcases Nat.eq_zero_or_pos n with rfl | hn
  · exact ⟨fun _ => 0, fun _ => Nat.zero_le _, h.1, fun h => absurd h (by omega)⟩
  · obtain ⟨b, off, e, hB, z, hz, hc⟩ := h.2 hn
    refine ⟨z, hz, h.1, fun _ => ⟨b, off, e, hB, fun i hi j v hv => ?_⟩⟩
    cases j with
    | zero =>
      have : Value.int .u8 (z i : Nat) = v := by simpa [byteR] using hv
      subst this
      rw [Nat.mul_one, Nat.add_zero]
      exact hc i hi
    | succ j => simp [byteR] at hv

theorem info_byte : (Try.prog.info? 5).map (fun i => (i.zero, i.size, i.bytes)) = some (some (.int .u8 0), 1, 1) := by kernel_rfl
set_option maxHeartbeats 2000000 in
theorem toByteS_any {w : World} {B : Nat} {A : Option Addr} {n c : Nat} {c0 : Nat → Nat} (h : Rws w B 1 A n c (byteR c0)) (hB : B ≤ w.heap.size) (hn : n ≤ 1048576) :
    Calls Try.prog 30 #[.slice A n c] w (Made w 5 1 n (byteR c0)) := by
  obtain ⟨iT, hi, hz, hs, hb⟩ := info_parts info_byte
  have hmk := run_make_rows (P := Try.prog) 22 5 iT _ 1 Try.underlying22 hi hz hs n (by rw [hb]; omega) (by omega)
  obtain ⟨⟨hnc, hcm⟩, hrow⟩ := h
  unfold maxLen at hcm
  clear hi hz hs hb
  go_enter Try.func30, Try.ntmps30
  go_wp2
  clear hmk
  go_loopw [4] (fun i wr => ∃ k : Nat, k ≤ n ∧ i = .int .i64 k ∧ New wr w.heap.size 5 1 k n (byteR c0) ∧ Below w.heap.size w wr) (fun i _ => n - (intOf i).toNat)
  case atStart => exact ⟨0, by omega, rfl, by simpa using new_made w 5 _ 1 n _, by (repeat (first | exact Below.refl _ _ | assumption | refine Below.al ?_ _ | refine Below.dr ?_ | (refine Below.st ?_ (by simp <;> omega) _) | (refine Below.tr ?_ (by assumption))))⟩
  case round =>
    obtain ⟨k, hk, rfl, hN, hBw⟩ := hrel
    by_cases hlt : k < n
    · obtain ⟨b, off, rfl, hbB, hc⟩ := hrow (by omega)
      have hr := hc k hlt
      rw [Nat.mul_one] at hr
      have hbs : b < wr.heap.size := by have := hBw.size; omega
      have hgs := hN.lt
      have q0 : wr.cell? ⟨b, off + k, none⟩ = some (.int .u8 (c0 k : Nat)) := (keepc hBw b (by omega) _).trans (hr 0 _ rfl)
      clear hrow hc hr
      go_wp2_with (refine wpList_store_next1 rfl 5 (.tmp 20) (.tmp 19) rfl (.int .u8 (c0 k : Nat)) hN hlt (fun _ => rfl) rfl rfl rfl (by kernel_rfl) (byteR_one _ _) ?_; intro w2 hN2 hg2 hs2)
      go_roundw
      case rel => exact ⟨k + 1, by omega, by go_num, hN2, Below.of_grown hBw hg2 (Nat.le_refl _)⟩
      case measure => simp [intOf]; omega
    · obtain rfl : k = n := by omega
      go_wp2
      go_ret
      exact ⟨_, rfl, Nat.le_refl _, hN, hBw⟩
set_option maxHeartbeats 2000000 in
theorem eqByteS_same {w : World} {B : Nat} {A A' : Option Addr} {n c c' : Nat} {c0 : Nat → Nat} (h : Rws w B 1 A n c (byteR c0)) (h' : Rws w B 1 A' n c' (byteR c0)) (hB : B ≤ w.heap.size) :
    Calls Try.prog 31 #[.slice A n c, .slice A' n c'] w fun e w' => e = .returned (.bool true) ∧ Below w.heap.size w w' := by
  obtain ⟨⟨hnc, hcm⟩, hrow⟩ := h
  obtain ⟨⟨hnc', hcm'⟩, hrow'⟩ := h'
  unfold maxLen at hcm hcm'
  go_enter Try.func31, Try.ntmps31
  go_wp2
  go_loopw [5] (fun i wr => ∃ k : Nat, k ≤ n ∧ i = .int .i64 k ∧ Below w.heap.size w wr) (fun i _ => n - (intOf i).toNat)
  case atStart => exact ⟨0, by omega, rfl, by (repeat (first | exact Below.refl _ _ | assumption | refine Below.al ?_ _ | refine Below.dr ?_ | (refine Below.st ?_ (by simp <;> omega) _) | (refine Below.tr ?_ (by assumption))))⟩
  case round =>
    obtain ⟨k, hk, rfl, hBw⟩ := hrel
    by_cases hlt : k < n
    · obtain ⟨b, off, rfl, hbB, hc⟩ := hrow (by omega)
      obtain ⟨b', off', rfl, hbB', hc'⟩ := hrow' (by omega)
      have hr := hc k hlt
      rw [Nat.mul_one] at hr
      have hr' := hc' k hlt
      rw [Nat.mul_one] at hr'
      have hbs : b < wr.heap.size := by have := hBw.size; omega
      have hbs' : b' < wr.heap.size := by have := hBw.size; omega
      have q0 : wr.cell? ⟨b, off + k, none⟩ = some (.int .u8 (c0 k : Nat)) := (keepc hBw b (by omega) _).trans (hr 0 _ rfl)
      have s0 : wr.cell? ⟨b', off' + k, none⟩ = some (.int .u8 (c0 k : Nat)) := (keepc hBw b' (by omega) _).trans (hr' 0 _ rfl)
      clear hrow hc hr hrow' hc' hr'
      go_wp2
      refine wp_region_still (ds := [(0, 17), (1, 18), (2, 19), (3, 20), (4, 21), (5, 22), (6, 23), (7, 24), (8, 25)]) 9 (by kernel_rfl) (by kernel_rfl) (by first | exact .inl rfl | exact .inr (by kernel_rfl)) (by rfl) rfl rfl ?_
      apply still_cons
      · intro a' w' hLe hfr hdep
        have e0 := hfr 0 rfl
        conv at e0 => rhs; whnf
        have f0 := e0; simp only [Array.getD_eq_getD_getElem?] at f0
        refine wpOp_plain rfl rfl (fun K hK => ?_)
        go_simp
        exact hK _ _ ⟨rfl, Below.refl _ _⟩
      apply still_cons
      · intro a' w' hLe hfr hdep
        have e5 := hfr 5 rfl
        conv at e5 => rhs; whnf
        have f5 := e5; simp only [Array.getD_eq_getD_getElem?] at f5
        refine wpOp_plain rfl rfl (fun K hK => ?_)
        go_simp
        exact hK _ _ ⟨rfl, Below.refl _ _⟩
      apply still_cons
      · intro a' w' hLe hfr hdep
        have e17 := hdep 0 17 (Nat.le_of_ble_eq_true rfl) rfl rfl
        conv at e17 => rhs; whnf
        have f17 := e17; simp only [Array.getD_eq_getD_getElem?] at f17
        have e18 := hdep 1 18 (Nat.le_of_ble_eq_true rfl) rfl rfl
        conv at e18 => rhs; whnf
        have f18 := e18; simp only [Array.getD_eq_getD_getElem?] at f18
        refine wpOp_plain rfl rfl (fun K hK => ?_)
        go_simp
        exact hK _ _ ⟨rfl, Below.refl _ _⟩
      apply still_cons
      · intro a' w' hLe hfr hdep
        have e19 := hdep 2 19 (Nat.le_of_ble_eq_true rfl) rfl rfl
        conv at e19 => rhs; whnf
        have f19 := e19; simp only [Array.getD_eq_getD_getElem?] at f19
        have kc := fun i => keepc hLe (b) (by (try simp) <;> omega) i
        have kf := fun i => keepf hLe (b) (by (try simp) <;> omega) i
        have kc := fun i => keepc hLe (b') (by (try simp) <;> omega) i
        have kf := fun i => keepf hLe (b') (by (try simp) <;> omega) i
        refine wpOp_plain rfl rfl (fun K hK => ?_)
        go_simp
        exact hK _ _ ⟨rfl, Below.refl _ _⟩
      apply still_cons
      · intro a' w' hLe hfr hdep
        have e1 := hfr 1 rfl
        conv at e1 => rhs; whnf
        have f1 := e1; simp only [Array.getD_eq_getD_getElem?] at f1
        refine wpOp_plain rfl rfl (fun K hK => ?_)
        go_simp
        exact hK _ _ ⟨rfl, Below.refl _ _⟩
      apply still_cons
      · intro a' w' hLe hfr hdep
        have e5 := hfr 5 rfl
        conv at e5 => rhs; whnf
        have f5 := e5; simp only [Array.getD_eq_getD_getElem?] at f5
        refine wpOp_plain rfl rfl (fun K hK => ?_)
        go_simp
        exact hK _ _ ⟨rfl, Below.refl _ _⟩
      apply still_cons
      · intro a' w' hLe hfr hdep
        have e21 := hdep 4 21 (Nat.le_of_ble_eq_true rfl) rfl rfl
        conv at e21 => rhs; whnf
        have f21 := e21; simp only [Array.getD_eq_getD_getElem?] at f21
        have e22 := hdep 5 22 (Nat.le_of_ble_eq_true rfl) rfl rfl
        conv at e22 => rhs; whnf
        have f22 := e22; simp only [Array.getD_eq_getD_getElem?] at f22
        refine wpOp_plain rfl rfl (fun K hK => ?_)
        go_simp
        exact hK _ _ ⟨rfl, Below.refl _ _⟩
      apply still_cons
      · intro a' w' hLe hfr hdep
        have e23 := hdep 6 23 (Nat.le_of_ble_eq_true rfl) rfl rfl
        conv at e23 => rhs; whnf
        have f23 := e23; simp only [Array.getD_eq_getD_getElem?] at f23
        have kc := fun i => keepc hLe (b) (by (try simp) <;> omega) i
        have kf := fun i => keepf hLe (b) (by (try simp) <;> omega) i
        have kc := fun i => keepc hLe (b') (by (try simp) <;> omega) i
        have kf := fun i => keepf hLe (b') (by (try simp) <;> omega) i
        refine wpOp_plain rfl rfl (fun K hK => ?_)
        go_simp
        exact hK _ _ ⟨rfl, Below.refl _ _⟩
      apply still_cons
      · intro a' w' hLe hfr hdep
        have e20 := hdep 3 20 (Nat.le_of_ble_eq_true rfl) rfl rfl
        conv at e20 => rhs; whnf
        have f20 := e20; simp only [Array.getD_eq_getD_getElem?] at f20
        have e24 := hdep 7 24 (Nat.le_of_ble_eq_true rfl) rfl rfl
        conv at e24 => rhs; whnf
        have f24 := e24; simp only [Array.getD_eq_getD_getElem?] at f24
        refine wpOp_plain rfl rfl (fun K hK => ?_)
        go_simp
        exact hK _ _ ⟨rfl, Below.refl _ _⟩
      apply still_nil
      intro w1 hb1
      simp only [putAll, List.drop_succ_cons, List.drop_zero]
      go_simp
      go_wp2
      go_roundw
      case rel => exact ⟨k + 1, by omega, by go_num, Below.tr hBw hb1⟩
      case measure => simp [intOf]; omega
    · obtain rfl : k = n := by omega
      go_wp2
      go_ret
      exact ⟨rfl, hBw⟩
/-- The rows that 'mark' leaves: numbers in order. -/
def markByte (k0 : Int) (i : Nat) : List Value := [.int .u8 ((k0 + 1 * (i : Int)) % 256)]
set_option maxHeartbeats 2000000 in
theorem markByteS_new {w : World} {g n c : Nat} {Q : Nat → List Value} (k0 : Int) (h : New w g 5 1 n c Q) (hc : c ≤ maxLen) (h0 : 0 ≤ k0) (h1 : k0 ≤ 1000000000) (hn : n ≤ 1000000000) :
    Calls Try.prog 32 #[.slice (some ⟨g, 0, none⟩) n c, .int .i64 k0] w fun e w' => e = .returned (.int .i64 (k0 + 1 * (n : Int))) ∧ New w' g 5 1 n c (markByte k0) ∧ w.grownBy w' (some g) := by
  have hH := h
  obtain ⟨_, _, _, hnc, _⟩ := hH
  unfold maxLen at hc
  have HH := Lib.hid (h.fewer 0 (Nat.zero_le _))
  clear h
  go_enter Try.func32, Try.ntmps32
  go_wp2
  go_loopw [1, 5] (fun q i wr => ∃ k : Nat, k ≤ n ∧ i = .int .i64 k ∧ q = .int .i64 (k0 + 1 * (k : Int)) ∧ New wr g 5 1 k c (markByte k0) ∧ w.grownBy wr (some g)) (fun _ i _ => n - (intOf i).toNat)
  case atStart => exact ⟨0, by omega, rfl, by simp, HH.out.congr (fun i hi => absurd hi (by omega)), World.grownBy.refl w _⟩
  case round =>
    obtain ⟨k, hk, rfl, rfl, hN, hg⟩ := hrel
    by_cases hlt : k < n
    · have hgs := hN.lt
      have hfr := hN.free
      obtain ⟨o0, q0⟩ := hN.is (k) (by omega)
      have HN := Lib.hid hN
      clear hN
      go_wp2
      go_roundw
      case rel => exact ⟨k + 1, by omega, by go_num, by simp <;> omega, by simpa [setsFrom, markByte] using new_sets (R := markByte k0) HN.out (by omega) (fun _ => rfl), by simpa [setsFrom, markByte] using setsFrom_grown (markByte k0 k) _ _ _ k hg⟩
      case measure => simp [intOf]; omega
    · obtain rfl : k = n := by omega
      go_wp2
      go_ret
      exact ⟨rfl, hN, hg⟩
set_option maxHeartbeats 1000000 in
theorem markByteS_nil {A : Option Addr} {c : Nat} (k0 : Int) (h0 : 0 ≤ k0) (h1 : k0 ≤ 1000000000) (w : World) :
    Calls Try.prog 32 #[.slice A 0 c, .int .i64 k0] w fun e w' => e = .returned (.int .i64 k0) ∧ w = w' := by
  go_enter Try.func32, Try.ntmps32
  go_wp2
  go_loop [1, 5] (fun q i => q = .int .i64 k0 ∧ i = .int .i64 0) (fun _ _ => 0)
  case atStart => exact ⟨rfl, rfl⟩
  case round =>
    obtain ⟨rfl, rfl⟩ := hrel
    go_wp2
    go_ret
    exact ⟨rfl, rfl⟩
/-- 'mark' on a slice of one's own. -/
theorem markByteS_any {w : World} {B : Nat} {A : Option Addr} {n c : Nat} {Q : Nat → List Value} (k0 : Int) (h : Own w B 5 1 A n c Q) (h0 : 0 ≤ k0) (h1 : k0 ≤ 1000000000) (hn : n ≤ 1000000000) :
    Calls Try.prog 32 #[.slice A n c, .int .i64 k0] w fun e w' => e = .returned (.int .i64 (k0 + 1 * (n : Int))) ∧ Own w' B 5 1 A n c (markByte k0) ∧ (∀ D C, Lies A n D C → WroteIn w w' D C) := by
  rcases Nat.eq_zero_or_pos n with rfl | hp
  · refine (markByteS_nil k0 h0 h1 w).mono ?_
    rintro e w' ⟨rfl, rfl⟩
    exact ⟨by simp, Own.nil _ _ _ _ _ _ _ h.1, fun D C hl => WroteIn.of (Wrote.refl _ _) (fun _ => rfl) hl⟩
  · obtain ⟨g, rfl, hB, hN⟩ := h.at_ hp
    refine (markByteS_new k0 hN h.1 h0 h1 hn).mono ?_
    rintro e w' ⟨rfl, hN', hg⟩
    exact ⟨rfl, Own.of_new hN' h.1 hB, fun D C hl => WroteIn.of (Wrote.of_grown hg) (fun h0 => by omega) hl⟩
set_option maxHeartbeats 2000000 in
theorem heldByteS_same {w : World} {B : Nat} {A : Option Addr} {n c : Nat} (k0 : Int) (h : Rws w B 1 A n c (markByte k0)) (hB : B ≤ w.heap.size) (h0 : 0 ≤ k0) (h1 : k0 ≤ 1000000000) (hn : n ≤ 1000000000) :
    Calls Try.prog 33 #[.slice A n c, .int .i64 k0] w fun e w' => e = .returned (.int .i64 (k0 + 1 * (n : Int))) ∧ w = w' := by
  obtain ⟨⟨hnc, hcm⟩, hrow⟩ := h
  unfold maxLen at hcm
  go_enter Try.func33, Try.ntmps33
  go_wp2
  go_loop [1, 5] (fun q i => ∃ k : Nat, k ≤ n ∧ i = .int .i64 k ∧ q = .int .i64 (k0 + 1 * (k : Int))) (fun _ i => n - (intOf i).toNat)
  case atStart => exact ⟨0, by omega, rfl, by simp⟩
  case round =>
    obtain ⟨k, hk, rfl, rfl⟩ := hrel
    by_cases hlt : k < n
    · obtain ⟨b, off, rfl, hbB, hc⟩ := hrow (by omega)
      have hr := hc k hlt
      rw [Nat.mul_one] at hr
      have hbs : b < w.heap.size := by omega
      have q0 : w.cell? ⟨b, off + k, none⟩ = some (.int .u8 ((k0 + 1 * (k : Int)) % 256)) := hr 0 _ rfl
      clear hrow hc hr
      go_wp2
      go_round
      case rel => exact ⟨k + 1, by omega, by go_num, by simp <;> omega⟩
      case measure => simp [intOf]; omega
    · obtain rfl : k = n := by omega
      go_wp2
      go_ret
      exact ⟨rfl, rfl⟩
set_option maxHeartbeats 400000 in
theorem szByteS_any {A : Option Addr} {n c : Nat} (l : Int) (hn : n ≤ c) (hc : c ≤ maxLen) (h0 : 0 ≤ l) (h1 : l ≤ 1048576) (w : World) :
    Calls Try.prog 29 #[.slice A n c, .int .i64 l] w fun e w' => e = .returned (.int .i64 (szI n l)) ∧ w = w' := by
  unfold maxLen at hc
  unfold szI
  by_cases h : (n : Int) ≤ l
  · rw [if_pos h]
    go_enter Try.func29, Try.ntmps29
    go_wp2
    go_ret
    exact ⟨rfl, rfl⟩
  · rw [if_neg h]
    go_enter Try.func29, Try.ntmps29
    go_wp2
    go_ret
    exact ⟨rfl, rfl⟩

end Go.Proofs.Ytlnjpjeccpnddaa

