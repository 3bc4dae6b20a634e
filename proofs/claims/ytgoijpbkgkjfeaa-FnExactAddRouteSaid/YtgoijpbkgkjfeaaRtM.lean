/-
  Routes as the laws mark them.
-/
import Derived.Test.YtgoijpbkgkjfeaaRtT
import Derived.Test.YtgoijpbkgkjfeaaOwn
namespace Go.Proofs.Ytgoijpbkgkjfeaa
open Go.RowKit

/-- The rows that 'mark' leaves: numbers in order. -/
def markRoute (k0 : Int) (i : Nat) : List Value := [.int .i64 (k0 + 3 * (i : Int)), .int .i64 (k0 + 3 * (i : Int) + 1), .int .i64 (k0 + 3 * (i : Int) + 1 + 1)]
set_option maxHeartbeats 2000000 in
theorem markRouteS_new {w : World} {g n c : Nat} {Q : Nat → List Value} (k0 : Int) (h : New w g 27 3 n c Q) (hc : c ≤ maxLen) (h0 : 0 ≤ k0) (h1 : k0 ≤ 1000000000) (hn : n ≤ 1000000000) :
    Calls Try.prog 15 #[.slice (some ⟨g, 0, none⟩) n c, .int .i64 k0] w fun e w' => e = .returned (.int .i64 (k0 + 3 * (n : Int))) ∧ New w' g 27 3 n c (markRoute k0) ∧ w.grownBy w' (some g) := by
  have hH := h
  obtain ⟨_, _, _, hnc, _⟩ := hH
  unfold maxLen at hc
  have HH := Lib.hid (h.fewer 0 (Nat.zero_le _))
  clear h
  go_enter Try.func15, Try.ntmps15
  go_wp2
  go_loopw [1, 5] (fun q i wr => ∃ k : Nat, k ≤ n ∧ i = .int .i64 k ∧ q = .int .i64 (k0 + 3 * (k : Int)) ∧ New wr g 27 3 k c (markRoute k0) ∧ w.grownBy wr (some g)) (fun _ i _ => n - (intOf i).toNat)
  case atStart => exact ⟨0, by omega, rfl, by simp, HH.out.congr (fun i hi => absurd hi (by omega)), World.grownBy.refl w _⟩
  case round =>
    obtain ⟨k, hk, rfl, rfl, hN, hg⟩ := hrel
    by_cases hlt : k < n
    · have hgs := hN.lt
      have hfr := hN.free
      obtain ⟨o0, q0⟩ := hN.is (k * 3) (by omega)
      obtain ⟨o1, q1⟩ := hN.is (k * 3 + 1) (by omega)
      obtain ⟨o2, q2⟩ := hN.is (k * 3 + 2) (by omega)
      have HN := Lib.hid hN
      clear hN
      go_wp2
      go_roundw
      case rel => exact ⟨k + 1, by omega, by go_num, by simp <;> omega, new_sets (R := markRoute k0) HN.out (by omega) (fun _ => rfl), setsFrom_grown (markRoute k0 k) _ _ _ (k * 3) hg⟩
      case measure => simp [intOf]; omega
    · obtain rfl : k = n := by omega
      go_wp2
      go_ret
      exact ⟨rfl, hN, hg⟩
set_option maxHeartbeats 1000000 in
theorem markRouteS_nil {A : Option Addr} {c : Nat} (k0 : Int) (h0 : 0 ≤ k0) (h1 : k0 ≤ 1000000000) (w : World) :
    Calls Try.prog 15 #[.slice A 0 c, .int .i64 k0] w fun e w' => e = .returned (.int .i64 k0) ∧ w = w' := by
  go_enter Try.func15, Try.ntmps15
  go_wp2
  go_loop [1, 5] (fun q i => q = .int .i64 k0 ∧ i = .int .i64 0) (fun _ _ => 0)
  case atStart => exact ⟨rfl, rfl⟩
  case round =>
    obtain ⟨rfl, rfl⟩ := hrel
    go_wp2
    go_ret
    exact ⟨rfl, rfl⟩
/-- 'mark' on a slice of one's own. -/
theorem markRouteS_any {w : World} {B : Nat} {A : Option Addr} {n c : Nat} {Q : Nat → List Value} (k0 : Int) (h : Own w B 27 3 A n c Q) (h0 : 0 ≤ k0) (h1 : k0 ≤ 1000000000) (hn : n ≤ 1000000000) :
    Calls Try.prog 15 #[.slice A n c, .int .i64 k0] w fun e w' => e = .returned (.int .i64 (k0 + 3 * (n : Int))) ∧ Own w' B 27 3 A n c (markRoute k0) ∧ (∀ D C, Lies A n D C → WroteIn w w' D C) := by
  rcases Nat.eq_zero_or_pos n with rfl | hp
  · refine (markRouteS_nil k0 h0 h1 w).mono ?_
    rintro e w' ⟨rfl, rfl⟩
    exact ⟨by simp, Own.nil _ _ _ _ _ _ _ h.1, fun D C hl => WroteIn.of (Wrote.refl _ _) (fun _ => rfl) hl⟩
  · obtain ⟨g, rfl, hB, hN⟩ := h.at_ hp
    refine (markRouteS_new k0 hN h.1 h0 h1 hn).mono ?_
    rintro e w' ⟨rfl, hN', hg⟩
    exact ⟨rfl, Own.of_new hN' h.1 hB, fun D C hl => WroteIn.of (Wrote.of_grown hg) (fun h0 => by omega) hl⟩
set_option maxHeartbeats 2000000 in
theorem heldRouteS_same {w : World} {B : Nat} {A : Option Addr} {n c : Nat} (k0 : Int) (h : Rws w B 3 A n c (markRoute k0)) (hB : B ≤ w.heap.size) (h0 : 0 ≤ k0) (h1 : k0 ≤ 1000000000) (hn : n ≤ 1000000000) :
    Calls Try.prog 16 #[.slice A n c, .int .i64 k0] w fun e w' => e = .returned (.int .i64 (k0 + 3 * (n : Int))) ∧ w = w' := by
  obtain ⟨⟨hnc, hcm⟩, hrow⟩ := h
  unfold maxLen at hcm
  go_enter Try.func16, Try.ntmps16
  go_wp2
  go_loop [1, 5] (fun q i => ∃ k : Nat, k ≤ n ∧ i = .int .i64 k ∧ q = .int .i64 (k0 + 3 * (k : Int))) (fun _ i => n - (intOf i).toNat)
  case atStart => exact ⟨0, by omega, rfl, by simp⟩
  case round =>
    obtain ⟨k, hk, rfl, rfl⟩ := hrel
    by_cases hlt : k < n
    · obtain ⟨b, off, rfl, hbB, hc⟩ := hrow (by omega)
      have hr := hc k hlt
      have hbs : b < w.heap.size := by omega
      have q0 : w.cell? ⟨b, off + k * 3, none⟩ = some (.int .i64 (k0 + 3 * (k : Int))) := hr 0 _ rfl
      have q1 : w.cell? ⟨b, off + k * 3 + 1, none⟩ = some (.int .i64 (k0 + 3 * (k : Int) + 1)) := hr 1 _ rfl
      have q2 : w.cell? ⟨b, off + k * 3 + 2, none⟩ = some (.int .i64 (k0 + 3 * (k : Int) + 1 + 1)) := hr 2 _ rfl
      clear hrow hc hr
      go_wp2
      go_round
      case rel => exact ⟨k + 1, by omega, by go_num, by simp <;> omega⟩
      case measure => simp [intOf]; omega
    · obtain rfl : k = n := by omega
      go_wp2
      go_ret
      exact ⟨rfl, rfl⟩

end Go.Proofs.Ytgoijpbkgkjfeaa
