/-
  SumOf: the check byte of a packet's bytes.
-/
import Derived.Test.YtlnjpjeccpnddaaPktL
namespace Go.Proofs.Ytlnjpjeccpnddaa
open Go Go.RowKit

def sumB (z : Nat → Nat) : Nat → Nat
  | 0 => 0
  | n + 1 => sumB z n + z n
theorem sumB_le {z : Nat → Nat} (h : ∀ i, z i ≤ 255) : ∀ n, sumB z n ≤ 255 * n
  | 0 => Nat.le_refl _
  | n + 1 => by
    have h1 := sumB_le h n
    have h2 := h n
    simp only [sumB]
    omega
def sumOf (z : Nat → Nat) (n : Nat) : Int := 255 - ((sumB z n : Nat) : Int) % 255
set_option maxHeartbeats 4000000 in
theorem implSumOf_any {w : World} {B : Nat} {A : Option Addr} {n c : Nat} {z : Nat → Nat} (h : Rws w B 1 A n c (byteR z)) (hz : ∀ i, z i ≤ 255) (hn : n ≤ 100000) :
    Calls Try.prog 42 #[.slice A n c] w fun e w' => e = .returned (.int .i64 (sumOf z n)) ∧ w' = w := by
  obtain ⟨⟨hnc, hcm⟩, hrow⟩ := h
  unfold maxLen at hcm
  go_enter Try.func42, Try.ntmps42
  go_wp2
  go_loopw [3, 8] (fun s i wr => ∃ k : Nat, k ≤ n ∧ s = .int .i64 (sumB z k : Nat) ∧ i = .int .i64 k ∧ wr = w) (fun _ i _ => n - (intOf i).toNat)
  case atStart => exact ⟨0, by omega, rfl, rfl, rfl⟩
  case round =>
    obtain ⟨k, hk, rfl, rfl, rfl⟩ := hrel
    have h1 := sumB_le hz k
    by_cases hlt : k < n
    · obtain ⟨b, off, rfl, hbB, hc⟩ := hrow (by omega)
      have q0 := hc k hlt 0 _ rfl
      simp only [Nat.mul_one, Nat.add_zero] at q0
      have h2 := hz k
      have hlt2 : (k : Int) < (n : Int) := by omega
      clear hrow hc
      go_wp2
      go_roundw
      case rel => exact ⟨k + 1, by omega, by go_num, by go_num, by trivial⟩
      case measure => simp [intOf]; omega
    · obtain rfl : k = n := by omega
      go_wp2
      go_ret
      exact ⟨rfl, rfl⟩
set_option maxHeartbeats 4000000 in
theorem specSumOf_any {w : World} {B : Nat} {A : Option Addr} {n c : Nat} {z : Nat → Nat} (h : Rws w B 1 A n c (byteR z)) (hz : ∀ i, z i ≤ 255) (hn : n ≤ 100000) :
    Calls Try.prog 43 #[.slice A n c] w fun e w' => e = .returned (.int .i64 (sumOf z n)) ∧ w' = w := by
  obtain ⟨⟨hnc, hcm⟩, hrow⟩ := h
  unfold maxLen at hcm
  go_enter Try.func43, Try.ntmps43
  go_wp2
  go_loopw [3, 4] (fun s i wr => ∃ k : Nat, k ≤ n ∧ s = .int .i64 (sumB z k : Nat) ∧ i = .int .i64 k ∧ wr = w) (fun _ i _ => n - (intOf i).toNat)
  case atStart => exact ⟨0, by omega, rfl, rfl, rfl⟩
  case round =>
    obtain ⟨k, hk, rfl, rfl, rfl⟩ := hrel
    have h1 := sumB_le hz k
    by_cases hlt : k < n
    · obtain ⟨b, off, rfl, hbB, hc⟩ := hrow (by omega)
      have q0 := hc k hlt 0 _ rfl
      simp only [Nat.mul_one, Nat.add_zero] at q0
      have h2 := hz k
      have hlt2 : (k : Int) < (n : Int) := by omega
      clear hrow hc
      go_wp2
      go_roundw
      case rel => exact ⟨k + 1, by omega, by go_num, by go_num, by trivial⟩
      case measure => simp [intOf]; omega
    · obtain rfl : k = n := by omega
      go_wp2
      go_ret
      exact ⟨rfl, rfl⟩
end Go.Proofs.Ytlnjpjeccpnddaa
