/-
  PutPacket on any packet; the copy that the reference makes of a packet.
-/
import Derived.Test.YtlnjpjeccpnddaaPus
import Derived.Test.YtlnjpjeccpnddaaPkt
namespace Go.Proofs.Ytlnjpjeccpnddaa
open Go Go.RowKit

/-- How many bytes a packet has. -/
def putN (f t k l : Int) (n : Nat) : Nat := if pktB f t k l n then n + 6 else 0
/-- A packet's bytes. -/
def putZ (f t k l : Int) (n : Nat) (z : Nat → Nat) : Nat → Nat := pB n k.toNat l.toNat f.toNat t.toNat z
theorem implPutPacket_yesG {w : World} {B : Nat} {A : Option Addr} {n c : Nat} {z : Nat → Nat} (f t k l : Nat) (h : Rws w B 1 A n c (byteR z)) (hz : ∀ i, z i ≤ 255) (hB : B ≤ w.heap.size) (hv : pktB f t k l n = true) :
    Calls Try.prog 35 #[.agg #[.int .i64 (f : Nat), .int .i64 (t : Nat), .int .i64 (k : Nat), .int .i64 (l : Nat), .slice A n c]] w (Gives w 5 1 (n + 6) (byteR (pB n k l f t z))) := by
  refine (implPutPacket_yes f t k l h hz hB hv).mono ?_
  rintro e w' ⟨v, rfl, hA, hb⟩
  obtain ⟨A', c', rfl, hO⟩ := hA.own
  exact ⟨A', c', rfl, hO, hb⟩
set_option maxHeartbeats 4000000 in
theorem implPutPacket_any {w : World} {B : Nat} {A : Option Addr} {n c : Nat} {z : Nat → Nat} (f t k l : Int) (h : Rws w B 1 A n c (byteR z)) (hz : ∀ i, z i ≤ 255) (hB : B ≤ w.heap.size) :
    Calls Try.prog 35 #[.agg #[.int .i64 f, .int .i64 t, .int .i64 k, .int .i64 l, .slice A n c]] w (Gives w 5 1 (putN f t k l n) (byteR (putZ f t k l n z))) := by
  cases hv : pktB f t k l n with
  | true =>
    obtain ⟨⟨hf0, hf1⟩, ⟨ht0, ht1⟩, ⟨hk0, hk1⟩, ⟨hl0, hl1⟩, hn8⟩ := pktB_bd hv
    obtain ⟨f, rfl⟩ := Int.eq_ofNat_of_zero_le hf0
    obtain ⟨t, rfl⟩ := Int.eq_ofNat_of_zero_le ht0
    obtain ⟨k, rfl⟩ := Int.eq_ofNat_of_zero_le (show 0 ≤ k by omega)
    obtain ⟨l, rfl⟩ := Int.eq_ofNat_of_zero_le hl0
    rw [show putN (f : Int) t k l n = n + 6 by simp [putN, hv]]
    simp only [putZ, Int.toNat_natCast]
    exact implPutPacket_yesG f t k l h hz hB hv
  | false =>
    have HN := Lib.hid (show putN f t k l n = 0 by simp [putN, hv])
    have HV := Lib.hid hv
    clear hv
    go_enter Try.func35, Try.ntmps35
    go_wp2_with fail
    refine (implPacketValid_any f t k l _).mono ?_
    rintro e w1 ⟨rfl, hb1⟩
    rw [HV.out]
    have hB1 : Below w.heap.size w w1 := Below.tr (show Below w.heap.size w (w.alloc (.cells #[.int .i64 f, .int .i64 t, .int .i64 k, .int .i64 l, .slice A n c] 24)) by (repeat (first | exact Below.refl _ _ | assumption | refine Below.al ?_ _ | refine Below.dr ?_ | (refine Below.st ?_ (by simp <;> omega) _) | (refine Below.tr ?_ (by assumption))))) hb1
    go_wp2
    go_ret
    exact ⟨_, _, by rw [HN.out] <;> rfl, by rw [HN.out]; exact Own.nil _ _ _ _ _ _ _ (by unfold maxLen; omega), by first | exact hB1 | exact (hB1.alloc hB1.size _)⟩
set_option maxHeartbeats 4000000 in
theorem specPutPacket_any {w : World} {B : Nat} {A : Option Addr} {n c : Nat} {z : Nat → Nat} (f t k l : Int) (h : Rws w B 1 A n c (byteR z)) (hz : ∀ i, z i ≤ 255) (hB : B ≤ w.heap.size) :
    Calls Try.prog 37 #[.agg #[.int .i64 f, .int .i64 t, .int .i64 k, .int .i64 l, .slice A n c]] w (Gives w 5 1 (putN f t k l n) (byteR (putZ f t k l n z))) := by
  cases hv : pktB f t k l n with
  | true =>
    obtain ⟨⟨hf0, hf1⟩, ⟨ht0, ht1⟩, ⟨hk0, hk1⟩, ⟨hl0, hl1⟩, hn8⟩ := pktB_bd hv
    obtain ⟨f, rfl⟩ := Int.eq_ofNat_of_zero_le hf0
    obtain ⟨t, rfl⟩ := Int.eq_ofNat_of_zero_le ht0
    obtain ⟨k, rfl⟩ := Int.eq_ofNat_of_zero_le (show 0 ≤ k by omega)
    obtain ⟨l, rfl⟩ := Int.eq_ofNat_of_zero_le hl0
    rw [show putN (f : Int) t k l n = n + 6 by simp [putN, hv]]
    simp only [putZ, Int.toNat_natCast]
    exact specPutPacket_yes f t k l h hz hB hv
  | false =>
    have HN := Lib.hid (show putN f t k l n = 0 by simp [putN, hv])
    have HV := Lib.hid hv
    clear hv
    go_enter Try.func37, Try.ntmps37
    go_wp2_with fail
    refine (specPacketValid_any f t k l _).mono ?_
    rintro e w1 ⟨rfl, hb1⟩
    rw [HV.out]
    have hB1 : Below w.heap.size w w1 := Below.tr (show Below w.heap.size w (w.alloc (.cells #[.int .i64 f, .int .i64 t, .int .i64 k, .int .i64 l, .slice A n c] 24)) by (repeat (first | exact Below.refl _ _ | assumption | refine Below.al ?_ _ | refine Below.dr ?_ | (refine Below.st ?_ (by simp <;> omega) _) | (refine Below.tr ?_ (by assumption))))) hb1
    go_wp2
    go_ret
    exact ⟨_, _, by rw [HN.out] <;> rfl, by rw [HN.out]; exact Own.nil _ _ _ _ _ _ _ (by unfold maxLen; omega), by first | exact hB1 | exact (hB1.alloc hB1.size _)⟩
theorem pktB_bdI {f t k l : Int} {n : Nat} (h : pktB f t k l n = true) : (0 ≤ f ∧ f ≤ 255) ∧ (0 ≤ t ∧ t ≤ 255) ∧ (1 ≤ k ∧ k ≤ 3) ∧ (0 ≤ l ∧ l ≤ 64) ∧ n ≤ 80 := pktB_bd h
end Go.Proofs.Ytlnjpjeccpnddaa
