/-
  A drawn number of a host.
-/
import Derived.Test.YtbnfllpimnnmfaaDev
import Derived.Test.YtbnfllpimnnmfaaDkP
namespace Go.Proofs.Ytbnfllpimnnmfaa
open Go Go.RowKit

theorem i64_bounds {n : Int} (h : (Lit.int .i64 n).wf = true) : -9223372036854775808 ≤ n ∧ n ≤ 9223372036854775807 := by
  simpa [Lit.wf, IntKind.min, IntKind.max, IntKind.signed, IntKind.bits] using h
theorem Own.farN {w w' : World} {B g : Nat} {t : TypeId} {m : Nat} {A : Option Addr} {n c : Nat} {R : Nat → List Value} (h : Own w B t m A n c R) (hg : w.grownBy w' (some g)) (hl : g < B) : Own w' B t m A n c R :=
  h.keep fun k hk hlt _ => hg.block k hlt (by simp; omega)
set_option maxHeartbeats 8000000 in
theorem l20Number_any {w : World} {B g Bp : Nat} {A : Option Addr} {m c p : Nat} (h : Rd w B g A m c p) {Ap : Option Addr} {np cp : Nat} {a b d : Nat → Int} (hO : Own w Bp 78 3 Ap np cp (hostR a b d)) (hgB : g < Bp) (hpl : ∀ i, Plain [true, true, true] (hostR a b d i)) (hnp : np ≤ 100) (hp2 : p ≤ 500000000) :
    Calls Try.prog 69 #[(.pointer (some ⟨g, 0, none⟩)), .slice Ap np cp] w (Drawn w B g A m c p 2 (kInt g g (fun _ => False) (-9223372036854775808) 9223372036854775807)) := by
  have hcp := hO.1
  have hnc := hO.2.1
  unfold maxLen at hcp
  go_enter Try.func69, Try.ntmps69
  rcases Nat.eq_zero_or_pos np with rfl | hpos
  · go_wp2_with fail
    refine (pick_any h _ (by omega)).mono ?_
    rintro e w3 ⟨k3, rfl, hk, hr3, hg3, hs3⟩
    have hk1 := hk.1; have hk2 := hk.2.1 (by omega); clear hk
    go_wp2_with fail
    go_ret
    exact ⟨_, _, rfl, ⟨_, rfl, by omega, by omega⟩, by omega, hr3, hg3⟩
  · have hpz : decide ((0 : Int) < (np : Int)) = true := by simp; omega
    go_wp2_with fail
    refine (pick_any h _ (by omega)).mono ?_
    rintro e w3 ⟨k3, rfl, hk, hr3, hg3, hs3⟩
    have hk1 := hk.1; clear hk
    have hO3 := hO.farN hg3 hgB
    by_cases hk0 : 0 < k3
    · go_wp2_with fail
      refine (pick_any hr3 _ (by omega)).mono ?_
      rintro e w4 ⟨k4, rfl, hk, hr4, hg4, hs4⟩
      have hk3 := hk.1; have hk4 := hk.2.1 (by omega); clear hk
      obtain ⟨i4, rfl⟩ := Int.eq_ofNat_of_zero_le hk3
      have hi4 : i4 < np := by omega
      have hi4I : (i4 : Int) < (np : Int) := by omega
      have hO4 := hO3.farN hg4 hgB
      obtain ⟨g', rfl, hBg', cs, h1, h2, h3, h4⟩ := hO4.at_ hpos
      have p0 : w4.cell? ⟨g', i4 * 3, none⟩ = some (.int .i64 (a i4)) := by
        rw [(blk h1).1]
        exact h4 i4 hi4 0 _ rfl
      obtain ⟨x, u, e1, hwf, _⟩ := hpl i4
      have hab : -9223372036854775808 ≤ a i4 ∧ a i4 ≤ 9223372036854775807 := by
        have : a i4 = x := by
          have := congrArg List.head? e1
          simpa [hostR] using this
        rw [this]
        exact i64_bounds hwf
      go_wp2_with fail
      go_ret
      exact ⟨_, _, rfl, ⟨_, rfl, hab.1, hab.2⟩, by omega, hr4, grown_trans hg3 hg4⟩
    · have hk03 : decide (0 < k3) = false := by simp; omega
      go_wp2_with fail
      refine (pick_any hr3 _ (by omega)).mono ?_
      rintro e w4 ⟨k4, rfl, hk, hr4, hg4, hs4⟩
      have hk3 := hk.1; have hk4 := hk.2.1 (by omega); clear hk
      go_wp2_with fail
      go_ret
      exact ⟨_, _, rfl, ⟨_, rfl, by omega, by omega⟩, by omega, hr4, grown_trans hg3 hg4⟩
end Go.Proofs.Ytbnfllpimnnmfaa
