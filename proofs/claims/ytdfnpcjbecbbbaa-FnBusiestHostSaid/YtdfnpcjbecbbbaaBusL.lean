/-
  The law 'busiest hosts have most packets': its walk.
-/
import Derived.Test.YtdfnpcjbecbbbaaBus
import Derived.Test.YtdfnpcjbecbbbaaPoolD
import Derived.Test.YtdfnpcjbecbbbaaFlow
namespace Go.Proofs.Ytdfnpcjbecbbbaa
open Go.RowKit

theorem up_le {p : Nat → Int} {j : Nat} {M M' : Int} (h : ∀ i, i < j → p i ≤ M) (h1 : M ≤ M') (h2 : p j ≤ M') : ∀ i, i < j + 1 → p i ≤ M' := fun i hi => by
  by_cases hq : i < j
  · have := h i hq; omega
  · obtain rfl : i = j := by omega
    exact h2
theorem bIdx_max (p : Nat → Int) : ∀ n, p 0 ≤ p (bIdx p n) ∧ (∀ i, i < n → p i ≤ p (bIdx p n)) ∧ (0 < n → bIdx p n < n)
  | 0 => ⟨Int.le_refl _, fun i hi => absurd hi (by omega), fun h => absurd h (by omega)⟩
  | n + 1 => by
    obtain ⟨h0, h1, h2⟩ := bIdx_max p n
    by_cases h : p (bIdx p n) < p n
    · rw [bIdx_gt h]
      exact ⟨by omega, up_le h1 (by omega) (by omega), fun _ => by omega⟩
    · rw [bIdx_le h]
      refine ⟨h0, fun i hi => ?_, fun _ => ?_⟩
      · rcases Nat.lt_succ_iff_lt_or_eq.1 hi with hq | rfl
        · exact h1 i hq
        · omega
      · by_cases hq : 0 < n
        · have := h2 hq; omega
        · obtain rfl : n = 0 := by omega
          show bIdx p 0 < 1
          simp [bIdx]
theorem Asc.inj {a : Nat → Int} {n : Nat} {t : Int} (h : Asc a n t) {i j : Nat} (hi : i < n) (hj : j < n) (he : a i = a j) : i = j := by
  rcases Nat.lt_trichotomy i j with hq | hq | hq
  · have := h.2 i j hq hj; omega
  · exact hq
  · have := h.2 j i hq hi; omega

set_option maxHeartbeats 8000000 in
theorem busiestHost_walk {w : World} {A : Option Addr} {n c : Nat} (h : Bytes w w.heap.size A n c) :
    Calls Try.prog 4 #[.slice A n c] w (Truly w) := by
  by_cases hn : 1048576 < n
  · go_enter Try.func4, Try.ntmps4
    go_wp2
    go_ret
    exact ⟨rfl, Below.refl _ _⟩
  · go_enter Try.func4, Try.ntmps4
    go_wp2_with fail
    refine (drawBusiestHost_any h).mono ?_
    rintro e w1 ⟨A', nn, c', a, p, y, rfl, hnn, hA, hF, hO, hb⟩
    have HR1 := Lib.hid hO.rows
    have hrow := hO.rows.2
    have hncc := hO.2.1
    have hccm := hO.1
    unfold maxLen at hccm
    clear hO hn
    go_wp2_with fail
    refine (implBusiestHost_any HR1.out (Nat.le_refl _)).mono ?_
    rintro e w2 ⟨rfl, hb2⟩
    go_wp2_with fail
    refine (specBusiestHost_any (HR1.out.below hb2) hb2.size).mono ?_
    rintro e w3 ⟨rfl, hb3⟩
    have hB3 := Below.tr hb2 hb3
    have hN0 : nn = 0 → busI nn a p = -1 := fun h => by simp [busI, h]
    have hN1 : 0 < nn → busI nn a p = a (bIdx p nn) := fun h => by simp [busI]; omega
    generalize busI nn a p = N at *
    go_wp2_with fail
    go_loopw [5, 6] (fun v i wr => ∃ (j : Nat) (M : Int), j ≤ nn ∧ i = .int .i64 j ∧ v = .int .i64 M ∧ 0 ≤ M ∧ M ≤ 8 ∧ (∀ i, i < j → p i ≤ M) ∧ (M = 0 ∨ ∃ i, i < j ∧ p i = M) ∧ Below w1.heap.size w1 wr) (fun _ i _ => nn - (intOf i).toNat)
    case atStart => exact ⟨0, 0, by omega, rfl, rfl, by omega, by omega, fun i hi => absurd hi (by omega), .inl rfl, hB3⟩
    case round =>
      obtain ⟨j, M, hj, rfl, rfl, hM0, hM8, hMx, hMe, hBw⟩ := hrel
      by_cases hlt : j < nn
      · obtain ⟨bl, off, rfl, hbB, hc⟩ := hrow (by omega)
        have hr := hc j hlt
        have hbs : bl < wr.heap.size := by have := hBw.size; omega
        have q1 : wr.cell? ⟨bl, off + j * 3 + 1, none⟩ = some (.int .i64 (p j)) := (keepc hBw bl (by omega) _).trans (hr 1 _ rfl)
        obtain ⟨f1, f2, f3, f4⟩ := hF j hlt
        have HX := Lib.hid hMx
        have HE := Lib.hid hMe
        clear hr hc hrow hN0 hN1 hMx hMe hA hF
        by_cases hm : M < p j
        · have hm1 : decide (M < p j) = true := by simpa using hm
          go_wp2
          go_roundw
          case rel => exact ⟨j + 1, p j, by omega, by go_num, by first | rfl | (simp; omega), by omega, by omega, up_le HX.out (by omega) (by omega), .inr ⟨j, by omega, rfl⟩, hBw⟩
          case measure => simp [intOf]; omega
        · have hm1 : decide (M < p j) = false := by simpa using hm
          go_wp2
          go_roundw
          case rel => exact ⟨j + 1, M, by omega, by go_num, by first | rfl | (simp; omega), by omega, by omega, up_le HX.out (by omega) (by omega), HE.out.imp id fun ⟨i, h1, h2⟩ => ⟨i, by omega, h2⟩, hBw⟩
          case measure => simp [intOf]; omega
      · obtain rfl : j = nn := by omega
        have hM : 0 < j → p (bIdx p j) = M := fun hp => by
          obtain ⟨_, h1, h2⟩ := bIdx_max p j
          have h3 := h2 hp
          have h4 := hMx _ h3
          rcases hMe with rfl | ⟨i, h5, rfl⟩
          · have := hF _ h3; omega
          · have := h1 i h5; omega
        have HF := Lib.hid hF
        have HA := Lib.hid hA
        clear hMx hMe hF hA
        obtain ⟨wo, rfl⟩ : ∃ wo : World, wo = wr := ⟨_, rfl⟩
        go_wp2_with fail
        go_loopw [7] (fun i wq => ∃ k : Nat, k ≤ j ∧ i = .int .i64 k ∧ (∀ i, i < k → a i ≠ N) ∧ Below w1.heap.size w1 wq) (fun i _ => j - (intOf i).toNat)
        case atStart => exact ⟨0, by omega, rfl, fun i hi => absurd hi (by omega), hBw⟩
        case round =>
          obtain ⟨k, hk, rfl, hno, hBq⟩ := hrel
          by_cases hlt2 : k < j
          · obtain ⟨bl, off, rfl, hbB, hc⟩ := hrow (by omega)
            have hr := hc k hlt2
            have hbs : bl < wr.heap.size := by have := hBq.size; omega
            have q0 : wr.cell? ⟨bl, off + k * 3, none⟩ = some (.int .i64 (a k)) := (keepc hBq bl (by omega) _).trans (hr 0 _ rfl)
            have q1 : wr.cell? ⟨bl, off + k * 3 + 1, none⟩ = some (.int .i64 (p k)) := (keepc hBq bl (by omega) _).trans (hr 1 _ rfl)
            have HNo := Lib.hid hno
            clear hr hc hrow hno
            by_cases he : a k = N
            · have hd : (a k == N) = true := by simpa using he
              have hkb : k = bIdx p j := HA.out.inj hlt2 ((bIdx_max p j).2.2 (by omega)) (he.trans (hN1 (by omega)))
              have hpm : p k = M := by rw [hkb]; exact hM (by omega)
              have hd2 : (p k == M) = true := by simpa using hpm
              clear he hkb hpm hN0 hN1 hM
              go_wp2
              go_ret
              exact ⟨rfl, Below.tr hb hBq⟩
            · have hd : (a k == N) = false := by simpa using he
              clear hN0 hN1 hM
              go_wp2
              go_roundw
              case rel => exact ⟨k + 1, by omega, by go_num, fun i hi => by
                by_cases hq : i < k
                · exact HNo.out i hq
                · obtain rfl : i = k := by omega
                  exact he, hBq⟩
              case measure => simp [intOf]; omega
          · obtain rfl : k = j := by omega
            by_cases hz : k = 0
            · obtain rfl := hN0 hz
              subst hz
              clear hN0 hN1 hM hrow
              go_wp2_with (go_at_call 15; refine (alive_any _).mono ?_; rintro e wa ⟨rfl, hba⟩)
              go_ret
              exact ⟨rfl, Below.tr hb (by (repeat (first | exact Below.refl _ _ | assumption | refine Below.al ?_ _ | refine Below.dr ?_ | (refine Below.st ?_ (by simp <;> omega) _) | (refine Below.tr ?_ (by assumption)))))⟩
            · exact absurd (hN1 (by omega)).symm (hno _ ((bIdx_max p k).2.2 (by omega)))
end Go.Proofs.Ytdfnpcjbecbbbaa
