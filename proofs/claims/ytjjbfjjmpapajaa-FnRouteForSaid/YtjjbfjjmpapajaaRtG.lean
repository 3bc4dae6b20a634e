/-
  The law 'the longest prefix decides': its walk.
-/
import Derived.Test.YtjjbfjjmpapajaaRtF
namespace Go.Proofs.Ytjjbfjjmpapajaa
open Go.RowKit

set_option maxHeartbeats 8000000 in
theorem routeFor_walk {w : World} {A : Option Addr} {n c : Nat} (h : Bytes w w.heap.size A n c) :
    Calls Try.prog 10 #[.slice A n c] w (Truly w) := by
  by_cases hn : 1048576 < n
  · go_enter Try.func10, Try.ntmps10
    go_wp2
    go_ret
    exact ⟨rfl, Below.refl _ _⟩
  · go_enter Try.func10, Try.ntmps10
    go_wp2_with fail
    refine (drawRouteFor_any h).mono ?_
    rintro e w1 ⟨A', nn, c', R, a, rfl, hnn, hR, hO, hb⟩
    obtain ⟨b, k, h, rfl⟩ := routeR_of hR
    have HR1 := Lib.hid hO.rows
    have hrow := hO.rows.2
    have hncc := hO.rows.1.1
    have hccm := hO.rows.1.2
    unfold maxLen at hccm
    clear hR hO hn
    go_wp2_with fail
    refine (implRouteFor_any a HR1.out (Nat.le_refl _)).mono ?_
    rintro e w2 ⟨rfl, hb2⟩
    go_wp2_with fail
    refine (specRouteFor_any a (HR1.out.below hb2) hb2.size).mono ?_
    rintro e w3 ⟨rfl, hb3⟩
    have hB3 := Below.tr hb2 hb3
    go_wp2_with fail
    go_loopw [6, 7, 8] (fun m p i wr => ∃ j : Nat, j ≤ nn ∧ (rtsB nn b k h = false → j = 0) ∧ i = .int .i64 j ∧ p = .int .i64 (rfH b k h a j) ∧ m = .int .i64 (rfB b k a j) ∧ Below w1.heap.size w1 wr) (fun _ _ i _ => nn - (intOf i).toNat)
    case atStart => exact ⟨0, by omega, fun _ => rfl, rfl, rfl, rfl, hB3⟩
    case round =>
      obtain ⟨j, hj, hj0, rfl, rfl, rfl, hBw⟩ := hrel
      by_cases hlt : j < nn
      · cases hv : rtsB nn b k h with
        | false =>
          obtain rfl := hj0 hv
          have he : rtF nn b k h a = -1 := by simp [rtF, hv]
          have he2 : rfH b k h a 0 = -1 := rfl
          clear hrow hj0
          go_wp2_with (first | (go_at_call 19; refine (alive_any _).mono ?_; rintro e wa ⟨rfl, hba⟩) | (go_at_call 24; refine (implRoutesValid_any (HR1.out.below (hBw.mono (Nat.le_refl _))) (by have := hBw.size; omega)).mono ?_; rintro e w6 ⟨rfl, hb6⟩))
          go_ret
          exact ⟨rfl, Below.tr hb (by (repeat (first | exact Below.refl _ _ | assumption | refine Below.al ?_ _ | refine Below.dr ?_ | (refine Below.st ?_ (by simp <;> omega) _) | (refine Below.tr ?_ (by assumption)))))⟩
        | true =>
          obtain ⟨bl, off, rfl, hbB, hc⟩ := hrow (by omega)
          have hr := hc j hlt
          have hbs : bl < wr.heap.size := by have := hBw.size; omega
          have q0 : wr.cell? ⟨bl, off + j * 3, none⟩ = some (.int .i64 (b j)) := (keepc hBw bl (by omega) _).trans (hr 0 _ rfl)
          have q1 : wr.cell? ⟨bl, off + j * 3 + 1, none⟩ = some (.int .i64 (k j)) := (keepc hBw bl (by omega) _).trans (hr 1 _ rfl)
          have q2 : wr.cell? ⟨bl, off + j * 3 + 2, none⟩ = some (.int .i64 (h j)) := (keepc hBw bl (by omega) _).trans (hr 2 _ rfl)
          clear hr hc hrow hj0
          cases hq : hasB (b j) (k j) a with
          | false =>
            obtain ⟨r1, r2⟩ := rf_no (h := h) hq
            have hr1 := Lib.hid r1
            have hr2 := Lib.hid r2
            clear r1 r2
            go_wp2_with (first | (go_at_call 24; refine (implRoutesValid_any (HR1.out.below (hBw.mono (Nat.le_refl _))) (by have := hBw.size; omega)).mono ?_; rintro e w6 ⟨rfl, hb6⟩; have k1 := keepc hb6 bl hbs; have z1 : bl < w6.heap.size := Nat.lt_of_lt_of_le hbs hb6.size) | (go_at_call 17; refine (implPrefixHas_any _ _ _ _).mono ?_; rintro e w7 ⟨rfl, hb7⟩; have k2 := keepc hb7 bl z1; have z2 : bl < w7.heap.size := Nat.lt_of_lt_of_le z1 hb7.size))
            go_roundw
            case rel => exact ⟨j + 1, by omega, by simp [hv], by go_num, by rw [hr2.out], by rw [hr1.out], by (repeat (first | exact Below.refl _ _ | assumption | refine Below.al ?_ _ | refine Below.dr ?_ | (refine Below.st ?_ (by simp <;> omega) _) | (refine Below.tr ?_ (by assumption))))⟩
            case measure => simp [intOf]; omega
          | true =>
            by_cases hm : rfB b k a j < k j
            · obtain ⟨r1, r2⟩ := rf_lt (h := h) hq hm
              have hr1 := Lib.hid r1
              have hr2 := Lib.hid r2
              clear r1 r2
              go_wp2_with (first | (go_at_call 24; refine (implRoutesValid_any (HR1.out.below (hBw.mono (Nat.le_refl _))) (by have := hBw.size; omega)).mono ?_; rintro e w6 ⟨rfl, hb6⟩; have k1 := keepc hb6 bl hbs; have z1 : bl < w6.heap.size := Nat.lt_of_lt_of_le hbs hb6.size) | (go_at_call 17; refine (implPrefixHas_any _ _ _ _).mono ?_; rintro e w7 ⟨rfl, hb7⟩; have k2 := keepc hb7 bl z1; have z2 : bl < w7.heap.size := Nat.lt_of_lt_of_le z1 hb7.size))
              go_roundw
              case rel => exact ⟨j + 1, by omega, by simp [hv], by go_num, by rw [hr2.out], by rw [hr1.out], by (repeat (first | exact Below.refl _ _ | assumption | refine Below.al ?_ _ | refine Below.dr ?_ | (refine Below.st ?_ (by simp <;> omega) _) | (refine Below.tr ?_ (by assumption))))⟩
              case measure => simp [intOf]; omega
            · obtain ⟨r1, r2⟩ := rf_le (h := h) (show k j ≤ rfB b k a j by omega)
              have hr1 := Lib.hid r1
              have hr2 := Lib.hid r2
              clear r1 r2
              go_wp2_with (first | (go_at_call 24; refine (implRoutesValid_any (HR1.out.below (hBw.mono (Nat.le_refl _))) (by have := hBw.size; omega)).mono ?_; rintro e w6 ⟨rfl, hb6⟩; have k1 := keepc hb6 bl hbs; have z1 : bl < w6.heap.size := Nat.lt_of_lt_of_le hbs hb6.size) | (go_at_call 17; refine (implPrefixHas_any _ _ _ _).mono ?_; rintro e w7 ⟨rfl, hb7⟩; have k2 := keepc hb7 bl z1; have z2 : bl < w7.heap.size := Nat.lt_of_lt_of_le z1 hb7.size))
              go_roundw
              case rel => exact ⟨j + 1, by omega, by simp [hv], by go_num, by rw [hr2.out], by rw [hr1.out], by (repeat (first | exact Below.refl _ _ | assumption | refine Below.al ?_ _ | refine Below.dr ?_ | (refine Below.st ?_ (by simp <;> omega) _) | (refine Below.tr ?_ (by assumption))))⟩
              case measure => simp [intOf]; omega
      · obtain rfl : j = nn := by omega
        have he : rtF j b k h a = rfH b k h a j := by
          cases hv : rtsB j b k h with
          | true => simp [rtF, hv]
          | false => obtain rfl := hj0 hv; simp [rtF, rfH]
        clear hrow hj0
        go_wp2_with (go_at_call 19; refine (alive_any _).mono ?_; rintro e wa ⟨rfl, hba⟩)
        go_ret
        exact ⟨rfl, Below.tr hb (by (repeat (first | exact Below.refl _ _ | assumption | refine Below.al ?_ _ | refine Below.dr ?_ | (refine Below.st ?_ (by simp <;> omega) _) | (refine Below.tr ?_ (by assumption)))))⟩
end Go.Proofs.Ytjjbfjjmpapajaa
