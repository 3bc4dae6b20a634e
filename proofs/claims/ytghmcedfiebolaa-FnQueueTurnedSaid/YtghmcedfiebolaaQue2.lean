/-
  QueuesValid in the reference.
-/
import Derived.Test.YtghmcedfiebolaaQue
namespace Go.Proofs.Ytghmcedfiebolaa
open Go.RowKit

set_option maxHeartbeats 4000000 in
theorem specQueuesValid_any {w : World} {B : Nat} {A A' : Option Addr} {n c m c' : Nat} {qn : Nat → Nat} {q : Nat → Nat → Int} {sh : Nat → Int} (H : Qs w B A n c qn q) (H' : Rws w B 1 A' m c' (intR sh)) (hB : B ≤ w.heap.size) :
    Calls Try.prog 11 #[.slice A n c, .slice A' m c'] w fun e w' => e = .returned (.bool (qvB n qn q m sh)) ∧ w = w' := by
  obtain ⟨QA, qc, ⟨⟨hnc, hcm⟩, hrow⟩, HI⟩ := H
  obtain ⟨⟨hnc', hcm'⟩, hrow'⟩ := H'
  unfold maxLen at hcm hcm'
  have hI := Lib.hid HI
  clear HI
  go_enter Try.func11, Try.ntmps11
  go_wp2
  go_loop [5] (fun i => ∃ j : Nat, j ≤ n ∧ i = .int .i64 j ∧ (∀ i, i < j → qn i ≤ 8 ∧ ∀ k, k < qn i → inB (q i k) 1 50 = true)) (fun i => n - (intOf i).toNat)
  case atStart => exact ⟨0, by omega, rfl, fun i hi => absurd hi (by omega)⟩
  case round =>
    obtain ⟨j, hj, rfl, hok⟩ := hrel
    have HO := Lib.hid hok
    clear hok
    by_cases hlt : j < n
    · obtain ⟨bl, off, rfl, hbB, hc⟩ := hrow (by omega)
      have hr := hc j hlt
      rw [Nat.mul_one] at hr
      have hbs : bl < w.heap.size := by omega
      have q0 : w.cell? ⟨bl, off + j, none⟩ = some (.slice (QA j) (qn j) (qc j)) := hr 0 _ rfl
      have hIj := hI.out j hlt
      have HN3 := Lib.hid fun h => qvB_no3 (q := q) (m := m) (sh := sh) (qn := qn) hlt h
      have HN5 := Lib.hid fun k hk h => qvB_no5 (q := q) (m := m) (sh := sh) (qn := qn) (j := k) hlt hk h
      have HO2 := Lib.hid (fun h => upto HO.out h)
      clear hr hc hrow hrow'
      generalize QA j = Aj at *
      generalize qc j = cj at *
      obtain ⟨⟨hqc, hcc⟩, hrj⟩ := hIj
      unfold maxLen at hcc
      have HJ := Lib.hid hrj
      clear hrj
      go_wp2
      go_loop [6] (fun i => ∃ k : Nat, k ≤ qn j ∧ i = .int .i64 k ∧ (0 < k → qn j ≤ 8) ∧ (∀ i, i < k → inB (q j i) 1 50 = true)) (fun i => qn j - (intOf i).toNat)
      case atStart => exact ⟨0, by omega, rfl, fun h => by omega, fun i hi => absurd hi (by omega)⟩
      case round =>
        obtain ⟨k, hk, rfl, h8, hok⟩ := hrel
        have HK := Lib.hid hok
        have H8 := Lib.hid h8
        clear hok h8
        by_cases hkl : k < qn j
        · obtain ⟨b2, o2, rfl, hb2, hc2⟩ := HJ.out (by omega)
          have hr2 := hc2 k hkl
          rw [Nat.mul_one] at hr2
          have hbs2 : b2 < w.heap.size := by omega
          have p0 : w.cell? ⟨b2, o2 + k, none⟩ = some (.int .i64 (q j k)) := hr2 0 _ rfl
          clear hr2 hc2
          cases h5 : inB (q j k) 1 50 with
          | false =>
            have he := Lib.hid (HN5.out k hkl h5)
            go_wp2_with (go_at_call 32; refine (l1In_any _ _ _ _).mono ?_; rintro e w' ⟨rfl, rfl⟩)
            go_ret
            exact ⟨by rw [he.out] <;> rfl, rfl⟩
          | true =>
            by_cases h8 : qn j ≤ 8
            · have HU := Lib.hid (upto HK.out h5)
              have hd : decide ((8 : Int) < (qn j : Int)) = false := by simp; omega
              go_wp2_with (go_at_call 32; refine (l1In_any _ _ _ _).mono ?_; rintro e w' ⟨rfl, rfl⟩)
              go_round
              case rel => exact ⟨k + 1, by omega, by go_num, fun _ => h8, HU.out⟩
              case measure => simp [intOf]; omega
            · have he := Lib.hid (HN3.out h8)
              have hd : decide ((8 : Int) < (qn j : Int)) = true := by simp; omega
              go_wp2_with (go_at_call 32; refine (l1In_any _ _ _ _).mono ?_; rintro e w' ⟨rfl, rfl⟩)
              go_ret
              exact ⟨by rw [he.out] <;> rfl, rfl⟩
        · obtain rfl : k = qn j := by omega
          have HU := Lib.hid (HO2.out ⟨by rcases Nat.eq_zero_or_pos (qn j) with h | h; · omega
                                          exact H8.out h, HK.out⟩)
          go_wp2
          go_round
          case rel => exact ⟨j + 1, by omega, by go_num, HU.out⟩
          case measure => simp [intOf]; omega
    · obtain rfl : j = n := by omega
      clear hrow
      go_wp2
      go_loop [7] (fun i => ∃ k : Nat, k ≤ m ∧ i = .int .i64 k ∧ (∀ i, i < k → inB (sh i) 1 50 = true)) (fun i => m - (intOf i).toNat)
      case atStart => exact ⟨0, by omega, rfl, fun i hi => absurd hi (by omega)⟩
      case round =>
        obtain ⟨k, hk, rfl, hok⟩ := hrel
        have HK := Lib.hid hok
        clear hok
        by_cases hkl : k < m
        · obtain ⟨bs, os, rfl, hsB, hcs⟩ := hrow' (by omega)
          have hrs := hcs k hkl
          rw [Nat.mul_one] at hrs
          have hss : bs < w.heap.size := by omega
          have s0 : w.cell? ⟨bs, os + k, none⟩ = some (.int .i64 (sh k)) := hrs 0 _ rfl
          clear hrs hcs hrow'
          cases h5 : inB (sh k) 1 50 with
          | false =>
            have he := Lib.hid (qvB_no4 (qn := qn) (q := q) (n := j) hkl h5)
            go_wp2_with (go_at_call 32; refine (l1In_any _ _ _ _).mono ?_; rintro e w' ⟨rfl, rfl⟩)
            go_ret
            exact ⟨by rw [he.out] <;> rfl, rfl⟩
          | true =>
            have HU := Lib.hid (upto HK.out h5)
            go_wp2_with (go_at_call 32; refine (l1In_any _ _ _ _).mono ?_; rintro e w' ⟨rfl, rfl⟩)
            go_round
            case rel => exact ⟨k + 1, by omega, by go_num, HU.out⟩
            case measure => simp [intOf]; omega
        · obtain rfl : k = m := by omega
          clear hrow'
          cases h1 : inB (j : Int) 1 4 with
          | false =>
            have he := Lib.hid (qvB_no1 (qn := qn) (q := q) (m := k) (sh := sh) h1)
            go_wp2_with (go_at_call 32; refine (l1In_any _ _ _ _).mono ?_; rintro e w' ⟨rfl, rfl⟩)
            go_ret
            exact ⟨by rw [he.out] <;> rfl, rfl⟩
          | true =>
            by_cases hmn : k = j
            · subst hmn
              have he := Lib.hid (qvB_yes (qn := qn) (q := q) (m := k) (sh := sh) h1 rfl fun i hi => ⟨(HO.out i hi).1, HK.out i hi, (HO.out i hi).2⟩)
              go_wp2_with (go_at_call 32; refine (l1In_any _ _ _ _).mono ?_; rintro e w' ⟨rfl, rfl⟩)
              go_ret
              exact ⟨by rw [he.out] <;> rfl, rfl⟩
            · have he := Lib.hid (qvB_no2 (qn := qn) (q := q) (sh := sh) hmn)
              have hd1 : ((k : Int) == (j : Int)) = false := by simp; omega
              have hd3 : (k == j) = false := by simpa using hmn
              go_wp2_with (go_at_call 32; refine (l1In_any _ _ _ _).mono ?_; rintro e w' ⟨rfl, rfl⟩)
              go_ret
              exact ⟨by rw [he.out] <;> rfl, rfl⟩
end Go.Proofs.Ytghmcedfiebolaa
