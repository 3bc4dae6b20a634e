/-
  Slices of slices of ints in memory; QueuesValid, in the program and in the reference.
-/
import Derived.Test.YtghmcedfiebolaaQueM
namespace Go.Proofs.Ytghmcedfiebolaa
open Go.RowKit

/-- The rows of a slice of slices. -/
def slR (QA : Nat → Option Addr) (qn qc : Nat → Nat) (i : Nat) : List Value := [.slice (QA i) (qn i) (qc i)]
theorem slR_one (QA : Nat → Option Addr) (qn qc : Nat → Nat) (k : Nat) : ∀ u ∈ slR QA qn qc k, u.oneCell' = true := by
  intro u hu
  simp only [slR, List.mem_cons, List.not_mem_nil, or_false] at hu
  subst hu; rfl
/-- A slice of n slices of ints, all below block B. -/
def Qs (w : World) (B : Nat) (A : Option Addr) (n c : Nat) (qn : Nat → Nat) (q : Nat → Nat → Int) : Prop :=
  ∃ (QA : Nat → Option Addr) (qc : Nat → Nat), Rws w B 1 A n c (slR QA qn qc) ∧ ∀ i, i < n → Rws w B 1 (QA i) (qn i) (qc i) (intR (q i))
section
variable {w w' : World} {B B' : Nat} {A : Option Addr} {n c : Nat} {qn : Nat → Nat} {q : Nat → Nat → Int}
theorem Qs.below (h : Qs w B A n c qn q) (hb : Below B w w') : Qs w' B A n c qn q := by
  obtain ⟨QA, qc, h1, h2⟩ := h
  exact ⟨QA, qc, h1.below hb, fun i hi => (h2 i hi).below hb⟩
theorem Qs.more (h : Qs w B A n c qn q) (hB : B ≤ B') : Qs w B' A n c qn q := by
  obtain ⟨QA, qc, h1, h2⟩ := h
  exact ⟨QA, qc, h1.more hB, fun i hi => (h2 i hi).more hB⟩
theorem Qs.next (h : Qs w w.heap.size A n c qn q) (hb : Below w.heap.size w w') : Qs w' w'.heap.size A n c qn q := (h.below hb).more hb.size
theorem Qs.len (h : Qs w B A n c qn q) : n ≤ c ∧ c ≤ maxLen := by
  obtain ⟨QA, qc, h1, h2⟩ := h
  exact h1.1
end

theorem qvB_no1 {n : Nat} {qn : Nat → Nat} {q : Nat → Nat → Int} {m : Nat} {sh : Nat → Int} (h : inB (n : Int) 1 4 = false) : qvB n qn q m sh = false := by
  rw [← Bool.not_eq_true, qvB_true]
  rintro ⟨h1, h2, _⟩
  rw [inB_true.2 (by omega)] at h; cases h
theorem qvB_no2 {n : Nat} {qn : Nat → Nat} {q : Nat → Nat → Int} {m : Nat} {sh : Nat → Int} (h : m ≠ n) : qvB n qn q m sh = false := by
  rw [← Bool.not_eq_true, qvB_true]
  rintro ⟨_, _, h1, _⟩
  exact h h1
theorem qvB_no3 {n : Nat} {qn : Nat → Nat} {q : Nat → Nat → Int} {m : Nat} {sh : Nat → Int} {i : Nat} (hi : i < n) (h : ¬ qn i ≤ 8) : qvB n qn q m sh = false := by
  rw [← Bool.not_eq_true, qvB_true]
  rintro ⟨_, _, _, h1⟩
  exact h (h1 i hi).1
theorem qvB_no4 {n : Nat} {qn : Nat → Nat} {q : Nat → Nat → Int} {m : Nat} {sh : Nat → Int} {i : Nat} (hi : i < m) (h : inB (sh i) 1 50 = false) : qvB n qn q m sh = false := by
  rw [← Bool.not_eq_true, qvB_true]
  rintro ⟨_, _, h0, h1⟩
  have := h1 i (by omega)
  rw [inB_true.2 ⟨this.2.1, this.2.2.1⟩] at h; cases h
theorem qvB_no5 {n : Nat} {qn : Nat → Nat} {q : Nat → Nat → Int} {m : Nat} {sh : Nat → Int} {i j : Nat} (hi : i < n) (hj : j < qn i) (h : inB (q i j) 1 50 = false) : qvB n qn q m sh = false := by
  rw [← Bool.not_eq_true, qvB_true]
  rintro ⟨_, _, _, h1⟩
  have := (h1 i hi).2.2.2 j hj
  rw [inB_true.2 this] at h; cases h
theorem qvB_yes {n : Nat} {qn : Nat → Nat} {q : Nat → Nat → Int} {m : Nat} {sh : Nat → Int} (h1 : inB (n : Int) 1 4 = true) (h2 : m = n) (h3 : ∀ i, i < n → qn i ≤ 8 ∧ inB (sh i) 1 50 = true ∧ ∀ j, j < qn i → inB (q i j) 1 50 = true) : qvB n qn q m sh = true := by
  rw [qvB_true]
  have h4 := inB_true.1 h1
  refine ⟨by omega, by omega, h2, fun i hi => ?_⟩
  obtain ⟨a, b, d⟩ := h3 i hi
  exact ⟨a, (inB_true.1 b).1, (inB_true.1 b).2, fun j hj => inB_true.1 (d j hj)⟩

set_option maxHeartbeats 4000000 in
theorem implQueuesValid_any {w : World} {B : Nat} {A A' : Option Addr} {n c m c' : Nat} {qn : Nat → Nat} {q : Nat → Nat → Int} {sh : Nat → Int} (H : Qs w B A n c qn q) (H' : Rws w B 1 A' m c' (intR sh)) (hB : B ≤ w.heap.size) :
    Calls Try.prog 14 #[.slice A n c, .slice A' m c'] w fun e w' => e = .returned (.bool (qvB n qn q m sh)) ∧ w = w' := by
  obtain ⟨QA, qc, ⟨⟨hnc, hcm⟩, hrow⟩, HI⟩ := H
  obtain ⟨⟨hnc', hcm'⟩, hrow'⟩ := H'
  unfold maxLen at hcm hcm'
  cases h1 : inB (n : Int) 1 4 with
  | false =>
    have he := Lib.hid (qvB_no1 (qn := qn) (q := q) (m := m) (sh := sh) h1)
    clear hrow hrow' HI
    go_enter Try.func14, Try.ntmps14
    go_wp2_with (go_at_call 33; refine (in_any _ _ _ _).mono ?_; rintro e w' ⟨rfl, rfl⟩)
    go_ret
    exact ⟨by rw [he.out] <;> rfl, rfl⟩
  | true =>
    by_cases hmn : m = n
    · subst hmn
      have HE := Lib.hid (fun h3 => qvB_yes (qn := qn) (q := q) (m := m) (sh := sh) h1 rfl h3)
      have hI := Lib.hid HI
      clear HI
      go_enter Try.func14, Try.ntmps14
      go_wp2_with (go_at_call 33; refine (in_any _ _ _ _).mono ?_; rintro e w' ⟨rfl, rfl⟩)
      clear h1
      go_loop [22] (fun i => ∃ j : Nat, j ≤ m ∧ i = .int .i64 j ∧ (∀ i, i < j → qn i ≤ 8 ∧ inB (sh i) 1 50 = true ∧ ∀ k, k < qn i → inB (q i k) 1 50 = true)) (fun i => m - (intOf i).toNat)
      case atStart => exact ⟨0, by omega, rfl, fun i hi => absurd hi (by omega)⟩
      case round =>
        obtain ⟨j, hj, rfl, hok⟩ := hrel
        have HO := Lib.hid hok
        clear hok
        by_cases hlt : j < m
        · obtain ⟨bl, off, rfl, hbB, hc⟩ := hrow (by omega)
          have hr := hc j hlt
          rw [Nat.mul_one] at hr
          have hbs : bl < w.heap.size := by omega
          have q0 : w.cell? ⟨bl, off + j, none⟩ = some (.slice (QA j) (qn j) (qc j)) := hr 0 _ rfl
          obtain ⟨bs, os, rfl, hsB, hcs⟩ := hrow' (by omega)
          have hrs := hcs j hlt
          rw [Nat.mul_one] at hrs
          have hss : bs < w.heap.size := by omega
          have s0 : w.cell? ⟨bs, os + j, none⟩ = some (.int .i64 (sh j)) := hrs 0 _ rfl
          have hIj := hI.out j hlt
          have hN3 := fun h => qvB_no3 (q := q) (m := m) (sh := sh) (qn := qn) hlt h
          have hN4 := fun h => qvB_no4 (q := q) (n := m) (sh := sh) (qn := qn) hlt h
          have hN5 := fun k hk h => qvB_no5 (q := q) (m := m) (sh := sh) (qn := qn) (j := k) hlt hk h
          have HO2 := Lib.hid (fun h => upto HO.out h)
          have HN5 := Lib.hid hN5
          clear hr hc hrow hrs hcs hrow' hN5
          generalize QA j = Aj at *
          generalize qc j = cj at *
          obtain ⟨⟨hqc, hcc⟩, hrj⟩ := hIj
          unfold maxLen at hcc
          by_cases h8 : qn j ≤ 8
          · cases h3 : inB (sh j) 1 50 with
            | false =>
              have he := Lib.hid (hN4 h3)
              have hd : decide ((8 : Int) < (qn j : Int)) = false := by simp; omega
              clear hN3 hN4 hrj
              go_wp2_with (go_at_call 33; refine (in_any _ _ _ _).mono ?_; rintro e w' ⟨rfl, rfl⟩)
              go_ret
              exact ⟨by rw [he.out] <;> rfl, rfl⟩
            | true =>
              have hd : decide ((8 : Int) < (qn j : Int)) = false := by simp; omega
              have HJ := Lib.hid hrj
              have H3 := Lib.hid h3
              clear hN3 hN4 hrj
              go_wp2_with (go_at_call 33; refine (in_any _ _ _ _).mono ?_; rintro e w' ⟨rfl, rfl⟩)
              clear h3
              go_loop [40] (fun i => ∃ k : Nat, k ≤ qn j ∧ i = .int .i64 k ∧ (∀ i, i < k → inB (q j i) 1 50 = true)) (fun i => qn j - (intOf i).toNat)
              case atStart => exact ⟨0, by omega, rfl, fun i hi => absurd hi (by omega)⟩
              case round =>
                obtain ⟨k, hk, rfl, hok⟩ := hrel
                have HK := Lib.hid hok
                clear hok
                by_cases hkl : k < qn j
                · obtain ⟨b2, o2, rfl, hb2, hc2⟩ := HJ.out (by omega)
                  have hr2 := hc2 k hkl
                  rw [Nat.mul_one] at hr2
                  have hbs2 : b2 < w.heap.size := by omega
                  have p0 : w.cell? ⟨b2, o2 + k, none⟩ = some (.int .i64 (q j k)) := hr2 0 _ rfl
                  clear hr2 hc2
                  cases h5 : inB (q j k) 1 50 with
                  | false =>
                    have he := Lib.hid (HN5.out k hkl h5)
                    go_wp2_with (go_at_call 33; refine (in_any _ _ _ _).mono ?_; rintro e w' ⟨rfl, rfl⟩)
                    go_ret
                    exact ⟨by rw [he.out] <;> rfl, rfl⟩
                  | true =>
                    have HU := Lib.hid (upto HK.out h5)
                    go_wp2_with (go_at_call 33; refine (in_any _ _ _ _).mono ?_; rintro e w' ⟨rfl, rfl⟩)
                    go_round
                    case rel => exact ⟨k + 1, by omega, by go_num, HU.out⟩
                    case measure => simp [intOf]; omega
                · obtain rfl : k = qn j := by omega
                  have HU := Lib.hid (HO2.out ⟨h8, H3.out, HK.out⟩)
                  go_wp2
                  go_round
                  case rel => exact ⟨j + 1, by omega, by go_num, HU.out⟩
                  case measure => simp [intOf]; omega
          · have he := Lib.hid (hN3 h8)
            have hd : decide ((8 : Int) < (qn j : Int)) = true := by simp; omega
            clear hN3 hN4 hrj
            go_wp2_with (go_at_call 33; refine (in_any _ _ _ _).mono ?_; rintro e w' ⟨rfl, rfl⟩)
            go_ret
            exact ⟨by rw [he.out] <;> rfl, rfl⟩
        · obtain rfl : j = m := by omega
          have he := Lib.hid (HE.out HO.out)
          clear hrow hrow'
          go_wp2
          go_ret
          exact ⟨by rw [he.out] <;> rfl, rfl⟩
    · have he := Lib.hid (qvB_no2 (qn := qn) (q := q) (sh := sh) hmn)
      have hd1 : ((m : Int) == (n : Int)) = false := by simp; omega
      have hd2 : ((m : Int) != (n : Int)) = true := by simp; omega
      have hd3 : (m == n) = false := by simpa using hmn
      have hd4 : (m != n) = true := by simpa using hmn
      clear hrow hrow' HI
      go_enter Try.func14, Try.ntmps14
      go_wp2_with (go_at_call 33; refine (in_any _ _ _ _).mono ?_; rintro e w' ⟨rfl, rfl⟩)
      go_ret
      exact ⟨by rw [he.out] <;> rfl, rfl⟩
end Go.Proofs.Ytghmcedfiebolaa
