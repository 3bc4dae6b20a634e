/-
  The two laws of prefixes over drawn codes: their walks.
-/
import Derived.Test.YtjjbfjjmpapajaaPfxF
import Derived.Test.YtjjbfjjmpapajaaFlow
namespace Go.Proofs.Ytjjbfjjmpapajaa
open Go.RowKit Go.Joins

set_option maxHeartbeats 1000000 in
theorem prefixValid_walk {w : World} {A : Option Addr} {n c : Nat} (h : Bytes w w.heap.size A n c) :
    Calls Try.prog 5 #[.slice A n c] w (Truly w) := by
  by_cases hn : 1048576 < n
  · go_enter Try.func5, Try.ntmps5
    go_wp2
    go_ret
    exact ⟨rfl, Below.refl _ _⟩
  · go_enter Try.func5, Try.ntmps5
    go_wp2_with fail
    refine (drawPrefixValid_any h).mono ?_
    rintro e w1 ⟨b, k, rfl, ⟨s1, s2, s3, s4⟩, hb⟩
    have hv1 : pfxB b 9 = false := by simp [pfxB, inB]
    have hv0 : pfxB 0 0 = true := by rfl
    cases hv : pfxB b k with
    | false =>
      go_wp2_with fail
      refine (implPrefixValid_any _ _ _).mono ?_
      rintro e w2 ⟨rfl, hb2⟩
      have hs2 := hb2.size
      (try simp at hs2)
      have hc2_0 := keepc hb2 (w1.heap.size) (by (try simp) <;> omega)
      have hf2_0 := keepf hb2 (w1.heap.size) (by (try simp) <;> omega)
      have hl2_0 : w1.heap.size < w2.heap.size := by omega
      go_wp2_with fail
      refine (specPrefixValid_any _ _ _).mono ?_
      rintro e w3 ⟨rfl, hb3⟩
      have hs3 := hb3.size
      (try simp at hs3)
      have hc3_0 := keepc hb3 (w1.heap.size) (by (try simp) <;> omega)
      have hf3_0 := keepf hb3 (w1.heap.size) (by (try simp) <;> omega)
      have hl3_0 : w1.heap.size < w3.heap.size := by omega
      go_wp2_with fail
      refine (implPrefixValid_any _ _ _).mono ?_
      rintro e w4 ⟨rfl, hb4⟩
      have hs4 := hb4.size
      (try simp at hs4)
      have hc4_0 := keepc hb4 (w1.heap.size) (by (try simp) <;> omega)
      have hf4_0 := keepf hb4 (w1.heap.size) (by (try simp) <;> omega)
      have hl4_0 : w1.heap.size < w4.heap.size := by omega
      go_wp2_with fail
      refine (implPrefixValid_any _ _ _).mono ?_
      rintro e w5 ⟨rfl, hb5⟩
      have hs5 := hb5.size
      (try simp at hs5)
      have hc5_0 := keepc hb5 (w1.heap.size) (by (try simp) <;> omega)
      have hf5_0 := keepf hb5 (w1.heap.size) (by (try simp) <;> omega)
      have hl5_0 : w1.heap.size < w5.heap.size := by omega
      go_wp2_with fail
      go_wp2_with (go_at_call 19; refine (alive_any _).mono ?_; rintro e wa ⟨rfl, hba⟩)
      go_ret
      exact ⟨rfl, by (repeat (first | exact Below.refl _ _ | assumption | refine Below.al ?_ _ | refine Below.dr ?_ | (refine Below.st ?_ (by simp <;> omega) _) | (refine Below.tr ?_ (by assumption))))⟩
    | true =>
      have hv2 : pfxB b 8 = true := by
        obtain ⟨_, _, t1, t2, _⟩ := pfxB_true.1 hv
        exact pfxB_true.2 ⟨by omega, by omega, t1, t2, by show b % 1 = 0; omega⟩
      go_wp2_with fail
      refine (implPrefixValid_any _ _ _).mono ?_
      rintro e w2 ⟨rfl, hb2⟩
      have hs2 := hb2.size
      (try simp at hs2)
      have hc2_0 := keepc hb2 (w1.heap.size) (by (try simp) <;> omega)
      have hf2_0 := keepf hb2 (w1.heap.size) (by (try simp) <;> omega)
      have hl2_0 : w1.heap.size < w2.heap.size := by omega
      go_wp2_with fail
      refine (specPrefixValid_any _ _ _).mono ?_
      rintro e w3 ⟨rfl, hb3⟩
      have hs3 := hb3.size
      (try simp at hs3)
      have hc3_0 := keepc hb3 (w1.heap.size) (by (try simp) <;> omega)
      have hf3_0 := keepf hb3 (w1.heap.size) (by (try simp) <;> omega)
      have hl3_0 : w1.heap.size < w3.heap.size := by omega
      go_wp2_with fail
      refine (implPrefixValid_any _ _ _).mono ?_
      rintro e w4 ⟨rfl, hb4⟩
      have hs4 := hb4.size
      (try simp at hs4)
      have hc4_0 := keepc hb4 (w1.heap.size) (by (try simp) <;> omega)
      have hf4_0 := keepf hb4 (w1.heap.size) (by (try simp) <;> omega)
      have hl4_0 : w1.heap.size < w4.heap.size := by omega
      go_wp2_with fail
      refine (implPrefixValid_any _ _ _).mono ?_
      rintro e w5 ⟨rfl, hb5⟩
      have hs5 := hb5.size
      (try simp at hs5)
      have hc5_0 := keepc hb5 (w1.heap.size) (by (try simp) <;> omega)
      have hf5_0 := keepf hb5 (w1.heap.size) (by (try simp) <;> omega)
      have hl5_0 : w1.heap.size < w5.heap.size := by omega
      go_wp2_with fail
      refine (implPrefixValid_any _ _ _).mono ?_
      rintro e w6 ⟨rfl, hb6⟩
      have hs6 := hb6.size
      (try simp at hs6)
      have hc6_0 := keepc hb6 (w1.heap.size) (by (try simp) <;> omega)
      have hf6_0 := keepf hb6 (w1.heap.size) (by (try simp) <;> omega)
      have hl6_0 : w1.heap.size < w6.heap.size := by omega
      go_wp2_with fail
      go_wp2_with (go_at_call 19; refine (alive_any _).mono ?_; rintro e wa ⟨rfl, hba⟩)
      go_ret
      exact ⟨rfl, by (repeat (first | exact Below.refl _ _ | assumption | refine Below.al ?_ _ | refine Below.dr ?_ | (refine Below.st ?_ (by simp <;> omega) _) | (refine Below.tr ?_ (by assumption))))⟩

/-- How many addresses below j have the prefix. -/
def hasMany (b k j : Int) : Int := if j < b then 0 else if j < b + pfxSize k then j - b else pfxSize k
theorem hasMany_step {b k j : Int} (h : pfxB b k = true) (h0 : 0 ≤ j) (h1 : j ≤ 255) : hasMany b k (j + 1) = hasMany b k j + if hasB b k j then 1 else 0 := by
  have hs := pfx_bd k
  obtain ⟨_, _, t1, t2, _⟩ := pfxB_true.1 h
  have hj : inB j 0 255 = true := inB_true.2 ⟨h0, h1⟩
  have e : hasB b k j = inB j b (b + pfxSize k - 1) := by simp [hasB, h, hj]
  rw [e]
  by_cases hx : b ≤ j ∧ j ≤ b + pfxSize k - 1
  · rw [if_pos (inB_true.2 hx)]
    unfold hasMany
    split <;> split <;> (try split) <;> (try split) <;> omega
  · have hf : inB j b (b + pfxSize k - 1) = false := by
      cases hq : inB j b (b + pfxSize k - 1) with
      | false => rfl
      | true => exact absurd (inB_true.1 hq) hx
    rw [hf]
    unfold hasMany
    simp only [Bool.false_eq_true, if_false]
    split <;> split <;> (try split) <;> (try split) <;> omega
theorem pfx_fits {b k : Int} (h : pfxB b k = true) : b + pfxSize k ≤ 256 := by
  obtain ⟨t1, t2, t3, t4, t5⟩ := pfxB_true.1 h
  rcases eight t1 t2 with rfl | rfl | rfl | rfl | rfl | rfl | rfl | rfl | rfl
  · have : b % 256 = 0 := t5
    show b + 256 ≤ 256; omega
  · have : b % 128 = 0 := t5
    show b + 128 ≤ 256; omega
  · have : b % 64 = 0 := t5
    show b + 64 ≤ 256; omega
  · have : b % 32 = 0 := t5
    show b + 32 ≤ 256; omega
  · have : b % 16 = 0 := t5
    show b + 16 ≤ 256; omega
  · have : b % 8 = 0 := t5
    show b + 8 ≤ 256; omega
  · have : b % 4 = 0 := t5
    show b + 4 ≤ 256; omega
  · have : b % 2 = 0 := t5
    show b + 2 ≤ 256; omega
  · show b + 1 ≤ 256; omega
theorem hasMany_bd (b k j : Int) (h : 0 ≤ j) (h2 : j ≤ 256) : 0 ≤ hasMany b k j ∧ hasMany b k j ≤ 256 := by
  have := pfx_bd k
  unfold hasMany
  split
  · omega
  · split <;> omega

set_option maxHeartbeats 2000000 in
theorem prefixHas_walk {w : World} {A : Option Addr} {n c : Nat} (h : Bytes w w.heap.size A n c) :
    Calls Try.prog 6 #[.slice A n c] w (Truly w) := by
  by_cases hn : 1048576 < n
  · go_enter Try.func6, Try.ntmps6
    go_wp2
    go_ret
    exact ⟨rfl, Below.refl _ _⟩
  · go_enter Try.func6, Try.ntmps6
    go_wp2_with fail
    refine (drawPrefixHas_any h).mono ?_
    rintro e w1 ⟨b, k, x, rfl, ⟨s1, s2, s3, s4⟩, ⟨s5, s6⟩, hb⟩
    cases hv : pfxB b k with
    | false =>
      have hh : hasB b k x = false := by simp [hasB, hv]
      go_wp2_with fail
      refine (implPrefixHas_any _ _ _ _).mono ?_
      rintro e w2 ⟨rfl, hb2⟩
      have hs2 := hb2.size
      (try simp at hs2)
      have hc2_0 := keepc hb2 (w1.heap.size) (by (try simp) <;> omega)
      have hf2_0 := keepf hb2 (w1.heap.size) (by (try simp) <;> omega)
      have hl2_0 : w1.heap.size < w2.heap.size := by omega
      go_wp2_with fail
      refine (specPrefixHas_any _ _ _ _).mono ?_
      rintro e w3 ⟨rfl, hb3⟩
      have hs3 := hb3.size
      (try simp at hs3)
      have hc3_0 := keepc hb3 (w1.heap.size) (by (try simp) <;> omega)
      have hf3_0 := keepf hb3 (w1.heap.size) (by (try simp) <;> omega)
      have hl3_0 : w1.heap.size < w3.heap.size := by omega
      go_wp2_with fail
      refine (implPrefixValid_any _ _ _).mono ?_
      rintro e w4 ⟨rfl, hb4⟩
      have hs4 := hb4.size
      (try simp at hs4)
      have hc4_0 := keepc hb4 (w1.heap.size) (by (try simp) <;> omega)
      have hf4_0 := keepf hb4 (w1.heap.size) (by (try simp) <;> omega)
      have hl4_0 : w1.heap.size < w4.heap.size := by omega
      go_wp2_with fail
      go_wp2_with (go_at_call 19; refine (alive_any _).mono ?_; rintro e wa ⟨rfl, hba⟩)
      go_ret
      exact ⟨rfl, by (repeat (first | exact Below.refl _ _ | assumption | refine Below.al ?_ _ | refine Below.dr ?_ | (refine Below.st ?_ (by simp <;> omega) _) | (refine Below.tr ?_ (by assumption))))⟩
    | true =>
      go_wp2_with fail
      refine (implPrefixHas_any _ _ _ _).mono ?_
      rintro e w2 ⟨rfl, hb2⟩
      have hs2 := hb2.size
      (try simp at hs2)
      have hc2_0 := keepc hb2 (w1.heap.size) (by (try simp) <;> omega)
      have hf2_0 := keepf hb2 (w1.heap.size) (by (try simp) <;> omega)
      have hl2_0 : w1.heap.size < w2.heap.size := by omega
      go_wp2_with fail
      refine (specPrefixHas_any _ _ _ _).mono ?_
      rintro e w3 ⟨rfl, hb3⟩
      have hs3 := hb3.size
      (try simp at hs3)
      have hc3_0 := keepc hb3 (w1.heap.size) (by (try simp) <;> omega)
      have hf3_0 := keepf hb3 (w1.heap.size) (by (try simp) <;> omega)
      have hl3_0 : w1.heap.size < w3.heap.size := by omega
      go_wp2_with fail
      refine (implPrefixValid_any _ _ _).mono ?_
      rintro e w4 ⟨rfl, hb4⟩
      have hs4 := hb4.size
      (try simp at hs4)
      have hc4_0 := keepc hb4 (w1.heap.size) (by (try simp) <;> omega)
      have hf4_0 := keepf hb4 (w1.heap.size) (by (try simp) <;> omega)
      have hl4_0 : w1.heap.size < w4.heap.size := by omega
      go_wp2_with fail
      obtain ⟨t1, t2, t3, t4, t5⟩ := pfxB_true.1 hv
      clear t5
      have hfit := pfx_fits hv
      have hsz := pfx_bd k
      obtain ⟨hsz1, hsz2⟩ := hsz
      have hbb : hasB b k b = true := by
        have e1 : inB b 0 255 = true := inB_true.2 ⟨t3, t4⟩
        have e2 : inB b b (b + pfxSize k - 1) = true := inB_true.2 (by omega)
        simp [hasB, hv, e1, e2]
      have hB4 : Below w.heap.size w w4 := by (repeat (first | exact Below.refl _ _ | assumption | refine Below.al ?_ _ | refine Below.dr ?_ | (refine Below.st ?_ (by simp <;> omega) _) | (refine Below.tr ?_ (by assumption))))
      have hk4 : ∀ i, w4.cell? ⟨w1.heap.size, i, none⟩ = #[Value.int IntKind.i64 b, Value.int IntKind.i64 k][i]? := by
        intro i; rw [hc4_0 i, hc3_0 i, hc2_0 i]; exact (blk (heap_alloc_new w1 _)).1 i
      obtain ⟨wo, rfl⟩ : ∃ wo : World, wo = w4 := ⟨_, rfl⟩
      clear hc4_0 hc3_0 hc2_0 hf4_0 hf3_0 hf2_0
      go_loopw [6, 7] (fun s t wr => ∃ j : Int, 0 ≤ j ∧ j ≤ 256 ∧ t = .int .i64 j ∧ s = .int .i64 (hasMany b k j) ∧ Below w.heap.size w wr ∧ (∀ i, wr.cell? ⟨w1.heap.size, i, none⟩ = #[Value.int IntKind.i64 b, Value.int IntKind.i64 k][i]?) ∧ w1.heap.size < wr.heap.size)
        (fun _ t _ => (256 - intOf t).toNat)
      case atStart => exact ⟨0, by omega, by omega, rfl, by unfold hasMany; (split <;> (try split) <;> congr <;> omega), hB4, hk4, hl4_0⟩
      case round =>
        obtain ⟨j, hj0, hj1, rfl, rfl, hBr, hkr, hlr⟩ := hrel
        obtain ⟨hm1, hm2⟩ := hasMany_bd b k j hj0 hj1
        by_cases hlt : j ≤ 255
        · have hst := Lib.hid (hasMany_step hv hj0 hlt)
          cases hq : hasB b k j with
          | true =>
            go_wp2_with (go_at_call 17; refine (implPrefixHas_any _ _ _ _).mono ?_; rintro e w5 ⟨rfl, hb5⟩)
            go_roundw
            case rel => exact ⟨j + 1, by omega, by omega, rfl, by rw [hst.out, hq]; rfl, hBr.trans (hb5.mono hBr.size), fun i => (keepc hb5 _ hlr i).trans (hkr i), by have := hb5.size; omega⟩
            case measure => simp [intOf]; omega
          | false =>
            go_wp2_with (go_at_call 17; refine (implPrefixHas_any _ _ _ _).mono ?_; rintro e w5 ⟨rfl, hb5⟩)
            go_roundw
            case rel => exact ⟨j + 1, by omega, by omega, rfl, by rw [hst.out, hq]; simp, hBr.trans (hb5.mono hBr.size), fun i => (keepc hb5 _ hlr i).trans (hkr i), by have := hb5.size; omega⟩
            case measure => simp [intOf]; omega
        · obtain rfl : j = 256 := by omega
          have hend : hasMany b k 256 = pfxSize k := by unfold hasMany; (split <;> (try split) <;> omega)
          rw [hend]
          clear hend hm1 hm2
          have hxb : hasB b k x = true → b ≤ x := fun hx => by
            simp only [hasB, Bool.and_eq_true] at hx
            exact (inB_true.1 hx.2).1
          have p0 : pfxSize 0 = 256 := rfl; have p1 : pfxSize 1 = 128 := rfl; have p2 : pfxSize 2 = 64 := rfl; have p3 : pfxSize 3 = 32 := rfl; have p4 : pfxSize 4 = 16 := rfl; have p5 : pfxSize 5 = 8 := rfl; have p6 : pfxSize 6 = 4 := rfl; have p7 : pfxSize 7 = 2 := rfl; have p8 : pfxSize 8 = 1 := rfl
          cases hx : hasB b k x with
          | false =>
            clear hxb
            rcases eight t1 t2 with rfl | rfl | rfl | rfl | rfl | rfl | rfl | rfl | rfl
            all_goals go_wp2_with (go_at_call 17; refine (implPrefixHas_any _ _ _ _).mono ?_; rintro e w5 ⟨rfl, hb5⟩)
            all_goals go_ret
            all_goals exact ⟨rfl, hBr.trans (hb5.mono hBr.size)⟩
          | true =>
            have hbx := hxb hx
            have hbx2 : decide (b ≤ x) = true := by simpa using hbx
            clear hxb
            rcases eight t1 t2 with rfl | rfl | rfl | rfl | rfl | rfl | rfl | rfl | rfl
            all_goals go_wp2_with (go_at_call 17; refine (implPrefixHas_any _ _ _ _).mono ?_; rintro e w5 ⟨rfl, hb5⟩; have hk5 := fun i => (keepc hb5 _ hlr i).trans (hkr i))
            all_goals go_ret
            all_goals exact ⟨rfl, hBr.trans (hb5.mono hBr.size)⟩
end Go.Proofs.Ytjjbfjjmpapajaa
