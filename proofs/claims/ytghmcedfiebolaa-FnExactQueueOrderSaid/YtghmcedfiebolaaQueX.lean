/-
  The walks of the laws that compare QueueBytes and QueueOrder in the program and the reference.
-/
import Derived.Test.YtghmcedfiebolaaQueC
import Derived.Test.YtghmcedfiebolaaQueW
namespace Go.Proofs.Ytghmcedfiebolaa
open Go Go.RowKit

theorem i64_le {n : Int} (h : (Lit.int .i64 n).wf = true) : n ≤ 9223372036854775807 := by
  have : -9223372036854775808 ≤ n ∧ n ≤ 9223372036854775807 := by simpa [Lit.wf, IntKind.min, IntKind.max, IntKind.signed, IntKind.bits] using h
  exact this.2

set_option maxRecDepth 20000 in
set_option maxHeartbeats 8000000 in
theorem exactQueueBytes_walk (qu many : Int) (hmany : many ≤ 9223372036854775807) {w : World} {A A' : Option Addr} {n c m c' : Nat} {qn : Nat → Nat} {q : Nat → Nat → Int} {sh : Nat → Int} (h : Qs w w.heap.size A n c qn q) (h' : Rws w w.heap.size 1 A' m c' (intR sh)) :
    Calls Try.prog 7 #[.slice A n c, .slice A' m c', .int .i64 qu, .int .i64 many] w (Truly w) := by
  have HH := Lib.hid h
  have HH' := Lib.hid h'
  have hm0 := h'.1.1
  have hm1 := h'.1.2
  unfold maxLen at hm1
  clear h h'
  by_cases hm : m ≤ 1048576
  rotate_left
  · have hd : decide ((1048576 : Int) < (m : Int)) = true := by simp; omega
    go_enter Try.func7, Try.ntmps7
    go_wp2
    go_ret
    exact ⟨rfl, Below.refl _ _⟩
  have hd : decide ((1048576 : Int) < (m : Int)) = false := by simp; omega
  by_cases hs : n + plSum qn n ≤ 1048576
  rotate_left
  · have hsz := szQ_no hs
    go_enter Try.func7, Try.ntmps7
    go_wp2_with fail
    refine (szIntSS_any 1048576 (by omega) (by omega) HH.out (Nat.le_refl _)).mono ?_
    rintro e w' ⟨rfl, rfl⟩
    go_wp2_with fail
    go_ret
    exact ⟨rfl, Below.refl _ _⟩
  have hsz := Lib.hid (szQ_yes hs)
  have hn : n ≤ 1048576 := by omega
  have HQ := Lib.hid (fun (i : Nat) (hi : i < n) => show qn i ≤ 1048576 by have := plSum_ge qn hi; omega)
  have hs2 : (0 : Int) ≤ 1048576 - (n + plSum qn n : Nat) := by omega
  go_enter Try.func7, Try.ntmps7
  go_wp2_with fail
  refine (szIntSS_any 1048576 (by omega) (by omega) HH.out (Nat.le_refl _)).mono ?_
  rintro e w' ⟨rfl, rfl⟩
  rw [hsz.out]
  go_wp2_with fail
  refine (toIntSS_any HH.out (Nat.le_refl _) hn HQ.out).mono ?_
  rintro e w1 ⟨A1, rfl, hQ1, hb1⟩
  have H1 := Lib.hid (hQ1.qs hn HQ.out)
  clear hQ1
  go_wp2_with fail
  refine (toIntS_any (HH'.out.below hb1) hb1.size hm).mono ?_
  rintro e w2 ⟨g2, rfl, hg2, hN2, hb2⟩
  have hB2 := Below.tr hb1 hb2
  have H2 := Lib.hid (hN2.rows (by unfold maxLen; omega) hN2.lt)
  have H12 := Lib.hid (H1.out.next hb2)
  clear hN2 H1
  go_wp2_with fail
  refine (specQueueBytes_any qu many H12.out H2.out (Nat.le_refl _) hmany).mono ?_
  rintro e w2' ⟨rfl, hb2'⟩
  have hB2' := Below.tr hB2 hb2'
  clear H12 H2
  go_wp2_with fail
  refine (toIntSS_any (HH.out.below hB2') hB2'.size hn HQ.out).mono ?_
  rintro e w3 ⟨A3, rfl, hQ3, hb3⟩
  have hB3 := Below.tr hB2' hb3
  have H3 := Lib.hid (hQ3.qs hn HQ.out)
  clear hQ3
  go_wp2_with fail
  refine (toIntS_any (HH'.out.below hB3) hB3.size hm).mono ?_
  rintro e w4 ⟨g4, rfl, hg4, hN4, hb4⟩
  have hB4 := Below.tr hB3 hb4
  have H4 := Lib.hid (hN4.rows (by unfold maxLen; omega) hN4.lt)
  have H34 := Lib.hid (H3.out.next hb4)
  clear hN4 H3
  go_wp2_with fail
  refine (implQueueBytes_any qu many H34.out H4.out (Nat.le_refl _) hmany).mono ?_
  rintro e w4' ⟨rfl, hb4'⟩
  have hB4' := Below.tr hB4 hb4'
  have H34' := Lib.hid (H34.out.next hb4')
  have H4' := Lib.hid (H4.out.next hb4')
  clear H34 H4
  go_wp2_with fail
  refine (toIntSS_any (HH.out.below hB4') hB4'.size hn HQ.out).mono ?_
  rintro e w5 ⟨A5, rfl, hQ5, hb5⟩
  have hB5 := Below.tr hB4' hb5
  have H5 := Lib.hid (hQ5.qs hn HQ.out)
  have H35 := Lib.hid (H34'.out.next hb5)
  have H45 := Lib.hid (H4'.out.next hb5)
  clear hQ5 H34' H4'
  go_wp2_with fail
  refine (eqIntSS_same H35.out H5.out (Nat.le_refl _)).mono ?_
  rintro e w6 ⟨rfl, hb6⟩
  have hB6 := Below.tr hB5 hb6
  have H46 := Lib.hid (H45.out.next hb6)
  clear H35 H5 H45
  go_wp2_with fail
  refine (toIntS_any (HH'.out.below hB6) hB6.size hm).mono ?_
  rintro e w7 ⟨g7, rfl, hg7, hN7, hb7⟩
  have hB7 := Below.tr hB6 hb7
  have H7 := Lib.hid (hN7.rows (by unfold maxLen; omega) hN7.lt)
  have H47 := Lib.hid (H46.out.next hb7)
  clear hN7 H46
  go_wp2_with fail
  refine (eqIntS_same H47.out H7.out (Nat.le_refl _)).mono ?_
  rintro e w8 ⟨rfl, hb8⟩
  go_wp2_with fail
  go_ret
  exact ⟨rfl, Below.tr hB7 hb8⟩

set_option maxRecDepth 20000 in
set_option maxHeartbeats 16000000 in
theorem exactQueueOrder_walk {w : World} {A A' : Option Addr} {n c m c' : Nat} {qn : Nat → Nat} {q : Nat → Nat → Int} {sh : Nat → Int} (h : Qs w w.heap.size A n c qn q) (h' : Rws w w.heap.size 1 A' m c' (intR sh)) :
    Calls Try.prog 9 #[.slice A n c, .slice A' m c'] w (Truly w) := by
  have HH := Lib.hid h
  have HH' := Lib.hid h'
  have hm0 := h'.1.1
  have hm1 := h'.1.2
  unfold maxLen at hm1
  clear h h'
  by_cases hm : m ≤ 1048576
  rotate_left
  · have hd : decide ((1048576 : Int) < (m : Int)) = true := by simp; omega
    go_enter Try.func9, Try.ntmps9
    go_wp2
    go_ret
    exact ⟨rfl, Below.refl _ _⟩
  have hd : decide ((1048576 : Int) < (m : Int)) = false := by simp; omega
  by_cases hs : n + plSum qn n ≤ 1048576
  rotate_left
  · have hsz := szQ_no hs
    go_enter Try.func9, Try.ntmps9
    go_wp2_with fail
    refine (szIntSS_any 1048576 (by omega) (by omega) HH.out (Nat.le_refl _)).mono ?_
    rintro e w' ⟨rfl, rfl⟩
    go_wp2_with fail
    go_ret
    exact ⟨rfl, Below.refl _ _⟩
  have hsz := Lib.hid (szQ_yes hs)
  have hn : n ≤ 1048576 := by omega
  have HQ := Lib.hid (fun (i : Nat) (hi : i < n) => show qn i ≤ 1048576 by have := plSum_ge qn hi; omega)
  have hs2 : (0 : Int) ≤ 1048576 - (n + plSum qn n : Nat) := by omega
  have hNB := qoN_le n qn q m sh
  go_enter Try.func9, Try.ntmps9
  go_wp2_with fail
  refine (szIntSS_any 1048576 (by omega) (by omega) HH.out (Nat.le_refl _)).mono ?_
  rintro e w' ⟨rfl, rfl⟩
  rw [hsz.out]
  clear hd
  go_wp2_with fail
  refine (toIntSS_any HH.out (Nat.le_refl _) hn HQ.out).mono ?_
  rintro e w1 ⟨A1, rfl, hQ1, hb1⟩
  have H1 := Lib.hid (hQ1.qs hn HQ.out)
  clear hQ1
  go_wp2_with fail
  refine (toIntS_any (HH'.out.below hb1) hb1.size hm).mono ?_
  rintro e w2 ⟨g2, rfl, hg2, hN2, hb2⟩
  have hB2 := Below.tr hb1 hb2
  have hs2' := hB2.size
  have H2 := Lib.hid (hN2.rows (by unfold maxLen; omega) hN2.lt)
  have H12 := Lib.hid (H1.out.next hb2)
  clear hN2 H1
  go_wp2_with fail
  refine (specQueueOrder_any H12.out H2.out (Nat.le_refl _)).mono ?_
  rintro e w3 ⟨A_o, q_o, rfl, ho_3, hb3⟩
  have hB3 := Below.tr hB2 hb3
  have lo := ho_3.lies
  have hs3 := hb3.size
  clear H12 H2
  go_wp2_with fail
  refine (toIntSS_any (HH.out.below hB3) hB3.size hn HQ.out).mono ?_
  rintro e w4 ⟨A4, rfl, hx0_4, hb4⟩
  have hB4 := Below.tr hB3 hb4
  have hs4 := hb4.size
  have ho_4 := ho_3.next hb4
  go_wp2_with fail
  refine (toIntS_any (HH'.out.below hB4) hB4.size hm).mono ?_
  rintro e w5 ⟨g5, rfl, hg5, hN5, hb5⟩
  have hB5 := Below.tr hB4 hb5
  have hs5 := hb5.size
  have ho_5 := ho_4.next hb5
  have hx0_5 := hx0_4.next hb5
  have hx1_5 := Own.of_new hN5 (by unfold maxLen; omega) hg5
  have lx1 := hx1_5.lies
  clear hN5
  go_wp2_with fail
  refine (implQueueOrder_any (hx0_5.qs hn HQ.out) hx1_5.rows (Nat.le_refl _)).mono ?_
  rintro e w6 ⟨A_g, q_g, rfl, hg_6, hb6⟩
  have hB6 := Below.tr hB5 hb6
  have hs6 := hb6.size
  have ho_6 := ho_5.next hb6
  have hx0_6 := hx0_5.next hb6
  have hx1_6 := hx1_5.next hb6
  have lg := hg_6.lies
  go_wp2_with fail
  refine (eqSentS_same hg_6.rows ho_6.rows (Nat.le_refl _)).mono ?_
  rintro e w7 ⟨rfl, hb7⟩
  have hB7 := Below.tr hB6 hb7
  have hs7 := hb7.size
  have ho_7 := ho_6.next hb7
  have hx0_7 := hx0_6.next hb7
  have hx1_7 := hx1_6.next hb7
  have hg_7 := hg_6.next hb7
  go_wp2_with fail
  refine (toIntSS_any (HH.out.below hB7) hB7.size hn HQ.out).mono ?_
  rintro e w8 ⟨A8, rfl, hy_8, hb8⟩
  have hB8 := Below.tr hB7 hb8
  have hs8 := hb8.size
  have ho_8 := ho_7.next hb8
  have hx0_8 := hx0_7.next hb8
  have hx1_8 := hx1_7.next hb8
  have hg_8 := hg_7.next hb8
  go_wp2_with fail
  refine (eqIntSS_same (hx0_8.qs hn HQ.out) (hy_8.qs hn HQ.out) (Nat.le_refl _)).mono ?_
  rintro e w9 ⟨rfl, hb9⟩
  have hB9 := Below.tr hB8 hb9
  have hs9 := hb9.size
  have ho_9 := ho_8.next hb9
  have hx0_9 := hx0_8.next hb9
  have hx1_9 := hx1_8.next hb9
  have hg_9 := hg_8.next hb9
  clear hy_8
  go_wp2_with fail
  refine (toIntS_any (HH'.out.below hB9) hB9.size hm).mono ?_
  rintro e w10 ⟨g10, rfl, hg10, hN10, hb10⟩
  have hB10 := Below.tr hB9 hb10
  have hs10 := hb10.size
  have ho_10 := ho_9.next hb10
  have hx0_10 := hx0_9.next hb10
  have hx1_10 := hx1_9.next hb10
  have hg_10 := hg_9.next hb10
  go_wp2_with fail
  refine (eqIntS_same hx1_10.rows (hN10.rows (by unfold maxLen; omega) hN10.lt) (Nat.le_refl _)).mono ?_
  rintro e w11 ⟨rfl, hb11⟩
  have hB11 := Below.tr hB10 hb11
  have hs11 := hb11.size
  have ho_11 := ho_10.next hb11
  have hx0_11 := hx0_10.next hb11
  have hx1_11 := hx1_10.next hb11
  have hg_11 := hg_10.next hb11
  clear hN10
  clear ho_3 ho_4 ho_5 ho_6 ho_7 ho_8 ho_9 ho_10 hx0_4 hx0_5 hx0_6 hx0_7 hx0_8 hx0_9 hx0_10 hx1_5 hx1_6 hx1_7 hx1_8 hx1_9 hx1_10 hg_6 hg_7 hg_8 hg_9 hg_10
  go_wp2_with fail
  refine (markIntSS_any 1 hx0_11 (by omega) (by omega) hn (by omega)).mono ?_
  rintro e w12 ⟨rfl, hw⟩
  have hs12 := hw.size
  have hB12 := Below.wrote hB11 hw (by omega)
  have ho_12 := ho_11.apart hw lo (by omega)
  have hg_12 := hg_11.apart hw lg (by omega)
  have hx1_12 := hx1_11.apart hw lx1 (by omega)
  clear hw hx0_11
  go_wp2_with fail
  refine (markIntS_any (1 + (plSum qn n : Nat)) hx1_12 (by omega) (by omega) (by omega)).mono ?_
  rintro e w13 ⟨rfl, hx1_13, hw⟩
  replace hw := hw _ _ lx1
  have hs13 := hw.size
  have hB13 := Below.wrote hB12 hw (by omega)
  have ho_13 := ho_12.apart hw lo (by omega)
  have hg_13 := hg_12.apart hw lg (by omega)
  clear hw hx1_13 hx1_12 hx1_11
  go_wp2_with fail
  refine (eqSentS_same hg_13.rows ho_13.rows (Nat.le_refl _)).mono ?_
  rintro e w14 ⟨rfl, hb14⟩
  have hB14 := Below.tr hB13 hb14
  have hs14 := hb14.size
  have ho_14 := ho_13.next hb14
  have hg_14 := hg_13.next hb14
  go_wp2_with fail
  refine (markSentS_any (1) hg_14 (by omega) (by omega) (by omega)).mono ?_
  rintro e w15 ⟨rfl, hg_15, hw⟩
  replace hw := hw _ _ lg
  have hs15 := hw.size
  have hB15 := Below.wrote hB14 hw (by omega)
  have ho_15 := ho_14.apart hw lo (by omega)
  clear hw
  go_wp2_with fail
  refine (heldSentS_same (1) hg_15.rows (Nat.le_refl _) (by omega) (by omega) (by omega)).mono ?_
  rintro e w' ⟨rfl, rfl⟩
  go_wp2_with fail
  refine (toIntSS_any (HH.out.below hB15) hB15.size hn HQ.out).mono ?_
  rintro e w16 ⟨A16, rfl, hz0_16, hb16⟩
  have hB16 := Below.tr hB15 hb16
  have hs16 := hb16.size
  have ho_16 := ho_15.next hb16
  have hg_16 := hg_15.next hb16
  go_wp2_with fail
  refine (toIntS_any (HH'.out.below hB16) hB16.size hm).mono ?_
  rintro e w17 ⟨g17, rfl, hg17, hN17, hb17⟩
  have hB17 := Below.tr hB16 hb17
  have hs17 := hb17.size
  have ho_17 := ho_16.next hb17
  have hg_17 := hg_16.next hb17
  have hz0_17 := hz0_16.next hb17
  go_wp2_with fail
  refine (implQueueOrder_any (hz0_17.qs hn HQ.out) (hN17.rows (by unfold maxLen; omega) hN17.lt) (Nat.le_refl _)).mono ?_
  rintro e w18 ⟨A_h, q_h, rfl, hh_18, hb18⟩
  have hB18 := Below.tr hB17 hb18
  have ho_18 := ho_17.next hb18
  have hg_18 := hg_17.next hb18
  clear hz0_16 hz0_17 hN17
  go_wp2_with fail
  refine (eqSentS_same hh_18.rows ho_18.rows (Nat.le_refl _)).mono ?_
  rintro e w19 ⟨rfl, hb19⟩
  have hB19 := Below.tr hB18 hb19
  have hg_19 := hg_18.next hb19
  go_wp2_with fail
  refine (heldSentS_same (1) hg_19.rows (Nat.le_refl _) (by omega) (by omega) (by omega)).mono ?_
  rintro e w' ⟨rfl, rfl⟩
  go_wp2_with fail
  go_ret
  exact ⟨rfl, hB19⟩
end Go.Proofs.Ytghmcedfiebolaa
