/-
  The four laws of senders over drawn codes: their walks.
-/
import Derived.Test.YtejfmhiogafhiaaSndF
import Derived.Test.YtejfmhiogafhiaaFlow
namespace Go.Proofs.Ytejfmhiogafhiaa
open Go.RowKit Go.Joins

set_option maxHeartbeats 1000000 in
theorem senderValid_walk {w : World} {A : Option Addr} {n c : Nat} (h : Bytes w w.heap.size A n c) :
    Calls Try.prog 7 #[.slice A n c] w (Truly w) := by
  by_cases hn : 1048576 < n
  · go_enter Try.func7, Try.ntmps7
    go_wp2
    go_ret
    exact ⟨rfl, Below.refl _ _⟩
  · go_enter Try.func7, Try.ntmps7
    go_wp2_with fail
    refine (drawSenderValid_any h).mono ?_
    rintro e w1 ⟨f, k, r, rfl, ⟨s1, s2, s3, s4, s5, s6⟩, hb⟩
    have hv1 : sndB f (f + r + 1) r = false := by
      cases hx : sndB f (f + r + 1) r with
      | false => rfl
      | true => have := sndB_true.1 hx; omega
    cases hv : sndB f k r with
    | false =>
      go_wp2_with (first | (go_at_call 13; refine (implSenderValid_any _ _ _ _).mono ?_; rintro e w1 ⟨rfl, rfl⟩) | (go_at_call 11; refine (specSenderValid_any _ _ _ _).mono ?_; rintro e w1 ⟨rfl, rfl⟩) | (go_at_call 22; refine (alive_any _).mono ?_; rintro e w1 ⟨rfl, hba⟩))
      go_ret
      exact ⟨rfl, by (repeat (first | exact Below.refl _ _ | assumption | refine Below.al ?_ _ | refine Below.dr ?_ | (refine Below.st ?_ (by simp <;> omega) _) | (refine Below.tr ?_ (by assumption))))⟩
    | true =>
      have hv2 : sndB f f r = true := by have := sndB_true.1 hv; exact sndB_true.2 (by omega)
      go_wp2_with (first | (go_at_call 13; refine (implSenderValid_any _ _ _ _).mono ?_; rintro e w1 ⟨rfl, rfl⟩) | (go_at_call 11; refine (specSenderValid_any _ _ _ _).mono ?_; rintro e w1 ⟨rfl, rfl⟩) | (go_at_call 22; refine (alive_any _).mono ?_; rintro e w1 ⟨rfl, hba⟩))
      go_ret
      exact ⟨rfl, by (repeat (first | exact Below.refl _ _ | assumption | refine Below.al ?_ _ | refine Below.dr ?_ | (refine Below.st ?_ (by simp <;> omega) _) | (refine Below.tr ?_ (by assumption))))⟩

set_option maxHeartbeats 1000000 in
theorem sendMore_walk {w : World} {A : Option Addr} {n c : Nat} (h : Bytes w w.heap.size A n c) :
    Calls Try.prog 8 #[.slice A n c] w (Truly w) := by
  by_cases hn : 1048576 < n
  · go_enter Try.func8, Try.ntmps8
    go_wp2
    go_ret
    exact ⟨rfl, Below.refl _ _⟩
  · go_enter Try.func8, Try.ntmps8
    go_wp2_with fail
    refine (drawSendMore_any h).mono ?_
    rintro e w1 ⟨f, k, r, x, rfl, ⟨s1, s2, s3, s4, s5, s6⟩, ⟨s7, s8⟩, hb⟩
    cases hB : smB f k r x with
    | false =>
      go_wp2_with fail
      refine (implSendMore_any _ _ _ _ _).mono ?_
      rintro e w2 ⟨rfl, hb2⟩
      have hs2 := hb2.size
      (try simp at hs2)
      have hc2_0 := keepc hb2 (w1.heap.size) (by (try simp) <;> omega)
      have hf2_0 := keepf hb2 (w1.heap.size) (by (try simp) <;> omega)
      have hl2_0 : w1.heap.size < w2.heap.size := by omega
      rw [smV_no hB]
      go_wp2_with fail
      refine (specSendMore_any _ _ _ _ _).mono ?_
      rintro e w3 ⟨rfl, hb3⟩
      have hs3 := hb3.size
      (try simp at hs3)
      have hc3_0 := keepc hb3 (w1.heap.size) (by (try simp) <;> omega)
      have hf3_0 := keepf hb3 (w1.heap.size) (by (try simp) <;> omega)
      have hl3_0 : w1.heap.size < w3.heap.size := by omega
      have hc3_1 := keepc hb3 (w2.heap.size) (by (try simp) <;> omega)
      have hf3_1 := keepf hb3 (w2.heap.size) (by (try simp) <;> omega)
      have hl3_1 : w2.heap.size < w3.heap.size := by omega
      rw [smV_no hB]
      go_wp2_with fail
      go_wp2_with (first | (go_at_call 13; refine (implSenderValid_any _ _ _ _).mono ?_; rintro e w1 ⟨rfl, rfl⟩) | (go_at_call 11; refine (specSenderValid_any _ _ _ _).mono ?_; rintro e w1 ⟨rfl, rfl⟩) | (go_at_call 22; refine (alive_any _).mono ?_; rintro e w1 ⟨rfl, hba⟩))
      go_ret
      exact ⟨rfl, by (repeat (first | exact Below.refl _ _ | assumption | refine Below.al ?_ _ | refine Below.dr ?_ | (refine Below.st ?_ (by simp <;> omega) _) | (refine Below.tr ?_ (by assumption))))⟩
    | true =>
      obtain ⟨t1, t2⟩ := Bool.and_eq_true_iff.1 hB
      obtain ⟨u1, u2, u3, u4, u5, u6⟩ := sndB_true.1 t1
      obtain ⟨u7, u8⟩ := inB_true.1 t2
      clear t1 t2
      by_cases hx : x ≤ f + r - k
      · have hv : sndB f (k + x) r = true := sndB_true.2 (by omega)
        go_wp2_with fail
        refine (implSendMore_any _ _ _ _ _).mono ?_
        rintro e w2 ⟨rfl, hb2⟩
        have hs2 := hb2.size
        (try simp at hs2)
        have hc2_0 := keepc hb2 (w1.heap.size) (by (try simp) <;> omega)
        have hf2_0 := keepf hb2 (w1.heap.size) (by (try simp) <;> omega)
        have hl2_0 : w1.heap.size < w2.heap.size := by omega
        rw [smV_lo hB hx]
        go_wp2_with fail
        refine (specSendMore_any _ _ _ _ _).mono ?_
        rintro e w3 ⟨rfl, hb3⟩
        have hs3 := hb3.size
        (try simp at hs3)
        have hc3_0 := keepc hb3 (w1.heap.size) (by (try simp) <;> omega)
        have hf3_0 := keepf hb3 (w1.heap.size) (by (try simp) <;> omega)
        have hl3_0 : w1.heap.size < w3.heap.size := by omega
        have hc3_1 := keepc hb3 (w2.heap.size) (by (try simp) <;> omega)
        have hf3_1 := keepf hb3 (w2.heap.size) (by (try simp) <;> omega)
        have hl3_1 : w2.heap.size < w3.heap.size := by omega
        rw [smV_lo hB hx]
        go_wp2_with fail
        go_wp2_with (first | (go_at_call 13; refine (implSenderValid_any _ _ _ _).mono ?_; rintro e w1 ⟨rfl, rfl⟩) | (go_at_call 11; refine (specSenderValid_any _ _ _ _).mono ?_; rintro e w1 ⟨rfl, rfl⟩) | (go_at_call 22; refine (alive_any _).mono ?_; rintro e w1 ⟨rfl, hba⟩))
        go_ret
        exact ⟨rfl, by (repeat (first | exact Below.refl _ _ | assumption | refine Below.al ?_ _ | refine Below.dr ?_ | (refine Below.st ?_ (by simp <;> omega) _) | (refine Below.tr ?_ (by assumption))))⟩
      · have hx' : f + r - k ≤ x := by omega
        have hv : sndB f (k + (f + r - k)) r = true := sndB_true.2 (by omega)
        have hy : (k + (f + r - k) - f == r) = true := beq_iff_eq.2 (by omega)
        go_wp2_with fail
        refine (implSendMore_any _ _ _ _ _).mono ?_
        rintro e w2 ⟨rfl, hb2⟩
        have hs2 := hb2.size
        (try simp at hs2)
        have hc2_0 := keepc hb2 (w1.heap.size) (by (try simp) <;> omega)
        have hf2_0 := keepf hb2 (w1.heap.size) (by (try simp) <;> omega)
        have hl2_0 : w1.heap.size < w2.heap.size := by omega
        rw [smV_hi hB hx']
        go_wp2_with fail
        refine (specSendMore_any _ _ _ _ _).mono ?_
        rintro e w3 ⟨rfl, hb3⟩
        have hs3 := hb3.size
        (try simp at hs3)
        have hc3_0 := keepc hb3 (w1.heap.size) (by (try simp) <;> omega)
        have hf3_0 := keepf hb3 (w1.heap.size) (by (try simp) <;> omega)
        have hl3_0 : w1.heap.size < w3.heap.size := by omega
        have hc3_1 := keepc hb3 (w2.heap.size) (by (try simp) <;> omega)
        have hf3_1 := keepf hb3 (w2.heap.size) (by (try simp) <;> omega)
        have hl3_1 : w2.heap.size < w3.heap.size := by omega
        rw [smV_hi hB hx']
        go_wp2_with fail
        go_wp2_with (first | (go_at_call 13; refine (implSenderValid_any _ _ _ _).mono ?_; rintro e w1 ⟨rfl, rfl⟩) | (go_at_call 11; refine (specSenderValid_any _ _ _ _).mono ?_; rintro e w1 ⟨rfl, rfl⟩) | (go_at_call 22; refine (alive_any _).mono ?_; rintro e w1 ⟨rfl, hba⟩))
        go_ret
        exact ⟨rfl, by (repeat (first | exact Below.refl _ _ | assumption | refine Below.al ?_ _ | refine Below.dr ?_ | (refine Below.st ?_ (by simp <;> omega) _) | (refine Below.tr ?_ (by assumption))))⟩

set_option maxHeartbeats 2000000 in
theorem sizeSender_walk {w : World} {A : Option Addr} {n c : Nat} (h : Bytes w w.heap.size A n c) :
    Calls Try.prog 9 #[.slice A n c] w (Truly w) := by
  by_cases hn : 1048576 < n
  · go_enter Try.func9, Try.ntmps9
    go_wp2
    go_ret
    exact ⟨rfl, Below.refl _ _⟩
  · go_enter Try.func9, Try.ntmps9
    go_wp2_with fail
    refine (drawSizeSender_any h).mono ?_
    rintro e w1 ⟨f, k, r, x, rfl, ⟨s1, s2, s3, s4, s5, s6⟩, ⟨s7, s8⟩, hb⟩
    cases hB : szB f k r x with
    | false =>
      go_wp2_with fail
      refine (implSizeSender_any _ _ _ _ _).mono ?_
      rintro e w2 ⟨rfl, hb2⟩
      have hs2 := hb2.size
      (try simp at hs2)
      have hc2_0 := keepc hb2 (w1.heap.size) (by (try simp) <;> omega)
      have hf2_0 := keepf hb2 (w1.heap.size) (by (try simp) <;> omega)
      have hl2_0 : w1.heap.size < w2.heap.size := by omega
      rw [szV_no hB]
      go_wp2_with fail
      refine (specSizeSender_any _ _ _ _ _).mono ?_
      rintro e w3 ⟨rfl, hb3⟩
      have hs3 := hb3.size
      (try simp at hs3)
      have hc3_0 := keepc hb3 (w1.heap.size) (by (try simp) <;> omega)
      have hf3_0 := keepf hb3 (w1.heap.size) (by (try simp) <;> omega)
      have hl3_0 : w1.heap.size < w3.heap.size := by omega
      have hc3_1 := keepc hb3 (w2.heap.size) (by (try simp) <;> omega)
      have hf3_1 := keepf hb3 (w2.heap.size) (by (try simp) <;> omega)
      have hl3_1 : w2.heap.size < w3.heap.size := by omega
      rw [szV_no hB]
      go_wp2_with fail
      all_goals go_wp2_with (first | (go_at_call 13; refine (implSenderValid_any _ _ _ _).mono ?_; rintro e w1 ⟨rfl, rfl⟩) | (go_at_call 11; refine (specSenderValid_any _ _ _ _).mono ?_; rintro e w1 ⟨rfl, rfl⟩) | (go_at_call 22; refine (alive_any _).mono ?_; rintro e w1 ⟨rfl, hba⟩))
      all_goals go_ret
      all_goals exact ⟨rfl, by (repeat (first | exact Below.refl _ _ | assumption | refine Below.al ?_ _ | refine Below.dr ?_ | (refine Below.st ?_ (by simp <;> omega) _) | (refine Below.tr ?_ (by assumption))))⟩
    | true =>
      obtain ⟨t1, t2⟩ := Bool.and_eq_true_iff.1 hB
      obtain ⟨u1, u2, u3, u4, u5, u6⟩ := sndB_true.1 t1
      obtain ⟨u7, u8⟩ := inB_true.1 t2
      clear t1 t2
      by_cases hx : k - f ≤ x
      · have hv : sndB f k x = true := sndB_true.2 (by omega)
        go_wp2_with fail
        refine (implSizeSender_any _ _ _ _ _).mono ?_
        rintro e w2 ⟨rfl, hb2⟩
        have hs2 := hb2.size
        (try simp at hs2)
        have hc2_0 := keepc hb2 (w1.heap.size) (by (try simp) <;> omega)
        have hf2_0 := keepf hb2 (w1.heap.size) (by (try simp) <;> omega)
        have hl2_0 : w1.heap.size < w2.heap.size := by omega
        rw [szV_ye hB hx]
        go_wp2_with fail
        refine (specSizeSender_any _ _ _ _ _).mono ?_
        rintro e w3 ⟨rfl, hb3⟩
        have hs3 := hb3.size
        (try simp at hs3)
        have hc3_0 := keepc hb3 (w1.heap.size) (by (try simp) <;> omega)
        have hf3_0 := keepf hb3 (w1.heap.size) (by (try simp) <;> omega)
        have hl3_0 : w1.heap.size < w3.heap.size := by omega
        have hc3_1 := keepc hb3 (w2.heap.size) (by (try simp) <;> omega)
        have hf3_1 := keepf hb3 (w2.heap.size) (by (try simp) <;> omega)
        have hl3_1 : w2.heap.size < w3.heap.size := by omega
        rw [szV_ye hB hx]
        go_wp2_with fail
        go_wp2_with (first | (go_at_call 13; refine (implSenderValid_any _ _ _ _).mono ?_; rintro e w1 ⟨rfl, rfl⟩) | (go_at_call 11; refine (specSenderValid_any _ _ _ _).mono ?_; rintro e w1 ⟨rfl, rfl⟩) | (go_at_call 22; refine (alive_any _).mono ?_; rintro e w1 ⟨rfl, hba⟩))
        go_ret
        exact ⟨rfl, by (repeat (first | exact Below.refl _ _ | assumption | refine Below.al ?_ _ | refine Below.dr ?_ | (refine Below.st ?_ (by simp <;> omega) _) | (refine Below.tr ?_ (by assumption))))⟩
      · have hx' : x < k - f := by omega
        go_wp2_with fail
        refine (implSizeSender_any _ _ _ _ _).mono ?_
        rintro e w2 ⟨rfl, hb2⟩
        have hs2 := hb2.size
        (try simp at hs2)
        have hc2_0 := keepc hb2 (w1.heap.size) (by (try simp) <;> omega)
        have hf2_0 := keepf hb2 (w1.heap.size) (by (try simp) <;> omega)
        have hl2_0 : w1.heap.size < w2.heap.size := by omega
        rw [szV_un hB hx']
        go_wp2_with fail
        refine (specSizeSender_any _ _ _ _ _).mono ?_
        rintro e w3 ⟨rfl, hb3⟩
        have hs3 := hb3.size
        (try simp at hs3)
        have hc3_0 := keepc hb3 (w1.heap.size) (by (try simp) <;> omega)
        have hf3_0 := keepf hb3 (w1.heap.size) (by (try simp) <;> omega)
        have hl3_0 : w1.heap.size < w3.heap.size := by omega
        have hc3_1 := keepc hb3 (w2.heap.size) (by (try simp) <;> omega)
        have hf3_1 := keepf hb3 (w2.heap.size) (by (try simp) <;> omega)
        have hl3_1 : w2.heap.size < w3.heap.size := by omega
        rw [szV_un hB hx']
        go_wp2_with fail
        go_wp2_with (first | (go_at_call 13; refine (implSenderValid_any _ _ _ _).mono ?_; rintro e w1 ⟨rfl, rfl⟩) | (go_at_call 11; refine (specSenderValid_any _ _ _ _).mono ?_; rintro e w1 ⟨rfl, rfl⟩) | (go_at_call 22; refine (alive_any _).mono ?_; rintro e w1 ⟨rfl, hba⟩))
        go_ret
        exact ⟨rfl, by (repeat (first | exact Below.refl _ _ | assumption | refine Below.al ?_ _ | refine Below.dr ?_ | (refine Below.st ?_ (by simp <;> omega) _) | (refine Below.tr ?_ (by assumption))))⟩

set_option maxHeartbeats 2000000 in
theorem hearSender_walk {w : World} {A : Option Addr} {n c : Nat} (h : Bytes w w.heap.size A n c) :
    Calls Try.prog 10 #[.slice A n c] w (Truly w) := by
  by_cases hn : 1048576 < n
  · go_enter Try.func10, Try.ntmps10
    go_wp2
    go_ret
    exact ⟨rfl, Below.refl _ _⟩
  · go_enter Try.func10, Try.ntmps10
    go_wp2_with fail
    refine (drawHearSender_any h).mono ?_
    rintro e w1 ⟨f, k, r, x, rfl, ⟨s1, s2, s3, s4, s5, s6⟩, ⟨s7, s8⟩, hb⟩
    cases hB : sndB f k r with
    | false =>
      go_wp2_with fail
      refine (implHearSender_any _ _ _ _ _).mono ?_
      rintro e w2 ⟨rfl, hb2⟩
      have hs2 := hb2.size
      (try simp at hs2)
      have hc2_0 := keepc hb2 (w1.heap.size) (by (try simp) <;> omega)
      have hf2_0 := keepf hb2 (w1.heap.size) (by (try simp) <;> omega)
      have hl2_0 : w1.heap.size < w2.heap.size := by omega
      rw [heV_no hB]
      go_wp2_with fail
      refine (specHearSender_any _ _ _ _ _).mono ?_
      rintro e w3 ⟨rfl, hb3⟩
      have hs3 := hb3.size
      (try simp at hs3)
      have hc3_0 := keepc hb3 (w1.heap.size) (by (try simp) <;> omega)
      have hf3_0 := keepf hb3 (w1.heap.size) (by (try simp) <;> omega)
      have hl3_0 : w1.heap.size < w3.heap.size := by omega
      have hc3_1 := keepc hb3 (w2.heap.size) (by (try simp) <;> omega)
      have hf3_1 := keepf hb3 (w2.heap.size) (by (try simp) <;> omega)
      have hl3_1 : w2.heap.size < w3.heap.size := by omega
      rw [heV_no hB]
      go_wp2_with fail
      all_goals go_wp2_with (first | (go_at_call 13; refine (implSenderValid_any _ _ _ _).mono ?_; rintro e w1 ⟨rfl, rfl⟩) | (go_at_call 11; refine (specSenderValid_any _ _ _ _).mono ?_; rintro e w1 ⟨rfl, rfl⟩) | (go_at_call 22; refine (alive_any _).mono ?_; rintro e w1 ⟨rfl, hba⟩))
      all_goals go_ret
      all_goals exact ⟨rfl, by (repeat (first | exact Below.refl _ _ | assumption | refine Below.al ?_ _ | refine Below.dr ?_ | (refine Below.st ?_ (by simp <;> omega) _) | (refine Below.tr ?_ (by assumption))))⟩
    | true =>
      obtain ⟨u1, u2, u3, u4, u5, u6⟩ := sndB_true.1 hB
      cases hE : heB f k x with
      | false =>
        go_wp2_with fail
        refine (implHearSender_any _ _ _ _ _).mono ?_
        rintro e w2 ⟨rfl, hb2⟩
        have hs2 := hb2.size
        (try simp at hs2)
        have hc2_0 := keepc hb2 (w1.heap.size) (by (try simp) <;> omega)
        have hf2_0 := keepf hb2 (w1.heap.size) (by (try simp) <;> omega)
        have hl2_0 : w1.heap.size < w2.heap.size := by omega
        rw [heV_un hB hE]
        go_wp2_with fail
        refine (specHearSender_any _ _ _ _ _).mono ?_
        rintro e w3 ⟨rfl, hb3⟩
        have hs3 := hb3.size
        (try simp at hs3)
        have hc3_0 := keepc hb3 (w1.heap.size) (by (try simp) <;> omega)
        have hf3_0 := keepf hb3 (w1.heap.size) (by (try simp) <;> omega)
        have hl3_0 : w1.heap.size < w3.heap.size := by omega
        have hc3_1 := keepc hb3 (w2.heap.size) (by (try simp) <;> omega)
        have hf3_1 := keepf hb3 (w2.heap.size) (by (try simp) <;> omega)
        have hl3_1 : w2.heap.size < w3.heap.size := by omega
        rw [heV_un hB hE]
        go_wp2_with fail
        go_wp2_with (first | (go_at_call 13; refine (implSenderValid_any _ _ _ _).mono ?_; rintro e w1 ⟨rfl, rfl⟩) | (go_at_call 11; refine (specSenderValid_any _ _ _ _).mono ?_; rintro e w1 ⟨rfl, rfl⟩) | (go_at_call 22; refine (alive_any _).mono ?_; rintro e w1 ⟨rfl, hba⟩))
        go_ret
        exact ⟨rfl, by (repeat (first | exact Below.refl _ _ | assumption | refine Below.al ?_ _ | refine Below.dr ?_ | (refine Below.st ?_ (by simp <;> omega) _) | (refine Below.tr ?_ (by assumption))))⟩
      | true =>
        obtain ⟨u7, u8⟩ := inB_true.1 hE
        have u9 : x ≤ k := by omega
        have u10 : x ≤ 100000 := by omega
        clear u8
        have hv : sndB x k r = true := sndB_true.2 (by omega)
        have hm1 : smB f k r 1000 = true := by simp [smB, hB, inB]
        have hm2 : smB x k r 1000 = true := by simp [smB, hv, inB]
        have hw : heB x k (k + 1) = false := by
          cases hx : heB x k (k + 1) with
          | false => rfl
          | true => have := inB_true.1 hx; omega
        have l1 : f + r - k ≤ 1000 := by omega
        have l2 : x + r - k ≤ 1000 := by omega
        have hq : min 1000 (f + r - k + x - f) = x + r - k := by omega
        have hq2 : (x + r - k == f + r - k + x - f) = true := beq_iff_eq.2 (by omega)
        go_wp2_with fail
        refine (implHearSender_any _ _ _ _ _).mono ?_
        rintro e w2 ⟨rfl, hb2⟩
        have hs2 := hb2.size
        (try simp at hs2)
        have hc2_0 := keepc hb2 (w1.heap.size) (by (try simp) <;> omega)
        have hf2_0 := keepf hb2 (w1.heap.size) (by (try simp) <;> omega)
        have hl2_0 : w1.heap.size < w2.heap.size := by omega
        rw [heV_ye hB hE]
        go_wp2_with fail
        refine (specHearSender_any _ _ _ _ _).mono ?_
        rintro e w3 ⟨rfl, hb3⟩
        have hs3 := hb3.size
        (try simp at hs3)
        have hc3_0 := keepc hb3 (w1.heap.size) (by (try simp) <;> omega)
        have hf3_0 := keepf hb3 (w1.heap.size) (by (try simp) <;> omega)
        have hl3_0 : w1.heap.size < w3.heap.size := by omega
        have hc3_1 := keepc hb3 (w2.heap.size) (by (try simp) <;> omega)
        have hf3_1 := keepf hb3 (w2.heap.size) (by (try simp) <;> omega)
        have hl3_1 : w2.heap.size < w3.heap.size := by omega
        rw [heV_ye hB hE]
        go_wp2_with fail
        refine (implSendMore_any _ _ _ _ _).mono ?_
        rintro e w4 ⟨rfl, hb4⟩
        have hs4 := hb4.size
        (try simp at hs4)
        have hc4_0 := keepc hb4 (w1.heap.size) (by (try simp) <;> omega)
        have hf4_0 := keepf hb4 (w1.heap.size) (by (try simp) <;> omega)
        have hl4_0 : w1.heap.size < w4.heap.size := by omega
        have hc4_1 := keepc hb4 (w2.heap.size) (by (try simp) <;> omega)
        have hf4_1 := keepf hb4 (w2.heap.size) (by (try simp) <;> omega)
        have hl4_1 : w2.heap.size < w4.heap.size := by omega
        rw [smV_hi hm1 l1]
        go_wp2_with fail
        refine (implSendMore_any _ _ _ _ _).mono ?_
        rintro e w5 ⟨rfl, hb5⟩
        have hs5 := hb5.size
        (try simp at hs5)
        have hc5_0 := keepc hb5 (w1.heap.size) (by (try simp) <;> omega)
        have hf5_0 := keepf hb5 (w1.heap.size) (by (try simp) <;> omega)
        have hl5_0 : w1.heap.size < w5.heap.size := by omega
        have hc5_1 := keepc hb5 (w2.heap.size) (by (try simp) <;> omega)
        have hf5_1 := keepf hb5 (w2.heap.size) (by (try simp) <;> omega)
        have hl5_1 : w2.heap.size < w5.heap.size := by omega
        rw [smV_hi hm2 l2]
        go_wp2_with fail
        refine (implHearSender_any _ _ _ _ _).mono ?_
        rintro e w6 ⟨rfl, hb6⟩
        have hs6 := hb6.size
        (try simp at hs6)
        have hc6_0 := keepc hb6 (w1.heap.size) (by (try simp) <;> omega)
        have hf6_0 := keepf hb6 (w1.heap.size) (by (try simp) <;> omega)
        have hl6_0 : w1.heap.size < w6.heap.size := by omega
        have hc6_1 := keepc hb6 (w2.heap.size) (by (try simp) <;> omega)
        have hf6_1 := keepf hb6 (w2.heap.size) (by (try simp) <;> omega)
        have hl6_1 : w2.heap.size < w6.heap.size := by omega
        rw [heV_un hv hw]
        go_wp2_with fail
        go_wp2_with (first | (go_at_call 13; refine (implSenderValid_any _ _ _ _).mono ?_; rintro e w1 ⟨rfl, rfl⟩) | (go_at_call 11; refine (specSenderValid_any _ _ _ _).mono ?_; rintro e w1 ⟨rfl, rfl⟩) | (go_at_call 22; refine (alive_any _).mono ?_; rintro e w1 ⟨rfl, hba⟩))
        all_goals go_ret
        all_goals exact ⟨rfl, by (repeat (first | exact Below.refl _ _ | assumption | refine Below.al ?_ _ | refine Below.dr ?_ | (refine Below.st ?_ (by simp <;> omega) _) | (refine Below.tr ?_ (by assumption))))⟩
end Go.Proofs.Ytejfmhiogafhiaa
