/-
  The four laws 'the program's sender functions return what the reference's return': their walks.
-/
import Derived.Test.YtejfmhiogafhiaaSnd2
namespace Go.Proofs.Ytejfmhiogafhiaa
open Go.RowKit

set_option maxHeartbeats 400000 in
theorem exactSenderValid_walk (f n r : Int) (w : World) :
    Calls Try.prog 3 #[.agg #[.int .i64 f, .int .i64 n, .int .i64 r]] w (Truly w) := by
  go_enter Try.func3, Try.ntmps3
  go_wp2_with (first | (go_at_call 13; refine (implSenderValid_any _ _ _ _).mono ?_; rintro e w1 ⟨rfl, rfl⟩) | (go_at_call 11; refine (specSenderValid_any _ _ _ _).mono ?_; rintro e w1 ⟨rfl, rfl⟩) | (go_at_call 12; refine (toSender_any _ _ _ _).mono ?_; rintro e w1 ⟨rfl, hb⟩; obtain ⟨hc, hf⟩ := bcell hb; (try have hz0 : w.heap.size < w1.heap.size := by (have := hb.size; (try simp at this); omega)); (try have hz1 : w.heap.size + 1 < w1.heap.size := by (have := hb.size; (try simp at this); omega)); (try have hz2 : w.heap.size + 1 + 1 < w1.heap.size := by (have := hb.size; (try simp at this); omega)); (try have hz3 : w.heap.size + 1 + 1 + 1 < w1.heap.size := by (have := hb.size; (try simp at this); omega))))
  go_ret
  exact ⟨rfl, by (repeat (first | exact Below.refl _ _ | assumption | refine Below.al ?_ _ | refine Below.dr ?_ | (refine Below.st ?_ (by simp <;> omega) _) | (refine Below.tr ?_ (by assumption))))⟩

set_option maxHeartbeats 400000 in
theorem exactSendMore_walk (f n r m : Int) (w : World) :
    Calls Try.prog 4 #[.agg #[.int .i64 f, .int .i64 n, .int .i64 r], .int .i64 m] w (Truly w) := by
  go_enter Try.func4, Try.ntmps4
  go_wp2_with fail
  refine (toSender_any _ _ _ _).mono ?_
  rintro e w1 ⟨rfl, hb1⟩
  have hs1 := hb1.size
  (try simp at hs1)
  have hc1_0 := keepc hb1 (w.heap.size) (by (try simp) <;> omega)
  have hf1_0 := keepf hb1 (w.heap.size) (by (try simp) <;> omega)
  have hl1_0 : w.heap.size < w1.heap.size := by omega
  go_wp2_with fail
  refine (specSendMore_any _ _ _ _ _).mono ?_
  rintro e w2 ⟨rfl, hb2⟩
  have hs2 := hb2.size
  (try simp at hs2)
  have hc2_0 := keepc hb2 (w.heap.size) (by (try simp) <;> omega)
  have hf2_0 := keepf hb2 (w.heap.size) (by (try simp) <;> omega)
  have hl2_0 : w.heap.size < w2.heap.size := by omega
  simp only [smV]
  go_wp2_with fail
  refine (toSender_any _ _ _ _).mono ?_
  rintro e w3 ⟨rfl, hb3⟩
  have hs3 := hb3.size
  (try simp at hs3)
  have hc3_0 := keepc hb3 (w.heap.size) (by (try simp) <;> omega)
  have hf3_0 := keepf hb3 (w.heap.size) (by (try simp) <;> omega)
  have hl3_0 : w.heap.size < w3.heap.size := by omega
  have hc3_1 := keepc hb3 (w2.heap.size) (by (try simp) <;> omega)
  have hf3_1 := keepf hb3 (w2.heap.size) (by (try simp) <;> omega)
  have hl3_1 : w2.heap.size < w3.heap.size := by omega
  go_wp2_with fail
  refine (implSendMore_any _ _ _ _ _).mono ?_
  rintro e w4 ⟨rfl, hb4⟩
  have hs4 := hb4.size
  (try simp at hs4)
  have hc4_0 := keepc hb4 (w.heap.size) (by (try simp) <;> omega)
  have hf4_0 := keepf hb4 (w.heap.size) (by (try simp) <;> omega)
  have hl4_0 : w.heap.size < w4.heap.size := by omega
  have hc4_1 := keepc hb4 (w2.heap.size) (by (try simp) <;> omega)
  have hf4_1 := keepf hb4 (w2.heap.size) (by (try simp) <;> omega)
  have hl4_1 : w2.heap.size < w4.heap.size := by omega
  simp only [smV]
  go_wp2_with fail
  refine (eqSender_same _ _ _ _).mono ?_
  rintro e w5 ⟨rfl, hb5⟩
  have hs5 := hb5.size
  (try simp at hs5)
  have hc5_0 := keepc hb5 (w.heap.size) (by (try simp) <;> omega)
  have hf5_0 := keepf hb5 (w.heap.size) (by (try simp) <;> omega)
  have hl5_0 : w.heap.size < w5.heap.size := by omega
  have hc5_1 := keepc hb5 (w2.heap.size) (by (try simp) <;> omega)
  have hf5_1 := keepf hb5 (w2.heap.size) (by (try simp) <;> omega)
  have hl5_1 : w2.heap.size < w5.heap.size := by omega
  go_wp2_with fail
  go_ret
  exact ⟨rfl, by (repeat (first | exact Below.refl _ _ | assumption | refine Below.al ?_ _ | refine Below.dr ?_ | (refine Below.st ?_ (by simp <;> omega) _) | (refine Below.tr ?_ (by assumption))))⟩

set_option maxHeartbeats 400000 in
theorem exactHearSender_walk (f n r m : Int) (w : World) :
    Calls Try.prog 5 #[.agg #[.int .i64 f, .int .i64 n, .int .i64 r], .int .i64 m] w (Truly w) := by
  go_enter Try.func5, Try.ntmps5
  go_wp2_with fail
  refine (toSender_any _ _ _ _).mono ?_
  rintro e w1 ⟨rfl, hb1⟩
  have hs1 := hb1.size
  (try simp at hs1)
  have hc1_0 := keepc hb1 (w.heap.size) (by (try simp) <;> omega)
  have hf1_0 := keepf hb1 (w.heap.size) (by (try simp) <;> omega)
  have hl1_0 : w.heap.size < w1.heap.size := by omega
  go_wp2_with fail
  refine (specHearSender_any _ _ _ _ _).mono ?_
  rintro e w2 ⟨rfl, hb2⟩
  have hs2 := hb2.size
  (try simp at hs2)
  have hc2_0 := keepc hb2 (w.heap.size) (by (try simp) <;> omega)
  have hf2_0 := keepf hb2 (w.heap.size) (by (try simp) <;> omega)
  have hl2_0 : w.heap.size < w2.heap.size := by omega
  simp only [heV]
  go_wp2_with fail
  refine (toSender_any _ _ _ _).mono ?_
  rintro e w3 ⟨rfl, hb3⟩
  have hs3 := hb3.size
  (try simp at hs3)
  have hc3_0 := keepc hb3 (w.heap.size) (by (try simp) <;> omega)
  have hf3_0 := keepf hb3 (w.heap.size) (by (try simp) <;> omega)
  have hl3_0 : w.heap.size < w3.heap.size := by omega
  have hc3_1 := keepc hb3 (w2.heap.size) (by (try simp) <;> omega)
  have hf3_1 := keepf hb3 (w2.heap.size) (by (try simp) <;> omega)
  have hl3_1 : w2.heap.size < w3.heap.size := by omega
  go_wp2_with fail
  refine (implHearSender_any _ _ _ _ _).mono ?_
  rintro e w4 ⟨rfl, hb4⟩
  have hs4 := hb4.size
  (try simp at hs4)
  have hc4_0 := keepc hb4 (w.heap.size) (by (try simp) <;> omega)
  have hf4_0 := keepf hb4 (w.heap.size) (by (try simp) <;> omega)
  have hl4_0 : w.heap.size < w4.heap.size := by omega
  have hc4_1 := keepc hb4 (w2.heap.size) (by (try simp) <;> omega)
  have hf4_1 := keepf hb4 (w2.heap.size) (by (try simp) <;> omega)
  have hl4_1 : w2.heap.size < w4.heap.size := by omega
  simp only [heV]
  go_wp2_with fail
  refine (eqSender_same _ _ _ _).mono ?_
  rintro e w5 ⟨rfl, hb5⟩
  have hs5 := hb5.size
  (try simp at hs5)
  have hc5_0 := keepc hb5 (w.heap.size) (by (try simp) <;> omega)
  have hf5_0 := keepf hb5 (w.heap.size) (by (try simp) <;> omega)
  have hl5_0 : w.heap.size < w5.heap.size := by omega
  have hc5_1 := keepc hb5 (w2.heap.size) (by (try simp) <;> omega)
  have hf5_1 := keepf hb5 (w2.heap.size) (by (try simp) <;> omega)
  have hl5_1 : w2.heap.size < w5.heap.size := by omega
  go_wp2_with fail
  go_ret
  exact ⟨rfl, by (repeat (first | exact Below.refl _ _ | assumption | refine Below.al ?_ _ | refine Below.dr ?_ | (refine Below.st ?_ (by simp <;> omega) _) | (refine Below.tr ?_ (by assumption))))⟩

set_option maxHeartbeats 400000 in
theorem exactSizeSender_walk (f n r m : Int) (w : World) :
    Calls Try.prog 6 #[.agg #[.int .i64 f, .int .i64 n, .int .i64 r], .int .i64 m] w (Truly w) := by
  go_enter Try.func6, Try.ntmps6
  go_wp2_with fail
  refine (toSender_any _ _ _ _).mono ?_
  rintro e w1 ⟨rfl, hb1⟩
  have hs1 := hb1.size
  (try simp at hs1)
  have hc1_0 := keepc hb1 (w.heap.size) (by (try simp) <;> omega)
  have hf1_0 := keepf hb1 (w.heap.size) (by (try simp) <;> omega)
  have hl1_0 : w.heap.size < w1.heap.size := by omega
  go_wp2_with fail
  refine (specSizeSender_any _ _ _ _ _).mono ?_
  rintro e w2 ⟨rfl, hb2⟩
  have hs2 := hb2.size
  (try simp at hs2)
  have hc2_0 := keepc hb2 (w.heap.size) (by (try simp) <;> omega)
  have hf2_0 := keepf hb2 (w.heap.size) (by (try simp) <;> omega)
  have hl2_0 : w.heap.size < w2.heap.size := by omega
  simp only [szV]
  go_wp2_with fail
  refine (toSender_any _ _ _ _).mono ?_
  rintro e w3 ⟨rfl, hb3⟩
  have hs3 := hb3.size
  (try simp at hs3)
  have hc3_0 := keepc hb3 (w.heap.size) (by (try simp) <;> omega)
  have hf3_0 := keepf hb3 (w.heap.size) (by (try simp) <;> omega)
  have hl3_0 : w.heap.size < w3.heap.size := by omega
  have hc3_1 := keepc hb3 (w2.heap.size) (by (try simp) <;> omega)
  have hf3_1 := keepf hb3 (w2.heap.size) (by (try simp) <;> omega)
  have hl3_1 : w2.heap.size < w3.heap.size := by omega
  go_wp2_with fail
  refine (implSizeSender_any _ _ _ _ _).mono ?_
  rintro e w4 ⟨rfl, hb4⟩
  have hs4 := hb4.size
  (try simp at hs4)
  have hc4_0 := keepc hb4 (w.heap.size) (by (try simp) <;> omega)
  have hf4_0 := keepf hb4 (w.heap.size) (by (try simp) <;> omega)
  have hl4_0 : w.heap.size < w4.heap.size := by omega
  have hc4_1 := keepc hb4 (w2.heap.size) (by (try simp) <;> omega)
  have hf4_1 := keepf hb4 (w2.heap.size) (by (try simp) <;> omega)
  have hl4_1 : w2.heap.size < w4.heap.size := by omega
  simp only [szV]
  go_wp2_with fail
  refine (eqSender_same _ _ _ _).mono ?_
  rintro e w5 ⟨rfl, hb5⟩
  have hs5 := hb5.size
  (try simp at hs5)
  have hc5_0 := keepc hb5 (w.heap.size) (by (try simp) <;> omega)
  have hf5_0 := keepf hb5 (w.heap.size) (by (try simp) <;> omega)
  have hl5_0 : w.heap.size < w5.heap.size := by omega
  have hc5_1 := keepc hb5 (w2.heap.size) (by (try simp) <;> omega)
  have hf5_1 := keepf hb5 (w2.heap.size) (by (try simp) <;> omega)
  have hl5_1 : w2.heap.size < w5.heap.size := by omega
  go_wp2_with fail
  go_ret
  exact ⟨rfl, by (repeat (first | exact Below.refl _ _ | assumption | refine Below.al ?_ _ | refine Below.dr ?_ | (refine Below.st ?_ (by simp <;> omega) _) | (refine Below.tr ?_ (by assumption))))⟩

end Go.Proofs.Ytejfmhiogafhiaa
