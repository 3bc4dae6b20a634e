/-
  The laws 'the program's PrefixValid and PrefixHas return what the reference's return': their walks.
-/
import Derived.Test.YtjjbfjjmpapajaaPfx2
namespace Go.Proofs.Ytjjbfjjmpapajaa
open Go.RowKit

set_option maxHeartbeats 400000 in
theorem toPrefix_any (b k : Int) (w : World) :
    Calls Try.prog 14 #[.agg #[.int .i64 b, .int .i64 k]] w fun e w' => e = .returned (.agg #[.int .i64 b, .int .i64 k]) ∧ Below w.heap.size w w' := by
  go_enter Try.func14, Try.ntmps14
  go_wp2
  refine bodyPost_ret (v := .agg #[.int .i64 b, .int .i64 k]) (by simp [results, Try.results14, go_sem]) rfl ⟨rfl, ?_⟩
  (repeat (first | exact Below.refl _ _ | assumption | refine Below.al ?_ _ | refine Below.dr ?_ | (refine Below.st ?_ (by simp <;> omega) _) | (refine Below.tr ?_ (by assumption))))

set_option maxHeartbeats 400000 in
theorem exactPrefixValid_walk (b k : Int) (w : World) :
    Calls Try.prog 3 #[.agg #[.int .i64 b, .int .i64 k]] w (Truly w) := by
  go_enter Try.func3, Try.ntmps3
  go_wp2_with fail
  refine (toPrefix_any _ _ _).mono ?_
  rintro e w1 ⟨rfl, hb1⟩
  have hs1 := hb1.size
  (try simp at hs1)
  have hc1_0 := keepc hb1 (w.heap.size) (by (try simp) <;> omega)
  have hf1_0 := keepf hb1 (w.heap.size) (by (try simp) <;> omega)
  have hl1_0 : w.heap.size < w1.heap.size := by omega
  go_wp2_with fail
  refine (specPrefixValid_any _ _ _).mono ?_
  rintro e w2 ⟨rfl, hb2⟩
  have hs2 := hb2.size
  (try simp at hs2)
  have hc2_0 := keepc hb2 (w.heap.size) (by (try simp) <;> omega)
  have hf2_0 := keepf hb2 (w.heap.size) (by (try simp) <;> omega)
  have hl2_0 : w.heap.size < w2.heap.size := by omega
  go_wp2_with fail
  refine (toPrefix_any _ _ _).mono ?_
  rintro e w3 ⟨rfl, hb3⟩
  have hs3 := hb3.size
  (try simp at hs3)
  have hc3_0 := keepc hb3 (w.heap.size) (by (try simp) <;> omega)
  have hf3_0 := keepf hb3 (w.heap.size) (by (try simp) <;> omega)
  have hl3_0 : w.heap.size < w3.heap.size := by omega
  go_wp2_with fail
  refine (implPrefixValid_any _ _ _).mono ?_
  rintro e w4 ⟨rfl, hb4⟩
  have hs4 := hb4.size
  (try simp at hs4)
  have hc4_0 := keepc hb4 (w.heap.size) (by (try simp) <;> omega)
  have hf4_0 := keepf hb4 (w.heap.size) (by (try simp) <;> omega)
  have hl4_0 : w.heap.size < w4.heap.size := by omega
  go_wp2_with fail
  go_ret
  exact ⟨rfl, by (repeat (first | exact Below.refl _ _ | assumption | refine Below.al ?_ _ | refine Below.dr ?_ | (refine Below.st ?_ (by simp <;> omega) _) | (refine Below.tr ?_ (by assumption))))⟩

set_option maxHeartbeats 400000 in
theorem exactPrefixHas_walk (b k a : Int) (w : World) :
    Calls Try.prog 4 #[.agg #[.int .i64 b, .int .i64 k], .int .i64 a] w (Truly w) := by
  go_enter Try.func4, Try.ntmps4
  go_wp2_with fail
  refine (toPrefix_any _ _ _).mono ?_
  rintro e w1 ⟨rfl, hb1⟩
  have hs1 := hb1.size
  (try simp at hs1)
  have hc1_0 := keepc hb1 (w.heap.size) (by (try simp) <;> omega)
  have hf1_0 := keepf hb1 (w.heap.size) (by (try simp) <;> omega)
  have hl1_0 : w.heap.size < w1.heap.size := by omega
  go_wp2_with fail
  refine (specPrefixHas_any _ _ _ _).mono ?_
  rintro e w2 ⟨rfl, hb2⟩
  have hs2 := hb2.size
  (try simp at hs2)
  have hc2_0 := keepc hb2 (w.heap.size) (by (try simp) <;> omega)
  have hf2_0 := keepf hb2 (w.heap.size) (by (try simp) <;> omega)
  have hl2_0 : w.heap.size < w2.heap.size := by omega
  go_wp2_with fail
  refine (toPrefix_any _ _ _).mono ?_
  rintro e w3 ⟨rfl, hb3⟩
  have hs3 := hb3.size
  (try simp at hs3)
  have hc3_0 := keepc hb3 (w.heap.size) (by (try simp) <;> omega)
  have hf3_0 := keepf hb3 (w.heap.size) (by (try simp) <;> omega)
  have hl3_0 : w.heap.size < w3.heap.size := by omega
  go_wp2_with fail
  refine (implPrefixHas_any _ _ _ _).mono ?_
  rintro e w4 ⟨rfl, hb4⟩
  have hs4 := hb4.size
  (try simp at hs4)
  have hc4_0 := keepc hb4 (w.heap.size) (by (try simp) <;> omega)
  have hf4_0 := keepf hb4 (w.heap.size) (by (try simp) <;> omega)
  have hl4_0 : w.heap.size < w4.heap.size := by omega
  go_wp2_with fail
  go_ret
  exact ⟨rfl, by (repeat (first | exact Below.refl _ _ | assumption | refine Below.al ?_ _ | refine Below.dr ?_ | (refine Below.st ?_ (by simp <;> omega) _) | (refine Below.tr ?_ (by assumption))))⟩
end Go.Proofs.Ytjjbfjjmpapajaa
