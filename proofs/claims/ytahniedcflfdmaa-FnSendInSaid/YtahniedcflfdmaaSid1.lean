/-
  SendOut at any outlet, TurnFlow at any flow: what DrawSendIn needs of them.
-/
import Derived.Test.YtahniedcflfdmaaCls3
import Derived.Test.YtahniedcflfdmaaSinS
namespace Go.Proofs.Ytahniedcflfdmaa
open Go Go.RowKit

set_option maxHeartbeats 8000000 in
theorem specSendOut_bad (x0 x1 : Int) {w : World} {B : Nat} {A : Option Addr} {n c : Nat} {f0 f1 f2 f3 f4 : Nat → Int} (y0 y1 y2 y3 y4 : Int) (H : Rws w B 5 A n c (flowR f0 f1 f2 f3 f4)) (hB : B ≤ w.heap.size) (hv : outB x0 x1 n f0 f1 f2 f3 f4 = false) :
    Calls Try.prog 41 #[.agg #[.int .i64 x0, .int .i64 x1, .slice A n c], .agg #[.int .i64 y0, .int .i64 y1, .int .i64 y2, .int .i64 y3, .int .i64 y4]] w fun e w' => e = .returned (.tuple #[.agg #[.int .i64 0, .int .i64 0, .slice none 0 0], .agg #[.int .i64 0, .int .i64 0, .int .i64 0, .int .i64 0, .int .i64 0], .bool false]) ∧ Below w.heap.size w w' := by
  have HH := Lib.hid H
  have HO := Lib.hid hv
  clear H hv
  go_enter Try.func41, Try.ntmps41
  go_wp2_with fail
  refine (specOutletValid_any x0 x1 (HH.out.below ((show Below w.heap.size w _ by (repeat (first | exact Below.refl _ _ | assumption | refine Below.al ?_ _ | refine Below.dr ?_ | (refine Below.st ?_ (by simp <;> omega) _) | (refine Below.tr ?_ (by assumption))))).mono hB)) (by simp <;> omega)).mono ?_
  rintro e w1 ⟨rfl, hb1⟩
  rw [HO.out]
  have hB1 : Below w.heap.size w w1 := Below.tr (by (repeat (first | exact Below.refl _ _ | assumption | refine Below.al ?_ _ | refine Below.dr ?_ | (refine Below.st ?_ (by simp <;> omega) _) | (refine Below.tr ?_ (by assumption))))) hb1
  have hz1 := (hb1.block (w.heap.size + 1 + 1) (by simp <;> omega)).trans ((heap_alloc_old _ _ (by simp <;> omega)).trans (heap_new2 w (.cells #[.int .i64 x0, .int .i64 x1, .slice A n c] 29) (.cells #[.int .i64 y0, .int .i64 y1, .int .i64 y2, .int .i64 y3, .int .i64 y4] 39) (.cells #[.int .i64 0, .int .i64 0, .slice none 0 0] 29)))
  have hy1 := (hb1.block (w.heap.size + 1 + 1 + 1) (by simp <;> omega)).trans (show _ = some (.cells #[.int .i64 0, .int .i64 0, .int .i64 0, .int .i64 0, .int .i64 0] 39) by
    have := heap_alloc_new (((w.alloc (.cells #[.int .i64 x0, .int .i64 x1, .slice A n c] 29)).alloc (.cells #[.int .i64 y0, .int .i64 y1, .int .i64 y2, .int .i64 y3, .int .i64 y4] 39)).alloc (.cells #[.int .i64 0, .int .i64 0, .slice none 0 0] 29)) (.cells #[.int .i64 0, .int .i64 0, .int .i64 0, .int .i64 0, .int .i64 0] 39)
    simpa using this)
  have l1 := heap_lt hy1
  clear hb1
  go_wp2_with (first | (refine wpList_store_var rfl 29 (.tmp 4) (.tmp 17) rfl #[.int .i64 0, .int .i64 0, .slice none 0 0] hz1 rfl rfl (by kernel_rfl) rfl rfl ?_; intro w2 hz2 hg2 hs2; have hy2 := heap_far hy1 hg2 (by omega)) | (refine wpList_store_var rfl 39 (.tmp 5) (.tmp 18) rfl #[.int .i64 0, .int .i64 0, .int .i64 0, .int .i64 0, .int .i64 0] hy2 rfl rfl (by kernel_rfl) rfl rfl ?_; intro w3 hy3 hg3 hs3))
  have hz3 := heap_far hz2 hg3 (by omega)
  obtain ⟨k8, f8⟩ := blk hz3
  obtain ⟨k9, f9⟩ := blk hy3
  refine bodyPost_ret (v := .tuple #[.agg #[.int .i64 0, .int .i64 0, .slice none 0 0], .agg #[.int .i64 0, .int .i64 0, .int .i64 0, .int .i64 0, .int .i64 0], .bool false]) (by simp [results, Try.results41, go_sem, k8, k9]) rfl ⟨rfl, Below.of_grown (Below.of_grown hB1 hg2 (by omega)) hg3 (by omega)⟩
/-- The slots that SendOut hands back: of a valid outlet with a flow, or none. -/
def GoodZ (w : World) (W0 : Nat) (x0 x1 : Int) (n : Nat) (A : Option Addr) (c : Nat) : Prop := GoodN w W0 x0 x1 n A c ∨ (A = none ∧ n = 0 ∧ c = 0)
theorem GoodZ.far {w w' : World} {W0 g : Nat} {x0 x1 : Int} {n : Nat} {A : Option Addr} {c : Nat} (h : GoodZ w W0 x0 x1 n A c) (hg : w.grownBy w' (some g)) (hl : g < W0) : GoodZ w' W0 x0 x1 n A c := by
  rcases h with h | h
  · exact .inl (h.far hg hl)
  · exact .inr h
theorem GoodZ.ne {w : World} {W0 : Nat} {x0 x1 : Int} {n : Nat} {A : Option Addr} {c b : Nat} (h : GoodZ w W0 x0 x1 n A c) (hz : w.heap[b]? = some (.cells #[.int .i64 0, .int .i64 0, .int .i64 0, .int .i64 0, .int .i64 0] 39 (0, 0))) : (Value.slice A n c).ownBlock ≠ some b := by
  rcases h with h | ⟨rfl, rfl, rfl⟩
  · exact h.ne hz
  · intro e; cases e
theorem GoodZ.pacc {w : World} {W0 : Nat} {x0 x1 : Int} {n : Nat} {A : Option Addr} {c : Nat} (h : GoodZ w W0 x0 x1 n A c) : PAcc w W0 39 [true, true, true, true, true] (.slice A n c) n := by
  rcases h with h | ⟨rfl, rfl, rfl⟩
  · exact good_pacc h.good
  · exact ⟨fun _ => zeros [true, true, true, true, true], fun _ => plain_zeros _, Acc.nil _ _ _ _ (fun _ => rfl)⟩
theorem GoodZ.few {w : World} {W0 : Nat} {x0 x1 : Int} {n : Nat} {A : Option Addr} {c : Nat} (h : GoodZ w W0 x0 x1 n A c) : n ≤ 9 := by
  rcases h with ⟨_, _, _, _, _, _, h, _⟩ | ⟨rfl, rfl, rfl⟩
  · have := outB_first h; omega
  · omega
def kSentZ (g W0 : Nat) (hg : g < W0) : KP g g (fun _ => False) :=
  ⟨fun v w => ∃ x0 x1 n A c z0 z1 z2 z3 z4 ok, v = .tuple #[.agg #[.int .i64 x0, .int .i64 x1, .slice A n c], .agg #[.int .i64 z0, .int .i64 z1, .int .i64 z2, .int .i64 z3, .int .i64 z4], .bool ok] ∧ GoodZ w W0 x0 x1 n A c,
   fun _ _ _ ⟨x0, x1, n, A, c, z0, z1, z2, z3, z4, ok, h1, h2⟩ hT => ⟨x0, x1, n, A, c, z0, z1, z2, z3, z4, ok, h1, h2.far hT.grown hg⟩⟩
def kOutZ (g W0 : Nat) (hg : g < W0) : KP g g (fun _ => False) :=
  ⟨fun v w => ∃ x0 x1 n A c, v = .agg #[.int .i64 x0, .int .i64 x1, .slice A n c] ∧ GoodZ w W0 x0 x1 n A c, fun _ _ _ ⟨x0, x1, n, A, c, h1, h2⟩ hT => ⟨x0, x1, n, A, c, h1, h2.far hT.grown hg⟩⟩
theorem sendO_z {w : World} {B g W0 : Nat} {A : Option Addr} {m c p : Nat} (h : Rd w B g A m c p) (hg : g < W0) (hW : W0 ≤ w.heap.size) {x0 x1 : Int} {A1 : Option Addr} {n1 c1 : Nat} (hA : PAcc w W0 39 [true, true, true, true, true] (.slice A1 n1 c1) n1)
    {y0 y1 y2 y3 y4 : Int} (hf : (0 ≤ y0 ∧ y0 ≤ 255) ∧ (0 ≤ y1 ∧ y1 ≤ 999) ∧ (0 ≤ y2 ∧ y2 ≤ 255) ∧ (0 ≤ y3 ∧ y3 ≤ 999) ∧ (1 ≤ y4 ∧ y4 ≤ 2)) :
    Calls Try.prog 41 #[.agg #[.int .i64 x0, .int .i64 x1, .slice A1 n1 c1], .agg #[.int .i64 y0, .int .i64 y1, .int .i64 y2, .int .i64 y3, .int .i64 y4]] w fun e w' => ∃ v q, e = .returned v ∧ (kSentZ g W0 hg).p v w' ∧ q ≤ p ∧ Rd w' B g A m c q ∧ w.grownBy w' (some g) := by
  obtain ⟨f0, f1, f2, f3, f4, hR⟩ := pacc_flows hA
  cases hv : outB x0 x1 n1 f0 f1 f2 f3 f4 with
  | true =>
    refine (specSendOut_good x0 x1 y0 y1 y2 y3 y4 hR (Nat.le_refl _) hv (by simp [flowB, inB]; omega)).mono ?_
    rintro e w' ⟨A2, c2, z0, z1, z2, z3, z4, ok, g0, g1, g2, g3, g4, rfl, hA2, ho2, hn2, hb⟩
    exact ⟨_, p, rfl, ⟨x0, x1, n1, A2, c2, z0, z1, z2, z3, z4, ok, rfl, .inl ⟨g0, g1, g2, g3, g4, hA2.base hW, ho2, hn2⟩⟩, Nat.le_refl _, h.below hb, grown_below hb⟩
  | false =>
    refine (specSendOut_bad x0 x1 y0 y1 y2 y3 y4 hR (Nat.le_refl _) hv).mono ?_
    rintro e w' ⟨rfl, hb⟩
    exact ⟨_, p, rfl, ⟨0, 0, 0, none, 0, 0, 0, 0, 0, 0, false, rfl, .inr ⟨rfl, rfl, rfl⟩⟩, Nat.le_refl _, h.below hb, grown_below hb⟩
set_option maxHeartbeats 2000000 in
theorem specTurnFlow_any (a b c d e : Int) (w : World) :
    Calls Try.prog 34 #[.agg #[.int .i64 a, .int .i64 b, .int .i64 c, .int .i64 d, .int .i64 e]] w fun o w' => ∃ r0 r1 r2 r3 r4 : Int, o = .returned (.agg #[.int .i64 r0, .int .i64 r1, .int .i64 r2, .int .i64 r3, .int .i64 r4]) ∧ Below w.heap.size w w' := by
  cases h : flowB a b c d e with
  | true =>
    refine (specTurnFlow_yes h w).mono ?_
    rintro o w' ⟨rfl, hb⟩
    exact ⟨_, _, _, _, _, rfl, hb⟩
  | false =>
    go_enter Try.func34, Try.ntmps34
    go_wp2_with (go_at_call 26; refine (specFlowValid_any _ _ _ _ _ _).mono ?_; rintro e w3 ⟨rfl, rfl⟩; rw [h])
    refine bodyPost_ret (v := .agg #[.int .i64 0, .int .i64 0, .int .i64 0, .int .i64 0, .int .i64 0]) (by simp [results, Try.results34, go_sem]) rfl ⟨_, _, _, _, _, rfl, ?_⟩
    (repeat (first | exact Below.refl _ _ | assumption | refine Below.al ?_ _ | refine Below.dr ?_ | (refine Below.st ?_ (by simp <;> omega) _) | (refine Below.tr ?_ (by assumption))))
set_option maxHeartbeats 2000000 in
theorem implTurnFlow_yes {a b c d e : Int} (h : flowB a b c d e = true) (w : World) :
    Calls Try.prog 24 #[.agg #[.int .i64 a, .int .i64 b, .int .i64 c, .int .i64 d, .int .i64 e]] w fun o w' => o = .returned (.agg #[.int .i64 c, .int .i64 d, .int .i64 a, .int .i64 b, .int .i64 e]) ∧ Below w.heap.size w w' := by
  go_enter Try.func24, Try.ntmps24
  go_wp2_with (go_at_call 30; refine (implFlowValid_any _ _ _ _ _ _).mono ?_; rintro e w3 ⟨rfl, rfl⟩; rw [h])
  refine (turned_any _ _ _ _ _ _).mono ?_
  rintro e w4 ⟨rfl, hb4⟩
  have hbb : Below w.heap.size w w4 := Below.tr (show Below w.heap.size w (((w.alloc (.cells #[.int .i64 a, .int .i64 b, .int .i64 c, .int .i64 d, .int .i64 e] 39)).alloc (.cells #[.int .i64 0, .int .i64 0, .int .i64 0, .int .i64 0, .int .i64 0] 39)).alloc (.cells #[.int .i64 a, .int .i64 b, .int .i64 c, .int .i64 d, .int .i64 e] 39)) by (repeat (first | exact Below.refl _ _ | assumption | refine Below.al ?_ _ | refine Below.dr ?_ | (refine Below.st ?_ (by simp <;> omega) _) | (refine Below.tr ?_ (by assumption))))) hb4
  have hz4 := (hb4.block (w.heap.size + 1) (by simp <;> omega)).trans ((heap_alloc_old _ _ (by simp)).trans (heap_new1 w (.cells #[.int .i64 a, .int .i64 b, .int .i64 c, .int .i64 d, .int .i64 e] 39) (.cells #[.int .i64 0, .int .i64 0, .int .i64 0, .int .i64 0, .int .i64 0] 39)))
  go_wp2_with (refine wpList_store_var rfl 39 (.tmp 2) (.tmp 8) rfl #[.int .i64 c, .int .i64 d, .int .i64 a, .int .i64 b, .int .i64 e] hz4 rfl rfl (by kernel_rfl) rfl rfl ?_; intro w5 hz5 hg5 hs5; obtain ⟨k9, f9⟩ := blk hz5)
  refine bodyPost_ret (v := .agg #[.int .i64 c, .int .i64 d, .int .i64 a, .int .i64 b, .int .i64 e]) (by simp [results, Try.results24, go_sem, k9]) rfl ⟨rfl, Below.of_grown hbb hg5 (by omega)⟩
end Go.Proofs.Ytahniedcflfdmaa
