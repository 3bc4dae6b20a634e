/-
  What DrawAddRoute draws: routes and a route.
-/
import Derived.Test.YtgoijpbkgkjfeaaRtD
import Derived.Test.YtgoijpbkgkjfeaaRtT
import Derived.Test.YtgoijpbkgkjfeaaFreZ
namespace Go.Proofs.Ytgoijpbkgkjfeaa
open Go Go.RowKit

theorem Own.far5 {w w' : World} {B g : Nat} {t : TypeId} {m : Nat} {A : Option Addr} {n c : Nat} {R : Nat → List Value} (h : Own w B t m A n c R) (hg : w.grownBy w' (some g)) (hl : g < B) : Own w' B t m A n c R :=
  h.keep fun k hk hlt _ => hg.block k hlt (by simp; omega)
theorem below_al2 (w : World) (o : Obj) : Below w.heap.size w (w.alloc o) := (Below.refl _ _).alloc (Nat.le_refl _) o
section
variable {P : Program}
/-- The first fields of a known struct are stored. -/
theorem wpList_store_head {ops : Array Oper} {rest : List Oper} {o : Oper} {a : Act} {w : World} {Q : Exit → Act → World → Prop} (hgd : o.guard = none) (ty : TypeId) (x y : Operand) (ho : o.op = .store ty x y)
    {g : Nat} {t : TypeId} {cs : Array Value} (v : Value) (row : List Value) (new : Array Value) (hg : w.heap[g]? = some (.cells cs t (0, 0))) (hx : a.eval x = .pointer (some ⟨g, 0, none⟩)) (hy : a.eval y = v) (hv : v.cells.toList = row)
    (hi : (P.info? ty).map (·.size) = some row.length) (hfit : row.length ≤ cs.size) (h1 : ∀ u ∈ row, u.oneCell' = true) (hnew : (row ++ cs.toList.drop row.length).toArray = new)
    (h : ∀ w2 : World, w2.heap[g]? = some (.cells new t (0, 0)) → w.grownBy w2 (some g) → w2.heap.size = w.heap.size → wpList P ops Q rest (a.put o.dst undef) w2) : wpList P ops Q (o :: rest) a w := by
  refine wpList_plain hgd fun K hK => ?_
  have hst := run_storeCells_at P g 0 t row 0 cs w hg (by omega) h1
  have hsv : (storeVar ty ⟨g, 0, none⟩ v).run P w = .ok () (w.setRow g new) := by
    cases hq : P.info? ty with
    | none => simp [hq] at hi
    | some i =>
      have hs : i.size = row.length := by simpa [hq] using hi
      have hvs : v.cells.size = i.size := by rw [hs, ← hv]; simp
      simp only [Nat.add_zero, Nat.zero_add, List.take_zero, List.nil_append] at hst
      rw [hnew] at hst
      simp [storeVar, sizeOf, typeInfo, hq, hvs, hv, hst]
  unfold Oper.wp execOp
  simp only [ho, hx, hy, Instr.storeAt, Instr.sureAddr, Sem.run_bind, Sem.run_pure, Result.andThen_ok, hsv]
  exact hK _ _ (h _ (setRow_heap w g cs _ t _ hg) (setRow_grownM w g _) (by simp))
end
theorem two_one (x y : Int) : ∀ u ∈ ([.int .i64 x, .int .i64 y] : List Value), u.oneCell' = true := by
  intro u hu
  simp only [List.mem_cons, List.not_mem_nil, or_false] at hu
  rcases hu with rfl | rfl <;> rfl
theorem New.val2 {w : World} {g : Nat} {t : TypeId} {m n c : Nat} {R : Nat → List Value} (h : New w g t m n c R) {i : Nat} (hi : i < n) (j : Nat) {v : Value} (hv : (R i)[j]? = some v) : w.cell? ⟨g, i * m + j, none⟩ = some v := by
  obtain ⟨cs, h1, h2, h3, h4⟩ := h
  rw [(blk h1).1]
  exact h4 i hi j v hv
/-- Routes and a route. -/
def RtsRte (w : World) (e : Ending) (w' : World) : Prop :=
  ∃ A n c, ∃ b k hh : Nat → Int, ∃ x y z : Int, e = .returned (.tuple #[.slice A n c, .agg #[.int .i64 x, .int .i64 y, .int .i64 z]]) ∧ n ≤ 7 ∧ Own w' w.heap.size 27 3 A n c (routeR b k hh) ∧ Below w.heap.size w w'
set_option maxHeartbeats 8000000 in
theorem drawAddRoute_any {w : World} {A : Option Addr} {n c : Nat} (h : Bytes w w.heap.size A n c) :
    Calls Try.prog 6 #[.slice A n c] w (RtsRte w) := by
  go_enter Try.func6, Try.ntmps6
  go_wp2_with fail
  refine (open_any (h.alloc (Nat.le_refl _) _) (by simp)).mono ?_
  rintro e w1 ⟨m, g, rfl, hgl, hr1, hb1, hs1⟩
  have hz1 := (hb1.block w.heap.size (by simp)).trans (heap_alloc_new w _)
  have hB1 : Below w.heap.size w w1 := (below_al2 w _).trans (hb1.mono (by simp))
  have hs2 := hB1.size
  simp at hgl
  have hzl := heap_lt hz1
  clear hs1 hb1
  go_wp2_with fail
  refine (l20Routes_any hr1 _ (by omega) (by omega)).mono ?_
  rintro e w2 ⟨v, nn, q, rfl, hn, ⟨A', c', R, rfl, hR, hO⟩, hq, hr2, hg2⟩
  have hz2 := heap_far hz1 hg2 (by omega)
  have hB2 : Below w.heap.size w w2 := hB1.trans (below_grown hg2 hs2 (by omega))
  have hg1 : g < w1.heap.size := hr1.lt
  have hs3 := hg2.size
  obtain ⟨b, k, hh, rfl⟩ := routeR_of hR
  clear hg2 hR hz1
  obtain ⟨B, hBe⟩ : ∃ B, B = w.heap.size := ⟨_, rfl⟩
  rw [← hBe] at hr2
  go_wp2_with fail
  refine (l20Prefix_any hr2 _ (by omega) (by omega)).mono ?_
  rintro e w3 ⟨v, q3, rfl, ⟨x, y, rfl, hxy⟩, hq3, hr3, hg3⟩
  have hz3 := heap_far hz2 hg3 (by omega)
  have hO3 := hO.far5 hg3 hg1
  have hB3 : Below w.heap.size w w3 := hB2.trans (below_grown hg3 hB2.size (by omega))
  clear hxy hg3 hO hz2
  go_wp2_with fail
  refine (pick_any hr3 _ (by omega)).mono ?_
  rintro e w4 ⟨k4, rfl, hk4, hr4, hg4, hs4⟩
  have hk41 := hk4.1; have hk42 := hk4.2.1 (by omega); clear hk4
  have hz4 := heap_far hz3 hg4 (by omega)
  have hO4 := hO3.far5 hg4 hg1
  have hB4 := hB3.trans (below_grown hg4 hB3.size (by omega))
  clear hg4 hs4 hO3 hz3
  go_wp2_with fail
  refine (pick_any hr4 _ (by omega)).mono ?_
  rintro e w5 ⟨k5, rfl, hk5, hr5, hg5, hs5⟩
  have hk51 := hk5.1; have hk52 := hk5.2.1 (by omega); clear hk5
  have hz5 := heap_far hz4 hg5 (by omega)
  have hO5 := hO4.far5 hg5 hg1
  have hB5 := hB4.trans (below_grown hg5 hB4.size (by omega))
  clear hg5 hs5 hO4 hz4
  have r1 : IntKind.i64.wrap (k5.tdiv 13) = k5 / 13 := by rw [Int.tdiv_eq_ediv_of_nonneg (by omega)]; exact IntWalk.i64_in _ (by omega)
  have r2 : IntKind.i64.wrap (k5 / 13 * 9) = k5 / 13 * 9 := IntWalk.i64_in _ (by omega)
  have r3 : IntKind.i64.wrap (k4 - k5 / 13 * 9) = k4 - k5 / 13 * 9 := IntWalk.i64_in _ (by omega)
  have hg5 : g < w5.heap.size := hr5.lt
  have hs5 := hB5.size
  rcases Nat.eq_zero_or_pos nn with rfl | hpos
  · go_wp2_with fail
    have hzA := (heap_alloc_old w5 (.cells #[.int .i64 (x), .int .i64 (y), .int .i64 (k4 - k5 / 13 * 9)] 27) (heap_lt hz5)).trans hz5
    have hrA := heap_alloc_new w5 (.cells #[.int .i64 (x), .int .i64 (y), .int .i64 (k4 - k5 / 13 * 9)] 27)
    have hOA := hO5.next (below_al2 w5 (.cells #[.int .i64 (x), .int .i64 (y), .int .i64 (k4 - k5 / 13 * 9)] 27))
    have hBA : Below w.heap.size w (w5.alloc (.cells #[.int .i64 (x), .int .i64 (y), .int .i64 (k4 - k5 / 13 * 9)] 27)) := Below.tr hB5 (below_al2 _ _)
    have hzl9 := heap_lt hzA
    have hrl9 := heap_lt hrA
    have hne9 : ¬ w5.heap.size = w.heap.size := by omega
    obtain ⟨k9, f9⟩ := blk hrA
    refine wp_region_freeZ (z := w.heap.size) (O := (· = .cells #[.int .i64 (x), .int .i64 (y), .int .i64 (k4 - k5 / 13 * 9)] 27 (0, 0))) (ds := [(0, 38), (1, 39), (2, 2)]) 4 (by kernel_rfl) (by kernel_rfl) (by first | exact .inl rfl | exact .inr (by kernel_rfl)) (by rfl) rfl rfl ?_
    apply freeZ_is
    · intro a' w' hLe hfr hdep
      have e5 := hfr 5 rfl
      conv at e5 => rhs; whnf
      have f5 := e5; simp only [Array.getD_eq_getD_getElem?] at f5
      refine wpOp_plain rfl rfl (fun K hK => ?_)
      go_simp
      exact hK _ _ ⟨_, rfl, TurnZ.refl _, rfl, nofun⟩
    apply freeZ_is
    · intro a' w' hLe hfr hdep
      have e6 := hfr 6 rfl
      conv at e6 => rhs; whnf
      have f6 := e6; simp only [Array.getD_eq_getD_getElem?] at f6
      have kc := fun i => hLe.keepc (w5.heap.size) (by (try simp) <;> omega) (by omega) i
      have kf := fun i => hLe.keepf (w5.heap.size) (by (try simp) <;> omega) (by omega) i
      have kz : w5.heap.size < w'.heap.size := (by have := hLe.size; (try simp at this); omega)
      refine wpOp_plain rfl rfl (fun K hK => ?_)
      go_simp
      exact hK _ _ ⟨_, rfl, TurnZ.refl _, rfl, nofun⟩
    apply freeZ_is
    · intro a' w' hLe hfr hdep
      have e38 : a'.tmps.getD 38 undef = _ := hdep 0 38 (Nat.le_of_ble_eq_true rfl) rfl rfl
      conv at e38 => rhs; whnf
      have f38 := e38; simp only [Array.getD_eq_getD_getElem?] at f38
      refine wpOp_plain rfl rfl (fun K hK => ?_)
      go_simp
      exact hK _ _ ⟨_, rfl, TurnZ.refl _, rfl, nofun⟩
    refine freeZ_cons (kzSet (w.heap.size) ((· = .cells #[.int .i64 (x), .int .i64 (y), .int .i64 (k4 - k5 / 13 * 9)] 27 (0, 0)))) ?_ ?_
    · intro a' w' hLe hfr hdep
      have e3 := hfr 3 rfl
      conv at e3 => rhs; whnf
      have f3 := e3; simp only [Array.getD_eq_getD_getElem?] at f3
      have e39 : a'.tmps.getD 39 undef = _ := hdep 1 39 (Nat.le_of_ble_eq_true rfl) rfl rfl
      conv at e39 => rhs; whnf
      have f39 := e39; simp only [Array.getD_eq_getD_getElem?] at f39
      refine wpOp_plain rfl rfl (fun K hK => ?_)
      refine wp_store_zz (cells := #[.int .i64 (x), .int .i64 (y), .int .i64 (k4 - k5 / 13 * 9)]) 27 (.tmp 3) (.tmp 39) rfl hLe hzA (fun o ho => ⟨_, ho, rfl⟩) e3 e39 (by kernel_rfl) rfl rfl rfl ?_
      intro w2 hh2 hT2 hg2
      exact hK _ _ ⟨undef, rfl, hT2, ⟨_, rfl, hh2⟩, fun _ => rfl⟩
    apply freeZ_nil
    intro vs w9 hb9 hT9 hN9
    have e38 : vs 0 = _ := hT9 0 38 rfl
    conv at e38 => rhs; whnf
    have e39 : vs 1 = _ := hT9 1 39 rfl
    conv at e39 => rhs; whnf
    have e2 : vs 2 = _ := hT9 2 2 rfl
    conv at e2 => rhs; whnf
    obtain ⟨oz9, ho9, hz9⟩ := hN9 3 rfl
    simp only [putAll, List.drop_succ_cons, List.drop_zero, e38, e39, e2]
    clear hT9 hN9 e38 e39 e2
    go_simp
    subst ho9
    have hO9 := hOA.keep (w' := w9) fun k hk hlt _ => hb9.at_ hlt (by omega)
    have hB9 : Below w.heap.size w w9 := hBA.trans (below_grown hb9.grown hBA.size (Nat.le_refl _))
    obtain ⟨k10, f10⟩ := blk hz9
    go_wp2_with fail
    refine bodyPost_ret (v := .tuple #[.slice _ _ _, .agg #[.int .i64 (x), .int .i64 (y), .int .i64 (k4 - k5 / 13 * 9)]]) (by simp [results, Try.results6, go_sem, k10]) rfl ⟨_, _, _, b, k, hh, _, _, _, rfl, by omega, hO9.more (by omega), hB9⟩
  · have hpz : decide ((0 : Int) < (nn : Int)) = true := by simp; omega
    obtain ⟨g0, hA0, hg01, hg0⟩ := hO5.lies hpos
    have HA0 := Lib.hid hA0
    clear hA0
    go_wp2_with fail
    have hzA := (heap_alloc_old w5 (.cells #[.int .i64 (x), .int .i64 (y), .int .i64 (k4 - k5 / 13 * 9)] 27) (heap_lt hz5)).trans hz5
    have hrA := heap_alloc_new w5 (.cells #[.int .i64 (x), .int .i64 (y), .int .i64 (k4 - k5 / 13 * 9)] 27)
    have hOA := hO5.next (below_al2 w5 (.cells #[.int .i64 (x), .int .i64 (y), .int .i64 (k4 - k5 / 13 * 9)] 27))
    have hBA : Below w.heap.size w (w5.alloc (.cells #[.int .i64 (x), .int .i64 (y), .int .i64 (k4 - k5 / 13 * 9)] 27)) := Below.tr hB5 (below_al2 _ _)
    refine (pick_any (hr5.alloc _) _ (by omega)).mono ?_
    rintro e w7 ⟨k7, rfl, hk7, hr7, hg7, hs7⟩
    clear hk7
    have hz7 := heap_far hzA hg7 (by omega)
    have hrt7 := heap_far hrA hg7 (by omega)
    have hO7 := hOA.far5 hg7 hg1
    have hB7 : Below w.heap.size w w7 := hBA.trans (below_grown hg7 hBA.size (by omega))
    clear hg7 hs7 hOA hBA hzA hrA hz5 hO5
    by_cases hk0 : k7 = 0
    · subst hk0
      go_wp2_with fail
      refine (pick_any hr7 _ (by omega)).mono ?_
      rintro e w8 ⟨k8, rfl, hk8, hr8, hg8, hs8⟩
      have hk81 := hk8.1; have hk82 := hk8.2.1 (by omega); clear hk8
      obtain ⟨i8, rfl⟩ := Int.eq_ofNat_of_zero_le hk81
      have hi8 : i8 < nn := by omega
      have hz8 := heap_far hz7 hg8 (by omega)
      have hrt8 := heap_far hrt7 hg8 (by omega)
      have hO8 := hO7.far5 hg8 hg1
      have hB8 : Below w.heap.size w w8 := hB7.trans (below_grown hg8 hB7.size (by omega))
      clear hg8 hs8 hO7 hB7 hz7 hrt7
      obtain ⟨g', rfl, hBg', hN⟩ := hO8.at_ hpos
      have p0 : w8.cell? ⟨g', i8 * 3, none⟩ = some (.int .i64 (b i8)) := hN.val2 hi8 0 rfl
      have p1 : w8.cell? ⟨g', i8 * 3 + 1, none⟩ = some (.int .i64 (k i8)) := hN.val2 hi8 1 rfl
      have hi8I : (i8 : Int) < (nn : Int) := by omega
      go_wp2_with (refine wpList_store_head rfl 25 (.tmp 37) (.tmp 36) rfl (.agg #[.int .i64 (b i8), .int .i64 (k i8)]) [.int .i64 (b i8), .int .i64 (k i8)] #[.int .i64 (b i8), .int .i64 (k i8), .int .i64 (k4 - k5 / 13 * 9)] hrt8 rfl rfl rfl (by kernel_rfl) (by simp) (two_one _ _) rfl ?_; intro wA hrtA hgA hsA)
      have hzA := heap_far hz8 hgA (by omega)
      have hOA : Own wA w1.heap.size 27 3 (some ⟨g', 0, none⟩) nn c' (routeR b k hh) := hO8.keep fun q hq hlt hqe => hgA.block q hlt (by have h0 := HA0.out; rw [hqe] at h0; cases h0; simp; omega)
      have hBA : Below w.heap.size w wA := hB8.trans (below_grown hgA hB8.size (by omega))
      have hzl9 := heap_lt hzA
      have hrl9 := heap_lt hrtA
      have hne9 : ¬ w5.heap.size = w.heap.size := by omega
      obtain ⟨k9, f9⟩ := blk hrtA
      refine wp_region_freeZ (z := w.heap.size) (O := (· = .cells #[.int .i64 (b i8), .int .i64 (k i8), .int .i64 (k4 - k5 / 13 * 9)] 27 (0, 0))) (ds := [(0, 38), (1, 39), (2, 2)]) 4 (by kernel_rfl) (by kernel_rfl) (by first | exact .inl rfl | exact .inr (by kernel_rfl)) (by rfl) rfl rfl ?_
      apply freeZ_is
      · intro a' w' hLe hfr hdep
        have e5 := hfr 5 rfl
        conv at e5 => rhs; whnf
        have f5 := e5; simp only [Array.getD_eq_getD_getElem?] at f5
        refine wpOp_plain rfl rfl (fun K hK => ?_)
        go_simp
        exact hK _ _ ⟨_, rfl, TurnZ.refl _, rfl, nofun⟩
      apply freeZ_is
      · intro a' w' hLe hfr hdep
        have e6 := hfr 6 rfl
        conv at e6 => rhs; whnf
        have f6 := e6; simp only [Array.getD_eq_getD_getElem?] at f6
        have kc := fun i => hLe.keepc (w5.heap.size) (by (try simp) <;> omega) (by omega) i
        have kf := fun i => hLe.keepf (w5.heap.size) (by (try simp) <;> omega) (by omega) i
        have kz : w5.heap.size < w'.heap.size := (by have := hLe.size; (try simp at this); omega)
        refine wpOp_plain rfl rfl (fun K hK => ?_)
        go_simp
        exact hK _ _ ⟨_, rfl, TurnZ.refl _, rfl, nofun⟩
      apply freeZ_is
      · intro a' w' hLe hfr hdep
        have e38 : a'.tmps.getD 38 undef = _ := hdep 0 38 (Nat.le_of_ble_eq_true rfl) rfl rfl
        conv at e38 => rhs; whnf
        have f38 := e38; simp only [Array.getD_eq_getD_getElem?] at f38
        refine wpOp_plain rfl rfl (fun K hK => ?_)
        go_simp
        exact hK _ _ ⟨_, rfl, TurnZ.refl _, rfl, nofun⟩
      refine freeZ_cons (kzSet (w.heap.size) ((· = .cells #[.int .i64 (b i8), .int .i64 (k i8), .int .i64 (k4 - k5 / 13 * 9)] 27 (0, 0)))) ?_ ?_
      · intro a' w' hLe hfr hdep
        have e3 := hfr 3 rfl
        conv at e3 => rhs; whnf
        have f3 := e3; simp only [Array.getD_eq_getD_getElem?] at f3
        have e39 : a'.tmps.getD 39 undef = _ := hdep 1 39 (Nat.le_of_ble_eq_true rfl) rfl rfl
        conv at e39 => rhs; whnf
        have f39 := e39; simp only [Array.getD_eq_getD_getElem?] at f39
        refine wpOp_plain rfl rfl (fun K hK => ?_)
        refine wp_store_zz (cells := #[.int .i64 (b i8), .int .i64 (k i8), .int .i64 (k4 - k5 / 13 * 9)]) 27 (.tmp 3) (.tmp 39) rfl hLe hzA (fun o ho => ⟨_, ho, rfl⟩) e3 e39 (by kernel_rfl) rfl rfl rfl ?_
        intro w2 hh2 hT2 hg2
        exact hK _ _ ⟨undef, rfl, hT2, ⟨_, rfl, hh2⟩, fun _ => rfl⟩
      apply freeZ_nil
      intro vs w9 hb9 hT9 hN9
      have e38 : vs 0 = _ := hT9 0 38 rfl
      conv at e38 => rhs; whnf
      have e39 : vs 1 = _ := hT9 1 39 rfl
      conv at e39 => rhs; whnf
      have e2 : vs 2 = _ := hT9 2 2 rfl
      conv at e2 => rhs; whnf
      obtain ⟨oz9, ho9, hz9⟩ := hN9 3 rfl
      simp only [putAll, List.drop_succ_cons, List.drop_zero, e38, e39, e2]
      clear hT9 hN9 e38 e39 e2
      go_simp
      subst ho9
      have hO9 := hOA.keep (w' := w9) fun k hk hlt _ => hb9.at_ hlt (by omega)
      have hB9 : Below w.heap.size w w9 := hBA.trans (below_grown hb9.grown hBA.size (Nat.le_refl _))
      obtain ⟨k10, f10⟩ := blk hz9
      go_wp2_with fail
      refine bodyPost_ret (v := .tuple #[.slice _ _ _, .agg #[.int .i64 (b i8), .int .i64 (k i8), .int .i64 (k4 - k5 / 13 * 9)]]) (by simp [results, Try.results6, go_sem, k10]) rfl ⟨_, _, _, b, k, hh, _, _, _, rfl, by omega, hO9.more (by omega), hB9⟩
    · have hk3 : (k7 == 0) = false := by simpa using hk0
      go_wp2_with fail
      have hzl9 := heap_lt hz7
      have hrl9 := heap_lt hrt7
      have hne9 : ¬ w5.heap.size = w.heap.size := by omega
      obtain ⟨k9, f9⟩ := blk hrt7
      refine wp_region_freeZ (z := w.heap.size) (O := (· = .cells #[.int .i64 (x), .int .i64 (y), .int .i64 (k4 - k5 / 13 * 9)] 27 (0, 0))) (ds := [(0, 38), (1, 39), (2, 2)]) 4 (by kernel_rfl) (by kernel_rfl) (by first | exact .inl rfl | exact .inr (by kernel_rfl)) (by rfl) rfl rfl ?_
      apply freeZ_is
      · intro a' w' hLe hfr hdep
        have e5 := hfr 5 rfl
        conv at e5 => rhs; whnf
        have f5 := e5; simp only [Array.getD_eq_getD_getElem?] at f5
        refine wpOp_plain rfl rfl (fun K hK => ?_)
        go_simp
        exact hK _ _ ⟨_, rfl, TurnZ.refl _, rfl, nofun⟩
      apply freeZ_is
      · intro a' w' hLe hfr hdep
        have e6 := hfr 6 rfl
        conv at e6 => rhs; whnf
        have f6 := e6; simp only [Array.getD_eq_getD_getElem?] at f6
        have kc := fun i => hLe.keepc (w5.heap.size) (by (try simp) <;> omega) (by omega) i
        have kf := fun i => hLe.keepf (w5.heap.size) (by (try simp) <;> omega) (by omega) i
        have kz : w5.heap.size < w'.heap.size := (by have := hLe.size; (try simp at this); omega)
        refine wpOp_plain rfl rfl (fun K hK => ?_)
        go_simp
        exact hK _ _ ⟨_, rfl, TurnZ.refl _, rfl, nofun⟩
      apply freeZ_is
      · intro a' w' hLe hfr hdep
        have e38 : a'.tmps.getD 38 undef = _ := hdep 0 38 (Nat.le_of_ble_eq_true rfl) rfl rfl
        conv at e38 => rhs; whnf
        have f38 := e38; simp only [Array.getD_eq_getD_getElem?] at f38
        refine wpOp_plain rfl rfl (fun K hK => ?_)
        go_simp
        exact hK _ _ ⟨_, rfl, TurnZ.refl _, rfl, nofun⟩
      refine freeZ_cons (kzSet (w.heap.size) ((· = .cells #[.int .i64 (x), .int .i64 (y), .int .i64 (k4 - k5 / 13 * 9)] 27 (0, 0)))) ?_ ?_
      · intro a' w' hLe hfr hdep
        have e3 := hfr 3 rfl
        conv at e3 => rhs; whnf
        have f3 := e3; simp only [Array.getD_eq_getD_getElem?] at f3
        have e39 : a'.tmps.getD 39 undef = _ := hdep 1 39 (Nat.le_of_ble_eq_true rfl) rfl rfl
        conv at e39 => rhs; whnf
        have f39 := e39; simp only [Array.getD_eq_getD_getElem?] at f39
        refine wpOp_plain rfl rfl (fun K hK => ?_)
        refine wp_store_zz (cells := #[.int .i64 (x), .int .i64 (y), .int .i64 (k4 - k5 / 13 * 9)]) 27 (.tmp 3) (.tmp 39) rfl hLe hz7 (fun o ho => ⟨_, ho, rfl⟩) e3 e39 (by kernel_rfl) rfl rfl rfl ?_
        intro w2 hh2 hT2 hg2
        exact hK _ _ ⟨undef, rfl, hT2, ⟨_, rfl, hh2⟩, fun _ => rfl⟩
      apply freeZ_nil
      intro vs w9 hb9 hT9 hN9
      have e38 : vs 0 = _ := hT9 0 38 rfl
      conv at e38 => rhs; whnf
      have e39 : vs 1 = _ := hT9 1 39 rfl
      conv at e39 => rhs; whnf
      have e2 : vs 2 = _ := hT9 2 2 rfl
      conv at e2 => rhs; whnf
      obtain ⟨oz9, ho9, hz9⟩ := hN9 3 rfl
      simp only [putAll, List.drop_succ_cons, List.drop_zero, e38, e39, e2]
      clear hT9 hN9 e38 e39 e2
      go_simp
      subst ho9
      have hO9 := hO7.keep (w' := w9) fun k hk hlt _ => hb9.at_ hlt (by omega)
      have hB9 : Below w.heap.size w w9 := hB7.trans (below_grown hb9.grown hB7.size (Nat.le_refl _))
      obtain ⟨k10, f10⟩ := blk hz9
      go_wp2_with fail
      refine bodyPost_ret (v := .tuple #[.slice _ _ _, .agg #[.int .i64 (x), .int .i64 (y), .int .i64 (k4 - k5 / 13 * 9)]]) (by simp [results, Try.results6, go_sem, k10]) rfl ⟨_, _, _, b, k, hh, _, _, _, rfl, by omega, hO9.more (by omega), hB9⟩
end Go.Proofs.Ytgoijpbkgkjfeaa
