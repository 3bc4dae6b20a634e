/-
  The program's copy of an outlet; CloseOut, in the program and in the reference.
-/
import Derived.Test.YtahniedcflfdmaaPla
namespace Go.Proofs.Ytahniedcflfdmaa
open Go Go.RowKit

theorem glue_0 (R1 R2 : Nat → List Value) : glue R1 0 R2 = R2 := by funext i; simp [glue]
set_option maxHeartbeats 4000000 in
theorem cloneO_any (x0 x1 : Int) {w : World} {B : Nat} {A : Option Addr} {n c : Nat} {f0 f1 f2 f3 f4 : Nat → Int} (H : Rws w B 5 A n c (flowR f0 f1 f2 f3 f4)) (hB : B ≤ w.heap.size) (hn : n ≤ 500000000) :
    Calls Try.prog 37 #[.agg #[.int .i64 x0, .int .i64 x1, .slice A n c]] w (CopyO w x0 x1 n (flowR f0 f1 f2 f3 f4)) := by
  have HH := Lib.hid ((H.below ((below_bo w (.cells #[.int .i64 x0, .int .i64 x1, .slice A n c] 29)).mono hB)).below ((below_bo (w.alloc (.cells #[.int .i64 x0, .int .i64 x1, .slice A n c] 29)) (.cells #[.int .i64 0, .int .i64 0, .slice none 0 0] 29)).mono (by simp; omega)))
  clear H
  go_enter Try.func37, Try.ntmps37
  have hx := (heap_alloc_old (w.alloc (.cells #[.int .i64 x0, .int .i64 x1, .slice A n c] 29)) (.cells #[.int .i64 0, .int .i64 0, .slice none 0 0] 29) (by simp)).trans (heap_alloc_new w (.cells #[.int .i64 x0, .int .i64 x1, .slice A n c] 29))
  have hz := heap_new1 w (.cells #[.int .i64 x0, .int .i64 x1, .slice A n c] 29) (.cells #[.int .i64 0, .int .i64 0, .slice none 0 0] 29)
  go_wp2_with (first | (at_builtin; refine wpList_pushAll rfl (.const (.slice none 0 0)) (.tmp 4) 27 rfl 39 _ 5 40 Try.underlying27 info_flowP (by decide) (by decide) (by decide) rfl (Acc.nil _ (w.heap.size + 2) 39 (flowR f0 f1 f2 f3 f4) (fun _ => rfl)) rfl HH.out (fun _ => rfl) (flowR_one _ _ _ _ _) (by omega) hn (by simp) ?_; intro v' w3 hA hb3 hg3; rw [Nat.zero_add, glue_0] at hA; obtain ⟨A', c', rfl, hO⟩ := hA.own; have hx3 := (hb3.block w.heap.size (by omega)).trans hx; have hz3 := (hb3.block (w.heap.size + 1) (by omega)).trans hz; have hl3 := heap_lt hz3) | (refine wpList_store_at rfl 27 (.tmp 6) (.tmp 5) rfl (.slice A' n c') #[.int .i64 x0, .int .i64 x1, .slice A' n c'] hx3 rfl rfl (by kernel_rfl) rfl rfl (by simp) rfl ?_; intro w4 hh4 hg4 hs4; have hz4 := heap_far hz3 hg4 (by omega); obtain ⟨k4, f4'⟩ := blk hh4; have hl4 := heap_lt hh4) | (refine wpList_store_var rfl 29 (.tmp 2) (.tmp 7) rfl #[.int .i64 x0, .int .i64 x1, .slice A' n c'] hz4 rfl rfl (by kernel_rfl) rfl rfl ?_; intro w9 hh9 hg9 hs9; obtain ⟨k9, f9⟩ := blk hh9))
  have hA4 := hA.kept hg4 (.inr fun e => by have := (hA.block _ e).1; omega)
  have hA9 := hA4.kept hg9 (.inr fun e => by have := (hA4.block _ e).1; omega)
  have hB3 : Below w.heap.size w w3 := Below.tr (by (repeat (first | exact Below.refl _ _ | assumption | refine Below.al ?_ _ | refine Below.dr ?_ | (refine Below.st ?_ (by simp <;> omega) _) | (refine Below.tr ?_ (by assumption))))) (hb3.mono (by simp))
  refine bodyPost_ret (v := .agg #[.int .i64 x0, .int .i64 x1, .slice A' n c']) (by simp [results, Try.results37, go_sem, k9]) rfl ⟨A', c', rfl, hA9.base (by omega), Below.of_grown (Below.of_grown hB3 hg4 (by omega)) hg9 (by omega)⟩

/-- The slots with the k-th one set to v. -/
def setC (f : Nat → Int) (k : Int) (v : Int) : Nat → Int := fun i => if (i : Int) = k then v else f i
theorem setC_row (f0 f1 f2 f3 f4 : Nat → Int) (k : Nat) (v0 v1 v2 v3 v4 : Int) : (fun i => if i = k then [.int .i64 v0, .int .i64 v1, .int .i64 v2, .int .i64 v3, .int .i64 v4] else flowR f0 f1 f2 f3 f4 i) = flowR (setC f0 k v0) (setC f1 k v1) (setC f2 k v2) (setC f3 k v3) (setC f4 k v4) := by
  funext i
  by_cases h : i = k
  · subst h; simp [flowR, setC]
  · have : ¬ (i : Int) = (k : Int) := by omega
    simp [flowR, setC, h, this]
theorem setC_no (f : Nat → Int) (v : Int) : setC f (-1) v = f := by
  funext i
  have : ¬ (i : Int) = -1 := by omega
  simp [setC, this]
/-- What a call hands back that closes a flow's slot. -/
def CloseP (w : World) (x0 x1 : Int) (n : Nat) (f0 f1 f2 f3 f4 : Nat → Int) (y0 y1 y2 y3 y4 : Int) (e : Ending) (w' : World) : Prop :=
  ∃ A c, e = .returned (.agg #[.int .i64 (if outB x0 x1 n f0 f1 f2 f3 f4 then x0 else 0), .int .i64 (if outB x0 x1 n f0 f1 f2 f3 f4 then x1 else 0), .slice A (if outB x0 x1 n f0 f1 f2 f3 f4 then n else 0) c]) ∧
    Acc w' w.heap.size 39 5 (.slice A (if outB x0 x1 n f0 f1 f2 f3 f4 then n else 0) c) (if outB x0 x1 n f0 f1 f2 f3 f4 then n else 0) (flowR (setC f0 (plF f0 f1 f2 f3 f4 y0 y1 y2 y3 y4 n) 0) (setC f1 (plF f0 f1 f2 f3 f4 y0 y1 y2 y3 y4 n) 0) (setC f2 (plF f0 f1 f2 f3 f4 y0 y1 y2 y3 y4 n) 0) (setC f3 (plF f0 f1 f2 f3 f4 y0 y1 y2 y3 y4 n) 0) (setC f4 (plF f0 f1 f2 f3 f4 y0 y1 y2 y3 y4 n) 0)) ∧ Below w.heap.size w w'
theorem closeP_no {w w' : World} {x0 x1 : Int} {n : Nat} {f0 f1 f2 f3 f4 : Nat → Int} {y0 y1 y2 y3 y4 : Int} (h : outB x0 x1 n f0 f1 f2 f3 f4 = false) (hb : Below w.heap.size w w') :
    CloseP w x0 x1 n f0 f1 f2 f3 f4 y0 y1 y2 y3 y4 (.returned (.agg #[.int .i64 0, .int .i64 0, .slice none 0 0])) w' := by
  unfold CloseP
  rw [h]
  exact ⟨none, 0, rfl, Acc.nil _ _ _ _ (fun _ => rfl), hb⟩
theorem closeP_yes {w w' : World} {x0 x1 : Int} {n : Nat} {f0 f1 f2 f3 f4 : Nat → Int} {y0 y1 y2 y3 y4 k : Int} {A : Option Addr} {c : Nat} (h : outB x0 x1 n f0 f1 f2 f3 f4 = true) (hk : plF f0 f1 f2 f3 f4 y0 y1 y2 y3 y4 n = k)
    (hA : Acc w' w.heap.size 39 5 (.slice A n c) n (flowR (setC f0 k 0) (setC f1 k 0) (setC f2 k 0) (setC f3 k 0) (setC f4 k 0))) (hb : Below w.heap.size w w') :
    CloseP w x0 x1 n f0 f1 f2 f3 f4 y0 y1 y2 y3 y4 (.returned (.agg #[.int .i64 x0, .int .i64 x1, .slice A n c])) w' := by
  unfold CloseP
  rw [h, hk]
  exact ⟨A, c, rfl, hA, hb⟩
set_option maxHeartbeats 16000000 in
theorem implCloseOut_any (x0 x1 : Int) {w : World} {B : Nat} {A : Option Addr} {n c : Nat} {f0 f1 f2 f3 f4 : Nat → Int} (y0 y1 y2 y3 y4 : Int) (H : Rws w B 5 A n c (flowR f0 f1 f2 f3 f4)) (hB : B ≤ w.heap.size) (hn : n ≤ 500000000) :
    Calls Try.prog 20 #[.agg #[.int .i64 x0, .int .i64 x1, .slice A n c], .agg #[.int .i64 y0, .int .i64 y1, .int .i64 y2, .int .i64 y3, .int .i64 y4]] w (CloseP w x0 x1 n f0 f1 f2 f3 f4 y0 y1 y2 y3 y4) := by
  have HH := Lib.hid H
  clear H
  go_enter Try.func20, Try.ntmps20
  go_wp2_with fail
  refine (implOutletValid_any x0 x1 (HH.out.below ((show Below w.heap.size w _ by (repeat (first | exact Below.refl _ _ | assumption | refine Below.al ?_ _ | refine Below.dr ?_ | (refine Below.st ?_ (by simp <;> omega) _) | (refine Below.tr ?_ (by assumption))))).mono hB)) (by simp <;> omega)).mono ?_
  rintro e w1 ⟨rfl, hb1⟩
  have hB1 : Below w.heap.size w w1 := Below.tr (by (repeat (first | exact Below.refl _ _ | assumption | refine Below.al ?_ _ | refine Below.dr ?_ | (refine Below.st ?_ (by simp <;> omega) _) | (refine Below.tr ?_ (by assumption))))) hb1
  have hzO := (hb1.block w.heap.size (by simp <;> omega)).trans ((heap_alloc_old _ _ (by simp <;> omega)).trans ((heap_alloc_old _ _ (by simp)).trans (heap_alloc_new w (.cells #[.int .i64 x0, .int .i64 x1, .slice A n c] 29))))
  have hzF := (hb1.block (w.heap.size + 1) (by simp <;> omega)).trans ((heap_alloc_old _ _ (by simp <;> omega)).trans (heap_new1 w (.cells #[.int .i64 x0, .int .i64 x1, .slice A n c] 29) (.cells #[.int .i64 y0, .int .i64 y1, .int .i64 y2, .int .i64 y3, .int .i64 y4] 39)))
  have hz := (hb1.block (w.heap.size + 1 + 1) (by simp <;> omega)).trans (heap_new2 w (.cells #[.int .i64 x0, .int .i64 x1, .slice A n c] 29) (.cells #[.int .i64 y0, .int .i64 y1, .int .i64 y2, .int .i64 y3, .int .i64 y4] 39) (.cells #[.int .i64 0, .int .i64 0, .slice none 0 0] 29))
  obtain ⟨kO, fO⟩ := blk hzO
  obtain ⟨kF, fF⟩ := blk hzF
  have hl1 := heap_lt hz
  have hlO := heap_lt hzO
  have hlF := heap_lt hzF
  clear hb1
  cases h1 : outB x0 x1 n f0 f1 f2 f3 f4 with
  | false =>
    have H1 := Lib.hid h1
    clear h1
    go_wp2_with (refine wpList_store_var rfl 29 (.tmp 4) (.tmp 10) rfl #[.int .i64 0, .int .i64 0, .slice none 0 0] hz rfl rfl (by kernel_rfl) rfl rfl ?_; intro w9 hh9 hg9 hs9; obtain ⟨k9, f9⟩ := blk hh9)
    refine bodyPost_ret (v := .agg #[.int .i64 0, .int .i64 0, .slice none 0 0]) (by simp [results, Try.results20, go_sem, k9]) rfl (closeP_no H1.out (Below.of_grown hB1 hg9 (by omega)))
  | true =>
  have H1 := Lib.hid h1
  clear h1
  go_wp2_with fail
  refine (cloneO_any x0 x1 (HH.out.below (hB1.mono hB)) (by have := hB1.size; omega) hn).mono ?_
  rintro e w2 ⟨A2, c2, rfl, hA2, hb2⟩
  have hB2 := Below.tr hB1 hb2
  have hzO2 := (hb2.block w.heap.size hlO).trans hzO
  have hzF2 := (hb2.block (w.heap.size + 1) hlF).trans hzF
  have hz2 := (hb2.block (w.heap.size + 1 + 1) hl1).trans hz
  clear kO fO kF fF hzO hzF hz hb2
  obtain ⟨kO, fO⟩ := blk hzO2
  obtain ⟨kF, fF⟩ := blk hzF2
  have hl2 := heap_lt hz2
  have hlO2 := heap_lt hzO2
  have hlF2 := heap_lt hzF2
  obtain ⟨A3, c3, e3, hO2⟩ := hA2.own
  cases e3
  have hA2' := hA2.next (below_bo w2 (.cells #[.int .i64 x0, .int .i64 x1, .slice A2 n c2] 29))
  have hR2 := (hO2.rows.below (below_bo w2 (.cells #[.int .i64 x0, .int .i64 x1, .slice A2 n c2] 29))).more (Nat.le_succ _)
  have hz2' := (heap_alloc_old w2 (.cells #[.int .i64 x0, .int .i64 x1, .slice A2 n c2] 29) hl2).trans hz2
  have hx2 := heap_alloc_new w2 (.cells #[.int .i64 x0, .int .i64 x1, .slice A2 n c2] 29)
  have hAB := Lib.hid hA2'
  have hRR := Lib.hid hR2
  clear hA2 hA2' hR2 hO2
  go_wp2_with fail
  refine (indexFlow_any y0 y1 y2 y3 y4 hRR.out (by simp)).mono ?_
  rintro e w3 ⟨rfl, hb3⟩
  have hA3 := hAB.out.next hb3
  have hB3 := Below.tr (Below.tr hB2 (below_bo w2 (.cells #[.int .i64 x0, .int .i64 x1, .slice A2 n c2] 29))) hb3
  have hz3 := (hb3.block (w.heap.size + 1 + 1) (by simp; omega)).trans hz2'
  have hx3 := (hb3.block w2.heap.size (by simp)).trans hx2
  obtain ⟨kX, fX⟩ := blk hx3
  have hlx := heap_lt hx3
  have hnx : ∀ k, (Value.slice A2 n c2).ownBlock = some k → k < w2.heap.size := fun k hk => by
    have h0 := (hA3.block k hk).2
    rcases Nat.lt_or_ge k w2.heap.size with h | h
    · exact h
    · have h5 := (hAB.out.block k hk).2
      simp at h5
      obtain rfl : k = w2.heap.size := by omega
      obtain ⟨cs, h6⟩ := hA3.typed hk
      exact (typed_ne h6 hx3 (by decide)).elim
  clear hb3 hz2' hx2 kO fO kF fF hzO2 hzF2
  rcases plF_cases (a := f0) (b := f1) (c := f2) (d := f3) (e := f4) (y0 := y0) (y1 := y1) (y2 := y2) (y3 := y3) (y4 := y4) n with ⟨hp, hno⟩ | ⟨k, hkn, hp, hyes, hno⟩
  · have HP := Lib.hid hp
    have hA4 := hA3.base (show w.heap.size ≤ w1.heap.size from hB1.size)
    clear hno hp
    rw [HP.out]
    go_wp2_with (refine wpList_store_var rfl 29 (.tmp 4) (.tmp 24) rfl #[.int .i64 x0, .int .i64 x1, .slice A2 n c2] hz3 rfl rfl (by kernel_rfl) rfl rfl ?_; intro w9 hh9 hg9 hs9; obtain ⟨k9, f9⟩ := blk hh9)
    have hA9 := hA4.kept hg9 (.inr fun e => by have := (hA3.block _ e).1; omega)
    refine bodyPost_ret (v := .agg #[.int .i64 x0, .int .i64 x1, .slice A2 n c2]) (by simp [results, Try.results20, go_sem, k9]) rfl (closeP_yes H1.out HP.out (by simp only [setC_no]; exact hA9) (Below.of_grown hB3 hg9 (by omega)))
  · have HP := Lib.hid hp
    clear hno hyes hp
    rw [HP.out]
    obtain ⟨g, cg, eg, hBg, hN, hcg⟩ := hA3.new_ (by omega)
    cases eg
    have hgx := hnx g rfl
    have hk2 : (k : Int) < (n : Int) := by omega
    have hg1 : w1.heap.size ≤ g := hBg
    have hB1s := hB1.size
    go_wp2_with (first | (refine wpList_store_row rfl 39 (.tmp 23) (.tmp 22) rfl (.agg #[.int .i64 0, .int .i64 0, .int .i64 0, .int .i64 0, .int .i64 0]) hN hkn (fun _ => rfl) rfl rfl (row := [.int .i64 0, .int .i64 0, .int .i64 0, .int .i64 0, .int .i64 0]) rfl rfl (by kernel_rfl) (by decide) ?_; intro w5 hN5 hg5 hs5; rw [setC_row] at hN5; have hx5 := heap_far hx3 hg5 (by omega); have hz5 := heap_far hz3 hg5 (by omega); obtain ⟨kY, fY⟩ := blk hx5; have hly := heap_lt hx5; clear kX fX) | (refine wpList_store_var rfl 29 (.tmp 4) (.tmp 24) rfl #[.int .i64 x0, .int .i64 x1, .slice (some ⟨g, 0, none⟩) n c2] hz5 rfl rfl (by kernel_rfl) rfl rfl ?_; intro w9 hh9 hg9 hs9; obtain ⟨k9, f9⟩ := blk hh9))
    have hA5 := Acc.of_new hN5 (show w.heap.size ≤ g by omega) hcg (fun _ => rfl)
    have hB5 := Below.of_grown hB3 hg5 (by omega)
    have hA9 := hA5.kept hg9 (.inr (by simp [Value.ownBlock]; omega))
    refine bodyPost_ret (v := .agg #[.int .i64 x0, .int .i64 x1, .slice (some ⟨g, 0, none⟩) n c2]) (by simp [results, Try.results20, go_sem, k9]) rfl (closeP_yes H1.out HP.out hA9 (Below.of_grown hB5 hg9 (by omega)))
set_option maxHeartbeats 16000000 in
theorem specCloseOut_any (x0 x1 : Int) {w : World} {B : Nat} {A : Option Addr} {n c : Nat} {f0 f1 f2 f3 f4 : Nat → Int} (y0 y1 y2 y3 y4 : Int) (H : Rws w B 5 A n c (flowR f0 f1 f2 f3 f4)) (hB : B ≤ w.heap.size) (hn : n ≤ 500000000) :
    Calls Try.prog 22 #[.agg #[.int .i64 x0, .int .i64 x1, .slice A n c], .agg #[.int .i64 y0, .int .i64 y1, .int .i64 y2, .int .i64 y3, .int .i64 y4]] w (CloseP w x0 x1 n f0 f1 f2 f3 f4 y0 y1 y2 y3 y4) := by
  have HH := Lib.hid H
  clear H
  go_enter Try.func22, Try.ntmps22
  go_wp2_with fail
  refine (specOutletValid_any x0 x1 (HH.out.below ((show Below w.heap.size w _ by (repeat (first | exact Below.refl _ _ | assumption | refine Below.al ?_ _ | refine Below.dr ?_ | (refine Below.st ?_ (by simp <;> omega) _) | (refine Below.tr ?_ (by assumption))))).mono hB)) (by simp <;> omega)).mono ?_
  rintro e w1 ⟨rfl, hb1⟩
  have hB1 : Below w.heap.size w w1 := Below.tr (by (repeat (first | exact Below.refl _ _ | assumption | refine Below.al ?_ _ | refine Below.dr ?_ | (refine Below.st ?_ (by simp <;> omega) _) | (refine Below.tr ?_ (by assumption))))) hb1
  have hzO := (hb1.block w.heap.size (by simp <;> omega)).trans ((heap_alloc_old _ _ (by simp <;> omega)).trans ((heap_alloc_old _ _ (by simp)).trans (heap_alloc_new w (.cells #[.int .i64 x0, .int .i64 x1, .slice A n c] 29))))
  have hzF := (hb1.block (w.heap.size + 1) (by simp <;> omega)).trans ((heap_alloc_old _ _ (by simp <;> omega)).trans (heap_new1 w (.cells #[.int .i64 x0, .int .i64 x1, .slice A n c] 29) (.cells #[.int .i64 y0, .int .i64 y1, .int .i64 y2, .int .i64 y3, .int .i64 y4] 39)))
  have hz := (hb1.block (w.heap.size + 1 + 1) (by simp <;> omega)).trans (heap_new2 w (.cells #[.int .i64 x0, .int .i64 x1, .slice A n c] 29) (.cells #[.int .i64 y0, .int .i64 y1, .int .i64 y2, .int .i64 y3, .int .i64 y4] 39) (.cells #[.int .i64 0, .int .i64 0, .slice none 0 0] 29))
  obtain ⟨kO, fO⟩ := blk hzO
  obtain ⟨kF, fF⟩ := blk hzF
  have hl1 := heap_lt hz
  have hlO := heap_lt hzO
  have hlF := heap_lt hzF
  clear hb1
  cases h1 : outB x0 x1 n f0 f1 f2 f3 f4 with
  | false =>
    have H1 := Lib.hid h1
    clear h1
    go_wp2_with (refine wpList_store_var rfl 29 (.tmp 4) (.tmp 10) rfl #[.int .i64 0, .int .i64 0, .slice none 0 0] hz rfl rfl (by kernel_rfl) rfl rfl ?_; intro w9 hh9 hg9 hs9; obtain ⟨k9, f9⟩ := blk hh9)
    refine bodyPost_ret (v := .agg #[.int .i64 0, .int .i64 0, .slice none 0 0]) (by simp [results, Try.results22, go_sem, k9]) rfl (closeP_no H1.out (Below.of_grown hB1 hg9 (by omega)))
  | true =>
  have H1 := Lib.hid h1
  clear h1
  go_wp2_with fail
  refine (l28Copy_any x0 x1 (HH.out.below (hB1.mono hB)) (by have := hB1.size; omega) hn).mono ?_
  rintro e w2 ⟨A2, c2, rfl, hA2, hb2⟩
  have hB2 := Below.tr hB1 hb2
  have hzO2 := (hb2.block w.heap.size hlO).trans hzO
  have hzF2 := (hb2.block (w.heap.size + 1) hlF).trans hzF
  have hz2 := (hb2.block (w.heap.size + 1 + 1) hl1).trans hz
  clear kO fO kF fF hzO hzF hz hb2
  obtain ⟨kO, fO⟩ := blk hzO2
  obtain ⟨kF, fF⟩ := blk hzF2
  have hl2 := heap_lt hz2
  have hlO2 := heap_lt hzO2
  have hlF2 := heap_lt hzF2
  obtain ⟨A3, c3, e3, hO2⟩ := hA2.own
  cases e3
  have hA2' := hA2.next (below_bo w2 (.cells #[.int .i64 x0, .int .i64 x1, .slice A2 n c2] 29))
  have hR2 := (hO2.rows.below (below_bo w2 (.cells #[.int .i64 x0, .int .i64 x1, .slice A2 n c2] 29))).more (Nat.le_succ _)
  have hz2' := (heap_alloc_old w2 (.cells #[.int .i64 x0, .int .i64 x1, .slice A2 n c2] 29) hl2).trans hz2
  have hx2 := heap_alloc_new w2 (.cells #[.int .i64 x0, .int .i64 x1, .slice A2 n c2] 29)
  have hAB := Lib.hid hA2'
  have hRR := Lib.hid hR2
  clear hA2 hA2' hR2 hO2
  go_wp2_with fail
  refine (l28Place_any x0 x1 y0 y1 y2 y3 y4 (HH.out.below ((Below.tr hB2 (below_bo w2 (.cells #[.int .i64 x0, .int .i64 x1, .slice A2 n c2] 29))).mono hB)) (by have := hB2.size; simp; omega)).mono ?_
  rintro e w3 ⟨rfl, hb3⟩
  have hA3 := hAB.out.next hb3
  have hB3 := Below.tr (Below.tr hB2 (below_bo w2 (.cells #[.int .i64 x0, .int .i64 x1, .slice A2 n c2] 29))) hb3
  have hz3 := (hb3.block (w.heap.size + 1 + 1) (by simp; omega)).trans hz2'
  have hx3 := (hb3.block w2.heap.size (by simp)).trans hx2
  obtain ⟨kX, fX⟩ := blk hx3
  have hlx := heap_lt hx3
  have hnx : ∀ k, (Value.slice A2 n c2).ownBlock = some k → k < w2.heap.size := fun k hk => by
    have h0 := (hA3.block k hk).2
    rcases Nat.lt_or_ge k w2.heap.size with h | h
    · exact h
    · have h5 := (hAB.out.block k hk).2
      simp at h5
      obtain rfl : k = w2.heap.size := by omega
      obtain ⟨cs, h6⟩ := hA3.typed hk
      exact (typed_ne h6 hx3 (by decide)).elim
  clear hb3 hz2' hx2 kO fO kF fF hzO2 hzF2
  rcases plF_cases (a := f0) (b := f1) (c := f2) (d := f3) (e := f4) (y0 := y0) (y1 := y1) (y2 := y2) (y3 := y3) (y4 := y4) n with ⟨hp, hno⟩ | ⟨k, hkn, hp, hyes, hno⟩
  · have HP := Lib.hid hp
    have hA4 := hA3.base (show w.heap.size ≤ w1.heap.size from hB1.size)
    clear hno hp
    rw [HP.out]
    go_wp2_with (refine wpList_store_var rfl 29 (.tmp 4) (.tmp 23) rfl #[.int .i64 x0, .int .i64 x1, .slice A2 n c2] hz3 rfl rfl (by kernel_rfl) rfl rfl ?_; intro w9 hh9 hg9 hs9; obtain ⟨k9, f9⟩ := blk hh9)
    have hA9 := hA4.kept hg9 (.inr fun e => by have := (hA3.block _ e).1; omega)
    refine bodyPost_ret (v := .agg #[.int .i64 x0, .int .i64 x1, .slice A2 n c2]) (by simp [results, Try.results22, go_sem, k9]) rfl (closeP_yes H1.out HP.out (by simp only [setC_no]; exact hA9) (Below.of_grown hB3 hg9 (by omega)))
  · have HP := Lib.hid hp
    clear hno hyes hp
    rw [HP.out]
    obtain ⟨g, cg, eg, hBg, hN, hcg⟩ := hA3.new_ (by omega)
    cases eg
    have hgx := hnx g rfl
    have hk2 : (k : Int) < (n : Int) := by omega
    have hg1 : w1.heap.size ≤ g := hBg
    have hB1s := hB1.size
    go_wp2_with (first | (refine wpList_store_row rfl 39 (.tmp 22) (.tmp 21) rfl (.agg #[.int .i64 0, .int .i64 0, .int .i64 0, .int .i64 0, .int .i64 0]) hN hkn (fun _ => rfl) rfl rfl (row := [.int .i64 0, .int .i64 0, .int .i64 0, .int .i64 0, .int .i64 0]) rfl rfl (by kernel_rfl) (by decide) ?_; intro w5 hN5 hg5 hs5; rw [setC_row] at hN5; have hx5 := heap_far hx3 hg5 (by omega); have hz5 := heap_far hz3 hg5 (by omega); obtain ⟨kY, fY⟩ := blk hx5; have hly := heap_lt hx5; clear kX fX) | (refine wpList_store_var rfl 29 (.tmp 4) (.tmp 23) rfl #[.int .i64 x0, .int .i64 x1, .slice (some ⟨g, 0, none⟩) n c2] hz5 rfl rfl (by kernel_rfl) rfl rfl ?_; intro w9 hh9 hg9 hs9; obtain ⟨k9, f9⟩ := blk hh9))
    have hA5 := Acc.of_new hN5 (show w.heap.size ≤ g by omega) hcg (fun _ => rfl)
    have hB5 := Below.of_grown hB3 hg5 (by omega)
    have hA9 := hA5.kept hg9 (.inr (by simp [Value.ownBlock]; omega))
    refine bodyPost_ret (v := .agg #[.int .i64 x0, .int .i64 x1, .slice (some ⟨g, 0, none⟩) n c2]) (by simp [results, Try.results22, go_sem, k9]) rfl (closeP_yes H1.out HP.out hA9 (Below.of_grown hB5 hg9 (by omega)))
end Go.Proofs.Ytahniedcflfdmaa
