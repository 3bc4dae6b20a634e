/-
  SendOut of the reference, as the draws use it: a valid outlet stays valid.
-/
import Derived.Test.YtahniedcflfdmaaPlb
import Derived.Test.YtahniedcflfdmaaSin
import Derived.Test.YtahniedcflfdmaaFreZ
namespace Go.Proofs.Ytahniedcflfdmaa
open Go Go.RowKit

/-! ### valid outlets -/
theorem flowB_kind {a b c d e : Int} (h : flowB a b c d e = true) : 1 ≤ e := by
  simp only [flowB, Bool.and_eq_true] at h
  exact (inB_true.1 h.2).1
section
variable {x0 x1 : Int} {n k : Nat} {a b c d e : Nat → Int}
theorem outB_sloB (h : outB x0 x1 n a b c d e = true) {j : Nat} (hj : j < n) : sloB a b c d e j = true := by
  simp only [outB, Bool.and_eq_true] at h
  exact List.all_eq_true.1 h.1 j (List.mem_range.2 hj)
theorem outB_mk (h : outB x0 x1 n a b c d e = true) {a' b' c' d' e' : Nat → Int} (hs : ∀ j, j < n → sloB a' b' c' d' e' j = true) : outB x0 x1 n a' b' c' d' e' = true := by
  rw [outB_end hs]
  simp only [outB, Bool.and_eq_true] at h ⊢
  exact h.2
theorem sloB_iff {j : Nat} : sloB a b c d e j = true ↔ noB a b c d e j = true ∨ (flowB (a j) (b j) (c j) (d j) (e j) = true ∧ ∀ i, i < j → sfB a b c d e i j = false) := by
  simp only [sloB, Bool.or_eq_true, Bool.and_eq_true, List.all_eq_true, List.mem_range, Bool.not_eq_true']
theorem sfB_iff {i j : Nat} : sfB a b c d e i j = true ↔ a i = a j ∧ b i = b j ∧ c i = c j ∧ d i = d j ∧ e i = e j := by
  simp [sfB, and_assoc]
theorem sfB_no {i j : Nat} : sfB a b c d e i j = false ↔ ¬ (a i = a j ∧ b i = b j ∧ c i = c j ∧ d i = d j ∧ e i = e j) := by rw [← sfB_iff]; simp
theorem isF_iff {y0 y1 y2 y3 y4 : Int} {i : Nat} : isF a b c d e y0 y1 y2 y3 y4 i = true ↔ a i = y0 ∧ b i = y1 ∧ c i = y2 ∧ d i = y3 ∧ e i = y4 := by
  simp [isF, and_assoc]
theorem isF_no {y0 y1 y2 y3 y4 : Int} {i : Nat} : isF a b c d e y0 y1 y2 y3 y4 i = false ↔ ¬ (a i = y0 ∧ b i = y1 ∧ c i = y2 ∧ d i = y3 ∧ e i = y4) := by rw [← isF_iff]; simp
theorem setC_at (f : Nat → Int) (v : Int) : setC f (k : Nat) v k = v := by simp [setC]
theorem setC_ne (f : Nat → Int) (v : Int) {j : Nat} (h : j ≠ k) : setC f (k : Nat) v j = f j := by
  have : ¬ (j : Int) = (k : Int) := by omega
  simp [setC, this]
theorem outB_zero (h : outB x0 x1 n a b c d e = true) : outB x0 x1 n (setC a k 0) (setC b k 0) (setC c k 0) (setC d k 0) (setC e k 0) = true := by
  refine outB_mk h fun j hj => ?_
  by_cases hjk : j = k
  · subst hjk
    rw [sloB_iff]
    left
    simp [noB, setC_at]
  · have h1 := outB_sloB h hj
    rw [sloB_iff] at h1 ⊢
    rcases h1 with h1 | ⟨h1, h2⟩
    · left
      simpa [noB, setC_ne _ _ hjk] using h1
    · right
      refine ⟨by simpa [setC_ne _ _ hjk] using h1, fun i hi => ?_⟩
      rw [sfB_no]
      by_cases hik : i = k
      · subst hik
        have := flowB_kind h1
        rw [setC_at, setC_ne _ _ hjk, setC_at, setC_ne _ _ hjk, setC_at, setC_ne _ _ hjk, setC_at, setC_ne _ _ hjk, setC_at, setC_ne _ _ hjk]
        omega
      · have := sfB_no.1 (h2 i hi)
        simpa [setC_ne _ _ hjk, setC_ne _ _ hik] using this
theorem outB_set {y0 y1 y2 y3 y4 : Int} (h : outB x0 x1 n a b c d e = true) (hf : flowB y0 y1 y2 y3 y4 = true) (hno : ∀ j, j < n → isF a b c d e y0 y1 y2 y3 y4 j = false) : outB x0 x1 n (setC a k y0) (setC b k y1) (setC c k y2) (setC d k y3) (setC e k y4) = true := by
  refine outB_mk h fun j hj => ?_
  rw [sloB_iff]
  by_cases hjk : j = k
  · subst hjk
    right
    refine ⟨by simpa [setC_at] using hf, fun i hi => ?_⟩
    have := isF_no.1 (hno i (by omega))
    rw [sfB_no]
    simpa [setC_at, setC_ne _ _ (show i ≠ j by omega)] using this
  · have h1 := outB_sloB h hj
    rw [sloB_iff] at h1
    rcases h1 with h1 | ⟨h1, h2⟩
    · left
      simpa [noB, setC_ne _ _ hjk] using h1
    · right
      refine ⟨by simpa [setC_ne _ _ hjk] using h1, fun i hi => ?_⟩
      rw [sfB_no]
      by_cases hik : i = k
      · subst hik
        have := isF_no.1 (hno j hj)
        simp only [setC_at, setC_ne _ _ hjk]
        rintro ⟨h3, h4, h5, h6, h7⟩
        exact this ⟨h3.symm, h4.symm, h5.symm, h6.symm, h7.symm⟩
      · have := sfB_no.1 (h2 i hi)
        simpa [setC_ne _ _ hjk, setC_ne _ _ hik] using this
theorem set_non {y0 y1 y2 y3 y4 : Int} (hf : flowB y0 y1 y2 y3 y4 = true) : noB (setC a k y0) (setC b k y1) (setC c k y2) (setC d k y3) (setC e k y4) k = false := by
  have := flowB_kind hf
  have h4 : ¬ y4 = 0 := by omega
  simp [noB, setC_at, h4]
theorem setC_same {f : Nat → Int} {v : Int} (h : f k = v) : setC f k v = f := by
  funext i
  by_cases hi : i = k
  · subst hi; rw [setC_at, h]
  · rw [setC_ne _ _ hi]
end

/-- What a call hands back that sends a flow out. -/
def SentO (w : World) (x0 x1 : Int) (n : Nat) (e : Ending) (w' : World) : Prop :=
  ∃ A c z0 z1 z2 z3 z4 ok, ∃ f0 f1 f2 f3 f4 : Nat → Int, e = .returned (.tuple #[.agg #[.int .i64 x0, .int .i64 x1, .slice A n c], .agg #[.int .i64 z0, .int .i64 z1, .int .i64 z2, .int .i64 z3, .int .i64 z4], .bool ok]) ∧
    Acc w' w.heap.size 39 5 (.slice A n c) n (flowR f0 f1 f2 f3 f4) ∧ outB x0 x1 n f0 f1 f2 f3 f4 = true ∧ (∃ j, j < n ∧ noB f0 f1 f2 f3 f4 j = false) ∧ Below w.heap.size w w'
set_option maxHeartbeats 16000000 in
theorem specSendOut_good (x0 x1 : Int) {w : World} {B : Nat} {A : Option Addr} {n c : Nat} {f0 f1 f2 f3 f4 : Nat → Int} (y0 y1 y2 y3 y4 : Int) (H : Rws w B 5 A n c (flowR f0 f1 f2 f3 f4)) (hB : B ≤ w.heap.size) (hv : outB x0 x1 n f0 f1 f2 f3 f4 = true) (hf : flowB y0 y1 y2 y3 y4 = true) :
    Calls Try.prog 41 #[.agg #[.int .i64 x0, .int .i64 x1, .slice A n c], .agg #[.int .i64 y0, .int .i64 y1, .int .i64 y2, .int .i64 y3, .int .i64 y4]] w (SentO w x0 x1 n) := by
  have HH := Lib.hid H
  have HO := Lib.hid hv
  have HF := Lib.hid hf
  have hn8 := outB_first hv
  clear H hv hf
  go_enter Try.func41, Try.ntmps41
  go_wp2_with fail
  refine (specOutletValid_any x0 x1 (HH.out.below ((show Below w.heap.size w _ by (repeat (first | exact Below.refl _ _ | assumption | refine Below.al ?_ _ | refine Below.dr ?_ | (refine Below.st ?_ (by simp <;> omega) _) | (refine Below.tr ?_ (by assumption))))).mono hB)) (by simp <;> omega)).mono ?_
  rintro e w1 ⟨rfl, hb1⟩
  rw [HO.out]
  have hB1 : Below w.heap.size w w1 := Below.tr (by (repeat (first | exact Below.refl _ _ | assumption | refine Below.al ?_ _ | refine Below.dr ?_ | (refine Below.st ?_ (by simp <;> omega) _) | (refine Below.tr ?_ (by assumption))))) hb1
  have hO1 := (hb1.block w.heap.size (by simp <;> omega)).trans ((heap_alloc_old _ _ (by simp <;> omega)).trans ((heap_alloc_old _ _ (by simp <;> omega)).trans ((heap_alloc_old _ _ (by simp)).trans (heap_alloc_new w (.cells #[.int .i64 x0, .int .i64 x1, .slice A n c] 29)))))
  have hF1 := (hb1.block (w.heap.size + 1) (by simp <;> omega)).trans ((heap_alloc_old _ _ (by simp <;> omega)).trans ((heap_alloc_old _ _ (by simp <;> omega)).trans (heap_new1 w (.cells #[.int .i64 x0, .int .i64 x1, .slice A n c] 29) (.cells #[.int .i64 y0, .int .i64 y1, .int .i64 y2, .int .i64 y3, .int .i64 y4] 39))))
  have hz1 := (hb1.block (w.heap.size + 1 + 1) (by simp <;> omega)).trans ((heap_alloc_old _ _ (by simp <;> omega)).trans (heap_new2 w (.cells #[.int .i64 x0, .int .i64 x1, .slice A n c] 29) (.cells #[.int .i64 y0, .int .i64 y1, .int .i64 y2, .int .i64 y3, .int .i64 y4] 39) (.cells #[.int .i64 0, .int .i64 0, .slice none 0 0] 29)))
  have hy1 := (hb1.block (w.heap.size + 1 + 1 + 1) (by simp <;> omega)).trans (show _ = some (.cells #[.int .i64 0, .int .i64 0, .int .i64 0, .int .i64 0, .int .i64 0] 39) by
    have := heap_alloc_new (((w.alloc (.cells #[.int .i64 x0, .int .i64 x1, .slice A n c] 29)).alloc (.cells #[.int .i64 y0, .int .i64 y1, .int .i64 y2, .int .i64 y3, .int .i64 y4] 39)).alloc (.cells #[.int .i64 0, .int .i64 0, .slice none 0 0] 29)) (.cells #[.int .i64 0, .int .i64 0, .int .i64 0, .int .i64 0, .int .i64 0] 39)
    simpa using this)
  obtain ⟨kO1, fO1⟩ := blk hO1
  obtain ⟨kF1, fF1⟩ := blk hF1
  have lO1 := heap_lt hO1
  have lF1 := heap_lt hF1
  clear hb1
  go_wp2_with fail
  refine (specFlowValid_b _ _ _ _ _ _).mono ?_
  rintro e w1b ⟨rfl, hb1⟩
  rw [HF.out]
  have hBb := Below.tr hB1 hb1
  have hOb := (hb1.block _ lO1).trans hO1
  have hFb := (hb1.block _ lF1).trans hF1
  have hzb := (hb1.block _ (heap_lt hz1)).trans hz1
  have hyb := (hb1.block _ (heap_lt hy1)).trans hy1
  clear kO1 fO1 kF1 fF1 lO1 lF1 hO1 hF1 hz1 hy1 hB1 hb1
  obtain ⟨kO1, fO1⟩ := blk hOb
  obtain ⟨kF1, fF1⟩ := blk hFb
  have lO1 := heap_lt hOb
  have lF1 := heap_lt hFb
  go_wp2_with fail
  refine (l28Copy_any x0 x1 (HH.out.below (hBb.mono hB)) (by have := hBb.size; omega) (by omega)).mono ?_
  rintro e w2 ⟨A2, c2, rfl, hA2, hb2⟩
  have hB2 := Below.tr hBb hb2
  have hO2 := (hb2.block _ lO1).trans hOb
  have hF2 := (hb2.block _ lF1).trans hFb
  have hz2 := (hb2.block _ (heap_lt hzb)).trans hzb
  have hy2 := (hb2.block _ (heap_lt hyb)).trans hyb
  have hBs := hBb.size
  have hA2a := hA2.base (B' := w.heap.size + 4) (by have := heap_lt hyb; omega)
  clear kO1 fO1 kF1 fF1 lO1 lF1 hOb hFb hzb hyb hb2 hA2
  obtain ⟨kO2, fO2⟩ := blk hO2
  obtain ⟨kF2, fF2⟩ := blk hF2
  have lO2 := heap_lt hO2
  have lF2 := heap_lt hF2
  have lz2 := heap_lt hz2
  have ly2 := heap_lt hy2
  have hAB := Lib.hid (hA2a.next (below_bo w2 (.cells #[.int .i64 x0, .int .i64 x1, .slice A2 n c2] 29)))
  have hBX : Below w.heap.size w (w2.alloc (.cells #[.int .i64 x0, .int .i64 x1, .slice A2 n c2] 29)) := Below.tr hB2 (below_bo w2 (.cells #[.int .i64 x0, .int .i64 x1, .slice A2 n c2] 29))
  have hx2 := heap_alloc_new w2 (.cells #[.int .i64 x0, .int .i64 x1, .slice A2 n c2] 29)
  have hO2a := (heap_alloc_old w2 (.cells #[.int .i64 x0, .int .i64 x1, .slice A2 n c2] 29) lO2).trans hO2
  have hF2a := (heap_alloc_old w2 (.cells #[.int .i64 x0, .int .i64 x1, .slice A2 n c2] 29) lF2).trans hF2
  have hz2a := (heap_alloc_old w2 (.cells #[.int .i64 x0, .int .i64 x1, .slice A2 n c2] 29) lz2).trans hz2
  have hy2a := (heap_alloc_old w2 (.cells #[.int .i64 x0, .int .i64 x1, .slice A2 n c2] 29) ly2).trans hy2
  clear hA2a hz2 hy2
  go_wp2_with fail
  refine (l28Place_any x0 x1 y0 y1 y2 y3 y4 (HH.out.below (hBX.mono hB)) (by have := hBX.size; omega)).mono ?_
  rintro e w3 ⟨rfl, hb3⟩
  have hA3 := hAB.out.next hb3
  have hB3 := Below.tr hBX hb3
  have hO3 := (hb3.block w.heap.size (by simp; omega)).trans hO2a
  have hF3 := (hb3.block (w.heap.size + 1) (by simp; omega)).trans hF2a
  have hz3 := (hb3.block (w.heap.size + 1 + 1) (by simp; omega)).trans hz2a
  have hy3 := (hb3.block (w.heap.size + 1 + 1 + 1) (by simp; omega)).trans hy2a
  have hx3 := (hb3.block w2.heap.size (by simp)).trans hx2
  have hnx : ∀ k, (Value.slice A2 n c2).ownBlock = some k → k ≠ w2.heap.size := fun k hk e => by
    obtain ⟨cs, h6⟩ := hA3.typed hk
    rw [e] at h6
    exact typed_ne h6 hx3 (by decide)
  clear hb3 kO2 fO2 kF2 fF2 lO2 lF2 hO2a hF2a hz2a hy2a hx2 hO2 hF2
  obtain ⟨kO3, fO3⟩ := blk hO3
  obtain ⟨kF3, fF3⟩ := blk hF3
  obtain ⟨kX3, fX3⟩ := blk hx3
  have lO3 := heap_lt hO3
  have lF3 := heap_lt hF3
  have lx3 := heap_lt hx3
  rcases plF_cases (a := f0) (b := f1) (c := f2) (d := f3) (e := f4) (y0 := y0) (y1 := y1) (y2 := y2) (y3 := y3) (y4 := y4) n with ⟨hp, hno⟩ | ⟨k, hkn, hp, hyes, hno⟩
  · have HN := Lib.hid hno
    rw [hp]
    clear hno hp
    go_wp2_with fail
    refine (l28Place_any x0 x1 0 0 0 0 0 (HH.out.below (hB3.mono hB)) (by have := hB3.size; omega)).mono ?_
    rintro e w4 ⟨rfl, hb4⟩
    have hA4 := hA3.next hb4
    have hB4 := Below.tr hB3 hb4
    have hO4 := (hb4.block _ lO3).trans hO3
    have hF4 := (hb4.block _ lF3).trans hF3
    have hz4 := (hb4.block _ (heap_lt hz3)).trans hz3
    have hy4 := (hb4.block _ (heap_lt hy3)).trans hy3
    have hx4 := (hb4.block _ lx3).trans hx3
    clear hb4 kO3 fO3 kF3 fF3 kX3 fX3 lO3 lF3 lx3 hO3 hF3 hz3 hy3 hx3 hA3 hB3
    obtain ⟨kO4, fO4⟩ := blk hO4
    obtain ⟨kF4, fF4⟩ := blk hF4
    obtain ⟨kX4, fX4⟩ := blk hx4
    have lO4 := heap_lt hO4
    have lF4 := heap_lt hF4
    have lx4 := heap_lt hx4
    rcases plF_cases (a := f0) (b := f1) (c := f2) (d := f3) (e := f4) (y0 := 0) (y1 := 0) (y2 := 0) (y3 := 0) (y4 := 0) n with ⟨hp, hzn⟩ | ⟨k, hkn, hp, hyes, _⟩
    · rw [hp]
      have HZ := Lib.hid (show noB f0 f1 f2 f3 f4 0 = false from hzn 0 (by omega))
      clear hp hzn
      go_wp2_with (first | (refine wpList_store_var rfl 29 (.tmp 4) (.tmp 31) rfl #[.int .i64 x0, .int .i64 x1, .slice A2 n c2] hz4 rfl rfl (by kernel_rfl) rfl rfl ?_; intro w8 hh8 hg8 hs8; have hy8 := heap_far hy4 hg8 (by omega)) | (refine wpList_store_var rfl 39 (.tmp 5) (.tmp 32) rfl #[.int .i64 0, .int .i64 0, .int .i64 0, .int .i64 0, .int .i64 0] hy8 rfl rfl (by kernel_rfl) rfl rfl ?_; intro w9 hh9 hg9 hs9; have hh89 := heap_far hh8 hg9 (by omega); obtain ⟨k8, f8⟩ := blk hh89; obtain ⟨k9, f9⟩ := blk hh9))
      have hA9 := (hA4.kept hg8 (.inr fun e => by have := (hA4.block _ e).1; omega)).kept hg9 (.inr fun e => by have := (hA4.block _ e).1; omega)
      refine bodyPost_ret (v := .tuple #[.agg #[.int .i64 x0, .int .i64 x1, .slice A2 n c2], .agg #[.int .i64 0, .int .i64 0, .int .i64 0, .int .i64 0, .int .i64 0], .bool false]) (by simp [results, Try.results41, go_sem, k8, k9]) rfl ⟨_, _, _, _, _, _, _, _, _, _, _, _, _, rfl, hA9.base (by omega), HO.out, ⟨0, by omega, HZ.out⟩, Below.of_grown (Below.of_grown hB4 hg8 (by omega)) hg9 (by omega)⟩
    · have HV := Lib.hid fun k : Nat => outB_set (k := k) HO.out HF.out HN.out
      rw [hp]
      clear hp hyes
      obtain ⟨g, cg, eg, hBg, hN, hcg⟩ := hA4.new_ (by omega)
      cases eg
      have hgx := hnx g rfl
      have hk2 : (k : Int) < (n : Int) := by omega
      have hk3 : ¬ (k : Int) < 0 := by omega
      have hB1s := hB2.size
      go_wp2_with (refine wpList_store_row rfl 39 (.tmp 37) (.tmp 36) rfl (.agg #[.int .i64 y0, .int .i64 y1, .int .i64 y2, .int .i64 y3, .int .i64 y4]) hN hkn (fun _ => rfl) rfl rfl (row := [.int .i64 y0, .int .i64 y1, .int .i64 y2, .int .i64 y3, .int .i64 y4]) rfl rfl (by kernel_rfl) (by intro u hu; simp at hu; rcases hu with rfl | rfl | rfl | rfl | rfl <;> rfl) ?_; intro w5 hN5 hg5 hs5; rw [setC_row] at hN5; have hO5 := heap_far hO4 hg5 (by omega); have hF5 := heap_far hF4 hg5 (by omega); have hx5 := heap_far hx4 hg5 (by omega); have hz5 := heap_far hz4 hg5 (by omega); have hy5 := heap_far hy4 hg5 (by omega); obtain ⟨kO5, fO5⟩ := blk hO5; obtain ⟨kF5, fF5⟩ := blk hF5; obtain ⟨kX5, fX5⟩ := blk hx5; have lO5 := heap_lt hO5; have lF5 := heap_lt hF5; have lX5 := heap_lt hx5; clear kO4 fO4 kF4 fF4 kX4 fX4 lO4 lF4 lx4)
      have hA5 := Acc.of_new hN5 (show w.heap.size ≤ g by omega) hcg (fun _ => rfl)
      have hB5 := Below.of_grown hB4 hg5 (by omega)
      refine wp_region_freeZ (z := w.heap.size + 1 + 1) (O := (· = .cells #[.int .i64 x0, .int .i64 x1, .slice (some ⟨g, 0, none⟩) n c2] 29 (0, 0))) (ds := [(0, 38), (1, 39), (2, 40), (3, 41), (4, 42), (5, 43), (6, 44), (7, 45), (8, 46), (9, 47), (10, 48), (11, 49), (12, 50), (13, 51)]) 15 (by kernel_rfl) (by kernel_rfl) (by first | exact .inl rfl | exact .inr (by kernel_rfl)) (by rfl) rfl rfl ?_
      apply freeZ_is
      · intro a' w' hLe hfr hdep
        have e7 := hfr 7 rfl
        conv at e7 => rhs; whnf
        have f7 := e7; simp only [Array.getD_eq_getD_getElem?] at f7
        have kc := fun i => hLe.keepc (w.heap.size) (by (try simp) <;> omega) (by omega) i
        have kf := fun i => hLe.keepf (w.heap.size) (by (try simp) <;> omega) (by omega) i
        have kz : w.heap.size < w'.heap.size := (by have := hLe.size; (try simp at this); omega)
        have kc := fun i => hLe.keepc (w.heap.size + 1) (by (try simp) <;> omega) (by omega) i
        have kf := fun i => hLe.keepf (w.heap.size + 1) (by (try simp) <;> omega) (by omega) i
        have kz : w.heap.size + 1 < w'.heap.size := (by have := hLe.size; (try simp at this); omega)
        have kc := fun i => hLe.keepc (w2.heap.size) (by (try simp) <;> omega) (by omega) i
        have kf := fun i => hLe.keepf (w2.heap.size) (by (try simp) <;> omega) (by omega) i
        have kz : w2.heap.size < w'.heap.size := (by have := hLe.size; (try simp at this); omega)
        refine wpOp_plain rfl rfl (fun K hK => ?_)
        go_simp
        exact hK _ _ ⟨_, rfl, TurnZ.refl _, rfl, nofun⟩
      apply freeZ_is
      · intro a' w' hLe hfr hdep
        have e2 := hfr 2 rfl
        conv at e2 => rhs; whnf
        have f2 := e2; simp only [Array.getD_eq_getD_getElem?] at f2
        refine wpOp_plain rfl rfl (fun K hK => ?_)
        go_simp
        exact hK _ _ ⟨_, rfl, TurnZ.refl _, rfl, nofun⟩
      apply freeZ_is
      · intro a' w' hLe hfr hdep
        have e39 : a'.tmps.getD 39 undef = _ := hdep 1 39 (Nat.le_of_ble_eq_true rfl) rfl rfl
        conv at e39 => rhs; whnf
        have f39 := e39; simp only [Array.getD_eq_getD_getElem?] at f39
        have kc := fun i => hLe.keepc (w.heap.size) (by (try simp) <;> omega) (by omega) i
        have kf := fun i => hLe.keepf (w.heap.size) (by (try simp) <;> omega) (by omega) i
        have kz : w.heap.size < w'.heap.size := (by have := hLe.size; (try simp at this); omega)
        have kc := fun i => hLe.keepc (w.heap.size + 1) (by (try simp) <;> omega) (by omega) i
        have kf := fun i => hLe.keepf (w.heap.size + 1) (by (try simp) <;> omega) (by omega) i
        have kz : w.heap.size + 1 < w'.heap.size := (by have := hLe.size; (try simp at this); omega)
        have kc := fun i => hLe.keepc (w2.heap.size) (by (try simp) <;> omega) (by omega) i
        have kf := fun i => hLe.keepf (w2.heap.size) (by (try simp) <;> omega) (by omega) i
        have kz : w2.heap.size < w'.heap.size := (by have := hLe.size; (try simp at this); omega)
        refine wpOp_plain rfl rfl (fun K hK => ?_)
        go_simp
        exact hK _ _ ⟨_, rfl, TurnZ.refl _, rfl, nofun⟩
      apply freeZ_is
      · intro a' w' hLe hfr hdep
        have e2 := hfr 2 rfl
        conv at e2 => rhs; whnf
        have f2 := e2; simp only [Array.getD_eq_getD_getElem?] at f2
        refine wpOp_plain rfl rfl (fun K hK => ?_)
        go_simp
        exact hK _ _ ⟨_, rfl, TurnZ.refl _, rfl, nofun⟩
      apply freeZ_is
      · intro a' w' hLe hfr hdep
        have e41 : a'.tmps.getD 41 undef = _ := hdep 3 41 (Nat.le_of_ble_eq_true rfl) rfl rfl
        conv at e41 => rhs; whnf
        have f41 := e41; simp only [Array.getD_eq_getD_getElem?] at f41
        have kc := fun i => hLe.keepc (w.heap.size) (by (try simp) <;> omega) (by omega) i
        have kf := fun i => hLe.keepf (w.heap.size) (by (try simp) <;> omega) (by omega) i
        have kz : w.heap.size < w'.heap.size := (by have := hLe.size; (try simp at this); omega)
        have kc := fun i => hLe.keepc (w.heap.size + 1) (by (try simp) <;> omega) (by omega) i
        have kf := fun i => hLe.keepf (w.heap.size + 1) (by (try simp) <;> omega) (by omega) i
        have kz : w.heap.size + 1 < w'.heap.size := (by have := hLe.size; (try simp at this); omega)
        have kc := fun i => hLe.keepc (w2.heap.size) (by (try simp) <;> omega) (by omega) i
        have kf := fun i => hLe.keepf (w2.heap.size) (by (try simp) <;> omega) (by omega) i
        have kz : w2.heap.size < w'.heap.size := (by have := hLe.size; (try simp at this); omega)
        refine wpOp_plain rfl rfl (fun K hK => ?_)
        go_simp
        exact hK _ _ ⟨_, rfl, TurnZ.refl _, rfl, nofun⟩
      apply freeZ_is
      · intro a' w' hLe hfr hdep
        have e8 := hfr 8 rfl
        conv at e8 => rhs; whnf
        have f8 := e8; simp only [Array.getD_eq_getD_getElem?] at f8
        refine wpOp_plain rfl rfl (fun K hK => ?_)
        go_simp
        exact hK _ _ ⟨_, rfl, TurnZ.refl _, rfl, nofun⟩
      apply freeZ_is
      · intro a' w' hLe hfr hdep
        have e42 : a'.tmps.getD 42 undef = _ := hdep 4 42 (Nat.le_of_ble_eq_true rfl) rfl rfl
        conv at e42 => rhs; whnf
        have f42 := e42; simp only [Array.getD_eq_getD_getElem?] at f42
        have e43 : a'.tmps.getD 43 undef = _ := hdep 5 43 (Nat.le_of_ble_eq_true rfl) rfl rfl
        conv at e43 => rhs; whnf
        have f43 := e43; simp only [Array.getD_eq_getD_getElem?] at f43
        refine wpOp_plain rfl rfl (fun K hK => ?_)
        go_simp
        exact hK _ _ ⟨_, rfl, TurnZ.refl _, rfl, nofun⟩
      apply freeZ_is
      · intro a' w' hLe hfr hdep
        have e3 := hfr 3 rfl
        conv at e3 => rhs; whnf
        have f3 := e3; simp only [Array.getD_eq_getD_getElem?] at f3
        refine wpOp_plain rfl rfl (fun K hK => ?_)
        go_simp
        exact hK _ _ ⟨_, rfl, TurnZ.refl _, rfl, nofun⟩
      apply freeZ_is
      · intro a' w' hLe hfr hdep
        have e45 : a'.tmps.getD 45 undef = _ := hdep 7 45 (Nat.le_of_ble_eq_true rfl) rfl rfl
        conv at e45 => rhs; whnf
        have f45 := e45; simp only [Array.getD_eq_getD_getElem?] at f45
        have kc := fun i => hLe.keepc (w.heap.size) (by (try simp) <;> omega) (by omega) i
        have kf := fun i => hLe.keepf (w.heap.size) (by (try simp) <;> omega) (by omega) i
        have kz : w.heap.size < w'.heap.size := (by have := hLe.size; (try simp at this); omega)
        have kc := fun i => hLe.keepc (w.heap.size + 1) (by (try simp) <;> omega) (by omega) i
        have kf := fun i => hLe.keepf (w.heap.size + 1) (by (try simp) <;> omega) (by omega) i
        have kz : w.heap.size + 1 < w'.heap.size := (by have := hLe.size; (try simp at this); omega)
        have kc := fun i => hLe.keepc (w2.heap.size) (by (try simp) <;> omega) (by omega) i
        have kf := fun i => hLe.keepf (w2.heap.size) (by (try simp) <;> omega) (by omega) i
        have kz : w2.heap.size < w'.heap.size := (by have := hLe.size; (try simp at this); omega)
        refine wpOp_plain rfl rfl (fun K hK => ?_)
        go_simp
        exact hK _ _ ⟨_, rfl, TurnZ.refl _, rfl, nofun⟩
      apply freeZ_is
      · intro a' w' hLe hfr hdep
        have e3 := hfr 3 rfl
        conv at e3 => rhs; whnf
        have f3 := e3; simp only [Array.getD_eq_getD_getElem?] at f3
        refine wpOp_plain rfl rfl (fun K hK => ?_)
        go_simp
        exact hK _ _ ⟨_, rfl, TurnZ.refl _, rfl, nofun⟩
      apply freeZ_is
      · intro a' w' hLe hfr hdep
        have e47 : a'.tmps.getD 47 undef = _ := hdep 9 47 (Nat.le_of_ble_eq_true rfl) rfl rfl
        conv at e47 => rhs; whnf
        have f47 := e47; simp only [Array.getD_eq_getD_getElem?] at f47
        have kc := fun i => hLe.keepc (w.heap.size) (by (try simp) <;> omega) (by omega) i
        have kf := fun i => hLe.keepf (w.heap.size) (by (try simp) <;> omega) (by omega) i
        have kz : w.heap.size < w'.heap.size := (by have := hLe.size; (try simp at this); omega)
        have kc := fun i => hLe.keepc (w.heap.size + 1) (by (try simp) <;> omega) (by omega) i
        have kf := fun i => hLe.keepf (w.heap.size + 1) (by (try simp) <;> omega) (by omega) i
        have kz : w.heap.size + 1 < w'.heap.size := (by have := hLe.size; (try simp at this); omega)
        have kc := fun i => hLe.keepc (w2.heap.size) (by (try simp) <;> omega) (by omega) i
        have kf := fun i => hLe.keepf (w2.heap.size) (by (try simp) <;> omega) (by omega) i
        have kz : w2.heap.size < w'.heap.size := (by have := hLe.size; (try simp at this); omega)
        refine wpOp_plain rfl rfl (fun K hK => ?_)
        go_simp
        exact hK _ _ ⟨_, rfl, TurnZ.refl _, rfl, nofun⟩
      apply freeZ_is
      · intro a' w' hLe hfr hdep
        have e3 := hfr 3 rfl
        conv at e3 => rhs; whnf
        have f3 := e3; simp only [Array.getD_eq_getD_getElem?] at f3
        refine wpOp_plain rfl rfl (fun K hK => ?_)
        go_simp
        exact hK _ _ ⟨_, rfl, TurnZ.refl _, rfl, nofun⟩
      apply freeZ_is
      · intro a' w' hLe hfr hdep
        have e49 : a'.tmps.getD 49 undef = _ := hdep 11 49 (Nat.le_of_ble_eq_true rfl) rfl rfl
        conv at e49 => rhs; whnf
        have f49 := e49; simp only [Array.getD_eq_getD_getElem?] at f49
        have kc := fun i => hLe.keepc (w.heap.size) (by (try simp) <;> omega) (by omega) i
        have kf := fun i => hLe.keepf (w.heap.size) (by (try simp) <;> omega) (by omega) i
        have kz : w.heap.size < w'.heap.size := (by have := hLe.size; (try simp at this); omega)
        have kc := fun i => hLe.keepc (w.heap.size + 1) (by (try simp) <;> omega) (by omega) i
        have kf := fun i => hLe.keepf (w.heap.size + 1) (by (try simp) <;> omega) (by omega) i
        have kz : w.heap.size + 1 < w'.heap.size := (by have := hLe.size; (try simp at this); omega)
        have kc := fun i => hLe.keepc (w2.heap.size) (by (try simp) <;> omega) (by omega) i
        have kf := fun i => hLe.keepf (w2.heap.size) (by (try simp) <;> omega) (by omega) i
        have kz : w2.heap.size < w'.heap.size := (by have := hLe.size; (try simp at this); omega)
        refine wpOp_plain rfl rfl (fun K hK => ?_)
        go_simp
        exact hK _ _ ⟨_, rfl, TurnZ.refl _, rfl, nofun⟩
      apply freeZ_is
      · intro a' w' hLe hfr hdep
        have e40 : a'.tmps.getD 40 undef = _ := hdep 2 40 (Nat.le_of_ble_eq_true rfl) rfl rfl
        conv at e40 => rhs; whnf
        have f40 := e40; simp only [Array.getD_eq_getD_getElem?] at f40
        have e44 : a'.tmps.getD 44 undef = _ := hdep 6 44 (Nat.le_of_ble_eq_true rfl) rfl rfl
        conv at e44 => rhs; whnf
        have f44 := e44; simp only [Array.getD_eq_getD_getElem?] at f44
        have e46 : a'.tmps.getD 46 undef = _ := hdep 8 46 (Nat.le_of_ble_eq_true rfl) rfl rfl
        conv at e46 => rhs; whnf
        have f46 := e46; simp only [Array.getD_eq_getD_getElem?] at f46
        have e48 : a'.tmps.getD 48 undef = _ := hdep 10 48 (Nat.le_of_ble_eq_true rfl) rfl rfl
        conv at e48 => rhs; whnf
        have f48 := e48; simp only [Array.getD_eq_getD_getElem?] at f48
        have e50 : a'.tmps.getD 50 undef = _ := hdep 12 50 (Nat.le_of_ble_eq_true rfl) rfl rfl
        conv at e50 => rhs; whnf
        have f50 := e50; simp only [Array.getD_eq_getD_getElem?] at f50
        refine wpOp_plain rfl rfl (fun K hK => ?_)
        go_simp
        exact hK _ _ ⟨_, rfl, TurnZ.refl _, rfl, nofun⟩
      refine freeZ_cons (kzSet (w.heap.size + 1 + 1) ((· = .cells #[.int .i64 x0, .int .i64 x1, .slice (some ⟨g, 0, none⟩) n c2] 29 (0, 0)))) ?_ ?_
      · intro a' w' hLe hfr hdep
        have e4 := hfr 4 rfl
        conv at e4 => rhs; whnf
        have f4 := e4; simp only [Array.getD_eq_getD_getElem?] at f4
        have e38 : a'.tmps.getD 38 undef = _ := hdep 0 38 (Nat.le_of_ble_eq_true rfl) rfl rfl
        conv at e38 => rhs; whnf
        have f38 := e38; simp only [Array.getD_eq_getD_getElem?] at f38
        refine wpOp_plain rfl rfl (fun K hK => ?_)
        refine wp_store_zz (cells := #[.int .i64 x0, .int .i64 x1, .slice (some ⟨g, 0, none⟩) n c2]) 29 (.tmp 4) (.tmp 38) rfl hLe hz5 (fun o ho => ⟨_, ho, rfl⟩) e4 e38 (by kernel_rfl) rfl rfl rfl ?_
        intro w2 hh2 hT2 hg2
        exact hK _ _ ⟨undef, rfl, hT2, ⟨_, rfl, hh2⟩, fun _ => rfl⟩
      apply freeZ_nil
      intro vs w7 hb7 hT7 hN7
      have e38 : vs 0 = _ := hT7 0 38 rfl
      conv at e38 => rhs; whnf
      have e39 : vs 1 = _ := hT7 1 39 rfl
      conv at e39 => rhs; whnf
      have e40 : vs 2 = _ := hT7 2 40 rfl
      conv at e40 => rhs; whnf
      have e41 : vs 3 = _ := hT7 3 41 rfl
      conv at e41 => rhs; whnf
      have e42 : vs 4 = _ := hT7 4 42 rfl
      conv at e42 => rhs; whnf
      have e43 : vs 5 = _ := hT7 5 43 rfl
      conv at e43 => rhs; whnf
      have e44 : vs 6 = _ := hT7 6 44 rfl
      conv at e44 => rhs; whnf
      have e45 : vs 7 = _ := hT7 7 45 rfl
      conv at e45 => rhs; whnf
      have e46 : vs 8 = _ := hT7 8 46 rfl
      conv at e46 => rhs; whnf
      have e47 : vs 9 = _ := hT7 9 47 rfl
      conv at e47 => rhs; whnf
      have e48 : vs 10 = _ := hT7 10 48 rfl
      conv at e48 => rhs; whnf
      have e49 : vs 11 = _ := hT7 11 49 rfl
      conv at e49 => rhs; whnf
      have e50 : vs 12 = _ := hT7 12 50 rfl
      conv at e50 => rhs; whnf
      have e51 : vs 13 = _ := hT7 13 51 rfl
      conv at e51 => rhs; whnf
      obtain ⟨oz7, ho7, hz7⟩ := hN7 14 rfl
      simp only [putAll, List.drop_succ_cons, List.drop_zero, e38, e39, e40, e41, e42, e43, e44, e45, e46, e47, e48, e49, e50, e51]
      clear hT7 hN7 e38 e39 e40 e41 e42 e43 e44 e45 e46 e47 e48 e49 e50 e51
      go_simp
      subst ho7
      have hgg := hb7.grown
      have hy7 := heap_far hy5 hgg (by omega)
      have hA7 := hA5.kept hgg (.inr (by simp [Value.ownBlock]; omega))
      have hB7 := Below.of_grown hB5 hgg (by omega)
      clear kO5 fO5 kF5 fF5 kX5 fX5 hO5 hF5 hx5 hz5 hy5
      go_wp2_with (refine wpList_store_var rfl 39 (.tmp 5) (.tmp 51) rfl _ hy7 rfl rfl (by kernel_rfl) rfl rfl ?_; intro w9 hh9 hg9 hs9; have hh89 := heap_far hz7 hg9 (by omega); obtain ⟨k8, f8⟩ := blk hh89; obtain ⟨k9, f9⟩ := blk hh9)
      have hA9 := hA7.kept hg9 (.inr (by simp [Value.ownBlock]; omega))
      refine bodyPost_ret (v := .tuple #[.agg #[.int .i64 x0, .int .i64 x1, .slice (some ⟨g, 0, none⟩) n c2], .agg #[.int .i64 x0, .int .i64 (IntKind.i64.wrap (x1 + (k : Int))), .int .i64 y2, .int .i64 y3, .int .i64 y4], .bool true]) (by simp [results, Try.results41, go_sem, k8, k9]) rfl ⟨_, _, _, _, _, _, _, _, _, _, _, _, _, rfl, hA9, HV.out k, ⟨k, hkn, set_non HF.out⟩, Below.of_grown hB7 hg9 (by omega)⟩
  · have HV := Lib.hid (show ∀ _ : Nat, outB x0 x1 n (setC f0 k y0) (setC f1 k y1) (setC f2 k y2) (setC f3 k y3) (setC f4 k y4) = true from fun _ => by
      obtain ⟨h0, h1, h2, h3, h4⟩ := isF_iff.1 hyes
      rw [setC_same h0, setC_same h1, setC_same h2, setC_same h3, setC_same h4]
      exact HO.out)
    rw [hp]
    clear hp hyes hno
    obtain ⟨g, cg, eg, hBg, hN, hcg⟩ := hA3.new_ (by omega)
    cases eg
    have hgx := hnx g rfl
    have hk2 : (k : Int) < (n : Int) := by omega
    have hk3 : ¬ (k : Int) < 0 := by omega
    have hB1s := hB2.size
    go_wp2_with (refine wpList_store_row rfl 39 (.tmp 37) (.tmp 36) rfl (.agg #[.int .i64 y0, .int .i64 y1, .int .i64 y2, .int .i64 y3, .int .i64 y4]) hN hkn (fun _ => rfl) rfl rfl (row := [.int .i64 y0, .int .i64 y1, .int .i64 y2, .int .i64 y3, .int .i64 y4]) rfl rfl (by kernel_rfl) (by intro u hu; simp at hu; rcases hu with rfl | rfl | rfl | rfl | rfl <;> rfl) ?_; intro w5 hN5 hg5 hs5; rw [setC_row] at hN5; have hO5 := heap_far hO3 hg5 (by omega); have hF5 := heap_far hF3 hg5 (by omega); have hx5 := heap_far hx3 hg5 (by omega); have hz5 := heap_far hz3 hg5 (by omega); have hy5 := heap_far hy3 hg5 (by omega); obtain ⟨kO5, fO5⟩ := blk hO5; obtain ⟨kF5, fF5⟩ := blk hF5; obtain ⟨kX5, fX5⟩ := blk hx5; have lO5 := heap_lt hO5; have lF5 := heap_lt hF5; have lX5 := heap_lt hx5; clear kO3 fO3 kF3 fF3 kX3 fX3 lO3 lF3 lx3)
    have hA5 := Acc.of_new hN5 (show w.heap.size ≤ g by omega) hcg (fun _ => rfl)
    have hB5 := Below.of_grown hB3 hg5 (by omega)
    refine wp_region_freeZ (z := w.heap.size + 1 + 1) (O := (· = .cells #[.int .i64 x0, .int .i64 x1, .slice (some ⟨g, 0, none⟩) n c2] 29 (0, 0))) (ds := [(0, 38), (1, 39), (2, 40), (3, 41), (4, 42), (5, 43), (6, 44), (7, 45), (8, 46), (9, 47), (10, 48), (11, 49), (12, 50), (13, 51)]) 15 (by kernel_rfl) (by kernel_rfl) (by first | exact .inl rfl | exact .inr (by kernel_rfl)) (by rfl) rfl rfl ?_
    apply freeZ_is
    · intro a' w' hLe hfr hdep
      have e7 := hfr 7 rfl
      conv at e7 => rhs; whnf
      have f7 := e7; simp only [Array.getD_eq_getD_getElem?] at f7
      have kc := fun i => hLe.keepc (w.heap.size) (by (try simp) <;> omega) (by omega) i
      have kf := fun i => hLe.keepf (w.heap.size) (by (try simp) <;> omega) (by omega) i
      have kz : w.heap.size < w'.heap.size := (by have := hLe.size; (try simp at this); omega)
      have kc := fun i => hLe.keepc (w.heap.size + 1) (by (try simp) <;> omega) (by omega) i
      have kf := fun i => hLe.keepf (w.heap.size + 1) (by (try simp) <;> omega) (by omega) i
      have kz : w.heap.size + 1 < w'.heap.size := (by have := hLe.size; (try simp at this); omega)
      have kc := fun i => hLe.keepc (w2.heap.size) (by (try simp) <;> omega) (by omega) i
      have kf := fun i => hLe.keepf (w2.heap.size) (by (try simp) <;> omega) (by omega) i
      have kz : w2.heap.size < w'.heap.size := (by have := hLe.size; (try simp at this); omega)
      refine wpOp_plain rfl rfl (fun K hK => ?_)
      go_simp
      exact hK _ _ ⟨_, rfl, TurnZ.refl _, rfl, nofun⟩
    apply freeZ_is
    · intro a' w' hLe hfr hdep
      have e2 := hfr 2 rfl
      conv at e2 => rhs; whnf
      have f2 := e2; simp only [Array.getD_eq_getD_getElem?] at f2
      refine wpOp_plain rfl rfl (fun K hK => ?_)
      go_simp
      exact hK _ _ ⟨_, rfl, TurnZ.refl _, rfl, nofun⟩
    apply freeZ_is
    · intro a' w' hLe hfr hdep
      have e39 : a'.tmps.getD 39 undef = _ := hdep 1 39 (Nat.le_of_ble_eq_true rfl) rfl rfl
      conv at e39 => rhs; whnf
      have f39 := e39; simp only [Array.getD_eq_getD_getElem?] at f39
      have kc := fun i => hLe.keepc (w.heap.size) (by (try simp) <;> omega) (by omega) i
      have kf := fun i => hLe.keepf (w.heap.size) (by (try simp) <;> omega) (by omega) i
      have kz : w.heap.size < w'.heap.size := (by have := hLe.size; (try simp at this); omega)
      have kc := fun i => hLe.keepc (w.heap.size + 1) (by (try simp) <;> omega) (by omega) i
      have kf := fun i => hLe.keepf (w.heap.size + 1) (by (try simp) <;> omega) (by omega) i
      have kz : w.heap.size + 1 < w'.heap.size := (by have := hLe.size; (try simp at this); omega)
      have kc := fun i => hLe.keepc (w2.heap.size) (by (try simp) <;> omega) (by omega) i
      have kf := fun i => hLe.keepf (w2.heap.size) (by (try simp) <;> omega) (by omega) i
      have kz : w2.heap.size < w'.heap.size := (by have := hLe.size; (try simp at this); omega)
      refine wpOp_plain rfl rfl (fun K hK => ?_)
      go_simp
      exact hK _ _ ⟨_, rfl, TurnZ.refl _, rfl, nofun⟩
    apply freeZ_is
    · intro a' w' hLe hfr hdep
      have e2 := hfr 2 rfl
      conv at e2 => rhs; whnf
      have f2 := e2; simp only [Array.getD_eq_getD_getElem?] at f2
      refine wpOp_plain rfl rfl (fun K hK => ?_)
      go_simp
      exact hK _ _ ⟨_, rfl, TurnZ.refl _, rfl, nofun⟩
    apply freeZ_is
    · intro a' w' hLe hfr hdep
      have e41 : a'.tmps.getD 41 undef = _ := hdep 3 41 (Nat.le_of_ble_eq_true rfl) rfl rfl
      conv at e41 => rhs; whnf
      have f41 := e41; simp only [Array.getD_eq_getD_getElem?] at f41
      have kc := fun i => hLe.keepc (w.heap.size) (by (try simp) <;> omega) (by omega) i
      have kf := fun i => hLe.keepf (w.heap.size) (by (try simp) <;> omega) (by omega) i
      have kz : w.heap.size < w'.heap.size := (by have := hLe.size; (try simp at this); omega)
      have kc := fun i => hLe.keepc (w.heap.size + 1) (by (try simp) <;> omega) (by omega) i
      have kf := fun i => hLe.keepf (w.heap.size + 1) (by (try simp) <;> omega) (by omega) i
      have kz : w.heap.size + 1 < w'.heap.size := (by have := hLe.size; (try simp at this); omega)
      have kc := fun i => hLe.keepc (w2.heap.size) (by (try simp) <;> omega) (by omega) i
      have kf := fun i => hLe.keepf (w2.heap.size) (by (try simp) <;> omega) (by omega) i
      have kz : w2.heap.size < w'.heap.size := (by have := hLe.size; (try simp at this); omega)
      refine wpOp_plain rfl rfl (fun K hK => ?_)
      go_simp
      exact hK _ _ ⟨_, rfl, TurnZ.refl _, rfl, nofun⟩
    apply freeZ_is
    · intro a' w' hLe hfr hdep
      have e8 := hfr 8 rfl
      conv at e8 => rhs; whnf
      have f8 := e8; simp only [Array.getD_eq_getD_getElem?] at f8
      refine wpOp_plain rfl rfl (fun K hK => ?_)
      go_simp
      exact hK _ _ ⟨_, rfl, TurnZ.refl _, rfl, nofun⟩
    apply freeZ_is
    · intro a' w' hLe hfr hdep
      have e42 : a'.tmps.getD 42 undef = _ := hdep 4 42 (Nat.le_of_ble_eq_true rfl) rfl rfl
      conv at e42 => rhs; whnf
      have f42 := e42; simp only [Array.getD_eq_getD_getElem?] at f42
      have e43 : a'.tmps.getD 43 undef = _ := hdep 5 43 (Nat.le_of_ble_eq_true rfl) rfl rfl
      conv at e43 => rhs; whnf
      have f43 := e43; simp only [Array.getD_eq_getD_getElem?] at f43
      refine wpOp_plain rfl rfl (fun K hK => ?_)
      go_simp
      exact hK _ _ ⟨_, rfl, TurnZ.refl _, rfl, nofun⟩
    apply freeZ_is
    · intro a' w' hLe hfr hdep
      have e3 := hfr 3 rfl
      conv at e3 => rhs; whnf
      have f3 := e3; simp only [Array.getD_eq_getD_getElem?] at f3
      refine wpOp_plain rfl rfl (fun K hK => ?_)
      go_simp
      exact hK _ _ ⟨_, rfl, TurnZ.refl _, rfl, nofun⟩
    apply freeZ_is
    · intro a' w' hLe hfr hdep
      have e45 : a'.tmps.getD 45 undef = _ := hdep 7 45 (Nat.le_of_ble_eq_true rfl) rfl rfl
      conv at e45 => rhs; whnf
      have f45 := e45; simp only [Array.getD_eq_getD_getElem?] at f45
      have kc := fun i => hLe.keepc (w.heap.size) (by (try simp) <;> omega) (by omega) i
      have kf := fun i => hLe.keepf (w.heap.size) (by (try simp) <;> omega) (by omega) i
      have kz : w.heap.size < w'.heap.size := (by have := hLe.size; (try simp at this); omega)
      have kc := fun i => hLe.keepc (w.heap.size + 1) (by (try simp) <;> omega) (by omega) i
      have kf := fun i => hLe.keepf (w.heap.size + 1) (by (try simp) <;> omega) (by omega) i
      have kz : w.heap.size + 1 < w'.heap.size := (by have := hLe.size; (try simp at this); omega)
      have kc := fun i => hLe.keepc (w2.heap.size) (by (try simp) <;> omega) (by omega) i
      have kf := fun i => hLe.keepf (w2.heap.size) (by (try simp) <;> omega) (by omega) i
      have kz : w2.heap.size < w'.heap.size := (by have := hLe.size; (try simp at this); omega)
      refine wpOp_plain rfl rfl (fun K hK => ?_)
      go_simp
      exact hK _ _ ⟨_, rfl, TurnZ.refl _, rfl, nofun⟩
    apply freeZ_is
    · intro a' w' hLe hfr hdep
      have e3 := hfr 3 rfl
      conv at e3 => rhs; whnf
      have f3 := e3; simp only [Array.getD_eq_getD_getElem?] at f3
      refine wpOp_plain rfl rfl (fun K hK => ?_)
      go_simp
      exact hK _ _ ⟨_, rfl, TurnZ.refl _, rfl, nofun⟩
    apply freeZ_is
    · intro a' w' hLe hfr hdep
      have e47 : a'.tmps.getD 47 undef = _ := hdep 9 47 (Nat.le_of_ble_eq_true rfl) rfl rfl
      conv at e47 => rhs; whnf
      have f47 := e47; simp only [Array.getD_eq_getD_getElem?] at f47
      have kc := fun i => hLe.keepc (w.heap.size) (by (try simp) <;> omega) (by omega) i
      have kf := fun i => hLe.keepf (w.heap.size) (by (try simp) <;> omega) (by omega) i
      have kz : w.heap.size < w'.heap.size := (by have := hLe.size; (try simp at this); omega)
      have kc := fun i => hLe.keepc (w.heap.size + 1) (by (try simp) <;> omega) (by omega) i
      have kf := fun i => hLe.keepf (w.heap.size + 1) (by (try simp) <;> omega) (by omega) i
      have kz : w.heap.size + 1 < w'.heap.size := (by have := hLe.size; (try simp at this); omega)
      have kc := fun i => hLe.keepc (w2.heap.size) (by (try simp) <;> omega) (by omega) i
      have kf := fun i => hLe.keepf (w2.heap.size) (by (try simp) <;> omega) (by omega) i
      have kz : w2.heap.size < w'.heap.size := (by have := hLe.size; (try simp at this); omega)
      refine wpOp_plain rfl rfl (fun K hK => ?_)
      go_simp
      exact hK _ _ ⟨_, rfl, TurnZ.refl _, rfl, nofun⟩
    apply freeZ_is
    · intro a' w' hLe hfr hdep
      have e3 := hfr 3 rfl
      conv at e3 => rhs; whnf
      have f3 := e3; simp only [Array.getD_eq_getD_getElem?] at f3
      refine wpOp_plain rfl rfl (fun K hK => ?_)
      go_simp
      exact hK _ _ ⟨_, rfl, TurnZ.refl _, rfl, nofun⟩
    apply freeZ_is
    · intro a' w' hLe hfr hdep
      have e49 : a'.tmps.getD 49 undef = _ := hdep 11 49 (Nat.le_of_ble_eq_true rfl) rfl rfl
      conv at e49 => rhs; whnf
      have f49 := e49; simp only [Array.getD_eq_getD_getElem?] at f49
      have kc := fun i => hLe.keepc (w.heap.size) (by (try simp) <;> omega) (by omega) i
      have kf := fun i => hLe.keepf (w.heap.size) (by (try simp) <;> omega) (by omega) i
      have kz : w.heap.size < w'.heap.size := (by have := hLe.size; (try simp at this); omega)
      have kc := fun i => hLe.keepc (w.heap.size + 1) (by (try simp) <;> omega) (by omega) i
      have kf := fun i => hLe.keepf (w.heap.size + 1) (by (try simp) <;> omega) (by omega) i
      have kz : w.heap.size + 1 < w'.heap.size := (by have := hLe.size; (try simp at this); omega)
      have kc := fun i => hLe.keepc (w2.heap.size) (by (try simp) <;> omega) (by omega) i
      have kf := fun i => hLe.keepf (w2.heap.size) (by (try simp) <;> omega) (by omega) i
      have kz : w2.heap.size < w'.heap.size := (by have := hLe.size; (try simp at this); omega)
      refine wpOp_plain rfl rfl (fun K hK => ?_)
      go_simp
      exact hK _ _ ⟨_, rfl, TurnZ.refl _, rfl, nofun⟩
    apply freeZ_is
    · intro a' w' hLe hfr hdep
      have e40 : a'.tmps.getD 40 undef = _ := hdep 2 40 (Nat.le_of_ble_eq_true rfl) rfl rfl
      conv at e40 => rhs; whnf
      have f40 := e40; simp only [Array.getD_eq_getD_getElem?] at f40
      have e44 : a'.tmps.getD 44 undef = _ := hdep 6 44 (Nat.le_of_ble_eq_true rfl) rfl rfl
      conv at e44 => rhs; whnf
      have f44 := e44; simp only [Array.getD_eq_getD_getElem?] at f44
      have e46 : a'.tmps.getD 46 undef = _ := hdep 8 46 (Nat.le_of_ble_eq_true rfl) rfl rfl
      conv at e46 => rhs; whnf
      have f46 := e46; simp only [Array.getD_eq_getD_getElem?] at f46
      have e48 : a'.tmps.getD 48 undef = _ := hdep 10 48 (Nat.le_of_ble_eq_true rfl) rfl rfl
      conv at e48 => rhs; whnf
      have f48 := e48; simp only [Array.getD_eq_getD_getElem?] at f48
      have e50 : a'.tmps.getD 50 undef = _ := hdep 12 50 (Nat.le_of_ble_eq_true rfl) rfl rfl
      conv at e50 => rhs; whnf
      have f50 := e50; simp only [Array.getD_eq_getD_getElem?] at f50
      refine wpOp_plain rfl rfl (fun K hK => ?_)
      go_simp
      exact hK _ _ ⟨_, rfl, TurnZ.refl _, rfl, nofun⟩
    refine freeZ_cons (kzSet (w.heap.size + 1 + 1) ((· = .cells #[.int .i64 x0, .int .i64 x1, .slice (some ⟨g, 0, none⟩) n c2] 29 (0, 0)))) ?_ ?_
    · intro a' w' hLe hfr hdep
      have e4 := hfr 4 rfl
      conv at e4 => rhs; whnf
      have f4 := e4; simp only [Array.getD_eq_getD_getElem?] at f4
      have e38 : a'.tmps.getD 38 undef = _ := hdep 0 38 (Nat.le_of_ble_eq_true rfl) rfl rfl
      conv at e38 => rhs; whnf
      have f38 := e38; simp only [Array.getD_eq_getD_getElem?] at f38
      refine wpOp_plain rfl rfl (fun K hK => ?_)
      refine wp_store_zz (cells := #[.int .i64 x0, .int .i64 x1, .slice (some ⟨g, 0, none⟩) n c2]) 29 (.tmp 4) (.tmp 38) rfl hLe hz5 (fun o ho => ⟨_, ho, rfl⟩) e4 e38 (by kernel_rfl) rfl rfl rfl ?_
      intro w2 hh2 hT2 hg2
      exact hK _ _ ⟨undef, rfl, hT2, ⟨_, rfl, hh2⟩, fun _ => rfl⟩
    apply freeZ_nil
    intro vs w7 hb7 hT7 hN7
    have e38 : vs 0 = _ := hT7 0 38 rfl
    conv at e38 => rhs; whnf
    have e39 : vs 1 = _ := hT7 1 39 rfl
    conv at e39 => rhs; whnf
    have e40 : vs 2 = _ := hT7 2 40 rfl
    conv at e40 => rhs; whnf
    have e41 : vs 3 = _ := hT7 3 41 rfl
    conv at e41 => rhs; whnf
    have e42 : vs 4 = _ := hT7 4 42 rfl
    conv at e42 => rhs; whnf
    have e43 : vs 5 = _ := hT7 5 43 rfl
    conv at e43 => rhs; whnf
    have e44 : vs 6 = _ := hT7 6 44 rfl
    conv at e44 => rhs; whnf
    have e45 : vs 7 = _ := hT7 7 45 rfl
    conv at e45 => rhs; whnf
    have e46 : vs 8 = _ := hT7 8 46 rfl
    conv at e46 => rhs; whnf
    have e47 : vs 9 = _ := hT7 9 47 rfl
    conv at e47 => rhs; whnf
    have e48 : vs 10 = _ := hT7 10 48 rfl
    conv at e48 => rhs; whnf
    have e49 : vs 11 = _ := hT7 11 49 rfl
    conv at e49 => rhs; whnf
    have e50 : vs 12 = _ := hT7 12 50 rfl
    conv at e50 => rhs; whnf
    have e51 : vs 13 = _ := hT7 13 51 rfl
    conv at e51 => rhs; whnf
    obtain ⟨oz7, ho7, hz7⟩ := hN7 14 rfl
    simp only [putAll, List.drop_succ_cons, List.drop_zero, e38, e39, e40, e41, e42, e43, e44, e45, e46, e47, e48, e49, e50, e51]
    clear hT7 hN7 e38 e39 e40 e41 e42 e43 e44 e45 e46 e47 e48 e49 e50 e51
    go_simp
    subst ho7
    have hgg := hb7.grown
    have hy7 := heap_far hy5 hgg (by omega)
    have hA7 := hA5.kept hgg (.inr (by simp [Value.ownBlock]; omega))
    have hB7 := Below.of_grown hB5 hgg (by omega)
    clear kO5 fO5 kF5 fF5 kX5 fX5 hO5 hF5 hx5 hz5 hy5
    go_wp2_with (refine wpList_store_var rfl 39 (.tmp 5) (.tmp 51) rfl _ hy7 rfl rfl (by kernel_rfl) rfl rfl ?_; intro w9 hh9 hg9 hs9; have hh89 := heap_far hz7 hg9 (by omega); obtain ⟨k8, f8⟩ := blk hh89; obtain ⟨k9, f9⟩ := blk hh9)
    have hA9 := hA7.kept hg9 (.inr (by simp [Value.ownBlock]; omega))
    refine bodyPost_ret (v := .tuple #[.agg #[.int .i64 x0, .int .i64 x1, .slice (some ⟨g, 0, none⟩) n c2], .agg #[.int .i64 x0, .int .i64 (IntKind.i64.wrap (x1 + (k : Int))), .int .i64 y2, .int .i64 y3, .int .i64 y4], .bool true]) (by simp [results, Try.results41, go_sem, k8, k9]) rfl ⟨_, _, _, _, _, _, _, _, _, _, _, _, _, rfl, hA9, HV.out k, ⟨k, hkn, set_non HF.out⟩, Below.of_grown hB7 hg9 (by omega)⟩
end Go.Proofs.Ytahniedcflfdmaa
