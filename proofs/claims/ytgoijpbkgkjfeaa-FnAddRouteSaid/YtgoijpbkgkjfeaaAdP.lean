/-
  The law 'added routes are used': its plain part.
-/
import Derived.Test.YtgoijpbkgkjfeaaRoL
import Derived.Test.YtgoijpbkgkjfeaaRf
namespace Go.Proofs.Ytgoijpbkgkjfeaa
open Go Go.RowKit

/-- Has the address the route's prefix? -/
def hasR (r : Rte) (ad : Int) : Bool := hasB r.1 r.2.1 ad
/-- v is the host that the longest prefix of the address decides, or -1. -/
def Best (L : List Rte) (ad v : Int) : Prop :=
  (∃ e, e ∈ L ∧ hasR e ad = true ∧ e.2.2 = v ∧ ∀ e', e' ∈ L → hasR e' ad = true → e'.2.1 ≤ e.2.1) ∨ ((∀ e, e ∈ L → hasR e ad = false) ∧ v = -1)
theorem has_nonneg {b k a : Int} (h : hasB b k a = true) : 0 ≤ k := by
  simp only [hasB, pfxB, Bool.and_eq_true] at h
  have := inB_true.1 h.1.1.1.1
  omega
theorem has_same {b b' k a : Int} (h : hasB b k a = true) (h' : hasB b' k a = true) : b = b' := by
  simp only [hasB, pfxB, Bool.and_eq_true, beq_iff_eq] at h h'
  have h1 := inB_true.1 h.1.1.1.1
  have h2 := inB_true.1 h.2
  have h3 := inB_true.1 h'.2
  have h4 := h.1.1.2
  have h5 := h'.1.1.2
  rcases eight h1.1 h1.2 with rfl | rfl | rfl | rfl | rfl | rfl | rfl | rfl | rfl <;> simp only [pfxSize] at h2 h3 h4 h5 <;> simp at h2 h3 h4 h5 <;> omega
theorem rf_some {b k h : Nat → Int} {ad : Int} : ∀ n, (∃ i, i < n ∧ hasB (b i) (k i) ad = true ∧ k i = rfB b k ad n ∧ h i = rfH b k h ad n ∧ ∀ j, j < n → hasB (b j) (k j) ad = true → k j ≤ rfB b k ad n) ∨ ((∀ i, i < n → hasB (b i) (k i) ad = false) ∧ rfB b k ad n = -1 ∧ rfH b k h ad n = -1)
  | 0 => .inr ⟨fun i hi => absurd hi (by omega), rfl, rfl⟩
  | n + 1 => by
    cases hq : hasB (b n) (k n) ad with
    | false =>
      obtain ⟨e1, e2⟩ := rf_no (h := h) hq
      rw [e1, e2]
      rcases rf_some (b := b) (k := k) (h := h) (ad := ad) n with ⟨i, h1, h2, h3, h4, h5⟩ | ⟨h1, h2, h3⟩
      · refine .inl ⟨i, by omega, h2, h3, h4, fun j hj hh => ?_⟩
        rcases Nat.eq_or_lt_of_le (Nat.le_of_lt_succ hj) with e | hlt
        · rw [e, hq] at hh; cases hh
        · exact h5 j hlt hh
      · refine .inr ⟨fun i hi => ?_, h2, h3⟩
        rcases Nat.eq_or_lt_of_le (Nat.le_of_lt_succ hi) with e | hlt
        · rw [e]; exact hq
        · exact h1 i hlt
    | true =>
      have hnn := has_nonneg hq
      by_cases hl : rfB b k ad n < k n
      · obtain ⟨e1, e2⟩ := rf_lt (h := h) hq hl
        rw [e1, e2]
        refine .inl ⟨n, by omega, hq, rfl, rfl, fun j hj hh => ?_⟩
        rcases Nat.eq_or_lt_of_le (Nat.le_of_lt_succ hj) with e | hlt
        · rw [e]; exact Int.le_refl _
        · rcases rf_some (b := b) (k := k) (h := h) (ad := ad) n with ⟨i, h1, h2, h3, h4, h5⟩ | ⟨h1, h2, h3⟩
          · have := h5 j hlt hh; omega
          · have := h1 j hlt; rw [hh] at this; cases this
      · obtain ⟨e1, e2⟩ := rf_le (h := h) (show k n ≤ rfB b k ad n by omega)
        rw [e1, e2]
        rcases rf_some (b := b) (k := k) (h := h) (ad := ad) n with ⟨i, h1, h2, h3, h4, h5⟩ | ⟨h1, h2, h3⟩
        · refine .inl ⟨i, by omega, h2, h3, h4, fun j hj hh => ?_⟩
          rcases Nat.eq_or_lt_of_le (Nat.le_of_lt_succ hj) with e | hlt
          · rw [e]; omega
          · exact h5 j hlt hh
        · omega
theorem rf_best (n : Nat) (b k h : Nat → Int) (ad : Int) : Best (toL n b k h) ad (rfH b k h ad n) := by
  rcases rf_some (b := b) (k := k) (h := h) (ad := ad) n with ⟨i, h1, h2, h3, h4, h5⟩ | ⟨h1, h2, h3⟩
  · refine .inl ⟨(b i, k i, h i), toL_mem.2 ⟨i, h1, rfl⟩, h2, h4, fun e' he' hh => ?_⟩
    obtain ⟨j, hj, rfl⟩ := toL_mem.1 he'
    have := h5 j hj hh
    simp only
    omega
  · refine .inr ⟨fun e he => ?_, h3⟩
    obtain ⟨j, hj, rfl⟩ := toL_mem.1 he
    exact h1 j hj
theorem best_one {n : Nat} {b k h : Nat → Int} {ad v v' : Int} (hv : rtsB n b k h = true) (h1 : Best (toL n b k h) ad v) (h2 : Best (toL n b k h) ad v') : v = v' := by
  rcases h1 with ⟨e, e1, e2, e3, e4⟩ | ⟨e1, e2⟩ <;> rcases h2 with ⟨e', f1, f2, f3, f4⟩ | ⟨f1, f2⟩
  · obtain ⟨i, hi, rfl⟩ := toL_mem.1 e1
    obtain ⟨j, hj, rfl⟩ := toL_mem.1 f1
    have g1 := e4 _ f1 f2
    have g2 := f4 _ e1 e2
    simp only at g1 g2
    have hk : k i = k j := by omega
    simp only [hasR] at e2 f2
    rw [hk] at e2
    have hb := has_same e2 f2
    have hij : i = j := by
      rcases Nat.lt_trichotomy i j with h | h | h
      · have := rts_bef hv i j h hj
        rw [hb, hk, befB_self] at this
        cases this
      · exact h
      · have := rts_bef hv j i h hi
        rw [hb, hk, befB_self] at this
        cases this
    rw [← e3, ← f3, hij]
  · have := f1 e e1; rw [e2] at this; cases this
  · have := e1 e' f1; rw [f2] at this; cases this
  · rw [e2, f2]
theorem ins_mem {r e : Rte} : ∀ {L : List Rte}, e ∈ insR r L → e = r ∨ e ∈ L
  | [], h => .inl (by simpa [insR] using h)
  | x :: t, h => by
    simp only [insR] at h
    split at h
    · rcases List.mem_cons.1 h with h1 | h1
      · exact .inr (by rw [h1]; exact List.mem_cons_self)
      · exact (ins_mem h1).imp id (List.mem_cons_of_mem _)
    · split at h
      · exact (List.mem_cons.1 h).imp id (List.mem_cons_of_mem _)
      · exact (List.mem_cons.1 h).imp id id
theorem ins_self (r : Rte) : ∀ L : List Rte, r ∈ insR r L
  | [] => by simp [insR]
  | x :: t => by
    simp only [insR]
    split
    · exact List.mem_cons_of_mem _ (ins_self r t)
    · split <;> exact List.mem_cons_self
theorem ins_old {r e : Rte} (hne : sameR e r = false) : ∀ {L : List Rte}, e ∈ L → e ∈ insR r L
  | x :: t, h => by
    simp only [insR]
    split
    · rcases List.mem_cons.1 h with h1 | h1
      · rw [h1]; exact List.mem_cons_self
      · exact List.mem_cons_of_mem _ (ins_old hne h1)
    · split
      · rename_i hs
        rcases List.mem_cons.1 h with h1 | h1
        · rw [h1, hs] at hne; cases hne
        · exact List.mem_cons_of_mem _ h1
      · exact List.mem_cons_of_mem _ h
theorem best_new {L : List Rte} {r : Rte} {ad : Int} (hr : hasR r ad = true) (hno : ∀ e, e ∈ L → hasR e ad = true → e.2.1 ≤ r.2.1) : Best (insR r L) ad r.2.2 :=
  .inl ⟨r, ins_self r L, hr, rfl, fun e he hh => by
    rcases ins_mem he with rfl | h
    · exact Int.le_refl _
    · exact hno e h hh⟩
theorem same_has {e r : Rte} {ad : Int} (h : sameR e r = true) : hasR e ad = hasR r ad := by
  have := sameR_iff.1 h
  simp only [hasR, this.1, this.2]
theorem best_old {L : List Rte} {r : Rte} {ad v : Int} (hB : Best L ad v) (h : hasR r ad = false ∨ ∃ e, e ∈ L ∧ hasR e ad = true ∧ r.2.1 < e.2.1) : Best (insR r L) ad v := by
  rcases hB with ⟨e, e1, e2, e3, e4⟩ | ⟨e1, e2⟩
  · have hne : sameR e r = false := by
      cases hs : sameR e r
      · rfl
      · rcases h with h | ⟨x, h1, h2, h3⟩
        · rw [← same_has hs, e2] at h; cases h
        · have := e4 x h1 h2
          have := (sameR_iff.1 hs).2
          omega
    refine .inl ⟨e, ins_old hne e1, e2, e3, fun e' he' hh => ?_⟩
    rcases ins_mem he' with rfl | h1
    · rcases h with h | ⟨x, h1, h2, h3⟩
      · rw [hh] at h; cases h
      · have := e4 x h1 h2
        omega
    · exact e4 e' h1 hh
  · refine .inr ⟨fun e he => ?_, e2⟩
    rcases ins_mem he with rfl | h1
    · rcases h with h | ⟨x, h1, h2, h3⟩
      · exact h
      · have := e1 x h1
        rw [h2] at this
        cases this
    · exact e1 e h1
/-- Is there a longer prefix of the address among the first n? -/
def lonB (b k : Nat → Int) (y ad : Int) : Nat → Bool
  | 0 => false
  | i + 1 => lonB b k y ad i || (hasB (b i) (k i) ad && decide (y < k i))
theorem lon_yes {b k : Nat → Int} {y ad : Int} : ∀ {n}, lonB b k y ad n = true → ∃ i, i < n ∧ hasB (b i) (k i) ad = true ∧ y < k i
  | n + 1, h => by
    simp only [lonB, Bool.or_eq_true, Bool.and_eq_true, decide_eq_true_eq] at h
    rcases h with h | h
    · obtain ⟨i, h1, h2⟩ := lon_yes h
      exact ⟨i, by omega, h2⟩
    · exact ⟨n, by omega, h⟩
theorem lon_no {b k : Nat → Int} {y ad : Int} : ∀ {n}, lonB b k y ad n = false → ∀ i, i < n → hasB (b i) (k i) ad = true → k i ≤ y
  | 0, _, i, hi, _ => absurd hi (by omega)
  | n + 1, h, i, hi, hh => by
    simp only [lonB, Bool.or_eq_false_iff, Bool.and_eq_false_iff, decide_eq_false_iff_not] at h
    rcases Nat.eq_or_lt_of_le (Nat.le_of_lt_succ hi) with e | hlt
    · subst e
      rcases h.2 with h2 | h2
      · rw [hh] at h2; cases h2
      · omega
    · exact lon_no h.1 i hlt hh
section
variable {n N : Nat} {a b c y0 y1 y2 : Nat → Int} {x y z ad : Int}
theorem route_new (hv : rtsB N y0 y1 y2 = true) (hL : toL N y0 y1 y2 = insR (x, y, z) (toL n a b c)) (h1 : hasB x y ad = true) (h2 : lonB a b y ad n = false) : rtF N y0 y1 y2 ad = z := by
  rw [rtF, hv]
  simp only [if_true]
  refine best_one hv (rf_best N y0 y1 y2 ad) ?_
  rw [hL]
  refine best_new (r := (x, y, z)) h1 fun e he hh => ?_
  obtain ⟨i, hi, rfl⟩ := toL_mem.1 he
  exact lon_no h2 i hi hh
theorem route_old (hv0 : rtsB n a b c = true) (hv : rtsB N y0 y1 y2 = true) (hL : toL N y0 y1 y2 = insR (x, y, z) (toL n a b c)) (h : hasB x y ad = false ∨ lonB a b y ad n = true) : rtF N y0 y1 y2 ad = rtF n a b c ad := by
  rw [rtF, rtF, hv, hv0]
  simp only [if_true]
  refine best_one hv (rf_best N y0 y1 y2 ad) ?_
  rw [hL]
  refine best_old (rf_best n a b c ad) (h.imp id fun h => ?_)
  obtain ⟨i, hi, h1, h2⟩ := lon_yes h
  exact ⟨(a i, b i, c i), toL_mem.2 ⟨i, hi, rfl⟩, h1, h2⟩
theorem drop_filter : ∀ n, toL (kn a b x y n) (fun i => a (ki a b x y n i)) (fun i => b (ki a b x y n i)) (fun i => c (ki a b x y n i)) = (toL n a b c).filter (fun e => !sameR e (x, y, z))
  | 0 => rfl
  | n + 1 => by
    rw [toL_succ, List.filter_append, ← drop_filter n]
    cases h : hitB a b x y n
    · obtain ⟨e1, e2⟩ := kn_keep h
      rw [e1, toL_succ, e2]
      have hs : sameR (a n, b n, c n) (x, y, z) = false := by
        simp only [hitB, Bool.and_eq_false_iff, decide_eq_false_iff_not] at h
        exact sameR_no.2 (by simp only; intro ⟨h1, h2⟩; rcases h with h | h <;> contradiction)
      simp only [if_true, List.filter_cons, hs, Bool.not_false, List.filter_nil]
      congr 1
      exact toL_congr fun i hi => by
        have : ¬ i = kn a b x y n := by omega
        simp only [if_neg this]
        simp
    · obtain ⟨e1, e2⟩ := kn_hit h
      rw [e1, e2]
      have hs : sameR (a n, b n, c n) (x, y, z) = true := by
        simp only [hitB, Bool.and_eq_true, decide_eq_true_eq] at h
        exact sameR_iff.2 h
      simp [List.filter_cons, hs]
theorem ins_filter {r : Rte} : ∀ {L : List Rte}, (∀ e, e ∈ L → sameR e r = false) → (insR r L).filter (fun e => !sameR e r) = L
  | [], _ => by
    have : sameR r r = true := by simp [sameR]
    simp [insR, List.filter_cons, this]
  | h :: t, hh => by
    have h0 := hh h List.mem_cons_self
    have hr : sameR r r = true := by simp [sameR]
    have ht : t.filter (fun e => !sameR e r) = t := List.filter_eq_self.2 fun e he => by rw [hh e (List.mem_cons_of_mem _ he)]; rfl
    simp only [insR]
    split
    · rw [List.filter_cons, ins_filter fun e he => hh e (List.mem_cons_of_mem _ he)]
      simp [h0]
    · rw [h0]
      simp only [Bool.false_eq_true, if_false, List.filter_cons, hr, h0, ht]
      rfl
theorem drop_back (hv0 : rtsB n a b c = true) (hv : rtsB N y0 y1 y2 = true) (hL : toL N y0 y1 y2 = insR (x, y, z) (toL n a b c)) (h : ¬ drN n a b c x y < n) : drN N y0 y1 y2 x y = n ∧ ∀ i, i < n → drR N y0 y1 y2 x y i = routeR a b c i := by
  rw [drN_yes hv0] at h
  have hno : ∀ i, i < n → hitB a b x y i = false := fun i hi => by
    cases hh : hitB a b x y i
    · rfl
    · exact absurd (kn_lt hh hi) h
  have e := drop_filter (a := y0) (b := y1) (c := y2) (x := x) (y := y) (z := z) N
  rw [hL, ins_filter fun e he => by
    obtain ⟨i, hi, rfl⟩ := toL_mem.1 he
    have := hno i hi
    simp only [hitB, Bool.and_eq_false_iff, decide_eq_false_iff_not] at this
    exact sameR_no.2 (by simp only; intro ⟨h1, h2⟩; rcases this with h | h <;> contradiction)] at e
  obtain ⟨h4, h5⟩ := toL_inj e
  rw [drN_yes hv]
  refine ⟨h4, fun i hi => ?_⟩
  obtain ⟨g1, g2, g3⟩ := h5 i (by omega)
  unfold drR routeR
  rw [g1, g2, g3]
end
/-- What the law asks of AddRoute. -/
theorem add_law {n : Nat} {a b c : Nat → Int} {x y z : Int} (hn : n ≤ 1000000) : ∃ N ok, ∃ y0 y1 y2 : Nat → Int,
    (∀ (W : World) (B : Nat) (A : Option Addr) (k : Nat), Rws W B 3 A n k (routeR a b c) → B ≤ W.heap.size → Calls Try.prog 7 #[.slice A n k, .agg #[.int .i64 x, .int .i64 y, .int .i64 z]] W (GivesB W 27 3 N (routeR y0 y1 y2) ok)) ∧
    (∀ (W : World) (B : Nat) (A : Option Addr) (k : Nat), Rws W B 3 A n k (routeR a b c) → B ≤ W.heap.size → Calls Try.prog 8 #[.slice A n k, .agg #[.int .i64 x, .int .i64 y, .int .i64 z]] W (GivesB W 27 3 N (routeR y0 y1 y2) ok)) ∧
    (ok = false → N = 0 ∨ N = n ∧ ∀ i, i < n → routeR y0 y1 y2 i = routeR a b c i) ∧
    (ok = true → rtsB n a b c = true ∧ rtsB N y0 y1 y2 = true ∧ toL N y0 y1 y2 = insR (x, y, z) (toL n a b c)) ∧ N ≤ n + 1 := by
  refine ⟨_, _, _, _, _, fun _ _ _ _ h hB => implAddRoute_any x y z h hB (by omega), fun _ _ _ _ h hB => specAddRoute_any x y z h hB (by omega), fun h0 => ?_, fun h1 => ?_, arN_le⟩
  · cases hv : rtsB n a b c
    · exact .inl (ar_bad hv).1
    · refine .inr ?_
      have h2 : rtsB (aN n a b x y) (aC n a b x y a x) (aC n a b x y b y) (aC n a b x y c z) = false := by simpa [arOk, hv] using h0
      obtain ⟨e1, e2, e3⟩ := ar_no hv h2
      exact ⟨e1, fun i _ => by rw [e3]⟩
  · have h' := h1
    simp only [arOk, Bool.and_eq_true] at h'
    refine ⟨h'.1, ?_, ar_list h1⟩
    simp only [arN, arC, h1, h'.1, if_true]
    exact h'.2
end Go.Proofs.Ytgoijpbkgkjfeaa
