/-
  Queues: when they are valid, and the order in which packets are sent; the plain law.
-/
import Derived.Test.YtghmcedfiebolaaIntT
import Derived.Test.YtghmcedfiebolaaBase
namespace Go.Proofs.Ytghmcedfiebolaa
open Go.RowKit

def qOk (qn : Nat → Nat) (q : Nat → Nat → Int) (sh : Nat → Int) (i : Nat) : Bool := decide (qn i ≤ 8) && inB (sh i) 1 50 && (List.range (qn i)).all fun j => inB (q i j) 1 50
def qvB (n : Nat) (qn : Nat → Nat) (q : Nat → Nat → Int) (m : Nat) (sh : Nat → Int) : Bool := decide (1 ≤ n) && decide (n ≤ 4) && decide (m = n) && (List.range n).all (qOk qn q sh)
theorem qvB_true {n : Nat} {qn : Nat → Nat} {q : Nat → Nat → Int} {m : Nat} {sh : Nat → Int} : qvB n qn q m sh = true ↔
    1 ≤ n ∧ n ≤ 4 ∧ m = n ∧ ∀ i, i < n → qn i ≤ 8 ∧ 1 ≤ sh i ∧ sh i ≤ 50 ∧ ∀ j, j < qn i → 1 ≤ q i j ∧ q i j ≤ 50 := by
  simp only [qvB, qOk, Bool.and_eq_true, decide_eq_true_eq, List.all_eq_true, List.mem_range, inB_true]
  constructor
  · rintro ⟨⟨⟨h1, h2⟩, h3⟩, h4⟩
    exact ⟨h1, h2, h3, fun i hi => ⟨(h4 i hi).1.1, (h4 i hi).1.2.1, (h4 i hi).1.2.2, fun j hj => (h4 i hi).2 j hj⟩⟩
  · rintro ⟨h1, h2, h3, h4⟩
    exact ⟨⟨⟨h1, h2⟩, h3⟩, fun i hi => ⟨⟨(h4 i hi).1, (h4 i hi).2.1, (h4 i hi).2.2.1⟩, (h4 i hi).2.2.2⟩⟩
theorem qvB_congr {n m : Nat} {qn qn' : Nat → Nat} {q q' : Nat → Nat → Int} {sh sh' : Nat → Int} (h1 : ∀ i, i < n → qn i = qn' i) (h2 : ∀ i, i < n → ∀ j, j < qn i → q i j = q' i j) (h3 : ∀ i, i < n → sh i = sh' i) : qvB n qn q m sh = qvB n qn' q' m sh' := by
  rw [Bool.eq_iff_iff, qvB_true, qvB_true]
  constructor <;> rintro ⟨a, b, c, d⟩ <;> refine ⟨a, b, c, fun i hi => ?_⟩ <;> obtain ⟨e1, e2, e3, e4⟩ := d i hi
  · rw [← h1 i hi, ← h3 i hi]; exact ⟨e1, e2, e3, fun j hj => by rw [← h2 i hi j hj]; exact e4 j hj⟩
  · rw [h1 i hi, h3 i hi]; exact ⟨e1, e2, e3, fun j hj => by rw [h2 i hi j (by rw [h1 i hi]; exact hj)]; exact e4 j hj⟩

/-- The sum of the first p sizes. -/
def sumTo (f : Nat → Int) : Nat → Int
  | 0 => 0
  | p + 1 => sumTo f p + f p
theorem sumTo_mono {f : Nat → Int} {n : Nat} (hf : ∀ j, j < n → 0 ≤ f j) : ∀ {p p' : Nat}, p ≤ p' → p' ≤ n → sumTo f p ≤ sumTo f p'
  | p, 0, h, _ => by obtain rfl : p = 0 := by omega
                     exact Int.le_refl _
  | p, p' + 1, h, h2 => by
    rcases Nat.lt_or_ge p (p' + 1) with h1 | h1
    · have := sumTo_mono hf (p := p) (p' := p') (by omega) (by omega)
      have := hf p' (by omega)
      rw [sumTo]; omega
    · obtain rfl : p = p' + 1 := by omega
      exact Int.le_refl _
theorem sumTo_le {f : Nat → Int} {n : Nat} {b : Int} (hf : ∀ j, j < n → f j ≤ b) : ∀ {p : Nat}, p ≤ n → sumTo f p ≤ p * b
  | 0, _ => by simp [sumTo]
  | p + 1, h => by
    have h1 := sumTo_le hf (p := p) (by omega)
    have h2 := hf p (by omega)
    rw [sumTo, Int.natCast_add, Int.add_mul]; omega
theorem sumTo_nn {f : Nat → Int} {n : Nat} (hf : ∀ j, j < n → 0 ≤ f j) {p : Nat} (hp : p ≤ n) : 0 ≤ sumTo f p := sumTo_mono hf (p := 0) (Nat.zero_le _) hp
theorem sumTo_congr {f g : Nat → Int} : ∀ {p : Nat}, (∀ j, j < p → f j = g j) → sumTo f p = sumTo g p
  | 0, _ => rfl
  | p + 1, h => by rw [sumTo, sumTo, sumTo_congr fun j hj => h j (by omega), h p (by omega)]

abbrev Outs := List (Nat × Nat)
/-- What queue k (n sizes f) sends from place p on with h at hand. -/
def sendQ (k n : Nat) (f : Nat → Int) : Nat → Nat → Int → Outs → Nat × Int × Outs
  | 0, p, h, o => (p, h, o)
  | s + 1, p, h, o => if p < n ∧ f p ≤ h then sendQ k n f s (p + 1) (h - f p) (o ++ [(k, p)]) else (p, h, o)
def sendR (k n : Nat) (f : Nat → Int) (p : Nat) (h : Int) (o : Outs) : Nat × Int × Outs := sendQ k n f (n - p) p h o
theorem sendR_more {k n : Nat} {f : Nat → Int} {p : Nat} {h : Int} {o : Outs} (h1 : p < n) (h2 : f p ≤ h) : sendR k n f p h o = sendR k n f (p + 1) (h - f p) (o ++ [(k, p)]) := by
  have e : n - p = (n - (p + 1)) + 1 := by omega
  rw [sendR, e, sendQ, if_pos ⟨h1, h2⟩, sendR]
theorem sendR_stop {k n : Nat} {f : Nat → Int} {p : Nat} {h : Int} {o : Outs} (h1 : ¬ (p < n ∧ f p ≤ h)) : sendR k n f p h o = (p, h, o) := by
  rw [sendR]
  cases hs : n - p with
  | zero => rfl
  | succ s => rw [sendQ, if_neg h1]
/-- What every packet sent keeps is kept. -/
theorem sendQ_ind {k n : Nat} {f : Nat → Int} (C : Nat → Int → Outs → Prop) (hC : ∀ p h o, p < n → f p ≤ h → C p h o → C (p + 1) (h - f p) (o ++ [(k, p)])) :
    ∀ (s p : Nat) (h : Int) (o : Outs), n - p ≤ s → C p h o → C (sendQ k n f s p h o).1 (sendQ k n f s p h o).2.1 (sendQ k n f s p h o).2.2 ∧ ¬ ((sendQ k n f s p h o).1 < n ∧ f (sendQ k n f s p h o).1 ≤ (sendQ k n f s p h o).2.1)
  | 0, p, h, o, hs, hc => ⟨hc, by rintro ⟨h1, _⟩; simp only [sendQ] at h1; omega⟩
  | s + 1, p, h, o, hs, hc => by
    rw [sendQ]
    split
    · rename_i hh
      exact sendQ_ind C hC s (p + 1) (h - f p) _ (by omega) (hC p h o hh.1 hh.2 hc)
    · rename_i hh
      exact ⟨hc, hh⟩
theorem sendR_ind {k n : Nat} {f : Nat → Int} (C : Nat → Int → Outs → Prop) (hC : ∀ p h o, p < n → f p ≤ h → C p h o → C (p + 1) (h - f p) (o ++ [(k, p)])) {p : Nat} {h : Int} {o : Outs} (hc : C p h o) :
    C (sendR k n f p h o).1 (sendR k n f p h o).2.1 (sendR k n f p h o).2.2 ∧ ¬ ((sendR k n f p h o).1 < n ∧ f (sendR k n f p h o).1 ≤ (sendR k n f p h o).2.1) :=
  sendQ_ind C hC _ p h o (Nat.le_refl _) hc

def upd {α : Type} (f : Nat → α) (k : Nat) (v : α) : Nat → α := fun i => if i = k then v else f i
theorem upd_same {α : Type} (f : Nat → α) (k : Nat) (v : α) : upd f k v k = v := by simp [upd]
theorem upd_other {α : Type} (f : Nat → α) {k i : Nat} (v : α) (h : i ≠ k) : upd f k v i = f i := by simp [upd, h]
theorem upd_self {α : Type} (f : Nat → α) (k : Nat) : upd f k (f k) = f := by
  funext i; unfold upd; split
  · rename_i h; rw [h]
  · rfl
structure QS where
  pl : Nat → Nat
  hv : Nat → Int
  out : Outs
section
variable (n : Nat) (qn : Nat → Nat) (q : Nat → Nat → Int) (sh : Nat → Int)
def qStep (s : QS) (k : Nat) : QS :=
  if s.pl k = qn k then s else
    ⟨upd s.pl k (sendR k (qn k) (q k) (s.pl k) (s.hv k + sh k) s.out).1, upd s.hv k (sendR k (qn k) (q k) (s.pl k) (s.hv k + sh k) s.out).2.1, (sendR k (qn k) (q k) (s.pl k) (s.hv k + sh k) s.out).2.2⟩
def qPart (s : QS) : Nat → QS
  | 0 => s
  | k + 1 => qStep qn q sh (qPart s k) k
def qRun : Nat → QS
  | 0 => ⟨fun _ => 0, fun _ => 0, []⟩
  | r + 1 => qPart qn q sh (qRun r) n
/-- The packets in the order in which they are sent. -/
def qOut : Outs := (qRun n qn q sh 400).out
end
/-- How many of them are of queue k. -/
def cnt (o : Outs) (k : Nat) : Nat := (o.filter fun x => x.1 == k).length
theorem cnt_nil (k : Nat) : cnt [] k = 0 := rfl
theorem cnt_snoc_same (o : Outs) (k p : Nat) : cnt (o ++ [(k, p)]) k = cnt o k + 1 := by simp [cnt, List.filter_append]
theorem cnt_snoc_other (o : Outs) {k k' : Nat} (p : Nat) (h : k' ≠ k) : cnt (o ++ [(k', p)]) k = cnt o k := by
  have : (k' == k) = false := by simpa using h
  simp [cnt, List.filter_append, this]
def plSum (pl : Nat → Nat) : Nat → Nat
  | 0 => 0
  | k + 1 => plSum pl k + pl k
theorem plSum_congr {f g : Nat → Nat} : ∀ {n : Nat}, (∀ i, i < n → f i = g i) → plSum f n = plSum g n
  | 0, _ => rfl
  | n + 1, h => by rw [plSum, plSum, plSum_congr fun i hi => h i (by omega), h n (by omega)]
theorem plSum_upd {f : Nat → Nat} {k v : Nat} : ∀ {n : Nat}, k < n → plSum (upd f k v) n + f k = plSum f n + v
  | 0, h => absurd h (by omega)
  | n + 1, h => by
    rw [plSum, plSum]
    rcases Nat.lt_or_ge k n with h1 | h1
    · have := plSum_upd (f := f) (v := v) h1
      rw [upd_other f v (show n ≠ k by omega)]; omega
    · obtain rfl : k = n := by omega
      have : plSum (upd f k v) k = plSum f k := plSum_congr fun i hi => upd_other f v (by omega)
      rw [upd_same, this]; omega
theorem plSum_le {f g : Nat → Nat} : ∀ {n : Nat}, (∀ i, i < n → f i ≤ g i) → plSum f n ≤ plSum g n
  | 0, _ => Nat.le_refl _
  | n + 1, h => by
    have := plSum_le (n := n) fun i hi => h i (by omega)
    have := h n (by omega)
    rw [plSum, plSum]; omega
theorem plSum_all {f g : Nat → Nat} : ∀ {n : Nat}, (∀ i, i < n → f i ≤ g i) → plSum g n ≤ plSum f n → ∀ i, i < n → f i = g i
  | 0, _, _, i, hi => absurd hi (by omega)
  | n + 1, h, hs, i, hi => by
    have h1 := plSum_le (n := n) fun i hi => h i (by omega)
    have h2 := h n (by omega)
    rw [plSum, plSum] at hs
    rcases Nat.lt_or_ge i n with hi' | hi'
    · exact plSum_all (n := n) (fun i hi => h i (by omega)) (by omega) i hi'
    · obtain rfl : i = n := by omega
      omega

section
variable {n : Nat} {qn : Nat → Nat} {q : Nat → Nat → Int} {sh : Nat → Int}
/-- The packets so far : each has the place behind those of its queue that came before it. -/
def okO (n : Nat) (o : Outs) : Prop := ∀ pre x post, o = pre ++ x :: post → x.1 < n ∧ x.2 = cnt pre x.1
theorem okO_nil : okO n [] := by intro pre x post h; simp at h
theorem okO_snoc {o : Outs} {k p : Nat} (h : okO n o) (hk : k < n) (hp : p = cnt o k) : okO n (o ++ [(k, p)]) := by
  intro pre x post he
  rcases List.eq_nil_or_concat post with rfl | ⟨post', y, rfl⟩
  · have := List.append_inj' he rfl
    obtain ⟨h1, h2⟩ := this
    simp at h2
    subst h1 h2
    exact ⟨hk, hp⟩
  · have he' : o ++ [(k, p)] = (pre ++ x :: post') ++ [y] := by rw [he]; simp
    have := (List.append_inj' he' rfl).1
    exact h pre x post' this

/-- What holds of queue k behind r rounds. -/
def qJ (qn : Nat → Nat) (q : Nat → Nat → Int) (sh : Nat → Int) (r : Nat) (s : QS) (k : Nat) : Prop :=
  s.pl k ≤ qn k ∧ 0 ≤ s.hv k ∧ s.hv k ≤ 100 ∧ (s.pl k < qn k → s.hv k < q k (s.pl k) ∧ sumTo (q k) (s.pl k) + s.hv k = r * sh k)
/-- What holds of all queues. -/
def qI (n : Nat) (s : QS) : Prop := okO n s.out ∧ (∀ k, k < n → s.pl k = cnt s.out k) ∧ s.out.length = plSum s.pl n

theorem qStep_facts (hv : qvB n qn q n sh = true) {s : QS} {k r : Nat} (hk : k < n) (hJ : qJ qn q sh r s k) (hI : qI n s) :
    qJ qn q sh (r + 1) (qStep qn q sh s k) k ∧ qI n (qStep qn q sh s k) ∧ (∀ i, i ≠ k → (qStep qn q sh s k).pl i = s.pl i ∧ (qStep qn q sh s k).hv i = s.hv i) := by
  obtain ⟨_, _, _, hv4⟩ := qvB_true.1 hv
  obtain ⟨v1, v2, v3, v4⟩ := hv4 k hk
  obtain ⟨j1, j2, j3, j4⟩ := hJ
  obtain ⟨i1, i2, i3⟩ := hI
  unfold qStep
  split
  · rename_i he
    exact ⟨⟨j1, j2, j3, fun h => by omega⟩, ⟨i1, i2, i3⟩, fun _ _ => ⟨rfl, rfl⟩⟩
  · rename_i hne
    have hlt : s.pl k < qn k := by omega
    obtain ⟨j5, j6⟩ := j4 hlt
    have hf := v4 (s.pl k) hlt
    obtain ⟨hc, hstop⟩ := sendR_ind (k := k) (n := qn k) (f := q k)
      (fun p h o => p ≤ qn k ∧ 0 ≤ h ∧ h ≤ 100 ∧ sumTo (q k) p + h = (r + 1 : Nat) * sh k ∧ okO n o ∧ p = cnt o k ∧ (∀ i, i ≠ k → cnt o i = cnt s.out i) ∧ o.length + s.pl k = s.out.length + p)
      (by
        rintro p h o h1 h2 ⟨c1, c2, c3, c4, c5, c6, c7, c8⟩
        have := v4 p h1
        refine ⟨by omega, by omega, by omega, by rw [sumTo]; omega, okO_snoc c5 hk c6, by rw [cnt_snoc_same, ← c6], fun i hi => ?_, by simp; omega⟩
        rw [cnt_snoc_other _ _ (Ne.symm hi)]; exact c7 i hi)
      (p := s.pl k) (h := s.hv k + sh k) (o := s.out)
      ⟨j1, by omega, by omega, by rw [Int.natCast_add, Int.add_mul]; omega, i1, i2 k hk, fun _ _ => rfl, rfl⟩
    generalize sendR k (qn k) (q k) (s.pl k) (s.hv k + sh k) s.out = T at *
    obtain ⟨c1, c2, c3, c4, c5, c6, c7, c8⟩ := hc
    refine ⟨⟨?_, ?_, ?_, ?_⟩, ⟨c5, fun i hi => ?_, ?_⟩, fun i hi => ⟨upd_other _ _ hi, upd_other _ _ hi⟩⟩
    · simp only [upd_same]; exact c1
    · simp only [upd_same]; exact c2
    · simp only [upd_same]; exact c3
    · simp only [upd_same]; intro h; exact ⟨by omega, c4⟩
    · by_cases hik : i = k
      · subst hik; simp only [upd_same]; exact c6
      · simp only [upd_other _ _ hik]; rw [c7 i hik]; exact i2 i hi
    · have := plSum_upd (f := s.pl) (v := T.1) hk
      simp only
      omega

theorem qPart_facts (hv : qvB n qn q n sh = true) {s : QS} {r : Nat} (hJ : ∀ k, k < n → qJ qn q sh r s k) (hI : qI n s) : ∀ k, k ≤ n →
    (∀ i, i < n → qJ qn q sh (if i < k then r + 1 else r) (qPart qn q sh s k) i) ∧ qI n (qPart qn q sh s k)
  | 0, _ => ⟨fun i hi => by simpa [qPart] using hJ i hi, hI⟩
  | k + 1, hk => by
    obtain ⟨h1, h2⟩ := qPart_facts hv hJ hI k (by omega)
    have h3 := h1 k (by omega)
    rw [if_neg (by omega)] at h3
    obtain ⟨h4, h5, h6⟩ := qStep_facts hv (show k < n by omega) h3 h2
    refine ⟨fun i hi => ?_, h5⟩
    rw [qPart]
    by_cases hik : i = k
    · subst hik; rw [if_pos (by omega)]; exact h4
    · have h7 := h1 i hi
      obtain ⟨e1, e2⟩ := h6 i hik
      have e3 : (if i < k + 1 then r + 1 else r) = if i < k then r + 1 else r := by
        by_cases hlt : i < k
        · rw [if_pos hlt, if_pos (by omega)]
        · rw [if_neg hlt, if_neg (by omega)]
      rw [e3]
      unfold qJ at h7 ⊢
      rw [e1, e2]; exact h7
theorem qRun_facts (hv : qvB n qn q n sh = true) : ∀ r, (∀ k, k < n → qJ qn q sh r (qRun n qn q sh r) k) ∧ qI n (qRun n qn q sh r)
  | 0 => by
    obtain ⟨_, _, _, hv4⟩ := qvB_true.1 hv
    refine ⟨fun k hk => ⟨Nat.zero_le _, Int.le_refl _, by simp [qRun], fun h => ?_⟩, okO_nil, fun k _ => rfl, ?_⟩
    · have := (hv4 k hk).2.2.2 0 h
      simp [qRun, sumTo]; omega
    · have : ∀ m, plSum (fun _ => 0) m = 0 := by
        intro m; induction m with
        | zero => rfl
        | succ m ih => rw [plSum, ih]
      simp [qRun, this]
  | r + 1 => by
    obtain ⟨h1, h2⟩ := qRun_facts hv r
    obtain ⟨h3, h4⟩ := qPart_facts hv h1 h2 n (Nat.le_refl _)
    exact ⟨fun k hk => by have := h3 k hk; rw [if_pos hk] at this; exact this, h4⟩
/-- Behind 400 rounds all is sent. -/
theorem qRun_done (hv : qvB n qn q n sh = true) {r : Nat} (hr : 400 ≤ r) {k : Nat} (hk : k < n) : (qRun n qn q sh r).pl k = qn k := by
  obtain ⟨_, _, _, hv4⟩ := qvB_true.1 hv
  obtain ⟨v1, v2, v3, v4⟩ := hv4 k hk
  obtain ⟨j1, j2, j3, j4⟩ := (qRun_facts hv r).1 k hk
  rcases Nat.lt_or_ge ((qRun n qn q sh r).pl k) (qn k) with h | h
  · obtain ⟨j5, j6⟩ := j4 h
    have h1 : sumTo (q k) ((qRun n qn q sh r).pl k + 1) ≤ ((qRun n qn q sh r).pl k + 1 : Nat) * 50 := sumTo_le (fun j hj => (v4 j hj).2) h
    rw [sumTo] at h1
    have h2 : (r : Int) * 1 ≤ r * sh k := Int.mul_le_mul_of_nonneg_left v2 (by omega)
    have h3 : (((qRun n qn q sh r).pl k + 1 : Nat) : Int) ≤ 8 := by omega
    omega
  · omega
theorem qPart_still {s : QS} (h : ∀ k, k < n → s.pl k = qn k) : ∀ k, k ≤ n → qPart qn q sh s k = s
  | 0, _ => rfl
  | k + 1, hk => by rw [qPart, qPart_still h k (by omega), qStep, if_pos (h k (by omega))]
theorem qRun_still {r : Nat} (h : ∀ k, k < n → (qRun n qn q sh r).pl k = qn k) : ∀ d, qRun n qn q sh (r + d) = qRun n qn q sh r
  | 0 => rfl
  | d + 1 => by rw [← Nat.add_assoc, qRun, qRun_still h d, qPart_still h n (Nat.le_refl _)]
theorem qLen_le (hv : qvB n qn q n sh = true) (r : Nat) : (qRun n qn q sh r).out.length ≤ plSum qn n := by
  obtain ⟨h1, _, _, h2⟩ := qRun_facts hv r
  rw [h2]; exact plSum_le fun i hi => (h1 i hi).1
/-- When as many are sent as there are, all is sent. -/
theorem qRun_end (hv : qvB n qn q n sh = true) {r : Nat} (h : plSum qn n ≤ (qRun n qn q sh r).out.length) : (qRun n qn q sh r).out = qOut n qn q sh := by
  obtain ⟨h1, _, _, h2⟩ := qRun_facts hv r
  have h3 := plSum_all (fun i hi => (h1 i hi).1) (by omega : plSum qn n ≤ plSum (qRun n qn q sh r).pl n)
  unfold qOut
  rcases Nat.le_total r 400 with hr | hr
  · have := qRun_still (qn := qn) (q := q) (sh := sh) h3 (400 - r)
    rw [show r + (400 - r) = 400 by omega] at this
    rw [this]
  · have := qRun_still (r := 400) (n := n) (qn := qn) (q := q) (sh := sh) (fun k hk => qRun_done hv (Nat.le_refl _) hk) (r - 400)
    rw [show 400 + (r - 400) = r by omega] at this
    rw [this]
theorem qOut_facts (hv : qvB n qn q n sh = true) : okO n (qOut n qn q sh) ∧ (∀ k, k < n → cnt (qOut n qn q sh) k = qn k) ∧ (qOut n qn q sh).length = plSum qn n := by
  obtain ⟨h1, h2, h3, h4⟩ := qRun_facts hv 400
  have hd := fun k hk => qRun_done hv (r := 400) (Nat.le_refl _) (k := k) hk
  refine ⟨h2, fun k hk => ?_, ?_⟩
  · rw [← hd k hk]; exact (h3 k hk).symm
  · unfold qOut
    rw [h4]; exact plSum_congr hd
theorem plSum_small (hv : qvB n qn q n sh = true) : plSum qn n ≤ 32 := by
  obtain ⟨_, hn, _, hv4⟩ := qvB_true.1 hv
  have : ∀ k, k ≤ n → plSum qn k ≤ k * 8 := by
    intro k
    induction k with
    | zero => intro _; simp [plSum]
    | succ k ih => intro hk; have := ih (by omega); have := (hv4 k (by omega)).1; rw [plSum]; omega
  have := this n (Nat.le_refl _)
  omega
/-- Packet j : its queue and place. -/
theorem okO_at {o : Outs} (h : okO n o) {j : Nat} (hj : j < o.length) : (o.getD j (0, 0)).1 < n ∧ (o.getD j (0, 0)).2 = cnt (o.take j) (o.getD j (0, 0)).1 := by
  have e : o.getD j (0, 0) = o[j] := by simp [List.getD_eq_getElem?_getD, hj]
  rw [e]
  refine h (o.take j) o[j] (o.drop (j + 1)) ?_
  rw [List.getElem_cons_drop hj, List.take_append_drop]
theorem take_snoc {o : Outs} {j : Nat} (hj : j < o.length) : o.take (j + 1) = o.take j ++ [((o.getD j (0, 0)).1, (o.getD j (0, 0)).2)] := by
  have e : o.getD j (0, 0) = o[j] := by simp [List.getD_eq_getElem?_getD, hj]
  rw [List.take_succ_eq_append_getElem hj, e]
theorem cnt_take_succ {o : Outs} {j k : Nat} (hj : j < o.length) : cnt (o.take (j + 1)) k = cnt (o.take j) k + if (o.getD j (0, 0)).1 = k then 1 else 0 := by
  rw [take_snoc hj]
  by_cases h : (o.getD j (0, 0)).1 = k
  · rw [if_pos h, h, cnt_snoc_same]
  · rw [if_neg h, cnt_snoc_other _ _ h, Nat.add_zero]
theorem cnt_take_mono {o : Outs} {k : Nat} : ∀ {i j : Nat}, i ≤ j → cnt (o.take i) k ≤ cnt (o.take j) k
  | i, 0, h => by obtain rfl : i = 0 := by omega
                  exact Nat.le_refl _
  | i, j + 1, h => by
    rcases Nat.lt_or_ge i (j + 1) with h1 | h1
    · have := cnt_take_mono (o := o) (k := k) (i := i) (j := j) (by omega)
      rcases Nat.lt_or_ge j o.length with h2 | h2
      · rw [cnt_take_succ h2]; split <;> omega
      · rw [List.take_of_length_le (by omega : o.length ≤ j + 1)]
        rw [List.take_of_length_le h2] at this; exact this
    · obtain rfl : i = j + 1 := by omega
      exact Nat.le_refl _
theorem cnt_take_le {o : Outs} {k : Nat} (i : Nat) : cnt (o.take i) k ≤ cnt o k := by
  have := cnt_take_mono (o := o) (k := k) (i := i) (j := i + o.length) (by omega)
  rw [List.take_of_length_le (by omega : o.length ≤ i + o.length)] at this
  exact this
end
end Go.Proofs.Ytghmcedfiebolaa
