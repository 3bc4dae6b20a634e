/-
  Routes with one more: where it goes, what the rows are then.
-/
import Derived.Test.YtgoijpbkgkjfeaaDrP
namespace Go.Proofs.Ytgoijpbkgkjfeaa
open Go Go.RowKit

/-! ### lists of routes -/
abbrev Rte := Int × Int × Int
def toL (n : Nat) (a b c : Nat → Int) : List Rte := (List.range n).map fun i => (a i, b i, c i)
def befR (r s : Rte) : Bool := befB r.1 r.2.1 s.1 s.2.1
def sameR (r s : Rte) : Bool := r.1 == s.1 && r.2.1 == s.2.1
theorem befR_iff {r s : Rte} : befR r s = true ↔ r.1 < s.1 ∨ r.1 = s.1 ∧ r.2.1 < s.2.1 := by simp [befR, befB]
theorem befR_no {r s : Rte} : befR r s = false ↔ ¬ (r.1 < s.1 ∨ r.1 = s.1 ∧ r.2.1 < s.2.1) := by rw [← befR_iff]; simp
theorem sameR_iff {r s : Rte} : sameR r s = true ↔ r.1 = s.1 ∧ r.2.1 = s.2.1 := by simp [sameR]
theorem sameR_no {r s : Rte} : sameR r s = false ↔ ¬ (r.1 = s.1 ∧ r.2.1 = s.2.1) := by rw [← sameR_iff]; simp
/-- The route r added. -/
def insR (r : Rte) : List Rte → List Rte
  | [] => [r]
  | h :: t => if befR h r then h :: insR r t else if sameR h r then r :: t else r :: h :: t
theorem insR_bef {r h : Rte} (t : List Rte) (e : befR h r = true) : insR r (h :: t) = h :: insR r t := by simp [insR, e]
theorem insR_same {r h : Rte} (t : List Rte) (e : sameR h r = true) : insR r (h :: t) = r :: t := by
  have : befR h r = false := befR_no.2 (by have := sameR_iff.1 e; omega)
  simp [insR, e, this]
theorem insR_aft {r h : Rte} (t : List Rte) (e : befR r h = true) : insR r (h :: t) = r :: h :: t := by
  have e1 := befR_iff.1 e
  have h1 : befR h r = false := befR_no.2 (by omega)
  have h2 : sameR h r = false := sameR_no.2 (by omega)
  simp [insR, h1, h2]
theorem tri (r s : Rte) : befR r s = true ∨ sameR r s = true ∨ befR s r = true := by
  rw [befR_iff, sameR_iff, befR_iff]; omega
theorem insR_comm {r s : Rte} (hne : sameR r s = false) : ∀ l, insR r (insR s l) = insR s (insR r l)
  | [] => by
    rcases tri s r with h | h | h
    · simp only [insR]
      have h0 := befR_iff.1 h
      have h1 : befR r s = false := befR_no.2 (by omega)
      simp [insR, h, h1, hne]
    · rw [sameR_iff] at h; rw [sameR_no] at hne; omega
    · have h0 := befR_iff.1 h
      have h1 : befR s r = false := befR_no.2 (by omega)
      have h2 : sameR s r = false := sameR_no.2 (by omega)
      simp [insR, h, h1, h2]
  | h :: t => by
    have hn := sameR_no.1 hne
    rcases tri h r with a | a | a <;> rcases tri h s with b | b | b
    · rw [insR_bef t b, insR_bef _ a, insR_bef t a, insR_bef _ b, insR_comm hne t]
    · rw [insR_same t b, insR_bef t a, insR_same _ b, insR_bef]
      rw [befR_iff] at *; rw [sameR_iff] at b; omega
    · rw [insR_aft t b, insR_bef t a, insR_aft _ b, insR_bef, insR_bef t a]
      rw [befR_iff] at *; omega
    · rw [insR_bef t b, insR_same _ a, insR_same t a, insR_bef]
      rw [befR_iff] at *; rw [sameR_iff] at a; omega
    · rw [sameR_iff] at a b; omega
    · have e : befR s r = true := by rw [befR_iff] at *; rw [sameR_iff] at a; omega
      rw [insR_aft t b, insR_same t a, insR_bef _ e, insR_same t a, insR_aft t e]
    · rw [insR_bef t b, insR_aft _ a, insR_aft t a, insR_bef, insR_bef t b]
      rw [befR_iff] at *; omega
    · have e : befR r s = true := by rw [befR_iff] at *; rw [sameR_iff] at b; omega
      rw [insR_same t b, insR_aft t a, insR_aft t e, insR_bef _ e, insR_same t b]
    · rcases tri r s with c | c | c
      · rw [insR_aft t b, insR_aft t a, insR_aft _ c, insR_bef _ c, insR_aft t b]
      · rw [sameR_iff] at c; omega
      · rw [insR_aft t b, insR_aft t a, insR_bef _ c, insR_aft t a, insR_aft _ c]
theorem insR_app {r : Rte} {l2 : List Rte} : ∀ {l1 : List Rte}, (∀ h ∈ l1, befR h r = true) → insR r (l1 ++ l2) = l1 ++ insR r l2
  | [], _ => rfl
  | h :: t, hh => by
    rw [List.cons_append, insR_bef _ (hh h List.mem_cons_self), insR_app fun x hx => hh x (List.mem_cons_of_mem _ hx)]
    rfl
/-! ### rows of columns -/
theorem toL_len (n : Nat) (a b c : Nat → Int) : (toL n a b c).length = n := by simp [toL]
theorem toL_add (p q : Nat) (a b c : Nat → Int) : toL (p + q) a b c = toL p a b c ++ toL q (fun i => a (p + i)) (fun i => b (p + i)) (fun i => c (p + i)) := by
  simp [toL, List.range_add, List.map_map, Function.comp_def]
theorem toL_succ (n : Nat) (a b c : Nat → Int) : toL (n + 1) a b c = toL n a b c ++ [(a n, b n, c n)] := by simp [toL, List.range_succ]
theorem toL_cons (n : Nat) (a b c : Nat → Int) : toL (n + 1) a b c = (a 0, b 0, c 0) :: toL n (fun i => a (1 + i)) (fun i => b (1 + i)) (fun i => c (1 + i)) := by
  rw [show n + 1 = 1 + n by omega, toL_add]
  rfl
theorem toL_congr {n : Nat} {a b c a' b' c' : Nat → Int} (h : ∀ i, i < n → a i = a' i ∧ b i = b' i ∧ c i = c' i) : toL n a b c = toL n a' b' c' := by
  unfold toL
  refine List.map_congr_left fun i hi => ?_
  have := h i (List.mem_range.1 hi)
  rw [this.1, this.2.1, this.2.2]
theorem toL_mem {n : Nat} {a b c : Nat → Int} {r : Rte} : r ∈ toL n a b c ↔ ∃ i, i < n ∧ r = (a i, b i, c i) := by
  simp only [toL, List.mem_map, List.mem_range]
  exact ⟨fun ⟨i, h, e⟩ => ⟨i, h, e.symm⟩, fun ⟨i, h, e⟩ => ⟨i, h, e.symm⟩⟩
theorem toL_inj {n n' : Nat} {a b c a' b' c' : Nat → Int} (h : toL n a b c = toL n' a' b' c') : n = n' ∧ ∀ i, i < n → a i = a' i ∧ b i = b' i ∧ c i = c' i := by
  have hl : n = n' := by have := congrArg List.length h; simpa [toL] using this
  subst hl
  refine ⟨rfl, fun i hi => ?_⟩
  have := congrArg (fun l => l[i]?) h
  simp only [toL, List.getElem?_map, List.getElem?_range hi, Option.map_some, Option.some.injEq, Prod.mk.injEq] at this
  exact this
/-- Where a route is added. -/
def apo (n : Nat) (a b : Nat → Int) (x y : Int) : Nat := findTo (fun i => !befB (a i) (b i) x y) n
theorem findTo_at {F : Nat → Bool} : ∀ n, findTo F n ≤ n ∧ (∀ i, i < findTo F n → F i = false) ∧ (findTo F n < n → F (findTo F n) = true)
  | 0 => ⟨Nat.le_refl _, fun i hi => absurd hi (by simp [findTo]), fun h => absurd h (by omega)⟩
  | n + 1 => by
    obtain ⟨h1, h2, h3⟩ := findTo_at (F := F) n
    unfold findTo
    by_cases h : findTo F n < n
    · rw [if_pos h]; exact ⟨by omega, h2, fun _ => h3 h⟩
    · rw [if_neg h]
      have e : findTo F n = n := by omega
      rw [e] at h2
      cases hF : F n
      · refine ⟨by simp, fun i hi => ?_, fun h => absurd h (by simp)⟩
        simp at hi
        rcases Nat.lt_or_ge i n with h4 | h4
        · exact h2 i h4
        · obtain rfl : i = n := by omega
          exact hF
      · simp only [if_true]
        exact ⟨by omega, h2, fun _ => hF⟩
section
variable {n : Nat} {a b c : Nat → Int} {x y z : Int}
theorem apo_le : apo n a b x y ≤ n := (findTo_at n).1
theorem apo_bef {i : Nat} (h : i < apo n a b x y) : befB (a i) (b i) x y = true := by simpa using (findTo_at n).2.1 i h
theorem apo_at (h : apo n a b x y < n) : befB (a (apo n a b x y)) (b (apo n a b x y)) x y = false := by
  have := (findTo_at n).2.2 h
  rwa [Bool.not_eq_true'] at this
/-- Is there a route with the prefix? -/
def afd (n : Nat) (a b : Nat → Int) (x y : Int) : Bool := decide (apo n a b x y < n) && hitB a b x y (apo n a b x y)
def aN (n : Nat) (a b : Nat → Int) (x y : Int) : Nat := if afd n a b x y then n else n + 1
/-- A column with v added. -/
def aC (n : Nat) (a b : Nat → Int) (x y : Int) (col : Nat → Int) (v : Int) (i : Nat) : Int :=
  if i < apo n a b x y then col i else if i = apo n a b x y then v else col (if afd n a b x y then i else i - 1)
theorem toL_ins : toL (aN n a b x y) (aC n a b x y a x) (aC n a b x y b y) (aC n a b x y c z) = insR (x, y, z) (toL n a b c) := by
  have hp : apo n a b x y ≤ n := apo_le
  obtain ⟨p, ep⟩ : ∃ p, p = apo n a b x y := ⟨_, rfl⟩
  have hbef : ∀ i, i < p → befB (a i) (b i) x y = true := fun i hi => apo_bef (by rw [← ep]; exact hi)
  have hat : p < n → befB (a p) (b p) x y = false := fun h => by rw [ep]; exact apo_at (by rw [← ep]; exact h)
  rw [← ep] at hp
  obtain ⟨q, rfl⟩ : ∃ q, n = p + q := ⟨n - p, by omega⟩
  have hl1 : ∀ h ∈ toL p a b c, befR h (x, y, z) = true := fun h hh => by
    obtain ⟨i, hi, rfl⟩ := toL_mem.1 hh
    exact hbef i hi
  rw [toL_add p q a b c, insR_app hl1]
  have hC : ∀ (col : Nat → Int) (v : Int), (∀ i, i < p → aC (p + q) a b x y col v i = col i) ∧ aC (p + q) a b x y col v p = v ∧ (∀ i, aC (p + q) a b x y col v (p + (1 + i)) = col (if afd (p + q) a b x y then p + (1 + i) else p + i)) := fun col v => by
    refine ⟨fun i hi => ?_, ?_, fun i => ?_⟩
    · unfold aC; rw [← ep, if_pos hi]
    · unfold aC; rw [← ep, if_neg (by omega), if_pos rfl]
    · unfold aC; rw [← ep, if_neg (by omega), if_neg (by omega)]
      cases afd (p + q) a b x y
      · simp only [Bool.false_eq_true, if_false]; congr 1; omega
      · simp only [if_true]
  have hrest : ∀ m, toL (p + (1 + m)) (aC (p + q) a b x y a x) (aC (p + q) a b x y b y) (aC (p + q) a b x y c z) =
      toL p a b c ++ ((x, y, z) :: toL m (fun i => a (if afd (p + q) a b x y then p + (1 + i) else p + i)) (fun i => b (if afd (p + q) a b x y then p + (1 + i) else p + i)) (fun i => c (if afd (p + q) a b x y then p + (1 + i) else p + i))) := fun m => by
    rw [toL_add, toL_add 1 m, toL_congr (n := p) fun i hi => ⟨(hC a x).1 i hi, (hC b y).1 i hi, (hC c z).1 i hi⟩]
    congr 1
    simp only [toL, List.map_nil, List.range_one, List.map_cons, Nat.add_zero, List.singleton_append]
    rw [(hC a x).2.1, (hC b y).2.1, (hC c z).2.1]
    congr 1
    refine List.map_congr_left fun i _ => ?_
    rw [(hC a x).2.2, (hC b y).2.2, (hC c z).2.2]
  cases hf : afd (p + q) a b x y with
  | true =>
    have hf' := hf
    simp only [afd, ← ep, Bool.and_eq_true, decide_eq_true_eq, hitB] at hf'
    obtain ⟨h1, h2, h3⟩ := hf'
    obtain ⟨m, rfl⟩ : ∃ m, q = 1 + m := ⟨q - 1, by omega⟩
    have := hrest m
    rw [hf] at this
    simp only [aN, hf, if_true]
    rw [this]
    congr 1
    rw [toL_add 1 m]
    simp only [toL, List.range_one, List.map_cons, List.map_nil, Nat.add_zero, List.singleton_append]
    rw [insR_same _ (sameR_iff.2 ⟨h2, h3⟩)]
    rfl
  | false =>
    have := hrest q
    rw [hf] at this
    simp only [aN, hf, Bool.false_eq_true, if_false]
    rw [show p + q + 1 = p + (1 + q) by omega, this]
    congr 1
    cases q with
    | zero => rfl
    | succ m =>
      rw [toL_cons m (fun i => a (p + i)) (fun i => b (p + i)) (fun i => c (p + i))]
      simp only [Nat.add_zero, Bool.false_eq_true, if_false]
      have hlt : p < p + (m + 1) := by omega
      have h4 : hitB a b x y p = false := by
        simp only [afd, ← ep, Bool.and_eq_false_iff, decide_eq_false_iff_not] at hf
        rcases hf with h | h
        · exact absurd hlt h
        · exact h
      have h5 := hat hlt
      simp only [insR]
      have h6 : befR (a p, b p, c p) (x, y, z) = false := h5
      have h7 : sameR (a p, b p, c p) (x, y, z) = false := sameR_no.2 (by simp only [hitB, Bool.and_eq_false_iff, decide_eq_false_iff_not] at h4; simp only; omega)
      simp only [h6, h7, Bool.false_eq_true, if_false]
      exact congrArg _ (toL_cons m (fun i => a (p + i)) (fun i => b (p + i)) (fun i => c (p + i)))
end

section
variable {n : Nat} {a b c : Nat → Int} {x y z : Int}
/-- The rows with the route added. -/
def adR (n : Nat) (a b c : Nat → Int) (x y z : Int) : Nat → List Value := routeR (aC n a b x y a x) (aC n a b x y b y) (aC n a b x y c z)
theorem adR_lo {i : Nat} (h : i < apo n a b x y) : adR n a b c x y z i = routeR a b c i := by
  unfold adR routeR aC
  simp only [if_pos h]
theorem adR_at {i : Nat} (h : i = apo n a b x y) : adR n a b c x y z i = [.int .i64 x, .int .i64 y, .int .i64 z] := by
  unfold adR routeR aC
  simp only [if_neg (show ¬ i < apo n a b x y by omega), if_pos h]
theorem adR_hi {i : Nat} (h : apo n a b x y < i) : adR n a b c x y z i = routeR a b c (if afd n a b x y then i else i - 1) := by
  unfold adR routeR aC
  simp only [if_neg (show ¬ i < apo n a b x y by omega), if_neg (show ¬ i = apo n a b x y by omega)]
theorem bef_nohit {i : Nat} (h : befB (a i) (b i) x y = true) : hitB a b x y i = false := by
  cases hh : hitB a b x y i
  · rfl
  · simp only [hitB, Bool.and_eq_true, decide_eq_true_eq] at hh
    rw [hh.1, hh.2, befB_self] at h
    cases h
theorem bef_down (hv : rtsB n a b c = true) {i j : Nat} (hij : i ≤ j) (hj : j < n) (h : befB (a j) (b j) x y = true) : befB (a i) (b i) x y = true := by
  rcases Nat.eq_or_lt_of_le hij with rfl | hlt
  · exact h
  · exact befB_trans (rts_bef hv i j hlt hj) h
theorem hi_nohit (hv : rtsB n a b c = true) {i : Nat} (h1 : apo n a b x y < i) (h2 : i < n) : hitB a b x y i = false := by
  cases hh : hitB a b x y i
  · rfl
  · simp only [hitB, Bool.and_eq_true, decide_eq_true_eq] at hh
    have h3 := apo_at (a := a) (b := b) (x := x) (y := y) (show apo n a b x y < n by omega)
    have h4 := rts_bef hv _ i h1 h2
    rw [hh.1, hh.2, h3] at h4
    cases h4
theorem apo_eq {p : Nat} (hp : p ≤ n) (h1 : ∀ i, i < p → befB (a i) (b i) x y = true) (h2 : p < n → befB (a p) (b p) x y = false) : apo n a b x y = p := by
  rcases Nat.lt_trichotomy (apo n a b x y) p with h | h | h
  · have h3 := apo_at (a := a) (b := b) (x := x) (y := y) (show apo n a b x y < n by omega)
    rw [h1 _ h] at h3
    cases h3
  · exact h
  · have h3 := apo_bef (a := a) (b := b) h
    have h4 : p < n := Nat.lt_of_lt_of_le h apo_le
    rw [h2 h4] at h3
    cases h3
theorem afd_no (h : apo n a b x y = n) : afd n a b x y = false := by simp [afd, h]
theorem afd_at (h : apo n a b x y < n) : afd n a b x y = hitB a b x y (apo n a b x y) := by simp [afd, h]
theorem aN_le : aN n a b x y ≤ n + 1 := by unfold aN; split <;> omega
/-- Is the route added? -/
def arOk (n : Nat) (a b c : Nat → Int) (x y z : Int) : Bool := rtsB n a b c && rtsB (aN n a b x y) (aC n a b x y a x) (aC n a b x y b y) (aC n a b x y c z)
/-- How many routes come back. -/
def arN (n : Nat) (a b c : Nat → Int) (x y z : Int) : Nat := if rtsB n a b c then (if arOk n a b c x y z then aN n a b x y else n) else 0
/-- A column that comes back. -/
def arC (n : Nat) (a b c : Nat → Int) (x y z : Int) (col : Nat → Int) (v : Int) : Nat → Int := if arOk n a b c x y z then aC n a b x y col v else col
theorem ar_bad (h : rtsB n a b c = false) : arN n a b c x y z = 0 ∧ arOk n a b c x y z = false := by simp [arN, arOk, h]
theorem ar_yes (h : rtsB n a b c = true) (h2 : rtsB (aN n a b x y) (aC n a b x y a x) (aC n a b x y b y) (aC n a b x y c z) = true) :
    arN n a b c x y z = aN n a b x y ∧ arOk n a b c x y z = true ∧ routeR (arC n a b c x y z a x) (arC n a b c x y z b y) (arC n a b c x y z c z) = adR n a b c x y z := by simp [arN, arOk, arC, adR, h, h2]
theorem ar_no (h : rtsB n a b c = true) (h2 : rtsB (aN n a b x y) (aC n a b x y a x) (aC n a b x y b y) (aC n a b x y c z) = false) :
    arN n a b c x y z = n ∧ arOk n a b c x y z = false ∧ routeR (arC n a b c x y z a x) (arC n a b c x y z b y) (arC n a b c x y z c z) = routeR a b c := by simp [arN, arOk, arC, h, h2]
theorem arN_le : arN n a b c x y z ≤ n + 1 := by
  have := aN_le (n := n) (a := a) (b := b) (x := x) (y := y)
  unfold arN
  repeat' split
  all_goals omega
end
/-- Rows of one's own, and a Bool. -/
def GivesB (w : World) (t : TypeId) (m n : Nat) (R : Nat → List Value) (ok : Bool) (e : Ending) (w' : World) : Prop :=
  ∃ A c, e = .returned (.tuple #[.slice A n c, .bool ok]) ∧ Own w' w.heap.size t m A n c R ∧ Below w.heap.size w w'
end Go.Proofs.Ytgoijpbkgkjfeaa
