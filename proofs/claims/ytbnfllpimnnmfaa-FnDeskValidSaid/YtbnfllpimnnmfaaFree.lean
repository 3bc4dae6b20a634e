/-
  A region that may draw its order and writes to no old memory, met by what each operation yields: what a slot holds is said by a predicate that later operations keep.
-/
import Derived.Test.YtbnfllpimnnmfaaStill
import Derived.Test.YtbnfllpimnnmfaaMem
namespace Go.Proofs.Ytbnfllpimnnmfaa
open Go Go.RowKit

/-- What a slot may hold, kept while old memory stays. -/
structure KB where
  p : Value → World → Prop
  k : ∀ v w w', p v w → Below w.heap.size w w' → p v w'
def kbAny : KB := ⟨fun _ _ => True, fun _ _ _ h _ => h⟩
def kbVal (R : Value → Prop) : KB := ⟨fun v _ => R v, fun _ _ _ h _ => h⟩
def kbIs (x : Value) : KB := ⟨fun v _ => v = x, fun _ _ _ h _ => h⟩
/-- n new rows. -/
def kbMade (B : Nat) (t : TypeId) (m n : Nat) (R : Nat → List Value) : KB :=
  ⟨fun v w => ∃ g, v = .slice (some ⟨g, 0, none⟩) n n ∧ B ≤ g ∧ New w g t m n n R, fun _ _ _ ⟨g, h1, h2, h3⟩ hb => ⟨g, h1, h2, h3.below hb h3.lt⟩⟩

section
variable {P : Program}
def FreeStep (P : Program) (l : List Oper) (n : Nat) (a : Act) (w : World) (Q : Exit → Act → World → Prop) (o : Oper) (i : Nat) (Ts : List KB) (T : KB) : Prop :=
  ∀ a' w', Below w.heap.size w w' → (∀ t, notDst l n t = true → a'.tmps.getD t undef = a.tmps.getD t undef) →
    (∀ j d, j < i → (l[j]?).bind (·.dst) = some d → (o.after.toList.any fun e => Region.binds .any e && e.on == j) = true → (Ts.getD (i - 1 - j) kbAny).p (a'.tmps.getD d undef) w') →
    wpOp P l.toArray Q i (fun a'' w'' => ∃ v, a'' = a'.put o.dst v ∧ Below w'.heap.size w' w'' ∧ T.p v w'') a' w'

/-- 'Ts': what the operations so far yield, the last one first. -/
def FreeFrom (P : Program) (l : List Oper) (n : Nat) (a : Act) (w : World) (Q : Exit → Act → World → Prop) (F : List KB → Prop) : List Oper → Nat → List KB → Prop
  | [], _, Ts => F Ts
  | o :: r, i, Ts => ∃ T, FreeStep P l n a w Q o i Ts T ∧ FreeFrom P l n a w Q F r (i + 1) (T :: Ts)

theorem free_nil {l : List Oper} {n i : Nat} {a : Act} {w : World} {Q : Exit → Act → World → Prop} {F : List KB → Prop} {Ts : List KB} (h : F Ts) : FreeFrom P l n a w Q F [] i Ts := h
theorem free_cons {l : List Oper} {n i : Nat} {a : Act} {w : World} {Q : Exit → Act → World → Prop} {F : List KB → Prop} {o : Oper} {r : List Oper} {Ts : List KB} (T : KB)
    (h : FreeStep P l n a w Q o i Ts T) (hr : FreeFrom P l n a w Q F r (i + 1) (T :: Ts)) : FreeFrom P l n a w Q F (o :: r) i Ts := ⟨T, h, hr⟩

theorem free_is {l : List Oper} {n i : Nat} {a : Act} {w : World} {Q : Exit → Act → World → Prop} {F : List KB → Prop} {o : Oper} {r : List Oper} {Ts : List KB} {x : Value}
    (h : FreeStep P l n a w Q o i Ts (kbIs x)) (hr : FreeFrom P l n a w Q F r (i + 1) (kbIs x :: Ts)) : FreeFrom P l n a w Q F (o :: r) i Ts := ⟨_, h, hr⟩

theorem free_all {l : List Oper} {n : Nat} {a : Act} {w : World} {Q : Exit → Act → World → Prop} {F : List KB → Prop} : ∀ (r : List Oper) (i : Nat) (Ts : List KB), FreeFrom P l n a w Q F r i Ts →
    ∃ Us, F (Us ++ Ts) ∧ Us.length = r.length ∧ ∀ k o, r[k]? = some o → FreeStep P l n a w Q o (i + k) ((Us ++ Ts).drop (Us.length - k)) ((Us ++ Ts).getD (Us.length - 1 - k) kbAny)
  | [], i, Ts, h => ⟨[], by simpa [FreeFrom] using h, rfl, fun k o ho => by simp at ho⟩
  | o :: r, i, Ts, h => by
    obtain ⟨v, hv, hr⟩ := h
    obtain ⟨ys, hT, hl, hs⟩ := free_all r (i + 1) (v :: Ts) hr
    have e0 : (ys ++ [v]) ++ Ts = ys ++ v :: Ts := by simp
    refine ⟨ys ++ [v], by rw [e0]; exact hT, by simp [hl], fun k o' ho => ?_⟩
    rw [e0]
    cases k with
    | zero =>
      have : o = o' := by simpa using ho
      subst this
      have e1 : (ys ++ v :: Ts).drop ((ys ++ [v]).length - 0) = Ts := by
        rw [← e0]; simp
      have e2 : (ys ++ v :: Ts).getD ((ys ++ [v]).length - 1 - 0) kbAny = v := by simp
      rw [e1, e2]
      exact hv
    | succ k =>
      have := hs k o' (by simpa using ho)
      have e1 : (ys ++ [v]).length - (k + 1) = ys.length - k := by simp
      have e2 : (ys ++ [v]).length - 1 - (k + 1) = ys.length - 1 - k := by simp; omega
      rw [e1, e2, show i + (k + 1) = i + 1 + k by omega]
      exact this

theorem wp_region_free {id : Nat} {dr : Bool} {l tl : List Oper} {ds : List (Nat × Tmp)} {a : Act} {w : World} {Q : Exit → Act → World → Prop} (n : Nat)
    (hm : P.follows .mixedOrders = true) (hB : headTailB l n = true) (hwb : dr = true ∨ waitsBack l l.length = true)
    (hin : ((l.take n).all fun o => match o.dst with | some d => decide (d < a.tmps.size) | none => true) = true)
    (hds : dstsOf l n = ds) (htl : l.drop n = tl)
    (h : FreeFrom P l n a w Q (fun Ts => ∀ (vs : Nat → Value) w', Below w.heap.size w w' → (∀ j d, (ds.any fun x => x.1 == j && x.2 == d) = true → (Ts.getD (n - 1 - j) kbAny).p (vs j) w') → wpList P l.toArray Q tl (putAll a vs ds) w') (l.take n) 0 []) :
    (Code.region id l.toArray dr).wp P Q a w := by
  obtain ⟨Us, hT, hl, hs⟩ := free_all _ _ _ h
  simp only [List.append_nil, Nat.zero_add] at hT hs
  have hn : n ≤ l.length := by
    simp only [headTailB, Bool.and_eq_true, decide_eq_true_eq] at hB
    exact hB.1.1.1.1
  have hyl : Us.length = n := by rw [hl, List.length_take]; omega
  have hdrew : ∀ w0, w0 = w ∨ w0 = w.drew → ∀ w', Below w0.heap.size w0 w' → Below w.heap.size w w' := by
    rintro w0 (rfl | rfl) w' hb
    · exact hb
    · exact ⟨hb.os, hb.tape, hb.output, hb.size, hb.block⟩
  have hmem : ∀ i o d, i < n → l[i]? = some o → o.dst = some d → (i, d) ∈ dstsOf l n := fun i o d hi ho hd =>
    List.mem_filterMap.2 ⟨i, List.mem_range.2 hi, by simp [ho, hd]⟩
  have hmem2 : ∀ x ∈ dstsOf l n, ∃ o, x.1 < n ∧ l[x.1]? = some o ∧ o.dst = some x.2 := by
    intro x hx
    obtain ⟨i, hi, he⟩ := List.mem_filterMap.1 hx
    cases ho : l[i]? with
    | none => simp [ho] at he
    | some o =>
      cases hd : o.dst with
      | none => simp [ho, hd] at he
      | some d =>
        simp [ho, hd] at he
        subst he
        exact ⟨o, List.mem_range.1 hi, ho, hd⟩
  have hnot : ∀ t, notDst l n t = true → ∀ j oj, j < n → l[j]? = some oj → oj.dst ≠ some t := by
    intro t ht j oj hj ho hd
    have := List.all_eq_true.1 ht _ (hmem j oj t hj ho hd)
    simp at this
  refine wp_region_kept (n := n) (fun a b => Below a.heap.size a b) (fun _ _ => True) (fun j v w => (∃ d, (l[j]?).bind (·.dst) = some d) → (Us.getD (n - 1 - j) kbAny).p v w) hm hB hwb (fun w => Below.refl _ w) (fun _ _ _ h1 h2 => Below.tr h1 h2) (fun _ _ _ _ h hb hd => KB.k _ _ _ _ (h hd) hb)
    (fun _ _ => trivial) hin ?_ ?_
  · intro w0 hw0 i o hi ho
    refine ⟨fun k a' w' _ _ hLe hdef hfr hdep => ?_⟩
    have hst := hs i o (by rw [List.getElem?_take]; simp [hi, ho])
    rw [hyl] at hst
    have := hst a' w' (hdrew _ hw0 _ hLe) (fun t ht => hfr t (hnot t ht)) (fun j d hj hd ha => by
      cases hoj : l[j]? with
      | none => simp [hoj] at hd
      | some oj =>
        have hd' : oj.dst = some d := by simpa [hoj] using hd
        have := hdep j oj d hoj hd' ha ⟨d, hd⟩
        have e : ((Us.drop (n - i)).getD (i - 1 - j) kbAny) = Us.getD (n - 1 - j) kbAny := by
          rw [List.getD_eq_getElem?_getD, List.getD_eq_getElem?_getD, List.getElem?_drop]
          congr 2
          omega
        rw [e]
        exact this)
    refine wpOp_mono ?_ this
    rintro a'' w'' ⟨v, h1, h2, h3⟩
    exact ⟨v, h1, trivial, h2, fun _ _ => h3, fun hd => fun ⟨d, hd2⟩ => by simp [ho, hd] at hd2⟩
  · intro w0 hw0 a' w' _ hLe hdef hsz hfr hT' hN
    have hv : ∀ x ∈ dstsOf l n, (match (l[x.1]?).bind (·.dst) with | some d => a'.tmps.getD d undef | none => undef) = a'.tmps.getD x.2 undef := by
      intro x hx
      obtain ⟨o, h1, h2, h3⟩ := hmem2 x hx
      simp [h2, h3]
    have e : a' = putAll a (fun i => match (l[i]?).bind (·.dst) with | some d => a'.tmps.getD d undef | none => undef) (dstsOf l n) :=
      act_putAll hdef hsz (fun t ht => hfr t fun j oj hj ho hd => ht (j, t) (hmem j oj t hj ho hd) rfl) _ hv
    rw [e, htl, hds]
    refine hT _ w' (hdrew _ hw0 _ hLe) fun j d hj => ?_
    obtain ⟨x, hx, he⟩ := List.any_eq_true.1 hj
    simp only [Bool.and_eq_true, beq_iff_eq] at he
    rw [← hds] at hx
    obtain ⟨o, h1, h2, h3⟩ := hmem2 x hx
    have := hT' x.1 o x.2 h1 h2 h3 ⟨x.2, by simp [h2, h3]⟩
    rw [he.1] at this h2
    have e2 : (match (l[j]?).bind (·.dst) with | some d => a'.tmps.getD d undef | none => undef) = a'.tmps.getD x.2 undef := by simp [h2, h3]
    rw [e2]
    exact this
end
end Go.Proofs.Ytbnfllpimnnmfaa
