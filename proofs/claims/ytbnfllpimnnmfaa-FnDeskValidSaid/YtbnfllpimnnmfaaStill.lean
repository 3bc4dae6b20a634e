/-
  A region that may draw its order and writes to no old memory: each operation's value is found once, in the text's order; no other order need be looked at.
-/
import Derived.Test.YtbnfllpimnnmfaaReg
namespace Go.Proofs.Ytbnfllpimnnmfaa
open Go Go.RowKit

section
variable {P : Program}

def StillStep (P : Program) (l : List Oper) (n : Nat) (a : Act) (w : World) (Q : Exit → Act → World → Prop) (o : Oper) (i : Nat) (xs : List Value) (v : Value) : Prop :=
  ∀ a' w', Below w.heap.size w w' → (∀ t, notDst l n t = true → a'.tmps.getD t undef = a.tmps.getD t undef) →
    (∀ j d, j < i → (l[j]?).bind (·.dst) = some d → (o.after.toList.any fun e => Region.binds .any e && e.on == j) = true → a'.tmps.getD d undef = xs.getD (i - 1 - j) undef) →
    wpOp P l.toArray Q i (fun a'' w'' => a'' = a'.put o.dst v ∧ Below w'.heap.size w' w'') a' w'

/-- 'xs': the values of the operations so far, the last one first. -/
def StillFrom (P : Program) (l : List Oper) (n : Nat) (a : Act) (w : World) (Q : Exit → Act → World → Prop) (T : List Value → Prop) : List Oper → Nat → List Value → Prop
  | [], _, xs => T xs
  | o :: r, i, xs => ∃ v, StillStep P l n a w Q o i xs v ∧ StillFrom P l n a w Q T r (i + 1) (v :: xs)

theorem still_nil {l : List Oper} {n i : Nat} {a : Act} {w : World} {Q : Exit → Act → World → Prop} {T : List Value → Prop} {xs : List Value} (h : T xs) : StillFrom P l n a w Q T [] i xs := h
theorem still_cons {l : List Oper} {n i : Nat} {a : Act} {w : World} {Q : Exit → Act → World → Prop} {T : List Value → Prop} {o : Oper} {r : List Oper} {xs : List Value} (v : Value)
    (h : StillStep P l n a w Q o i xs v) (hr : StillFrom P l n a w Q T r (i + 1) (v :: xs)) : StillFrom P l n a w Q T (o :: r) i xs := ⟨v, h, hr⟩

theorem still_all {l : List Oper} {n : Nat} {a : Act} {w : World} {Q : Exit → Act → World → Prop} {T : List Value → Prop} : ∀ (r : List Oper) (i : Nat) (xs : List Value), StillFrom P l n a w Q T r i xs →
    ∃ ys, T (ys ++ xs) ∧ ys.length = r.length ∧ ∀ k o, r[k]? = some o → StillStep P l n a w Q o (i + k) ((ys ++ xs).drop (ys.length - k)) ((ys ++ xs).getD (ys.length - 1 - k) undef)
  | [], i, xs, h => ⟨[], by simpa [StillFrom] using h, rfl, fun k o ho => by simp at ho⟩
  | o :: r, i, xs, h => by
    obtain ⟨v, hv, hr⟩ := h
    obtain ⟨ys, hT, hl, hs⟩ := still_all r (i + 1) (v :: xs) hr
    have e0 : (ys ++ [v]) ++ xs = ys ++ v :: xs := by simp
    refine ⟨ys ++ [v], by rw [e0]; exact hT, by simp [hl], fun k o' ho => ?_⟩
    rw [e0]
    cases k with
    | zero =>
      have : o = o' := by simpa using ho
      subst this
      have e1 : (ys ++ v :: xs).drop ((ys ++ [v]).length - 0) = xs := by
        rw [← e0]; simp
      have e2 : (ys ++ v :: xs).getD ((ys ++ [v]).length - 1 - 0) undef = v := by simp
      rw [e1, e2]
      exact hv
    | succ k =>
      have hk : k < r.length := by
        have := (List.getElem?_eq_some_iff.1 (show r[k]? = some o' by simpa using ho)).1
        exact this
      have := hs k o' (by simpa using ho)
      have e1 : (ys ++ [v]).length - (k + 1) = ys.length - k := by simp
      have e2 : (ys ++ [v]).length - 1 - (k + 1) = ys.length - 1 - k := by simp; omega
      rw [e1, e2, show i + (k + 1) = i + 1 + k by omega]
      exact this

theorem wp_region_still {id : Nat} {dr : Bool} {l tl : List Oper} {ds : List (Nat × Tmp)} {a : Act} {w : World} {Q : Exit → Act → World → Prop} (n : Nat)
    (hm : P.follows .mixedOrders = true) (hB : headTailB l n = true) (hwb : dr = true ∨ waitsBack l l.length = true)
    (hin : ((l.take n).all fun o => match o.dst with | some d => decide (d < a.tmps.size) | none => true) = true)
    (hds : dstsOf l n = ds) (htl : l.drop n = tl)
    (h : StillFrom P l n a w Q (fun xs => ∀ w', Below w.heap.size w w' → wpList P l.toArray Q tl (putAll a (fun i => xs.getD (n - 1 - i) undef) ds) w') (l.take n) 0 []) :
    (Code.region id l.toArray dr).wp P Q a w := by
  obtain ⟨ys, hT, hl, hs⟩ := still_all _ _ _ h
  simp only [List.append_nil, Nat.zero_add] at hT hs
  have hn : n ≤ l.length := by
    simp only [headTailB, Bool.and_eq_true, decide_eq_true_eq] at hB
    exact hB.1.1.1.1
  have hwbn : waitsBack l n = true := by
    simp only [headTailB, Bool.and_eq_true] at hB
    exact hB.1.1.2
  have hyl : ys.length = n := by rw [hl, List.length_take]; omega
  have hdrew : ∀ w0, w0 = w ∨ w0 = w.drew → ∀ w', Below w0.heap.size w0 w' → Below w.heap.size w w' := by
    rintro w0 (rfl | rfl) w' hb
    · exact hb
    · exact ⟨hb.os, hb.tape, hb.output, hb.size, hb.block⟩
  have hmem : ∀ i o d, i < n → l[i]? = some o → o.dst = some d → (i, d) ∈ dstsOf l n := fun i o d hi ho hd =>
    List.mem_filterMap.2 ⟨i, List.mem_range.2 hi, by simp [ho, hd]⟩
  have hmem2 : ∀ x ∈ dstsOf l n, ∃ o, x.1 < n ∧ l[x.1]? = some o ∧ o.dst = some x.2 := by
    intro x hx
    obtain ⟨i, hi, he⟩ := List.mem_filterMap.1 hx
    cases ho : l[i]? with
    | none => simp [ho] at he
    | some o =>
      cases hd : o.dst with
      | none => simp [ho, hd] at he
      | some d =>
        simp [ho, hd] at he
        subst he
        exact ⟨o, List.mem_range.1 hi, ho, hd⟩
  have hnot : ∀ t, notDst l n t = true → ∀ j oj, j < n → l[j]? = some oj → oj.dst ≠ some t := by
    intro t ht j oj hj ho hd
    have := List.all_eq_true.1 ht _ (hmem j oj t hj ho hd)
    simp at this
  refine wp_region_kept (n := n) (fun a b => Below a.heap.size a b) (fun _ _ => True) (fun j v _ => (∃ d, (l[j]?).bind (·.dst) = some d) → v = ys.getD (n - 1 - j) undef) hm hB hwb (fun w => Below.refl _ w) (fun _ _ _ h1 h2 => Below.tr h1 h2) (fun _ _ _ _ h _ => h)
    (fun _ _ => trivial) hin ?_ ?_
  · intro w0 hw0 i o hi ho
    refine ⟨fun k a' w' _ _ hLe hdef hfr hdep => ?_⟩
    have hst := hs i o (by rw [List.getElem?_take]; simp [hi, ho])
    rw [hyl] at hst
    have := hst a' w' (hdrew _ hw0 _ hLe) (fun t ht => hfr t (hnot t ht)) (fun j d hj hd ha => by
      cases hoj : l[j]? with
      | none => simp [hoj] at hd
      | some oj =>
        have hd' : oj.dst = some d := by simpa [hoj] using hd
        have := hdep j oj d hoj hd' ha ⟨d, hd⟩
        rw [this, List.getD_eq_getElem?_getD, List.getD_eq_getElem?_getD, List.getElem?_drop]
        congr 2
        omega)
    refine wpOp_mono ?_ this
    rintro a'' w'' ⟨h1, h2⟩
    exact ⟨_, h1, trivial, h2, fun _ _ => rfl, fun hd => fun ⟨d, hd2⟩ => by simp [ho, hd] at hd2⟩
  · intro w0 hw0 a' w' _ hLe hdef hsz hfr hT' hN
    have e : a' = putAll a (fun i => ys.getD (n - 1 - i) undef) (dstsOf l n) :=
      act_putAll hdef hsz (fun t ht => hfr t fun j oj hj ho hd => ht (j, t) (hmem j oj t hj ho hd) rfl) _ (fun x hx => by
        obtain ⟨o, h1, h2, h3⟩ := hmem2 x hx
        exact (hT' x.1 o x.2 h1 h2 h3 ⟨x.2, by simp [h2, h3]⟩).symm)
    rw [e, htl, hds]
    exact hT w' (hdrew _ hw0 _ hLe)

theorem tmps_bool {a : Act} {d : Tmp} {b : Bool} (he : a.tmps.getD d undef = .bool b) : a.tmps[d]? = some (.bool b) := by
  rcases Nat.lt_or_ge d a.tmps.size with h | h
  · simpa [h] using he
  · simp [Array.getElem?_eq_none h] at he
    cases he

theorem wpOp_yes {l : List Oper} {Q : Exit → Act → World → Prop} {i j : Nat} {b : Bool} {o : Oper} {d : Tmp} {K : Act → World → Prop} {a : Act} {w : World} (ho : l[i]? = some o) (hg : o.guard = some (j, b))
    (hj : (l[j]?).bind (·.dst) = some d) (he : a.tmps.getD d undef = .bool b)
    (h : ∀ K' : Act → World → Prop, (∀ a w, K a w → K' a w) → o.wp P a w K' Q) : wpOp P l.toArray Q i K a w := by
  unfold wpOp
  have h1 : l.toArray[i]? = some o := by simpa using ho
  have hj' : (l.toArray[j]?).bind (·.dst) = some d := by simpa using hj
  have hy : yielded l.toArray a.tmps j = some b := by simp only [yielded, hj', Option.bind_some, tmps_bool he]
  simp only [h1]
  rw [if_pos (by simp [Region.wanted, hg, hy])]
  exact .inl (h K fun _ _ h => h)

theorem wpOp_no {l : List Oper} {Q : Exit → Act → World → Prop} {i j : Nat} {b : Bool} {o : Oper} {d : Tmp} {K : Act → World → Prop} {a : Act} {w : World} (ho : l[i]? = some o) (hg : o.guard = some (j, b))
    (hj : (l[j]?).bind (·.dst) = some d) (he : a.tmps.getD d undef = .bool (!b)) (h : K (a.put o.dst undef) w) : wpOp P l.toArray Q i K a w := by
  unfold wpOp
  have h1 : l.toArray[i]? = some o := by simpa using ho
  have hj' : (l.toArray[j]?).bind (·.dst) = some d := by simpa using hj
  have hy : yielded l.toArray a.tmps j = some (!b) := by simp only [yielded, hj', Option.bind_some, tmps_bool he]
  simp only [h1]
  rw [if_neg (by simp [Region.wanted, hg, hy])]
  exact h
/-- A guard whose own operation did not run. -/
theorem wpOp_un {l : List Oper} {Q : Exit → Act → World → Prop} {i j : Nat} {b : Bool} {o : Oper} {d : Tmp} {K : Act → World → Prop} {a : Act} {w : World} (ho : l[i]? = some o) (hg : o.guard = some (j, b))
    (hj : (l[j]?).bind (·.dst) = some d) (he : a.tmps.getD d undef = undef) (h : K (a.put o.dst undef) w) : wpOp P l.toArray Q i K a w := by
  unfold wpOp
  have h1 : l.toArray[i]? = some o := by simpa using ho
  have hj' : (l.toArray[j]?).bind (·.dst) = some d := by simpa using hj
  have hy : yielded l.toArray a.tmps j = none := by
    simp only [yielded, hj', Option.bind_some]
    rcases Nat.lt_or_ge d a.tmps.size with h | h
    · have : a.tmps[d]? = some undef := by simpa [h] using he
      rw [this]
      rfl
    · rw [Array.getElem?_eq_none h]
  simp only [h1]
  rw [if_neg (by simp [Region.wanted, hg, hy])]
  exact h
end
end Go.Proofs.Ytbnfllpimnnmfaa
