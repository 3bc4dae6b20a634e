/-
  A region that draws its order, with a store behind the head that does not wait for one operation of the head (a struct and a truth that one call returns).
-/
import Derived.Test.YtahniedcflfdmaaFree
namespace Go.Proofs.Ytahniedcflfdmaa
open Go Go.RowKit

section
variable {P : Program}
/-- All of the first n operations but m, and operation n. -/
def lateL (l : List Oper) (n m : Nat) : Array Bool := (Array.range l.length).map fun k => decide (k ≤ n) && k != m
def lateB (l : List Oper) (n m : Nat) : Bool :=
  decide (n < l.length) && decide (m < n) && dstsApart l n && waitsBack l n && ((List.range n).all fun i => i == m || Region.waitsFor .any l.toArray n i) && ((List.range l.toArray.size).all fun t => decide (t ≤ n) || Region.waitsFor .any l.toArray t (t - 1)) &&
    Region.seqB .any l.toArray (l.length - n) n (Array.replicate n true ++ Array.replicate (l.length - n) false) && decide (Region.ready .any l.toArray (lateL l n m) = [m]) && Region.seqB .any l.toArray (l.length - n - 1) (n + 1) ((lateL l n m).setIfInBounds m true)

theorem wpAny_late {l : List Oper} {n m : Nat} {on om : Oper} {tl : List Oper} {a : Act} {w : World} {Q : Exit → Act → World → Prop} {Le : World → World → Prop} {Inv : Nat → World → Prop} {Tm : Nat → Value → World → Prop}
    (htrans : ∀ a b c, Le a b → Le b c → Le a c) (hkept : ∀ i v w w', Tm i v w → Le w w' → Tm i v w')
    (hB : lateB l n m = true) (hon : l.drop n = on :: tl) (hom : l[m]? = some om)
    (hin : ∀ i o d, i < n → l[i]? = some o → o.dst = some d → d < a.tmps.size)
    (hstep : ∀ i o, i < n → l[i]? = some o → Steps P l n a w Q Le Inv Tm i o)
    (htail : ∀ a' w', Inv n w' → Le w w' → a'.defers = a.defers → a'.tmps.size = a.tmps.size → (∀ t, (∀ j oj, j < n → l[j]? = some oj → oj.dst ≠ some t) → a'.tmps.getD t undef = a.tmps.getD t undef) →
      (∀ j oj d, j < n → l[j]? = some oj → oj.dst = some d → Tm j (a'.tmps.getD d undef) w') → (∀ j oj, j < n → l[j]? = some oj → oj.dst = none → Tm j undef w') → wpList P l.toArray Q (l.drop n) a' w')
    (hlate : ∀ a' w', Le w w' → a'.defers = a.defers → a'.tmps.size = a.tmps.size → (∀ t, (∀ j oj, j < n → j ≠ m → l[j]? = some oj → oj.dst ≠ some t) → a'.tmps.getD t undef = a.tmps.getD t undef) →
      (∀ j oj d, j < n → j ≠ m → l[j]? = some oj → oj.dst = some d → Tm j (a'.tmps.getD d undef) w') → wpList P l.toArray Q (on :: om :: tl) a' w') :
    ∀ (f : Nat) (rem : List Nat) (listed : Array Bool) (a' : Act) (w' : World), rem.length = f → rem.Nodup → (∀ i, i ∈ rem ↔ i < n ∧ listed.getD i true = false) → HeadInv .any l.toArray n listed →
      f ≤ n → Inv (n - f) w' → Le w w' → a'.defers = a.defers → a'.tmps.size = a.tmps.size → (∀ t, (∀ j oj, j < n → listed.getD j false = true → l[j]? = some oj → oj.dst ≠ some t) → a'.tmps.getD t undef = a.tmps.getD t undef) →
      (∀ j oj d, j < n → l[j]? = some oj → oj.dst = some d → listed.getD j false = true → Tm j (a'.tmps.getD d undef) w') →
      (∀ j oj, j < n → l[j]? = some oj → oj.dst = none → listed.getD j false = true → Tm j undef w') →
      wpAny P .any l.toArray Q (f + (l.length - n)) listed a' w' := by
  simp only [lateB, Bool.and_eq_true, decide_eq_true_eq] at hB
  obtain ⟨⟨⟨⟨⟨⟨⟨⟨hn0, hmn⟩, hap⟩, hwb⟩, hsink⟩, hchain⟩, hseq⟩, hrd⟩, hseq2⟩ := hB
  have hn : n ≤ l.length := Nat.le_of_lt hn0
  intro f
  induction f with
  | zero =>
    intro rem listed a' w' hlen _ hrem hinv _ hI hLe hdef hsz hfr hT hN
    have hall : ∀ i, i < n → listed.getD i false = true := fun i hi => by
      have hnot : ¬ (i < n ∧ listed.getD i true = false) := fun h => by
        have := (hrem i).2 h
        rw [List.eq_nil_of_length_eq_zero hlen] at this
        cases this
      have hs : i < listed.size := by rw [hinv.size, List.size_toArray]; omega
      have h1 : listed.getD i true = true := by
        cases h : listed.getD i true with
        | true => rfl
        | false => exact absurd ⟨hi, h⟩ hnot
      simpa [hs] using h1
    have hlisted : listed = Array.replicate n true ++ Array.replicate (l.length - n) false := by
      apply Array.ext
      · rw [hinv.size]; simp; omega
      · intro i h1 h2
        rcases Nat.lt_or_ge i n with h | h
        · have := hall i h
          rw [Array.getElem_append_left (by simpa using h)]
          simpa [h1] using this
        · have := hinv.tail i h (by rw [← hinv.size]; exact h1)
          rw [Array.getElem_append_right (by simpa using h)]
          simpa [h1] using this
    have hl : (l.drop n).length = l.length - n := by simp
    have := wpAny_of_seq (P := P) (ops := l.toArray) (md := .any) (Q' := Q) (l.drop n) n listed a' w' (fun j => by simp [List.getElem?_drop]) (by rw [hl, hlisted]; exact hseq)
      (htail a' w' (by simpa using hI) hLe hdef hsz (fun t ht => hfr t fun j oj hj _ ho => ht j oj hj ho) (fun j oj d hj ho hd => hT j oj d hj ho hd (hall j hj)) (fun j oj hj ho hd => hN j oj hj ho hd (hall j hj)))
    rw [Nat.zero_add, ← hl]
    exact this
  | succ f ih =>
    intro rem listed a' w' hlen hnd hrem hinv hfn hI hLe hdef hsz hfr hT hN
    have hlow : ∀ t ∈ Region.ready .any l.toArray listed, t < n ∨ (t = n ∧ ∀ i, i < n → i ≠ m → listed.getD i false = true) := by
      intro t ht
      rcases Nat.lt_or_ge t n with h | h
      · exact .inl h
      · obtain ⟨_, o, ho, hall⟩ := mem_ready.1 ht
        have htl0 : t < l.toArray.size := (Array.getElem?_eq_some_iff.1 ho).1
        rcases Nat.eq_or_lt_of_le h with e | hlt
        · subst e
          refine .inr ⟨rfl, fun i hi him => ?_⟩
          have h1 := List.all_eq_true.1 hsink i (List.mem_range.2 hi)
          simp only [Bool.or_eq_true, beq_iff_eq] at h1
          obtain ⟨oj, hoj, e, he, hb, hone⟩ := Region.waitsFor_spec (h1.resolve_left him)
          rw [ho] at hoj
          cases hoj
          rw [← hone]
          exact hall e he hb
        · have h1 := List.all_eq_true.1 hchain t (List.mem_range.2 htl0)
          simp only [Bool.or_eq_true, decide_eq_true_eq] at h1
          obtain ⟨oj, hoj, e, he, hb, hone⟩ := Region.waitsFor_spec (h1.resolve_left (by omega))
          rw [ho] at hoj
          cases hoj
          have h2 := hall e he hb
          have h3 := hinv.tail (t - 1) (by omega) (by omega)
          rw [hone, getD_both h3] at h2
          cases h2
    have hne : Region.ready .any l.toArray listed ≠ [] := by
      -- the least operation that has not come up is ready
      have key : ∀ (d i : Nat), i ≤ d → i ∈ rem → ∃ t, t ∈ Region.ready .any l.toArray listed := by
        intro d
        induction d with
        | zero =>
          intro i hid hi
          obtain ⟨hi1, hi2⟩ := (hrem i).1 hi
          have hlt : i < l.length := by omega
          refine ⟨i, mem_ready.2 ⟨hi2, l[i], by simp [hlt], fun e he hb => ?_⟩⟩
          have h1 := List.all_eq_true.1 hwb i (List.mem_range.2 hi1)
          simp only [List.getElem?_eq_getElem hlt] at h1
          have h2 := Array.all_eq_true_iff_forall_mem.1 h1 e he
          simp [hb] at h2
          omega
        | succ d ihd =>
          intro i hid hi
          obtain ⟨hi1, hi2⟩ := (hrem i).1 hi
          have hlt : i < l.length := by omega
          by_cases hdone : ∀ e ∈ l[i].after, Region.binds .any e = true → listed.getD e.on false = true
          · exact ⟨i, mem_ready.2 ⟨hi2, l[i], by simp [hlt], hdone⟩⟩
          · have : ∃ e, e ∈ l[i].after ∧ Region.binds .any e = true ∧ listed.getD e.on false ≠ true := Classical.byContradiction fun hcon => hdone fun e he hb => Classical.byContradiction fun hx => hcon ⟨e, he, hb, hx⟩
            obtain ⟨e, he, hb, hx⟩ := this
            have h1 := List.all_eq_true.1 hwb i (List.mem_range.2 hi1)
            simp only [List.getElem?_eq_getElem hlt] at h1
            have h2 := Array.all_eq_true_iff_forall_mem.1 h1 e he
            simp [hb] at h2
            have hes : e.on < listed.size := by rw [hinv.size, List.size_toArray]; omega
            have hx' : listed.getD e.on true = false := getD_in hes (by simpa using hx)
            exact ihd e.on (by omega) ((hrem e.on).2 ⟨by omega, hx'⟩)
      obtain ⟨i, hi⟩ : ∃ i, i ∈ rem := by
        cases rem with
        | nil => cases hlen
        | cons x xs => exact ⟨x, List.mem_cons_self⟩
      obtain ⟨t, ht⟩ := key i i (Nat.le_refl _) hi
      intro h0
      rw [h0] at ht
      cases ht
    rw [show f + 1 + (l.length - n) = (f + (l.length - n)) + 1 by omega]
    refine ⟨fun h => absurd h hne, fun i hi => ?_⟩
    obtain ⟨hiun, o, ho, hall⟩ := mem_ready.1 hi
    rcases hlow i hi with hin' | ⟨rfl, hothers⟩
    rotate_left
    · -- the store, ahead of operation m
      have hmun : listed.getD m true = false := by
        cases hcase : rem with
        | nil => rw [hcase] at hlen; cases hlen
        | cons x xs =>
          obtain ⟨hx1, hx2⟩ := (hrem x).1 (by rw [hcase]; exact List.mem_cons_self)
          by_cases hxm : x = m
          · exact hxm ▸ hx2
          · have := hothers x hx1 hxm
            rw [getD_both hx2] at this
            cases this
      have hf0 : f = 0 := by
        have hall2 : ∀ x ∈ rem, x = m := fun x hx => by
          obtain ⟨hx1, hx2⟩ := (hrem x).1 hx
          by_cases hxm : x = m
          · exact hxm
          · have := hothers x hx1 hxm
            rw [getD_both hx2] at this
            cases this
        cases hcase : rem with
        | nil => rw [hcase] at hlen; cases hlen
        | cons x xs =>
          cases hxs : xs with
          | nil => rw [hcase, hxs] at hlen; simpa using hlen.symm
          | cons y ys =>
            have e1 := hall2 x (by rw [hcase]; exact List.mem_cons_self)
            have e2 := hall2 y (by rw [hcase, hxs]; exact List.mem_cons_of_mem _ List.mem_cons_self)
            rw [hcase, hxs, e1, e2] at hnd
            simp at hnd
      subst hf0
      have hlisted : listed.setIfInBounds i true = lateL l i m := by
        apply Array.ext
        · simp [lateL, hinv.size]
        · intro k h1 h2
          have hk : k < listed.size := by simpa using h1
          have hkl : k < l.length := by have := hinv.size; simp at this; omega
          have hg : ∀ v, listed.getD k v = listed[k] := fun v => by simp [hk]
          simp only [lateL, Array.getElem_map, Array.getElem_range, Array.getElem_setIfInBounds hk]
          by_cases hki : i = k
          · subst hki
            have : i ≠ m := by omega
            simp [this]
          · rw [if_neg hki]
            rcases Nat.lt_or_ge k i with h | h
            · by_cases hkm : k = m
              · subst hkm
                rw [← hg true, hmun]
                simp
              · rw [← hg false, hothers k h hkm]
                simp [hkm]
                omega
            · rw [← hg true, hinv.tail k h (by rw [List.size_toArray]; omega)]
              have : ¬ k ≤ i := by omega
              simp [this]
      obtain ⟨q, hq⟩ : ∃ q, l.length - i = q + 1 := ⟨l.length - i - 1, by omega⟩
      have hd1 : l[i]? = some on := by
        have := congrArg (·[0]?) hon
        simpa [List.getElem?_drop] using this
      have hdt : l.drop (i + 1) = tl := by
        have := congrArg List.tail hon
        simpa [List.tail_drop] using this
      have hfin := hlate a' w' hLe hdef hsz (fun t ht => hfr t fun j oj hj hlj ho => ht j oj hj (fun e => by rw [e, getD_both hmun] at hlj; cases hlj) ho) (fun j oj d hj hjm hoj hd => hT j oj d hj hoj hd (hothers j hj hjm))
      rw [hlisted, Nat.zero_add, hq]
      have hstep1 : wpOp P l.toArray Q i (wpOp P l.toArray Q m (wpList P l.toArray Q tl)) a' w' := by
        have e1 : l.toArray[i]? = some on := by simpa using hd1
        have e2 : l.toArray[m]? = some om := by simpa using hom
        unfold wpOp
        simp only [e1, e2]
        exact hfin
      refine wpOp_mono (fun a2 w2 h2 => ?_) hstep1
      refine ⟨(fun h => by rw [hrd] at h; cases h), fun t ht => ?_⟩
      rw [hrd] at ht
      obtain rfl : t = m := by simpa using ht
      refine wpOp_mono (fun a3 w3 h3 => ?_) h2
      have hl3 : (l.drop (i + 1)).length = q := by simp; omega
      have := wpAny_of_seq (P := P) (ops := l.toArray) (md := .any) (Q' := Q) (l.drop (i + 1)) (i + 1) ((lateL l i t).setIfInBounds t true) a3 w3 (fun j => by simp [List.getElem?_drop]) (by rw [hl3, show q = l.length - i - 1 by omega]; exact hseq2) (by rw [hdt]; exact h3)
      rw [hl3] at this
      exact this
    have ho' : l[i]? = some o := by simpa using ho
    have himem : i ∈ rem := (hrem i).2 ⟨hin', hiun⟩
    have hst := (hstep i o hin' ho').step (n - (f + 1)) a' w' (by omega) hI hLe hdef (fun t ht => hfr t fun j oj hj _ ho => ht j oj hj ho) (fun j oj d hoj hd haft => by
      obtain ⟨e, he0, hb⟩ := List.any_eq_true.1 haft
      have he : e ∈ o.after := Array.mem_toList_iff.1 he0
      simp only [Bool.and_eq_true, beq_iff_eq] at hb
      have hwb1 := List.all_eq_true.1 hwb i (List.mem_range.2 hin')
      simp only [ho'] at hwb1
      have hlt := Array.all_eq_true_iff_forall_mem.1 hwb1 e he
      simp [hb.1] at hlt
      exact hT j oj d (by omega) hoj hd (by rw [← hb.2]; exact hall e he hb.1))
    refine wpOp_mono (fun a'' w'' hK => ?_) hst
    obtain ⟨v, rfl, hI'', hLe'', hTi, hNi⟩ := hK
    have hsub : n - (f + 1) + 1 = n - f := by omega
    rw [hsub] at hI''
    have hputd : (a'.put o.dst v).defers = a'.defers := by cases o.dst <;> rfl
    have hputs : (a'.put o.dst v).tmps.size = a'.tmps.size := by cases hd : o.dst <;> simp [Act.put]
    have hputo : ∀ t, o.dst ≠ some t → (a'.put o.dst v).tmps.getD t undef = a'.tmps.getD t undef := by
      intro t ht
      cases hd : o.dst with
      | none => rfl
      | some d =>
        have hne : d ≠ t := fun e => ht (by rw [hd, e])
        simp [Act.put, Array.getElem?_setIfInBounds_ne hne]
    refine ih (rem.erase i) (listed.setIfInBounds i true) (a'.put o.dst v) w'' (by rw [List.length_erase_of_mem himem, hlen]; rfl) (hnd.erase i) ?_ (hinv.set hi hin') (by omega) hI'' (htrans _ _ _ hLe hLe'') (hputd.trans hdef) (hputs.trans hsz) ?_ ?_ ?_
    · intro j
      rw [hnd.mem_erase_iff]
      constructor
      · rintro ⟨h1, h2⟩
        obtain ⟨h3, h4⟩ := (hrem j).1 h2
        exact ⟨h3, by rw [getD_set_ne true (Ne.symm h1)]; exact h4⟩
      · rintro ⟨h1, h2⟩
        by_cases hij : j = i
        · subst hij
          have hs : j < listed.size := by rw [hinv.size, List.size_toArray]; omega
          simp [hs] at h2
        · rw [getD_set_ne true (Ne.symm hij)] at h2
          exact ⟨hij, (hrem j).2 ⟨h1, h2⟩⟩
    · intro t ht
      have hil : (listed.setIfInBounds i true).getD i false = true := by
        have hs : i < listed.size := by rw [hinv.size, List.size_toArray]; omega
        simp [hs]
      rw [hputo t (ht i o hin' hil ho')]
      refine hfr t fun j oj hj hlj ho2 => ht j oj hj ?_ ho2
      by_cases hij : j = i
      · subst hij; exact hil
      · rw [getD_set_ne false (Ne.symm hij)]; exact hlj
    · intro j oj d hj hoj hd hlj
      by_cases hij : j = i
      · subst hij
        have : oj = o := Option.some.inj (hoj.symm.trans ho')
        subst this
        have hds : d < a'.tmps.size := by rw [hsz]; exact hin j oj d hj hoj hd
        have : (a'.put oj.dst v).tmps.getD d undef = v := by simp [Act.put, hd, hds]
        rw [this]
        exact hTi (by rw [hd]; simp)
      · rw [getD_set_ne false (Ne.symm hij)] at hlj
        have hnd' : o.dst ≠ some d := by
          intro h
          exact dstsApart_spec hap hj hin' hij hoj ho' hd h
        rw [hputo d hnd']
        exact hkept j _ _ _ (hT j oj d hj hoj hd hlj) hLe''
    · intro j oj hj hoj hd hlj
      by_cases hij : j = i
      · subst hij
        have : oj = o := Option.some.inj (hoj.symm.trans ho')
        subst this
        exact hNi hd
      · rw [getD_set_ne false (Ne.symm hij)] at hlj
        exact hkept j _ _ _ (hN j oj hj hoj hd hlj) hLe''

theorem wp_region_keptL {id : Nat} {l tl : List Oper} {n m : Nat} {on om : Oper} {a : Act} {w : World} {Q : Exit → Act → World → Prop} (Le : World → World → Prop) (Inv : Nat → World → Prop) (Tm : Nat → Value → World → Prop)
    (hm : P.follows .mixedOrders = true) (hB : lateB l n m = true) (hon : l.drop n = on :: tl) (hom : l[m]? = some om)
    (hrefl : ∀ w, Le w w) (htrans : ∀ a b c, Le a b → Le b c → Le a c) (hkept : ∀ i v w w', Tm i v w → Le w w' → Tm i v w')
    (hI : ∀ w0, w0 = w ∨ w0 = w.drew → Inv 0 w0)
    (hin : ((l.take n).all fun o => match o.dst with | some d => decide (d < a.tmps.size) | none => true) = true)
    (hstep : ∀ w0, w0 = w ∨ w0 = w.drew → ∀ i o, i < n → l[i]? = some o → Steps P l n a w0 Q Le Inv Tm i o)
    (htail : ∀ w0, w0 = w ∨ w0 = w.drew → ∀ a' w', Inv n w' → Le w0 w' → a'.defers = a.defers → a'.tmps.size = a.tmps.size → (∀ t, (∀ j oj, j < n → l[j]? = some oj → oj.dst ≠ some t) → a'.tmps.getD t undef = a.tmps.getD t undef) →
      (∀ j oj d, j < n → l[j]? = some oj → oj.dst = some d → Tm j (a'.tmps.getD d undef) w') → (∀ j oj, j < n → l[j]? = some oj → oj.dst = none → Tm j undef w') → wpList P l.toArray Q (l.drop n) a' w')
    (hlate : ∀ w0, w0 = w ∨ w0 = w.drew → ∀ a' w', Le w0 w' → a'.defers = a.defers → a'.tmps.size = a.tmps.size → (∀ t, (∀ j oj, j < n → j ≠ m → l[j]? = some oj → oj.dst ≠ some t) → a'.tmps.getD t undef = a.tmps.getD t undef) →
      (∀ j oj d, j < n → j ≠ m → l[j]? = some oj → oj.dst = some d → Tm j (a'.tmps.getD d undef) w') → wpList P l.toArray Q (on :: om :: tl) a' w') :
    (Code.region id l.toArray true).wp P Q a w := by
  have hn : n ≤ l.length := by
    simp only [lateB, Bool.and_eq_true, decide_eq_true_eq] at hB
    exact Nat.le_of_lt hB.1.1.1.1.1.1.1.1
  have hin2 : ∀ i o d, i < n → l[i]? = some o → o.dst = some d → d < a.tmps.size := by
    intro i o d hi ho hd
    have hmem : o ∈ l.take n := List.mem_of_getElem? (i := i) (by rw [List.getElem?_take]; simp [hi, ho])
    have := List.all_eq_true.1 hin o hmem
    simpa [hd] using this
  have key : ∀ w0, w0 = w ∨ w0 = w.drew → wpAny P .any l.toArray Q l.length (Array.replicate l.length false) a w0 := by
    intro w0 hw0
    have h := wpAny_late (P := P) (w := w0) htrans hkept hB hon hom hin2 (hstep w0 hw0) (htail w0 hw0) (hlate w0 hw0) n (List.range n) (Array.replicate l.length false) a w0 (by simp) List.nodup_range
      (fun i => by
        constructor
        · intro h; exact ⟨List.mem_range.1 h, getD_in (by simp; have := List.mem_range.1 h; omega) (getD_replicate_false _ _)⟩
        · intro h; exact List.mem_range.2 h.1)
      ⟨by simp, fun j oj _ hl => (by rw [getD_replicate_false] at hl; cases hl), fun t _ ht => getD_in (by simpa using ht) (getD_replicate_false _ _)⟩
      (Nat.le_refl _) (by simpa using hI w0 hw0) (hrefl _) rfl rfl (fun _ _ => rfl) (fun j oj d _ _ _ hl => by rw [getD_replicate_false] at hl; cases hl) (fun j oj _ _ _ hl => by rw [getD_replicate_false] at hl; cases hl)
    rw [show n + (l.length - n) = l.length by omega] at h
    exact h
  exact wp_region_any hm (by simpa using key w.drew (.inr rfl))

theorem wp_region_late {id : Nat} {l tl : List Oper} {ds ds2 : List (Nat × Tmp)} {on om : Oper} {a : Act} {w : World} {Q : Exit → Act → World → Prop} (n m : Nat)
    (hm : P.follows .mixedOrders = true) (hB : lateB l n m = true)
    (hin : ((l.take n).all fun o => match o.dst with | some d => decide (d < a.tmps.size) | none => true) = true)
    (hds : dstsOf l n = ds) (hds2 : (dstsOf l n).filter (fun x => x.1 != m) = ds2) (htl : l.drop n = on :: tl) (hom : l[m]? = some om)
    (h : FreeFrom P l n a w Q (fun Ts => (∀ (vs : Nat → Value) w', Below w.heap.size w w' → (∀ j d, (ds.any fun x => x.1 == j && x.2 == d) = true → (Ts.getD (n - 1 - j) kbAny).p (vs j) w') → wpList P l.toArray Q (on :: tl) (putAll a vs ds) w') ∧
      (∀ (vs : Nat → Value) w', Below w.heap.size w w' → (∀ j d, (ds2.any fun x => x.1 == j && x.2 == d) = true → (Ts.getD (n - 1 - j) kbAny).p (vs j) w') → wpList P l.toArray Q (on :: om :: tl) (putAll a vs ds2) w')) (l.take n) 0 []) :
    (Code.region id l.toArray true).wp P Q a w := by
  obtain ⟨Us, hT, hl, hs⟩ := free_all _ _ _ h
  simp only [List.append_nil, Nat.zero_add] at hT hs
  have hn : n ≤ l.length := by
    simp only [lateB, Bool.and_eq_true, decide_eq_true_eq] at hB
    exact Nat.le_of_lt hB.1.1.1.1.1.1.1.1
  have hyl : Us.length = n := by rw [hl, List.length_take]; omega
  have hdrew : ∀ w0, w0 = w ∨ w0 = w.drew → ∀ w', Below w0.heap.size w0 w' → Below w.heap.size w w' := by
    rintro w0 (rfl | rfl) w' hb
    · exact hb
    · exact ⟨hb.os, hb.tape, hb.output, hb.size, hb.block⟩
  have hmem : ∀ i o d, i < n → l[i]? = some o → o.dst = some d → (i, d) ∈ dstsOf l n := fun i o d hi ho hd =>
    List.mem_filterMap.2 ⟨i, List.mem_range.2 hi, by simp [ho, hd]⟩
  have hmem2 : ∀ x ∈ dstsOf l n, ∃ o, x.1 < n ∧ l[x.1]? = some o ∧ o.dst = some x.2 := by
    intro x hx
    obtain ⟨i, hi, he⟩ := List.mem_filterMap.1 hx
    cases ho : l[i]? with
    | none => simp [ho] at he
    | some o =>
      cases hd : o.dst with
      | none => simp [ho, hd] at he
      | some d =>
        simp [ho, hd] at he
        subst he
        exact ⟨o, List.mem_range.1 hi, ho, hd⟩
  have hnot : ∀ t, notDst l n t = true → ∀ j oj, j < n → l[j]? = some oj → oj.dst ≠ some t := by
    intro t ht j oj hj ho hd
    have := List.all_eq_true.1 ht _ (hmem j oj t hj ho hd)
    simp at this
  refine wp_region_keptL (n := n) (m := m) (fun a b => Below a.heap.size a b) (fun _ _ => True) (fun j v w => (∃ d, (l[j]?).bind (·.dst) = some d) → (Us.getD (n - 1 - j) kbAny).p v w) hm hB htl hom (fun w => Below.refl _ w) (fun _ _ _ h1 h2 => Below.tr h1 h2) (fun _ _ _ _ h hb hd => KB.k _ _ _ _ (h hd) hb)
    (fun _ _ => trivial) hin ?_ ?_ ?_
  · intro w0 hw0 i o hi ho
    refine ⟨fun k a' w' _ _ hLe hdef hfr hdep => ?_⟩
    have hst := hs i o (by rw [List.getElem?_take]; simp [hi, ho])
    rw [hyl] at hst
    have := hst a' w' (hdrew _ hw0 _ hLe) (fun t ht => hfr t (hnot t ht)) (fun j d hj hd ha => by
      cases hoj : l[j]? with
      | none => simp [hoj] at hd
      | some oj =>
        have hd' : oj.dst = some d := by simpa [hoj] using hd
        have := hdep j oj d hoj hd' ha ⟨d, hd⟩
        have e : ((Us.drop (n - i)).getD (i - 1 - j) kbAny) = Us.getD (n - 1 - j) kbAny := by
          rw [List.getD_eq_getElem?_getD, List.getD_eq_getElem?_getD, List.getElem?_drop]
          congr 2
          omega
        rw [e]
        exact this)
    refine wpOp_mono ?_ this
    rintro a'' w'' ⟨v, h1, h2, h3⟩
    exact ⟨v, h1, trivial, h2, fun _ _ => h3, fun hd => fun ⟨d, hd2⟩ => by simp [ho, hd] at hd2⟩
  · intro w0 hw0 a' w' _ hLe hdef hsz hfr hT' hN
    have hv : ∀ x ∈ dstsOf l n, (match (l[x.1]?).bind (·.dst) with | some d => a'.tmps.getD d undef | none => undef) = a'.tmps.getD x.2 undef := by
      intro x hx
      obtain ⟨o, h1, h2, h3⟩ := hmem2 x hx
      simp [h2, h3]
    have e : a' = putAll a (fun i => match (l[i]?).bind (·.dst) with | some d => a'.tmps.getD d undef | none => undef) (dstsOf l n) :=
      act_putAll hdef hsz (fun t ht => hfr t fun j oj hj ho hd => ht (j, t) (hmem j oj t hj ho hd) rfl) _ hv
    rw [e, htl, hds]
    refine hT.1 _ w' (hdrew _ hw0 _ hLe) fun j d hj => ?_
    obtain ⟨x, hx, he⟩ := List.any_eq_true.1 hj
    simp only [Bool.and_eq_true, beq_iff_eq] at he
    rw [← hds] at hx
    obtain ⟨o, h1, h2, h3⟩ := hmem2 x hx
    have := hT' x.1 o x.2 h1 h2 h3 ⟨x.2, by simp [h2, h3]⟩
    rw [he.1] at this h2
    have e2 : (match (l[j]?).bind (·.dst) with | some d => a'.tmps.getD d undef | none => undef) = a'.tmps.getD x.2 undef := by simp [h2, h3]
    rw [e2]
    exact this
  · intro w0 hw0 a' w' hLe hdef hsz hfr hT'
    have hv : ∀ x ∈ (dstsOf l n).filter (fun x => x.1 != m), (match (l[x.1]?).bind (·.dst) with | some d => a'.tmps.getD d undef | none => undef) = a'.tmps.getD x.2 undef := by
      intro x hx
      obtain ⟨o, h1, h2, h3⟩ := hmem2 x (List.mem_filter.1 hx).1
      simp [h2, h3]
    have e : a' = putAll a (fun i => match (l[i]?).bind (·.dst) with | some d => a'.tmps.getD d undef | none => undef) ((dstsOf l n).filter fun x => x.1 != m) :=
      act_putAll hdef hsz (fun t ht => hfr t fun j oj hj hjm ho hd => ht (j, t) (List.mem_filter.2 ⟨hmem j oj t hj ho hd, by simpa using hjm⟩) rfl) _ hv
    rw [e, hds2]
    refine hT.2 _ w' (hdrew _ hw0 _ hLe) fun j d hj => ?_
    obtain ⟨x, hx, he⟩ := List.any_eq_true.1 hj
    simp only [Bool.and_eq_true, beq_iff_eq] at he
    rw [← hds2] at hx
    obtain ⟨hx, hxm⟩ := List.mem_filter.1 hx
    obtain ⟨o, h1, h2, h3⟩ := hmem2 x hx
    have := hT' x.1 o x.2 h1 (by simpa using hxm) h2 h3 ⟨x.2, by simp [h2, h3]⟩
    rw [he.1] at this h2
    have e2 : (match (l[j]?).bind (·.dst) with | some d => a'.tmps.getD d undef | none => undef) = a'.tmps.getD x.2 undef := by simp [h2, h3]
    rw [e2]
    exact this
end
end Go.Proofs.Ytahniedcflfdmaa
