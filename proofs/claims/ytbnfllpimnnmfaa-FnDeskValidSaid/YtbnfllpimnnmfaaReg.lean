/-
  A region whose operations may come up in more than one order, met by what each operation yields: what a slot holds is said by a predicate that later operations keep, so no order need be looked at by itself.
-/
import Derived.WalkKit
import Derived.StillTail
import Derived.Deep.Cut
import Derived.Test.YtbnfllpimnnmfaaDraw
namespace Go.Proofs.Ytbnfllpimnnmfaa
open Go Go.RowKit

section
variable {P : Program}

/-- The head of a region (its first n operations, in whatever order), then its tail in the text's order. 'Tm i': what operation i's slot holds; 'Le': how the world may turn; 'Inv k': what holds when k operations have come up. -/
structure Steps (P : Program) (l : List Oper) (n : Nat) (a : Act) (w : World) (Q : Exit → Act → World → Prop) (Le : World → World → Prop) (Inv : Nat → World → Prop) (Tm : Nat → Value → World → Prop) (i : Nat) (o : Oper) : Prop where
  step : ∀ k a' w', k < n → Inv k w' → Le w w' → a'.defers = a.defers → (∀ t, (∀ j oj, j < n → l[j]? = some oj → oj.dst ≠ some t) → a'.tmps.getD t undef = a.tmps.getD t undef) →
    (∀ j oj d, l[j]? = some oj → oj.dst = some d → (o.after.toList.any fun e => Region.binds .any e && e.on == j) = true → Tm j (a'.tmps.getD d undef) w') →
    wpOp P l.toArray Q i (fun a'' w'' => ∃ v, a'' = a'.put o.dst v ∧ Inv (k + 1) w'' ∧ Le w' w'' ∧ (o.dst ≠ none → Tm i v w'') ∧ (o.dst = none → Tm i undef w'')) a' w'

/-- The first n operations write slots of their own. -/
def dstsApart (l : List Oper) (n : Nat) : Bool :=
  (List.range n).all fun i => (List.range n).all fun j => i == j || match l[i]?, l[j]? with
    | some oi, some oj => oi.dst.isNone || oi.dst != oj.dst
    | _, _ => true

theorem dstsApart_spec {l : List Oper} {n : Nat} (h : dstsApart l n = true) {i j : Nat} {oi oj : Oper} {d : Tmp} (hi : i < n) (hj : j < n) (hne : i ≠ j) (hoi : l[i]? = some oi) (hoj : l[j]? = some oj) (hd : oi.dst = some d) : oj.dst ≠ some d := by
  have h1 := List.all_eq_true.1 (List.all_eq_true.1 h i (List.mem_range.2 hi)) j (List.mem_range.2 hj)
  simp only [hoi, hoj, hd, Bool.or_eq_true, beq_iff_eq] at h1
  rcases h1 with h1 | h1
  · exact absurd h1 hne
  · intro h2; simp [h2] at h1

/-- Each of the first n operations waits for earlier ones alone. -/
def waitsBack (l : List Oper) (n : Nat) : Bool :=
  (List.range n).all fun i => match l[i]? with
    | some o => o.after.all fun e => !Region.binds .any e || decide (e.on < i)
    | none => true

def headTailB (l : List Oper) (n : Nat) : Bool :=
  decide (n ≤ l.length) && dstsApart l n && waitsBack l n && (decide (n = l.length) || (decide (n < l.length) && Region.sinkB .any l.toArray n && Region.chainB .any l.toArray n)) &&
    Region.seqB .any l.toArray (l.length - n) n (Array.replicate n true ++ Array.replicate (l.length - n) false)

theorem wpAny_kept {l : List Oper} {n : Nat} {a : Act} {w : World} {Q : Exit → Act → World → Prop} {Le : World → World → Prop} {Inv : Nat → World → Prop} {Tm : Nat → Value → World → Prop}
    (htrans : ∀ a b c, Le a b → Le b c → Le a c) (hkept : ∀ i v w w', Tm i v w → Le w w' → Tm i v w')
    (hB : headTailB l n = true)
    (hin : ∀ i o d, i < n → l[i]? = some o → o.dst = some d → d < a.tmps.size)
    (hstep : ∀ i o, i < n → l[i]? = some o → Steps P l n a w Q Le Inv Tm i o)
    (htail : ∀ a' w', Inv n w' → Le w w' → a'.defers = a.defers → a'.tmps.size = a.tmps.size → (∀ t, (∀ j oj, j < n → l[j]? = some oj → oj.dst ≠ some t) → a'.tmps.getD t undef = a.tmps.getD t undef) →
      (∀ j oj d, j < n → l[j]? = some oj → oj.dst = some d → Tm j (a'.tmps.getD d undef) w') → (∀ j oj, j < n → l[j]? = some oj → oj.dst = none → Tm j undef w') → wpList P l.toArray Q (l.drop n) a' w') :
    ∀ (f : Nat) (rem : List Nat) (listed : Array Bool) (a' : Act) (w' : World), rem.length = f → rem.Nodup → (∀ i, i ∈ rem ↔ i < n ∧ listed.getD i true = false) → HeadInv .any l.toArray n listed →
      f ≤ n → Inv (n - f) w' → Le w w' → a'.defers = a.defers → a'.tmps.size = a.tmps.size → (∀ t, (∀ j oj, j < n → l[j]? = some oj → oj.dst ≠ some t) → a'.tmps.getD t undef = a.tmps.getD t undef) →
      (∀ j oj d, j < n → l[j]? = some oj → oj.dst = some d → listed.getD j false = true → Tm j (a'.tmps.getD d undef) w') →
      (∀ j oj, j < n → l[j]? = some oj → oj.dst = none → listed.getD j false = true → Tm j undef w') →
      wpAny P .any l.toArray Q (f + (l.length - n)) listed a' w' := by
  simp only [headTailB, Bool.and_eq_true, Bool.or_eq_true, decide_eq_true_eq] at hB
  obtain ⟨⟨⟨⟨hn, hap⟩, hwb⟩, htl⟩, hseq⟩ := hB
  intro f
  induction f with
  | zero =>
    intro rem listed a' w' hlen _ hrem hinv _ hI hLe hdef hsz hfr hT hN
    have hall : ∀ i, i < n → listed.getD i false = true := fun i hi => by
      have hnot : ¬ (i < n ∧ listed.getD i true = false) := fun h => by
        have := (hrem i).2 h
        rw [List.eq_nil_of_length_eq_zero hlen] at this
        cases this
      have hs : i < listed.size := by rw [hinv.size, List.size_toArray]; omega
      have h1 : listed.getD i true = true := by
        cases h : listed.getD i true with
        | true => rfl
        | false => exact absurd ⟨hi, h⟩ hnot
      simpa [hs] using h1
    have hlisted : listed = Array.replicate n true ++ Array.replicate (l.length - n) false := by
      apply Array.ext
      · rw [hinv.size]; simp; omega
      · intro i h1 h2
        rcases Nat.lt_or_ge i n with h | h
        · have := hall i h
          rw [Array.getElem_append_left (by simpa using h)]
          simpa [h1] using this
        · have := hinv.tail i h (by rw [← hinv.size]; exact h1)
          rw [Array.getElem_append_right (by simpa using h)]
          simpa [h1] using this
    have hl : (l.drop n).length = l.length - n := by simp
    have := wpAny_of_seq (P := P) (ops := l.toArray) (md := .any) (Q' := Q) (l.drop n) n listed a' w' (fun j => by simp [List.getElem?_drop]) (by rw [hl, hlisted]; exact hseq)
      (htail a' w' (by simpa using hI) hLe hdef hsz hfr (fun j oj d hj ho hd => hT j oj d hj ho hd (hall j hj)) (fun j oj hj ho hd => hN j oj hj ho hd (hall j hj)))
    rw [Nat.zero_add, ← hl]
    exact this
  | succ f ih =>
    intro rem listed a' w' hlen hnd hrem hinv hfn hI hLe hdef hsz hfr hT hN
    have hlow : ∀ t ∈ Region.ready .any l.toArray listed, t < n := by
      intro t ht
      obtain ⟨i, hi⟩ : ∃ i, i ∈ rem := by
        cases rem with
        | nil => cases hlen
        | cons x xs => exact ⟨x, List.mem_cons_self⟩
      obtain ⟨hi1, hi2⟩ := (hrem i).1 hi
      rcases Nat.lt_or_ge t n with h | h
      · exact h
      · rcases htl with htl | ⟨⟨htl1, hs⟩, hc⟩
        · obtain ⟨_, o, ho, _⟩ := mem_ready.1 ht
          have : t < l.toArray.size := (Array.getElem?_eq_some_iff.1 ho).1
          rw [List.size_toArray] at this
          omega
        · exact absurd ht (tail_waits hs hc (by simpa using htl1) hinv _ i rfl hi1 hi2 t h)
    have hne : Region.ready .any l.toArray listed ≠ [] := by
      -- the least operation that has not come up is ready
      have key : ∀ (d i : Nat), i ≤ d → i ∈ rem → ∃ t, t ∈ Region.ready .any l.toArray listed := by
        intro d
        induction d with
        | zero =>
          intro i hid hi
          obtain ⟨hi1, hi2⟩ := (hrem i).1 hi
          have hlt : i < l.length := by omega
          refine ⟨i, mem_ready.2 ⟨hi2, l[i], by simp [hlt], fun e he hb => ?_⟩⟩
          have h1 := List.all_eq_true.1 hwb i (List.mem_range.2 hi1)
          simp only [List.getElem?_eq_getElem hlt] at h1
          have h2 := Array.all_eq_true_iff_forall_mem.1 h1 e he
          simp [hb] at h2
          omega
        | succ d ihd =>
          intro i hid hi
          obtain ⟨hi1, hi2⟩ := (hrem i).1 hi
          have hlt : i < l.length := by omega
          by_cases hdone : ∀ e ∈ l[i].after, Region.binds .any e = true → listed.getD e.on false = true
          · exact ⟨i, mem_ready.2 ⟨hi2, l[i], by simp [hlt], hdone⟩⟩
          · have : ∃ e, e ∈ l[i].after ∧ Region.binds .any e = true ∧ listed.getD e.on false ≠ true := Classical.byContradiction fun hcon => hdone fun e he hb => Classical.byContradiction fun hx => hcon ⟨e, he, hb, hx⟩
            obtain ⟨e, he, hb, hx⟩ := this
            have h1 := List.all_eq_true.1 hwb i (List.mem_range.2 hi1)
            simp only [List.getElem?_eq_getElem hlt] at h1
            have h2 := Array.all_eq_true_iff_forall_mem.1 h1 e he
            simp [hb] at h2
            have hes : e.on < listed.size := by rw [hinv.size, List.size_toArray]; omega
            have hx' : listed.getD e.on true = false := getD_in hes (by simpa using hx)
            exact ihd e.on (by omega) ((hrem e.on).2 ⟨by omega, hx'⟩)
      obtain ⟨i, hi⟩ : ∃ i, i ∈ rem := by
        cases rem with
        | nil => cases hlen
        | cons x xs => exact ⟨x, List.mem_cons_self⟩
      obtain ⟨t, ht⟩ := key i i (Nat.le_refl _) hi
      intro h0
      rw [h0] at ht
      cases ht
    rw [show f + 1 + (l.length - n) = (f + (l.length - n)) + 1 by omega]
    refine ⟨fun h => absurd h hne, fun i hi => ?_⟩
    have hin' : i < n := hlow i hi
    obtain ⟨hiun, o, ho, hall⟩ := mem_ready.1 hi
    have ho' : l[i]? = some o := by simpa using ho
    have himem : i ∈ rem := (hrem i).2 ⟨hin', hiun⟩
    have hst := (hstep i o hin' ho').step (n - (f + 1)) a' w' (by omega) hI hLe hdef hfr (fun j oj d hoj hd haft => by
      obtain ⟨e, he0, hb⟩ := List.any_eq_true.1 haft
      have he : e ∈ o.after := Array.mem_toList_iff.1 he0
      simp only [Bool.and_eq_true, beq_iff_eq] at hb
      have hwb1 := List.all_eq_true.1 hwb i (List.mem_range.2 hin')
      simp only [ho'] at hwb1
      have hlt := Array.all_eq_true_iff_forall_mem.1 hwb1 e he
      simp [hb.1] at hlt
      exact hT j oj d (by omega) hoj hd (by rw [← hb.2]; exact hall e he hb.1))
    refine wpOp_mono (fun a'' w'' hK => ?_) hst
    obtain ⟨v, rfl, hI'', hLe'', hTi, hNi⟩ := hK
    have hsub : n - (f + 1) + 1 = n - f := by omega
    rw [hsub] at hI''
    have hputd : (a'.put o.dst v).defers = a'.defers := by cases o.dst <;> rfl
    have hputs : (a'.put o.dst v).tmps.size = a'.tmps.size := by cases hd : o.dst <;> simp [Act.put]
    have hputo : ∀ t, o.dst ≠ some t → (a'.put o.dst v).tmps.getD t undef = a'.tmps.getD t undef := by
      intro t ht
      cases hd : o.dst with
      | none => rfl
      | some d =>
        have hne : d ≠ t := fun e => ht (by rw [hd, e])
        simp [Act.put, Array.getElem?_setIfInBounds_ne hne]
    refine ih (rem.erase i) (listed.setIfInBounds i true) (a'.put o.dst v) w'' (by rw [List.length_erase_of_mem himem, hlen]; rfl) (hnd.erase i) ?_ (hinv.set hi hin') (by omega) hI'' (htrans _ _ _ hLe hLe'') (hputd.trans hdef) (hputs.trans hsz) ?_ ?_ ?_
    · intro j
      rw [hnd.mem_erase_iff]
      constructor
      · rintro ⟨h1, h2⟩
        obtain ⟨h3, h4⟩ := (hrem j).1 h2
        exact ⟨h3, by rw [getD_set_ne true (Ne.symm h1)]; exact h4⟩
      · rintro ⟨h1, h2⟩
        by_cases hij : j = i
        · subst hij
          have hs : j < listed.size := by rw [hinv.size, List.size_toArray]; omega
          simp [hs] at h2
        · rw [getD_set_ne true (Ne.symm hij)] at h2
          exact ⟨hij, (hrem j).2 ⟨h1, h2⟩⟩
    · intro t ht
      rw [hputo t (ht i o hin' ho')]
      exact hfr t ht
    · intro j oj d hj hoj hd hlj
      by_cases hij : j = i
      · subst hij
        have : oj = o := Option.some.inj (hoj.symm.trans ho')
        subst this
        have hds : d < a'.tmps.size := by rw [hsz]; exact hin j oj d hj hoj hd
        have : (a'.put oj.dst v).tmps.getD d undef = v := by simp [Act.put, hd, hds]
        rw [this]
        exact hTi (by rw [hd]; simp)
      · rw [getD_set_ne false (Ne.symm hij)] at hlj
        have hnd' : o.dst ≠ some d := by
          intro h
          exact dstsApart_spec hap hj hin' hij hoj ho' hd h
        rw [hputo d hnd']
        exact hkept j _ _ _ (hT j oj d hj hoj hd hlj) hLe''
    · intro j oj hj hoj hd hlj
      by_cases hij : j = i
      · subst hij
        have : oj = o := Option.some.inj (hoj.symm.trans ho')
        subst this
        exact hNi hd
      · rw [getD_set_ne false (Ne.symm hij)] at hlj
        exact hkept j _ _ _ (hN j oj hj hoj hd hlj) hLe''

theorem wpAny_text {l : List Oper} {Q : Exit → Act → World → Prop} (hwb : waitsBack l l.length = true) :
    ∀ (f k : Nat) (a : Act) (w : World), k + f = l.length → wpAny P .any l.toArray Q f (Array.replicate k true ++ Array.replicate f false) a w → wpOps P l.toArray Q (List.range' k f) a w := by
  intro f
  induction f with
  | zero => intro k a w _ h; simpa [wpOps] using h.2
  | succ f ih =>
    intro k a w hk h
    have hlt : k < l.length := by omega
    have hget : ∀ j, j < k → (Array.replicate k true ++ Array.replicate (f + 1) false).getD j false = true := by
      intro j hj
      have hs : j < (Array.replicate k true ++ Array.replicate (f + 1) false).size := by simp; omega
      simp [Array.getElem?_append, hj]
    have hready : k ∈ Region.ready .any l.toArray (Array.replicate k true ++ Array.replicate (f + 1) false) := by
      refine mem_ready.2 ⟨?_, l[k], by simp [hlt], fun e he hb => ?_⟩
      · simp
      · have h1 := List.all_eq_true.1 hwb k (List.mem_range.2 hlt)
        simp only [List.getElem?_eq_getElem hlt] at h1
        have h2 := Array.all_eq_true_iff_forall_mem.1 h1 e he
        simp [hb] at h2
        exact hget _ h2
    have h1 := h.2 k hready
    rw [List.range'_succ, wpOps_cons]
    refine wpOp_mono (fun a' w' h' => ih (k + 1) a' w' (by omega) ?_) h1
    have e : (Array.replicate k true ++ Array.replicate (f + 1) false).setIfInBounds k true = Array.replicate (k + 1) true ++ Array.replicate f false := by
      apply Array.ext_getElem?
      intro i
      rw [Array.getElem?_setIfInBounds]
      simp only [Array.getElem?_append, Array.size_replicate, Array.getElem?_replicate, Array.size_append]
      by_cases hik : k = i
      · subst hik
        simp
      · by_cases hi : i < k
        · simp [hik, hi, show i < k + 1 by omega]
        · by_cases hf : i - k < f + 1
          · simp [hik, hi, show ¬ i < k + 1 by omega, hf, show i - (k + 1) < f by omega]
          · simp [hik, hi, show ¬ i < k + 1 by omega, hf, show ¬ i - (k + 1) < f by omega]
    rw [← e]
    exact h'

theorem wp_region_kept {id : Nat} {l : List Oper} {dr : Bool} {n : Nat} {a : Act} {w : World} {Q : Exit → Act → World → Prop} (Le : World → World → Prop) (Inv : Nat → World → Prop) (Tm : Nat → Value → World → Prop)
    (hm : P.follows .mixedOrders = true) (hB : headTailB l n = true) (hwb : dr = true ∨ waitsBack l l.length = true)
    (hrefl : ∀ w, Le w w) (htrans : ∀ a b c, Le a b → Le b c → Le a c) (hkept : ∀ i v w w', Tm i v w → Le w w' → Tm i v w')
    (hI : ∀ w0, w0 = w ∨ w0 = w.drew → Inv 0 w0)
    (hin : ((l.take n).all fun o => match o.dst with | some d => decide (d < a.tmps.size) | none => true) = true)
    (hstep : ∀ w0, w0 = w ∨ w0 = w.drew → ∀ i o, i < n → l[i]? = some o → Steps P l n a w0 Q Le Inv Tm i o)
    (htail : ∀ w0, w0 = w ∨ w0 = w.drew → ∀ a' w', Inv n w' → Le w0 w' → a'.defers = a.defers → a'.tmps.size = a.tmps.size → (∀ t, (∀ j oj, j < n → l[j]? = some oj → oj.dst ≠ some t) → a'.tmps.getD t undef = a.tmps.getD t undef) →
      (∀ j oj d, j < n → l[j]? = some oj → oj.dst = some d → Tm j (a'.tmps.getD d undef) w') → (∀ j oj, j < n → l[j]? = some oj → oj.dst = none → Tm j undef w') → wpList P l.toArray Q (l.drop n) a' w') :
    (Code.region id l.toArray dr).wp P Q a w := by
  have hn : n ≤ l.length := by
    simp only [headTailB, Bool.and_eq_true, decide_eq_true_eq] at hB
    exact hB.1.1.1.1
  have hin2 : ∀ i o d, i < n → l[i]? = some o → o.dst = some d → d < a.tmps.size := by
    intro i o d hi ho hd
    have hmem : o ∈ l.take n := List.mem_of_getElem? (i := i) (by rw [List.getElem?_take]; simp [hi, ho])
    have := List.all_eq_true.1 hin o hmem
    simpa [hd] using this
  have key : ∀ w0, w0 = w ∨ w0 = w.drew → wpAny P .any l.toArray Q l.length (Array.replicate l.length false) a w0 := by
    intro w0 hw0
    have h := wpAny_kept (P := P) (w := w0) htrans hkept hB hin2 (hstep w0 hw0) (htail w0 hw0) n (List.range n) (Array.replicate l.length false) a w0 (by simp) List.nodup_range
      (fun i => by
        constructor
        · intro h; exact ⟨List.mem_range.1 h, getD_in (by simp; have := List.mem_range.1 h; omega) (getD_replicate_false _ _)⟩
        · intro h; exact List.mem_range.2 h.1)
      ⟨by simp, fun j oj _ hl => (by rw [getD_replicate_false] at hl; cases hl), fun t _ ht => getD_in (by simpa using ht) (getD_replicate_false _ _)⟩
      (Nat.le_refl _) (by simpa using hI w0 hw0) (hrefl _) rfl rfl (fun _ _ => rfl) (fun j oj d _ _ _ hl => by rw [getD_replicate_false] at hl; cases hl) (fun j oj _ _ _ hl => by rw [getD_replicate_false] at hl; cases hl)
    rw [show n + (l.length - n) = l.length by omega] at h
    exact h
  cases dr with
  | true => exact wp_region_any hm (by simpa using key w.drew (.inr rfl))
  | false =>
    refine wp_region ?_
    have hwb' : waitsBack l l.length = true := hwb.resolve_left (by simp)
    have := wpAny_text (P := P) (Q := Q) hwb' l.length 0 a w (by omega) (by simpa using key w (.inl rfl))
    rw [List.range_eq_range', List.size_toArray]
    exact this

/-- The slots that the first n operations write, with each operation's place. -/
def dstsOf (l : List Oper) (n : Nat) : List (Nat × Tmp) := (List.range n).filterMap fun i => (l[i]?).bind fun o => o.dst.map fun d => (i, d)
def putAll (a : Act) (vs : Nat → Value) : List (Nat × Tmp) → Act
  | [] => a
  | (i, d) :: r => (putAll a vs r).put (some d) (vs i)

theorem putAll_defers (a : Act) (vs : Nat → Value) : ∀ l, (putAll a vs l).defers = a.defers
  | [] => rfl
  | _ :: r => putAll_defers a vs r
theorem putAll_size (a : Act) (vs : Nat → Value) : ∀ l, (putAll a vs l).tmps.size = a.tmps.size
  | [] => rfl
  | _ :: r => by simp [putAll, Act.put, putAll_size a vs r]
theorem putAll_out (a : Act) (vs : Nat → Value) (t : Tmp) : ∀ l : List (Nat × Tmp), (∀ p ∈ l, p.2 ≠ t) → (putAll a vs l).tmps.getD t undef = a.tmps.getD t undef
  | [], _ => rfl
  | (i, d) :: r, h => by
    have hd : d ≠ t := h (i, d) List.mem_cons_self
    have := putAll_out a vs t r fun p hp => h p (List.mem_cons_of_mem _ hp)
    simp only [putAll, Act.put]
    rw [← this]
    simp [Array.getElem?_setIfInBounds_ne hd]
theorem putAll_in (a : Act) (vs : Nat → Value) (t : Tmp) (ht : t < a.tmps.size) (v : Value) : ∀ l : List (Nat × Tmp), (∀ p ∈ l, p.2 = t → vs p.1 = v) → (∃ p ∈ l, p.2 = t) → (putAll a vs l).tmps.getD t undef = v
  | [], _, h => by obtain ⟨p, hp, _⟩ := h; cases hp
  | (i, d) :: r, h, hex => by
    by_cases hd : d = t
    · subst hd
      have hv := h (i, d) List.mem_cons_self rfl
      have hs : d < (putAll a vs r).tmps.size := by rw [putAll_size]; exact ht
      simp [putAll, Act.put, hs, hv]
    · have hex' : ∃ p ∈ r, p.2 = t := by
        obtain ⟨p, hp, he⟩ := hex
        rcases List.mem_cons.1 hp with rfl | hp
        · exact absurd he hd
        · exact ⟨p, hp, he⟩
      have := putAll_in a vs t ht v r (fun p hp => h p (List.mem_cons_of_mem _ hp)) hex'
      simp only [putAll, Act.put]
      rw [← this]
      simp [Array.getElem?_setIfInBounds_ne hd]

theorem grown_of_drew {w w' : World} {r : Option Nat} (h : w.drew.grownBy w' r) : w.grownBy w' r := ⟨h.os, h.tape, h.output, h.size, h.block⟩

theorem act_putAll {a a' : Act} {l : List (Nat × Tmp)} (hdef : a'.defers = a.defers) (hsz : a'.tmps.size = a.tmps.size) (hfr : ∀ t, (∀ p ∈ l, p.2 ≠ t) → a'.tmps.getD t undef = a.tmps.getD t undef)
    (vs : Nat → Value) (hvs : ∀ p ∈ l, vs p.1 = a'.tmps.getD p.2 undef) : a' = putAll a vs l := by
  have ht : a'.tmps = (putAll a vs l).tmps := by
    apply Array.ext
    · rw [hsz, putAll_size]
    · intro t h1 h2
      have key : a'.tmps.getD t undef = (putAll a vs l).tmps.getD t undef := by
        by_cases hex : ∃ p ∈ l, p.2 = t
        · exact (putAll_in a vs t (by rw [← hsz]; exact h1) _ l (fun p hp he => by rw [hvs p hp, he]) hex).symm
        · have hno : ∀ p ∈ l, p.2 ≠ t := fun p hp he => hex ⟨p, hp, he⟩
          rw [hfr t hno, putAll_out a vs t l hno]
      simpa [h1, h2] using key
  have hd : a'.defers = (putAll a vs l).defers := by rw [hdef, putAll_defers]
  cases a'
  cases h : putAll a vs l
  simp only [h] at ht hd
  simp [ht, hd]

def notDst (l : List Oper) (n : Nat) (t : Tmp) : Bool := (dstsOf l n).all fun p => p.2 != t

/-- Old memory stays but for the reader's block g; block z may be set to what O allows. (z = g: there is no such block; O tells what it may hold.) -/
structure Turns (g z : Nat) (O : Obj → Prop) (w w' : World) : Prop where
  os : w'.os = w.os
  tape : w'.tape = w.tape
  output : w'.output = w.output
  size : w.heap.size ≤ w'.heap.size
  block : ∀ k, k < w.heap.size → k ≠ g → w'.heap[k]? = w.heap[k]? ∨ (k = z ∧ ∃ o, O o ∧ w'.heap[k]? = some o)

section
variable {g z : Nat} {O : Obj → Prop}
theorem Turns.refl (w : World) : Turns g z O w w := ⟨rfl, rfl, rfl, Nat.le_refl _, fun _ _ _ => .inl rfl⟩
theorem Turns.trans {a b c : World} (h : Turns g z O a b) (k : Turns g z O b c) : Turns g z O a c :=
  ⟨k.os.trans h.os, k.tape.trans h.tape, k.output.trans h.output, Nat.le_trans h.size k.size, fun i hi hne => by
    rcases k.block i (Nat.lt_of_lt_of_le hi h.size) hne with h1 | h1
    · rcases h.block i hi hne with h2 | h2
      · exact .inl (h1.trans h2)
      · obtain ⟨e, o, ho, h2⟩ := h2
        exact .inr ⟨e, o, ho, h1.trans h2⟩
    · exact .inr h1⟩
theorem Turns.of_grown {a b : World} (h : a.grownBy b (some g)) : Turns g z O a b := ⟨h.os, h.tape, h.output, h.size, fun k hk hne => .inl (h.block k hk (by simpa using hne))⟩
theorem Turns.grown {a b : World} (h : Turns g g O a b) : a.grownBy b (some g) :=
  ⟨h.os, h.tape, h.output, h.size, fun k hk hne => by
    have hne' : k ≠ g := by simpa using hne
    exact (h.block k hk hne').resolve_right fun e => hne' e.1⟩
theorem Turns.of_drew {w w' : World} (h : Turns g z O w.drew w') : Turns g z O w w' := ⟨h.os, h.tape, h.output, h.size, h.block⟩
theorem Turns.alloc (w : World) (o : Obj) : Turns g z O w (w.alloc o) := Turns.of_grown (grown_alloc (grown_refl w _) o)
/-- A block that is neither g nor z. -/
theorem Turns.keep {a b : World} (h : Turns g z O a b) {k : Nat} {o : Obj} (hk : a.heap[k]? = some o) (h1 : k ≠ g) (h2 : k ≠ z) : b.heap[k]? = some o :=
  ((h.block k (heap_lt hk) h1).resolve_right fun e => h2 e.1).trans hk
/-- Block z holds what it held, or O. -/
theorem Turns.at_z {a b : World} (h : Turns g z O a b) (hz : z < a.heap.size) (hne : z ≠ g) : b.heap[z]? = a.heap[z]? ∨ ∃ o, O o ∧ b.heap[z]? = some o :=
  (h.block z hz hne).imp id (·.2)
theorem Turns.below {a b : World} (h : Turns g z O a b) {B : Nat} (hB : B ≤ a.heap.size) (hg : B ≤ g) (hz : B ≤ z) : Below B a b :=
  ⟨h.os, h.tape, h.output, h.size, fun k hk => (h.block k (by omega) (by omega)).resolve_right fun e => by omega⟩
end

/-- A region of a draw: of old memory only the reader's block turns, and block z; each operation moves the reader by at most K. -/
theorem wp_region_rd {id : Nat} {l : List Oper} {dr : Bool} {a : Act} {w : World} {Q : Exit → Act → World → Prop} {B g z : Nat} {O : Obj → Prop} {A : Option Addr} {m c p : Nat} (n K : Nat) (Tm : Nat → Value → World → Prop)
    (hm : P.follows .mixedOrders = true) (hB : headTailB l n = true) (hwb : dr = true ∨ waitsBack l l.length = true) (hR : Rd w B g A m c p)
    (hkept : ∀ i v w w', Tm i v w → Turns g z O w w' → Tm i v w')
    (hin : ((l.take n).all fun o => match o.dst with | some d => decide (d < a.tmps.size) | none => true) = true)
    (hstep : ∀ i o, i < n → l[i]? = some o → ∀ q a' w', q ≤ p + K * n → Rd w' B g A m c q → Turns g z O w w' → (∀ t, notDst l n t = true → a'.tmps.getD t undef = a.tmps.getD t undef) →
      (∀ j oj d, l[j]? = some oj → oj.dst = some d → (o.after.toList.any fun e => Region.binds .any e && e.on == j) = true → Tm j (a'.tmps.getD d undef) w') →
      wpOp P l.toArray Q i (fun a'' w'' => ∃ v q', a'' = a'.put o.dst v ∧ q' ≤ q + K ∧ Rd w'' B g A m c q' ∧ Turns g z O w' w'' ∧ Tm i v w'' ∧ (o.dst = none → v = undef)) a' w')
    (htail : ∀ (vs : Nat → Value) w' q, q ≤ p + K * n → Rd w' B g A m c q → Turns g z O w w' → (∀ x ∈ dstsOf l n, Tm x.1 (vs x.1) w') → (∀ j oj, j < n → l[j]? = some oj → oj.dst = none → Tm j undef w') → wpList P l.toArray Q (l.drop n) (putAll a vs (dstsOf l n)) w') :
    (Code.region id l.toArray dr).wp P Q a w := by
  have hgr : ∀ w0 w', w0 = w ∨ w0 = w.drew → Turns g z O w0 w' → Turns g z O w w' := by
    rintro w0 w' (rfl | rfl) h
    · exact h
    · exact h.of_drew
  have hmem : ∀ i o d, i < n → l[i]? = some o → o.dst = some d → (i, d) ∈ dstsOf l n := fun i o d hi ho hd =>
    List.mem_filterMap.2 ⟨i, List.mem_range.2 hi, by simp [ho, hd]⟩
  have hmem2 : ∀ x ∈ dstsOf l n, ∃ o, x.1 < n ∧ l[x.1]? = some o ∧ o.dst = some x.2 := by
    intro x hx
    obtain ⟨i, hi, he⟩ := List.mem_filterMap.1 hx
    cases ho : l[i]? with
    | none => simp [ho] at he
    | some o =>
      cases hd : o.dst with
      | none => simp [ho, hd] at he
      | some d =>
        simp [ho, hd] at he
        subst he
        exact ⟨o, List.mem_range.1 hi, ho, hd⟩
  have hnot : ∀ t, notDst l n t = true → ∀ j oj, j < n → l[j]? = some oj → oj.dst ≠ some t := by
    intro t ht j oj hj ho hd
    have := List.all_eq_true.1 ht _ (hmem j oj t hj ho hd)
    simp at this
  refine wp_region_kept (n := n) (fun w w' => Turns g z O w w') (fun k w' => ∃ q, q ≤ p + K * k ∧ Rd w' B g A m c q) Tm hm hB hwb (fun w => Turns.refl w) (fun _ _ _ h1 h2 => h1.trans h2) hkept
    (fun w0 hw0 => ⟨p, by omega, by rcases hw0 with rfl | rfl <;> exact hR⟩) hin ?_ ?_
  · intro w0 hw0 i o hi ho
    refine ⟨fun k a' w' hkn hI hLe hdef hfr hdep => ?_⟩
    obtain ⟨q, hq, hRq⟩ := hI
    have hKk : K * k ≤ K * n := Nat.mul_le_mul_left K (by omega)
    refine wpOp_mono ?_ (hstep i o hi ho q a' w' (by omega) hRq (hgr _ _ hw0 hLe) (fun t ht => hfr t (hnot t ht)) hdep)
    rintro a'' w'' ⟨v, q', h1, h2, h3, h4, h5, h6⟩
    exact ⟨v, h1, ⟨q', by rw [Nat.mul_succ]; omega, h3⟩, h4, fun _ => h5, fun hd => by rw [h6 hd] at h5; exact h5⟩
  · intro w0 hw0 a' w' hI hLe hdef hsz hfr hT hN
    obtain ⟨q, hq, hRq⟩ := hI
    have hv : ∀ x ∈ dstsOf l n, (match (l[x.1]?).bind (·.dst) with | some d => a'.tmps.getD d undef | none => undef) = a'.tmps.getD x.2 undef := by
      intro x hx
      obtain ⟨o, h1, h2, h3⟩ := hmem2 x hx
      simp [h2, h3]
    have e : a' = putAll a (fun i => match (l[i]?).bind (·.dst) with | some d => a'.tmps.getD d undef | none => undef) (dstsOf l n) :=
      act_putAll hdef hsz (fun t ht => hfr t fun j oj hj ho hd => ht (j, t) (hmem j oj t hj ho hd) rfl) _ hv
    rw [e]
    refine htail _ w' q hq hRq (hgr _ _ hw0 hLe) ?_ hN
    intro x hx
    obtain ⟨o, h1, h2, h3⟩ := hmem2 x hx
    show Tm x.1 (match (l[x.1]?).bind (·.dst) with | some d => a'.tmps.getD d undef | none => undef) w'
    rw [hv x hx]
    exact hT x.1 o x.2 h1 h2 h3

def EachOp (F : Nat → Oper → Prop) : Nat → List Oper → Prop
  | _, [] => True
  | i, o :: r => F i o ∧ EachOp F (i + 1) r
theorem each_nil {F : Nat → Oper → Prop} {i : Nat} : EachOp F i [] := trivial
theorem each_cons {F : Nat → Oper → Prop} {i : Nat} {o : Oper} {r : List Oper} (h : F i o) (hr : EachOp F (i + 1) r) : EachOp F i (o :: r) := ⟨h, hr⟩
theorem each_get {F : Nat → Oper → Prop} : ∀ (l : List Oper) (k i : Nat) (o : Oper), EachOp F k l → l[i]? = some o → F (k + i) o
  | [], _, _, _, _, ho => by simp at ho
  | x :: r, k, 0, o, h, ho => by
    have : x = o := by simpa using ho
    subst this
    exact h.1
  | x :: r, k, i + 1, o, h, ho => by
    have := each_get r (k + 1) i o h.2 (by simpa using ho)
    rw [show k + (i + 1) = k + 1 + i by omega]
    exact this

/-- What a slot may hold, kept while block g, block z and new blocks alone turn. -/
structure KP (g z : Nat) (O : Obj → Prop) where
  p : Value → World → Prop
  k : ∀ v w w', p v w → Turns g z O w w' → p v w'

section
variable (g z : Nat) (O : Obj → Prop)
def kAny : KP g z O := ⟨fun _ _ => True, fun _ _ _ h _ => h⟩
def kVal (R : Value → Prop) : KP g z O := ⟨fun v _ => R v, fun _ _ _ h _ => h⟩
def kIs (x : Value) : KP g z O := kVal g z O fun v => v = x
def kInt (lo hi : Int) : KP g z O := kVal g z O fun v => ∃ n, v = .int .i64 n ∧ lo ≤ n ∧ n ≤ hi
def kBool : KP g z O := kVal g z O fun v => ∃ b, v = .bool b
/-- A new array of n cells; R says what the cells are. -/
def kArr (e : TypeId) (n : Nat) (R : Array Value → Prop) : KP g z O :=
  ⟨fun v w => ∃ b cs, v = .slice (some ⟨b, 0, none⟩) n n ∧ (b ≠ g ∧ b ≠ z) ∧ w.heap[b]? = some (.cells cs e (0, 0)) ∧ R cs,
   fun _ _ _ ⟨b, cs, h1, h2, h3, h4⟩ hg => ⟨b, cs, h1, h2, hg.keep h3 h2.1 h2.2, h4⟩⟩
/-- The address of a cell of such an array; R says what the cell holds. -/
def kCell (R : Value → Prop) : KP g z O :=
  ⟨fun v w => ∃ b o x, v = .pointer (some ⟨b, o, none⟩) ∧ (b ≠ g ∧ b ≠ z) ∧ w.cell? ⟨b, o, none⟩ = some x ∧ R x,
   fun _ w _ ⟨b, o, x, h1, h2, h3, h4⟩ hg => ⟨b, o, x, h1, h2, (World.cell?_of_block (w := w) (a := ⟨b, o, none⟩) (((hg.block b (cell_lt h3) h2.1)).resolve_right fun e => h2.2 e.1)).trans h3, h4⟩⟩
/-- The address of an element of such an array, of as many cells as the list that R speaks of. -/
def kElt (R : List Value → Prop) : KP g z O :=
  ⟨fun v w => ∃ b o xs, v = .pointer (some ⟨b, o, none⟩) ∧ (b ≠ g ∧ b ≠ z) ∧ (∀ i, i < xs.length → w.cell? ⟨b, o + i, none⟩ = xs[i]?) ∧ R xs,
   fun _ w _ ⟨b, o, xs, h1, h2, h3, h4⟩ hg => ⟨b, o, xs, h1, h2, fun i hi => by
      have := h3 i hi
      rw [List.getElem?_eq_getElem hi] at this ⊢
      exact (World.cell?_of_block (w := w) (a := ⟨b, o + i, none⟩) (((hg.block b (cell_lt this) h2.1)).resolve_right fun e => h2.2 e.1)).trans this, h4⟩⟩
/-- A new variable that holds its zero still. -/
def kNew (B0 : Nat) (t : TypeId) (zs : Array Value) : KP g z O :=
  ⟨fun v w => ∃ b, v = .pointer (some ⟨b, 0, none⟩) ∧ (b ≠ g ∧ b ≠ z) ∧ B0 ≤ b ∧ w.heap[b]? = some (.cells zs t (0, 0)),
   fun _ _ _ ⟨b, h1, h2, h3, h4⟩ hg => ⟨b, h1, h2, h3, hg.keep h4 h2.1 h2.2⟩⟩
/-- Block z has been set. -/
def kSet (hz : z ≠ g) : KP g z O :=
  ⟨fun v w => v = undef ∧ ∃ o, O o ∧ w.heap[z]? = some o, fun _ _ _ ⟨h1, o, ho, h2⟩ hg => ⟨h1, (hg.block z (heap_lt h2) hz).elim (fun h => ⟨o, ho, h.trans h2⟩) (·.2)⟩⟩
end

theorem wpOp_plain {l : List Oper} {Q : Exit → Act → World → Prop} {i : Nat} {o : Oper} {K : Act → World → Prop} {a : Act} {w : World} (ho : l[i]? = some o) (hg : o.guard = none)
    (h : ∀ K' : Act → World → Prop, (∀ a w, K a w → K' a w) → o.wp P a w K' Q) : wpOp P l.toArray Q i K a w := by
  unfold wpOp
  have : l.toArray[i]? = some o := by simpa using ho
  simp only [this]
  rw [if_pos (by simp [Region.wanted, hg])]
  exact .inl (h K fun _ _ h => h)

theorem wp_region_draws {id : Nat} {dr : Bool} {l tl : List Oper} {ds : List (Nat × Tmp)} {a : Act} {w : World} {Q : Exit → Act → World → Prop} {B g z : Nat} {O : Obj → Prop} {A : Option Addr} {m c p : Nat} (n K : Nat) (Ts : List (KP g z O))
    (hm : P.follows .mixedOrders = true) (hB : headTailB l n = true) (hwb : dr = true ∨ waitsBack l l.length = true) (hR : Rd w B g A m c p) (hz : z < w.heap.size)
    (hin : ((l.take n).all fun o => match o.dst with | some d => decide (d < a.tmps.size) | none => true) = true)
    (hstep : EachOp (fun i o => ∀ q a' w', q ≤ p + K * n → Rd w' B g A m c q → Turns g z O w w' → z < w'.heap.size → (∀ t, notDst l n t = true → a'.tmps.getD t undef = a.tmps.getD t undef) →
      (∀ j oj d, l[j]? = some oj → oj.dst = some d → (o.after.toList.any fun e => Region.binds .any e && e.on == j) = true → (Ts.getD j (kAny g z O)).p (a'.tmps.getD d undef) w') →
      wpOp P l.toArray Q i (fun a'' w'' => ∃ v q', a'' = a'.put o.dst v ∧ q' ≤ q + K ∧ Rd w'' B g A m c q' ∧ Turns g z O w' w'' ∧ (Ts.getD i (kAny g z O)).p v w'' ∧ (o.dst = none → v = undef)) a' w') 0 (l.take n))
    (hds : dstsOf l n = ds) (htl : l.drop n = tl)
    (htail : ∀ (vs : Nat → Value) w' q, q ≤ p + K * n → Rd w' B g A m c q → Turns g z O w w' → (∀ j d, (ds.any fun x => x.1 == j && x.2 == d) = true → (Ts.getD j (kAny g z O)).p (vs j) w') →
      (∀ j, (decide (j < n) && match l[j]? with | some o => o.dst.isNone | none => false) = true → (Ts.getD j (kAny g z O)).p undef w') → wpList P l.toArray Q tl (putAll a vs ds) w') :
    (Code.region id l.toArray dr).wp P Q a w :=
  wp_region_rd n K (fun i => (Ts.getD i (kAny g z O)).p) hm hB hwb hR (fun i => (Ts.getD i (kAny g z O)).k) hin
    (fun i o hi ho q a' w' h1 h2 h3 => by
      have := each_get _ 0 i o hstep (by rw [List.getElem?_take]; simp [hi, ho])
      simp only [Nat.zero_add] at this
      exact this q a' w' h1 h2 h3 (Nat.lt_of_lt_of_le hz h3.size))
    (fun vs w' q h1 h2 h3 h4 h5 => by
      rw [hds, htl]
      refine htail vs w' q h1 h2 h3 (fun j d hj => ?_) (fun j hj => ?_)
      · obtain ⟨x, hx, he⟩ := List.any_eq_true.1 hj
        simp only [Bool.and_eq_true, beq_iff_eq] at he
        rw [← hds] at hx
        have := h4 x hx
        rw [he.1] at this
        exact this
      · simp only [Bool.and_eq_true, decide_eq_true_eq] at hj
        cases ho : l[j]? with
        | none => simp [ho] at hj
        | some o => exact h5 j o hj.1 ho (by simpa [ho] using hj.2))

theorem setRow_grown (w : World) (b : Nat) (cs : Array Value) : w.grownBy (w.setRow b cs) (some b) :=
  ⟨rfl, rfl, rfl, by simp, fun k _ hne => by
    simp only [World.setRow, Array.getElem?_modify]
    rw [if_neg (fun e => hne (by rw [e]))]⟩

/-- A whole variable is stored: behind it the world is one of which the variable's block is known. -/
theorem wpList_store_var {ops : Array Oper} {rest : List Oper} {o : Oper} {a : Act} {w : World} {Q : Exit → Act → World → Prop} (hgd : o.guard = none) (ty : TypeId) (x y : Operand) (ho : o.op = .store ty x y)
    {b : Nat} {t : TypeId} {old : Array Value} (cells : Array Value) (hb : w.heap[b]? = some (.cells old t (0, 0))) (hx : a.eval x = .pointer (some ⟨b, 0, none⟩)) (hy : a.eval y = .agg cells)
    (hi : (P.info? ty).map (·.size) = some cells.size) (hold : old.size = cells.size) (h1 : cells.toList.all (·.oneCell') = true)
    (h : ∀ w2 : World, w2.heap[b]? = some (.cells cells t (0, 0)) → w.grownBy w2 (some b) → w2.heap.size = w.heap.size → wpList P ops Q rest (a.put o.dst undef) w2) : wpList P ops Q (o :: rest) a w :=
  wpList_store_row hgd ty x y ho b cells hx hy t old hb hi hold (by rw [← h1, Array.all_toList]) (h _ (setRow_heap w b old cells t _ hb) (setRow_grown w b cells) (by simp))

/-- One cell of a known block is stored. -/
theorem wpList_store_at {ops : Array Oper} {rest : List Oper} {o : Oper} {a : Act} {w : World} {Q : Exit → Act → World → Prop} (hgd : o.guard = none) (ty : TypeId) (x y : Operand) (ho : o.op = .store ty x y)
    {b i : Nat} {t : TypeId} {old : Array Value} (v : Value) (cells : Array Value) (hb : w.heap[b]? = some (.cells old t (0, 0))) (hx : a.eval x = .pointer (some ⟨b, i, none⟩)) (hy : a.eval y = v)
    (hi : (P.info? ty).map (·.size) = some 1) (hv : v.cells = #[v]) (h1 : v.oneCell' = true) (hlt : i < old.size) (hc : old.setIfInBounds i v = cells)
    (h : ∀ w2 : World, w2.heap[b]? = some (.cells cells t (0, 0)) → w.grownBy w2 (some b) → w2.heap.size = w.heap.size → wpList P ops Q rest (a.put o.dst undef) w2) : wpList P ops Q (o :: rest) a w := by
  refine wpList_plain hgd fun K hK => ?_
  subst hc
  have hcell : w.cell? ⟨b, i, none⟩ = some old[i] := by simp [World.cell?, hb, hlt]
  have hfro : w.frozen? ⟨b, i, none⟩ = false := by simp [World.frozen?, hb]
  have hst : (store (⟨b, i, none⟩ : Addr) v).run P w = .ok () (w.setRow b (old.setIfInBounds i v)) := by
    rw [run_store P w _ v _ h1, hcell]
    simp [hfro, setCell_eq_setRow w b i old t (0, 0) v hb]
  have hadd : (⟨b, i, none⟩ : Addr).add 0 = ⟨b, i, none⟩ := by simp [Addr.add]
  have hsv : (storeVar ty ⟨b, i, none⟩ v).run P w = .ok () (w.setRow b (old.setIfInBounds i v)) := by
    cases hq : P.info? ty with
    | none => simp [hq] at hi
    | some j =>
      have hs : j.size = 1 := by simpa [hq] using hi
      simp [storeVar, sizeOf, typeInfo, hq, hv, hs, storeCells, hadd, hst]
  unfold Oper.wp execOp
  simp only [ho, hx, hy, Instr.storeAt, Instr.sureAddr, Sem.run_bind, Sem.run_pure, Result.andThen_ok, hsv]
  exact hK _ _ (h _ (setRow_heap w b old _ t _ hb) (setRow_grown w b _) (by simp))

/-- In the middle of a region the whole of block z is stored. -/
theorem wp_store_z {o : Oper} {a : Act} {w w0 : World} {K : Act → World → Prop} {Q : Exit → Act → World → Prop} {g z : Nat} {t : TypeId} {O : Obj → Prop} {cells old : Array Value} (ty : TypeId) (x y : Operand) (ho : o.op = .store ty x y)
    (hLe : Turns g z O w0 w) (hz0 : w0.heap[z]? = some (.cells old t (0, 0))) (hne : z ≠ g) (hO : ∀ o, O o → ∃ cs, o = .cells cs t (0, 0) ∧ cs.size = cells.size) (hx : a.eval x = .pointer (some ⟨z, 0, none⟩)) (hy : a.eval y = .agg cells)
    (hi : (P.info? ty).map (·.size) = some cells.size) (hold : old.size = cells.size) (h1 : cells.toList.all (·.oneCell') = true)
    (h : ∀ w2 : World, w2.heap[z]? = some (.cells cells t (0, 0)) → w.grownBy w2 (some z) → K (a.put o.dst undef) w2) : o.wp P a w K Q := by
  obtain ⟨old', hz, hs⟩ : ∃ old', w.heap[z]? = some (.cells old' t (0, 0)) ∧ old'.size = cells.size := by
    rcases hLe.at_z (heap_lt hz0) hne with h | ⟨o, ho, h⟩
    · exact ⟨old, h.trans hz0, hold⟩
    · obtain ⟨cs, rfl, hs⟩ := hO o ho
      exact ⟨cs, h, hs⟩
  exact wp_store_row ty x y ho z cells hx hy t old' hz hi hs (by rw [← h1, Array.all_toList]) (h _ (setRow_heap w z old' cells t _ hz) (setRow_grown w z cells))
theorem Turns.set_z {w w2 : World} {g z : Nat} {O : Obj → Prop} {o : Obj} (hz : w2.heap[z]? = some o) (ho : O o) (hg : w.grownBy w2 (some z)) : Turns g z O w w2 :=
  ⟨hg.os, hg.tape, hg.output, hg.size, fun k hk _ => by
    by_cases h : k = z
    · subst h; exact .inr ⟨rfl, o, ho, hz⟩
    · exact .inl (hg.block k hk (by simpa using h))⟩

theorem Rd.far {w w2 : World} {B g : Nat} {A : Option Addr} {n c p b : Nat} (h : Rd w B g A n c p) (hg : w.grownBy w2 (some b)) (hne : b ≠ g) (hB : B ≤ b) : Rd w2 B g A n c p := by
  have hlt := h.lt
  refine ⟨(hg.block g hlt (by simpa using fun e => hne e.symm)).trans h.1, h.2.1, h.2.2.keep fun a ha => World.cell?_of_block (hg.block a.block (by have := h.2.1; omega) (by simp; omega))⟩
theorem grown_far {w0 w w2 : World} {g b : Nat} (h : w0.grownBy w (some g)) (hg : w.grownBy w2 (some b)) (hB : w0.heap.size ≤ b) : w0.grownBy w2 (some g) :=
  ⟨hg.os.trans h.os, hg.tape.trans h.tape, hg.output.trans h.output, Nat.le_trans h.size hg.size, fun k hk hne => (hg.block k (Nat.lt_of_lt_of_le hk h.size) (by simp; omega)).trans (h.block k hk hne)⟩
theorem heap_far {w w2 : World} {b k : Nat} {o : Obj} (h : w.heap[k]? = some o) (hg : w.grownBy w2 (some b)) (hne : k ≠ b) : w2.heap[k]? = some o :=
  (hg.block k (heap_lt h) (by simpa using hne)).trans h

/-- What every draw leaves: a value of which R tells, the reader moved by at most K, of old memory the reader's block alone turned. -/
def Drawn (w : World) (B g : Nat) (A : Option Addr) (m c p K : Nat) (R : KP g g fun _ => False) (e : Ending) (w' : World) : Prop :=
  ∃ v q, e = .returned v ∧ R.p v w' ∧ q ≤ p + K ∧ Rd w' B g A m c q ∧ w.grownBy w' (some g)
end
end Go.Proofs.Ytbnfllpimnnmfaa
