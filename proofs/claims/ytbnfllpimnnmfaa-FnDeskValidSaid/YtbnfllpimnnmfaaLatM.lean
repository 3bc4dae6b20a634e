/-
  A region that draws its order and moves the reader, with stores behind the head that do not wait for some operations of the head (structs and a truth that one call returns).
-/
import Derived.Test.YtbnfllpimnnmfaaReg
namespace Go.Proofs.Ytbnfllpimnnmfaa
open Go Go.RowKit

section
variable {P : Program}

/-- The operation is no call and no jump. -/
def calmB (o : Oper) : Bool := o.guard.isNone && match o.op with
  | .store .. | .extract .. | .assign .. | .move .. | .alloc .. => true
  | _ => false
theorem calm_run {o : Oper} (h : calmB o = true) (a : Act) (w : World) : (∀ f args w', (execOp a.eval o).run P w ≠ .ok (.enter f args) w') ∧ ∀ r args w', (execOp a.eval o).run P w ≠ .ok (.row r args) w' := by
  simp only [calmB, Bool.and_eq_true] at h
  have key : ∀ (m : Sem Value), (∀ f args w', (m.run P w).andThen (fun v w' => Result.ok (Next.value v) w') ≠ .ok (.enter f args) w') ∧ ∀ r args w', (m.run P w).andThen (fun v w' => Result.ok (Next.value v) w') ≠ .ok (.row r args) w' := by
    intro m
    cases m.run P w <;> simp [Result.andThen]
  have key2 : ∀ (m : Sem Unit) (x : Next), (∀ f args, x ≠ .enter f args) → (∀ r args, x ≠ .row r args) → (∀ f args w', (m.run P w).andThen (fun _ w' => Result.ok x w') ≠ .ok (.enter f args) w') ∧ ∀ r args w', (m.run P w).andThen (fun _ w' => Result.ok x w') ≠ .ok (.row r args) w' := by
    intro m x h1 h2
    cases m.run P w <;> simp [Result.andThen, h1, h2]
  unfold execOp
  cases ho : o.op <;> simp only [ho] at h
  all_goals first
    | exact absurd h.2 (by decide)
    | skip
  all_goals simp only [Sem.run_bind, Sem.run_pure, Sem.run_map]
  all_goals first
    | exact key _
    | exact key2 _ _ (by simp) (by simp)
    | simp [Result.andThen]
theorem upon_and {o : Oper} {a : Act} {Q : Exit → Act → World → Prop} {K1 K2 : Act → World → Prop} {r : Result Next} (he : ∀ f args w', r ≠ .ok (.enter f args) w') (hr : ∀ x args w', r ≠ .ok (.row x args) w') (h1 : o.upon P a K1 Q r) (h2 : o.upon P a K2 Q r) : o.upon P a (fun a w => K1 a w ∧ K2 a w) Q r := by
  cases r with
  | ok n w' =>
    cases n with
    | enter f args => exact absurd rfl (he f args w')
    | row x args => exact absurd rfl (hr x args w')
    | value v => exact ⟨h1, h2⟩
    | skip => exact ⟨h1, h2⟩
    | defer d => exact ⟨h1, h2⟩
    | _ => exact False.elim h1
  | halt e w' =>
    cases e <;> first | exact h1 | exact False.elim h1
theorem wpOp_and {ops : Array Oper} {i : Nat} {o : Oper} (ho : ops[i]? = some o) (hc : calmB o = true) {a : Act} {w : World} {Q : Exit → Act → World → Prop} {K1 K2 : Act → World → Prop} (h1 : wpOp P ops Q i K1 a w) (h2 : wpOp P ops Q i K2 a w) : wpOp P ops Q i (fun a w => K1 a w ∧ K2 a w) a w := by
  unfold wpOp at *
  simp only [ho] at *
  split
  · rename_i hw
    rw [if_pos hw] at h1 h2
    rcases h1 with h1 | h1
    · rcases h2 with h2 | h2
      · obtain ⟨c1, c2⟩ := calm_run (P := P) hc a w
        exact .inl (upon_and c1 c2 h1 h2)
      · exact .inr h2
    · exact .inr h1
  · rename_i hw
    rw [if_neg hw] at h1 h2
    exact ⟨h1, h2⟩
theorem wpOp_all {ops : Array Oper} {i : Nat} {o : Oper} (ho : ops[i]? = some o) (hc : calmB o = true) {a : Act} {w : World} {Q : Exit → Act → World → Prop} {F : List Nat → Act → World → Prop} : ∀ (xs : List (List Nat)), xs ≠ [] → (∀ x ∈ xs, wpOp P ops Q i (F x) a w) → wpOp P ops Q i (fun a w => ∀ x ∈ xs, F x a w) a w
  | [], h, _ => absurd rfl h
  | [x], _, h => wpOp_mono (fun a w hx y hy => by rw [List.mem_singleton.1 hy]; exact hx) (h x List.mem_cons_self)
  | x :: y :: r, _, h => wpOp_mono (fun a w hx z hz => by
      rcases List.mem_cons.1 hz with rfl | hz
      · exact hx.1
      · exact hx.2 z hz) (wpOp_and ho hc (h x List.mem_cons_self) (wpOp_all ho hc (y :: r) (by simp) fun z hz => h z (List.mem_cons_of_mem _ hz)))
/-- Every order in which the operations that are left may come up. -/
def extsL (ops : Array Oper) : Nat → Array Bool → List (List Nat)
  | 0, _ => [[]]
  | f + 1, listed => match Region.ready .any ops listed with
    | [] => [[]]
    | r => r.flatMap fun i => (extsL ops f (listed.setIfInBounds i true)).map (i :: ·)
/-- .. all of them calm, and all come up. -/
def extsB (ops : Array Oper) : Nat → Array Bool → Bool
  | 0, listed => Region.ready .any ops listed == []
  | f + 1, listed => (Region.ready .any ops listed).all fun i => (match ops[i]? with | some o => calmB o | none => false) && extsB ops f (listed.setIfInBounds i true)
theorem extsL_ne {ops : Array Oper} : ∀ (f : Nat) (listed : Array Bool), extsL ops f listed ≠ []
  | 0, _ => by simp [extsL]
  | f + 1, listed => by
    unfold extsL
    split
    · simp
    · rename_i r hr
      cases h : Region.ready .any ops listed with
      | nil => exact absurd h (by simpa using hr)
      | cons i rs =>
        intro h0
        simp only [List.flatMap_cons, List.append_eq_nil_iff, List.map_eq_nil_iff] at h0
        exact extsL_ne f _ h0.1
theorem wpAny_exts {ops : Array Oper} {Q : Exit → Act → World → Prop} : ∀ (f : Nat) (listed : Array Bool) (a : Act) (w : World), extsB ops f listed = true → (∀ x ∈ extsL ops f listed, wpOps P ops Q x a w) → wpAny P .any ops Q f listed a w
  | 0, listed, a, w, hB, h => ⟨by simpa [extsB] using hB, by have := h [] (by simp [extsL]); simpa [wpOps] using this⟩
  | f + 1, listed, a, w, hB, h => by
    simp only [extsB, List.all_eq_true, Bool.and_eq_true] at hB
    refine ⟨fun hr => ?_, fun i hi => ?_⟩
    · have := h [] (by unfold extsL; rw [hr]; simp)
      simpa [wpOps] using this
    · obtain ⟨hc, hB2⟩ := hB i hi
      obtain ⟨_, o, ho, _⟩ := mem_ready.1 hi
      simp only [ho] at hc
      refine wpOp_mono (fun a' w' h' => wpAny_exts f _ a' w' hB2 h') (wpOp_all (F := fun x => wpOps P ops Q x) ho hc _ (extsL_ne f _) fun x hx => ?_)
      have hmem : i :: x ∈ extsL ops (f + 1) listed := by
        unfold extsL
        split
        · rename_i hr; rw [hr] at hi; cases hi
        · exact List.mem_flatMap.2 ⟨i, hi, List.mem_map.2 ⟨x, hx, rfl⟩⟩
      have := h _ hmem
      rw [wpOps_cons] at this
      exact this
theorem wpOps_of_list {l : List Oper} {Q : Exit → Act → World → Prop} : ∀ (x : List Nat) (a : Act) (w : World), (x.all fun i => decide (i < l.length)) = true → wpList P l.toArray Q (x.filterMap (l[·]?)) a w → wpOps P l.toArray Q x a w
  | [], _, _, _, h => h
  | i :: r, a, w, hl, h => by
    simp only [List.all_cons, Bool.and_eq_true, decide_eq_true_eq] at hl
    have ho : l[i]? = some l[i] := by simp [hl.1]
    rw [wpOps_cons]
    simp only [List.filterMap_cons, ho] at h
    have hw : wpOp P l.toArray Q i (wpList P l.toArray Q (r.filterMap (l[·]?))) a w := by
      have ho' : l.toArray[i]? = some l[i] := by simp [hl.1]
      unfold wpOp
      simp only [ho']
      exact h
    exact wpOp_mono (fun a' w' h' => wpOps_of_list r a' w' hl.2 h') hw
/-- All of the first n operations but those of D, and operation n. -/
def lateLM (l : List Oper) (n : Nat) (D : List Nat) : Array Bool := (Array.range l.length).map fun k => decide (k ≤ n) && !D.contains k
def subsL : List Nat → List (List Nat)
  | [] => [[]]
  | m :: r => subsL r ++ (subsL r).map (m :: ·)
theorem filter_subs (p : Nat → Bool) : ∀ M : List Nat, M.filter p ∈ subsL M
  | [] => by simp [subsL]
  | m :: r => by
    cases h : p m
    · simp [subsL, h, filter_subs p r]
    · simp [subsL, h, filter_subs p r]
/-- What is left to be shown behind the head: which late operations are still to come, and in which order what is left comes up. -/
def casesM (l : List Oper) (n : Nat) (M : List Nat) : List (List Nat × List Nat) := (subsL M).flatMap fun D => if D = [] then [] else (extsL l.toArray (D.length - 1 + (l.length - n)) (lateLM l n D)).map fun x => (D, n :: x)
def lateBM (l : List Oper) (n : Nat) (M : List Nat) : Bool :=
  decide (n < l.length) && (M.all fun m => decide (m < n)) && decide M.Nodup && dstsApart l n && waitsBack l n && ((List.range n).all fun i => M.contains i || Region.waitsFor .any l.toArray n i) && ((List.range l.toArray.size).all fun t => decide (t ≤ n) || (Region.waitsFor .any l.toArray t (t - 1))) &&
    Region.seqB .any l.toArray (l.length - n) n (Array.replicate n true ++ Array.replicate (l.length - n) false) && (match l[n]? with | some o => calmB o | none => false) && ((subsL M).all fun D => decide (D = []) || extsB l.toArray (D.length - 1 + (l.length - n)) (lateLM l n D)) && ((casesM l n M).all fun c => c.2.all fun i => decide (i < l.length))

theorem wpAny_lateM {l : List Oper} {n : Nat} {M : List Nat} {a : Act} {w : World} {Q : Exit → Act → World → Prop} {Le : World → World → Prop} {Inv : Nat → World → Prop} {Tm : Nat → Value → World → Prop}
    (htrans : ∀ a b c, Le a b → Le b c → Le a c) (hkept : ∀ i v w w', Tm i v w → Le w w' → Tm i v w')
    (hB : lateBM l n M = true)
    (hin : ∀ i o d, i < n → l[i]? = some o → o.dst = some d → d < a.tmps.size)
    (hstep : ∀ i o, i < n → l[i]? = some o → Steps P l n a w Q Le Inv Tm i o)
    (htail : ∀ a' w', Inv n w' → Le w w' → a'.defers = a.defers → a'.tmps.size = a.tmps.size → (∀ t, (∀ j oj, j < n → l[j]? = some oj → oj.dst ≠ some t) → a'.tmps.getD t undef = a.tmps.getD t undef) →
      (∀ j oj d, j < n → l[j]? = some oj → oj.dst = some d → Tm j (a'.tmps.getD d undef) w') → (∀ j oj, j < n → l[j]? = some oj → oj.dst = none → Tm j undef w') → wpList P l.toArray Q (l.drop n) a' w')
    (hlate : ∀ c ∈ casesM l n M, ∀ k a' w', k ≤ n → Inv k w' → Le w w' → a'.defers = a.defers → a'.tmps.size = a.tmps.size → (∀ t, (∀ j oj, j < n → c.1.contains j = false → l[j]? = some oj → oj.dst ≠ some t) → a'.tmps.getD t undef = a.tmps.getD t undef) →
      (∀ j oj d, j < n → c.1.contains j = false → l[j]? = some oj → oj.dst = some d → Tm j (a'.tmps.getD d undef) w') → wpList P l.toArray Q (c.2.filterMap (l[·]?)) a' w') :
    ∀ (f : Nat) (rem : List Nat) (listed : Array Bool) (a' : Act) (w' : World), rem.length = f → rem.Nodup → (∀ i, i ∈ rem ↔ i < n ∧ listed.getD i true = false) → HeadInv .any l.toArray n listed →
      f ≤ n → Inv (n - f) w' → Le w w' → a'.defers = a.defers → a'.tmps.size = a.tmps.size → (∀ t, (∀ j oj, j < n → listed.getD j false = true → l[j]? = some oj → oj.dst ≠ some t) → a'.tmps.getD t undef = a.tmps.getD t undef) →
      (∀ j oj d, j < n → l[j]? = some oj → oj.dst = some d → listed.getD j false = true → Tm j (a'.tmps.getD d undef) w') →
      (∀ j oj, j < n → l[j]? = some oj → oj.dst = none → listed.getD j false = true → Tm j undef w') →
      wpAny P .any l.toArray Q (f + (l.length - n)) listed a' w' := by
  simp only [lateBM, Bool.and_eq_true, decide_eq_true_eq] at hB
  obtain ⟨⟨⟨⟨⟨⟨⟨⟨⟨⟨hn0, hmn⟩, hMn⟩, hap⟩, hwb⟩, hsink⟩, hchain⟩, hseq⟩, hcalm⟩, hexts⟩, hbnd⟩ := hB
  have hn : n ≤ l.length := Nat.le_of_lt hn0
  intro f
  induction f with
  | zero =>
    intro rem listed a' w' hlen _ hrem hinv _ hI hLe hdef hsz hfr hT hN
    have hall : ∀ i, i < n → listed.getD i false = true := fun i hi => by
      have hnot : ¬ (i < n ∧ listed.getD i true = false) := fun h => by
        have := (hrem i).2 h
        rw [List.eq_nil_of_length_eq_zero hlen] at this
        cases this
      have hs : i < listed.size := by rw [hinv.size, List.size_toArray]; omega
      have h1 : listed.getD i true = true := by
        cases h : listed.getD i true with
        | true => rfl
        | false => exact absurd ⟨hi, h⟩ hnot
      simpa [hs] using h1
    have hlisted : listed = Array.replicate n true ++ Array.replicate (l.length - n) false := by
      apply Array.ext
      · rw [hinv.size]; simp; omega
      · intro i h1 h2
        rcases Nat.lt_or_ge i n with h | h
        · have := hall i h
          rw [Array.getElem_append_left (by simpa using h)]
          simpa [h1] using this
        · have := hinv.tail i h (by rw [← hinv.size]; exact h1)
          rw [Array.getElem_append_right (by simpa using h)]
          simpa [h1] using this
    have hl : (l.drop n).length = l.length - n := by simp
    have := wpAny_of_seq (P := P) (ops := l.toArray) (md := .any) (Q' := Q) (l.drop n) n listed a' w' (fun j => by simp [List.getElem?_drop]) (by rw [hl, hlisted]; exact hseq)
      (htail a' w' (by simpa using hI) hLe hdef hsz (fun t ht => hfr t fun j oj hj _ ho => ht j oj hj ho) (fun j oj d hj ho hd => hT j oj d hj ho hd (hall j hj)) (fun j oj hj ho hd => hN j oj hj ho hd (hall j hj)))
    rw [Nat.zero_add, ← hl]
    exact this
  | succ f ih =>
    intro rem listed a' w' hlen hnd hrem hinv hfn hI hLe hdef hsz hfr hT hN
    have hlow : ∀ t ∈ Region.ready .any l.toArray listed, t < n ∨ (t = n ∧ ∀ i, i < n → M.contains i = false → listed.getD i false = true) := by
      intro t ht
      rcases Nat.lt_or_ge t n with h | h
      · exact .inl h
      · obtain ⟨_, o, ho, hall⟩ := mem_ready.1 ht
        have htl0 : t < l.toArray.size := (Array.getElem?_eq_some_iff.1 ho).1
        rcases Nat.eq_or_lt_of_le h with e | hlt
        · subst e
          refine .inr ⟨rfl, fun i hi him => ?_⟩
          have h1 := List.all_eq_true.1 hsink i (List.mem_range.2 hi)
          simp only [Bool.or_eq_true] at h1
          obtain ⟨oj, hoj, e, he, hb, hone⟩ := Region.waitsFor_spec (h1.resolve_left (by rw [him]; simp))
          rw [ho] at hoj
          cases hoj
          rw [← hone]
          exact hall e he hb
        · have h1 := List.all_eq_true.1 hchain t (List.mem_range.2 htl0)
          simp only [Bool.or_eq_true, decide_eq_true_eq] at h1
          obtain ⟨oj, hoj, e, he, hb, hone⟩ := Region.waitsFor_spec (h1.resolve_left (by omega))
          rw [ho] at hoj
          cases hoj
          have h2 := hall e he hb
          have h3 := hinv.tail (t - 1) (by omega) (by omega)
          rw [hone, getD_both h3] at h2
          cases h2
    have hne : Region.ready .any l.toArray listed ≠ [] := by
      -- the least operation that has not come up is ready
      have key : ∀ (d i : Nat), i ≤ d → i ∈ rem → ∃ t, t ∈ Region.ready .any l.toArray listed := by
        intro d
        induction d with
        | zero =>
          intro i hid hi
          obtain ⟨hi1, hi2⟩ := (hrem i).1 hi
          have hlt : i < l.length := by omega
          refine ⟨i, mem_ready.2 ⟨hi2, l[i], by simp [hlt], fun e he hb => ?_⟩⟩
          have h1 := List.all_eq_true.1 hwb i (List.mem_range.2 hi1)
          simp only [List.getElem?_eq_getElem hlt] at h1
          have h2 := Array.all_eq_true_iff_forall_mem.1 h1 e he
          simp [hb] at h2
          omega
        | succ d ihd =>
          intro i hid hi
          obtain ⟨hi1, hi2⟩ := (hrem i).1 hi
          have hlt : i < l.length := by omega
          by_cases hdone : ∀ e ∈ l[i].after, Region.binds .any e = true → listed.getD e.on false = true
          · exact ⟨i, mem_ready.2 ⟨hi2, l[i], by simp [hlt], hdone⟩⟩
          · have : ∃ e, e ∈ l[i].after ∧ Region.binds .any e = true ∧ listed.getD e.on false ≠ true := Classical.byContradiction fun hcon => hdone fun e he hb => Classical.byContradiction fun hx => hcon ⟨e, he, hb, hx⟩
            obtain ⟨e, he, hb, hx⟩ := this
            have h1 := List.all_eq_true.1 hwb i (List.mem_range.2 hi1)
            simp only [List.getElem?_eq_getElem hlt] at h1
            have h2 := Array.all_eq_true_iff_forall_mem.1 h1 e he
            simp [hb] at h2
            have hes : e.on < listed.size := by rw [hinv.size, List.size_toArray]; omega
            have hx' : listed.getD e.on true = false := getD_in hes (by simpa using hx)
            exact ihd e.on (by omega) ((hrem e.on).2 ⟨by omega, hx'⟩)
      obtain ⟨i, hi⟩ : ∃ i, i ∈ rem := by
        cases rem with
        | nil => cases hlen
        | cons x xs => exact ⟨x, List.mem_cons_self⟩
      obtain ⟨t, ht⟩ := key i i (Nat.le_refl _) hi
      intro h0
      rw [h0] at ht
      cases ht
    rw [show f + 1 + (l.length - n) = (f + (l.length - n)) + 1 by omega]
    refine ⟨fun h => absurd h hne, fun i hi => ?_⟩
    obtain ⟨hiun, o, ho, hall⟩ := mem_ready.1 hi
    rcases hlow i hi with hin' | ⟨rfl, hothers⟩
    rotate_left
    · -- the store, ahead of late operations
      have hp : ∀ x, x ∈ rem ↔ x ∈ M.filter fun m => !listed.getD m false := fun x => by
        rw [hrem, List.mem_filter]
        constructor
        · rintro ⟨h1, h2⟩
          refine ⟨?_, by simp [getD_both h2]⟩
          cases hc : M.contains x with
          | true => simpa using hc
          | false =>
            have := hothers x h1 hc
            rw [getD_both h2] at this
            cases this
        · rintro ⟨h1, h2⟩
          have h3 : x < i := by have := List.all_eq_true.1 hmn x h1; simpa using this
          have h4 : listed.getD x false = false := by simpa using h2
          have hs : x < listed.size := by rw [hinv.size, List.size_toArray]; omega
          exact ⟨h3, getD_in hs h4⟩
      obtain ⟨D, hD⟩ : ∃ D, D = M.filter fun m => !listed.getD m false := ⟨_, rfl⟩
      rw [← hD] at hp
      have hDn : D.Nodup := by rw [hD]; exact hMn.filter _
      have hDl : D.length = f + 1 := by
        have := ((List.perm_ext_iff_of_nodup hnd hDn).2 hp).length_eq
        omega
      have hDs : D ∈ subsL M := by rw [hD]; exact filter_subs _ M
      have hDe : D ≠ [] := fun e => by rw [e] at hDl; cases hDl
      have hDc : ∀ j, j < i → D.contains j = false → listed.getD j false = true := fun j hj hc => by
        cases hl : listed.getD j false with
        | true => rfl
        | false =>
          have hs : j < listed.size := by rw [hinv.size, List.size_toArray]; omega
          have := (hp j).1 ((hrem j).2 ⟨hj, getD_in hs hl⟩)
          have h2 : D.contains j = true := by simpa using this
          rw [hc] at h2
          cases h2
      have hlisted : listed.setIfInBounds i true = lateLM l i D := by
        apply Array.ext
        · simp [lateLM, hinv.size]
        · intro k h1 h2
          have hk : k < listed.size := by simpa using h1
          have hkl : k < l.length := by have := hinv.size; simp at this; omega
          have hg : ∀ v, listed.getD k v = listed[k] := fun v => by simp [hk]
          simp only [lateLM, Array.getElem_map, Array.getElem_range, Array.getElem_setIfInBounds hk]
          by_cases hki : i = k
          · subst hki
            have : i ∉ D := fun hm => by have := ((hrem i).1 ((hp i).2 hm)).1; omega
            simp [this]
          · rw [if_neg hki]
            rcases Nat.lt_or_ge k i with h | h
            · cases hc : D.contains k with
              | true =>
                have hkD : k ∈ D := by simpa using hc
                have := ((hrem k).1 ((hp k).2 hkD)).2
                rw [← hg true, this]
                simp
              | false =>
                rw [← hg false, hDc k h hc]
                simp
                omega
            · rw [← hg true, hinv.tail k h (by rw [List.size_toArray]; omega)]
              have : ¬ k ≤ i := by omega
              simp [this]
      have hcm : calmB o = true := by
        have ho2 : l[i]? = some o := by simpa using ho
        simp only [ho2] at hcalm
        exact hcalm
      have hx0 := List.all_eq_true.1 hexts D hDs
      simp only [Bool.or_eq_true, decide_eq_true_eq] at hx0
      have hxB := hx0.resolve_left hDe
      rw [hDl, Nat.add_sub_cancel] at hxB
      rw [hlisted]
      refine wpOp_mono (fun a2 w2 h2 => wpAny_exts _ _ a2 w2 hxB h2) (wpOp_all (F := fun x => wpOps P l.toArray Q x) ho hcm _ (extsL_ne _ _) fun x hx => ?_)
      have hmemc : (D, i :: x) ∈ casesM l i M := List.mem_flatMap.2 ⟨D, hDs, by rw [if_neg hDe]; exact List.mem_map.2 ⟨x, by rw [hDl, Nat.add_sub_cancel]; exact hx, rfl⟩⟩
      have hfin := hlate _ hmemc (i - (f + 1)) a' w' (by omega) hI hLe hdef hsz (fun t ht => hfr t fun j oj hj hlj ho => ht j oj hj (by
        cases hc : D.contains j with
        | false => rfl
        | true =>
          have hjD : j ∈ D := by simpa using hc
          have := ((hrem j).1 ((hp j).2 hjD)).2
          rw [getD_both this] at hlj
          cases hlj) ho) (fun j oj d hj hjm hoj hd => hT j oj d hj hoj hd (hDc j hj hjm))
      have := wpOps_of_list _ a' w' (List.all_eq_true.1 hbnd _ hmemc) hfin
      rw [wpOps_cons] at this
      exact this
    have ho' : l[i]? = some o := by simpa using ho
    have himem : i ∈ rem := (hrem i).2 ⟨hin', hiun⟩
    have hst := (hstep i o hin' ho').step (n - (f + 1)) a' w' (by omega) hI hLe hdef (fun t ht => hfr t fun j oj hj _ ho => ht j oj hj ho) (fun j oj d hoj hd haft => by
      obtain ⟨e, he0, hb⟩ := List.any_eq_true.1 haft
      have he : e ∈ o.after := Array.mem_toList_iff.1 he0
      simp only [Bool.and_eq_true, beq_iff_eq] at hb
      have hwb1 := List.all_eq_true.1 hwb i (List.mem_range.2 hin')
      simp only [ho'] at hwb1
      have hlt := Array.all_eq_true_iff_forall_mem.1 hwb1 e he
      simp [hb.1] at hlt
      exact hT j oj d (by omega) hoj hd (by rw [← hb.2]; exact hall e he hb.1))
    refine wpOp_mono (fun a'' w'' hK => ?_) hst
    obtain ⟨v, rfl, hI'', hLe'', hTi, hNi⟩ := hK
    have hsub : n - (f + 1) + 1 = n - f := by omega
    rw [hsub] at hI''
    have hputd : (a'.put o.dst v).defers = a'.defers := by cases o.dst <;> rfl
    have hputs : (a'.put o.dst v).tmps.size = a'.tmps.size := by cases hd : o.dst <;> simp [Act.put]
    have hputo : ∀ t, o.dst ≠ some t → (a'.put o.dst v).tmps.getD t undef = a'.tmps.getD t undef := by
      intro t ht
      cases hd : o.dst with
      | none => rfl
      | some d =>
        have hne : d ≠ t := fun e => ht (by rw [hd, e])
        simp [Act.put, Array.getElem?_setIfInBounds_ne hne]
    refine ih (rem.erase i) (listed.setIfInBounds i true) (a'.put o.dst v) w'' (by rw [List.length_erase_of_mem himem, hlen]; rfl) (hnd.erase i) ?_ (hinv.set hi hin') (by omega) hI'' (htrans _ _ _ hLe hLe'') (hputd.trans hdef) (hputs.trans hsz) ?_ ?_ ?_
    · intro j
      rw [hnd.mem_erase_iff]
      constructor
      · rintro ⟨h1, h2⟩
        obtain ⟨h3, h4⟩ := (hrem j).1 h2
        exact ⟨h3, by rw [getD_set_ne true (Ne.symm h1)]; exact h4⟩
      · rintro ⟨h1, h2⟩
        by_cases hij : j = i
        · subst hij
          have hs : j < listed.size := by rw [hinv.size, List.size_toArray]; omega
          simp [hs] at h2
        · rw [getD_set_ne true (Ne.symm hij)] at h2
          exact ⟨hij, (hrem j).2 ⟨h1, h2⟩⟩
    · intro t ht
      have hil : (listed.setIfInBounds i true).getD i false = true := by
        have hs : i < listed.size := by rw [hinv.size, List.size_toArray]; omega
        simp [hs]
      rw [hputo t (ht i o hin' hil ho')]
      refine hfr t fun j oj hj hlj ho2 => ht j oj hj ?_ ho2
      by_cases hij : j = i
      · subst hij; exact hil
      · rw [getD_set_ne false (Ne.symm hij)]; exact hlj
    · intro j oj d hj hoj hd hlj
      by_cases hij : j = i
      · subst hij
        have : oj = o := Option.some.inj (hoj.symm.trans ho')
        subst this
        have hds : d < a'.tmps.size := by rw [hsz]; exact hin j oj d hj hoj hd
        have : (a'.put oj.dst v).tmps.getD d undef = v := by simp [Act.put, hd, hds]
        rw [this]
        exact hTi (by rw [hd]; simp)
      · rw [getD_set_ne false (Ne.symm hij)] at hlj
        have hnd' : o.dst ≠ some d := by
          intro h
          exact dstsApart_spec hap hj hin' hij hoj ho' hd h
        rw [hputo d hnd']
        exact hkept j _ _ _ (hT j oj d hj hoj hd hlj) hLe''
    · intro j oj hj hoj hd hlj
      by_cases hij : j = i
      · subst hij
        have : oj = o := Option.some.inj (hoj.symm.trans ho')
        subst this
        exact hNi hd
      · rw [getD_set_ne false (Ne.symm hij)] at hlj
        exact hkept j _ _ _ (hN j oj hj hoj hd hlj) hLe''

theorem wp_region_keptM {id : Nat} {l : List Oper} {n : Nat} {M : List Nat} {a : Act} {w : World} {Q : Exit → Act → World → Prop} (Le : World → World → Prop) (Inv : Nat → World → Prop) (Tm : Nat → Value → World → Prop)
    (hm : P.follows .mixedOrders = true) (hB : lateBM l n M = true)
    (hrefl : ∀ w, Le w w) (htrans : ∀ a b c, Le a b → Le b c → Le a c) (hkept : ∀ i v w w', Tm i v w → Le w w' → Tm i v w')
    (hI : ∀ w0, w0 = w ∨ w0 = w.drew → Inv 0 w0)
    (hin : ((l.take n).all fun o => match o.dst with | some d => decide (d < a.tmps.size) | none => true) = true)
    (hstep : ∀ w0, w0 = w ∨ w0 = w.drew → ∀ i o, i < n → l[i]? = some o → Steps P l n a w0 Q Le Inv Tm i o)
    (htail : ∀ w0, w0 = w ∨ w0 = w.drew → ∀ a' w', Inv n w' → Le w0 w' → a'.defers = a.defers → a'.tmps.size = a.tmps.size → (∀ t, (∀ j oj, j < n → l[j]? = some oj → oj.dst ≠ some t) → a'.tmps.getD t undef = a.tmps.getD t undef) →
      (∀ j oj d, j < n → l[j]? = some oj → oj.dst = some d → Tm j (a'.tmps.getD d undef) w') → (∀ j oj, j < n → l[j]? = some oj → oj.dst = none → Tm j undef w') → wpList P l.toArray Q (l.drop n) a' w')
    (hlate : ∀ w0, w0 = w ∨ w0 = w.drew → ∀ c ∈ casesM l n M, ∀ k a' w', k ≤ n → Inv k w' → Le w0 w' → a'.defers = a.defers → a'.tmps.size = a.tmps.size → (∀ t, (∀ j oj, j < n → c.1.contains j = false → l[j]? = some oj → oj.dst ≠ some t) → a'.tmps.getD t undef = a.tmps.getD t undef) →
      (∀ j oj d, j < n → c.1.contains j = false → l[j]? = some oj → oj.dst = some d → Tm j (a'.tmps.getD d undef) w') → wpList P l.toArray Q (c.2.filterMap (l[·]?)) a' w') :
    (Code.region id l.toArray true).wp P Q a w := by
  have hn : n ≤ l.length := by
    simp only [lateBM, Bool.and_eq_true, decide_eq_true_eq] at hB
    exact Nat.le_of_lt hB.1.1.1.1.1.1.1.1.1.1
  have hin2 : ∀ i o d, i < n → l[i]? = some o → o.dst = some d → d < a.tmps.size := by
    intro i o d hi ho hd
    have hmem : o ∈ l.take n := List.mem_of_getElem? (i := i) (by rw [List.getElem?_take]; simp [hi, ho])
    have := List.all_eq_true.1 hin o hmem
    simpa [hd] using this
  have key : ∀ w0, w0 = w ∨ w0 = w.drew → wpAny P .any l.toArray Q l.length (Array.replicate l.length false) a w0 := by
    intro w0 hw0
    have h := wpAny_lateM (P := P) (w := w0) htrans hkept hB hin2 (hstep w0 hw0) (htail w0 hw0) (hlate w0 hw0) n (List.range n) (Array.replicate l.length false) a w0 (by simp) List.nodup_range
      (fun i => by
        constructor
        · intro h; exact ⟨List.mem_range.1 h, getD_in (by simp; have := List.mem_range.1 h; omega) (getD_replicate_false _ _)⟩
        · intro h; exact List.mem_range.2 h.1)
      ⟨by simp, fun j oj _ hl => (by rw [getD_replicate_false] at hl; cases hl), fun t _ ht => getD_in (by simpa using ht) (getD_replicate_false _ _)⟩
      (Nat.le_refl _) (by simpa using hI w0 hw0) (hrefl _) rfl rfl (fun _ _ => rfl) (fun j oj d _ _ _ hl => by rw [getD_replicate_false] at hl; cases hl) (fun j oj _ _ _ hl => by rw [getD_replicate_false] at hl; cases hl)
    rw [show n + (l.length - n) = l.length by omega] at h
    exact h
  exact wp_region_any hm (by simpa using key w.drew (.inr rfl))

/-- A region of a draw: of old memory only the reader's block turns, and block z; each operation moves the reader by at most K. -/
theorem wp_region_rdM {id : Nat} {l : List Oper} {M : List Nat} {a : Act} {w : World} {Q : Exit → Act → World → Prop} {B g z : Nat} {O : Obj → Prop} {A : Option Addr} {m c p : Nat} (n K : Nat) (Tm : Nat → Value → World → Prop)
    (hm : P.follows .mixedOrders = true) (hB : lateBM l n M = true) (hR : Rd w B g A m c p)
    (hkept : ∀ i v w w', Tm i v w → Turns g z O w w' → Tm i v w')
    (hin : ((l.take n).all fun o => match o.dst with | some d => decide (d < a.tmps.size) | none => true) = true)
    (hstep : ∀ i o, i < n → l[i]? = some o → ∀ q a' w', q ≤ p + K * n → Rd w' B g A m c q → Turns g z O w w' → (∀ t, notDst l n t = true → a'.tmps.getD t undef = a.tmps.getD t undef) →
      (∀ j oj d, l[j]? = some oj → oj.dst = some d → (o.after.toList.any fun e => Region.binds .any e && e.on == j) = true → Tm j (a'.tmps.getD d undef) w') →
      wpOp P l.toArray Q i (fun a'' w'' => ∃ v q', a'' = a'.put o.dst v ∧ q' ≤ q + K ∧ Rd w'' B g A m c q' ∧ Turns g z O w' w'' ∧ Tm i v w'' ∧ (o.dst = none → v = undef)) a' w')
    (htail : ∀ (vs : Nat → Value) w' q, q ≤ p + K * n → Rd w' B g A m c q → Turns g z O w w' → (∀ x ∈ dstsOf l n, Tm x.1 (vs x.1) w') → (∀ j oj, j < n → l[j]? = some oj → oj.dst = none → Tm j undef w') → wpList P l.toArray Q (l.drop n) (putAll a vs (dstsOf l n)) w')
    (hlate : ∀ e ∈ casesM l n M, ∀ (vs : Nat → Value) w' q, q ≤ p + K * n → Rd w' B g A m c q → Turns g z O w w' → (∀ x ∈ (dstsOf l n).filter (fun x => !e.1.contains x.1), Tm x.1 (vs x.1) w') → wpList P l.toArray Q (e.2.filterMap (l[·]?)) (putAll a vs ((dstsOf l n).filter (fun x => !e.1.contains x.1))) w') :
    (Code.region id l.toArray true).wp P Q a w := by
  have hgr : ∀ w0 w', w0 = w ∨ w0 = w.drew → Turns g z O w0 w' → Turns g z O w w' := by
    rintro w0 w' (rfl | rfl) h
    · exact h
    · exact h.of_drew
  have hmem : ∀ i o d, i < n → l[i]? = some o → o.dst = some d → (i, d) ∈ dstsOf l n := fun i o d hi ho hd =>
    List.mem_filterMap.2 ⟨i, List.mem_range.2 hi, by simp [ho, hd]⟩
  have hmem2 : ∀ x ∈ dstsOf l n, ∃ o, x.1 < n ∧ l[x.1]? = some o ∧ o.dst = some x.2 := by
    intro x hx
    obtain ⟨i, hi, he⟩ := List.mem_filterMap.1 hx
    cases ho : l[i]? with
    | none => simp [ho] at he
    | some o =>
      cases hd : o.dst with
      | none => simp [ho, hd] at he
      | some d =>
        simp [ho, hd] at he
        subst he
        exact ⟨o, List.mem_range.1 hi, ho, hd⟩
  have hnot : ∀ t, notDst l n t = true → ∀ j oj, j < n → l[j]? = some oj → oj.dst ≠ some t := by
    intro t ht j oj hj ho hd
    have := List.all_eq_true.1 ht _ (hmem j oj t hj ho hd)
    simp at this
  refine wp_region_keptM (n := n) (M := M) (fun w w' => Turns g z O w w') (fun k w' => ∃ q, q ≤ p + K * k ∧ Rd w' B g A m c q) Tm hm hB (fun w => Turns.refl w) (fun _ _ _ h1 h2 => h1.trans h2) hkept
    (fun w0 hw0 => ⟨p, by omega, by rcases hw0 with rfl | rfl <;> exact hR⟩) hin ?_ ?_ ?_
  · intro w0 hw0 i o hi ho
    refine ⟨fun k a' w' hkn hI hLe hdef hfr hdep => ?_⟩
    obtain ⟨q, hq, hRq⟩ := hI
    have hKk : K * k ≤ K * n := Nat.mul_le_mul_left K (by omega)
    refine wpOp_mono ?_ (hstep i o hi ho q a' w' (by omega) hRq (hgr _ _ hw0 hLe) (fun t ht => hfr t (hnot t ht)) hdep)
    rintro a'' w'' ⟨v, q', h1, h2, h3, h4, h5, h6⟩
    exact ⟨v, h1, ⟨q', by rw [Nat.mul_succ]; omega, h3⟩, h4, fun _ => h5, fun hd => by rw [h6 hd] at h5; exact h5⟩
  · intro w0 hw0 a' w' hI hLe hdef hsz hfr hT hN
    obtain ⟨q, hq, hRq⟩ := hI
    have hv : ∀ x ∈ dstsOf l n, (match (l[x.1]?).bind (·.dst) with | some d => a'.tmps.getD d undef | none => undef) = a'.tmps.getD x.2 undef := by
      intro x hx
      obtain ⟨o, h1, h2, h3⟩ := hmem2 x hx
      simp [h2, h3]
    have e : a' = putAll a (fun i => match (l[i]?).bind (·.dst) with | some d => a'.tmps.getD d undef | none => undef) (dstsOf l n) :=
      act_putAll hdef hsz (fun t ht => hfr t fun j oj hj ho hd => ht (j, t) (hmem j oj t hj ho hd) rfl) _ hv
    rw [e]
    refine htail _ w' q hq hRq (hgr _ _ hw0 hLe) ?_ hN
    intro x hx
    obtain ⟨o, h1, h2, h3⟩ := hmem2 x hx
    show Tm x.1 (match (l[x.1]?).bind (·.dst) with | some d => a'.tmps.getD d undef | none => undef) w'
    rw [hv x hx]
    exact hT x.1 o x.2 h1 h2 h3
  · intro w0 hw0 e he k a' w' hk hI hLe hdef hsz hfr hT
    obtain ⟨q, hq, hRq⟩ := hI
    have hv : ∀ x ∈ (dstsOf l n).filter (fun x => !e.1.contains x.1), (match (l[x.1]?).bind (·.dst) with | some d => a'.tmps.getD d undef | none => undef) = a'.tmps.getD x.2 undef := by
      intro x hx
      obtain ⟨o, h1, h2, h3⟩ := hmem2 x (List.mem_filter.1 hx).1
      simp [h2, h3]
    have ea : a' = putAll a (fun i => match (l[i]?).bind (·.dst) with | some d => a'.tmps.getD d undef | none => undef) ((dstsOf l n).filter fun x => !e.1.contains x.1) :=
      act_putAll hdef hsz (fun t ht => hfr t fun j oj hj hjm ho hd => ht (j, t) (List.mem_filter.2 ⟨hmem j oj t hj ho hd, by simpa using hjm⟩) rfl) _ hv
    rw [ea]
    refine hlate e he _ w' q (Nat.le_trans hq (Nat.add_le_add_left (Nat.mul_le_mul_left K hk) p)) hRq (hgr _ _ hw0 hLe) ?_
    intro x hx
    obtain ⟨o, h1, h2, h3⟩ := hmem2 x (List.mem_filter.1 hx).1
    show Tm x.1 (match (l[x.1]?).bind (·.dst) with | some d => a'.tmps.getD d undef | none => undef) w'
    rw [hv x hx]
    exact hT x.1 o x.2 h1 (by simpa using (List.mem_filter.1 hx).2) h2 h3
theorem wp_region_drawsM {id : Nat} {l tl : List Oper} {ds : List (Nat × Tmp)} {cs : List (List (Nat × Tmp) × List Nat)} {a : Act} {w : World} {Q : Exit → Act → World → Prop} {B g z : Nat} {O : Obj → Prop} {A : Option Addr} {m c p : Nat} (n : Nat) (M : List Nat) (K : Nat) (Ts : List (KP g z O))
    (hm : P.follows .mixedOrders = true) (hB : lateBM l n M = true) (hR : Rd w B g A m c p) (hz : z < w.heap.size)
    (hin : ((l.take n).all fun o => match o.dst with | some d => decide (d < a.tmps.size) | none => true) = true)
    (hstep : EachOp (fun i o => ∀ q a' w', q ≤ p + K * n → Rd w' B g A m c q → Turns g z O w w' → z < w'.heap.size → (∀ t, notDst l n t = true → a'.tmps.getD t undef = a.tmps.getD t undef) →
      (∀ j oj d, l[j]? = some oj → oj.dst = some d → (o.after.toList.any fun e => Region.binds .any e && e.on == j) = true → (Ts.getD j (kAny g z O)).p (a'.tmps.getD d undef) w') →
      wpOp P l.toArray Q i (fun a'' w'' => ∃ v q', a'' = a'.put o.dst v ∧ q' ≤ q + K ∧ Rd w'' B g A m c q' ∧ Turns g z O w' w'' ∧ (Ts.getD i (kAny g z O)).p v w'' ∧ (o.dst = none → v = undef)) a' w') 0 (l.take n))
    (hds : dstsOf l n = ds) (hcs : (casesM l n M).map (fun e => ((dstsOf l n).filter (fun x => !e.1.contains x.1), e.2)) = cs) (htl : l.drop n = tl)
    (htail : ∀ (vs : Nat → Value) w' q, q ≤ p + K * n → Rd w' B g A m c q → Turns g z O w w' → (∀ j d, (ds.any fun x => x.1 == j && x.2 == d) = true → (Ts.getD j (kAny g z O)).p (vs j) w') →
      (∀ j, (decide (j < n) && match l[j]? with | some o => o.dst.isNone | none => false) = true → (Ts.getD j (kAny g z O)).p undef w') → wpList P l.toArray Q tl (putAll a vs ds) w')
    (hlate : ∀ e ∈ cs, ∀ (vs : Nat → Value) w' q, q ≤ p + K * n → Rd w' B g A m c q → Turns g z O w w' → (∀ j d, (e.1.any fun x => x.1 == j && x.2 == d) = true → (Ts.getD j (kAny g z O)).p (vs j) w') → wpList P l.toArray Q (e.2.filterMap (l[·]?)) (putAll a vs e.1) w') :
    (Code.region id l.toArray true).wp P Q a w :=
  wp_region_rdM (M := M) n K (fun i => (Ts.getD i (kAny g z O)).p) hm hB hR (fun i => (Ts.getD i (kAny g z O)).k) hin
    (fun i o hi ho q a' w' h1 h2 h3 => by
      have := each_get _ 0 i o hstep (by rw [List.getElem?_take]; simp [hi, ho])
      simp only [Nat.zero_add] at this
      exact this q a' w' h1 h2 h3 (Nat.lt_of_lt_of_le hz h3.size))
    (fun vs w' q h1 h2 h3 h4 h5 => by
      rw [hds, htl]
      refine htail vs w' q h1 h2 h3 (fun j d hj => ?_) (fun j hj => ?_)
      · obtain ⟨x, hx, he⟩ := List.any_eq_true.1 hj
        simp only [Bool.and_eq_true, beq_iff_eq] at he
        rw [← hds] at hx
        have := h4 x hx
        rw [he.1] at this
        exact this
      · simp only [Bool.and_eq_true, decide_eq_true_eq] at hj
        cases ho : l[j]? with
        | none => simp [ho] at hj
        | some o => exact h5 j o hj.1 ho (by simpa [ho] using hj.2))
    (fun e he vs w' q h1 h2 h3 h4 => by
      refine hlate ((dstsOf l n).filter (fun x => !e.1.contains x.1), e.2) (by rw [← hcs]; exact List.mem_map.2 ⟨e, he, rfl⟩) vs w' q h1 h2 h3 (fun j d hj => ?_)
      obtain ⟨x, hx, hex⟩ := List.any_eq_true.1 hj
      simp only [Bool.and_eq_true, beq_iff_eq] at hex
      have := h4 x hx
      rw [hex.1] at this
      exact this)
end
end Go.Proofs.Ytbnfllpimnnmfaa
