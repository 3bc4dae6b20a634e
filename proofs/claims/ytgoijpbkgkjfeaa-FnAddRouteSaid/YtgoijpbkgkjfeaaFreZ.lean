/-
  A region that may draw its order and in whose head one old block is set; else it writes to no old memory.
-/
import Derived.Test.YtgoijpbkgkjfeaaFree
namespace Go.Proofs.Ytgoijpbkgkjfeaa
open Go Go.RowKit

/-- Old memory stays, but for block z, which may be set to what O allows. -/
structure TurnZ (z : Nat) (O : Obj → Prop) (w w' : World) : Prop where
  os : w'.os = w.os
  tape : w'.tape = w.tape
  output : w'.output = w.output
  size : w.heap.size ≤ w'.heap.size
  block : ∀ k, k < w.heap.size → w'.heap[k]? = w.heap[k]? ∨ (k = z ∧ ∃ o, O o ∧ w'.heap[k]? = some o)
section
variable {z : Nat} {O : Obj → Prop}
theorem TurnZ.refl (w : World) : TurnZ z O w w := ⟨rfl, rfl, rfl, Nat.le_refl _, fun _ _ => .inl rfl⟩
theorem TurnZ.tr {a b c : World} (h : TurnZ z O a b) (k : TurnZ z O b c) : TurnZ z O a c :=
  ⟨k.os.trans h.os, k.tape.trans h.tape, k.output.trans h.output, Nat.le_trans h.size k.size, fun i hi => by
    rcases k.block i (Nat.lt_of_lt_of_le hi h.size) with h1 | h1
    · rcases h.block i hi with h2 | h2
      · exact .inl (h1.trans h2)
      · obtain ⟨e, o, ho, h2⟩ := h2
        exact .inr ⟨e, o, ho, h1.trans h2⟩
    · exact .inr h1⟩
theorem TurnZ.of_below {a b : World} (h : Below a.heap.size a b) : TurnZ z O a b := ⟨h.os, h.tape, h.output, h.size, fun k hk => .inl (h.block k hk)⟩
theorem TurnZ.at_ {a b : World} (h : TurnZ z O a b) {k : Nat} (hk : k < a.heap.size) (hne : k ≠ z) : b.heap[k]? = a.heap[k]? := (h.block k hk).resolve_right fun e => hne e.1
theorem TurnZ.at_z {a b : World} (h : TurnZ z O a b) (hz : z < a.heap.size) : b.heap[z]? = a.heap[z]? ∨ ∃ o, O o ∧ b.heap[z]? = some o := (h.block z hz).imp id (·.2)
theorem TurnZ.grown {a b : World} (h : TurnZ z O a b) : a.grownBy b (some z) := ⟨h.os, h.tape, h.output, h.size, fun k hk hne => h.at_ hk (by simpa using hne)⟩
theorem TurnZ.keepc {a b : World} (h : TurnZ z O a b) (g : Nat) (hg : g < a.heap.size) (hne : g ≠ z) (i : Nat) : b.cell? ⟨g, i, none⟩ = a.cell? ⟨g, i, none⟩ := World.cell?_of_block (w := a) (a := ⟨g, i, none⟩) (h.at_ hg hne)
theorem TurnZ.keepf {a b : World} (h : TurnZ z O a b) (g : Nat) (hg : g < a.heap.size) (hne : g ≠ z) (i : Nat) : b.frozen? ⟨g, i, none⟩ = a.frozen? ⟨g, i, none⟩ := by simp [World.frozen?, h.at_ hg hne]
end
/-- What a slot may hold, kept while old memory stays but for z. -/
structure KZ (z : Nat) (O : Obj → Prop) where
  p : Value → World → Prop
  k : ∀ v w w', p v w → TurnZ z O w w' → p v w'
def kzAny (z : Nat) (O : Obj → Prop) : KZ z O := ⟨fun _ _ => True, fun _ _ _ h _ => h⟩
def kzIs (z : Nat) (O : Obj → Prop) (x : Value) : KZ z O := ⟨fun v _ => v = x, fun _ _ _ h _ => h⟩
/-- Block z has been set. -/
def kzSet (z : Nat) (O : Obj → Prop) : KZ z O := ⟨fun _ w => ∃ o, O o ∧ w.heap[z]? = some o, fun _ _ _ ⟨o, ho, h⟩ hT => by
    rcases hT.at_z (heap_lt h) with h1 | ⟨o', ho', h1⟩
    · exact ⟨o, ho, h1.trans h⟩
    · exact ⟨o', ho', h1⟩⟩
section
variable {P : Program} {z : Nat} {O : Obj → Prop}
def FreeStepZ (P : Program) (l : List Oper) (n : Nat) (a : Act) (w : World) (Q : Exit → Act → World → Prop) (o : Oper) (i : Nat) (Ts : List (KZ z O)) (T : KZ z O) : Prop :=
  ∀ a' w', TurnZ z O w w' → (∀ t, notDst l n t = true → a'.tmps.getD t undef = a.tmps.getD t undef) →
    (∀ j d, j < i → (l[j]?).bind (·.dst) = some d → (o.after.toList.any fun e => Region.binds .any e && e.on == j) = true → (Ts.getD (i - 1 - j) (kzAny z O)).p (a'.tmps.getD d undef) w') →
    wpOp P l.toArray Q i (fun a'' w'' => ∃ v, a'' = a'.put o.dst v ∧ TurnZ z O w' w'' ∧ T.p v w'' ∧ (o.dst = none → v = undef)) a' w'

/-- 'Ts': what the operations so far yield, the last one first. -/
def FreeFromZ (P : Program) (l : List Oper) (n : Nat) (a : Act) (w : World) (Q : Exit → Act → World → Prop) (F : List (KZ z O) → Prop) : List Oper → Nat → List (KZ z O) → Prop
  | [], _, Ts => F Ts
  | o :: r, i, Ts => ∃ T, FreeStepZ P l n a w Q o i Ts T ∧ FreeFromZ P l n a w Q F r (i + 1) (T :: Ts)

theorem freeZ_nil {l : List Oper} {n i : Nat} {a : Act} {w : World} {Q : Exit → Act → World → Prop} {F : List (KZ z O) → Prop} {Ts : List (KZ z O)} (h : F Ts) : FreeFromZ P l n a w Q F [] i Ts := h
theorem freeZ_cons {l : List Oper} {n i : Nat} {a : Act} {w : World} {Q : Exit → Act → World → Prop} {F : List (KZ z O) → Prop} {o : Oper} {r : List Oper} {Ts : List (KZ z O)} (T : KZ z O)
    (h : FreeStepZ P l n a w Q o i Ts T) (hr : FreeFromZ P l n a w Q F r (i + 1) (T :: Ts)) : FreeFromZ P l n a w Q F (o :: r) i Ts := ⟨T, h, hr⟩

theorem freeZ_is {l : List Oper} {n i : Nat} {a : Act} {w : World} {Q : Exit → Act → World → Prop} {F : List (KZ z O) → Prop} {o : Oper} {r : List Oper} {Ts : List (KZ z O)} {x : Value}
    (h : FreeStepZ P l n a w Q o i Ts (kzIs z O x)) (hr : FreeFromZ P l n a w Q F r (i + 1) (kzIs z O x :: Ts)) : FreeFromZ P l n a w Q F (o :: r) i Ts := ⟨_, h, hr⟩

theorem freeZ_all {l : List Oper} {n : Nat} {a : Act} {w : World} {Q : Exit → Act → World → Prop} {F : List (KZ z O) → Prop} : ∀ (r : List Oper) (i : Nat) (Ts : List (KZ z O)), FreeFromZ P l n a w Q F r i Ts →
    ∃ Us, F (Us ++ Ts) ∧ Us.length = r.length ∧ ∀ k o, r[k]? = some o → FreeStepZ P l n a w Q o (i + k) ((Us ++ Ts).drop (Us.length - k)) ((Us ++ Ts).getD (Us.length - 1 - k) (kzAny z O))
  | [], i, Ts, h => ⟨[], by simpa [FreeFromZ] using h, rfl, fun k o ho => by simp at ho⟩
  | o :: r, i, Ts, h => by
    obtain ⟨v, hv, hr⟩ := h
    obtain ⟨ys, hT, hl, hs⟩ := freeZ_all r (i + 1) (v :: Ts) hr
    have e0 : (ys ++ [v]) ++ Ts = ys ++ v :: Ts := by simp
    refine ⟨ys ++ [v], by rw [e0]; exact hT, by simp [hl], fun k o' ho => ?_⟩
    rw [e0]
    cases k with
    | zero =>
      have : o = o' := by simpa using ho
      subst this
      have e1 : (ys ++ v :: Ts).drop ((ys ++ [v]).length - 0) = Ts := by
        rw [← e0]; simp
      have e2 : (ys ++ v :: Ts).getD ((ys ++ [v]).length - 1 - 0) (kzAny z O) = v := by simp
      rw [e1, e2]
      exact hv
    | succ k =>
      have := hs k o' (by simpa using ho)
      have e1 : (ys ++ [v]).length - (k + 1) = ys.length - k := by simp
      have e2 : (ys ++ [v]).length - 1 - (k + 1) = ys.length - 1 - k := by simp; omega
      rw [e1, e2, show i + (k + 1) = i + 1 + k by omega]
      exact this

theorem wp_region_freeZ {id : Nat} {dr : Bool} {l tl : List Oper} {ds : List (Nat × Tmp)} {a : Act} {w : World} {Q : Exit → Act → World → Prop} (n : Nat)
    (hm : P.follows .mixedOrders = true) (hB : headTailB l n = true) (hwb : dr = true ∨ waitsBack l l.length = true)
    (hin : ((l.take n).all fun o => match o.dst with | some d => decide (d < a.tmps.size) | none => true) = true)
    (hds : dstsOf l n = ds) (htl : l.drop n = tl)
    (h : FreeFromZ P l n a w Q (fun Ts => ∀ (vs : Nat → Value) w', TurnZ z O w w' → (∀ j d, (ds.any fun x => x.1 == j && x.2 == d) = true → (Ts.getD (n - 1 - j) (kzAny z O)).p (vs j) w') → (∀ j, (decide (j < n) && match l[j]? with | some o => o.dst.isNone | none => false) = true → (Ts.getD (n - 1 - j) (kzAny z O)).p undef w') → wpList P l.toArray Q tl (putAll a vs ds) w') (l.take n) 0 []) :
    (Code.region id l.toArray dr).wp P Q a w := by
  obtain ⟨Us, hT, hl, hs⟩ := freeZ_all _ _ _ h
  simp only [List.append_nil, Nat.zero_add] at hT hs
  have hn : n ≤ l.length := by
    simp only [headTailB, Bool.and_eq_true, decide_eq_true_eq] at hB
    exact hB.1.1.1.1
  have hyl : Us.length = n := by rw [hl, List.length_take]; omega
  have hdrew : ∀ w0, w0 = w ∨ w0 = w.drew → ∀ w', TurnZ z O w0 w' → TurnZ z O w w' := by
    rintro w0 (rfl | rfl) w' hb
    · exact hb
    · exact ⟨hb.os, hb.tape, hb.output, hb.size, hb.block⟩
  have hmem : ∀ i o d, i < n → l[i]? = some o → o.dst = some d → (i, d) ∈ dstsOf l n := fun i o d hi ho hd =>
    List.mem_filterMap.2 ⟨i, List.mem_range.2 hi, by simp [ho, hd]⟩
  have hmem2 : ∀ x ∈ dstsOf l n, ∃ o, x.1 < n ∧ l[x.1]? = some o ∧ o.dst = some x.2 := by
    intro x hx
    obtain ⟨i, hi, he⟩ := List.mem_filterMap.1 hx
    cases ho : l[i]? with
    | none => simp [ho] at he
    | some o =>
      cases hd : o.dst with
      | none => simp [ho, hd] at he
      | some d =>
        simp [ho, hd] at he
        subst he
        exact ⟨o, List.mem_range.1 hi, ho, hd⟩
  have hnot : ∀ t, notDst l n t = true → ∀ j oj, j < n → l[j]? = some oj → oj.dst ≠ some t := by
    intro t ht j oj hj ho hd
    have := List.all_eq_true.1 ht _ (hmem j oj t hj ho hd)
    simp at this
  refine wp_region_kept (n := n) (fun a b => TurnZ z O a b) (fun _ _ => True) (fun j v w => (Us.getD (n - 1 - j) (kzAny z O)).p v w) hm hB hwb (fun w => TurnZ.refl w) (fun _ _ _ h1 h2 => TurnZ.tr h1 h2) (fun _ _ _ _ h hb => KZ.k _ _ _ _ h hb)
    (fun _ _ => trivial) hin ?_ ?_
  · intro w0 hw0 i o hi ho
    refine ⟨fun k a' w' _ _ hLe hdef hfr hdep => ?_⟩
    have hst := hs i o (by rw [List.getElem?_take]; simp [hi, ho])
    rw [hyl] at hst
    have := hst a' w' (hdrew _ hw0 _ hLe) (fun t ht => hfr t (hnot t ht)) (fun j d hj hd ha => by
      cases hoj : l[j]? with
      | none => simp [hoj] at hd
      | some oj =>
        have hd' : oj.dst = some d := by simpa [hoj] using hd
        have := hdep j oj d hoj hd' ha
        have e : ((Us.drop (n - i)).getD (i - 1 - j) (kzAny z O)) = Us.getD (n - 1 - j) (kzAny z O) := by
          rw [List.getD_eq_getElem?_getD, List.getD_eq_getElem?_getD, List.getElem?_drop]
          congr 2
          omega
        rw [e]
        exact this)
    refine wpOp_mono ?_ this
    rintro a'' w'' ⟨v, h1, h2, h3, h4⟩
    exact ⟨v, h1, trivial, h2, fun _ => h3, fun hd => by rw [h4 hd] at h3; exact h3⟩
  · intro w0 hw0 a' w' _ hLe hdef hsz hfr hT' hN
    have hv : ∀ x ∈ dstsOf l n, (match (l[x.1]?).bind (·.dst) with | some d => a'.tmps.getD d undef | none => undef) = a'.tmps.getD x.2 undef := by
      intro x hx
      obtain ⟨o, h1, h2, h3⟩ := hmem2 x hx
      simp [h2, h3]
    have e : a' = putAll a (fun i => match (l[i]?).bind (·.dst) with | some d => a'.tmps.getD d undef | none => undef) (dstsOf l n) :=
      act_putAll hdef hsz (fun t ht => hfr t fun j oj hj ho hd => ht (j, t) (hmem j oj t hj ho hd) rfl) _ hv
    rw [e, htl, hds]
    refine hT _ w' (hdrew _ hw0 _ hLe) (fun j d hj => ?_) (fun j hj => ?_)
    rotate_left
    · simp only [Bool.and_eq_true, decide_eq_true_eq] at hj
      cases ho : l[j]? with
      | none => simp [ho] at hj
      | some o => exact hN j o hj.1 ho (by simpa [ho] using hj.2)
    obtain ⟨x, hx, he⟩ := List.any_eq_true.1 hj
    simp only [Bool.and_eq_true, beq_iff_eq] at he
    rw [← hds] at hx
    obtain ⟨o, h1, h2, h3⟩ := hmem2 x hx
    have := hT' x.1 o x.2 h1 h2 h3
    rw [he.1] at this h2
    have e2 : (match (l[j]?).bind (·.dst) with | some d => a'.tmps.getD d undef | none => undef) = a'.tmps.getD x.2 undef := by simp [h2, h3]
    rw [e2]
    exact this
end
/-- Block z is stored in the middle of a region. -/
theorem wp_store_zz {P : Program} {o : Oper} {a : Act} {w w0 : World} {K : Act → World → Prop} {Q : Exit → Act → World → Prop} {z : Nat} {t : TypeId} {O : Obj → Prop} {cells old : Array Value} (ty : TypeId) (x y : Operand) (ho : o.op = .store ty x y)
    (hLe : TurnZ z O w0 w) (hz0 : w0.heap[z]? = some (.cells old t (0, 0))) (hO : ∀ o, O o → ∃ cs, o = .cells cs t (0, 0) ∧ cs.size = cells.size) (hx : a.eval x = .pointer (some ⟨z, 0, none⟩)) (hy : a.eval y = .agg cells)
    (hi : (P.info? ty).map (·.size) = some cells.size) (hold : old.size = cells.size) (h1 : cells.toList.all (·.oneCell') = true) (hOc : O (.cells cells t (0, 0)))
    (h : ∀ w2 : World, w2.heap[z]? = some (.cells cells t (0, 0)) → TurnZ z O w w2 → w.grownBy w2 (some z) → K (a.put o.dst undef) w2) : o.wp P a w K Q := by
  obtain ⟨old', hz, hs⟩ : ∃ old', w.heap[z]? = some (.cells old' t (0, 0)) ∧ old'.size = cells.size := by
    rcases hLe.at_z (heap_lt hz0) with h | ⟨o, ho, h⟩
    · exact ⟨old, h.trans hz0, hold⟩
    · obtain ⟨cs, rfl, hs⟩ := hO o ho
      exact ⟨cs, h, hs⟩
  have hh := setRow_heap w z old' cells t _ hz
  have hg := setRow_grown w z cells
  refine wp_store_row ty x y ho z cells hx hy t old' hz hi hs (by rw [← h1, Array.all_toList]) (h _ hh ⟨hg.os, hg.tape, hg.output, hg.size, fun k hk => ?_⟩ hg)
  by_cases hkz : k = z
  · subst hkz; exact .inr ⟨rfl, _, hOc, hh⟩
  · exact .inl (hg.block k hk (by simpa using hkz))
end Go.Proofs.Ytgoijpbkgkjfeaa
