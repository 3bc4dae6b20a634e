/-
  The drawn outlet.
-/
import Derived.Test.YtahniedcflfdmaaPlc
import Derived.Test.YtahniedcflfdmaaFlwO
import Derived.Test.YtahniedcflfdmaaLatM
import Derived.Test.YtahniedcflfdmaaCel
namespace Go.Proofs.Ytahniedcflfdmaa
open Go Go.RowKit

section
variable (g z : Nat) (O : Obj → Prop)
/-- A new array of n rows that are alike, lo ≤ n ≤ hi. -/
def kMk (B0 : Nat) (t : TypeId) (m : Nat) (zs : List Value) (lo hi : Nat) : KP g z O :=
  ⟨fun v w => ∃ b n, v = .slice (some ⟨b, 0, none⟩) n n ∧ (b ≠ g ∧ b ≠ z) ∧ B0 ≤ b ∧ lo ≤ n ∧ n ≤ hi ∧ New w b t m n n (fun _ => zs),
   fun _ _ _ ⟨b, n, h1, h2, h3, h4, h5, h6⟩ hT => ⟨b, n, h1, h2, h3, h4, h5, h6.keep ((hT.block b h6.lt h2.1).resolve_right fun e => h2.2 e.1)⟩⟩
/-- A struct with something of which K tells in it. -/
def kAgG (K : KP g z O) (R : Value → Value → Prop) : KP g z O := ⟨fun v w => ∃ s, K.p s w ∧ R s v, fun _ _ _ ⟨s, h1, h2⟩ hT => ⟨s, K.k _ _ _ h1 hT, h2⟩⟩
end
def kNo : Obj → Prop := fun _ => False
/-- A valid outlet of n slots in memory of one's own. -/
def GoodO (w : World) (W0 : Nat) (x0 x1 : Int) (n : Nat) (A : Option Addr) (c : Nat) : Prop := ∃ f0 f1 f2 f3 f4 : Nat → Int, Acc w W0 39 5 (.slice A n c) n (flowR f0 f1 f2 f3 f4) ∧ outB x0 x1 n f0 f1 f2 f3 f4 = true
theorem GoodO.kept {w w' : World} {W0 : Nat} {x0 x1 : Int} {n : Nat} {A : Option Addr} {c : Nat} (h : GoodO w W0 x0 x1 n A c) {row : Option Nat} (hg : w.grownBy w' row) (hne : ∀ k, row = some k → k < W0 ∨ ∃ cs t, w.heap[k]? = some (.cells cs t (0, 0)) ∧ t ≠ 39) : GoodO w' W0 x0 x1 n A c := by
  obtain ⟨f0, f1, f2, f3, f4, h1, h2⟩ := h
  refine ⟨f0, f1, f2, f3, f4, h1.kept hg ?_, h2⟩
  cases hv : (Value.slice A n c).ownBlock with
  | none => exact .inl rfl
  | some b =>
    refine .inr fun e => ?_
    rcases hne b e.symm with h3 | ⟨cs, t, h3, h4⟩
    · have := (h1.block b hv).1; omega
    · obtain ⟨cs', h5⟩ := h1.typed hv
      exact typed_ne h5 h3 (Ne.symm h4)
theorem GoodO.far {w w' : World} {W0 g : Nat} {x0 x1 : Int} {n : Nat} {A : Option Addr} {c : Nat} (h : GoodO w W0 x0 x1 n A c) (hg : w.grownBy w' (some g)) (hl : g < W0) : GoodO w' W0 x0 x1 n A c := h.kept hg fun k e => .inl (by cases e; exact hl)
theorem GoodO.keptN {w w' : World} {W0 : Nat} {x0 x1 : Int} {n : Nat} {A : Option Addr} {c : Nat} (h : GoodO w W0 x0 x1 n A c) {row : Option Nat} (hg : w.grownBy w' row) (hne : (Value.slice A n c).ownBlock = none ∨ (Value.slice A n c).ownBlock ≠ row) : GoodO w' W0 x0 x1 n A c := by
  obtain ⟨f0, f1, f2, f3, f4, h1, h2⟩ := h
  exact ⟨f0, f1, f2, f3, f4, h1.kept hg hne, h2⟩
/-- .. of which one slot is not empty. -/
def GoodN (w : World) (W0 : Nat) (x0 x1 : Int) (n : Nat) (A : Option Addr) (c : Nat) : Prop := ∃ f0 f1 f2 f3 f4 : Nat → Int, Acc w W0 39 5 (.slice A n c) n (flowR f0 f1 f2 f3 f4) ∧ outB x0 x1 n f0 f1 f2 f3 f4 = true ∧ ∃ j, j < n ∧ noB f0 f1 f2 f3 f4 j = false
theorem GoodN.good {w : World} {W0 : Nat} {x0 x1 : Int} {n : Nat} {A : Option Addr} {c : Nat} (h : GoodN w W0 x0 x1 n A c) : GoodO w W0 x0 x1 n A c := by
  obtain ⟨f0, f1, f2, f3, f4, h1, h2, _⟩ := h
  exact ⟨f0, f1, f2, f3, f4, h1, h2⟩
theorem GoodN.keptN {w w' : World} {W0 : Nat} {x0 x1 : Int} {n : Nat} {A : Option Addr} {c : Nat} (h : GoodN w W0 x0 x1 n A c) {row : Option Nat} (hg : w.grownBy w' row) (hne : (Value.slice A n c).ownBlock = none ∨ (Value.slice A n c).ownBlock ≠ row) : GoodN w' W0 x0 x1 n A c := by
  obtain ⟨f0, f1, f2, f3, f4, h1, h2⟩ := h
  exact ⟨f0, f1, f2, f3, f4, h1.kept hg hne, h2⟩
theorem GoodN.far {w w' : World} {W0 g : Nat} {x0 x1 : Int} {n : Nat} {A : Option Addr} {c : Nat} (h : GoodN w W0 x0 x1 n A c) (hg : w.grownBy w' (some g)) (hl : g < W0) : GoodN w' W0 x0 x1 n A c := by
  obtain ⟨f0, f1, f2, f3, f4, h1, h2⟩ := h
  exact ⟨f0, f1, f2, f3, f4, h1.far hg hl, h2⟩
theorem GoodO.blk {w : World} {W0 : Nat} {x0 x1 : Int} {n : Nat} {A : Option Addr} {c : Nat} (h : GoodO w W0 x0 x1 n A c) {k : Nat} (hk : (Value.slice A n c).ownBlock = some k) : W0 ≤ k ∧ k < w.heap.size ∧ ∃ cs, w.heap[k]? = some (.cells cs 39 (0, 0)) := by
  obtain ⟨f0, f1, f2, f3, f4, h1, h2⟩ := h
  exact ⟨(h1.block k hk).1, (h1.block k hk).2, h1.typed hk⟩
/-- The slots lie elsewhere than an empty flow. -/
theorem GoodN.ne {w : World} {W0 : Nat} {x0 x1 : Int} {n : Nat} {A : Option Addr} {c b : Nat} (h : GoodN w W0 x0 x1 n A c) (hz : w.heap[b]? = some (.cells #[.int .i64 0, .int .i64 0, .int .i64 0, .int .i64 0, .int .i64 0] 39 (0, 0))) : (Value.slice A n c).ownBlock ≠ some b := by
  obtain ⟨f0, f1, f2, f3, f4, h1, _, j, hj, hnz⟩ := h
  intro e
  obtain ⟨g', c', e', hB, ⟨cs, h2, h3, h4, h5⟩, _⟩ := h1.new_ (by omega)
  cases e'
  have hgb : g' = b := by simpa [Value.ownBlock] using e
  subst hgb
  rw [hz] at h2
  cases h2
  simp at h3
  obtain rfl : j = 0 := by omega
  have r : ∀ q v, (flowR f0 f1 f2 f3 f4 0)[q]? = some v → #[Value.int .i64 0, .int .i64 0, .int .i64 0, .int .i64 0, .int .i64 0][0 * 5 + q]? = some v := fun q v hv => h5 0 hj q v hv
  have r0 := r 0 _ rfl
  have r1 := r 1 _ rfl
  have r2 := r 2 _ rfl
  have r3 := r 3 _ rfl
  have r4 := r 4 _ rfl
  simp at r0 r1 r2 r3 r4
  simp [noB, ← r0, ← r1, ← r2, ← r3, ← r4] at hnz
/-- What SendOut hands back. -/
def kSent (g W0 : Nat) (hg : g < W0) (x0 x1 : Int) (n : Nat) : KP g g (fun _ => False) :=
  ⟨fun v w => ∃ A c z0 z1 z2 z3 z4 ok, v = .tuple #[.agg #[.int .i64 x0, .int .i64 x1, .slice A n c], .agg #[.int .i64 z0, .int .i64 z1, .int .i64 z2, .int .i64 z3, .int .i64 z4], .bool ok] ∧ GoodN w W0 x0 x1 n A c,
   fun _ _ _ ⟨A, c, z0, z1, z2, z3, z4, ok, h1, h2⟩ hT => ⟨A, c, z0, z1, z2, z3, z4, ok, h1, h2.far hT.grown hg⟩⟩
def kOutA (g W0 : Nat) (hg : g < W0) (x0 x1 : Int) (n : Nat) : KP g g (fun _ => False) :=
  ⟨fun v w => ∃ A c, v = .agg #[.int .i64 x0, .int .i64 x1, .slice A n c] ∧ GoodN w W0 x0 x1 n A c, fun _ _ _ ⟨A, c, h1, h2⟩ hT => ⟨A, c, h1, h2.far hT.grown hg⟩⟩
def kFl5 (g : Nat) : KP g g (fun _ => False) := ⟨fun v _ => ∃ z0 z1 z2 z3 z4, v = .agg #[.int .i64 z0, .int .i64 z1, .int .i64 z2, .int .i64 z3, .int .i64 z4], fun _ _ _ h _ => h⟩
theorem sendO_d {w : World} {B g W0 : Nat} {A : Option Addr} {m c p : Nat} (h : Rd w B g A m c p) (hg : g < W0) (hW : W0 ≤ w.heap.size) {x0 x1 : Int} {A1 : Option Addr} {n1 c1 : Nat} (hA : GoodO w W0 x0 x1 n1 A1 c1)
    {y0 y1 y2 y3 y4 : Int} (hf : (0 ≤ y0 ∧ y0 ≤ 255) ∧ (0 ≤ y1 ∧ y1 ≤ 999) ∧ (0 ≤ y2 ∧ y2 ≤ 255) ∧ (0 ≤ y3 ∧ y3 ≤ 999) ∧ (1 ≤ y4 ∧ y4 ≤ 2)) :
    Calls Try.prog 41 #[.agg #[.int .i64 x0, .int .i64 x1, .slice A1 n1 c1], .agg #[.int .i64 y0, .int .i64 y1, .int .i64 y2, .int .i64 y3, .int .i64 y4]] w fun e w' => ∃ v q, e = .returned v ∧ (kSent g W0 hg x0 x1 n1).p v w' ∧ q ≤ p ∧ Rd w' B g A m c q ∧ w.grownBy w' (some g) := by
  obtain ⟨f0, f1, f2, f3, f4, h1, h2⟩ := hA
  obtain ⟨A', c', e, hO⟩ := h1.own
  cases e
  refine (specSendOut_good x0 x1 y0 y1 y2 y3 y4 hO.rows (Nat.le_refl _) h2 (by simp [flowB, inB]; omega)).mono ?_
  rintro e w' ⟨A2, c2, z0, z1, z2, z3, z4, ok, g0, g1, g2, g3, g4, rfl, hA2, ho2, hn2, hb⟩
  exact ⟨_, p, rfl, ⟨A2, c2, z0, z1, z2, z3, z4, ok, rfl, g0, g1, g2, g3, g4, hA2.base hW, ho2, hn2⟩, Nat.le_refl _, h.below hb, grown_below hb⟩
theorem zero_valid {x0 x1 : Int} {n : Nat} (h0 : 0 ≤ x0 ∧ x0 ≤ 255) (h1 : 0 ≤ x1 ∧ x1 ≤ 992) (hn : 1 ≤ n ∧ n ≤ 8) : outB x0 x1 n (fun _ => 0) (fun _ => 0) (fun _ => 0) (fun _ => 0) (fun _ => 0) = true := by
  rw [outB_end]
  · simp [inB]; omega
  · intro j _
    simp [sloB, noB]
/-- One of the values that a call returned. -/
theorem wpList_extract {P : Program} {ops : Array Oper} {rest : List Oper} {o : Oper} {a : Act} {w : World} {Q : Exit → Act → World → Prop} (hgd : o.guard = none) (x : Operand) (k : Nat) (ho : o.op = .extract x k) (vs : Array Value) (hx : a.eval x = .tuple vs) (v : Value) (hv : vs[k]? = some v)
    (h : wpList P ops Q rest (a.put o.dst v) w) : wpList P ops Q (o :: rest) a w := by
  refine wpList_plain hgd fun K hK => ?_
  unfold Oper.wp execOp
  simp [ho, hx, Instr.extract, hv, Result.andThen]
  exact hK _ _ h
end Go.Proofs.Ytahniedcflfdmaa
