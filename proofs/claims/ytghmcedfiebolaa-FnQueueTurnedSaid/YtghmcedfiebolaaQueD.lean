/-
  The drawing of queues and shares.
-/
import Derived.Test.YtghmcedfiebolaaPush
import Derived.Test.YtghmcedfiebolaaQueT
namespace Go.Proofs.Ytghmcedfiebolaa
open Go Go.RowKit

theorem Acc.congr {w : World} {B : Nat} {t : TypeId} {m : Nat} {v : Value} {n : Nat} {R R' : Nat → List Value} (h : Acc w B t m v n R) (hR : ∀ i, i < n → R i = R' i) (hm : ∀ i, (R' i).length = m) : Acc w B t m v n R' :=
  ⟨by rw [← rowsTo_congr hR]; exact h.1, hm⟩
theorem PAcc.at_ {w : World} {B : Nat} {t : TypeId} {ks : List Bool} {v : Value} {n : Nat} (h : PAcc w B t ks v n) (hn : 0 < n) : ∃ b c, v = .slice (some ⟨b, 0, none⟩) n c ∧ B ≤ b ∧ b < w.heap.size := by
  obtain ⟨R, _, ⟨_, h2⟩, _⟩ := h
  rcases h2 with ⟨_, h3⟩ | ⟨g, cap, cur, rfl, hb, hg, _⟩
  · omega
  · exact ⟨g, cap, rfl, hb, heap_lt hg⟩
theorem Acc.at_ {w : World} {B : Nat} {t : TypeId} {m : Nat} {v : Value} {n : Nat} {R : Nat → List Value} (h : Acc w B t m v n R) (hn : 0 < n) : ∃ b c cs, v = .slice (some ⟨b, 0, none⟩) n c ∧ B ≤ b ∧ w.heap[b]? = some (.cells cs t (0, 0)) := by
  obtain ⟨⟨_, h2⟩, _⟩ := h
  rcases h2 with ⟨_, h3⟩ | ⟨g, cap, cur, rfl, hb, hg, _⟩
  · omega
  · exact ⟨g, cap, cur, rfl, hb, hg⟩
theorem PAcc.rows {w : World} {B : Nat} {A : Option Addr} {n c : Nat} (h : PAcc w B 3 [true] (.slice A n c) n) : ∃ z, Rws w w.heap.size 1 A n c (intR z) := by
  obtain ⟨R, h1, h2⟩ := h
  obtain ⟨A', c', e, h3⟩ := h2.own
  cases e
  obtain ⟨z, rfl⟩ := intR_of h1
  exact ⟨z, h3.rows⟩
theorem plain1 {a : Int} (ha : -9223372036854775808 ≤ a ∧ a ≤ 9223372036854775807) : Plain [true] (#[Value.int .i64 a]).toList := ⟨a, [], rfl, WalkArith.wf_i64 (by omega), rfl⟩

/-- The inner slices: each in a block of its own. -/
def QI (w : World) (B : Nat) (QA : Nat → Option Addr) (qn qc : Nat → Nat) (nn : Nat) : Prop :=
  (∀ i, i < nn → qn i ≤ 9 ∧ PAcc w B 3 [true] (.slice (QA i) (qn i) (qc i)) (qn i) ∧ ∃ b, QA i = some ⟨b, 0, none⟩) ∧ ∀ i j, i < j → j < nn → QA i ≠ QA j
section
variable {w w' : World} {B : Nat} {QA : Nat → Option Addr} {qn qc : Nat → Nat} {nn : Nat}
theorem QI.kept (h : QI w B QA qn qc nn) {row : Option Nat} (hg : w.grownBy w' row) (hrow : ∀ i, i < nn → ∀ b, QA i = some ⟨b, 0, none⟩ → row ≠ some b) : QI w' B QA qn qc nn := by
  refine ⟨fun i hi => ?_, h.2⟩
  obtain ⟨h1, h2, b, h3⟩ := h.1 i hi
  refine ⟨h1, h2.kept hg (.inr ?_), b, h3⟩
  rw [h3]
  simp only [Value.ownBlock]
  exact Ne.symm (hrow i hi b h3)
theorem QI.next (h : QI w B QA qn qc nn) (hb : Below w.heap.size w w') : QI w' B QA qn qc nn := ⟨fun i hi => ⟨(h.1 i hi).1, (h.1 i hi).2.1.next hb, (h.1 i hi).2.2⟩, h.2⟩
theorem QI.low (h : QI w B QA qn qc nn) {i b : Nat} (hi : i < nn) (hb : QA i = some ⟨b, 0, none⟩) : B ≤ b ∧ b < w.heap.size := by
  have := (h.1 i hi).2.1.block b (by rw [hb]; rfl)
  exact this
theorem QI.far (h : QI w B QA qn qc nn) {g : Nat} (hg : w.grownBy w' (some g)) (hl : g < B) : QI w' B QA qn qc nn :=
  h.kept hg fun i hi b hb e => by have := (h.low hi hb).1; cases e; omega
theorem QI.typed (h : QI w B QA qn qc nn) {vq : Value} {m n : Nat} {R : Nat → List Value} (hA : Acc w B 23 m vq n R) : ∀ i, i < nn → ∀ b, QA i = some ⟨b, 0, none⟩ → vq.ownBlock ≠ some b := by
  intro i hi b hb e
  obtain ⟨cs, h1⟩ := hA.typed e
  obtain ⟨cs', h2⟩ := (h.1 i hi).2.1.typed (k := b) (by rw [hb]; rfl)
  exact typed_ne h1 h2 (by decide)
theorem QI.add (h : QI w B QA qn qc nn) {b j c : Nat} (hP : PAcc w B 3 [true] (.slice (some ⟨b, 0, none⟩) j c) j) (hj : j ≤ 9) (hlo : ∀ i, i < nn → ∀ k, QA i = some ⟨k, 0, none⟩ → k ≠ b) : QI w B (upd QA nn (some ⟨b, 0, none⟩)) (upd qn nn j) (upd qc nn c) (nn + 1) := by
  refine ⟨fun i hi => ?_, fun i k hik hk => ?_⟩
  · by_cases e : i = nn
    · subst e; simp only [upd_same]; exact ⟨hj, hP, b, rfl⟩
    · simp only [upd_other _ _ e]; exact h.1 i (by omega)
  · rw [upd_other _ _ (show i ≠ nn by omega)]
    by_cases e : k = nn
    · subst e
      rw [upd_same]
      intro e2
      exact hlo i hik b e2 rfl
    · rw [upd_other _ _ e]
      exact h.2 i k hik (by omega)
theorem QI.set (h : QI w B QA qn qc nn) {k b j c : Nat} (hk : k < nn) (hP : PAcc w B 3 [true] (.slice (some ⟨b, 0, none⟩) j c) j) (hj : j ≤ 9) (hlo : ∀ i, i < nn → i ≠ k → QA i ≠ some ⟨b, 0, none⟩) : QI w B (upd QA k (some ⟨b, 0, none⟩)) (upd qn k j) (upd qc k c) nn := by
  refine ⟨fun i hi => ?_, fun i l hil hl => ?_⟩
  · by_cases e : i = k
    · subst e; simp only [upd_same]; exact ⟨hj, hP, b, rfl⟩
    · simp only [upd_other _ _ e]; exact h.1 i hi
  · by_cases e : i = k
    · subst e
      rw [upd_same, upd_other _ _ (show l ≠ i by omega)]
      exact Ne.symm (hlo l hl (by omega))
    · rw [upd_other _ _ e]
      by_cases e2 : l = k
      · subst e2
        rw [upd_same]
        exact hlo i (by omega) e
      · rw [upd_other _ _ e2]
        exact h.2 i l hil hl
end
/-- What has been drawn so far. -/
def QD (w : World) (B : Nat) (vq vs : Value) (nn : Nat) : Prop :=
  ∃ (QA : Nat → Option Addr) (qn qc : Nat → Nat), Acc w B 23 1 vq nn (slR QA qn qc) ∧ PAcc w B 3 [true] vs nn ∧ QI w B QA qn qc nn ∧ (∀ i, i < nn → qn i ≤ 5) ∧ ∀ i, i < nn → ∀ b, QA i = some ⟨b, 0, none⟩ → vs.ownBlock ≠ some b
theorem QD.far {w w' : World} {B : Nat} {vq vs : Value} {nn g : Nat} (h : QD w B vq vs nn) (hg : w.grownBy w' (some g)) (hl : g < B) : QD w' B vq vs nn := by
  obtain ⟨QA, qn, qc, h1, h2, h3, h4⟩ := h
  exact ⟨QA, qn, qc, h1.far hg hl, h2.far hg hl, h3.far hg hl, h4⟩

theorem PAcc.turned {w w' : World} {B : Nat} {t : TypeId} {ks : List Bool} {v : Value} {n g z : Nat} {O : Obj → Prop} (h : PAcc w B t ks v n) (hT : Turns g z O w w') {b : Nat} (hb : v.ownBlock = some b) (h1 : b ≠ g) (h2 : b ≠ z) : PAcc w' B t ks v n := by
  obtain ⟨R, h3, ⟨h4, h5⟩, h6⟩ := h
  refine ⟨R, h3, ⟨h4, ?_⟩, h6⟩
  rcases h5 with h5 | ⟨k, cap, cur, rfl, h7, h8, h9⟩
  · exact .inl h5
  · have : k = b := by simpa [Value.ownBlock] using hb
    subst this
    exact .inr ⟨k, cap, cur, rfl, h7, hT.keep h8 h1 h2, h9⟩
theorem rows_set {w : World} {B b nn c : Nat} {t : TypeId} {cs : Array Value} {QA : Nat → Option Addr} {qn qc : Nat → Nat} (hb : w.heap[b]? = some (.cells cs t (0, 0))) (hR : Rws w B 1 (some ⟨b, 0, none⟩) nn c (slR QA qn qc)) (k : Nat) (A : Option Addr) (n0 c0 : Nat) {B2 : Nat} (hB : b < B2) :
    Rws (w.setCell ⟨b, k, none⟩ (.slice A n0 c0)) B2 1 (some ⟨b, 0, none⟩) nn c (slR (upd QA k A) (upd qn k n0) (upd qc k c0)) := by
  refine ⟨hR.1, fun hn => ⟨b, 0, rfl, hB, fun i hi j v hv => ?_⟩⟩
  obtain ⟨b', off', e, _, hc⟩ := hR.2 hn
  cases e
  have h1 := hc i hi 0 _ rfl
  cases j with
  | succ j => simp [slR] at hv
  | zero =>
    have h2 := heap_setCell_same w b k cs t (.slice A n0 c0) hb
    rw [(blk hb).1] at h1
    rw [(blk h2).1]
    simp only [Nat.zero_add, Nat.mul_one, Nat.add_zero] at h1 ⊢
    simp only [slR, List.getElem?_cons_zero, Option.some.injEq] at hv
    subst hv
    by_cases e : i = k
    · subst e
      simp only [upd_same]
      rw [Array.getElem?_setIfInBounds_self]
      rw [if_pos (Array.getElem?_eq_some_iff.1 h1).1]
    · simp only [upd_other _ _ e]
      rw [Array.getElem?_setIfInBounds_ne (by omega)]
      exact h1
theorem rows_setI {w : World} {B b nn c : Nat} {t : TypeId} {cs : Array Value} {sh : Nat → Int} (hb : w.heap[b]? = some (.cells cs t (0, 0))) (hR : Rws w B 1 (some ⟨b, 0, none⟩) nn c (intR sh)) (k : Nat) (x : Int) {B2 : Nat} (hB : b < B2) :
    Rws (w.setCell ⟨b, k, none⟩ (.int .i64 x)) B2 1 (some ⟨b, 0, none⟩) nn c (intR (upd sh k x)) := by
  refine ⟨hR.1, fun hn => ⟨b, 0, rfl, hB, fun i hi j v hv => ?_⟩⟩
  obtain ⟨b', off', e, _, hc⟩ := hR.2 hn
  cases e
  have h1 := hc i hi 0 _ rfl
  cases j with
  | succ j => simp [intR] at hv
  | zero =>
    have h2 := heap_setCell_same w b k cs t (.int .i64 x) hb
    rw [(blk hb).1] at h1
    rw [(blk h2).1]
    simp only [Nat.zero_add, Nat.mul_one, Nat.add_zero] at h1 ⊢
    simp only [intR, List.getElem?_cons_zero, Option.some.injEq] at hv
    subst hv
    by_cases e : i = k
    · subst e
      simp only [upd_same]
      rw [Array.getElem?_setIfInBounds_self]
      rw [if_pos (Array.getElem?_eq_some_iff.1 h1).1]
    · simp only [upd_other _ _ e]
      rw [Array.getElem?_setIfInBounds_ne (by omega)]
      exact h1
/-- What the drawing of queues leaves. -/
def DrawnQ (w : World) (B g : Nat) (A : Option Addr) (m c p K : Nat) (e : Ending) (w' : World) : Prop :=
  ∃ A1 n1 c1 qn q A2 n2 c2 sh pos, e = .returned (.tuple #[.slice A1 n1 c1, .slice A2 n2 c2]) ∧ n1 ≤ 5 ∧ n2 ≤ 6 ∧ (∀ i, i < n1 → qn i ≤ 9) ∧ Qs w' w'.heap.size A1 n1 c1 qn q ∧ Rws w' w'.heap.size 1 A2 n2 c2 (intR sh) ∧
    pos ≤ p + K ∧ Rd w' B g A m c pos ∧ w.grownBy w' (some g) ∧ ∀ w'', w'.grownBy w'' (some g) → Qs w'' w''.heap.size A1 n1 c1 qn q ∧ Rws w'' w''.heap.size 1 A2 n2 c2 (intR sh)
/-- Rows apart from the reader stay where the reader alone turns. -/
theorem Rws.away {w w' : World} {mm : Nat} {A : Option Addr} {n c g : Nat} {R : Nat → List Value} (h : Rws w w.heap.size mm A n c R) (hg : w.grownBy w' (some g)) (hne : ∀ b off, A = some ⟨b, off, none⟩ → b ≠ g) : Rws w' w'.heap.size mm A n c R := by
  refine ⟨h.1, fun hn => ?_⟩
  obtain ⟨b, off, e, hb, hc⟩ := h.2 hn
  refine ⟨b, off, e, Nat.lt_of_lt_of_le hb hg.size, fun i hi j v hv => ?_⟩
  exact (World.cell?_of_block (w := w) (a := ⟨b, _, none⟩) (hg.block b hb (by simpa using hne b off e))).trans (hc i hi j v hv)
theorem below_new (w : World) (o : Obj) : Below w.heap.size w (w.alloc o) := (Below.refl _ _).alloc (Nat.le_refl _) o
theorem drawnQ_of {w w' : World} {B g : Nat} {A : Option Addr} {m c p K B2 : Nat} {QA : Nat → Option Addr} {qn qc : Nat → Nat} {A1 : Option Addr} {n1 c1 : Nat} {A2 : Option Addr} {n2 c2 pos : Nat}
    (hA : Rws w' w'.heap.size 1 A1 n1 c1 (slR QA qn qc)) (hS : ∃ sh, Rws w' w'.heap.size 1 A2 n2 c2 (intR sh)) (hI : QI w' B2 QA qn qc n1) (h1 : n1 ≤ 5) (h2 : n2 ≤ 6) (h3 : pos ≤ p + K) (h4 : Rd w' B g A m c pos) (h5 : w.grownBy w' (some g)) (hag : ∀ b off, A1 = some ⟨b, off, none⟩ → b ≠ g) (hsg : ∀ b off, A2 = some ⟨b, off, none⟩ → b ≠ g) (hig : ∀ i, i < n1 → ∀ b, QA i = some ⟨b, 0, none⟩ → b ≠ g) :
    DrawnQ w B g A m c p K (.returned (.tuple #[.slice A1 n1 c1, .slice A2 n2 c2])) w' := by
  obtain ⟨sh, hsh⟩ := hS
  obtain ⟨T, hT⟩ := Go.Deep.choose_lt (α := Nat → Int) (n := n1) (p := fun i T => Rws w' w'.heap.size 1 (QA i) (qn i) (qc i) (intR T)) (fun i hi => (hI.1 i hi).2.1.rows)
  exact ⟨A1, n1, c1, qn, T, A2, n2, c2, sh, pos, rfl, h1, h2, fun i hi => (hI.1 i hi).1, ⟨QA, qc, hA, hT⟩, hsh, h3, h4, h5, fun w'' hg => ⟨⟨QA, qc, hA.away hg hag, fun i hi => (hT i hi).away hg (fun b off e => by
    obtain ⟨_, _, k, hk⟩ := hI.1 i hi
    have : b = k := by rw [e] at hk; cases hk; rfl
    subst this
    exact hig i hi b hk)⟩, hsh.away hg hsg⟩⟩
end Go.Proofs.Ytghmcedfiebolaa
