/-
  The reference's TouchFlow, as the draws use it: at most one entry more; old memory stays.
-/
import Derived.Test.YtbnfllpimnnmfaaDev
import Derived.Test.YtbnfllpimnnmfaaRwS
import Derived.Test.YtbnfllpimnnmfaaPush
namespace Go.Proofs.Ytbnfllpimnnmfaa
open Go Go.RowKit

theorem info_entryP : (Try.prog.info? 81).map (fun i => (i.zero, i.size, i.bytes)) = some (some (.agg #[.int .i64 0, .int .i64 0, .int .i64 0, .int .i64 0, .int .i64 0, .int .i64 0, .int .i64 0]), [true, true, true, true, true, true, true].length, 56) := by kernel_rfl
/-- A copy of a table: its entries may grow. -/
def CopyT (w : World) (x0 x1 : Int) (n : Nat) (R : Nat → List Value) (e : Ending) (w' : World) : Prop :=
  ∃ A c, e = .returned (.agg #[.int .i64 x0, .int .i64 x1, .slice A n c]) ∧ Acc w' w.heap.size 81 7 (.slice A n c) n R ∧ Below w.heap.size w w'
def kbCopyT (B : Nat) (x0 x1 : Int) (n : Nat) (R : Nat → List Value) : KB :=
  ⟨fun v w => ∃ A c, v = .agg #[.int .i64 x0, .int .i64 x1, .slice A n c] ∧ Acc w B 81 7 (.slice A n c) n R, fun _ _ _ ⟨A, c, e, h⟩ hb => ⟨A, c, e, h.next hb⟩⟩
theorem below_bt (w : World) (o : Obj) : Below w.heap.size w (w.alloc o) := (Below.refl _ _).alloc (Nat.le_refl _) o
set_option maxHeartbeats 4000000 in
theorem l9Copy_any (x0 x1 : Int) {w : World} {B : Nat} {A : Option Addr} {n c : Nat} {f0 f1 f2 f3 f4 to la : Nat → Int} (H : Rws w B 7 A n c (entryR f0 f1 f2 f3 f4 to la)) (hB : B ≤ w.heap.size) (hn : n ≤ 500000000) :
    Calls Try.prog 72 #[.agg #[.int .i64 x0, .int .i64 x1, .slice A n c]] w (CopyT w x0 x1 n (entryR f0 f1 f2 f3 f4 to la)) := by
  have HH := Lib.hid (H.below ((below_bt w (.cells #[.int .i64 x0, .int .i64 x1, .slice A n c] 35)).mono hB))
  clear H
  go_enter Try.func72, Try.ntmps72
  go_wp2
  have hz := heap_new1 w (.cells #[.int .i64 x0, .int .i64 x1, .slice A n c] 35) (.cells #[.int .i64 0, .int .i64 0, .slice none 0 0] 35)
  have HH2 := Lib.hid (HH.out.below ((below_bt (w.alloc (.cells #[.int .i64 x0, .int .i64 x1, .slice A n c] 35)) (.cells #[.int .i64 0, .int .i64 0, .slice none 0 0] 35)).mono (by simp; omega)))
  clear HH
  refine wp_region_free (ds := [(0, 3), (1, 4), (2, 5), (3, 6), (4, 7), (5, 8), (6, 9), (7, 10), (8, 11)]) 9 (by kernel_rfl) (by kernel_rfl) (by first | exact .inl rfl | exact .inr (by kernel_rfl)) (by rfl) rfl rfl ?_
  apply free_is
  · intro a' w' hLe hfr hdep
    have e1 := hfr 1 rfl
    conv at e1 => rhs; whnf
    have f1 := e1; simp only [Array.getD_eq_getD_getElem?] at f1
    refine wpOp_plain rfl rfl (fun K hK => ?_)
    go_simp
    exact hK _ _ ⟨_, rfl, Below.refl _ _, rfl⟩
  apply free_is
  · intro a' w' hLe hfr hdep
    have e3 : a'.tmps.getD 3 undef = _ := hdep 0 3 (Nat.le_of_ble_eq_true rfl) rfl rfl
    conv at e3 => rhs; whnf
    have f3 := e3; simp only [Array.getD_eq_getD_getElem?] at f3
    have kc := fun i => keepc hLe (w.heap.size) (by (try simp) <;> omega) i
    have kf := fun i => keepf hLe (w.heap.size) (by (try simp) <;> omega) i
    have kz : w.heap.size < w'.heap.size := (by have := hLe.size; (try simp at this); omega)
    refine wpOp_plain rfl rfl (fun K hK => ?_)
    go_simp
    exact hK _ _ ⟨_, rfl, Below.refl _ _, rfl⟩
  apply free_is
  · intro a' w' hLe hfr hdep
    have e1 := hfr 1 rfl
    conv at e1 => rhs; whnf
    have f1 := e1; simp only [Array.getD_eq_getD_getElem?] at f1
    refine wpOp_plain rfl rfl (fun K hK => ?_)
    go_simp
    exact hK _ _ ⟨_, rfl, Below.refl _ _, rfl⟩
  apply free_is
  · intro a' w' hLe hfr hdep
    have e5 : a'.tmps.getD 5 undef = _ := hdep 2 5 (Nat.le_of_ble_eq_true rfl) rfl rfl
    conv at e5 => rhs; whnf
    have f5 := e5; simp only [Array.getD_eq_getD_getElem?] at f5
    have kc := fun i => keepc hLe (w.heap.size) (by (try simp) <;> omega) i
    have kf := fun i => keepf hLe (w.heap.size) (by (try simp) <;> omega) i
    have kz : w.heap.size < w'.heap.size := (by have := hLe.size; (try simp at this); omega)
    refine wpOp_plain rfl rfl (fun K hK => ?_)
    go_simp
    exact hK _ _ ⟨_, rfl, Below.refl _ _, rfl⟩
  refine free_cons (kbEmp w.heap.size 81) ?_ ?_
  · intro a' w' hLe hfr hdep
    refine wpOp_plain rfl rfl (fun K hK => ?_)
    go_simp
    exact hK _ _ ⟨_, rfl, (Below.refl _ _).alloc (Nat.le_refl _) _, ⟨_, rfl, by have := hLe.size; (try simp at this); omega, heap_alloc_new _ _⟩⟩
  apply free_is
  · intro a' w' hLe hfr hdep
    have e1 := hfr 1 rfl
    conv at e1 => rhs; whnf
    have f1 := e1; simp only [Array.getD_eq_getD_getElem?] at f1
    refine wpOp_plain rfl rfl (fun K hK => ?_)
    go_simp
    exact hK _ _ ⟨_, rfl, Below.refl _ _, rfl⟩
  apply free_is
  · intro a' w' hLe hfr hdep
    have e8 : a'.tmps.getD 8 undef = _ := hdep 5 8 (Nat.le_of_ble_eq_true rfl) rfl rfl
    conv at e8 => rhs; whnf
    have f8 := e8; simp only [Array.getD_eq_getD_getElem?] at f8
    have kc := fun i => keepc hLe (w.heap.size) (by (try simp) <;> omega) i
    have kf := fun i => keepf hLe (w.heap.size) (by (try simp) <;> omega) i
    have kz : w.heap.size < w'.heap.size := (by have := hLe.size; (try simp at this); omega)
    refine wpOp_plain rfl rfl (fun K hK => ?_)
    go_simp
    exact hK _ _ ⟨_, rfl, Below.refl _ _, rfl⟩
  refine free_cons (kbAcc w.heap.size 81 7 n (entryR f0 f1 f2 f3 f4 to la)) ?_ ?_
  · intro a' w' hLe hfr hdep
    obtain ⟨b7, e7, hb7, hh7⟩ := hdep 4 7 (Nat.le_of_ble_eq_true rfl) rfl rfl
    have f7 := e7; simp only [Array.getD_eq_getD_getElem?] at f7
    have e9 : a'.tmps.getD 9 undef = _ := hdep 6 9 (Nat.le_of_ble_eq_true rfl) rfl rfl
    conv at e9 => rhs; whnf
    have f9 := e9; simp only [Array.getD_eq_getD_getElem?] at f9
    have kc := fun i => keepc hLe (w.heap.size) (by (try simp) <;> omega) i
    have kf := fun i => keepf hLe (w.heap.size) (by (try simp) <;> omega) i
    have kz : w.heap.size < w'.heap.size := (by have := hLe.size; (try simp at this); omega)
    refine wpOp_plain rfl rfl (fun K hK => ?_)
    refine wp_copy0 (.tmp 7) (.tmp 9) 33 rfl 81 _ 7 56 Try.underlying33 info_entryP (by decide) (by decide) (by decide) e7 hb7 hh7 e9 (HH2.out.below (hLe.mono (by simp; omega))) (fun _ => rfl) (entryR_one _ _ _ _ _ _ _) hn ?_
    intro v2 w2 hv2 hb
    exact hK _ _ ⟨_, rfl, hb, hv2⟩
  refine free_cons (kbCopyT w.heap.size x0 x1 n (entryR f0 f1 f2 f3 f4 to la)) ?_ ?_
  · intro a' w' hLe hfr hdep
    have e4 : a'.tmps.getD 4 undef = _ := hdep 1 4 (Nat.le_of_ble_eq_true rfl) rfl rfl
    conv at e4 => rhs; whnf
    have f4 := e4; simp only [Array.getD_eq_getD_getElem?] at f4
    have e6 : a'.tmps.getD 6 undef = _ := hdep 3 6 (Nat.le_of_ble_eq_true rfl) rfl rfl
    conv at e6 => rhs; whnf
    have f6 := e6; simp only [Array.getD_eq_getD_getElem?] at f6
    obtain ⟨A10, c10, e10, hA10⟩ := hdep 7 10 (Nat.le_of_ble_eq_true rfl) rfl rfl
    have f10 := e10; simp only [Array.getD_eq_getD_getElem?] at f10
    refine wpOp_plain rfl rfl (fun K hK => ?_)
    go_simp
    exact hK _ _ ⟨_, rfl, Below.refl _ _, ⟨A10, c10, rfl, hA10⟩⟩
  apply free_nil
  intro vs w1 hb1 hT1
  have e3 : vs 0 = _ := hT1 0 3 rfl
  conv at e3 => rhs; whnf
  have e4 : vs 1 = _ := hT1 1 4 rfl
  conv at e4 => rhs; whnf
  have e5 : vs 2 = _ := hT1 2 5 rfl
  conv at e5 => rhs; whnf
  have e6 : vs 3 = _ := hT1 3 6 rfl
  conv at e6 => rhs; whnf
  obtain ⟨b7, e7, hb7, hh7⟩ := hT1 4 7 rfl
  have e8 : vs 5 = _ := hT1 5 8 rfl
  conv at e8 => rhs; whnf
  have e9 : vs 6 = _ := hT1 6 9 rfl
  conv at e9 => rhs; whnf
  obtain ⟨A10, c10, e10, hA10⟩ := hT1 7 10 rfl
  obtain ⟨A11, c11, e11, hA11⟩ := hT1 8 11 rfl
  simp only [putAll, List.drop_succ_cons, List.drop_zero, e3, e4, e5, e6, e7, e8, e9, e10, e11]
  clear hT1 e3 e4 e5 e6 e7 e8 e9 e10 e11
  go_simp
  have hz1 := (hb1.block (w.heap.size + 1) (by simp)).trans hz
  have hl1 := heap_lt hz1
  go_wp2_with (refine wpList_store_var rfl 35 (.tmp 2) (.tmp 11) rfl #[.int .i64 x0, .int .i64 x1, .slice A11 n c11] hz1 rfl rfl (by kernel_rfl) rfl rfl ?_)
  intro w9 hh9 hg9 hs9
  obtain ⟨k9, f9⟩ := blk hh9
  have hne : (Value.slice A11 n c11).ownBlock ≠ some (w.heap.size + 1) := fun e => by
    obtain ⟨cs, h2⟩ := hA11.typed e
    exact typed_ne h2 hz1 (by decide)
  have hA9 := hA11.kept hg9 (.inr hne)
  go_wp2
  refine bodyPost_ret (v := .agg #[.int .i64 x0, .int .i64 x1, .slice A11 n c11]) (by simp [results, Try.results72, go_sem, k9]) rfl ⟨A11, c11, rfl, hA9, Below.of_grown (Below.tr (by (repeat (first | exact Below.refl _ _ | assumption | refine Below.al ?_ _ | refine Below.dr ?_ | (refine Below.st ?_ (by simp <;> omega) _) | (refine Below.tr ?_ (by assumption))))) hb1) hg9 (by omega)⟩
theorem Acc.more7 {w : World} {B B' : Nat} {t : TypeId} {m : Nat} {v : Value} {n : Nat} {R : Nat → List Value} (h : Acc w B t m v n R) (hB : B' ≤ B) : Acc w B' t m v n R := by
  obtain ⟨⟨h2, h3⟩, h4⟩ := h
  exact ⟨⟨h2, h3.imp id fun ⟨g, cap, cur, e, hb, r⟩ => ⟨g, cap, cur, e, by omega, r⟩⟩, h4⟩
theorem plF_bd {a b c d e : Nat → Int} {y0 y1 y2 y3 y4 : Int} : ∀ n : Nat, -1 ≤ plF a b c d e y0 y1 y2 y3 y4 n ∧ plF a b c d e y0 y1 y2 y3 y4 n < n
  | 0 => by simp [plF]
  | n + 1 => by
    have := plF_bd (a := a) (b := b) (c := c) (d := d) (e := e) (y0 := y0) (y1 := y1) (y2 := y2) (y3 := y3) (y4 := y4) n
    simp only [plF]
    split
    · omega
    · split <;> omega
theorem PAcc.nil (w : World) (B : Nat) (t : TypeId) (ks : List Bool) : PAcc w B t ks (.slice none 0 0) 0 := ⟨fun _ => zeros ks, fun _ => plain_zeros ks, Acc.nil w B t _ fun _ => (plain_zeros ks).length⟩
/-- What the draws know of a touched table. -/
def Tchd (w : World) (x0 x1 : Int) (n : Nat) (e : Ending) (w' : World) : Prop :=
  ∃ z0 z1 : Int, ∃ A' n' c', ∃ ok : Bool, e = .returned (.tuple #[.agg #[.int .i64 z0, .int .i64 z1, .slice A' n' c'], .bool ok]) ∧ n' ≤ n + 1 ∧ (z0 = x0 ∧ z1 = x1 ∨ z0 = 0 ∧ z1 = 0) ∧ PAcc w' w.heap.size 81 [true, true, true, true, true, true, true] (.slice A' n' c') n' ∧ Below w.heap.size w w'
theorem Rws.partE {w : World} {B m b off n c : Nat} {R : Nat → List Value} (h : Rws w B m (some ⟨b, off, none⟩) n c R) (j n2 c2 : Nat) (hn : j + n2 ≤ n) (hc : n2 ≤ c2) (hc2 : c2 ≤ c) : Rws w B m (some ⟨b, off + j * m, none⟩) n2 c2 (fun i => R (i + j)) := by
  refine ⟨⟨hc, Nat.le_trans hc2 h.1.2⟩, fun h0 => ?_⟩
  obtain ⟨b', o', e, hb, hr⟩ := h.2 (by omega)
  cases e
  refine ⟨b, off + j * m, rfl, hb, fun i hi => ?_⟩
  have := hr (i + j) (by omega)
  rw [show off + j * m + i * m = off + (i + j) * m by rw [Nat.add_mul]; omega]
  exact this
theorem slice_hE (w : World) (a : Addr) (len cap : Nat) (h : Int) (p : Nat) (hh : h = p) (h2 : p ≤ cap) : (Instr.slice 33 (.slice (some a) len cap) none (some (.int .i64 h)) none).run Try.prog w = .ok (.slice (some a) p cap) w := by
  subst hh
  have ht : Try.prog.underlying 33 = some (.slice (Try.prog.elem 33)) := by kernel_rfl
  have he : Try.prog.elem 33 = 81 := by kernel_rfl
  rw [run_slice_h w _ _ _ _ ht .i64 p (by omega) (by omega), he]
  simp [sliced, go_sem, Addr.add]
theorem slice_lE (w : World) (b off len cap : Nat) (l : Int) (p : Nat) (hh : l = p) (h2 : p ≤ len) : (Instr.slice 33 (.slice (some ⟨b, off, none⟩) len cap) (some (.int .i64 l)) none none).run Try.prog w = .ok (.slice (some (if cap = p then ⟨b, off, none⟩ else ⟨b, off + p * 7, none⟩)) (len - p) (cap - p)) w := by
  subst hh
  have ht : Try.prog.underlying 33 = some (.slice (Try.prog.elem 33)) := by kernel_rfl
  have he : Try.prog.elem 33 = 81 := by kernel_rfl
  rw [run_slice_l w _ _ _ _ ht .i64 p (by omega) (by omega), he]
  by_cases h0 : cap = p
  · simp [sliced, go_sem, Addr.add, h0]
  · simp [sliced, go_sem, Addr.add, h0]
theorem own_ne7 {w : World} {B : Nat} {t t' : TypeId} {ks : List Bool} {v : Value} {n : Nat} (hP : PAcc w B t ks v n) {b : Nat} {cs : Array Value} (hb : w.heap[b]? = some (.cells cs t' (0, 0))) (hne : t ≠ t') : v.ownBlock ≠ some b := fun e => by
  obtain ⟨cs', h2⟩ := hP.typed e
  exact typed_ne h2 hb hne
theorem keep_typed {w w' : World} {B : Nat} {t t' : TypeId} {ks : List Bool} {v : Value} {n : Nat} (hP : PAcc w B t ks v n) (hg : w.grownBy w' v.ownBlock) {b : Nat} {cs : Array Value} (hb : w.heap[b]? = some (.cells cs t' (0, 0))) (hne : t ≠ t') : w'.heap[b]? = some (.cells cs t' (0, 0)) :=
  (hg.block b (heap_lt hb) (fun e => own_ne7 hP hb hne e.symm)).trans hb
/-- The rows from j on. -/
abbrev offE (R : Nat → List Value) (j : Nat) : Nat → List Value := fun i => R (i + j)
theorem heap3 (w : World) (a b c : Obj) : (((w.alloc a).alloc b).alloc c).heap[w.heap.size]? = some a ∧ (((w.alloc a).alloc b).alloc c).heap[w.heap.size + 1]? = some b ∧ (((w.alloc a).alloc b).alloc c).heap[w.heap.size + 1 + 1]? = some c := by
  have h1 := heap_alloc_new w a
  have h2 := heap_alloc_new (w.alloc a) b
  have h3 := heap_alloc_new ((w.alloc a).alloc b) c
  simp only [World.size_alloc] at h2 h3
  refine ⟨(heap_alloc_old _ _ (by simp only [World.size_alloc]; omega)).trans ((heap_alloc_old _ _ (by simp only [World.size_alloc]; omega)).trans h1), (heap_alloc_old _ _ (by simp only [World.size_alloc]; omega)).trans h2, h3⟩
set_option maxRecDepth 20000 in
set_option maxHeartbeats 16000000 in
theorem touchFlow_weak (x0 x1 : Int) {w : World} {B : Nat} {A : Option Addr} {n c : Nat} {f0 f1 f2 f3 f4 to la : Nat → Int} (y0 y1 y2 y3 y4 ho now : Int) (hp : ∀ i, Plain [true, true, true, true, true, true, true] (entryR f0 f1 f2 f3 f4 to la i)) (hy : Plain [true, true, true, true, true, true, true] [.int .i64 y0, .int .i64 y1, .int .i64 y2, .int .i64 y3, .int .i64 y4, .int .i64 ho, .int .i64 now])
    (H : Rws w B 7 A n c (entryR f0 f1 f2 f3 f4 to la)) (hB : B ≤ w.heap.size) (hn : n ≤ 1000) :
    Calls Try.prog 67 #[.agg #[.int .i64 x0, .int .i64 x1, .slice A n c], .agg #[.int .i64 y0, .int .i64 y1, .int .i64 y2, .int .i64 y3, .int .i64 y4], .int .i64 ho, .int .i64 now] w (Tchd w x0 x1 n) := by
  have HP := Lib.hid hp
  have HY := Lib.hid hy
  have H0 := Lib.hid (H.below ((show Below w.heap.size w (((w.alloc (.cells #[.int .i64 x0, .int .i64 x1, .slice A n c] 35)).alloc (.cells #[.int .i64 y0, .int .i64 y1, .int .i64 y2, .int .i64 y3, .int .i64 y4] 59)).alloc (.cells #[.int .i64 0, .int .i64 0, .slice none 0 0] 35)) by (repeat (first | exact Below.refl _ _ | assumption | refine Below.al ?_ _ | refine Below.dr ?_ | (refine Below.st ?_ (by simp <;> omega) _) | (refine Below.tr ?_ (by assumption))))).mono hB))
  have hnc := H.1
  unfold maxLen at hnc
  clear hp hy H
  go_enter Try.func67, Try.ntmps67
  go_wp2_with fail
  refine (specTableValid_any x0 x1 H0.out (by simp; omega)).mono ?_
  rintro e w1 ⟨rfl, hb1⟩
  have hq1 := (hb1.block w.heap.size (by simp only [World.size_alloc]; omega)).trans (heap3 w (.cells #[.int .i64 x0, .int .i64 x1, .slice A n c] 35) (.cells #[.int .i64 y0, .int .i64 y1, .int .i64 y2, .int .i64 y3, .int .i64 y4] 59) (.cells #[.int .i64 0, .int .i64 0, .slice none 0 0] 35)).1
  have hf1 := (hb1.block (w.heap.size + 1) (by simp only [World.size_alloc]; omega)).trans (heap3 w (.cells #[.int .i64 x0, .int .i64 x1, .slice A n c] 35) (.cells #[.int .i64 y0, .int .i64 y1, .int .i64 y2, .int .i64 y3, .int .i64 y4] 59) (.cells #[.int .i64 0, .int .i64 0, .slice none 0 0] 35)).2.1
  have hz1 := (hb1.block (w.heap.size + 1 + 1) (by simp only [World.size_alloc]; omega)).trans (heap3 w (.cells #[.int .i64 x0, .int .i64 x1, .slice A n c] 35) (.cells #[.int .i64 y0, .int .i64 y1, .int .i64 y2, .int .i64 y3, .int .i64 y4] 59) (.cells #[.int .i64 0, .int .i64 0, .slice none 0 0] 35)).2.2
  have hB1 : Below w.heap.size w w1 := Below.tr (by (repeat (first | exact Below.refl _ _ | assumption | refine Below.al ?_ _ | refine Below.dr ?_ | (refine Below.st ?_ (by simp <;> omega) _) | (refine Below.tr ?_ (by assumption))))) hb1
  have hs1 := hb1.size
  simp at hs1
  have H1 := Lib.hid (H0.out.below (hb1.mono (by simp; omega)))
  obtain ⟨kq, fq⟩ := blk hq1
  obtain ⟨kf, ff⟩ := blk hf1
  have hl1 := heap_lt hz1
  clear hb1 H0
  cases htv : tabVB x0 x1 n f0 f1 f2 f3 f4 to la with
  | false => 
  go_wp2_with (refine wpList_store_var rfl 35 (.tmp 8) (.tmp 32) rfl #[.int .i64 0, .int .i64 0, .slice none 0 0] hz1 rfl rfl (by kernel_rfl) rfl rfl ?_; intro w9 hh9 hg9 hs9; obtain ⟨k9, f9⟩ := blk hh9)
  refine bodyPost_ret (v := .tuple #[.agg #[.int .i64 0, .int .i64 0, .slice none 0 0], .bool false]) (by simp [results, Try.results67, go_sem, k9]) rfl ⟨0, 0, none, 0, 0, false, rfl, by omega, .inr ⟨rfl, rfl⟩, PAcc.nil _ _ _ _, Below.of_grown hB1 hg9 (by omega)⟩
  | true =>
    go_wp2_with fail
    refine (specFlowValid_b y0 y1 y2 y3 y4 _).mono ?_
    rintro e w2 ⟨rfl, hb2⟩
    have hB2 := Below.tr hB1 hb2
    have hq2 := (hb2.block w.heap.size (by omega)).trans hq1
    have hf2 := (hb2.block (w.heap.size + 1) (by omega)).trans hf1
    have hz2 := (hb2.block (w.heap.size + 1 + 1) (by omega)).trans hz1
    have H2 := Lib.hid (H1.out.below (hb2.mono (by omega)))
    have hs2 := hb2.size
    have hl2 := heap_lt hz2
    obtain ⟨kq2, fq2⟩ := blk hq2
    obtain ⟨kf2, ff2⟩ := blk hf2
    clear hb2 H1 hq1 hf1 hz1 kq fq kf ff
    cases hfv : flowB y0 y1 y2 y3 y4 with
    | false => 
  go_wp2_with (refine wpList_store_var rfl 35 (.tmp 8) (.tmp 32) rfl #[.int .i64 0, .int .i64 0, .slice none 0 0] hz2 rfl rfl (by kernel_rfl) rfl rfl ?_; intro w9 hh9 hg9 hs9; obtain ⟨k9, f9⟩ := blk hh9)
  refine bodyPost_ret (v := .tuple #[.agg #[.int .i64 0, .int .i64 0, .slice none 0 0], .bool false]) (by simp [results, Try.results67, go_sem, k9]) rfl ⟨0, 0, none, 0, 0, false, rfl, by omega, .inr ⟨rfl, rfl⟩, PAcc.nil _ _ _ _, Below.of_grown hB2 hg9 (by omega)⟩
    | true =>
      cases hhv : inB ho 0 30 with
      | false =>
        go_wp2_with fail
        refine (l1In_any _ _ _ _).mono ?_
        rintro e w' ⟨rfl, rfl⟩
        go_wp2_with (refine wpList_store_var rfl 35 (.tmp 8) (.tmp 32) rfl #[.int .i64 0, .int .i64 0, .slice none 0 0] hz2 rfl rfl (by kernel_rfl) rfl rfl ?_; intro w9 hh9 hg9 hs9; obtain ⟨k9, f9⟩ := blk hh9)
        refine bodyPost_ret (v := .tuple #[.agg #[.int .i64 0, .int .i64 0, .slice none 0 0], .bool false]) (by simp [results, Try.results67, go_sem, k9]) rfl ⟨0, 0, none, 0, 0, false, rfl, by omega, .inr ⟨rfl, rfl⟩, PAcc.nil _ _ _ _, Below.of_grown hB2 hg9 (by omega)⟩
      | true =>
        go_wp2_with fail
        refine (l1In_any _ _ _ _).mono ?_
        rintro e w' ⟨rfl, rfl⟩
        go_wp2_with fail
        refine (l9Last_any x0 x1 H2.out (by omega)).mono ?_
        rintro e w3 ⟨rfl, hb3⟩
        have hB3 := Below.tr hB2 hb3
        have hq3 := (hb3.block w.heap.size (by omega)).trans hq2
        have hf3 := (hb3.block (w.heap.size + 1) (by omega)).trans hf2
        have hz3 := (hb3.block (w.heap.size + 1 + 1) (by omega)).trans hz2
        have H3 := Lib.hid (H2.out.below (hb3.mono (by omega)))
        have hs3 := hb3.size
        have hl3 := heap_lt hz3
        obtain ⟨kq3, fq3⟩ := blk hq3
        obtain ⟨kf3, ff3⟩ := blk hf3
        clear hb3 H2 hq2 hf2 hz2 kq2 fq2 kf2 ff2
        cases hnv : inB now (lastT n la) 100000 with
        | false =>
          go_wp2_with fail
          refine (l1In_any _ _ _ _).mono ?_
          rintro e w' ⟨rfl, rfl⟩
          go_wp2_with (refine wpList_store_var rfl 35 (.tmp 8) (.tmp 32) rfl #[.int .i64 0, .int .i64 0, .slice none 0 0] hz3 rfl rfl (by kernel_rfl) rfl rfl ?_; intro w9 hh9 hg9 hs9; obtain ⟨k9, f9⟩ := blk hh9)
          refine bodyPost_ret (v := .tuple #[.agg #[.int .i64 0, .int .i64 0, .slice none 0 0], .bool false]) (by simp [results, Try.results67, go_sem, k9]) rfl ⟨0, 0, none, 0, 0, false, rfl, by omega, .inr ⟨rfl, rfl⟩, PAcc.nil _ _ _ _, Below.of_grown hB3 hg9 (by omega)⟩
        | true =>
          go_wp2_with fail
          refine (l1In_any _ _ _ _).mono ?_
          rintro e w' ⟨rfl, rfl⟩
          go_wp2_with fail
          refine (l9Copy_any x0 x1 H3.out (by omega) (by omega)).mono ?_
          rintro e w4 ⟨A4, c4, rfl, hA4, hb4⟩
          have hB4 := Below.tr hB3 hb4
          have hq4 := (hb4.block w.heap.size (by omega)).trans hq3
          have hf4 := (hb4.block (w.heap.size + 1) (by omega)).trans hf3
          have hz4 := (hb4.block (w.heap.size + 1 + 1) (by omega)).trans hz3
          have H4 := Lib.hid (H3.out.below (hb4.mono (by omega)))
          have hs4 := hb4.size
          have hl4 := heap_lt hz4
          obtain ⟨kq4, fq4⟩ := blk hq4
          obtain ⟨kf4, ff4⟩ := blk hf4
          clear hb4 H3 hq3 hf3 hz3 kq3 fq3 kf3 ff3
          have l0 : w.heap.size < w4.heap.size := by omega
          have l1 : w.heap.size + 1 < w4.heap.size := by omega
          have ho4 := heap_alloc_new w4 (.cells #[.int .i64 x0, .int .i64 x1, .slice A4 n c4] 35)
          have hqa := (heap_alloc_old w4 (.cells #[.int .i64 x0, .int .i64 x1, .slice A4 n c4] 35) l0).trans hq4
          have hfa := (heap_alloc_old w4 (.cells #[.int .i64 x0, .int .i64 x1, .slice A4 n c4] 35) l1).trans hf4
          have hza := (heap_alloc_old w4 (.cells #[.int .i64 x0, .int .i64 x1, .slice A4 n c4] 35) hl4).trans hz4
          have Ha := Lib.hid (H4.out.below ((below_bt w4 (.cells #[.int .i64 x0, .int .i64 x1, .slice A4 n c4] 35)).mono (by omega)))
          have hAa := (hA4.more7 (show w.heap.size ≤ w3.heap.size by omega)).next (below_bt w4 (.cells #[.int .i64 x0, .int .i64 x1, .slice A4 n c4] 35))
          have hBa := Below.tr hB4 (below_bt w4 (.cells #[.int .i64 x0, .int .i64 x1, .slice A4 n c4] 35))
          have hsa : (w4.alloc (.cells #[.int .i64 x0, .int .i64 x1, .slice A4 n c4] 35)).heap.size = w4.heap.size + 1 := by simp
          go_wp2_with fail
          refine (l9Place_any y0 y1 y2 y3 y4 Ha.out (by omega)).mono ?_
          rintro e w5 ⟨rfl, hb5⟩
          have hs5 := hb5.size
          have hq5 := (hb5.block w.heap.size (by omega)).trans hqa
          have hf5 := (hb5.block (w.heap.size + 1) (by omega)).trans hfa
          have hz5 := (hb5.block (w.heap.size + 1 + 1) (by omega)).trans hza
          have ho5 := (hb5.block w4.heap.size (by omega)).trans ho4
          have H5 := Lib.hid (Ha.out.below (hb5.mono (by omega)))
          have hA5 := hAa.next hb5
          have hB5 := Below.tr hBa hb5
          have hl5 := heap_lt ho5
          obtain ⟨kq5, fq5⟩ := blk hq5
          obtain ⟨kf5, ff5⟩ := blk hf5
          obtain ⟨ko5, fo5⟩ := blk ho5
          have hbd := plF_bd (a := f0) (b := f1) (c := f2) (d := f3) (e := f4) (y0 := y0) (y1 := y1) (y2 := y2) (y3 := y3) (y4 := y4) n
          generalize plF f0 f1 f2 f3 f4 y0 y1 y2 y3 y4 n = at' at *
          have hxx : 1 ≤ x0 ∧ (n : Int) ≤ x0 := by
            simp only [tabVB, Bool.and_eq_true, decide_eq_true_eq] at htv
            exact ⟨(inB_true.1 htv.2.1.1).1, htv.2.2⟩
          clear hb5 hqa hfa hza ho4 Ha hAa hBa hA4 H4 hq4 hf4 hz4 kq4 fq4 kf4 ff4 htv hfv hhv hnv
          by_cases hat : 0 ≤ at'
          · obtain ⟨p, rfl⟩ := Int.eq_ofNat_of_zero_le hat
            obtain ⟨bl, off, rfl, hbl, _⟩ := H5.out.2 (by omega)
            have hsl : ∀ W : World, (Instr.slice 33 (.slice (some ⟨bl, off, none⟩) n c) none (some (.int .i64 ((p : Int)))) none).run Try.prog W = .ok (.slice (some ⟨bl, off, none⟩) (p) c) W := fun W => slice_hE W ⟨bl, off, none⟩ n c ((p : Int)) (p) (by omega) (by omega)
            obtain ⟨A2, hsl2, hR2⟩ : ∃ A2, (∀ W : World, (Instr.slice 33 (.slice (some ⟨bl, off, none⟩) n c) (some (.int .i64 ((p : Int) + 1))) none none).run Try.prog W = .ok (.slice (some A2) (n - (p + 1)) (c - (p + 1))) W) ∧ Rws w5 B 7 (some A2) (n - (p + 1)) (c - (p + 1)) (offE (entryR f0 f1 f2 f3 f4 to la) (p + 1)) := by
              refine ⟨_, fun W => slice_lE W bl off n c ((p : Int) + 1) (p + 1) (by omega) (by omega), ?_⟩
              by_cases hcp : c = p + 1
              · have h0 : n - (p + 1) = 0 := by omega
                rw [h0]
                exact Rws.none_ (by unfold maxLen; omega)
              · rw [if_neg hcp]
                exact H5.out.partE (p + 1) _ _ (by omega) (by omega) (by omega)
            have HR2 := Lib.hid hR2
            obtain ⟨N, hNN⟩ : ∃ N, N = p + (n - (p + 1)) := ⟨_, rfl⟩
            have hNn : N ≤ n := by omega
            have HNN := Lib.hid hNN
            have H5p := Lib.hid (H5.out.take (p) (by omega))
            have lq5 := heap_lt hq5
            have hwr : IntKind.i64.wrap ((p : Int) + 1) = ((p : Int) + 1) := IntWalk.i64_in _ (by omega)
            clear hR2 hNN
            go_wp2
            refine wp_region_free (ds := [(0, 51), (1, 52), (2, 53), (3, 54), (4, 55), (5, 56), (6, 57), (7, 58), (8, 59), (9, 60), (10, 61)]) 11 (by kernel_rfl) (by kernel_rfl) (by first | exact .inl rfl | exact .inr (by kernel_rfl)) (by rfl) rfl rfl ?_
            refine free_cons (kbEmp w5.heap.size 81) ?_ ?_
            · intro a' w' hLe hfr hdep
              refine wpOp_plain rfl rfl (fun K hK => ?_)
              go_simp
              exact hK _ _ ⟨_, rfl, (Below.refl _ _).alloc (Nat.le_refl _) _, ⟨_, rfl, by have := hLe.size; (try simp at this); omega, heap_alloc_new _ _⟩⟩
            apply free_is
            · intro a' w' hLe hfr hdep
              have e4 := hfr 4 rfl
              conv at e4 => rhs; whnf
              have f4 := e4; simp only [Array.getD_eq_getD_getElem?] at f4
              refine wpOp_plain rfl rfl (fun K hK => ?_)
              go_simp
              exact hK _ _ ⟨_, rfl, Below.refl _ _, rfl⟩
            apply free_is
            · intro a' w' hLe hfr hdep
              have e52 : a'.tmps.getD 52 undef = _ := hdep 1 52 (Nat.le_of_ble_eq_true rfl) rfl rfl
              conv at e52 => rhs; whnf
              have f52 := e52; simp only [Array.getD_eq_getD_getElem?] at f52
              have kc := fun i => keepc hLe (w.heap.size) (by (try simp) <;> omega) i
              have kf := fun i => keepf hLe (w.heap.size) (by (try simp) <;> omega) i
              have kz : w.heap.size < w'.heap.size := (by have := hLe.size; (try simp at this); omega)
              refine wpOp_plain rfl rfl (fun K hK => ?_)
              go_simp
              exact hK _ _ ⟨_, rfl, Below.refl _ _, rfl⟩
            apply free_is
            · intro a' w' hLe hfr hdep
              have e11 := hfr 11 rfl
              conv at e11 => rhs; whnf
              have f11 := e11; simp only [Array.getD_eq_getD_getElem?] at f11
              refine wpOp_plain rfl rfl (fun K hK => ?_)
              go_simp
              exact hK _ _ ⟨_, rfl, Below.refl _ _, rfl⟩
            apply free_is
            · intro a' w' hLe hfr hdep
              have e53 : a'.tmps.getD 53 undef = _ := hdep 2 53 (Nat.le_of_ble_eq_true rfl) rfl rfl
              conv at e53 => rhs; whnf
              have f53 := e53; simp only [Array.getD_eq_getD_getElem?] at f53
              have e54 : a'.tmps.getD 54 undef = _ := hdep 3 54 (Nat.le_of_ble_eq_true rfl) rfl rfl
              conv at e54 => rhs; whnf
              have f54 := e54; simp only [Array.getD_eq_getD_getElem?] at f54
              refine wpOp_plain rfl rfl (fun K hK => ?_)
              go_simp
              exact hK _ _ ⟨_, rfl, Below.refl _ _, rfl⟩
            refine free_cons (kbAcc w5.heap.size 81 7 (p) (entryR f0 f1 f2 f3 f4 to la)) ?_ ?_
            · intro a' w' hLe hfr hdep
              obtain ⟨b51, e51, hb51, hh51⟩ := hdep 0 51 (Nat.le_of_ble_eq_true rfl) rfl rfl
              have f51 := e51; simp only [Array.getD_eq_getD_getElem?] at f51
              have e55 : a'.tmps.getD 55 undef = _ := hdep 4 55 (Nat.le_of_ble_eq_true rfl) rfl rfl
              conv at e55 => rhs; whnf
              have f55 := e55; simp only [Array.getD_eq_getD_getElem?] at f55
              have kc := fun i => keepc hLe (w.heap.size) (by (try simp) <;> omega) i
              have kf := fun i => keepf hLe (w.heap.size) (by (try simp) <;> omega) i
              have kz : w.heap.size < w'.heap.size := (by have := hLe.size; (try simp at this); omega)
              refine wpOp_plain rfl rfl (fun K hK => ?_)
              refine wp_copy0 (.tmp 51) (.tmp 55) 33 rfl 81 _ 7 56 Try.underlying33 info_entryP (by decide) (by decide) (by decide) e51 hb51 hh51 e55 (H5p.out.below (hLe.mono (by omega))) (fun _ => rfl) (entryR_one _ _ _ _ _ _ _) (by omega) ?_
              intro v2 w2 hv2 hb
              exact hK _ _ ⟨_, rfl, hb, hv2⟩
            apply free_is
            · intro a' w' hLe hfr hdep
              have e4 := hfr 4 rfl
              conv at e4 => rhs; whnf
              have f4 := e4; simp only [Array.getD_eq_getD_getElem?] at f4
              refine wpOp_plain rfl rfl (fun K hK => ?_)
              go_simp
              exact hK _ _ ⟨_, rfl, Below.refl _ _, rfl⟩
            apply free_is
            · intro a' w' hLe hfr hdep
              have e57 : a'.tmps.getD 57 undef = _ := hdep 6 57 (Nat.le_of_ble_eq_true rfl) rfl rfl
              conv at e57 => rhs; whnf
              have f57 := e57; simp only [Array.getD_eq_getD_getElem?] at f57
              have kc := fun i => keepc hLe (w.heap.size) (by (try simp) <;> omega) i
              have kf := fun i => keepf hLe (w.heap.size) (by (try simp) <;> omega) i
              have kz : w.heap.size < w'.heap.size := (by have := hLe.size; (try simp at this); omega)
              refine wpOp_plain rfl rfl (fun K hK => ?_)
              go_simp
              exact hK _ _ ⟨_, rfl, Below.refl _ _, rfl⟩
            apply free_is
            · intro a' w' hLe hfr hdep
              have e11 := hfr 11 rfl
              conv at e11 => rhs; whnf
              have f11 := e11; simp only [Array.getD_eq_getD_getElem?] at f11
              refine wpOp_plain rfl rfl (fun K hK => ?_)
              go_simp
              exact hK _ _ ⟨_, rfl, Below.refl _ _, rfl⟩
            apply free_is
            · intro a' w' hLe hfr hdep
              have e59 : a'.tmps.getD 59 undef = _ := hdep 8 59 (Nat.le_of_ble_eq_true rfl) rfl rfl
              conv at e59 => rhs; whnf
              have f59 := e59; simp only [Array.getD_eq_getD_getElem?] at f59
              refine wpOp_plain rfl rfl (fun K hK => ?_)
              go_simp
              exact hK _ _ ⟨_, rfl, Below.refl _ _, rfl⟩
            apply free_is
            · intro a' w' hLe hfr hdep
              have e58 : a'.tmps.getD 58 undef = _ := hdep 7 58 (Nat.le_of_ble_eq_true rfl) rfl rfl
              conv at e58 => rhs; whnf
              have f58 := e58; simp only [Array.getD_eq_getD_getElem?] at f58
              have e60 : a'.tmps.getD 60 undef = _ := hdep 9 60 (Nat.le_of_ble_eq_true rfl) rfl rfl
              conv at e60 => rhs; whnf
              have f60 := e60; simp only [Array.getD_eq_getD_getElem?] at f60
              refine wpOp_plain rfl rfl (fun K hK => ?_)
              go_simp
              exact hK _ _ ⟨_, rfl, Below.refl _ _, rfl⟩
            apply free_nil
            intro vs w8 hb8 hT8
            obtain ⟨b51, e51, hb51, hh51⟩ := hT8 0 51 rfl
            have e52 : vs 1 = _ := hT8 1 52 rfl
            conv at e52 => rhs; whnf
            have e53 : vs 2 = _ := hT8 2 53 rfl
            conv at e53 => rhs; whnf
            have e54 : vs 3 = _ := hT8 3 54 rfl
            conv at e54 => rhs; whnf
            have e55 : vs 4 = _ := hT8 4 55 rfl
            conv at e55 => rhs; whnf
            obtain ⟨A56, c56, e56, hA56⟩ := hT8 5 56 rfl
            have e57 : vs 6 = _ := hT8 6 57 rfl
            conv at e57 => rhs; whnf
            have e58 : vs 7 = _ := hT8 7 58 rfl
            conv at e58 => rhs; whnf
            have e59 : vs 8 = _ := hT8 8 59 rfl
            conv at e59 => rhs; whnf
            have e60 : vs 9 = _ := hT8 9 60 rfl
            conv at e60 => rhs; whnf
            have e61 : vs 10 = _ := hT8 10 61 rfl
            conv at e61 => rhs; whnf
            simp only [putAll, List.drop_succ_cons, List.drop_zero, e51, e52, e53, e54, e55, e56, e57, e58, e59, e60, e61]
            clear hT8 e51 e52 e53 e54 e55 e56 e57 e58 e59 e60 e61
            go_simp
            have hs8 := hb8.size
            have hP8 : PAcc w8 w5.heap.size 81 [true, true, true, true, true, true, true] (.slice A56 (p) c56) (p) := ⟨_, HP.out, hA56⟩
            have ho8 := (hb8.block w4.heap.size hl5).trans ho5
            have hf8 := (hb8.block (w.heap.size + 1) (by omega)).trans hf5
            have hz8 := (hb8.block (w.heap.size + 1 + 1) (by omega)).trans hz5
            have hB8 := Below.tr hB5 hb8
            go_upto_region 9 with (first | (at_builtin; refine wpList_pushAll rfl (.tmp 56) (.tmp 61) 33 rfl 81 _ 7 56 Try.underlying33 info_entryP (by decide) (by decide) (by decide) rfl hA56 rfl (HR2.out.below (hb8.mono (by omega))) (fun _ => rfl) (fun i => entryR_one _ _ _ _ _ _ _ _) (by omega) (by omega) (by omega) ?_; intro v9 w9 hA9 hb9 hg9; rw [← HNN.out] at hA9; obtain ⟨A9, c9, he9, _, _⟩ := hA9.form; have ho9 := keep_typed hP8 hg9 ho8 (by decide); have hf9 := keep_typed hP8 hg9 hf8 (by decide); have hz9 := keep_typed hP8 hg9 hz8 (by decide); have hB9 := hB8.trans (hb9.mono (by omega)); subst he9) | (refine wpList_store_at rfl 33 (.tmp 63) (.tmp 62) rfl (.slice A9 N c9) #[.int .i64 x0, .int .i64 x1, .slice A9 N c9] ho9 rfl rfl (by kernel_rfl) rfl rfl (by simp) rfl ?_; intro w10 ho10 hg10 hs10))
            have hP9 : PAcc w9 w5.heap.size 81 [true, true, true, true, true, true, true] (.slice A9 N c9) N := ⟨_, fun i => (by unfold glue; split <;> exact HP.out _), hA9⟩
            have hP10 : PAcc w10 w.heap.size 81 [true, true, true, true, true, true, true] (.slice A9 N c9) N := (hP9.kept hg10 (.inr (own_ne7 hP9 ho9 (by decide)))).base (by omega)
            have hf10 := heap_far hf9 hg10 (by omega)
            have hz10 := heap_far hz9 hg10 (by omega)
            have hB10 : Below w.heap.size w w10 := Below.of_grown hB9 hg10 (by omega)
            clear hA56 hA9 hsl hsl2 hP8 hP9 hg9 hg10 hb9 hs10
            obtain ⟨kff, fff⟩ := blk hf10
            obtain ⟨koo, foo⟩ := blk ho10
            have lff := heap_lt hf10
            have loo := heap_lt ho10
            have lzz := heap_lt hz10
            have hsB := hB10.size
            go_wp2_with (first | (at_builtin; refine wpList_pushP rfl (.tmp 65) (.tmp 70) 33 rfl 81 _ [true, true, true, true, true, true, true] 56 Try.underlying33 info_entryP (by decide) (by decide) (by decide) rfl (hP10.next (below_bt w10 (.cells #[.int .i64 y0, .int .i64 y1, .int .i64 y2, .int .i64 y3, .int .i64 y4, .int .i64 ho, .int .i64 now] 81))) rfl (heap_alloc_new _ _) HY.out (by omega) (by simp; omega) ?_; intro v12 w12 hP12 hB12 hg12; obtain ⟨A12, c12, he12, _, _⟩ := hP12.form; have ho12 := keep_typed (hP10.next (below_bt w10 (.cells #[.int .i64 y0, .int .i64 y1, .int .i64 y2, .int .i64 y3, .int .i64 y4, .int .i64 ho, .int .i64 now] 81))) hg12 ((heap_alloc_old w10 (.cells #[.int .i64 y0, .int .i64 y1, .int .i64 y2, .int .i64 y3, .int .i64 y4, .int .i64 ho, .int .i64 now] 81) loo).trans ho10) (by decide); have hz12 := keep_typed (hP10.next (below_bt w10 (.cells #[.int .i64 y0, .int .i64 y1, .int .i64 y2, .int .i64 y3, .int .i64 y4, .int .i64 ho, .int .i64 now] 81))) hg12 ((heap_alloc_old w10 (.cells #[.int .i64 y0, .int .i64 y1, .int .i64 y2, .int .i64 y3, .int .i64 y4, .int .i64 ho, .int .i64 now] 81) lzz).trans hz10) (by decide); have hBB := (Below.tr hB10 (below_bt w10 (.cells #[.int .i64 y0, .int .i64 y1, .int .i64 y2, .int .i64 y3, .int .i64 y4, .int .i64 ho, .int .i64 now] 81))).trans hB12; have hsBB := hBB.size; have lo12 := heap_lt ho12; have lz12 := heap_lt hz12; subst he12) | (refine wpList_store_at rfl 33 (.tmp 72) (.tmp 71) rfl (.slice A12 (N + 1) c12) #[.int .i64 x0, .int .i64 x1, .slice A12 (N + 1) c12] ho12 rfl rfl (by kernel_rfl) rfl rfl (by simp) rfl ?_; intro w13 ho13 hg13 hs13; obtain ⟨k13, f13⟩ := blk ho13; have hz13 := heap_far hz12 hg13 (by omega)) | (refine wpList_store_var rfl 35 (.tmp 8) (.tmp 73) rfl #[.int .i64 x0, .int .i64 x1, .slice A12 (N + 1) c12] hz13 rfl rfl (by kernel_rfl) rfl rfl ?_; intro w14 hz14 hg14 hs14; obtain ⟨k14, f14⟩ := blk hz14))
            have hP13 := hP12.kept hg13 (.inr (own_ne7 hP12 ho12 (by decide)))
            have hP14 := hP13.kept hg14 (.inr (own_ne7 hP13 hz13 (by decide)))
            refine bodyPost_ret (v := .tuple #[.agg #[.int .i64 x0, .int .i64 x1, .slice A12 (N + 1) c12], .bool true]) (by simp [results, Try.results67, go_sem, k14]) rfl ⟨x0, x1, A12, N + 1, c12, true, rfl, by omega, .inl ⟨rfl, rfl⟩, hP14, Below.of_grown (Below.of_grown hBB hg13 (by omega)) hg14 (by omega)⟩
          · obtain rfl : at' = -1 := by omega
            by_cases hnx : (n : Int) = x0
            · have hnx2 : ((n : Int) == x0) = true := by simpa using hnx
              have hn0 : 0 < n := by omega
              have HNX := Lib.hid hnx
              clear hnx hxx
              obtain ⟨bl, off, rfl, hbl, _⟩ := H5.out.2 (by omega)
              have hsl : ∀ W : World, (Instr.slice 33 (.slice (some ⟨bl, off, none⟩) n c) none (some (.int .i64 (0))) none).run Try.prog W = .ok (.slice (some ⟨bl, off, none⟩) (0) c) W := fun W => slice_hE W ⟨bl, off, none⟩ n c (0) (0) (by omega) (by omega)
              obtain ⟨A2, hsl2, hR2⟩ : ∃ A2, (∀ W : World, (Instr.slice 33 (.slice (some ⟨bl, off, none⟩) n c) (some (.int .i64 (1))) none none).run Try.prog W = .ok (.slice (some A2) (n - (0 + 1)) (c - (0 + 1))) W) ∧ Rws w5 B 7 (some A2) (n - (0 + 1)) (c - (0 + 1)) (offE (entryR f0 f1 f2 f3 f4 to la) (0 + 1)) := by
                refine ⟨_, fun W => slice_lE W bl off n c (1) (0 + 1) (by omega) (by omega), ?_⟩
                by_cases hcp : c = 0 + 1
                · have h0 : n - (0 + 1) = 0 := by omega
                  rw [h0]
                  exact Rws.none_ (by unfold maxLen; omega)
                · rw [if_neg hcp]
                  exact H5.out.partE (0 + 1) _ _ (by omega) (by omega) (by omega)
              have HR2 := Lib.hid hR2
              obtain ⟨N, hNN⟩ : ∃ N, N = 0 + (n - (0 + 1)) := ⟨_, rfl⟩
              have hNn : N ≤ n := by omega
              have HNN := Lib.hid hNN
              have H5p := Lib.hid (H5.out.take (0) (by omega))
              have lq5 := heap_lt hq5
              have hwr : IntKind.i64.wrap (1) = (1) := IntWalk.i64_in _ (by omega)
              clear hR2 hNN
              go_wp2
              refine wp_region_free (ds := [(0, 51), (1, 52), (2, 53), (3, 54), (4, 55), (5, 56), (6, 57), (7, 58), (8, 59), (9, 60), (10, 61)]) 11 (by kernel_rfl) (by kernel_rfl) (by first | exact .inl rfl | exact .inr (by kernel_rfl)) (by rfl) rfl rfl ?_
              refine free_cons (kbEmp w5.heap.size 81) ?_ ?_
              · intro a' w' hLe hfr hdep
                refine wpOp_plain rfl rfl (fun K hK => ?_)
                go_simp
                exact hK _ _ ⟨_, rfl, (Below.refl _ _).alloc (Nat.le_refl _) _, ⟨_, rfl, by have := hLe.size; (try simp at this); omega, heap_alloc_new _ _⟩⟩
              apply free_is
              · intro a' w' hLe hfr hdep
                have e4 := hfr 4 rfl
                conv at e4 => rhs; whnf
                have f4 := e4; simp only [Array.getD_eq_getD_getElem?] at f4
                refine wpOp_plain rfl rfl (fun K hK => ?_)
                go_simp
                exact hK _ _ ⟨_, rfl, Below.refl _ _, rfl⟩
              apply free_is
              · intro a' w' hLe hfr hdep
                have e52 : a'.tmps.getD 52 undef = _ := hdep 1 52 (Nat.le_of_ble_eq_true rfl) rfl rfl
                conv at e52 => rhs; whnf
                have f52 := e52; simp only [Array.getD_eq_getD_getElem?] at f52
                have kc := fun i => keepc hLe (w.heap.size) (by (try simp) <;> omega) i
                have kf := fun i => keepf hLe (w.heap.size) (by (try simp) <;> omega) i
                have kz : w.heap.size < w'.heap.size := (by have := hLe.size; (try simp at this); omega)
                refine wpOp_plain rfl rfl (fun K hK => ?_)
                go_simp
                exact hK _ _ ⟨_, rfl, Below.refl _ _, rfl⟩
              apply free_is
              · intro a' w' hLe hfr hdep
                have e11 := hfr 11 rfl
                conv at e11 => rhs; whnf
                have f11 := e11; simp only [Array.getD_eq_getD_getElem?] at f11
                refine wpOp_plain rfl rfl (fun K hK => ?_)
                go_simp
                exact hK _ _ ⟨_, rfl, Below.refl _ _, rfl⟩
              apply free_is
              · intro a' w' hLe hfr hdep
                have e53 : a'.tmps.getD 53 undef = _ := hdep 2 53 (Nat.le_of_ble_eq_true rfl) rfl rfl
                conv at e53 => rhs; whnf
                have f53 := e53; simp only [Array.getD_eq_getD_getElem?] at f53
                have e54 : a'.tmps.getD 54 undef = _ := hdep 3 54 (Nat.le_of_ble_eq_true rfl) rfl rfl
                conv at e54 => rhs; whnf
                have f54 := e54; simp only [Array.getD_eq_getD_getElem?] at f54
                refine wpOp_plain rfl rfl (fun K hK => ?_)
                go_simp
                exact hK _ _ ⟨_, rfl, Below.refl _ _, rfl⟩
              refine free_cons (kbAcc w5.heap.size 81 7 (0) (entryR f0 f1 f2 f3 f4 to la)) ?_ ?_
              · intro a' w' hLe hfr hdep
                obtain ⟨b51, e51, hb51, hh51⟩ := hdep 0 51 (Nat.le_of_ble_eq_true rfl) rfl rfl
                have f51 := e51; simp only [Array.getD_eq_getD_getElem?] at f51
                have e55 : a'.tmps.getD 55 undef = _ := hdep 4 55 (Nat.le_of_ble_eq_true rfl) rfl rfl
                conv at e55 => rhs; whnf
                have f55 := e55; simp only [Array.getD_eq_getD_getElem?] at f55
                have kc := fun i => keepc hLe (w.heap.size) (by (try simp) <;> omega) i
                have kf := fun i => keepf hLe (w.heap.size) (by (try simp) <;> omega) i
                have kz : w.heap.size < w'.heap.size := (by have := hLe.size; (try simp at this); omega)
                refine wpOp_plain rfl rfl (fun K hK => ?_)
                refine wp_copy0 (.tmp 51) (.tmp 55) 33 rfl 81 _ 7 56 Try.underlying33 info_entryP (by decide) (by decide) (by decide) e51 hb51 hh51 e55 (H5p.out.below (hLe.mono (by omega))) (fun _ => rfl) (entryR_one _ _ _ _ _ _ _) (by omega) ?_
                intro v2 w2 hv2 hb
                exact hK _ _ ⟨_, rfl, hb, hv2⟩
              apply free_is
              · intro a' w' hLe hfr hdep
                have e4 := hfr 4 rfl
                conv at e4 => rhs; whnf
                have f4 := e4; simp only [Array.getD_eq_getD_getElem?] at f4
                refine wpOp_plain rfl rfl (fun K hK => ?_)
                go_simp
                exact hK _ _ ⟨_, rfl, Below.refl _ _, rfl⟩
              apply free_is
              · intro a' w' hLe hfr hdep
                have e57 : a'.tmps.getD 57 undef = _ := hdep 6 57 (Nat.le_of_ble_eq_true rfl) rfl rfl
                conv at e57 => rhs; whnf
                have f57 := e57; simp only [Array.getD_eq_getD_getElem?] at f57
                have kc := fun i => keepc hLe (w.heap.size) (by (try simp) <;> omega) i
                have kf := fun i => keepf hLe (w.heap.size) (by (try simp) <;> omega) i
                have kz : w.heap.size < w'.heap.size := (by have := hLe.size; (try simp at this); omega)
                refine wpOp_plain rfl rfl (fun K hK => ?_)
                go_simp
                exact hK _ _ ⟨_, rfl, Below.refl _ _, rfl⟩
              apply free_is
              · intro a' w' hLe hfr hdep
                have e11 := hfr 11 rfl
                conv at e11 => rhs; whnf
                have f11 := e11; simp only [Array.getD_eq_getD_getElem?] at f11
                refine wpOp_plain rfl rfl (fun K hK => ?_)
                go_simp
                exact hK _ _ ⟨_, rfl, Below.refl _ _, rfl⟩
              apply free_is
              · intro a' w' hLe hfr hdep
                have e59 : a'.tmps.getD 59 undef = _ := hdep 8 59 (Nat.le_of_ble_eq_true rfl) rfl rfl
                conv at e59 => rhs; whnf
                have f59 := e59; simp only [Array.getD_eq_getD_getElem?] at f59
                refine wpOp_plain rfl rfl (fun K hK => ?_)
                go_simp
                exact hK _ _ ⟨_, rfl, Below.refl _ _, rfl⟩
              apply free_is
              · intro a' w' hLe hfr hdep
                have e58 : a'.tmps.getD 58 undef = _ := hdep 7 58 (Nat.le_of_ble_eq_true rfl) rfl rfl
                conv at e58 => rhs; whnf
                have f58 := e58; simp only [Array.getD_eq_getD_getElem?] at f58
                have e60 : a'.tmps.getD 60 undef = _ := hdep 9 60 (Nat.le_of_ble_eq_true rfl) rfl rfl
                conv at e60 => rhs; whnf
                have f60 := e60; simp only [Array.getD_eq_getD_getElem?] at f60
                refine wpOp_plain rfl rfl (fun K hK => ?_)
                go_simp
                exact hK _ _ ⟨_, rfl, Below.refl _ _, rfl⟩
              apply free_nil
              intro vs w8 hb8 hT8
              obtain ⟨b51, e51, hb51, hh51⟩ := hT8 0 51 rfl
              have e52 : vs 1 = _ := hT8 1 52 rfl
              conv at e52 => rhs; whnf
              have e53 : vs 2 = _ := hT8 2 53 rfl
              conv at e53 => rhs; whnf
              have e54 : vs 3 = _ := hT8 3 54 rfl
              conv at e54 => rhs; whnf
              have e55 : vs 4 = _ := hT8 4 55 rfl
              conv at e55 => rhs; whnf
              obtain ⟨A56, c56, e56, hA56⟩ := hT8 5 56 rfl
              have e57 : vs 6 = _ := hT8 6 57 rfl
              conv at e57 => rhs; whnf
              have e58 : vs 7 = _ := hT8 7 58 rfl
              conv at e58 => rhs; whnf
              have e59 : vs 8 = _ := hT8 8 59 rfl
              conv at e59 => rhs; whnf
              have e60 : vs 9 = _ := hT8 9 60 rfl
              conv at e60 => rhs; whnf
              have e61 : vs 10 = _ := hT8 10 61 rfl
              conv at e61 => rhs; whnf
              simp only [putAll, List.drop_succ_cons, List.drop_zero, e51, e52, e53, e54, e55, e56, e57, e58, e59, e60, e61]
              clear hT8 e51 e52 e53 e54 e55 e56 e57 e58 e59 e60 e61
              go_simp
              have hs8 := hb8.size
              have hP8 : PAcc w8 w5.heap.size 81 [true, true, true, true, true, true, true] (.slice A56 (0) c56) (0) := ⟨_, HP.out, hA56⟩
              have ho8 := (hb8.block w4.heap.size hl5).trans ho5
              have hf8 := (hb8.block (w.heap.size + 1) (by omega)).trans hf5
              have hz8 := (hb8.block (w.heap.size + 1 + 1) (by omega)).trans hz5
              have hB8 := Below.tr hB5 hb8
              go_upto_region 9 with (first | (at_builtin; refine wpList_pushAll rfl (.tmp 56) (.tmp 61) 33 rfl 81 _ 7 56 Try.underlying33 info_entryP (by decide) (by decide) (by decide) rfl hA56 rfl (HR2.out.below (hb8.mono (by omega))) (fun _ => rfl) (fun i => entryR_one _ _ _ _ _ _ _ _) (by omega) (by omega) (by omega) ?_; intro v9 w9 hA9 hb9 hg9; rw [← HNN.out] at hA9; obtain ⟨A9, c9, he9, _, _⟩ := hA9.form; have ho9 := keep_typed hP8 hg9 ho8 (by decide); have hf9 := keep_typed hP8 hg9 hf8 (by decide); have hz9 := keep_typed hP8 hg9 hz8 (by decide); have hB9 := hB8.trans (hb9.mono (by omega)); subst he9) | (refine wpList_store_at rfl 33 (.tmp 63) (.tmp 62) rfl (.slice A9 N c9) #[.int .i64 x0, .int .i64 x1, .slice A9 N c9] ho9 rfl rfl (by kernel_rfl) rfl rfl (by simp) rfl ?_; intro w10 ho10 hg10 hs10))
              have hP9 : PAcc w9 w5.heap.size 81 [true, true, true, true, true, true, true] (.slice A9 N c9) N := ⟨_, fun i => (by unfold glue; split <;> exact HP.out _), hA9⟩
              have hP10 : PAcc w10 w.heap.size 81 [true, true, true, true, true, true, true] (.slice A9 N c9) N := (hP9.kept hg10 (.inr (own_ne7 hP9 ho9 (by decide)))).base (by omega)
              have hf10 := heap_far hf9 hg10 (by omega)
              have hz10 := heap_far hz9 hg10 (by omega)
              have hB10 : Below w.heap.size w w10 := Below.of_grown hB9 hg10 (by omega)
              clear hA56 hA9 hsl hsl2 hP8 hP9 hg9 hg10 hb9 hs10
              obtain ⟨kff, fff⟩ := blk hf10
              obtain ⟨koo, foo⟩ := blk ho10
              have lff := heap_lt hf10
              have loo := heap_lt ho10
              have lzz := heap_lt hz10
              have hsB := hB10.size
              go_wp2_with (first | (at_builtin; refine wpList_pushP rfl (.tmp 65) (.tmp 70) 33 rfl 81 _ [true, true, true, true, true, true, true] 56 Try.underlying33 info_entryP (by decide) (by decide) (by decide) rfl (hP10.next (below_bt w10 (.cells #[.int .i64 y0, .int .i64 y1, .int .i64 y2, .int .i64 y3, .int .i64 y4, .int .i64 ho, .int .i64 now] 81))) rfl (heap_alloc_new _ _) HY.out (by omega) (by simp; omega) ?_; intro v12 w12 hP12 hB12 hg12; obtain ⟨A12, c12, he12, _, _⟩ := hP12.form; have ho12 := keep_typed (hP10.next (below_bt w10 (.cells #[.int .i64 y0, .int .i64 y1, .int .i64 y2, .int .i64 y3, .int .i64 y4, .int .i64 ho, .int .i64 now] 81))) hg12 ((heap_alloc_old w10 (.cells #[.int .i64 y0, .int .i64 y1, .int .i64 y2, .int .i64 y3, .int .i64 y4, .int .i64 ho, .int .i64 now] 81) loo).trans ho10) (by decide); have hz12 := keep_typed (hP10.next (below_bt w10 (.cells #[.int .i64 y0, .int .i64 y1, .int .i64 y2, .int .i64 y3, .int .i64 y4, .int .i64 ho, .int .i64 now] 81))) hg12 ((heap_alloc_old w10 (.cells #[.int .i64 y0, .int .i64 y1, .int .i64 y2, .int .i64 y3, .int .i64 y4, .int .i64 ho, .int .i64 now] 81) lzz).trans hz10) (by decide); have hBB := (Below.tr hB10 (below_bt w10 (.cells #[.int .i64 y0, .int .i64 y1, .int .i64 y2, .int .i64 y3, .int .i64 y4, .int .i64 ho, .int .i64 now] 81))).trans hB12; have hsBB := hBB.size; have lo12 := heap_lt ho12; have lz12 := heap_lt hz12; subst he12) | (refine wpList_store_at rfl 33 (.tmp 72) (.tmp 71) rfl (.slice A12 (N + 1) c12) #[.int .i64 x0, .int .i64 x1, .slice A12 (N + 1) c12] ho12 rfl rfl (by kernel_rfl) rfl rfl (by simp) rfl ?_; intro w13 ho13 hg13 hs13; obtain ⟨k13, f13⟩ := blk ho13; have hz13 := heap_far hz12 hg13 (by omega)) | (refine wpList_store_var rfl 35 (.tmp 8) (.tmp 73) rfl #[.int .i64 x0, .int .i64 x1, .slice A12 (N + 1) c12] hz13 rfl rfl (by kernel_rfl) rfl rfl ?_; intro w14 hz14 hg14 hs14; obtain ⟨k14, f14⟩ := blk hz14))
              have hP13 := hP12.kept hg13 (.inr (own_ne7 hP12 ho12 (by decide)))
              have hP14 := hP13.kept hg14 (.inr (own_ne7 hP13 hz13 (by decide)))
              refine bodyPost_ret (v := .tuple #[.agg #[.int .i64 x0, .int .i64 x1, .slice A12 (N + 1) c12], .bool true]) (by simp [results, Try.results67, go_sem, k14]) rfl ⟨x0, x1, A12, N + 1, c12, true, rfl, by omega, .inl ⟨rfl, rfl⟩, hP14, Below.of_grown (Below.of_grown hBB hg13 (by omega)) hg14 (by omega)⟩
            · have hnx2 : ((n : Int) == x0) = false := by simpa using hnx
              have hPP : PAcc w5 w.heap.size 81 [true, true, true, true, true, true, true] (.slice A4 n c4) n := ⟨_, HP.out, hA5⟩
              obtain ⟨kff, fff⟩ := blk hf5
              obtain ⟨koo, foo⟩ := blk ho5
              have lff := heap_lt hf5
              have loo := heap_lt ho5
              have lzz := heap_lt hz5
              have hsB := hB5.size
              go_wp2_with (first | (at_builtin; refine wpList_pushP rfl (.tmp 65) (.tmp 70) 33 rfl 81 _ [true, true, true, true, true, true, true] 56 Try.underlying33 info_entryP (by decide) (by decide) (by decide) rfl (hPP.next (below_bt w5 (.cells #[.int .i64 y0, .int .i64 y1, .int .i64 y2, .int .i64 y3, .int .i64 y4, .int .i64 ho, .int .i64 now] 81))) rfl (heap_alloc_new _ _) HY.out (by omega) (by simp; omega) ?_; intro v12 w12 hP12 hB12 hg12; obtain ⟨A12, c12, he12, _, _⟩ := hP12.form; have ho12 := keep_typed (hPP.next (below_bt w5 (.cells #[.int .i64 y0, .int .i64 y1, .int .i64 y2, .int .i64 y3, .int .i64 y4, .int .i64 ho, .int .i64 now] 81))) hg12 ((heap_alloc_old w5 (.cells #[.int .i64 y0, .int .i64 y1, .int .i64 y2, .int .i64 y3, .int .i64 y4, .int .i64 ho, .int .i64 now] 81) loo).trans ho5) (by decide); have hz12 := keep_typed (hPP.next (below_bt w5 (.cells #[.int .i64 y0, .int .i64 y1, .int .i64 y2, .int .i64 y3, .int .i64 y4, .int .i64 ho, .int .i64 now] 81))) hg12 ((heap_alloc_old w5 (.cells #[.int .i64 y0, .int .i64 y1, .int .i64 y2, .int .i64 y3, .int .i64 y4, .int .i64 ho, .int .i64 now] 81) lzz).trans hz5) (by decide); have hBB := (Below.tr hB5 (below_bt w5 (.cells #[.int .i64 y0, .int .i64 y1, .int .i64 y2, .int .i64 y3, .int .i64 y4, .int .i64 ho, .int .i64 now] 81))).trans hB12; have hsBB := hBB.size; have lo12 := heap_lt ho12; have lz12 := heap_lt hz12; subst he12) | (refine wpList_store_at rfl 33 (.tmp 72) (.tmp 71) rfl (.slice A12 (n + 1) c12) #[.int .i64 x0, .int .i64 x1, .slice A12 (n + 1) c12] ho12 rfl rfl (by kernel_rfl) rfl rfl (by simp) rfl ?_; intro w13 ho13 hg13 hs13; obtain ⟨k13, f13⟩ := blk ho13; have hz13 := heap_far hz12 hg13 (by omega)) | (refine wpList_store_var rfl 35 (.tmp 8) (.tmp 73) rfl #[.int .i64 x0, .int .i64 x1, .slice A12 (n + 1) c12] hz13 rfl rfl (by kernel_rfl) rfl rfl ?_; intro w14 hz14 hg14 hs14; obtain ⟨k14, f14⟩ := blk hz14))
              have hP13 := hP12.kept hg13 (.inr (own_ne7 hP12 ho12 (by decide)))
              have hP14 := hP13.kept hg14 (.inr (own_ne7 hP13 hz13 (by decide)))
              refine bodyPost_ret (v := .tuple #[.agg #[.int .i64 x0, .int .i64 x1, .slice A12 (n + 1) c12], .bool true]) (by simp [results, Try.results67, go_sem, k14]) rfl ⟨x0, x1, A12, n + 1, c12, true, rfl, by omega, .inl ⟨rfl, rfl⟩, hP14, Below.of_grown (Below.of_grown hBB hg13 (by omega)) hg14 (by omega)⟩
end Go.Proofs.Ytbnfllpimnnmfaa
