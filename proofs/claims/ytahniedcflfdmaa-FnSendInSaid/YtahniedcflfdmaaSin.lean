/-
  SendIn, in the program and in the reference.
-/
import Derived.Test.YtahniedcflfdmaaOut
namespace Go.Proofs.Ytahniedcflfdmaa
open Go.RowKit

set_option maxHeartbeats 2000000 in
theorem turned_any (a b c d e : Int) (w : World) :
    Calls Try.prog 35 #[.agg #[.int .i64 a, .int .i64 b, .int .i64 c, .int .i64 d, .int .i64 e]] w fun o w' => o = .returned (.agg #[.int .i64 c, .int .i64 d, .int .i64 a, .int .i64 b, .int .i64 e]) ∧ Below w.heap.size w w' := by
  go_enter Try.func35, Try.ntmps35
  go_wp2
  refine bodyPost_ret (v := .agg #[.int .i64 c, .int .i64 d, .int .i64 a, .int .i64 b, .int .i64 e]) (by simp [results, Try.results35, go_sem]) rfl ⟨rfl, ?_⟩
  (repeat (first | exact Below.refl _ _ | assumption | refine Below.al ?_ _ | refine Below.dr ?_ | (refine Below.st ?_ (by simp <;> omega) _) | (refine Below.tr ?_ (by assumption))))
set_option maxHeartbeats 2000000 in
theorem specTurnFlow_yes {a b c d e : Int} (h : flowB a b c d e = true) (w : World) :
    Calls Try.prog 34 #[.agg #[.int .i64 a, .int .i64 b, .int .i64 c, .int .i64 d, .int .i64 e]] w fun o w' => o = .returned (.agg #[.int .i64 c, .int .i64 d, .int .i64 a, .int .i64 b, .int .i64 e]) ∧ Below w.heap.size w w' := by
  go_enter Try.func34, Try.ntmps34
  go_wp2_with (go_at_call 26; refine (specFlowValid_any _ _ _ _ _ _).mono ?_; rintro e w3 ⟨rfl, rfl⟩; rw [h])
  refine bodyPost_ret (v := .agg #[.int .i64 c, .int .i64 d, .int .i64 a, .int .i64 b, .int .i64 e]) (by simp [results, Try.results34, go_sem]) rfl ⟨rfl, ?_⟩
  (repeat (first | exact Below.refl _ _ | assumption | refine Below.al ?_ _ | refine Below.dr ?_ | (refine Below.st ?_ (by simp <;> omega) _) | (refine Below.tr ?_ (by assumption))))

/-- What is returned where it goes well; nothing else. -/
def pk : Bool → Int → Int
  | true, x => x
  | false, _ => 0
/-- Does a packet of the flow come in? -/
def siB (x0 x1 : Int) (n : Nat) (f0 f1 f2 f3 f4 : Nat → Int) (g0 g1 g2 g3 g4 : Int) : Bool :=
  outB x0 x1 n f0 f1 f2 f3 f4 && flowB g0 g1 g2 g3 g4 && decide (g2 = x0) && inB (g3 - x1) 0 ((n : Int) - 1) && !noB f0 f1 f2 f3 f4 (g3 - x1).toNat && decide (f2 (g3 - x1).toNat = g0) && decide (f3 (g3 - x1).toNat = g1) && decide (f4 (g3 - x1).toNat = g4)
def SiV (w : World) (x0 x1 : Int) (n : Nat) (f0 f1 f2 f3 f4 : Nat → Int) (g0 g1 g2 g3 g4 : Int) (e : Ending) (w' : World) : Prop :=
  e = .returned (.tuple #[.agg #[.int .i64 (pk (siB x0 x1 n f0 f1 f2 f3 f4 g0 g1 g2 g3 g4) (f2 (g3 - x1).toNat)), .int .i64 (pk (siB x0 x1 n f0 f1 f2 f3 f4 g0 g1 g2 g3 g4) (f3 (g3 - x1).toNat)), .int .i64 (pk (siB x0 x1 n f0 f1 f2 f3 f4 g0 g1 g2 g3 g4) (f0 (g3 - x1).toNat)), .int .i64 (pk (siB x0 x1 n f0 f1 f2 f3 f4 g0 g1 g2 g3 g4) (f1 (g3 - x1).toNat)), .int .i64 (pk (siB x0 x1 n f0 f1 f2 f3 f4 g0 g1 g2 g3 g4) (f4 (g3 - x1).toNat))], .bool (siB x0 x1 n f0 f1 f2 f3 f4 g0 g1 g2 g3 g4)]) ∧ Below w.heap.size w w'
theorem outB_slot {x0 x1 : Int} {n k : Nat} {a b c d e : Nat → Int} (h : outB x0 x1 n a b c d e = true) (hk : k < n) (hz : noB a b c d e k = false) : flowB (a k) (b k) (c k) (d k) (e k) = true := by
  simp only [outB, Bool.and_eq_true] at h
  have := List.all_eq_true.1 h.1 k (List.mem_range.2 hk)
  simp only [sloB, hz, Bool.false_or, Bool.and_eq_true] at this
  exact this.1
theorem outB_first {x0 x1 : Int} {n : Nat} {a b c d e : Nat → Int} (h : outB x0 x1 n a b c d e = true) : 0 ≤ x1 ∧ x1 ≤ 1000 ∧ 1 ≤ n ∧ n ≤ 8 := by
  simp only [outB, Bool.and_eq_true] at h
  have h1 := inB_true.1 h.2.2
  have h2 := inB_true.1 h.2.1.2
  omega
theorem flowB_port {a b c d e : Int} (h : flowB a b c d e = true) : 0 ≤ d ∧ d ≤ 999 := by
  simp only [flowB, Bool.and_eq_true] at h
  exact inB_true.1 h.1.2

theorem turned_yes {a b c d e : Int} (_ : flowB a b c d e = true) (w : World) :
    Calls Try.prog 35 #[.agg #[.int .i64 a, .int .i64 b, .int .i64 c, .int .i64 d, .int .i64 e]] w fun o w' => o = .returned (.agg #[.int .i64 c, .int .i64 d, .int .i64 a, .int .i64 b, .int .i64 e]) ∧ Below w.heap.size w w' := turned_any a b c d e w
set_option maxHeartbeats 16000000 in
theorem implSendIn_any {w : World} {B : Nat} {A : Option Addr} {n c : Nat} {f0 f1 f2 f3 f4 : Nat → Int} (x0 x1 g0 g1 g2 g3 g4 : Int) (h : Rws w B 5 A n c (flowR f0 f1 f2 f3 f4)) (hB : B ≤ w.heap.size) :
    Calls Try.prog 17 #[.agg #[.int .i64 x0, .int .i64 x1, .slice A n c], .agg #[.int .i64 g0, .int .i64 g1, .int .i64 g2, .int .i64 g3, .int .i64 g4]] w (SiV w x0 x1 n f0 f1 f2 f3 f4 g0 g1 g2 g3 g4) := by
  have HH := Lib.hid h
  clear h
  go_enter Try.func17, Try.ntmps17
  go_wp2_with fail
  refine (implOutletValid_any x0 x1 (HH.out.below ((show Below w.heap.size w _ by (repeat (first | exact Below.refl _ _ | assumption | refine Below.al ?_ _ | refine Below.dr ?_ | (refine Below.st ?_ (by simp <;> omega) _) | (refine Below.tr ?_ (by assumption))))).mono hB)) (by simp <;> omega)).mono ?_
  rintro e w1 ⟨rfl, hb1⟩
  have hzO := (hb1.block w.heap.size (by simp <;> omega)).trans ((heap_alloc_old _ _ (by simp <;> omega)).trans ((heap_alloc_old _ _ (by simp)).trans (heap_alloc_new w (.cells #[.int .i64 x0, .int .i64 x1, .slice A n c] 29))))
  have hzF := (hb1.block (w.heap.size + 1) (by simp <;> omega)).trans ((heap_alloc_old _ _ (by simp <;> omega)).trans (heap_new1 w (.cells #[.int .i64 x0, .int .i64 x1, .slice A n c] 29) (.cells #[.int .i64 g0, .int .i64 g1, .int .i64 g2, .int .i64 g3, .int .i64 g4] 39)))
  have hz := (hb1.block (w.heap.size + 1 + 1) (by simp <;> omega)).trans (heap_new2 w (.cells #[.int .i64 x0, .int .i64 x1, .slice A n c] 29) (.cells #[.int .i64 g0, .int .i64 g1, .int .i64 g2, .int .i64 g3, .int .i64 g4] 39) (.cells #[.int .i64 0, .int .i64 0, .int .i64 0, .int .i64 0, .int .i64 0] 39))
  obtain ⟨kO, fO⟩ := blk hzO
  obtain ⟨kF, fF⟩ := blk hzF
  have hlt1 := heap_lt hz
  have hl0 : w.heap.size < w1.heap.size := by omega
  have hl1 : w.heap.size + 1 < w1.heap.size := by omega
  have hBw : Below w.heap.size w w1 := Below.tr (by (repeat (first | exact Below.refl _ _ | assumption | refine Below.al ?_ _ | refine Below.dr ?_ | (refine Below.st ?_ (by simp <;> omega) _) | (refine Below.tr ?_ (by assumption))))) hb1
  have hz2 := (heap_alloc_old w1 (.cells #[.int .i64 g0, .int .i64 g1, .int .i64 g2, .int .i64 g3, .int .i64 g4] 39) hlt1).trans hz
  clear hb1 hzO hzF
  cases h1 : outB x0 x1 n f0 f1 f2 f3 f4 with
  | false =>
    have hE := Lib.hid (show siB x0 x1 n f0 f1 f2 f3 f4 g0 g1 g2 g3 g4 = false by simp only [siB, h1, Bool.false_and])
    go_wp2_with (refine wpList_store_var rfl 39 (.tmp 4) (.tmp 23) rfl #[.int .i64 0, .int .i64 0, .int .i64 0, .int .i64 0, .int .i64 0] hz rfl rfl (by kernel_rfl) rfl rfl ?_; intro w9 hh9 hg9 hs9; obtain ⟨k9, f9⟩ := blk hh9)
    (refine bodyPost_ret (v := .tuple #[.agg #[.int .i64 0, .int .i64 0, .int .i64 0, .int .i64 0, .int .i64 0], .bool false]) (by simp [results, Try.results17, go_sem, k9]) rfl ⟨by rw [hE.out] <;> rfl, Below.of_grown (by (repeat (first | exact Below.refl _ _ | assumption | refine Below.al ?_ _ | refine Below.dr ?_ | (refine Below.st ?_ (by simp <;> omega) _) | (refine Below.tr ?_ (by assumption))))) hg9 (by omega)⟩)
  | true =>
  cases h2 : flowB g0 g1 g2 g3 g4 with
  | false =>
    have hE := Lib.hid (show siB x0 x1 n f0 f1 f2 f3 f4 g0 g1 g2 g3 g4 = false by simp only [siB, h2, Bool.false_and, Bool.and_false])
    go_wp2_with (first | (go_at_call 30; refine (implFlowValid_any _ _ _ _ _ _).mono ?_; rintro e w3 ⟨rfl, rfl⟩) | (refine wpList_store_var rfl 39 (.tmp 4) (.tmp 23) rfl #[.int .i64 0, .int .i64 0, .int .i64 0, .int .i64 0, .int .i64 0] hz2 rfl rfl (by kernel_rfl) rfl rfl ?_; intro w9 hh9 hg9 hs9; obtain ⟨k9, f9⟩ := blk hh9))
    (refine bodyPost_ret (v := .tuple #[.agg #[.int .i64 0, .int .i64 0, .int .i64 0, .int .i64 0, .int .i64 0], .bool false]) (by simp [results, Try.results17, go_sem, k9]) rfl ⟨by rw [hE.out] <;> rfl, Below.of_grown (by (repeat (first | exact Below.refl _ _ | assumption | refine Below.al ?_ _ | refine Below.dr ?_ | (refine Below.st ?_ (by simp <;> omega) _) | (refine Below.tr ?_ (by assumption))))) hg9 (by omega)⟩)
  | true =>
  by_cases h3 : g2 = x0
  case neg =>
    have hE := Lib.hid (show siB x0 x1 n f0 f1 f2 f3 f4 g0 g1 g2 g3 g4 = false by simp only [siB, h3, decide_false, Bool.false_and, Bool.and_false])
    go_wp2_with (first | (go_at_call 30; refine (implFlowValid_any _ _ _ _ _ _).mono ?_; rintro e w3 ⟨rfl, rfl⟩) | (refine wpList_store_var rfl 39 (.tmp 4) (.tmp 23) rfl #[.int .i64 0, .int .i64 0, .int .i64 0, .int .i64 0, .int .i64 0] hz2 rfl rfl (by kernel_rfl) rfl rfl ?_; intro w9 hh9 hg9 hs9; obtain ⟨k9, f9⟩ := blk hh9))
    (refine bodyPost_ret (v := .tuple #[.agg #[.int .i64 0, .int .i64 0, .int .i64 0, .int .i64 0, .int .i64 0], .bool false]) (by simp [results, Try.results17, go_sem, k9]) rfl ⟨by rw [hE.out] <;> rfl, Below.of_grown (by (repeat (first | exact Below.refl _ _ | assumption | refine Below.al ?_ _ | refine Below.dr ?_ | (refine Below.st ?_ (by simp <;> omega) _) | (refine Below.tr ?_ (by assumption))))) hg9 (by omega)⟩)
  subst h3
  have hx := outB_first h1
  have hp := flowB_port h2
  obtain ⟨q, hq⟩ : ∃ q, g3 - x1 = q := ⟨_, rfl⟩
  have e1 : IntKind.i64.wrap (g3 - x1) = q := by rw [IntWalk.i64_in _ (by omega)]; exact hq
  have e1' : wrap64 (g3 - x1) = q := by unfold wrap64; omega
  have e2 : IntKind.i64.wrap ((n : Int) - 1) = (n : Int) - 1 := IntWalk.i64_in _ (by omega)
  cases h4 : inB q 0 ((n : Int) - 1) with
  | false =>
    have hE := Lib.hid (show siB g2 x1 n f0 f1 f2 f3 f4 g0 g1 g2 g3 g4 = false by simp only [siB, hq, h4, Bool.false_and, Bool.and_false])
    rcases (show q < 0 ∨ ¬ q < 0 ∧ (n : Int) ≤ q by
      by_cases h5 : q < 0
      · exact .inl h5
      · refine .inr ⟨h5, ?_⟩
        by_cases h6 : (n : Int) ≤ q
        · exact h6
        · exact absurd (show inB q 0 ((n : Int) - 1) = true from inB_true.2 ⟨by omega, by omega⟩) (by rw [h4]; simp)) with h5 | ⟨h5, h6⟩
    all_goals
      clear hq
      go_wp2_with (first | (go_at_call 30; refine (implFlowValid_any _ _ _ _ _ _).mono ?_; rintro e w3 ⟨rfl, rfl⟩) | (go_at_call 29; refine (in_any _ _ _ _).mono ?_; rintro e w' ⟨rfl, rfl⟩) | (refine wpList_store_var rfl 39 (.tmp 4) (.tmp 38) rfl #[.int .i64 0, .int .i64 0, .int .i64 0, .int .i64 0, .int .i64 0] hz2 rfl rfl (by kernel_rfl) rfl rfl ?_; intro w9 hh9 hg9 hs9; obtain ⟨k9, f9⟩ := blk hh9))
      (refine bodyPost_ret (v := .tuple #[.agg #[.int .i64 0, .int .i64 0, .int .i64 0, .int .i64 0, .int .i64 0], .bool false]) (by simp [results, Try.results17, go_sem, k9]) rfl ⟨by rw [hE.out] <;> rfl, Below.of_grown (by (repeat (first | exact Below.refl _ _ | assumption | refine Below.al ?_ _ | refine Below.dr ?_ | (refine Below.st ?_ (by simp <;> omega) _) | (refine Below.tr ?_ (by assumption))))) hg9 (by omega)⟩)
  | true =>
    have h5 := inB_true.1 h4
    obtain ⟨k, rfl⟩ := Int.eq_ofNat_of_zero_le h5.1
    have hkn : k < n := by omega
    have ht : (g3 - x1).toNat = k := by omega
    obtain ⟨bl, off, rfl, hbB, hc⟩ := HH.out.2 (by omega)
    have hr := hc k hkn
    have hbs : bl < w1.heap.size := by have := hBw.size; omega
    have hbn : bl < w.heap.size := by omega
    have q0 : w1.cell? ⟨bl, off + k * 5, none⟩ = some (.int .i64 (f0 k)) := (keepc hBw bl (by omega) _).trans (hr 0 _ rfl)
    have q1 : w1.cell? ⟨bl, off + k * 5 + 1, none⟩ = some (.int .i64 (f1 k)) := (keepc hBw bl (by omega) _).trans (hr 1 _ rfl)
    have q2 : w1.cell? ⟨bl, off + k * 5 + 2, none⟩ = some (.int .i64 (f2 k)) := (keepc hBw bl (by omega) _).trans (hr 2 _ rfl)
    have q3 : w1.cell? ⟨bl, off + k * 5 + 3, none⟩ = some (.int .i64 (f3 k)) := (keepc hBw bl (by omega) _).trans (hr 3 _ rfl)
    have q4 : w1.cell? ⟨bl, off + k * 5 + 4, none⟩ = some (.int .i64 (f4 k)) := (keepc hBw bl (by omega) _).trans (hr 4 _ rfl)
    have e3 : ¬ (k : Int) < 0 := by omega
    have e4 : ¬ (n : Int) ≤ (k : Int) := by omega
    have hz3 := (heap_alloc_old (w1.alloc (.cells #[.int .i64 g0, .int .i64 g1, .int .i64 g2, .int .i64 g3, .int .i64 g4] 39)) (.cells #[.int .i64 (f0 k), .int .i64 (f1 k), .int .i64 (f2 k), .int .i64 (f3 k), .int .i64 (f4 k)] 39) (by simp <;> omega)).trans hz2
    have hS : siB g2 x1 n f0 f1 f2 f3 f4 g0 g1 g2 g3 g4 = (!noB f0 f1 f2 f3 f4 k && decide (f2 k = g0) && decide (f3 k = g1) && decide (f4 k = g4)) := by
      simp only [siB, h1, h2, ht, hq, h4, decide_true, Bool.true_and, Int.toNat_natCast]
    have hv := fun hz => outB_slot (k := k) h1 hkn hz
    clear hr hc hq h1 h5 h4
    cases hn : noB f0 f1 f2 f3 f4 k with
    | true =>
      have hE := Lib.hid (show siB g2 x1 n f0 f1 f2 f3 f4 g0 g1 g2 g3 g4 = false from hS.trans (by simp [hn]))
      have hql := eql_no hn
      clear hS hn hv
      go_wp2_with (first | (go_at_call 30; refine (implFlowValid_any _ _ _ _ _ _).mono ?_; rintro e w3 ⟨rfl, rfl⟩) | (go_at_call 29; refine (in_any _ _ _ _).mono ?_; rintro e w' ⟨rfl, rfl⟩) | (refine wpList_store_var rfl 39 (.tmp 4) (.tmp 68) rfl #[.int .i64 0, .int .i64 0, .int .i64 0, .int .i64 0, .int .i64 0] hz3 rfl rfl (by kernel_rfl) rfl rfl ?_; intro w9 hh9 hg9 hs9; obtain ⟨k9, f9⟩ := blk hh9))
      (refine bodyPost_ret (v := .tuple #[.agg #[.int .i64 0, .int .i64 0, .int .i64 0, .int .i64 0, .int .i64 0], .bool false]) (by simp [results, Try.results17, go_sem, k9]) rfl ⟨by rw [hE.out] <;> rfl, Below.of_grown (by (repeat (first | exact Below.refl _ _ | assumption | refine Below.al ?_ _ | refine Below.dr ?_ | (refine Below.st ?_ (by simp <;> omega) _) | (refine Below.tr ?_ (by assumption))))) hg9 (by omega)⟩)
    | false =>
    have hql := eql_no hn
    have hv := hv hn
    by_cases m1 : f2 k = g0
    case neg =>
      have hE := Lib.hid (show siB g2 x1 n f0 f1 f2 f3 f4 g0 g1 g2 g3 g4 = false from hS.trans (by simp [m1]))
      clear hS hn
      go_wp2_with (first | (go_at_call 30; refine (implFlowValid_any _ _ _ _ _ _).mono ?_; rintro e w3 ⟨rfl, rfl⟩) | (go_at_call 29; refine (in_any _ _ _ _).mono ?_; rintro e w' ⟨rfl, rfl⟩) | (refine wpList_store_var rfl 39 (.tmp 4) (.tmp 68) rfl #[.int .i64 0, .int .i64 0, .int .i64 0, .int .i64 0, .int .i64 0] hz3 rfl rfl (by kernel_rfl) rfl rfl ?_; intro w9 hh9 hg9 hs9; obtain ⟨k9, f9⟩ := blk hh9))
      (refine bodyPost_ret (v := .tuple #[.agg #[.int .i64 0, .int .i64 0, .int .i64 0, .int .i64 0, .int .i64 0], .bool false]) (by simp [results, Try.results17, go_sem, k9]) rfl ⟨by rw [hE.out] <;> rfl, Below.of_grown (by (repeat (first | exact Below.refl _ _ | assumption | refine Below.al ?_ _ | refine Below.dr ?_ | (refine Below.st ?_ (by simp <;> omega) _) | (refine Below.tr ?_ (by assumption))))) hg9 (by omega)⟩)
    by_cases m2 : f3 k = g1
    case neg =>
      have hE := Lib.hid (show siB g2 x1 n f0 f1 f2 f3 f4 g0 g1 g2 g3 g4 = false from hS.trans (by simp [m2]))
      clear hS hn
      subst m1
      go_wp2_with (first | (go_at_call 30; refine (implFlowValid_any _ _ _ _ _ _).mono ?_; rintro e w3 ⟨rfl, rfl⟩) | (go_at_call 29; refine (in_any _ _ _ _).mono ?_; rintro e w' ⟨rfl, rfl⟩) | (refine wpList_store_var rfl 39 (.tmp 4) (.tmp 68) rfl #[.int .i64 0, .int .i64 0, .int .i64 0, .int .i64 0, .int .i64 0] hz3 rfl rfl (by kernel_rfl) rfl rfl ?_; intro w9 hh9 hg9 hs9; obtain ⟨k9, f9⟩ := blk hh9))
      (refine bodyPost_ret (v := .tuple #[.agg #[.int .i64 0, .int .i64 0, .int .i64 0, .int .i64 0, .int .i64 0], .bool false]) (by simp [results, Try.results17, go_sem, k9]) rfl ⟨by rw [hE.out] <;> rfl, Below.of_grown (by (repeat (first | exact Below.refl _ _ | assumption | refine Below.al ?_ _ | refine Below.dr ?_ | (refine Below.st ?_ (by simp <;> omega) _) | (refine Below.tr ?_ (by assumption))))) hg9 (by omega)⟩)
    by_cases m3 : f4 k = g4
    case neg =>
      have hE := Lib.hid (show siB g2 x1 n f0 f1 f2 f3 f4 g0 g1 g2 g3 g4 = false from hS.trans (by simp [m3]))
      clear hS hn
      subst m1 m2
      go_wp2_with (first | (go_at_call 30; refine (implFlowValid_any _ _ _ _ _ _).mono ?_; rintro e w3 ⟨rfl, rfl⟩) | (go_at_call 29; refine (in_any _ _ _ _).mono ?_; rintro e w' ⟨rfl, rfl⟩) | (refine wpList_store_var rfl 39 (.tmp 4) (.tmp 68) rfl #[.int .i64 0, .int .i64 0, .int .i64 0, .int .i64 0, .int .i64 0] hz3 rfl rfl (by kernel_rfl) rfl rfl ?_; intro w9 hh9 hg9 hs9; obtain ⟨k9, f9⟩ := blk hh9))
      (refine bodyPost_ret (v := .tuple #[.agg #[.int .i64 0, .int .i64 0, .int .i64 0, .int .i64 0, .int .i64 0], .bool false]) (by simp [results, Try.results17, go_sem, k9]) rfl ⟨by rw [hE.out] <;> rfl, Below.of_grown (by (repeat (first | exact Below.refl _ _ | assumption | refine Below.al ?_ _ | refine Below.dr ?_ | (refine Below.st ?_ (by simp <;> omega) _) | (refine Below.tr ?_ (by assumption))))) hg9 (by omega)⟩)
    have hE := Lib.hid (show siB g2 x1 n f0 f1 f2 f3 f4 g0 g1 g2 g3 g4 = true from hS.trans (by simp [m1, m2, m3, hn]))
    have ht' := Lib.hid ht
    clear hS hn ht
    subst m1 m2 m3
    go_wp2_with (first | (go_at_call 30; refine (implFlowValid_any _ _ _ _ _ _).mono ?_; rintro e w3 ⟨rfl, rfl⟩) | (go_at_call 29; refine (in_any _ _ _ _).mono ?_; rintro e w' ⟨rfl, rfl⟩) | (go_at_call 35; refine (turned_yes hv _).mono ?_; rintro e w5 ⟨rfl, hb5⟩; have hz5 := (hb5.block (w.heap.size + 1 + 1) (by simp <;> omega)).trans hz3; have hl5 := heap_lt hz5) | (refine wpList_store_var rfl 39 (.tmp 4) (.tmp 70) rfl #[.int .i64 (f2 k), .int .i64 (f3 k), .int .i64 (f0 k), .int .i64 (f1 k), .int .i64 (f4 k)] hz5 rfl rfl (by kernel_rfl) rfl rfl ?_; intro w9 hh9 hg9 hs9; obtain ⟨k9, f9⟩ := blk hh9))
    refine bodyPost_ret (v := .tuple #[.agg #[.int .i64 (f2 k), .int .i64 (f3 k), .int .i64 (f0 k), .int .i64 (f1 k), .int .i64 (f4 k)], .bool true]) (by simp [results, Try.results17, go_sem, k9]) rfl ⟨by rw [hE.out, ht'.out] <;> rfl, Below.of_grown (Below.tr (by (repeat (first | exact Below.refl _ _ | assumption | refine Below.al ?_ _ | refine Below.dr ?_ | (refine Below.st ?_ (by simp <;> omega) _) | (refine Below.tr ?_ (by assumption))))) hb5) hg9 (by omega)⟩
end Go.Proofs.Ytahniedcflfdmaa
