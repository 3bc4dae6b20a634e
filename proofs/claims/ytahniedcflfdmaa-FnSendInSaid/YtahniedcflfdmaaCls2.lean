/-
  The law 'a closed flow leaves its slot': its walk.
-/
import Derived.Test.YtahniedcflfdmaaCls1
namespace Go.Proofs.Ytahniedcflfdmaa
open Go Go.RowKit

theorem bytes_next {w w' : World} {A : Option Addr} {n c : Nat} (h : Bytes w w.heap.size A n c) (hb : Below w.heap.size w w') : Bytes w' w'.heap.size A n c := by
  have h2 := h.keep (w' := w') fun p hp => hb.cell hp
  exact ⟨h2.1, fun hi => by
    obtain ⟨b, off, e, hlt, hx⟩ := h2.2 hi
    exact ⟨b, off, e, Nat.lt_of_lt_of_le hlt hb.size, hx⟩⟩
set_option maxHeartbeats 8000000 in
theorem drawCloseOut_any {w : World} {A : Option Addr} {n c : Nat} (h : Bytes w w.heap.size A n c) :
    Calls Try.prog 19 #[.slice A n c] w (OutFlow w) := by
  go_enter Try.func19, Try.ntmps19
  go_wp2_with fail
  refine (drawSendOut_any (bytes_next h (show Below w.heap.size w ((w.alloc (.cells #[.int .i64 0, .int .i64 0, .slice none 0 0] 29)).alloc (.cells #[.int .i64 0, .int .i64 0, .int .i64 0, .int .i64 0, .int .i64 0] 39)) by (repeat (first | exact Below.refl _ _ | assumption | refine Below.al ?_ _ | refine Below.dr ?_ | (refine Below.st ?_ (by simp <;> omega) _) | (refine Below.tr ?_ (by assumption))))))).mono ?_
  rintro e w1 ⟨x0, x1, b, n1, c1, f0, f1, f2, f3, f4, y0, y1, y2, y3, y4, rfl, hn1, hn2, hbb, hR1, hb1⟩
  simp at hbb
  have hz1 := (hb1.block w.heap.size (by simp; omega)).trans ((heap_alloc_old _ _ (by simp)).trans (heap_alloc_new w (.cells #[.int .i64 0, .int .i64 0, .slice none 0 0] 29)))
  have hy1 := (hb1.block (w.heap.size + 1) (by simp)).trans (heap_new1 w (.cells #[.int .i64 0, .int .i64 0, .slice none 0 0] 29) (.cells #[.int .i64 0, .int .i64 0, .int .i64 0, .int .i64 0, .int .i64 0] 39))
  have hB1 : Below w.heap.size w w1 := Below.tr (show Below w.heap.size w _ by (repeat (first | exact Below.refl _ _ | assumption | refine Below.al ?_ _ | refine Below.dr ?_ | (refine Below.st ?_ (by simp <;> omega) _) | (refine Below.tr ?_ (by assumption))))) hb1
  have hs2 := hB1.size
  have hyl := heap_lt hy1
  clear hb1
  go_wp2_with (first | (refine wpList_store_var rfl 29 (.tmp 2) (.tmp 6) rfl #[.int .i64 x0, .int .i64 x1, .slice (some ⟨b, 0, none⟩) n1 c1] hz1 rfl rfl (by kernel_rfl) rfl rfl ?_; intro w2 hz2 hg2 hs3; have hy2 := heap_far hy1 hg2 (by omega)) | (refine wpList_store_var rfl 39 (.tmp 3) (.tmp 7) rfl #[.int .i64 y0, .int .i64 y1, .int .i64 y2, .int .i64 y3, .int .i64 y4] hy2 rfl rfl (by kernel_rfl) rfl rfl ?_; intro w3 hy3 hg3 hs4))
  have hz3 := heap_far hz2 hg3 (by omega)
  obtain ⟨k8, f8⟩ := blk hz3
  obtain ⟨k9, f9⟩ := blk hy3
  refine bodyPost_ret (v := .tuple #[.agg #[.int .i64 x0, .int .i64 x1, .slice (some ⟨b, 0, none⟩) n1 c1], .agg #[.int .i64 y0, .int .i64 y1, .int .i64 y2, .int .i64 y3, .int .i64 y4]]) (by simp [results, Try.results19, go_sem, k8, k9]) rfl ⟨x0, x1, _, n1, c1, f0, f1, f2, f3, f4, _, _, _, _, _, rfl, hn1, hn2, by omega, rws_far (rws_far hR1 hg2 (by omega)) hg3 (by omega), Below.of_grown (Below.of_grown hB1 hg2 (by omega)) hg3 (by omega)⟩
/-- Two outlets with the same rows are the same. -/
theorem sameOutlet_same (x0 x1 : Int) {w : World} {B : Nat} {A A' : Option Addr} {n c c' : Nat} {f0 f1 f2 f3 f4 : Nat → Int} (h : Rws w B 5 A n c (flowR f0 f1 f2 f3 f4)) (h' : Rws w B 5 A' n c' (flowR f0 f1 f2 f3 f4)) (hB : B ≤ w.heap.size) :
    Calls Try.prog 21 #[.agg #[.int .i64 x0, .int .i64 x1, .slice A n c], .agg #[.int .i64 x0, .int .i64 x1, .slice A' n c']] w fun e w' => e = .returned (.bool true) ∧ Below w.heap.size w w' := by
  obtain ⟨⟨hnc, hcm⟩, hrow⟩ := h
  obtain ⟨⟨hnc', hcm'⟩, hrow'⟩ := h'
  unfold maxLen at hcm hcm'
  go_enter Try.func21, Try.ntmps21
  go_wp2
  go_loopw [5] (fun i wr => ∃ k : Nat, k ≤ n ∧ i = .int .i64 k ∧ Below ((w.alloc (.cells #[.int .i64 x0, .int .i64 x1, .slice A n c] 29)).alloc (.cells #[.int .i64 x0, .int .i64 x1, .slice A' n c'] 29)).heap.size ((w.alloc (.cells #[.int .i64 x0, .int .i64 x1, .slice A n c] 29)).alloc (.cells #[.int .i64 x0, .int .i64 x1, .slice A' n c'] 29)) wr) (fun i _ => n - (intOf i).toNat)
  case atStart => exact ⟨0, by omega, rfl, Below.refl _ _⟩
  case round =>
    obtain ⟨k, hk, rfl, hBw⟩ := hrel
    have hB0 : Below w.heap.size w wr := Below.tr (by (repeat (first | exact Below.refl _ _ | assumption | refine Below.al ?_ _ | refine Below.dr ?_ | (refine Below.st ?_ (by simp <;> omega) _) | (refine Below.tr ?_ (by assumption))))) hBw
    have hfs : w.heap.size + 1 < wr.heap.size := by have := hBw.size; simp at this; omega
    have hfz : w.heap.size < wr.heap.size := by omega
    have ko : ∀ i, wr.cell? ⟨w.heap.size, i, none⟩ = #[Value.int .i64 x0, .int .i64 x1, .slice A n c][i]? := fun i => (keepc hBw w.heap.size (by simp; omega) i).trans ((blk ((heap_alloc_old _ _ (by simp)).trans (heap_alloc_new w (.cells #[.int .i64 x0, .int .i64 x1, .slice A n c] 29)))).1 i)
    have kf : ∀ i, wr.cell? ⟨w.heap.size + 1, i, none⟩ = #[Value.int .i64 x0, .int .i64 x1, .slice A' n c'][i]? := fun i => (keepc hBw (w.heap.size + 1) (by simp) i).trans ((blk (heap_new1 w (.cells #[.int .i64 x0, .int .i64 x1, .slice A n c] 29) (.cells #[.int .i64 x0, .int .i64 x1, .slice A' n c'] 29))).1 i)
    by_cases hlt : k < n
    · obtain ⟨b, off, rfl, hbB, hc⟩ := hrow (by omega)
      obtain ⟨b', off', rfl, hbB', hc'⟩ := hrow' (by omega)
      have hr := hc k hlt
      have hr' := hc' k hlt
      have hbs : b < wr.heap.size := by have := hB0.size; omega
      have hbs' : b' < wr.heap.size := by have := hB0.size; omega
      have q0 : wr.cell? ⟨b, off + k * 5, none⟩ = some (.int .i64 (f0 k)) := (keepc hB0 b (by omega) _).trans (hr 0 _ rfl)
      have q1 : wr.cell? ⟨b, off + k * 5 + 1, none⟩ = some (.int .i64 (f1 k)) := (keepc hB0 b (by omega) _).trans (hr 1 _ rfl)
      have q2 : wr.cell? ⟨b, off + k * 5 + 2, none⟩ = some (.int .i64 (f2 k)) := (keepc hB0 b (by omega) _).trans (hr 2 _ rfl)
      have q3 : wr.cell? ⟨b, off + k * 5 + 3, none⟩ = some (.int .i64 (f3 k)) := (keepc hB0 b (by omega) _).trans (hr 3 _ rfl)
      have q4 : wr.cell? ⟨b, off + k * 5 + 4, none⟩ = some (.int .i64 (f4 k)) := (keepc hB0 b (by omega) _).trans (hr 4 _ rfl)
      have s0 : wr.cell? ⟨b', off' + k * 5, none⟩ = some (.int .i64 (f0 k)) := (keepc hB0 b' (by omega) _).trans (hr' 0 _ rfl)
      have s1 : wr.cell? ⟨b', off' + k * 5 + 1, none⟩ = some (.int .i64 (f1 k)) := (keepc hB0 b' (by omega) _).trans (hr' 1 _ rfl)
      have s2 : wr.cell? ⟨b', off' + k * 5 + 2, none⟩ = some (.int .i64 (f2 k)) := (keepc hB0 b' (by omega) _).trans (hr' 2 _ rfl)
      have s3 : wr.cell? ⟨b', off' + k * 5 + 3, none⟩ = some (.int .i64 (f3 k)) := (keepc hB0 b' (by omega) _).trans (hr' 3 _ rfl)
      have s4 : wr.cell? ⟨b', off' + k * 5 + 4, none⟩ = some (.int .i64 (f4 k)) := (keepc hB0 b' (by omega) _).trans (hr' 4 _ rfl)
      have hq : ∀ W, (binOp .neq 39 (.agg #[.int .i64 (f0 k), .int .i64 (f1 k), .int .i64 (f2 k), .int .i64 (f3 k), .int .i64 (f4 k)]) (.agg #[.int .i64 (f0 k), .int .i64 (f1 k), .int .i64 (f2 k), .int .i64 (f3 k), .int .i64 (f4 k)])).run Try.prog W = .ok (.bool false) W := fun W => binOp_neq (v := true) ((eql_flow _ _ _ _ _ _ _ _ _ _ W).trans (by simp))
      clear hrow hc hr hrow' hc' hr'
      go_upto_region 6 with (fail)
      refine wp_region_still (ds := [(0, 34), (1, 35), (2, 36), (3, 37), (4, 38), (5, 39), (6, 40), (7, 41), (8, 42), (9, 43), (10, 44)]) 11 (by kernel_rfl) (by kernel_rfl) (by first | exact .inl rfl | exact .inr (by kernel_rfl)) (by rfl) rfl rfl ?_
      apply still_cons
      · intro a' w' hLe hfr hdep
        have e2 := hfr 2 rfl
        conv at e2 => rhs; whnf
        have f2 := e2; simp only [Array.getD_eq_getD_getElem?] at f2
        refine wpOp_plain rfl rfl (fun K hK => ?_)
        go_simp
        exact hK _ _ ⟨rfl, Below.refl _ _⟩
      apply still_cons
      · intro a' w' hLe hfr hdep
        have e34 := hdep 0 34 (Nat.le_of_ble_eq_true rfl) rfl rfl
        conv at e34 => rhs; whnf
        have f34 := e34; simp only [Array.getD_eq_getD_getElem?] at f34
        have kc := fun i => keepc hLe (b) (by (try simp) <;> omega) i
        have kf := fun i => keepf hLe (b) (by (try simp) <;> omega) i
        have kc := fun i => keepc hLe (b') (by (try simp) <;> omega) i
        have kf := fun i => keepf hLe (b') (by (try simp) <;> omega) i
        have kc := fun i => keepc hLe (w.heap.size) (by (try simp) <;> omega) i
        have kf := fun i => keepf hLe (w.heap.size) (by (try simp) <;> omega) i
        have kc := fun i => keepc hLe (w.heap.size + 1) (by (try simp) <;> omega) i
        have kf := fun i => keepf hLe (w.heap.size + 1) (by (try simp) <;> omega) i
        refine wpOp_plain rfl rfl (fun K hK => ?_)
        go_simp
        exact hK _ _ ⟨rfl, Below.refl _ _⟩
      apply still_cons
      · intro a' w' hLe hfr hdep
        have e5 := hfr 5 rfl
        conv at e5 => rhs; whnf
        have f5 := e5; simp only [Array.getD_eq_getD_getElem?] at f5
        refine wpOp_plain rfl rfl (fun K hK => ?_)
        go_simp
        exact hK _ _ ⟨rfl, Below.refl _ _⟩
      apply still_cons
      · intro a' w' hLe hfr hdep
        have e35 := hdep 1 35 (Nat.le_of_ble_eq_true rfl) rfl rfl
        conv at e35 => rhs; whnf
        have f35 := e35; simp only [Array.getD_eq_getD_getElem?] at f35
        have e36 := hdep 2 36 (Nat.le_of_ble_eq_true rfl) rfl rfl
        conv at e36 => rhs; whnf
        have f36 := e36; simp only [Array.getD_eq_getD_getElem?] at f36
        refine wpOp_plain rfl rfl (fun K hK => ?_)
        go_simp
        exact hK _ _ ⟨rfl, Below.refl _ _⟩
      apply still_cons
      · intro a' w' hLe hfr hdep
        have e37 := hdep 3 37 (Nat.le_of_ble_eq_true rfl) rfl rfl
        conv at e37 => rhs; whnf
        have f37 := e37; simp only [Array.getD_eq_getD_getElem?] at f37
        have kc := fun i => keepc hLe (b) (by (try simp) <;> omega) i
        have kf := fun i => keepf hLe (b) (by (try simp) <;> omega) i
        have kc := fun i => keepc hLe (b') (by (try simp) <;> omega) i
        have kf := fun i => keepf hLe (b') (by (try simp) <;> omega) i
        have kc := fun i => keepc hLe (w.heap.size) (by (try simp) <;> omega) i
        have kf := fun i => keepf hLe (w.heap.size) (by (try simp) <;> omega) i
        have kc := fun i => keepc hLe (w.heap.size + 1) (by (try simp) <;> omega) i
        have kf := fun i => keepf hLe (w.heap.size + 1) (by (try simp) <;> omega) i
        refine wpOp_plain rfl rfl (fun K hK => ?_)
        go_simp
        exact hK _ _ ⟨rfl, Below.refl _ _⟩
      apply still_cons
      · intro a' w' hLe hfr hdep
        have e3 := hfr 3 rfl
        conv at e3 => rhs; whnf
        have f3 := e3; simp only [Array.getD_eq_getD_getElem?] at f3
        refine wpOp_plain rfl rfl (fun K hK => ?_)
        go_simp
        exact hK _ _ ⟨rfl, Below.refl _ _⟩
      apply still_cons
      · intro a' w' hLe hfr hdep
        have e39 := hdep 5 39 (Nat.le_of_ble_eq_true rfl) rfl rfl
        conv at e39 => rhs; whnf
        have f39 := e39; simp only [Array.getD_eq_getD_getElem?] at f39
        have kc := fun i => keepc hLe (b) (by (try simp) <;> omega) i
        have kf := fun i => keepf hLe (b) (by (try simp) <;> omega) i
        have kc := fun i => keepc hLe (b') (by (try simp) <;> omega) i
        have kf := fun i => keepf hLe (b') (by (try simp) <;> omega) i
        have kc := fun i => keepc hLe (w.heap.size) (by (try simp) <;> omega) i
        have kf := fun i => keepf hLe (w.heap.size) (by (try simp) <;> omega) i
        have kc := fun i => keepc hLe (w.heap.size + 1) (by (try simp) <;> omega) i
        have kf := fun i => keepf hLe (w.heap.size + 1) (by (try simp) <;> omega) i
        refine wpOp_plain rfl rfl (fun K hK => ?_)
        go_simp
        exact hK _ _ ⟨rfl, Below.refl _ _⟩
      apply still_cons
      · intro a' w' hLe hfr hdep
        have e5 := hfr 5 rfl
        conv at e5 => rhs; whnf
        have f5 := e5; simp only [Array.getD_eq_getD_getElem?] at f5
        refine wpOp_plain rfl rfl (fun K hK => ?_)
        go_simp
        exact hK _ _ ⟨rfl, Below.refl _ _⟩
      apply still_cons
      · intro a' w' hLe hfr hdep
        have e40 := hdep 6 40 (Nat.le_of_ble_eq_true rfl) rfl rfl
        conv at e40 => rhs; whnf
        have f40 := e40; simp only [Array.getD_eq_getD_getElem?] at f40
        have e41 := hdep 7 41 (Nat.le_of_ble_eq_true rfl) rfl rfl
        conv at e41 => rhs; whnf
        have f41 := e41; simp only [Array.getD_eq_getD_getElem?] at f41
        refine wpOp_plain rfl rfl (fun K hK => ?_)
        go_simp
        exact hK _ _ ⟨rfl, Below.refl _ _⟩
      apply still_cons
      · intro a' w' hLe hfr hdep
        have e42 := hdep 8 42 (Nat.le_of_ble_eq_true rfl) rfl rfl
        conv at e42 => rhs; whnf
        have f42 := e42; simp only [Array.getD_eq_getD_getElem?] at f42
        have kc := fun i => keepc hLe (b) (by (try simp) <;> omega) i
        have kf := fun i => keepf hLe (b) (by (try simp) <;> omega) i
        have kc := fun i => keepc hLe (b') (by (try simp) <;> omega) i
        have kf := fun i => keepf hLe (b') (by (try simp) <;> omega) i
        have kc := fun i => keepc hLe (w.heap.size) (by (try simp) <;> omega) i
        have kf := fun i => keepf hLe (w.heap.size) (by (try simp) <;> omega) i
        have kc := fun i => keepc hLe (w.heap.size + 1) (by (try simp) <;> omega) i
        have kf := fun i => keepf hLe (w.heap.size + 1) (by (try simp) <;> omega) i
        refine wpOp_plain rfl rfl (fun K hK => ?_)
        go_simp
        exact hK _ _ ⟨rfl, Below.refl _ _⟩
      apply still_cons
      · intro a' w' hLe hfr hdep
        have e38 := hdep 4 38 (Nat.le_of_ble_eq_true rfl) rfl rfl
        conv at e38 => rhs; whnf
        have f38 := e38; simp only [Array.getD_eq_getD_getElem?] at f38
        have e43 := hdep 9 43 (Nat.le_of_ble_eq_true rfl) rfl rfl
        conv at e43 => rhs; whnf
        have f43 := e43; simp only [Array.getD_eq_getD_getElem?] at f43
        refine wpOp_plain rfl rfl (fun K hK => ?_)
        go_simp
        exact hK _ _ ⟨rfl, Below.refl _ _⟩
      apply still_nil
      intro w1 hb1
      simp only [putAll, List.drop_succ_cons, List.drop_zero]
      go_simp
      go_wp2
      go_roundw
      case rel => exact ⟨k + 1, by omega, by go_num, Below.tr hBw hb1⟩
      case measure => simp [intOf]; omega
    · obtain rfl : k = n := by omega
      go_wp2
      go_ret
      exact ⟨rfl, hB0⟩
end Go.Proofs.Ytahniedcflfdmaa
