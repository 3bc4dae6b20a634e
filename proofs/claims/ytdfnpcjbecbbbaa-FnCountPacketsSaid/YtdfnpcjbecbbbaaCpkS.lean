/-
  CountPackets in the reference.
-/
import Derived.Test.YtdfnpcjbecbbbaaCpk
import Derived.Test.YtdfnpcjbecbbbaaHos2
import Derived.Test.YtdfnpcjbecbbbaaList
namespace Go.Proofs.Ytdfnpcjbecbbbaa
open Go Go.RowKit

theorem Acc.beside {w wr : World} {B : Nat} {t : TypeId} {m : Nat} {v : Value} {n : Nat} {R : Nat → List Value} {o : Obj} (h : Acc w B t m v n R) (hg : (w.alloc o).grownBy wr (some w.heap.size)) : Acc wr B t m v n R :=
  (h.next (below_nw w o)).kept hg (by
    cases hv : v.ownBlock with
    | none => exact .inl rfl
    | some k => have := (h.block k hv).2; exact .inr (by simp; omega))
set_option maxRecDepth 20000 in
set_option maxHeartbeats 16000000 in
theorem specCountPackets_any {w : World} {B : Nat} {A A1 A2 : Option Addr} {n c m c1 m' c2 : Nat} {a b d h s : Nat → Int} (H : Rws w B 3 A n c (hostR a b d)) (H1 : Rws w B 1 A1 m c1 (intR h)) (H2 : Rws w B 1 A2 m' c2 (intR s)) (hB : B ≤ w.heap.size) :
    Calls Try.prog 24 #[.slice A n c, .slice A1 m c1, .slice A2 m' c2] w (Gives w 32 3 (cpkN n a b d m m' s) (cpkR a h s m)) := by
  have hv := specPoolValid_any (H.below ((show Below w.heap.size w (w.alloc (.cells #[] 32)) by (repeat (first | exact Below.refl _ _ | assumption | refine Below.al ?_ _ | refine Below.dr ?_ | (refine Below.st ?_ (by simp <;> omega) _) | (refine Below.tr ?_ (by assumption))))).mono hB)) (by simp; omega)
  have hNil : ∀ {w' : World} {N c : Nat} {A : Option Addr}, N = 0 → c = 0 → Own w' w.heap.size 32 3 A N c (cpkR a h s m) := fun e e2 => by subst e; subst e2; exact Own.nil _ _ _ _ _ _ _ (by unfold maxLen; omega)
  have hnc := H.1
  have hmc := H1.1
  have hmc' := H2.1
  unfold maxLen at hnc hmc hmc'
  have HH := Lib.hid H
  have HH1 := Lib.hid H1
  have HH2 := Lib.hid H2
  clear H H1 H2
  cases hp : poolB n a b d with
  | false =>
    rw [hp] at hv
    have he := Lib.hid (cpkN_pool (m := m) (m' := m') (s := s) hp)
    clear hp
    go_enter Try.func24, Try.ntmps24
    go_wp2_with (go_at_call 44; refine hv.mono ?_; rintro e w1 ⟨rfl, hb1⟩)
    go_ret
    rw [he.out]
    exact ⟨_, _, rfl, hNil rfl rfl, Below.tr (by (repeat (first | exact Below.refl _ _ | assumption | refine Below.al ?_ _ | refine Below.dr ?_ | (refine Below.st ?_ (by simp <;> omega) _) | (refine Below.tr ?_ (by assumption))))) hb1⟩
  | true =>
  rw [hp] at hv
  obtain ⟨hn6, _⟩ := poolB_asc hp
  by_cases hm : m = m'
  rotate_left
  · have he := Lib.hid (cpkN_len (n := n) (a := a) (b := b) (d := d) (s := s) hm)
    have hq : ((m : Int) != (m' : Int)) = true := by simp; omega
    have hq2 : ((m : Int) == (m' : Int)) = false := by simp; omega
    clear hp hm
    go_enter Try.func24, Try.ntmps24
    go_wp2_with (go_at_call 44; refine hv.mono ?_; rintro e w1 ⟨rfl, hb1⟩)
    go_ret
    rw [he.out]
    exact ⟨_, _, rfl, hNil rfl rfl, Below.tr (by (repeat (first | exact Below.refl _ _ | assumption | refine Below.al ?_ _ | refine Below.dr ?_ | (refine Below.st ?_ (by simp <;> omega) _) | (refine Below.tr ?_ (by assumption))))) hb1⟩
  subst hm
  have hq : ((m : Int) != (m : Int)) = false := by simp
  by_cases h40 : m ≤ 40
  rotate_left
  · have he := Lib.hid (cpkN_many (n := n) (a := a) (b := b) (d := d) (m' := m) (s := s) h40)
    have hd : decide ((40 : Int) < (m : Int)) = true := by simp; omega
    clear hp h40
    go_enter Try.func24, Try.ntmps24
    go_wp2_with (go_at_call 44; refine hv.mono ?_; rintro e w1 ⟨rfl, hb1⟩)
    go_ret
    rw [he.out]
    exact ⟨_, _, rfl, hNil rfl rfl, Below.tr (by (repeat (first | exact Below.refl _ _ | assumption | refine Below.al ?_ _ | refine Below.dr ?_ | (refine Below.st ?_ (by simp <;> omega) _) | (refine Below.tr ?_ (by assumption))))) hb1⟩
  have hd : decide ((40 : Int) < (m : Int)) = false := by simp; omega
  have HP := Lib.hid hp
  clear hp
  go_enter Try.func24, Try.ntmps24
  go_wp2_with (go_at_call 44; refine hv.mono ?_; rintro e w1 ⟨rfl, hb1⟩)
  clear hv
  have hA0 : Acc w1 w.heap.size 32 3 (.slice (some ⟨w.heap.size, 0, none⟩) 0 0) 0 (cpkR a h s m) := (Acc.made w 32 (cpkR a h s m) (fun _ => rfl) (Nat.le_refl _)).next hb1
  have hB1 : Below w.heap.size w w1 := Below.tr (by (repeat (first | exact Below.refl _ _ | assumption | refine Below.al ?_ _ | refine Below.dr ?_ | (refine Below.st ?_ (by simp <;> omega) _) | (refine Below.tr ?_ (by assumption))))) hb1
  go_loopw [7, 8] (fun v i wr => ∃ j : Nat, j ≤ n ∧ i = .int .i64 j ∧ (0 < j → ∀ i, i < m → inB (s i) 0 100000 = true) ∧ Acc wr w.heap.size 32 3 v j (cpkR a h s m) ∧ Below w.heap.size w wr) (fun _ i _ => n - (intOf i).toNat)
  case atStart => exact ⟨0, by omega, rfl, fun hi => absurd hi (by omega), hA0, hB1⟩
  case round =>
    rename_i v _
    obtain ⟨j, hj, rfl, hok, hA, hBw⟩ := hrel
    clear hA0 hB1 hb1
    by_cases hlt : j < n
    · obtain ⟨bl, off, rfl, hbB, hc⟩ := HH.out.2 (by omega)
      have hbs : bl < wr.heap.size := by have := hBw.size; omega
      have q0 : wr.cell? ⟨bl, off + j * 3, none⟩ = some (.int .i64 (a j)) := (keepc hBw bl (by omega) _).trans (hc j hlt 0 _ rfl)
      obtain ⟨wo, rfl⟩ : ∃ wo : World, wo = wr := ⟨_, rfl⟩
      have hC0 := heap_alloc_new wo (.cells #[.int .i64 (a j), .int .i64 0, .int .i64 0] 32)
      have hBC := Below.tr hBw (below_nw wo (.cells #[.int .i64 (a j), .int .i64 0, .int .i64 0] 32))
      have hAC := hA.next (below_nw wo (.cells #[.int .i64 (a j), .int .i64 0, .int .i64 0] 32))
      have hgC := World.grownBy.refl (wo.alloc (.cells #[.int .i64 (a j), .int .i64 0, .int .i64 0] 32)) (some wo.heap.size)
      have hwo := hBw.size
      go_wp2
      go_loopw [10] (fun i wr => ∃ q : Nat, q ≤ m ∧ i = .int .i64 q ∧ (∀ i, i < q → inB (s i) 0 100000 = true) ∧ wr.heap[wo.heap.size]? = some (.cells #[.int .i64 (a j), .int .i64 (cntN h (a j) q), .int .i64 (sumN h s (a j) q)] 32 (0, 0)) ∧ (wo.alloc (.cells #[.int .i64 (a j), .int .i64 0, .int .i64 0] 32)).grownBy wr (some wo.heap.size)) (fun i _ => m - (intOf i).toNat)
      case atStart => exact ⟨0, by omega, rfl, fun i hi => absurd hi (by omega), hC0, hgC⟩
      case round =>
        obtain ⟨q, hq1, rfl, hok2, hC, hg⟩ := hrel
        clear hC0 hgC
        have hBr : Below w.heap.size w wr := Below.of_grown hBC hg hwo
        have hgs := hg.size
        simp at hgs
        have hwl := heap_lt hC
        have hAr := hA.beside hg
        by_cases hltq : q < m
        · obtain ⟨b1, off1, rfl, hbB1, hc1⟩ := HH1.out.2 (by omega)
          obtain ⟨b2, off2, rfl, hbB2, hc2⟩ := HH2.out.2 (by omega)
          have hb1s : b1 < wr.heap.size := by omega
          have hb2s : b2 < wr.heap.size := by omega
          have hbls : bl < wr.heap.size := by omega
          have q0 : wr.cell? ⟨bl, off + j * 3, none⟩ = some (.int .i64 (a j)) := (keepc hBr bl (by omega) _).trans (hc j hlt 0 _ rfl)
          have q1 : wr.cell? ⟨b1, off1 + q, none⟩ = some (.int .i64 (h q)) := (keepc hBr b1 (by omega) _).trans (by simpa using hc1 q hltq 0 _ rfl)
          have q2 : wr.cell? ⟨b2, off2 + q, none⟩ = some (.int .i64 (s q)) := (keepc hBr b2 (by omega) _).trans (by simpa using hc2 q hltq 0 _ rfl)
          clear hc1 hc2
          have hit := fun w => l1In_any (s q) 0 100000 w
          cases ht : inB (s q) 0 100000 with
          | false =>
            have he := Lib.hid (cpkN_time (n := n) (a := a) (b := b) (d := d) (m' := m) hltq ht)
            rw [ht] at hit
            clear ht hok hok2
            go_wp2_with (go_at_call 45; refine (hit _).mono ?_; rintro e w' ⟨rfl, rfl⟩)
            go_ret
            rw [he.out]
            exact ⟨_, _, rfl, hNil rfl rfl, Below.tr hBr (below_nw _ _)⟩
          | true =>
            rw [ht] at hit
            have hsq := inB_true.1 ht
            have hcn := cntN_le h (a j) q
            have hsn := sumN_le (h := h) (s := s) (a j) q hok2
            have HO := Lib.hid (upto hok2 ht)
            have HOk := Lib.hid hok
            clear ht hok hok2
            by_cases hx : h q = a j
            · have hxb : (h q == a j) = true := by simpa using hx
              have HC1 := Lib.hid (cntN_hit (h := h) hx)
              have HS1 := Lib.hid (sumN_hit (s := s) hx)
              generalize cntN h (a j) q = cn at hC hcn HC1
              generalize sumN h s (a j) q = sn at hC hsn HS1
              have e80 : IntKind.i64.wrap (sn + s q) = sn + s q := IntWalk.i64_in _ (by omega)
              clear hx
              go_wp2_with (go_at_call 45; refine (hit _).mono ?_; rintro e w' ⟨rfl, rfl⟩)
              refine wp_region_free (ds := [(0, 53), (1, 54), (2, 55), (3, 56), (4, 57), (5, 58), (6, 59), (7, 60), (8, 61), (9, 62)]) 10 (by kernel_rfl) (by kernel_rfl) (by first | exact .inl rfl | exact .inr (by kernel_rfl)) (by rfl) rfl rfl ?_
              apply free_is
              · intro a' w' hLe hfr hdep
                have e1 := hfr 1 rfl
                conv at e1 => rhs; whnf
                have f1 := e1; simp only [Array.getD_eq_getD_getElem?] at f1
                refine wpOp_plain rfl rfl (fun K hK => ?_)
                go_simp
                exact hK _ _ ⟨_, rfl, Below.refl _ _, rfl⟩
              apply free_is
              · intro a' w' hLe hfr hdep
                have e10 := hfr 10 rfl
                conv at e10 => rhs; whnf
                have f10 := e10; simp only [Array.getD_eq_getD_getElem?] at f10
                refine wpOp_plain rfl rfl (fun K hK => ?_)
                go_simp
                exact hK _ _ ⟨_, rfl, Below.refl _ _, rfl⟩
              apply free_is
              · intro a' w' hLe hfr hdep
                have e53 : a'.tmps.getD 53 undef = _ := hdep 0 53 (Nat.le_of_ble_eq_true rfl) rfl rfl
                conv at e53 => rhs; whnf
                have f53 := e53; simp only [Array.getD_eq_getD_getElem?] at f53
                have e54 : a'.tmps.getD 54 undef = _ := hdep 1 54 (Nat.le_of_ble_eq_true rfl) rfl rfl
                conv at e54 => rhs; whnf
                have f54 := e54; simp only [Array.getD_eq_getD_getElem?] at f54
                refine wpOp_plain rfl rfl (fun K hK => ?_)
                go_simp
                exact hK _ _ ⟨_, rfl, Below.refl _ _, rfl⟩
              apply free_is
              · intro a' w' hLe hfr hdep
                have e55 : a'.tmps.getD 55 undef = _ := hdep 2 55 (Nat.le_of_ble_eq_true rfl) rfl rfl
                conv at e55 => rhs; whnf
                have f55 := e55; simp only [Array.getD_eq_getD_getElem?] at f55
                have kc := fun i => keepc hLe (b1) (by (try simp) <;> omega) i
                have kf := fun i => keepf hLe (b1) (by (try simp) <;> omega) i
                have kz : b1 < w'.heap.size := (by have := hLe.size; (try simp at this); omega)
                have kc := fun i => keepc hLe (bl) (by (try simp) <;> omega) i
                have kf := fun i => keepf hLe (bl) (by (try simp) <;> omega) i
                have kz : bl < w'.heap.size := (by have := hLe.size; (try simp at this); omega)
                refine wpOp_plain rfl rfl (fun K hK => ?_)
                go_simp
                exact hK _ _ ⟨_, rfl, Below.refl _ _, rfl⟩
              apply free_is
              · intro a' w' hLe hfr hdep
                have e0 := hfr 0 rfl
                conv at e0 => rhs; whnf
                have f0 := e0; simp only [Array.getD_eq_getD_getElem?] at f0
                refine wpOp_plain rfl rfl (fun K hK => ?_)
                go_simp
                exact hK _ _ ⟨_, rfl, Below.refl _ _, rfl⟩
              apply free_is
              · intro a' w' hLe hfr hdep
                have e8 := hfr 8 rfl
                conv at e8 => rhs; whnf
                have f8 := e8; simp only [Array.getD_eq_getD_getElem?] at f8
                refine wpOp_plain rfl rfl (fun K hK => ?_)
                go_simp
                exact hK _ _ ⟨_, rfl, Below.refl _ _, rfl⟩
              apply free_is
              · intro a' w' hLe hfr hdep
                have e57 : a'.tmps.getD 57 undef = _ := hdep 4 57 (Nat.le_of_ble_eq_true rfl) rfl rfl
                conv at e57 => rhs; whnf
                have f57 := e57; simp only [Array.getD_eq_getD_getElem?] at f57
                have e58 : a'.tmps.getD 58 undef = _ := hdep 5 58 (Nat.le_of_ble_eq_true rfl) rfl rfl
                conv at e58 => rhs; whnf
                have f58 := e58; simp only [Array.getD_eq_getD_getElem?] at f58
                refine wpOp_plain rfl rfl (fun K hK => ?_)
                go_simp
                exact hK _ _ ⟨_, rfl, Below.refl _ _, rfl⟩
              apply free_is
              · intro a' w' hLe hfr hdep
                have e59 : a'.tmps.getD 59 undef = _ := hdep 6 59 (Nat.le_of_ble_eq_true rfl) rfl rfl
                conv at e59 => rhs; whnf
                have f59 := e59; simp only [Array.getD_eq_getD_getElem?] at f59
                refine wpOp_plain rfl rfl (fun K hK => ?_)
                go_simp
                exact hK _ _ ⟨_, rfl, Below.refl _ _, rfl⟩
              apply free_is
              · intro a' w' hLe hfr hdep
                have e60 : a'.tmps.getD 60 undef = _ := hdep 7 60 (Nat.le_of_ble_eq_true rfl) rfl rfl
                conv at e60 => rhs; whnf
                have f60 := e60; simp only [Array.getD_eq_getD_getElem?] at f60
                have kc := fun i => keepc hLe (b1) (by (try simp) <;> omega) i
                have kf := fun i => keepf hLe (b1) (by (try simp) <;> omega) i
                have kz : b1 < w'.heap.size := (by have := hLe.size; (try simp at this); omega)
                have kc := fun i => keepc hLe (bl) (by (try simp) <;> omega) i
                have kf := fun i => keepf hLe (bl) (by (try simp) <;> omega) i
                have kz : bl < w'.heap.size := (by have := hLe.size; (try simp at this); omega)
                refine wpOp_plain rfl rfl (fun K hK => ?_)
                go_simp
                exact hK _ _ ⟨_, rfl, Below.refl _ _, rfl⟩
              apply free_is
              · intro a' w' hLe hfr hdep
                have e56 : a'.tmps.getD 56 undef = _ := hdep 3 56 (Nat.le_of_ble_eq_true rfl) rfl rfl
                conv at e56 => rhs; whnf
                have f56 := e56; simp only [Array.getD_eq_getD_getElem?] at f56
                have e61 : a'.tmps.getD 61 undef = _ := hdep 8 61 (Nat.le_of_ble_eq_true rfl) rfl rfl
                conv at e61 => rhs; whnf
                have f61 := e61; simp only [Array.getD_eq_getD_getElem?] at f61
                refine wpOp_plain rfl rfl (fun K hK => ?_)
                go_simp
                exact hK _ _ ⟨_, rfl, Below.refl _ _, rfl⟩
              apply free_nil
              intro vs w5 hb5 hT5
              have e53 : vs 0 = _ := hT5 0 53 rfl
              conv at e53 => rhs; whnf
              have e54 : vs 1 = _ := hT5 1 54 rfl
              conv at e54 => rhs; whnf
              have e55 : vs 2 = _ := hT5 2 55 rfl
              conv at e55 => rhs; whnf
              have e56 : vs 3 = _ := hT5 3 56 rfl
              conv at e56 => rhs; whnf
              have e57 : vs 4 = _ := hT5 4 57 rfl
              conv at e57 => rhs; whnf
              have e58 : vs 5 = _ := hT5 5 58 rfl
              conv at e58 => rhs; whnf
              have e59 : vs 6 = _ := hT5 6 59 rfl
              conv at e59 => rhs; whnf
              have e60 : vs 7 = _ := hT5 7 60 rfl
              conv at e60 => rhs; whnf
              have e61 : vs 8 = _ := hT5 8 61 rfl
              conv at e61 => rhs; whnf
              have e62 : vs 9 = _ := hT5 9 62 rfl
              conv at e62 => rhs; whnf
              simp only [putAll, List.drop_succ_cons, List.drop_zero, e53, e54, e55, e56, e57, e58, e59, e60, e61, e62]
              clear hT5 e53 e54 e55 e56 e57 e58 e59 e60 e61 e62
              go_simp
              have hC5 := (hb5.block wo.heap.size hwl).trans hC
              have hg5 := hb5.size
              have s2 := (keepc hb5 b2 hb2s (off2 + q)).trans q2
              obtain ⟨k5, f5⟩ := blk hC5
              go_wp2_with (refine wpList_store_at rfl 3 (.tmp 66) (.tmp 65) rfl (.int .i64 (cn + 1)) #[.int .i64 (a j), .int .i64 (cn + 1), .int .i64 sn] hC5 rfl rfl (by kernel_rfl) rfl rfl (by simp) rfl ?_; intro w6 hC6 hg6 hs6)
              have hwl5 := heap_lt hC5
              have s3 : w6.cell? ⟨b2, off2 + q, none⟩ = some (.int .i64 (s q)) := (World.cell?_of_block (w := w5) (a := ⟨b2, _, none⟩) (hg6.block b2 (by omega) (by simp; omega))).trans s2
              obtain ⟨k6, f6⟩ := blk hC6
              have hb2l6 : b2 < w6.heap.size := by omega
              have hwl6 : wo.heap.size < w6.heap.size := by omega
              have hG6 := grown_trans (grown_low hg (hb5.mono hg.size)) hg6
              clear k5 f5
              refine wp_region_free (ds := [(0, 67), (1, 68), (2, 69), (3, 70), (4, 71), (5, 72), (6, 73), (7, 74)]) 8 (by kernel_rfl) (by kernel_rfl) (by first | exact .inl rfl | exact .inr (by kernel_rfl)) (by rfl) rfl rfl ?_
              apply free_is
              · intro a' w' hLe hfr hdep
                have e9 := hfr 9 rfl
                conv at e9 => rhs; whnf
                have f9 := e9; simp only [Array.getD_eq_getD_getElem?] at f9
                refine wpOp_plain rfl rfl (fun K hK => ?_)
                go_simp
                exact hK _ _ ⟨_, rfl, Below.refl _ _, rfl⟩
              apply free_is
              · intro a' w' hLe hfr hdep
                have e67 : a'.tmps.getD 67 undef = _ := hdep 0 67 (Nat.le_of_ble_eq_true rfl) rfl rfl
                conv at e67 => rhs; whnf
                have f67 := e67; simp only [Array.getD_eq_getD_getElem?] at f67
                have kc := fun i => keepc hLe (wo.heap.size) (by (try simp) <;> omega) i
                have kf := fun i => keepf hLe (wo.heap.size) (by (try simp) <;> omega) i
                have kz : wo.heap.size < w'.heap.size := (by have := hLe.size; (try simp at this); omega)
                have kc := fun i => keepc hLe (b2) (by (try simp) <;> omega) i
                have kf := fun i => keepf hLe (b2) (by (try simp) <;> omega) i
                have kz : b2 < w'.heap.size := (by have := hLe.size; (try simp at this); omega)
                refine wpOp_plain rfl rfl (fun K hK => ?_)
                go_simp
                exact hK _ _ ⟨_, rfl, Below.refl _ _, rfl⟩
              apply free_is
              · intro a' w' hLe hfr hdep
                have e2 := hfr 2 rfl
                conv at e2 => rhs; whnf
                have f2 := e2; simp only [Array.getD_eq_getD_getElem?] at f2
                refine wpOp_plain rfl rfl (fun K hK => ?_)
                go_simp
                exact hK _ _ ⟨_, rfl, Below.refl _ _, rfl⟩
              apply free_is
              · intro a' w' hLe hfr hdep
                have e10 := hfr 10 rfl
                conv at e10 => rhs; whnf
                have f10 := e10; simp only [Array.getD_eq_getD_getElem?] at f10
                refine wpOp_plain rfl rfl (fun K hK => ?_)
                go_simp
                exact hK _ _ ⟨_, rfl, Below.refl _ _, rfl⟩
              apply free_is
              · intro a' w' hLe hfr hdep
                have e69 : a'.tmps.getD 69 undef = _ := hdep 2 69 (Nat.le_of_ble_eq_true rfl) rfl rfl
                conv at e69 => rhs; whnf
                have f69 := e69; simp only [Array.getD_eq_getD_getElem?] at f69
                have e70 : a'.tmps.getD 70 undef = _ := hdep 3 70 (Nat.le_of_ble_eq_true rfl) rfl rfl
                conv at e70 => rhs; whnf
                have f70 := e70; simp only [Array.getD_eq_getD_getElem?] at f70
                refine wpOp_plain rfl rfl (fun K hK => ?_)
                go_simp
                exact hK _ _ ⟨_, rfl, Below.refl _ _, rfl⟩
              apply free_is
              · intro a' w' hLe hfr hdep
                have e71 : a'.tmps.getD 71 undef = _ := hdep 4 71 (Nat.le_of_ble_eq_true rfl) rfl rfl
                conv at e71 => rhs; whnf
                have f71 := e71; simp only [Array.getD_eq_getD_getElem?] at f71
                have kc := fun i => keepc hLe (wo.heap.size) (by (try simp) <;> omega) i
                have kf := fun i => keepf hLe (wo.heap.size) (by (try simp) <;> omega) i
                have kz : wo.heap.size < w'.heap.size := (by have := hLe.size; (try simp at this); omega)
                have kc := fun i => keepc hLe (b2) (by (try simp) <;> omega) i
                have kf := fun i => keepf hLe (b2) (by (try simp) <;> omega) i
                have kz : b2 < w'.heap.size := (by have := hLe.size; (try simp at this); omega)
                refine wpOp_plain rfl rfl (fun K hK => ?_)
                go_simp
                exact hK _ _ ⟨_, rfl, Below.refl _ _, rfl⟩
              apply free_is
              · intro a' w' hLe hfr hdep
                have e68 : a'.tmps.getD 68 undef = _ := hdep 1 68 (Nat.le_of_ble_eq_true rfl) rfl rfl
                conv at e68 => rhs; whnf
                have f68 := e68; simp only [Array.getD_eq_getD_getElem?] at f68
                have e72 : a'.tmps.getD 72 undef = _ := hdep 5 72 (Nat.le_of_ble_eq_true rfl) rfl rfl
                conv at e72 => rhs; whnf
                have f72 := e72; simp only [Array.getD_eq_getD_getElem?] at f72
                refine wpOp_plain rfl rfl (fun K hK => ?_)
                go_simp
                exact hK _ _ ⟨_, rfl, Below.refl _ _, rfl⟩
              apply free_is
              · intro a' w' hLe hfr hdep
                have e9 := hfr 9 rfl
                conv at e9 => rhs; whnf
                have f9 := e9; simp only [Array.getD_eq_getD_getElem?] at f9
                refine wpOp_plain rfl rfl (fun K hK => ?_)
                go_simp
                exact hK _ _ ⟨_, rfl, Below.refl _ _, rfl⟩
              apply free_nil
              intro vs w7 hb7 hT7
              have e67 : vs 0 = _ := hT7 0 67 rfl
              conv at e67 => rhs; whnf
              have e68 : vs 1 = _ := hT7 1 68 rfl
              conv at e68 => rhs; whnf
              have e69 : vs 2 = _ := hT7 2 69 rfl
              conv at e69 => rhs; whnf
              have e70 : vs 3 = _ := hT7 3 70 rfl
              conv at e70 => rhs; whnf
              have e71 : vs 4 = _ := hT7 4 71 rfl
              conv at e71 => rhs; whnf
              have e72 : vs 5 = _ := hT7 5 72 rfl
              conv at e72 => rhs; whnf
              have e73 : vs 6 = _ := hT7 6 73 rfl
              conv at e73 => rhs; whnf
              have e74 : vs 7 = _ := hT7 7 74 rfl
              conv at e74 => rhs; whnf
              simp only [putAll, List.drop_succ_cons, List.drop_zero, e67, e68, e69, e70, e71, e72, e73, e74]
              clear hT7 e67 e68 e69 e70 e71 e72 e73 e74
              go_simp
              have hC7 := (hb7.block wo.heap.size hwl6).trans hC6
              refine wpList_store_at rfl 3 (.tmp 74) (.tmp 73) rfl (.int .i64 (sn + s q)) #[.int .i64 (a j), .int .i64 (cn + 1), .int .i64 (sn + s q)] hC7 rfl rfl (by kernel_rfl) rfl rfl (by simp) rfl ?_
              intro w8 hC8 hg8 hs8
              go_wp2
              go_roundw
              case rel => exact ⟨q + 1, by omega, by go_num, HO.out, by rw [HC1.out, HS1.out]; exact hC8, grown_trans (grown_low hG6 (hb7.mono (by have := hG6.size; exact this))) hg8⟩
              case measure => simp [intOf]; omega
            · have hxb : (h q == a j) = false := by simpa using hx
              have HC1 := Lib.hid (cntN_miss (h := h) hx)
              have HS1 := Lib.hid (sumN_miss (s := s) hx)
              clear hx
              go_wp2_with (go_at_call 45; refine (hit _).mono ?_; rintro e w' ⟨rfl, rfl⟩)
              refine wp_region_free (ds := [(0, 53), (1, 54), (2, 55), (3, 56), (4, 57), (5, 58), (6, 59), (7, 60), (8, 61), (9, 62)]) 10 (by kernel_rfl) (by kernel_rfl) (by first | exact .inl rfl | exact .inr (by kernel_rfl)) (by rfl) rfl rfl ?_
              apply free_is
              · intro a' w' hLe hfr hdep
                have e1 := hfr 1 rfl
                conv at e1 => rhs; whnf
                have f1 := e1; simp only [Array.getD_eq_getD_getElem?] at f1
                refine wpOp_plain rfl rfl (fun K hK => ?_)
                go_simp
                exact hK _ _ ⟨_, rfl, Below.refl _ _, rfl⟩
              apply free_is
              · intro a' w' hLe hfr hdep
                have e10 := hfr 10 rfl
                conv at e10 => rhs; whnf
                have f10 := e10; simp only [Array.getD_eq_getD_getElem?] at f10
                refine wpOp_plain rfl rfl (fun K hK => ?_)
                go_simp
                exact hK _ _ ⟨_, rfl, Below.refl _ _, rfl⟩
              apply free_is
              · intro a' w' hLe hfr hdep
                have e53 : a'.tmps.getD 53 undef = _ := hdep 0 53 (Nat.le_of_ble_eq_true rfl) rfl rfl
                conv at e53 => rhs; whnf
                have f53 := e53; simp only [Array.getD_eq_getD_getElem?] at f53
                have e54 : a'.tmps.getD 54 undef = _ := hdep 1 54 (Nat.le_of_ble_eq_true rfl) rfl rfl
                conv at e54 => rhs; whnf
                have f54 := e54; simp only [Array.getD_eq_getD_getElem?] at f54
                refine wpOp_plain rfl rfl (fun K hK => ?_)
                go_simp
                exact hK _ _ ⟨_, rfl, Below.refl _ _, rfl⟩
              apply free_is
              · intro a' w' hLe hfr hdep
                have e55 : a'.tmps.getD 55 undef = _ := hdep 2 55 (Nat.le_of_ble_eq_true rfl) rfl rfl
                conv at e55 => rhs; whnf
                have f55 := e55; simp only [Array.getD_eq_getD_getElem?] at f55
                have kc := fun i => keepc hLe (b1) (by (try simp) <;> omega) i
                have kf := fun i => keepf hLe (b1) (by (try simp) <;> omega) i
                have kz : b1 < w'.heap.size := (by have := hLe.size; (try simp at this); omega)
                have kc := fun i => keepc hLe (bl) (by (try simp) <;> omega) i
                have kf := fun i => keepf hLe (bl) (by (try simp) <;> omega) i
                have kz : bl < w'.heap.size := (by have := hLe.size; (try simp at this); omega)
                refine wpOp_plain rfl rfl (fun K hK => ?_)
                go_simp
                exact hK _ _ ⟨_, rfl, Below.refl _ _, rfl⟩
              apply free_is
              · intro a' w' hLe hfr hdep
                have e0 := hfr 0 rfl
                conv at e0 => rhs; whnf
                have f0 := e0; simp only [Array.getD_eq_getD_getElem?] at f0
                refine wpOp_plain rfl rfl (fun K hK => ?_)
                go_simp
                exact hK _ _ ⟨_, rfl, Below.refl _ _, rfl⟩
              apply free_is
              · intro a' w' hLe hfr hdep
                have e8 := hfr 8 rfl
                conv at e8 => rhs; whnf
                have f8 := e8; simp only [Array.getD_eq_getD_getElem?] at f8
                refine wpOp_plain rfl rfl (fun K hK => ?_)
                go_simp
                exact hK _ _ ⟨_, rfl, Below.refl _ _, rfl⟩
              apply free_is
              · intro a' w' hLe hfr hdep
                have e57 : a'.tmps.getD 57 undef = _ := hdep 4 57 (Nat.le_of_ble_eq_true rfl) rfl rfl
                conv at e57 => rhs; whnf
                have f57 := e57; simp only [Array.getD_eq_getD_getElem?] at f57
                have e58 : a'.tmps.getD 58 undef = _ := hdep 5 58 (Nat.le_of_ble_eq_true rfl) rfl rfl
                conv at e58 => rhs; whnf
                have f58 := e58; simp only [Array.getD_eq_getD_getElem?] at f58
                refine wpOp_plain rfl rfl (fun K hK => ?_)
                go_simp
                exact hK _ _ ⟨_, rfl, Below.refl _ _, rfl⟩
              apply free_is
              · intro a' w' hLe hfr hdep
                have e59 : a'.tmps.getD 59 undef = _ := hdep 6 59 (Nat.le_of_ble_eq_true rfl) rfl rfl
                conv at e59 => rhs; whnf
                have f59 := e59; simp only [Array.getD_eq_getD_getElem?] at f59
                refine wpOp_plain rfl rfl (fun K hK => ?_)
                go_simp
                exact hK _ _ ⟨_, rfl, Below.refl _ _, rfl⟩
              apply free_is
              · intro a' w' hLe hfr hdep
                have e60 : a'.tmps.getD 60 undef = _ := hdep 7 60 (Nat.le_of_ble_eq_true rfl) rfl rfl
                conv at e60 => rhs; whnf
                have f60 := e60; simp only [Array.getD_eq_getD_getElem?] at f60
                have kc := fun i => keepc hLe (b1) (by (try simp) <;> omega) i
                have kf := fun i => keepf hLe (b1) (by (try simp) <;> omega) i
                have kz : b1 < w'.heap.size := (by have := hLe.size; (try simp at this); omega)
                have kc := fun i => keepc hLe (bl) (by (try simp) <;> omega) i
                have kf := fun i => keepf hLe (bl) (by (try simp) <;> omega) i
                have kz : bl < w'.heap.size := (by have := hLe.size; (try simp at this); omega)
                refine wpOp_plain rfl rfl (fun K hK => ?_)
                go_simp
                exact hK _ _ ⟨_, rfl, Below.refl _ _, rfl⟩
              apply free_is
              · intro a' w' hLe hfr hdep
                have e56 : a'.tmps.getD 56 undef = _ := hdep 3 56 (Nat.le_of_ble_eq_true rfl) rfl rfl
                conv at e56 => rhs; whnf
                have f56 := e56; simp only [Array.getD_eq_getD_getElem?] at f56
                have e61 : a'.tmps.getD 61 undef = _ := hdep 8 61 (Nat.le_of_ble_eq_true rfl) rfl rfl
                conv at e61 => rhs; whnf
                have f61 := e61; simp only [Array.getD_eq_getD_getElem?] at f61
                refine wpOp_plain rfl rfl (fun K hK => ?_)
                go_simp
                exact hK _ _ ⟨_, rfl, Below.refl _ _, rfl⟩
              apply free_nil
              intro vs w5 hb5 hT5
              have e53 : vs 0 = _ := hT5 0 53 rfl
              conv at e53 => rhs; whnf
              have e54 : vs 1 = _ := hT5 1 54 rfl
              conv at e54 => rhs; whnf
              have e55 : vs 2 = _ := hT5 2 55 rfl
              conv at e55 => rhs; whnf
              have e56 : vs 3 = _ := hT5 3 56 rfl
              conv at e56 => rhs; whnf
              have e57 : vs 4 = _ := hT5 4 57 rfl
              conv at e57 => rhs; whnf
              have e58 : vs 5 = _ := hT5 5 58 rfl
              conv at e58 => rhs; whnf
              have e59 : vs 6 = _ := hT5 6 59 rfl
              conv at e59 => rhs; whnf
              have e60 : vs 7 = _ := hT5 7 60 rfl
              conv at e60 => rhs; whnf
              have e61 : vs 8 = _ := hT5 8 61 rfl
              conv at e61 => rhs; whnf
              have e62 : vs 9 = _ := hT5 9 62 rfl
              conv at e62 => rhs; whnf
              simp only [putAll, List.drop_succ_cons, List.drop_zero, e53, e54, e55, e56, e57, e58, e59, e60, e61, e62]
              clear hT5 e53 e54 e55 e56 e57 e58 e59 e60 e61 e62
              go_simp
              have hC5 := (hb5.block wo.heap.size hwl).trans hC
              go_wp2
              go_roundw
              case rel => exact ⟨q + 1, by omega, by go_num, HO.out, by rw [HC1.out, HS1.out]; exact hC5, grown_low hg (hb5.mono hg.size)⟩
              case measure => simp [intOf]; omega
        · obtain rfl : q = m := by omega
          have HO := Lib.hid hok2
          clear hltq hok hok2
          obtain ⟨k5, f5⟩ := blk hC
          go_wp2_with (at_builtin; refine wpList_push rfl (.tmp 75) (.tmp 77) 25 rfl 32 _ 3 24 Try.underlying25 info_counter rfl (by decide) (by decide) rfl (hAr.next (below_nw _ _)) rfl (heap_alloc_new _ _) rfl (counterR_one _ _ _ _) (by omega) (by simp; omega) ?_; intro v' w5 hA5 hB5 hg5)
          go_roundw
          case rel => exact ⟨j + 1, by omega, by go_num, fun _ => HO.out, hA5, Below.trans (Below.tr hBr (below_nw _ _)) hB5⟩
          case measure => simp [intOf]; omega
    · obtain rfl : j = n := by omega
      clear hlt
      obtain ⟨A2, c2', rfl, hO⟩ := hA.own
      have he := Lib.hid (show cpkN j a b d m m s = j by
        rcases Nat.eq_zero_or_pos j with h0 | h0
        · have := cpkN_le j a b d m m s; omega
        · exact cpkN_yes HP.out h40 (hok h0))
      clear hok hA
      go_wp2
      go_ret
      rw [he.out]
      exact ⟨_, _, rfl, hO, hBw⟩
end Go.Proofs.Ytdfnpcjbecbbbaa
