/-
  QueueOrder in the reference.
-/
import Derived.Test.YtghmcedfiebolaaQueO
namespace Go.Proofs.Ytghmcedfiebolaa
open Go Go.RowKit

set_option maxRecDepth 100000 in
set_option maxHeartbeats 16000000 in
theorem specQueueOrder_any {w : World} {B : Nat} {A A' : Option Addr} {n c m c' : Nat} {qn : Nat → Nat} {q : Nat → Nat → Int} {sh : Nat → Int} (H : Qs w B A n c qn q) (H' : Rws w B 1 A' m c' (intR sh)) (hB : B ≤ w.heap.size) :
    Calls Try.prog 22 #[.slice A n c, .slice A' m c'] w (Gives w 39 2 (qoN n qn q m sh) (qoR n qn q sh)) := by
  have HH := Lib.hid H
  have HH' := Lib.hid H'
  obtain ⟨QA, qc, ⟨⟨hnc, hcm⟩, hrow⟩, HI⟩ := H
  obtain ⟨⟨hnc', hcm'⟩, hrow'⟩ := H'
  unfold maxLen at hcm hcm'
  have hI := Lib.hid HI
  have hRow := Lib.hid hrow
  have hRow' := Lib.hid hrow'
  clear HI hrow hrow'
  cases hv : qvB n qn q m sh with
  | false =>
    have he := Lib.hid (show qoN n qn q m sh = 0 by simp [qoN, hv])
    go_enter Try.func22, Try.ntmps22
    go_wp2_with fail
    refine (specQueuesValid_any (HH.out.below ((below_new w _).mono hB)) (HH'.out.below ((below_new w _).mono hB)) (by simp; omega)).mono ?_
    rintro e w' ⟨rfl, rfl⟩
    rw [hv]
    go_wp2
    go_ret
    rw [he.out]
    exact ⟨_, _, rfl, Own.nil _ _ _ _ _ _ _ (by unfold maxLen; omega), below_new w _⟩
  | true =>
    have hV := Lib.hid hv
    obtain ⟨h1, h4, hmn, hq4⟩ := qvB_true.1 hv
    subst hmn
    have he := Lib.hid (show qoN m qn q m sh = (qOut m qn q sh).length by simp [qoN, hv])
    have HQ := Lib.hid hq4
    have hsum := plSum_small hv
    obtain ⟨iT, hi, hz, hs, hb⟩ := info_parts info_int
    have hmk := run_make_rows (P := Try.prog) 23 3 iT _ 1 Try.underlying23 hi hz hs m (by rw [hb]; omega) (by omega)
    simp only [Nat.mul_one, rowI_made] at hmk
    have HM := Lib.hid hmk
    clear hi hz hs hb hq4 hmk
    go_enter Try.func22, Try.ntmps22
    go_wp2_with fail
    refine (specQueuesValid_any (HH.out.below ((below_new w _).mono hB)) (HH'.out.below ((below_new w _).mono hB)) (by simp; omega)).mono ?_
    rintro e w' ⟨rfl, rfl⟩
    rw [hv]
    clear hv
    have hmk := HM.out
    go_wp2_with fail
    clear hmk
    have hQ0 : QM (((w.alloc (.cells #[] 39)).alloc (.cells (rowI (fun _ => 0) m) 3)).alloc (.cells (rowI (fun _ => 0) m) 3)) w.heap.size (w.heap.size + 1) (w.heap.size + 1 + 1) m (qRun m qn q sh 0).pl (qRun m qn q sh 0).hv (.slice (some ⟨w.heap.size, 0, none⟩) 0 0) (qRun m qn q sh 0).out :=
      ⟨(heap_alloc_old _ _ (by simp)).trans (heap_new1 w _ _), heap_new2 w _ _ _, ((Acc.made w 39 (m := 2) (outR []) (fun _ => rfl) (Nat.le_refl _)).next (below_new _ _)).next (below_new _ _)⟩
    have hB0 : Below w.heap.size w (((w.alloc (.cells #[] 39)).alloc (.cells (rowI (fun _ => 0) m) 3)).alloc (.cells (rowI (fun _ => 0) m) 3)) := by (repeat (first | exact Below.refl _ _ | assumption | refine Below.al ?_ _ | refine Below.dr ?_ | (refine Below.st ?_ (by simp <;> omega) _) | (refine Below.tr ?_ (by assumption))))
    obtain ⟨wm, hwm⟩ : ∃ wm : World, wm = (((w.alloc (.cells #[] 39)).alloc (.cells (rowI (fun _ => 0) m) 3)).alloc (.cells (rowI (fun _ => 0) m) 3)) := ⟨_, rfl⟩
    rw [← hwm] at hQ0 hB0 ⊢
    clear hwm
    have hszm := hB0.size
    go_loop [8, 9] (fun le i => ∃ k : Nat, k ≤ m ∧ i = .int .i64 k ∧ le = .int .i64 (plSum qn k : Nat)) (fun _ i => m - (intOf i).toNat)
    case atStart => exact ⟨0, by omega, rfl, rfl⟩
    case round =>
      obtain ⟨k, hk, rfl, rfl⟩ := hrel
      by_cases hkn : k < m
      · obtain ⟨bl, off, rfl, hbB, hc⟩ := hRow.out (by omega)
        have hr := hc k hkn
        rw [Nat.mul_one] at hr
        have hbs : bl < wm.heap.size := by omega
        have q0 : wm.cell? ⟨bl, off + k, none⟩ = some (.slice (QA k) (qn k) (qc k)) := (keepc hB0 bl (by omega) _).trans (hr 0 _ rfl)
        have h5 := HQ.out k hkn
        have hq8 := h5.1
        have hmo := plSum_mono qn (k := k) (n := m) hk
        have HSS := Lib.hid (show plSum qn (k + 1) = plSum qn k + qn k from rfl)
        clear hr hc h5
        go_wp2
        go_round
        case rel => exact ⟨k + 1, by omega, by go_num, by rw [HSS.out]; go_num⟩
        case measure => simp [intOf]; omega
      · obtain rfl : k = m := by omega
        go_wp2_with fail
        go_loopg [5] 400 (fun gk v wr => ∃ r : Nat, gk + r = 400 ∧ QM wr w.heap.size (w.heap.size + 1) (w.heap.size + 1 + 1) k (qRun k qn q sh r).pl (qRun k qn q sh r).hv v (qRun k qn q sh r).out ∧ Below w.heap.size w wr)
        case atStart => exact ⟨0, rfl, hQ0, hB0⟩
        case round =>
          obtain ⟨r, hr, hQ, hBw⟩ := hrel
          clear hQ0 hB0
          obtain ⟨Av, cv, rfl, hncv, hcmv⟩ := hQ.2.2.form
          unfold maxLen at hcmv
          by_cases hlt : (qRun k qn q sh r).out.length < plSum qn k
          · have hr4 : r < 400 := by
              rcases Nat.lt_or_ge r 400 with h | h
              · exact h
              · have h5 := (qRun_facts hV.out r).2.2.2
                have h6 : plSum (qRun k qn q sh r).pl k = plSum qn k := plSum_congr fun i hi => qRun_done hV.out h hi
                omega
            have HR := Lib.hid hr
            clear hr
            go_wp2_with fail
            obtain ⟨wo, rfl⟩ : ∃ wo : World, wo = wr := ⟨_, rfl⟩
            go_loopw [5, 10] (fun v i wi => ∃ j : Nat, j ≤ k ∧ i = .int .i64 j ∧ QM wi w.heap.size (w.heap.size + 1) (w.heap.size + 1 + 1) k (qPart qn q sh (qRun k qn q sh r) j).pl (qPart qn q sh (qRun k qn q sh r) j).hv v (qPart qn q sh (qRun k qn q sh r) j).out ∧ Below w.heap.size w wi) (fun _ i _ => k - (intOf i).toNat)
            case atStart => exact ⟨0, by omega, rfl, hQ, hBw⟩
            case round =>
              obtain ⟨j, hj, rfl, hQj, hBj⟩ := hrel
              clear hQ hBw hlt
              by_cases hjn : j < k
              · have hmid := qMid hV.out r hjn
                obtain ⟨t, ht⟩ : ∃ t, t = qPart qn q sh (qRun k qn q sh r) j := ⟨_, rfl⟩
                rw [← ht] at hmid hQj
                have hst1 := Lib.hid (qStep_same (qn := qn) (q := q) (sh := sh) (s := qRun k qn q sh r) (k := j))
                have hst2 := Lib.hid (fun h p x o h2 h3 => qStep_sent (qn := qn) (q := q) (sh := sh) (s := qRun k qn q sh r) (k := j) (t := t) ht h (p := p) (x := x) (o := o) h2 h3)
                have HT := Lib.hid ht
                clear ht
                obtain ⟨m1, m2, m3, m4, m5⟩ := hmid
                obtain ⟨b1, b2, b3, b4⟩ := HQ.out j hjn
                obtain ⟨bl, off, rfl, hbB, hc⟩ := hRow.out (by omega)
                have hr1 := hc j hjn
                rw [Nat.mul_one] at hr1
                obtain ⟨bs, os, rfl, hsB, hcs⟩ := hRow'.out (by omega)
                have hr2 := hcs j hjn
                rw [Nat.mul_one] at hr2
                have hszj := hBj.size
                have hbl : bl < wr.heap.size := by omega
                have hbsl : bs < wr.heap.size := by omega
                have hgl := hQj.lt
                have hgp := hgl.1
                have hgh := hgl.2
                have q0 : wr.cell? ⟨bl, off + j, none⟩ = some (.slice (QA j) (qn j) (qc j)) := (keepc hBj bl (by omega) _).trans (hr1 0 _ rfl)
                have s00 : w.cell? ⟨bs, os + j, none⟩ = some (.int .i64 (sh j)) := hr2 0 _ rfl
                have q00 : w.cell? ⟨bl, off + j, none⟩ = some (.slice (QA j) (qn j) (qc j)) := hr1 0 _ rfl
                have S0 := Lib.hid (fun (W : World) (hW : Below w.heap.size w W) => (keepc hW bs (by omega) (os + j)).trans s00)
                have Q0 := Lib.hid (fun (W : World) (hW : Below w.heap.size w W) => (keepc hW bl (by omega) (off + j)).trans q00)
                obtain ⟨p0, h0, fp, fh⟩ := hQj.cells hjn
                have hIj := Lib.hid (hI.out j hjn)
                have HB4 := Lib.hid b4
                have hqc := (hI.out j hjn).1
                clear hr1 hc hr2 hcs hgl b4 s00 q00
                unfold maxLen at hqc
                generalize QA j = Aj at *
                generalize qc j = cj at *
                obtain ⟨Ax, cx, e1, hncx, hcmx⟩ := hQj.2.2.form
                subst e1
                unfold maxLen at hcmx
                by_cases hpe : t.pl j = qn j
                · have hd1 : ((t.pl j : Int) == (qn j : Int)) = true := by simp [hpe]
                  have hd2 : (t.pl j == qn j) = true := by simp [hpe]
                  have hs1 := Lib.hid (hst1.out (by rw [← HT.out]; exact hpe))
                  have HPE := Lib.hid hpe
                  clear hpe
                  go_upto_region 15 with (fail)
                  refine wp_region_still (ds := [(0, 46), (1, 47), (2, 48), (3, 49), (4, 50), (5, 51), (6, 52), (7, 53), (8, 54), (9, 55)]) 10 (by kernel_rfl) (by kernel_rfl) (by first | exact .inl rfl | exact .inr (by kernel_rfl)) (by rfl) rfl rfl ?_
                  apply still_cons
                  · intro a' w' hLe hfr hdep
                    have e6 := hfr 6 rfl
                    conv at e6 => rhs; whnf
                    have f6 := e6; simp only [Array.getD_eq_getD_getElem?] at f6
                    refine wpOp_plain rfl rfl (fun K hK => ?_)
                    go_simp
                    exact hK _ _ ⟨rfl, Below.refl _ _⟩
                  apply still_cons
                  · intro a' w' hLe hfr hdep
                    have e10 := hfr 10 rfl
                    conv at e10 => rhs; whnf
                    have f10 := e10; simp only [Array.getD_eq_getD_getElem?] at f10
                    refine wpOp_plain rfl rfl (fun K hK => ?_)
                    go_simp
                    exact hK _ _ ⟨rfl, Below.refl _ _⟩
                  apply still_cons
                  · intro a' w' hLe hfr hdep
                    have e46 := hdep 0 46 (Nat.le_of_ble_eq_true rfl) rfl rfl
                    conv at e46 => rhs; whnf
                    have f46 := e46; simp only [Array.getD_eq_getD_getElem?] at f46
                    have e47 := hdep 1 47 (Nat.le_of_ble_eq_true rfl) rfl rfl
                    conv at e47 => rhs; whnf
                    have f47 := e47; simp only [Array.getD_eq_getD_getElem?] at f47
                    refine wpOp_plain rfl rfl (fun K hK => ?_)
                    go_simp
                    exact hK _ _ ⟨rfl, Below.refl _ _⟩
                  apply still_cons
                  · intro a' w' hLe hfr hdep
                    have e48 := hdep 2 48 (Nat.le_of_ble_eq_true rfl) rfl rfl
                    conv at e48 => rhs; whnf
                    have f48 := e48; simp only [Array.getD_eq_getD_getElem?] at f48
                    have kc := fun i => keepc hLe (w.heap.size + 1) (by (try simp) <;> omega) i
                    have kf := fun i => keepf hLe (w.heap.size + 1) (by (try simp) <;> omega) i
                    have kc := fun i => keepc hLe (bl) (by (try simp) <;> omega) i
                    have kf := fun i => keepf hLe (bl) (by (try simp) <;> omega) i
                    refine wpOp_plain rfl rfl (fun K hK => ?_)
                    go_simp
                    exact hK _ _ ⟨rfl, Below.refl _ _⟩
                  apply still_cons
                  · intro a' w' hLe hfr hdep
                    have e0 := hfr 0 rfl
                    conv at e0 => rhs; whnf
                    have f0 := e0; simp only [Array.getD_eq_getD_getElem?] at f0
                    refine wpOp_plain rfl rfl (fun K hK => ?_)
                    go_simp
                    exact hK _ _ ⟨rfl, Below.refl _ _⟩
                  apply still_cons
                  · intro a' w' hLe hfr hdep
                    have e10 := hfr 10 rfl
                    conv at e10 => rhs; whnf
                    have f10 := e10; simp only [Array.getD_eq_getD_getElem?] at f10
                    refine wpOp_plain rfl rfl (fun K hK => ?_)
                    go_simp
                    exact hK _ _ ⟨rfl, Below.refl _ _⟩
                  apply still_cons
                  · intro a' w' hLe hfr hdep
                    have e50 := hdep 4 50 (Nat.le_of_ble_eq_true rfl) rfl rfl
                    conv at e50 => rhs; whnf
                    have f50 := e50; simp only [Array.getD_eq_getD_getElem?] at f50
                    have e51 := hdep 5 51 (Nat.le_of_ble_eq_true rfl) rfl rfl
                    conv at e51 => rhs; whnf
                    have f51 := e51; simp only [Array.getD_eq_getD_getElem?] at f51
                    refine wpOp_plain rfl rfl (fun K hK => ?_)
                    go_simp
                    exact hK _ _ ⟨rfl, Below.refl _ _⟩
                  apply still_cons
                  · intro a' w' hLe hfr hdep
                    have e52 := hdep 6 52 (Nat.le_of_ble_eq_true rfl) rfl rfl
                    conv at e52 => rhs; whnf
                    have f52 := e52; simp only [Array.getD_eq_getD_getElem?] at f52
                    have kc := fun i => keepc hLe (w.heap.size + 1) (by (try simp) <;> omega) i
                    have kf := fun i => keepf hLe (w.heap.size + 1) (by (try simp) <;> omega) i
                    have kc := fun i => keepc hLe (bl) (by (try simp) <;> omega) i
                    have kf := fun i => keepf hLe (bl) (by (try simp) <;> omega) i
                    refine wpOp_plain rfl rfl (fun K hK => ?_)
                    go_simp
                    exact hK _ _ ⟨rfl, Below.refl _ _⟩
                  apply still_cons
                  · intro a' w' hLe hfr hdep
                    have e53 := hdep 7 53 (Nat.le_of_ble_eq_true rfl) rfl rfl
                    conv at e53 => rhs; whnf
                    have f53 := e53; simp only [Array.getD_eq_getD_getElem?] at f53
                    refine wpOp_plain rfl rfl (fun K hK => ?_)
                    go_simp
                    exact hK _ _ ⟨rfl, Below.refl _ _⟩
                  apply still_cons
                  · intro a' w' hLe hfr hdep
                    have e49 := hdep 3 49 (Nat.le_of_ble_eq_true rfl) rfl rfl
                    conv at e49 => rhs; whnf
                    have f49 := e49; simp only [Array.getD_eq_getD_getElem?] at f49
                    have e54 := hdep 8 54 (Nat.le_of_ble_eq_true rfl) rfl rfl
                    conv at e54 => rhs; whnf
                    have f54 := e54; simp only [Array.getD_eq_getD_getElem?] at f54
                    refine wpOp_plain rfl rfl (fun K hK => ?_)
                    go_simp
                    exact hK _ _ ⟨rfl, Below.refl _ _⟩
                  apply still_nil
                  intro w15 hb15
                  simp only [putAll, List.drop_succ_cons, List.drop_zero]
                  go_simp
                  have hQ15 := hQj.next hb15
                  have hB15 := Below.tr hBj hb15
                  go_wp2
                  go_roundw
                  case rel => exact ⟨j + 1, by omega, by go_num, by rw [hs1.out, ← HT.out]; exact hQ15, hB15⟩
                  case measure => simp [intOf]; omega
                · have hpl : t.pl j < qn j := by omega
                  have m6 := m4 hpl
                  have hd1 : ((t.pl j : Int) == (qn j : Int)) = false := by simp; omega
                  have hd2 : (t.pl j == qn j) = false := by simpa using hpe
                  have HPE := Lib.hid hpe
                  clear hpe m4
                  have e17 : IntKind.i64.wrap (t.hv j + sh j) = t.hv j + sh j := IntWalk.i64_in _ (by omega)
                  go_upto_region 15 with (fail)
                  refine wp_region_still (ds := [(0, 46), (1, 47), (2, 48), (3, 49), (4, 50), (5, 51), (6, 52), (7, 53), (8, 54), (9, 55)]) 10 (by kernel_rfl) (by kernel_rfl) (by first | exact .inl rfl | exact .inr (by kernel_rfl)) (by rfl) rfl rfl ?_
                  apply still_cons
                  · intro a' w' hLe hfr hdep
                    have e6 := hfr 6 rfl
                    conv at e6 => rhs; whnf
                    have f6 := e6; simp only [Array.getD_eq_getD_getElem?] at f6
                    refine wpOp_plain rfl rfl (fun K hK => ?_)
                    go_simp
                    exact hK _ _ ⟨rfl, Below.refl _ _⟩
                  apply still_cons
                  · intro a' w' hLe hfr hdep
                    have e10 := hfr 10 rfl
                    conv at e10 => rhs; whnf
                    have f10 := e10; simp only [Array.getD_eq_getD_getElem?] at f10
                    refine wpOp_plain rfl rfl (fun K hK => ?_)
                    go_simp
                    exact hK _ _ ⟨rfl, Below.refl _ _⟩
                  apply still_cons
                  · intro a' w' hLe hfr hdep
                    have e46 := hdep 0 46 (Nat.le_of_ble_eq_true rfl) rfl rfl
                    conv at e46 => rhs; whnf
                    have f46 := e46; simp only [Array.getD_eq_getD_getElem?] at f46
                    have e47 := hdep 1 47 (Nat.le_of_ble_eq_true rfl) rfl rfl
                    conv at e47 => rhs; whnf
                    have f47 := e47; simp only [Array.getD_eq_getD_getElem?] at f47
                    refine wpOp_plain rfl rfl (fun K hK => ?_)
                    go_simp
                    exact hK _ _ ⟨rfl, Below.refl _ _⟩
                  apply still_cons
                  · intro a' w' hLe hfr hdep
                    have e48 := hdep 2 48 (Nat.le_of_ble_eq_true rfl) rfl rfl
                    conv at e48 => rhs; whnf
                    have f48 := e48; simp only [Array.getD_eq_getD_getElem?] at f48
                    have kc := fun i => keepc hLe (w.heap.size + 1) (by (try simp) <;> omega) i
                    have kf := fun i => keepf hLe (w.heap.size + 1) (by (try simp) <;> omega) i
                    have kc := fun i => keepc hLe (bl) (by (try simp) <;> omega) i
                    have kf := fun i => keepf hLe (bl) (by (try simp) <;> omega) i
                    refine wpOp_plain rfl rfl (fun K hK => ?_)
                    go_simp
                    exact hK _ _ ⟨rfl, Below.refl _ _⟩
                  apply still_cons
                  · intro a' w' hLe hfr hdep
                    have e0 := hfr 0 rfl
                    conv at e0 => rhs; whnf
                    have f0 := e0; simp only [Array.getD_eq_getD_getElem?] at f0
                    refine wpOp_plain rfl rfl (fun K hK => ?_)
                    go_simp
                    exact hK _ _ ⟨rfl, Below.refl _ _⟩
                  apply still_cons
                  · intro a' w' hLe hfr hdep
                    have e10 := hfr 10 rfl
                    conv at e10 => rhs; whnf
                    have f10 := e10; simp only [Array.getD_eq_getD_getElem?] at f10
                    refine wpOp_plain rfl rfl (fun K hK => ?_)
                    go_simp
                    exact hK _ _ ⟨rfl, Below.refl _ _⟩
                  apply still_cons
                  · intro a' w' hLe hfr hdep
                    have e50 := hdep 4 50 (Nat.le_of_ble_eq_true rfl) rfl rfl
                    conv at e50 => rhs; whnf
                    have f50 := e50; simp only [Array.getD_eq_getD_getElem?] at f50
                    have e51 := hdep 5 51 (Nat.le_of_ble_eq_true rfl) rfl rfl
                    conv at e51 => rhs; whnf
                    have f51 := e51; simp only [Array.getD_eq_getD_getElem?] at f51
                    refine wpOp_plain rfl rfl (fun K hK => ?_)
                    go_simp
                    exact hK _ _ ⟨rfl, Below.refl _ _⟩
                  apply still_cons
                  · intro a' w' hLe hfr hdep
                    have e52 := hdep 6 52 (Nat.le_of_ble_eq_true rfl) rfl rfl
                    conv at e52 => rhs; whnf
                    have f52 := e52; simp only [Array.getD_eq_getD_getElem?] at f52
                    have kc := fun i => keepc hLe (w.heap.size + 1) (by (try simp) <;> omega) i
                    have kf := fun i => keepf hLe (w.heap.size + 1) (by (try simp) <;> omega) i
                    have kc := fun i => keepc hLe (bl) (by (try simp) <;> omega) i
                    have kf := fun i => keepf hLe (bl) (by (try simp) <;> omega) i
                    refine wpOp_plain rfl rfl (fun K hK => ?_)
                    go_simp
                    exact hK _ _ ⟨rfl, Below.refl _ _⟩
                  apply still_cons
                  · intro a' w' hLe hfr hdep
                    have e53 := hdep 7 53 (Nat.le_of_ble_eq_true rfl) rfl rfl
                    conv at e53 => rhs; whnf
                    have f53 := e53; simp only [Array.getD_eq_getD_getElem?] at f53
                    refine wpOp_plain rfl rfl (fun K hK => ?_)
                    go_simp
                    exact hK _ _ ⟨rfl, Below.refl _ _⟩
                  apply still_cons
                  · intro a' w' hLe hfr hdep
                    have e49 := hdep 3 49 (Nat.le_of_ble_eq_true rfl) rfl rfl
                    conv at e49 => rhs; whnf
                    have f49 := e49; simp only [Array.getD_eq_getD_getElem?] at f49
                    have e54 := hdep 8 54 (Nat.le_of_ble_eq_true rfl) rfl rfl
                    conv at e54 => rhs; whnf
                    have f54 := e54; simp only [Array.getD_eq_getD_getElem?] at f54
                    refine wpOp_plain rfl rfl (fun K hK => ?_)
                    go_simp
                    exact hK _ _ ⟨rfl, Below.refl _ _⟩
                  apply still_nil
                  intro w15 hb15
                  simp only [putAll, List.drop_succ_cons, List.drop_zero]
                  go_simp
                  have hQ15 := hQj.next hb15
                  have hB15 := Below.tr hBj hb15
                  have s0 := S0.out _ hB15
                  have hs15 := hb15.size
                  clear p0 h0 fp fh q0 hQj hBj hb15
                  obtain ⟨p0, h0, fp, fh⟩ := hQ15.cells hjn
                  go_upto_region 16 with (fail)
                  refine wp_region_still (ds := [(0, 56), (1, 57), (2, 58), (3, 59), (4, 60), (5, 61), (6, 62), (7, 63), (8, 64), (9, 65), (10, 66), (11, 67)]) 12 (by kernel_rfl) (by kernel_rfl) (by first | exact .inl rfl | exact .inr (by kernel_rfl)) (by rfl) rfl rfl ?_
                  apply still_cons
                  · intro a' w' hLe hfr hdep
                    have e7 := hfr 7 rfl
                    conv at e7 => rhs; whnf
                    have f7 := e7; simp only [Array.getD_eq_getD_getElem?] at f7
                    refine wpOp_plain rfl rfl (fun K hK => ?_)
                    go_simp
                    exact hK _ _ ⟨rfl, Below.refl _ _⟩
                  apply still_cons
                  · intro a' w' hLe hfr hdep
                    have e10 := hfr 10 rfl
                    conv at e10 => rhs; whnf
                    have f10 := e10; simp only [Array.getD_eq_getD_getElem?] at f10
                    refine wpOp_plain rfl rfl (fun K hK => ?_)
                    go_simp
                    exact hK _ _ ⟨rfl, Below.refl _ _⟩
                  apply still_cons
                  · intro a' w' hLe hfr hdep
                    have e7 := hfr 7 rfl
                    conv at e7 => rhs; whnf
                    have f7 := e7; simp only [Array.getD_eq_getD_getElem?] at f7
                    refine wpOp_plain rfl rfl (fun K hK => ?_)
                    go_simp
                    exact hK _ _ ⟨rfl, Below.refl _ _⟩
                  apply still_cons
                  · intro a' w' hLe hfr hdep
                    have e10 := hfr 10 rfl
                    conv at e10 => rhs; whnf
                    have f10 := e10; simp only [Array.getD_eq_getD_getElem?] at f10
                    refine wpOp_plain rfl rfl (fun K hK => ?_)
                    go_simp
                    exact hK _ _ ⟨rfl, Below.refl _ _⟩
                  apply still_cons
                  · intro a' w' hLe hfr hdep
                    have e58 := hdep 2 58 (Nat.le_of_ble_eq_true rfl) rfl rfl
                    conv at e58 => rhs; whnf
                    have f58 := e58; simp only [Array.getD_eq_getD_getElem?] at f58
                    have e59 := hdep 3 59 (Nat.le_of_ble_eq_true rfl) rfl rfl
                    conv at e59 => rhs; whnf
                    have f59 := e59; simp only [Array.getD_eq_getD_getElem?] at f59
                    refine wpOp_plain rfl rfl (fun K hK => ?_)
                    go_simp
                    exact hK _ _ ⟨rfl, Below.refl _ _⟩
                  apply still_cons
                  · intro a' w' hLe hfr hdep
                    have e60 := hdep 4 60 (Nat.le_of_ble_eq_true rfl) rfl rfl
                    conv at e60 => rhs; whnf
                    have f60 := e60; simp only [Array.getD_eq_getD_getElem?] at f60
                    have kc := fun i => keepc hLe (w.heap.size + 1 + 1) (by (try simp) <;> omega) i
                    have kf := fun i => keepf hLe (w.heap.size + 1 + 1) (by (try simp) <;> omega) i
                    have kc := fun i => keepc hLe (bs) (by (try simp) <;> omega) i
                    have kf := fun i => keepf hLe (bs) (by (try simp) <;> omega) i
                    refine wpOp_plain rfl rfl (fun K hK => ?_)
                    go_simp
                    exact hK _ _ ⟨rfl, Below.refl _ _⟩
                  apply still_cons
                  · intro a' w' hLe hfr hdep
                    have e1 := hfr 1 rfl
                    conv at e1 => rhs; whnf
                    have f1 := e1; simp only [Array.getD_eq_getD_getElem?] at f1
                    refine wpOp_plain rfl rfl (fun K hK => ?_)
                    go_simp
                    exact hK _ _ ⟨rfl, Below.refl _ _⟩
                  apply still_cons
                  · intro a' w' hLe hfr hdep
                    have e10 := hfr 10 rfl
                    conv at e10 => rhs; whnf
                    have f10 := e10; simp only [Array.getD_eq_getD_getElem?] at f10
                    refine wpOp_plain rfl rfl (fun K hK => ?_)
                    go_simp
                    exact hK _ _ ⟨rfl, Below.refl _ _⟩
                  apply still_cons
                  · intro a' w' hLe hfr hdep
                    have e62 := hdep 6 62 (Nat.le_of_ble_eq_true rfl) rfl rfl
                    conv at e62 => rhs; whnf
                    have f62 := e62; simp only [Array.getD_eq_getD_getElem?] at f62
                    have e63 := hdep 7 63 (Nat.le_of_ble_eq_true rfl) rfl rfl
                    conv at e63 => rhs; whnf
                    have f63 := e63; simp only [Array.getD_eq_getD_getElem?] at f63
                    refine wpOp_plain rfl rfl (fun K hK => ?_)
                    go_simp
                    exact hK _ _ ⟨rfl, Below.refl _ _⟩
                  apply still_cons
                  · intro a' w' hLe hfr hdep
                    have e64 := hdep 8 64 (Nat.le_of_ble_eq_true rfl) rfl rfl
                    conv at e64 => rhs; whnf
                    have f64 := e64; simp only [Array.getD_eq_getD_getElem?] at f64
                    have kc := fun i => keepc hLe (w.heap.size + 1 + 1) (by (try simp) <;> omega) i
                    have kf := fun i => keepf hLe (w.heap.size + 1 + 1) (by (try simp) <;> omega) i
                    have kc := fun i => keepc hLe (bs) (by (try simp) <;> omega) i
                    have kf := fun i => keepf hLe (bs) (by (try simp) <;> omega) i
                    refine wpOp_plain rfl rfl (fun K hK => ?_)
                    go_simp
                    exact hK _ _ ⟨rfl, Below.refl _ _⟩
                  apply still_cons
                  · intro a' w' hLe hfr hdep
                    have e61 := hdep 5 61 (Nat.le_of_ble_eq_true rfl) rfl rfl
                    conv at e61 => rhs; whnf
                    have f61 := e61; simp only [Array.getD_eq_getD_getElem?] at f61
                    have e65 := hdep 9 65 (Nat.le_of_ble_eq_true rfl) rfl rfl
                    conv at e65 => rhs; whnf
                    have f65 := e65; simp only [Array.getD_eq_getD_getElem?] at f65
                    refine wpOp_plain rfl rfl (fun K hK => ?_)
                    go_simp
                    exact hK _ _ ⟨rfl, Below.refl _ _⟩
                  apply still_cons
                  · intro a' w' hLe hfr hdep
                    have e56 := hdep 0 56 (Nat.le_of_ble_eq_true rfl) rfl rfl
                    conv at e56 => rhs; whnf
                    have f56 := e56; simp only [Array.getD_eq_getD_getElem?] at f56
                    have e57 := hdep 1 57 (Nat.le_of_ble_eq_true rfl) rfl rfl
                    conv at e57 => rhs; whnf
                    have f57 := e57; simp only [Array.getD_eq_getD_getElem?] at f57
                    refine wpOp_plain rfl rfl (fun K hK => ?_)
                    go_simp
                    exact hK _ _ ⟨rfl, Below.refl _ _⟩
                  apply still_nil
                  intro w17 hb17
                  simp only [putAll, List.drop_succ_cons, List.drop_zero]
                  go_simp
                  have hQ17 := hQ15.next hb17
                  have hB17 := Below.tr hB15 hb17
                  clear p0 h0 fp fh s0 hQ15 hB15 hb17
                  obtain ⟨p0, h0, fp, fh⟩ := hQ17.cells hjn
                  have hQ18 := hQ17.setH (show w.heap.size + 1 ≠ w.heap.size + 1 + 1 by omega) j (t.hv j + sh j)
                  have hB18 : Below w.heap.size w (w17.setCell ⟨w.heap.size + 1 + 1, j, none⟩ (.int .i64 (t.hv j + sh j))) := Below.st hB17 (by simp; omega) _
                  go_wp2_with fail
                  clear p0 h0 fp fh
                  go_loopg [5] (qn j - t.pl j) (fun gk v wi => ∃ (p : Nat) (x : Int) (o : Outs), gk + p = qn j ∧ t.pl j ≤ p ∧ 0 ≤ x ∧ x ≤ 100 ∧ o.length + t.pl j = t.out.length + p ∧ sendR j (qn j) (q j) p x o = sendR j (qn j) (q j) (t.pl j) (t.hv j + sh j) t.out ∧ QM wi w.heap.size (w.heap.size + 1) (w.heap.size + 1 + 1) k (upd t.pl j p) (upd t.hv j x) v o ∧ Below w.heap.size w wi)
                  case atStart => exact ⟨t.pl j, t.hv j + sh j, t.out, by omega, by omega, by omega, by omega, rfl, rfl, hQ18.congr (upd_self _ _).symm rfl, hB18⟩
                  case round =>
                    obtain ⟨p, x, o, hgk, hp0, hx0, hx1, hol, hT, hQi, hBi⟩ := hrel
                    clear hQ17 hB17 hQ18 hB18
                    have HT2 := Lib.hid hT
                    have HGK := Lib.hid hgk
                    have HOL := Lib.hid hol
                    have hpq : p ≤ qn j := by omega
                    have hob : o.length ≤ 40 := by omega
                    clear hT hgk hol
                    obtain ⟨Ay, cy, rfl, hncy, hcmy⟩ := hQi.2.2.form
                    unfold maxLen at hcmy
                    obtain ⟨p0, h0, fp, fh⟩ := hQi.cells hjn
                    rw [upd_same] at p0 h0
                    have hgl := hQi.lt
                    have hgp := hgl.1
                    have hgh := hgl.2
                    have hszi := hBi.size
                    have hbl : bl < wr.heap.size := by omega
                    clear hgl
                    have q0 := Q0.out _ hBi
                    by_cases hA : p < qn j
                    · obtain ⟨b2, o2, rfl, hb2, hc2⟩ := hIj.out.2 (by omega)
                      have hr2 := hc2 p hA
                      rw [Nat.mul_one] at hr2
                      have hb2l : b2 < wr.heap.size := by omega
                      have z0 : wr.cell? ⟨b2, o2 + p, none⟩ = some (.int .i64 (q j p)) := (keepc hBi b2 (by omega) _).trans (hr2 0 _ rfl)
                      obtain ⟨u1, u2⟩ := HB4.out p hA
                      clear hr2 hc2
                      by_cases hX : q j p ≤ x
                      · have hd1 : decide (q j p ≤ x) = true := by simpa using hX
                        have hd2 : decide ((p : Int) < (qn j : Int)) = true := by simp; omega
                        have HT3 := Lib.hid ((sendR_more (k := j) (o := o) hA hX).symm.trans HT2.out)
                        go_upto_region 17 with (fail)
                        refine wp_region_still (ds := [(0, 68), (1, 69), (2, 70), (3, 71), (4, 72), (5, 73), (6, 74), (7, 75), (8, 76), (9, 77), (10, 78), (11, 79), (12, 80), (13, 81), (14, 82), (15, 83), (16, 84), (17, 85), (18, 86), (19, 87), (20, 88), (21, 89), (22, 90), (23, 91), (24, 92), (25, 93), (26, 94)]) 27 (by kernel_rfl) (by kernel_rfl) (by first | exact .inl rfl | exact .inr (by kernel_rfl)) (by rfl) rfl rfl ?_
                        apply still_cons
                        · intro a' w' hLe hfr hdep
                          have e6 := hfr 6 rfl
                          conv at e6 => rhs; whnf
                          have f6 := e6; simp only [Array.getD_eq_getD_getElem?] at f6
                          refine wpOp_plain rfl rfl (fun K hK => ?_)
                          go_simp
                          exact hK _ _ ⟨rfl, Below.refl _ _⟩
                        apply still_cons
                        · intro a' w' hLe hfr hdep
                          have e10 := hfr 10 rfl
                          conv at e10 => rhs; whnf
                          have f10 := e10; simp only [Array.getD_eq_getD_getElem?] at f10
                          refine wpOp_plain rfl rfl (fun K hK => ?_)
                          go_simp
                          exact hK _ _ ⟨rfl, Below.refl _ _⟩
                        apply still_cons
                        · intro a' w' hLe hfr hdep
                          have e68 := hdep 0 68 (Nat.le_of_ble_eq_true rfl) rfl rfl
                          conv at e68 => rhs; whnf
                          have f68 := e68; simp only [Array.getD_eq_getD_getElem?] at f68
                          have e69 := hdep 1 69 (Nat.le_of_ble_eq_true rfl) rfl rfl
                          conv at e69 => rhs; whnf
                          have f69 := e69; simp only [Array.getD_eq_getD_getElem?] at f69
                          refine wpOp_plain rfl rfl (fun K hK => ?_)
                          go_simp
                          exact hK _ _ ⟨rfl, Below.refl _ _⟩
                        apply still_cons
                        · intro a' w' hLe hfr hdep
                          have e70 := hdep 2 70 (Nat.le_of_ble_eq_true rfl) rfl rfl
                          conv at e70 => rhs; whnf
                          have f70 := e70; simp only [Array.getD_eq_getD_getElem?] at f70
                          have kc := fun i => keepc hLe (w.heap.size + 1) (by (try simp) <;> omega) i
                          have kf := fun i => keepf hLe (w.heap.size + 1) (by (try simp) <;> omega) i
                          have kc := fun i => keepc hLe (w.heap.size + 1 + 1) (by (try simp) <;> omega) i
                          have kf := fun i => keepf hLe (w.heap.size + 1 + 1) (by (try simp) <;> omega) i
                          have kc := fun i => keepc hLe (bl) (by (try simp) <;> omega) i
                          have kf := fun i => keepf hLe (bl) (by (try simp) <;> omega) i
                          have kc := fun i => keepc hLe (b2) (by (try simp) <;> omega) i
                          have kf := fun i => keepf hLe (b2) (by (try simp) <;> omega) i
                          refine wpOp_plain rfl rfl (fun K hK => ?_)
                          go_simp
                          exact hK _ _ ⟨rfl, Below.refl _ _⟩
                        apply still_cons
                        · intro a' w' hLe hfr hdep
                          have e0 := hfr 0 rfl
                          conv at e0 => rhs; whnf
                          have f0 := e0; simp only [Array.getD_eq_getD_getElem?] at f0
                          refine wpOp_plain rfl rfl (fun K hK => ?_)
                          go_simp
                          exact hK _ _ ⟨rfl, Below.refl _ _⟩
                        apply still_cons
                        · intro a' w' hLe hfr hdep
                          have e10 := hfr 10 rfl
                          conv at e10 => rhs; whnf
                          have f10 := e10; simp only [Array.getD_eq_getD_getElem?] at f10
                          refine wpOp_plain rfl rfl (fun K hK => ?_)
                          go_simp
                          exact hK _ _ ⟨rfl, Below.refl _ _⟩
                        apply still_cons
                        · intro a' w' hLe hfr hdep
                          have e72 := hdep 4 72 (Nat.le_of_ble_eq_true rfl) rfl rfl
                          conv at e72 => rhs; whnf
                          have f72 := e72; simp only [Array.getD_eq_getD_getElem?] at f72
                          have e73 := hdep 5 73 (Nat.le_of_ble_eq_true rfl) rfl rfl
                          conv at e73 => rhs; whnf
                          have f73 := e73; simp only [Array.getD_eq_getD_getElem?] at f73
                          refine wpOp_plain rfl rfl (fun K hK => ?_)
                          go_simp
                          exact hK _ _ ⟨rfl, Below.refl _ _⟩
                        apply still_cons
                        · intro a' w' hLe hfr hdep
                          have e74 := hdep 6 74 (Nat.le_of_ble_eq_true rfl) rfl rfl
                          conv at e74 => rhs; whnf
                          have f74 := e74; simp only [Array.getD_eq_getD_getElem?] at f74
                          have kc := fun i => keepc hLe (w.heap.size + 1) (by (try simp) <;> omega) i
                          have kf := fun i => keepf hLe (w.heap.size + 1) (by (try simp) <;> omega) i
                          have kc := fun i => keepc hLe (w.heap.size + 1 + 1) (by (try simp) <;> omega) i
                          have kf := fun i => keepf hLe (w.heap.size + 1 + 1) (by (try simp) <;> omega) i
                          have kc := fun i => keepc hLe (bl) (by (try simp) <;> omega) i
                          have kf := fun i => keepf hLe (bl) (by (try simp) <;> omega) i
                          have kc := fun i => keepc hLe (b2) (by (try simp) <;> omega) i
                          have kf := fun i => keepf hLe (b2) (by (try simp) <;> omega) i
                          refine wpOp_plain rfl rfl (fun K hK => ?_)
                          go_simp
                          exact hK _ _ ⟨rfl, Below.refl _ _⟩
                        apply still_cons
                        · intro a' w' hLe hfr hdep
                          have e75 := hdep 7 75 (Nat.le_of_ble_eq_true rfl) rfl rfl
                          conv at e75 => rhs; whnf
                          have f75 := e75; simp only [Array.getD_eq_getD_getElem?] at f75
                          refine wpOp_plain rfl rfl (fun K hK => ?_)
                          go_simp
                          exact hK _ _ ⟨rfl, Below.refl _ _⟩
                        apply still_cons
                        · intro a' w' hLe hfr hdep
                          have e71 := hdep 3 71 (Nat.le_of_ble_eq_true rfl) rfl rfl
                          conv at e71 => rhs; whnf
                          have f71 := e71; simp only [Array.getD_eq_getD_getElem?] at f71
                          have e76 := hdep 8 76 (Nat.le_of_ble_eq_true rfl) rfl rfl
                          conv at e76 => rhs; whnf
                          have f76 := e76; simp only [Array.getD_eq_getD_getElem?] at f76
                          refine wpOp_plain rfl rfl (fun K hK => ?_)
                          go_simp
                          exact hK _ _ ⟨rfl, Below.refl _ _⟩
                        apply still_cons
                        · intro a' w' hLe hfr hdep
                          have e77 := hdep 9 77 (Nat.le_of_ble_eq_true rfl) rfl rfl
                          conv at e77 => rhs; whnf
                          have f77 := e77; simp only [Array.getD_eq_getD_getElem?] at f77
                          refine wpOp_plain rfl rfl (fun K hK => ?_)
                          go_simp
                          exact hK _ _ ⟨rfl, Below.refl _ _⟩
                        apply still_cons
                        · intro a' w' hLe hfr hdep
                          have e78 := hdep 10 78 (Nat.le_of_ble_eq_true rfl) rfl rfl
                          conv at e78 => rhs; whnf
                          have f78 := e78; simp only [Array.getD_eq_getD_getElem?] at f78
                          have e0 := hfr 0 rfl
                          conv at e0 => rhs; whnf
                          have f0 := e0; simp only [Array.getD_eq_getD_getElem?] at f0
                          refine wpOp_yes rfl rfl rfl e78 (fun K hK => ?_)
                          go_simp
                          exact hK _ _ ⟨rfl, Below.refl _ _⟩
                        apply still_cons
                        · intro a' w' hLe hfr hdep
                          have e78 := hdep 10 78 (Nat.le_of_ble_eq_true rfl) rfl rfl
                          conv at e78 => rhs; whnf
                          have f78 := e78; simp only [Array.getD_eq_getD_getElem?] at f78
                          have e10 := hfr 10 rfl
                          conv at e10 => rhs; whnf
                          have f10 := e10; simp only [Array.getD_eq_getD_getElem?] at f10
                          refine wpOp_yes rfl rfl rfl e78 (fun K hK => ?_)
                          go_simp
                          exact hK _ _ ⟨rfl, Below.refl _ _⟩
                        apply still_cons
                        · intro a' w' hLe hfr hdep
                          have e78 := hdep 10 78 (Nat.le_of_ble_eq_true rfl) rfl rfl
                          conv at e78 => rhs; whnf
                          have f78 := e78; simp only [Array.getD_eq_getD_getElem?] at f78
                          have e79 := hdep 11 79 (Nat.le_of_ble_eq_true rfl) rfl rfl
                          conv at e79 => rhs; whnf
                          have f79 := e79; simp only [Array.getD_eq_getD_getElem?] at f79
                          have e80 := hdep 12 80 (Nat.le_of_ble_eq_true rfl) rfl rfl
                          conv at e80 => rhs; whnf
                          have f80 := e80; simp only [Array.getD_eq_getD_getElem?] at f80
                          refine wpOp_yes rfl rfl rfl e78 (fun K hK => ?_)
                          go_simp
                          exact hK _ _ ⟨rfl, Below.refl _ _⟩
                        apply still_cons
                        · intro a' w' hLe hfr hdep
                          have e78 := hdep 10 78 (Nat.le_of_ble_eq_true rfl) rfl rfl
                          conv at e78 => rhs; whnf
                          have f78 := e78; simp only [Array.getD_eq_getD_getElem?] at f78
                          have e81 := hdep 13 81 (Nat.le_of_ble_eq_true rfl) rfl rfl
                          conv at e81 => rhs; whnf
                          have f81 := e81; simp only [Array.getD_eq_getD_getElem?] at f81
                          have kc := fun i => keepc hLe (w.heap.size + 1) (by (try simp) <;> omega) i
                          have kf := fun i => keepf hLe (w.heap.size + 1) (by (try simp) <;> omega) i
                          have kc := fun i => keepc hLe (w.heap.size + 1 + 1) (by (try simp) <;> omega) i
                          have kf := fun i => keepf hLe (w.heap.size + 1 + 1) (by (try simp) <;> omega) i
                          have kc := fun i => keepc hLe (bl) (by (try simp) <;> omega) i
                          have kf := fun i => keepf hLe (bl) (by (try simp) <;> omega) i
                          have kc := fun i => keepc hLe (b2) (by (try simp) <;> omega) i
                          have kf := fun i => keepf hLe (b2) (by (try simp) <;> omega) i
                          refine wpOp_yes rfl rfl rfl e78 (fun K hK => ?_)
                          go_simp
                          exact hK _ _ ⟨rfl, Below.refl _ _⟩
                        apply still_cons
                        · intro a' w' hLe hfr hdep
                          have e78 := hdep 10 78 (Nat.le_of_ble_eq_true rfl) rfl rfl
                          conv at e78 => rhs; whnf
                          have f78 := e78; simp only [Array.getD_eq_getD_getElem?] at f78
                          have e6 := hfr 6 rfl
                          conv at e6 => rhs; whnf
                          have f6 := e6; simp only [Array.getD_eq_getD_getElem?] at f6
                          refine wpOp_yes rfl rfl rfl e78 (fun K hK => ?_)
                          go_simp
                          exact hK _ _ ⟨rfl, Below.refl _ _⟩
                        apply still_cons
                        · intro a' w' hLe hfr hdep
                          have e78 := hdep 10 78 (Nat.le_of_ble_eq_true rfl) rfl rfl
                          conv at e78 => rhs; whnf
                          have f78 := e78; simp only [Array.getD_eq_getD_getElem?] at f78
                          have e10 := hfr 10 rfl
                          conv at e10 => rhs; whnf
                          have f10 := e10; simp only [Array.getD_eq_getD_getElem?] at f10
                          refine wpOp_yes rfl rfl rfl e78 (fun K hK => ?_)
                          go_simp
                          exact hK _ _ ⟨rfl, Below.refl _ _⟩
                        apply still_cons
                        · intro a' w' hLe hfr hdep
                          have e78 := hdep 10 78 (Nat.le_of_ble_eq_true rfl) rfl rfl
                          conv at e78 => rhs; whnf
                          have f78 := e78; simp only [Array.getD_eq_getD_getElem?] at f78
                          have e83 := hdep 15 83 (Nat.le_of_ble_eq_true rfl) rfl rfl
                          conv at e83 => rhs; whnf
                          have f83 := e83; simp only [Array.getD_eq_getD_getElem?] at f83
                          have e84 := hdep 16 84 (Nat.le_of_ble_eq_true rfl) rfl rfl
                          conv at e84 => rhs; whnf
                          have f84 := e84; simp only [Array.getD_eq_getD_getElem?] at f84
                          refine wpOp_yes rfl rfl rfl e78 (fun K hK => ?_)
                          go_simp
                          exact hK _ _ ⟨rfl, Below.refl _ _⟩
                        apply still_cons
                        · intro a' w' hLe hfr hdep
                          have e78 := hdep 10 78 (Nat.le_of_ble_eq_true rfl) rfl rfl
                          conv at e78 => rhs; whnf
                          have f78 := e78; simp only [Array.getD_eq_getD_getElem?] at f78
                          have e85 := hdep 17 85 (Nat.le_of_ble_eq_true rfl) rfl rfl
                          conv at e85 => rhs; whnf
                          have f85 := e85; simp only [Array.getD_eq_getD_getElem?] at f85
                          have kc := fun i => keepc hLe (w.heap.size + 1) (by (try simp) <;> omega) i
                          have kf := fun i => keepf hLe (w.heap.size + 1) (by (try simp) <;> omega) i
                          have kc := fun i => keepc hLe (w.heap.size + 1 + 1) (by (try simp) <;> omega) i
                          have kf := fun i => keepf hLe (w.heap.size + 1 + 1) (by (try simp) <;> omega) i
                          have kc := fun i => keepc hLe (bl) (by (try simp) <;> omega) i
                          have kf := fun i => keepf hLe (bl) (by (try simp) <;> omega) i
                          have kc := fun i => keepc hLe (b2) (by (try simp) <;> omega) i
                          have kf := fun i => keepf hLe (b2) (by (try simp) <;> omega) i
                          refine wpOp_yes rfl rfl rfl e78 (fun K hK => ?_)
                          go_simp
                          exact hK _ _ ⟨rfl, Below.refl _ _⟩
                        apply still_cons
                        · intro a' w' hLe hfr hdep
                          have e78 := hdep 10 78 (Nat.le_of_ble_eq_true rfl) rfl rfl
                          conv at e78 => rhs; whnf
                          have f78 := e78; simp only [Array.getD_eq_getD_getElem?] at f78
                          have e82 := hdep 14 82 (Nat.le_of_ble_eq_true rfl) rfl rfl
                          conv at e82 => rhs; whnf
                          have f82 := e82; simp only [Array.getD_eq_getD_getElem?] at f82
                          have e86 := hdep 18 86 (Nat.le_of_ble_eq_true rfl) rfl rfl
                          conv at e86 => rhs; whnf
                          have f86 := e86; simp only [Array.getD_eq_getD_getElem?] at f86
                          refine wpOp_yes rfl rfl rfl e78 (fun K hK => ?_)
                          go_simp
                          exact hK _ _ ⟨rfl, Below.refl _ _⟩
                        apply still_cons
                        · intro a' w' hLe hfr hdep
                          have e78 := hdep 10 78 (Nat.le_of_ble_eq_true rfl) rfl rfl
                          conv at e78 => rhs; whnf
                          have f78 := e78; simp only [Array.getD_eq_getD_getElem?] at f78
                          have e87 := hdep 19 87 (Nat.le_of_ble_eq_true rfl) rfl rfl
                          conv at e87 => rhs; whnf
                          have f87 := e87; simp only [Array.getD_eq_getD_getElem?] at f87
                          have kc := fun i => keepc hLe (w.heap.size + 1) (by (try simp) <;> omega) i
                          have kf := fun i => keepf hLe (w.heap.size + 1) (by (try simp) <;> omega) i
                          have kc := fun i => keepc hLe (w.heap.size + 1 + 1) (by (try simp) <;> omega) i
                          have kf := fun i => keepf hLe (w.heap.size + 1 + 1) (by (try simp) <;> omega) i
                          have kc := fun i => keepc hLe (bl) (by (try simp) <;> omega) i
                          have kf := fun i => keepf hLe (bl) (by (try simp) <;> omega) i
                          have kc := fun i => keepc hLe (b2) (by (try simp) <;> omega) i
                          have kf := fun i => keepf hLe (b2) (by (try simp) <;> omega) i
                          refine wpOp_yes rfl rfl rfl e78 (fun K hK => ?_)
                          go_simp
                          exact hK _ _ ⟨rfl, Below.refl _ _⟩
                        apply still_cons
                        · intro a' w' hLe hfr hdep
                          have e78 := hdep 10 78 (Nat.le_of_ble_eq_true rfl) rfl rfl
                          conv at e78 => rhs; whnf
                          have f78 := e78; simp only [Array.getD_eq_getD_getElem?] at f78
                          have e7 := hfr 7 rfl
                          conv at e7 => rhs; whnf
                          have f7 := e7; simp only [Array.getD_eq_getD_getElem?] at f7
                          refine wpOp_yes rfl rfl rfl e78 (fun K hK => ?_)
                          go_simp
                          exact hK _ _ ⟨rfl, Below.refl _ _⟩
                        apply still_cons
                        · intro a' w' hLe hfr hdep
                          have e78 := hdep 10 78 (Nat.le_of_ble_eq_true rfl) rfl rfl
                          conv at e78 => rhs; whnf
                          have f78 := e78; simp only [Array.getD_eq_getD_getElem?] at f78
                          have e10 := hfr 10 rfl
                          conv at e10 => rhs; whnf
                          have f10 := e10; simp only [Array.getD_eq_getD_getElem?] at f10
                          refine wpOp_yes rfl rfl rfl e78 (fun K hK => ?_)
                          go_simp
                          exact hK _ _ ⟨rfl, Below.refl _ _⟩
                        apply still_cons
                        · intro a' w' hLe hfr hdep
                          have e78 := hdep 10 78 (Nat.le_of_ble_eq_true rfl) rfl rfl
                          conv at e78 => rhs; whnf
                          have f78 := e78; simp only [Array.getD_eq_getD_getElem?] at f78
                          have e89 := hdep 21 89 (Nat.le_of_ble_eq_true rfl) rfl rfl
                          conv at e89 => rhs; whnf
                          have f89 := e89; simp only [Array.getD_eq_getD_getElem?] at f89
                          have e90 := hdep 22 90 (Nat.le_of_ble_eq_true rfl) rfl rfl
                          conv at e90 => rhs; whnf
                          have f90 := e90; simp only [Array.getD_eq_getD_getElem?] at f90
                          refine wpOp_yes rfl rfl rfl e78 (fun K hK => ?_)
                          go_simp
                          exact hK _ _ ⟨rfl, Below.refl _ _⟩
                        apply still_cons
                        · intro a' w' hLe hfr hdep
                          have e78 := hdep 10 78 (Nat.le_of_ble_eq_true rfl) rfl rfl
                          conv at e78 => rhs; whnf
                          have f78 := e78; simp only [Array.getD_eq_getD_getElem?] at f78
                          have e91 := hdep 23 91 (Nat.le_of_ble_eq_true rfl) rfl rfl
                          conv at e91 => rhs; whnf
                          have f91 := e91; simp only [Array.getD_eq_getD_getElem?] at f91
                          have kc := fun i => keepc hLe (w.heap.size + 1) (by (try simp) <;> omega) i
                          have kf := fun i => keepf hLe (w.heap.size + 1) (by (try simp) <;> omega) i
                          have kc := fun i => keepc hLe (w.heap.size + 1 + 1) (by (try simp) <;> omega) i
                          have kf := fun i => keepf hLe (w.heap.size + 1 + 1) (by (try simp) <;> omega) i
                          have kc := fun i => keepc hLe (bl) (by (try simp) <;> omega) i
                          have kf := fun i => keepf hLe (bl) (by (try simp) <;> omega) i
                          have kc := fun i => keepc hLe (b2) (by (try simp) <;> omega) i
                          have kf := fun i => keepf hLe (b2) (by (try simp) <;> omega) i
                          refine wpOp_yes rfl rfl rfl e78 (fun K hK => ?_)
                          go_simp
                          exact hK _ _ ⟨rfl, Below.refl _ _⟩
                        apply still_cons
                        · intro a' w' hLe hfr hdep
                          have e78 := hdep 10 78 (Nat.le_of_ble_eq_true rfl) rfl rfl
                          conv at e78 => rhs; whnf
                          have f78 := e78; simp only [Array.getD_eq_getD_getElem?] at f78
                          have e88 := hdep 20 88 (Nat.le_of_ble_eq_true rfl) rfl rfl
                          conv at e88 => rhs; whnf
                          have f88 := e88; simp only [Array.getD_eq_getD_getElem?] at f88
                          have e92 := hdep 24 92 (Nat.le_of_ble_eq_true rfl) rfl rfl
                          conv at e92 => rhs; whnf
                          have f92 := e92; simp only [Array.getD_eq_getD_getElem?] at f92
                          refine wpOp_yes rfl rfl rfl e78 (fun K hK => ?_)
                          go_simp
                          exact hK _ _ ⟨rfl, Below.refl _ _⟩
                        apply still_cons
                        · intro a' w' hLe hfr hdep
                          have e78 := hdep 10 78 (Nat.le_of_ble_eq_true rfl) rfl rfl
                          conv at e78 => rhs; whnf
                          have f78 := e78; simp only [Array.getD_eq_getD_getElem?] at f78
                          have e93 := hdep 25 93 (Nat.le_of_ble_eq_true rfl) rfl rfl
                          conv at e93 => rhs; whnf
                          have f93 := e93; simp only [Array.getD_eq_getD_getElem?] at f93
                          refine wpOp_plain rfl rfl (fun K hK => ?_)
                          go_simp
                          exact hK _ _ ⟨rfl, Below.refl _ _⟩
                        apply still_nil
                        intro w18 hb18
                        simp only [putAll, List.drop_succ_cons, List.drop_zero]
                        go_simp
                        have hQ18 := hQi.next hb18
                        have hB18 := Below.tr hBi hb18
                        have z1 : w18.cell? ⟨b2, o2 + p, none⟩ = some (.int .i64 (q j p)) := (keepc hb18 b2 hb2l _).trans z0
                        have hs18 := hb18.size
                        clear p0 h0 fp fh z0 q0 hQi hBi hb18
                        have q0 := Q0.out _ hB18
                        obtain ⟨p0, h0, fp, fh⟩ := hQ18.cells hjn
                        rw [upd_same] at p0 h0
                        have e19 : IntKind.i64.wrap (x - q j p) = x - q j p := IntWalk.i64_in _ (by omega)
                        have e20 : IntKind.i64.wrap ((p : Int) + 1) = (p : Int) + 1 := IntWalk.i64_in _ (by omega)
                        go_upto_region 18 with (fail)
                        refine wp_region_still (ds := [(0, 95), (1, 96), (2, 97), (3, 98), (4, 99), (5, 100), (6, 101), (7, 102), (8, 103), (9, 104), (10, 105), (11, 106), (12, 107), (13, 108), (14, 109), (15, 110), (16, 111), (17, 112)]) 18 (by kernel_rfl) (by kernel_rfl) (by first | exact .inl rfl | exact .inr (by kernel_rfl)) (by rfl) rfl rfl ?_
                        apply still_cons
                        · intro a' w' hLe hfr hdep
                          have e7 := hfr 7 rfl
                          conv at e7 => rhs; whnf
                          have f7 := e7; simp only [Array.getD_eq_getD_getElem?] at f7
                          refine wpOp_plain rfl rfl (fun K hK => ?_)
                          go_simp
                          exact hK _ _ ⟨rfl, Below.refl _ _⟩
                        apply still_cons
                        · intro a' w' hLe hfr hdep
                          have e10 := hfr 10 rfl
                          conv at e10 => rhs; whnf
                          have f10 := e10; simp only [Array.getD_eq_getD_getElem?] at f10
                          refine wpOp_plain rfl rfl (fun K hK => ?_)
                          go_simp
                          exact hK _ _ ⟨rfl, Below.refl _ _⟩
                        apply still_cons
                        · intro a' w' hLe hfr hdep
                          have e7 := hfr 7 rfl
                          conv at e7 => rhs; whnf
                          have f7 := e7; simp only [Array.getD_eq_getD_getElem?] at f7
                          refine wpOp_plain rfl rfl (fun K hK => ?_)
                          go_simp
                          exact hK _ _ ⟨rfl, Below.refl _ _⟩
                        apply still_cons
                        · intro a' w' hLe hfr hdep
                          have e10 := hfr 10 rfl
                          conv at e10 => rhs; whnf
                          have f10 := e10; simp only [Array.getD_eq_getD_getElem?] at f10
                          refine wpOp_plain rfl rfl (fun K hK => ?_)
                          go_simp
                          exact hK _ _ ⟨rfl, Below.refl _ _⟩
                        apply still_cons
                        · intro a' w' hLe hfr hdep
                          have e97 := hdep 2 97 (Nat.le_of_ble_eq_true rfl) rfl rfl
                          conv at e97 => rhs; whnf
                          have f97 := e97; simp only [Array.getD_eq_getD_getElem?] at f97
                          have e98 := hdep 3 98 (Nat.le_of_ble_eq_true rfl) rfl rfl
                          conv at e98 => rhs; whnf
                          have f98 := e98; simp only [Array.getD_eq_getD_getElem?] at f98
                          refine wpOp_plain rfl rfl (fun K hK => ?_)
                          go_simp
                          exact hK _ _ ⟨rfl, Below.refl _ _⟩
                        apply still_cons
                        · intro a' w' hLe hfr hdep
                          have e99 := hdep 4 99 (Nat.le_of_ble_eq_true rfl) rfl rfl
                          conv at e99 => rhs; whnf
                          have f99 := e99; simp only [Array.getD_eq_getD_getElem?] at f99
                          have kc := fun i => keepc hLe (w.heap.size + 1) (by (try simp) <;> omega) i
                          have kf := fun i => keepf hLe (w.heap.size + 1) (by (try simp) <;> omega) i
                          have kc := fun i => keepc hLe (w.heap.size + 1 + 1) (by (try simp) <;> omega) i
                          have kf := fun i => keepf hLe (w.heap.size + 1 + 1) (by (try simp) <;> omega) i
                          have kc := fun i => keepc hLe (bl) (by (try simp) <;> omega) i
                          have kf := fun i => keepf hLe (bl) (by (try simp) <;> omega) i
                          have kc := fun i => keepc hLe (b2) (by (try simp) <;> omega) i
                          have kf := fun i => keepf hLe (b2) (by (try simp) <;> omega) i
                          refine wpOp_plain rfl rfl (fun K hK => ?_)
                          go_simp
                          exact hK _ _ ⟨rfl, Below.refl _ _⟩
                        apply still_cons
                        · intro a' w' hLe hfr hdep
                          have e0 := hfr 0 rfl
                          conv at e0 => rhs; whnf
                          have f0 := e0; simp only [Array.getD_eq_getD_getElem?] at f0
                          refine wpOp_plain rfl rfl (fun K hK => ?_)
                          go_simp
                          exact hK _ _ ⟨rfl, Below.refl _ _⟩
                        apply still_cons
                        · intro a' w' hLe hfr hdep
                          have e10 := hfr 10 rfl
                          conv at e10 => rhs; whnf
                          have f10 := e10; simp only [Array.getD_eq_getD_getElem?] at f10
                          refine wpOp_plain rfl rfl (fun K hK => ?_)
                          go_simp
                          exact hK _ _ ⟨rfl, Below.refl _ _⟩
                        apply still_cons
                        · intro a' w' hLe hfr hdep
                          have e101 := hdep 6 101 (Nat.le_of_ble_eq_true rfl) rfl rfl
                          conv at e101 => rhs; whnf
                          have f101 := e101; simp only [Array.getD_eq_getD_getElem?] at f101
                          have e102 := hdep 7 102 (Nat.le_of_ble_eq_true rfl) rfl rfl
                          conv at e102 => rhs; whnf
                          have f102 := e102; simp only [Array.getD_eq_getD_getElem?] at f102
                          refine wpOp_plain rfl rfl (fun K hK => ?_)
                          go_simp
                          exact hK _ _ ⟨rfl, Below.refl _ _⟩
                        apply still_cons
                        · intro a' w' hLe hfr hdep
                          have e103 := hdep 8 103 (Nat.le_of_ble_eq_true rfl) rfl rfl
                          conv at e103 => rhs; whnf
                          have f103 := e103; simp only [Array.getD_eq_getD_getElem?] at f103
                          have kc := fun i => keepc hLe (w.heap.size + 1) (by (try simp) <;> omega) i
                          have kf := fun i => keepf hLe (w.heap.size + 1) (by (try simp) <;> omega) i
                          have kc := fun i => keepc hLe (w.heap.size + 1 + 1) (by (try simp) <;> omega) i
                          have kf := fun i => keepf hLe (w.heap.size + 1 + 1) (by (try simp) <;> omega) i
                          have kc := fun i => keepc hLe (bl) (by (try simp) <;> omega) i
                          have kf := fun i => keepf hLe (bl) (by (try simp) <;> omega) i
                          have kc := fun i => keepc hLe (b2) (by (try simp) <;> omega) i
                          have kf := fun i => keepf hLe (b2) (by (try simp) <;> omega) i
                          refine wpOp_plain rfl rfl (fun K hK => ?_)
                          go_simp
                          exact hK _ _ ⟨rfl, Below.refl _ _⟩
                        apply still_cons
                        · intro a' w' hLe hfr hdep
                          have e6 := hfr 6 rfl
                          conv at e6 => rhs; whnf
                          have f6 := e6; simp only [Array.getD_eq_getD_getElem?] at f6
                          refine wpOp_plain rfl rfl (fun K hK => ?_)
                          go_simp
                          exact hK _ _ ⟨rfl, Below.refl _ _⟩
                        apply still_cons
                        · intro a' w' hLe hfr hdep
                          have e10 := hfr 10 rfl
                          conv at e10 => rhs; whnf
                          have f10 := e10; simp only [Array.getD_eq_getD_getElem?] at f10
                          refine wpOp_plain rfl rfl (fun K hK => ?_)
                          go_simp
                          exact hK _ _ ⟨rfl, Below.refl _ _⟩
                        apply still_cons
                        · intro a' w' hLe hfr hdep
                          have e105 := hdep 10 105 (Nat.le_of_ble_eq_true rfl) rfl rfl
                          conv at e105 => rhs; whnf
                          have f105 := e105; simp only [Array.getD_eq_getD_getElem?] at f105
                          have e106 := hdep 11 106 (Nat.le_of_ble_eq_true rfl) rfl rfl
                          conv at e106 => rhs; whnf
                          have f106 := e106; simp only [Array.getD_eq_getD_getElem?] at f106
                          refine wpOp_plain rfl rfl (fun K hK => ?_)
                          go_simp
                          exact hK _ _ ⟨rfl, Below.refl _ _⟩
                        apply still_cons
                        · intro a' w' hLe hfr hdep
                          have e107 := hdep 12 107 (Nat.le_of_ble_eq_true rfl) rfl rfl
                          conv at e107 => rhs; whnf
                          have f107 := e107; simp only [Array.getD_eq_getD_getElem?] at f107
                          have kc := fun i => keepc hLe (w.heap.size + 1) (by (try simp) <;> omega) i
                          have kf := fun i => keepf hLe (w.heap.size + 1) (by (try simp) <;> omega) i
                          have kc := fun i => keepc hLe (w.heap.size + 1 + 1) (by (try simp) <;> omega) i
                          have kf := fun i => keepf hLe (w.heap.size + 1 + 1) (by (try simp) <;> omega) i
                          have kc := fun i => keepc hLe (bl) (by (try simp) <;> omega) i
                          have kf := fun i => keepf hLe (bl) (by (try simp) <;> omega) i
                          have kc := fun i => keepc hLe (b2) (by (try simp) <;> omega) i
                          have kf := fun i => keepf hLe (b2) (by (try simp) <;> omega) i
                          refine wpOp_plain rfl rfl (fun K hK => ?_)
                          go_simp
                          exact hK _ _ ⟨rfl, Below.refl _ _⟩
                        apply still_cons
                        · intro a' w' hLe hfr hdep
                          have e104 := hdep 9 104 (Nat.le_of_ble_eq_true rfl) rfl rfl
                          conv at e104 => rhs; whnf
                          have f104 := e104; simp only [Array.getD_eq_getD_getElem?] at f104
                          have e108 := hdep 13 108 (Nat.le_of_ble_eq_true rfl) rfl rfl
                          conv at e108 => rhs; whnf
                          have f108 := e108; simp only [Array.getD_eq_getD_getElem?] at f108
                          refine wpOp_plain rfl rfl (fun K hK => ?_)
                          go_simp
                          exact hK _ _ ⟨rfl, Below.refl _ _⟩
                        apply still_cons
                        · intro a' w' hLe hfr hdep
                          have e109 := hdep 14 109 (Nat.le_of_ble_eq_true rfl) rfl rfl
                          conv at e109 => rhs; whnf
                          have f109 := e109; simp only [Array.getD_eq_getD_getElem?] at f109
                          have kc := fun i => keepc hLe (w.heap.size + 1) (by (try simp) <;> omega) i
                          have kf := fun i => keepf hLe (w.heap.size + 1) (by (try simp) <;> omega) i
                          have kc := fun i => keepc hLe (w.heap.size + 1 + 1) (by (try simp) <;> omega) i
                          have kf := fun i => keepf hLe (w.heap.size + 1 + 1) (by (try simp) <;> omega) i
                          have kc := fun i => keepc hLe (bl) (by (try simp) <;> omega) i
                          have kf := fun i => keepf hLe (bl) (by (try simp) <;> omega) i
                          have kc := fun i => keepc hLe (b2) (by (try simp) <;> omega) i
                          have kf := fun i => keepf hLe (b2) (by (try simp) <;> omega) i
                          refine wpOp_plain rfl rfl (fun K hK => ?_)
                          go_simp
                          exact hK _ _ ⟨rfl, Below.refl _ _⟩
                        apply still_cons
                        · intro a' w' hLe hfr hdep
                          have e100 := hdep 5 100 (Nat.le_of_ble_eq_true rfl) rfl rfl
                          conv at e100 => rhs; whnf
                          have f100 := e100; simp only [Array.getD_eq_getD_getElem?] at f100
                          have e110 := hdep 15 110 (Nat.le_of_ble_eq_true rfl) rfl rfl
                          conv at e110 => rhs; whnf
                          have f110 := e110; simp only [Array.getD_eq_getD_getElem?] at f110
                          refine wpOp_plain rfl rfl (fun K hK => ?_)
                          go_simp
                          exact hK _ _ ⟨rfl, Below.refl _ _⟩
                        apply still_cons
                        · intro a' w' hLe hfr hdep
                          have e95 := hdep 0 95 (Nat.le_of_ble_eq_true rfl) rfl rfl
                          conv at e95 => rhs; whnf
                          have f95 := e95; simp only [Array.getD_eq_getD_getElem?] at f95
                          have e96 := hdep 1 96 (Nat.le_of_ble_eq_true rfl) rfl rfl
                          conv at e96 => rhs; whnf
                          have f96 := e96; simp only [Array.getD_eq_getD_getElem?] at f96
                          refine wpOp_plain rfl rfl (fun K hK => ?_)
                          go_simp
                          exact hK _ _ ⟨rfl, Below.refl _ _⟩
                        apply still_nil
                        intro w19 hb19
                        simp only [putAll, List.drop_succ_cons, List.drop_zero]
                        go_simp
                        have hQ19 := hQ18.next hb19
                        have hB19 := Below.tr hB18 hb19
                        have hs19 := hb19.size
                        clear p0 h0 fp fh z1 q0 hQ18 hB18 hb19
                        obtain ⟨p0, h0, fp, fh⟩ := hQ19.cells hjn
                        rw [upd_same] at p0 h0
                        have hQs := hQ19.setH (show w.heap.size + 1 ≠ w.heap.size + 1 + 1 by omega) j (x - q j p)
                        have hBs : Below w.heap.size w (w19.setCell ⟨w.heap.size + 1 + 1, j, none⟩ (.int .i64 (x - q j p))) := Below.st hB19 (by simp; omega) _
                        have HQs := Lib.hid hQs
                        have HBs := Lib.hid hBs
                        clear hQs hBs hQ19 hB19
                        go_upto_region 20 with (at_builtin; refine wpList_push rfl (.tmp 113) (.tmp 120) 35 rfl 39 _ 2 16 Try.underlying35 info_sent2 (by decide) (by decide) (by decide) rfl ((HQs.out.next (Below.al (Below.refl _ _) _)).acc (j, p)) rfl (heap_set_new _ _ _ _) (by rw [outR_last]) (outR_one _ _) (by omega) (by simp [World.setCell] <;> omega) ?_; intro v' w20 hA20 hB20 hg20)
                        have hQ20 := (HQs.out.next (Below.al (Below.refl _ _) _)).push hg20 hA20
                        obtain ⟨p20, _, fp20, _⟩ := hQ20.cells hjn
                        rw [upd_same] at p20
                        have hgp20 := hQ20.lt.1
                        clear p0 h0 fp fh
                        refine wp_region_still (ds := [(0, 122), (1, 123), (2, 124), (3, 125), (4, 126), (5, 127), (6, 128), (7, 129)]) 8 (by kernel_rfl) (by kernel_rfl) (by first | exact .inl rfl | exact .inr (by kernel_rfl)) (by rfl) rfl rfl ?_
                        apply still_cons
                        · intro a' w' hLe hfr hdep
                          have e6 := hfr 6 rfl
                          conv at e6 => rhs; whnf
                          have f6 := e6; simp only [Array.getD_eq_getD_getElem?] at f6
                          refine wpOp_plain rfl rfl (fun K hK => ?_)
                          go_simp
                          exact hK _ _ ⟨rfl, Below.refl _ _⟩
                        apply still_cons
                        · intro a' w' hLe hfr hdep
                          have e10 := hfr 10 rfl
                          conv at e10 => rhs; whnf
                          have f10 := e10; simp only [Array.getD_eq_getD_getElem?] at f10
                          refine wpOp_plain rfl rfl (fun K hK => ?_)
                          go_simp
                          exact hK _ _ ⟨rfl, Below.refl _ _⟩
                        apply still_cons
                        · intro a' w' hLe hfr hdep
                          have e6 := hfr 6 rfl
                          conv at e6 => rhs; whnf
                          have f6 := e6; simp only [Array.getD_eq_getD_getElem?] at f6
                          refine wpOp_plain rfl rfl (fun K hK => ?_)
                          go_simp
                          exact hK _ _ ⟨rfl, Below.refl _ _⟩
                        apply still_cons
                        · intro a' w' hLe hfr hdep
                          have e10 := hfr 10 rfl
                          conv at e10 => rhs; whnf
                          have f10 := e10; simp only [Array.getD_eq_getD_getElem?] at f10
                          refine wpOp_plain rfl rfl (fun K hK => ?_)
                          go_simp
                          exact hK _ _ ⟨rfl, Below.refl _ _⟩
                        apply still_cons
                        · intro a' w' hLe hfr hdep
                          have e124 := hdep 2 124 (Nat.le_of_ble_eq_true rfl) rfl rfl
                          conv at e124 => rhs; whnf
                          have f124 := e124; simp only [Array.getD_eq_getD_getElem?] at f124
                          have e125 := hdep 3 125 (Nat.le_of_ble_eq_true rfl) rfl rfl
                          conv at e125 => rhs; whnf
                          have f125 := e125; simp only [Array.getD_eq_getD_getElem?] at f125
                          refine wpOp_plain rfl rfl (fun K hK => ?_)
                          go_simp
                          exact hK _ _ ⟨rfl, Below.refl _ _⟩
                        apply still_cons
                        · intro a' w' hLe hfr hdep
                          have e126 := hdep 4 126 (Nat.le_of_ble_eq_true rfl) rfl rfl
                          conv at e126 => rhs; whnf
                          have f126 := e126; simp only [Array.getD_eq_getD_getElem?] at f126
                          have kc := fun i => keepc hLe (w.heap.size + 1) (by (try simp) <;> omega) i
                          have kf := fun i => keepf hLe (w.heap.size + 1) (by (try simp) <;> omega) i
                          refine wpOp_plain rfl rfl (fun K hK => ?_)
                          go_simp
                          exact hK _ _ ⟨rfl, Below.refl _ _⟩
                        apply still_cons
                        · intro a' w' hLe hfr hdep
                          have e127 := hdep 5 127 (Nat.le_of_ble_eq_true rfl) rfl rfl
                          conv at e127 => rhs; whnf
                          have f127 := e127; simp only [Array.getD_eq_getD_getElem?] at f127
                          refine wpOp_plain rfl rfl (fun K hK => ?_)
                          go_simp
                          exact hK _ _ ⟨rfl, Below.refl _ _⟩
                        apply still_cons
                        · intro a' w' hLe hfr hdep
                          have e122 := hdep 0 122 (Nat.le_of_ble_eq_true rfl) rfl rfl
                          conv at e122 => rhs; whnf
                          have f122 := e122; simp only [Array.getD_eq_getD_getElem?] at f122
                          have e123 := hdep 1 123 (Nat.le_of_ble_eq_true rfl) rfl rfl
                          conv at e123 => rhs; whnf
                          have f123 := e123; simp only [Array.getD_eq_getD_getElem?] at f123
                          refine wpOp_plain rfl rfl (fun K hK => ?_)
                          go_simp
                          exact hK _ _ ⟨rfl, Below.refl _ _⟩
                        apply still_nil
                        intro w21 hb21
                        simp only [putAll, List.drop_succ_cons, List.drop_zero]
                        go_simp
                        have hQ21 := hQ20.next hb21
                        obtain ⟨p21, _, fp21, _⟩ := hQ21.cells hjn
                        rw [upd_same] at p21
                        have hQ22 := Lib.hid (hQ21.setP (show w.heap.size + 1 ≠ w.heap.size + 1 + 1 by omega) j (p + 1))
                        have hB21 := Below.tr ((Below.al HBs.out _).trans hB20) hb21
                        clear hQ20 hA20 p20 fp20 hb21 hg20 hB20 hQ21
                        go_wp2
                        go_roundg (qn j - (p + 1))
                        case measure => have := HGK.out; omega
                        case rel =>
                          have hQ23 := hQ22.out
                          rw [Int.natCast_add] at hQ23
                          refine ⟨p + 1, x - q j p, o ++ [(j, p)], by have := HGK.out; omega, by omega, by omega, by omega, by have := HOL.out; simp; omega, HT3.out, hQ23.congr (upd_upd _ _ _ _) (upd_upd _ _ _ _), ?_⟩
                          exact Below.st hB21 (by simp) _
                      · have hd1 : decide (q j p ≤ x) = false := by simpa using hX
                        have hd2 : decide ((p : Int) < (qn j : Int)) = true := by simp; omega
                        have hst := Lib.hid (hst2.out HPE.out p x o HT2.out (fun h => hX h.2))
                        go_upto_region 17 with (fail)
                        refine wp_region_still (ds := [(0, 68), (1, 69), (2, 70), (3, 71), (4, 72), (5, 73), (6, 74), (7, 75), (8, 76), (9, 77), (10, 78), (11, 79), (12, 80), (13, 81), (14, 82), (15, 83), (16, 84), (17, 85), (18, 86), (19, 87), (20, 88), (21, 89), (22, 90), (23, 91), (24, 92), (25, 93), (26, 94)]) 27 (by kernel_rfl) (by kernel_rfl) (by first | exact .inl rfl | exact .inr (by kernel_rfl)) (by rfl) rfl rfl ?_
                        apply still_cons
                        · intro a' w' hLe hfr hdep
                          have e6 := hfr 6 rfl
                          conv at e6 => rhs; whnf
                          have f6 := e6; simp only [Array.getD_eq_getD_getElem?] at f6
                          refine wpOp_plain rfl rfl (fun K hK => ?_)
                          go_simp
                          exact hK _ _ ⟨rfl, Below.refl _ _⟩
                        apply still_cons
                        · intro a' w' hLe hfr hdep
                          have e10 := hfr 10 rfl
                          conv at e10 => rhs; whnf
                          have f10 := e10; simp only [Array.getD_eq_getD_getElem?] at f10
                          refine wpOp_plain rfl rfl (fun K hK => ?_)
                          go_simp
                          exact hK _ _ ⟨rfl, Below.refl _ _⟩
                        apply still_cons
                        · intro a' w' hLe hfr hdep
                          have e68 := hdep 0 68 (Nat.le_of_ble_eq_true rfl) rfl rfl
                          conv at e68 => rhs; whnf
                          have f68 := e68; simp only [Array.getD_eq_getD_getElem?] at f68
                          have e69 := hdep 1 69 (Nat.le_of_ble_eq_true rfl) rfl rfl
                          conv at e69 => rhs; whnf
                          have f69 := e69; simp only [Array.getD_eq_getD_getElem?] at f69
                          refine wpOp_plain rfl rfl (fun K hK => ?_)
                          go_simp
                          exact hK _ _ ⟨rfl, Below.refl _ _⟩
                        apply still_cons
                        · intro a' w' hLe hfr hdep
                          have e70 := hdep 2 70 (Nat.le_of_ble_eq_true rfl) rfl rfl
                          conv at e70 => rhs; whnf
                          have f70 := e70; simp only [Array.getD_eq_getD_getElem?] at f70
                          have kc := fun i => keepc hLe (w.heap.size + 1) (by (try simp) <;> omega) i
                          have kf := fun i => keepf hLe (w.heap.size + 1) (by (try simp) <;> omega) i
                          have kc := fun i => keepc hLe (w.heap.size + 1 + 1) (by (try simp) <;> omega) i
                          have kf := fun i => keepf hLe (w.heap.size + 1 + 1) (by (try simp) <;> omega) i
                          have kc := fun i => keepc hLe (bl) (by (try simp) <;> omega) i
                          have kf := fun i => keepf hLe (bl) (by (try simp) <;> omega) i
                          have kc := fun i => keepc hLe (b2) (by (try simp) <;> omega) i
                          have kf := fun i => keepf hLe (b2) (by (try simp) <;> omega) i
                          refine wpOp_plain rfl rfl (fun K hK => ?_)
                          go_simp
                          exact hK _ _ ⟨rfl, Below.refl _ _⟩
                        apply still_cons
                        · intro a' w' hLe hfr hdep
                          have e0 := hfr 0 rfl
                          conv at e0 => rhs; whnf
                          have f0 := e0; simp only [Array.getD_eq_getD_getElem?] at f0
                          refine wpOp_plain rfl rfl (fun K hK => ?_)
                          go_simp
                          exact hK _ _ ⟨rfl, Below.refl _ _⟩
                        apply still_cons
                        · intro a' w' hLe hfr hdep
                          have e10 := hfr 10 rfl
                          conv at e10 => rhs; whnf
                          have f10 := e10; simp only [Array.getD_eq_getD_getElem?] at f10
                          refine wpOp_plain rfl rfl (fun K hK => ?_)
                          go_simp
                          exact hK _ _ ⟨rfl, Below.refl _ _⟩
                        apply still_cons
                        · intro a' w' hLe hfr hdep
                          have e72 := hdep 4 72 (Nat.le_of_ble_eq_true rfl) rfl rfl
                          conv at e72 => rhs; whnf
                          have f72 := e72; simp only [Array.getD_eq_getD_getElem?] at f72
                          have e73 := hdep 5 73 (Nat.le_of_ble_eq_true rfl) rfl rfl
                          conv at e73 => rhs; whnf
                          have f73 := e73; simp only [Array.getD_eq_getD_getElem?] at f73
                          refine wpOp_plain rfl rfl (fun K hK => ?_)
                          go_simp
                          exact hK _ _ ⟨rfl, Below.refl _ _⟩
                        apply still_cons
                        · intro a' w' hLe hfr hdep
                          have e74 := hdep 6 74 (Nat.le_of_ble_eq_true rfl) rfl rfl
                          conv at e74 => rhs; whnf
                          have f74 := e74; simp only [Array.getD_eq_getD_getElem?] at f74
                          have kc := fun i => keepc hLe (w.heap.size + 1) (by (try simp) <;> omega) i
                          have kf := fun i => keepf hLe (w.heap.size + 1) (by (try simp) <;> omega) i
                          have kc := fun i => keepc hLe (w.heap.size + 1 + 1) (by (try simp) <;> omega) i
                          have kf := fun i => keepf hLe (w.heap.size + 1 + 1) (by (try simp) <;> omega) i
                          have kc := fun i => keepc hLe (bl) (by (try simp) <;> omega) i
                          have kf := fun i => keepf hLe (bl) (by (try simp) <;> omega) i
                          have kc := fun i => keepc hLe (b2) (by (try simp) <;> omega) i
                          have kf := fun i => keepf hLe (b2) (by (try simp) <;> omega) i
                          refine wpOp_plain rfl rfl (fun K hK => ?_)
                          go_simp
                          exact hK _ _ ⟨rfl, Below.refl _ _⟩
                        apply still_cons
                        · intro a' w' hLe hfr hdep
                          have e75 := hdep 7 75 (Nat.le_of_ble_eq_true rfl) rfl rfl
                          conv at e75 => rhs; whnf
                          have f75 := e75; simp only [Array.getD_eq_getD_getElem?] at f75
                          refine wpOp_plain rfl rfl (fun K hK => ?_)
                          go_simp
                          exact hK _ _ ⟨rfl, Below.refl _ _⟩
                        apply still_cons
                        · intro a' w' hLe hfr hdep
                          have e71 := hdep 3 71 (Nat.le_of_ble_eq_true rfl) rfl rfl
                          conv at e71 => rhs; whnf
                          have f71 := e71; simp only [Array.getD_eq_getD_getElem?] at f71
                          have e76 := hdep 8 76 (Nat.le_of_ble_eq_true rfl) rfl rfl
                          conv at e76 => rhs; whnf
                          have f76 := e76; simp only [Array.getD_eq_getD_getElem?] at f76
                          refine wpOp_plain rfl rfl (fun K hK => ?_)
                          go_simp
                          exact hK _ _ ⟨rfl, Below.refl _ _⟩
                        apply still_cons
                        · intro a' w' hLe hfr hdep
                          have e77 := hdep 9 77 (Nat.le_of_ble_eq_true rfl) rfl rfl
                          conv at e77 => rhs; whnf
                          have f77 := e77; simp only [Array.getD_eq_getD_getElem?] at f77
                          refine wpOp_plain rfl rfl (fun K hK => ?_)
                          go_simp
                          exact hK _ _ ⟨rfl, Below.refl _ _⟩
                        apply still_cons
                        · intro a' w' hLe hfr hdep
                          have e78 := hdep 10 78 (Nat.le_of_ble_eq_true rfl) rfl rfl
                          conv at e78 => rhs; whnf
                          have f78 := e78; simp only [Array.getD_eq_getD_getElem?] at f78
                          have e0 := hfr 0 rfl
                          conv at e0 => rhs; whnf
                          have f0 := e0; simp only [Array.getD_eq_getD_getElem?] at f0
                          refine wpOp_yes rfl rfl rfl e78 (fun K hK => ?_)
                          go_simp
                          exact hK _ _ ⟨rfl, Below.refl _ _⟩
                        apply still_cons
                        · intro a' w' hLe hfr hdep
                          have e78 := hdep 10 78 (Nat.le_of_ble_eq_true rfl) rfl rfl
                          conv at e78 => rhs; whnf
                          have f78 := e78; simp only [Array.getD_eq_getD_getElem?] at f78
                          have e10 := hfr 10 rfl
                          conv at e10 => rhs; whnf
                          have f10 := e10; simp only [Array.getD_eq_getD_getElem?] at f10
                          refine wpOp_yes rfl rfl rfl e78 (fun K hK => ?_)
                          go_simp
                          exact hK _ _ ⟨rfl, Below.refl _ _⟩
                        apply still_cons
                        · intro a' w' hLe hfr hdep
                          have e78 := hdep 10 78 (Nat.le_of_ble_eq_true rfl) rfl rfl
                          conv at e78 => rhs; whnf
                          have f78 := e78; simp only [Array.getD_eq_getD_getElem?] at f78
                          have e79 := hdep 11 79 (Nat.le_of_ble_eq_true rfl) rfl rfl
                          conv at e79 => rhs; whnf
                          have f79 := e79; simp only [Array.getD_eq_getD_getElem?] at f79
                          have e80 := hdep 12 80 (Nat.le_of_ble_eq_true rfl) rfl rfl
                          conv at e80 => rhs; whnf
                          have f80 := e80; simp only [Array.getD_eq_getD_getElem?] at f80
                          refine wpOp_yes rfl rfl rfl e78 (fun K hK => ?_)
                          go_simp
                          exact hK _ _ ⟨rfl, Below.refl _ _⟩
                        apply still_cons
                        · intro a' w' hLe hfr hdep
                          have e78 := hdep 10 78 (Nat.le_of_ble_eq_true rfl) rfl rfl
                          conv at e78 => rhs; whnf
                          have f78 := e78; simp only [Array.getD_eq_getD_getElem?] at f78
                          have e81 := hdep 13 81 (Nat.le_of_ble_eq_true rfl) rfl rfl
                          conv at e81 => rhs; whnf
                          have f81 := e81; simp only [Array.getD_eq_getD_getElem?] at f81
                          have kc := fun i => keepc hLe (w.heap.size + 1) (by (try simp) <;> omega) i
                          have kf := fun i => keepf hLe (w.heap.size + 1) (by (try simp) <;> omega) i
                          have kc := fun i => keepc hLe (w.heap.size + 1 + 1) (by (try simp) <;> omega) i
                          have kf := fun i => keepf hLe (w.heap.size + 1 + 1) (by (try simp) <;> omega) i
                          have kc := fun i => keepc hLe (bl) (by (try simp) <;> omega) i
                          have kf := fun i => keepf hLe (bl) (by (try simp) <;> omega) i
                          have kc := fun i => keepc hLe (b2) (by (try simp) <;> omega) i
                          have kf := fun i => keepf hLe (b2) (by (try simp) <;> omega) i
                          refine wpOp_yes rfl rfl rfl e78 (fun K hK => ?_)
                          go_simp
                          exact hK _ _ ⟨rfl, Below.refl _ _⟩
                        apply still_cons
                        · intro a' w' hLe hfr hdep
                          have e78 := hdep 10 78 (Nat.le_of_ble_eq_true rfl) rfl rfl
                          conv at e78 => rhs; whnf
                          have f78 := e78; simp only [Array.getD_eq_getD_getElem?] at f78
                          have e6 := hfr 6 rfl
                          conv at e6 => rhs; whnf
                          have f6 := e6; simp only [Array.getD_eq_getD_getElem?] at f6
                          refine wpOp_yes rfl rfl rfl e78 (fun K hK => ?_)
                          go_simp
                          exact hK _ _ ⟨rfl, Below.refl _ _⟩
                        apply still_cons
                        · intro a' w' hLe hfr hdep
                          have e78 := hdep 10 78 (Nat.le_of_ble_eq_true rfl) rfl rfl
                          conv at e78 => rhs; whnf
                          have f78 := e78; simp only [Array.getD_eq_getD_getElem?] at f78
                          have e10 := hfr 10 rfl
                          conv at e10 => rhs; whnf
                          have f10 := e10; simp only [Array.getD_eq_getD_getElem?] at f10
                          refine wpOp_yes rfl rfl rfl e78 (fun K hK => ?_)
                          go_simp
                          exact hK _ _ ⟨rfl, Below.refl _ _⟩
                        apply still_cons
                        · intro a' w' hLe hfr hdep
                          have e78 := hdep 10 78 (Nat.le_of_ble_eq_true rfl) rfl rfl
                          conv at e78 => rhs; whnf
                          have f78 := e78; simp only [Array.getD_eq_getD_getElem?] at f78
                          have e83 := hdep 15 83 (Nat.le_of_ble_eq_true rfl) rfl rfl
                          conv at e83 => rhs; whnf
                          have f83 := e83; simp only [Array.getD_eq_getD_getElem?] at f83
                          have e84 := hdep 16 84 (Nat.le_of_ble_eq_true rfl) rfl rfl
                          conv at e84 => rhs; whnf
                          have f84 := e84; simp only [Array.getD_eq_getD_getElem?] at f84
                          refine wpOp_yes rfl rfl rfl e78 (fun K hK => ?_)
                          go_simp
                          exact hK _ _ ⟨rfl, Below.refl _ _⟩
                        apply still_cons
                        · intro a' w' hLe hfr hdep
                          have e78 := hdep 10 78 (Nat.le_of_ble_eq_true rfl) rfl rfl
                          conv at e78 => rhs; whnf
                          have f78 := e78; simp only [Array.getD_eq_getD_getElem?] at f78
                          have e85 := hdep 17 85 (Nat.le_of_ble_eq_true rfl) rfl rfl
                          conv at e85 => rhs; whnf
                          have f85 := e85; simp only [Array.getD_eq_getD_getElem?] at f85
                          have kc := fun i => keepc hLe (w.heap.size + 1) (by (try simp) <;> omega) i
                          have kf := fun i => keepf hLe (w.heap.size + 1) (by (try simp) <;> omega) i
                          have kc := fun i => keepc hLe (w.heap.size + 1 + 1) (by (try simp) <;> omega) i
                          have kf := fun i => keepf hLe (w.heap.size + 1 + 1) (by (try simp) <;> omega) i
                          have kc := fun i => keepc hLe (bl) (by (try simp) <;> omega) i
                          have kf := fun i => keepf hLe (bl) (by (try simp) <;> omega) i
                          have kc := fun i => keepc hLe (b2) (by (try simp) <;> omega) i
                          have kf := fun i => keepf hLe (b2) (by (try simp) <;> omega) i
                          refine wpOp_yes rfl rfl rfl e78 (fun K hK => ?_)
                          go_simp
                          exact hK _ _ ⟨rfl, Below.refl _ _⟩
                        apply still_cons
                        · intro a' w' hLe hfr hdep
                          have e78 := hdep 10 78 (Nat.le_of_ble_eq_true rfl) rfl rfl
                          conv at e78 => rhs; whnf
                          have f78 := e78; simp only [Array.getD_eq_getD_getElem?] at f78
                          have e82 := hdep 14 82 (Nat.le_of_ble_eq_true rfl) rfl rfl
                          conv at e82 => rhs; whnf
                          have f82 := e82; simp only [Array.getD_eq_getD_getElem?] at f82
                          have e86 := hdep 18 86 (Nat.le_of_ble_eq_true rfl) rfl rfl
                          conv at e86 => rhs; whnf
                          have f86 := e86; simp only [Array.getD_eq_getD_getElem?] at f86
                          refine wpOp_yes rfl rfl rfl e78 (fun K hK => ?_)
                          go_simp
                          exact hK _ _ ⟨rfl, Below.refl _ _⟩
                        apply still_cons
                        · intro a' w' hLe hfr hdep
                          have e78 := hdep 10 78 (Nat.le_of_ble_eq_true rfl) rfl rfl
                          conv at e78 => rhs; whnf
                          have f78 := e78; simp only [Array.getD_eq_getD_getElem?] at f78
                          have e87 := hdep 19 87 (Nat.le_of_ble_eq_true rfl) rfl rfl
                          conv at e87 => rhs; whnf
                          have f87 := e87; simp only [Array.getD_eq_getD_getElem?] at f87
                          have kc := fun i => keepc hLe (w.heap.size + 1) (by (try simp) <;> omega) i
                          have kf := fun i => keepf hLe (w.heap.size + 1) (by (try simp) <;> omega) i
                          have kc := fun i => keepc hLe (w.heap.size + 1 + 1) (by (try simp) <;> omega) i
                          have kf := fun i => keepf hLe (w.heap.size + 1 + 1) (by (try simp) <;> omega) i
                          have kc := fun i => keepc hLe (bl) (by (try simp) <;> omega) i
                          have kf := fun i => keepf hLe (bl) (by (try simp) <;> omega) i
                          have kc := fun i => keepc hLe (b2) (by (try simp) <;> omega) i
                          have kf := fun i => keepf hLe (b2) (by (try simp) <;> omega) i
                          refine wpOp_yes rfl rfl rfl e78 (fun K hK => ?_)
                          go_simp
                          exact hK _ _ ⟨rfl, Below.refl _ _⟩
                        apply still_cons
                        · intro a' w' hLe hfr hdep
                          have e78 := hdep 10 78 (Nat.le_of_ble_eq_true rfl) rfl rfl
                          conv at e78 => rhs; whnf
                          have f78 := e78; simp only [Array.getD_eq_getD_getElem?] at f78
                          have e7 := hfr 7 rfl
                          conv at e7 => rhs; whnf
                          have f7 := e7; simp only [Array.getD_eq_getD_getElem?] at f7
                          refine wpOp_yes rfl rfl rfl e78 (fun K hK => ?_)
                          go_simp
                          exact hK _ _ ⟨rfl, Below.refl _ _⟩
                        apply still_cons
                        · intro a' w' hLe hfr hdep
                          have e78 := hdep 10 78 (Nat.le_of_ble_eq_true rfl) rfl rfl
                          conv at e78 => rhs; whnf
                          have f78 := e78; simp only [Array.getD_eq_getD_getElem?] at f78
                          have e10 := hfr 10 rfl
                          conv at e10 => rhs; whnf
                          have f10 := e10; simp only [Array.getD_eq_getD_getElem?] at f10
                          refine wpOp_yes rfl rfl rfl e78 (fun K hK => ?_)
                          go_simp
                          exact hK _ _ ⟨rfl, Below.refl _ _⟩
                        apply still_cons
                        · intro a' w' hLe hfr hdep
                          have e78 := hdep 10 78 (Nat.le_of_ble_eq_true rfl) rfl rfl
                          conv at e78 => rhs; whnf
                          have f78 := e78; simp only [Array.getD_eq_getD_getElem?] at f78
                          have e89 := hdep 21 89 (Nat.le_of_ble_eq_true rfl) rfl rfl
                          conv at e89 => rhs; whnf
                          have f89 := e89; simp only [Array.getD_eq_getD_getElem?] at f89
                          have e90 := hdep 22 90 (Nat.le_of_ble_eq_true rfl) rfl rfl
                          conv at e90 => rhs; whnf
                          have f90 := e90; simp only [Array.getD_eq_getD_getElem?] at f90
                          refine wpOp_yes rfl rfl rfl e78 (fun K hK => ?_)
                          go_simp
                          exact hK _ _ ⟨rfl, Below.refl _ _⟩
                        apply still_cons
                        · intro a' w' hLe hfr hdep
                          have e78 := hdep 10 78 (Nat.le_of_ble_eq_true rfl) rfl rfl
                          conv at e78 => rhs; whnf
                          have f78 := e78; simp only [Array.getD_eq_getD_getElem?] at f78
                          have e91 := hdep 23 91 (Nat.le_of_ble_eq_true rfl) rfl rfl
                          conv at e91 => rhs; whnf
                          have f91 := e91; simp only [Array.getD_eq_getD_getElem?] at f91
                          have kc := fun i => keepc hLe (w.heap.size + 1) (by (try simp) <;> omega) i
                          have kf := fun i => keepf hLe (w.heap.size + 1) (by (try simp) <;> omega) i
                          have kc := fun i => keepc hLe (w.heap.size + 1 + 1) (by (try simp) <;> omega) i
                          have kf := fun i => keepf hLe (w.heap.size + 1 + 1) (by (try simp) <;> omega) i
                          have kc := fun i => keepc hLe (bl) (by (try simp) <;> omega) i
                          have kf := fun i => keepf hLe (bl) (by (try simp) <;> omega) i
                          have kc := fun i => keepc hLe (b2) (by (try simp) <;> omega) i
                          have kf := fun i => keepf hLe (b2) (by (try simp) <;> omega) i
                          refine wpOp_yes rfl rfl rfl e78 (fun K hK => ?_)
                          go_simp
                          exact hK _ _ ⟨rfl, Below.refl _ _⟩
                        apply still_cons
                        · intro a' w' hLe hfr hdep
                          have e78 := hdep 10 78 (Nat.le_of_ble_eq_true rfl) rfl rfl
                          conv at e78 => rhs; whnf
                          have f78 := e78; simp only [Array.getD_eq_getD_getElem?] at f78
                          have e88 := hdep 20 88 (Nat.le_of_ble_eq_true rfl) rfl rfl
                          conv at e88 => rhs; whnf
                          have f88 := e88; simp only [Array.getD_eq_getD_getElem?] at f88
                          have e92 := hdep 24 92 (Nat.le_of_ble_eq_true rfl) rfl rfl
                          conv at e92 => rhs; whnf
                          have f92 := e92; simp only [Array.getD_eq_getD_getElem?] at f92
                          refine wpOp_yes rfl rfl rfl e78 (fun K hK => ?_)
                          go_simp
                          exact hK _ _ ⟨rfl, Below.refl _ _⟩
                        apply still_cons
                        · intro a' w' hLe hfr hdep
                          have e78 := hdep 10 78 (Nat.le_of_ble_eq_true rfl) rfl rfl
                          conv at e78 => rhs; whnf
                          have f78 := e78; simp only [Array.getD_eq_getD_getElem?] at f78
                          have e93 := hdep 25 93 (Nat.le_of_ble_eq_true rfl) rfl rfl
                          conv at e93 => rhs; whnf
                          have f93 := e93; simp only [Array.getD_eq_getD_getElem?] at f93
                          refine wpOp_plain rfl rfl (fun K hK => ?_)
                          go_simp
                          exact hK _ _ ⟨rfl, Below.refl _ _⟩
                        apply still_nil
                        intro w18 hb18
                        simp only [putAll, List.drop_succ_cons, List.drop_zero]
                        go_simp
                        have hQ18 := hQi.next hb18
                        have hB18 := Below.tr hBi hb18
                        go_wp2
                        go_roundw
                        case rel => exact ⟨j + 1, by omega, by go_num, by rw [hst.out]; exact hQ18, hB18⟩
                        case measure => simp [intOf]; omega
                    · have hpe2 : p = qn j := by omega
                      have hd2 : decide ((p : Int) < (qn j : Int)) = false := by simp; omega
                      have hst := Lib.hid (hst2.out HPE.out p x o HT2.out (fun h => hA h.1))
                      clear hpe2
                      go_upto_region 17 with (fail)
                      refine wp_region_still (ds := [(0, 68), (1, 69), (2, 70), (3, 71), (4, 72), (5, 73), (6, 74), (7, 75), (8, 76), (9, 77), (10, 78), (11, 79), (12, 80), (13, 81), (14, 82), (15, 83), (16, 84), (17, 85), (18, 86), (19, 87), (20, 88), (21, 89), (22, 90), (23, 91), (24, 92), (25, 93), (26, 94)]) 27 (by kernel_rfl) (by kernel_rfl) (by first | exact .inl rfl | exact .inr (by kernel_rfl)) (by rfl) rfl rfl ?_
                      apply still_cons
                      · intro a' w' hLe hfr hdep
                        have e6 := hfr 6 rfl
                        conv at e6 => rhs; whnf
                        have f6 := e6; simp only [Array.getD_eq_getD_getElem?] at f6
                        refine wpOp_plain rfl rfl (fun K hK => ?_)
                        go_simp
                        exact hK _ _ ⟨rfl, Below.refl _ _⟩
                      apply still_cons
                      · intro a' w' hLe hfr hdep
                        have e10 := hfr 10 rfl
                        conv at e10 => rhs; whnf
                        have f10 := e10; simp only [Array.getD_eq_getD_getElem?] at f10
                        refine wpOp_plain rfl rfl (fun K hK => ?_)
                        go_simp
                        exact hK _ _ ⟨rfl, Below.refl _ _⟩
                      apply still_cons
                      · intro a' w' hLe hfr hdep
                        have e68 := hdep 0 68 (Nat.le_of_ble_eq_true rfl) rfl rfl
                        conv at e68 => rhs; whnf
                        have f68 := e68; simp only [Array.getD_eq_getD_getElem?] at f68
                        have e69 := hdep 1 69 (Nat.le_of_ble_eq_true rfl) rfl rfl
                        conv at e69 => rhs; whnf
                        have f69 := e69; simp only [Array.getD_eq_getD_getElem?] at f69
                        refine wpOp_plain rfl rfl (fun K hK => ?_)
                        go_simp
                        exact hK _ _ ⟨rfl, Below.refl _ _⟩
                      apply still_cons
                      · intro a' w' hLe hfr hdep
                        have e70 := hdep 2 70 (Nat.le_of_ble_eq_true rfl) rfl rfl
                        conv at e70 => rhs; whnf
                        have f70 := e70; simp only [Array.getD_eq_getD_getElem?] at f70
                        have kc := fun i => keepc hLe (w.heap.size + 1) (by (try simp) <;> omega) i
                        have kf := fun i => keepf hLe (w.heap.size + 1) (by (try simp) <;> omega) i
                        have kc := fun i => keepc hLe (w.heap.size + 1 + 1) (by (try simp) <;> omega) i
                        have kf := fun i => keepf hLe (w.heap.size + 1 + 1) (by (try simp) <;> omega) i
                        have kc := fun i => keepc hLe (bl) (by (try simp) <;> omega) i
                        have kf := fun i => keepf hLe (bl) (by (try simp) <;> omega) i
                        refine wpOp_plain rfl rfl (fun K hK => ?_)
                        go_simp
                        exact hK _ _ ⟨rfl, Below.refl _ _⟩
                      apply still_cons
                      · intro a' w' hLe hfr hdep
                        have e0 := hfr 0 rfl
                        conv at e0 => rhs; whnf
                        have f0 := e0; simp only [Array.getD_eq_getD_getElem?] at f0
                        refine wpOp_plain rfl rfl (fun K hK => ?_)
                        go_simp
                        exact hK _ _ ⟨rfl, Below.refl _ _⟩
                      apply still_cons
                      · intro a' w' hLe hfr hdep
                        have e10 := hfr 10 rfl
                        conv at e10 => rhs; whnf
                        have f10 := e10; simp only [Array.getD_eq_getD_getElem?] at f10
                        refine wpOp_plain rfl rfl (fun K hK => ?_)
                        go_simp
                        exact hK _ _ ⟨rfl, Below.refl _ _⟩
                      apply still_cons
                      · intro a' w' hLe hfr hdep
                        have e72 := hdep 4 72 (Nat.le_of_ble_eq_true rfl) rfl rfl
                        conv at e72 => rhs; whnf
                        have f72 := e72; simp only [Array.getD_eq_getD_getElem?] at f72
                        have e73 := hdep 5 73 (Nat.le_of_ble_eq_true rfl) rfl rfl
                        conv at e73 => rhs; whnf
                        have f73 := e73; simp only [Array.getD_eq_getD_getElem?] at f73
                        refine wpOp_plain rfl rfl (fun K hK => ?_)
                        go_simp
                        exact hK _ _ ⟨rfl, Below.refl _ _⟩
                      apply still_cons
                      · intro a' w' hLe hfr hdep
                        have e74 := hdep 6 74 (Nat.le_of_ble_eq_true rfl) rfl rfl
                        conv at e74 => rhs; whnf
                        have f74 := e74; simp only [Array.getD_eq_getD_getElem?] at f74
                        have kc := fun i => keepc hLe (w.heap.size + 1) (by (try simp) <;> omega) i
                        have kf := fun i => keepf hLe (w.heap.size + 1) (by (try simp) <;> omega) i
                        have kc := fun i => keepc hLe (w.heap.size + 1 + 1) (by (try simp) <;> omega) i
                        have kf := fun i => keepf hLe (w.heap.size + 1 + 1) (by (try simp) <;> omega) i
                        have kc := fun i => keepc hLe (bl) (by (try simp) <;> omega) i
                        have kf := fun i => keepf hLe (bl) (by (try simp) <;> omega) i
                        refine wpOp_plain rfl rfl (fun K hK => ?_)
                        go_simp
                        exact hK _ _ ⟨rfl, Below.refl _ _⟩
                      apply still_cons
                      · intro a' w' hLe hfr hdep
                        have e75 := hdep 7 75 (Nat.le_of_ble_eq_true rfl) rfl rfl
                        conv at e75 => rhs; whnf
                        have f75 := e75; simp only [Array.getD_eq_getD_getElem?] at f75
                        refine wpOp_plain rfl rfl (fun K hK => ?_)
                        go_simp
                        exact hK _ _ ⟨rfl, Below.refl _ _⟩
                      apply still_cons
                      · intro a' w' hLe hfr hdep
                        have e71 := hdep 3 71 (Nat.le_of_ble_eq_true rfl) rfl rfl
                        conv at e71 => rhs; whnf
                        have f71 := e71; simp only [Array.getD_eq_getD_getElem?] at f71
                        have e76 := hdep 8 76 (Nat.le_of_ble_eq_true rfl) rfl rfl
                        conv at e76 => rhs; whnf
                        have f76 := e76; simp only [Array.getD_eq_getD_getElem?] at f76
                        refine wpOp_plain rfl rfl (fun K hK => ?_)
                        go_simp
                        exact hK _ _ ⟨rfl, Below.refl _ _⟩
                      apply still_cons
                      · intro a' w' hLe hfr hdep
                        have e77 := hdep 9 77 (Nat.le_of_ble_eq_true rfl) rfl rfl
                        conv at e77 => rhs; whnf
                        have f77 := e77; simp only [Array.getD_eq_getD_getElem?] at f77
                        refine wpOp_plain rfl rfl (fun K hK => ?_)
                        go_simp
                        exact hK _ _ ⟨rfl, Below.refl _ _⟩
                      apply still_cons
                      · intro a' w' hLe hfr hdep
                        have e78 := hdep 10 78 (Nat.le_of_ble_eq_true rfl) rfl rfl
                        conv at e78 => rhs; whnf
                        have f78 := e78; simp only [Array.getD_eq_getD_getElem?] at f78
                        exact wpOp_no rfl rfl rfl e78 ⟨rfl, Below.refl _ _⟩
                      apply still_cons
                      · intro a' w' hLe hfr hdep
                        have e78 := hdep 10 78 (Nat.le_of_ble_eq_true rfl) rfl rfl
                        conv at e78 => rhs; whnf
                        have f78 := e78; simp only [Array.getD_eq_getD_getElem?] at f78
                        exact wpOp_no rfl rfl rfl e78 ⟨rfl, Below.refl _ _⟩
                      apply still_cons
                      · intro a' w' hLe hfr hdep
                        have e78 := hdep 10 78 (Nat.le_of_ble_eq_true rfl) rfl rfl
                        conv at e78 => rhs; whnf
                        have f78 := e78; simp only [Array.getD_eq_getD_getElem?] at f78
                        exact wpOp_no rfl rfl rfl e78 ⟨rfl, Below.refl _ _⟩
                      apply still_cons
                      · intro a' w' hLe hfr hdep
                        have e78 := hdep 10 78 (Nat.le_of_ble_eq_true rfl) rfl rfl
                        conv at e78 => rhs; whnf
                        have f78 := e78; simp only [Array.getD_eq_getD_getElem?] at f78
                        exact wpOp_no rfl rfl rfl e78 ⟨rfl, Below.refl _ _⟩
                      apply still_cons
                      · intro a' w' hLe hfr hdep
                        have e78 := hdep 10 78 (Nat.le_of_ble_eq_true rfl) rfl rfl
                        conv at e78 => rhs; whnf
                        have f78 := e78; simp only [Array.getD_eq_getD_getElem?] at f78
                        exact wpOp_no rfl rfl rfl e78 ⟨rfl, Below.refl _ _⟩
                      apply still_cons
                      · intro a' w' hLe hfr hdep
                        have e78 := hdep 10 78 (Nat.le_of_ble_eq_true rfl) rfl rfl
                        conv at e78 => rhs; whnf
                        have f78 := e78; simp only [Array.getD_eq_getD_getElem?] at f78
                        exact wpOp_no rfl rfl rfl e78 ⟨rfl, Below.refl _ _⟩
                      apply still_cons
                      · intro a' w' hLe hfr hdep
                        have e78 := hdep 10 78 (Nat.le_of_ble_eq_true rfl) rfl rfl
                        conv at e78 => rhs; whnf
                        have f78 := e78; simp only [Array.getD_eq_getD_getElem?] at f78
                        exact wpOp_no rfl rfl rfl e78 ⟨rfl, Below.refl _ _⟩
                      apply still_cons
                      · intro a' w' hLe hfr hdep
                        have e78 := hdep 10 78 (Nat.le_of_ble_eq_true rfl) rfl rfl
                        conv at e78 => rhs; whnf
                        have f78 := e78; simp only [Array.getD_eq_getD_getElem?] at f78
                        exact wpOp_no rfl rfl rfl e78 ⟨rfl, Below.refl _ _⟩
                      apply still_cons
                      · intro a' w' hLe hfr hdep
                        have e78 := hdep 10 78 (Nat.le_of_ble_eq_true rfl) rfl rfl
                        conv at e78 => rhs; whnf
                        have f78 := e78; simp only [Array.getD_eq_getD_getElem?] at f78
                        exact wpOp_no rfl rfl rfl e78 ⟨rfl, Below.refl _ _⟩
                      apply still_cons
                      · intro a' w' hLe hfr hdep
                        have e78 := hdep 10 78 (Nat.le_of_ble_eq_true rfl) rfl rfl
                        conv at e78 => rhs; whnf
                        have f78 := e78; simp only [Array.getD_eq_getD_getElem?] at f78
                        exact wpOp_no rfl rfl rfl e78 ⟨rfl, Below.refl _ _⟩
                      apply still_cons
                      · intro a' w' hLe hfr hdep
                        have e78 := hdep 10 78 (Nat.le_of_ble_eq_true rfl) rfl rfl
                        conv at e78 => rhs; whnf
                        have f78 := e78; simp only [Array.getD_eq_getD_getElem?] at f78
                        exact wpOp_no rfl rfl rfl e78 ⟨rfl, Below.refl _ _⟩
                      apply still_cons
                      · intro a' w' hLe hfr hdep
                        have e78 := hdep 10 78 (Nat.le_of_ble_eq_true rfl) rfl rfl
                        conv at e78 => rhs; whnf
                        have f78 := e78; simp only [Array.getD_eq_getD_getElem?] at f78
                        exact wpOp_no rfl rfl rfl e78 ⟨rfl, Below.refl _ _⟩
                      apply still_cons
                      · intro a' w' hLe hfr hdep
                        have e78 := hdep 10 78 (Nat.le_of_ble_eq_true rfl) rfl rfl
                        conv at e78 => rhs; whnf
                        have f78 := e78; simp only [Array.getD_eq_getD_getElem?] at f78
                        exact wpOp_no rfl rfl rfl e78 ⟨rfl, Below.refl _ _⟩
                      apply still_cons
                      · intro a' w' hLe hfr hdep
                        have e78 := hdep 10 78 (Nat.le_of_ble_eq_true rfl) rfl rfl
                        conv at e78 => rhs; whnf
                        have f78 := e78; simp only [Array.getD_eq_getD_getElem?] at f78
                        exact wpOp_no rfl rfl rfl e78 ⟨rfl, Below.refl _ _⟩
                      apply still_cons
                      · intro a' w' hLe hfr hdep
                        have e78 := hdep 10 78 (Nat.le_of_ble_eq_true rfl) rfl rfl
                        conv at e78 => rhs; whnf
                        have f78 := e78; simp only [Array.getD_eq_getD_getElem?] at f78
                        exact wpOp_no rfl rfl rfl e78 ⟨rfl, Below.refl _ _⟩
                      apply still_cons
                      · intro a' w' hLe hfr hdep
                        have e78 := hdep 10 78 (Nat.le_of_ble_eq_true rfl) rfl rfl
                        conv at e78 => rhs; whnf
                        have f78 := e78; simp only [Array.getD_eq_getD_getElem?] at f78
                        have e93 := hdep 25 93 (Nat.le_of_ble_eq_true rfl) rfl rfl
                        conv at e93 => rhs; whnf
                        have f93 := e93; simp only [Array.getD_eq_getD_getElem?] at f93
                        refine wpOp_plain rfl rfl (fun K hK => ?_)
                        go_simp
                        exact hK _ _ ⟨rfl, Below.refl _ _⟩
                      apply still_nil
                      intro w18 hb18
                      simp only [putAll, List.drop_succ_cons, List.drop_zero]
                      go_simp
                      have hQ18 := hQi.next hb18
                      have hB18 := Below.tr hBi hb18
                      go_wp2
                      go_roundw
                      case rel => exact ⟨j + 1, by omega, by go_num, by rw [hst.out]; exact hQ18, hB18⟩
                      case measure => simp [intOf]; omega
              · obtain rfl : j = k := by omega
                go_wp2
                go_roundg (400 - (r + 1))
                case measure => have := HR.out; omega
                case rel => exact ⟨r + 1, by omega, hQj, hBj⟩
          · have hout := qRun_end hV.out (r := r) (by omega)
            have hO := hQ.2.2
            rw [hout] at hO
            rw [hout] at hlt
            rw [hout]
            have HO := Lib.hid hO
            clear hO hQ hout
            go_wp2
            go_ret
            rw [he.out]
            obtain ⟨Ao, co, e1, hOo⟩ := HO.out.own
            cases e1
            exact ⟨_, _, rfl, hOo, hBw⟩
end Go.Proofs.Ytghmcedfiebolaa
