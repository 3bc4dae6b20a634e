/-
  QueueOrder in the program.
-/
import Derived.Test.YtghmcedfiebolaaQueS
namespace Go.Proofs.Ytghmcedfiebolaa
open Go Go.RowKit

theorem heap_set_new (w : World) (p : Addr) (v : Value) (o : Obj) : ((w.setCell p v).alloc o).heap[w.heap.size]? = some o := by
  have := heap_alloc_new (w.setCell p v) o
  simpa [World.setCell] using this
theorem outR_one (o : Outs) (k : Nat) : ∀ u ∈ outR o k, u.oneCell' = true := sentR_one _ _ k
theorem upd_upd {α : Type} (f : Nat → α) (k : Nat) (x y : α) : upd (upd f k x) k y = upd f k y := by
  funext i; unfold upd; split <;> rfl
theorem qMid {n : Nat} {qn : Nat → Nat} {q : Nat → Nat → Int} {sh : Nat → Int} (hv : qvB n qn q n sh = true) (r : Nat) {k : Nat} (hk : k < n) :
    (qPart qn q sh (qRun n qn q sh r) k).pl k ≤ qn k ∧ 0 ≤ (qPart qn q sh (qRun n qn q sh r) k).hv k ∧ (qPart qn q sh (qRun n qn q sh r) k).hv k ≤ 100 ∧
      ((qPart qn q sh (qRun n qn q sh r) k).pl k < qn k → (qPart qn q sh (qRun n qn q sh r) k).hv k ≤ 50) ∧ (qPart qn q sh (qRun n qn q sh r) k).out.length ≤ 32 := by
  obtain ⟨h1, h2⟩ := qRun_facts hv r
  obtain ⟨h3, h4⟩ := qPart_facts hv h1 h2 k (Nat.le_of_lt hk)
  obtain ⟨_, _, _, hv4⟩ := qvB_true.1 hv
  obtain ⟨j1, j2, j3, j4⟩ := h3 k hk
  refine ⟨j1, j2, j3, fun h => ?_, ?_⟩
  · have := (j4 h).1
    have := ((hv4 k hk).2.2.2 _ h).2
    omega
  · have h5 : plSum (qPart qn q sh (qRun n qn q sh r) k).pl n ≤ plSum qn n := plSum_le fun i hi => (h3 i hi).1
    have h6 := plSum_small hv
    have h7 := h4.2.2
    omega
theorem qStep_same {qn : Nat → Nat} {q : Nat → Nat → Int} {sh : Nat → Int} {s : QS} {k : Nat} (h : (qPart qn q sh s k).pl k = qn k) : qPart qn q sh s (k + 1) = qPart qn q sh s k := by
  rw [qPart, qStep, if_pos h]
theorem qStep_sent {qn : Nat → Nat} {q : Nat → Nat → Int} {sh : Nat → Int} {s t : QS} {k : Nat} (ht : t = qPart qn q sh s k) (h : ¬ t.pl k = qn k) {p : Nat} {x : Int} {o : Outs}
    (hT : sendR k (qn k) (q k) p x o = sendR k (qn k) (q k) (t.pl k) (t.hv k + sh k) t.out) (hs : ¬ (p < qn k ∧ q k p ≤ x)) : qPart qn q sh s (k + 1) = ⟨upd t.pl k p, upd t.hv k x, o⟩ := by
  subst ht
  rw [qPart, qStep, if_neg h, ← hT, sendR_stop hs]

set_option maxRecDepth 100000 in
set_option maxHeartbeats 16000000 in
theorem implQueueOrder_any {w : World} {B : Nat} {A A' : Option Addr} {n c m c' : Nat} {qn : Nat → Nat} {q : Nat → Nat → Int} {sh : Nat → Int} (H : Qs w B A n c qn q) (H' : Rws w B 1 A' m c' (intR sh)) (hB : B ≤ w.heap.size) :
    Calls Try.prog 20 #[.slice A n c, .slice A' m c'] w (Gives w 39 2 (qoN n qn q m sh) (qoR n qn q sh)) := by
  have HH := Lib.hid H
  have HH' := Lib.hid H'
  obtain ⟨QA, qc, ⟨⟨hnc, hcm⟩, hrow⟩, HI⟩ := H
  obtain ⟨⟨hnc', hcm'⟩, hrow'⟩ := H'
  unfold maxLen at hcm hcm'
  have hI := Lib.hid HI
  have hRow := Lib.hid hrow
  have hRow' := Lib.hid hrow'
  clear HI hrow hrow'
  cases hv : qvB n qn q m sh with
  | false =>
    have he := Lib.hid (show qoN n qn q m sh = 0 by simp [qoN, hv])
    go_enter Try.func20, Try.ntmps20
    go_wp2_with fail
    refine (implQueuesValid_any HH.out HH'.out hB).mono ?_
    rintro e w' ⟨rfl, rfl⟩
    rw [hv]
    go_wp2
    go_ret
    rw [he.out]
    exact ⟨_, _, rfl, Own.nil _ _ _ _ _ _ _ (by unfold maxLen; omega), Below.refl _ _⟩
  | true =>
    have hV := Lib.hid hv
    obtain ⟨h1, h4, hmn, hq4⟩ := qvB_true.1 hv
    subst hmn
    have he := Lib.hid (show qoN m qn q m sh = (qOut m qn q sh).length by simp [qoN, hv])
    have HQ := Lib.hid hq4
    have hsum := plSum_small hv
    obtain ⟨iT, hi, hz, hs, hb⟩ := info_parts info_int
    have hmk := run_make_rows (P := Try.prog) 23 3 iT _ 1 Try.underlying23 hi hz hs m (by rw [hb]; omega) (by omega)
    simp only [Nat.mul_one, rowI_made] at hmk
    have HM := Lib.hid hmk
    clear hi hz hs hb hq4 hmk
    go_enter Try.func20, Try.ntmps20
    go_wp2_with fail
    refine (implQueuesValid_any HH.out HH'.out hB).mono ?_
    rintro e w' ⟨rfl, rfl⟩
    rw [hv]
    clear hv
    go_wp2_with fail
    go_loop [5, 19] (fun le i => ∃ k : Nat, k ≤ m ∧ i = .int .i64 k ∧ le = .int .i64 (plSum qn k : Nat)) (fun _ i => m - (intOf i).toNat)
    case atStart => exact ⟨0, by omega, rfl, rfl⟩
    case round =>
      obtain ⟨k, hk, rfl, rfl⟩ := hrel
      by_cases hkn : k < m
      · obtain ⟨bl, off, rfl, hbB, hc⟩ := hRow.out (by omega)
        have hr := hc k hkn
        rw [Nat.mul_one] at hr
        have hbs : bl < w.heap.size := by omega
        have q0 : w.cell? ⟨bl, off + k, none⟩ = some (.slice (QA k) (qn k) (qc k)) := hr 0 _ rfl
        have h5 := HQ.out k hkn
        have hq8 := h5.1
        have hmo := plSum_mono qn (k := k) (n := m) hk
        have HSS := Lib.hid (show plSum qn (k + 1) = plSum qn k + qn k from rfl)
        clear hr hc h5
        go_wp2
        go_round
        case rel => exact ⟨k + 1, by omega, by go_num, by rw [HSS.out]; go_num⟩
        case measure => simp [intOf]; omega
      · obtain rfl : k = m := by omega
        have hmk := HM.out
        go_wp2_with fail
        clear hmk
        have hQ0 : QM ((w.alloc (.cells (rowI (fun _ => 0) k) 3)).alloc (.cells (rowI (fun _ => 0) k) 3)) w.heap.size w.heap.size (w.heap.size + 1) k (qRun k qn q sh 0).pl (qRun k qn q sh 0).hv (.slice none 0 0) (qRun k qn q sh 0).out :=
          ⟨(heap_alloc_old _ _ (by simp)).trans (heap_alloc_new w _), heap_new1 w _ _, Acc.nil _ _ _ _ fun _ => rfl⟩
        have hB0 : Below w.heap.size w ((w.alloc (.cells (rowI (fun _ => 0) k) 3)).alloc (.cells (rowI (fun _ => 0) k) 3)) := by (repeat (first | exact Below.refl _ _ | assumption | refine Below.al ?_ _ | refine Below.dr ?_ | (refine Below.st ?_ (by simp <;> omega) _) | (refine Below.tr ?_ (by assumption))))
        have hBI := Lib.hid hB0
        go_loopg [10] 400 (fun gk v wr => ∃ r : Nat, gk + r = 400 ∧ QM wr w.heap.size w.heap.size (w.heap.size + 1) k (qRun k qn q sh r).pl (qRun k qn q sh r).hv v (qRun k qn q sh r).out ∧ Below w.heap.size w wr)
        case atStart => exact ⟨0, rfl, hQ0, hB0⟩
        case round =>
          obtain ⟨r, hr, hQ, hBw⟩ := hrel
          clear hQ0 hB0
          obtain ⟨Av, cv, rfl, hncv, hcmv⟩ := hQ.2.2.form
          unfold maxLen at hcmv
          by_cases hlt : (qRun k qn q sh r).out.length < plSum qn k
          · have hr4 : r < 400 := by
              rcases Nat.lt_or_ge r 400 with h | h
              · exact h
              · have h5 := (qRun_facts hV.out r).2.2.2
                have h6 : plSum (qRun k qn q sh r).pl k = plSum qn k := plSum_congr fun i hi => qRun_done hV.out h hi
                omega
            have HR := Lib.hid hr
            clear hr
            go_wp2_with fail
            obtain ⟨wo, rfl⟩ : ∃ wo : World, wo = wr := ⟨_, rfl⟩
            go_loopw [10, 40] (fun v i wi => ∃ j : Nat, j ≤ k ∧ i = .int .i64 j ∧ QM wi w.heap.size w.heap.size (w.heap.size + 1) k (qPart qn q sh (qRun k qn q sh r) j).pl (qPart qn q sh (qRun k qn q sh r) j).hv v (qPart qn q sh (qRun k qn q sh r) j).out ∧ Below w.heap.size w wi) (fun _ i _ => k - (intOf i).toNat)
            case atStart => exact ⟨0, by omega, rfl, hQ, hBw⟩
            case round =>
              obtain ⟨j, hj, rfl, hQj, hBj⟩ := hrel
              clear hQ hBw hlt
              by_cases hjn : j < k
              · have hmid := qMid hV.out r hjn
                obtain ⟨t, ht⟩ : ∃ t, t = qPart qn q sh (qRun k qn q sh r) j := ⟨_, rfl⟩
                rw [← ht] at hmid hQj
                have hst1 := Lib.hid (qStep_same (qn := qn) (q := q) (sh := sh) (s := qRun k qn q sh r) (k := j))
                have hst2 := Lib.hid (fun h p x o h2 h3 => qStep_sent (qn := qn) (q := q) (sh := sh) (s := qRun k qn q sh r) (k := j) (t := t) ht h (p := p) (x := x) (o := o) h2 h3)
                have HT := Lib.hid ht
                clear ht
                obtain ⟨m1, m2, m3, m4, m5⟩ := hmid
                obtain ⟨b1, b2, b3, b4⟩ := HQ.out j hjn
                obtain ⟨bl, off, rfl, hbB, hc⟩ := hRow.out (by omega)
                have hr1 := hc j hjn
                rw [Nat.mul_one] at hr1
                obtain ⟨bs, os, rfl, hsB, hcs⟩ := hRow'.out (by omega)
                have hr2 := hcs j hjn
                rw [Nat.mul_one] at hr2
                have hszj := hBj.size
                have hbl : bl < wr.heap.size := by omega
                have hbsl : bs < wr.heap.size := by omega
                have hgl := hQj.lt
                have hgp := hgl.1
                have hgh := hgl.2
                have q0 : wr.cell? ⟨bl, off + j, none⟩ = some (.slice (QA j) (qn j) (qc j)) := (keepc hBj bl (by omega) _).trans (hr1 0 _ rfl)
                have s0 : wr.cell? ⟨bs, os + j, none⟩ = some (.int .i64 (sh j)) := (keepc hBj bs (by omega) _).trans (hr2 0 _ rfl)
                obtain ⟨p0, h0, fp, fh⟩ := hQj.cells hjn
                have hIj := Lib.hid (hI.out j hjn)
                have HB4 := Lib.hid b4
                have hqc := (hI.out j hjn).1
                clear hr1 hc hr2 hcs hgl b4
                unfold maxLen at hqc
                generalize QA j = Aj at *
                generalize qc j = cj at *
                obtain ⟨Ax, cx, e1, hncx, hcmx⟩ := hQj.2.2.form
                subst e1
                unfold maxLen at hcmx
                by_cases hpe : t.pl j = qn j
                · have hd1 : ((t.pl j : Int) == (qn j : Int)) = true := by simp [hpe]
                  have hd2 : (t.pl j == qn j) = true := by simp [hpe]
                  have hs1 := Lib.hid (hst1.out (by rw [← HT.out]; exact hpe))
                  have HPE := Lib.hid hpe
                  clear hpe
                  go_wp2
                  go_roundw
                  case rel => exact ⟨j + 1, by omega, by go_num, by rw [hs1.out, ← HT.out]; exact hQj, hBj⟩
                  case measure => simp [intOf]; omega
                · have hpl : t.pl j < qn j := by omega
                  have m6 := m4 hpl
                  have hd1 : ((t.pl j : Int) == (qn j : Int)) = false := by simp; omega
                  have hd2 : (t.pl j == qn j) = false := by simpa using hpe
                  have HPE := Lib.hid hpe
                  clear hpe m4
                  have e17 : IntKind.i64.wrap (t.hv j + sh j) = t.hv j + sh j := IntWalk.i64_in _ (by omega)
                  go_upto_region 17 with (fail)
                  refine wp_region_still (ds := [(0, 52), (1, 53), (2, 54), (3, 55), (4, 56), (5, 57), (6, 58), (7, 59), (8, 60), (9, 61)]) 10 (by kernel_rfl) (by kernel_rfl) (by first | exact .inl rfl | exact .inr (by kernel_rfl)) (by rfl) rfl rfl ?_
                  apply still_cons
                  · intro a' w' hLe hfr hdep
                    have e9 := hfr 9 rfl
                    conv at e9 => rhs; whnf
                    have f9 := e9; simp only [Array.getD_eq_getD_getElem?] at f9
                    refine wpOp_plain rfl rfl (fun K hK => ?_)
                    go_simp
                    exact hK _ _ ⟨rfl, Below.refl _ _⟩
                  apply still_cons
                  · intro a' w' hLe hfr hdep
                    have e11 := hfr 11 rfl
                    conv at e11 => rhs; whnf
                    have f11 := e11; simp only [Array.getD_eq_getD_getElem?] at f11
                    refine wpOp_plain rfl rfl (fun K hK => ?_)
                    go_simp
                    exact hK _ _ ⟨rfl, Below.refl _ _⟩
                  apply still_cons
                  · intro a' w' hLe hfr hdep
                    have e52 := hdep 0 52 (Nat.le_of_ble_eq_true rfl) rfl rfl
                    conv at e52 => rhs; whnf
                    have f52 := e52; simp only [Array.getD_eq_getD_getElem?] at f52
                    have e53 := hdep 1 53 (Nat.le_of_ble_eq_true rfl) rfl rfl
                    conv at e53 => rhs; whnf
                    have f53 := e53; simp only [Array.getD_eq_getD_getElem?] at f53
                    refine wpOp_plain rfl rfl (fun K hK => ?_)
                    go_simp
                    exact hK _ _ ⟨rfl, Below.refl _ _⟩
                  apply still_cons
                  · intro a' w' hLe hfr hdep
                    have e54 := hdep 2 54 (Nat.le_of_ble_eq_true rfl) rfl rfl
                    conv at e54 => rhs; whnf
                    have f54 := e54; simp only [Array.getD_eq_getD_getElem?] at f54
                    have kc := fun i => keepc hLe (w.heap.size + 1) (by (try simp) <;> omega) i
                    have kf := fun i => keepf hLe (w.heap.size + 1) (by (try simp) <;> omega) i
                    have kc := fun i => keepc hLe (bs) (by (try simp) <;> omega) i
                    have kf := fun i => keepf hLe (bs) (by (try simp) <;> omega) i
                    refine wpOp_plain rfl rfl (fun K hK => ?_)
                    go_simp
                    exact hK _ _ ⟨rfl, Below.refl _ _⟩
                  apply still_cons
                  · intro a' w' hLe hfr hdep
                    have e1 := hfr 1 rfl
                    conv at e1 => rhs; whnf
                    have f1 := e1; simp only [Array.getD_eq_getD_getElem?] at f1
                    refine wpOp_plain rfl rfl (fun K hK => ?_)
                    go_simp
                    exact hK _ _ ⟨rfl, Below.refl _ _⟩
                  apply still_cons
                  · intro a' w' hLe hfr hdep
                    have e11 := hfr 11 rfl
                    conv at e11 => rhs; whnf
                    have f11 := e11; simp only [Array.getD_eq_getD_getElem?] at f11
                    refine wpOp_plain rfl rfl (fun K hK => ?_)
                    go_simp
                    exact hK _ _ ⟨rfl, Below.refl _ _⟩
                  apply still_cons
                  · intro a' w' hLe hfr hdep
                    have e56 := hdep 4 56 (Nat.le_of_ble_eq_true rfl) rfl rfl
                    conv at e56 => rhs; whnf
                    have f56 := e56; simp only [Array.getD_eq_getD_getElem?] at f56
                    have e57 := hdep 5 57 (Nat.le_of_ble_eq_true rfl) rfl rfl
                    conv at e57 => rhs; whnf
                    have f57 := e57; simp only [Array.getD_eq_getD_getElem?] at f57
                    refine wpOp_plain rfl rfl (fun K hK => ?_)
                    go_simp
                    exact hK _ _ ⟨rfl, Below.refl _ _⟩
                  apply still_cons
                  · intro a' w' hLe hfr hdep
                    have e58 := hdep 6 58 (Nat.le_of_ble_eq_true rfl) rfl rfl
                    conv at e58 => rhs; whnf
                    have f58 := e58; simp only [Array.getD_eq_getD_getElem?] at f58
                    have kc := fun i => keepc hLe (w.heap.size + 1) (by (try simp) <;> omega) i
                    have kf := fun i => keepf hLe (w.heap.size + 1) (by (try simp) <;> omega) i
                    have kc := fun i => keepc hLe (bs) (by (try simp) <;> omega) i
                    have kf := fun i => keepf hLe (bs) (by (try simp) <;> omega) i
                    refine wpOp_plain rfl rfl (fun K hK => ?_)
                    go_simp
                    exact hK _ _ ⟨rfl, Below.refl _ _⟩
                  apply still_cons
                  · intro a' w' hLe hfr hdep
                    have e55 := hdep 3 55 (Nat.le_of_ble_eq_true rfl) rfl rfl
                    conv at e55 => rhs; whnf
                    have f55 := e55; simp only [Array.getD_eq_getD_getElem?] at f55
                    have e59 := hdep 7 59 (Nat.le_of_ble_eq_true rfl) rfl rfl
                    conv at e59 => rhs; whnf
                    have f59 := e59; simp only [Array.getD_eq_getD_getElem?] at f59
                    refine wpOp_plain rfl rfl (fun K hK => ?_)
                    go_simp
                    exact hK _ _ ⟨rfl, Below.refl _ _⟩
                  apply still_cons
                  · intro a' w' hLe hfr hdep
                    have e52 := hdep 0 52 (Nat.le_of_ble_eq_true rfl) rfl rfl
                    conv at e52 => rhs; whnf
                    have f52 := e52; simp only [Array.getD_eq_getD_getElem?] at f52
                    have e53 := hdep 1 53 (Nat.le_of_ble_eq_true rfl) rfl rfl
                    conv at e53 => rhs; whnf
                    have f53 := e53; simp only [Array.getD_eq_getD_getElem?] at f53
                    refine wpOp_plain rfl rfl (fun K hK => ?_)
                    go_simp
                    exact hK _ _ ⟨rfl, Below.refl _ _⟩
                  apply still_nil
                  intro w17 hb17
                  simp only [putAll, List.drop_succ_cons, List.drop_zero]
                  go_simp
                  have hQ17 := hQj.next hb17
                  have hB17 := Below.tr hBj hb17
                  clear p0 h0 fp fh q0 s0 hQj hBj hb17
                  obtain ⟨p0, h0, fp, fh⟩ := hQ17.cells hjn
                  have hQ18 := hQ17.setH (show w.heap.size ≠ w.heap.size + 1 by omega) j (t.hv j + sh j)
                  have hB18 : Below w.heap.size w (w17.setCell ⟨w.heap.size + 1, j, none⟩ (.int .i64 (t.hv j + sh j))) := Below.st hB17 (by simp) _
                  go_wp2_with fail
                  clear p0 h0 fp fh
                  go_loopg [10] (qn j - t.pl j) (fun gk v wi => ∃ (p : Nat) (x : Int) (o : Outs), gk + p = qn j ∧ t.pl j ≤ p ∧ 0 ≤ x ∧ x ≤ 100 ∧ o.length + t.pl j = t.out.length + p ∧ sendR j (qn j) (q j) p x o = sendR j (qn j) (q j) (t.pl j) (t.hv j + sh j) t.out ∧ QM wi w.heap.size w.heap.size (w.heap.size + 1) k (upd t.pl j p) (upd t.hv j x) v o ∧ Below w.heap.size w wi)
                  case atStart => exact ⟨t.pl j, t.hv j + sh j, t.out, by omega, by omega, by omega, by omega, rfl, rfl, hQ18.congr (upd_self _ _).symm rfl, hB18⟩
                  case round =>
                    obtain ⟨p, x, o, hgk, hp0, hx0, hx1, hol, hT, hQi, hBi⟩ := hrel
                    clear hQ17 hB17 hQ18 hB18
                    have HT2 := Lib.hid hT
                    have HGK := Lib.hid hgk
                    have HOL := Lib.hid hol
                    have hpq : p ≤ qn j := by omega
                    have hob : o.length ≤ 40 := by omega
                    clear hT hgk hol
                    obtain ⟨Ay, cy, rfl, hncy, hcmy⟩ := hQi.2.2.form
                    unfold maxLen at hcmy
                    obtain ⟨p0, h0, fp, fh⟩ := hQi.cells hjn
                    rw [upd_same] at p0 h0
                    have hgl := hQi.lt
                    have hgp := hgl.1
                    have hgh := hgl.2
                    have hszi := hBi.size
                    clear hgl
                    by_cases hA : p < qn j
                    · obtain ⟨b2, o2, rfl, hb2, hc2⟩ := hIj.out.2 (by omega)
                      have hr2 := hc2 p hA
                      rw [Nat.mul_one] at hr2
                      have hb2l : b2 < wr.heap.size := by omega
                      have z0 : wr.cell? ⟨b2, o2 + p, none⟩ = some (.int .i64 (q j p)) := (keepc hBi b2 (by omega) _).trans (hr2 0 _ rfl)
                      obtain ⟨u1, u2⟩ := HB4.out p hA
                      clear hr2 hc2
                      by_cases hX : q j p ≤ x
                      · have hd1 : decide (q j p ≤ x) = true := by simpa using hX
                        have hd2 : decide ((p : Int) < (qn j : Int)) = true := by simp; omega
                        have HT3 := Lib.hid ((sendR_more (k := j) (o := o) hA hX).symm.trans HT2.out)
                        go_upto_region 18 with (fail)
                        refine wp_region_still (ds := [(0, 62), (1, 63), (2, 64), (3, 65), (4, 66), (5, 67), (6, 68), (7, 69), (8, 70), (9, 71), (10, 72), (11, 73), (12, 74), (13, 75), (14, 76), (15, 77), (16, 78), (17, 79), (18, 80), (19, 81), (20, 82)]) 21 (by kernel_rfl) (by kernel_rfl) (by first | exact .inl rfl | exact .inr (by kernel_rfl)) (by rfl) rfl rfl ?_
                        apply still_cons
                        · intro a' w' hLe hfr hdep
                          have e8 := hfr 8 rfl
                          conv at e8 => rhs; whnf
                          have f8 := e8; simp only [Array.getD_eq_getD_getElem?] at f8
                          refine wpOp_plain rfl rfl (fun K hK => ?_)
                          go_simp
                          exact hK _ _ ⟨rfl, Below.refl _ _⟩
                        apply still_cons
                        · intro a' w' hLe hfr hdep
                          have e11 := hfr 11 rfl
                          conv at e11 => rhs; whnf
                          have f11 := e11; simp only [Array.getD_eq_getD_getElem?] at f11
                          refine wpOp_plain rfl rfl (fun K hK => ?_)
                          go_simp
                          exact hK _ _ ⟨rfl, Below.refl _ _⟩
                        apply still_cons
                        · intro a' w' hLe hfr hdep
                          have e62 := hdep 0 62 (Nat.le_of_ble_eq_true rfl) rfl rfl
                          conv at e62 => rhs; whnf
                          have f62 := e62; simp only [Array.getD_eq_getD_getElem?] at f62
                          have e63 := hdep 1 63 (Nat.le_of_ble_eq_true rfl) rfl rfl
                          conv at e63 => rhs; whnf
                          have f63 := e63; simp only [Array.getD_eq_getD_getElem?] at f63
                          refine wpOp_plain rfl rfl (fun K hK => ?_)
                          go_simp
                          exact hK _ _ ⟨rfl, Below.refl _ _⟩
                        apply still_cons
                        · intro a' w' hLe hfr hdep
                          have e64 := hdep 2 64 (Nat.le_of_ble_eq_true rfl) rfl rfl
                          conv at e64 => rhs; whnf
                          have f64 := e64; simp only [Array.getD_eq_getD_getElem?] at f64
                          have kc := fun i => keepc hLe (w.heap.size) (by (try simp) <;> omega) i
                          have kf := fun i => keepf hLe (w.heap.size) (by (try simp) <;> omega) i
                          have kc := fun i => keepc hLe (w.heap.size + 1) (by (try simp) <;> omega) i
                          have kf := fun i => keepf hLe (w.heap.size + 1) (by (try simp) <;> omega) i
                          have kc := fun i => keepc hLe (b2) (by (try simp) <;> omega) i
                          have kf := fun i => keepf hLe (b2) (by (try simp) <;> omega) i
                          refine wpOp_plain rfl rfl (fun K hK => ?_)
                          go_simp
                          exact hK _ _ ⟨rfl, Below.refl _ _⟩
                        apply still_cons
                        · intro a' w' hLe hfr hdep
                          have e12 := hfr 12 rfl
                          conv at e12 => rhs; whnf
                          have f12 := e12; simp only [Array.getD_eq_getD_getElem?] at f12
                          refine wpOp_plain rfl rfl (fun K hK => ?_)
                          go_simp
                          exact hK _ _ ⟨rfl, Below.refl _ _⟩
                        apply still_cons
                        · intro a' w' hLe hfr hdep
                          have e66 := hdep 4 66 (Nat.le_of_ble_eq_true rfl) rfl rfl
                          conv at e66 => rhs; whnf
                          have f66 := e66; simp only [Array.getD_eq_getD_getElem?] at f66
                          refine wpOp_plain rfl rfl (fun K hK => ?_)
                          go_simp
                          exact hK _ _ ⟨rfl, Below.refl _ _⟩
                        apply still_cons
                        · intro a' w' hLe hfr hdep
                          have e65 := hdep 3 65 (Nat.le_of_ble_eq_true rfl) rfl rfl
                          conv at e65 => rhs; whnf
                          have f65 := e65; simp only [Array.getD_eq_getD_getElem?] at f65
                          have e67 := hdep 5 67 (Nat.le_of_ble_eq_true rfl) rfl rfl
                          conv at e67 => rhs; whnf
                          have f67 := e67; simp only [Array.getD_eq_getD_getElem?] at f67
                          refine wpOp_plain rfl rfl (fun K hK => ?_)
                          go_simp
                          exact hK _ _ ⟨rfl, Below.refl _ _⟩
                        apply still_cons
                        · intro a' w' hLe hfr hdep
                          have e68 := hdep 6 68 (Nat.le_of_ble_eq_true rfl) rfl rfl
                          conv at e68 => rhs; whnf
                          have f68 := e68; simp only [Array.getD_eq_getD_getElem?] at f68
                          refine wpOp_plain rfl rfl (fun K hK => ?_)
                          go_simp
                          exact hK _ _ ⟨rfl, Below.refl _ _⟩
                        apply still_cons
                        · intro a' w' hLe hfr hdep
                          have e69 := hdep 7 69 (Nat.le_of_ble_eq_true rfl) rfl rfl
                          conv at e69 => rhs; whnf
                          have f69 := e69; simp only [Array.getD_eq_getD_getElem?] at f69
                          have e9 := hfr 9 rfl
                          conv at e9 => rhs; whnf
                          have f9 := e9; simp only [Array.getD_eq_getD_getElem?] at f9
                          refine wpOp_yes rfl rfl rfl e69 (fun K hK => ?_)
                          go_simp
                          exact hK _ _ ⟨rfl, Below.refl _ _⟩
                        apply still_cons
                        · intro a' w' hLe hfr hdep
                          have e69 := hdep 7 69 (Nat.le_of_ble_eq_true rfl) rfl rfl
                          conv at e69 => rhs; whnf
                          have f69 := e69; simp only [Array.getD_eq_getD_getElem?] at f69
                          have e11 := hfr 11 rfl
                          conv at e11 => rhs; whnf
                          have f11 := e11; simp only [Array.getD_eq_getD_getElem?] at f11
                          refine wpOp_yes rfl rfl rfl e69 (fun K hK => ?_)
                          go_simp
                          exact hK _ _ ⟨rfl, Below.refl _ _⟩
                        apply still_cons
                        · intro a' w' hLe hfr hdep
                          have e69 := hdep 7 69 (Nat.le_of_ble_eq_true rfl) rfl rfl
                          conv at e69 => rhs; whnf
                          have f69 := e69; simp only [Array.getD_eq_getD_getElem?] at f69
                          have e70 := hdep 8 70 (Nat.le_of_ble_eq_true rfl) rfl rfl
                          conv at e70 => rhs; whnf
                          have f70 := e70; simp only [Array.getD_eq_getD_getElem?] at f70
                          have e71 := hdep 9 71 (Nat.le_of_ble_eq_true rfl) rfl rfl
                          conv at e71 => rhs; whnf
                          have f71 := e71; simp only [Array.getD_eq_getD_getElem?] at f71
                          refine wpOp_yes rfl rfl rfl e69 (fun K hK => ?_)
                          go_simp
                          exact hK _ _ ⟨rfl, Below.refl _ _⟩
                        apply still_cons
                        · intro a' w' hLe hfr hdep
                          have e69 := hdep 7 69 (Nat.le_of_ble_eq_true rfl) rfl rfl
                          conv at e69 => rhs; whnf
                          have f69 := e69; simp only [Array.getD_eq_getD_getElem?] at f69
                          have e72 := hdep 10 72 (Nat.le_of_ble_eq_true rfl) rfl rfl
                          conv at e72 => rhs; whnf
                          have f72 := e72; simp only [Array.getD_eq_getD_getElem?] at f72
                          have kc := fun i => keepc hLe (w.heap.size) (by (try simp) <;> omega) i
                          have kf := fun i => keepf hLe (w.heap.size) (by (try simp) <;> omega) i
                          have kc := fun i => keepc hLe (w.heap.size + 1) (by (try simp) <;> omega) i
                          have kf := fun i => keepf hLe (w.heap.size + 1) (by (try simp) <;> omega) i
                          have kc := fun i => keepc hLe (b2) (by (try simp) <;> omega) i
                          have kf := fun i => keepf hLe (b2) (by (try simp) <;> omega) i
                          refine wpOp_yes rfl rfl rfl e69 (fun K hK => ?_)
                          go_simp
                          exact hK _ _ ⟨rfl, Below.refl _ _⟩
                        apply still_cons
                        · intro a' w' hLe hfr hdep
                          have e69 := hdep 7 69 (Nat.le_of_ble_eq_true rfl) rfl rfl
                          conv at e69 => rhs; whnf
                          have f69 := e69; simp only [Array.getD_eq_getD_getElem?] at f69
                          have e12 := hfr 12 rfl
                          conv at e12 => rhs; whnf
                          have f12 := e12; simp only [Array.getD_eq_getD_getElem?] at f12
                          refine wpOp_yes rfl rfl rfl e69 (fun K hK => ?_)
                          go_simp
                          exact hK _ _ ⟨rfl, Below.refl _ _⟩
                        apply still_cons
                        · intro a' w' hLe hfr hdep
                          have e69 := hdep 7 69 (Nat.le_of_ble_eq_true rfl) rfl rfl
                          conv at e69 => rhs; whnf
                          have f69 := e69; simp only [Array.getD_eq_getD_getElem?] at f69
                          have e8 := hfr 8 rfl
                          conv at e8 => rhs; whnf
                          have f8 := e8; simp only [Array.getD_eq_getD_getElem?] at f8
                          refine wpOp_yes rfl rfl rfl e69 (fun K hK => ?_)
                          go_simp
                          exact hK _ _ ⟨rfl, Below.refl _ _⟩
                        apply still_cons
                        · intro a' w' hLe hfr hdep
                          have e69 := hdep 7 69 (Nat.le_of_ble_eq_true rfl) rfl rfl
                          conv at e69 => rhs; whnf
                          have f69 := e69; simp only [Array.getD_eq_getD_getElem?] at f69
                          have e11 := hfr 11 rfl
                          conv at e11 => rhs; whnf
                          have f11 := e11; simp only [Array.getD_eq_getD_getElem?] at f11
                          refine wpOp_yes rfl rfl rfl e69 (fun K hK => ?_)
                          go_simp
                          exact hK _ _ ⟨rfl, Below.refl _ _⟩
                        apply still_cons
                        · intro a' w' hLe hfr hdep
                          have e69 := hdep 7 69 (Nat.le_of_ble_eq_true rfl) rfl rfl
                          conv at e69 => rhs; whnf
                          have f69 := e69; simp only [Array.getD_eq_getD_getElem?] at f69
                          have e75 := hdep 13 75 (Nat.le_of_ble_eq_true rfl) rfl rfl
                          conv at e75 => rhs; whnf
                          have f75 := e75; simp only [Array.getD_eq_getD_getElem?] at f75
                          have e76 := hdep 14 76 (Nat.le_of_ble_eq_true rfl) rfl rfl
                          conv at e76 => rhs; whnf
                          have f76 := e76; simp only [Array.getD_eq_getD_getElem?] at f76
                          refine wpOp_yes rfl rfl rfl e69 (fun K hK => ?_)
                          go_simp
                          exact hK _ _ ⟨rfl, Below.refl _ _⟩
                        apply still_cons
                        · intro a' w' hLe hfr hdep
                          have e69 := hdep 7 69 (Nat.le_of_ble_eq_true rfl) rfl rfl
                          conv at e69 => rhs; whnf
                          have f69 := e69; simp only [Array.getD_eq_getD_getElem?] at f69
                          have e77 := hdep 15 77 (Nat.le_of_ble_eq_true rfl) rfl rfl
                          conv at e77 => rhs; whnf
                          have f77 := e77; simp only [Array.getD_eq_getD_getElem?] at f77
                          have kc := fun i => keepc hLe (w.heap.size) (by (try simp) <;> omega) i
                          have kf := fun i => keepf hLe (w.heap.size) (by (try simp) <;> omega) i
                          have kc := fun i => keepc hLe (w.heap.size + 1) (by (try simp) <;> omega) i
                          have kf := fun i => keepf hLe (w.heap.size + 1) (by (try simp) <;> omega) i
                          have kc := fun i => keepc hLe (b2) (by (try simp) <;> omega) i
                          have kf := fun i => keepf hLe (b2) (by (try simp) <;> omega) i
                          refine wpOp_yes rfl rfl rfl e69 (fun K hK => ?_)
                          go_simp
                          exact hK _ _ ⟨rfl, Below.refl _ _⟩
                        apply still_cons
                        · intro a' w' hLe hfr hdep
                          have e69 := hdep 7 69 (Nat.le_of_ble_eq_true rfl) rfl rfl
                          conv at e69 => rhs; whnf
                          have f69 := e69; simp only [Array.getD_eq_getD_getElem?] at f69
                          have e74 := hdep 12 74 (Nat.le_of_ble_eq_true rfl) rfl rfl
                          conv at e74 => rhs; whnf
                          have f74 := e74; simp only [Array.getD_eq_getD_getElem?] at f74
                          have e78 := hdep 16 78 (Nat.le_of_ble_eq_true rfl) rfl rfl
                          conv at e78 => rhs; whnf
                          have f78 := e78; simp only [Array.getD_eq_getD_getElem?] at f78
                          refine wpOp_yes rfl rfl rfl e69 (fun K hK => ?_)
                          go_simp
                          exact hK _ _ ⟨rfl, Below.refl _ _⟩
                        apply still_cons
                        · intro a' w' hLe hfr hdep
                          have e69 := hdep 7 69 (Nat.le_of_ble_eq_true rfl) rfl rfl
                          conv at e69 => rhs; whnf
                          have f69 := e69; simp only [Array.getD_eq_getD_getElem?] at f69
                          have e79 := hdep 17 79 (Nat.le_of_ble_eq_true rfl) rfl rfl
                          conv at e79 => rhs; whnf
                          have f79 := e79; simp only [Array.getD_eq_getD_getElem?] at f79
                          have kc := fun i => keepc hLe (w.heap.size) (by (try simp) <;> omega) i
                          have kf := fun i => keepf hLe (w.heap.size) (by (try simp) <;> omega) i
                          have kc := fun i => keepc hLe (w.heap.size + 1) (by (try simp) <;> omega) i
                          have kf := fun i => keepf hLe (w.heap.size + 1) (by (try simp) <;> omega) i
                          have kc := fun i => keepc hLe (b2) (by (try simp) <;> omega) i
                          have kf := fun i => keepf hLe (b2) (by (try simp) <;> omega) i
                          refine wpOp_yes rfl rfl rfl e69 (fun K hK => ?_)
                          go_simp
                          exact hK _ _ ⟨rfl, Below.refl _ _⟩
                        apply still_cons
                        · intro a' w' hLe hfr hdep
                          have e69 := hdep 7 69 (Nat.le_of_ble_eq_true rfl) rfl rfl
                          conv at e69 => rhs; whnf
                          have f69 := e69; simp only [Array.getD_eq_getD_getElem?] at f69
                          have e73 := hdep 11 73 (Nat.le_of_ble_eq_true rfl) rfl rfl
                          conv at e73 => rhs; whnf
                          have f73 := e73; simp only [Array.getD_eq_getD_getElem?] at f73
                          have e80 := hdep 18 80 (Nat.le_of_ble_eq_true rfl) rfl rfl
                          conv at e80 => rhs; whnf
                          have f80 := e80; simp only [Array.getD_eq_getD_getElem?] at f80
                          refine wpOp_yes rfl rfl rfl e69 (fun K hK => ?_)
                          go_simp
                          exact hK _ _ ⟨rfl, Below.refl _ _⟩
                        apply still_cons
                        · intro a' w' hLe hfr hdep
                          have e69 := hdep 7 69 (Nat.le_of_ble_eq_true rfl) rfl rfl
                          conv at e69 => rhs; whnf
                          have f69 := e69; simp only [Array.getD_eq_getD_getElem?] at f69
                          have e81 := hdep 19 81 (Nat.le_of_ble_eq_true rfl) rfl rfl
                          conv at e81 => rhs; whnf
                          have f81 := e81; simp only [Array.getD_eq_getD_getElem?] at f81
                          refine wpOp_plain rfl rfl (fun K hK => ?_)
                          go_simp
                          exact hK _ _ ⟨rfl, Below.refl _ _⟩
                        apply still_nil
                        intro w18 hb18
                        simp only [putAll, List.drop_succ_cons, List.drop_zero]
                        go_simp
                        have hQ18 := hQi.next hb18
                        have hB18 := Below.tr hBi hb18
                        have z1 : w18.cell? ⟨b2, o2 + p, none⟩ = some (.int .i64 (q j p)) := (keepc hb18 b2 hb2l _).trans z0
                        have hs18 := hb18.size
                        clear p0 h0 fp fh z0 hQi hBi hb18
                        obtain ⟨p0, h0, fp, fh⟩ := hQ18.cells hjn
                        rw [upd_same] at p0 h0
                        have e19 : IntKind.i64.wrap (x - q j p) = x - q j p := IntWalk.i64_in _ (by omega)
                        go_upto_region 19 with (fail)
                        refine wp_region_still (ds := [(0, 83), (1, 84), (2, 85), (3, 86), (4, 87), (5, 88), (6, 89), (7, 90), (8, 91), (9, 92), (10, 93), (11, 94), (12, 95)]) 13 (by kernel_rfl) (by kernel_rfl) (by first | exact .inl rfl | exact .inr (by kernel_rfl)) (by rfl) rfl rfl ?_
                        apply still_cons
                        · intro a' w' hLe hfr hdep
                          have e9 := hfr 9 rfl
                          conv at e9 => rhs; whnf
                          have f9 := e9; simp only [Array.getD_eq_getD_getElem?] at f9
                          refine wpOp_plain rfl rfl (fun K hK => ?_)
                          go_simp
                          exact hK _ _ ⟨rfl, Below.refl _ _⟩
                        apply still_cons
                        · intro a' w' hLe hfr hdep
                          have e11 := hfr 11 rfl
                          conv at e11 => rhs; whnf
                          have f11 := e11; simp only [Array.getD_eq_getD_getElem?] at f11
                          refine wpOp_plain rfl rfl (fun K hK => ?_)
                          go_simp
                          exact hK _ _ ⟨rfl, Below.refl _ _⟩
                        apply still_cons
                        · intro a' w' hLe hfr hdep
                          have e83 := hdep 0 83 (Nat.le_of_ble_eq_true rfl) rfl rfl
                          conv at e83 => rhs; whnf
                          have f83 := e83; simp only [Array.getD_eq_getD_getElem?] at f83
                          have e84 := hdep 1 84 (Nat.le_of_ble_eq_true rfl) rfl rfl
                          conv at e84 => rhs; whnf
                          have f84 := e84; simp only [Array.getD_eq_getD_getElem?] at f84
                          refine wpOp_plain rfl rfl (fun K hK => ?_)
                          go_simp
                          exact hK _ _ ⟨rfl, Below.refl _ _⟩
                        apply still_cons
                        · intro a' w' hLe hfr hdep
                          have e85 := hdep 2 85 (Nat.le_of_ble_eq_true rfl) rfl rfl
                          conv at e85 => rhs; whnf
                          have f85 := e85; simp only [Array.getD_eq_getD_getElem?] at f85
                          have kc := fun i => keepc hLe (w.heap.size) (by (try simp) <;> omega) i
                          have kf := fun i => keepf hLe (w.heap.size) (by (try simp) <;> omega) i
                          have kc := fun i => keepc hLe (w.heap.size + 1) (by (try simp) <;> omega) i
                          have kf := fun i => keepf hLe (w.heap.size + 1) (by (try simp) <;> omega) i
                          have kc := fun i => keepc hLe (b2) (by (try simp) <;> omega) i
                          have kf := fun i => keepf hLe (b2) (by (try simp) <;> omega) i
                          refine wpOp_plain rfl rfl (fun K hK => ?_)
                          go_simp
                          exact hK _ _ ⟨rfl, Below.refl _ _⟩
                        apply still_cons
                        · intro a' w' hLe hfr hdep
                          have e12 := hfr 12 rfl
                          conv at e12 => rhs; whnf
                          have f12 := e12; simp only [Array.getD_eq_getD_getElem?] at f12
                          refine wpOp_plain rfl rfl (fun K hK => ?_)
                          go_simp
                          exact hK _ _ ⟨rfl, Below.refl _ _⟩
                        apply still_cons
                        · intro a' w' hLe hfr hdep
                          have e8 := hfr 8 rfl
                          conv at e8 => rhs; whnf
                          have f8 := e8; simp only [Array.getD_eq_getD_getElem?] at f8
                          refine wpOp_plain rfl rfl (fun K hK => ?_)
                          go_simp
                          exact hK _ _ ⟨rfl, Below.refl _ _⟩
                        apply still_cons
                        · intro a' w' hLe hfr hdep
                          have e11 := hfr 11 rfl
                          conv at e11 => rhs; whnf
                          have f11 := e11; simp only [Array.getD_eq_getD_getElem?] at f11
                          refine wpOp_plain rfl rfl (fun K hK => ?_)
                          go_simp
                          exact hK _ _ ⟨rfl, Below.refl _ _⟩
                        apply still_cons
                        · intro a' w' hLe hfr hdep
                          have e88 := hdep 5 88 (Nat.le_of_ble_eq_true rfl) rfl rfl
                          conv at e88 => rhs; whnf
                          have f88 := e88; simp only [Array.getD_eq_getD_getElem?] at f88
                          have e89 := hdep 6 89 (Nat.le_of_ble_eq_true rfl) rfl rfl
                          conv at e89 => rhs; whnf
                          have f89 := e89; simp only [Array.getD_eq_getD_getElem?] at f89
                          refine wpOp_plain rfl rfl (fun K hK => ?_)
                          go_simp
                          exact hK _ _ ⟨rfl, Below.refl _ _⟩
                        apply still_cons
                        · intro a' w' hLe hfr hdep
                          have e90 := hdep 7 90 (Nat.le_of_ble_eq_true rfl) rfl rfl
                          conv at e90 => rhs; whnf
                          have f90 := e90; simp only [Array.getD_eq_getD_getElem?] at f90
                          have kc := fun i => keepc hLe (w.heap.size) (by (try simp) <;> omega) i
                          have kf := fun i => keepf hLe (w.heap.size) (by (try simp) <;> omega) i
                          have kc := fun i => keepc hLe (w.heap.size + 1) (by (try simp) <;> omega) i
                          have kf := fun i => keepf hLe (w.heap.size + 1) (by (try simp) <;> omega) i
                          have kc := fun i => keepc hLe (b2) (by (try simp) <;> omega) i
                          have kf := fun i => keepf hLe (b2) (by (try simp) <;> omega) i
                          refine wpOp_plain rfl rfl (fun K hK => ?_)
                          go_simp
                          exact hK _ _ ⟨rfl, Below.refl _ _⟩
                        apply still_cons
                        · intro a' w' hLe hfr hdep
                          have e87 := hdep 4 87 (Nat.le_of_ble_eq_true rfl) rfl rfl
                          conv at e87 => rhs; whnf
                          have f87 := e87; simp only [Array.getD_eq_getD_getElem?] at f87
                          have e91 := hdep 8 91 (Nat.le_of_ble_eq_true rfl) rfl rfl
                          conv at e91 => rhs; whnf
                          have f91 := e91; simp only [Array.getD_eq_getD_getElem?] at f91
                          refine wpOp_plain rfl rfl (fun K hK => ?_)
                          go_simp
                          exact hK _ _ ⟨rfl, Below.refl _ _⟩
                        apply still_cons
                        · intro a' w' hLe hfr hdep
                          have e92 := hdep 9 92 (Nat.le_of_ble_eq_true rfl) rfl rfl
                          conv at e92 => rhs; whnf
                          have f92 := e92; simp only [Array.getD_eq_getD_getElem?] at f92
                          have kc := fun i => keepc hLe (w.heap.size) (by (try simp) <;> omega) i
                          have kf := fun i => keepf hLe (w.heap.size) (by (try simp) <;> omega) i
                          have kc := fun i => keepc hLe (w.heap.size + 1) (by (try simp) <;> omega) i
                          have kf := fun i => keepf hLe (w.heap.size + 1) (by (try simp) <;> omega) i
                          have kc := fun i => keepc hLe (b2) (by (try simp) <;> omega) i
                          have kf := fun i => keepf hLe (b2) (by (try simp) <;> omega) i
                          refine wpOp_plain rfl rfl (fun K hK => ?_)
                          go_simp
                          exact hK _ _ ⟨rfl, Below.refl _ _⟩
                        apply still_cons
                        · intro a' w' hLe hfr hdep
                          have e86 := hdep 3 86 (Nat.le_of_ble_eq_true rfl) rfl rfl
                          conv at e86 => rhs; whnf
                          have f86 := e86; simp only [Array.getD_eq_getD_getElem?] at f86
                          have e93 := hdep 10 93 (Nat.le_of_ble_eq_true rfl) rfl rfl
                          conv at e93 => rhs; whnf
                          have f93 := e93; simp only [Array.getD_eq_getD_getElem?] at f93
                          refine wpOp_plain rfl rfl (fun K hK => ?_)
                          go_simp
                          exact hK _ _ ⟨rfl, Below.refl _ _⟩
                        apply still_cons
                        · intro a' w' hLe hfr hdep
                          have e83 := hdep 0 83 (Nat.le_of_ble_eq_true rfl) rfl rfl
                          conv at e83 => rhs; whnf
                          have f83 := e83; simp only [Array.getD_eq_getD_getElem?] at f83
                          have e84 := hdep 1 84 (Nat.le_of_ble_eq_true rfl) rfl rfl
                          conv at e84 => rhs; whnf
                          have f84 := e84; simp only [Array.getD_eq_getD_getElem?] at f84
                          refine wpOp_plain rfl rfl (fun K hK => ?_)
                          go_simp
                          exact hK _ _ ⟨rfl, Below.refl _ _⟩
                        apply still_nil
                        intro w19 hb19
                        simp only [putAll, List.drop_succ_cons, List.drop_zero]
                        go_simp
                        have hQ19 := hQ18.next hb19
                        have hB19 := Below.tr hB18 hb19
                        have hs19 := hb19.size
                        clear p0 h0 fp fh z1 hQ18 hB18 hb19
                        obtain ⟨p0, h0, fp, fh⟩ := hQ19.cells hjn
                        rw [upd_same] at p0 h0
                        have hQs := hQ19.setH (show w.heap.size ≠ w.heap.size + 1 by omega) j (x - q j p)
                        have hBs : Below w.heap.size w (w19.setCell ⟨w.heap.size + 1, j, none⟩ (.int .i64 (x - q j p))) := Below.st hB19 (by simp) _
                        have HQs := Lib.hid hQs
                        have HBs := Lib.hid hBs
                        clear hQs hBs hQ19 hB19
                        go_wp2_with (at_builtin; refine wpList_push rfl (.tmp 96) (.tmp 103) 35 rfl 39 _ 2 16 Try.underlying35 info_sent2 (by decide) (by decide) (by decide) rfl ((HQs.out.next (Below.al (Below.refl _ _) _)).acc (j, p)) rfl (heap_set_new _ _ _ _) (by rw [outR_last]) (outR_one _ _) (by omega) (by simp [World.setCell] <;> omega) ?_; intro v' w20 hA20 hB20 hg20; have hQ20 := (HQs.out.next (Below.al (Below.refl _ _) _)).push hg20 hA20; obtain ⟨p20, _, fp20, _⟩ := hQ20.cells hjn; rw [upd_same] at p20)
                        go_roundg (qn j - (p + 1))
                        case measure => have := HGK.out; omega
                        case rel =>
                          have hQ21 := hQ20.setP (show w.heap.size ≠ w.heap.size + 1 by omega) j (p + 1)
                          rw [Int.natCast_add] at hQ21
                          refine ⟨p + 1, x - q j p, o ++ [(j, p)], by have := HGK.out; omega, by omega, by omega, by omega, by have := HOL.out; simp; omega, HT3.out, hQ21.congr (upd_upd _ _ _ _) (upd_upd _ _ _ _), ?_⟩
                          exact Below.st ((Below.al HBs.out _).trans hB20) (by simp) _
                      · have hd1 : decide (q j p ≤ x) = false := by simpa using hX
                        have hd2 : decide ((p : Int) < (qn j : Int)) = true := by simp; omega
                        have hst := Lib.hid (hst2.out HPE.out p x o HT2.out (fun h => hX h.2))
                        go_upto_region 18 with (fail)
                        refine wp_region_still (ds := [(0, 62), (1, 63), (2, 64), (3, 65), (4, 66), (5, 67), (6, 68), (7, 69), (8, 70), (9, 71), (10, 72), (11, 73), (12, 74), (13, 75), (14, 76), (15, 77), (16, 78), (17, 79), (18, 80), (19, 81), (20, 82)]) 21 (by kernel_rfl) (by kernel_rfl) (by first | exact .inl rfl | exact .inr (by kernel_rfl)) (by rfl) rfl rfl ?_
                        apply still_cons
                        · intro a' w' hLe hfr hdep
                          have e8 := hfr 8 rfl
                          conv at e8 => rhs; whnf
                          have f8 := e8; simp only [Array.getD_eq_getD_getElem?] at f8
                          refine wpOp_plain rfl rfl (fun K hK => ?_)
                          go_simp
                          exact hK _ _ ⟨rfl, Below.refl _ _⟩
                        apply still_cons
                        · intro a' w' hLe hfr hdep
                          have e11 := hfr 11 rfl
                          conv at e11 => rhs; whnf
                          have f11 := e11; simp only [Array.getD_eq_getD_getElem?] at f11
                          refine wpOp_plain rfl rfl (fun K hK => ?_)
                          go_simp
                          exact hK _ _ ⟨rfl, Below.refl _ _⟩
                        apply still_cons
                        · intro a' w' hLe hfr hdep
                          have e62 := hdep 0 62 (Nat.le_of_ble_eq_true rfl) rfl rfl
                          conv at e62 => rhs; whnf
                          have f62 := e62; simp only [Array.getD_eq_getD_getElem?] at f62
                          have e63 := hdep 1 63 (Nat.le_of_ble_eq_true rfl) rfl rfl
                          conv at e63 => rhs; whnf
                          have f63 := e63; simp only [Array.getD_eq_getD_getElem?] at f63
                          refine wpOp_plain rfl rfl (fun K hK => ?_)
                          go_simp
                          exact hK _ _ ⟨rfl, Below.refl _ _⟩
                        apply still_cons
                        · intro a' w' hLe hfr hdep
                          have e64 := hdep 2 64 (Nat.le_of_ble_eq_true rfl) rfl rfl
                          conv at e64 => rhs; whnf
                          have f64 := e64; simp only [Array.getD_eq_getD_getElem?] at f64
                          have kc := fun i => keepc hLe (w.heap.size) (by (try simp) <;> omega) i
                          have kf := fun i => keepf hLe (w.heap.size) (by (try simp) <;> omega) i
                          have kc := fun i => keepc hLe (w.heap.size + 1) (by (try simp) <;> omega) i
                          have kf := fun i => keepf hLe (w.heap.size + 1) (by (try simp) <;> omega) i
                          have kc := fun i => keepc hLe (b2) (by (try simp) <;> omega) i
                          have kf := fun i => keepf hLe (b2) (by (try simp) <;> omega) i
                          refine wpOp_plain rfl rfl (fun K hK => ?_)
                          go_simp
                          exact hK _ _ ⟨rfl, Below.refl _ _⟩
                        apply still_cons
                        · intro a' w' hLe hfr hdep
                          have e12 := hfr 12 rfl
                          conv at e12 => rhs; whnf
                          have f12 := e12; simp only [Array.getD_eq_getD_getElem?] at f12
                          refine wpOp_plain rfl rfl (fun K hK => ?_)
                          go_simp
                          exact hK _ _ ⟨rfl, Below.refl _ _⟩
                        apply still_cons
                        · intro a' w' hLe hfr hdep
                          have e66 := hdep 4 66 (Nat.le_of_ble_eq_true rfl) rfl rfl
                          conv at e66 => rhs; whnf
                          have f66 := e66; simp only [Array.getD_eq_getD_getElem?] at f66
                          refine wpOp_plain rfl rfl (fun K hK => ?_)
                          go_simp
                          exact hK _ _ ⟨rfl, Below.refl _ _⟩
                        apply still_cons
                        · intro a' w' hLe hfr hdep
                          have e65 := hdep 3 65 (Nat.le_of_ble_eq_true rfl) rfl rfl
                          conv at e65 => rhs; whnf
                          have f65 := e65; simp only [Array.getD_eq_getD_getElem?] at f65
                          have e67 := hdep 5 67 (Nat.le_of_ble_eq_true rfl) rfl rfl
                          conv at e67 => rhs; whnf
                          have f67 := e67; simp only [Array.getD_eq_getD_getElem?] at f67
                          refine wpOp_plain rfl rfl (fun K hK => ?_)
                          go_simp
                          exact hK _ _ ⟨rfl, Below.refl _ _⟩
                        apply still_cons
                        · intro a' w' hLe hfr hdep
                          have e68 := hdep 6 68 (Nat.le_of_ble_eq_true rfl) rfl rfl
                          conv at e68 => rhs; whnf
                          have f68 := e68; simp only [Array.getD_eq_getD_getElem?] at f68
                          refine wpOp_plain rfl rfl (fun K hK => ?_)
                          go_simp
                          exact hK _ _ ⟨rfl, Below.refl _ _⟩
                        apply still_cons
                        · intro a' w' hLe hfr hdep
                          have e69 := hdep 7 69 (Nat.le_of_ble_eq_true rfl) rfl rfl
                          conv at e69 => rhs; whnf
                          have f69 := e69; simp only [Array.getD_eq_getD_getElem?] at f69
                          have e9 := hfr 9 rfl
                          conv at e9 => rhs; whnf
                          have f9 := e9; simp only [Array.getD_eq_getD_getElem?] at f9
                          refine wpOp_yes rfl rfl rfl e69 (fun K hK => ?_)
                          go_simp
                          exact hK _ _ ⟨rfl, Below.refl _ _⟩
                        apply still_cons
                        · intro a' w' hLe hfr hdep
                          have e69 := hdep 7 69 (Nat.le_of_ble_eq_true rfl) rfl rfl
                          conv at e69 => rhs; whnf
                          have f69 := e69; simp only [Array.getD_eq_getD_getElem?] at f69
                          have e11 := hfr 11 rfl
                          conv at e11 => rhs; whnf
                          have f11 := e11; simp only [Array.getD_eq_getD_getElem?] at f11
                          refine wpOp_yes rfl rfl rfl e69 (fun K hK => ?_)
                          go_simp
                          exact hK _ _ ⟨rfl, Below.refl _ _⟩
                        apply still_cons
                        · intro a' w' hLe hfr hdep
                          have e69 := hdep 7 69 (Nat.le_of_ble_eq_true rfl) rfl rfl
                          conv at e69 => rhs; whnf
                          have f69 := e69; simp only [Array.getD_eq_getD_getElem?] at f69
                          have e70 := hdep 8 70 (Nat.le_of_ble_eq_true rfl) rfl rfl
                          conv at e70 => rhs; whnf
                          have f70 := e70; simp only [Array.getD_eq_getD_getElem?] at f70
                          have e71 := hdep 9 71 (Nat.le_of_ble_eq_true rfl) rfl rfl
                          conv at e71 => rhs; whnf
                          have f71 := e71; simp only [Array.getD_eq_getD_getElem?] at f71
                          refine wpOp_yes rfl rfl rfl e69 (fun K hK => ?_)
                          go_simp
                          exact hK _ _ ⟨rfl, Below.refl _ _⟩
                        apply still_cons
                        · intro a' w' hLe hfr hdep
                          have e69 := hdep 7 69 (Nat.le_of_ble_eq_true rfl) rfl rfl
                          conv at e69 => rhs; whnf
                          have f69 := e69; simp only [Array.getD_eq_getD_getElem?] at f69
                          have e72 := hdep 10 72 (Nat.le_of_ble_eq_true rfl) rfl rfl
                          conv at e72 => rhs; whnf
                          have f72 := e72; simp only [Array.getD_eq_getD_getElem?] at f72
                          have kc := fun i => keepc hLe (w.heap.size) (by (try simp) <;> omega) i
                          have kf := fun i => keepf hLe (w.heap.size) (by (try simp) <;> omega) i
                          have kc := fun i => keepc hLe (w.heap.size + 1) (by (try simp) <;> omega) i
                          have kf := fun i => keepf hLe (w.heap.size + 1) (by (try simp) <;> omega) i
                          have kc := fun i => keepc hLe (b2) (by (try simp) <;> omega) i
                          have kf := fun i => keepf hLe (b2) (by (try simp) <;> omega) i
                          refine wpOp_yes rfl rfl rfl e69 (fun K hK => ?_)
                          go_simp
                          exact hK _ _ ⟨rfl, Below.refl _ _⟩
                        apply still_cons
                        · intro a' w' hLe hfr hdep
                          have e69 := hdep 7 69 (Nat.le_of_ble_eq_true rfl) rfl rfl
                          conv at e69 => rhs; whnf
                          have f69 := e69; simp only [Array.getD_eq_getD_getElem?] at f69
                          have e12 := hfr 12 rfl
                          conv at e12 => rhs; whnf
                          have f12 := e12; simp only [Array.getD_eq_getD_getElem?] at f12
                          refine wpOp_yes rfl rfl rfl e69 (fun K hK => ?_)
                          go_simp
                          exact hK _ _ ⟨rfl, Below.refl _ _⟩
                        apply still_cons
                        · intro a' w' hLe hfr hdep
                          have e69 := hdep 7 69 (Nat.le_of_ble_eq_true rfl) rfl rfl
                          conv at e69 => rhs; whnf
                          have f69 := e69; simp only [Array.getD_eq_getD_getElem?] at f69
                          have e8 := hfr 8 rfl
                          conv at e8 => rhs; whnf
                          have f8 := e8; simp only [Array.getD_eq_getD_getElem?] at f8
                          refine wpOp_yes rfl rfl rfl e69 (fun K hK => ?_)
                          go_simp
                          exact hK _ _ ⟨rfl, Below.refl _ _⟩
                        apply still_cons
                        · intro a' w' hLe hfr hdep
                          have e69 := hdep 7 69 (Nat.le_of_ble_eq_true rfl) rfl rfl
                          conv at e69 => rhs; whnf
                          have f69 := e69; simp only [Array.getD_eq_getD_getElem?] at f69
                          have e11 := hfr 11 rfl
                          conv at e11 => rhs; whnf
                          have f11 := e11; simp only [Array.getD_eq_getD_getElem?] at f11
                          refine wpOp_yes rfl rfl rfl e69 (fun K hK => ?_)
                          go_simp
                          exact hK _ _ ⟨rfl, Below.refl _ _⟩
                        apply still_cons
                        · intro a' w' hLe hfr hdep
                          have e69 := hdep 7 69 (Nat.le_of_ble_eq_true rfl) rfl rfl
                          conv at e69 => rhs; whnf
                          have f69 := e69; simp only [Array.getD_eq_getD_getElem?] at f69
                          have e75 := hdep 13 75 (Nat.le_of_ble_eq_true rfl) rfl rfl
                          conv at e75 => rhs; whnf
                          have f75 := e75; simp only [Array.getD_eq_getD_getElem?] at f75
                          have e76 := hdep 14 76 (Nat.le_of_ble_eq_true rfl) rfl rfl
                          conv at e76 => rhs; whnf
                          have f76 := e76; simp only [Array.getD_eq_getD_getElem?] at f76
                          refine wpOp_yes rfl rfl rfl e69 (fun K hK => ?_)
                          go_simp
                          exact hK _ _ ⟨rfl, Below.refl _ _⟩
                        apply still_cons
                        · intro a' w' hLe hfr hdep
                          have e69 := hdep 7 69 (Nat.le_of_ble_eq_true rfl) rfl rfl
                          conv at e69 => rhs; whnf
                          have f69 := e69; simp only [Array.getD_eq_getD_getElem?] at f69
                          have e77 := hdep 15 77 (Nat.le_of_ble_eq_true rfl) rfl rfl
                          conv at e77 => rhs; whnf
                          have f77 := e77; simp only [Array.getD_eq_getD_getElem?] at f77
                          have kc := fun i => keepc hLe (w.heap.size) (by (try simp) <;> omega) i
                          have kf := fun i => keepf hLe (w.heap.size) (by (try simp) <;> omega) i
                          have kc := fun i => keepc hLe (w.heap.size + 1) (by (try simp) <;> omega) i
                          have kf := fun i => keepf hLe (w.heap.size + 1) (by (try simp) <;> omega) i
                          have kc := fun i => keepc hLe (b2) (by (try simp) <;> omega) i
                          have kf := fun i => keepf hLe (b2) (by (try simp) <;> omega) i
                          refine wpOp_yes rfl rfl rfl e69 (fun K hK => ?_)
                          go_simp
                          exact hK _ _ ⟨rfl, Below.refl _ _⟩
                        apply still_cons
                        · intro a' w' hLe hfr hdep
                          have e69 := hdep 7 69 (Nat.le_of_ble_eq_true rfl) rfl rfl
                          conv at e69 => rhs; whnf
                          have f69 := e69; simp only [Array.getD_eq_getD_getElem?] at f69
                          have e74 := hdep 12 74 (Nat.le_of_ble_eq_true rfl) rfl rfl
                          conv at e74 => rhs; whnf
                          have f74 := e74; simp only [Array.getD_eq_getD_getElem?] at f74
                          have e78 := hdep 16 78 (Nat.le_of_ble_eq_true rfl) rfl rfl
                          conv at e78 => rhs; whnf
                          have f78 := e78; simp only [Array.getD_eq_getD_getElem?] at f78
                          refine wpOp_yes rfl rfl rfl e69 (fun K hK => ?_)
                          go_simp
                          exact hK _ _ ⟨rfl, Below.refl _ _⟩
                        apply still_cons
                        · intro a' w' hLe hfr hdep
                          have e69 := hdep 7 69 (Nat.le_of_ble_eq_true rfl) rfl rfl
                          conv at e69 => rhs; whnf
                          have f69 := e69; simp only [Array.getD_eq_getD_getElem?] at f69
                          have e79 := hdep 17 79 (Nat.le_of_ble_eq_true rfl) rfl rfl
                          conv at e79 => rhs; whnf
                          have f79 := e79; simp only [Array.getD_eq_getD_getElem?] at f79
                          have kc := fun i => keepc hLe (w.heap.size) (by (try simp) <;> omega) i
                          have kf := fun i => keepf hLe (w.heap.size) (by (try simp) <;> omega) i
                          have kc := fun i => keepc hLe (w.heap.size + 1) (by (try simp) <;> omega) i
                          have kf := fun i => keepf hLe (w.heap.size + 1) (by (try simp) <;> omega) i
                          have kc := fun i => keepc hLe (b2) (by (try simp) <;> omega) i
                          have kf := fun i => keepf hLe (b2) (by (try simp) <;> omega) i
                          refine wpOp_yes rfl rfl rfl e69 (fun K hK => ?_)
                          go_simp
                          exact hK _ _ ⟨rfl, Below.refl _ _⟩
                        apply still_cons
                        · intro a' w' hLe hfr hdep
                          have e69 := hdep 7 69 (Nat.le_of_ble_eq_true rfl) rfl rfl
                          conv at e69 => rhs; whnf
                          have f69 := e69; simp only [Array.getD_eq_getD_getElem?] at f69
                          have e73 := hdep 11 73 (Nat.le_of_ble_eq_true rfl) rfl rfl
                          conv at e73 => rhs; whnf
                          have f73 := e73; simp only [Array.getD_eq_getD_getElem?] at f73
                          have e80 := hdep 18 80 (Nat.le_of_ble_eq_true rfl) rfl rfl
                          conv at e80 => rhs; whnf
                          have f80 := e80; simp only [Array.getD_eq_getD_getElem?] at f80
                          refine wpOp_yes rfl rfl rfl e69 (fun K hK => ?_)
                          go_simp
                          exact hK _ _ ⟨rfl, Below.refl _ _⟩
                        apply still_cons
                        · intro a' w' hLe hfr hdep
                          have e69 := hdep 7 69 (Nat.le_of_ble_eq_true rfl) rfl rfl
                          conv at e69 => rhs; whnf
                          have f69 := e69; simp only [Array.getD_eq_getD_getElem?] at f69
                          have e81 := hdep 19 81 (Nat.le_of_ble_eq_true rfl) rfl rfl
                          conv at e81 => rhs; whnf
                          have f81 := e81; simp only [Array.getD_eq_getD_getElem?] at f81
                          refine wpOp_plain rfl rfl (fun K hK => ?_)
                          go_simp
                          exact hK _ _ ⟨rfl, Below.refl _ _⟩
                        apply still_nil
                        intro w18 hb18
                        simp only [putAll, List.drop_succ_cons, List.drop_zero]
                        go_simp
                        have hQ18 := hQi.next hb18
                        have hB18 := Below.tr hBi hb18
                        go_wp2
                        go_roundw
                        case rel => exact ⟨j + 1, by omega, by go_num, by rw [hst.out]; exact hQ18, hB18⟩
                        case measure => simp [intOf]; omega
                    · have hpe2 : p = qn j := by omega
                      have hd2 : decide ((p : Int) < (qn j : Int)) = false := by simp; omega
                      have hst := Lib.hid (hst2.out HPE.out p x o HT2.out (fun h => hA h.1))
                      clear hpe2
                      go_upto_region 18 with (fail)
                      refine wp_region_still (ds := [(0, 62), (1, 63), (2, 64), (3, 65), (4, 66), (5, 67), (6, 68), (7, 69), (8, 70), (9, 71), (10, 72), (11, 73), (12, 74), (13, 75), (14, 76), (15, 77), (16, 78), (17, 79), (18, 80), (19, 81), (20, 82)]) 21 (by kernel_rfl) (by kernel_rfl) (by first | exact .inl rfl | exact .inr (by kernel_rfl)) (by rfl) rfl rfl ?_
                      apply still_cons
                      · intro a' w' hLe hfr hdep
                        have e8 := hfr 8 rfl
                        conv at e8 => rhs; whnf
                        have f8 := e8; simp only [Array.getD_eq_getD_getElem?] at f8
                        refine wpOp_plain rfl rfl (fun K hK => ?_)
                        go_simp
                        exact hK _ _ ⟨rfl, Below.refl _ _⟩
                      apply still_cons
                      · intro a' w' hLe hfr hdep
                        have e11 := hfr 11 rfl
                        conv at e11 => rhs; whnf
                        have f11 := e11; simp only [Array.getD_eq_getD_getElem?] at f11
                        refine wpOp_plain rfl rfl (fun K hK => ?_)
                        go_simp
                        exact hK _ _ ⟨rfl, Below.refl _ _⟩
                      apply still_cons
                      · intro a' w' hLe hfr hdep
                        have e62 := hdep 0 62 (Nat.le_of_ble_eq_true rfl) rfl rfl
                        conv at e62 => rhs; whnf
                        have f62 := e62; simp only [Array.getD_eq_getD_getElem?] at f62
                        have e63 := hdep 1 63 (Nat.le_of_ble_eq_true rfl) rfl rfl
                        conv at e63 => rhs; whnf
                        have f63 := e63; simp only [Array.getD_eq_getD_getElem?] at f63
                        refine wpOp_plain rfl rfl (fun K hK => ?_)
                        go_simp
                        exact hK _ _ ⟨rfl, Below.refl _ _⟩
                      apply still_cons
                      · intro a' w' hLe hfr hdep
                        have e64 := hdep 2 64 (Nat.le_of_ble_eq_true rfl) rfl rfl
                        conv at e64 => rhs; whnf
                        have f64 := e64; simp only [Array.getD_eq_getD_getElem?] at f64
                        have kc := fun i => keepc hLe (w.heap.size) (by (try simp) <;> omega) i
                        have kf := fun i => keepf hLe (w.heap.size) (by (try simp) <;> omega) i
                        have kc := fun i => keepc hLe (w.heap.size + 1) (by (try simp) <;> omega) i
                        have kf := fun i => keepf hLe (w.heap.size + 1) (by (try simp) <;> omega) i
                        refine wpOp_plain rfl rfl (fun K hK => ?_)
                        go_simp
                        exact hK _ _ ⟨rfl, Below.refl _ _⟩
                      apply still_cons
                      · intro a' w' hLe hfr hdep
                        have e12 := hfr 12 rfl
                        conv at e12 => rhs; whnf
                        have f12 := e12; simp only [Array.getD_eq_getD_getElem?] at f12
                        refine wpOp_plain rfl rfl (fun K hK => ?_)
                        go_simp
                        exact hK _ _ ⟨rfl, Below.refl _ _⟩
                      apply still_cons
                      · intro a' w' hLe hfr hdep
                        have e66 := hdep 4 66 (Nat.le_of_ble_eq_true rfl) rfl rfl
                        conv at e66 => rhs; whnf
                        have f66 := e66; simp only [Array.getD_eq_getD_getElem?] at f66
                        refine wpOp_plain rfl rfl (fun K hK => ?_)
                        go_simp
                        exact hK _ _ ⟨rfl, Below.refl _ _⟩
                      apply still_cons
                      · intro a' w' hLe hfr hdep
                        have e65 := hdep 3 65 (Nat.le_of_ble_eq_true rfl) rfl rfl
                        conv at e65 => rhs; whnf
                        have f65 := e65; simp only [Array.getD_eq_getD_getElem?] at f65
                        have e67 := hdep 5 67 (Nat.le_of_ble_eq_true rfl) rfl rfl
                        conv at e67 => rhs; whnf
                        have f67 := e67; simp only [Array.getD_eq_getD_getElem?] at f67
                        refine wpOp_plain rfl rfl (fun K hK => ?_)
                        go_simp
                        exact hK _ _ ⟨rfl, Below.refl _ _⟩
                      apply still_cons
                      · intro a' w' hLe hfr hdep
                        have e68 := hdep 6 68 (Nat.le_of_ble_eq_true rfl) rfl rfl
                        conv at e68 => rhs; whnf
                        have f68 := e68; simp only [Array.getD_eq_getD_getElem?] at f68
                        refine wpOp_plain rfl rfl (fun K hK => ?_)
                        go_simp
                        exact hK _ _ ⟨rfl, Below.refl _ _⟩
                      apply still_cons
                      · intro a' w' hLe hfr hdep
                        have e69 := hdep 7 69 (Nat.le_of_ble_eq_true rfl) rfl rfl
                        conv at e69 => rhs; whnf
                        have f69 := e69; simp only [Array.getD_eq_getD_getElem?] at f69
                        exact wpOp_no rfl rfl rfl e69 ⟨rfl, Below.refl _ _⟩
                      apply still_cons
                      · intro a' w' hLe hfr hdep
                        have e69 := hdep 7 69 (Nat.le_of_ble_eq_true rfl) rfl rfl
                        conv at e69 => rhs; whnf
                        have f69 := e69; simp only [Array.getD_eq_getD_getElem?] at f69
                        exact wpOp_no rfl rfl rfl e69 ⟨rfl, Below.refl _ _⟩
                      apply still_cons
                      · intro a' w' hLe hfr hdep
                        have e69 := hdep 7 69 (Nat.le_of_ble_eq_true rfl) rfl rfl
                        conv at e69 => rhs; whnf
                        have f69 := e69; simp only [Array.getD_eq_getD_getElem?] at f69
                        exact wpOp_no rfl rfl rfl e69 ⟨rfl, Below.refl _ _⟩
                      apply still_cons
                      · intro a' w' hLe hfr hdep
                        have e69 := hdep 7 69 (Nat.le_of_ble_eq_true rfl) rfl rfl
                        conv at e69 => rhs; whnf
                        have f69 := e69; simp only [Array.getD_eq_getD_getElem?] at f69
                        exact wpOp_no rfl rfl rfl e69 ⟨rfl, Below.refl _ _⟩
                      apply still_cons
                      · intro a' w' hLe hfr hdep
                        have e69 := hdep 7 69 (Nat.le_of_ble_eq_true rfl) rfl rfl
                        conv at e69 => rhs; whnf
                        have f69 := e69; simp only [Array.getD_eq_getD_getElem?] at f69
                        exact wpOp_no rfl rfl rfl e69 ⟨rfl, Below.refl _ _⟩
                      apply still_cons
                      · intro a' w' hLe hfr hdep
                        have e69 := hdep 7 69 (Nat.le_of_ble_eq_true rfl) rfl rfl
                        conv at e69 => rhs; whnf
                        have f69 := e69; simp only [Array.getD_eq_getD_getElem?] at f69
                        exact wpOp_no rfl rfl rfl e69 ⟨rfl, Below.refl _ _⟩
                      apply still_cons
                      · intro a' w' hLe hfr hdep
                        have e69 := hdep 7 69 (Nat.le_of_ble_eq_true rfl) rfl rfl
                        conv at e69 => rhs; whnf
                        have f69 := e69; simp only [Array.getD_eq_getD_getElem?] at f69
                        exact wpOp_no rfl rfl rfl e69 ⟨rfl, Below.refl _ _⟩
                      apply still_cons
                      · intro a' w' hLe hfr hdep
                        have e69 := hdep 7 69 (Nat.le_of_ble_eq_true rfl) rfl rfl
                        conv at e69 => rhs; whnf
                        have f69 := e69; simp only [Array.getD_eq_getD_getElem?] at f69
                        exact wpOp_no rfl rfl rfl e69 ⟨rfl, Below.refl _ _⟩
                      apply still_cons
                      · intro a' w' hLe hfr hdep
                        have e69 := hdep 7 69 (Nat.le_of_ble_eq_true rfl) rfl rfl
                        conv at e69 => rhs; whnf
                        have f69 := e69; simp only [Array.getD_eq_getD_getElem?] at f69
                        exact wpOp_no rfl rfl rfl e69 ⟨rfl, Below.refl _ _⟩
                      apply still_cons
                      · intro a' w' hLe hfr hdep
                        have e69 := hdep 7 69 (Nat.le_of_ble_eq_true rfl) rfl rfl
                        conv at e69 => rhs; whnf
                        have f69 := e69; simp only [Array.getD_eq_getD_getElem?] at f69
                        exact wpOp_no rfl rfl rfl e69 ⟨rfl, Below.refl _ _⟩
                      apply still_cons
                      · intro a' w' hLe hfr hdep
                        have e69 := hdep 7 69 (Nat.le_of_ble_eq_true rfl) rfl rfl
                        conv at e69 => rhs; whnf
                        have f69 := e69; simp only [Array.getD_eq_getD_getElem?] at f69
                        exact wpOp_no rfl rfl rfl e69 ⟨rfl, Below.refl _ _⟩
                      apply still_cons
                      · intro a' w' hLe hfr hdep
                        have e69 := hdep 7 69 (Nat.le_of_ble_eq_true rfl) rfl rfl
                        conv at e69 => rhs; whnf
                        have f69 := e69; simp only [Array.getD_eq_getD_getElem?] at f69
                        exact wpOp_no rfl rfl rfl e69 ⟨rfl, Below.refl _ _⟩
                      apply still_cons
                      · intro a' w' hLe hfr hdep
                        have e69 := hdep 7 69 (Nat.le_of_ble_eq_true rfl) rfl rfl
                        conv at e69 => rhs; whnf
                        have f69 := e69; simp only [Array.getD_eq_getD_getElem?] at f69
                        have e81 := hdep 19 81 (Nat.le_of_ble_eq_true rfl) rfl rfl
                        conv at e81 => rhs; whnf
                        have f81 := e81; simp only [Array.getD_eq_getD_getElem?] at f81
                        refine wpOp_plain rfl rfl (fun K hK => ?_)
                        go_simp
                        exact hK _ _ ⟨rfl, Below.refl _ _⟩
                      apply still_nil
                      intro w18 hb18
                      simp only [putAll, List.drop_succ_cons, List.drop_zero]
                      go_simp
                      have hQ18 := hQi.next hb18
                      have hB18 := Below.tr hBi hb18
                      go_wp2
                      go_roundw
                      case rel => exact ⟨j + 1, by omega, by go_num, by rw [hst.out]; exact hQ18, hB18⟩
                      case measure => simp [intOf]; omega
              · obtain rfl : j = k := by omega
                go_wp2
                go_roundg (400 - (r + 1))
                case measure => have := HR.out; omega
                case rel => exact ⟨r + 1, by omega, hQj, hBj⟩
          · have hout := qRun_end hV.out (r := r) (by omega)
            have hO := hQ.2.2
            rw [hout] at hO
            rw [hout] at hlt
            rw [hout]
            have HO := Lib.hid hO
            clear hO hQ hout
            go_wp2
            go_ret
            rw [he.out]
            obtain ⟨Ao, co, e1, hOo⟩ := HO.out.own
            cases e1
            exact ⟨_, _, rfl, hOo, hBw⟩
end Go.Proofs.Ytghmcedfiebolaa
