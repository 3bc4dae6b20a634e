/-
  The law 'turned queues send as much': its walk.
-/
import Derived.Test.YtghmcedfiebolaaQueN
namespace Go.Proofs.Ytghmcedfiebolaa
open Go Go.RowKit Go.Joins

theorem qvB_rev {n : Nat} {qn : Nat → Nat} {q : Nat → Nat → Int} {sh : Nat → Int} (h : qvB n qn q n sh = true) : qvB n (fun i => qn (n - 1 - i)) (fun i => q (n - 1 - i)) n (fun i => sh (n - 1 - i)) = true := by
  rw [qvB_true] at h ⊢
  obtain ⟨h1, h2, _, h4⟩ := h
  exact ⟨h1, h2, rfl, fun i hi => h4 (n - 1 - i) (by omega)⟩
theorem Acc.other {w w' : World} {B B' : Nat} {t t' : TypeId} {m m' : Nat} {v v' : Value} {n n' : Nat} {R R' : Nat → List Value} (h : Acc w B t m v n R) (h' : Acc w B' t' m' v' n' R') (hne : t ≠ t') (hg : w.grownBy w' v'.ownBlock) : Acc w' B t m v n R := by
  refine h.kept hg ?_
  cases hv : v.ownBlock with
  | none => exact .inl rfl
  | some k =>
    right
    intro e
    obtain ⟨c1, h1⟩ := h.typed hv
    obtain ⟨c2, h2⟩ := h'.typed e.symm
    exact typed_ne h1 h2 hne
theorem plSum_rev (qn : Nat → Nat) {n : Nat} (hn : n ≤ 4) : plSum (fun i => qn (n - 1 - i)) n = plSum qn n := by
  rcases (show n = 0 ∨ n = 1 ∨ n = 2 ∨ n = 3 ∨ n = 4 by omega) with rfl | rfl | rfl | rfl | rfl <;> simp [plSum] <;> omega

set_option maxRecDepth 100000 in
set_option maxHeartbeats 8000000 in
theorem queueTurned_walk {w : World} {A : Option Addr} {n c : Nat} (h : Bytes w w.heap.size A n c) :
    Calls Try.prog 6 #[.slice A n c] w (Truly w) := by
  by_cases hn : 1048576 < n
  · have hd : decide ((1048576 : Int) < (n : Int)) = true := by simp; omega
    go_enter Try.func6, Try.ntmps6
    go_wp2
    go_ret
    exact ⟨rfl, Below.refl _ _⟩
  have hd : decide ((1048576 : Int) < (n : Int)) = false := by simp; omega
  clear hn
  go_enter Try.func6, Try.ntmps6
  go_wp2_with fail
  refine (drawQueueOrder_any h).mono ?_
  rintro e w1 ⟨A1, n1, c1, qn, q, A2, n2, c2, sh, rfl, h1, h2, h3, h4, h5, hb1⟩
  have H4 := Lib.hid h4
  have H5 := Lib.hid h5
  have hnc := h4.len
  have hmc := h5.1
  unfold maxLen at hnc hmc
  clear h3 h4 h5 hd
  go_wp2_with fail
  refine (implQueueOrder_any H4.out H5.out (Nat.le_refl _)).mono ?_
  rintro e w2 ⟨Ax, cx, rfl, hx_2, hb2⟩
  have H4b := Lib.hid (H4.out.next hb2)
  have H5b := Lib.hid (H5.out.next hb2)
  have hB2 := Below.tr hb1 hb2
  go_wp2_with fail
  refine (specQueueOrder_any H4b.out H5b.out (Nat.le_refl _)).mono ?_
  rintro e w3 ⟨Ao, co, rfl, ho_3, hb3⟩
  have hx_3 := hx_2.next hb3
  have H4c := Lib.hid (H4b.out.next hb3)
  have H5c := Lib.hid (H5b.out.next hb3)
  have hB3 := Below.tr hB2 hb3
  go_wp2_with fail
  refine (sameSent_same hx_3.rows ho_3.rows (Nat.le_refl _)).mono ?_
  rintro e w4 ⟨rfl, hb4⟩
  have hxc := hx_3.1
  have hxn := hx_3.2.1
  have H4d := Lib.hid (H4c.out.next hb4)
  have H5d := Lib.hid (H5c.out.next hb4)
  have hB4 := Below.tr hB3 hb4
  have hno := qoN_le n1 qn q n2 sh
  unfold maxLen at hxc
  clear H4 H5 H4b H5b H4c H5c ho_3 hx_2 hx_3 hb2 hb3 hb4 hB2 hB3
  by_cases h0 : qoN n1 qn q n2 sh = 0
  · rw [h0] at hxn ⊢
    go_wp2_with (go_at_call 18; refine (alive_any _).mono ?_; rintro e wa ⟨rfl, hba⟩)
    go_ret
    exact ⟨rfl, Below.tr hB4 (by (repeat (first | exact Below.refl _ _ | assumption | refine Below.al ?_ _ | refine Below.dr ?_ | (refine Below.st ?_ (by simp <;> omega) _) | (refine Below.tr ?_ (by assumption)))))⟩
  · have hv : qvB n1 qn q n2 sh = true := by
      cases hh : qvB n1 qn q n2 sh with
      | true => rfl
      | false => exact absurd (qoN_no hh) h0
    obtain ⟨v1, v2, v3, v4⟩ := qvB_true.1 hv
    subst v3
    have hsum := plSum_small hv
    have hlen : qoN n2 qn q n2 sh = plSum qn n2 := by rw [qoN_yes hv]; exact (qOut_facts hv).2.2
    have hlen2 : qoN n2 (fun i => qn (n2 - 1 - i)) (fun i => q (n2 - 1 - i)) n2 (fun i => sh (n2 - 1 - i)) = plSum qn n2 := by
      rw [qoN_yes (qvB_rev hv), (qOut_facts (qvB_rev hv)).2.2]; exact plSum_rev qn v2
    have HL2 := Lib.hid hlen2
    rw [hlen] at h0 hxn hno ⊢
    obtain ⟨QA, qc, ⟨_, hrow⟩, HI⟩ := H4d.out
    have hRow := Lib.hid hrow
    have hRow2 := Lib.hid H5d.out.2
    have hI := Lib.hid HI
    have hp0 : ((plSum qn n2 : Nat) == 0) = false := by simpa using h0
    have hp1 : (((plSum qn n2 : Nat) : Int) == 0) = false := by simp; omega
    clear hv v4 hrow HI H5d hlen hlen2 H4d
    have hA0 : Acc ((w4.alloc (.cells #[] 23)).alloc (.cells #[] 3)) w4.heap.size 23 1 (.slice (some ⟨w4.heap.size, 0, none⟩) 0 0) 0 (slR (fun i => QA (n2 - 1 - i)) (fun i => qn (n2 - 1 - i)) (fun i => qc (n2 - 1 - i))) := (Acc.made w4 23 (m := 1) (slR (fun i => QA (n2 - 1 - i)) (fun i => qn (n2 - 1 - i)) (fun i => qc (n2 - 1 - i))) (fun _ => rfl) (Nat.le_refl _)).next (below_new _ _)
    have hS0 : Acc ((w4.alloc (.cells #[] 23)).alloc (.cells #[] 3)) w4.heap.size 3 1 (.slice (some ⟨w4.heap.size + 1, 0, none⟩) 0 0) 0 (intR (fun i => sh (n2 - 1 - i))) := by
      have := Acc.made (w4.alloc (.cells #[] 23)) 3 (m := 1) (intR (fun i => sh (n2 - 1 - i))) (fun _ => rfl) (B := w4.heap.size) (by simp)
      simpa using this
    have hBa : Below w4.heap.size w4 ((w4.alloc (.cells #[] 23)).alloc (.cells #[] 3)) := by (repeat (first | exact Below.refl _ _ | assumption | refine Below.al ?_ _ | refine Below.dr ?_ | (refine Below.st ?_ (by simp <;> omega) _) | (refine Below.tr ?_ (by assumption))))
    go_wp2_with fail
    go_loopw [6, 7, 8] (fun vt vb i wr => ∃ j : Nat, j ≤ n2 ∧ i = .int .i64 ((n2 : Int) - 1 - j) ∧ Acc wr w4.heap.size 23 1 vt j (slR (fun i => QA (n2 - 1 - i)) (fun i => qn (n2 - 1 - i)) (fun i => qc (n2 - 1 - i))) ∧ Acc wr w4.heap.size 3 1 vb j (intR (fun i => sh (n2 - 1 - i))) ∧ Below w4.heap.size w4 wr) (fun _ _ i _ => (intOf i + 1).toNat)
    case atStart => exact ⟨0, by omega, by simp, hA0, hS0, hBa⟩
    case round =>
      obtain ⟨j, hj, rfl, hA, hS, hBj⟩ := hrel
      clear hA0 hS0 hBa
      obtain ⟨At, ct, rfl, hnt, hmt⟩ := hA.form
      obtain ⟨Ab, cb, rfl, hnb, hmb⟩ := hS.form
      unfold maxLen at hmt hmb
      by_cases hjn : j < n2
      · obtain ⟨bl, off, rfl, hbl, hc⟩ := hRow.out (by omega)
        have hr := hc (n2 - 1 - j) (by omega)
        rw [Nat.mul_one] at hr
        obtain ⟨bs, os, rfl, hbs, hcs⟩ := hRow2.out (by omega)
        have hr2 := hcs (n2 - 1 - j) (by omega)
        rw [Nat.mul_one] at hr2
        have hszj := hBj.size
        have hbll : bl < wr.heap.size := by omega
        have hbsl : bs < wr.heap.size := by omega
        have q0 : wr.cell? ⟨bl, off + (n2 - 1 - j), none⟩ = some (.slice (QA (n2 - 1 - j)) (qn (n2 - 1 - j)) (qc (n2 - 1 - j))) := (keepc hBj bl hbl _).trans (hr 0 _ rfl)
        have s00 : w4.cell? ⟨bs, os + (n2 - 1 - j), none⟩ = some (.int .i64 (sh (n2 - 1 - j))) := hr2 0 _ rfl
        have S0 := Lib.hid (fun (W : World) (hW : Below w4.heap.size w4 W) => (keepc hW bs hbs (os + (n2 - 1 - j))).trans s00)
        obtain ⟨r, hr0⟩ : ∃ r, r = n2 - 1 - j := ⟨_, rfl⟩
        have hidx : (n2 : Int) - 1 - j = (r : Int) := by omega
        have hrn : r < n2 := by omega
        have HR0 := Lib.hid hr0
        rw [hidx]
        rw [← hr0] at q0 S0
        clear hr hc hr2 hcs hidx hr0 s00
        have HA := Lib.hid hA
        have HS := Lib.hid hS
        clear hA hS
        go_upto_region 15 with (at_builtin; refine wpList_push rfl (.tmp 40) (.tmp 45) 22 rfl 23 _ 1 24 Try.underlying22 info_sl (by decide) (by decide) (by decide) rfl (HA.out.next (below_new _ _)) rfl (heap_alloc_new _ _) (by simp only [slR, ← HR0.out]) (slR_one _ _ _ _) (by omega) (by simp <;> omega) ?_; intro vt' w5 hA5 hB5 hg5)
        replace hg5 : (wr.alloc (.cells #[.slice (QA r) (qn r) (qc r)] 23)).grownBy w5 (Value.slice At j ct).ownBlock := hg5
        have hS5 := (HS.out.next (below_new _ (.cells #[.slice (QA r) (qn r) (qc r)] 23))).other (HA.out.next (below_new _ _)) (by decide) hg5
        have hB5j := (Below.al hBj (.cells #[.slice (QA r) (qn r) (qc r)] 23)).trans hB5
        have s0 := S0.out _ hB5j
        have hs5 := hB5j.size
        have hbsl5 : bs < w5.heap.size := by omega
        obtain ⟨At', ct', rfl, hnt', hmt'⟩ := hA5.form
        unfold maxLen at hmt'
        have HA5 := Lib.hid hA5
        have HS5 := Lib.hid hS5
        clear hA5 hS5 hg5 hB5
        go_wp2_with (at_builtin; refine wpList_push rfl (.tmp 47) (.tmp 52) 23 rfl 3 _ 1 8 Try.underlying23 info_int (by decide) (by decide) (by decide) rfl (HS5.out.next (below_new _ _)) rfl (heap_alloc_new _ _) (by simp only [intR, ← HR0.out]) (intR_one _ _) (by omega) (by simp <;> omega) ?_; intro vb' w6 hS6 hB6 hg6)
        replace hg6 : (w5.alloc (.cells #[.int .i64 (sh r)] 3)).grownBy w6 (Value.slice Ab j cb).ownBlock := hg6
        have hA6 := (HA5.out.next (below_new _ (.cells #[.int .i64 (sh r)] 3))).other (HS5.out.next (below_new _ _)) (by decide) hg6
        go_roundw
        case rel => exact ⟨j + 1, by omega, by have := HR0.out; congr 1; omega, hA6, hS6, (Below.al hB5j _).trans hB6⟩
        case measure => simp [intOf] <;> omega
      · obtain rfl : j = n2 := by omega
        have hidx : (j : Int) - 1 - j = -1 := by omega
        rw [hidx]
        clear hidx
        obtain ⟨At', ct', e1, hO1⟩ := hA.own
        cases e1
        obtain ⟨Ab', cb', e2, hO2⟩ := hS.own
        cases e2
        have hQ : Qs wr wr.heap.size At j ct (fun i => qn (j - 1 - i)) (fun i => q (j - 1 - i)) := ⟨_, _, hO1.rows, fun i hi => (hI.out (j - 1 - i) (by omega)).next hBj⟩
        have HQ := Lib.hid hQ
        have HR := Lib.hid hO2.rows
        clear hQ hO1 hO2 hA hS
        go_wp2_with fail
        refine (implQueueOrder_any HQ.out HR.out (Nat.le_refl _)).mono ?_
        rintro e w7 ⟨Ay, cy, rfl, hy, hb7⟩
        have hy1 := hy.1
        have hy2 := hy.2.1
        unfold maxLen at hy1
        rw [HL2.out] at hy2 ⊢
        clear hy
        go_wp2
        go_ret
        exact ⟨rfl, Below.tr (Below.tr hB4 hBj) hb7⟩
end Go.Proofs.Ytghmcedfiebolaa
