/-
  The drawing of queues and shares: its walk.
-/
import Derived.Test.YtghmcedfiebolaaQueD
namespace Go.Proofs.Ytghmcedfiebolaa
open Go Go.RowKit

set_option maxHeartbeats 16000000 in
theorem l20Queues_any {w : World} {B g : Nat} {A : Option Addr} {m c p : Nat} (h : Rd w B g A m c p) (n : Int) (hn : -1000000 ≤ n) (hp2 : p ≤ 500000000) :
    Calls Try.prog 34 #[(.pointer (some ⟨g, 0, none⟩)), .int .i64 n] w (DrawnQ w B g A m c p 100) := by
  have hlt := h.lt
  have hBg := h.2.1
  go_enter Try.func34, Try.ntmps34
  go_wp2_with fail
  have hA0 : Acc ((w.alloc (.cells #[] 23)).alloc (.cells #[] 3)) w.heap.size 23 1 (.slice (some ⟨w.heap.size, 0, none⟩) 0 0) 0 (slR (fun _ => none) (fun _ => 0) (fun _ => 0)) := (Acc.made w 23 _ (fun _ => rfl) (Nat.le_refl _)).next (Below.al (Below.refl _ _) _)
  have hS0 : PAcc ((w.alloc (.cells #[] 23)).alloc (.cells #[] 3)) w.heap.size 3 [true] (.slice (some ⟨w.heap.size + 1, 0, none⟩) 0 0) 0 := by
    have := PAcc.made (w.alloc (.cells #[] 23)) 3 [true] (B := w.heap.size) (by simp)
    simpa using this
  have hQ0 : QD ((w.alloc (.cells #[] 23)).alloc (.cells #[] 3)) w.heap.size (.slice (some ⟨w.heap.size, 0, none⟩) 0 0) (.slice (some ⟨w.heap.size + 1, 0, none⟩) 0 0) 0 :=
    ⟨_, _, _, hA0, hS0, ⟨fun i hi => absurd hi (by omega), fun i j h1 h2 => absurd h2 (by omega)⟩, fun i hi => absurd hi (by omega), fun i hi => absurd hi (by omega)⟩
  clear hA0 hS0
  refine (pick_any ((h.alloc _).alloc _) _ (by omega)).mono ?_
  rintro e w1 ⟨k, rfl, hk, hr1, hg1, hs1⟩
  have hk1 := hk.1; have hk2 := hk.2.1 (by omega); clear hk
  have hQ1 := hQ0.far hg1 hlt
  have hG1 := grown_trans (grown_alloc (grown_alloc (grown_refl w _) _) _) hg1
  clear hQ0 hg1 hs1
  go_wp2_with fail
  go_loopw [6, 7, 8] (fun vq vs i wr => ∃ (nn q : Nat) (k : Int), 0 ≤ k ∧ (nn : Int) + k ≤ 4 ∧ (nn = 0 → 1 ≤ k) ∧ i = .int .i64 k ∧ QD wr w.heap.size vq vs nn ∧ Rd wr B g A m c q ∧ q ≤ p + 1 + 10 * nn ∧ w.grownBy wr (some g)) (fun _ _ i _ => (intOf i).toNat)
  case atStart => exact ⟨0, p + 1, 1 + k, by omega, by omega, fun _ => by omega, by go_num, hQ1, hr1, by omega, hG1⟩
  case round =>
    obtain ⟨nn, q, k, hk1, hk2, hk3, rfl, ⟨QA, qn, qc, hA, hS, hI, h5, hD⟩, hr, hq, hG⟩ := hrel
    clear hQ1 hr1 hG1
    obtain ⟨Aq, cq, rfl, hnq, hmq⟩ := hA.form
    obtain ⟨As, cs, rfl, hns, hms⟩ := hS.form
    unfold maxLen at hmq hms
    have hgw : g < wr.heap.size := hr.lt
    have hsw := hG.size
    have HD := Lib.hid hD
    have HI := Lib.hid hI
    have H5 := Lib.hid h5
    clear hD hI h5
    by_cases hlt2 : 0 < k
    · have hP0 : PAcc (wr.alloc (.cells #[] 3)) wr.heap.size 3 [true] (.slice (some ⟨wr.heap.size, 0, none⟩) 0 0) 0 := PAcc.made wr _ _ (Nat.le_refl _)
      go_wp2_with fail
      refine (pick_any (hr.alloc _) _ (by omega)).mono ?_
      rintro e w1 ⟨k2, rfl, hk, hr1, hg1, hs1⟩
      have hk4 := hk.1; have hk5 := hk.2.1 (by omega); clear hk
      have hP1 := hP0.far hg1 hgw
      have hG1 := grown_trans (grown_alloc (grown_refl wr _) _) hg1
      clear hP0 hg1 hs1
      obtain ⟨wo, rfl⟩ : ∃ wo : World, wo = wr := ⟨_, rfl⟩
      go_wp2_with fail
      go_loopw [9, 10] (fun v i wi => ∃ (j q2 : Nat) (k2 : Int), 0 ≤ k2 ∧ (j : Int) + k2 ≤ 5 ∧ i = .int .i64 k2 ∧ PAcc wi wo.heap.size 3 [true] v j ∧ (∃ b c, v = .slice (some ⟨b, 0, none⟩) j c ∧ wo.heap.size ≤ b) ∧ Rd wi B g A m c q2 ∧ q2 ≤ q + 1 + j ∧ wo.grownBy wi (some g)) (fun _ i _ => (intOf i).toNat)
      case atStart => exact ⟨0, q + 1, k2, hk4, by omega, rfl, hP1, ⟨_, _, rfl, Nat.le_refl _⟩, hr1, by omega, hG1⟩
      case round =>
        obtain ⟨j, q2, k2, hk4, hk5, rfl, hP, ⟨b, c9, rfl, hb9⟩, hr2, hq2, hGi⟩ := hrel
        clear hP1 hr1 hG1
        obtain ⟨A', c', e', hjc, hjm⟩ := hP.form
        cases e'
        unfold maxLen at hjm
        by_cases hlt3 : 0 < k2
        · go_wp2_with fail
          refine (pick_any hr2 _ (by omega)).mono ?_
          rintro e w2 ⟨k3, rfl, hk, hr3, hg3, hs3⟩
          have hk6 := hk.1; have hk7 := hk.2.1 (by omega); clear hk
          have hP3 := hP.far hg3 hgw
          have hG3 := grown_trans hGi hg3
          have hsz3 := hG3.size
          clear hg3 hs3 hP hGi
          go_wp2_with (at_builtin; refine wpList_pushP rfl (.tmp 27) (.tmp 31) 23 rfl 3 _ [true] 8 Try.underlying23 info_int (by decide) (by decide) (by decide) rfl (hP3.next (Below.al (Below.refl _ _) _)) rfl (heap_alloc_new _ _) (plain1 (by omega)) (by omega) (by simp; omega) ?_; intro v' w' hP' hB' hg')
          obtain ⟨b', c'', rfl, hb1, hb2⟩ := hP'.at_ (by omega)
          go_roundw
          case rel => exact ⟨j + 1, q2 + 1, k2 - 1, by omega, by omega, rfl, hP', ⟨_, _, rfl, hb1⟩, (Rd.alloc hr3 _).lower hB' hgw, by omega, grown_low (grown_alloc hG3 _) hB'⟩
          case measure => simp [intOf]; omega
        · obtain rfl : k2 = 0 := by omega
          have hA2 := hA.far hGi hlt
          have hS2 := hS.far hGi hlt
          have HI2 := Lib.hid (HI.out.far hGi hlt)
          have hG2 := grown_trans hG hGi
          have hsz2 := hG2.size
          have hgi : g < wr.heap.size := hr2.lt
          have hbP := hP.block b rfl
          have HL := Lib.hid (fun (i : Nat) (hi : i < nn) (k : Nat) (e : QA i = some ⟨k, 0, none⟩) => show k < wo.heap.size from (HI.out.low hi e).2)
          have hSb : ∀ k, (Value.slice As nn cs).ownBlock = some k → k < wo.heap.size := fun k hk => (hS.block k hk).2
          have HSb := Lib.hid hSb
          clear hA hS hG hGi hSb
          go_wp2_with (at_builtin; refine wpList_push rfl (.tmp 33) (.tmp 35) 22 rfl 23 _ 1 24 Try.underlying22 info_sl (by decide) (by decide) (by decide) rfl ((hA2.next (Below.al (Below.refl _ _) _)).congr (R' := slR (upd QA nn (some ⟨b, 0, none⟩)) (upd qn nn j) (upd qc nn c9)) (fun i hi => by simp only [slR]; rw [upd_other _ _ (show i ≠ nn by omega), upd_other _ _ (show i ≠ nn by omega), upd_other _ _ (show i ≠ nn by omega)]) (fun _ => rfl)) rfl (heap_alloc_new _ _) (by simp only [slR, upd_same]) (slR_one _ _ _ _) (by omega) (by simp; omega) ?_; intro vq' w3 hA3 hB3 hg3)
          have hI3 : QI w3 w.heap.size (upd QA nn (some ⟨b, 0, none⟩)) (upd qn nn j) (upd qc nn c9) (nn + 1) := by
            have h1 := (HI2.out.next (Below.al (Below.refl _ _) (.cells #[Value.slice (some ⟨b, 0, none⟩) j c9] 23))).add ((hP.base (by omega)).next (Below.al (Below.refl _ _) (.cells #[Value.slice (some ⟨b, 0, none⟩) j c9] 23))) (by omega) (fun i hi k e e2 => by have := HL.out i hi k e; omega)
            exact h1.kept hg3 (h1.typed (hA2.next (Below.al (Below.refl _ _) _)))
          have hS3 : PAcc w3 w.heap.size 3 [true] (.slice As nn cs) nn := by
            refine (hS2.next (Below.al (Below.refl _ _) (.cells #[Value.slice (some ⟨b, 0, none⟩) j c9] 23))).kept hg3 ?_
            cases hx : (Value.slice As nn cs).ownBlock with
            | none => exact .inl rfl
            | some k =>
              right
              intro e
              obtain ⟨cs1, h1⟩ := (hS2.next (Below.al (Below.refl _ _) (.cells #[Value.slice (some ⟨b, 0, none⟩) j c9] 23))).typed hx
              obtain ⟨cs2, h2⟩ := (hA2.next (Below.al (Below.refl _ _) (.cells #[Value.slice (some ⟨b, 0, none⟩) j c9] 23))).typed e.symm
              exact typed_ne h1 h2 (by decide)
          have hD3 : ∀ i, i < nn + 1 → ∀ k, upd QA nn (some ⟨b, 0, none⟩) i = some ⟨k, 0, none⟩ → (Value.slice As nn cs).ownBlock ≠ some k := by
            intro i hi k hk e
            by_cases hin : i = nn
            · subst hin
              rw [upd_same] at hk
              cases hk
              have := HSb.out _ e
              omega
            · rw [upd_other _ _ hin] at hk
              exact HD.out i (by omega) k hk e
          obtain ⟨Aq', cq', rfl, hnq', hmq'⟩ := hA3.form
          unfold maxLen at hmq'
          have HI3 := Lib.hid hI3
          have HD3 := Lib.hid hD3
          have hr3 := (Rd.alloc hr2 (.cells #[Value.slice (some ⟨b, 0, none⟩) j c9] 23)).lower hB3 hlt
          have hG3 := grown_low (grown_alloc hG2 (.cells #[Value.slice (some ⟨b, 0, none⟩) j c9] 23)) hB3
          have hsz3 := hG3.size
          clear hI3 hD3 hB3 hg3 hA2 hS2 hG2 hP
          go_wp2_with fail
          refine (pick_any hr3 _ (by omega)).mono ?_
          rintro e w4 ⟨k3, rfl, hk, hr4, hg4, hs4⟩
          have hk6 := hk.1; have hk7 := hk.2.1 (by omega); clear hk
          have hA4 := hA3.far hg4 hlt
          have hS4 := hS3.far hg4 hlt
          have HI4 := Lib.hid (HI3.out.far hg4 hlt)
          have hG4 := grown_trans hG3 hg4
          have hsz4 := hG4.size
          clear hg4 hs4 hA3 hS3 hG3
          go_wp2_with (at_builtin; refine wpList_pushPA rfl (.tmp 37) (.tmp 41) 23 rfl 3 _ [true] 8 Try.underlying23 info_int (by decide) (by decide) (by decide) rfl (hS4.next (Below.al (Below.refl _ _) _)) rfl (heap_alloc_new _ _) (plain1 (by omega)) (by omega) (by simp; omega) ?_; intro v' w5 hS5 hB5 hg5 hw5)
          have hAn := hA4.next (Below.al (Below.refl _ _) (.cells #[Value.int .i64 (1 + k3)] 3))
          have hIn := HI4.out.next (Below.al (Below.refl _ _) (.cells #[Value.int .i64 (1 + k3)] 3))
          have hSn := hS4.next (Below.al (Below.refl _ _) (.cells #[Value.int .i64 (1 + k3)] 3))
          have hA5 : Acc w5 w.heap.size 23 1 (.slice Aq' (nn + 1) cq') (nn + 1) (slR (upd QA nn (some ⟨b, 0, none⟩)) (upd qn nn j) (upd qc nn c9)) := by
            refine hAn.kept hg5 ?_
            cases hx : (Value.slice Aq' (nn + 1) cq').ownBlock with
            | none => exact .inl rfl
            | some k =>
              right
              intro e
              obtain ⟨cs1, h1⟩ := hAn.typed hx
              obtain ⟨cs2, h2⟩ := hSn.typed e.symm
              exact typed_ne h1 h2 (by decide)
          have hI5 := hIn.kept hg5 (fun i hi b hb => HD3.out i hi b hb)
          have hD5 : ∀ i, i < nn + 1 → ∀ k, upd QA nn (some ⟨b, 0, none⟩) i = some ⟨k, 0, none⟩ → v'.ownBlock ≠ some k := by
            intro i hi k hk e
            rcases hw5 with h1 | h1
            · exact HD3.out i hi k hk (h1.symm.trans e)
            · have := (hIn.low hi hk).2
              rw [h1] at e
              cases e
              omega
          have hQD : QD w5 w.heap.size (.slice Aq' (nn + 1) cq') v' (nn + 1) := ⟨_, _, _, hA5, hS5, hI5, fun i hi => by
            by_cases hin : i = nn
            · subst hin; rw [upd_same]; omega
            · rw [upd_other _ _ hin]; exact H5.out i (by omega), hD5⟩
          have hr5 := (Rd.alloc hr4 (.cells #[Value.int .i64 (1 + k3)] 3)).lower hB5 hlt
          have hG5 := grown_low (grown_alloc hG4 (.cells #[Value.int .i64 (1 + k3)] 3)) hB5
          clear hA5 hS5 hI5 hD5 hAn hIn hSn hg5 hw5
          go_roundw
          case rel => exact ⟨nn + 1, q2 + 1, k - 1, by omega, by omega, fun h => by omega, rfl, hQD, hr5, by omega, hG5⟩
          case measure => simp [intOf]; omega
    · obtain rfl : k = 0 := by omega
      have hnn : 0 < nn := by omega
      go_wp2_with fail
      refine (odd_any hr _ hn (by omega)).mono ?_
      rintro e w5 ⟨od, q5, rfl, hq5, hr5, hg5, hs5, hy5⟩
      have hA5 := hA.far hg5 hlt
      have hS5 := hS.far hg5 hlt
      have HI5 := Lib.hid (HI.out.far hg5 hlt)
      have hG5 := grown_trans hG hg5
      have hsz5 := hG5.size
      clear hs5 hg5 hA hS hG hr hy5
      cases od with
      | false =>
        obtain ⟨A1, c1, e1, hO⟩ := hA5.own
        cases e1
        go_wp2
        go_ret2
        exact drawnQ_of hO.rows hS5.rows HI5.out (by omega) (by omega) (by omega) hr5 hG5 (fun b off e => by subst e; have := (hA5.block b rfl).1; omega) (fun b off e => by subst e; have := (hS5.block b rfl).1; omega) (fun i hi b hb => by have := (HI5.out.low hi hb).1; omega)
      | true =>
        have hAt := hA5.at_ hnn
        obtain ⟨bq, cq5, csq, e1, hbq1, hbq2⟩ := hAt
        cases e1
        obtain ⟨bs, cs5, e2, hbs1, hbs2⟩ := hS5.at_ hnn
        cases e2
        obtain ⟨css, hbs3⟩ := hS5.typed (k := bs) rfl
        have hqs : bq ≠ bs := fun e => by subst e; exact typed_ne hbq2 hbs3 (by decide)
        obtain ⟨_, hP0, b0, hb0⟩ := HI5.out.1 0 hnn
        have hq9 := H5.out 0 hnn
        have hlo0 := HI5.out.low hnn hb0
        have hSd0 : bs ≠ b0 := fun e => HD.out 0 hnn b0 hb0 (by rw [e]; rfl)
        go_wp2_with fail
        refine (pick_any hr5 _ (by omega)).mono ?_
        rintro e w6 ⟨k4, rfl, hk, hr6, hg6, hs6⟩
        have hk6 := hk.1; have hk7 := hk.2.1 (by omega); clear hk
        have hA6 := hA5.far hg6 hlt
        have hS6 := hS5.far hg6 hlt
        have HI6 := Lib.hid (HI5.out.far hg6 hlt)
        have hG6 := grown_trans hG5 hg6
        have hsz6 := hG6.size
        have hq6 := heap_far hbq2 hg6 (by omega)
        have ht6 := heap_far hbs3 hg6 (by omega)
        have hP6 := hP0.far hg6 hlt
        have hql := heap_lt hq6
        have htl := heap_lt ht6
        clear hs6 hg6 hA5 hS5 hG5 hr5 HI5 hP0
        obtain ⟨Ax, cx, ex, hOx⟩ := hA6.own
        cases ex
        have HRx := Lib.hid hOx.rows
        clear hOx
        have hq0 : w6.cell? ⟨bq, 0, none⟩ = some (.slice (some ⟨b0, 0, none⟩) (qn 0) (qc 0)) := by
          obtain ⟨b', off', e, _, hc⟩ := HRx.out.2 hnn
          cases e
          have := hc 0 hnn 0 _ rfl
          simpa [hb0] using this
        obtain ⟨⟨sh, HSx⟩, _⟩ : (∃ sh, Rws w6 w6.heap.size 1 (some ⟨bs, 0, none⟩) nn cs (intR sh)) ∧ True := ⟨hS6.rows, trivial⟩
        have hs0 : w6.cell? ⟨bs, 0, none⟩ = some (.int .i64 (sh 0)) := by
          obtain ⟨b', off', e, _, hc⟩ := HSx.2 hnn
          cases e
          have := hc 0 hnn 0 _ rfl
          simpa using this
        have HSy := Lib.hid HSx
        clear HSx
        have hbqg : bq ≠ g := by omega
        have hbsg : bs ≠ g := by omega
        have hb0g : b0 ≠ g := by omega
        have hqb0 : bq ≠ b0 := fun e => by
          obtain ⟨c1, h1⟩ := hP6.typed (k := b0) (by rw [hb0]; rfl)
          exact typed_ne (e ▸ hq6) h1 (by decide)
        have HQT := Lib.hid (HI6.out.typed hA6)
        rcases (show k4 = 0 ∨ k4 = 1 ∨ k4 = 2 ∨ k4 = 3 by omega) with rfl | rfl | rfl | rfl
        · obtain ⟨n0, hn0⟩ : ∃ n0, n0 = qn 0 := ⟨_, rfl⟩
          obtain ⟨c0, hc0⟩ : ∃ c0, c0 = qc 0 := ⟨_, rfl⟩
          rw [← hn0] at hq9 hP6 hq0
          rw [← hc0] at hP6 hq0
          rw [hb0] at hP6
          have HN0 := Lib.hid hn0
          have HC0 := Lib.hid hc0
          have HB0 := Lib.hid hb0
          clear hn0 hc0 hb0
          have PH := hP6.base (B' := 0) (Nat.zero_le _)
          obtain ⟨⟨o0, hz0, _⟩, _, hnc0, hcm0⟩ := PH.arr
          unfold maxLen at hcm0
          have hBz : B ≤ b0 := by omega
          clear hP6
          go_upto_region 17 with (fail)
          refine wp_region_draws (ds := [(0, 53), (1, 54), (2, 55), (3, 56), (4, 57), (5, 58), (6, 59), (7, 60), (8, 61), (9, 62), (10, 63), (11, 64)]) (B := B) (g := g) (z := b0) (O := arrO 3 [true] (n0 + 1) c0) (A := A) (m := m) (c := c) (p := _) 12 1 [kIs g (b0) (arrO 3 [true] (n0 + 1) c0) (.slice (some ⟨bq, 0, none⟩) nn cq), kIs g (b0) (arrO 3 [true] (n0 + 1) c0) (.slice (some ⟨bq, 0, none⟩) nn cq), kIs g (b0) (arrO 3 [true] (n0 + 1) c0) (.pointer (some ⟨bq, 0, none⟩)), kIs g (b0) (arrO 3 [true] (n0 + 1) c0) (.slice (some ⟨b0, 0, none⟩) n0 c0), kArr g (b0) (arrO 3 [true] (n0 + 1) c0) 3 2 (fun cs => cs = #[.int .i64 0, .int .i64 51]), kIs g (b0) (arrO 3 [true] (n0 + 1) c0) (.pointer (some ⟨g, 0, none⟩)), kInt g (b0) (arrO 3 [true] (n0 + 1) c0) 0 1, kCell g (b0) (arrO 3 [true] (n0 + 1) c0) (fun v => ∃ y0 : Int, 0 ≤ y0 ∧ y0 ≤ 51 ∧ v = .int .i64 y0), kInt g (b0) (arrO 3 [true] (n0 + 1) c0) 0 51, kArr g (b0) (arrO 3 [true] (n0 + 1) c0) 3 1 (fun cs => ∃ y0 : Int, 0 ≤ y0 ∧ y0 ≤ 51 ∧ cs = #[.int .i64 y0]), kGrow g (b0) 3 [true] (n0) (c0) (w6.heap.size), kIs g (b0) (arrO 3 [true] (n0 + 1) c0) (.pointer (some ⟨bq, 0, none⟩))] (by kernel_rfl) (by kernel_rfl) (by first | exact .inl rfl | exact .inr (by kernel_rfl)) hr6 (heap_lt hz0) (by rfl) ?_ rfl rfl ?_
          · refine each_cons ?_ ( each_cons ?_ ( each_cons ?_ ( each_cons ?_ ( each_cons ?_ ( each_cons ?_ ( each_cons ?_ ( each_cons ?_ ( each_cons ?_ ( each_cons ?_ ( each_cons ?_ ( each_cons ?_ ( each_nil))))))))))))
            · intro q a' w' hq hRd hLe hzl hfr hdep
              have e6 : a'.tmps.getD 6 undef = .slice (some ⟨bq, 0, none⟩) nn cq := hfr 6 rfl
              have f6 := e6; simp only [Array.getD_eq_getD_getElem?] at f6
              refine wpOp_plain rfl rfl (fun K hK => ?_)
              go_simp
              exact hK _ _ ⟨_, q, rfl, by omega, hRd, Turns.refl _, rfl, nofun⟩
            · intro q a' w' hq hRd hLe hzl hfr hdep
              have e6 : a'.tmps.getD 6 undef = .slice (some ⟨bq, 0, none⟩) nn cq := hfr 6 rfl
              have f6 := e6; simp only [Array.getD_eq_getD_getElem?] at f6
              refine wpOp_plain rfl rfl (fun K hK => ?_)
              go_simp
              exact hK _ _ ⟨_, q, rfl, by omega, hRd, Turns.refl _, rfl, nofun⟩
            · intro q a' w' hq hRd hLe hzl hfr hdep
              have e54 : a'.tmps.getD 54 undef = .slice (some ⟨bq, 0, none⟩) nn cq := hdep 1 _ 54 rfl rfl rfl
              have f54 := e54; simp only [Array.getD_eq_getD_getElem?] at f54
              refine wpOp_plain rfl rfl (fun K hK => ?_)
              go_simp
              exact hK _ _ ⟨_, q, rfl, by omega, hRd, Turns.refl _, rfl, nofun⟩
            · intro q a' w' hq hRd hLe hzl hfr hdep
              have e55 : a'.tmps.getD 55 undef = .pointer (some ⟨bq, 0, none⟩) := hdep 2 _ 55 rfl rfl rfl
              have f55 := e55; simp only [Array.getD_eq_getD_getElem?] at f55
              have kx := (World.cell?_of_block (w := _) (w' := w') (a := ⟨bq, 0, none⟩) ((hLe.block _ hql hbqg).resolve_right fun e => hqb0 e.1)).trans hq0
              refine wpOp_plain rfl rfl (fun K hK => ?_)
              go_simp
              exact hK _ _ ⟨_, q, rfl, by omega, hRd, Turns.refl _, rfl, nofun⟩
            · intro q a' w' hq hRd hLe hzl hfr hdep
              refine wpOp_plain rfl rfl (fun K hK => ?_)
              go_simp
              exact hK _ _ ⟨_, q, rfl, by omega, hRd.alloc _, Turns.alloc _ _, ⟨_, _, rfl, by have := hRd.lt; omega, heap_alloc_new _ _, rfl⟩, nofun⟩
            · intro q a' w' hq hRd hLe hzl hfr hdep
              have e0 : a'.tmps.getD 0 undef = .pointer (some ⟨g, 0, none⟩) := hfr 0 rfl
              have f0 := e0; simp only [Array.getD_eq_getD_getElem?] at f0
              refine wpOp_plain rfl rfl (fun K hK => ?_)
              go_simp
              exact hK _ _ ⟨_, q, rfl, by omega, hRd, Turns.refl _, rfl, nofun⟩
            · intro q a' w' hq hRd hLe hzl hfr hdep
              have e58 : a'.tmps.getD 58 undef = .pointer (some ⟨g, 0, none⟩) := hdep 5 _ 58 rfl rfl rfl
              have f58 := e58; simp only [Array.getD_eq_getD_getElem?] at f58
              refine wpOp_plain rfl rfl (fun K hK => ?_)
              go_simp
              refine (pick_any hRd _ (by omega)).mono ?_
              rintro e w2 ⟨k, rfl, hk, hr, hg, hs⟩
              have hk1 := hk.1; have hk2 := hk.2.1; have hk3 := hk.2.2
              exact hK _ _ ⟨_, _, rfl, by omega, hr, Turns.of_grown hg, ⟨k, rfl, by omega, by omega⟩, nofun⟩
            · intro q a' w' hq hRd hLe hzl hfr hdep
              obtain ⟨a57, cs57, e57, hb57, hh57, rfl⟩ : (kArr g (b0) (arrO 3 [true] (n0 + 1) c0) 3 2 (fun cs => cs = #[.int .i64 0, .int .i64 51])).p (a'.tmps.getD 57 undef) w' := hdep 4 _ 57 rfl rfl rfl
              have f57 := e57; simp only [Array.getD_eq_getD_getElem?] at f57
              obtain ⟨x59, e59, b59, c59⟩ : (kInt g (b0) (arrO 3 [true] (n0 + 1) c0) 0 1).p (a'.tmps.getD 59 undef) w' := hdep 6 _ 59 rfl rfl rfl
              have f59 := e59; simp only [Array.getD_eq_getD_getElem?] at f59
              rcases (show x59 = 0 ∨ x59 = 1 by omega) with rfl | rfl
              · refine wpOp_plain rfl rfl (fun K hK => ?_)
                go_simp
                exact hK _ _ ⟨_, q, rfl, by omega, hRd, Turns.refl _, ⟨_, _, _, rfl, hb57, (cell_of_row _ _ 0 _ _ _ hh57).trans rfl, 0, by omega, by omega, rfl⟩, nofun⟩
              · refine wpOp_plain rfl rfl (fun K hK => ?_)
                go_simp
                exact hK _ _ ⟨_, q, rfl, by omega, hRd, Turns.refl _, ⟨_, _, _, rfl, hb57, (cell_of_row _ _ 1 _ _ _ hh57).trans rfl, 51, by omega, by omega, rfl⟩, nofun⟩
            · intro q a' w' hq hRd hLe hzl hfr hdep
              obtain ⟨a60, o60, v60, e60, hb60, hc60, y60_0, by60_0, cy60_0, rfl⟩ : (kCell g (b0) (arrO 3 [true] (n0 + 1) c0) (fun v => ∃ y0 : Int, 0 ≤ y0 ∧ y0 ≤ 51 ∧ v = .int .i64 y0)).p (a'.tmps.getD 60 undef) w' := hdep 7 _ 60 rfl rfl rfl
              have f60 := e60; simp only [Array.getD_eq_getD_getElem?] at f60
              refine wpOp_plain rfl rfl (fun K hK => ?_)
              go_simp
              exact hK _ _ ⟨_, q, rfl, by omega, hRd, Turns.refl _, ⟨_, rfl, by omega, by omega⟩, nofun⟩
            · intro q a' w' hq hRd hLe hzl hfr hdep
              obtain ⟨x61, e61, b61, c61⟩ : (kInt g (b0) (arrO 3 [true] (n0 + 1) c0) 0 51).p (a'.tmps.getD 61 undef) w' := hdep 8 _ 61 rfl rfl rfl
              have f61 := e61; simp only [Array.getD_eq_getD_getElem?] at f61
              refine wpOp_plain rfl rfl (fun K hK => ?_)
              go_simp
              exact hK _ _ ⟨_, q, rfl, by omega, hRd.alloc _, Turns.alloc _ _, ⟨_, _, rfl, by have := hRd.lt; omega, heap_alloc_new _ _, x61, by omega, by omega, rfl⟩, nofun⟩
            · intro q a' w' hq hRd hLe hzl hfr hdep
              have e56 : a'.tmps.getD 56 undef = .slice (some ⟨b0, 0, none⟩) n0 c0 := hdep 3 _ 56 rfl rfl rfl
              have f56 := e56; simp only [Array.getD_eq_getD_getElem?] at f56
              obtain ⟨a62, cs62, e62, hb62, hh62, y62_0, by62_0, cy62_0, rfl⟩ : (kArr g (b0) (arrO 3 [true] (n0 + 1) c0) 3 1 (fun cs => ∃ y0 : Int, 0 ≤ y0 ∧ y0 ≤ 51 ∧ cs = #[.int .i64 y0])).p (a'.tmps.getD 62 undef) w' := hdep 9 _ 62 rfl rfl rfl
              have f62 := e62; simp only [Array.getD_eq_getD_getElem?] at f62
              refine wpOp_plain rfl rfl (fun K hK => ?_)
              refine wp_push (g := g) (zb := b0) (B := w6.heap.size) (n := n0) (c := c0) (ks := [true]) (.tmp 56) (.tmp 62) 23 rfl _ 8 Try.underlying23 info_int (by decide) (by decide) (by decide) e56 (pacc_turned PH hLe hb0g) hb0g e62 hh62 (plain1 (by omega)) (by omega) hRd.lt (by have := hLe.size; omega) ?_
              intro v2 w2 hv2 hT2 hO2
              exact hK _ _ ⟨_, q, rfl, by omega, hRd.pushed hO2 hb0g hBz, hT2, hv2, nofun⟩
            · intro q a' w' hq hRd hLe hzl hfr hdep
              have e53 : a'.tmps.getD 53 undef = .slice (some ⟨bq, 0, none⟩) nn cq := hdep 0 _ 53 rfl rfl rfl
              have f53 := e53; simp only [Array.getD_eq_getD_getElem?] at f53
              refine wpOp_plain rfl rfl (fun K hK => ?_)
              go_simp
              exact hK _ _ ⟨_, q, rfl, by omega, hRd, Turns.refl _, rfl, nofun⟩
          intro vs w8 q8 hq8 hr8 hg8 hT8 hN8
          obtain h63 : (kGrow g (b0) 3 [true] (n0) (c0) (w6.heap.size)).p (vs 10) w8 := hT8 10 63 rfl
          have e64 : vs 11 = .pointer (some ⟨bq, 0, none⟩) := hT8 11 64 rfl
          clear hT8 hN8
          simp only [putAll, List.drop_succ_cons, List.drop_zero, e64]
          clear e64
          go_simp
          obtain ⟨b', c', hv, hb'g, hb'c, hb'B, hP'⟩ := h63
          have hb'l := (hP'.block b' (by rw [hv]; rfl)).2
          rw [hv] at hP' ⊢
          have hq8 := hg8.keep hq6 hbqg hqb0
          obtain ⟨kq, fq⟩ := blk hq8
          have hql8 := heap_lt hq8
          have hx0 : w8.cell? ⟨bq, 0, none⟩ = some (.slice (some ⟨b0, 0, none⟩) n0 c0) := by rw [kq]; rw [(blk hq6).1] at hq0; exact hq0
          have hs8 := hg8.size
          have KQ := Lib.hid kq
          clear kq
          go_wp2
          go_ret2
          have hRq : Rws w8 w8.heap.size 1 (some ⟨bq, 0, none⟩) nn cq (slR QA qn qc) := by
            have h1 := HRx.out
            refine ⟨h1.1, fun _ => ⟨bq, 0, rfl, hql8, fun i hi j v hv => ?_⟩⟩
            obtain ⟨b', off', e, _, hc⟩ := h1.2 hnn
            cases e
            have h2 := hc i hi j v hv
            rw [(blk hq6).1] at h2
            rw [KQ.out]
            exact h2
          have hgs := grown_set w8 bq 0 (.slice (some ⟨b', 0, none⟩) (n0 + 1) c')
          have hI8 : QI w8 0 QA qn qc nn → True := fun _ => trivial
          have hIk : ∀ i, i < nn → i ≠ 0 → qn i ≤ 9 ∧ PAcc w8 0 3 [true] (.slice (QA i) (qn i) (qc i)) (qn i) ∧ ∃ b, QA i = some ⟨b, 0, none⟩ := by
            intro i hi hne
            obtain ⟨h1, h2, k, h3⟩ := HI6.out.1 i hi
            have h4 := HI6.out.low hi h3
            refine ⟨h1, (h2.base (Nat.zero_le _)).turned hg8 (b := k) (by rw [h3]; rfl) (by omega) (fun e => ?_), k, h3⟩
            exact HI6.out.2 0 i (by omega) hi (by rw [HB0.out, h3, e])
          have hI9 : QI (w8.setCell ⟨bq, 0, none⟩ (.slice (some ⟨b', 0, none⟩) (n0 + 1) c')) 0 (upd QA 0 (some ⟨b', 0, none⟩)) (upd qn 0 (n0 + 1)) (upd qc 0 c') nn := by
            refine ⟨fun i hi => ?_, fun i j hij hj => ?_⟩
            · by_cases e : i = 0
              · subst e
                simp only [upd_same]
                refine ⟨by omega, hP'.kept hgs (.inr ?_), b', rfl⟩
                intro e
                have : b' = bq := by simpa [Value.ownBlock] using e
                subst this
                obtain ⟨c1, h1⟩ := hP'.typed (k := b') rfl
                exact typed_ne hq8 h1 (by decide)
              · simp only [upd_other _ _ e]
                obtain ⟨h1, h2, k, h3⟩ := hIk i hi e
                refine ⟨h1, h2.kept hgs (.inr ?_), k, h3⟩
                rw [h3]
                intro e2
                have : k = bq := by simpa [Value.ownBlock] using e2
                subst this
                obtain ⟨c1, h4⟩ := h2.typed (k := k) (by rw [h3]; rfl)
                exact typed_ne hq8 h4 (by decide)
            · rw [upd_other _ _ (show j ≠ 0 by omega)]
              by_cases e : i = 0
              · subst e
                rw [upd_same]
                obtain ⟨_, _, k, h3⟩ := hIk j hj (by omega)
                have h4 := HI6.out.low hj h3
                rw [h3]
                intro e2
                have e3 : b' = k := by simpa using e2
                rcases hb'B with h5 | h5
                · exact HI6.out.2 0 j (by omega) hj (by rw [HB0.out, h3, ← e3, h5])
                · omega
              · rw [upd_other _ _ e]
                exact HI6.out.2 i j hij hj
          have hS8 : PAcc w8 0 3 [true] (.slice (some ⟨bs, 0, none⟩) nn cs) nn := (hS6.base (Nat.zero_le _)).turned hg8 rfl hbsg hSd0
          have hS9 := (hS8.kept hgs (.inr (by simp [Value.ownBlock]; omega))).rows
          have hG8 : w.grownBy w8 (some g) := ⟨hg8.os.trans hG6.os, hg8.tape.trans hG6.tape, hg8.output.trans hG6.output, by omega, fun k hk hne => by
            have h1 : k ≠ g := by simpa using hne
            rcases hg8.block k (by omega) h1 with h2 | ⟨h2, _⟩
            · exact h2.trans (hG6.block k hk hne)
            · omega⟩
          exact drawnQ_of (rows_set hq8 hRq 0 (some ⟨b', 0, none⟩) (n0 + 1) c' (by simpa using hql8)) hS9 hI9 (by omega) (by omega) (by omega) (hr8.far hgs hbqg (by omega)) (grown_far hG8 hgs (by omega)) (fun b off e => by cases e; exact hbqg) (fun b off e => by cases e; exact hbsg) (fun i hi b hb => by
            by_cases h0 : i = 0
            · subst h0; rw [upd_same] at hb; cases hb; exact hb'g
            · rw [upd_other _ _ h0] at hb; have := (HI6.out.low hi hb).1; omega)
        · go_upto_region 19 with (fail)
          refine wp_region_draws (ds := [(0, 67), (1, 68), (2, 69), (3, 70), (4, 71), (5, 72), (6, 73)]) (B := B) (g := g) (z := g) (O := fun _ => False) (A := A) (m := m) (c := c) (p := _) 7 1 [kIs g g (fun _ => False) (.slice (some ⟨bs, 0, none⟩) nn cs), kArr g g (fun _ => False) 3 2 (fun cs => cs = #[.int .i64 0, .int .i64 51]), kIs g g (fun _ => False) (.pointer (some ⟨g, 0, none⟩)), kInt g g (fun _ => False) 0 1, kCell g g (fun _ => False) (fun v => ∃ y0 : Int, 0 ≤ y0 ∧ y0 ≤ 51 ∧ v = .int .i64 y0), kInt g g (fun _ => False) 0 51, kIs g g (fun _ => False) (.pointer (some ⟨bs, 0, none⟩))] (by kernel_rfl) (by kernel_rfl) (by first | exact .inl rfl | exact .inr (by kernel_rfl)) hr6 (Rd.lt hr6) (by rfl) ?_ rfl rfl ?_
          · refine each_cons ?_ ( each_cons ?_ ( each_cons ?_ ( each_cons ?_ ( each_cons ?_ ( each_cons ?_ ( each_cons ?_ ( each_nil)))))))
            · intro q a' w' hq hRd hLe hzl hfr hdep
              have e7 : a'.tmps.getD 7 undef = .slice (some ⟨bs, 0, none⟩) nn cs := hfr 7 rfl
              have f7 := e7; simp only [Array.getD_eq_getD_getElem?] at f7
              refine wpOp_plain rfl rfl (fun K hK => ?_)
              go_simp
              exact hK _ _ ⟨_, q, rfl, by omega, hRd, Turns.refl _, rfl, nofun⟩
            · intro q a' w' hq hRd hLe hzl hfr hdep
              refine wpOp_plain rfl rfl (fun K hK => ?_)
              go_simp
              exact hK _ _ ⟨_, q, rfl, by omega, hRd.alloc _, Turns.alloc _ _, ⟨_, _, rfl, by have := hRd.lt; omega, heap_alloc_new _ _, rfl⟩, nofun⟩
            · intro q a' w' hq hRd hLe hzl hfr hdep
              have e0 : a'.tmps.getD 0 undef = .pointer (some ⟨g, 0, none⟩) := hfr 0 rfl
              have f0 := e0; simp only [Array.getD_eq_getD_getElem?] at f0
              refine wpOp_plain rfl rfl (fun K hK => ?_)
              go_simp
              exact hK _ _ ⟨_, q, rfl, by omega, hRd, Turns.refl _, rfl, nofun⟩
            · intro q a' w' hq hRd hLe hzl hfr hdep
              have e69 : a'.tmps.getD 69 undef = .pointer (some ⟨g, 0, none⟩) := hdep 2 _ 69 rfl rfl rfl
              have f69 := e69; simp only [Array.getD_eq_getD_getElem?] at f69
              refine wpOp_plain rfl rfl (fun K hK => ?_)
              go_simp
              refine (pick_any hRd _ (by omega)).mono ?_
              rintro e w2 ⟨k, rfl, hk, hr, hg, hs⟩
              have hk1 := hk.1; have hk2 := hk.2.1; have hk3 := hk.2.2
              exact hK _ _ ⟨_, _, rfl, by omega, hr, Turns.of_grown hg, ⟨k, rfl, by omega, by omega⟩, nofun⟩
            · intro q a' w' hq hRd hLe hzl hfr hdep
              obtain ⟨a68, cs68, e68, hb68, hh68, rfl⟩ : (kArr g g (fun _ => False) 3 2 (fun cs => cs = #[.int .i64 0, .int .i64 51])).p (a'.tmps.getD 68 undef) w' := hdep 1 _ 68 rfl rfl rfl
              have f68 := e68; simp only [Array.getD_eq_getD_getElem?] at f68
              obtain ⟨x70, e70, b70, c70⟩ : (kInt g g (fun _ => False) 0 1).p (a'.tmps.getD 70 undef) w' := hdep 3 _ 70 rfl rfl rfl
              have f70 := e70; simp only [Array.getD_eq_getD_getElem?] at f70
              rcases (show x70 = 0 ∨ x70 = 1 by omega) with rfl | rfl
              · refine wpOp_plain rfl rfl (fun K hK => ?_)
                go_simp
                exact hK _ _ ⟨_, q, rfl, by omega, hRd, Turns.refl _, ⟨_, _, _, rfl, hb68, (cell_of_row _ _ 0 _ _ _ hh68).trans rfl, 0, by omega, by omega, rfl⟩, nofun⟩
              · refine wpOp_plain rfl rfl (fun K hK => ?_)
                go_simp
                exact hK _ _ ⟨_, q, rfl, by omega, hRd, Turns.refl _, ⟨_, _, _, rfl, hb68, (cell_of_row _ _ 1 _ _ _ hh68).trans rfl, 51, by omega, by omega, rfl⟩, nofun⟩
            · intro q a' w' hq hRd hLe hzl hfr hdep
              obtain ⟨a71, o71, v71, e71, hb71, hc71, y71_0, by71_0, cy71_0, rfl⟩ : (kCell g g (fun _ => False) (fun v => ∃ y0 : Int, 0 ≤ y0 ∧ y0 ≤ 51 ∧ v = .int .i64 y0)).p (a'.tmps.getD 71 undef) w' := hdep 4 _ 71 rfl rfl rfl
              have f71 := e71; simp only [Array.getD_eq_getD_getElem?] at f71
              refine wpOp_plain rfl rfl (fun K hK => ?_)
              go_simp
              exact hK _ _ ⟨_, q, rfl, by omega, hRd, Turns.refl _, ⟨_, rfl, by omega, by omega⟩, nofun⟩
            · intro q a' w' hq hRd hLe hzl hfr hdep
              have e67 : a'.tmps.getD 67 undef = .slice (some ⟨bs, 0, none⟩) nn cs := hdep 0 _ 67 rfl rfl rfl
              have f67 := e67; simp only [Array.getD_eq_getD_getElem?] at f67
              refine wpOp_plain rfl rfl (fun K hK => ?_)
              go_simp
              exact hK _ _ ⟨_, q, rfl, by omega, hRd, Turns.refl _, rfl, nofun⟩
          intro vs w8 q8 hq8 hr8 hg8 hT8 hN8
          replace hg8 := hg8.grown
          obtain ⟨x72, e72, b72, c72⟩ : (kInt g g (fun _ => False) 0 51).p (vs 5) w8 := hT8 5 72 rfl
          have e73 : vs 6 = .pointer (some ⟨bs, 0, none⟩) := hT8 6 73 rfl
          clear hT8 hN8
          simp only [putAll, List.drop_succ_cons, List.drop_zero, e72, e73]
          clear e72 e73
          go_simp
          have hA8 := hA6.far hg8 hlt
          have hI8 := HI6.out.far hg8 hlt
          have ht8 := heap_far ht6 hg8 hbsg
          obtain ⟨kq, fq⟩ := blk ht8
          have htl8 := heap_lt ht8
          have hx0 : w8.cell? ⟨bs, 0, none⟩ = some (.int .i64 (sh 0)) := by rw [kq]; rw [(blk ht6).1] at hs0; exact hs0
          have HI8 := Lib.hid hI8
          have HA8 := Lib.hid hA8
          have KQ := Lib.hid kq
          clear hI8 hA8 kq
          go_wp2
          go_ret2
          have hgs := grown_set w8 bs 0 (.int .i64 x72)
          have hRs : Rws w8 w8.heap.size 1 (some ⟨bs, 0, none⟩) nn cs (intR sh) := by
            refine ⟨HSy.out.1, fun _ => ⟨bs, 0, rfl, htl8, fun i hi j v hv => ?_⟩⟩
            obtain ⟨b', off', e, _, hc⟩ := HSy.out.2 hnn
            cases e
            have h2 := hc i hi j v hv
            rw [(blk ht6).1] at h2
            rw [KQ.out]
            exact h2
          have hA9 := HA8.out.kept hgs (.inr (by simp [Value.ownBlock]; omega))
          obtain ⟨Ay, cy, ey, hOy⟩ := hA9.own
          cases ey
          exact drawnQ_of hOy.rows ⟨_, rows_setI ht8 hRs 0 x72 (by simpa using htl8)⟩ (HI8.out.kept hgs (fun i hi b hb e => HD.out i hi b hb (by rw [← e]; rfl))) (by omega) (by omega) (by omega) (hr8.far hgs hbsg (by omega)) (grown_far (grown_trans hG6 hg8) hgs (by omega)) (fun b off e => by cases e; exact hbqg) (fun b off e => by cases e; exact hbsg) (fun i hi b hb => by have := (HI6.out.low hi hb).1; omega)
        · go_wp2_with (at_builtin; refine wpList_pushP rfl (.tmp 76) (.tmp 77) 23 rfl 3 _ [true] 8 Try.underlying23 info_int (by decide) (by decide) (by decide) rfl (hS6.next (Below.al (Below.refl _ _) _)) rfl (heap_alloc_new _ _) (plain1 (by omega)) (by omega) (by simp; omega) ?_; intro v' w7 hS7 hB7 hg7)
          have hAn := hA6.next (Below.al (Below.refl _ _) (.cells #[Value.int .i64 1] 3))
          have hIn := HI6.out.next (Below.al (Below.refl _ _) (.cells #[Value.int .i64 1] 3))
          replace hg7 : (w6.alloc (.cells #[Value.int .i64 1] 3)).grownBy w7 (some bs) := hg7
          have hA7 := hAn.kept hg7 (.inr (by simpa [Value.ownBlock] using hqs))
          have hI7 := hIn.kept hg7 (fun i hi b hb e => HD.out i hi b hb (by rw [← e]; rfl))
          obtain ⟨As7, cs7, rfl, _, _⟩ := hS7.form
          obtain ⟨Ay, cy, ey, hOy⟩ := hA7.own
          cases ey
          have HO := Lib.hid hOy.rows
          have HI7 := Lib.hid hI7
          clear hOy hA7 hI7 hIn hAn
          go_wp2
          go_ret2
          exact drawnQ_of HO.out hS7.rows HI7.out (by omega) (by omega) (by omega) ((Rd.alloc hr6 _).lower hB7 hlt) (grown_low (grown_alloc hG6 _) hB7) (fun b off e => by cases e; exact hbqg) (fun b off e => by subst e; have := (hS7.block b rfl).1; omega) (fun i hi b hb => by have := (HI6.out.low hi hb).1; omega)
        · obtain ⟨kq, fq⟩ := blk hq6
          clear kq
          go_wp2
          go_ret2
          have hgs := grown_set w6 bq 0 (.slice (some ⟨w6.heap.size, 0, none⟩) 9 9)
          have hb := below_new (w6.setCell ⟨bq, 0, none⟩ (.slice (some ⟨w6.heap.size, 0, none⟩) 9 9)) (.cells #[.int .i64 1, .int .i64 1, .int .i64 1, .int .i64 1, .int .i64 1, .int .i64 1, .int .i64 1, .int .i64 1, .int .i64 1] 3)
          have hIa := (HI6.out.kept hgs (fun i hi b hb e => HQT.out i hi b hb (by rw [← e]; rfl))).next hb
          have hSa := (hS6.kept hgs (.inr (by simpa [Value.ownBlock] using Ne.symm hqs))).next hb
          have hh := heap_alloc_new (w6.setCell ⟨bq, 0, none⟩ (.slice (some ⟨w6.heap.size, 0, none⟩) 9 9)) (.cells #[.int .i64 1, .int .i64 1, .int .i64 1, .int .i64 1, .int .i64 1, .int .i64 1, .int .i64 1, .int .i64 1, .int .i64 1] 3)
          have hz : (w6.setCell ⟨bq, 0, none⟩ (.slice (some ⟨w6.heap.size, 0, none⟩) 9 9)).heap.size = w6.heap.size := by simp [World.setCell]
          rw [hz] at hh
          have hN := pacc_of (B := w.heap.size) (ks := [true]) (n := 9) (c := 9) hh ⟨_, rfl, rfl, fun _ => [.int .i64 1], fun _ => ⟨1, [], rfl, by decide, rfl⟩, rfl⟩ (by omega) (Nat.le_refl _) (by unfold maxLen; omega)
          have hIb := hIa.set hnn hN (by omega) (fun i hi _ e => by have := (HI6.out.low hi e).2; omega)
          exact drawnQ_of ((rows_set hq6 HRx.out 0 (some ⟨w6.heap.size, 0, none⟩) 9 9 (B2 := (w6.setCell ⟨bq, 0, none⟩ (.slice (some ⟨w6.heap.size, 0, none⟩) 9 9)).heap.size) (by rw [hz]; exact hql)).next hb) hSa.rows hIb (by omega) (by omega) (by omega) ((hr6.far hgs hbqg (by omega)).below hb) (grown_alloc (grown_far hG6 hgs (by omega)) _) (fun b off e => by cases e; exact hbqg) (fun b off e => by cases e; exact hbsg) (fun i hi b hb => by
            by_cases h0 : i = 0
            · subst h0; rw [upd_same] at hb; cases hb; omega
            · rw [upd_other _ _ h0] at hb; have := (HI6.out.low hi hb).1; omega)
end Go.Proofs.Ytghmcedfiebolaa
