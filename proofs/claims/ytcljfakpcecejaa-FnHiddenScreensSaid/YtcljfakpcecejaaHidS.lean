/-
  HiddenScreens in the reference.
-/
import Derived.Test.YtcljfakpcecejaaHid
namespace Go.Proofs.Ytcljfakpcecejaa
open Go.RowKit

set_option maxHeartbeats 16000000 in
theorem specHiddenScreens_any {w : World} {B : Nat} {A : Option Addr} {n c : Nat} {b k l h d : Nat → Int} {ps : Nat → Bool} (H : Rws w B 6 A n c (screenR b k l h d ps)) (hB : B ≤ w.heap.size) (hsm : n ≤ 1048576) :
    Calls Try.prog 31 #[.slice A n c] w (Gives w 3 1 (hidN n b k l h d) (hidR n b k l h d)) := by
  have H0 := H
  obtain ⟨⟨hnc, hcm⟩, hrow⟩ := H0
  unfold maxLen at hcm
  have H1 := Lib.hid H
  clear H
  go_enter Try.func31, Try.ntmps31
  go_wp2
  go_loopw [3, 4] (fun v i wr => ∃ j : Nat, j ≤ n ∧ (scsB n b k l h d = false → j = 0) ∧ i = .int .i64 j ∧ Acc wr w.heap.size 3 1 v (numsTo (hidB b k l h d) j).length (hidR n b k l h d) ∧ Below w.heap.size w wr) (fun _ i _ => n - (intOf i).toNat)
  case atStart => exact ⟨0, by omega, fun _ => rfl, rfl, Acc.made _ _ _ (fun _ => rfl) (Nat.le_refl _), by (repeat (first | exact Below.refl _ _ | assumption | refine Below.al ?_ _ | refine Below.dr ?_ | (refine Below.st ?_ (by simp <;> omega) _) | (refine Below.tr ?_ (by assumption))))⟩
  case round =>
    obtain ⟨j, hj, hj0, rfl, hAcc, hBw⟩ := hrel
    by_cases hlt : j < n
    · cases hv : scsB n b k l h d with
      | false =>
        obtain rfl := hj0 hv
        have he := Lib.hid (show hidN n b k l h d = (numsTo (hidB b k l h d) 0).length by simp [hidN, hv, numsTo])
        obtain ⟨A2, c2, rfl, hO⟩ := hAcc.own
        clear hrow hj0
        go_wp2_with (go_at_call 17; refine (specScreensValid_any (H1.out.below (hBw.mono hB)) (by have := hBw.size; omega)).mono ?_; rintro e w1 ⟨rfl, hb1⟩)
        go_ret
        rw [he.out]
        exact ⟨_, _, rfl, hO.next hb1, Below.tr hBw hb1⟩
      | true =>
        obtain ⟨Av, cv, rfl, hcv1, hcv2⟩ := hAcc.form
        obtain ⟨bl, off, rfl, hbB, hc⟩ := hrow (by omega)
        have hr := hc j hlt
        have hbs : bl < wr.heap.size := by have := hBw.size; omega
        have q0 : wr.cell? ⟨bl, off + j * 6, none⟩ = some (.int .i64 (b j)) := (keepc hBw bl (by omega) _).trans (hr 0 _ rfl)
        have q1 : wr.cell? ⟨bl, off + j * 6 + 1, none⟩ = some (.int .i64 (k j)) := (keepc hBw bl (by omega) _).trans (hr 1 _ rfl)
        have q2 : wr.cell? ⟨bl, off + j * 6 + 2, none⟩ = some (.int .i64 (l j)) := (keepc hBw bl (by omega) _).trans (hr 2 _ rfl)
        have q3 : wr.cell? ⟨bl, off + j * 6 + 3, none⟩ = some (.int .i64 (h j)) := (keepc hBw bl (by omega) _).trans (hr 3 _ rfl)
        have q4 : wr.cell? ⟨bl, off + j * 6 + 4, none⟩ = some (.int .i64 (d j)) := (keepc hBw bl (by omega) _).trans (hr 4 _ rfl)
        have q5 : wr.cell? ⟨bl, off + j * 6 + 5, none⟩ = some (.bool (ps j)) := (keepc hBw bl (by omega) _).trans (hr 5 _ rfl)
        have HC := Lib.hid hc
        have hjz := Lib.hid hj0
        clear hr hc hrow hj0
        go_wp2_with (go_at_call 17; refine (specScreensValid_any (H1.out.below (hBw.mono hB)) (by have := hBw.size; omega)).mono ?_; rintro e w1 ⟨rfl, hb1⟩; have k1 := keepc hb1 bl hbs; have z1 : bl < w1.heap.size := Nat.lt_of_lt_of_le hbs hb1.size)
        have hAcc1 := hAcc.next hb1
        have hBw1 := Below.tr hBw hb1
        clear q0 q1 q2 q3 q4 q5 k1 hAcc hBw hb1
        obtain ⟨wo, rfl⟩ : ∃ wo : World, wo = w1 := ⟨_, rfl⟩
        go_loopw [3, 6] (fun v2 i2 wi => v2 = .slice Av (numsTo (hidB b k l h d) j).length cv ∧ ∃ q : Nat, q ≤ j ∧ i2 = .int .i64 q ∧ (∀ x, x < q → covB (b x) (k x) (l x) (h x) (d x) (b j) (k j) (l j) (h j) (d j) = false) ∧ Below (wo.alloc (.cells #[.int .i64 (b j), .int .i64 (k j), .int .i64 (l j), .int .i64 (h j), .int .i64 (d j), .bool (ps j)] 31)).heap.size (wo.alloc (.cells #[.int .i64 (b j), .int .i64 (k j), .int .i64 (l j), .int .i64 (h j), .int .i64 (d j), .bool (ps j)] 31)) wi) (fun _ i _ => j - (intOf i).toNat)
        case atStart => exact ⟨rfl, 0, by omega, rfl, fun i hi => absurd hi (by omega), Below.refl _ _⟩
        case round =>
          obtain ⟨rfl, q, hq, rfl, hno, hBi⟩ := hrel
          have hBo : Below wo.heap.size wo wr := Below.tr (by (repeat (first | exact Below.refl _ _ | assumption | refine Below.al ?_ _ | refine Below.dr ?_ | (refine Below.st ?_ (by simp <;> omega) _) | (refine Below.tr ?_ (by assumption))))) hBi
          have hBw2 := Below.tr hBw1 hBo
          have hws := hBw1.size
          have hwx : wo.heap.size < wr.heap.size := by have := hBi.size; simp at this; omega
          have kj : ∀ i, wr.cell? ⟨wo.heap.size, i, none⟩ = #[Value.int .i64 (b j), .int .i64 (k j), .int .i64 (l j), .int .i64 (h j), .int .i64 (d j), .bool (ps j)][i]? := fun i => (keepc hBi wo.heap.size (by simp) i).trans ((blk (heap_alloc_new wo _)).1 i)
          by_cases hqj : q < j
          · have hr := HC.out q (by omega)
            have hbi : bl < wr.heap.size := by omega
            have s0 : wr.cell? ⟨bl, off + q * 6, none⟩ = some (.int .i64 (b q)) := (keepc hBw2 bl (by omega) _).trans (hr 0 _ rfl)
            have s1 : wr.cell? ⟨bl, off + q * 6 + 1, none⟩ = some (.int .i64 (k q)) := (keepc hBw2 bl (by omega) _).trans (hr 1 _ rfl)
            have s2 : wr.cell? ⟨bl, off + q * 6 + 2, none⟩ = some (.int .i64 (l q)) := (keepc hBw2 bl (by omega) _).trans (hr 2 _ rfl)
            have s3 : wr.cell? ⟨bl, off + q * 6 + 3, none⟩ = some (.int .i64 (h q)) := (keepc hBw2 bl (by omega) _).trans (hr 3 _ rfl)
            have s4 : wr.cell? ⟨bl, off + q * 6 + 4, none⟩ = some (.int .i64 (d q)) := (keepc hBw2 bl (by omega) _).trans (hr 4 _ rfl)
            have s5 : wr.cell? ⟨bl, off + q * 6 + 5, none⟩ = some (.bool (ps q)) := (keepc hBw2 bl (by omega) _).trans (hr 5 _ rfl)
            have HN := Lib.hid hno
            clear hr hno
            by_cases g1 : k q ≤ k j
            rotate_left
            · have hcv : covB (b q) (k q) (l q) (h q) (d q) (b j) (k j) (l j) (h j) (d j) = false := by simp [covB, g1]
              have g2 : k j < k q := by omega
              have hcv2 := Lib.hid hcv
              clear hcv
              go_wp2
              go_roundw
              case rel => exact ⟨rfl, q + 1, by omega, by go_num, upto HN.out hcv2.out, Below.al hBi _⟩
              case measure => simp [intOf]; omega
            cases g2 : hasB (b q) (k q) (b j) with
            | false =>
              have hcv : covB (b q) (k q) (l q) (h q) (d q) (b j) (k j) (l j) (h j) (d j) = false := by simp [covB, g2]
              have hcv2 := Lib.hid hcv
              clear hcv
              go_wp2_with (first | (go_at_call 37; refine (specPrefixHas_any _ _ _ _).mono ?_; rintro e w2 ⟨rfl, hb2⟩; have k8 := keepc hb2 wr.heap.size (by simp <;> omega); have k9 := keepc hb2 wo.heap.size (by simp <;> omega); have z8 : wr.heap.size < w2.heap.size := (by have := hb2.size; simp at this; omega); have hB2 := Below.tr (Below.al hBo _) hb2))
              go_roundw
              case rel => exact ⟨rfl, q + 1, by omega, by go_num, upto HN.out hcv2.out, Below.tr (Below.al hBi _) hb2⟩
              case measure => simp [intOf]; omega
            | true =>
              by_cases g3 : l q ≤ l j
              rotate_left
              · have hcv : covB (b q) (k q) (l q) (h q) (d q) (b j) (k j) (l j) (h j) (d j) = false := by simp [covB, g3]
                have g4 : l j < l q := by omega
                have hcv2 := Lib.hid hcv
                clear hcv
                go_wp2_with (first | (go_at_call 37; refine (specPrefixHas_any _ _ _ _).mono ?_; rintro e w2 ⟨rfl, hb2⟩; have k8 := keepc hb2 wr.heap.size (by simp <;> omega); have k9 := keepc hb2 wo.heap.size (by simp <;> omega); have z8 : wr.heap.size < w2.heap.size := (by have := hb2.size; simp at this; omega); have hB2 := Below.tr (Below.al hBo _) hb2))
                go_roundw
                case rel => exact ⟨rfl, q + 1, by omega, by go_num, upto HN.out hcv2.out, Below.tr (Below.al hBi _) hb2⟩
                case measure => simp [intOf]; omega
              by_cases g4 : h j ≤ h q
              rotate_left
              · have hcv : covB (b q) (k q) (l q) (h q) (d q) (b j) (k j) (l j) (h j) (d j) = false := by simp [covB, g4]
                have g5 : h q < h j := by omega
                have hcv2 := Lib.hid hcv
                clear hcv
                go_wp2_with (first | (go_at_call 37; refine (specPrefixHas_any _ _ _ _).mono ?_; rintro e w2 ⟨rfl, hb2⟩; have k8 := keepc hb2 wr.heap.size (by simp <;> omega); have k9 := keepc hb2 wo.heap.size (by simp <;> omega); have z8 : wr.heap.size < w2.heap.size := (by have := hb2.size; simp at this; omega); have hB2 := Below.tr (Below.al hBo _) hb2))
                go_roundw
                case rel => exact ⟨rfl, q + 1, by omega, by go_num, upto HN.out hcv2.out, Below.tr (Below.al hBi _) hb2⟩
                case measure => simp [intOf]; omega
              by_cases g5 : d q = 0
              · have g6 : (d q == 0) = true := by simpa using g5
                have hcv : covB (b q) (k q) (l q) (h q) (d q) (b j) (k j) (l j) (h j) (d j) = true := by simp [covB, g1, g2, g3, g4, g5]
                clear g5
                have hy := hidB_yes hqj hcv
                have hln := Lib.hid (numsTo_yes (p := hidB b k l h d) hy)
                have hat := Lib.hid (numAt_is (n := n) (p := hidB b k l h d) hy hlt)
                have hle := numsTo_le (hidB b k l h d) j
                have hAcc := hAcc1
                clear hy hcv
                go_wp2_with (first | (go_at_call 37; refine (specPrefixHas_any _ _ _ _).mono ?_; rintro e w2 ⟨rfl, hb2⟩; have k8 := keepc hb2 wr.heap.size (by simp <;> omega); have k9 := keepc hb2 wo.heap.size (by simp <;> omega); have z8 : wr.heap.size < w2.heap.size := (by have := hb2.size; simp at this; omega); have hB2 := Below.tr (Below.al hBo _) hb2) | (at_builtin; refine wpList_push rfl (.tmp 73) (.tmp 75) 56 rfl 3 _ 1 8 Try.underlying56 info_int rfl (by decide) (by decide) rfl ((hAcc.next hB2).next (Below.al (Below.refl _ _) _)) rfl (heap_alloc_new _ _) (by show _ = [Value.int .i64 (numAt (hidB b k l h d) n _)]; rw [hat.out]) (intR_one _ _) (by omega) (by have := hB2.size; simp <;> omega) ?_; intro v' w3 hAcc3 hBB3 hg3))
                go_roundw
                case rel => exact ⟨j + 1, by omega, by simp [hv], by go_num, by rw [hln.out]; exact hAcc3, (Below.al (Below.tr hBw1 hB2) _).trans hBB3⟩
                case measure => simp [intOf]; omega
              · have g6 : (d q == 0) = false := by simpa using g5
                by_cases g7 : d q = d j
                · have g8 : (d q == d j) = true := by simpa using g7
                  have hcv : covB (b q) (k q) (l q) (h q) (d q) (b j) (k j) (l j) (h j) (d j) = true := by simp [covB, g1, g2, g3, g4, g7]
                  clear g5 g7
                  have hy := hidB_yes hqj hcv
                  have hln := Lib.hid (numsTo_yes (p := hidB b k l h d) hy)
                  have hat := Lib.hid (numAt_is (n := n) (p := hidB b k l h d) hy hlt)
                  have hle := numsTo_le (hidB b k l h d) j
                  have hAcc := hAcc1
                  clear hy hcv
                  go_wp2_with (first | (go_at_call 37; refine (specPrefixHas_any _ _ _ _).mono ?_; rintro e w2 ⟨rfl, hb2⟩; have k8 := keepc hb2 wr.heap.size (by simp <;> omega); have k9 := keepc hb2 wo.heap.size (by simp <;> omega); have z8 : wr.heap.size < w2.heap.size := (by have := hb2.size; simp at this; omega); have hB2 := Below.tr (Below.al hBo _) hb2) | (at_builtin; refine wpList_push rfl (.tmp 73) (.tmp 75) 56 rfl 3 _ 1 8 Try.underlying56 info_int rfl (by decide) (by decide) rfl ((hAcc.next hB2).next (Below.al (Below.refl _ _) _)) rfl (heap_alloc_new _ _) (by show _ = [Value.int .i64 (numAt (hidB b k l h d) n _)]; rw [hat.out]) (intR_one _ _) (by omega) (by have := hB2.size; simp <;> omega) ?_; intro v' w3 hAcc3 hBB3 hg3))
                  go_roundw
                  case rel => exact ⟨j + 1, by omega, by simp [hv], by go_num, by rw [hln.out]; exact hAcc3, (Below.al (Below.tr hBw1 hB2) _).trans hBB3⟩
                  case measure => simp [intOf]; omega
                · have g8 : (d q == d j) = false := by simpa using g7
                  have hcv : covB (b q) (k q) (l q) (h q) (d q) (b j) (k j) (l j) (h j) (d j) = false := by simp [covB, g5, g7]
                  clear g5 g7
                  have hcv2 := Lib.hid hcv
                  clear hcv
                  go_wp2_with (first | (go_at_call 37; refine (specPrefixHas_any _ _ _ _).mono ?_; rintro e w2 ⟨rfl, hb2⟩; have k8 := keepc hb2 wr.heap.size (by simp <;> omega); have k9 := keepc hb2 wo.heap.size (by simp <;> omega); have z8 : wr.heap.size < w2.heap.size := (by have := hb2.size; simp at this; omega); have hB2 := Below.tr (Below.al hBo _) hb2))
                  go_roundw
                  case rel => exact ⟨rfl, q + 1, by omega, by go_num, upto HN.out hcv2.out, Below.tr (Below.al hBi _) hb2⟩
                  case measure => simp [intOf]; omega
          · obtain rfl : q = j := by omega
            have hln := Lib.hid (numsTo_no (p := hidB b k l h d) (hidB_no hno))
            clear hno
            go_wp2
            go_roundw
            case rel => exact ⟨q + 1, by omega, by simp [hv], by go_num, by rw [hln.out]; exact hAcc1.next hBo, Below.tr hBw1 hBo⟩
            case measure => simp [intOf]; omega
    · obtain rfl : j = n := by omega
      have he : hidN j b k l h d = (numsTo (hidB b k l h d) j).length := by
        cases hv : scsB j b k l h d with
        | true => simp [hidN, hv]
        | false => obtain rfl := hj0 hv; simp [hidN, hv, numsTo]
      have he' := Lib.hid he
      obtain ⟨A2, c2, rfl, hO⟩ := hAcc.own
      clear hrow hj0 he
      go_wp2
      go_ret
      rw [he'.out]
      exact ⟨_, _, rfl, hO, hBw⟩
end Go.Proofs.Ytcljfakpcecejaa
