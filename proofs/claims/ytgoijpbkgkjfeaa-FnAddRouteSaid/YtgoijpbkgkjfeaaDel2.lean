/-
  slices.DeleteFunc on routes of one's own; DropRoute of the program.
-/
import Derived.Test.YtgoijpbkgkjfeaaDel
import Derived.Test.YtgoijpbkgkjfeaaCel
import Derived.Test.YtgoijpbkgkjfeaaList
namespace Go.Proofs.Ytgoijpbkgkjfeaa
open Go Go.RowKit

theorem New.val {w : World} {g : Nat} {t : TypeId} {m n c : Nat} {R : Nat → List Value} (h : New w g t m n c R) {i : Nat} (hi : i < n) (j : Nat) {v : Value} (hv : (R i)[j]? = some v) : w.cell? ⟨g, i * m + j, none⟩ = some v := by
  obtain ⟨cs, h1, h2, h3, h4⟩ := h
  rw [(blk h1).1]
  exact h4 i hi j v hv
theorem kn_lt {a b : Nat → Int} {x y : Int} {k j : Nat} (hk : hitB a b x y k = true) (hkj : k < j) : kn a b x y j < j := by
  induction j with
  | zero => omega
  | succ j ih =>
    cases h : hitB a b x y j
    · rw [(kn_keep h).1]
      have : k ≠ j := fun e => by rw [e, h] at hk; cases hk
      have := ih (by omega)
      omega
    · rw [(kn_hit h).1]
      have := kn_le (a := a) (b := b) (x := x) (y := y) j
      omega
theorem zero_one : ∀ i, i < 3 → ((Value.agg #[.int .i64 0, .int .i64 0, .int .i64 0]).cells[i]!).oneCell' = true := fun i hi => by
  rcases (show i = 0 ∨ i = 1 ∨ i = 2 by omega) with rfl | rfl | rfl <;> rfl
set_option maxHeartbeats 8000000 in
theorem deleteRoute_any {w : World} {g n cc : Nat} {a b c : Nat → Int} {h : Nat} {x y : Int} (hN : New w g 27 3 n cc (routeR a b c)) (hcm : cc ≤ maxLen) (hh : w.heap[h]? = some (.cells #[.int .i64 x, .int .i64 y] 25 (0, 0))) (hgh : g ≠ h) :
    Calls Try.prog 36 #[.slice (some ⟨g, 0, none⟩) n cc, (.func (.func 37) #[] #[.pointer (some ⟨h, 0, none⟩)])] w fun e w' => e = .returned (.slice (some ⟨g, 0, none⟩) (kn a b x y n) cc) ∧ New w' g 27 3 (kn a b x y n) cc (fun i => routeR a b c (ki a b x y n i)) ∧ w.grownBy w' (some g) := by
  have eg : ∀ args w, (callFunc 37 args).run Try.prog w = .ok (.enter 37 args) w := enters_of Try.func37 (by kernel_rfl) rfl
  have hl := heap_lt hh
  have hgl := hN.lt
  have hnc : n ≤ cc := by obtain ⟨cs, _, _, h3, _⟩ := hN; exact h3
  have hcm' := hcm
  unfold maxLen at hcm'
  have hI := indexRoute_any (hN.rows hcm (B := w.heap.size) hgl) (Nat.le_refl _) hh
  go_enter Try.func36, Try.ntmps36
  go_wp2_with fail
  refine hI.mono ?_
  rintro e w1 ⟨r, rfl, hr, hb1⟩
  clear hI
  have hN1 := hN.below hb1 hgl
  have hh1 := (hb1.block h hl).trans hh
  have hG1 : w.grownBy w1 (some g) := grown_low (grown_refl w _) hb1
  rcases hr with ⟨rfl, hno⟩ | ⟨k, hk, rfl, hhit, hbef⟩
  · have he := Lib.hid (kn_none hno)
    clear hno
    go_wp2
    go_ret
    refine ⟨by rw [he.out.1] <;> rfl, ?_, hG1⟩
    rw [he.out.1]
    exact hN1.congr fun i hi => by rw [he.out.2 i hi]
  · have hkn := kn_none hbef
    have hk1 := kn_hit hhit
    have HL := Lib.hid (fun j (hj : k < j) => kn_lt hhit hj)
    have e1 : kn a b x y (k + 1) = k := by rw [hk1.1, hkn.1]
    have e2 : ∀ i, i < k → ki a b x y (k + 1) i = i := fun i hi => by rw [hk1.2, hkn.2 i hi]
    have E1 := Lib.hid e1
    have E2 := Lib.hid e2
    clear hkn hk1 hhit hbef e1 e2 hN hh1 hb1
    have e3 : IntKind.i64.wrap ((k : Int) + 1) = ((k + 1 : Nat) : Int) := by rw [IntWalk.i64_in _ (by omega)]; omega
    have e6 : ((k : Int) == -1) = false := by simp <;> omega
    go_wp2
    go_loopw [5, 6] (fun vi vj wr => ∃ j : Nat, k < j ∧ j ≤ n ∧ vi = .int .i64 (kn a b x y j : Nat) ∧ vj = .int .i64 j ∧ (∃ R : Nat → List Value, New wr g 27 3 n cc R ∧ (∀ i, (R i).length = 3) ∧ (∀ i, i < kn a b x y j → R i = routeR a b c (ki a b x y j i)) ∧ ∀ i, j ≤ i → R i = routeR a b c i) ∧ w.grownBy wr (some g)) (fun _ vj _ => n - (intOf vj).toNat)
    case atStart => exact ⟨k + 1, by omega, by omega, by rw [E1.out], by first | rfl | go_num, ⟨_, hN1, fun _ => rfl, fun i hi => by rw [E1.out] at hi; rw [E2.out i hi], fun _ _ => rfl⟩, hG1⟩
    case round =>
      obtain ⟨j, hkj, hj, rfl, rfl, ⟨R, hN, hm, hR1, hR2⟩, hG⟩ := hrel
      have hgr := hN.lt
      have hhr := (hG.block h hl (by simpa using Ne.symm hgh)).trans hh
      have hlr := heap_lt hhr
      have hki := HL.out j hkj
      have hsz := hG.size
      have HM := Lib.hid hm
      have HR1 := Lib.hid hR1
      by_cases hlt : j < n
      · have q0 : wr.cell? ⟨g, j * 3, none⟩ = some (.int .i64 (a j)) := hN.val hlt 0 (v := .int .i64 (a j)) (by rw [hR2 j (Nat.le_refl _)]; rfl)
        have q1 : wr.cell? ⟨g, j * 3 + 1, none⟩ = some (.int .i64 (b j)) := hN.val hlt 1 (v := .int .i64 (b j)) (by rw [hR2 j (Nat.le_refl _)]; rfl)
        have q2 : wr.cell? ⟨g, j * 3 + 2, none⟩ = some (.int .i64 (c j)) := hN.val hlt 2 (v := .int .i64 (c j)) (by rw [hR2 j (Nat.le_refl _)]; rfl)
        have HR2 := Lib.hid hR2
        have HN := Lib.hid hN
        have e4 : ((kn a b x y j : Nat) : Int) < (n : Int) := by omega
        clear hN hm hR1 hR2
        cases hx : hitB a b x y j with
        | true =>
          have hcall := dropClosure_any (w := wr.alloc (.cells #[.int .i64 (a j), .int .i64 (b j), .int .i64 (c j)] 27)) (c := c) hx ((heap_alloc_old _ _ hlr).trans hhr)
          have HX := Lib.hid (kn_hit hx)
          clear hx
          go_wp2_with (go_at_fn 37; refine hcall.mono ?_; rintro e w2 ⟨rfl, hb2⟩)
          have hbw := Below.tr (show Below wr.heap.size wr (wr.alloc (.cells #[.int .i64 (a j), .int .i64 (b j), .int .i64 (c j)] 27)) by (repeat (first | exact Below.refl _ _ | assumption | refine Below.al ?_ _ | refine Below.dr ?_ | (refine Below.st ?_ (by simp <;> omega) _) | (refine Below.tr ?_ (by assumption))))) hb2
          go_roundw
          case rel => exact ⟨j + 1, by omega, by omega, by rw [HX.out.1], by go_num, ⟨R, HN.out.below hbw hgr, HM.out, fun i hi => by rw [HX.out.1] at hi; rw [HX.out.2]; exact HR1.out i hi, fun i hi => HR2.out i (by omega)⟩, grown_low hG (hbw.mono hsz)⟩
          case measure => simp [intOf]; omega
        | false =>
          have hcall := dropClosure_any (w := wr.alloc (.cells #[.int .i64 (a j), .int .i64 (b j), .int .i64 (c j)] 27)) (c := c) hx ((heap_alloc_old _ _ hlr).trans hhr)
          have HX := Lib.hid (kn_keep hx)
          clear hx
          go_wp2_with (first | (go_at_fn 37; refine hcall.mono ?_; rintro e w2 ⟨rfl, hb2⟩; have hbw := Below.tr (show Below wr.heap.size wr (wr.alloc (.cells #[.int .i64 (a j), .int .i64 (b j), .int .i64 (c j)] 27)) by (repeat (first | exact Below.refl _ _ | assumption | refine Below.al ?_ _ | refine Below.dr ?_ | (refine Below.st ?_ (by simp <;> omega) _) | (refine Below.tr ?_ (by assumption))))) hb2; have hN2 := HN.out.below hbw hgr; have kv := fun i => (keepc hb2 wr.heap.size (by simp) i).trans ((blk (heap_alloc_new wr (.cells #[.int .i64 (a j), .int .i64 (b j), .int .i64 (c j)] 27))).1 i)) | (refine wpList_store_row rfl 27 (.tmp 33) (.tmp 32) rfl (.agg #[.int .i64 (a j), .int .i64 (b j), .int .i64 (c j)]) hN2 (show kn a b x y j < n by omega) HM.out rfl rfl (row := routeR a b c j) rfl rfl (by kernel_rfl) (routeR_one a b c j) ?_; intro w3 hN3 hg3 hs3))
          go_roundw
          case rel =>
            refine ⟨j + 1, by omega, by omega, by rw [HX.out.1]; go_num, by go_num, ⟨_, hN3, fun i => ?_, fun i hi => ?_, fun i hi => ?_⟩, grown_trans (grown_low hG (hbw.mono hsz)) hg3⟩
            · split
              · rfl
              · exact HM.out i
            · rw [HX.out.1] at hi
              rw [HX.out.2]
              simp only
              split
              · rfl
              · exact HR1.out i (by omega)
            · rw [if_neg (by omega)]
              exact HR2.out i (by omega)
          case measure => simp [intOf]; omega
      · obtain rfl : j = n := by omega
        have HN := Lib.hid hN
        have e4 : ((kn a b x y j : Nat) : Int) ≤ (j : Int) := by omega
        have e5 : ((kn a b x y j : Nat) : Int) ≤ (cc : Int) := by omega
        have hne : ¬ cc = kn a b x y j := by omega
        clear hN hm hR1 hR2
        go_wp2_with (refine wpList_clear rfl 23 (.tmp 38) rfl Try.underlying23 zero_route (m := 3) rfl zero_one HN.out hki HM.out rfl ?_; intro w4 hN4 hg4)
        go_ret
        exact ⟨rfl, hN4.congr fun i hi => HR1.out i hi, grown_trans hG hg4⟩
end Go.Proofs.Ytgoijpbkgkjfeaa
