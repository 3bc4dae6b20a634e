/-
  HiddenScreens, in the program and in the reference.
-/
import Derived.Test.YtcljfakpcecejaaScrV
import Derived.Test.YtcljfakpcecejaaIntE
import Derived.Test.YtcljfakpcecejaaRow
namespace Go.Proofs.Ytcljfakpcecejaa
open Go.RowKit

/-- Does a screen fit all flows that fit another one? -/
def covB (b k l h d b' k' l' h' d' : Int) : Bool := hasB b k b' && decide (k ≤ k') && decide (l ≤ l') && decide (h' ≤ h) && (d == 0 || d == d')

set_option maxHeartbeats 2000000 in
theorem implCovers_any (b k l h d : Int) (p : Bool) (b' k' l' h' d' : Int) (p' : Bool) (w : World) :
    Calls Try.prog 48 #[.agg #[.int .i64 b, .int .i64 k, .int .i64 l, .int .i64 h, .int .i64 d, .bool p], .agg #[.int .i64 b', .int .i64 k', .int .i64 l', .int .i64 h', .int .i64 d', .bool p']] w fun e w' => e = .returned (.bool (covB b k l h d b' k' l' h' d')) ∧ Below w.heap.size w w' := by
  cases h1 : hasB b k b' with
  | false =>
    go_enter Try.func48, Try.ntmps48
    go_wp2_with (go_at_call 23; refine (implPrefixHas_any _ _ _ _).mono ?_; rintro e w2 ⟨rfl, hb2⟩; have k0 := keepc hb2 w.heap.size (by simp <;> omega); have k1 := keepc hb2 (w.heap.size + 1) (by simp <;> omega); have z0 : w.heap.size + 2 ≤ w2.heap.size := (by have := hb2.size; simp at this; omega))
    go_ret
    exact ⟨by simp [covB, h1], by (repeat (first | exact Below.refl _ _ | assumption | refine Below.al ?_ _ | refine Below.dr ?_ | (refine Below.st ?_ (by simp <;> omega) _) | (refine Below.tr ?_ (by assumption))))⟩
  | true =>
    by_cases h2 : k ≤ k'
    · by_cases h3 : l ≤ l'
      · by_cases h4 : h' ≤ h
        · by_cases h5 : d = 0
          · subst h5
            go_enter Try.func48, Try.ntmps48
            go_wp2_with (go_at_call 23; refine (implPrefixHas_any _ _ _ _).mono ?_; rintro e w2 ⟨rfl, hb2⟩; have k0 := keepc hb2 w.heap.size (by simp <;> omega); have k1 := keepc hb2 (w.heap.size + 1) (by simp <;> omega); have z0 : w.heap.size + 2 ≤ w2.heap.size := (by have := hb2.size; simp at this; omega))
            go_ret
            exact ⟨by simp [covB, h1, h2, h3, h4], by (repeat (first | exact Below.refl _ _ | assumption | refine Below.al ?_ _ | refine Below.dr ?_ | (refine Below.st ?_ (by simp <;> omega) _) | (refine Below.tr ?_ (by assumption))))⟩
          · have h6 : (d == 0) = false := by simpa using h5
            go_enter Try.func48, Try.ntmps48
            go_wp2_with (go_at_call 23; refine (implPrefixHas_any _ _ _ _).mono ?_; rintro e w2 ⟨rfl, hb2⟩; have k0 := keepc hb2 w.heap.size (by simp <;> omega); have k1 := keepc hb2 (w.heap.size + 1) (by simp <;> omega); have z0 : w.heap.size + 2 ≤ w2.heap.size := (by have := hb2.size; simp at this; omega))
            go_ret
            exact ⟨by simp [covB, h1, h2, h3, h4, h5], by (repeat (first | exact Below.refl _ _ | assumption | refine Below.al ?_ _ | refine Below.dr ?_ | (refine Below.st ?_ (by simp <;> omega) _) | (refine Below.tr ?_ (by assumption))))⟩
        · have h5 : h < h' := by omega
          go_enter Try.func48, Try.ntmps48
          go_wp2_with (go_at_call 23; refine (implPrefixHas_any _ _ _ _).mono ?_; rintro e w2 ⟨rfl, hb2⟩; have k0 := keepc hb2 w.heap.size (by simp <;> omega); have k1 := keepc hb2 (w.heap.size + 1) (by simp <;> omega); have z0 : w.heap.size + 2 ≤ w2.heap.size := (by have := hb2.size; simp at this; omega))
          go_ret
          exact ⟨(by have h9 : ¬ h' ≤ h := (by omega); simp [covB, h9]), by (repeat (first | exact Below.refl _ _ | assumption | refine Below.al ?_ _ | refine Below.dr ?_ | (refine Below.st ?_ (by simp <;> omega) _) | (refine Below.tr ?_ (by assumption))))⟩
      · have h5 : l' < l := by omega
        go_enter Try.func48, Try.ntmps48
        go_wp2_with (go_at_call 23; refine (implPrefixHas_any _ _ _ _).mono ?_; rintro e w2 ⟨rfl, hb2⟩; have k0 := keepc hb2 w.heap.size (by simp <;> omega); have k1 := keepc hb2 (w.heap.size + 1) (by simp <;> omega); have z0 : w.heap.size + 2 ≤ w2.heap.size := (by have := hb2.size; simp at this; omega))
        go_ret
        exact ⟨(by have h9 : ¬ l ≤ l' := (by omega); simp [covB, h9]), by (repeat (first | exact Below.refl _ _ | assumption | refine Below.al ?_ _ | refine Below.dr ?_ | (refine Below.st ?_ (by simp <;> omega) _) | (refine Below.tr ?_ (by assumption))))⟩
    · have h5 : k' < k := by omega
      go_enter Try.func48, Try.ntmps48
      go_wp2_with (go_at_call 23; refine (implPrefixHas_any _ _ _ _).mono ?_; rintro e w2 ⟨rfl, hb2⟩; have k0 := keepc hb2 w.heap.size (by simp <;> omega); have k1 := keepc hb2 (w.heap.size + 1) (by simp <;> omega); have z0 : w.heap.size + 2 ≤ w2.heap.size := (by have := hb2.size; simp at this; omega))
      go_ret
      exact ⟨(by have h9 : ¬ k ≤ k' := (by omega); simp [covB, h9]), by (repeat (first | exact Below.refl _ _ | assumption | refine Below.al ?_ _ | refine Below.dr ?_ | (refine Below.st ?_ (by simp <;> omega) _) | (refine Below.tr ?_ (by assumption))))⟩

/-- Does one before it fit all that fits screen i? -/
def hidB (b k l h d : Nat → Int) (i : Nat) : Bool := (List.range i).any fun j => covB (b j) (k j) (l j) (h j) (d j) (b i) (k i) (l i) (h i) (d i)
theorem hidB_yes {b k l h d : Nat → Int} {i j : Nat} (hj : j < i) (hc : covB (b j) (k j) (l j) (h j) (d j) (b i) (k i) (l i) (h i) (d i) = true) : hidB b k l h d i = true := List.any_eq_true.2 ⟨j, List.mem_range.2 hj, hc⟩
theorem hidB_no {b k l h d : Nat → Int} {i : Nat} (hc : ∀ j, j < i → covB (b j) (k j) (l j) (h j) (d j) (b i) (k i) (l i) (h i) (d i) = false) : hidB b k l h d i = false :=
  List.any_eq_false.2 fun j hj => by simp [hc j (List.mem_range.1 hj)]
/-- The numbers below n of which p is true. -/
def numsTo (p : Nat → Bool) (n : Nat) : List Nat := (List.range n).filter p
theorem numsTo_yes {p : Nat → Bool} {n : Nat} (h : p n = true) : (numsTo p (n + 1)).length = (numsTo p n).length + 1 := by simp [numsTo, List.range_succ, h]
theorem numsTo_no {p : Nat → Bool} {n : Nat} (h : p n = false) : (numsTo p (n + 1)).length = (numsTo p n).length := by simp [numsTo, List.range_succ, h]
theorem numsTo_at {p : Nat → Bool} {i : Nat} (hi : p i = true) : ∀ n, i < n → (numsTo p n)[(numsTo p i).length]? = some i
  | 0, h => absurd h (by omega)
  | n + 1, h => by
    have e : numsTo p (n + 1) = numsTo p n ++ (if p n then [n] else []) := by
      unfold numsTo; rw [List.range_succ, List.filter_append]; by_cases hp : p n <;> simp [hp]
    rcases Nat.lt_or_ge i n with h1 | h1
    · have ih := numsTo_at hi n h1
      have hl := (List.getElem?_eq_some_iff.1 ih).1
      rw [e, List.getElem?_append_left hl]
      exact ih
    · obtain rfl : i = n := by omega
      rw [e, List.getElem?_append_right (Nat.le_refl _), hi]
      simp
theorem numsTo_le (p : Nat → Bool) (n : Nat) : (numsTo p n).length ≤ n := by
  have := List.length_filter_le p (List.range n)
  simpa [numsTo] using this
def numAt (p : Nat → Bool) (n : Nat) (q : Nat) : Int := ((numsTo p n).getD q 0 : Nat)
theorem numAt_is {p : Nat → Bool} {i n : Nat} (hi : p i = true) (h : i < n) : numAt p n (numsTo p i).length = i := by
  have := numsTo_at hi n h
  simp [numAt, List.getD_eq_getElem?_getD, this]
def hidN (n : Nat) (b k l h d : Nat → Int) : Nat := if scsB n b k l h d then (numsTo (hidB b k l h d) n).length else 0
def hidR (n : Nat) (b k l h d : Nat → Int) : Nat → List Value := intR (numAt (hidB b k l h d) n)
theorem hidN_le (n : Nat) (b k l h d : Nat → Int) : hidN n b k l h d ≤ n := by
  unfold hidN; split
  · exact numsTo_le _ _
  · omega

set_option maxHeartbeats 8000000 in
theorem implHiddenScreens_any {w : World} {B : Nat} {A : Option Addr} {n c : Nat} {b k l h d : Nat → Int} {ps : Nat → Bool} (H : Rws w B 6 A n c (screenR b k l h d ps)) (hB : B ≤ w.heap.size) (hsm : n ≤ 1048576) :
    Calls Try.prog 29 #[.slice A n c] w (Gives w 3 1 (hidN n b k l h d) (hidR n b k l h d)) := by
  have H0 := H
  obtain ⟨⟨hnc, hcm⟩, hrow⟩ := H0
  unfold maxLen at hcm
  have H1 := Lib.hid H
  clear H
  cases hv : scsB n b k l h d with
  | false =>
    have he := Lib.hid (show hidN n b k l h d = 0 by simp [hidN, hv])
    clear hrow
    go_enter Try.func29, Try.ntmps29
    go_wp2_with (go_at_call 16; refine (implScreensValid_any H1.out hB).mono ?_; rintro e w1 ⟨rfl, hb1⟩)
    go_ret
    rw [he.out]
    exact ⟨_, _, rfl, Own.nil _ _ _ _ _ _ _ (by unfold maxLen; omega), hb1⟩
  | true =>
    have he := Lib.hid (show hidN n b k l h d = (numsTo (hidB b k l h d) n).length by simp [hidN, hv])
    go_enter Try.func29, Try.ntmps29
    go_wp2_with (go_at_call 16; refine (implScreensValid_any H1.out hB).mono ?_; rintro e w1 ⟨rfl, hb1⟩)
    clear hv
    go_loopw [3, 13] (fun v i wr => ∃ j : Nat, j ≤ n ∧ i = .int .i64 j ∧ Acc wr w.heap.size 3 1 v (numsTo (hidB b k l h d) j).length (hidR n b k l h d) ∧ Below w.heap.size w wr) (fun _ i _ => n - (intOf i).toNat)
    case atStart => exact ⟨0, by omega, rfl, Acc.nil _ _ _ _ (fun _ => rfl), hb1⟩
    case round =>
      obtain ⟨j, hj, rfl, hAcc, hBw⟩ := hrel
      clear hb1
      by_cases hlt : j < n
      · obtain ⟨Av, cv, rfl, hcv1, hcv2⟩ := hAcc.form
        obtain ⟨bl, off, rfl, hbB, hc⟩ := hrow (by omega)
        have hr := hc j hlt
        have hbs : bl < wr.heap.size := by have := hBw.size; omega
        have q0 : wr.cell? ⟨bl, off + j * 6, none⟩ = some (.int .i64 (b j)) := (keepc hBw bl (by omega) _).trans (hr 0 _ rfl)
        have q1 : wr.cell? ⟨bl, off + j * 6 + 1, none⟩ = some (.int .i64 (k j)) := (keepc hBw bl (by omega) _).trans (hr 1 _ rfl)
        have q2 : wr.cell? ⟨bl, off + j * 6 + 2, none⟩ = some (.int .i64 (l j)) := (keepc hBw bl (by omega) _).trans (hr 2 _ rfl)
        have q3 : wr.cell? ⟨bl, off + j * 6 + 3, none⟩ = some (.int .i64 (h j)) := (keepc hBw bl (by omega) _).trans (hr 3 _ rfl)
        have q4 : wr.cell? ⟨bl, off + j * 6 + 4, none⟩ = some (.int .i64 (d j)) := (keepc hBw bl (by omega) _).trans (hr 4 _ rfl)
        have q5 : wr.cell? ⟨bl, off + j * 6 + 5, none⟩ = some (.bool (ps j)) := (keepc hBw bl (by omega) _).trans (hr 5 _ rfl)
        have HC := Lib.hid hc
        clear hr hc hrow
        go_wp2
        clear q0 q1 q2 q3 q4 q5
        have hBx : Below w.heap.size w (wr.alloc (.cells #[.int .i64 (b j), .int .i64 (k j), .int .i64 (l j), .int .i64 (h j), .int .i64 (d j), .bool (ps j)] 31)) := Below.al hBw _
        obtain ⟨wo, rfl⟩ : ∃ wo : World, wo = wr := ⟨_, rfl⟩
        go_loopw [3, 22] (fun v2 i2 wi => v2 = .slice Av (numsTo (hidB b k l h d) j).length cv ∧ ∃ q : Nat, q ≤ j ∧ i2 = .int .i64 q ∧ (∀ x, x < q → covB (b x) (k x) (l x) (h x) (d x) (b j) (k j) (l j) (h j) (d j) = false) ∧ Below (wo.alloc (.cells #[.int .i64 (b j), .int .i64 (k j), .int .i64 (l j), .int .i64 (h j), .int .i64 (d j), .bool (ps j)] 31)).heap.size (wo.alloc (.cells #[.int .i64 (b j), .int .i64 (k j), .int .i64 (l j), .int .i64 (h j), .int .i64 (d j), .bool (ps j)] 31)) wi) (fun _ i _ => j - (intOf i).toNat)
        case atStart => exact ⟨rfl, 0, by omega, rfl, fun i hi => absurd hi (by omega), Below.refl _ _⟩
        case round =>
          obtain ⟨rfl, q, hq, rfl, hno, hBi⟩ := hrel
          have hBo : Below wo.heap.size wo wr := Below.tr (by (repeat (first | exact Below.refl _ _ | assumption | refine Below.al ?_ _ | refine Below.dr ?_ | (refine Below.st ?_ (by simp <;> omega) _) | (refine Below.tr ?_ (by assumption))))) hBi
          have hBw2 := Below.tr hBw hBo
          have hws := hBw.size
          have hwx : wo.heap.size < wr.heap.size := by have := hBi.size; simp at this; omega
          have kj : ∀ i, wr.cell? ⟨wo.heap.size, i, none⟩ = #[Value.int .i64 (b j), .int .i64 (k j), .int .i64 (l j), .int .i64 (h j), .int .i64 (d j), .bool (ps j)][i]? := fun i => (keepc hBi wo.heap.size (by simp) i).trans ((blk (heap_alloc_new wo _)).1 i)
          by_cases hqj : q < j
          · have hr := HC.out q (by omega)
            have hbi : bl < wr.heap.size := by omega
            have s0 : wr.cell? ⟨bl, off + q * 6, none⟩ = some (.int .i64 (b q)) := (keepc hBw2 bl (by omega) _).trans (hr 0 _ rfl)
            have s1 : wr.cell? ⟨bl, off + q * 6 + 1, none⟩ = some (.int .i64 (k q)) := (keepc hBw2 bl (by omega) _).trans (hr 1 _ rfl)
            have s2 : wr.cell? ⟨bl, off + q * 6 + 2, none⟩ = some (.int .i64 (l q)) := (keepc hBw2 bl (by omega) _).trans (hr 2 _ rfl)
            have s3 : wr.cell? ⟨bl, off + q * 6 + 3, none⟩ = some (.int .i64 (h q)) := (keepc hBw2 bl (by omega) _).trans (hr 3 _ rfl)
            have s4 : wr.cell? ⟨bl, off + q * 6 + 4, none⟩ = some (.int .i64 (d q)) := (keepc hBw2 bl (by omega) _).trans (hr 4 _ rfl)
            have s5 : wr.cell? ⟨bl, off + q * 6 + 5, none⟩ = some (.bool (ps q)) := (keepc hBw2 bl (by omega) _).trans (hr 5 _ rfl)
            have HN := Lib.hid hno
            clear hr hno
            cases hcv : covB (b q) (k q) (l q) (h q) (d q) (b j) (k j) (l j) (h j) (d j) with
            | false =>
              have hcv2 := Lib.hid hcv
              go_wp2_with (go_at_call 48; refine (implCovers_any _ _ _ _ _ _ _ _ _ _ _ _ _).mono ?_; rintro e w2 ⟨rfl, hb2⟩)
              go_roundw
              case rel => exact ⟨rfl, q + 1, by omega, by go_num, upto HN.out hcv2.out, Below.tr (Below.al hBi _) hb2⟩
              case measure => simp [intOf]; omega
            | true =>
              have hy := hidB_yes hqj hcv
              have hln := Lib.hid (numsTo_yes (p := hidB b k l h d) hy)
              have hat := Lib.hid (numAt_is (n := n) (p := hidB b k l h d) hy hlt)
              have hle := numsTo_le (hidB b k l h d) j
              clear hy
              go_wp2_with (first | (go_at_call 48; refine (implCovers_any _ _ _ _ _ _ _ _ _ _ _ _ _).mono ?_; rintro e w2 ⟨rfl, hb2⟩; have hB2 := Below.tr (Below.al hBo _) hb2) | (at_builtin; refine wpList_push rfl (.tmp 29) (.tmp 31) 56 rfl 3 _ 1 8 Try.underlying56 info_int rfl (by decide) (by decide) rfl ((hAcc.next hB2).next (Below.al (Below.refl _ _) _)) rfl (heap_alloc_new _ _) (by show _ = [Value.int .i64 (numAt (hidB b k l h d) n _)]; rw [hat.out]) (intR_one _ _) (by omega) (by have := hB2.size; simp <;> omega) ?_; intro v' w3 hAcc3 hBB3 hg3))
              go_roundw
              case rel => exact ⟨j + 1, by omega, by go_num, by rw [hln.out]; exact hAcc3, (Below.al (Below.tr hBw hB2) _).trans hBB3⟩
              case measure => simp [intOf]; omega
          · obtain rfl : q = j := by omega
            have hln := Lib.hid (numsTo_no (p := hidB b k l h d) (hidB_no hno))
            clear hno
            go_wp2
            go_roundw
            case rel => exact ⟨q + 1, by omega, by go_num, by rw [hln.out]; exact hAcc.next hBo, Below.tr hBw hBo⟩
            case measure => simp [intOf]; omega
      · obtain rfl : j = n := by omega
        obtain ⟨A2, c2, rfl, hO⟩ := hAcc.own
        clear hrow
        go_wp2
        go_ret
        rw [he.out]
        exact ⟨_, _, rfl, hO, hBw⟩
end Go.Proofs.Ytcljfakpcecejaa
