/-
  Slices of slices of ints as the laws copy, compare and mark them.
-/
import Derived.Test.YtghmcedfiebolaaQue
import Derived.Test.YtghmcedfiebolaaIntM
namespace Go.Proofs.Ytghmcedfiebolaa
open Go Go.ChangeShapes Go.WideShapes Go.RowKit

section
variable {H : Type} {enc : TypeId × Value → H} {P : Program}
/-- A slice argument of slices of ints. -/
theorem mat_of {W : World} {t e e2 : TypeId} (f : Nat) (ht : P.underlying t = some (.slice e)) (he : P.underlying e = some (.slice e2)) (hfl : flatOf P f e2 = some [true]) (hc : P.cellsOf e2 = 1) (hce : P.cellsOf e = 1) {A : Option Addr} {n k : Nat} {d : DataW H} {p : List MemPlace}
    (h : DataW.Trod enc P W 0 (fun _ => true) true t (.slice A n k) d p) : ∃ qn q, Qs W W.heap.size A n k qn q := by
  obtain ⟨fuel, hf⟩ := h
  have hf' : DataW.trod enc P W 0 (fun _ => true) true fuel t [.slice A n k] = some (d, p) := by simpa [Value.cells] using hf
  rcases Go.Deep.open_slice ht hf' with ⟨hcs, _⟩ | ⟨a, len, cap, m, q, D, Pl, hcs, _, hl, hm, hmm, _, hx⟩
  · simp only [List.cons.injEq, Value.slice.injEq, and_true] at hcs
    obtain ⟨rfl, rfl, rfl⟩ := hcs
    exact ⟨fun _ => 0, fun _ _ => 0, fun _ => none, fun _ => 0, Rws.nil _ _ _ _, fun i hi => absurd hi (by omega)⟩
  · simp only [List.cons.injEq, Value.slice.injEq, and_true] at hcs
    obtain ⟨rfl, rfl, rfl⟩ := hcs
    have hmc : m = k := by simpa using hmm
    subst hmc
    obtain ⟨T, hT⟩ := Go.Deep.choose_lt (α := Option Addr × Nat × Nat × (Nat → Int)) (p := fun i T => W.cell? (a.add i) = some (.slice T.1 T.2.1 T.2.2.1) ∧ Rws W W.heap.size 1 T.1 T.2.1 T.2.2.1 (intR T.2.2.2)) (fun i hi => by
      obtain ⟨cs, h1, h2⟩ := hx i hi
      obtain ⟨_, h3, h4⟩ := World.cells?_some h1
      rw [hce] at h3 h4
      obtain ⟨v, rfl⟩ : ∃ v, cs = [v] := by
        cases cs with
        | nil => simp at h3
        | cons v r => exact ⟨v, by cases r with | nil => rfl | cons _ _ => simp at h3⟩
      obtain ⟨A', n', k', rfl, R, hp, hR⟩ := rows_cell f [true] he hfl hc (by decide) h2
      obtain ⟨z, rfl⟩ := intR_of hp
      refine ⟨(A', n', k', z), ?_, hR⟩
      have := h4 0 (by omega)
      rw [Nat.mul_one] at this
      have e2 : (a.add i).add 0 = a.add i := by simp [Addr.add]
      rw [e2] at this
      simpa using this)
    refine ⟨fun i => (T i).2.1, fun i => (T i).2.2.2, fun i => (T i).1, fun i => (T i).2.2.1, ⟨⟨hl, hm⟩, fun hn => ?_⟩, fun i hi => (hT i (by omega)).2⟩
    obtain ⟨b, off, spot⟩ := a
    have hspot : spot = none := by
      have := World.cell?_spot (hT 0 (by omega)).1
      simpa [Addr.add] using this
    subst hspot
    refine ⟨b, off, rfl, ?_, fun i hi j v hv => ?_⟩
    · have := cell_lt (hT 0 (by omega)).1
      simpa [Addr.add] using this
    · have h5 := (hT i (by omega)).1
      rw [Go.WideShapes.add_plain] at h5
      cases j with
      | zero =>
        have : Value.slice (T i).1 (T i).2.1 (T i).2.2.1 = v := by simpa [slR] using hv
        rw [Nat.mul_one, Nat.add_zero, ← this]
        exact h5
      | succ j => simp [slR] at hv
end

/-- Slices of ints in blocks of their own, all from B on and below C, in a block of their own. -/
def OwnQ (w : World) (B C : Nat) (A : Option Addr) (n : Nat) (qn : Nat → Nat) (q : Nat → Nat → Int) : Prop :=
  ∃ (g : Nat) (gs : Nat → Nat), A = some ⟨g, 0, none⟩ ∧ B ≤ g ∧ g < C ∧ New w g 23 1 n n (slR (fun i => some ⟨gs i, 0, none⟩) qn qn) ∧
    (∀ i, i < n → B ≤ gs i ∧ gs i < C ∧ New w (gs i) 3 1 (qn i) (qn i) (intR (q i))) ∧ (∀ i j, i < j → j < n → gs i < gs j)
section
variable {w w' : World} {B C : Nat} {A : Option Addr} {n : Nat} {qn : Nat → Nat} {q : Nat → Nat → Int}
theorem OwnQ.qs (h : OwnQ w B C A n qn q) (hn : n ≤ 1048576) (hq : ∀ i, i < n → qn i ≤ 1048576) : Qs w w.heap.size A n n qn q := by
  obtain ⟨g, gs, rfl, h1, h2, h3, h4, _⟩ := h
  exact ⟨_, _, h3.rows (by unfold maxLen; omega) h3.lt, fun i hi => (h4 i hi).2.2.rows (by have := hq i hi; unfold maxLen; omega) (h4 i hi).2.2.lt⟩
theorem OwnQ.keep (h : OwnQ w B C A n qn q) (hk : ∀ k, B ≤ k → k < C → k < w.heap.size → w'.heap[k]? = w.heap[k]?) : OwnQ w' B C A n qn q := by
  obtain ⟨g, gs, rfl, h1, h2, h3, h4, h5⟩ := h
  exact ⟨g, gs, rfl, h1, h2, h3.keep (hk g h1 h2 h3.lt), fun i hi => ⟨(h4 i hi).1, (h4 i hi).2.1, (h4 i hi).2.2.keep (hk _ (h4 i hi).1 (h4 i hi).2.1 (h4 i hi).2.2.lt)⟩, h5⟩
theorem OwnQ.next (h : OwnQ w B C A n qn q) (hb : Below w.heap.size w w') : OwnQ w' B C A n qn q := h.keep fun k _ _ hk => hb.block k hk
theorem OwnQ.apart {D E : Nat} (h : OwnQ w B C A n qn q) (hw : WroteIn w w' D E) (hd : E ≤ B ∨ C ≤ D) : OwnQ w' B C A n qn q := h.keep fun k h1 h2 h3 => hw.block k h3 (by omega)
end
theorem new_type {w : World} {g g' : Nat} {t t' : TypeId} {m m' n n' c c' : Nat} {R R' : Nat → List Value} (h : New w g t m n c R) (h' : New w g' t' m' n' c' R') (hne : t ≠ t') : g ≠ g' := by
  obtain ⟨cs, h1, _⟩ := h
  obtain ⟨cs', h2, _⟩ := h'
  intro e
  subst e
  rw [h1] at h2
  cases h2
  exact hne rfl

def szQ (n : Nat) (qn : Nat → Nat) (l : Int) : Int := if ((n + plSum qn n : Nat) : Int) ≤ l then l - (n + plSum qn n : Nat) else -1
theorem plSum_mono (qn : Nat → Nat) : ∀ {k n : Nat}, k ≤ n → plSum qn k ≤ plSum qn n
  | k, 0, h => by obtain rfl : k = 0 := by omega
                  exact Nat.le_refl _
  | k, n + 1, h => by
    rcases Nat.lt_or_ge k (n + 1) with h1 | h1
    · have := plSum_mono qn (k := k) (n := n) (by omega)
      rw [plSum]; omega
    · obtain rfl : k = n + 1 := by omega
      exact Nat.le_refl _
theorem plSum_ge (qn : Nat → Nat) {i n : Nat} (hi : i < n) : qn i ≤ plSum qn n := by
  have := plSum_mono qn (k := i + 1) (n := n) hi
  rw [plSum] at this; omega

set_option maxHeartbeats 2000000 in
theorem szIntSS_any {w : World} {B : Nat} {A : Option Addr} {n c : Nat} {qn : Nat → Nat} {q : Nat → Nat → Int} (l : Int) (h0 : 0 ≤ l) (h1 : l ≤ 1048576) (H : Qs w B A n c qn q) (hB : B ≤ w.heap.size) :
    Calls Try.prog 10 #[.slice A n c, .int .i64 l] w fun e w' => e = .returned (.int .i64 (szQ n qn l)) ∧ w = w' := by
  obtain ⟨QA, qc, ⟨⟨hnc, hcm⟩, hrow⟩, HI⟩ := H
  unfold maxLen at hcm
  by_cases hn : (n : Int) ≤ l
  · have hI := Lib.hid HI
    clear HI
    go_enter Try.func10, Try.ntmps10
    go_wp2
    go_loop [1, 5] (fun le i => ∃ k : Nat, k ≤ n ∧ i = .int .i64 k ∧ le = .int .i64 (l - n - (plSum qn k : Nat)) ∧ (n : Int) + (plSum qn k : Nat) ≤ l) (fun _ i => n - (intOf i).toNat)
    case atStart => exact ⟨0, by omega, rfl, by simp [plSum], by simpa [plSum] using hn⟩
    case round =>
      obtain ⟨k, hk, rfl, rfl, hle⟩ := hrel
      by_cases hlt : k < n
      · obtain ⟨bl, off, rfl, hbB, hc⟩ := hrow (by omega)
        have hr := hc k hlt
        rw [Nat.mul_one] at hr
        have hbs : bl < w.heap.size := by omega
        have q0 : w.cell? ⟨bl, off + k, none⟩ = some (.slice (QA k) (qn k) (qc k)) := hr 0 _ rfl
        have hIk := (hI.out k hlt).1
        have hmo := plSum_mono qn (k := k + 1) (n := n) hlt
        have hss : plSum qn (k + 1) = plSum qn k + qn k := rfl
        have HSS := Lib.hid hss
        clear hss
        clear hr hc hrow
        generalize QA k = Ak at *
        generalize qc k = ck at *
        by_cases hq : (qn k : Int) ≤ l - n - (plSum qn k : Nat)
        · have hsz := Lib.hid (show szI (qn k) (l - n - (plSum qn k : Nat)) = l - n - (plSum qn k : Nat) - (qn k : Nat) from if_pos hq)
          go_wp2_with (go_at_call 31; refine (szIntS_any _ hIk.1 hIk.2 (by omega) (by omega) _).mono ?_; rintro e w1 ⟨rfl, rfl⟩; rw [hsz.out])
          go_round
          case rel => exact ⟨k + 1, by omega, by go_num, by rw [HSS.out]; go_num, by rw [HSS.out]; omega⟩
          case measure => simp [intOf]; omega
        · have hsz := Lib.hid (show szI (qn k) (l - n - (plSum qn k : Nat)) = -1 from if_neg hq)
          have he := Lib.hid (show szQ n qn l = -1 from if_neg (by have := HSS.out; omega))
          go_wp2_with (go_at_call 31; refine (szIntS_any _ hIk.1 hIk.2 (by omega) (by omega) _).mono ?_; rintro e w1 ⟨rfl, rfl⟩; rw [hsz.out])
          go_ret
          exact ⟨by rw [he.out] <;> rfl, rfl⟩
      · obtain rfl : k = n := by omega
        have he := Lib.hid (show szQ k qn l = l - (k + plSum qn k : Nat) from if_pos (by omega))
        clear hrow
        go_wp2
        go_ret
        exact ⟨by rw [he.out] <;> (try go_num) <;> (try simp) <;> (try omega), rfl⟩
  · have he := Lib.hid (show szQ n qn l = -1 from if_neg (by omega))
    clear hrow HI
    go_enter Try.func10, Try.ntmps10
    go_wp2
    go_ret
    exact ⟨by rw [he.out] <;> rfl, rfl⟩

/-- What the copying of slices hands back. -/
def MadeQ (w : World) (n : Nat) (qn : Nat → Nat) (q : Nat → Nat → Int) (e : Ending) (w' : World) : Prop :=
  ∃ A, e = .returned (.slice A n n) ∧ OwnQ w' w.heap.size w'.heap.size A n qn q ∧ Below w.heap.size w w'
theorem info_sl : (Try.prog.info? 23).map (fun i => (i.zero, i.size, i.bytes)) = some (some (.slice none 0 0), 1, 24) := by kernel_rfl
set_option maxHeartbeats 4000000 in
theorem toIntSS_any {w : World} {B : Nat} {A : Option Addr} {n c : Nat} {qn : Nat → Nat} {q : Nat → Nat → Int} (H : Qs w B A n c qn q) (hB : B ≤ w.heap.size) (hn : n ≤ 1048576) (hq : ∀ i, i < n → qn i ≤ 1048576) :
    Calls Try.prog 12 #[.slice A n c] w (MadeQ w n qn q) := by
  obtain ⟨iT, hi, hz, hs, hb⟩ := info_parts info_sl
  have hmk := run_make_rows (P := Try.prog) 22 23 iT _ 1 Try.underlying22 hi hz hs n (by rw [hb]; omega) (by omega)
  obtain ⟨QA, qc, ⟨⟨hnc, hcm⟩, hrow⟩, HI⟩ := H
  unfold maxLen at hcm
  have hI := Lib.hid HI
  have hQ := Lib.hid hq
  clear hi hz hs hb HI hq
  go_enter Try.func12, Try.ntmps12
  go_wp2
  clear hmk
  go_loopw [4] (fun i wr => ∃ k : Nat, k ≤ n ∧ i = .int .i64 k ∧ (∃ gs : Nat → Nat, New wr w.heap.size 23 1 k n (slR (fun i => some ⟨gs i, 0, none⟩) qn qn) ∧ (∀ i, i < k → w.heap.size ≤ gs i ∧ New wr (gs i) 3 1 (qn i) (qn i) (intR (q i))) ∧ (∀ i j, i < j → j < k → gs i < gs j)) ∧ Below w.heap.size w wr) (fun i _ => n - (intOf i).toNat)
  case atStart => exact ⟨0, by omega, rfl, ⟨fun _ => 0, by simpa using new_made w 23 _ 1 n _, fun i hi => absurd hi (by omega), fun i j h1 h2 => absurd h2 (by omega)⟩, by (repeat (first | exact Below.refl _ _ | assumption | refine Below.al ?_ _ | refine Below.dr ?_ | (refine Below.st ?_ (by simp <;> omega) _) | (refine Below.tr ?_ (by assumption))))⟩
  case round =>
    obtain ⟨k, hk, rfl, ⟨gs, hN, hG, hM⟩, hBw⟩ := hrel
    have HG := Lib.hid hG
    have HM := Lib.hid hM
    clear hG hM
    by_cases hlt : k < n
    · obtain ⟨b, off, rfl, hbB, hc⟩ := hrow (by omega)
      have hr := hc k hlt
      rw [Nat.mul_one] at hr
      have hsw := hBw.size
      have hbs : b < wr.heap.size := by omega
      have hgs := hN.lt
      have q0 : wr.cell? ⟨b, off + k, none⟩ = some (.slice (QA k) (qn k) (qc k)) := (keepc hBw b (by omega) _).trans (hr 0 _ rfl)
      have HIk := Lib.hid ((hI.out k hlt).below (hBw.mono hB))
      have hQk := hQ.out k hlt
      clear hrow hc hr
      generalize QA k = Ak at *
      generalize qc k = ck at *
      go_wp2_with fail
      refine (toIntS_any HIk.out (by omega) hQk).mono ?_
      rintro e w1 ⟨g1, rfl, hg1, hN1, hb1⟩
      have hNo := hN.below hb1 hgs
      have hne := new_type hNo hN1 (by decide)
      have hs1 := hb1.size
      have hg1s := hN1.lt
      have hNo2 : New w1 w.heap.size 23 1 k n (slR (fun i => some ⟨upd gs k g1 i, 0, none⟩) qn qn) := hNo.congr (fun i hi => by simp only [slR]; rw [upd_other gs g1 (show i ≠ k by omega)])
      go_wp2_with (refine wpList_store_next1 rfl 23 (.tmp 21) (.tmp 20) rfl (.slice (some ⟨g1, 0, none⟩) (qn k) (qn k)) hNo2 hlt (fun _ => rfl) rfl rfl (by simp only [slR, upd_same]; rfl) (by kernel_rfl) (slR_one _ _ _ _) ?_; intro w2 hN2 hg2 hs2)
      go_roundw
      case rel =>
        refine ⟨k + 1, by omega, by go_num, ⟨upd gs k g1, hN2, fun i hi => ?_, fun i j hij hj => ?_⟩, Below.of_grown (Below.tr hBw hb1) hg2 (Nat.le_refl _)⟩
        · rcases Nat.lt_or_ge i k with h1 | h1
          · rw [upd_other gs g1 (show i ≠ k by omega)]
            obtain ⟨h2, h3⟩ := HG.out i h1
            have h4 := h3.below hb1 h3.lt
            have h5 := new_type hNo h4 (by decide)
            exact ⟨h2, h4.keep (hg2.block _ h4.lt (by simpa using Ne.symm h5))⟩
          · obtain rfl : i = k := by omega
            rw [upd_same]
            exact ⟨by omega, hN1.keep (hg2.block _ hg1s (by simpa using Ne.symm hne))⟩
        · rcases Nat.lt_or_ge j k with h1 | h1
          · rw [upd_other gs g1 (show i ≠ k by omega), upd_other gs g1 (show j ≠ k by omega)]
            exact HM.out i j hij h1
          · obtain rfl : j = k := by omega
            rw [upd_other gs g1 (show i ≠ j by omega), upd_same]
            have := (HG.out i hij).2.lt
            omega
      case measure => simp [intOf]; omega
    · obtain rfl : k = n := by omega
      have hgs := hN.lt
      clear hrow
      have HN := Lib.hid hN
      clear hN
      go_wp2
      go_ret
      exact ⟨_, rfl, ⟨w.heap.size, gs, rfl, Nat.le_refl _, hgs, HN.out, fun i hi => ⟨(HG.out i hi).1, (HG.out i hi).2.lt, (HG.out i hi).2⟩, HM.out⟩, hBw⟩

set_option maxHeartbeats 2000000 in
theorem eqIntSS_same {w : World} {B : Nat} {A A' : Option Addr} {n c c' : Nat} {qn : Nat → Nat} {q : Nat → Nat → Int} (H : Qs w B A n c qn q) (H' : Qs w B A' n c' qn q) (hB : B ≤ w.heap.size) :
    Calls Try.prog 15 #[.slice A n c, .slice A' n c'] w fun e w' => e = .returned (.bool true) ∧ Below w.heap.size w w' := by
  obtain ⟨QA, qc, ⟨⟨hnc, hcm⟩, hrow⟩, HI⟩ := H
  obtain ⟨QA', qc', ⟨⟨hnc', hcm'⟩, hrow'⟩, HI'⟩ := H'
  unfold maxLen at hcm hcm'
  have hI := Lib.hid HI
  have hI' := Lib.hid HI'
  clear HI HI'
  go_enter Try.func15, Try.ntmps15
  go_wp2
  go_loopw [5] (fun i wr => ∃ k : Nat, k ≤ n ∧ i = .int .i64 k ∧ Below w.heap.size w wr) (fun i _ => n - (intOf i).toNat)
  case atStart => exact ⟨0, by omega, rfl, by (repeat (first | exact Below.refl _ _ | assumption | refine Below.al ?_ _ | refine Below.dr ?_ | (refine Below.st ?_ (by simp <;> omega) _) | (refine Below.tr ?_ (by assumption))))⟩
  case round =>
    obtain ⟨k, hk, rfl, hBw⟩ := hrel
    by_cases hlt : k < n
    · obtain ⟨b, off, rfl, hbB, hc⟩ := hrow (by omega)
      obtain ⟨b', off', rfl, hbB', hc'⟩ := hrow' (by omega)
      have hr := hc k hlt
      rw [Nat.mul_one] at hr
      have hr' := hc' k hlt
      rw [Nat.mul_one] at hr'
      have hsw := hBw.size
      have hbs : b < wr.heap.size := by omega
      have hbs' : b' < wr.heap.size := by omega
      have hBr : B ≤ wr.heap.size := by omega
      have q0 : wr.cell? ⟨b, off + k, none⟩ = some (.slice (QA k) (qn k) (qc k)) := (keepc hBw b (by omega) _).trans (hr 0 _ rfl)
      have s0 : wr.cell? ⟨b', off' + k, none⟩ = some (.slice (QA' k) (qn k) (qc' k)) := (keepc hBw b' (by omega) _).trans (hr' 0 _ rfl)
      have P1 := Lib.hid ((hI.out k hlt).below (hBw.mono hB))
      have P2 := Lib.hid ((hI'.out k hlt).below (hBw.mono hB))
      clear hrow hc hr hrow' hc' hr'
      go_wp2
      refine wp_region_still (ds := [(0, 17), (1, 18), (2, 19), (3, 20), (4, 21), (5, 22), (6, 23), (7, 24), (8, 25), (9, 26)]) 10 (by kernel_rfl) (by kernel_rfl) (by first | exact .inl rfl | exact .inr (by kernel_rfl)) (by rfl) rfl rfl ?_
      apply still_cons
      · intro a' w' hLe hfr hdep
        have e0 := hfr 0 rfl
        conv at e0 => rhs; whnf
        have f0 := e0; simp only [Array.getD_eq_getD_getElem?] at f0
        refine wpOp_plain rfl rfl (fun K hK => ?_)
        go_simp
        exact hK _ _ ⟨rfl, Below.refl _ _⟩
      apply still_cons
      · intro a' w' hLe hfr hdep
        have e5 := hfr 5 rfl
        conv at e5 => rhs; whnf
        have f5 := e5; simp only [Array.getD_eq_getD_getElem?] at f5
        refine wpOp_plain rfl rfl (fun K hK => ?_)
        go_simp
        exact hK _ _ ⟨rfl, Below.refl _ _⟩
      apply still_cons
      · intro a' w' hLe hfr hdep
        have e17 := hdep 0 17 (Nat.le_of_ble_eq_true rfl) rfl rfl
        conv at e17 => rhs; whnf
        have f17 := e17; simp only [Array.getD_eq_getD_getElem?] at f17
        have e18 := hdep 1 18 (Nat.le_of_ble_eq_true rfl) rfl rfl
        conv at e18 => rhs; whnf
        have f18 := e18; simp only [Array.getD_eq_getD_getElem?] at f18
        refine wpOp_plain rfl rfl (fun K hK => ?_)
        go_simp
        exact hK _ _ ⟨rfl, Below.refl _ _⟩
      apply still_cons
      · intro a' w' hLe hfr hdep
        have e19 := hdep 2 19 (Nat.le_of_ble_eq_true rfl) rfl rfl
        conv at e19 => rhs; whnf
        have f19 := e19; simp only [Array.getD_eq_getD_getElem?] at f19
        have kc := fun i => keepc hLe (b) (by (try simp) <;> omega) i
        have kf := fun i => keepf hLe (b) (by (try simp) <;> omega) i
        have kc := fun i => keepc hLe (b') (by (try simp) <;> omega) i
        have kf := fun i => keepf hLe (b') (by (try simp) <;> omega) i
        refine wpOp_plain rfl rfl (fun K hK => ?_)
        go_simp
        exact hK _ _ ⟨rfl, Below.refl _ _⟩
      apply still_cons
      · intro a' w' hLe hfr hdep
        have e1 := hfr 1 rfl
        conv at e1 => rhs; whnf
        have f1 := e1; simp only [Array.getD_eq_getD_getElem?] at f1
        refine wpOp_plain rfl rfl (fun K hK => ?_)
        go_simp
        exact hK _ _ ⟨rfl, Below.refl _ _⟩
      apply still_cons
      · intro a' w' hLe hfr hdep
        have e5 := hfr 5 rfl
        conv at e5 => rhs; whnf
        have f5 := e5; simp only [Array.getD_eq_getD_getElem?] at f5
        refine wpOp_plain rfl rfl (fun K hK => ?_)
        go_simp
        exact hK _ _ ⟨rfl, Below.refl _ _⟩
      apply still_cons
      · intro a' w' hLe hfr hdep
        have e21 := hdep 4 21 (Nat.le_of_ble_eq_true rfl) rfl rfl
        conv at e21 => rhs; whnf
        have f21 := e21; simp only [Array.getD_eq_getD_getElem?] at f21
        have e22 := hdep 5 22 (Nat.le_of_ble_eq_true rfl) rfl rfl
        conv at e22 => rhs; whnf
        have f22 := e22; simp only [Array.getD_eq_getD_getElem?] at f22
        refine wpOp_plain rfl rfl (fun K hK => ?_)
        go_simp
        exact hK _ _ ⟨rfl, Below.refl _ _⟩
      apply still_cons
      · intro a' w' hLe hfr hdep
        have e23 := hdep 6 23 (Nat.le_of_ble_eq_true rfl) rfl rfl
        conv at e23 => rhs; whnf
        have f23 := e23; simp only [Array.getD_eq_getD_getElem?] at f23
        have kc := fun i => keepc hLe (b) (by (try simp) <;> omega) i
        have kf := fun i => keepf hLe (b) (by (try simp) <;> omega) i
        have kc := fun i => keepc hLe (b') (by (try simp) <;> omega) i
        have kf := fun i => keepf hLe (b') (by (try simp) <;> omega) i
        refine wpOp_plain rfl rfl (fun K hK => ?_)
        go_simp
        exact hK _ _ ⟨rfl, Below.refl _ _⟩
      apply still_cons
      · intro a' w' hLe hfr hdep
        have e20 := hdep 3 20 (Nat.le_of_ble_eq_true rfl) rfl rfl
        conv at e20 => rhs; whnf
        have f20 := e20; simp only [Array.getD_eq_getD_getElem?] at f20
        have e24 := hdep 7 24 (Nat.le_of_ble_eq_true rfl) rfl rfl
        conv at e24 => rhs; whnf
        have f24 := e24; simp only [Array.getD_eq_getD_getElem?] at f24
        refine wpOp_plain rfl rfl (fun K hK => ?_)
        go_simp
        refine (eqIntS_same (P1.out.below (hLe.mono hBr)) (P2.out.below (hLe.mono hBr)) (Nat.le_trans hBr hLe.size)).mono ?_
        rintro e w2 ⟨rfl, hb⟩
        exact hK _ _ ⟨rfl, hb⟩
      apply still_cons
      · intro a' w' hLe hfr hdep
        have e25 := hdep 8 25 (Nat.le_of_ble_eq_true rfl) rfl rfl
        conv at e25 => rhs; whnf
        have f25 := e25; simp only [Array.getD_eq_getD_getElem?] at f25
        refine wpOp_plain rfl rfl (fun K hK => ?_)
        go_simp
        exact hK _ _ ⟨rfl, Below.refl _ _⟩
      apply still_nil
      intro w1 hb1
      simp only [putAll, List.drop_succ_cons, List.drop_zero]
      go_simp
      go_wp2
      go_roundw
      case rel => exact ⟨k + 1, by omega, by go_num, Below.tr hBw hb1⟩
      case measure => simp [intOf]; omega
    · obtain rfl : k = n := by omega
      clear hrow hrow'
      go_wp2
      go_ret
      exact ⟨rfl, hBw⟩

set_option maxHeartbeats 4000000 in
theorem markIntSS_any {w : World} {B C : Nat} {A : Option Addr} {n : Nat} {qn : Nat → Nat} {q : Nat → Nat → Int} (k0 : Int) (H : OwnQ w B C A n qn q) (h0 : 0 ≤ k0) (h1 : k0 ≤ 1000000) (hn : n ≤ 1048576) (hs : plSum qn n ≤ 1048576) :
    Calls Try.prog 27 #[.slice A n n, .int .i64 k0] w fun e w' => e = .returned (.int .i64 (k0 + (plSum qn n : Nat))) ∧ WroteIn w w' B C := by
  obtain ⟨g, gs, rfl, hg1, hg2, hN, hI, hM⟩ := H
  have HI := Lib.hid hI
  have HM := Lib.hid hM
  clear hI hM
  go_enter Try.func27, Try.ntmps27
  go_wp2
  go_loopw [1, 5] (fun q i wr => ∃ k : Nat, k ≤ n ∧ i = .int .i64 k ∧ q = .int .i64 (k0 + (plSum qn k : Nat)) ∧ New wr g 23 1 n n (slR (fun i => some ⟨gs i, 0, none⟩) qn qn) ∧ (∀ i, i < n → ∃ R, New wr (gs i) 3 1 (qn i) (qn i) R) ∧ WroteIn w wr B C) (fun _ i _ => n - (intOf i).toNat)
  case atStart => exact ⟨0, by omega, rfl, by simp [plSum], hN, fun i hi => ⟨_, (HI.out i hi).2.2⟩, ⟨rfl, rfl, rfl, Nat.le_refl _, fun _ _ _ => rfl⟩⟩
  case round =>
    obtain ⟨k, hk, rfl, rfl, hNr, hR, hW⟩ := hrel
    have HR := Lib.hid hR
    clear hR hN
    by_cases hlt : k < n
    · obtain ⟨b, off, e, hbB, hc⟩ := (hNr.rows (B := wr.heap.size) (by unfold maxLen; omega) hNr.lt).2 (by omega)
      cases e
      have hr := hc k hlt
      rw [Nat.mul_one, Nat.zero_add] at hr
      have hbs := hNr.lt
      have q0 : wr.cell? ⟨g, k, none⟩ = some (.slice (some ⟨gs k, 0, none⟩) (qn k) (qn k)) := by simpa using hr 0 _ rfl
      obtain ⟨R, hRk⟩ := HR.out k hlt
      have hge := plSum_ge qn hlt
      have hmo := plSum_mono qn (k := k + 1) (n := n) hlt
      have HSS := Lib.hid (show plSum qn (k + 1) = plSum qn k + qn k from rfl)
      have hmo2 : plSum qn k ≤ 1048576 := by have := plSum_mono qn (k := k) (n := n) hk; omega
      have HNr := Lib.hid hNr
      clear hr hc hNr
      go_wp2_with fail
      refine (markIntS_new _ hRk (by unfold maxLen; omega) (by omega) (by omega) (by omega)).mono ?_
      rintro e w1 ⟨rfl, hN1, hg1'⟩
      have hne := new_type HNr.out hRk (by decide)
      go_wp2
      go_roundw
      case rel =>
        refine ⟨k + 1, by omega, by go_num, by rw [HSS.out]; go_num, HNr.out.keep (hg1'.block _ HNr.out.lt (by simpa using hne)), fun i hi => ?_, ?_⟩
        · by_cases hik : i = k
          · subst hik; exact ⟨_, hN1⟩
          · obtain ⟨R', hR'⟩ := HR.out i hi
            refine ⟨R', hR'.keep (hg1'.block _ hR'.lt ?_)⟩
            have : gs i ≠ gs k := by
              rcases Nat.lt_or_ge i k with h | h
              · have := HM.out i k h hlt; omega
              · have := HM.out k i (by omega) hi; omega
            simpa using this
        · have hb := HI.out k hlt
          exact ⟨hg1'.os.trans hW.os, hg1'.tape.trans hW.tape, hg1'.output.trans hW.output, Nat.le_trans hW.size hg1'.size, fun j hj hd => (hg1'.block j (Nat.lt_of_lt_of_le hj hW.size) (by simp; omega)).trans (hW.block j hj hd)⟩
      case measure => simp [intOf]; omega
    · obtain rfl : k = n := by omega
      clear hNr
      go_wp2
      go_ret
      exact ⟨rfl, hW⟩
end Go.Proofs.Ytghmcedfiebolaa
