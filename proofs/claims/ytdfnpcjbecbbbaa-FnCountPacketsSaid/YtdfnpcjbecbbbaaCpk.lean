/-
  CountPackets in the program.
-/
import Derived.Test.YtdfnpcjbecbbbaaHat
import Derived.Test.YtdfnpcjbecbbbaaCel
import Derived.Test.YtdfnpcjbecbbbaaCntM
import Derived.Test.YtdfnpcjbecbbbaaTime
namespace Go.Proofs.Ytdfnpcjbecbbbaa
open Go Go.RowKit

/-- How many of the first j packets are for host x; the sum of their sizes. -/
def cntN (h : Nat → Int) (x : Int) : Nat → Int
  | 0 => 0
  | j + 1 => cntN h x j + if h j = x then 1 else 0
def sumN (h s : Nat → Int) (x : Int) : Nat → Int
  | 0 => 0
  | j + 1 => sumN h s x j + if h j = x then s j else 0
def timesB (s : Nat → Int) (m : Nat) : Bool := (List.range m).all fun i => inB (s i) 0 100000
theorem cntN_le (h : Nat → Int) (x : Int) : ∀ j, 0 ≤ cntN h x j ∧ cntN h x j ≤ (j : Int)
  | 0 => by simp [cntN]
  | j + 1 => by
    have := cntN_le h x j
    simp only [cntN]
    split <;> omega
theorem sumN_le {h s : Nat → Int} (x : Int) : ∀ j, (∀ i, i < j → inB (s i) 0 100000 = true) → 0 ≤ sumN h s x j ∧ sumN h s x j ≤ 100000 * (j : Int)
  | 0, _ => by simp [sumN]
  | j + 1, hs => by
    have := sumN_le (h := h) (s := s) x j fun i hi => hs i (by omega)
    have := inB_true.1 (hs j (by omega))
    simp only [sumN]
    split <;> omega
theorem cntN_hit {h : Nat → Int} {x : Int} {j : Nat} (e : h j = x) : cntN h x (j + 1) = cntN h x j + 1 := by simp [cntN, e]
theorem cntN_miss {h : Nat → Int} {x : Int} {j : Nat} (e : h j ≠ x) : cntN h x (j + 1) = cntN h x j := by simp [cntN, e]
theorem sumN_hit {h s : Nat → Int} {x : Int} {j : Nat} (e : h j = x) : sumN h s x (j + 1) = sumN h s x j + s j := by simp [sumN, e]
theorem sumN_miss {h s : Nat → Int} {x : Int} {j : Nat} (e : h j ≠ x) : sumN h s x (j + 1) = sumN h s x j := by simp [sumN, e]
/-- How many counters CountPackets returns. -/
def cpkN (n : Nat) (a b d : Nat → Int) (m m' : Nat) (s : Nat → Int) : Nat := if poolB n a b d = true ∧ m = m' ∧ m ≤ 40 ∧ timesB s m = true then n else 0
def cpkR (a h s : Nat → Int) (m : Nat) : Nat → List Value := counterR a (fun k => cntN h (a k) m) (fun k => sumN h s (a k) m)
theorem cpkN_le (n : Nat) (a b d : Nat → Int) (m m' : Nat) (s : Nat → Int) : cpkN n a b d m m' s ≤ n := by unfold cpkN; split <;> omega
theorem cpkN_pool {n : Nat} {a b d : Nat → Int} {m m' : Nat} {s : Nat → Int} (h : poolB n a b d = false) : cpkN n a b d m m' s = 0 := by simp [cpkN, h]
theorem cpkN_len {n : Nat} {a b d : Nat → Int} {m m' : Nat} {s : Nat → Int} (h : ¬ m = m') : cpkN n a b d m m' s = 0 := by simp [cpkN, h]
theorem cpkN_many {n : Nat} {a b d : Nat → Int} {m m' : Nat} {s : Nat → Int} (h : ¬ m ≤ 40) : cpkN n a b d m m' s = 0 := by simp [cpkN, h]
theorem cpkN_time {n : Nat} {a b d : Nat → Int} {m m' j : Nat} {s : Nat → Int} (hj : j < m) (h : inB (s j) 0 100000 = false) : cpkN n a b d m m' s = 0 := by
  have : timesB s m = false := all_no hj h
  simp [cpkN, this]
theorem cpkN_yes {n : Nat} {a b d : Nat → Int} {m : Nat} {s : Nat → Int} (h : poolB n a b d = true) (h40 : m ≤ 40) (hs : ∀ i, i < m → inB (s i) 0 100000 = true) : cpkN n a b d m m s = n := by
  have : timesB s m = true := all_yes hs
  simp [cpkN, h, h40, this]
theorem New.val {w : World} {g : Nat} {t : TypeId} {m n c : Nat} {R : Nat → List Value} (h : New w g t m n c R) {i : Nat} (hi : i < n) (j : Nat) {v : Value} (hv : (R i)[j]? = some v) : w.cell? ⟨g, i * m + j, none⟩ = some v := by
  obtain ⟨cs, h1, h2, h3, h4⟩ := h
  rw [(blk h1).1]
  exact h4 i hi j v hv

theorem below_nw (w : World) (o : Obj) : Below w.heap.size w (w.alloc o) := (Below.refl _ _).alloc (Nat.le_refl _) o
/-- The hosts of the counters, those of the first j. -/
def toR (a : Nat → Int) (j : Nat) : Nat → List Value := counterR (fun k => if k < j then a k else 0) (fun _ => 0) (fun _ => 0)
theorem toR_next (a : Nat → Int) (j k q : Nat) (u : Value) (hu : (toR a (j + 1) k)[q]? = some u) : (k = j ∧ q = 0 ∧ u = .int .i64 (a j)) ∨ (¬ (k = j ∧ q = 0) ∧ (toR a j k)[q]? = some u) := by
  match q, hu with
  | 0, hu =>
    by_cases e : k = j
    · subst e
      simp [toR, counterR] at hu
      exact .inl ⟨rfl, rfl, hu.symm⟩
    · refine .inr ⟨fun h => e h.1, ?_⟩
      have : (k < j + 1) ↔ (k < j) := by omega
      simpa [toR, counterR, this] using hu
  | 1, hu => exact .inr ⟨fun h => by omega, hu⟩
  | 2, hu => exact .inr ⟨fun h => by omega, hu⟩
  | q + 3, hu => simp [toR, counterR] at hu
/-- One counter's packets are one more; its bytes are y. -/
def upR (a c y : Nat → Int) (k : Nat) : Nat → List Value := counterR a (fun i => if i = k then c i + 1 else c i) y
theorem upR_cell (a c y : Nat → Int) (k i q : Nat) (u : Value) (hu : (upR a c y k i)[q]? = some u) : (i = k ∧ q = 1 ∧ u = .int .i64 (c k + 1)) ∨ (¬ (i = k ∧ q = 1) ∧ (counterR a c y i)[q]? = some u) := by
  match q, hu with
  | 0, hu => exact .inr ⟨fun h => by omega, hu⟩
  | 1, hu =>
    by_cases e : i = k
    · subst e
      simp [upR, counterR] at hu
      exact .inl ⟨rfl, rfl, hu.symm⟩
    · refine .inr ⟨fun h => e h.1, ?_⟩
      simpa [upR, counterR, e] using hu
  | 2, hu => exact .inr ⟨fun h => by omega, hu⟩
  | q + 3, hu => simp [upR, counterR] at hu
theorem cpkR_cell {a h s : Nat → Int} {n j k : Nat} (hk : k < n) (he : h j = a k) (hinj : ∀ i, i < n → i ≠ k → a i ≠ a k) (i : Nat) (hi : i < n) (q : Nat) (u : Value) (hu : (cpkR a h s (j + 1) i)[q]? = some u) :
    (i = k ∧ q = 2 ∧ u = .int .i64 (sumN h s (a k) j + s j)) ∨ (¬ (i = k ∧ q = 2) ∧ (upR a (fun k => cntN h (a k) j) (fun k => sumN h s (a k) j) k i)[q]? = some u) := by
  match q, hu with
  | 0, hu => exact .inr ⟨fun h => by omega, hu⟩
  | 1, hu =>
    refine .inr ⟨fun h => by omega, ?_⟩
    by_cases e : i = k
    · subst e
      simpa [cpkR, upR, counterR, cntN_hit he] using hu
    · have : h j ≠ a i := fun e2 => hinj i hi e (by rw [← e2, he])
      simpa [cpkR, upR, counterR, cntN_miss this, e] using hu
  | 2, hu =>
    by_cases e : i = k
    · subst e
      simp [cpkR, counterR, sumN_hit he] at hu
      exact .inl ⟨rfl, rfl, hu.symm⟩
    · have : h j ≠ a i := fun e2 => hinj i hi e (by rw [← e2, he])
      refine .inr ⟨fun h => e h.1, ?_⟩
      simpa [cpkR, upR, counterR, sumN_miss this, e] using hu
  | q + 3, hu => simp [cpkR, counterR] at hu
theorem cpkR_miss {a h s : Nat → Int} {n j : Nat} (hno : ∀ i, i < n → a i ≠ h j) (i : Nat) (hi : i < n) : cpkR a h s j i = cpkR a h s (j + 1) i := by
  have : h j ≠ a i := fun e => hno i hi e.symm
  simp [cpkR, counterR, cntN_miss this, sumN_miss this]
set_option maxHeartbeats 8000000 in
theorem implCountPackets_any {w : World} {B : Nat} {A A1 A2 : Option Addr} {n c m c1 m' c2 : Nat} {a b d h s : Nat → Int} (H : Rws w B 3 A n c (hostR a b d)) (H1 : Rws w B 1 A1 m c1 (intR h)) (H2 : Rws w B 1 A2 m' c2 (intR s)) (hB : B ≤ w.heap.size) :
    Calls Try.prog 23 #[.slice A n c, .slice A1 m c1, .slice A2 m' c2] w (Gives w 32 3 (cpkN n a b d m m' s) (cpkR a h s m)) := by
  have hv := implPoolValid_any H hB
  have hNil : ∀ {w' : World} {N : Nat}, N = 0 → Own w' w.heap.size 32 3 none N 0 (cpkR a h s m) := fun e => by subst e; exact Own.nil _ _ _ _ _ _ _ (by unfold maxLen; omega)
  have hnc := H.1
  have hmc := H1.1
  have hmc' := H2.1
  unfold maxLen at hnc hmc hmc'
  have HH := Lib.hid H
  have HH1 := Lib.hid H1
  have HH2 := Lib.hid H2
  clear H H1 H2
  cases hp : poolB n a b d with
  | false =>
    rw [hp] at hv
    have he := Lib.hid (cpkN_pool (m := m) (m' := m') (s := s) hp)
    clear hp
    go_enter Try.func23, Try.ntmps23
    go_wp2_with (go_at_call 41; refine hv.mono ?_; rintro e w1 ⟨rfl, hb1⟩)
    go_ret
    rw [he.out]
    exact ⟨_, _, rfl, hNil rfl, hb1⟩
  | true =>
  rw [hp] at hv
  obtain ⟨hn6, hAsc⟩ := poolB_asc hp
  have HA := Lib.hid hAsc
  clear hAsc
  by_cases hm : m = m'
  rotate_left
  · have he := Lib.hid (cpkN_len (n := n) (a := a) (b := b) (d := d) (s := s) hm)
    have hq : ((m : Int) != (m' : Int)) = true := by simp; omega
    have hq2 : ((m : Int) == (m' : Int)) = false := by simp; omega
    clear hp hm
    go_enter Try.func23, Try.ntmps23
    go_wp2_with (go_at_call 41; refine hv.mono ?_; rintro e w1 ⟨rfl, hb1⟩)
    go_ret
    rw [he.out]
    exact ⟨_, _, rfl, hNil rfl, hb1⟩
  subst hm
  have hq : ((m : Int) != (m : Int)) = false := by simp
  by_cases h40 : m ≤ 40
  rotate_left
  · have he := Lib.hid (cpkN_many (n := n) (a := a) (b := b) (d := d) (m' := m) (s := s) h40)
    have hd : decide ((40 : Int) < (m : Int)) = true := by simp; omega
    clear hp h40
    go_enter Try.func23, Try.ntmps23
    go_wp2_with (go_at_call 41; refine hv.mono ?_; rintro e w1 ⟨rfl, hb1⟩)
    go_ret
    rw [he.out]
    exact ⟨_, _, rfl, hNil rfl, hb1⟩
  have hd : decide ((40 : Int) < (m : Int)) = false := by simp; omega
  obtain ⟨iT, hi, hz, hs, hb⟩ := info_parts info_counter
  have hmk := run_make_rows (P := Try.prog) 25 32 iT _ 3 Try.underlying25 hi hz hs n (by rw [hb]; omega) (by omega)
  clear hi hz hs hb
  have HP := Lib.hid hp
  clear hp
  go_enter Try.func23, Try.ntmps23
  go_wp2_with (go_at_call 41; refine hv.mono ?_; rintro e w1 ⟨rfl, hb1⟩)
  clear hmk hv
  have hs1 := hb1.size
  go_loopw [33] (fun i wr => ∃ j : Nat, j ≤ n ∧ i = .int .i64 j ∧ New wr w1.heap.size 32 3 n n (toR a j) ∧ Below w.heap.size w wr) (fun i _ => n - (intOf i).toNat)
  case atStart => exact ⟨0, by omega, rfl, (new_zero w1 _ _ 3 n rfl (by omega)).congr (fun i hi => by simp [toR, counterR, Value.cells]), Below.trans hb1 ((below_nw w1 _).mono hs1)⟩
  case round =>
    obtain ⟨j, hj, rfl, hN, hBw⟩ := hrel
    by_cases hlt : j < n
    · obtain ⟨bl, off, rfl, hbB, hc⟩ := HH.out.2 (by omega)
      have hr := hc j hlt
      have hbs : bl < wr.heap.size := by have := hBw.size; omega
      have q0 : wr.cell? ⟨bl, off + j * 3, none⟩ = some (.int .i64 (a j)) := (keepc hBw bl (by omega) _).trans (hr 0 _ rfl)
      have q1 : wr.cell? ⟨bl, off + j * 3 + 1, none⟩ = some (.int .i64 (b j)) := (keepc hBw bl (by omega) _).trans (hr 1 _ rfl)
      have q2 : wr.cell? ⟨bl, off + j * 3 + 2, none⟩ = some (.int .i64 (d j)) := (keepc hBw bl (by omega) _).trans (hr 2 _ rfl)
      have hgs := hN.lt
      have hfr := hN.free
      obtain ⟨o0, p0⟩ := hN.is (j * 3) (by omega)
      have HN := Lib.hid hN
      clear hc hr hN
      go_wp2
      go_roundw
      case rel =>
        have hN1 := (new_cell HN.out j 0 (.int .i64 (a j)) hlt (by omega) (R' := toR a (j + 1)) (fun _ => rfl) (fun k _ => toR_next a j k)).below (below_nw _ (.cells #[.int .i64 (a j), .int .i64 (b j), .int .i64 (d j)] 69)) (by have := HN.out.lt; simpa [World.setCell] using this)
        exact ⟨j + 1, by omega, by go_num, hN1, Below.tr (Below.of_grown hBw (setCell_grown _ _ _ _) hs1) (below_nw _ _)⟩
      case measure => simp [intOf]; omega
    · obtain rfl : j = n := by omega
      have hN2 : New wr w1.heap.size 32 3 j j (cpkR a h s 0) := hN.congr fun i hi => by simp [toR, cpkR, counterR, hi, cntN, sumN]
      clear hN hlt
      obtain ⟨wo, rfl⟩ : ∃ wo : World, wo = wr := ⟨_, rfl⟩
      go_wp2
      go_loopw [47] (fun i wr => ∃ q : Nat, q ≤ m ∧ i = .int .i64 q ∧ (∀ i, i < q → inB (s i) 0 100000 = true) ∧ New wr w1.heap.size 32 3 j j (cpkR a h s q) ∧ Below w.heap.size w wr) (fun i _ => m - (intOf i).toNat)
      case atStart => exact ⟨0, by omega, rfl, fun i hi => absurd hi (by omega), hN2, hBw⟩
      case round =>
        obtain ⟨q, hq1, rfl, hok, hN, hBw⟩ := hrel
        clear hN2
        by_cases hlt : q < m
        · obtain ⟨b1, off1, rfl, hbB1, hc1⟩ := HH1.out.2 (by omega)
          obtain ⟨b2, off2, rfl, hbB2, hc2⟩ := HH2.out.2 (by omega)
          have hb1s : b1 < wr.heap.size := by have := hBw.size; omega
          have hb2s : b2 < wr.heap.size := by have := hBw.size; omega
          have q1 : wr.cell? ⟨b1, off1 + q, none⟩ = some (.int .i64 (h q)) := (keepc hBw b1 (by omega) _).trans (by simpa using hc1 q hlt 0 _ rfl)
          have q2 : wr.cell? ⟨b2, off2 + q, none⟩ = some (.int .i64 (s q)) := (keepc hBw b2 (by omega) _).trans (by simpa using hc2 q hlt 0 _ rfl)
          clear hc1 hc2
          cases ht : inB (s q) 0 100000 with
          | false =>
            have he := Lib.hid (cpkN_time (n := j) (a := a) (b := b) (d := d) (m' := m) hlt ht)
            have hit := fun w => isTime_any (s q) w
            rw [ht] at hit
            clear ht hok
            go_wp2_with (go_at_call 42; refine (hit _).mono ?_; rintro e w' ⟨rfl, rfl⟩)
            go_ret
            rw [he.out]
            exact ⟨_, _, rfl, hNil rfl, hBw⟩
          | true =>
            have hit := fun w => isTime_any (s q) w
            rw [ht] at hit
            have hsq := inB_true.1 ht
            have HO := Lib.hid (upto hok ht)
            clear ht hok
            go_wp2_with (first | (go_at_call 42; refine (hit _).mono ?_; rintro e w' ⟨rfl, rfl⟩))
            refine (hostAt_any (h q) (HH.out.below (hBw.mono hB)) (by have := hBw.size; omega)).mono ?_
            rintro e w2 ⟨r, rfl, hr, hb2⟩
            have hgs := hN.lt
            have hN2 := hN.below hb2 hgs
            have hB2 := Below.tr hBw hb2
            clear hN
            rcases hr with ⟨rfl, hno⟩ | ⟨k, hk, rfl, hak, _⟩
            · have HNo := Lib.hid hno
              clear hno
              go_wp2
              go_roundw
              case rel => exact ⟨q + 1, by omega, by go_num, HO.out, hN2.congr (fun i hi => cpkR_miss HNo.out i hi), hB2⟩
              case measure => simp [intOf]; omega
            · have p1 := hN2.val hk 1 (v := .int .i64 (cntN h (a k) q)) rfl
              have p2 := hN2.val hk 2 (v := .int .i64 (sumN h s (a k) q)) rfl
              have hfr := hN2.free
              have hcn := cntN_le h (a k) q
              have hsn := sumN_le (h := h) (s := s) (a k) q fun i hi => HO.out i (by omega)
              have hb2l := Nat.lt_of_lt_of_le hb2s hb2.size
              have s2 := (keepc hb2 b2 hb2s (off2 + q)).trans q2
              have hgs2 := hN2.lt
              have hN3 := new_cell hN2 k 1 (.int .i64 (cntN h (a k) q + 1)) hk (by omega) (R' := upR a (fun k => cntN h (a k) q) (fun k => sumN h s (a k) q) k) (fun _ => rfl) (fun i _ => upR_cell a _ _ k i)
              have HN3 := Lib.hid hN3
              have HAk := Lib.hid hak
              clear hN2 hN3 hak q1 q2
              generalize cntN h (a k) q = cn at p1 hcn HN3
              have hg3 := setCell_grown w2 w1.heap.size (k * 3 + 1) (.int .i64 (cn + 1))
              go_wp2
              obtain ⟨w3, e3⟩ : ∃ w3, w3 = w2.setCell ⟨w1.heap.size, k * 3 + 1, none⟩ (.int .i64 (cn + 1)) := ⟨_, rfl⟩
              rw [← e3] at hg3 HN3 ⊢
              have hs3 := hg3.size
              have r2 := HN3.out.val hk 2 (v := .int .i64 (sumN h s (a k) q)) rfl
              have s3 : w3.cell? ⟨b2, off2 + q, none⟩ = some (.int .i64 (s q)) := (World.cell?_of_block (w := w2) (a := ⟨b2, _, none⟩) (hg3.block b2 hb2l (by simp; omega))).trans s2
              have hB3 := Below.of_grown hB2 hg3 hs1
              have hAd : (sumN h s (a k) q + s q) = (sumN h s (a k) q + s q) := rfl
              obtain ⟨sn, hsne⟩ : ∃ sn, sn = sumN h s (a k) q := ⟨_, rfl⟩
              rw [← hsne] at r2 hsn p2
              have e80 : IntKind.i64.wrap (sn + s q) = sn + s q := IntWalk.i64_in _ (by omega)
              have HS := Lib.hid hsne
              have hgl3 := HN3.out.lt
              have hb2l3 : b2 < w3.heap.size := by omega
              clear e3 p1 p2 s2 hfr hAd hsne
              refine wp_region_free (ds := [(0, 71), (1, 72), (2, 73), (3, 74), (4, 75), (5, 76), (6, 77), (7, 78), (8, 79), (9, 80), (10, 81), (11, 82)]) 12 (by kernel_rfl) (by kernel_rfl) (by first | exact .inl rfl | exact .inr (by kernel_rfl)) (by rfl) rfl rfl ?_
              apply free_is
              · intro a' w' hLe hfr hdep
                have e7 := hfr 7 rfl
                conv at e7 => rhs; whnf
                have f7 := e7; simp only [Array.getD_eq_getD_getElem?] at f7
                refine wpOp_plain rfl rfl (fun K hK => ?_)
                go_simp
                exact hK _ _ ⟨_, rfl, Below.refl _ _, rfl⟩
              apply free_is
              · intro a' w' hLe hfr hdep
                have e12 := hfr 12 rfl
                conv at e12 => rhs; whnf
                have f12 := e12; simp only [Array.getD_eq_getD_getElem?] at f12
                refine wpOp_plain rfl rfl (fun K hK => ?_)
                go_simp
                exact hK _ _ ⟨_, rfl, Below.refl _ _, rfl⟩
              apply free_is
              · intro a' w' hLe hfr hdep
                have e71 : a'.tmps.getD 71 undef = _ := hdep 0 71 (Nat.le_of_ble_eq_true rfl) rfl rfl
                conv at e71 => rhs; whnf
                have f71 := e71; simp only [Array.getD_eq_getD_getElem?] at f71
                have e72 : a'.tmps.getD 72 undef = _ := hdep 1 72 (Nat.le_of_ble_eq_true rfl) rfl rfl
                conv at e72 => rhs; whnf
                have f72 := e72; simp only [Array.getD_eq_getD_getElem?] at f72
                refine wpOp_plain rfl rfl (fun K hK => ?_)
                go_simp
                exact hK _ _ ⟨_, rfl, Below.refl _ _, rfl⟩
              apply free_is
              · intro a' w' hLe hfr hdep
                have e73 : a'.tmps.getD 73 undef = _ := hdep 2 73 (Nat.le_of_ble_eq_true rfl) rfl rfl
                conv at e73 => rhs; whnf
                have f73 := e73; simp only [Array.getD_eq_getD_getElem?] at f73
                refine wpOp_plain rfl rfl (fun K hK => ?_)
                go_simp
                exact hK _ _ ⟨_, rfl, Below.refl _ _, rfl⟩
              apply free_is
              · intro a' w' hLe hfr hdep
                have e74 : a'.tmps.getD 74 undef = _ := hdep 3 74 (Nat.le_of_ble_eq_true rfl) rfl rfl
                conv at e74 => rhs; whnf
                have f74 := e74; simp only [Array.getD_eq_getD_getElem?] at f74
                have kc := fun i => keepc hLe (w1.heap.size) (by (try simp) <;> omega) i
                have kf := fun i => keepf hLe (w1.heap.size) (by (try simp) <;> omega) i
                have kz : w1.heap.size < w'.heap.size := (by have := hLe.size; (try simp at this); omega)
                have kc := fun i => keepc hLe (b2) (by (try simp) <;> omega) i
                have kf := fun i => keepf hLe (b2) (by (try simp) <;> omega) i
                have kz : b2 < w'.heap.size := (by have := hLe.size; (try simp at this); omega)
                refine wpOp_plain rfl rfl (fun K hK => ?_)
                go_simp
                exact hK _ _ ⟨_, rfl, Below.refl _ _, rfl⟩
              apply free_is
              · intro a' w' hLe hfr hdep
                have e2 := hfr 2 rfl
                conv at e2 => rhs; whnf
                have f2 := e2; simp only [Array.getD_eq_getD_getElem?] at f2
                refine wpOp_plain rfl rfl (fun K hK => ?_)
                go_simp
                exact hK _ _ ⟨_, rfl, Below.refl _ _, rfl⟩
              apply free_is
              · intro a' w' hLe hfr hdep
                have e10 := hfr 10 rfl
                conv at e10 => rhs; whnf
                have f10 := e10; simp only [Array.getD_eq_getD_getElem?] at f10
                refine wpOp_plain rfl rfl (fun K hK => ?_)
                go_simp
                exact hK _ _ ⟨_, rfl, Below.refl _ _, rfl⟩
              apply free_is
              · intro a' w' hLe hfr hdep
                have e76 : a'.tmps.getD 76 undef = _ := hdep 5 76 (Nat.le_of_ble_eq_true rfl) rfl rfl
                conv at e76 => rhs; whnf
                have f76 := e76; simp only [Array.getD_eq_getD_getElem?] at f76
                have e77 : a'.tmps.getD 77 undef = _ := hdep 6 77 (Nat.le_of_ble_eq_true rfl) rfl rfl
                conv at e77 => rhs; whnf
                have f77 := e77; simp only [Array.getD_eq_getD_getElem?] at f77
                refine wpOp_plain rfl rfl (fun K hK => ?_)
                go_simp
                exact hK _ _ ⟨_, rfl, Below.refl _ _, rfl⟩
              apply free_is
              · intro a' w' hLe hfr hdep
                have e78 : a'.tmps.getD 78 undef = _ := hdep 7 78 (Nat.le_of_ble_eq_true rfl) rfl rfl
                conv at e78 => rhs; whnf
                have f78 := e78; simp only [Array.getD_eq_getD_getElem?] at f78
                have kc := fun i => keepc hLe (w1.heap.size) (by (try simp) <;> omega) i
                have kf := fun i => keepf hLe (w1.heap.size) (by (try simp) <;> omega) i
                have kz : w1.heap.size < w'.heap.size := (by have := hLe.size; (try simp at this); omega)
                have kc := fun i => keepc hLe (b2) (by (try simp) <;> omega) i
                have kf := fun i => keepf hLe (b2) (by (try simp) <;> omega) i
                have kz : b2 < w'.heap.size := (by have := hLe.size; (try simp at this); omega)
                refine wpOp_plain rfl rfl (fun K hK => ?_)
                go_simp
                exact hK _ _ ⟨_, rfl, Below.refl _ _, rfl⟩
              apply free_is
              · intro a' w' hLe hfr hdep
                have e75 : a'.tmps.getD 75 undef = _ := hdep 4 75 (Nat.le_of_ble_eq_true rfl) rfl rfl
                conv at e75 => rhs; whnf
                have f75 := e75; simp only [Array.getD_eq_getD_getElem?] at f75
                have e79 : a'.tmps.getD 79 undef = _ := hdep 8 79 (Nat.le_of_ble_eq_true rfl) rfl rfl
                conv at e79 => rhs; whnf
                have f79 := e79; simp only [Array.getD_eq_getD_getElem?] at f79
                refine wpOp_plain rfl rfl (fun K hK => ?_)
                go_simp
                exact hK _ _ ⟨_, rfl, Below.refl _ _, rfl⟩
              apply free_is
              · intro a' w' hLe hfr hdep
                have e71 : a'.tmps.getD 71 undef = _ := hdep 0 71 (Nat.le_of_ble_eq_true rfl) rfl rfl
                conv at e71 => rhs; whnf
                have f71 := e71; simp only [Array.getD_eq_getD_getElem?] at f71
                have e72 : a'.tmps.getD 72 undef = _ := hdep 1 72 (Nat.le_of_ble_eq_true rfl) rfl rfl
                conv at e72 => rhs; whnf
                have f72 := e72; simp only [Array.getD_eq_getD_getElem?] at f72
                refine wpOp_plain rfl rfl (fun K hK => ?_)
                go_simp
                exact hK _ _ ⟨_, rfl, Below.refl _ _, rfl⟩
              apply free_is
              · intro a' w' hLe hfr hdep
                have e81 : a'.tmps.getD 81 undef = _ := hdep 10 81 (Nat.le_of_ble_eq_true rfl) rfl rfl
                conv at e81 => rhs; whnf
                have f81 := e81; simp only [Array.getD_eq_getD_getElem?] at f81
                refine wpOp_plain rfl rfl (fun K hK => ?_)
                go_simp
                exact hK _ _ ⟨_, rfl, Below.refl _ _, rfl⟩
              apply free_nil
              intro vs w5 hb5 hT5
              have e71 : vs 0 = _ := hT5 0 71 rfl
              conv at e71 => rhs; whnf
              have e72 : vs 1 = _ := hT5 1 72 rfl
              conv at e72 => rhs; whnf
              have e73 : vs 2 = _ := hT5 2 73 rfl
              conv at e73 => rhs; whnf
              have e74 : vs 3 = _ := hT5 3 74 rfl
              conv at e74 => rhs; whnf
              have e75 : vs 4 = _ := hT5 4 75 rfl
              conv at e75 => rhs; whnf
              have e76 : vs 5 = _ := hT5 5 76 rfl
              conv at e76 => rhs; whnf
              have e77 : vs 6 = _ := hT5 6 77 rfl
              conv at e77 => rhs; whnf
              have e78 : vs 7 = _ := hT5 7 78 rfl
              conv at e78 => rhs; whnf
              have e79 : vs 8 = _ := hT5 8 79 rfl
              conv at e79 => rhs; whnf
              have e80 : vs 9 = _ := hT5 9 80 rfl
              conv at e80 => rhs; whnf
              have e81 : vs 10 = _ := hT5 10 81 rfl
              conv at e81 => rhs; whnf
              have e82 : vs 11 = _ := hT5 11 82 rfl
              conv at e82 => rhs; whnf
              simp only [putAll, List.drop_succ_cons, List.drop_zero, e71, e72, e73, e74, e75, e76, e77, e78, e79, e80, e81, e82]
              clear hT5 e71 e72 e73 e74 e75 e76 e77 e78 e79 e80 e81 e82
              go_simp
              have hN5 := HN3.out.below hb5 hgl3
              have r5 := (keepc hb5 w1.heap.size hgl3 (k * 3 + 2)).trans r2
              have fr5 := hN5.free
              have HN5 := Lib.hid hN5
              clear hN5
              go_wp2
              go_roundw
              case rel =>
                have hN6 := new_cell HN5.out k 2 (.int .i64 (sn + s q)) hk (by omega) (R' := cpkR a h s (q + 1)) (fun _ => rfl) (fun i hi q' u hu => by
                  rw [HS.out]
                  exact cpkR_cell hk HAk.out.symm (fun i hi hne e => by
                    rcases Nat.lt_or_gt_of_ne hne with h1 | h1
                    · have := HA.out k hk i h1; omega
                    · have := HA.out i hi k h1; omega) i hi q' u hu)
                exact ⟨q + 1, by omega, by go_num, HO.out, hN6, Below.of_grown (Below.tr hB3 hb5) (setCell_grown _ _ _ _) hs1⟩
              case measure => simp [intOf]; omega
        · obtain rfl : q = m := by omega
          have he := Lib.hid (cpkN_yes HP.out h40 hok)
          clear hok
          go_wp2
          go_ret
          rw [he.out]
          exact ⟨_, _, rfl, Own.of_new hN (by unfold maxLen; omega) hs1, hBw⟩
end Go.Proofs.Ytdfnpcjbecbbbaa
