/-
  copy of rows, in place; slices.BinarySearchFunc on routes.
-/
import Derived.Test.YtgoijpbkgkjfeaaArp
import Derived.Test.YtgoijpbkgkjfeaaOwn
import Derived.Test.YtgoijpbkgkjfeaaAll
import Derived.Laws.CopyRow
import Derived.Deep.LoopGhost
namespace Go.Proofs.Ytgoijpbkgkjfeaa
open Go Go.RowKit

/-! ### rows written by copy -/
/-- The rows k to k + q are those of R2. -/
def seg (R : Nat → List Value) (k q : Nat) (R2 : Nat → List Value) : Nat → List Value := fun i => if i < k then R i else if i < k + q then R2 (i - k) else R i
theorem seg_len {R R2 : Nat → List Value} {m : Nat} (h1 : ∀ i, (R i).length = m) (h2 : ∀ i, (R2 i).length = m) (k q i : Nat) : (seg R k q R2 i).length = m := by
  unfold seg
  repeat' split
  all_goals first | exact h1 _ | exact h2 _
theorem new_seg {w' : World} {g : Nat} {t : TypeId} {m n n' c k q : Nat} {R R2 : Nat → List Value} {cs : Array Value} (hs : cs.size = c * m) (hcs : ∀ i, i < n → ∀ j v, (R i)[j]? = some v → cs[i * m + j]? = some v)
    (hk : k ≤ n) (hkq : k + q ≤ c) (hn' : n' ≤ c) (hcov : n' ≤ n ∨ n' ≤ k + q) (hm : ∀ i, (R i).length = m) (hm2 : ∀ i, (R2 i).length = m)
    (hw : w'.heap[g]? = some (.cells (cs.toList.take (k * m) ++ rowsTo R2 q ++ cs.toList.drop (k * m + (rowsTo R2 q).length)).toArray t (0, 0))) :
    New w' g t m n' c (seg R k q R2) := by
  have hle : (k + q) * m ≤ c * m := Nat.mul_le_mul_right m hkq
  rw [Nat.add_mul] at hle
  have hl := rowsTo_length hm2 q
  have hp : k * m + (rowsTo R2 q).length ≤ cs.toList.length := by simp; omega
  refine ⟨_, hw, by rw [seg_size (by simpa using hp)]; exact hs, hn', fun i hi j v hv => ?_⟩
  rw [← Array.getElem?_toList, List.toList_toArray, seg_get hp]
  have hj : j < m := by rw [← seg_len hm hm2 k q i]; exact (List.getElem?_eq_some_iff.1 hv).1
  unfold seg at hv
  by_cases h1 : i < k
  · rw [if_pos h1] at hv
    have h2 : (i + 1) * m ≤ k * m := Nat.mul_le_mul_right m h1
    rw [Nat.add_mul, Nat.one_mul] at h2
    rw [if_pos (by omega), Array.getElem?_toList]
    exact hcs i (by omega) j v hv
  · rw [if_neg h1] at hv
    have h2 : k * m ≤ i * m := Nat.mul_le_mul_right m (by omega)
    by_cases h3 : i < k + q
    · rw [if_pos h3] at hv
      have h4 : (i + 1) * m ≤ (k + q) * m := Nat.mul_le_mul_right m h3
      rw [Nat.add_mul, Nat.one_mul, Nat.add_mul] at h4
      have h5 : (i - k) * m + k * m = i * m := by rw [← Nat.add_mul]; congr 1; omega
      rw [if_neg (by omega), if_pos (by omega), show i * m + j - k * m = (i - k) * m + j by omega]
      exact rowsTo_at hm2 q (i - k) j v (by omega) hv
    · rw [if_neg h3] at hv
      have h4 : (k + q) * m ≤ i * m := Nat.mul_le_mul_right m (by omega)
      rw [Nat.add_mul] at h4
      rw [if_neg (by omega), if_neg (by omega), Array.getElem?_toList]
      exact hcs i (by omega) j v hv
section
variable {P : Program}
theorem run_copy_rows {w : World} {dT sT ty e : TypeId} {g : Nat} {t : TypeId} {m n c : Nat} (n' k q : Nat) {dLen dCap sLen sCap : Nat} {a : Addr} {R R2 : Nat → List Value} (hu : P.underlying dT = some (.slice e)) (hi : (P.info? e).map (·.size) = some m)
    (hN : New w g t m n c R) (hq : Nat.min sLen dLen = q) (hk : k ≤ n) (hkq : k + q ≤ c) (hn' : n' ≤ c) (hcov : n' ≤ n ∨ n' ≤ k + q) (hm : ∀ i, (R i).length = m) (hm2 : ∀ i, (R2 i).length = m)
    (hsrc : ∀ i, i < q → ∀ j v, (R2 i)[j]? = some v → w.cell? (a.add (i * m + j)) = some v) (h1 : ∀ i, ∀ u ∈ R2 i, u.oneCell' = true) :
    ∃ w2, (Builtin.copy_ #[dT, sT] ty #[.slice (some ⟨g, k * m, none⟩) dLen dCap, .slice (some a) sLen sCap]).run P w = .ok (goInt q) w2 ∧ New w2 g t m n' c (seg R k q R2) ∧ w.grownBy w2 (some g) ∧ w2.heap.size = w.heap.size := by
  obtain ⟨cs, hg, hs, hnc, hcs⟩ := hN
  have hle : (k + q) * m ≤ c * m := Nat.mul_le_mul_right m hkq
  rw [Nat.add_mul] at hle
  have hl := rowsTo_length hm2 q
  have hload := run_loadCells_list (P := P) (w := w) a (rowsTo R2 q) (fun j v hj => by
    obtain ⟨i, j', hi', rfl, hv⟩ := rowsTo_get hm2 q j v hj
    exact hsrc i hi' j' v hv)
  rw [hl] at hload
  have hst := run_storeCells_at P g (k * m) t (rowsTo R2 q) 0 cs w hg (by rw [hl]; omega) (fun u hu' => by
    obtain ⟨j, hj⟩ := List.getElem?_of_mem hu'
    obtain ⟨i, j', hi', rfl, hv⟩ := rowsTo_get hm2 q j u hj
    exact h1 i u (List.mem_of_getElem? hv))
  simp only [Nat.add_zero] at hst
  refine ⟨_, ?_, new_seg hs hcs hk hkq hn' hcov hm hm2 (setRow_heap w g cs _ t _ hg), setRow_grownM w g _, by simp⟩
  cases hqq : P.info? e with
  | none => simp [hqq] at hi
  | some i =>
    have hi' : i.size = m := by simpa [hqq] using hi
    simp [Builtin.copy_, run_underlying hu, Builtin.lenOf, Builtin.firstCells, sizeOf, typeInfo, hqq, hi', hq, hload, hst]
/-- 'copy(s[k:], rows)', in place. -/
theorem wpList_copy_rows {ops : Array Oper} {rest : List Oper} {o : Oper} {a : Act} {w : World} {Q : Exit → Act → World → Prop} (hgd : o.guard = none) (d s : Operand) (dT sT : TypeId)
    (ho : o.op = .call { callee := .builtin .copy, args := #[d, s], argTypes := #[dT, sT] }) {e : TypeId} {g : Nat} {t : TypeId} {m n c : Nat} (n' k q dLen dCap sLen sCap : Nat) (ad : Addr) {R R2 : Nat → List Value} (hu : P.underlying dT = some (.slice e)) (hi : (P.info? e).map (·.size) = some m)
    (hN : New w g t m n c R) (hd : a.eval d = .slice (some ⟨g, k * m, none⟩) dLen dCap) (hs : a.eval s = .slice (some ad) sLen sCap) (hq : Nat.min sLen dLen = q) (hk : k ≤ n) (hkq : k + q ≤ c) (hn' : n' ≤ c) (hcov : n' ≤ n ∨ n' ≤ k + q) (hm : ∀ i, (R i).length = m) (hm2 : ∀ i, (R2 i).length = m)
    (hsrc : ∀ i, i < q → ∀ j v, (R2 i)[j]? = some v → w.cell? (ad.add (i * m + j)) = some v) (h1 : ∀ i, ∀ u ∈ R2 i, u.oneCell' = true)
    (h : ∀ w2 : World, New w2 g t m n' c (seg R k q R2) → w.grownBy w2 (some g) → w2.heap.size = w.heap.size → wpList P ops Q rest (a.put o.dst (goInt q)) w2) : wpList P ops Q (o :: rest) a w := by
  refine wpList_plain hgd fun K hK => ?_
  obtain ⟨w2, hr, h2, h3, h4⟩ := run_copy_rows (P := P) (w := w) (dT := dT) (sT := sT) (ty := o.type) (dCap := dCap) (sCap := sCap) n' k q hu hi hN hq hk hkq hn' hcov hm hm2 hsrc h1
  unfold Oper.wp execOp
  simp only [ho, resolve, invoke, builtin, Sem.run_bind, Sem.run_pure, Result.andThen_ok, List.map_toArray, List.map_cons, List.map_nil, hd, hs, hr]
  exact hK _ _ (h w2 h2 h3 h4)
/-- .. as one step of a region that draws its order. -/
theorem step_copy_rows {ops : Array Oper} {o : Oper} {a : Act} {w : World} {K : Act → World → Prop} {Q : Exit → Act → World → Prop} {E : Prop} (hgd : o.guard = none) (d s : Operand) (dT sT : TypeId)
    (ho : o.op = .call { callee := .builtin .copy, args := #[d, s], argTypes := #[dT, sT] }) {e : TypeId} {g : Nat} {t : TypeId} {m n c : Nat} (n' k q dLen dCap sLen sCap : Nat) (ad : Addr) {R R2 : Nat → List Value} (hu : P.underlying dT = some (.slice e)) (hi : (P.info? e).map (·.size) = some m)
    (hN : New w g t m n c R) (hd : a.eval d = .slice (some ⟨g, k * m, none⟩) dLen dCap) (hs : a.eval s = .slice (some ad) sLen sCap) (hq : Nat.min sLen dLen = q) (hk : k ≤ n) (hkq : k + q ≤ c) (hn' : n' ≤ c) (hcov : n' ≤ n ∨ n' ≤ k + q) (hm : ∀ i, (R i).length = m) (hm2 : ∀ i, (R2 i).length = m)
    (hsrc : ∀ i, i < q → ∀ j v, (R2 i)[j]? = some v → w.cell? (ad.add (i * m + j)) = some v) (h1 : ∀ i, ∀ u ∈ R2 i, u.oneCell' = true)
    (h : ∀ w2 : World, New w2 g t m n' c (seg R k q R2) → w.grownBy w2 (some g) → w2.heap.size = w.heap.size → K (a.put o.dst (goInt q)) w2) : if Region.wanted o (yielded ops a.tmps) = true then Oper.wp P o a w K Q else E := by
  rw [if_pos (wanted_plain hgd)]
  obtain ⟨w2, hr, h2, h3, h4⟩ := run_copy_rows (P := P) (w := w) (dT := dT) (sT := sT) (ty := o.type) (dCap := dCap) (sCap := sCap) n' k q hu hi hN hq hk hkq hn' hcov hm hm2 hsrc h1
  unfold Oper.wp execOp
  simp only [ho, resolve, invoke, builtin, Sem.run_bind, Sem.run_pure, Result.andThen_ok, List.map_toArray, List.map_cons, List.map_nil, hd, hs, hr]
  exact h w2 h2 h3 h4
end

/-! ### the search -/
theorem cmpP_lt (b k b' k' : Int) : decide (cmpP b k b' k' < 0) = befB b k b' k' := by
  have h := cmpP_bef b k b' k'
  cases hb : befB b k b' k' <;> rw [hb] at h <;> simp at h <;> simp <;> omega
theorem cmpP_eq (b k b' k' : Int) : (cmpP b k b' k' == 0) = (decide (b = b') && decide (k = k')) := by
  unfold cmpP orI cmpI
  by_cases h1 : b < b' <;> by_cases h2 : b' < b <;> by_cases h3 : k < k' <;> by_cases h4 : k' < k <;> simp [h1, h2, h3, h4] <;> (try omega)
set_option maxHeartbeats 2000000 in
theorem addClosure_any (a b c x y : Int) (w : World) :
    Calls Try.prog 26 #[.agg #[.int .i64 a, .int .i64 b, .int .i64 c], .agg #[.int .i64 x, .int .i64 y]] w fun e w' => e = .returned (.int .i64 (cmpP a b x y)) ∧ Below w.heap.size w w' := by
  go_enter Try.func26, Try.ntmps26
  go_wp2_with (go_at_call 27; refine (comparePrefixes_any _ _ _ _ _).mono ?_; rintro e w1 ⟨rfl, hb1⟩)
  go_ret
  exact ⟨rfl, by (repeat (first | exact Below.refl _ _ | assumption | refine Below.al ?_ _ | refine Below.dr ?_ | (refine Below.st ?_ (by simp <;> omega) _) | (refine Below.tr ?_ (by assumption))))⟩
set_option maxHeartbeats 4000000 in
theorem searchRoute_any {w : World} {B : Nat} {A : Option Addr} {n cc : Nat} {a b c : Nat → Int} (x y : Int) (hv : rtsB n a b c = true) (H : Rws w B 3 A n cc (routeR a b c)) (hB : B ≤ w.heap.size) :
    Calls Try.prog 25 #[.slice A n cc, .agg #[.int .i64 x, .int .i64 y], (.func (.func 26) #[] #[])] w fun e w' => e = .returned (.tuple #[.int .i64 (apo n a b x y : Nat), .bool (afd n a b x y)]) ∧ Below w.heap.size w w' := by
  have eg : ∀ args w, (callFunc 26 args).run Try.prog w = .ok (.enter 26 args) w := enters_of Try.func26 (by kernel_rfl) rfl
  have hn12 := rts_le hv
  have HV := Lib.hid hv
  obtain ⟨⟨hnc, hcm⟩, hrow⟩ := H
  unfold maxLen at hcm
  clear hv
  go_enter Try.func25, Try.ntmps25
  go_wp2
  go_loopg [9, 10] n (fun kx s9 s10 wr => ∃ lo hi : Nat, s9 = .int .i64 lo ∧ s10 = .int .i64 hi ∧ lo ≤ hi ∧ hi ≤ n ∧ hi - lo ≤ kx ∧ Below (w.alloc (.cells #[.int .i64 x, .int .i64 y] 25)).heap.size (w.alloc (.cells #[.int .i64 x, .int .i64 y] 25)) wr ∧ (∀ i, i < lo → befB (a i) (b i) x y = true) ∧ (∀ i, hi ≤ i → i < n → befB (a i) (b i) x y = false))
  case atStart => exact ⟨0, n, rfl, rfl, Nat.zero_le _, Nat.le_refl _, by omega, Below.refl _ _, fun i hi => absurd hi (by omega), fun i h1 h2 => absurd h1 (by omega)⟩
  case round =>
    obtain ⟨lo, hi, rfl, rfl, hlh, hin, hg, hBw, h1, h2⟩ := hrel
    have hB0 : Below w.heap.size w wr := Below.tr (by (repeat (first | exact Below.refl _ _ | assumption | refine Below.al ?_ _ | refine Below.dr ?_ | (refine Below.st ?_ (by simp <;> omega) _) | (refine Below.tr ?_ (by assumption))))) hBw
    have kf : ∀ i, wr.cell? ⟨w.heap.size, i, none⟩ = #[Value.int .i64 x, .int .i64 y][i]? := fun i => (keepc hBw w.heap.size (by simp) i).trans ((blk (heap_alloc_new w _)).1 i)
    have hfs : w.heap.size < wr.heap.size := by have := hBw.size; simp at this; omega
    by_cases hlt : lo < hi
    · obtain ⟨bl, off, rfl, hbB, hc⟩ := hrow (by omega)
      have hr := hc ((lo + hi) / 2) (by omega)
      have hbs : bl < wr.heap.size := by omega
      have q0 : wr.cell? ⟨bl, off + (lo + hi) / 2 * 3, none⟩ = some (.int .i64 (a ((lo + hi) / 2))) := (keepc hB0 bl (by omega) _).trans (hr 0 _ rfl)
      have q1 : wr.cell? ⟨bl, off + (lo + hi) / 2 * 3 + 1, none⟩ = some (.int .i64 (b ((lo + hi) / 2))) := (keepc hB0 bl (by omega) _).trans (hr 1 _ rfl)
      have q2 : wr.cell? ⟨bl, off + (lo + hi) / 2 * 3 + 2, none⟩ = some (.int .i64 (c ((lo + hi) / 2))) := (keepc hB0 bl (by omega) _).trans (hr 2 _ rfl)
      have HH1 := Lib.hid h1
      have HH2 := Lib.hid h2
      have g1 : 0 ≤ ((lo : Int) + (hi : Int)) / 2 := by omega
      have g2 : ((lo : Int) + (hi : Int)) / 2 < (n : Int) := by omega
      have g3 : (((lo : Int) + (hi : Int)) / 2).toNat = (lo + hi) / 2 := by omega
      clear hc hr h1 h2 hrow
      cases hx : befB (a ((lo + hi) / 2)) (b ((lo + hi) / 2)) x y with
      | true =>
        have hq : decide (cmpP (a ((lo + hi) / 2)) (b ((lo + hi) / 2)) x y < 0) = true := by rw [cmpP_lt]; exact hx
        have HX := Lib.hid hx
        clear hx
        go_wp2
        refine wp_region_free (ds := [(0, 24), (1, 25), (2, 26), (3, 27), (4, 28), (5, 29), (6, 30), (7, 31)]) 8 (by kernel_rfl) (by kernel_rfl) (by first | exact .inl rfl | exact .inr (by kernel_rfl)) (by rfl) rfl rfl ?_
        apply free_is
        · intro a' w' hLe hfr hdep
          have e2 := hfr 2 rfl
          conv at e2 => rhs; whnf
          have f2 := e2; simp only [Array.getD_eq_getD_getElem?] at f2
          refine wpOp_plain rfl rfl (fun K hK => ?_)
          go_simp
          exact hK _ _ ⟨_, rfl, Below.refl _ _, rfl⟩
        apply free_is
        · intro a' w' hLe hfr hdep
          have e0 := hfr 0 rfl
          conv at e0 => rhs; whnf
          have f0 := e0; simp only [Array.getD_eq_getD_getElem?] at f0
          refine wpOp_plain rfl rfl (fun K hK => ?_)
          go_simp
          exact hK _ _ ⟨_, rfl, Below.refl _ _, rfl⟩
        apply free_is
        · intro a' w' hLe hfr hdep
          have e11 := hfr 11 rfl
          conv at e11 => rhs; whnf
          have f11 := e11; simp only [Array.getD_eq_getD_getElem?] at f11
          refine wpOp_plain rfl rfl (fun K hK => ?_)
          go_simp
          exact hK _ _ ⟨_, rfl, Below.refl _ _, rfl⟩
        apply free_is
        · intro a' w' hLe hfr hdep
          have e25 : a'.tmps.getD 25 undef = _ := hdep 1 25 (Nat.le_of_ble_eq_true rfl) rfl rfl
          conv at e25 => rhs; whnf
          have f25 := e25; simp only [Array.getD_eq_getD_getElem?] at f25
          have e26 : a'.tmps.getD 26 undef = _ := hdep 2 26 (Nat.le_of_ble_eq_true rfl) rfl rfl
          conv at e26 => rhs; whnf
          have f26 := e26; simp only [Array.getD_eq_getD_getElem?] at f26
          refine wpOp_plain rfl rfl (fun K hK => ?_)
          go_simp
          exact hK _ _ ⟨_, rfl, Below.refl _ _, rfl⟩
        apply free_is
        · intro a' w' hLe hfr hdep
          have e27 : a'.tmps.getD 27 undef = _ := hdep 3 27 (Nat.le_of_ble_eq_true rfl) rfl rfl
          conv at e27 => rhs; whnf
          have f27 := e27; simp only [Array.getD_eq_getD_getElem?] at f27
          have kc := fun i => keepc hLe (bl) (by (try simp) <;> omega) i
          have kf := fun i => keepf hLe (bl) (by (try simp) <;> omega) i
          have kz : bl < w'.heap.size := (by have := hLe.size; (try simp at this); omega)
          have kc := fun i => keepc hLe (w.heap.size) (by (try simp) <;> omega) i
          have kf := fun i => keepf hLe (w.heap.size) (by (try simp) <;> omega) i
          have kz : w.heap.size < w'.heap.size := (by have := hLe.size; (try simp at this); omega)
          refine wpOp_plain rfl rfl (fun K hK => ?_)
          go_simp
          exact hK _ _ ⟨_, rfl, Below.refl _ _, rfl⟩
        apply free_is
        · intro a' w' hLe hfr hdep
          have e4 := hfr 4 rfl
          conv at e4 => rhs; whnf
          have f4 := e4; simp only [Array.getD_eq_getD_getElem?] at f4
          have kc := fun i => keepc hLe (bl) (by (try simp) <;> omega) i
          have kf := fun i => keepf hLe (bl) (by (try simp) <;> omega) i
          have kz : bl < w'.heap.size := (by have := hLe.size; (try simp at this); omega)
          have kc := fun i => keepc hLe (w.heap.size) (by (try simp) <;> omega) i
          have kf := fun i => keepf hLe (w.heap.size) (by (try simp) <;> omega) i
          have kz : w.heap.size < w'.heap.size := (by have := hLe.size; (try simp at this); omega)
          refine wpOp_plain rfl rfl (fun K hK => ?_)
          go_simp
          exact hK _ _ ⟨_, rfl, Below.refl _ _, rfl⟩
        apply free_is
        · intro a' w' hLe hfr hdep
          have e24 : a'.tmps.getD 24 undef = _ := hdep 0 24 (Nat.le_of_ble_eq_true rfl) rfl rfl
          conv at e24 => rhs; whnf
          have f24 := e24; simp only [Array.getD_eq_getD_getElem?] at f24
          have e28 : a'.tmps.getD 28 undef = _ := hdep 4 28 (Nat.le_of_ble_eq_true rfl) rfl rfl
          conv at e28 => rhs; whnf
          have f28 := e28; simp only [Array.getD_eq_getD_getElem?] at f28
          have e29 : a'.tmps.getD 29 undef = _ := hdep 5 29 (Nat.le_of_ble_eq_true rfl) rfl rfl
          conv at e29 => rhs; whnf
          have f29 := e29; simp only [Array.getD_eq_getD_getElem?] at f29
          have kc := fun i => keepc hLe (bl) (by (try simp) <;> omega) i
          have kf := fun i => keepf hLe (bl) (by (try simp) <;> omega) i
          have kz : bl < w'.heap.size := (by have := hLe.size; (try simp at this); omega)
          have kc := fun i => keepc hLe (w.heap.size) (by (try simp) <;> omega) i
          have kf := fun i => keepf hLe (w.heap.size) (by (try simp) <;> omega) i
          have kz : w.heap.size < w'.heap.size := (by have := hLe.size; (try simp at this); omega)
          refine wpOp_plain rfl rfl (fun K hK => ?_)
          go_simp
          refine (addClosure_any _ _ _ _ _ _).mono ?_
          rintro e w2 ⟨rfl, hb⟩
          exact hK _ _ ⟨_, rfl, hb, rfl⟩
        apply free_is
        · intro a' w' hLe hfr hdep
          have e30 : a'.tmps.getD 30 undef = _ := hdep 6 30 (Nat.le_of_ble_eq_true rfl) rfl rfl
          conv at e30 => rhs; whnf
          have f30 := e30; simp only [Array.getD_eq_getD_getElem?] at f30
          refine wpOp_plain rfl rfl (fun K hK => ?_)
          go_simp
          exact hK _ _ ⟨_, rfl, Below.refl _ _, rfl⟩
        apply free_nil
        intro vs w5 hb5 hT5
        have e24 : vs 0 = _ := hT5 0 24 rfl
        conv at e24 => rhs; whnf
        have e25 : vs 1 = _ := hT5 1 25 rfl
        conv at e25 => rhs; whnf
        have e26 : vs 2 = _ := hT5 2 26 rfl
        conv at e26 => rhs; whnf
        have e27 : vs 3 = _ := hT5 3 27 rfl
        conv at e27 => rhs; whnf
        have e28 : vs 4 = _ := hT5 4 28 rfl
        conv at e28 => rhs; whnf
        have e29 : vs 5 = _ := hT5 5 29 rfl
        conv at e29 => rhs; whnf
        have e30 : vs 6 = _ := hT5 6 30 rfl
        conv at e30 => rhs; whnf
        have e31 : vs 7 = _ := hT5 7 31 rfl
        conv at e31 => rhs; whnf
        simp only [putAll, List.drop_succ_cons, List.drop_zero, e24, e25, e26, e27, e28, e29, e30, e31]
        clear hT5 e24 e25 e26 e27 e28 e29 e30 e31
        go_simp
        go_wp2
        go_roundg (hi - ((lo + hi) / 2 + 1))
        case measure => omega
        case rel => exact ⟨(lo + hi) / 2 + 1, hi, by rw [show ((lo : Int) + (hi : Int)) / 2 + 1 = (((lo + hi) / 2 + 1 : Nat) : Int) by omega], rfl, by omega, hin, Nat.le_refl _, Below.tr hBw hb5, fun i hi' => bef_down HV.out (show i ≤ (lo + hi) / 2 by omega) (by omega) HX.out, HH2.out⟩
      | false =>
        have hq : decide (cmpP (a ((lo + hi) / 2)) (b ((lo + hi) / 2)) x y < 0) = false := by rw [cmpP_lt]; exact hx
        have HX := Lib.hid hx
        clear hx
        go_wp2
        refine wp_region_free (ds := [(0, 24), (1, 25), (2, 26), (3, 27), (4, 28), (5, 29), (6, 30), (7, 31)]) 8 (by kernel_rfl) (by kernel_rfl) (by first | exact .inl rfl | exact .inr (by kernel_rfl)) (by rfl) rfl rfl ?_
        apply free_is
        · intro a' w' hLe hfr hdep
          have e2 := hfr 2 rfl
          conv at e2 => rhs; whnf
          have f2 := e2; simp only [Array.getD_eq_getD_getElem?] at f2
          refine wpOp_plain rfl rfl (fun K hK => ?_)
          go_simp
          exact hK _ _ ⟨_, rfl, Below.refl _ _, rfl⟩
        apply free_is
        · intro a' w' hLe hfr hdep
          have e0 := hfr 0 rfl
          conv at e0 => rhs; whnf
          have f0 := e0; simp only [Array.getD_eq_getD_getElem?] at f0
          refine wpOp_plain rfl rfl (fun K hK => ?_)
          go_simp
          exact hK _ _ ⟨_, rfl, Below.refl _ _, rfl⟩
        apply free_is
        · intro a' w' hLe hfr hdep
          have e11 := hfr 11 rfl
          conv at e11 => rhs; whnf
          have f11 := e11; simp only [Array.getD_eq_getD_getElem?] at f11
          refine wpOp_plain rfl rfl (fun K hK => ?_)
          go_simp
          exact hK _ _ ⟨_, rfl, Below.refl _ _, rfl⟩
        apply free_is
        · intro a' w' hLe hfr hdep
          have e25 : a'.tmps.getD 25 undef = _ := hdep 1 25 (Nat.le_of_ble_eq_true rfl) rfl rfl
          conv at e25 => rhs; whnf
          have f25 := e25; simp only [Array.getD_eq_getD_getElem?] at f25
          have e26 : a'.tmps.getD 26 undef = _ := hdep 2 26 (Nat.le_of_ble_eq_true rfl) rfl rfl
          conv at e26 => rhs; whnf
          have f26 := e26; simp only [Array.getD_eq_getD_getElem?] at f26
          refine wpOp_plain rfl rfl (fun K hK => ?_)
          go_simp
          exact hK _ _ ⟨_, rfl, Below.refl _ _, rfl⟩
        apply free_is
        · intro a' w' hLe hfr hdep
          have e27 : a'.tmps.getD 27 undef = _ := hdep 3 27 (Nat.le_of_ble_eq_true rfl) rfl rfl
          conv at e27 => rhs; whnf
          have f27 := e27; simp only [Array.getD_eq_getD_getElem?] at f27
          have kc := fun i => keepc hLe (bl) (by (try simp) <;> omega) i
          have kf := fun i => keepf hLe (bl) (by (try simp) <;> omega) i
          have kz : bl < w'.heap.size := (by have := hLe.size; (try simp at this); omega)
          have kc := fun i => keepc hLe (w.heap.size) (by (try simp) <;> omega) i
          have kf := fun i => keepf hLe (w.heap.size) (by (try simp) <;> omega) i
          have kz : w.heap.size < w'.heap.size := (by have := hLe.size; (try simp at this); omega)
          refine wpOp_plain rfl rfl (fun K hK => ?_)
          go_simp
          exact hK _ _ ⟨_, rfl, Below.refl _ _, rfl⟩
        apply free_is
        · intro a' w' hLe hfr hdep
          have e4 := hfr 4 rfl
          conv at e4 => rhs; whnf
          have f4 := e4; simp only [Array.getD_eq_getD_getElem?] at f4
          have kc := fun i => keepc hLe (bl) (by (try simp) <;> omega) i
          have kf := fun i => keepf hLe (bl) (by (try simp) <;> omega) i
          have kz : bl < w'.heap.size := (by have := hLe.size; (try simp at this); omega)
          have kc := fun i => keepc hLe (w.heap.size) (by (try simp) <;> omega) i
          have kf := fun i => keepf hLe (w.heap.size) (by (try simp) <;> omega) i
          have kz : w.heap.size < w'.heap.size := (by have := hLe.size; (try simp at this); omega)
          refine wpOp_plain rfl rfl (fun K hK => ?_)
          go_simp
          exact hK _ _ ⟨_, rfl, Below.refl _ _, rfl⟩
        apply free_is
        · intro a' w' hLe hfr hdep
          have e24 : a'.tmps.getD 24 undef = _ := hdep 0 24 (Nat.le_of_ble_eq_true rfl) rfl rfl
          conv at e24 => rhs; whnf
          have f24 := e24; simp only [Array.getD_eq_getD_getElem?] at f24
          have e28 : a'.tmps.getD 28 undef = _ := hdep 4 28 (Nat.le_of_ble_eq_true rfl) rfl rfl
          conv at e28 => rhs; whnf
          have f28 := e28; simp only [Array.getD_eq_getD_getElem?] at f28
          have e29 : a'.tmps.getD 29 undef = _ := hdep 5 29 (Nat.le_of_ble_eq_true rfl) rfl rfl
          conv at e29 => rhs; whnf
          have f29 := e29; simp only [Array.getD_eq_getD_getElem?] at f29
          have kc := fun i => keepc hLe (bl) (by (try simp) <;> omega) i
          have kf := fun i => keepf hLe (bl) (by (try simp) <;> omega) i
          have kz : bl < w'.heap.size := (by have := hLe.size; (try simp at this); omega)
          have kc := fun i => keepc hLe (w.heap.size) (by (try simp) <;> omega) i
          have kf := fun i => keepf hLe (w.heap.size) (by (try simp) <;> omega) i
          have kz : w.heap.size < w'.heap.size := (by have := hLe.size; (try simp at this); omega)
          refine wpOp_plain rfl rfl (fun K hK => ?_)
          go_simp
          refine (addClosure_any _ _ _ _ _ _).mono ?_
          rintro e w2 ⟨rfl, hb⟩
          exact hK _ _ ⟨_, rfl, hb, rfl⟩
        apply free_is
        · intro a' w' hLe hfr hdep
          have e30 : a'.tmps.getD 30 undef = _ := hdep 6 30 (Nat.le_of_ble_eq_true rfl) rfl rfl
          conv at e30 => rhs; whnf
          have f30 := e30; simp only [Array.getD_eq_getD_getElem?] at f30
          refine wpOp_plain rfl rfl (fun K hK => ?_)
          go_simp
          exact hK _ _ ⟨_, rfl, Below.refl _ _, rfl⟩
        apply free_nil
        intro vs w5 hb5 hT5
        have e24 : vs 0 = _ := hT5 0 24 rfl
        conv at e24 => rhs; whnf
        have e25 : vs 1 = _ := hT5 1 25 rfl
        conv at e25 => rhs; whnf
        have e26 : vs 2 = _ := hT5 2 26 rfl
        conv at e26 => rhs; whnf
        have e27 : vs 3 = _ := hT5 3 27 rfl
        conv at e27 => rhs; whnf
        have e28 : vs 4 = _ := hT5 4 28 rfl
        conv at e28 => rhs; whnf
        have e29 : vs 5 = _ := hT5 5 29 rfl
        conv at e29 => rhs; whnf
        have e30 : vs 6 = _ := hT5 6 30 rfl
        conv at e30 => rhs; whnf
        have e31 : vs 7 = _ := hT5 7 31 rfl
        conv at e31 => rhs; whnf
        simp only [putAll, List.drop_succ_cons, List.drop_zero, e24, e25, e26, e27, e28, e29, e30, e31]
        clear hT5 e24 e25 e26 e27 e28 e29 e30 e31
        go_simp
        go_wp2
        go_roundg ((lo + hi) / 2 - lo)
        case measure => omega
        case rel => exact ⟨lo, (lo + hi) / 2, rfl, by rw [show ((lo : Int) + (hi : Int)) / 2 = (((lo + hi) / 2 : Nat) : Int) by omega], by omega, by omega, Nat.le_refl _, Below.tr hBw hb5, HH1.out, fun i hi1 hi2 => by
          cases hy : befB (a i) (b i) x y
          · rfl
          · have := bef_down HV.out hi1 hi2 hy
            rw [HX.out] at this
            cases this⟩
    · obtain rfl : hi = lo := by omega
      have hap : apo n a b x y = hi := apo_eq hin h1 fun hlt => h2 hi (Nat.le_refl _) hlt
      by_cases hn : hi < n
      · obtain ⟨bl, off, rfl, hbB, hc⟩ := hrow (by omega)
        have hr := hc hi hn
        have hbs : bl < wr.heap.size := by omega
        have q0 : wr.cell? ⟨bl, off + hi * 3, none⟩ = some (.int .i64 (a hi)) := (keepc hB0 bl (by omega) _).trans (hr 0 _ rfl)
        have q1 : wr.cell? ⟨bl, off + hi * 3 + 1, none⟩ = some (.int .i64 (b hi)) := (keepc hB0 bl (by omega) _).trans (hr 1 _ rfl)
        have q2 : wr.cell? ⟨bl, off + hi * 3 + 2, none⟩ = some (.int .i64 (c hi)) := (keepc hB0 bl (by omega) _).trans (hr 2 _ rfl)
        have HF := Lib.hid (show afd n a b x y = (cmpP (a hi) (b hi) x y == 0) by rw [afd_at (by omega), hap, cmpP_eq]; rfl)
        have HA := Lib.hid hap
        clear hc hr h1 h2 hrow hap
        have hd : decide ((hi : Int) < (n : Int)) = true := by simp; omega
        go_wp2
        refine wp_region_free (ds := [(0, 35), (1, 36), (2, 37), (3, 38), (4, 39), (5, 40), (6, 41), (7, 42), (8, 43), (9, 44), (10, 45), (11, 46), (12, 47), (13, 48), (14, 6), (15, 7)]) 16 (by kernel_rfl) (by kernel_rfl) (by first | exact .inl rfl | exact .inr (by kernel_rfl)) (by rfl) rfl rfl ?_
        apply free_is
        · intro a' w' hLe hfr hdep
          have e9 := hfr 9 rfl
          conv at e9 => rhs; whnf
          have f9 := e9; simp only [Array.getD_eq_getD_getElem?] at f9
          refine wpOp_plain rfl rfl (fun K hK => ?_)
          go_simp
          exact hK _ _ ⟨_, rfl, Below.refl _ _, rfl⟩
        apply free_is
        · intro a' w' hLe hfr hdep
          have e9 := hfr 9 rfl
          conv at e9 => rhs; whnf
          have f9 := e9; simp only [Array.getD_eq_getD_getElem?] at f9
          refine wpOp_plain rfl rfl (fun K hK => ?_)
          go_simp
          exact hK _ _ ⟨_, rfl, Below.refl _ _, rfl⟩
        apply free_is
        · intro a' w' hLe hfr hdep
          have e8 := hfr 8 rfl
          conv at e8 => rhs; whnf
          have f8 := e8; simp only [Array.getD_eq_getD_getElem?] at f8
          refine wpOp_plain rfl rfl (fun K hK => ?_)
          go_simp
          exact hK _ _ ⟨_, rfl, Below.refl _ _, rfl⟩
        apply free_is
        · intro a' w' hLe hfr hdep
          have e36 : a'.tmps.getD 36 undef = _ := hdep 1 36 (Nat.le_of_ble_eq_true rfl) rfl rfl
          conv at e36 => rhs; whnf
          have f36 := e36; simp only [Array.getD_eq_getD_getElem?] at f36
          have e37 : a'.tmps.getD 37 undef = _ := hdep 2 37 (Nat.le_of_ble_eq_true rfl) rfl rfl
          conv at e37 => rhs; whnf
          have f37 := e37; simp only [Array.getD_eq_getD_getElem?] at f37
          refine wpOp_plain rfl rfl (fun K hK => ?_)
          go_simp
          exact hK _ _ ⟨_, rfl, Below.refl _ _, rfl⟩
        apply free_is
        · intro a' w' hLe hfr hdep
          have e38 : a'.tmps.getD 38 undef = _ := hdep 3 38 (Nat.le_of_ble_eq_true rfl) rfl rfl
          conv at e38 => rhs; whnf
          have f38 := e38; simp only [Array.getD_eq_getD_getElem?] at f38
          refine wpOp_plain rfl rfl (fun K hK => ?_)
          go_simp
          exact hK _ _ ⟨_, rfl, Below.refl _ _, rfl⟩
        apply free_is
        · intro a' w' hLe hfr hdep
          have e39 : a'.tmps.getD 39 undef = _ := hdep 4 39 (Nat.le_of_ble_eq_true rfl) rfl rfl
          conv at e39 => rhs; whnf
          have f39 := e39; simp only [Array.getD_eq_getD_getElem?] at f39
          have e2 := hfr 2 rfl
          conv at e2 => rhs; whnf
          have f2 := e2; simp only [Array.getD_eq_getD_getElem?] at f2
          refine wpOp_yes rfl rfl rfl e39 (fun K hK => ?_)
          go_simp
          exact hK _ _ ⟨_, rfl, Below.refl _ _, rfl⟩
        apply free_is
        · intro a' w' hLe hfr hdep
          have e39 : a'.tmps.getD 39 undef = _ := hdep 4 39 (Nat.le_of_ble_eq_true rfl) rfl rfl
          conv at e39 => rhs; whnf
          have f39 := e39; simp only [Array.getD_eq_getD_getElem?] at f39
          have e0 := hfr 0 rfl
          conv at e0 => rhs; whnf
          have f0 := e0; simp only [Array.getD_eq_getD_getElem?] at f0
          refine wpOp_yes rfl rfl rfl e39 (fun K hK => ?_)
          go_simp
          exact hK _ _ ⟨_, rfl, Below.refl _ _, rfl⟩
        apply free_is
        · intro a' w' hLe hfr hdep
          have e39 : a'.tmps.getD 39 undef = _ := hdep 4 39 (Nat.le_of_ble_eq_true rfl) rfl rfl
          conv at e39 => rhs; whnf
          have f39 := e39; simp only [Array.getD_eq_getD_getElem?] at f39
          have e9 := hfr 9 rfl
          conv at e9 => rhs; whnf
          have f9 := e9; simp only [Array.getD_eq_getD_getElem?] at f9
          refine wpOp_yes rfl rfl rfl e39 (fun K hK => ?_)
          go_simp
          exact hK _ _ ⟨_, rfl, Below.refl _ _, rfl⟩
        apply free_is
        · intro a' w' hLe hfr hdep
          have e39 : a'.tmps.getD 39 undef = _ := hdep 4 39 (Nat.le_of_ble_eq_true rfl) rfl rfl
          conv at e39 => rhs; whnf
          have f39 := e39; simp only [Array.getD_eq_getD_getElem?] at f39
          have e41 : a'.tmps.getD 41 undef = _ := hdep 6 41 (Nat.le_of_ble_eq_true rfl) rfl rfl
          conv at e41 => rhs; whnf
          have f41 := e41; simp only [Array.getD_eq_getD_getElem?] at f41
          have e42 : a'.tmps.getD 42 undef = _ := hdep 7 42 (Nat.le_of_ble_eq_true rfl) rfl rfl
          conv at e42 => rhs; whnf
          have f42 := e42; simp only [Array.getD_eq_getD_getElem?] at f42
          refine wpOp_yes rfl rfl rfl e39 (fun K hK => ?_)
          go_simp
          exact hK _ _ ⟨_, rfl, Below.refl _ _, rfl⟩
        apply free_is
        · intro a' w' hLe hfr hdep
          have e39 : a'.tmps.getD 39 undef = _ := hdep 4 39 (Nat.le_of_ble_eq_true rfl) rfl rfl
          conv at e39 => rhs; whnf
          have f39 := e39; simp only [Array.getD_eq_getD_getElem?] at f39
          have e43 : a'.tmps.getD 43 undef = _ := hdep 8 43 (Nat.le_of_ble_eq_true rfl) rfl rfl
          conv at e43 => rhs; whnf
          have f43 := e43; simp only [Array.getD_eq_getD_getElem?] at f43
          have kc := fun i => keepc hLe (bl) (by (try simp) <;> omega) i
          have kf := fun i => keepf hLe (bl) (by (try simp) <;> omega) i
          have kz : bl < w'.heap.size := (by have := hLe.size; (try simp at this); omega)
          have kc := fun i => keepc hLe (w.heap.size) (by (try simp) <;> omega) i
          have kf := fun i => keepf hLe (w.heap.size) (by (try simp) <;> omega) i
          have kz : w.heap.size < w'.heap.size := (by have := hLe.size; (try simp at this); omega)
          refine wpOp_yes rfl rfl rfl e39 (fun K hK => ?_)
          go_simp
          exact hK _ _ ⟨_, rfl, Below.refl _ _, rfl⟩
        apply free_is
        · intro a' w' hLe hfr hdep
          have e39 : a'.tmps.getD 39 undef = _ := hdep 4 39 (Nat.le_of_ble_eq_true rfl) rfl rfl
          conv at e39 => rhs; whnf
          have f39 := e39; simp only [Array.getD_eq_getD_getElem?] at f39
          have e4 := hfr 4 rfl
          conv at e4 => rhs; whnf
          have f4 := e4; simp only [Array.getD_eq_getD_getElem?] at f4
          have kc := fun i => keepc hLe (bl) (by (try simp) <;> omega) i
          have kf := fun i => keepf hLe (bl) (by (try simp) <;> omega) i
          have kz : bl < w'.heap.size := (by have := hLe.size; (try simp at this); omega)
          have kc := fun i => keepc hLe (w.heap.size) (by (try simp) <;> omega) i
          have kf := fun i => keepf hLe (w.heap.size) (by (try simp) <;> omega) i
          have kz : w.heap.size < w'.heap.size := (by have := hLe.size; (try simp at this); omega)
          refine wpOp_yes rfl rfl rfl e39 (fun K hK => ?_)
          go_simp
          exact hK _ _ ⟨_, rfl, Below.refl _ _, rfl⟩
        apply free_is
        · intro a' w' hLe hfr hdep
          have e39 : a'.tmps.getD 39 undef = _ := hdep 4 39 (Nat.le_of_ble_eq_true rfl) rfl rfl
          conv at e39 => rhs; whnf
          have f39 := e39; simp only [Array.getD_eq_getD_getElem?] at f39
          have e40 : a'.tmps.getD 40 undef = _ := hdep 5 40 (Nat.le_of_ble_eq_true rfl) rfl rfl
          conv at e40 => rhs; whnf
          have f40 := e40; simp only [Array.getD_eq_getD_getElem?] at f40
          have e44 : a'.tmps.getD 44 undef = _ := hdep 9 44 (Nat.le_of_ble_eq_true rfl) rfl rfl
          conv at e44 => rhs; whnf
          have f44 := e44; simp only [Array.getD_eq_getD_getElem?] at f44
          have e45 : a'.tmps.getD 45 undef = _ := hdep 10 45 (Nat.le_of_ble_eq_true rfl) rfl rfl
          conv at e45 => rhs; whnf
          have f45 := e45; simp only [Array.getD_eq_getD_getElem?] at f45
          have kc := fun i => keepc hLe (bl) (by (try simp) <;> omega) i
          have kf := fun i => keepf hLe (bl) (by (try simp) <;> omega) i
          have kz : bl < w'.heap.size := (by have := hLe.size; (try simp at this); omega)
          have kc := fun i => keepc hLe (w.heap.size) (by (try simp) <;> omega) i
          have kf := fun i => keepf hLe (w.heap.size) (by (try simp) <;> omega) i
          have kz : w.heap.size < w'.heap.size := (by have := hLe.size; (try simp at this); omega)
          refine wpOp_yes rfl rfl rfl e39 (fun K hK => ?_)
          go_simp
          refine (addClosure_any _ _ _ _ _ _).mono ?_
          rintro e w2 ⟨rfl, hb⟩
          exact hK _ _ ⟨_, rfl, hb, rfl⟩
        apply free_is
        · intro a' w' hLe hfr hdep
          have e39 : a'.tmps.getD 39 undef = _ := hdep 4 39 (Nat.le_of_ble_eq_true rfl) rfl rfl
          conv at e39 => rhs; whnf
          have f39 := e39; simp only [Array.getD_eq_getD_getElem?] at f39
          have e46 : a'.tmps.getD 46 undef = _ := hdep 11 46 (Nat.le_of_ble_eq_true rfl) rfl rfl
          conv at e46 => rhs; whnf
          have f46 := e46; simp only [Array.getD_eq_getD_getElem?] at f46
          refine wpOp_yes rfl rfl rfl e39 (fun K hK => ?_)
          go_simp
          exact hK _ _ ⟨_, rfl, Below.refl _ _, rfl⟩
        apply free_is
        · intro a' w' hLe hfr hdep
          have e39 : a'.tmps.getD 39 undef = _ := hdep 4 39 (Nat.le_of_ble_eq_true rfl) rfl rfl
          conv at e39 => rhs; whnf
          have f39 := e39; simp only [Array.getD_eq_getD_getElem?] at f39
          have e47 : a'.tmps.getD 47 undef = _ := hdep 12 47 (Nat.le_of_ble_eq_true rfl) rfl rfl
          conv at e47 => rhs; whnf
          have f47 := e47; simp only [Array.getD_eq_getD_getElem?] at f47
          refine wpOp_plain rfl rfl (fun K hK => ?_)
          go_simp
          exact hK _ _ ⟨_, rfl, Below.refl _ _, rfl⟩
        apply free_is
        · intro a' w' hLe hfr hdep
          have e35 : a'.tmps.getD 35 undef = _ := hdep 0 35 (Nat.le_of_ble_eq_true rfl) rfl rfl
          conv at e35 => rhs; whnf
          have f35 := e35; simp only [Array.getD_eq_getD_getElem?] at f35
          refine wpOp_plain rfl rfl (fun K hK => ?_)
          go_simp
          exact hK _ _ ⟨_, rfl, Below.refl _ _, rfl⟩
        apply free_is
        · intro a' w' hLe hfr hdep
          have e48 : a'.tmps.getD 48 undef = _ := hdep 13 48 (Nat.le_of_ble_eq_true rfl) rfl rfl
          conv at e48 => rhs; whnf
          have f48 := e48; simp only [Array.getD_eq_getD_getElem?] at f48
          refine wpOp_plain rfl rfl (fun K hK => ?_)
          go_simp
          exact hK _ _ ⟨_, rfl, Below.refl _ _, rfl⟩
        apply free_nil
        intro vs w8 hb8 hT8
        have e35 : vs 0 = _ := hT8 0 35 rfl
        conv at e35 => rhs; whnf
        have e36 : vs 1 = _ := hT8 1 36 rfl
        conv at e36 => rhs; whnf
        have e37 : vs 2 = _ := hT8 2 37 rfl
        conv at e37 => rhs; whnf
        have e38 : vs 3 = _ := hT8 3 38 rfl
        conv at e38 => rhs; whnf
        have e39 : vs 4 = _ := hT8 4 39 rfl
        conv at e39 => rhs; whnf
        have e40 : vs 5 = _ := hT8 5 40 rfl
        conv at e40 => rhs; whnf
        have e41 : vs 6 = _ := hT8 6 41 rfl
        conv at e41 => rhs; whnf
        have e42 : vs 7 = _ := hT8 7 42 rfl
        conv at e42 => rhs; whnf
        have e43 : vs 8 = _ := hT8 8 43 rfl
        conv at e43 => rhs; whnf
        have e44 : vs 9 = _ := hT8 9 44 rfl
        conv at e44 => rhs; whnf
        have e45 : vs 10 = _ := hT8 10 45 rfl
        conv at e45 => rhs; whnf
        have e46 : vs 11 = _ := hT8 11 46 rfl
        conv at e46 => rhs; whnf
        have e47 : vs 12 = _ := hT8 12 47 rfl
        conv at e47 => rhs; whnf
        have e48 : vs 13 = _ := hT8 13 48 rfl
        conv at e48 => rhs; whnf
        have e6 : vs 14 = _ := hT8 14 6 rfl
        conv at e6 => rhs; whnf
        have e7 : vs 15 = _ := hT8 15 7 rfl
        conv at e7 => rhs; whnf
        simp only [putAll, List.drop_succ_cons, List.drop_zero, e35, e36, e37, e38, e39, e40, e41, e42, e43, e44, e45, e46, e47, e48, e6, e7]
        clear hT8 e35 e36 e37 e38 e39 e40 e41 e42 e43 e44 e45 e46 e47 e48 e6 e7
        go_simp
        go_wp2
        go_ret2
        exact ⟨by rw [HF.out, HA.out] <;> rfl, Below.tr hB0 hb8⟩
      · have HF := Lib.hid (afd_no (a := a) (b := b) (x := x) (y := y) (n := n) (by omega))
        have HA := Lib.hid hap
        have hd : decide ((hi : Int) < (n : Int)) = false := by simp; omega
        clear hap h1 h2 hrow
        go_wp2
        refine wp_region_free (ds := [(0, 35), (1, 36), (2, 37), (3, 38), (4, 39), (5, 40), (6, 41), (7, 42), (8, 43), (9, 44), (10, 45), (11, 46), (12, 47), (13, 48), (14, 6), (15, 7)]) 16 (by kernel_rfl) (by kernel_rfl) (by first | exact .inl rfl | exact .inr (by kernel_rfl)) (by rfl) rfl rfl ?_
        apply free_is
        · intro a' w' hLe hfr hdep
          have e9 := hfr 9 rfl
          conv at e9 => rhs; whnf
          have f9 := e9; simp only [Array.getD_eq_getD_getElem?] at f9
          refine wpOp_plain rfl rfl (fun K hK => ?_)
          go_simp
          exact hK _ _ ⟨_, rfl, Below.refl _ _, rfl⟩
        apply free_is
        · intro a' w' hLe hfr hdep
          have e9 := hfr 9 rfl
          conv at e9 => rhs; whnf
          have f9 := e9; simp only [Array.getD_eq_getD_getElem?] at f9
          refine wpOp_plain rfl rfl (fun K hK => ?_)
          go_simp
          exact hK _ _ ⟨_, rfl, Below.refl _ _, rfl⟩
        apply free_is
        · intro a' w' hLe hfr hdep
          have e8 := hfr 8 rfl
          conv at e8 => rhs; whnf
          have f8 := e8; simp only [Array.getD_eq_getD_getElem?] at f8
          refine wpOp_plain rfl rfl (fun K hK => ?_)
          go_simp
          exact hK _ _ ⟨_, rfl, Below.refl _ _, rfl⟩
        apply free_is
        · intro a' w' hLe hfr hdep
          have e36 : a'.tmps.getD 36 undef = _ := hdep 1 36 (Nat.le_of_ble_eq_true rfl) rfl rfl
          conv at e36 => rhs; whnf
          have f36 := e36; simp only [Array.getD_eq_getD_getElem?] at f36
          have e37 : a'.tmps.getD 37 undef = _ := hdep 2 37 (Nat.le_of_ble_eq_true rfl) rfl rfl
          conv at e37 => rhs; whnf
          have f37 := e37; simp only [Array.getD_eq_getD_getElem?] at f37
          refine wpOp_plain rfl rfl (fun K hK => ?_)
          go_simp
          exact hK _ _ ⟨_, rfl, Below.refl _ _, rfl⟩
        apply free_is
        · intro a' w' hLe hfr hdep
          have e38 : a'.tmps.getD 38 undef = _ := hdep 3 38 (Nat.le_of_ble_eq_true rfl) rfl rfl
          conv at e38 => rhs; whnf
          have f38 := e38; simp only [Array.getD_eq_getD_getElem?] at f38
          refine wpOp_plain rfl rfl (fun K hK => ?_)
          go_simp
          exact hK _ _ ⟨_, rfl, Below.refl _ _, rfl⟩
        apply free_is
        · intro a' w' hLe hfr hdep
          have e39 : a'.tmps.getD 39 undef = _ := hdep 4 39 (Nat.le_of_ble_eq_true rfl) rfl rfl
          conv at e39 => rhs; whnf
          have f39 := e39; simp only [Array.getD_eq_getD_getElem?] at f39
          exact wpOp_no rfl rfl rfl e39 ⟨_, rfl, Below.refl _ _, rfl⟩
        apply free_is
        · intro a' w' hLe hfr hdep
          have e39 : a'.tmps.getD 39 undef = _ := hdep 4 39 (Nat.le_of_ble_eq_true rfl) rfl rfl
          conv at e39 => rhs; whnf
          have f39 := e39; simp only [Array.getD_eq_getD_getElem?] at f39
          exact wpOp_no rfl rfl rfl e39 ⟨_, rfl, Below.refl _ _, rfl⟩
        apply free_is
        · intro a' w' hLe hfr hdep
          have e39 : a'.tmps.getD 39 undef = _ := hdep 4 39 (Nat.le_of_ble_eq_true rfl) rfl rfl
          conv at e39 => rhs; whnf
          have f39 := e39; simp only [Array.getD_eq_getD_getElem?] at f39
          exact wpOp_no rfl rfl rfl e39 ⟨_, rfl, Below.refl _ _, rfl⟩
        apply free_is
        · intro a' w' hLe hfr hdep
          have e39 : a'.tmps.getD 39 undef = _ := hdep 4 39 (Nat.le_of_ble_eq_true rfl) rfl rfl
          conv at e39 => rhs; whnf
          have f39 := e39; simp only [Array.getD_eq_getD_getElem?] at f39
          exact wpOp_no rfl rfl rfl e39 ⟨_, rfl, Below.refl _ _, rfl⟩
        apply free_is
        · intro a' w' hLe hfr hdep
          have e39 : a'.tmps.getD 39 undef = _ := hdep 4 39 (Nat.le_of_ble_eq_true rfl) rfl rfl
          conv at e39 => rhs; whnf
          have f39 := e39; simp only [Array.getD_eq_getD_getElem?] at f39
          exact wpOp_no rfl rfl rfl e39 ⟨_, rfl, Below.refl _ _, rfl⟩
        apply free_is
        · intro a' w' hLe hfr hdep
          have e39 : a'.tmps.getD 39 undef = _ := hdep 4 39 (Nat.le_of_ble_eq_true rfl) rfl rfl
          conv at e39 => rhs; whnf
          have f39 := e39; simp only [Array.getD_eq_getD_getElem?] at f39
          exact wpOp_no rfl rfl rfl e39 ⟨_, rfl, Below.refl _ _, rfl⟩
        apply free_is
        · intro a' w' hLe hfr hdep
          have e39 : a'.tmps.getD 39 undef = _ := hdep 4 39 (Nat.le_of_ble_eq_true rfl) rfl rfl
          conv at e39 => rhs; whnf
          have f39 := e39; simp only [Array.getD_eq_getD_getElem?] at f39
          exact wpOp_no rfl rfl rfl e39 ⟨_, rfl, Below.refl _ _, rfl⟩
        apply free_is
        · intro a' w' hLe hfr hdep
          have e39 : a'.tmps.getD 39 undef = _ := hdep 4 39 (Nat.le_of_ble_eq_true rfl) rfl rfl
          conv at e39 => rhs; whnf
          have f39 := e39; simp only [Array.getD_eq_getD_getElem?] at f39
          exact wpOp_no rfl rfl rfl e39 ⟨_, rfl, Below.refl _ _, rfl⟩
        apply free_is
        · intro a' w' hLe hfr hdep
          have e39 : a'.tmps.getD 39 undef = _ := hdep 4 39 (Nat.le_of_ble_eq_true rfl) rfl rfl
          conv at e39 => rhs; whnf
          have f39 := e39; simp only [Array.getD_eq_getD_getElem?] at f39
          have e47 : a'.tmps.getD 47 undef = _ := hdep 12 47 (Nat.le_of_ble_eq_true rfl) rfl rfl
          conv at e47 => rhs; whnf
          have f47 := e47; simp only [Array.getD_eq_getD_getElem?] at f47
          refine wpOp_plain rfl rfl (fun K hK => ?_)
          go_simp
          exact hK _ _ ⟨_, rfl, Below.refl _ _, rfl⟩
        apply free_is
        · intro a' w' hLe hfr hdep
          have e35 : a'.tmps.getD 35 undef = _ := hdep 0 35 (Nat.le_of_ble_eq_true rfl) rfl rfl
          conv at e35 => rhs; whnf
          have f35 := e35; simp only [Array.getD_eq_getD_getElem?] at f35
          refine wpOp_plain rfl rfl (fun K hK => ?_)
          go_simp
          exact hK _ _ ⟨_, rfl, Below.refl _ _, rfl⟩
        apply free_is
        · intro a' w' hLe hfr hdep
          have e48 : a'.tmps.getD 48 undef = _ := hdep 13 48 (Nat.le_of_ble_eq_true rfl) rfl rfl
          conv at e48 => rhs; whnf
          have f48 := e48; simp only [Array.getD_eq_getD_getElem?] at f48
          refine wpOp_plain rfl rfl (fun K hK => ?_)
          go_simp
          exact hK _ _ ⟨_, rfl, Below.refl _ _, rfl⟩
        apply free_nil
        intro vs w8 hb8 hT8
        have e35 : vs 0 = _ := hT8 0 35 rfl
        conv at e35 => rhs; whnf
        have e36 : vs 1 = _ := hT8 1 36 rfl
        conv at e36 => rhs; whnf
        have e37 : vs 2 = _ := hT8 2 37 rfl
        conv at e37 => rhs; whnf
        have e38 : vs 3 = _ := hT8 3 38 rfl
        conv at e38 => rhs; whnf
        have e39 : vs 4 = _ := hT8 4 39 rfl
        conv at e39 => rhs; whnf
        have e40 : vs 5 = _ := hT8 5 40 rfl
        conv at e40 => rhs; whnf
        have e41 : vs 6 = _ := hT8 6 41 rfl
        conv at e41 => rhs; whnf
        have e42 : vs 7 = _ := hT8 7 42 rfl
        conv at e42 => rhs; whnf
        have e43 : vs 8 = _ := hT8 8 43 rfl
        conv at e43 => rhs; whnf
        have e44 : vs 9 = _ := hT8 9 44 rfl
        conv at e44 => rhs; whnf
        have e45 : vs 10 = _ := hT8 10 45 rfl
        conv at e45 => rhs; whnf
        have e46 : vs 11 = _ := hT8 11 46 rfl
        conv at e46 => rhs; whnf
        have e47 : vs 12 = _ := hT8 12 47 rfl
        conv at e47 => rhs; whnf
        have e48 : vs 13 = _ := hT8 13 48 rfl
        conv at e48 => rhs; whnf
        have e6 : vs 14 = _ := hT8 14 6 rfl
        conv at e6 => rhs; whnf
        have e7 : vs 15 = _ := hT8 15 7 rfl
        conv at e7 => rhs; whnf
        simp only [putAll, List.drop_succ_cons, List.drop_zero, e35, e36, e37, e38, e39, e40, e41, e42, e43, e44, e45, e46, e47, e48, e6, e7]
        clear hT8 e35 e36 e37 e38 e39 e40 e41 e42 e43 e44 e45 e46 e47 e48 e6 e7
        go_simp
        go_wp2
        go_ret2
        exact ⟨by rw [HF.out, HA.out] <;> rfl, Below.tr hB0 hb8⟩
end Go.Proofs.Ytgoijpbkgkjfeaa
