/-
  DropRoute, in the program and in the reference.
-/
import Derived.Test.YtgoijpbkgkjfeaaOwn
import Derived.Test.YtgoijpbkgkjfeaaRv
import Derived.Shelf.Abstract
namespace Go.Proofs.Ytgoijpbkgkjfeaa
open Go Go.RowKit

/-! ### rows written in place -/
theorem seg_get {cs : List Value} {p : Nat} {vs : List Value} (hp : p + vs.length ≤ cs.length) (i : Nat) :
    (cs.take p ++ vs ++ cs.drop (p + vs.length))[i]? = if i < p then cs[i]? else if i < p + vs.length then vs[i - p]? else cs[i]? := by
  have hl : (cs.take p).length = p := by simp; omega
  by_cases h1 : i < p
  · rw [if_pos h1, List.append_assoc, List.getElem?_append_left (by omega), List.getElem?_take, if_pos h1]
  · rw [if_neg h1, List.append_assoc, List.getElem?_append_right (by omega), hl]
    by_cases h2 : i < p + vs.length
    · rw [if_pos h2, List.getElem?_append_left (by omega)]
    · rw [if_neg h2, List.getElem?_append_right (by omega), List.getElem?_drop]
      congr 1
      omega
theorem seg_size {cs : Array Value} {p : Nat} {vs : List Value} (hp : p + vs.length ≤ cs.size) : (cs.toList.take p ++ vs ++ cs.toList.drop (p + vs.length)).toArray.size = cs.size := by
  simp; omega
theorem new_row {w' : World} {g : Nat} {t : TypeId} {m n c k : Nat} {R : Nat → List Value} {cs : Array Value} {row : List Value} (hs : cs.size = c * m) (hnc : n ≤ c) (hcs : ∀ i, i < n → ∀ j v, (R i)[j]? = some v → cs[i * m + j]? = some v)
    (hk : k < n) (hm : ∀ i, (R i).length = m) (hrow : row.length = m) (hw : w'.heap[g]? = some (.cells (cs.toList.take (k * m) ++ row ++ cs.toList.drop (k * m + row.length)).toArray t (0, 0))) :
    New w' g t m n c (fun i => if i = k then row else R i) := by
  have hle : (k + 1) * m ≤ c * m := Nat.mul_le_mul_right m (by omega)
  rw [Nat.add_mul, Nat.one_mul] at hle
  have hp : k * m + row.length ≤ cs.toList.length := by simp; omega
  refine ⟨_, hw, by rw [seg_size (by simpa using hp)]; exact hs, hnc, fun i hi j v hv => ?_⟩
  rw [← Array.getElem?_toList, List.toList_toArray, seg_get hp]
  by_cases hik : i = k
  · subst hik
    simp only [if_true] at hv
    have hj := (List.getElem?_eq_some_iff.1 hv).1
    rw [if_neg (by omega), if_pos (by omega), show i * m + j - i * m = j by omega]
    exact hv
  · simp only [if_neg hik] at hv
    have hj : j < m := by rw [← hm i]; exact (List.getElem?_eq_some_iff.1 hv).1
    have hget := hcs i hi j v hv
    rw [← Array.getElem?_toList] at hget
    rcases Nat.lt_or_gt_of_ne hik with h | h
    · have h2 : (i + 1) * m ≤ k * m := Nat.mul_le_mul_right m (by omega)
      rw [Nat.add_mul, Nat.one_mul] at h2
      rw [if_pos (by omega)]
      exact hget
    · have h2 : (k + 1) * m ≤ i * m := Nat.mul_le_mul_right m (by omega)
      rw [Nat.add_mul, Nat.one_mul] at h2
      rw [if_neg (by omega), if_neg (by omega)]
      exact hget
theorem new_cut {w' : World} {g : Nat} {t : TypeId} {m n c k : Nat} {R : Nat → List Value} {cs : Array Value} {vs : List Value} (hs : cs.size = c * m) (hnc : n ≤ c) (hcs : ∀ i, i < n → ∀ j v, (R i)[j]? = some v → cs[i * m + j]? = some v)
    (hk : k ≤ n) (hm : ∀ i, (R i).length = m) (hp : k * m + vs.length ≤ cs.size) (hw : w'.heap[g]? = some (.cells (cs.toList.take (k * m) ++ vs ++ cs.toList.drop (k * m + vs.length)).toArray t (0, 0))) :
    New w' g t m k c R := by
  refine ⟨_, hw, by rw [seg_size hp]; exact hs, by omega, fun i hi j v hv => ?_⟩
  have hj : j < m := by rw [← hm i]; exact (List.getElem?_eq_some_iff.1 hv).1
  have h2 : (i + 1) * m ≤ k * m := Nat.mul_le_mul_right m (by omega)
  rw [Nat.add_mul, Nat.one_mul] at h2
  rw [← Array.getElem?_toList, List.toList_toArray, seg_get (by simpa using hp), if_pos (by omega), Array.getElem?_toList]
  exact hcs i (by omega) j v hv
section
variable {P : Program}
/-- 's[k] = row', in place. -/
theorem wpList_store_row {ops : Array Oper} {rest : List Oper} {o : Oper} {a : Act} {w : World} {Q : Exit → Act → World → Prop} (hgd : o.guard = none) (ty : TypeId) (x y : Operand) (ho : o.op = .store ty x y)
    {g : Nat} {t : TypeId} {m n k c : Nat} {R : Nat → List Value} (v : Value) (hP : New w g t m n c R) (hk : k < n) (hm : ∀ i, (R i).length = m) (hx : a.eval x = .pointer (some ⟨g, k * m, none⟩)) (hy : a.eval y = v) {row : List Value} (hv : v.cells.toList = row) (hrow : row.length = m)
    (hi : (P.info? ty).map (·.size) = some m) (h1 : ∀ u ∈ row, u.oneCell' = true)
    (h : ∀ w2 : World, New w2 g t m n c (fun i => if i = k then row else R i) → w.grownBy w2 (some g) → w2.heap.size = w.heap.size → wpList P ops Q rest (a.put o.dst undef) w2) : wpList P ops Q (o :: rest) a w := by
  refine wpList_plain hgd fun K hK => ?_
  obtain ⟨cs, hg, hs, hnc, hcs⟩ := hP
  have hle : (k + 1) * m ≤ c * m := Nat.mul_le_mul_right m (by omega)
  rw [Nat.add_mul, Nat.one_mul] at hle
  have hst := run_storeCells_at P g (k * m) t row 0 cs w hg (by rw [hrow]; omega) h1
  have hsv : (storeVar ty ⟨g, k * m, none⟩ v).run P w = .ok () (w.setRow g (cs.toList.take (k * m) ++ row ++ cs.toList.drop (k * m + row.length)).toArray) := by
    cases hq : P.info? ty with
    | none => simp [hq] at hi
    | some i =>
      have hs : i.size = m := by simpa [hq] using hi
      have hvs : v.cells.size = i.size := by rw [hs, ← hrow, ← hv]; simp
      simp only [Nat.add_zero] at hst
      simp [storeVar, sizeOf, typeInfo, hq, hvs, hv, hst]
  unfold Oper.wp execOp
  simp only [ho, hx, hy, Instr.storeAt, Instr.sureAddr, Sem.run_bind, Sem.run_pure, Result.andThen_ok, hsv]
  exact hK _ _ (h _ (new_row hs hnc hcs hk hm hrow (setRow_heap w g cs _ t _ hg)) (setRow_grownM w g _) (by simp))
/-- 'clear(s[k:])', where there is something behind k. -/
theorem wpList_clear {ops : Array Oper} {rest : List Oper} {o : Oper} {a : Act} {w : World} {Q : Exit → Act → World → Prop} (hgd : o.guard = none) (ts : TypeId) (x : Operand)
    (ho : o.op = .call { callee := .builtin .clear, args := #[x], argTypes := #[ts] }) {t : TypeId} (ht : P.underlying ts = some (.slice t)) {z : Value} (hz : ∀ w, (zeroValue t).run P w = .ok z w)
    {g m n k c cc : Nat} {R : Nat → List Value} (hzs : z.cells.size = m) (hz1 : ∀ i, i < m → (z.cells[i]!).oneCell' = true) (hP : New w g t m n c R) (hk : k < n) (hm : ∀ i, (R i).length = m) (hx : a.eval x = .slice (some ⟨g, k * m, none⟩) (n - k) cc)
    (h : ∀ w2 : World, New w2 g t m k c R → w.grownBy w2 (some g) → wpList P ops Q rest (a.put o.dst (.tuple #[])) w2) : wpList P ops Q (o :: rest) a w := by
  refine wpList_plain hgd fun K hK => ?_
  obtain ⟨cs, hg, hs, hnc, hcs⟩ := hP
  obtain ⟨q, hq⟩ : ∃ q, n - k = q + 1 := ⟨n - k - 1, by omega⟩
  have hlen : (Builtin.zeroCells z.cells (n - k)).toList.length = (n - k) * m := by simp [size_zeroCells, hzs]
  have hnm : n * m ≤ c * m := Nat.mul_le_mul_right m hnc
  have hkm : k * m + (n - k) * m = n * m := by rw [← Nat.add_mul]; congr 1; omega
  have h1 : ∀ v ∈ (Builtin.zeroCells z.cells (n - k)).toList, v.oneCell' = true := by
    intro v hv
    simp only [Builtin.zeroCells, Array.toList_map, List.mem_map] at hv
    obtain ⟨i, hi, rfl⟩ := hv
    have : 0 < m := by
      rcases Nat.eq_zero_or_pos m with rfl | h
      · simp [hzs] at hi
      · exact h
    exact hz1 _ (by rw [hzs]; exact Nat.mod_lt _ this)
  have hst := run_storeCells_at P g (k * m) t (Builtin.zeroCells z.cells (n - k)).toList 0 cs w hg (by rw [hlen]; omega) h1
  simp only [Nat.add_zero] at hst
  have hr : ∀ ty, (Builtin.clear_ #[ts] ty #[.slice (some ⟨g, k * m, none⟩) (n - k) cc]).run P w = .ok (.tuple #[]) (w.setRow g (cs.toList.take (k * m) ++ (Builtin.zeroCells z.cells (n - k)).toList ++ cs.toList.drop (k * m + (Builtin.zeroCells z.cells (n - k)).toList.length)).toArray) := by
    intro ty
    rw [hq] at hst ⊢
    simp [Builtin.clear_, run_underlying ht, hz, hst]
  unfold Oper.wp execOp
  simp only [ho, resolve, invoke, builtin, Sem.run_bind, Sem.run_pure, Result.andThen_ok, List.map_toArray, List.map_cons, List.map_nil, hx, hr]
  exact hK _ _ (h _ (new_cut hs hnc hcs (by omega) hm (by rw [hlen]; omega) (setRow_heap w g cs _ t _ hg)) (setRow_grownM w g _))
end

/-! ### what is kept -/
/-- Is the prefix of row i the one that goes? -/
def hitB (a b : Nat → Int) (x y : Int) (i : Nat) : Bool := decide (a i = x) && decide (b i = y)
/-- How many of the first j rows are kept; which. -/
def kn (a b : Nat → Int) (x y : Int) : Nat → Nat
  | 0 => 0
  | j + 1 => if hitB a b x y j then kn a b x y j else kn a b x y j + 1
def ki (a b : Nat → Int) (x y : Int) : Nat → Nat → Nat
  | 0 => fun i => i
  | j + 1 => if hitB a b x y j then ki a b x y j else fun i => if i = kn a b x y j then j else ki a b x y j i
section
variable {a b c : Nat → Int} {x y : Int}
theorem kn_hit {j : Nat} (h : hitB a b x y j = true) : kn a b x y (j + 1) = kn a b x y j ∧ ki a b x y (j + 1) = ki a b x y j := by simp [kn, ki, h]
theorem kn_keep {j : Nat} (h : hitB a b x y j = false) : kn a b x y (j + 1) = kn a b x y j + 1 ∧ ki a b x y (j + 1) = fun i => if i = kn a b x y j then j else ki a b x y j i := by simp [kn, ki, h]
theorem kn_le : ∀ j, kn a b x y j ≤ j
  | 0 => Nat.le_refl _
  | j + 1 => by
    have := kn_le j
    cases h : hitB a b x y j
    · rw [(kn_keep h).1]; omega
    · rw [(kn_hit h).1]; omega
theorem ki_stays {j n : Nat} (hj : j ≤ n) : ∀ i, i < kn a b x y j → ki a b x y n i = ki a b x y j i := by
  induction n with
  | zero => obtain rfl : j = 0 := by omega
            intro i hi; rfl
  | succ n ih =>
    rcases Nat.eq_or_lt_of_le hj with rfl | hlt
    · intro i hi; rfl
    · intro i hi
      have hjn : j ≤ n := by omega
      have hmono : kn a b x y j ≤ kn a b x y n := by
        clear ih hlt hj hi i
        induction n with
        | zero => obtain rfl : j = 0 := by omega
                  exact Nat.le_refl _
        | succ n ih2 =>
          rcases Nat.eq_or_lt_of_le hjn with rfl | h
          · exact Nat.le_refl _
          · have := ih2 (by omega)
            cases hh : hitB a b x y n
            · rw [(kn_keep hh).1]; omega
            · rw [(kn_hit hh).1]; omega
      cases hh : hitB a b x y n
      · rw [(kn_keep hh).2]
        simp only
        rw [if_neg (by omega)]
        exact ih hjn i hi
      · rw [(kn_hit hh).2]
        exact ih hjn i hi
theorem ki_at {j n : Nat} (hj : j < n) (h : hitB a b x y j = false) : ki a b x y n (kn a b x y j) = j := by
  rw [ki_stays (j := j + 1) hj _ (by rw [(kn_keep h).1]; omega), (kn_keep h).2]
  simp
theorem kn_none {n : Nat} (h : ∀ i, i < n → hitB a b x y i = false) : kn a b x y n = n ∧ ∀ i, i < n → ki a b x y n i = i := by
  induction n with
  | zero => exact ⟨rfl, fun i hi => absurd hi (by omega)⟩
  | succ n ih =>
    obtain ⟨h1, h2⟩ := ih fun i hi => h i (by omega)
    obtain ⟨h3, h4⟩ := kn_keep (h n (by omega))
    refine ⟨by rw [h3, h1], fun i hi => ?_⟩
    rw [h4]
    simp only
    split
    · rename_i e; rw [e, h1]
    · rename_i e; exact h2 i (by rw [h1] at e; omega)
end
/-- The rows that DropRoute returns, and how many. -/
def drN (n : Nat) (a b c : Nat → Int) (x y : Int) : Nat := if rtsB n a b c then kn a b x y n else 0
def drR (n : Nat) (a b c : Nat → Int) (x y : Int) : Nat → List Value := fun i => routeR a b c (ki a b x y n i)

/-! ### the calls -/
set_option maxHeartbeats 4000000 in
theorem eql_pfx (x0 x1 y0 y1 : Int) (w : World) :
    (binOp .eql 25 (.agg #[.int .i64 x0, .int .i64 x1]) (.agg #[.int .i64 y0, .int .i64 y1])).run Try.prog w = .ok (.bool (decide (x0 = y0) && decide (x1 = y1))) w := by
  simp only [binOp]
  have hu := fun w' => run_underlying (w := w') Try.underlying25
  have hi := fun w' => run_underlying (w := w') Try.underlying3
  by_cases h0 : x0 = y0
  · by_cases h1 : x1 = y1 <;> simp [Op.equal, Op.maxDepth, go_sem, h0, h1]
  · simp [Op.equal, Op.maxDepth, go_sem, h0]
theorem binOp_neq {P : Program} {t : TypeId} {xs ys : Array Value} {v : Bool} {w : World} (h : (binOp .eql t (.agg xs) (.agg ys)).run P w = .ok (.bool v) w) : (binOp .neq t (.agg xs) (.agg ys)).run P w = .ok (.bool (!v)) w := by
  simp only [binOp] at h ⊢
  simp only [Sem.run_bind, Result.andThen] at h ⊢
  cases hr : (Op.equal t (.agg xs) (.agg ys)).run P w with
  | ok b w' =>
    rw [hr] at h
    simp at h ⊢
    exact ⟨by rw [h.1], h.2⟩
  | _ => rw [hr] at h; simp at h
theorem eql_hit {a b : Nat → Int} {x y : Int} {i : Nat} {v : Bool} (h : hitB a b x y i = v) (w : World) : (binOp .eql 25 (.agg #[.int .i64 (a i), .int .i64 (b i)]) (.agg #[.int .i64 x, .int .i64 y])).run Try.prog w = .ok (.bool v) w := by
  rw [← h]; exact eql_pfx _ _ _ _ w
set_option maxHeartbeats 2000000 in
theorem dropClosure_any {w : World} {h : Nat} {x y : Int} {a b c : Nat → Int} {i : Nat} {v : Bool} (hv : hitB a b x y i = v) (hh : w.heap[h]? = some (.cells #[.int .i64 x, .int .i64 y] 25 (0, 0))) :
    Calls Try.prog 37 #[.agg #[.int .i64 (a i), .int .i64 (b i), .int .i64 (c i)], .pointer (some ⟨h, 0, none⟩)] w fun e w' => e = .returned (.bool v) ∧ Below w.heap.size w w' := by
  obtain ⟨k1, f1⟩ := blk hh
  have hl := heap_lt hh
  have hne : ¬ w.heap.size = h := by omega
  have hq := eql_hit hv
  go_enter Try.func37, Try.ntmps37
  go_wp2
  go_ret
  exact ⟨rfl, by (repeat (first | exact Below.refl _ _ | assumption | refine Below.al ?_ _ | refine Below.dr ?_ | (refine Below.st ?_ (by simp <;> omega) _) | (refine Below.tr ?_ (by assumption))))⟩
/-- r is the first place of a row that goes, or -1. -/
def FstB (a b : Nat → Int) (x y : Int) (n : Nat) (r : Int) : Prop := (r = -1 ∧ ∀ i, i < n → hitB a b x y i = false) ∨ ∃ k : Nat, k < n ∧ r = k ∧ hitB a b x y k = true ∧ ∀ i, i < k → hitB a b x y i = false
set_option maxHeartbeats 4000000 in
theorem indexRoute_any {w : World} {B : Nat} {A : Option Addr} {n cc : Nat} {a b c : Nat → Int} {h : Nat} {x y : Int} (H : Rws w B 3 A n cc (routeR a b c)) (hB : B ≤ w.heap.size) (hh : w.heap[h]? = some (.cells #[.int .i64 x, .int .i64 y] 25 (0, 0))) :
    Calls Try.prog 47 #[.slice A n cc, (.func (.func 37) #[] #[.pointer (some ⟨h, 0, none⟩)])] w fun e w' => ∃ r, e = .returned (.int .i64 r) ∧ FstB a b x y n r ∧ Below w.heap.size w w' := by
  have eg : ∀ args w, (callFunc 37 args).run Try.prog w = .ok (.enter 37 args) w := enters_of Try.func37 (by kernel_rfl) rfl
  obtain ⟨⟨hnc, hcm⟩, hrow⟩ := H
  unfold maxLen at hcm
  have hl := heap_lt hh
  go_enter Try.func47, Try.ntmps47
  go_wp2
  go_loopw [8] (fun i wr => ∃ j : Nat, j ≤ n ∧ i = .int .i64 j ∧ (∀ i, i < j → hitB a b x y i = false) ∧ Below w.heap.size w wr) (fun i _ => n - (intOf i).toNat)
  case atStart => exact ⟨0, by omega, rfl, fun i hi => absurd hi (by omega), Below.refl _ _⟩
  case round =>
    obtain ⟨j, hj, rfl, hok, hBw⟩ := hrel
    by_cases hlt : j < n
    · obtain ⟨bl, off, rfl, hbB, hc⟩ := hrow (by omega)
      have hr := hc j hlt
      have hbs : bl < wr.heap.size := by have := hBw.size; omega
      have q0 : wr.cell? ⟨bl, off + j * 3, none⟩ = some (.int .i64 (a j)) := (keepc hBw bl (by omega) _).trans (hr 0 _ rfl)
      have q1 : wr.cell? ⟨bl, off + j * 3 + 1, none⟩ = some (.int .i64 (b j)) := (keepc hBw bl (by omega) _).trans (hr 1 _ rfl)
      have q2 : wr.cell? ⟨bl, off + j * 3 + 2, none⟩ = some (.int .i64 (c j)) := (keepc hBw bl (by omega) _).trans (hr 2 _ rfl)
      have HO := Lib.hid hok
      clear hc hr hrow hok
      cases hx : hitB a b x y j with
      | true =>
        have hcall := dropClosure_any (c := c) hx ((hBw.block h hl).trans hh)
        have HX := Lib.hid hx
        clear hx
        go_wp2_with (go_at_fn 37; refine hcall.mono ?_; rintro e w' ⟨rfl, hb'⟩)
        go_ret
        exact ⟨_, rfl, .inr ⟨j, hlt, rfl, HX.out, HO.out⟩, Below.tr hBw hb'⟩
      | false =>
        have hcall := dropClosure_any (c := c) hx ((hBw.block h hl).trans hh)
        have HX := Lib.hid hx
        clear hx
        go_wp2_with (go_at_fn 37; refine hcall.mono ?_; rintro e w' ⟨rfl, hb'⟩)
        go_roundw
        case rel => exact ⟨j + 1, by omega, by go_num, upto HO.out HX.out, Below.tr hBw hb'⟩
        case measure => simp [intOf]; omega
    · obtain rfl : j = n := by omega
      clear hrow
      have HO := Lib.hid hok
      clear hok
      go_wp2
      go_ret
      exact ⟨_, rfl, .inl ⟨rfl, HO.out⟩, hBw⟩
theorem zero_route (w : World) : (zeroValue 27).run Try.prog w = .ok (.agg #[.int .i64 0, .int .i64 0, .int .i64 0]) w := by kernel_rfl
end Go.Proofs.Ytgoijpbkgkjfeaa
