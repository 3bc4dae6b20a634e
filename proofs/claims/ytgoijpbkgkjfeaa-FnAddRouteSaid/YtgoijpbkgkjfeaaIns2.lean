/-
  slices.Insert of one route.
-/
import Derived.Test.YtgoijpbkgkjfeaaIns1
import Derived.Lib.Overlaps
import Derived.Lib.AppendZerosOnto
import Derived.Shelf.RegionOpenPlain
namespace Go.Proofs.Ytgoijpbkgkjfeaa
open Go Go.RowKit

/-- The rows with one more at i. -/
def insP (R : Nat → List Value) (i : Nat) (row : List Value) : Nat → List Value := fun j => if j < i then R j else if j = i then row else R (j - 1)
theorem insP_end {R : Nat → List Value} {n : Nat} {row : List Value} {j : Nat} (hj : j < n + 1) : glue R n (fun _ => row) j = insP R n row j := by
  unfold glue insP
  by_cases h : j < n
  · simp [h]
  · obtain rfl : j = n := by omega
    simp
section
variable {P : Program}
theorem run_append_zeros {w : World} {t tn ty e : TypeId} {m n i k c bytes g : Nat} {z : Value} {R : Nat → List Value} (ht : P.underlying t = some (.slice e)) (htn : P.underlying tn = some (.int .i64)) (hinfo : (P.info? e).map (fun i => (i.zero, i.size, i.bytes)) = some (some z, m, bytes)) (hzs : z.cells.size = m) (hsz : 0 < m) (hby : bytes ≤ 64)
    (hN : New w g e m n c R) (hm : ∀ i, (R i).length = m) (hi : i ≤ n) (hk : 0 < k) (hg : c < i + k) (hik : i + k ≤ 1000000) :
    ∃ C w2, (Builtin.append_ #[t, tn] ty #[.slice (some ⟨g, 0, none⟩) i c, .int .i64 k]).run P w = .ok (.slice (some ⟨w.heap.size, 0, none⟩) (i + k) C) w2 ∧ i + k ≤ C ∧ C ≤ maxLen ∧ w2.heap.size = w.heap.size + 1 ∧ New w2 w.heap.size e m i C R ∧ w.grownBy w2 none := by
  obtain ⟨iT, hiT, hzz⟩ := Option.map_eq_some_iff.1 hinfo
  simp only [Prod.mk.injEq] at hzz
  obtain ⟨hz, hsize, hbytes⟩ := hzz
  obtain ⟨cs, hgc, hs, hnc, hcs⟩ := hN
  have hl := rowsTo_length hm i
  have hmul : (i + k) * bytes ≤ (i + k) * 64 := Nat.mul_le_mul_left _ hby
  have hmulk : k * bytes ≤ k * 64 := Nat.mul_le_mul_left _ hby
  have hold : (Builtin.firstCells iT.size i (.slice (some ⟨g, 0, none⟩) i c)).run P w.drew = .ok (rowsTo R i).toArray w.drew := by
    have := run_loadCells_list (P := P) (w := w.drew) ⟨g, 0, none⟩ (rowsTo R i) (fun j v hj => by
      obtain ⟨i', j', hi', rfl, hv⟩ := rowsTo_get hm i j v hj
      rw [Go.WideShapes.add_plain, Nat.zero_add]
      exact ((blk (w := w) hgc).1 _).trans (hcs i' (by omega) j' v hv))
    rw [hl] at this
    simpa [Builtin.firstCells, hsize] using this
  have hrun := Lib.run_append_grow_zeros (P := P) w t tn ty e iT z .i64 .i64 ht htn hiT hz (some ⟨g, 0, none⟩) i c (rowsTo R i) hold k hk (by omega) hg (by omega) (by rw [hbytes]; omega) (growslice_fits (by omega) (by rw [hbytes]; omega))
  have hge := grownCap_ge w (i + k) c e
  have hgm : grownCap w (i + k) c e ≤ maxLen := grownCap_le_maxLen w (i + k) c e (by unfold maxLen; omega)
  generalize grownCap w (i + k) c e = C at *
  refine ⟨C, _, hrun, hge, hgm, by simp, ⟨_, heap_alloc_new w.drew _, ?_, by omega, fun i' hi' j v hv => ?_⟩, ⟨rfl, rfl, rfl, by simp, fun q hq _ => heap_alloc_old w.drew _ hq⟩⟩
  · simp only [Array.size_append, List.size_toArray, size_zeroCells, hzs, hl]
    rw [← Nat.add_mul, ← Nat.add_mul]
    congr 1
    omega
  · have hj : j < m := by rw [← hm i']; exact (List.getElem?_eq_some_iff.1 hv).1
    have h2 : (i' + 1) * m ≤ i * m := Nat.mul_le_mul_right m (by omega)
    rw [Nat.add_mul, Nat.one_mul] at h2
    rw [Array.append_assoc, Array.getElem?_append_left (by simp [hl]; omega), List.getElem?_toArray]
    exact rowsTo_at hm i i' j v hi' hv
theorem wpList_append_zeros {ops : Array Oper} {rest : List Oper} {o : Oper} {a : Act} {w : World} {Q : Exit → Act → World → Prop} (hgd : o.guard = none) (s x : Operand) (t tn : TypeId)
    (ho : o.op = .call { callee := .builtin .append, args := #[s, x], argTypes := #[t, tn] }) {e : TypeId} {m n i k c bytes g : Nat} {z : Value} {R : Nat → List Value} (ht : P.underlying t = some (.slice e)) (htn : P.underlying tn = some (.int .i64)) (hinfo : (P.info? e).map (fun i => (i.zero, i.size, i.bytes)) = some (some z, m, bytes)) (hzs : z.cells.size = m) (hsz : 0 < m) (hby : bytes ≤ 64)
    (hs : a.eval s = .slice (some ⟨g, 0, none⟩) i c) {vk : Int} (hx : a.eval x = .int .i64 vk) (hvk : vk = (k : Nat))
    (hN : New w g e m n c R) (hm : ∀ i, (R i).length = m) (hi : i ≤ n) (hk : 0 < k) (hg : c < i + k) (hik : i + k ≤ 1000000) (N : Nat) (hNN : i + k = N)
    (h : ∀ C w2, N ≤ C → C ≤ maxLen → w2.heap.size = w.heap.size + 1 → New w2 w.heap.size e m i C R → w.grownBy w2 none → wpList P ops Q rest (a.put o.dst (.slice (some ⟨w.heap.size, 0, none⟩) N C)) w2) : wpList P ops Q (o :: rest) a w := by
  subst hvk
  subst hNN
  refine wpList_plain hgd fun K hK => ?_
  obtain ⟨C, w2, hr, h1, h2, h3, h4, h5⟩ := run_append_zeros (P := P) (w := w) (ty := o.type) ht htn hinfo hzs hsz hby hN hm hi hk hg hik
  unfold Oper.wp execOp
  simp only [ho, resolve, invoke, builtin, Sem.run_bind, Sem.run_pure, Result.andThen_ok, List.map_toArray, List.map_cons, List.map_nil, hs, hx, hr]
  exact hK _ _ (h C w2 h1 h2 h3 h4 h5)
end
theorem New.src {w : World} {g : Nat} {t : TypeId} {m n c : Nat} {R : Nat → List Value} (h : New w g t m n c R) (k q : Nat) (hq : k + q ≤ n) : ∀ i, i < q → ∀ j v, (R (k + i))[j]? = some v → w.cell? ((⟨g, k * m, none⟩ : Addr).add (i * m + j)) = some v := fun i hi j v hv => by
  rw [Go.WideShapes.add_plain, ← Nat.add_assoc, ← Nat.add_mul]
  obtain ⟨cs, h1, h2, h3, h4⟩ := h
  exact ((blk h1).1 _).trans (h4 (k + i) (by omega) j v hv)
/-- One row more, whatever it holds. -/
theorem New.wider {w : World} {g : Nat} {t : TypeId} {m n c : Nat} {R : Nat → List Value} (h : New w g t m n c R) (hn : n + 1 ≤ c) : ∃ r, r.length = m ∧ New w g t m (n + 1) c (fun j => if j < n then R j else r) := by
  obtain ⟨cs, h1, h2, h3, h4⟩ := h
  have hle : (n + 1) * m ≤ c * m := Nat.mul_le_mul_right m hn
  rw [Nat.add_mul, Nat.one_mul] at hle
  refine ⟨(cs.toList.drop (n * m)).take m, by simp; omega, cs, h1, h2, hn, fun i hi j v hv => ?_⟩
  by_cases h : i < n
  · simp only [if_pos h] at hv
    exact h4 i h j v hv
  · obtain rfl : i = n := by omega
    simp only [if_neg h] at hv
    rw [List.getElem?_take] at hv
    split at hv
    · rw [List.getElem?_drop, Array.getElem?_toList] at hv
      exact hv
    · cases hv
theorem row_one (x y z : Int) : ∀ i : Nat, ∀ u ∈ (fun _ : Nat => ([.int .i64 x, .int .i64 y, .int .i64 z] : List Value)) i, u.oneCell' = true := by
  intro i u hu
  simp only [List.mem_cons, List.not_mem_nil, or_false] at hu
  rcases hu with rfl | rfl | rfl <;> rfl
theorem seg_shift {R : Nat → List Value} {row : List Value} {i n j : Nat} (hi : i ≤ n) (hj : j < n + 1) : seg (seg R (i + 1) (n - i) fun j => R (i + j)) i 1 (fun _ => row) j = insP R i row j := by
  simp only [seg, insP]
  repeat' split
  all_goals first | rfl | omega | (congr 1; omega)
theorem seg_grow {R : Nat → List Value} {row : List Value} {i n j : Nat} (hi : i ≤ n) (hj : j < n + 1) : seg (seg R i 1 (fun _ => row)) (i + 1) (n - i) (fun j => R (i + j)) j = insP R i row j := by
  simp only [seg, insP]
  repeat' split
  all_goals first | rfl | omega | (congr 1; omega)
set_option maxHeartbeats 8000000 in
theorem insertRoute_any {w : World} {B n cc i vb : Nat} {A : Option Addr} {R : Nat → List Value} {x y z : Int} (H : Acc w B 27 3 (.slice A n cc) n R) (h1 : ∀ i, ∀ u ∈ R i, u.oneCell' = true) (hi : i ≤ n) (hv : w.heap[vb]? = some (.cells #[.int .i64 x, .int .i64 y, .int .i64 z] 27 (0, 0)))
    (hne : ∀ g, A = some ⟨g, 0, none⟩ → vb ≠ g) (hB : B ≤ w.heap.size) (hn : n ≤ 1000) :
    Calls Try.prog 28 #[.slice A n cc, .int .i64 i, .slice (some ⟨vb, 0, none⟩) 1 1] w fun e w' => ∃ A' c', e = .returned (.slice A' (n + 1) c') ∧ Own w' B 27 3 A' (n + 1) c' (insP R i [.int .i64 x, .int .i64 y, .int .i64 z]) ∧ Below B w w' := by
  have hvl := heap_lt hv
  have hvR : Rws w w.heap.size 3 (some ⟨vb, 0, none⟩) 1 1 (fun _ => [.int .i64 x, .int .i64 y, .int .i64 z]) := by
    refine ⟨⟨Nat.le_refl _, by unfold maxLen; omega⟩, fun _ => ⟨vb, 0, rfl, hvl, fun i hi j v hj => ?_⟩⟩
    obtain rfl : i = 0 := by omega
    rw [(blk hv).1, Nat.zero_mul, Nat.zero_add, ← hj]
    simp
  obtain ⟨hcm, hnc, hOx⟩ := (show Own w B 27 3 A n cc R by
    obtain ⟨A', c', he, hO⟩ := H.own
    cases he
    exact hO)
  unfold maxLen at hcm
  have hm := H.2
  by_cases hend : i = n
  · subst hend
    have HH := Lib.hid H
    have HV := Lib.hid hvR
    clear H hvR hOx hv
    go_enter Try.func28, Try.ntmps28
    go_wp2_with (at_builtin; refine wpList_pushAll rfl (.tmp 23) (.tmp 24) 23 rfl 27 _ 3 24 Try.underlying23 info_route (by decide) (by decide) (by decide) rfl HH.out rfl HV.out (fun _ => rfl) (row_one x y z) (by omega) (by omega) hB ?_; intro v' w3 hA hb3 hg3)
    all_goals (obtain ⟨A', c', rfl, hO⟩ := hA.own; go_ret; exact ⟨A', c', rfl, hO.congr fun j hj => insP_end hj, hb3⟩)
  · have hlt : i < n := by omega
    obtain ⟨g, rfl, hgB, hN⟩ := hOx.resolve_left (by omega)
    have hne2 := hne g rfl
    have hgl := hN.lt
    have hci : ¬ cc = i := by omega
    have hz2 : ¬ ((i : Int) = (n : Int)) := by omega
    have hq1 : Nat.min 1 (n + 1 - i) = 1 := by simp only [Nat.min_def]; split <;> omega
    have hvs : ∀ (W : World), (W.heap[vb]? = w.heap[vb]?) → ∀ i, i < 1 → ∀ j v, ((fun _ : Nat => ([.int .i64 x, .int .i64 y, .int .i64 z] : List Value)) i)[j]? = some v → W.cell? ((⟨vb, 0, none⟩ : Addr).add (i * 3 + j)) = some v := fun W hW i hi j v hj => by
      obtain rfl : i = 0 := by omega
      rw [Go.WideShapes.add_plain, (blk (hW.trans hv)).1, Nat.zero_mul, Nat.zero_add, Nat.zero_add, ← hj]
      simp
    by_cases hroom : n + 1 ≤ cc
    · have hsa : w.shape? vb = some (27, 3) := by simp [World.shape?, hv]
      obtain ⟨cs, hcs1, hcs2, hcs3⟩ := hN
      have hsb : w.shape? g = some (27, cs.size) := by simp [World.shape?, hcs1]
      have hfa : w.frozen? ⟨vb, 0, none⟩ = false := (blk hv).2 0
      have hfe : w.frozen? ⟨vb, 3, none⟩ = false := (blk hv).2 3
      have hsz : ∀ w, (Go.sizeOf 27).run Try.prog w = .ok 3 w := fun w => by kernel_rfl
      have hov : ∀ lb cb, (callFunc 42 #[.slice (some ⟨vb, 0, none⟩) 1 1, .slice (some ⟨g, (i + 1) * 3, none⟩) lb cb]).run Try.prog w = .ok (.value (.bool false)) w := fun lb cb => by
        rw [run_callFunc_extern Try.func42 (by kernel_rfl) (by kernel_rfl) (by kernel_rfl) (e := Extern.SlicesOverlaps.overlaps #[23, 23] #[4]) (by kernel_rfl),
          Lib.run_overlaps_apart w 23 4 27 Try.underlying23 3 hsz ⟨vb, 0, none⟩ ⟨g, (i + 1) * 3, none⟩ 1 1 lb cb hne2 27 27 3 cs.size hsa hsb (by omega) hfa hfe]
        rfl
      have hN : New w g 27 3 n cc R := ⟨cs, hcs1, hcs2, hcs3⟩
      have HN := Lib.hid hN
      have HV := Lib.hid hvs
      have HM := Lib.hid hm
      have H1 := Lib.hid h1
      have HB := Lib.hid hv
      have hb2 : ¬ (cc = i + 1) := by omega
      have mixed : Try.prog.follows .mixedOrders = true := by kernel_rfl
      have hw1 : IntKind.i64.wrap ((i : Int) + 1) = (i : Int) + 1 := by rw [IntKind.wrap_i64]; omega
      have hb1 : (0 : Int) ≤ (i : Int) + 1 := by omega
      have htn : ((i : Int) + 1).toNat = i + 1 := by omega
      have hb3 : (i : Int) ≤ (n : Int) + 1 := by omega
      have hb4 : (i : Int) + 1 ≤ (n : Int) + 1 := by omega
      have hb5 : (i : Int) ≤ (n : Int) := by omega
      have hq2 : Nat.min (n + 1 - i) (n + 1 - (i + 1)) = n - i := by simp only [Nat.min_def]; split <;> omega
      clear hN hvs hv h1 hm H hvR hOx hcs1 hcs2 hcs3 hsa hsb hfa hfe hne hsz
      go_enter Try.func28, Try.ntmps28
      go_wp2_with (simp only [hov])
      go_region_law_o (refine step_copy_rows rfl (.tmp 73) (.tmp 76) 23 23 rfl (n + 1) (i + 1) (n - i) (n + 1 - (i + 1)) (cc - (i + 1)) (n + 1 - i) (cc - i) ⟨g, i * 3, none⟩ (R2 := fun j => R (i + j)) Try.underlying23 (by kernel_rfl) (HN.out.keep rfl) (by simp [Act.eval, Act.put]) (by simp [Act.eval, Act.put]) hq2 (by omega) (by omega) hroom (.inr (by omega)) HM.out (fun j => HM.out (i + j)) (HN.out.src i (n - i) (by omega)) (fun j => H1.out (i + j)) ?_; intro w2 hN2 hg2 hs2)
      go_wp2_with (refine wpList_copy_rows rfl (.tmp 80) (.tmp 81) 23 23 rfl (n + 1) i 1 (n + 1 - i) (cc - i) 1 1 ⟨vb, 0, none⟩ (R2 := fun _ => [.int .i64 x, .int .i64 y, .int .i64 z]) Try.underlying23 (by kernel_rfl) hN2 rfl rfl hq1 (by omega) (by omega) hroom (.inl (Nat.le_refl _)) (seg_len HM.out (fun j => HM.out (i + j)) _ _) (fun _ => rfl) (HV.out _ (hg2.block vb hvl (by simp; omega))) (row_one x y z) ?_; intro w3 hN3 hg3 hs3)
      have hB3 : Below B w w3 := (below_grown (show w.grownBy w2 (some g) from ⟨hg2.os, hg2.tape, hg2.output, hg2.size, hg2.block⟩) hB hgB).trans (below_grown hg3 (by have := hg2.size; simp at this; omega) hgB)
      go_ret
      exact ⟨some ⟨g, 0, none⟩, cc, rfl, (Own.of_new hN3 (by unfold maxLen; omega) hgB).congr fun j hj => seg_shift (by omega) hj, hB3⟩
    · have HN := Lib.hid hN
      have HV := Lib.hid hvs
      have HM := Lib.hid hm
      have H1 := Lib.hid h1
      have HB := Lib.hid hv
      obtain rfl : cc = n := by omega
      have hkk : (cc : Int) + 1 - (i : Int) = ((cc + 1 - i : Nat) : Int) := by omega
      clear hN hvs hv h1 hm H hvR hOx hne
      go_enter Try.func28, Try.ntmps28
      have mixed : Try.prog.follows .mixedOrders = true := by kernel_rfl
      have hw1 : IntKind.i64.wrap ((i : Int) + 1) = (i : Int) + 1 := by rw [IntKind.wrap_i64]; omega
      have hb1 : (0 : Int) ≤ (i : Int) + 1 := by omega
      have htn : ((i : Int) + 1).toNat = i + 1 := by omega
      have hb3 : (i : Int) ≤ (cc : Int) + 1 := by omega
      have hb4 : (i : Int) + 1 ≤ (cc : Int) + 1 := by omega
      have hb5 : (i : Int) ≤ (cc : Int) := by omega
      have hq2 : Nat.min (cc - i) (cc + 1 - (i + 1)) = cc - i := by simp only [Nat.min_def]; split <;> omega
      go_wp2_with (first
        | (at_builtin; refine wpList_append_zeros rfl (.tmp 34) (.tmp 39) 23 3 rfl Try.underlying23 Try.underlying3 info_route (by decide) (by decide) (by decide) rfl rfl (by first | rfl | exact hkk) HN.out HM.out (show i ≤ cc by omega) (k := cc + 1 - i) (by omega) (by omega) (by omega) (cc + 1) (by omega) ?_; intro C w2 hC1 hC2 hs2 hN2 hg2; have hCm := hC2; unfold maxLen at hCm; have hCi : ¬ (C = i) := (by omega); have hCi1 : ¬ (C = i + 1) := (by omega))
        | (refine wpList_copy_rows rfl (.tmp 43) (.tmp 44) 23 23 rfl (i + 1) i 1 (cc + 1 - i) (C - i) 1 1 ⟨vb, 0, none⟩ (R2 := fun _ => [.int .i64 x, .int .i64 y, .int .i64 z]) Try.underlying23 (by kernel_rfl) hN2 rfl rfl hq1 (Nat.le_refl _) (by omega) (by omega) (.inr (Nat.le_refl _)) HM.out (fun _ => rfl) (HV.out _ (hg2.block vb hvl (by simp))) (row_one x y z) ?_; intro w3 hN3 hg3 hs3))
      have hgl3 : g ≠ w.heap.size := by omega
      have hN3g := HN.out.keep ((hg3.block g (by omega) (by simp; omega)).trans (hg2.block g hgl (by simp)))
      go_region_law_o (refine step_copy_rows rfl (.tmp 50) (.tmp 53) 23 23 rfl (cc + 1) (i + 1) (cc - i) (cc + 1 - (i + 1)) (C - (i + 1)) (cc - i) (cc - i) ⟨g, i * 3, none⟩ (R2 := fun j => R (i + j)) Try.underlying23 (by kernel_rfl) (hN3.keep rfl) (by simp [Act.eval, Act.put]) (by simp [Act.eval, Act.put]) hq2 (Nat.le_refl _) (by omega) (by omega) (.inr (by omega)) (seg_len HM.out (fun _ => rfl) _ _) (fun j => HM.out (i + j)) ((hN3g.keep rfl).src i (cc - i) (by omega)) (fun j => H1.out (i + j)) ?_; intro w4 hN4 hg4 hs4)
      have hB2 : Below B w w2 := ⟨hg2.os, hg2.tape, hg2.output, hg2.size, fun k hk => hg2.block k (by omega) (by simp)⟩
      have hB3 : Below B w w4 := (hB2.trans (below_grown hg3 (by omega) hB)).trans (below_grown (show w3.grownBy w4 (some w.heap.size) from ⟨hg4.os, hg4.tape, hg4.output, hg4.size, hg4.block⟩) (by omega) hB)
      go_wp2_with fail
      go_ret
      exact ⟨some ⟨w.heap.size, 0, none⟩, C, rfl, (Own.of_new hN4 hC2 hB).congr fun j hj => seg_grow (by omega) hj, hB3⟩
end Go.Proofs.Ytgoijpbkgkjfeaa
