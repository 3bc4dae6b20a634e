/-
  Desks as the laws copy, compare and measure them.
-/
import Derived.Test.YtbnfllpimnnmfaaDkT
import Derived.Test.YtbnfllpimnnmfaaTabT
namespace Go.Proofs.Ytbnfllpimnnmfaa
open Go Go.RowKit

theorem below_bt (w : World) (o : Obj) : Below w.heap.size w (w.alloc o) := (Below.refl _ _).alloc (Nat.le_refl _) o
/-- A new desk, its slices in blocks of their own. -/
def MadeDesk (w : World) (x0 x1 now : Int) (m n : Nat) (R' R : Nat → List Value) (e : Ending) (w' : World) : Prop :=
  ∃ g' g, e = .returned (.agg #[.slice (some ⟨g', 0, none⟩) m m, .int .i64 x0, .int .i64 x1, .slice (some ⟨g, 0, none⟩) n n, .int .i64 now]) ∧ (w.heap.size ≤ g' ∧ w.heap.size ≤ g) ∧ New w' g' 78 3 m m R' ∧ New w' g 81 7 n n R ∧ Below w.heap.size w w'
def kbDesk (B : Nat) (x0 x1 now : Int) (m n : Nat) (R' R : Nat → List Value) : KB :=
  ⟨fun v w => ∃ g' g, v = .agg #[.slice (some ⟨g', 0, none⟩) m m, .int .i64 x0, .int .i64 x1, .slice (some ⟨g, 0, none⟩) n n, .int .i64 now] ∧ (B ≤ g' ∧ B ≤ g) ∧ New w g' 78 3 m m R' ∧ New w g 81 7 n n R, fun _ _ _ ⟨g', g, h1, h2, h3, h4⟩ hb => ⟨g', g, h1, h2, h3.below hb h3.lt, h4.below hb h4.lt⟩⟩
set_option maxHeartbeats 4000000 in
theorem toDesk_any (x0 x1 now : Int) {w : World} {B m c' : Nat} {A' A : Option Addr} {n c : Nat} {a b d f0 f1 f2 f3 f4 to la : Nat → Int} (H' : Rws w B 3 A' m c' (hostR a b d)) (H : Rws w B 7 A n c (entryR f0 f1 f2 f3 f4 to la)) (hB : B ≤ w.heap.size) (hm : m ≤ 1048576) (hn : n ≤ 1048576) :
    Calls Try.prog 24 #[.agg #[.slice A' m c', .int .i64 x0, .int .i64 x1, .slice A n c, .int .i64 now]] w (MadeDesk w x0 x1 now m n (hostR a b d) (entryR f0 f1 f2 f3 f4 to la)) := by
  have HH' := Lib.hid H'
  have HH := Lib.hid H
  clear H H'
  go_enter Try.func24, Try.ntmps24
  go_wp2_with fail
  refine (toHostS_any (HH'.out.below ((show Below w.heap.size w _ by (repeat (first | exact Below.refl _ _ | assumption | refine Below.al ?_ _ | refine Below.dr ?_ | (refine Below.st ?_ (by simp <;> omega) _) | (refine Below.tr ?_ (by assumption))))).mono hB)) (by simp <;> omega) hm).mono ?_
  rintro e w1 ⟨g', rfl, hg', hN', hb⟩
  have hB1 : Below w.heap.size w w1 := Below.tr (by (repeat (first | exact Below.refl _ _ | assumption | refine Below.al ?_ _ | refine Below.dr ?_ | (refine Below.st ?_ (by simp <;> omega) _) | (refine Below.tr ?_ (by assumption))))) hb
  have hZ := (hb.block w.heap.size (by simp <;> omega)).trans ((heap_alloc_old _ _ (by simp <;> omega)).trans ((heap_alloc_old _ _ (by simp)).trans (heap_alloc_new w _)))
  have hR := (hb.block (w.heap.size + 1) (by simp <;> omega)).trans ((heap_alloc_old _ _ (by simp <;> omega)).trans (heap_new1 w _ _))
  have hO := (hb.block (w.heap.size + 1 + 1) (by simp <;> omega)).trans (heap_new2 w _ _ _)
  have hgl := hN'.lt
  simp at hg'
  clear hb
  go_wp2_with (refine wpList_store_at rfl 32 (.tmp 7) (.tmp 6) rfl (.slice (some ⟨g', 0, none⟩) m m) #[.slice (some ⟨g', 0, none⟩) m m, .int .i64 0, .int .i64 0, .slice none 0 0, .int .i64 0] hO rfl rfl (by kernel_rfl) rfl rfl (by simp) rfl ?_)
  intro w2 hh2 hg2 hs2
  have hZ2 := heap_far hZ hg2 (by omega)
  have hR2 := heap_far hR hg2 (by omega)
  have hN2 := hN'.keep (hg2.block g' hgl (by simp <;> omega))
  have hB2 := Below.of_grown hB1 hg2 (by omega)
  obtain ⟨cz2, fz2⟩ := blk hZ2
  have hz2 := heap_lt hh2
  have hgl2 := hN2.lt
  clear hR hO hN' hB1 hZ
  go_wp2_with fail
  refine (toTable_any x0 x1 (HH.out.below (hB2.mono hB)) (by have := hB2.size; omega) hn).mono ?_
  rintro e w3 ⟨g, rfl, hg, hN, hb⟩
  have hB3 := Below.tr hB2 hb
  have hZ3 := (hb.block w.heap.size (by omega)).trans hZ2
  have hR3 := (hb.block (w.heap.size + 1) (by omega)).trans hR2
  have hO3 := (hb.block (w.heap.size + 1 + 1) (by omega)).trans hh2
  have hN3 := hN2.below hb hgl2
  have hgl3 := hN.lt
  have hs3 := hb.size
  obtain ⟨cz3, fz3⟩ := blk hZ3
  have hz3 := heap_lt hO3
  clear hb hB2 hZ2 hR2 hh2 hN2 cz2 fz2
  go_wp2_with (refine wpList_store_seg rfl 35 (.tmp 11) (.tmp 10) rfl (i := 1) (.agg #[.int .i64 x0, .int .i64 x1, .slice (some ⟨g, 0, none⟩) n n]) #[.slice (some ⟨g', 0, none⟩) m m, .int .i64 x0, .int .i64 x1, .slice (some ⟨g, 0, none⟩) n n, .int .i64 0] hO3 rfl rfl (by kernel_rfl) rfl rfl rfl ?_)
  intro w4 hh4 hg4 hs4
  have hZ4 := heap_far hZ3 hg4 (by omega)
  have hR4 := heap_far hR3 hg4 (by omega)
  have hN4 := hN3.keep (hg4.block g' (by omega) (by simp <;> omega))
  have hM4 := hN.keep (hg4.block g hgl3 (by simp <;> omega))
  have hB4 := Below.of_grown hB3 hg4 (by omega)
  obtain ⟨cz4, fz4⟩ := blk hZ4
  have hz4 := heap_lt hh4
  clear hR3 hO3 hN3 hN hB3 hZ3 cz3 fz3
  go_wp2_with (refine wpList_store_at rfl 3 (.tmp 14) (.tmp 13) rfl (.int .i64 now) #[.slice (some ⟨g', 0, none⟩) m m, .int .i64 x0, .int .i64 x1, .slice (some ⟨g, 0, none⟩) n n, .int .i64 now] hh4 rfl rfl (by kernel_rfl) rfl rfl (by simp) rfl ?_)
  intro w5 hh5 hg5 hs5
  have hR5 := heap_far hR4 hg5 (by omega)
  have hN5 := hN4.keep (hg5.block g' (by omega) (by simp <;> omega))
  have hM5 := hM4.keep (hg5.block g (by omega) (by simp <;> omega))
  have hB5 := Below.of_grown hB4 hg5 (by omega)
  obtain ⟨k5, f5⟩ := blk hh5
  have hz5 := heap_lt hh5
  clear hR4 hh4 hN4 hM4 hB4 hZ4 cz4 fz4
  go_wp2_with (refine wpList_store_var rfl 37 (.tmp 2) (.tmp 15) rfl #[.slice (some ⟨g', 0, none⟩) m m, .int .i64 x0, .int .i64 x1, .slice (some ⟨g, 0, none⟩) n n, .int .i64 now] hR5 rfl rfl (by kernel_rfl) rfl rfl ?_)
  intro w9 hh9 hg9 hs9
  obtain ⟨k9, f9⟩ := blk hh9
  have hN9 := hN5.keep (hg9.block g' (by omega) (by simp <;> omega))
  have hM9 := hM5.keep (hg9.block g (by omega) (by simp <;> omega))
  go_wp2
  refine bodyPost_ret (v := .agg #[.slice (some ⟨g', 0, none⟩) m m, .int .i64 x0, .int .i64 x1, .slice (some ⟨g, 0, none⟩) n n, .int .i64 now]) (by simp [results, Try.results24, go_sem, k9]) rfl ⟨g', g, rfl, ⟨by omega, by omega⟩, hN9, hM9, Below.of_grown hB5 hg9 (by omega)⟩
set_option maxHeartbeats 4000000 in
theorem eqDesk_same (x0 x1 now : Int) {w : World} {B m c' d' e' : Nat} {A' A D' D : Option Addr} {n c : Nat} {a b d f0 f1 f2 f3 f4 to la : Nat → Int} (H' : Rws w B 3 A' m c' (hostR a b d)) (H : Rws w B 7 A n c (entryR f0 f1 f2 f3 f4 to la))
    (K' : Rws w B 3 D' m d' (hostR a b d)) (K : Rws w B 7 D n e' (entryR f0 f1 f2 f3 f4 to la)) (hB : B ≤ w.heap.size) :
    Calls Try.prog 25 #[.agg #[.slice A' m c', .int .i64 x0, .int .i64 x1, .slice A n c, .int .i64 now], .agg #[.slice D' m d', .int .i64 x0, .int .i64 x1, .slice D n e', .int .i64 now]] w fun e w' => e = .returned (.bool true) ∧ Below w.heap.size w w' := by
  have HH' := Lib.hid H'
  have HH := Lib.hid H
  have KK' := Lib.hid K'
  have KK := Lib.hid K
  clear H H' K K'
  go_enter Try.func25, Try.ntmps25
  go_wp2_with fail
  refine (eqHostS_same (HH'.out.below ((show Below w.heap.size w _ by (repeat (first | exact Below.refl _ _ | assumption | refine Below.al ?_ _ | refine Below.dr ?_ | (refine Below.st ?_ (by simp <;> omega) _) | (refine Below.tr ?_ (by assumption))))).mono hB)) (KK'.out.below ((show Below w.heap.size w _ by (repeat (first | exact Below.refl _ _ | assumption | refine Below.al ?_ _ | refine Below.dr ?_ | (refine Below.st ?_ (by simp <;> omega) _) | (refine Below.tr ?_ (by assumption))))).mono hB)) (by simp <;> omega)).mono ?_
  rintro e w1 ⟨rfl, hb1⟩
  have hB1 : Below w.heap.size w w1 := Below.tr (by (repeat (first | exact Below.refl _ _ | assumption | refine Below.al ?_ _ | refine Below.dr ?_ | (refine Below.st ?_ (by simp <;> omega) _) | (refine Below.tr ?_ (by assumption))))) hb1
  have k1 : ∀ i, w1.cell? ⟨w.heap.size, i, none⟩ = #[Value.slice A' m c', .int .i64 x0, .int .i64 x1, .slice A n c, .int .i64 now][i]? := fun i => (keepc hb1 w.heap.size (by simp <;> omega) i).trans (by simp)
  have k2 : ∀ i, w1.cell? ⟨w.heap.size + 1, i, none⟩ = #[Value.slice D' m d', .int .i64 x0, .int .i64 x1, .slice D n e', .int .i64 now][i]? := fun i => (keepc hb1 (w.heap.size + 1) (by simp <;> omega) i).trans (by simp)
  have hs1 := hb1.size
  simp at hs1
  go_wp2_with fail
  refine (eqTable_same x0 x1 (HH.out.below (hB1.mono hB)) (KK.out.below (hB1.mono hB)) (by omega)).mono ?_
  rintro e w2 ⟨rfl, hb2⟩
  have k3 := fun i => (keepc hb2 w.heap.size (by omega) i).trans (k1 i)
  have k4 := fun i => (keepc hb2 (w.heap.size + 1) (by omega) i).trans (k2 i)
  clear k1 k2
  go_wp2
  go_ret
  exact ⟨rfl, Below.tr hB1 hb2⟩
/-- What is left behind two slices. -/
def szII (m n : Nat) (l : Int) : Int := if (m : Int) ≤ l then szI n (l - m) else -1
set_option maxHeartbeats 4000000 in
theorem szDesk_any {A' A : Option Addr} {m c' n c : Nat} (x0 x1 now l : Int) (hm : m ≤ c') (hc' : c' ≤ maxLen) (hn : n ≤ c) (hc : c ≤ maxLen) (h0 : 0 ≤ l) (h1 : l ≤ 1048576) (w : World) :
    Calls Try.prog 23 #[.agg #[.slice A' m c', .int .i64 x0, .int .i64 x1, .slice A n c, .int .i64 now], .int .i64 l] w fun e w' => e = .returned (.int .i64 (szII m n l)) ∧ Below w.heap.size w w' := by
  by_cases h : (m : Int) ≤ l
  · have hs1 : szI m l = l - m := if_pos h
    have hE := Lib.hid (show szII m n l = szI n (l - m) from if_pos h)
    by_cases h2 : (n : Int) ≤ l - m
    · have hs2 : szI n (l - m) = l - m - n := if_pos h2
      go_enter Try.func23, Try.ntmps23
      go_wp2_with (first | (go_at_call 44; refine (szHostS_any l hm hc' h0 h1 _).mono ?_; rintro e w1 ⟨rfl, rfl⟩; rw [hs1]) | (go_at_call 45; refine (szTable_any x0 x1 (l - m) hn hc (by omega) (by omega) _).mono ?_; rintro e w2 ⟨rfl, hb2⟩; rw [hs2]))
      go_ret
      exact ⟨by rw [hE.out, hs2] <;> rfl, Below.tr (by (repeat (first | exact Below.refl _ _ | assumption | refine Below.al ?_ _ | refine Below.dr ?_ | (refine Below.st ?_ (by simp <;> omega) _) | (refine Below.tr ?_ (by assumption))))) hb2⟩
    · have hs2 : szI n (l - m) = -1 := if_neg h2
      go_enter Try.func23, Try.ntmps23
      go_wp2_with (first | (go_at_call 44; refine (szHostS_any l hm hc' h0 h1 _).mono ?_; rintro e w1 ⟨rfl, rfl⟩; rw [hs1]) | (go_at_call 45; refine (szTable_any x0 x1 (l - m) hn hc (by omega) (by omega) _).mono ?_; rintro e w2 ⟨rfl, hb2⟩; rw [hs2]))
      go_ret
      exact ⟨by rw [hE.out, hs2] <;> rfl, Below.tr (by (repeat (first | exact Below.refl _ _ | assumption | refine Below.al ?_ _ | refine Below.dr ?_ | (refine Below.st ?_ (by simp <;> omega) _) | (refine Below.tr ?_ (by assumption))))) hb2⟩
  · have hs1 : szI m l = -1 := if_neg h
    have hE := Lib.hid (show szII m n l = -1 from if_neg h)
    go_enter Try.func23, Try.ntmps23
    go_wp2_with (go_at_call 44; refine (szHostS_any l hm hc' h0 h1 _).mono ?_; rintro e w1 ⟨rfl, rfl⟩; rw [hs1])
    go_ret
    exact ⟨by rw [hE.out] <;> rfl, by (repeat (first | exact Below.refl _ _ | assumption | refine Below.al ?_ _ | refine Below.dr ?_ | (refine Below.st ?_ (by simp <;> omega) _) | (refine Below.tr ?_ (by assumption))))⟩
end Go.Proofs.Ytbnfllpimnnmfaa
