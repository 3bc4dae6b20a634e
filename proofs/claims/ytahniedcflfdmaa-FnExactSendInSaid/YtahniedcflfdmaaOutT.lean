/-
  Outlets as the laws copy and compare them.
-/
import Derived.Test.YtahniedcflfdmaaSloT
namespace Go.Proofs.Ytahniedcflfdmaa
open Go.RowKit

/-- A new Outlet whose slice lies in a block of its own. -/
def kbOutlet (B : Nat) (x0 x1 : Int) (n : Nat) (R : Nat → List Value) : KB :=
  ⟨fun v w => ∃ g, v = .agg #[.int .i64 x0, .int .i64 x1, .slice (some ⟨g, 0, none⟩) n n] ∧ B ≤ g ∧ New w g 39 5 n n R, fun _ _ _ ⟨g, h1, h2, h3⟩ hb => ⟨g, h1, h2, h3.below hb h3.lt⟩⟩
def MadeOutlet (w : World) (x0 x1 : Int) (n : Nat) (R : Nat → List Value) (e : Ending) (w' : World) : Prop :=
  ∃ g, e = .returned (.agg #[.int .i64 x0, .int .i64 x1, .slice (some ⟨g, 0, none⟩) n n]) ∧ w.heap.size ≤ g ∧ New w' g 39 5 n n R ∧ Below w.heap.size w w'
set_option maxHeartbeats 2000000 in
theorem toOutlet_any {w : World} {B : Nat} {A : Option Addr} {n c : Nat} {c0 : Nat → Int} {c1 : Nat → Int} {c2 : Nat → Int} {c3 : Nat → Int} {c4 : Nat → Int} (x0 x1 : Int) (h : Rws w B 5 A n c (flowR c0 c1 c2 c3 c4)) (hB : B ≤ w.heap.size) (hn : n ≤ 1048576) :
    Calls Try.prog 10 #[.agg #[.int .i64 x0, .int .i64 x1, .slice A n c]] w (MadeOutlet w x0 x1 n (flowR c0 c1 c2 c3 c4)) := by
  have HH := Lib.hid h
  clear h
  go_enter Try.func10, Try.ntmps10
  go_wp2_with fail
  refine (toFlowS_any (HH.out.below ((show Below w.heap.size w _ by (repeat (first | exact Below.refl _ _ | assumption | refine Below.al ?_ _ | refine Below.dr ?_ | (refine Below.st ?_ (by simp <;> omega) _) | (refine Below.tr ?_ (by assumption))))).mono hB)) (by simp <;> omega) hn).mono ?_
  rintro e w1 ⟨g, rfl, hg, hN, hb⟩
  have hB1 : Below w.heap.size w w1 := Below.tr (by (repeat (first | exact Below.refl _ _ | assumption | refine Below.al ?_ _ | refine Below.dr ?_ | (refine Below.st ?_ (by simp <;> omega) _) | (refine Below.tr ?_ (by assumption))))) hb
  have hR := (hb.block (w.heap.size + 1) (by simp <;> omega)).trans ((heap_alloc_old _ _ (by simp <;> omega)).trans (heap_new1 w _ _))
  have hO := (hb.block (w.heap.size + 1 + 1) (by simp <;> omega)).trans (heap_new2 w _ _ _)
  have hgl := hN.lt
  simp at hg
  clear hb
  go_wp2_with (refine wpList_store_at rfl 27 (.tmp 13) (.tmp 12) rfl (.slice (some ⟨g, 0, none⟩) n n) #[.int .i64 x0, .int .i64 x1, .slice (some ⟨g, 0, none⟩) n n] hO rfl rfl (by kernel_rfl) rfl rfl (by simp) rfl ?_)
  intro w2 hh2 hg2 hs2
  obtain ⟨k2, f2⟩ := blk hh2
  have hR2 := heap_far hR hg2 (by omega)
  have hN2 := hN.keep (hg2.block g hgl (by simp <;> omega))
  have hB2 := Below.of_grown hB1 hg2 (by omega)
  have hz2 := heap_lt hh2
  clear hR hO hh2 hN hB1
  go_wp2_with (refine wpList_store_var rfl 29 (.tmp 2) (.tmp 14) rfl #[.int .i64 x0, .int .i64 x1, .slice (some ⟨g, 0, none⟩) n n] hR2 rfl rfl (by kernel_rfl) rfl rfl ?_)
  intro w9 hh9 hg9 hs9
  obtain ⟨k9, f9⟩ := blk hh9
  have hN9 := hN2.keep (hg9.block g (by omega) (by simp <;> omega))
  go_wp2
  refine bodyPost_ret (v := .agg #[.int .i64 x0, .int .i64 x1, .slice (some ⟨g, 0, none⟩) n n]) (by simp [results, Try.results10, go_sem, k9]) rfl ⟨g, rfl, by omega, hN9, Below.of_grown hB2 hg9 (by omega)⟩
set_option maxHeartbeats 2000000 in
theorem eqOutlet_same {w : World} {B : Nat} {A A' : Option Addr} {n c c' : Nat} {c0 : Nat → Int} {c1 : Nat → Int} {c2 : Nat → Int} {c3 : Nat → Int} {c4 : Nat → Int} (x0 x1 : Int) (h : Rws w B 5 A n c (flowR c0 c1 c2 c3 c4)) (h' : Rws w B 5 A' n c' (flowR c0 c1 c2 c3 c4)) (hB : B ≤ w.heap.size) :
    Calls Try.prog 12 #[.agg #[.int .i64 x0, .int .i64 x1, .slice A n c], .agg #[.int .i64 x0, .int .i64 x1, .slice A' n c']] w fun e w' => e = .returned (.bool true) ∧ Below w.heap.size w w' := by
  have HH := Lib.hid h
  have HH' := Lib.hid h'
  clear h h'
  go_enter Try.func12, Try.ntmps12
  go_wp2_with (go_at_call 31; refine (eqFlowS_same (HH.out.below ((show Below w.heap.size w _ by (repeat (first | exact Below.refl _ _ | assumption | refine Below.al ?_ _ | refine Below.dr ?_ | (refine Below.st ?_ (by simp <;> omega) _) | (refine Below.tr ?_ (by assumption))))).mono hB)) (HH'.out.below ((show Below w.heap.size w _ by (repeat (first | exact Below.refl _ _ | assumption | refine Below.al ?_ _ | refine Below.dr ?_ | (refine Below.st ?_ (by simp <;> omega) _) | (refine Below.tr ?_ (by assumption))))).mono hB)) (by simp <;> omega)).mono ?_; rintro e w1 ⟨rfl, hb⟩)
  go_ret
  exact ⟨rfl, by (repeat (first | exact Below.refl _ _ | assumption | refine Below.al ?_ _ | refine Below.dr ?_ | (refine Below.st ?_ (by simp <;> omega) _) | (refine Below.tr ?_ (by assumption))))⟩
set_option maxHeartbeats 1000000 in
theorem szOutlet_any {A : Option Addr} {n c : Nat} (x0 x1 l : Int) (hn : n ≤ c) (hc : c ≤ maxLen) (h0 : 0 ≤ l) (h1 : l ≤ 1048576) (w : World) :
    Calls Try.prog 8 #[.agg #[.int .i64 x0, .int .i64 x1, .slice A n c], .int .i64 l] w fun e w' => e = .returned (.int .i64 (szI n l)) ∧ Below w.heap.size w w' := by
  by_cases h : (n : Int) ≤ l
  · have hsz : szI n l = l - n := if_pos h
    go_enter Try.func8, Try.ntmps8
    go_wp2_with (go_at_call 25; refine (szFlowS_any l hn hc h0 h1 _).mono ?_; rintro e w1 ⟨rfl, rfl⟩)
    go_ret
    exact ⟨by rw [hsz] <;> rfl, by (repeat (first | exact Below.refl _ _ | assumption | refine Below.al ?_ _ | refine Below.dr ?_ | (refine Below.st ?_ (by simp <;> omega) _) | (refine Below.tr ?_ (by assumption))))⟩
  · have hsz : szI n l = -1 := if_neg h
    go_enter Try.func8, Try.ntmps8
    go_wp2_with (go_at_call 25; refine (szFlowS_any l hn hc h0 h1 _).mono ?_; rintro e w1 ⟨rfl, rfl⟩)
    go_ret
    exact ⟨by rw [hsz] <;> rfl, by (repeat (first | exact Below.refl _ _ | assumption | refine Below.al ?_ _ | refine Below.dr ?_ | (refine Below.st ?_ (by simp <;> omega) _) | (refine Below.tr ?_ (by assumption))))⟩

end Go.Proofs.Ytahniedcflfdmaa
