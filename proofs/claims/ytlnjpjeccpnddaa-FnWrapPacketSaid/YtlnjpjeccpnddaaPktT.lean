/-
  Packets as the laws copy and compare them.
-/
import Derived.Test.YtlnjpjeccpnddaaBytT
namespace Go.Proofs.Ytlnjpjeccpnddaa
open Go.RowKit

/-- A new Packet whose slice lies in a block of its own. -/
def kbPacket (B : Nat) (x0 x1 x2 x3 : Int) (n : Nat) (R : Nat → List Value) : KB :=
  ⟨fun v w => ∃ g, v = .agg #[.int .i64 x0, .int .i64 x1, .int .i64 x2, .int .i64 x3, .slice (some ⟨g, 0, none⟩) n n] ∧ B ≤ g ∧ New w g 5 1 n n R, fun _ _ _ ⟨g, h1, h2, h3⟩ hb => ⟨g, h1, h2, h3.below hb h3.lt⟩⟩
def MadePacket (w : World) (x0 x1 x2 x3 : Int) (n : Nat) (R : Nat → List Value) (e : Ending) (w' : World) : Prop :=
  ∃ g, e = .returned (.agg #[.int .i64 x0, .int .i64 x1, .int .i64 x2, .int .i64 x3, .slice (some ⟨g, 0, none⟩) n n]) ∧ w.heap.size ≤ g ∧ New w' g 5 1 n n R ∧ Below w.heap.size w w'
set_option maxHeartbeats 2000000 in
theorem toPacket_any {w : World} {B : Nat} {A : Option Addr} {n c : Nat} {c0 : Nat → Nat} (x0 x1 x2 x3 : Int) (h : Rws w B 1 A n c (byteR c0)) (hB : B ≤ w.heap.size) (hn : n ≤ 1048576) :
    Calls Try.prog 13 #[.agg #[.int .i64 x0, .int .i64 x1, .int .i64 x2, .int .i64 x3, .slice A n c]] w (MadePacket w x0 x1 x2 x3 n (byteR c0)) := by
  have HH := Lib.hid h
  clear h
  go_enter Try.func13, Try.ntmps13
  go_wp2_with fail
  refine (toByteS_any (HH.out.below ((show Below w.heap.size w _ by (repeat (first | exact Below.refl _ _ | assumption | refine Below.al ?_ _ | refine Below.dr ?_ | (refine Below.st ?_ (by simp <;> omega) _) | (refine Below.tr ?_ (by assumption))))).mono hB)) (by simp <;> omega) hn).mono ?_
  rintro e w1 ⟨g, rfl, hg, hN, hb⟩
  have hB1 : Below w.heap.size w w1 := Below.tr (by (repeat (first | exact Below.refl _ _ | assumption | refine Below.al ?_ _ | refine Below.dr ?_ | (refine Below.st ?_ (by simp <;> omega) _) | (refine Below.tr ?_ (by assumption))))) hb
  have hR := (hb.block (w.heap.size + 1) (by simp <;> omega)).trans ((heap_alloc_old _ _ (by simp <;> omega)).trans (heap_new1 w _ _))
  have hO := (hb.block (w.heap.size + 1 + 1) (by simp <;> omega)).trans (heap_new2 w _ _ _)
  have hgl := hN.lt
  simp at hg
  clear hb
  go_wp2_with (refine wpList_store_at rfl 22 (.tmp 19) (.tmp 18) rfl (.slice (some ⟨g, 0, none⟩) n n) #[.int .i64 x0, .int .i64 x1, .int .i64 x2, .int .i64 x3, .slice (some ⟨g, 0, none⟩) n n] hO rfl rfl (by kernel_rfl) rfl rfl (by simp) rfl ?_)
  intro w2 hh2 hg2 hs2
  obtain ⟨k2, f2⟩ := blk hh2
  have hR2 := heap_far hR hg2 (by omega)
  have hN2 := hN.keep (hg2.block g hgl (by simp <;> omega))
  have hB2 := Below.of_grown hB1 hg2 (by omega)
  have hz2 := heap_lt hh2
  clear hR hO hh2 hN hB1
  go_wp2_with (refine wpList_store_var rfl 24 (.tmp 2) (.tmp 20) rfl #[.int .i64 x0, .int .i64 x1, .int .i64 x2, .int .i64 x3, .slice (some ⟨g, 0, none⟩) n n] hR2 rfl rfl (by kernel_rfl) rfl rfl ?_)
  intro w9 hh9 hg9 hs9
  obtain ⟨k9, f9⟩ := blk hh9
  have hN9 := hN2.keep (hg9.block g (by omega) (by simp <;> omega))
  go_wp2
  refine bodyPost_ret (v := .agg #[.int .i64 x0, .int .i64 x1, .int .i64 x2, .int .i64 x3, .slice (some ⟨g, 0, none⟩) n n]) (by simp [results, Try.results13, go_sem, k9]) rfl ⟨g, rfl, by omega, hN9, Below.of_grown hB2 hg9 (by omega)⟩
set_option maxHeartbeats 2000000 in
theorem eqPacket_same {w : World} {B : Nat} {A A' : Option Addr} {n c c' : Nat} {c0 : Nat → Nat} (x0 x1 x2 x3 : Int) (h : Rws w B 1 A n c (byteR c0)) (h' : Rws w B 1 A' n c' (byteR c0)) (hB : B ≤ w.heap.size) :
    Calls Try.prog 14 #[.agg #[.int .i64 x0, .int .i64 x1, .int .i64 x2, .int .i64 x3, .slice A n c], .agg #[.int .i64 x0, .int .i64 x1, .int .i64 x2, .int .i64 x3, .slice A' n c']] w fun e w' => e = .returned (.bool true) ∧ Below w.heap.size w w' := by
  have HH := Lib.hid h
  have HH' := Lib.hid h'
  clear h h'
  go_enter Try.func14, Try.ntmps14
  go_wp2_with (go_at_call 31; refine (eqByteS_same (HH.out.below ((show Below w.heap.size w _ by (repeat (first | exact Below.refl _ _ | assumption | refine Below.al ?_ _ | refine Below.dr ?_ | (refine Below.st ?_ (by simp <;> omega) _) | (refine Below.tr ?_ (by assumption))))).mono hB)) (HH'.out.below ((show Below w.heap.size w _ by (repeat (first | exact Below.refl _ _ | assumption | refine Below.al ?_ _ | refine Below.dr ?_ | (refine Below.st ?_ (by simp <;> omega) _) | (refine Below.tr ?_ (by assumption))))).mono hB)) (by simp <;> omega)).mono ?_; rintro e w1 ⟨rfl, hb⟩)
  go_ret
  exact ⟨rfl, by (repeat (first | exact Below.refl _ _ | assumption | refine Below.al ?_ _ | refine Below.dr ?_ | (refine Below.st ?_ (by simp <;> omega) _) | (refine Below.tr ?_ (by assumption))))⟩
set_option maxHeartbeats 1000000 in
theorem szPacket_any {A : Option Addr} {n c : Nat} (x0 x1 x2 x3 l : Int) (hn : n ≤ c) (hc : c ≤ maxLen) (h0 : 0 ≤ l) (h1 : l ≤ 1048576) (w : World) :
    Calls Try.prog 12 #[.agg #[.int .i64 x0, .int .i64 x1, .int .i64 x2, .int .i64 x3, .slice A n c], .int .i64 l] w fun e w' => e = .returned (.int .i64 (szI n l)) ∧ Below w.heap.size w w' := by
  by_cases h : (n : Int) ≤ l
  · have hsz : szI n l = l - n := if_pos h
    go_enter Try.func12, Try.ntmps12
    go_wp2_with (go_at_call 29; refine (szByteS_any l hn hc h0 h1 _).mono ?_; rintro e w1 ⟨rfl, rfl⟩)
    go_ret
    exact ⟨by rw [hsz] <;> rfl, by (repeat (first | exact Below.refl _ _ | assumption | refine Below.al ?_ _ | refine Below.dr ?_ | (refine Below.st ?_ (by simp <;> omega) _) | (refine Below.tr ?_ (by assumption))))⟩
  · have hsz : szI n l = -1 := if_neg h
    go_enter Try.func12, Try.ntmps12
    go_wp2_with (go_at_call 29; refine (szByteS_any l hn hc h0 h1 _).mono ?_; rintro e w1 ⟨rfl, rfl⟩)
    go_ret
    exact ⟨by rw [hsz] <;> rfl, by (repeat (first | exact Below.refl _ _ | assumption | refine Below.al ?_ _ | refine Below.dr ?_ | (refine Below.st ?_ (by simp <;> omega) _) | (refine Below.tr ?_ (by assumption))))⟩

end Go.Proofs.Ytlnjpjeccpnddaa
