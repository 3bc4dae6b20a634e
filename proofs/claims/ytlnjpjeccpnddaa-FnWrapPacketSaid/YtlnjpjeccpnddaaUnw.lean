/-
  UnwrapPacket on a wrapped packet.
-/
import Derived.Test.YtlnjpjeccpnddaaGet2
namespace Go.Proofs.Ytlnjpjeccpnddaa
open Go Go.RowKit

set_option maxHeartbeats 8000000 in
theorem implUnwrap_yes {w : World} {B : Nat} {A : Option Addr} {n c : Nat} {z : Nat → Nat} (f t k l : Nat) (x y lf : Int) (h : Rws w B 1 A (n + 6) c (byteR (pB n k l f t z))) (hz : ∀ i, z i ≤ 255) (hB : B ≤ w.heap.size) (hv : pktB f t k l n = true) (hv2 : pktB x y 3 lf (n + 6) = true) :
    Calls Try.prog 20 #[.agg #[.int .i64 x, .int .i64 y, .int .i64 3, .int .i64 lf, .slice A (n + 6) c], .int .i64 y] w (HopV w f t k l n true z) := by
  have HH := Lib.hid (h.below ((show Below w.heap.size w ((w.alloc (.cells #[.int .i64 x, .int .i64 y, .int .i64 3, .int .i64 lf, .slice A (n + 6) c] 24)).alloc (.cells #[.int .i64 0, .int .i64 0, .int .i64 0, .int .i64 0, .slice none 0 0] 24)) by (repeat (first | exact Below.refl _ _ | assumption | refine Below.al ?_ _ | refine Below.dr ?_ | (refine Below.st ?_ (by simp <;> omega) _) | (refine Below.tr ?_ (by assumption))))).mono hB))
  have HV := Lib.hid hv
  have HV2 := Lib.hid hv2
  have Hz := Lib.hid hz
  clear h hv hv2 hz
  go_enter Try.func20, Try.ntmps20
  go_wp2_with fail
  refine (implPacketValid_any x y 3 lf _).mono ?_
  rintro e w1 ⟨rfl, hb1⟩
  rw [HV2.out]
  have hq1 := (hb1.block w.heap.size (by simp; omega)).trans ((heap_alloc_old (w.alloc (.cells #[.int .i64 x, .int .i64 y, .int .i64 3, .int .i64 lf, .slice A (n + 6) c] 24)) (.cells #[.int .i64 0, .int .i64 0, .int .i64 0, .int .i64 0, .slice none 0 0] 24) (by simp)).trans (heap_alloc_new w (.cells #[.int .i64 x, .int .i64 y, .int .i64 3, .int .i64 lf, .slice A (n + 6) c] 24)))
  have hz1 := (hb1.block (w.heap.size + 1) (by simp)).trans (heap_new1 w (.cells #[.int .i64 x, .int .i64 y, .int .i64 3, .int .i64 lf, .slice A (n + 6) c] 24) (.cells #[.int .i64 0, .int .i64 0, .int .i64 0, .int .i64 0, .slice none 0 0] 24))
  have hB1 : Below w.heap.size w w1 := Below.tr (by (repeat (first | exact Below.refl _ _ | assumption | refine Below.al ?_ _ | refine Below.dr ?_ | (refine Below.st ?_ (by simp <;> omega) _) | (refine Below.tr ?_ (by assumption))))) hb1
  have hs1 := hB1.size
  have H1 := Lib.hid (HH.out.below (hb1.mono (by simp; omega)))
  have hl1 := heap_lt hq1
  have hl1z := heap_lt hz1
  obtain ⟨k1, f1⟩ := blk hq1
  clear hb1 HH
  go_wp2_with fail
  refine (implGetPacket_yes f t k l H1.out Hz.out (by omega) HV.out).mono ?_
  rintro e w2 ⟨A2, c2, rfl, hO2, hb2⟩
  have hz2 := (hb2.block (w.heap.size + 1) hl1z).trans hz1
  have hB2 := Below.tr hB1 hb2
  have hl2z := heap_lt hz2
  go_wp2_with (refine wpList_store_var rfl 24 (.tmp 4) (.tmp 24) rfl #[.int .i64 (f : Nat), .int .i64 (t : Nat), .int .i64 (k : Nat), .int .i64 (l : Nat), .slice A2 n c2] hz2 rfl rfl (by kernel_rfl) rfl rfl ?_; intro w9 hh9 hg9 hs9; obtain ⟨k9, f9⟩ := blk hh9)
  have hO9 := own_farP hO2 hg9 hz2
  refine bodyPost_ret (v := .tuple #[.agg #[.int .i64 (f : Nat), .int .i64 (t : Nat), .int .i64 (k : Nat), .int .i64 (l : Nat), .slice A2 n c2], .bool true]) (by simp [results, Try.results20, go_sem, k9]) rfl ⟨A2, c2, rfl, hO9.more hs1, Below.of_grown hB2 hg9 (by omega)⟩
set_option maxHeartbeats 8000000 in
theorem implUnwrap_no {w : World} {A : Option Addr} {n c : Nat} (x y lf to : Int) (hne : y ≠ to) (hv2 : pktB x y 3 lf (n + 6) = true) :
    Calls Try.prog 20 #[.agg #[.int .i64 x, .int .i64 y, .int .i64 3, .int .i64 lf, .slice A (n + 6) c], .int .i64 to] w fun e w' => e = .returned (.tuple #[.agg #[.int .i64 0, .int .i64 0, .int .i64 0, .int .i64 0, .slice none 0 0], .bool false]) ∧ Below w.heap.size w w' := by
  have HV2 := Lib.hid hv2
  have hn1 : (y != to) = true := by simpa using hne
  have hn2 : (y == to) = false := by simpa using hne
  clear hv2
  go_enter Try.func20, Try.ntmps20
  go_wp2_with fail
  refine (implPacketValid_any x y 3 lf _).mono ?_
  rintro e w1 ⟨rfl, hb1⟩
  rw [HV2.out]
  have hq1 := (hb1.block w.heap.size (by simp; omega)).trans ((heap_alloc_old (w.alloc (.cells #[.int .i64 x, .int .i64 y, .int .i64 3, .int .i64 lf, .slice A (n + 6) c] 24)) (.cells #[.int .i64 0, .int .i64 0, .int .i64 0, .int .i64 0, .slice none 0 0] 24) (by simp)).trans (heap_alloc_new w (.cells #[.int .i64 x, .int .i64 y, .int .i64 3, .int .i64 lf, .slice A (n + 6) c] 24)))
  have hz1 := (hb1.block (w.heap.size + 1) (by simp)).trans (heap_new1 w (.cells #[.int .i64 x, .int .i64 y, .int .i64 3, .int .i64 lf, .slice A (n + 6) c] 24) (.cells #[.int .i64 0, .int .i64 0, .int .i64 0, .int .i64 0, .slice none 0 0] 24))
  have hB1 : Below w.heap.size w w1 := Below.tr (by (repeat (first | exact Below.refl _ _ | assumption | refine Below.al ?_ _ | refine Below.dr ?_ | (refine Below.st ?_ (by simp <;> omega) _) | (refine Below.tr ?_ (by assumption))))) hb1
  have hl1 := heap_lt hq1
  have hl1z := heap_lt hz1
  obtain ⟨k1, f1⟩ := blk hq1
  clear hb1
  go_wp2_with (refine wpList_store_var rfl 24 (.tmp 4) (.tmp 20) rfl #[.int .i64 0, .int .i64 0, .int .i64 0, .int .i64 0, .slice none 0 0] hz1 rfl rfl (by kernel_rfl) rfl rfl ?_; intro w9 hh9 hg9 hs9; obtain ⟨k9, f9⟩ := blk hh9)
  refine bodyPost_ret (v := .tuple #[.agg #[.int .i64 0, .int .i64 0, .int .i64 0, .int .i64 0, .slice none 0 0], .bool false]) (by simp [results, Try.results20, go_sem, k9]) rfl ⟨rfl, Below.of_grown hB1 hg9 (by omega)⟩
end Go.Proofs.Ytlnjpjeccpnddaa
