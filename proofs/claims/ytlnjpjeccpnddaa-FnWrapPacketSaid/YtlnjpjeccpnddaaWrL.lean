/-
  The law 'wrapped packets can be unwrapped': its walk.
-/
import Derived.Test.YtlnjpjeccpnddaaWrD
import Derived.Test.YtlnjpjeccpnddaaUnw
namespace Go.Proofs.Ytlnjpjeccpnddaa
open Go Go.RowKit

theorem pkt_63 {x y : Int} {n : Nat} (h : pktB x y 3 64 n = true) : pktB x y 3 63 n = true := by
  simp only [pktB, Bool.and_eq_true] at h ⊢
  exact ⟨⟨⟨h.1.1.1, h.1.1.2⟩, inB_true.2 (by omega)⟩, h.2⟩
theorem hop_64 {x y : Int} {n : Nat} (h : pktB x y 3 64 n = true) : hopB x y 3 64 n = true := by simp [hopB, h]
set_option maxRecDepth 20000 in
set_option maxHeartbeats 16000000 in
theorem wrapPacket_walk {w : World} {A : Option Addr} {n c : Nat} (h : Bytes w w.heap.size A n c) :
    Calls Try.prog 5 #[.slice A n c] w (Truly w) := by
  by_cases hn : 1048576 < n
  · go_enter Try.func5, Try.ntmps5
    go_wp2
    go_ret
    exact ⟨rfl, Below.refl _ _⟩
  go_enter Try.func5, Try.ntmps5
  go_wp2_with fail
  refine (drawWrapPacket_any h).mono ?_
  rintro e w1 ⟨f, t, k, l, x, y, b, n1, cc, z0, rfl, hn1, ⟨hy1, hy2⟩, hO1, hB1⟩
  have hZ := Lib.hid (cap_le z0)
  generalize cap z0 = z at hO1 hZ
  have op_1 := hO1
  have hs1 := hB1.size
  have hcc := hO1.1
  have hnc := hO1.2.1
  unfold maxLen at hcc
  clear hO1 hn h
  have hI := fun (w : World) (B : Nat) (A : Option Addr) (c : Nat) (h : Rws w B 1 A n1 c (byteR z)) (hB : B ≤ w.heap.size) => implWrapPacket_any f t k l x y h hZ.out hB
  have hS := fun (w : World) (B : Nat) (A : Option Addr) (c : Nat) (h : Rws w B 1 A n1 c (byteR z)) (hB : B ≤ w.heap.size) => specWrapPacket_any f t k l x y h hZ.out hB (by omega)
  cases hw : wrpB f t k l n1 x y
  case false =>
    have HI := Lib.hid (fun w B A c h hB => (by have h0 := hI w B A c h hB; rw [hw] at h0; exact h0 : Calls Try.prog 18 #[.agg #[.int .i64 f, .int .i64 t, .int .i64 k, .int .i64 l, .slice A n1 c], .int .i64 x, .int .i64 y] w (HopV w 0 0 0 0 0 false (putZ f t k l n1 z))))
    have HS := Lib.hid (fun w B A c h hB => (by have h0 := hS w B A c h hB; rw [hw] at h0; exact h0 : Calls Try.prog 19 #[.agg #[.int .i64 f, .int .i64 t, .int .i64 k, .int .i64 l, .slice A n1 c], .int .i64 x, .int .i64 y] w (HopV w 0 0 0 0 0 false (putZ f t k l n1 z))))
    clear hI hS hw
    have jP : ∀ i, (w1.alloc (.cells #[.int .i64 f, .int .i64 t, .int .i64 k, .int .i64 l, .slice (some ⟨b, 0, none⟩) n1 cc] 24)).cell? ⟨w1.heap.size, i, none⟩ = #[Value.int .i64 f, .int .i64 t, .int .i64 k, .int .i64 l, .slice (some ⟨b, 0, none⟩) n1 cc][i]? := (blk (heap_alloc_new w1 (.cells #[.int .i64 f, .int .i64 t, .int .i64 k, .int .i64 l, .slice (some ⟨b, 0, none⟩) n1 cc] 24))).1
    go_wp2_with fail
    clear jP
    obtain ⟨w2, e2⟩ : ∃ W : World, W = w1.alloc (.cells #[.int .i64 f, .int .i64 t, .int .i64 k, .int .i64 l, .slice (some ⟨b, 0, none⟩) n1 cc] 24) := ⟨_, rfl⟩
    have hb2 : Below w1.heap.size w1 w2 := by rw [e2]; exact below_new' _ _
    have zs2 : w1.heap.size < w2.heap.size := by rw [e2]; simp
    rw [← e2]
    have hB2 := Below.tr hB1 hb2
    have hs2 := hb2.size
    have op_2 := op_1.next hb2
    clear hb2  op_1
    have qP_2 : w2.heap[w1.heap.size]? = some (.cells #[.int .i64 f, .int .i64 t, .int .i64 k, .int .i64 l, .slice (some ⟨b, 0, none⟩) n1 cc] 24 (0, 0)) := by rw [e2]; exact heap_alloc_new w1 _
    clear e2
    refine (HI.out _ _ _ _ op_2.rows (Nat.le_refl _)).mono ?_
    rintro e w3 ⟨Ax, cx, rfl, hOx, hb3⟩
    have hB3 := Below.tr hB2 hb3
    have hs3 := hb3.size
    have qP_3 := (hb3.block (w1.heap.size) (by omega)).trans qP_2
    have op_3 := op_2.next hb3
    clear hb3 qP_2 op_2
    have ox_3 := hOx
    clear hOx
    have jP := fun i => (keepc (below_new' w3 (.cells #[.int .i64 0, .int .i64 0, .int .i64 0, .int .i64 0, .slice Ax 0 cx] 24)) (w1.heap.size) (by omega) i).trans ((blk qP_3).1 i)
    have jX : ∀ i, (w3.alloc (.cells #[.int .i64 0, .int .i64 0, .int .i64 0, .int .i64 0, .slice Ax 0 cx] 24)).cell? ⟨w3.heap.size, i, none⟩ = #[Value.int .i64 0, .int .i64 0, .int .i64 0, .int .i64 0, .slice Ax 0 cx][i]? := (blk (heap_alloc_new w3 (.cells #[.int .i64 0, .int .i64 0, .int .i64 0, .int .i64 0, .slice Ax 0 cx] 24))).1
    go_wp2_with fail
    clear jP jX
    obtain ⟨w4, e4⟩ : ∃ W : World, W = w3.alloc (.cells #[.int .i64 0, .int .i64 0, .int .i64 0, .int .i64 0, .slice Ax 0 cx] 24) := ⟨_, rfl⟩
    have hb4 : Below w3.heap.size w3 w4 := by rw [e4]; exact below_new' _ _
    have zs4 : w3.heap.size < w4.heap.size := by rw [e4]; simp
    rw [← e4]
    have hB4 := Below.tr hB3 hb4
    have hs4 := hb4.size
    have qP_4 := (hb4.block (w1.heap.size) (by omega)).trans qP_3
    have op_4 := op_3.next hb4
    have ox_4 := ox_3.next hb4
    clear hb4 qP_3 op_3 ox_3
    have qX_4 : w4.heap[w3.heap.size]? = some (.cells #[.int .i64 0, .int .i64 0, .int .i64 0, .int .i64 0, .slice Ax 0 cx] 24 (0, 0)) := by rw [e4]; exact heap_alloc_new w3 _
    clear e4
    refine (HS.out _ _ _ _ op_4.rows (Nat.le_refl _)).mono ?_
    rintro e w5 ⟨Ay, cy, rfl, hOy, hb5⟩
    have hB5 := Below.tr hB4 hb5
    have hs5 := hb5.size
    have qP_5 := (hb5.block (w1.heap.size) (by omega)).trans qP_4
    have qX_5 := (hb5.block (w3.heap.size) (by omega)).trans qX_4
    have op_5 := op_4.next hb5
    have ox_5 := ox_4.next hb5
    clear hb5 qP_4 qX_4 op_4 ox_4
    have oy_5 := hOy
    clear hOy
    have jP := fun i => (keepc (below_new' w5 (.cells #[.int .i64 0, .int .i64 0, .int .i64 0, .int .i64 0, .slice Ay 0 cy] 24)) (w1.heap.size) (by omega) i).trans ((blk qP_5).1 i)
    have jX := fun i => (keepc (below_new' w5 (.cells #[.int .i64 0, .int .i64 0, .int .i64 0, .int .i64 0, .slice Ay 0 cy] 24)) (w3.heap.size) (by omega) i).trans ((blk qX_5).1 i)
    have jY : ∀ i, (w5.alloc (.cells #[.int .i64 0, .int .i64 0, .int .i64 0, .int .i64 0, .slice Ay 0 cy] 24)).cell? ⟨w5.heap.size, i, none⟩ = #[Value.int .i64 0, .int .i64 0, .int .i64 0, .int .i64 0, .slice Ay 0 cy][i]? := (blk (heap_alloc_new w5 (.cells #[.int .i64 0, .int .i64 0, .int .i64 0, .int .i64 0, .slice Ay 0 cy] 24))).1
    go_wp2_with fail
    clear jP jX jY
    obtain ⟨w6, e6⟩ : ∃ W : World, W = w5.alloc (.cells #[.int .i64 0, .int .i64 0, .int .i64 0, .int .i64 0, .slice Ay 0 cy] 24) := ⟨_, rfl⟩
    have hb6 : Below w5.heap.size w5 w6 := by rw [e6]; exact below_new' _ _
    have zs6 : w5.heap.size < w6.heap.size := by rw [e6]; simp
    rw [← e6]
    have hB6 := Below.tr hB5 hb6
    have hs6 := hb6.size
    have qP_6 := (hb6.block (w1.heap.size) (by omega)).trans qP_5
    have qX_6 := (hb6.block (w3.heap.size) (by omega)).trans qX_5
    have op_6 := op_5.next hb6
    have ox_6 := ox_5.next hb6
    have oy_6 := oy_5.next hb6
    clear hb6 qP_5 qX_5 op_5 ox_5 oy_5
    have qY_6 : w6.heap[w5.heap.size]? = some (.cells #[.int .i64 0, .int .i64 0, .int .i64 0, .int .i64 0, .slice Ay 0 cy] 24 (0, 0)) := by rw [e6]; exact heap_alloc_new w5 _
    clear e6
    refine (samePacket_same 0 0 0 0 ox_6.rows oy_6.rows).mono ?_
    rintro e w7 ⟨rfl, hb7⟩
    have hB7 := Below.tr hB6 hb7
    have hs7 := hb7.size
    have qP_7 := (hb7.block (w1.heap.size) (by omega)).trans qP_6
    have qX_7 := (hb7.block (w3.heap.size) (by omega)).trans qX_6
    have qY_7 := (hb7.block (w5.heap.size) (by omega)).trans qY_6
    have op_7 := op_6.next hb7
    have ox_7 := ox_6.next hb7
    have oy_7 := oy_6.next hb7
    clear hb7 qP_6 qX_6 qY_6 op_6 ox_6 oy_6
    have jP := (blk qP_7).1
    have tP := heap_lt qP_7
    have jX := (blk qX_7).1
    have tX := heap_lt qX_7
    have jY := (blk qY_7).1
    have tY := heap_lt qY_7
    go_wp2_with (go_at_call 11; refine (alive_any _).mono ?_; rintro e wa ⟨rfl, hba⟩)
    go_ret
    exact ⟨rfl, Below.tr hB7 (by assumption)⟩
  case true =>
    obtain ⟨hv, hv2⟩ : pktB f t k l n1 = true ∧ pktB x y 3 64 (n1 + 6) = true := by simpa [wrpB] using hw
    obtain ⟨⟨hf0, hf1⟩, ⟨ht0, ht1⟩, ⟨hk0, hk1⟩, ⟨hl0, hl1⟩, hn8⟩ := pktB_bd hv
    obtain ⟨f, rfl⟩ := Int.eq_ofNat_of_zero_le hf0
    obtain ⟨t, rfl⟩ := Int.eq_ofNat_of_zero_le ht0
    obtain ⟨k, rfl⟩ := Int.eq_ofNat_of_zero_le (show 0 ≤ k by omega)
    obtain ⟨l, rfl⟩ := Int.eq_ofNat_of_zero_le hl0
    have HI := Lib.hid (fun w B A c h hB => (by have h0 := hI w B A c h hB; rw [hw] at h0; exact h0 : Calls Try.prog 18 #[.agg #[.int .i64 (f : Nat), .int .i64 (t : Nat), .int .i64 (k : Nat), .int .i64 (l : Nat), .slice A n1 c], .int .i64 x, .int .i64 y] w (HopV w x y 3 64 (n1 + 6) true (pB n1 k l f t z))))
    have HS := Lib.hid (fun w B A c h hB => (by have h0 := hS w B A c h hB; rw [hw] at h0; exact h0 : Calls Try.prog 19 #[.agg #[.int .i64 (f : Nat), .int .i64 (t : Nat), .int .i64 (k : Nat), .int .i64 (l : Nat), .slice A n1 c], .int .i64 x, .int .i64 y] w (HopV w x y 3 64 (n1 + 6) true (pB n1 k l f t z))))
    have HV := Lib.hid hv
    have HV2 := Lib.hid hv2
    have HV3 := Lib.hid (pkt_63 hv2)
    have HH := Lib.hid (fun (w : World) (B : Nat) (A : Option Addr) (c : Nat) (h : Rws w B 1 A (n1 + 6) c (byteR (pB n1 k l f t z))) (hB : B ≤ w.heap.size) => (by have h0 := implHopPacket_any x y 3 64 h hB (by omega); rw [hop_64 hv2] at h0; exact h0 : Calls Try.prog 7 #[.agg #[.int .i64 x, .int .i64 y, .int .i64 3, .int .i64 64, .slice A (n1 + 6) c]] w (HopV w x y 3 63 (n1 + 6) true (pB n1 k l f t z))))
    have hyy : y ≠ y + 1 := by omega
    clear hI hS hw hv hv2
    have jP : ∀ i, (w1.alloc (.cells #[.int .i64 (f : Nat), .int .i64 (t : Nat), .int .i64 (k : Nat), .int .i64 (l : Nat), .slice (some ⟨b, 0, none⟩) n1 cc] 24)).cell? ⟨w1.heap.size, i, none⟩ = #[Value.int .i64 (f : Nat), .int .i64 (t : Nat), .int .i64 (k : Nat), .int .i64 (l : Nat), .slice (some ⟨b, 0, none⟩) n1 cc][i]? := (blk (heap_alloc_new w1 (.cells #[.int .i64 (f : Nat), .int .i64 (t : Nat), .int .i64 (k : Nat), .int .i64 (l : Nat), .slice (some ⟨b, 0, none⟩) n1 cc] 24))).1
    go_wp2_with fail
    clear jP
    obtain ⟨w2, e2⟩ : ∃ W : World, W = w1.alloc (.cells #[.int .i64 (f : Nat), .int .i64 (t : Nat), .int .i64 (k : Nat), .int .i64 (l : Nat), .slice (some ⟨b, 0, none⟩) n1 cc] 24) := ⟨_, rfl⟩
    have hb2 : Below w1.heap.size w1 w2 := by rw [e2]; exact below_new' _ _
    have zs2 : w1.heap.size < w2.heap.size := by rw [e2]; simp
    rw [← e2]
    have hB2 := Below.tr hB1 hb2
    have hs2 := hb2.size
    have op_2 := op_1.next hb2
    clear hb2  op_1
    have qP_2 : w2.heap[w1.heap.size]? = some (.cells #[.int .i64 (f : Nat), .int .i64 (t : Nat), .int .i64 (k : Nat), .int .i64 (l : Nat), .slice (some ⟨b, 0, none⟩) n1 cc] 24 (0, 0)) := by rw [e2]; exact heap_alloc_new w1 _
    clear e2
    refine (HI.out _ _ _ _ op_2.rows (Nat.le_refl _)).mono ?_
    rintro e w3 ⟨Ax, cx, rfl, hOx, hb3⟩
    have hB3 := Below.tr hB2 hb3
    have hs3 := hb3.size
    have qP_3 := (hb3.block (w1.heap.size) (by omega)).trans qP_2
    have op_3 := op_2.next hb3
    clear hb3 qP_2 op_2
    have ox_3 := hOx
    clear hOx
    have jP := fun i => (keepc (below_new' w3 (.cells #[.int .i64 x, .int .i64 y, .int .i64 3, .int .i64 64, .slice Ax (n1 + 6) cx] 24)) (w1.heap.size) (by omega) i).trans ((blk qP_3).1 i)
    have jX : ∀ i, (w3.alloc (.cells #[.int .i64 x, .int .i64 y, .int .i64 3, .int .i64 64, .slice Ax (n1 + 6) cx] 24)).cell? ⟨w3.heap.size, i, none⟩ = #[Value.int .i64 x, .int .i64 y, .int .i64 3, .int .i64 64, .slice Ax (n1 + 6) cx][i]? := (blk (heap_alloc_new w3 (.cells #[.int .i64 x, .int .i64 y, .int .i64 3, .int .i64 64, .slice Ax (n1 + 6) cx] 24))).1
    go_wp2_with fail
    clear jP jX
    obtain ⟨w4, e4⟩ : ∃ W : World, W = w3.alloc (.cells #[.int .i64 x, .int .i64 y, .int .i64 3, .int .i64 64, .slice Ax (n1 + 6) cx] 24) := ⟨_, rfl⟩
    have hb4 : Below w3.heap.size w3 w4 := by rw [e4]; exact below_new' _ _
    have zs4 : w3.heap.size < w4.heap.size := by rw [e4]; simp
    rw [← e4]
    have hB4 := Below.tr hB3 hb4
    have hs4 := hb4.size
    have qP_4 := (hb4.block (w1.heap.size) (by omega)).trans qP_3
    have op_4 := op_3.next hb4
    have ox_4 := ox_3.next hb4
    clear hb4 qP_3 op_3 ox_3
    have qX_4 : w4.heap[w3.heap.size]? = some (.cells #[.int .i64 x, .int .i64 y, .int .i64 3, .int .i64 64, .slice Ax (n1 + 6) cx] 24 (0, 0)) := by rw [e4]; exact heap_alloc_new w3 _
    clear e4
    refine (HS.out _ _ _ _ op_4.rows (Nat.le_refl _)).mono ?_
    rintro e w5 ⟨Ay, cy, rfl, hOy, hb5⟩
    have hB5 := Below.tr hB4 hb5
    have hs5 := hb5.size
    have qP_5 := (hb5.block (w1.heap.size) (by omega)).trans qP_4
    have qX_5 := (hb5.block (w3.heap.size) (by omega)).trans qX_4
    have op_5 := op_4.next hb5
    have ox_5 := ox_4.next hb5
    clear hb5 qP_4 qX_4 op_4 ox_4
    have oy_5 := hOy
    clear hOy
    have jP := fun i => (keepc (below_new' w5 (.cells #[.int .i64 x, .int .i64 y, .int .i64 3, .int .i64 64, .slice Ay (n1 + 6) cy] 24)) (w1.heap.size) (by omega) i).trans ((blk qP_5).1 i)
    have jX := fun i => (keepc (below_new' w5 (.cells #[.int .i64 x, .int .i64 y, .int .i64 3, .int .i64 64, .slice Ay (n1 + 6) cy] 24)) (w3.heap.size) (by omega) i).trans ((blk qX_5).1 i)
    have jY : ∀ i, (w5.alloc (.cells #[.int .i64 x, .int .i64 y, .int .i64 3, .int .i64 64, .slice Ay (n1 + 6) cy] 24)).cell? ⟨w5.heap.size, i, none⟩ = #[Value.int .i64 x, .int .i64 y, .int .i64 3, .int .i64 64, .slice Ay (n1 + 6) cy][i]? := (blk (heap_alloc_new w5 (.cells #[.int .i64 x, .int .i64 y, .int .i64 3, .int .i64 64, .slice Ay (n1 + 6) cy] 24))).1
    go_wp2_with fail
    clear jP jX jY
    obtain ⟨w6, e6⟩ : ∃ W : World, W = w5.alloc (.cells #[.int .i64 x, .int .i64 y, .int .i64 3, .int .i64 64, .slice Ay (n1 + 6) cy] 24) := ⟨_, rfl⟩
    have hb6 : Below w5.heap.size w5 w6 := by rw [e6]; exact below_new' _ _
    have zs6 : w5.heap.size < w6.heap.size := by rw [e6]; simp
    rw [← e6]
    have hB6 := Below.tr hB5 hb6
    have hs6 := hb6.size
    have qP_6 := (hb6.block (w1.heap.size) (by omega)).trans qP_5
    have qX_6 := (hb6.block (w3.heap.size) (by omega)).trans qX_5
    have op_6 := op_5.next hb6
    have ox_6 := ox_5.next hb6
    have oy_6 := oy_5.next hb6
    clear hb6 qP_5 qX_5 op_5 ox_5 oy_5
    have qY_6 : w6.heap[w5.heap.size]? = some (.cells #[.int .i64 x, .int .i64 y, .int .i64 3, .int .i64 64, .slice Ay (n1 + 6) cy] 24 (0, 0)) := by rw [e6]; exact heap_alloc_new w5 _
    clear e6
    refine (samePacket_same x y 3 64 ox_6.rows oy_6.rows).mono ?_
    rintro e w7 ⟨rfl, hb7⟩
    have hB7 := Below.tr hB6 hb7
    have hs7 := hb7.size
    have qP_7 := (hb7.block (w1.heap.size) (by omega)).trans qP_6
    have qX_7 := (hb7.block (w3.heap.size) (by omega)).trans qX_6
    have qY_7 := (hb7.block (w5.heap.size) (by omega)).trans qY_6
    have op_7 := op_6.next hb7
    have ox_7 := ox_6.next hb7
    have oy_7 := oy_6.next hb7
    clear hb7 qP_6 qX_6 qY_6 op_6 ox_6 oy_6
    clear qY_7 oy_7
    have jP := (blk qP_7).1
    have tP := heap_lt qP_7
    have jX := (blk qX_7).1
    have tX := heap_lt qX_7
    go_wp2_with fail
    clear jP tP jX tX
    refine (implUnwrap_yes f t k l x y 64 ox_7.rows hZ.out (Nat.le_refl _) HV.out HV2.out).mono ?_
    rintro e w8 ⟨Az, cz, rfl, hOz, hb8⟩
    have hB8 := Below.tr hB7 hb8
    have hs8 := hb8.size
    have qP_8 := (hb8.block (w1.heap.size) (by omega)).trans qP_7
    have qX_8 := (hb8.block (w3.heap.size) (by omega)).trans qX_7
    have op_8 := op_7.next hb8
    have ox_8 := ox_7.next hb8
    clear hb8 qP_7 qX_7 op_7 ox_7
    have oz_8 := hOz
    clear hOz
    have jP := fun i => (keepc (below_new' w8 (.cells #[.int .i64 (f : Nat), .int .i64 (t : Nat), .int .i64 (k : Nat), .int .i64 (l : Nat), .slice Az n1 cz] 24)) (w1.heap.size) (by omega) i).trans ((blk qP_8).1 i)
    have jX := fun i => (keepc (below_new' w8 (.cells #[.int .i64 (f : Nat), .int .i64 (t : Nat), .int .i64 (k : Nat), .int .i64 (l : Nat), .slice Az n1 cz] 24)) (w3.heap.size) (by omega) i).trans ((blk qX_8).1 i)
    have jZ : ∀ i, (w8.alloc (.cells #[.int .i64 (f : Nat), .int .i64 (t : Nat), .int .i64 (k : Nat), .int .i64 (l : Nat), .slice Az n1 cz] 24)).cell? ⟨w8.heap.size, i, none⟩ = #[Value.int .i64 (f : Nat), .int .i64 (t : Nat), .int .i64 (k : Nat), .int .i64 (l : Nat), .slice Az n1 cz][i]? := (blk (heap_alloc_new w8 (.cells #[.int .i64 (f : Nat), .int .i64 (t : Nat), .int .i64 (k : Nat), .int .i64 (l : Nat), .slice Az n1 cz] 24))).1
    go_wp2_with fail
    clear jP jX jZ
    obtain ⟨w9, e9⟩ : ∃ W : World, W = w8.alloc (.cells #[.int .i64 (f : Nat), .int .i64 (t : Nat), .int .i64 (k : Nat), .int .i64 (l : Nat), .slice Az n1 cz] 24) := ⟨_, rfl⟩
    have hb9 : Below w8.heap.size w8 w9 := by rw [e9]; exact below_new' _ _
    have zs9 : w8.heap.size < w9.heap.size := by rw [e9]; simp
    rw [← e9]
    have hB9 := Below.tr hB8 hb9
    have hs9 := hb9.size
    have qP_9 := (hb9.block (w1.heap.size) (by omega)).trans qP_8
    have qX_9 := (hb9.block (w3.heap.size) (by omega)).trans qX_8
    have op_9 := op_8.next hb9
    have ox_9 := ox_8.next hb9
    have oz_9 := oz_8.next hb9
    clear hb9 qP_8 qX_8 op_8 ox_8 oz_8
    have qZ_9 : w9.heap[w8.heap.size]? = some (.cells #[.int .i64 (f : Nat), .int .i64 (t : Nat), .int .i64 (k : Nat), .int .i64 (l : Nat), .slice Az n1 cz] 24 (0, 0)) := by rw [e9]; exact heap_alloc_new w8 _
    clear e9
    refine (HH.out _ _ _ _ ox_9.rows (Nat.le_refl _)).mono ?_
    rintro e w10 ⟨Ah, ch, rfl, hOh, hb10⟩
    have hB10 := Below.tr hB9 hb10
    have hs10 := hb10.size
    have qP_10 := (hb10.block (w1.heap.size) (by omega)).trans qP_9
    have qX_10 := (hb10.block (w3.heap.size) (by omega)).trans qX_9
    have qZ_10 := (hb10.block (w8.heap.size) (by omega)).trans qZ_9
    have op_10 := op_9.next hb10
    have ox_10 := ox_9.next hb10
    have oz_10 := oz_9.next hb10
    clear hb10 qP_9 qX_9 qZ_9 op_9 ox_9 oz_9
    have oh_10 := hOh
    clear hOh
    have jP := fun i => (keepc (below_new' w10 (.cells #[.int .i64 x, .int .i64 y, .int .i64 3, .int .i64 63, .slice Ah (n1 + 6) ch] 24)) (w1.heap.size) (by omega) i).trans ((blk qP_10).1 i)
    have jX := fun i => (keepc (below_new' w10 (.cells #[.int .i64 x, .int .i64 y, .int .i64 3, .int .i64 63, .slice Ah (n1 + 6) ch] 24)) (w3.heap.size) (by omega) i).trans ((blk qX_10).1 i)
    have jZ := fun i => (keepc (below_new' w10 (.cells #[.int .i64 x, .int .i64 y, .int .i64 3, .int .i64 63, .slice Ah (n1 + 6) ch] 24)) (w8.heap.size) (by omega) i).trans ((blk qZ_10).1 i)
    have jH : ∀ i, (w10.alloc (.cells #[.int .i64 x, .int .i64 y, .int .i64 3, .int .i64 63, .slice Ah (n1 + 6) ch] 24)).cell? ⟨w10.heap.size, i, none⟩ = #[Value.int .i64 x, .int .i64 y, .int .i64 3, .int .i64 63, .slice Ah (n1 + 6) ch][i]? := (blk (heap_alloc_new w10 (.cells #[.int .i64 x, .int .i64 y, .int .i64 3, .int .i64 63, .slice Ah (n1 + 6) ch] 24))).1
    go_wp2_with fail
    clear jP jX jZ jH
    obtain ⟨w11, e11⟩ : ∃ W : World, W = w10.alloc (.cells #[.int .i64 x, .int .i64 y, .int .i64 3, .int .i64 63, .slice Ah (n1 + 6) ch] 24) := ⟨_, rfl⟩
    have hb11 : Below w10.heap.size w10 w11 := by rw [e11]; exact below_new' _ _
    have zs11 : w10.heap.size < w11.heap.size := by rw [e11]; simp
    rw [← e11]
    have hB11 := Below.tr hB10 hb11
    have hs11 := hb11.size
    have qP_11 := (hb11.block (w1.heap.size) (by omega)).trans qP_10
    have qX_11 := (hb11.block (w3.heap.size) (by omega)).trans qX_10
    have qZ_11 := (hb11.block (w8.heap.size) (by omega)).trans qZ_10
    have op_11 := op_10.next hb11
    have ox_11 := ox_10.next hb11
    have oz_11 := oz_10.next hb11
    have oh_11 := oh_10.next hb11
    clear hb11 qP_10 qX_10 qZ_10 op_10 ox_10 oz_10 oh_10
    have qH_11 : w11.heap[w10.heap.size]? = some (.cells #[.int .i64 x, .int .i64 y, .int .i64 3, .int .i64 63, .slice Ah (n1 + 6) ch] 24 (0, 0)) := by rw [e11]; exact heap_alloc_new w10 _
    clear e11
    refine (implUnwrap_yes f t k l x y 63 oh_11.rows hZ.out (Nat.le_refl _) HV.out HV3.out).mono ?_
    rintro e w12 ⟨Aw, cw, rfl, hOw, hb12⟩
    have hB12 := Below.tr hB11 hb12
    have hs12 := hb12.size
    have qP_12 := (hb12.block (w1.heap.size) (by omega)).trans qP_11
    have qX_12 := (hb12.block (w3.heap.size) (by omega)).trans qX_11
    have qZ_12 := (hb12.block (w8.heap.size) (by omega)).trans qZ_11
    have qH_12 := (hb12.block (w10.heap.size) (by omega)).trans qH_11
    have op_12 := op_11.next hb12
    have ox_12 := ox_11.next hb12
    have oz_12 := oz_11.next hb12
    have oh_12 := oh_11.next hb12
    clear hb12 qP_11 qX_11 qZ_11 qH_11 op_11 ox_11 oz_11 oh_11
    have ow_12 := hOw
    clear hOw
    clear qH_12 oh_12
    have jP := fun i => (keepc (below_new' w12 (.cells #[.int .i64 (f : Nat), .int .i64 (t : Nat), .int .i64 (k : Nat), .int .i64 (l : Nat), .slice Aw n1 cw] 24)) (w1.heap.size) (by omega) i).trans ((blk qP_12).1 i)
    have jX := fun i => (keepc (below_new' w12 (.cells #[.int .i64 (f : Nat), .int .i64 (t : Nat), .int .i64 (k : Nat), .int .i64 (l : Nat), .slice Aw n1 cw] 24)) (w3.heap.size) (by omega) i).trans ((blk qX_12).1 i)
    have jZ := fun i => (keepc (below_new' w12 (.cells #[.int .i64 (f : Nat), .int .i64 (t : Nat), .int .i64 (k : Nat), .int .i64 (l : Nat), .slice Aw n1 cw] 24)) (w8.heap.size) (by omega) i).trans ((blk qZ_12).1 i)
    have jW : ∀ i, (w12.alloc (.cells #[.int .i64 (f : Nat), .int .i64 (t : Nat), .int .i64 (k : Nat), .int .i64 (l : Nat), .slice Aw n1 cw] 24)).cell? ⟨w12.heap.size, i, none⟩ = #[Value.int .i64 (f : Nat), .int .i64 (t : Nat), .int .i64 (k : Nat), .int .i64 (l : Nat), .slice Aw n1 cw][i]? := (blk (heap_alloc_new w12 (.cells #[.int .i64 (f : Nat), .int .i64 (t : Nat), .int .i64 (k : Nat), .int .i64 (l : Nat), .slice Aw n1 cw] 24))).1
    go_wp2_with fail
    clear jP jX jZ jW
    obtain ⟨w13, e13⟩ : ∃ W : World, W = w12.alloc (.cells #[.int .i64 (f : Nat), .int .i64 (t : Nat), .int .i64 (k : Nat), .int .i64 (l : Nat), .slice Aw n1 cw] 24) := ⟨_, rfl⟩
    have hb13 : Below w12.heap.size w12 w13 := by rw [e13]; exact below_new' _ _
    have zs13 : w12.heap.size < w13.heap.size := by rw [e13]; simp
    rw [← e13]
    have hB13 := Below.tr hB12 hb13
    have hs13 := hb13.size
    have qP_13 := (hb13.block (w1.heap.size) (by omega)).trans qP_12
    have qX_13 := (hb13.block (w3.heap.size) (by omega)).trans qX_12
    have qZ_13 := (hb13.block (w8.heap.size) (by omega)).trans qZ_12
    have op_13 := op_12.next hb13
    have ox_13 := ox_12.next hb13
    have oz_13 := oz_12.next hb13
    have ow_13 := ow_12.next hb13
    clear hb13 qP_12 qX_12 qZ_12 op_12 ox_12 oz_12 ow_12
    have qW_13 : w13.heap[w12.heap.size]? = some (.cells #[.int .i64 (f : Nat), .int .i64 (t : Nat), .int .i64 (k : Nat), .int .i64 (l : Nat), .slice Aw n1 cw] 24 (0, 0)) := by rw [e13]; exact heap_alloc_new w12 _
    clear e13
    refine (implUnwrap_no x y 64 (y + 1) hyy HV2.out).mono ?_
    rintro e w14 ⟨rfl, hb14⟩
    have hB14 := Below.tr hB13 hb14
    have hs14 := hb14.size
    have qP_14 := (hb14.block (w1.heap.size) (by omega)).trans qP_13
    have qX_14 := (hb14.block (w3.heap.size) (by omega)).trans qX_13
    have qZ_14 := (hb14.block (w8.heap.size) (by omega)).trans qZ_13
    have qW_14 := (hb14.block (w12.heap.size) (by omega)).trans qW_13
    have op_14 := op_13.next hb14
    have ox_14 := ox_13.next hb14
    have oz_14 := oz_13.next hb14
    have ow_14 := ow_13.next hb14
    clear hb14 qP_13 qX_13 qZ_13 qW_13 op_13 ox_13 oz_13 ow_13
    have jP := fun i => (keepc (below_new' w14 (.cells #[.int .i64 0, .int .i64 0, .int .i64 0, .int .i64 0, .slice none 0 0] 24)) (w1.heap.size) (by omega) i).trans ((blk qP_14).1 i)
    have jX := fun i => (keepc (below_new' w14 (.cells #[.int .i64 0, .int .i64 0, .int .i64 0, .int .i64 0, .slice none 0 0] 24)) (w3.heap.size) (by omega) i).trans ((blk qX_14).1 i)
    have jZ := fun i => (keepc (below_new' w14 (.cells #[.int .i64 0, .int .i64 0, .int .i64 0, .int .i64 0, .slice none 0 0] 24)) (w8.heap.size) (by omega) i).trans ((blk qZ_14).1 i)
    have jW := fun i => (keepc (below_new' w14 (.cells #[.int .i64 0, .int .i64 0, .int .i64 0, .int .i64 0, .slice none 0 0] 24)) (w12.heap.size) (by omega) i).trans ((blk qW_14).1 i)
    have jN : ∀ i, (w14.alloc (.cells #[.int .i64 0, .int .i64 0, .int .i64 0, .int .i64 0, .slice none 0 0] 24)).cell? ⟨w14.heap.size, i, none⟩ = #[Value.int .i64 0, .int .i64 0, .int .i64 0, .int .i64 0, .slice none 0 0][i]? := (blk (heap_alloc_new w14 (.cells #[.int .i64 0, .int .i64 0, .int .i64 0, .int .i64 0, .slice none 0 0] 24))).1
    go_wp2_with fail
    clear jP jX jZ jW jN
    obtain ⟨w15, e15⟩ : ∃ W : World, W = w14.alloc (.cells #[.int .i64 0, .int .i64 0, .int .i64 0, .int .i64 0, .slice none 0 0] 24) := ⟨_, rfl⟩
    have hb15 : Below w14.heap.size w14 w15 := by rw [e15]; exact below_new' _ _
    have zs15 : w14.heap.size < w15.heap.size := by rw [e15]; simp
    rw [← e15]
    have hB15 := Below.tr hB14 hb15
    have hs15 := hb15.size
    have qP_15 := (hb15.block (w1.heap.size) (by omega)).trans qP_14
    have qX_15 := (hb15.block (w3.heap.size) (by omega)).trans qX_14
    have qZ_15 := (hb15.block (w8.heap.size) (by omega)).trans qZ_14
    have qW_15 := (hb15.block (w12.heap.size) (by omega)).trans qW_14
    have op_15 := op_14.next hb15
    have ox_15 := ox_14.next hb15
    have oz_15 := oz_14.next hb15
    have ow_15 := ow_14.next hb15
    clear hb15 qP_14 qX_14 qZ_14 qW_14 op_14 ox_14 oz_14 ow_14
    have qN_15 : w15.heap[w14.heap.size]? = some (.cells #[.int .i64 0, .int .i64 0, .int .i64 0, .int .i64 0, .slice none 0 0] 24 (0, 0)) := by rw [e15]; exact heap_alloc_new w14 _
    clear e15
    refine (implPacketValid_any x y 3 64 _).mono ?_
    rintro e w16 ⟨rfl, hb16⟩
    have hB16 := Below.tr hB15 hb16
    rw [HV2.out]
    have hs16 := hb16.size
    have qP_16 := (hb16.block (w1.heap.size) (by omega)).trans qP_15
    have qX_16 := (hb16.block (w3.heap.size) (by omega)).trans qX_15
    have qZ_16 := (hb16.block (w8.heap.size) (by omega)).trans qZ_15
    have qW_16 := (hb16.block (w12.heap.size) (by omega)).trans qW_15
    have op_16 := op_15.next hb16
    have ox_16 := ox_15.next hb16
    have oz_16 := oz_15.next hb16
    have ow_16 := ow_15.next hb16
    clear hb16 qP_15 qX_15 qZ_15 qW_15 op_15 ox_15 oz_15 ow_15
    have jP := (blk qP_16).1
    have tP := heap_lt qP_16
    have jX := (blk qX_16).1
    have tX := heap_lt qX_16
    have jZ := (blk qZ_16).1
    have tZ := heap_lt qZ_16
    have jW := (blk qW_16).1
    have tW := heap_lt qW_16
    go_wp2_with fail
    clear jP tP jX tX jZ tZ jW tW
    refine (samePacket_same f t k l oz_16.rows op_16.rows).mono ?_
    rintro e w17 ⟨rfl, hb17⟩
    have hB17 := Below.tr hB16 hb17
    have hs17 := hb17.size
    have qP_17 := (hb17.block (w1.heap.size) (by omega)).trans qP_16
    have qX_17 := (hb17.block (w3.heap.size) (by omega)).trans qX_16
    have qZ_17 := (hb17.block (w8.heap.size) (by omega)).trans qZ_16
    have qW_17 := (hb17.block (w12.heap.size) (by omega)).trans qW_16
    have op_17 := op_16.next hb17
    have ox_17 := ox_16.next hb17
    have oz_17 := oz_16.next hb17
    have ow_17 := ow_16.next hb17
    clear hb17 qP_16 qX_16 qZ_16 qW_16 op_16 ox_16 oz_16 ow_16
    have jP := (blk qP_17).1
    have tP := heap_lt qP_17
    have jX := (blk qX_17).1
    have tX := heap_lt qX_17
    have jZ := (blk qZ_17).1
    have tZ := heap_lt qZ_17
    have jW := (blk qW_17).1
    have tW := heap_lt qW_17
    go_wp2_with fail
    clear jP tP jX tX jZ tZ jW tW
    refine (samePacket_same f t k l ow_17.rows op_17.rows).mono ?_
    rintro e w18 ⟨rfl, hb18⟩
    have hB18 := Below.tr hB17 hb18
    have hs18 := hb18.size
    have qP_18 := (hb18.block (w1.heap.size) (by omega)).trans qP_17
    have qX_18 := (hb18.block (w3.heap.size) (by omega)).trans qX_17
    have qZ_18 := (hb18.block (w8.heap.size) (by omega)).trans qZ_17
    have qW_18 := (hb18.block (w12.heap.size) (by omega)).trans qW_17
    have op_18 := op_17.next hb18
    have ox_18 := ox_17.next hb18
    have oz_18 := oz_17.next hb18
    have ow_18 := ow_17.next hb18
    clear hb18 qP_17 qX_17 qZ_17 qW_17 op_17 ox_17 oz_17 ow_17
    go_wp2_with fail
    go_ret
    exact ⟨rfl, hB18⟩
end Go.Proofs.Ytlnjpjeccpnddaa
