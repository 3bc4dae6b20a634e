/-
  The law 'HopPacket returns what the reference returns': its walk.
-/
import Derived.Test.YtlnjpjeccpnddaaPkt
import Derived.Test.YtlnjpjeccpnddaaFree
import Derived.Test.YtlnjpjeccpnddaaFlow
import Derived.Test.YtlnjpjeccpnddaaOpn
namespace Go.Proofs.Ytlnjpjeccpnddaa
open Go Go.RowKit

theorem wrote_cell {w w' : World} {D C : Nat} (h : WroteIn w w' D C) {b : Nat} (hb : b < w.heap.size) (hd : b < D ∨ C ≤ b) (i : Nat) : w'.cell? ⟨b, i, none⟩ = w.cell? ⟨b, i, none⟩ := World.cell?_of_block (w := w) (a := ⟨b, _, none⟩) (h.block b hb hd)
set_option maxRecDepth 20000 in
set_option maxHeartbeats 16000000 in
theorem exactHopPacket_walk (f t k l : Int) {w : World} {A : Option Addr} {n c : Nat} {z : Nat → Nat} (h : Rws w w.heap.size 1 A n c (byteR z)) :
    Calls Try.prog 4 #[.agg #[.int .i64 f, .int .i64 t, .int .i64 k, .int .i64 l, .slice A n c]] w (Truly w) := by
  have hnc := h.1.1
  have hcm := h.1.2
  have HH := Lib.hid h
  clear h
  by_cases hn : (n : Int) ≤ 1048576
  rotate_left
  · have hsz : szI n 1048576 = -1 := if_neg hn
    go_enter Try.func4, Try.ntmps4
    go_wp2_with fail
    refine (szPacket_any f t k l 1048576 hnc hcm (by omega) (by omega) _).mono ?_
    rintro e w1 ⟨rfl, hb1⟩
    have hB1 := Below.tr (show Below w.heap.size w _ by (repeat (first | exact Below.refl _ _ | assumption | refine Below.al ?_ _ | refine Below.dr ?_ | (refine Below.st ?_ (by simp <;> omega) _) | (refine Below.tr ?_ (by assumption))))) hb1
    go_wp2_with fail
    go_ret
    exact ⟨rfl, hB1⟩
  have hsz : szI n 1048576 = 1048576 - n := if_pos hn
  have hI := fun (w : World) (B : Nat) (A : Option Addr) (c : Nat) (h : Rws w B 1 A n c (byteR z)) (hB : B ≤ w.heap.size) => implHopPacket_any f t k l h hB (by omega)
  have hS := fun (w : World) (B : Nat) (A : Option Addr) (c : Nat) (h : Rws w B 1 A n c (byteR z)) (hB : B ≤ w.heap.size) => specHopPacket_any f t k l h hB (by omega)
  have hN := hopN_le (hopB f t k l n) n
  generalize hopI (hopB f t k l n) f = f' at hI hS
  generalize hopI (hopB f t k l n) t = t' at hI hS
  generalize hopI (hopB f t k l n) k = k' at hI hS
  generalize hopI (hopB f t k l n) (l - 1) = l' at hI hS
  generalize hopN (hopB f t k l n) n = n' at hI hS hN
  generalize hopB f t k l n = b at hI hS
  unfold HopV at hI hS
  have HI := Lib.hid hI
  have HS := Lib.hid hS
  clear hI hS
  go_enter Try.func4, Try.ntmps4
  go_wp2_with fail
  refine (szPacket_any f t k l 1048576 hnc hcm (by omega) (by omega) _).mono ?_
  rintro e w1 ⟨rfl, hb1⟩
  have hB1 := Below.tr (show Below w.heap.size w _ by (repeat (first | exact Below.refl _ _ | assumption | refine Below.al ?_ _ | refine Below.dr ?_ | (refine Below.st ?_ (by simp <;> omega) _) | (refine Below.tr ?_ (by assumption))))) hb1
  have kA_1 := keepc hb1 w.heap.size (by simp)
  have zA_1 : w.heap.size < w1.heap.size := (by have := hb1.size; simp at this; omega)
  have kA_1 : ∀ i, w1.cell? ⟨w.heap.size, i, none⟩ = #[Value.int .i64 f, .int .i64 t, .int .i64 k, .int .i64 l, .slice A n c][i]? := fun i => (kA_1 i).trans (by simp)
  go_wp2_with fail
  refine (toPacket_any f t k l (HH.out.below hB1) hB1.size (by omega)).mono ?_
  rintro e w2 ⟨gs, rfl, hgs, hNs, hb2⟩
  have hs2 := hb2.size
  have hB2 := Below.tr hB1 hb2
  have kA_2 := fun i => (keepc hb2 w.heap.size (by omega) i).trans (kA_1 i)
  clear hb2 kA_1
  have os_2 : Own w2 w1.heap.size 5 1 (some ⟨gs, 0, none⟩) n n (byteR z) := Own.of_new hNs (by unfold maxLen; omega) hgs
  have ls := os_2.lies
  clear hNs hgs
  go_wp2_with fail
  refine (HS.out _ _ _ _ os_2.rows (Nat.le_refl _)).mono ?_
  rintro e w3 ⟨Ao, co, rfl, hOo, hb3⟩
  have hs3 := hb3.size
  have hB3 := Below.tr hB2 hb3
  have kA_3 := fun i => (keepc hb3 w.heap.size (by omega) i).trans (kA_2 i)
  have os_3 := os_2.next hb3
  clear hb3 kA_2 os_2
  have oo_3 := hOo
  have lo := oo_3.lies
  clear hOo
  clear os_3
  have jA := fun i => (keepc (below_new' w3 (.cells #[.int .i64 f', .int .i64 t', .int .i64 k', .int .i64 l', .slice Ao n' co] 24)) w.heap.size (by omega) i).trans (kA_3 i)
  have jW : ∀ i, (w3.alloc (.cells #[.int .i64 f', .int .i64 t', .int .i64 k', .int .i64 l', .slice Ao n' co] 24)).cell? ⟨w3.heap.size, i, none⟩ = #[Value.int .i64 f', .int .i64 t', .int .i64 k', .int .i64 l', .slice Ao n' co][i]? := (blk (heap_alloc_new w3 (.cells #[.int .i64 f', .int .i64 t', .int .i64 k', .int .i64 l', .slice Ao n' co] 24))).1
  go_wp2_with fail
  clear jA jW
  obtain ⟨w4, e4⟩ : ∃ W : World, W = w3.alloc (.cells #[.int .i64 f', .int .i64 t', .int .i64 k', .int .i64 l', .slice Ao n' co] 24) := ⟨_, rfl⟩
  have hb4 : Below w3.heap.size w3 w4 := by rw [e4]; exact below_new' _ _
  have zs4 : w3.heap.size < w4.heap.size := by rw [e4]; simp
  rw [← e4]
  have hs4 := hb4.size
  have hB4 := Below.tr hB3 hb4
  have kA_4 := fun i => (keepc hb4 w.heap.size (by omega) i).trans (kA_3 i)
  have oo_4 := oo_3.next hb4
  clear hb4 kA_3 oo_3
  have kW_4 : ∀ i, w4.cell? ⟨w3.heap.size, i, none⟩ = #[Value.int .i64 f', .int .i64 t', .int .i64 k', .int .i64 l', .slice Ao n' co][i]? := fun i => by rw [e4]; exact (blk (heap_alloc_new w3 _)).1 i
  clear e4
  refine (toPacket_any f t k l (HH.out.below hB4) hB4.size (by omega)).mono ?_
  rintro e w5 ⟨gx, rfl, hgx, hNx, hb5⟩
  have hs5 := hb5.size
  have hB5 := Below.tr hB4 hb5
  have kA_5 := fun i => (keepc hb5 w.heap.size (by omega) i).trans (kA_4 i)
  have kW_5 := fun i => (keepc hb5 w3.heap.size (by omega) i).trans (kW_4 i)
  have oo_5 := oo_4.next hb5
  clear hb5 kA_4 kW_4 oo_4
  have ox_5 : Own w5 w4.heap.size 5 1 (some ⟨gx, 0, none⟩) n n (byteR z) := Own.of_new hNx (by unfold maxLen; omega) hgx
  have lx := ox_5.lies
  clear hNx hgx
  have jA := fun i => (keepc (below_new' w5 (.cells #[.int .i64 f, .int .i64 t, .int .i64 k, .int .i64 l, .slice (some ⟨gx, 0, none⟩) n n] 24)) w.heap.size (by omega) i).trans (kA_5 i)
  have jW := fun i => (keepc (below_new' w5 (.cells #[.int .i64 f, .int .i64 t, .int .i64 k, .int .i64 l, .slice (some ⟨gx, 0, none⟩) n n] 24)) w3.heap.size (by omega) i).trans (kW_5 i)
  have jX : ∀ i, (w5.alloc (.cells #[.int .i64 f, .int .i64 t, .int .i64 k, .int .i64 l, .slice (some ⟨gx, 0, none⟩) n n] 24)).cell? ⟨w5.heap.size, i, none⟩ = #[Value.int .i64 f, .int .i64 t, .int .i64 k, .int .i64 l, .slice (some ⟨gx, 0, none⟩) n n][i]? := (blk (heap_alloc_new w5 (.cells #[.int .i64 f, .int .i64 t, .int .i64 k, .int .i64 l, .slice (some ⟨gx, 0, none⟩) n n] 24))).1
  go_wp2_with fail
  clear jA jW jX
  obtain ⟨w6, e6⟩ : ∃ W : World, W = w5.alloc (.cells #[.int .i64 f, .int .i64 t, .int .i64 k, .int .i64 l, .slice (some ⟨gx, 0, none⟩) n n] 24) := ⟨_, rfl⟩
  have hb6 : Below w5.heap.size w5 w6 := by rw [e6]; exact below_new' _ _
  have zs6 : w5.heap.size < w6.heap.size := by rw [e6]; simp
  rw [← e6]
  have hs6 := hb6.size
  have hB6 := Below.tr hB5 hb6
  have kA_6 := fun i => (keepc hb6 w.heap.size (by omega) i).trans (kA_5 i)
  have kW_6 := fun i => (keepc hb6 w3.heap.size (by omega) i).trans (kW_5 i)
  have oo_6 := oo_5.next hb6
  have ox_6 := ox_5.next hb6
  clear hb6 kA_5 kW_5 oo_5 ox_5
  have kX_6 : ∀ i, w6.cell? ⟨w5.heap.size, i, none⟩ = #[Value.int .i64 f, .int .i64 t, .int .i64 k, .int .i64 l, .slice (some ⟨gx, 0, none⟩) n n][i]? := fun i => by rw [e6]; exact (blk (heap_alloc_new w5 _)).1 i
  clear e6
  refine (HI.out _ _ _ _ ox_6.rows (Nat.le_refl _)).mono ?_
  rintro e w7 ⟨Ag, cg, rfl, hOg, hb7⟩
  have hs7 := hb7.size
  have hB7 := Below.tr hB6 hb7
  have kA_7 := fun i => (keepc hb7 w.heap.size (by omega) i).trans (kA_6 i)
  have kW_7 := fun i => (keepc hb7 w3.heap.size (by omega) i).trans (kW_6 i)
  have kX_7 := fun i => (keepc hb7 w5.heap.size (by omega) i).trans (kX_6 i)
  have oo_7 := oo_6.next hb7
  have ox_7 := ox_6.next hb7
  clear hb7 kA_6 kW_6 kX_6 oo_6 ox_6
  have og_7 := hOg
  have lg := og_7.lies
  clear hOg
  have jA := fun i => (keepc (below_new' w7 (.cells #[.int .i64 f', .int .i64 t', .int .i64 k', .int .i64 l', .slice Ag n' cg] 24)) w.heap.size (by omega) i).trans (kA_7 i)
  have jW := fun i => (keepc (below_new' w7 (.cells #[.int .i64 f', .int .i64 t', .int .i64 k', .int .i64 l', .slice Ag n' cg] 24)) w3.heap.size (by omega) i).trans (kW_7 i)
  have jX := fun i => (keepc (below_new' w7 (.cells #[.int .i64 f', .int .i64 t', .int .i64 k', .int .i64 l', .slice Ag n' cg] 24)) w5.heap.size (by omega) i).trans (kX_7 i)
  have jG : ∀ i, (w7.alloc (.cells #[.int .i64 f', .int .i64 t', .int .i64 k', .int .i64 l', .slice Ag n' cg] 24)).cell? ⟨w7.heap.size, i, none⟩ = #[Value.int .i64 f', .int .i64 t', .int .i64 k', .int .i64 l', .slice Ag n' cg][i]? := (blk (heap_alloc_new w7 (.cells #[.int .i64 f', .int .i64 t', .int .i64 k', .int .i64 l', .slice Ag n' cg] 24))).1
  go_wp2_with fail
  clear jA jW jX jG
  obtain ⟨w8, e8⟩ : ∃ W : World, W = w7.alloc (.cells #[.int .i64 f', .int .i64 t', .int .i64 k', .int .i64 l', .slice Ag n' cg] 24) := ⟨_, rfl⟩
  have hb8 : Below w7.heap.size w7 w8 := by rw [e8]; exact below_new' _ _
  have zs8 : w7.heap.size < w8.heap.size := by rw [e8]; simp
  rw [← e8]
  have hs8 := hb8.size
  have hB8 := Below.tr hB7 hb8
  have kA_8 := fun i => (keepc hb8 w.heap.size (by omega) i).trans (kA_7 i)
  have kW_8 := fun i => (keepc hb8 w3.heap.size (by omega) i).trans (kW_7 i)
  have kX_8 := fun i => (keepc hb8 w5.heap.size (by omega) i).trans (kX_7 i)
  have oo_8 := oo_7.next hb8
  have ox_8 := ox_7.next hb8
  have og_8 := og_7.next hb8
  clear hb8 kA_7 kW_7 kX_7 oo_7 ox_7 og_7
  have kG_8 : ∀ i, w8.cell? ⟨w7.heap.size, i, none⟩ = #[Value.int .i64 f', .int .i64 t', .int .i64 k', .int .i64 l', .slice Ag n' cg][i]? := fun i => by rw [e8]; exact (blk (heap_alloc_new w7 _)).1 i
  clear e8
  refine (eqPacket_same f' t' k' l' og_8.rows oo_8.rows (Nat.le_refl _)).mono ?_
  rintro e w9 ⟨rfl, hb9⟩
  have hs9 := hb9.size
  have hB9 := Below.tr hB8 hb9
  have kA_9 := fun i => (keepc hb9 w.heap.size (by omega) i).trans (kA_8 i)
  have kW_9 := fun i => (keepc hb9 w3.heap.size (by omega) i).trans (kW_8 i)
  have kX_9 := fun i => (keepc hb9 w5.heap.size (by omega) i).trans (kX_8 i)
  have kG_9 := fun i => (keepc hb9 w7.heap.size (by omega) i).trans (kG_8 i)
  have oo_9 := oo_8.next hb9
  have ox_9 := ox_8.next hb9
  have og_9 := og_8.next hb9
  clear hb9 kA_8 kW_8 kX_8 kG_8 oo_8 ox_8 og_8
  go_wp2_with fail
  refine wp_region_free (ds := [(0, 41), (1, 42), (2, 43), (3, 44), (4, 45)]) 5 (by kernel_rfl) (by kernel_rfl) (by first | exact .inl rfl | exact .inr (by kernel_rfl)) (by rfl) rfl rfl ?_
  apply free_is
  · intro a' w' hLe hfr hdep
    have e6 := hfr 6 rfl
    conv at e6 => rhs; whnf
    have f6 := e6; simp only [Array.getD_eq_getD_getElem?] at f6
    have kc := fun i => keepc hLe (w.heap.size) (by (try simp) <;> omega) i
    have kf := fun i => keepf hLe (w.heap.size) (by (try simp) <;> omega) i
    have kz : w.heap.size < w'.heap.size := (by have := hLe.size; (try simp at this); omega)
    have kc := fun i => keepc hLe (w3.heap.size) (by (try simp) <;> omega) i
    have kf := fun i => keepf hLe (w3.heap.size) (by (try simp) <;> omega) i
    have kz : w3.heap.size < w'.heap.size := (by have := hLe.size; (try simp at this); omega)
    have kc := fun i => keepc hLe (w5.heap.size) (by (try simp) <;> omega) i
    have kf := fun i => keepf hLe (w5.heap.size) (by (try simp) <;> omega) i
    have kz : w5.heap.size < w'.heap.size := (by have := hLe.size; (try simp at this); omega)
    have kc := fun i => keepc hLe (w7.heap.size) (by (try simp) <;> omega) i
    have kf := fun i => keepf hLe (w7.heap.size) (by (try simp) <;> omega) i
    have kz : w7.heap.size < w'.heap.size := (by have := hLe.size; (try simp at this); omega)
    refine wpOp_plain rfl rfl (fun K hK => ?_)
    go_simp
    exact hK _ _ ⟨_, rfl, Below.refl _ _, rfl⟩
  apply free_is
  · intro a' w' hLe hfr hdep
    have e1 := hfr 1 rfl
    conv at e1 => rhs; whnf
    have f1 := e1; simp only [Array.getD_eq_getD_getElem?] at f1
    have kc := fun i => keepc hLe (w.heap.size) (by (try simp) <;> omega) i
    have kf := fun i => keepf hLe (w.heap.size) (by (try simp) <;> omega) i
    have kz : w.heap.size < w'.heap.size := (by have := hLe.size; (try simp at this); omega)
    have kc := fun i => keepc hLe (w3.heap.size) (by (try simp) <;> omega) i
    have kf := fun i => keepf hLe (w3.heap.size) (by (try simp) <;> omega) i
    have kz : w3.heap.size < w'.heap.size := (by have := hLe.size; (try simp at this); omega)
    have kc := fun i => keepc hLe (w5.heap.size) (by (try simp) <;> omega) i
    have kf := fun i => keepf hLe (w5.heap.size) (by (try simp) <;> omega) i
    have kz : w5.heap.size < w'.heap.size := (by have := hLe.size; (try simp at this); omega)
    have kc := fun i => keepc hLe (w7.heap.size) (by (try simp) <;> omega) i
    have kf := fun i => keepf hLe (w7.heap.size) (by (try simp) <;> omega) i
    have kz : w7.heap.size < w'.heap.size := (by have := hLe.size; (try simp at this); omega)
    refine wpOp_plain rfl rfl (fun K hK => ?_)
    go_simp
    exact hK _ _ ⟨_, rfl, Below.refl _ _, rfl⟩
  refine free_cons (kbPacket w.heap.size f t k l n (byteR z)) ?_ ?_
  · intro a' w' hLe hfr hdep
    have e42 : a'.tmps.getD 42 undef = _ := hdep 1 42 (Nat.le_of_ble_eq_true rfl) rfl rfl
    conv at e42 => rhs; whnf
    have f42 := e42; simp only [Array.getD_eq_getD_getElem?] at f42
    have kc := fun i => keepc hLe (w.heap.size) (by (try simp) <;> omega) i
    have kf := fun i => keepf hLe (w.heap.size) (by (try simp) <;> omega) i
    have kz : w.heap.size < w'.heap.size := (by have := hLe.size; (try simp at this); omega)
    have kc := fun i => keepc hLe (w3.heap.size) (by (try simp) <;> omega) i
    have kf := fun i => keepf hLe (w3.heap.size) (by (try simp) <;> omega) i
    have kz : w3.heap.size < w'.heap.size := (by have := hLe.size; (try simp at this); omega)
    have kc := fun i => keepc hLe (w5.heap.size) (by (try simp) <;> omega) i
    have kf := fun i => keepf hLe (w5.heap.size) (by (try simp) <;> omega) i
    have kz : w5.heap.size < w'.heap.size := (by have := hLe.size; (try simp at this); omega)
    have kc := fun i => keepc hLe (w7.heap.size) (by (try simp) <;> omega) i
    have kf := fun i => keepf hLe (w7.heap.size) (by (try simp) <;> omega) i
    have kz : w7.heap.size < w'.heap.size := (by have := hLe.size; (try simp at this); omega)
    refine wpOp_plain rfl rfl (fun K hK => ?_)
    go_simp
    refine (toPacket_any f t k l (HH.out.below (Below.tr hB9 hLe)) (by have := (Below.tr hB9 hLe).size; omega) (by omega)).mono ?_
    rintro e w2 ⟨g, rfl, hg1, hN1, hb⟩
    exact hK _ _ ⟨_, rfl, hb, ⟨g, rfl, by have := (Below.tr hB9 hLe).size; omega, hN1⟩⟩
  apply free_is
  · intro a' w' hLe hfr hdep
    have e41 : a'.tmps.getD 41 undef = _ := hdep 0 41 (Nat.le_of_ble_eq_true rfl) rfl rfl
    conv at e41 => rhs; whnf
    have f41 := e41; simp only [Array.getD_eq_getD_getElem?] at f41
    obtain ⟨g43, e43, hg43, hN43⟩ := hdep 2 43 (Nat.le_of_ble_eq_true rfl) rfl rfl
    have f43 := e43; simp only [Array.getD_eq_getD_getElem?] at f43
    have kc := fun i => keepc hLe (w.heap.size) (by (try simp) <;> omega) i
    have kf := fun i => keepf hLe (w.heap.size) (by (try simp) <;> omega) i
    have kz : w.heap.size < w'.heap.size := (by have := hLe.size; (try simp at this); omega)
    have kc := fun i => keepc hLe (w3.heap.size) (by (try simp) <;> omega) i
    have kf := fun i => keepf hLe (w3.heap.size) (by (try simp) <;> omega) i
    have kz : w3.heap.size < w'.heap.size := (by have := hLe.size; (try simp at this); omega)
    have kc := fun i => keepc hLe (w5.heap.size) (by (try simp) <;> omega) i
    have kf := fun i => keepf hLe (w5.heap.size) (by (try simp) <;> omega) i
    have kz : w5.heap.size < w'.heap.size := (by have := hLe.size; (try simp at this); omega)
    have kc := fun i => keepc hLe (w7.heap.size) (by (try simp) <;> omega) i
    have kf := fun i => keepf hLe (w7.heap.size) (by (try simp) <;> omega) i
    have kz : w7.heap.size < w'.heap.size := (by have := hLe.size; (try simp at this); omega)
    refine wpOp_plain rfl rfl (fun K hK => ?_)
    go_simp
    refine (eqPacket_same f t k l (ox_9.rows.next hLe) (hN43.rows (by unfold maxLen; omega) hN43.lt) (Nat.le_refl _)).mono ?_
    rintro e w2 ⟨rfl, hb⟩
    exact hK _ _ ⟨_, rfl, hb, rfl⟩
  apply free_is
  · intro a' w' hLe hfr hdep
    have e44 : a'.tmps.getD 44 undef = _ := hdep 3 44 (Nat.le_of_ble_eq_true rfl) rfl rfl
    conv at e44 => rhs; whnf
    have f44 := e44; simp only [Array.getD_eq_getD_getElem?] at f44
    refine wpOp_plain rfl rfl (fun K hK => ?_)
    go_simp
    exact hK _ _ ⟨_, rfl, Below.refl _ _, rfl⟩
  apply free_nil
  intro vs w10 hb10 hT10
  have e41 : vs 0 = _ := hT10 0 41 rfl
  conv at e41 => rhs; whnf
  have e42 : vs 1 = _ := hT10 1 42 rfl
  conv at e42 => rhs; whnf
  obtain ⟨g43, e43, hg43, hN43⟩ := hT10 2 43 rfl
  have e44 : vs 3 = _ := hT10 3 44 rfl
  conv at e44 => rhs; whnf
  have e45 : vs 4 = _ := hT10 4 45 rfl
  conv at e45 => rhs; whnf
  simp only [putAll, List.drop_succ_cons, List.drop_zero, e41, e42, e43, e44, e45]
  clear hT10 e41 e42 e43 e44 e45
  go_simp
  have hs10 := hb10.size
  have hB10 := Below.tr hB9 hb10
  have kA_10 := fun i => (keepc hb10 w.heap.size (by omega) i).trans (kA_9 i)
  have kW_10 := fun i => (keepc hb10 w3.heap.size (by omega) i).trans (kW_9 i)
  have kX_10 := fun i => (keepc hb10 w5.heap.size (by omega) i).trans (kX_9 i)
  have kG_10 := fun i => (keepc hb10 w7.heap.size (by omega) i).trans (kG_9 i)
  have oo_10 := oo_9.next hb10
  have ox_10 := ox_9.next hb10
  have og_10 := og_9.next hb10
  clear hb10 kA_9 kW_9 kX_9 kG_9 oo_9 ox_9 og_9
  go_wp2_with fail
  refine (markPacket_any f t k l (1) ox_10 (by omega) (by omega) (by omega)).mono ?_
  rintro e w11 ⟨rfl, ox_11, hw⟩
  replace hw := hw _ _ lx
  clear ox_10
  have hs11 := hw.size
  have hB11 := Below.wrote hB10 hw (by omega)
  have kA_11 := fun i => (wrote_cell hw (b := w.heap.size) (by omega) (by omega) i).trans (kA_10 i)
  have kW_11 := fun i => (wrote_cell hw (b := w3.heap.size) (by omega) (by omega) i).trans (kW_10 i)
  have kX_11 := fun i => (wrote_cell hw (b := w5.heap.size) (by omega) (by omega) i).trans (kX_10 i)
  have kG_11 := fun i => (wrote_cell hw (b := w7.heap.size) (by omega) (by omega) i).trans (kG_10 i)
  have oo_11 := oo_10.apart hw lo (by omega)
  have og_11 := og_10.apart hw lg (by omega)
  clear hw kA_10 kW_10 kX_10 kG_10 oo_10 og_10
  go_wp2_with fail
  clear ox_11
  refine (eqPacket_same f' t' k' l' og_11.rows oo_11.rows (Nat.le_refl _)).mono ?_
  rintro e w12 ⟨rfl, hb12⟩
  have hs12 := hb12.size
  have hB12 := Below.tr hB11 hb12
  have kA_12 := fun i => (keepc hb12 w.heap.size (by omega) i).trans (kA_11 i)
  have kW_12 := fun i => (keepc hb12 w3.heap.size (by omega) i).trans (kW_11 i)
  have kX_12 := fun i => (keepc hb12 w5.heap.size (by omega) i).trans (kX_11 i)
  have kG_12 := fun i => (keepc hb12 w7.heap.size (by omega) i).trans (kG_11 i)
  have oo_12 := oo_11.next hb12
  have og_12 := og_11.next hb12
  clear hb12 kA_11 kW_11 kX_11 kG_11 oo_11 og_11
  go_wp2_with fail
  refine (markPacket_any f' t' k' l' (1) og_12 (by omega) (by omega) (by omega)).mono ?_
  rintro e w13 ⟨rfl, og_13, hw⟩
  replace hw := hw _ _ lg
  clear og_12
  have hs13 := hw.size
  have hB13 := Below.wrote hB12 hw (by omega)
  have kA_13 := fun i => (wrote_cell hw (b := w.heap.size) (by omega) (by omega) i).trans (kA_12 i)
  have kW_13 := fun i => (wrote_cell hw (b := w3.heap.size) (by omega) (by omega) i).trans (kW_12 i)
  have kX_13 := fun i => (wrote_cell hw (b := w5.heap.size) (by omega) (by omega) i).trans (kX_12 i)
  have kG_13 := fun i => (wrote_cell hw (b := w7.heap.size) (by omega) (by omega) i).trans (kG_12 i)
  have oo_13 := oo_12.apart hw lo (by omega)
  clear hw kA_12 kW_12 kX_12 kG_12 oo_12
  go_wp2_with fail
  refine (heldPacket_same f' t' k' l' (1) og_13.rows (Nat.le_refl _) (by omega) (by omega) (by omega)).mono ?_
  rintro e w14 ⟨rfl, hb14⟩
  have hs14 := hb14.size
  have hB14 := Below.tr hB13 hb14
  have kA_14 := fun i => (keepc hb14 w.heap.size (by omega) i).trans (kA_13 i)
  have kW_14 := fun i => (keepc hb14 w3.heap.size (by omega) i).trans (kW_13 i)
  have kX_14 := fun i => (keepc hb14 w5.heap.size (by omega) i).trans (kX_13 i)
  have kG_14 := fun i => (keepc hb14 w7.heap.size (by omega) i).trans (kG_13 i)
  have oo_14 := oo_13.next hb14
  have og_14 := og_13.next hb14
  clear hb14 kA_13 kW_13 kX_13 kG_13 oo_13 og_13
  go_wp2_with fail
  refine (toPacket_any f t k l (HH.out.below hB14) hB14.size (by omega)).mono ?_
  rintro e w15 ⟨gy, rfl, hgy, hNy, hb15⟩
  have hs15 := hb15.size
  have hB15 := Below.tr hB14 hb15
  have kA_15 := fun i => (keepc hb15 w.heap.size (by omega) i).trans (kA_14 i)
  have kW_15 := fun i => (keepc hb15 w3.heap.size (by omega) i).trans (kW_14 i)
  have kX_15 := fun i => (keepc hb15 w5.heap.size (by omega) i).trans (kX_14 i)
  have kG_15 := fun i => (keepc hb15 w7.heap.size (by omega) i).trans (kG_14 i)
  have oo_15 := oo_14.next hb15
  have og_15 := og_14.next hb15
  clear hb15 kA_14 kW_14 kX_14 kG_14 oo_14 og_14
  have oy_15 : Own w15 w14.heap.size 5 1 (some ⟨gy, 0, none⟩) n n (byteR z) := Own.of_new hNy (by unfold maxLen; omega) hgy
  have ly := oy_15.lies
  clear hNy hgy
  go_wp2_with fail
  refine (HI.out _ _ _ _ oy_15.rows (Nat.le_refl _)).mono ?_
  rintro e w16 ⟨Ah, ch, rfl, hOh, hb16⟩
  have hs16 := hb16.size
  have hB16 := Below.tr hB15 hb16
  have kA_16 := fun i => (keepc hb16 w.heap.size (by omega) i).trans (kA_15 i)
  have kW_16 := fun i => (keepc hb16 w3.heap.size (by omega) i).trans (kW_15 i)
  have kX_16 := fun i => (keepc hb16 w5.heap.size (by omega) i).trans (kX_15 i)
  have kG_16 := fun i => (keepc hb16 w7.heap.size (by omega) i).trans (kG_15 i)
  have oo_16 := oo_15.next hb16
  have og_16 := og_15.next hb16
  have oy_16 := oy_15.next hb16
  clear hb16 kA_15 kW_15 kX_15 kG_15 oo_15 og_15 oy_15
  have oh_16 := hOh
  have lh := oh_16.lies
  clear hOh
  clear oy_16
  have jA := fun i => (keepc (below_new' w16 (.cells #[.int .i64 f', .int .i64 t', .int .i64 k', .int .i64 l', .slice Ah n' ch] 24)) w.heap.size (by omega) i).trans (kA_16 i)
  have jW := fun i => (keepc (below_new' w16 (.cells #[.int .i64 f', .int .i64 t', .int .i64 k', .int .i64 l', .slice Ah n' ch] 24)) w3.heap.size (by omega) i).trans (kW_16 i)
  have jX := fun i => (keepc (below_new' w16 (.cells #[.int .i64 f', .int .i64 t', .int .i64 k', .int .i64 l', .slice Ah n' ch] 24)) w5.heap.size (by omega) i).trans (kX_16 i)
  have jG := fun i => (keepc (below_new' w16 (.cells #[.int .i64 f', .int .i64 t', .int .i64 k', .int .i64 l', .slice Ah n' ch] 24)) w7.heap.size (by omega) i).trans (kG_16 i)
  have jH : ∀ i, (w16.alloc (.cells #[.int .i64 f', .int .i64 t', .int .i64 k', .int .i64 l', .slice Ah n' ch] 24)).cell? ⟨w16.heap.size, i, none⟩ = #[Value.int .i64 f', .int .i64 t', .int .i64 k', .int .i64 l', .slice Ah n' ch][i]? := (blk (heap_alloc_new w16 (.cells #[.int .i64 f', .int .i64 t', .int .i64 k', .int .i64 l', .slice Ah n' ch] 24))).1
  go_wp2_with fail
  clear jA jW jX jG jH
  obtain ⟨w17, e17⟩ : ∃ W : World, W = w16.alloc (.cells #[.int .i64 f', .int .i64 t', .int .i64 k', .int .i64 l', .slice Ah n' ch] 24) := ⟨_, rfl⟩
  have hb17 : Below w16.heap.size w16 w17 := by rw [e17]; exact below_new' _ _
  have zs17 : w16.heap.size < w17.heap.size := by rw [e17]; simp
  rw [← e17]
  have hs17 := hb17.size
  have hB17 := Below.tr hB16 hb17
  have kA_17 := fun i => (keepc hb17 w.heap.size (by omega) i).trans (kA_16 i)
  have kW_17 := fun i => (keepc hb17 w3.heap.size (by omega) i).trans (kW_16 i)
  have kX_17 := fun i => (keepc hb17 w5.heap.size (by omega) i).trans (kX_16 i)
  have kG_17 := fun i => (keepc hb17 w7.heap.size (by omega) i).trans (kG_16 i)
  have oo_17 := oo_16.next hb17
  have og_17 := og_16.next hb17
  have oh_17 := oh_16.next hb17
  clear hb17 kA_16 kW_16 kX_16 kG_16 oo_16 og_16 oh_16
  have kH_17 : ∀ i, w17.cell? ⟨w16.heap.size, i, none⟩ = #[Value.int .i64 f', .int .i64 t', .int .i64 k', .int .i64 l', .slice Ah n' ch][i]? := fun i => by rw [e17]; exact (blk (heap_alloc_new w16 _)).1 i
  clear e17
  refine (eqPacket_same f' t' k' l' oh_17.rows oo_17.rows (Nat.le_refl _)).mono ?_
  rintro e w18 ⟨rfl, hb18⟩
  have hs18 := hb18.size
  have hB18 := Below.tr hB17 hb18
  have kA_18 := fun i => (keepc hb18 w.heap.size (by omega) i).trans (kA_17 i)
  have kW_18 := fun i => (keepc hb18 w3.heap.size (by omega) i).trans (kW_17 i)
  have kX_18 := fun i => (keepc hb18 w5.heap.size (by omega) i).trans (kX_17 i)
  have kG_18 := fun i => (keepc hb18 w7.heap.size (by omega) i).trans (kG_17 i)
  have kH_18 := fun i => (keepc hb18 w16.heap.size (by omega) i).trans (kH_17 i)
  have oo_18 := oo_17.next hb18
  have og_18 := og_17.next hb18
  have oh_18 := oh_17.next hb18
  clear hb18 kA_17 kW_17 kX_17 kG_17 kH_17 oo_17 og_17 oh_17
  go_wp2_with fail
  refine (heldPacket_same f' t' k' l' (1) og_18.rows (Nat.le_refl _) (by omega) (by omega) (by omega)).mono ?_
  rintro e w19 ⟨rfl, hb19⟩
  have hs19 := hb19.size
  have hB19 := Below.tr hB18 hb19
  have kA_19 := fun i => (keepc hb19 w.heap.size (by omega) i).trans (kA_18 i)
  have kW_19 := fun i => (keepc hb19 w3.heap.size (by omega) i).trans (kW_18 i)
  have kX_19 := fun i => (keepc hb19 w5.heap.size (by omega) i).trans (kX_18 i)
  have kG_19 := fun i => (keepc hb19 w7.heap.size (by omega) i).trans (kG_18 i)
  have kH_19 := fun i => (keepc hb19 w16.heap.size (by omega) i).trans (kH_18 i)
  have oo_19 := oo_18.next hb19
  have og_19 := og_18.next hb19
  have oh_19 := oh_18.next hb19
  clear hb19 kA_18 kW_18 kX_18 kG_18 kH_18 oo_18 og_18 oh_18
  go_wp2_with fail
  go_ret
  exact ⟨rfl, hB19⟩
end Go.Proofs.Ytlnjpjeccpnddaa
