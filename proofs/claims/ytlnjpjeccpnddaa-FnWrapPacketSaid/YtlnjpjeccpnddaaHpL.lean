/-
  The law 'hops are counted down': its walk.
-/
import Derived.Test.YtlnjpjeccpnddaaPkD
import Derived.Test.YtlnjpjeccpnddaaFlow
import Derived.Test.YtlnjpjeccpnddaaOpn
namespace Go.Proofs.Ytlnjpjeccpnddaa
open Go Go.RowKit

set_option maxHeartbeats 2000000 in
theorem sameBytes_same {w : World} {B : Nat} {A A' : Option Addr} {n c c' : Nat} {c0 : Nat → Nat} (h : Rws w B 1 A n c (byteR c0)) (h' : Rws w B 1 A' n c' (byteR c0)) (hB : B ≤ w.heap.size) :
    Calls Try.prog 26 #[.slice A n c, .slice A' n c'] w fun e w' => e = .returned (.bool true) ∧ Below w.heap.size w w' := by
  obtain ⟨⟨hnc, hcm⟩, hrow⟩ := h
  obtain ⟨⟨hnc', hcm'⟩, hrow'⟩ := h'
  unfold maxLen at hcm hcm'
  go_enter Try.func26, Try.ntmps26
  go_wp2
  go_loopw [5] (fun i wr => ∃ k : Nat, k ≤ n ∧ i = .int .i64 k ∧ Below w.heap.size w wr) (fun i _ => n - (intOf i).toNat)
  case atStart => exact ⟨0, by omega, rfl, by (repeat (first | exact Below.refl _ _ | assumption | refine Below.al ?_ _ | refine Below.dr ?_ | (refine Below.st ?_ (by simp <;> omega) _) | (refine Below.tr ?_ (by assumption))))⟩
  case round =>
    obtain ⟨k, hk, rfl, hBw⟩ := hrel
    by_cases hlt : k < n
    · obtain ⟨b, off, rfl, hbB, hc⟩ := hrow (by omega)
      obtain ⟨b', off', rfl, hbB', hc'⟩ := hrow' (by omega)
      have hr := hc k hlt
      rw [Nat.mul_one] at hr
      have hr' := hc' k hlt
      rw [Nat.mul_one] at hr'
      have hbs : b < wr.heap.size := by have := hBw.size; omega
      have hbs' : b' < wr.heap.size := by have := hBw.size; omega
      have q0 : wr.cell? ⟨b, off + k, none⟩ = some (.int .u8 (c0 k : Nat)) := (keepc hBw b (by omega) _).trans (hr 0 _ rfl)
      have s0 : wr.cell? ⟨b', off' + k, none⟩ = some (.int .u8 (c0 k : Nat)) := (keepc hBw b' (by omega) _).trans (hr' 0 _ rfl)
      clear hrow hc hr hrow' hc' hr'
      go_wp2
      refine wp_region_still (ds := [(0, 17), (1, 18), (2, 19), (3, 20), (4, 21), (5, 22), (6, 23), (7, 24), (8, 25)]) 9 (by kernel_rfl) (by kernel_rfl) (by first | exact .inl rfl | exact .inr (by kernel_rfl)) (by rfl) rfl rfl ?_
      apply still_cons
      · intro a' w' hLe hfr hdep
        have e0 := hfr 0 rfl
        conv at e0 => rhs; whnf
        have f0 := e0; simp only [Array.getD_eq_getD_getElem?] at f0
        refine wpOp_plain rfl rfl (fun K hK => ?_)
        go_simp
        exact hK _ _ ⟨rfl, Below.refl _ _⟩
      apply still_cons
      · intro a' w' hLe hfr hdep
        have e5 := hfr 5 rfl
        conv at e5 => rhs; whnf
        have f5 := e5; simp only [Array.getD_eq_getD_getElem?] at f5
        refine wpOp_plain rfl rfl (fun K hK => ?_)
        go_simp
        exact hK _ _ ⟨rfl, Below.refl _ _⟩
      apply still_cons
      · intro a' w' hLe hfr hdep
        have e17 := hdep 0 17 (Nat.le_of_ble_eq_true rfl) rfl rfl
        conv at e17 => rhs; whnf
        have f17 := e17; simp only [Array.getD_eq_getD_getElem?] at f17
        have e18 := hdep 1 18 (Nat.le_of_ble_eq_true rfl) rfl rfl
        conv at e18 => rhs; whnf
        have f18 := e18; simp only [Array.getD_eq_getD_getElem?] at f18
        refine wpOp_plain rfl rfl (fun K hK => ?_)
        go_simp
        exact hK _ _ ⟨rfl, Below.refl _ _⟩
      apply still_cons
      · intro a' w' hLe hfr hdep
        have e19 := hdep 2 19 (Nat.le_of_ble_eq_true rfl) rfl rfl
        conv at e19 => rhs; whnf
        have f19 := e19; simp only [Array.getD_eq_getD_getElem?] at f19
        have kc := fun i => keepc hLe (b) (by (try simp) <;> omega) i
        have kf := fun i => keepf hLe (b) (by (try simp) <;> omega) i
        have kc := fun i => keepc hLe (b') (by (try simp) <;> omega) i
        have kf := fun i => keepf hLe (b') (by (try simp) <;> omega) i
        refine wpOp_plain rfl rfl (fun K hK => ?_)
        go_simp
        exact hK _ _ ⟨rfl, Below.refl _ _⟩
      apply still_cons
      · intro a' w' hLe hfr hdep
        have e1 := hfr 1 rfl
        conv at e1 => rhs; whnf
        have f1 := e1; simp only [Array.getD_eq_getD_getElem?] at f1
        refine wpOp_plain rfl rfl (fun K hK => ?_)
        go_simp
        exact hK _ _ ⟨rfl, Below.refl _ _⟩
      apply still_cons
      · intro a' w' hLe hfr hdep
        have e5 := hfr 5 rfl
        conv at e5 => rhs; whnf
        have f5 := e5; simp only [Array.getD_eq_getD_getElem?] at f5
        refine wpOp_plain rfl rfl (fun K hK => ?_)
        go_simp
        exact hK _ _ ⟨rfl, Below.refl _ _⟩
      apply still_cons
      · intro a' w' hLe hfr hdep
        have e21 := hdep 4 21 (Nat.le_of_ble_eq_true rfl) rfl rfl
        conv at e21 => rhs; whnf
        have f21 := e21; simp only [Array.getD_eq_getD_getElem?] at f21
        have e22 := hdep 5 22 (Nat.le_of_ble_eq_true rfl) rfl rfl
        conv at e22 => rhs; whnf
        have f22 := e22; simp only [Array.getD_eq_getD_getElem?] at f22
        refine wpOp_plain rfl rfl (fun K hK => ?_)
        go_simp
        exact hK _ _ ⟨rfl, Below.refl _ _⟩
      apply still_cons
      · intro a' w' hLe hfr hdep
        have e23 := hdep 6 23 (Nat.le_of_ble_eq_true rfl) rfl rfl
        conv at e23 => rhs; whnf
        have f23 := e23; simp only [Array.getD_eq_getD_getElem?] at f23
        have kc := fun i => keepc hLe (b) (by (try simp) <;> omega) i
        have kf := fun i => keepf hLe (b) (by (try simp) <;> omega) i
        have kc := fun i => keepc hLe (b') (by (try simp) <;> omega) i
        have kf := fun i => keepf hLe (b') (by (try simp) <;> omega) i
        refine wpOp_plain rfl rfl (fun K hK => ?_)
        go_simp
        exact hK _ _ ⟨rfl, Below.refl _ _⟩
      apply still_cons
      · intro a' w' hLe hfr hdep
        have e20 := hdep 3 20 (Nat.le_of_ble_eq_true rfl) rfl rfl
        conv at e20 => rhs; whnf
        have f20 := e20; simp only [Array.getD_eq_getD_getElem?] at f20
        have e24 := hdep 7 24 (Nat.le_of_ble_eq_true rfl) rfl rfl
        conv at e24 => rhs; whnf
        have f24 := e24; simp only [Array.getD_eq_getD_getElem?] at f24
        refine wpOp_plain rfl rfl (fun K hK => ?_)
        go_simp
        exact hK _ _ ⟨rfl, Below.refl _ _⟩
      apply still_nil
      intro w1 hb1
      simp only [putAll, List.drop_succ_cons, List.drop_zero]
      go_simp
      go_wp2
      go_roundw
      case rel => exact ⟨k + 1, by omega, by go_num, Below.tr hBw hb1⟩
      case measure => simp [intOf]; omega
    · obtain rfl : k = n := by omega
      go_wp2
      go_ret
      exact ⟨rfl, hBw⟩
set_option maxHeartbeats 4000000 in
theorem samePacket_same {w : World} {A A' : Option Addr} {n c c' : Nat} {z : Nat → Nat} (f t k l : Int) (h : Rws w w.heap.size 1 A n c (byteR z)) (h' : Rws w w.heap.size 1 A' n c' (byteR z)) :
    Calls Try.prog 9 #[.agg #[.int .i64 f, .int .i64 t, .int .i64 k, .int .i64 l, .slice A n c], .agg #[.int .i64 f, .int .i64 t, .int .i64 k, .int .i64 l, .slice A' n c']] w fun e w' => e = .returned (.bool true) ∧ Below w.heap.size w w' := by
  have hb := Below.tr (below_new' w (.cells #[.int .i64 f, .int .i64 t, .int .i64 k, .int .i64 l, .slice A n c] 24)) (below_new' _ (.cells #[.int .i64 f, .int .i64 t, .int .i64 k, .int .i64 l, .slice A' n c'] 24))
  have H := Lib.hid (h.next hb)
  have H' := Lib.hid (h'.next hb)
  clear h h'
  go_enter Try.func9, Try.ntmps9
  go_wp2_with fail
  refine (sameBytes_same H.out H'.out (Nat.le_refl _)).mono ?_
  rintro e w1 ⟨rfl, hb1⟩
  go_wp2
  go_ret
  exact ⟨rfl, Below.tr hb hb1⟩
theorem grown_cell {w w' : World} {r : Nat} (h : w.grownBy w' (some r)) {b : Nat} (hb : b < w.heap.size) (hd : b ≠ r) (i : Nat) : w'.cell? ⟨b, i, none⟩ = w.cell? ⟨b, i, none⟩ :=
  World.cell?_of_block (w := w) (a := ⟨b, _, none⟩) (h.block b hb (by simpa using hd))
theorem own_far {w w' : World} {B x : Nat} {A : Option Addr} {n c : Nat} {R : Nat → List Value} {cs : Array Value} (h : Own w B 5 1 A n c R) (hg : w.grownBy w' (some x)) (hx : w.heap[x]? = some (.cells cs 24 (0, 0))) : Own w' B 5 1 A n c R := by
  obtain ⟨h1, h2, h3⟩ := h
  refine ⟨h1, h2, h3.imp id fun ⟨g, h4, h5, h6⟩ => ⟨g, h4, h5, h6.keep (hg.block g h6.lt ?_)⟩⟩
  have : g ≠ x := fun e => by
    subst e
    obtain ⟨cs, q1, _⟩ := h6
    exact typed_ne q1 hx (by decide)
  simpa using this
/-- A drawn packet, and nothing else. -/
def DrawnKK (w : World) (e : Ending) (w' : World) : Prop :=
  ∃ f t k l : Int, ∃ b n cc z, e = .returned (.agg #[.int .i64 f, .int .i64 t, .int .i64 k, .int .i64 l, .slice (some ⟨b, 0, none⟩) n cc]) ∧ n ≤ 81 ∧ Own w' w.heap.size 5 1 (some ⟨b, 0, none⟩) n cc (byteR z) ∧ Below w.heap.size w w'
set_option maxHeartbeats 2000000 in
theorem drawHopPacket_any {w : World} {A : Option Addr} {n c : Nat} (h : Bytes w w.heap.size A n c) :
    Calls Try.prog 6 #[.slice A n c] w (DrawnKK w) := by
  go_enter Try.func6, Try.ntmps6
  go_wp2_with fail
  refine (open_any (h.alloc (Nat.le_refl _) _) (by simp)).mono ?_
  rintro e w1 ⟨m, g, rfl, hgl, hr1, hb1, hs1⟩
  have hB1 : Below w.heap.size w w1 := (below_new w _).trans (hb1.mono (by simp))
  have hz1 := (hb1.block w.heap.size (by simp)).trans (heap_alloc_new w _)
  have hs2 := hb1.size
  simp at hgl hs2
  clear hs1
  go_wp2_with fail
  refine (l20Packet_any hr1 _ (by omega) (by omega)).mono ?_
  rintro e w2 ⟨f, t, k, l, b, n1, cc, z, q, rfl, h1, h2, h3, hN, h4, h5, h6⟩
  have hz2 := heap_far hz1 h6 (by omega)
  have hs3 := h6.size
  have hB2 : Below w.heap.size w w2 := hB1.trans (below_grown h6 hB1.size (by omega))
  have hnz : b ≠ w.heap.size := fun e => by
    subst e
    obtain ⟨cs, q1, _⟩ := hN
    exact typed_ne q1 hz2 (by decide)
  clear hz1 h6
  go_wp2_with (refine wpList_store_var rfl 24 (.tmp 2) (.tmp 5) rfl #[.int .i64 f, .int .i64 t, .int .i64 k, .int .i64 l, .slice (some ⟨b, 0, none⟩) n1 cc] hz2 rfl rfl (by kernel_rfl) rfl rfl ?_)
  intro w9 hh9 hg9 hs9
  obtain ⟨k9, f9⟩ := blk hh9
  have hN9 := hN.keep (hg9.block b hN.lt (by simpa using hnz))
  go_wp2
  refine bodyPost_ret (v := .agg #[.int .i64 f, .int .i64 t, .int .i64 k, .int .i64 l, .slice (some ⟨b, 0, none⟩) n1 cc]) (by simp [results, Try.results6, go_sem, k9]) rfl ⟨f, t, k, l, b, n1, cc, cap z, rfl, h1, Own.of_new hN9 h2 (by omega), hB2.trans (below_grown hg9 hB2.size (Nat.le_refl _))⟩
theorem hop_yes {f t k l : Int} {n : Nat} (h : hopB f t k l n = true) : hopI (hopB f t k l n) f = f ∧ hopI (hopB f t k l n) t = t ∧ hopI (hopB f t k l n) k = k ∧ hopI (hopB f t k l n) (l - 1) = l - 1 ∧ hopN (hopB f t k l n) n = n ∧ 0 ≤ l ∧ l ≤ 64 := by
  rw [h]
  simp only [hopB, Bool.and_eq_true, pktB] at h
  have := inB_true.1 h.1.1.2
  exact ⟨rfl, rfl, rfl, rfl, rfl, by omega, by omega⟩
theorem hop_no {f t k l : Int} {n : Nat} (h : hopB f t k l n = false) : hopN (hopB f t k l n) n = 0 ∧ (pktB f t k l n = false ∨ l = 0) := by
  rw [h]
  refine ⟨rfl, ?_⟩
  simp only [hopB] at h
  cases hp : pktB f t k l n
  · exact .inl rfl
  · rw [hp] at h
    exact .inr (by simpa using h)
set_option maxRecDepth 20000 in
set_option maxHeartbeats 16000000 in
theorem hopPacket_walk {w : World} {A : Option Addr} {n c : Nat} (h : Bytes w w.heap.size A n c) :
    Calls Try.prog 3 #[.slice A n c] w (Truly w) := by
  by_cases hn : 1048576 < n
  · go_enter Try.func3, Try.ntmps3
    go_wp2
    go_ret
    exact ⟨rfl, Below.refl _ _⟩
  go_enter Try.func3, Try.ntmps3
  go_wp2_with fail
  refine (drawHopPacket_any h).mono ?_
  rintro e w1 ⟨f, t, k, l, b, n1, cc, z, rfl, hn1, hO1, hB1⟩
  have op_1 := hO1
  have hs1 := hB1.size
  have hcc := hO1.1
  have hnc := hO1.2.1
  unfold maxLen at hcc
  clear hO1 hn h
  have hI := fun (w : World) (B : Nat) (A : Option Addr) (c : Nat) (h : Rws w B 1 A n1 c (byteR z)) (hB : B ≤ w.heap.size) => implHopPacket_any f t k l h hB (by omega)
  have hS := fun (w : World) (B : Nat) (A : Option Addr) (c : Nat) (h : Rws w B 1 A n1 c (byteR z)) (hB : B ≤ w.heap.size) => specHopPacket_any f t k l h hB (by omega)
  have hN := hopN_le (hopB f t k l n1) n1
  have hY := fun h => hop_yes (f := f) (t := t) (k := k) (l := l) (n := n1) h
  have hW := fun h => hop_no (f := f) (t := t) (k := k) (l := l) (n := n1) h
  generalize hopI (hopB f t k l n1) f = f' at hI hS hY hW
  generalize hopI (hopB f t k l n1) t = t' at hI hS hY hW
  generalize hopI (hopB f t k l n1) k = k' at hI hS hY hW
  generalize hopI (hopB f t k l n1) (l - 1) = l' at hI hS hY hW
  generalize hopN (hopB f t k l n1) n1 = n' at hI hS hN hY hW
  generalize hopB f t k l n1 = b0 at hI hS hY hW
  unfold HopV at hI hS
  have HI := Lib.hid hI
  have HS := Lib.hid hS
  have HY := Lib.hid hY
  have HW := Lib.hid hW
  clear hI hS hY hW
  have jP : ∀ i, (w1.alloc (.cells #[.int .i64 f, .int .i64 t, .int .i64 k, .int .i64 l, .slice (some ⟨b, 0, none⟩) n1 cc] 24)).cell? ⟨w1.heap.size, i, none⟩ = #[Value.int .i64 f, .int .i64 t, .int .i64 k, .int .i64 l, .slice (some ⟨b, 0, none⟩) n1 cc][i]? := (blk (heap_alloc_new w1 (.cells #[.int .i64 f, .int .i64 t, .int .i64 k, .int .i64 l, .slice (some ⟨b, 0, none⟩) n1 cc] 24))).1
  go_wp2_with fail
  clear jP
  obtain ⟨w2, e2⟩ : ∃ W : World, W = w1.alloc (.cells #[.int .i64 f, .int .i64 t, .int .i64 k, .int .i64 l, .slice (some ⟨b, 0, none⟩) n1 cc] 24) := ⟨_, rfl⟩
  have hb2 : Below w1.heap.size w1 w2 := by rw [e2]; exact below_new' _ _
  have zs2 : w1.heap.size < w2.heap.size := by rw [e2]; simp
  rw [← e2]
  have hs2 := hb2.size
  have hB2 := Below.tr hB1 hb2
  have op_2 := op_1.next hb2
  clear hb2 op_1
  have qP_2 : w2.heap[w1.heap.size]? = some (.cells #[.int .i64 f, .int .i64 t, .int .i64 k, .int .i64 l, .slice (some ⟨b, 0, none⟩) n1 cc] 24 (0, 0)) := by rw [e2]; exact heap_alloc_new w1 _
  clear e2
  refine (HI.out _ _ _ _ op_2.rows (Nat.le_refl _)).mono ?_
  rintro e w3 ⟨Ax, cx, rfl, hOx, hb3⟩
  have hs3 := hb3.size
  have hB3 := Below.tr hB2 hb3
  have qP_3 := (hb3.block (w1.heap.size) (by omega)).trans qP_2
  have op_3 := op_2.next hb3
  clear hb3 qP_2 op_2
  have ox_3 := hOx
  clear hOx
  have jP := fun i => (keepc (below_new' w3 (.cells #[.int .i64 f', .int .i64 t', .int .i64 k', .int .i64 l', .slice Ax n' cx] 24)) (w1.heap.size) (by omega) i).trans ((blk qP_3).1 i)
  have jX : ∀ i, (w3.alloc (.cells #[.int .i64 f', .int .i64 t', .int .i64 k', .int .i64 l', .slice Ax n' cx] 24)).cell? ⟨w3.heap.size, i, none⟩ = #[Value.int .i64 f', .int .i64 t', .int .i64 k', .int .i64 l', .slice Ax n' cx][i]? := (blk (heap_alloc_new w3 (.cells #[.int .i64 f', .int .i64 t', .int .i64 k', .int .i64 l', .slice Ax n' cx] 24))).1
  go_wp2_with fail
  clear jP jX
  obtain ⟨w4, e4⟩ : ∃ W : World, W = w3.alloc (.cells #[.int .i64 f', .int .i64 t', .int .i64 k', .int .i64 l', .slice Ax n' cx] 24) := ⟨_, rfl⟩
  have hb4 : Below w3.heap.size w3 w4 := by rw [e4]; exact below_new' _ _
  have zs4 : w3.heap.size < w4.heap.size := by rw [e4]; simp
  rw [← e4]
  have hs4 := hb4.size
  have hB4 := Below.tr hB3 hb4
  have qP_4 := (hb4.block (w1.heap.size) (by omega)).trans qP_3
  have op_4 := op_3.next hb4
  have ox_4 := ox_3.next hb4
  clear hb4 qP_3 op_3 ox_3
  have qX_4 : w4.heap[w3.heap.size]? = some (.cells #[.int .i64 f', .int .i64 t', .int .i64 k', .int .i64 l', .slice Ax n' cx] 24 (0, 0)) := by rw [e4]; exact heap_alloc_new w3 _
  clear e4
  refine (HS.out _ _ _ _ op_4.rows (Nat.le_refl _)).mono ?_
  rintro e w5 ⟨Ay, cy, rfl, hOy, hb5⟩
  have hs5 := hb5.size
  have hB5 := Below.tr hB4 hb5
  have qP_5 := (hb5.block (w1.heap.size) (by omega)).trans qP_4
  have qX_5 := (hb5.block (w3.heap.size) (by omega)).trans qX_4
  have op_5 := op_4.next hb5
  have ox_5 := ox_4.next hb5
  clear hb5 qP_4 qX_4 op_4 ox_4
  have oy_5 := hOy
  clear hOy
  have jP := fun i => (keepc (below_new' w5 (.cells #[.int .i64 f', .int .i64 t', .int .i64 k', .int .i64 l', .slice Ay n' cy] 24)) (w1.heap.size) (by omega) i).trans ((blk qP_5).1 i)
  have jX := fun i => (keepc (below_new' w5 (.cells #[.int .i64 f', .int .i64 t', .int .i64 k', .int .i64 l', .slice Ay n' cy] 24)) (w3.heap.size) (by omega) i).trans ((blk qX_5).1 i)
  have jY : ∀ i, (w5.alloc (.cells #[.int .i64 f', .int .i64 t', .int .i64 k', .int .i64 l', .slice Ay n' cy] 24)).cell? ⟨w5.heap.size, i, none⟩ = #[Value.int .i64 f', .int .i64 t', .int .i64 k', .int .i64 l', .slice Ay n' cy][i]? := (blk (heap_alloc_new w5 (.cells #[.int .i64 f', .int .i64 t', .int .i64 k', .int .i64 l', .slice Ay n' cy] 24))).1
  go_wp2_with fail
  clear jP jX jY
  obtain ⟨w6, e6⟩ : ∃ W : World, W = w5.alloc (.cells #[.int .i64 f', .int .i64 t', .int .i64 k', .int .i64 l', .slice Ay n' cy] 24) := ⟨_, rfl⟩
  have hb6 : Below w5.heap.size w5 w6 := by rw [e6]; exact below_new' _ _
  have zs6 : w5.heap.size < w6.heap.size := by rw [e6]; simp
  rw [← e6]
  have hs6 := hb6.size
  have hB6 := Below.tr hB5 hb6
  have qP_6 := (hb6.block (w1.heap.size) (by omega)).trans qP_5
  have qX_6 := (hb6.block (w3.heap.size) (by omega)).trans qX_5
  have op_6 := op_5.next hb6
  have ox_6 := ox_5.next hb6
  have oy_6 := oy_5.next hb6
  clear hb6 qP_5 qX_5 op_5 ox_5 oy_5
  have qY_6 : w6.heap[w5.heap.size]? = some (.cells #[.int .i64 f', .int .i64 t', .int .i64 k', .int .i64 l', .slice Ay n' cy] 24 (0, 0)) := by rw [e6]; exact heap_alloc_new w5 _
  clear e6
  refine (samePacket_same f' t' k' l' ox_6.rows oy_6.rows).mono ?_
  rintro e w7 ⟨rfl, hb7⟩
  have hs7 := hb7.size
  have hB7 := Below.tr hB6 hb7
  have qP_7 := (hb7.block (w1.heap.size) (by omega)).trans qP_6
  have qX_7 := (hb7.block (w3.heap.size) (by omega)).trans qX_6
  have qY_7 := (hb7.block (w5.heap.size) (by omega)).trans qY_6
  have op_7 := op_6.next hb7
  have ox_7 := ox_6.next hb7
  have oy_7 := oy_6.next hb7
  clear hb7 qP_6 qX_6 qY_6 op_6 ox_6 oy_6
  cases b0 with
  | false =>
    obtain ⟨rfl, hc⟩ := HW.out rfl
    obtain ⟨kP, gP⟩ := blk qP_7
    have tP := heap_lt qP_7
    obtain ⟨kX, gX⟩ := blk qX_7
    have tX := heap_lt qX_7
    obtain ⟨kY, gY⟩ := blk qY_7
    have tY := heap_lt qY_7
    cases hv : pktB f t k l n1 with
    | false =>
      go_wp2_with (first | (go_at_call 11; refine (alive_any _).mono ?_; rintro e wa ⟨rfl, hba⟩) | (go_at_call 10; refine (implPacketValid_any f t k l _).mono ?_; rintro e wv ⟨rfl, hbv⟩; have kPv := fun i => (keepc hbv (w1.heap.size) (by omega) i).trans (kP i)))
      go_ret
      exact ⟨rfl, Below.tr (Below.tr hB7 hbv) (by assumption)⟩
    | true =>
      obtain rfl : l = 0 := by rcases hc with hc | hc; (rw [hv] at hc; cases hc); exact hc
      go_wp2_with (first | (go_at_call 11; refine (alive_any _).mono ?_; rintro e wa ⟨rfl, hba⟩) | (go_at_call 10; refine (implPacketValid_any f t k 0 _).mono ?_; rintro e wv ⟨rfl, hbv⟩; have kPv := fun i => (keepc hbv (w1.heap.size) (by omega) i).trans (kP i)))
      go_ret
      exact ⟨rfl, Below.tr (Below.tr hB7 hbv) (by assumption)⟩
  | true =>
    obtain ⟨rfl, rfl, rfl, rfl, rfl, h0, h64⟩ := HY.out rfl
    have e1 : IntKind.i64.wrap (l - 1 + 1) = l := by rw [IntWalk.i64_in _ (by omega)]; omega
    obtain ⟨kP, gP⟩ := blk qP_7
    have tP := heap_lt qP_7
    obtain ⟨kX, gX⟩ := blk qX_7
    have tX := heap_lt qX_7
    obtain ⟨kY, gY⟩ := blk qY_7
    have tY := heap_lt qY_7
    go_wp2_with (refine wpList_store_at rfl 3 (.tmp 54) (.tmp 53) rfl (.int .i64 l) #[.int .i64 f', .int .i64 t', .int .i64 k', .int .i64 l, .slice Ax n' cx] qX_7 rfl rfl (by kernel_rfl) rfl rfl (by simp) rfl ?_; intro w90 hX90 hg90 hs90; obtain ⟨kX90, fX90⟩ := blk hX90; have kP90 := fun i => (grown_cell hg90 (b := w1.heap.size) (by omega) (by omega) i).trans (kP i))
    refine (samePacket_same f' t' k' l (own_far ox_7 hg90 qX_7).rows (own_far op_7 hg90 qX_7).rows).mono ?_
    rintro e w91 ⟨rfl, hb91⟩
    go_wp2
    go_ret
    exact ⟨rfl, Below.tr (Below.of_grown hB7 hg90 (by omega)) hb91⟩
end Go.Proofs.Ytlnjpjeccpnddaa
