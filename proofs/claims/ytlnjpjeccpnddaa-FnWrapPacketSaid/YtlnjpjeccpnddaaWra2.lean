/-
  WrapPacket, in the program and in the reference.
-/
import Derived.Test.YtlnjpjeccpnddaaWra1
import Derived.Test.YtlnjpjeccpnddaaPush
namespace Go.Proofs.Ytlnjpjeccpnddaa
open Go Go.RowKit

set_option maxHeartbeats 4000000 in
theorem l1OwnPacket_any {w : World} {B : Nat} {A : Option Addr} {n c : Nat} {z : Nat → Nat} (f t k l : Int) (h : Rws w B 1 A n c (byteR z)) (hB : B ≤ w.heap.size) (hn : n ≤ 100000000) :
    Calls Try.prog 36 #[.agg #[.int .i64 f, .int .i64 t, .int .i64 k, .int .i64 l, .slice A n c]] w (PktOwn w f t k l n z) := by
  have hnc := h.1
  unfold maxLen at hnc
  have H := Lib.hid (h.below ((show Below w.heap.size w (((((w.alloc (.cells #[.int .i64 f, .int .i64 t, .int .i64 k, .int .i64 l, .slice A n c] 24)).alloc (.cells #[.int .i64 0, .int .i64 0, .int .i64 0, .int .i64 0, .slice none 0 0] 24)).alloc (.cells #[.int .i64 f, .int .i64 t, .int .i64 k, .int .i64 l, .slice A n c] 24))).alloc (.cells #[] 5)) by (repeat (first | exact Below.refl _ _ | assumption | refine Below.al ?_ _ | refine Below.dr ?_ | (refine Below.st ?_ (by simp <;> omega) _) | (refine Below.tr ?_ (by assumption))))).mono hB))
  have hz := (heap_alloc_old (((w.alloc (.cells #[.int .i64 f, .int .i64 t, .int .i64 k, .int .i64 l, .slice A n c] 24)).alloc (.cells #[.int .i64 0, .int .i64 0, .int .i64 0, .int .i64 0, .slice none 0 0] 24)).alloc (.cells #[.int .i64 f, .int .i64 t, .int .i64 k, .int .i64 l, .slice A n c] 24)) (.cells #[] 5) (r := w.heap.size + 1) (by simp <;> omega)).trans ((heap_alloc_old ((w.alloc (.cells #[.int .i64 f, .int .i64 t, .int .i64 k, .int .i64 l, .slice A n c] 24)).alloc (.cells #[.int .i64 0, .int .i64 0, .int .i64 0, .int .i64 0, .slice none 0 0] 24)) (.cells #[.int .i64 f, .int .i64 t, .int .i64 k, .int .i64 l, .slice A n c] 24) (r := w.heap.size + 1) (by simp <;> omega)).trans (heap_new1 w (.cells #[.int .i64 f, .int .i64 t, .int .i64 k, .int .i64 l, .slice A n c] 24) (.cells #[.int .i64 0, .int .i64 0, .int .i64 0, .int .i64 0, .slice none 0 0] 24)))
  have hx := (heap_alloc_old (((w.alloc (.cells #[.int .i64 f, .int .i64 t, .int .i64 k, .int .i64 l, .slice A n c] 24)).alloc (.cells #[.int .i64 0, .int .i64 0, .int .i64 0, .int .i64 0, .slice none 0 0] 24)).alloc (.cells #[.int .i64 f, .int .i64 t, .int .i64 k, .int .i64 l, .slice A n c] 24)) (.cells #[] 5) (r := w.heap.size + 1 + 1) (by simp <;> omega)).trans (heap_new2 w (.cells #[.int .i64 f, .int .i64 t, .int .i64 k, .int .i64 l, .slice A n c] 24) (.cells #[.int .i64 0, .int .i64 0, .int .i64 0, .int .i64 0, .slice none 0 0] 24) (.cells #[.int .i64 f, .int .i64 t, .int .i64 k, .int .i64 l, .slice A n c] 24))
  have hAc : Acc ((((w.alloc (.cells #[.int .i64 f, .int .i64 t, .int .i64 k, .int .i64 l, .slice A n c] 24)).alloc (.cells #[.int .i64 0, .int .i64 0, .int .i64 0, .int .i64 0, .slice none 0 0] 24)).alloc (.cells #[.int .i64 f, .int .i64 t, .int .i64 k, .int .i64 l, .slice A n c] 24)).alloc (.cells #[] 5)) w.heap.size 5 1 (.slice (some ⟨w.heap.size + 1 + 1 + 1, 0, none⟩) 0 0) 0 (byteR z) := by
    have := Acc.made (B := w.heap.size) (((w.alloc (.cells #[.int .i64 f, .int .i64 t, .int .i64 k, .int .i64 l, .slice A n c] 24)).alloc (.cells #[.int .i64 0, .int .i64 0, .int .i64 0, .int .i64 0, .slice none 0 0] 24)).alloc (.cells #[.int .i64 f, .int .i64 t, .int .i64 k, .int .i64 l, .slice A n c] 24)) 5 (byteR z) (m := 1) (fun _ => rfl) (by simp <;> omega)
    simpa using this
  clear h
  go_enter Try.func36, Try.ntmps36
  go_wp2_with (first | (at_builtin; refine wpList_pushAll rfl (.tmp 5) (.tmp 7) 22 rfl 5 _ 1 1 Try.underlying22 info_byte (by decide) (by decide) (by decide) rfl hAc rfl H.out (fun _ => rfl) (byteR_one _) (by omega) (by omega) (by simp <;> omega) ?_; intro v' w3 hA hb3 hg3; replace hg3 : (((((w.alloc (.cells #[.int .i64 f, .int .i64 t, .int .i64 k, .int .i64 l, .slice A n c] 24)).alloc (.cells #[.int .i64 0, .int .i64 0, .int .i64 0, .int .i64 0, .slice none 0 0] 24)).alloc (.cells #[.int .i64 f, .int .i64 t, .int .i64 k, .int .i64 l, .slice A n c] 24))).alloc (.cells #[] 5)).grownBy w3 (some (w.heap.size + 1 + 1 + 1)) := hg3; have hx3 := (hg3.block (w.heap.size + 1 + 1) (by simp <;> omega) (by simp <;> omega)).trans hx; have hz3 := (hg3.block (w.heap.size + 1) (by simp <;> omega) (by simp <;> omega)).trans hz; have hB3 : Below w.heap.size w w3 := (show Below w.heap.size w (((((w.alloc (.cells #[.int .i64 f, .int .i64 t, .int .i64 k, .int .i64 l, .slice A n c] 24)).alloc (.cells #[.int .i64 0, .int .i64 0, .int .i64 0, .int .i64 0, .slice none 0 0] 24)).alloc (.cells #[.int .i64 f, .int .i64 t, .int .i64 k, .int .i64 l, .slice A n c] 24))).alloc (.cells #[] 5)) by (repeat (first | exact Below.refl _ _ | assumption | refine Below.al ?_ _ | refine Below.dr ?_ | (refine Below.st ?_ (by simp <;> omega) _) | (refine Below.tr ?_ (by assumption))))).trans hb3; rw [Nat.zero_add, glue_zero] at hA; obtain ⟨A', c', rfl, hO⟩ := hA.own) | (refine wpList_store_at rfl 22 (.tmp 9) (.tmp 8) rfl (.slice A' n c') #[.int .i64 f, .int .i64 t, .int .i64 k, .int .i64 l, .slice A' n c'] hx3 rfl rfl (by kernel_rfl) rfl rfl (by simp) rfl ?_; intro w4 hx4 hg4 hs4; have hz4 := heap_far hz3 hg4 (by omega); obtain ⟨k4, f4⟩ := blk hx4) | (refine wpList_store_var rfl 24 (.tmp 2) (.tmp 10) rfl #[.int .i64 f, .int .i64 t, .int .i64 k, .int .i64 l, .slice A' n c'] hz4 rfl rfl (by kernel_rfl) rfl rfl ?_; intro w9 hh9 hg9 hs9; obtain ⟨k9, f9⟩ := blk hh9))
  have hO9 : Own w9 w.heap.size 5 1 A' n c' (byteR z) := by
    obtain ⟨h1, h2, h3⟩ := hO
    refine ⟨h1, h2, h3.imp id fun ⟨g, h4, h5, h6⟩ => ⟨g, h4, h5, ?_⟩⟩
    have hg : g ≠ w.heap.size + 1 + 1 ∧ g ≠ w.heap.size + 1 := by
      obtain ⟨cs, q1, _⟩ := h6
      refine ⟨fun e => ?_, fun e => ?_⟩
      · subst e; rw [hx3] at q1; cases q1
      · subst e; rw [hz3] at q1; cases q1
    exact (h6.keep (hg4.block g h6.lt (by simpa using hg.1))).keep (hg9.block g (by have := h6.lt; omega) (by simpa using hg.2))
  refine bodyPost_ret (v := .agg #[.int .i64 f, .int .i64 t, .int .i64 k, .int .i64 l, .slice A' n c']) (by simp [results, Try.results36, go_sem, k9]) rfl ⟨A', c', rfl, hO9, Below.of_grown (Below.of_grown hB3 hg4 (by omega)) hg9 (by omega)⟩

/-- Is the packet wrapped? -/
def wrpB (f t k l : Int) (n : Nat) (x y : Int) : Bool := pktB f t k l n && pktB x y 3 64 (n + 6)
theorem own_farP {w w' : World} {B x : Nat} {A : Option Addr} {n c : Nat} {R : Nat → List Value} {cs : Array Value} (h : Own w B 5 1 A n c R) (hg : w.grownBy w' (some x)) (hx : w.heap[x]? = some (.cells cs 24 (0, 0))) : Own w' B 5 1 A n c R := by
  obtain ⟨h1, h2, h3⟩ := h
  refine ⟨h1, h2, h3.imp id fun ⟨g, h4, h5, h6⟩ => ⟨g, h4, h5, h6.keep (hg.block g h6.lt ?_)⟩⟩
  have : g ≠ x := fun e => by
    subst e
    obtain ⟨cs, q1, _⟩ := h6
    exact typed_ne q1 hx (by decide)
  simpa using this
theorem wrp_no1 {f t k l : Int} {n : Nat} {x y : Int} (h : pktB f t k l n = false) : wrpB f t k l n x y = false := by simp [wrpB, h]
theorem wrp_no2 {f t k l : Int} {n : Nat} {x y : Int} (h : pktB x y 3 64 (n + 6) = false) : wrpB f t k l n x y = false := by simp [wrpB, h]
theorem wrp_yes {f t k l : Int} {n : Nat} {x y : Int} (h : pktB f t k l n = true) (h2 : pktB x y 3 64 (n + 6) = true) : wrpB f t k l n x y = true := by simp [wrpB, h, h2]
set_option maxHeartbeats 4000000 in
theorem implWrapPacket_any {w : World} {B : Nat} {A : Option Addr} {n c : Nat} {z : Nat → Nat} (f t k l x y : Int) (h : Rws w B 1 A n c (byteR z)) (hz : ∀ i, z i ≤ 255) (hB : B ≤ w.heap.size) :
    Calls Try.prog 18 #[.agg #[.int .i64 f, .int .i64 t, .int .i64 k, .int .i64 l, .slice A n c], .int .i64 x, .int .i64 y] w (HopV w (hopI (wrpB f t k l n x y) x) (hopI (wrpB f t k l n x y) y) (hopI (wrpB f t k l n x y) 3) (hopI (wrpB f t k l n x y) 64) (hopN (wrpB f t k l n x y) (n + 6)) (wrpB f t k l n x y) (putZ f t k l n z)) := by
  have HH := Lib.hid (h.below ((show Below w.heap.size w ((w.alloc (.cells #[.int .i64 f, .int .i64 t, .int .i64 k, .int .i64 l, .slice A n c] 24)).alloc (.cells #[.int .i64 0, .int .i64 0, .int .i64 0, .int .i64 0, .slice none 0 0] 24)) by (repeat (first | exact Below.refl _ _ | assumption | refine Below.al ?_ _ | refine Below.dr ?_ | (refine Below.st ?_ (by simp <;> omega) _) | (refine Below.tr ?_ (by assumption))))).mono hB))
  clear h
  go_enter Try.func18, Try.ntmps18
  go_wp2_with fail
  refine (implPutPacket_any f t k l HH.out hz (by simp; omega)).mono ?_
  rintro e w1 ⟨A1, c1, rfl, hO1, hb1⟩
  replace hO1 := hO1.more (show Below w.heap.size w ((w.alloc (.cells #[.int .i64 f, .int .i64 t, .int .i64 k, .int .i64 l, .slice A n c] 24)).alloc (.cells #[.int .i64 0, .int .i64 0, .int .i64 0, .int .i64 0, .slice none 0 0] 24)) by (repeat (first | exact Below.refl _ _ | assumption | refine Below.al ?_ _ | refine Below.dr ?_ | (refine Below.st ?_ (by simp <;> omega) _) | (refine Below.tr ?_ (by assumption))))).size
  have hq1 := (hb1.block w.heap.size (by simp; omega)).trans ((heap_alloc_old (w.alloc (.cells #[.int .i64 f, .int .i64 t, .int .i64 k, .int .i64 l, .slice A n c] 24)) (.cells #[.int .i64 0, .int .i64 0, .int .i64 0, .int .i64 0, .slice none 0 0] 24) (by simp)).trans (heap_alloc_new w (.cells #[.int .i64 f, .int .i64 t, .int .i64 k, .int .i64 l, .slice A n c] 24)))
  have hz1 := (hb1.block (w.heap.size + 1) (by simp)).trans (heap_new1 w (.cells #[.int .i64 f, .int .i64 t, .int .i64 k, .int .i64 l, .slice A n c] 24) (.cells #[.int .i64 0, .int .i64 0, .int .i64 0, .int .i64 0, .slice none 0 0] 24))
  have hB1 : Below w.heap.size w w1 := Below.tr (by (repeat (first | exact Below.refl _ _ | assumption | refine Below.al ?_ _ | refine Below.dr ?_ | (refine Below.st ?_ (by simp <;> omega) _) | (refine Below.tr ?_ (by assumption))))) hb1
  have hs1 := hb1.size
  simp at hs1
  obtain ⟨k1, f1⟩ := blk hq1
  have hl1 := heap_lt hq1
  have hl1z := heap_lt hz1
  obtain ⟨N, hN⟩ : ∃ N, N = putN f t k l n := ⟨_, rfl⟩
  rw [← hN] at hO1
  rw [← hN]
  have HNp := Lib.hid hN
  clear hb1 hN
  go_wp2_with fail
  refine (implPacketValid_any f t k l _).mono ?_
  rintro e w2 ⟨rfl, hb2⟩
  have hb12 : Below w1.heap.size w1 w2 := Below.tr (show Below w1.heap.size w1 (w1.alloc (.cells #[.int .i64 x, .int .i64 y, .int .i64 3, .int .i64 64, .slice A1 N c1] 24)) by (repeat (first | exact Below.refl _ _ | assumption | refine Below.al ?_ _ | refine Below.dr ?_ | (refine Below.st ?_ (by simp <;> omega) _) | (refine Below.tr ?_ (by assumption))))) hb2
  have ho2 := (hb2.block w1.heap.size (by simp)).trans (heap_alloc_new w1 (.cells #[.int .i64 x, .int .i64 y, .int .i64 3, .int .i64 64, .slice A1 N c1] 24))
  have hz2 := (hb12.block (w.heap.size + 1) (by omega)).trans hz1
  have hB2 := Below.tr hB1 hb12
  have hO2 := hO1.next hb12
  have hs2 := hb12.size
  have hl2 := heap_lt ho2
  have hl2z := heap_lt hz2
  obtain ⟨k2, f2⟩ := blk ho2
  clear hb2 hq1 hz1 k1 f1 hO1
  cases hv : pktB f t k l n with
  | false =>
    have HW := Lib.hid (wrp_no1 (x := x) (y := y) hv)
    clear hv
    go_wp2_with (refine wpList_store_var rfl 24 (.tmp 6) (.tmp 22) rfl #[.int .i64 0, .int .i64 0, .int .i64 0, .int .i64 0, .slice none 0 0] hz2 rfl rfl (by kernel_rfl) rfl rfl ?_; intro w9 hh9 hg9 hs9; obtain ⟨k9, f9⟩ := blk hh9)
    refine bodyPost_ret (v := .tuple #[.agg #[.int .i64 0, .int .i64 0, .int .i64 0, .int .i64 0, .slice none 0 0], .bool false]) (by simp [results, Try.results18, go_sem, k9]) rfl ⟨none, 0, by rw [HW.out] <;> rfl, by rw [HW.out]; exact Own.nil _ _ _ _ _ _ _ (by unfold maxLen; omega), Below.of_grown hB2 hg9 (by omega)⟩
  | true =>
    have HN := Lib.hid (show N = n + 6 by rw [HNp.out]; simp [putN, hv])
    have HV := Lib.hid hv
    clear hv
    go_wp2_with fail
    refine (implPacketValid_any x y 3 64 _).mono ?_
    rintro e w3 ⟨rfl, hb3⟩
    have hB3 := Below.tr hB2 hb3
    have hz3 := (hb3.block (w.heap.size + 1) (by omega)).trans hz2
    have ho3 := (hb3.block w1.heap.size (by omega)).trans ho2
    have hO3 := hO2.next hb3
    have hl3 := heap_lt ho3
    have hl3z := heap_lt hz3
    obtain ⟨k3, f3⟩ := blk ho3
    clear hb3 k2 f2
    cases hv2 : pktB x y 3 64 N with
    | false =>
      have HW := Lib.hid (wrp_no2 (f := f) (t := t) (k := k) (l := l) (by rw [← HN.out]; exact hv2))
      clear hv2
      go_wp2_with (refine wpList_store_var rfl 24 (.tmp 6) (.tmp 22) rfl #[.int .i64 0, .int .i64 0, .int .i64 0, .int .i64 0, .slice none 0 0] hz3 rfl rfl (by kernel_rfl) rfl rfl ?_; intro w9 hh9 hg9 hs9; obtain ⟨k9, f9⟩ := blk hh9)
      refine bodyPost_ret (v := .tuple #[.agg #[.int .i64 0, .int .i64 0, .int .i64 0, .int .i64 0, .slice none 0 0], .bool false]) (by simp [results, Try.results18, go_sem, k9]) rfl ⟨none, 0, by rw [HW.out] <;> rfl, by rw [HW.out]; exact Own.nil _ _ _ _ _ _ _ (by unfold maxLen; omega), Below.of_grown hB3 hg9 (by omega)⟩
    | true =>
      have HW := Lib.hid (wrp_yes HV.out (by rw [← HN.out]; exact hv2))
      clear hv2
      go_wp2_with (refine wpList_store_var rfl 24 (.tmp 6) (.tmp 23) rfl #[.int .i64 x, .int .i64 y, .int .i64 3, .int .i64 64, .slice A1 N c1] hz3 rfl rfl (by kernel_rfl) rfl rfl ?_; intro w9 hh9 hg9 hs9; obtain ⟨k9, f9⟩ := blk hh9)
      have hO9 := own_farP hO3 hg9 hz3
      refine bodyPost_ret (v := .tuple #[.agg #[.int .i64 x, .int .i64 y, .int .i64 3, .int .i64 64, .slice A1 N c1], .bool true]) (by simp [results, Try.results18, go_sem, k9]) rfl ⟨A1, c1, by rw [HW.out, HN.out] <;> rfl, by rw [HW.out]; exact (show Own w9 w.heap.size 5 1 A1 (n + 6) c1 (byteR (putZ f t k l n z)) from HN.out ▸ hO9), Below.of_grown hB3 hg9 (by omega)⟩
set_option maxHeartbeats 4000000 in
theorem specWrapPacket_any {w : World} {B : Nat} {A : Option Addr} {n c : Nat} {z : Nat → Nat} (f t k l x y : Int) (h : Rws w B 1 A n c (byteR z)) (hz : ∀ i, z i ≤ 255) (hB : B ≤ w.heap.size) (hn : n ≤ 100000000) :
    Calls Try.prog 19 #[.agg #[.int .i64 f, .int .i64 t, .int .i64 k, .int .i64 l, .slice A n c], .int .i64 x, .int .i64 y] w (HopV w (hopI (wrpB f t k l n x y) x) (hopI (wrpB f t k l n x y) y) (hopI (wrpB f t k l n x y) 3) (hopI (wrpB f t k l n x y) 64) (hopN (wrpB f t k l n x y) (n + 6)) (wrpB f t k l n x y) (putZ f t k l n z)) := by
  have HH := Lib.hid (h.below ((show Below w.heap.size w ((w.alloc (.cells #[.int .i64 f, .int .i64 t, .int .i64 k, .int .i64 l, .slice A n c] 24)).alloc (.cells #[.int .i64 0, .int .i64 0, .int .i64 0, .int .i64 0, .slice none 0 0] 24)) by (repeat (first | exact Below.refl _ _ | assumption | refine Below.al ?_ _ | refine Below.dr ?_ | (refine Below.st ?_ (by simp <;> omega) _) | (refine Below.tr ?_ (by assumption))))).mono hB))
  clear h
  go_enter Try.func19, Try.ntmps19
  go_wp2_with fail
  refine (l1OwnPacket_any f t k l HH.out (by simp; omega) hn).mono ?_
  rintro e w1 ⟨A0, c0, rfl, hO0, hb1⟩
  replace hO0 := hO0.more (show Below w.heap.size w ((w.alloc (.cells #[.int .i64 f, .int .i64 t, .int .i64 k, .int .i64 l, .slice A n c] 24)).alloc (.cells #[.int .i64 0, .int .i64 0, .int .i64 0, .int .i64 0, .slice none 0 0] 24)) by (repeat (first | exact Below.refl _ _ | assumption | refine Below.al ?_ _ | refine Below.dr ?_ | (refine Below.st ?_ (by simp <;> omega) _) | (refine Below.tr ?_ (by assumption))))).size
  have hq1 := (hb1.block w.heap.size (by simp; omega)).trans ((heap_alloc_old (w.alloc (.cells #[.int .i64 f, .int .i64 t, .int .i64 k, .int .i64 l, .slice A n c] 24)) (.cells #[.int .i64 0, .int .i64 0, .int .i64 0, .int .i64 0, .slice none 0 0] 24) (by simp)).trans (heap_alloc_new w (.cells #[.int .i64 f, .int .i64 t, .int .i64 k, .int .i64 l, .slice A n c] 24)))
  have hz1 := (hb1.block (w.heap.size + 1) (by simp)).trans (heap_new1 w (.cells #[.int .i64 f, .int .i64 t, .int .i64 k, .int .i64 l, .slice A n c] 24) (.cells #[.int .i64 0, .int .i64 0, .int .i64 0, .int .i64 0, .slice none 0 0] 24))
  have hB1 : Below w.heap.size w w1 := Below.tr (by (repeat (first | exact Below.refl _ _ | assumption | refine Below.al ?_ _ | refine Below.dr ?_ | (refine Below.st ?_ (by simp <;> omega) _) | (refine Below.tr ?_ (by assumption))))) hb1
  have hl1 := heap_lt hq1
  have hl1z := heap_lt hz1
  clear hb1
  go_wp2_with (refine wpList_store_var rfl 24 (.tmp 3) (.tmp 11) rfl #[.int .i64 f, .int .i64 t, .int .i64 k, .int .i64 l, .slice A0 n c0] hq1 rfl rfl (by kernel_rfl) rfl rfl ?_; intro w2 hq2 hg2 hs2; obtain ⟨k2, f2⟩ := blk hq2)
  have hO2 := own_farP hO0 hg2 hq1
  have hz2 := heap_far hz1 hg2 (by omega)
  have hB2 : Below w.heap.size w w2 := Below.of_grown hB1 hg2 (by omega)
  have hB2s := hB2.size
  have hl2z := heap_lt hz2
  have hl2 := heap_lt hq2
  clear hz1 hq1 hO0 hg2 hs2 k2 f2
  refine (specPutPacket_any f t k l hO2.rows hz (Nat.le_refl _)).mono ?_
  rintro e w3 ⟨A1, c1, rfl, hO1, hb3⟩
  replace hO1 := hO1.more hB2s
  have hz3 := (hb3.block (w.heap.size + 1) hl2z).trans hz2
  have hB3 := Below.tr hB2 hb3
  have hs3 := hb3.size
  have hl3z := heap_lt hz3
  obtain ⟨N, hN⟩ : ∃ N, N = putN f t k l n := ⟨_, rfl⟩
  rw [← hN] at hO1
  rw [← hN]
  have HNp := Lib.hid hN
  clear hb3 hN hO2 hz2 hq2
  have hz4 := (heap_alloc_old w3 (.cells #[.int .i64 x, .int .i64 y, .int .i64 3, .int .i64 64, .slice A1 N c1] 24) hl3z).trans hz3
  have hB4 : Below w.heap.size w (w3.alloc (.cells #[.int .i64 x, .int .i64 y, .int .i64 3, .int .i64 64, .slice A1 N c1] 24)) := Below.al hB3 _
  have ho4 := heap_alloc_new w3 (.cells #[.int .i64 x, .int .i64 y, .int .i64 3, .int .i64 64, .slice A1 N c1] 24)
  cases hv : pktB f t k l n with
  | false =>
    obtain rfl : N = 0 := by rw [HNp.out]; simp [putN, hv]
    have HW := Lib.hid (wrp_no1 (x := x) (y := y) hv)
    clear hv
    go_wp2_with (refine wpList_store_var rfl 24 (.tmp 6) (.tmp 26) rfl #[.int .i64 0, .int .i64 0, .int .i64 0, .int .i64 0, .slice none 0 0] hz4 rfl rfl (by kernel_rfl) rfl rfl ?_; intro w9 hh9 hg9 hs9; obtain ⟨k9, f9⟩ := blk hh9)
    refine bodyPost_ret (v := .tuple #[.agg #[.int .i64 0, .int .i64 0, .int .i64 0, .int .i64 0, .slice none 0 0], .bool false]) (by simp [results, Try.results19, go_sem, k9]) rfl ⟨none, 0, by rw [HW.out] <;> rfl, by rw [HW.out]; exact Own.nil _ _ _ _ _ _ _ (by unfold maxLen; omega), Below.of_grown hB4 hg9 (by omega)⟩
  | true =>
    have hN6 : N = n + 6 := by rw [HNp.out]; simp [putN, hv]
    have HN := Lib.hid hN6
    have HV := Lib.hid hv
    have hne0 : ((N : Int) == 0) = false := by simp; omega
    clear hv hN6
    go_wp2_with fail
    refine (specPacketValid_any x y 3 64 _).mono ?_
    rintro e w5 ⟨rfl, hb5⟩
    have hB5 := Below.tr hB4 hb5
    have hz5 := (hb5.block (w.heap.size + 1) (by simp; omega)).trans hz4
    have ho5 := (hb5.block w3.heap.size (by simp)).trans ho4
    have hO5 := (hO1.next (below_new' w3 (.cells #[.int .i64 x, .int .i64 y, .int .i64 3, .int .i64 64, .slice A1 N c1] 24))).next hb5
    have hl5 := heap_lt ho5
    have hl5z := heap_lt hz5
    obtain ⟨k5, f5⟩ := blk ho5
    clear hb5
    cases hv2 : pktB x y 3 64 N with
    | false =>
      have HW := Lib.hid (wrp_no2 (f := f) (t := t) (k := k) (l := l) (by rw [← HN.out]; exact hv2))
      clear hv2
      go_wp2_with (refine wpList_store_var rfl 24 (.tmp 6) (.tmp 26) rfl #[.int .i64 0, .int .i64 0, .int .i64 0, .int .i64 0, .slice none 0 0] hz5 rfl rfl (by kernel_rfl) rfl rfl ?_; intro w9 hh9 hg9 hs9; obtain ⟨k9, f9⟩ := blk hh9)
      refine bodyPost_ret (v := .tuple #[.agg #[.int .i64 0, .int .i64 0, .int .i64 0, .int .i64 0, .slice none 0 0], .bool false]) (by simp [results, Try.results19, go_sem, k9]) rfl ⟨none, 0, by rw [HW.out] <;> rfl, by rw [HW.out]; exact Own.nil _ _ _ _ _ _ _ (by unfold maxLen; omega), Below.of_grown hB5 hg9 (by omega)⟩
    | true =>
      have HW := Lib.hid (wrp_yes HV.out (by rw [← HN.out]; exact hv2))
      clear hv2
      go_wp2_with (refine wpList_store_var rfl 24 (.tmp 6) (.tmp 27) rfl #[.int .i64 x, .int .i64 y, .int .i64 3, .int .i64 64, .slice A1 N c1] hz5 rfl rfl (by kernel_rfl) rfl rfl ?_; intro w9 hh9 hg9 hs9; obtain ⟨k9, f9⟩ := blk hh9)
      have hO9 := own_farP hO5 hg9 hz5
      refine bodyPost_ret (v := .tuple #[.agg #[.int .i64 x, .int .i64 y, .int .i64 3, .int .i64 64, .slice A1 N c1], .bool true]) (by simp [results, Try.results19, go_sem, k9]) rfl ⟨A1, c1, by rw [HW.out, HN.out] <;> rfl, by rw [HW.out]; exact (show Own w9 w.heap.size 5 1 A1 (n + 6) c1 (byteR (putZ f t k l n z)) from HN.out ▸ hO9), Below.of_grown hB5 hg9 (by omega)⟩
end Go.Proofs.Ytlnjpjeccpnddaa
