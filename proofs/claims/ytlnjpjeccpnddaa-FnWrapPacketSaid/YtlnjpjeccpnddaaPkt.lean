/-
  PacketValid, the copying of packets, HopPacket: in the program and in the reference.
-/
import Derived.Test.YtlnjpjeccpnddaaPktT
import Derived.Test.YtlnjpjeccpnddaaBase
import Derived.Test.YtlnjpjeccpnddaaAll
namespace Go.Proofs.Ytlnjpjeccpnddaa
open Go Go.RowKit

theorem below_new' (w : World) (o : Obj) : Below w.heap.size w (w.alloc o) := (Below.refl _ _).alloc (Nat.le_refl _) o
def pktB (f t k l : Int) (n : Nat) : Bool := inB f 0 255 && inB t 0 255 && inB k 1 3 && inB l 0 64 && decide ((n : Int) ≤ 80)
set_option maxHeartbeats 2000000 in
theorem implPacketValid_any {A : Option Addr} {n c : Nat} (f t k l : Int) (w : World) :
    Calls Try.prog 10 #[.agg #[.int .i64 f, .int .i64 t, .int .i64 k, .int .i64 l, .slice A n c]] w fun e w' => e = .returned (.bool (pktB f t k l n)) ∧ Below w.heap.size w w' := by
  cases h1 : inB f 0 255 <;> cases h2 : inB t 0 255 <;> cases h3 : inB k 1 3 <;> cases h4 : inB l 0 64
  all_goals go_enter Try.func10, Try.ntmps10
  all_goals go_wp2_with (go_at_call 27; refine (in_any _ _ _ _).mono ?_; rintro e w' ⟨rfl, rfl⟩)
  all_goals go_ret
  all_goals exact ⟨by simp [pktB, *], by (repeat (first | exact Below.refl _ _ | assumption | refine Below.al ?_ _ | refine Below.dr ?_ | (refine Below.st ?_ (by simp <;> omega) _) | (refine Below.tr ?_ (by assumption))))⟩
set_option maxHeartbeats 2000000 in
theorem specPacketValid_any {A : Option Addr} {n c : Nat} (f t k l : Int) (w : World) :
    Calls Try.prog 24 #[.agg #[.int .i64 f, .int .i64 t, .int .i64 k, .int .i64 l, .slice A n c]] w fun e w' => e = .returned (.bool (pktB f t k l n)) ∧ Below w.heap.size w w' := by
  cases h1 : inB f 0 255 <;> cases h2 : inB t 0 255 <;> cases h3 : inB k 1 3 <;> cases h4 : inB l 0 64
  all_goals go_enter Try.func24, Try.ntmps24
  all_goals go_wp2_with (go_at_call 41; refine (l1In_any _ _ _ _).mono ?_; rintro e w' ⟨rfl, rfl⟩)
  all_goals go_ret
  all_goals exact ⟨by simp [pktB, *], by (repeat (first | exact Below.refl _ _ | assumption | refine Below.al ?_ _ | refine Below.dr ?_ | (refine Below.st ?_ (by simp <;> omega) _) | (refine Below.tr ?_ (by assumption))))⟩
theorem glue_zero (R1 R2 : Nat → List Value) : glue R1 0 R2 = R2 := by funext i; simp [glue]
/-- A packet with a body of its own. -/
def PktOwn (w : World) (f t k l : Int) (n : Nat) (z : Nat → Nat) (e : Ending) (w' : World) : Prop :=
  ∃ A c, e = .returned (.agg #[.int .i64 f, .int .i64 t, .int .i64 k, .int .i64 l, .slice A n c]) ∧ Own w' w.heap.size 5 1 A n c (byteR z) ∧ Below w.heap.size w w'
set_option maxHeartbeats 4000000 in
theorem clone_any {w : World} {B : Nat} {A : Option Addr} {n c : Nat} {z : Nat → Nat} (f t k l : Int) (h : Rws w B 1 A n c (byteR z)) (hB : B ≤ w.heap.size) (hn : n ≤ 100000000) :
    Calls Try.prog 23 #[.agg #[.int .i64 f, .int .i64 t, .int .i64 k, .int .i64 l, .slice A n c]] w (PktOwn w f t k l n z) := by
  have hnc := h.1
  unfold maxLen at hnc
  have H := Lib.hid (h.below ((show Below w.heap.size w ((w.alloc (.cells #[.int .i64 f, .int .i64 t, .int .i64 k, .int .i64 l, .slice A n c] 24)).alloc (.cells #[.int .i64 0, .int .i64 0, .int .i64 0, .int .i64 0, .slice none 0 0] 24)) by (repeat (first | exact Below.refl _ _ | assumption | refine Below.al ?_ _ | refine Below.dr ?_ | (refine Below.st ?_ (by simp <;> omega) _) | (refine Below.tr ?_ (by assumption))))).mono hB))
  have hx := (heap_alloc_old (w.alloc (.cells #[.int .i64 f, .int .i64 t, .int .i64 k, .int .i64 l, .slice A n c] 24)) (.cells #[.int .i64 0, .int .i64 0, .int .i64 0, .int .i64 0, .slice none 0 0] 24) (r := w.heap.size) (by simp)).trans (heap_alloc_new w _)
  have hz := heap_new1 w (.cells #[.int .i64 f, .int .i64 t, .int .i64 k, .int .i64 l, .slice A n c] 24) (.cells #[.int .i64 0, .int .i64 0, .int .i64 0, .int .i64 0, .slice none 0 0] 24)
  clear h
  go_enter Try.func23, Try.ntmps23
  go_wp2_with (first | (at_builtin; refine wpList_pushAll rfl (.const (.slice none 0 0)) (.tmp 4) 22 rfl 5 _ 1 1 Try.underlying22 info_byte (by decide) (by decide) (by decide) rfl (Acc.nil _ w.heap.size 5 (byteR z) (fun _ => rfl)) rfl H.out (fun _ => rfl) (byteR_one _) (by omega) (by omega) (by simp <;> omega) ?_; intro v' w3 hA hb3 hg3; replace hg3 : ((w.alloc (.cells #[.int .i64 f, .int .i64 t, .int .i64 k, .int .i64 l, .slice A n c] 24)).alloc (.cells #[.int .i64 0, .int .i64 0, .int .i64 0, .int .i64 0, .slice none 0 0] 24)).grownBy w3 none := hg3; have hx3 := (hg3.block w.heap.size (by simp <;> omega) (by simp)).trans hx; have hz3 := (hg3.block (w.heap.size + 1) (by simp <;> omega) (by simp)).trans hz; have hB3 : Below w.heap.size w w3 := (show Below w.heap.size w ((w.alloc (.cells #[.int .i64 f, .int .i64 t, .int .i64 k, .int .i64 l, .slice A n c] 24)).alloc (.cells #[.int .i64 0, .int .i64 0, .int .i64 0, .int .i64 0, .slice none 0 0] 24)) by (repeat (first | exact Below.refl _ _ | assumption | refine Below.al ?_ _ | refine Below.dr ?_ | (refine Below.st ?_ (by simp <;> omega) _) | (refine Below.tr ?_ (by assumption))))).trans hb3; rw [Nat.zero_add, glue_zero] at hA; obtain ⟨A', c', rfl, hO⟩ := hA.own) | (refine wpList_store_at rfl 22 (.tmp 6) (.tmp 5) rfl (.slice A' n c') #[.int .i64 f, .int .i64 t, .int .i64 k, .int .i64 l, .slice A' n c'] hx3 rfl rfl (by kernel_rfl) rfl rfl (by simp) rfl ?_; intro w4 hx4 hg4 hs4; have hz4 := heap_far hz3 hg4 (by omega); obtain ⟨k4, f4⟩ := blk hx4) | (refine wpList_store_var rfl 24 (.tmp 2) (.tmp 7) rfl #[.int .i64 f, .int .i64 t, .int .i64 k, .int .i64 l, .slice A' n c'] hz4 rfl rfl (by kernel_rfl) rfl rfl ?_; intro w9 hh9 hg9 hs9; obtain ⟨k9, f9⟩ := blk hh9))
  have hO9 : Own w9 w.heap.size 5 1 A' n c' (byteR z) := by
    obtain ⟨h1, h2, h3⟩ := hO
    refine ⟨h1, h2, h3.imp id fun ⟨g, h4, h5, h6⟩ => ⟨g, h4, h5, ?_⟩⟩
    have hg : g ≠ w.heap.size ∧ g ≠ w.heap.size + 1 := by
      obtain ⟨cs, q1, _⟩ := h6
      refine ⟨fun e => ?_, fun e => ?_⟩
      · subst e; rw [hx3] at q1; cases q1
      · subst e; rw [hz3] at q1; cases q1
    exact (h6.keep (hg4.block g h6.lt (by simpa using hg.1))).keep (hg9.block g (by have := h6.lt; omega) (by simpa using hg.2))
  refine bodyPost_ret (v := .agg #[.int .i64 f, .int .i64 t, .int .i64 k, .int .i64 l, .slice A' n c']) (by simp [results, Try.results23, go_sem, k9]) rfl ⟨A', c', rfl, hO9, Below.of_grown (Below.of_grown hB3 hg4 (Nat.le_refl _)) hg9 (by omega)⟩
set_option maxHeartbeats 4000000 in
theorem l15Copy_any {w : World} {B : Nat} {A : Option Addr} {n c : Nat} {z : Nat → Nat} (f t k l : Int) (h : Rws w B 1 A n c (byteR z)) (hB : B ≤ w.heap.size) (hn : n ≤ 100000000) :
    Calls Try.prog 25 #[.agg #[.int .i64 f, .int .i64 t, .int .i64 k, .int .i64 l, .slice A n c]] w (PktOwn w f t k l n z) := by
  have hnc := h.1
  unfold maxLen at hnc
  have H := Lib.hid (h.below ((show Below w.heap.size w (((((w.alloc (.cells #[.int .i64 f, .int .i64 t, .int .i64 k, .int .i64 l, .slice A n c] 24)).alloc (.cells #[.int .i64 0, .int .i64 0, .int .i64 0, .int .i64 0, .slice none 0 0] 24)).alloc (.cells #[.int .i64 f, .int .i64 t, .int .i64 k, .int .i64 l, .slice A n c] 24))).alloc (.cells #[] 5)) by (repeat (first | exact Below.refl _ _ | assumption | refine Below.al ?_ _ | refine Below.dr ?_ | (refine Below.st ?_ (by simp <;> omega) _) | (refine Below.tr ?_ (by assumption))))).mono hB))
  have hz := (heap_alloc_old (((w.alloc (.cells #[.int .i64 f, .int .i64 t, .int .i64 k, .int .i64 l, .slice A n c] 24)).alloc (.cells #[.int .i64 0, .int .i64 0, .int .i64 0, .int .i64 0, .slice none 0 0] 24)).alloc (.cells #[.int .i64 f, .int .i64 t, .int .i64 k, .int .i64 l, .slice A n c] 24)) (.cells #[] 5) (r := w.heap.size + 1) (by simp <;> omega)).trans ((heap_alloc_old ((w.alloc (.cells #[.int .i64 f, .int .i64 t, .int .i64 k, .int .i64 l, .slice A n c] 24)).alloc (.cells #[.int .i64 0, .int .i64 0, .int .i64 0, .int .i64 0, .slice none 0 0] 24)) (.cells #[.int .i64 f, .int .i64 t, .int .i64 k, .int .i64 l, .slice A n c] 24) (r := w.heap.size + 1) (by simp <;> omega)).trans (heap_new1 w (.cells #[.int .i64 f, .int .i64 t, .int .i64 k, .int .i64 l, .slice A n c] 24) (.cells #[.int .i64 0, .int .i64 0, .int .i64 0, .int .i64 0, .slice none 0 0] 24)))
  have hx := (heap_alloc_old (((w.alloc (.cells #[.int .i64 f, .int .i64 t, .int .i64 k, .int .i64 l, .slice A n c] 24)).alloc (.cells #[.int .i64 0, .int .i64 0, .int .i64 0, .int .i64 0, .slice none 0 0] 24)).alloc (.cells #[.int .i64 f, .int .i64 t, .int .i64 k, .int .i64 l, .slice A n c] 24)) (.cells #[] 5) (r := w.heap.size + 1 + 1) (by simp <;> omega)).trans (heap_new2 w (.cells #[.int .i64 f, .int .i64 t, .int .i64 k, .int .i64 l, .slice A n c] 24) (.cells #[.int .i64 0, .int .i64 0, .int .i64 0, .int .i64 0, .slice none 0 0] 24) (.cells #[.int .i64 f, .int .i64 t, .int .i64 k, .int .i64 l, .slice A n c] 24))
  have hAc : Acc ((((w.alloc (.cells #[.int .i64 f, .int .i64 t, .int .i64 k, .int .i64 l, .slice A n c] 24)).alloc (.cells #[.int .i64 0, .int .i64 0, .int .i64 0, .int .i64 0, .slice none 0 0] 24)).alloc (.cells #[.int .i64 f, .int .i64 t, .int .i64 k, .int .i64 l, .slice A n c] 24)).alloc (.cells #[] 5)) w.heap.size 5 1 (.slice (some ⟨w.heap.size + 1 + 1 + 1, 0, none⟩) 0 0) 0 (byteR z) := by
    have := Acc.made (B := w.heap.size) (((w.alloc (.cells #[.int .i64 f, .int .i64 t, .int .i64 k, .int .i64 l, .slice A n c] 24)).alloc (.cells #[.int .i64 0, .int .i64 0, .int .i64 0, .int .i64 0, .slice none 0 0] 24)).alloc (.cells #[.int .i64 f, .int .i64 t, .int .i64 k, .int .i64 l, .slice A n c] 24)) 5 (byteR z) (m := 1) (fun _ => rfl) (by simp <;> omega)
    simpa using this
  clear h
  go_enter Try.func25, Try.ntmps25
  go_wp2_with (first | (at_builtin; refine wpList_pushAll rfl (.tmp 5) (.tmp 7) 22 rfl 5 _ 1 1 Try.underlying22 info_byte (by decide) (by decide) (by decide) rfl hAc rfl H.out (fun _ => rfl) (byteR_one _) (by omega) (by omega) (by simp <;> omega) ?_; intro v' w3 hA hb3 hg3; replace hg3 : (((((w.alloc (.cells #[.int .i64 f, .int .i64 t, .int .i64 k, .int .i64 l, .slice A n c] 24)).alloc (.cells #[.int .i64 0, .int .i64 0, .int .i64 0, .int .i64 0, .slice none 0 0] 24)).alloc (.cells #[.int .i64 f, .int .i64 t, .int .i64 k, .int .i64 l, .slice A n c] 24))).alloc (.cells #[] 5)).grownBy w3 (some (w.heap.size + 1 + 1 + 1)) := hg3; have hx3 := (hg3.block (w.heap.size + 1 + 1) (by simp <;> omega) (by simp <;> omega)).trans hx; have hz3 := (hg3.block (w.heap.size + 1) (by simp <;> omega) (by simp <;> omega)).trans hz; have hB3 : Below w.heap.size w w3 := (show Below w.heap.size w (((((w.alloc (.cells #[.int .i64 f, .int .i64 t, .int .i64 k, .int .i64 l, .slice A n c] 24)).alloc (.cells #[.int .i64 0, .int .i64 0, .int .i64 0, .int .i64 0, .slice none 0 0] 24)).alloc (.cells #[.int .i64 f, .int .i64 t, .int .i64 k, .int .i64 l, .slice A n c] 24))).alloc (.cells #[] 5)) by (repeat (first | exact Below.refl _ _ | assumption | refine Below.al ?_ _ | refine Below.dr ?_ | (refine Below.st ?_ (by simp <;> omega) _) | (refine Below.tr ?_ (by assumption))))).trans hb3; rw [Nat.zero_add, glue_zero] at hA; obtain ⟨A', c', rfl, hO⟩ := hA.own) | (refine wpList_store_at rfl 22 (.tmp 9) (.tmp 8) rfl (.slice A' n c') #[.int .i64 f, .int .i64 t, .int .i64 k, .int .i64 l, .slice A' n c'] hx3 rfl rfl (by kernel_rfl) rfl rfl (by simp) rfl ?_; intro w4 hx4 hg4 hs4; have hz4 := heap_far hz3 hg4 (by omega); obtain ⟨k4, f4⟩ := blk hx4) | (refine wpList_store_var rfl 24 (.tmp 2) (.tmp 10) rfl #[.int .i64 f, .int .i64 t, .int .i64 k, .int .i64 l, .slice A' n c'] hz4 rfl rfl (by kernel_rfl) rfl rfl ?_; intro w9 hh9 hg9 hs9; obtain ⟨k9, f9⟩ := blk hh9))
  have hO9 : Own w9 w.heap.size 5 1 A' n c' (byteR z) := by
    obtain ⟨h1, h2, h3⟩ := hO
    refine ⟨h1, h2, h3.imp id fun ⟨g, h4, h5, h6⟩ => ⟨g, h4, h5, ?_⟩⟩
    have hg : g ≠ w.heap.size + 1 + 1 ∧ g ≠ w.heap.size + 1 := by
      obtain ⟨cs, q1, _⟩ := h6
      refine ⟨fun e => ?_, fun e => ?_⟩
      · subst e; rw [hx3] at q1; cases q1
      · subst e; rw [hz3] at q1; cases q1
    exact (h6.keep (hg4.block g h6.lt (by simpa using hg.1))).keep (hg9.block g (by have := h6.lt; omega) (by simpa using hg.2))
  refine bodyPost_ret (v := .agg #[.int .i64 f, .int .i64 t, .int .i64 k, .int .i64 l, .slice A' n c']) (by simp [results, Try.results25, go_sem, k9]) rfl ⟨A', c', rfl, hO9, Below.of_grown (Below.of_grown hB3 hg4 (by omega)) hg9 (by omega)⟩
def hopB (f t k l : Int) (n : Nat) : Bool := pktB f t k l n && !(l == 0)
def hopI (b : Bool) (x : Int) : Int := if b then x else 0
def hopN (b : Bool) (n : Nat) : Nat := if b then n else 0
theorem hopN_le (b : Bool) (n : Nat) : hopN b n ≤ n := by cases b <;> simp [hopN]
/-- A packet with a body of its own, and a truth. -/
def HopV (w : World) (f t k l : Int) (n : Nat) (b : Bool) (z : Nat → Nat) (e : Ending) (w' : World) : Prop :=
  ∃ A c, e = .returned (.tuple #[.agg #[.int .i64 f, .int .i64 t, .int .i64 k, .int .i64 l, .slice A n c], .bool b]) ∧ Own w' w.heap.size 5 1 A n c (byteR z) ∧ Below w.heap.size w w'
set_option maxHeartbeats 4000000 in
theorem implHopPacket_any {w : World} {B : Nat} {A : Option Addr} {n c : Nat} {z : Nat → Nat} (f t k l : Int) (h : Rws w B 1 A n c (byteR z)) (hB : B ≤ w.heap.size) (hn : n ≤ 100000000) :
    Calls Try.prog 7 #[.agg #[.int .i64 f, .int .i64 t, .int .i64 k, .int .i64 l, .slice A n c]] w (HopV w (hopI (hopB f t k l n) f) (hopI (hopB f t k l n) t) (hopI (hopB f t k l n) k) (hopI (hopB f t k l n) (l - 1)) (hopN (hopB f t k l n) n) (hopB f t k l n) z) := by
  have HH := Lib.hid h
  clear h
  by_cases hc : pktB f t k l n = false ∨ l = 0
  · have hb : hopB f t k l n = false := by rcases hc with h | h <;> simp [hopB, h]
    rw [hb]
    clear hb
    obtain ⟨b, hbe⟩ : ∃ b, pktB f t k l n = b := ⟨_, rfl⟩
    rw [hbe] at hc
    have HP := Lib.hid hbe
    clear hbe
    go_enter Try.func7, Try.ntmps7
    go_wp2_with fail
    refine (implPacketValid_any f t k l _).mono ?_
    rintro e w1 ⟨rfl, hb1⟩
    rw [HP.out]
    have hz := (hb1.block (w.heap.size + 1) (by simp <;> omega)).trans (heap_new1 w (.cells #[.int .i64 f, .int .i64 t, .int .i64 k, .int .i64 l, .slice A n c] 24) (.cells #[.int .i64 0, .int .i64 0, .int .i64 0, .int .i64 0, .slice none 0 0] 24))
    have hzz := heap_lt hz
    have hBw : Below w.heap.size w w1 := Below.tr (by (repeat (first | exact Below.refl _ _ | assumption | refine Below.al ?_ _ | refine Below.dr ?_ | (refine Below.st ?_ (by simp <;> omega) _) | (refine Below.tr ?_ (by assumption))))) hb1
    have k1 : ∀ i, w1.cell? ⟨w.heap.size, i, none⟩ = #[Value.int .i64 f, .int .i64 t, .int .i64 k, .int .i64 l, .slice A n c][i]? := fun i => (keepc hb1 w.heap.size (by simp <;> omega) i).trans (by simp)
    clear HP hb1
    cases b
    case' true => obtain rfl : l = 0 := by simpa using hc
    all_goals
      go_wp2_with (refine wpList_store_var rfl 24 (.tmp 2) (.tmp 13) rfl #[.int .i64 0, .int .i64 0, .int .i64 0, .int .i64 0, .slice none 0 0] hz rfl rfl (by kernel_rfl) rfl rfl ?_; intro w9 hh9 hg9 hs9; obtain ⟨k9, f9⟩ := blk hh9)
      refine bodyPost_ret (v := .tuple #[.agg #[.int .i64 0, .int .i64 0, .int .i64 0, .int .i64 0, .slice none 0 0], .bool false]) (by simp [results, Try.results7, go_sem, k9]) rfl ⟨none, 0, rfl, Own.nil _ _ _ _ _ _ _ (by unfold maxLen; omega), Below.of_grown hBw hg9 (by omega)⟩
  · have hp : pktB f t k l n = true := by
      cases h : pktB f t k l n
      · exact absurd (.inl h) hc
      · rfl
    have hl0 : l ≠ 0 := fun h => hc (.inr h)
    have hb : hopB f t k l n = true := by simp [hopB, hp, hl0]
    rw [hb]
    have hl : 0 ≤ l ∧ l ≤ 64 := by
      simp only [pktB, Bool.and_eq_true] at hp
      have := inB_true.1 hp.1.2
      omega
    have hle : (l == 0) = false := by simpa using hl0
    have HP := Lib.hid hp
    clear hp hb hc
    go_enter Try.func7, Try.ntmps7
    go_wp2_with fail
    refine (implPacketValid_any f t k l _).mono ?_
    rintro e w1 ⟨rfl, hb1⟩
    rw [HP.out]
    have hz := (hb1.block (w.heap.size + 1) (by simp <;> omega)).trans (heap_new1 w (.cells #[.int .i64 f, .int .i64 t, .int .i64 k, .int .i64 l, .slice A n c] 24) (.cells #[.int .i64 0, .int .i64 0, .int .i64 0, .int .i64 0, .slice none 0 0] 24))
    have hzz := heap_lt hz
    have hBw : Below w.heap.size w w1 := Below.tr (by (repeat (first | exact Below.refl _ _ | assumption | refine Below.al ?_ _ | refine Below.dr ?_ | (refine Below.st ?_ (by simp <;> omega) _) | (refine Below.tr ?_ (by assumption))))) hb1
    have k1 : ∀ i, w1.cell? ⟨w.heap.size, i, none⟩ = #[Value.int .i64 f, .int .i64 t, .int .i64 k, .int .i64 l, .slice A n c][i]? := fun i => (keepc hb1 w.heap.size (by simp <;> omega) i).trans (by simp)
    clear HP hb1
    go_wp2_with fail
    refine (clone_any f t k l (HH.out.below (hBw.mono hB)) (by have := hBw.size; omega) hn).mono ?_
    rintro e w2 ⟨A', c', rfl, hO, hb2⟩
    have hx := heap_alloc_new w2 (.cells #[.int .i64 f, .int .i64 t, .int .i64 k, .int .i64 l, .slice A' n c'] 24)
    have hz2 := (heap_alloc_old w2 (.cells #[.int .i64 f, .int .i64 t, .int .i64 k, .int .i64 l, .slice A' n c'] 24) (by have := hb2.size; omega)).trans ((hb2.block (w.heap.size + 1) hzz).trans hz)
    have k2 : ∀ i, (w2.alloc (.cells #[.int .i64 f, .int .i64 t, .int .i64 k, .int .i64 l, .slice A' n c'] 24)).cell? ⟨w.heap.size, i, none⟩ = #[Value.int .i64 f, .int .i64 t, .int .i64 k, .int .i64 l, .slice A n c][i]? := fun i => (keepc (below_new' w2 _) w.heap.size (by have := hb2.size; omega) i).trans ((keepc hb2 w.heap.size (by omega) i).trans (k1 i))
    have hOn := hO.next (below_new' w2 (.cells #[.int .i64 f, .int .i64 t, .int .i64 k, .int .i64 l, .slice A' n c'] 24))
    have hsz2 := hb2.size
    have hO2 := hO.lies
    have hB2 := Below.tr hBw (Below.tr hb2 (below_new' w2 (.cells #[.int .i64 f, .int .i64 t, .int .i64 k, .int .i64 l, .slice A' n c'] 24)))
    clear hO hb2 k1 hz
    go_wp2_with (first | (refine wpList_store_at rfl 3 (.tmp 19) (.tmp 18) rfl (.int .i64 (l - 1)) #[.int .i64 f, .int .i64 t, .int .i64 k, .int .i64 (l - 1), .slice A' n c'] hx rfl rfl (by kernel_rfl) rfl rfl (by simp) rfl ?_; intro w3 hx3 hg3 hs3; have hz3 := heap_far hz2 hg3 (by omega); obtain ⟨k3, f3⟩ := blk hx3) | (refine wpList_store_var rfl 24 (.tmp 2) (.tmp 20) rfl #[.int .i64 f, .int .i64 t, .int .i64 k, .int .i64 (l - 1), .slice A' n c'] hz3 rfl rfl (by kernel_rfl) rfl rfl ?_; intro w9 hh9 hg9 hs9; obtain ⟨k9, f9⟩ := blk hh9))
    have hO9 : Own w9 w.heap.size 5 1 A' n c' (byteR z) := by
      obtain ⟨h1, h2, h3⟩ := hOn
      refine ⟨h1, h2, h3.imp id fun ⟨g, h4, h5, h6⟩ => ⟨g, h4, by omega, ?_⟩⟩
      have hg : g ≠ w2.heap.size ∧ g ≠ w.heap.size + 1 := by
        obtain ⟨cs, q1, _⟩ := h6
        refine ⟨fun e => ?_, fun e => ?_⟩
        · subst e; rw [hx] at q1; cases q1
        · subst e; rw [hz2] at q1; cases q1
      exact (h6.keep (hg3.block g h6.lt (by simpa using hg.1))).keep (hg9.block g (by have := h6.lt; omega) (by simpa using hg.2))
    refine bodyPost_ret (v := .tuple #[.agg #[.int .i64 f, .int .i64 t, .int .i64 k, .int .i64 (l - 1), .slice A' n c'], .bool true]) (by simp [results, Try.results7, go_sem, k9]) rfl ⟨A', c', rfl, hO9, Below.of_grown (Below.of_grown hB2 hg3 (by omega)) hg9 (by omega)⟩
set_option maxHeartbeats 4000000 in
theorem specHopPacket_any {w : World} {B : Nat} {A : Option Addr} {n c : Nat} {z : Nat → Nat} (f t k l : Int) (h : Rws w B 1 A n c (byteR z)) (hB : B ≤ w.heap.size) (hn : n ≤ 100000000) :
    Calls Try.prog 8 #[.agg #[.int .i64 f, .int .i64 t, .int .i64 k, .int .i64 l, .slice A n c]] w (HopV w (hopI (hopB f t k l n) f) (hopI (hopB f t k l n) t) (hopI (hopB f t k l n) k) (hopI (hopB f t k l n) (l - 1)) (hopN (hopB f t k l n) n) (hopB f t k l n) z) := by
  have HH := Lib.hid h
  clear h
  by_cases hc : pktB f t k l n = false ∨ l = 0
  · have hb : hopB f t k l n = false := by rcases hc with h | h <;> simp [hopB, h]
    rw [hb]
    clear hb
    obtain ⟨b, hbe⟩ : ∃ b, pktB f t k l n = b := ⟨_, rfl⟩
    rw [hbe] at hc
    have HP := Lib.hid hbe
    clear hbe
    go_enter Try.func8, Try.ntmps8
    go_wp2_with fail
    refine (specPacketValid_any f t k l _).mono ?_
    rintro e w1 ⟨rfl, hb1⟩
    rw [HP.out]
    have hz := (hb1.block (w.heap.size + 1) (by simp <;> omega)).trans (heap_new1 w (.cells #[.int .i64 f, .int .i64 t, .int .i64 k, .int .i64 l, .slice A n c] 24) (.cells #[.int .i64 0, .int .i64 0, .int .i64 0, .int .i64 0, .slice none 0 0] 24))
    have hzz := heap_lt hz
    have hBw : Below w.heap.size w w1 := Below.tr (by (repeat (first | exact Below.refl _ _ | assumption | refine Below.al ?_ _ | refine Below.dr ?_ | (refine Below.st ?_ (by simp <;> omega) _) | (refine Below.tr ?_ (by assumption))))) hb1
    have k1 : ∀ i, w1.cell? ⟨w.heap.size, i, none⟩ = #[Value.int .i64 f, .int .i64 t, .int .i64 k, .int .i64 l, .slice A n c][i]? := fun i => (keepc hb1 w.heap.size (by simp <;> omega) i).trans (by simp)
    clear HP hb1
    cases b
    case' true => obtain rfl : l = 0 := by simpa using hc
    all_goals
      go_wp2_with (refine wpList_store_var rfl 24 (.tmp 2) (.tmp 13) rfl #[.int .i64 0, .int .i64 0, .int .i64 0, .int .i64 0, .slice none 0 0] hz rfl rfl (by kernel_rfl) rfl rfl ?_; intro w9 hh9 hg9 hs9; obtain ⟨k9, f9⟩ := blk hh9)
      refine bodyPost_ret (v := .tuple #[.agg #[.int .i64 0, .int .i64 0, .int .i64 0, .int .i64 0, .slice none 0 0], .bool false]) (by simp [results, Try.results8, go_sem, k9]) rfl ⟨none, 0, rfl, Own.nil _ _ _ _ _ _ _ (by unfold maxLen; omega), Below.of_grown hBw hg9 (by omega)⟩
  · have hp : pktB f t k l n = true := by
      cases h : pktB f t k l n
      · exact absurd (.inl h) hc
      · rfl
    have hl0 : l ≠ 0 := fun h => hc (.inr h)
    have hb : hopB f t k l n = true := by simp [hopB, hp, hl0]
    rw [hb]
    have hl : 0 ≤ l ∧ l ≤ 64 := by
      simp only [pktB, Bool.and_eq_true] at hp
      have := inB_true.1 hp.1.2
      omega
    have hle : (l == 0) = false := by simpa using hl0
    have HP := Lib.hid hp
    clear hp hb hc
    go_enter Try.func8, Try.ntmps8
    go_wp2_with fail
    refine (specPacketValid_any f t k l _).mono ?_
    rintro e w1 ⟨rfl, hb1⟩
    rw [HP.out]
    have hz := (hb1.block (w.heap.size + 1) (by simp <;> omega)).trans (heap_new1 w (.cells #[.int .i64 f, .int .i64 t, .int .i64 k, .int .i64 l, .slice A n c] 24) (.cells #[.int .i64 0, .int .i64 0, .int .i64 0, .int .i64 0, .slice none 0 0] 24))
    have hzz := heap_lt hz
    have hBw : Below w.heap.size w w1 := Below.tr (by (repeat (first | exact Below.refl _ _ | assumption | refine Below.al ?_ _ | refine Below.dr ?_ | (refine Below.st ?_ (by simp <;> omega) _) | (refine Below.tr ?_ (by assumption))))) hb1
    have k1 : ∀ i, w1.cell? ⟨w.heap.size, i, none⟩ = #[Value.int .i64 f, .int .i64 t, .int .i64 k, .int .i64 l, .slice A n c][i]? := fun i => (keepc hb1 w.heap.size (by simp <;> omega) i).trans (by simp)
    clear HP hb1
    go_wp2_with fail
    refine (l15Copy_any f t k l (HH.out.below (hBw.mono hB)) (by have := hBw.size; omega) hn).mono ?_
    rintro e w2 ⟨A', c', rfl, hO, hb2⟩
    have hx := heap_alloc_new w2 (.cells #[.int .i64 f, .int .i64 t, .int .i64 k, .int .i64 l, .slice A' n c'] 24)
    have hz2 := (heap_alloc_old w2 (.cells #[.int .i64 f, .int .i64 t, .int .i64 k, .int .i64 l, .slice A' n c'] 24) (by have := hb2.size; omega)).trans ((hb2.block (w.heap.size + 1) hzz).trans hz)
    have k2 : ∀ i, (w2.alloc (.cells #[.int .i64 f, .int .i64 t, .int .i64 k, .int .i64 l, .slice A' n c'] 24)).cell? ⟨w.heap.size, i, none⟩ = #[Value.int .i64 f, .int .i64 t, .int .i64 k, .int .i64 l, .slice A n c][i]? := fun i => (keepc (below_new' w2 _) w.heap.size (by have := hb2.size; omega) i).trans ((keepc hb2 w.heap.size (by omega) i).trans (k1 i))
    have hOn := hO.next (below_new' w2 (.cells #[.int .i64 f, .int .i64 t, .int .i64 k, .int .i64 l, .slice A' n c'] 24))
    have hsz2 := hb2.size
    have hO2 := hO.lies
    have hB2 := Below.tr hBw (Below.tr hb2 (below_new' w2 (.cells #[.int .i64 f, .int .i64 t, .int .i64 k, .int .i64 l, .slice A' n c'] 24)))
    clear hO hb2 k1 hz
    go_wp2_with (first | (refine wpList_store_at rfl 3 (.tmp 19) (.tmp 18) rfl (.int .i64 (l - 1)) #[.int .i64 f, .int .i64 t, .int .i64 k, .int .i64 (l - 1), .slice A' n c'] hx rfl rfl (by kernel_rfl) rfl rfl (by simp) rfl ?_; intro w3 hx3 hg3 hs3; have hz3 := heap_far hz2 hg3 (by omega); obtain ⟨k3, f3⟩ := blk hx3) | (refine wpList_store_var rfl 24 (.tmp 2) (.tmp 20) rfl #[.int .i64 f, .int .i64 t, .int .i64 k, .int .i64 (l - 1), .slice A' n c'] hz3 rfl rfl (by kernel_rfl) rfl rfl ?_; intro w9 hh9 hg9 hs9; obtain ⟨k9, f9⟩ := blk hh9))
    have hO9 : Own w9 w.heap.size 5 1 A' n c' (byteR z) := by
      obtain ⟨h1, h2, h3⟩ := hOn
      refine ⟨h1, h2, h3.imp id fun ⟨g, h4, h5, h6⟩ => ⟨g, h4, by omega, ?_⟩⟩
      have hg : g ≠ w2.heap.size ∧ g ≠ w.heap.size + 1 := by
        obtain ⟨cs, q1, _⟩ := h6
        refine ⟨fun e => ?_, fun e => ?_⟩
        · subst e; rw [hx] at q1; cases q1
        · subst e; rw [hz2] at q1; cases q1
      exact (h6.keep (hg3.block g h6.lt (by simpa using hg.1))).keep (hg9.block g (by have := h6.lt; omega) (by simpa using hg.2))
    refine bodyPost_ret (v := .tuple #[.agg #[.int .i64 f, .int .i64 t, .int .i64 k, .int .i64 (l - 1), .slice A' n c'], .bool true]) (by simp [results, Try.results8, go_sem, k9]) rfl ⟨A', c', rfl, hO9, Below.of_grown (Below.of_grown hB2 hg3 (by omega)) hg9 (by omega)⟩
theorem markPacket_any {w : World} {B : Nat} {A : Option Addr} {n c : Nat} {Q : Nat → List Value} (f t k l k0 : Int) (h : Own w B 5 1 A n c Q) (h0 : 0 ≤ k0) (h1 : k0 ≤ 1000000) (hn : n ≤ 100000000) :
    Calls Try.prog 15 #[.agg #[.int .i64 f, .int .i64 t, .int .i64 k, .int .i64 l, .slice A n c], .int .i64 k0] w fun e w' => e = .returned (.int .i64 (k0 + 1 * (n : Int))) ∧ Own w' B 5 1 A n c (markByte k0) ∧ (∀ D C, Lies A n D C → WroteIn w w' D C) := by
  have H := Lib.hid h
  clear h
  go_enter Try.func15, Try.ntmps15
  go_wp2_with fail
  refine (markByteS_any k0 (H.out.next (below_new' w (.cells #[.int .i64 f, .int .i64 t, .int .i64 k, .int .i64 l, .slice A n c] 24))) h0 (by omega) (by omega)).mono ?_
  rintro e w1 ⟨rfl, hO, hw⟩
  go_wp2
  go_ret
  refine ⟨by simp, hO, fun D C hL => ?_⟩
  have hw := hw D C hL
  have hs := hw.size
  simp at hs
  exact ⟨hw.os.trans rfl, hw.tape.trans rfl, hw.output.trans rfl, by omega, fun i hi hd => (hw.block i (by simp; omega) hd).trans (heap_alloc_old _ _ hi)⟩
theorem heldPacket_same {w : World} {B : Nat} {A : Option Addr} {n c : Nat} (f t k l k0 : Int) (h : Rws w B 1 A n c (markByte k0)) (hB : B ≤ w.heap.size) (h0 : 0 ≤ k0) (h1 : k0 ≤ 1000000) (hn : n ≤ 100000000) :
    Calls Try.prog 16 #[.agg #[.int .i64 f, .int .i64 t, .int .i64 k, .int .i64 l, .slice A n c], .int .i64 k0] w fun e w' => e = .returned (.int .i64 (k0 + 1 * (n : Int))) ∧ Below w.heap.size w w' := by
  have H := Lib.hid (h.below ((below_new' w (.cells #[.int .i64 f, .int .i64 t, .int .i64 k, .int .i64 l, .slice A n c] 24)).mono hB))
  clear h
  go_enter Try.func16, Try.ntmps16
  go_wp2_with fail
  refine (heldByteS_same k0 H.out (by simp <;> omega) h0 (by omega) (by omega)).mono ?_
  rintro e w1 ⟨rfl, rfl⟩
  go_wp2
  go_ret
  exact ⟨by simp, by (repeat (first | exact Below.refl _ _ | assumption | refine Below.al ?_ _ | refine Below.dr ?_ | (refine Below.st ?_ (by simp <;> omega) _) | (refine Below.tr ?_ (by assumption))))⟩
end Go.Proofs.Ytlnjpjeccpnddaa
