/-
  The reader of codes: l20Open, pick and odd. A pick answers a number in 0..n-1, and of old memory only the reader's own block turns.
-/
import Derived.Test.YtbnfllpimnnmfaaLift
import Derived.Deep.QuietTactic
import Derived.BigQuiet
import Derived.Laws.BitsAllLaws
import Derived.Laws.BitsLemmas
namespace Go.Proofs.Ytbnfllpimnnmfaa
open Go.RowKit

/-- The reader lies in block g, not below B: its code's bytes lie below B; it stands at p. -/
def Rd (w : World) (B g : Nat) (A : Option Addr) (n c p : Nat) : Prop :=
  w.heap[g]? = some (.cells #[.slice A n c, .int .i64 (p : Int)] 91 (0, 0)) ∧ B ≤ g ∧ Bytes w B A n c

theorem Rd.lt {w : World} {B g : Nat} {A : Option Addr} {n c p : Nat} (h : Rd w B g A n c p) : g < w.heap.size := by
  rcases Nat.lt_or_ge g w.heap.size with hlt | hge
  · exact hlt
  · have := h.1; rw [Array.getElem?_eq_none hge] at this; cases this
theorem Rd.cells {w : World} {B g : Nat} {A : Option Addr} {n c p : Nat} (h : Rd w B g A n c p) :
    w.cell? ⟨g, 0, none⟩ = some (.slice A n c) ∧ w.cell? ⟨g, 1, none⟩ = some (.int .i64 (p : Int)) ∧ w.frozen? ⟨g, 0, none⟩ = false ∧ w.frozen? ⟨g, 1, none⟩ = false := by
  have := h.1
  refine ⟨?_, ?_, ?_, ?_⟩ <;> simp [World.cell?, World.frozen?, this]

theorem grown_set (w : World) (g i : Nat) (v : Value) : w.grownBy (w.setCell ⟨g, i, none⟩ v) (some g) :=
  ⟨rfl, rfl, rfl, by simp [World.setCell], fun k _ hne => Below.heap_setCell w ⟨g, i, none⟩ v k (fun e => hne (by rw [e]))⟩
theorem grown_refl (w : World) (r : Option Nat) : w.grownBy w r := ⟨rfl, rfl, rfl, Nat.le_refl _, fun _ _ _ => rfl⟩
theorem grown_drewN {a w : World} {r : Option Nat} (h : a.grownBy w r) (n : Nat) : a.grownBy (w.drewN n) r := ⟨h.os, h.tape, h.output, h.size, h.block⟩
theorem grown_drew {a w : World} {r : Option Nat} (h : a.grownBy w r) : a.grownBy w.drew r := ⟨h.os, h.tape, h.output, h.size, h.block⟩
theorem grown_trans {a b c : World} {r : Option Nat} (h : a.grownBy b r) (k : b.grownBy c r) : a.grownBy c r :=
  ⟨k.os.trans h.os, k.tape.trans h.tape, k.output.trans h.output, Nat.le_trans h.size k.size, fun i hi hne => (k.block i (Nat.lt_of_lt_of_le hi h.size) hne).trans (h.block i hi hne)⟩
theorem grown_alloc {a w : World} {r : Option Nat} (h : a.grownBy w r) (o : Obj) : a.grownBy (w.alloc o) r :=
  ⟨h.os, h.tape, h.output, Nat.le_trans h.size (by simp), fun i hi hne => (Below.heap_alloc w o i (Nat.lt_of_lt_of_le hi h.size)).trans (h.block i hi hne)⟩
theorem grown_below {a w : World} {r : Option Nat} (h : Below a.heap.size a w) : a.grownBy w r := ⟨h.os, h.tape, h.output, h.size, fun i hi _ => h.block i hi⟩
theorem below_grown {a w : World} {g B : Nat} (h : a.grownBy w (some g)) (hB : B ≤ a.heap.size) (hg : B ≤ g) : Below B a w :=
  ⟨h.os, h.tape, h.output, h.size, fun k hk => h.block k (by omega) (by simp; omega)⟩

theorem Rd.set {w : World} {B g : Nat} {A : Option Addr} {n c p : Nat} (h : Rd w B g A n c p) (q : Nat) : Rd (w.setCell ⟨g, 1, none⟩ (.int .i64 (q : Int))) B g A n c q := by
  refine ⟨?_, h.2.1, h.2.2.keep fun a ha => World.cell?_of_block (Below.heap_setCell w _ _ _ (by have := h.2.1; show a.block ≠ g; omega))⟩
  have := h.1
  simp [World.setCell, Array.getElem?_modify, this]
theorem Rd.drewN {w : World} {B g : Nat} {A : Option Addr} {n c p : Nat} (h : Rd w B g A n c p) (k : Nat) : Rd (w.drewN k) B g A n c p := h
theorem Rd.drew {w : World} {B g : Nat} {A : Option Addr} {n c p : Nat} (h : Rd w B g A n c p) : Rd w.drew B g A n c p := h
/-- The reader stays where all below the old heap's end does. -/
theorem Rd.below {w w' : World} {B g : Nat} {A : Option Addr} {n c p : Nat} (h : Rd w B g A n c p) (hb : Below w.heap.size w w') : Rd w' B g A n c p := by
  have hlt := h.lt
  refine ⟨(hb.block g hlt).trans h.1, h.2.1, h.2.2.keep fun a ha => hb.cell (by have := h.2.1; omega)⟩
theorem Rd.alloc {w : World} {B g : Nat} {A : Option Addr} {n c p : Nat} (h : Rd w B g A n c p) (o : Obj) : Rd (w.alloc o) B g A n c p := h.below ((Below.refl _ _).alloc (Nat.le_refl _) o)

/-- What a pick answers. -/
def Picked (n k : Int) : Prop := 0 ≤ k ∧ (1 ≤ n → k < n) ∧ (n < 1 → k = 0)
def PickPost (w : World) (B g : Nat) (A : Option Addr) (m c p : Nat) (n : Int) (e : Ending) (w' : World) : Prop :=
  ∃ k, e = .returned (.int .i64 k) ∧ Picked n k ∧ Rd w' B g A m c (p + 1) ∧ w.grownBy w' (some g) ∧ w'.heap.size = w.heap.size

theorem pick_close {w : World} {B g : Nat} {A : Option Addr} {m c p : Nat} (h : Rd w B g A m c p) (n k : Int) (j : Nat) (hk : Picked n k) (q : Int) (hq : q = p + 1) :
    PickPost w B g A m c p n (.returned (.int .i64 k)) ((w.setCell ⟨g, 1, none⟩ (.int .i64 q)).drewN j) := by
  subst hq
  exact ⟨k, rfl, hk, by have := (h.set (p + 1)).drewN j; simpa using this, grown_drewN (grown_set _ _ _ _) _, by simp [World.setCell]⟩
theorem pick_close0 {w : World} {B g : Nat} {A : Option Addr} {m c p : Nat} (h : Rd w B g A m c p) (n k : Int) (hk : Picked n k) (q : Int) (hq : q = p + 1) :
    PickPost w B g A m c p n (.returned (.int .i64 k)) (w.setCell ⟨g, 1, none⟩ (.int .i64 q)) := pick_close h n k 0 hk q hq

theorem picked_mod (n x : Int) (hn : 1 ≤ n) (_hx : 0 ≤ x) : Picked n (x % n) := ⟨Int.emod_nonneg _ (by omega), fun _ => Int.emod_lt_of_pos _ (by omega), fun h => by omega⟩

theorem picked_tmod (n x : Int) (hn : 1 ≤ n) (hx : 0 ≤ x) : Picked n (x.tmod n) := by
  rw [Int.tmod_eq_emod_of_nonneg hx]; exact picked_mod n x hn hx
theorem ofInt_i64 (a : Nat) (ha : a < 9223372036854775808) : (BitVec.ofInt 64 (a : Int)).toNat = a := by
  rw [BitVec.ofInt_natCast, BitVec.toNat_ofNat]; exact Nat.mod_eq_of_lt (by omega)
theorem i64_xor_pos (a b : Int) (ha : 0 ≤ a) (ha2 : a < 9223372036854775808) (hb : 0 ≤ b) (hb2 : b < 9223372036854775808) : 0 ≤ bits .xor .i64 a b := by
  obtain ⟨x, rfl⟩ := Int.eq_ofNat_of_zero_le ha
  obtain ⟨y, rfl⟩ := Int.eq_ofNat_of_zero_le hb
  have hx : x ^^^ y < 2 ^ 63 := Nat.xor_lt_two_pow (by omega) (by omega)
  show 0 ≤ IntKind.i64.wrap ((BitVec.ofInt 64 (x : Int) ^^^ BitVec.ofInt 64 (y : Int)).toNat : Int)
  rw [BitVec.toNat_xor, ofInt_i64 x (by omega), ofInt_i64 y (by omega), IntKind.wrap_i64]
  omega

set_option maxHeartbeats 1000000 in
theorem pick_any {w : World} {B g : Nat} {A : Option Addr} {m c p : Nat} (h : Rd w B g A m c p) (n : Int) (hp2 : p ≤ 1000000000000) :
    Calls Try.prog 35 #[.pointer (some ⟨g, 0, none⟩), .int .i64 n] w (PickPost w B g A m c p n) := by
  obtain ⟨c0, c1, f0, f1⟩ := h.cells
  by_cases hn : n < 1
  · go_enter Try.func35, Try.ntmps35
    go_wp2
    go_ret
    exact pick_close0 h _ _ ⟨by omega, by omega, by omega⟩ _ rfl
  · by_cases hm : m = 0
    · subst hm
      go_enter Try.func35, Try.ntmps35
      go_wp2
      go_ret
      exact pick_close0 h _ _ ⟨by omega, by omega, by omega⟩ _ rfl
    · obtain ⟨⟨hmc, hcx⟩, hby⟩ := h.2.2
      unfold maxLen at hcx
      obtain ⟨b, off, rfl, hb, z, hz, hc⟩ := hby (by omega)
      have hBg := h.2.1
      by_cases hk : p < m
      · have hck := hc p hk
        have hzk := hz p
        go_enter Try.func35, Try.ntmps35
        go_wp2
        go_ret
        exact pick_close0 h _ _ (picked_mod _ _ (by omega) (by omega)) _ rfl
      · have hm0 : 0 < m := by omega
        have hl1 : p % m < m := Nat.mod_lt _ hm0
        have hl2 : (p * 7 + 3) % m < m := Nat.mod_lt _ hm0
        obtain ⟨y1, hy1, hc1⟩ : ∃ y, y ≤ 255 ∧ w.cell? ⟨b, off + p % m, none⟩ = some (.int .u8 (y : Nat)) := ⟨_, hz _, hc _ hl1⟩
        obtain ⟨y2, hy2, hc2⟩ : ∃ y, y ≤ 255 ∧ w.cell? ⟨b, off + (p * 7 + 3) % m, none⟩ = some (.int .u8 (y : Nat)) := ⟨_, hz _, hc _ hl2⟩
        have hd1 : p / m ≤ p := Nat.div_le_self _ _
        clear hc hby hz
        have hb0 : ((m : Int) == 0) = false := by simp; omega
        go_enter Try.func35, Try.ntmps35
        go_wp2
        have t1 : (p : Int).tmod (m : Int) = ((p % m : Nat) : Int) := by rw [Int.tmod_eq_emod_of_nonneg (by omega)]; (first | rfl | norm_cast | simp)
        have t2 : ((p : Int) * 7 + 3).tmod (m : Int) = (((p * 7 + 3) % m : Nat) : Int) := by rw [Int.tmod_eq_emod_of_nonneg (by omega)]; (first | rfl | norm_cast | simp)
        have t3 : (p : Int).tdiv (m : Int) = ((p / m : Nat) : Int) := by rw [Int.tdiv_eq_ediv_of_nonneg (by omega)]; (first | rfl | norm_cast | simp)
        have e1 : IntKind.i64.wrap ((p : Int) * 7) = (p : Int) * 7 := IntWalk.i64_in _ (by omega)
        have e2 : IntKind.i64.wrap ((p : Int) * 7 + 3) = (p : Int) * 7 + 3 := IntWalk.i64_in _ (by omega)
        have e3 : IntKind.i64.wrap ((y1 : Int) * 131) = (y1 : Int) * 131 := IntWalk.i64_in _ (by omega)
        have e4 : IntKind.i64.wrap ((y2 : Int) * 1117) = (y2 : Int) * 1117 := IntWalk.i64_in _ (by omega)
        have e5 : IntKind.i64.wrap ((y1 : Int) * 131 + (y2 : Int) * 1117) = (y1 : Int) * 131 + (y2 : Int) * 1117 := IntWalk.i64_in _ (by omega)
        have e6 : IntKind.i64.wrap ((p : Int) * 29) = (p : Int) * 29 := IntWalk.i64_in _ (by omega)
        have e7 : IntKind.i64.wrap ((y1 : Int) * 131 + (y2 : Int) * 1117 + (p : Int) * 29) = (y1 : Int) * 131 + (y2 : Int) * 1117 + (p : Int) * 29 := IntWalk.i64_in _ (by omega)
        generalize hd : p / m = d at *
        generalize hi1 : p % m = i1 at *
        generalize hi2 : (p * 7 + 3) % m = i2 at *
        clear hd hi1 hi2
        have hj1 : (i1 : Int) < (m : Int) := by omega
        have hj2 : (i2 : Int) < (m : Int) := by omega
        have hj3 : (0 : Int) ≤ (i1 : Int) := by omega
        have hj4 : (0 : Int) ≤ (i2 : Int) := by omega
        have e8 : IntKind.i64.wrap ((d : Int) * 53) = (d : Int) * 53 := IntWalk.i64_in _ (by omega)
        have e9 : IntKind.i64.wrap ((y1 : Int) * 131 + (y2 : Int) * 1117 + (p : Int) * 29 + (d : Int) * 53) = (y1 : Int) * 131 + (y2 : Int) * 1117 + (p : Int) * 29 + (d : Int) * 53 := IntWalk.i64_in _ (by omega)
        go_quiet (fail)
        clear e1 e2 e3 e4 e5 e6 e7 e8 e9 t1 t2 t3
        go_wp2
        go_ret
        refine pick_close h _ _ nq (picked_tmod _ _ (by omega) (i64_xor_pos _ _ (by omega) (by omega) (by omega) (by omega))) _ rfl

/-- What odd answers. -/
def OddPost (w : World) (B g : Nat) (A : Option Addr) (m c p : Nat) (n : Int) (e : Ending) (w' : World) : Prop :=
  ∃ (b : Bool) (q : Nat), e = .returned (.bool b) ∧ q ≤ p + 1 ∧ Rd w' B g A m c q ∧ w.grownBy w' (some g) ∧ w'.heap.size = w.heap.size ∧ (n ≤ 0 → b = false)

set_option maxHeartbeats 1000000 in
theorem odd_any {w : World} {B g : Nat} {A : Option Addr} {m c p : Nat} (h : Rd w B g A m c p) (n : Int) (_hn1 : -1000000 ≤ n) (hp2 : p ≤ 1000000000000) :
    Calls Try.prog 58 #[.pointer (some ⟨g, 0, none⟩), .int .i64 n] w (OddPost w B g A m c p n) := by
  by_cases hn : n ≤ 0
  · have hd : decide (0 < n) = false := by simp; omega
    go_enter Try.func58, Try.ntmps58
    go_wp2_with fail
    go_ret
    exact ⟨false, p, rfl, by omega, h, grown_refl _ _, rfl, fun _ => rfl⟩
  · have hd : decide (0 < n) = true := by simp; omega
    go_enter Try.func58, Try.ntmps58
    go_wp2_with fail
    refine (pick_any h n hp2).mono ?_
    rintro e w1 ⟨k, rfl, hk, hr, hg, hs⟩
    go_wp2_with fail
    go_ret
    exact ⟨_, p + 1, rfl, Nat.le_refl _, hr, hg, hs, fun h => by omega⟩

def OpenPost (w : World) (B : Nat) (A : Option Addr) (c : Nat) (e : Ending) (w' : World) : Prop :=
  ∃ m g, e = .returned (.pointer (some ⟨g, 0, none⟩)) ∧ w.heap.size ≤ g ∧ Rd w' B g A m c 0 ∧ Below w.heap.size w w' ∧ w'.heap.size = w.heap.size + 1

theorem rd_new {w : World} {B : Nat} {A : Option Addr} {n c : Nat} (h : Bytes w B A n c) (hB : B ≤ w.heap.size) : Rd (w.alloc (.cells #[.slice A n c, .int .i64 0] 91)) B w.heap.size A n c 0 :=
  ⟨heap_alloc_new w _, hB, h.keep fun p hp => World.cell?_alloc_lt w _ p (by omega)⟩

set_option maxHeartbeats 1000000 in
theorem open_any {w : World} {B : Nat} {A : Option Addr} {n c : Nat} (h : Bytes w B A n c) (hB : B ≤ w.heap.size) :
    Calls Try.prog 34 #[.slice A n c] w (OpenPost w B A c) := by
  have hnc := h.1.1
  have hcx := h.1.2
  unfold maxLen at hcx
  by_cases hn : 2000 < n
  · have h2 := h.take (m := 2000) (by omega)
    obtain ⟨b, off, rfl, _⟩ := h.2 (by omega)
    go_enter Try.func34, Try.ntmps34
    go_wp2
    go_ret
    exact ⟨2000, _, rfl, Nat.le_refl _, rd_new h2 hB, (Below.refl _ _).alloc (Nat.le_refl _) _, by simp⟩
  · go_enter Try.func34, Try.ntmps34
    go_wp2
    go_ret
    exact ⟨n, _, rfl, Nat.le_refl _, rd_new h hB, (Below.refl _ _).alloc (Nat.le_refl _) _, by simp⟩

/-- The code lies where it lay, whatever new block is laid. -/
theorem Bytes.alloc {w : World} {B : Nat} {A : Option Addr} {n c : Nat} (h : Bytes w B A n c) (hB : B ≤ w.heap.size) (o : Obj) : Bytes (w.alloc o) B A n c :=
  h.keep fun p hp => World.cell?_alloc_lt w o p (by omega)
end Go.Proofs.Ytbnfllpimnnmfaa
