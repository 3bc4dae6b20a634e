/-
  hostAt: the first host of a number.
-/
import Derived.Test.YtdfnpcjbecbbbaaHos
import Derived.Shelf.Abstract
namespace Go.Proofs.Ytdfnpcjbecbbbaa
open Go Go.RowKit

/-- r is the first place of x among the first n numbers, or -1. -/
def AtB (a : Nat → Int) (n : Nat) (x r : Int) : Prop := (r = -1 ∧ ∀ i, i < n → a i ≠ x) ∨ ∃ k : Nat, k < n ∧ r = k ∧ a k = x ∧ ∀ i, i < k → a i ≠ x

set_option maxHeartbeats 2000000 in
theorem hostClosure_any {w : World} {h : Nat} {x : Int} (a b d : Int) (hh : w.heap[h]? = some (.cells #[.int .i64 x] 3 (0, 0))) :
    Calls Try.prog 50 #[.agg #[.int .i64 a, .int .i64 b, .int .i64 d], .pointer (some ⟨h, 0, none⟩)] w fun e w' => e = .returned (.bool (a == x)) ∧ Below w.heap.size w w' := by
  obtain ⟨k1, f1⟩ := blk hh
  have hl := heap_lt hh
  have hne : ¬ w.heap.size = h := by omega
  go_enter Try.func50, Try.ntmps50
  go_wp2
  go_ret
  exact ⟨rfl, by (repeat (first | exact Below.refl _ _ | assumption | refine Below.al ?_ _ | refine Below.dr ?_ | (refine Below.st ?_ (by simp <;> omega) _) | (refine Below.tr ?_ (by assumption))))⟩

set_option maxHeartbeats 4000000 in
theorem indexHost_any {w : World} {B : Nat} {A : Option Addr} {n c : Nat} {a b d : Nat → Int} {h : Nat} {x : Int} (H : Rws w B 3 A n c (hostR a b d)) (hB : B ≤ w.heap.size) (hh : w.heap[h]? = some (.cells #[.int .i64 x] 3 (0, 0))) :
    Calls Try.prog 49 #[.slice A n c, .func (.func 50) #[] #[.pointer (some ⟨h, 0, none⟩)]] w fun e w' => ∃ r, e = .returned (.int .i64 r) ∧ AtB a n x r ∧ Below w.heap.size w w' := by
  have eg : ∀ args w, (callFunc 50 args).run Try.prog w = .ok (.enter 50 args) w := enters_of Try.func50 (by kernel_rfl) rfl
  obtain ⟨⟨hnc, hcm⟩, hrow⟩ := H
  unfold maxLen at hcm
  have hl := heap_lt hh
  go_enter Try.func49, Try.ntmps49
  go_wp2
  go_loopw [8] (fun i wr => ∃ j : Nat, j ≤ n ∧ i = .int .i64 j ∧ (∀ i, i < j → a i ≠ x) ∧ Below w.heap.size w wr) (fun i _ => n - (intOf i).toNat)
  case atStart => exact ⟨0, by omega, rfl, fun i hi => absurd hi (by omega), Below.refl _ _⟩
  case round =>
    obtain ⟨j, hj, rfl, hok, hBw⟩ := hrel
    by_cases hlt : j < n
    · obtain ⟨bl, off, rfl, hbB, hc⟩ := hrow (by omega)
      have hr := hc j hlt
      have hbs : bl < wr.heap.size := by have := hBw.size; omega
      have q0 : wr.cell? ⟨bl, off + j * 3, none⟩ = some (.int .i64 (a j)) := (keepc hBw bl (by omega) _).trans (hr 0 _ rfl)
      have q1 : wr.cell? ⟨bl, off + j * 3 + 1, none⟩ = some (.int .i64 (b j)) := (keepc hBw bl (by omega) _).trans (hr 1 _ rfl)
      have q2 : wr.cell? ⟨bl, off + j * 3 + 2, none⟩ = some (.int .i64 (d j)) := (keepc hBw bl (by omega) _).trans (hr 2 _ rfl)
      have hcall := hostClosure_any (a j) (b j) (d j) ((hBw.block h hl).trans hh)
      have HO := Lib.hid hok
      clear hc hr hrow hok
      by_cases hx : a j = x
      · have hq : (a j == x) = true := by simpa using hx
        rw [hq] at hcall
        clear hq
        have HX := Lib.hid hx
        clear hx
        go_wp2_with (go_at_fn 50; refine hcall.mono ?_; rintro e w' ⟨rfl, hb'⟩)
        go_ret
        exact ⟨_, rfl, .inr ⟨j, hlt, rfl, HX.out, HO.out⟩, Below.tr hBw hb'⟩
      · have hq : (a j == x) = false := by simpa using hx
        rw [hq] at hcall
        clear hq
        have HX := Lib.hid hx
        clear hx
        go_wp2_with (go_at_fn 50; refine hcall.mono ?_; rintro e w' ⟨rfl, hb'⟩)
        go_roundw
        case rel => exact ⟨j + 1, by omega, by go_num, upto HO.out HX.out, Below.tr hBw hb'⟩
        case measure => simp [intOf]; omega
    · obtain rfl : j = n := by omega
      clear hrow
      have HO := Lib.hid hok
      clear hok
      go_wp2
      go_ret
      exact ⟨_, rfl, .inl ⟨rfl, HO.out⟩, hBw⟩

set_option maxHeartbeats 2000000 in
theorem hostAt_any {w : World} {B : Nat} {A : Option Addr} {n c : Nat} {a b d : Nat → Int} (x : Int) (H : Rws w B 3 A n c (hostR a b d)) (hB : B ≤ w.heap.size) :
    Calls Try.prog 43 #[.slice A n c, .int .i64 x] w fun e w' => ∃ r, e = .returned (.int .i64 r) ∧ AtB a n x r ∧ Below w.heap.size w w' := by
  have hcall := indexHost_any (x := x) (h := w.heap.size) (w := w.alloc (.cells #[.int .i64 x] 3)) (H.below ((show Below w.heap.size w _ by (repeat (first | exact Below.refl _ _ | assumption | refine Below.al ?_ _ | refine Below.dr ?_ | (refine Below.st ?_ (by simp <;> omega) _) | (refine Below.tr ?_ (by assumption))))).mono hB)) (by simp; omega) (heap_alloc_new _ _)
  have hmf : ∀ (fn : Fn) (first cap : Array Value) (w : World), (Instr.makeFunc fn first cap).run Try.prog w = .ok (.func fn first cap) w := fun _ _ _ _ => rfl
  go_enter Try.func43, Try.ntmps43
  go_wp2_with (go_at_call 49; refine hcall.mono ?_; rintro e w' ⟨r, rfl, hr, hb'⟩)
  go_ret
  exact ⟨r, rfl, hr, Below.tr (by (repeat (first | exact Below.refl _ _ | assumption | refine Below.al ?_ _ | refine Below.dr ?_ | (refine Below.st ?_ (by simp <;> omega) _) | (refine Below.tr ?_ (by assumption))))) hb'⟩
end Go.Proofs.Ytdfnpcjbecbbbaa
