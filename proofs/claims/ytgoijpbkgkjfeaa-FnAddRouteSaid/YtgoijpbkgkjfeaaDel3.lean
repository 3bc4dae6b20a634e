/-
  DropRoute, in the program and in the reference: what both return.
-/
import Derived.Test.YtgoijpbkgkjfeaaDel2
import Derived.Test.YtgoijpbkgkjfeaaAll
import Derived.Test.YtgoijpbkgkjfeaaFree
namespace Go.Proofs.Ytgoijpbkgkjfeaa
open Go Go.RowKit

theorem glue_zero (R1 R2 : Nat → List Value) : glue R1 0 R2 = R2 := by funext i; simp [glue]
set_option maxHeartbeats 4000000 in
theorem deleteRoute_own {w : World} {B n cc : Nat} {A : Option Addr} {a b c : Nat → Int} {h : Nat} {x y : Int} (hO : Own w B 27 3 A n cc (routeR a b c)) (hh : w.heap[h]? = some (.cells #[.int .i64 x, .int .i64 y] 25 (0, 0))) (hBh : h < B) (hB : B ≤ w.heap.size) :
    Calls Try.prog 36 #[.slice A n cc, (.func (.func 37) #[] #[.pointer (some ⟨h, 0, none⟩)])] w fun e w' => e = .returned (.slice A (kn a b x y n) cc) ∧ Own w' B 27 3 A (kn a b x y n) cc (fun i => routeR a b c (ki a b x y n i)) ∧ Below B w w' := by
  rcases Nat.eq_zero_or_pos n with rfl | hn
  · have hcm := hO.1
    have hI := indexRoute_any (A := A) (cc := cc) (a := a) (b := b) (c := c) (Rws.none_ hcm (w := w) (B := w.heap.size)) (Nat.le_refl _) hh
    go_enter Try.func36, Try.ntmps36
    go_wp2_with fail
    refine hI.mono ?_
    rintro e w1 ⟨r, rfl, hr, hb1⟩
    obtain rfl : r = -1 := by
      rcases hr with ⟨h, _⟩ | ⟨k, hk, _⟩
      · exact h
      · omega
    go_wp2
    go_ret
    exact ⟨rfl, Own.nil _ _ _ _ _ _ _ hcm, hb1.mono hB⟩
  · obtain ⟨g, rfl, hBg, hN⟩ := hO.at_ hn
    refine (deleteRoute_any hN hO.1 hh (by omega)).mono ?_
    rintro e w' ⟨rfl, hN', hG⟩
    exact ⟨rfl, Own.of_new hN' hO.1 hBg, below_grown hG hB hBg⟩
set_option maxHeartbeats 4000000 in
theorem implDropRoute_any {w : World} {B n cc : Nat} {A : Option Addr} {a b c : Nat → Int} (x y : Int) (H : Rws w B 3 A n cc (routeR a b c)) (hB : B ≤ w.heap.size) (hn : n ≤ 1048576) :
    Calls Try.prog 19 #[.slice A n cc, .agg #[.int .i64 x, .int .i64 y]] w (Gives w 27 3 (drN n a b c x y) (drR n a b c x y)) := by
  have H1 := Lib.hid (H.below ((show Below w.heap.size w (w.alloc (.cells #[.int .i64 x, .int .i64 y] 25)) by (repeat (first | exact Below.refl _ _ | assumption | refine Below.al ?_ _ | refine Below.dr ?_ | (refine Below.st ?_ (by simp <;> omega) _) | (refine Below.tr ?_ (by assumption))))).mono hB))
  clear H
  go_enter Try.func19, Try.ntmps19
  go_wp2_with fail
  refine (implRoutesValid_any H1.out (by simp; omega)).mono ?_
  rintro e w1 ⟨rfl, hb1⟩
  have hs1 := hb1.size
  simp at hs1
  have hh1 := (hb1.block w.heap.size (by simp)).trans (heap_alloc_new w (.cells #[.int .i64 x, .int .i64 y] 25))
  have hB1 : Below w.heap.size w w1 := Below.tr (by (repeat (first | exact Below.refl _ _ | assumption | refine Below.al ?_ _ | refine Below.dr ?_ | (refine Below.st ?_ (by simp <;> omega) _) | (refine Below.tr ?_ (by assumption))))) hb1
  cases hv : rtsB n a b c with
  | false =>
    go_wp2
    go_ret
    exact ⟨none, 0, by simp [drN, hv], by rw [show drN n a b c x y = 0 by simp [drN, hv]]; exact Own.nil _ _ _ _ _ _ _ (by unfold maxLen; omega), hB1⟩
  | true =>
    have hD := Lib.hid (show drN n a b c x y = kn a b x y n by simp [drN, hv])
    have H2 := Lib.hid (H1.out.below (hb1.mono (by simp; omega)))
    have hmf : ∀ (fn : Fn) (first cap : Array Value) (w : World), (Instr.makeFunc fn first cap).run Try.prog w = .ok (.func fn first cap) w := fun _ _ _ _ => rfl
    clear H1 hb1 hv
    go_wp2_with (at_builtin; refine wpList_pushAll rfl (.const (.slice none 0 0)) (.tmp 8) 23 rfl 27 _ 3 24 Try.underlying23 info_route (by decide) (by decide) (by decide) rfl (Acc.nil _ w1.heap.size 27 (routeR a b c) (fun _ => rfl)) rfl H2.out (fun _ => rfl) (routeR_one a b c) (by omega) (by omega) (Nat.le_refl _) ?_; intro v' w3 hA hb3 hg3)
    rw [Nat.zero_add, glue_zero] at hA
    obtain ⟨A', c', rfl, hO⟩ := hA.own
    have hh3 := (hb3.block w.heap.size (by omega)).trans hh1
    have hs3 := hb3.size
    refine (deleteRoute_own hO hh3 (by omega) (by omega)).mono ?_
    rintro e w4 ⟨rfl, hO4, hb4⟩
    go_wp2
    go_ret
    exact ⟨A', c', by rw [hD.out] <;> rfl, by rw [hD.out]; exact hO4.more (by omega), Below.tr hB1 (hb3.trans hb4)⟩

theorem below_nd (w : World) (o : Obj) : Below w.heap.size w (w.alloc o) := (Below.refl _ _).alloc (Nat.le_refl _) o
theorem neq_hit {a b : Nat → Int} {x y : Int} {i : Nat} {v : Bool} (h : hitB a b x y i = !v) (w : World) : (binOp .neq 25 (.agg #[.int .i64 (a i), .int .i64 (b i)]) (.agg #[.int .i64 x, .int .i64 y])).run Try.prog w = .ok (.bool v) w := by
  have := binOp_neq (eql_hit h w)
  rwa [Bool.not_not] at this
end Go.Proofs.Ytgoijpbkgkjfeaa
