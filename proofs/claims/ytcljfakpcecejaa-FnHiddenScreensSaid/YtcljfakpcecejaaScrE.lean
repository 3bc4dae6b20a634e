/-
  What the drawings of screens hand over; old memory stays.
-/
import Derived.Test.YtcljfakpcecejaaScrD
import Derived.Test.YtcljfakpcecejaaScrF
namespace Go.Proofs.Ytcljfakpcecejaa
open Go.RowKit Go.Joins

/-- A list of at most N rows of plain cells. -/
def ListOnly (w : World) (N : Nat) (t : TypeId) (ks : List Bool) (e : Ending) (w' : World) : Prop :=
  ∃ A n c R, e = .returned (.slice A n c) ∧ n ≤ N ∧ (∀ i, Plain ks (R i)) ∧ Own w' w.heap.size t ks.length A n c R ∧ Below w.heap.size w w'
def ListFlow (w : World) (N : Nat) (t : TypeId) (ks : List Bool) (e : Ending) (w' : World) : Prop :=
  ∃ A n c R, ∃ f0 f1 f2 f3 f4 : Int, e = .returned (.tuple #[.slice A n c, .agg #[.int .i64 f0, .int .i64 f1, .int .i64 f2, .int .i64 f3, .int .i64 f4]]) ∧ n ≤ N ∧ (∀ i, Plain ks (R i)) ∧ Own w' w.heap.size t ks.length A n c R ∧ Below w.heap.size w w'

set_option maxHeartbeats 2000000 in
theorem drawScreensValid_any {w : World} {A : Option Addr} {n c : Nat} (h : Bytes w w.heap.size A n c) :
    Calls Try.prog 15 #[.slice A n c] w (ListOnly w 6 31 [true, true, true, true, true, false]) := by
  go_enter Try.func15, Try.ntmps15
  go_wp2_with fail
  refine (open_any h (Nat.le_refl _)).mono ?_
  rintro e w1 ⟨m, g, rfl, hgl, hr1, hb1, hs1⟩
  have hs2 := hb1.size
  clear hs1
  go_wp2_with fail
  refine (l20Screens_any hr1 _ (by omega) (by omega)).mono ?_
  rintro e w2 ⟨v, nn, q, rfl, hn, ⟨A', c', R, rfl, hR, hO⟩, hq, hr2, hg2⟩
  go_wp2
  go_ret
  exact ⟨A', nn, c', R, rfl, hn, hR, hO.more hs2, hb1.trans (below_grown hg2 hs2 hgl)⟩

set_option maxHeartbeats 2000000 in
theorem drawHiddenScreens_any {w : World} {A : Option Addr} {n c : Nat} (h : Bytes w w.heap.size A n c) :
    Calls Try.prog 28 #[.slice A n c] w (ListOnly w 6 31 [true, true, true, true, true, false]) := by
  go_enter Try.func28, Try.ntmps28
  go_wp2_with fail
  refine (open_any h (Nat.le_refl _)).mono ?_
  rintro e w1 ⟨m, g, rfl, hgl, hr1, hb1, hs1⟩
  have hs2 := hb1.size
  clear hs1
  go_wp2_with fail
  refine (l20Screens_any hr1 _ (by omega) (by omega)).mono ?_
  rintro e w2 ⟨v, nn, q, rfl, hn, ⟨A', c', R, rfl, hR, hO⟩, hq, hr2, hg2⟩
  go_wp2
  go_ret
  exact ⟨A', nn, c', R, rfl, hn, hR, hO.more hs2, hb1.trans (below_grown hg2 hs2 hgl)⟩

set_option maxHeartbeats 4000000 in
theorem drawScreenFlow_any {w : World} {A : Option Addr} {n c : Nat} (h : Bytes w w.heap.size A n c) :
    Calls Try.prog 25 #[.slice A n c] w (ListFlow w 6 31 [true, true, true, true, true, false]) := by
  go_enter Try.func25, Try.ntmps25
  go_wp2_with fail
  refine (open_any (h.alloc (Nat.le_refl _) _) (by simp)).mono ?_
  rintro e w1 ⟨m, g, rfl, hgl, hr1, hb1, hs1⟩
  have hz1 := (hb1.block w.heap.size (by simp)).trans (heap_alloc_new w _)
  have hB1 : Below w.heap.size w w1 := (below_alloc1 w _).trans (hb1.mono (by simp))
  have hs2 := hB1.size
  simp at hgl
  have hzl := heap_lt hz1
  clear hs1 hb1
  go_wp2_with fail
  refine (l20Screens_any hr1 _ (by omega) (by omega)).mono ?_
  rintro e w2 ⟨v, nn, q, rfl, hn, ⟨A', c', R, rfl, hR, hO⟩, hq, hr2, hg2⟩
  have hz2 := heap_far hz1 hg2 (by omega)
  have hB2 : Below w.heap.size w w2 := hB1.trans (below_grown hg2 hs2 (by omega))
  have hgw := hr2.lt
  have hs3 := hg2.size
  go_wp2_with fail
  refine (l20Flow_any hr2 _ (by omega) (by omega)).mono ?_
  rintro e w3 ⟨v, q3, rfl, ⟨f0, f1, f2, f3, f4, rfl, _, _, _, _, _⟩, hq3, hr3, hg3⟩
  have hz3 := heap_far hz2 hg3 (by omega)
  have hB3 : Below w.heap.size w w3 := hB2.trans (below_grown hg3 (by omega) (by omega))
  have hO3 := hO.keep (w' := w3) fun k hk hlt _ => hg3.block k hlt (by simp; have := hr1.lt; omega)
  clear hz1 hz2 hO
  go_wp2_with (refine wpList_store_var rfl 33 (.tmp 3) (.tmp 12) rfl #[.int .i64 f0, .int .i64 f1, .int .i64 f2, .int .i64 f3, .int .i64 f4] hz3 rfl rfl (by kernel_rfl) rfl rfl ?_)
  intro w9 hh9 hg9 hs9
  obtain ⟨k9, f9⟩ := blk hh9
  have hO9 := hO3.keep (w' := w9) fun k hk hlt _ => hg9.block k hlt (by simp; omega)
  go_wp2
  refine bodyPost_ret (v := .tuple #[.slice A' nn c', .agg #[.int .i64 f0, .int .i64 f1, .int .i64 f2, .int .i64 f3, .int .i64 f4]]) (by simp [results, Try.results25, go_sem, k9]) rfl ⟨A', nn, c', R, f0, f1, f2, f3, f4, rfl, hn, hR, hO9.more hs2, hB3.trans (below_grown hg9 hB3.size (Nat.le_refl _))⟩
end Go.Proofs.Ytcljfakpcecejaa
