/-
  What the drawings of prefixes hand over: prefixes and numbers in small bounds; old memory stays.
-/
import Derived.Test.YtjjbfjjmpapajaaPfxD
namespace Go.Proofs.Ytjjbfjjmpapajaa
open Go.RowKit Go.Joins

def PfxOnly (w : World) (e : Ending) (w' : World) : Prop :=
  ∃ b k : Int, e = .returned (.agg #[.int .i64 b, .int .i64 k]) ∧ (-1 ≤ b ∧ b ≤ 256 ∧ -1 ≤ k ∧ k ≤ 9) ∧ Below w.heap.size w w'
def PfxInt (w : World) (lo hi : Int) (e : Ending) (w' : World) : Prop :=
  ∃ b k x : Int, e = .returned (.tuple #[.agg #[.int .i64 b, .int .i64 k], .int .i64 x]) ∧ (-1 ≤ b ∧ b ≤ 256 ∧ -1 ≤ k ∧ k ≤ 9) ∧ (lo ≤ x ∧ x ≤ hi) ∧ Below w.heap.size w w'

set_option maxHeartbeats 1000000 in
theorem drawPrefixValid_any {w : World} {A : Option Addr} {n c : Nat} (h : Bytes w w.heap.size A n c) :
    Calls Try.prog 18 #[.slice A n c] w (PfxOnly w) := by
  go_enter Try.func18, Try.ntmps18
  go_wp2_with fail
  refine (open_any (h.alloc (Nat.le_refl _) _) (by simp)).mono ?_
  rintro e w1 ⟨m, g, rfl, hgl, hr1, hb1, hs1⟩
  have hz1 := (hb1.block w.heap.size (by simp)).trans (heap_alloc_new w _)
  simp at hs1 hgl
  go_wp2_with fail
  refine (l20Prefix_any hr1 _ (by omega) (by omega)).mono ?_
  rintro e w2 ⟨v, q2, rfl, ⟨f, n, rfl, s1, s2, s3, s4⟩, hq2, hr2, hg2⟩
  have hz2 := heap_far hz1 hg2 (by omega)
  go_wp2_with (refine wpList_store_var rfl 25 (.tmp 2) (.tmp 5) rfl #[.int .i64 f, .int .i64 n] hz2 rfl rfl (by kernel_rfl) rfl rfl ?_ ; intro w9 hh9 hg9 hs9; obtain ⟨k9, f9⟩ := blk hh9)
  refine bodyPost_ret (v := .agg #[.int .i64 f, .int .i64 n]) (by simp [results, Try.results18, go_sem, k9]) rfl ⟨f, n, rfl, ⟨s1, s2, s3, s4⟩, ?_⟩
  have e1 : Below w.heap.size w w1 := (below_alloc1 w _).trans (hb1.mono (by simp))
  have e2 : Below w.heap.size w w2 := e1.trans (below_grown hg2 (by omega) (by omega))
  exact e2.trans (below_grown hg9 e2.size (Nat.le_refl _))

set_option maxHeartbeats 2000000 in
theorem drawPrefixHas_any {w : World} {A : Option Addr} {n c : Nat} (h : Bytes w w.heap.size A n c) :
    Calls Try.prog 20 #[.slice A n c] w (PfxInt w (-10) 1000) := by
  go_enter Try.func20, Try.ntmps20
  go_wp2_with fail
  refine (open_any (h.alloc (Nat.le_refl _) _) (by simp)).mono ?_
  rintro e w1 ⟨m, g, rfl, hgl, hr1, hb1, hs1⟩
  have hz1 := (hb1.block w.heap.size (by simp)).trans (heap_alloc_new w _)
  have e1 : Below w.heap.size w w1 := (below_alloc1 w _).trans (hb1.mono (by simp))
  simp at hs1 hgl
  go_wp2_with fail
  refine (l20Prefix_any hr1 _ (by omega) (by omega)).mono ?_
  rintro e w2 ⟨v, q2, rfl, ⟨f, n, rfl, s1, s2, s3, s4⟩, hq2, hr2, hg2⟩
  have hz2 := heap_far hz1 hg2 (by omega)
  have e2 : Below w.heap.size w w2 := e1.trans (below_grown hg2 (by omega) (by omega))
  have hgw := hr2.lt
  obtain ⟨B, hB⟩ : ∃ B, B = w.heap.size := ⟨_, rfl⟩
  rw [← hB] at hr2
  have hb5 : w2.heap.size ≠ g ∧ w2.heap.size ≠ w.heap.size := by omega
  have hzg : w.heap.size ≠ g := by omega
  have hh5 : (w2.alloc (Obj.cells #[Value.int IntKind.i64 f, Value.int IntKind.i64 n] 25)).heap[w2.heap.size]? = some (.cells #[.int .i64 f, .int .i64 n] 25 (0, 0)) := heap_alloc_new w2 _
  have e3 : Below w.heap.size w (w2.alloc (Obj.cells #[Value.int IntKind.i64 f, Value.int IntKind.i64 n] 25)) := e2.alloc e2.size _
  have hz3 := (Below.heap_alloc w2 (Obj.cells #[Value.int IntKind.i64 f, Value.int IntKind.i64 n] 25) w.heap.size (by omega)).trans hz2
  go_upto_region 3 with (fail)
  refine wp_region_draws (ds := [(0, 10), (1, 11), (2, 12), (3, 13), (4, 14), (5, 15), (6, 16), (7, 17), (8, 18), (9, 19), (10, 20), (11, 21), (12, 22), (13, 23), (14, 24), (15, 25), (16, 26), (18, 3)]) (B := B) (g := g) (z := w.heap.size) (O := fun o => o = .cells #[.int .i64 f, .int .i64 n] 25 (0, 0)) (A := A) (m := m) (c := c) (p := _) 19 1 [kIs g (w.heap.size) (fun o => o = .cells #[.int .i64 f, .int .i64 n] 25 (0, 0)) (.agg #[.int .i64 f, .int .i64 n]), kIs g (w.heap.size) (fun o => o = .cells #[.int .i64 f, .int .i64 n] 25 (0, 0)) (.pointer (some ⟨w2.heap.size, 0, none⟩)), kIs g (w.heap.size) (fun o => o = .cells #[.int .i64 f, .int .i64 n] 25 (0, 0)) (.int .i64 f), kIs g (w.heap.size) (fun o => o = .cells #[.int .i64 f, .int .i64 n] 25 (0, 0)) (.pointer (some ⟨g, 0, none⟩)), kInt g (w.heap.size) (fun o => o = .cells #[.int .i64 f, .int .i64 n] 25 (0, 0)) 0 19, kInt g (w.heap.size) (fun o => o = .cells #[.int .i64 f, .int .i64 n] 25 (0, 0)) (-1) 275, kInt g (w.heap.size) (fun o => o = .cells #[.int .i64 f, .int .i64 n] 25 (0, 0)) (-3) 273, kIs g (w.heap.size) (fun o => o = .cells #[.int .i64 f, .int .i64 n] 25 (0, 0)) (.pointer (some ⟨g, 0, none⟩)), kInt g (w.heap.size) (fun o => o = .cells #[.int .i64 f, .int .i64 n] 25 (0, 0)) 0 255, kArr g (w.heap.size) (fun o => o = .cells #[.int .i64 f, .int .i64 n] 25 (0, 0)) 3 3 (fun cs => ∃ y0 : Int, ∃ y1 : Int, (-3) ≤ y0 ∧ y0 ≤ 273 ∧ 0 ≤ y1 ∧ y1 ≤ 255 ∧ cs = #[.int .i64 y0, .int .i64 y1, .int .i64 256]), kArr g (w.heap.size) (fun o => o = .cells #[.int .i64 f, .int .i64 n] 25 (0, 0)) 3 6 (fun cs => cs = #[.int .i64 0, .int .i64 0, .int .i64 0, .int .i64 1, .int .i64 1, .int .i64 2]), kIs g (w.heap.size) (fun o => o = .cells #[.int .i64 f, .int .i64 n] 25 (0, 0)) (.pointer (some ⟨g, 0, none⟩)), kInt g (w.heap.size) (fun o => o = .cells #[.int .i64 f, .int .i64 n] 25 (0, 0)) 0 5, kCell g (w.heap.size) (fun o => o = .cells #[.int .i64 f, .int .i64 n] 25 (0, 0)) (fun v => ∃ y0 : Int, 0 ≤ y0 ∧ y0 ≤ 2 ∧ v = .int .i64 y0), kInt g (w.heap.size) (fun o => o = .cells #[.int .i64 f, .int .i64 n] 25 (0, 0)) 0 2, kCell g (w.heap.size) (fun o => o = .cells #[.int .i64 f, .int .i64 n] 25 (0, 0)) (fun v => ∃ y0 : Int, (-3) ≤ y0 ∧ y0 ≤ 273 ∧ v = .int .i64 y0), kInt g (w.heap.size) (fun o => o = .cells #[.int .i64 f, .int .i64 n] 25 (0, 0)) (-3) 273, kSet g (w.heap.size) (fun o => o = .cells #[.int .i64 f, .int .i64 n] 25 (0, 0)) hzg, kInt g (w.heap.size) (fun o => o = .cells #[.int .i64 f, .int .i64 n] 25 (0, 0)) (-3) 273] (by kernel_rfl) (by kernel_rfl) (by first | exact .inl rfl | exact .inr (by kernel_rfl)) (hr2.alloc _) (heap_lt hz3) (by rfl) ?_ rfl rfl ?_
  · refine each_cons ?_ ( each_cons ?_ ( each_cons ?_ ( each_cons ?_ ( each_cons ?_ ( each_cons ?_ ( each_cons ?_ ( each_cons ?_ ( each_cons ?_ ( each_cons ?_ ( each_cons ?_ ( each_cons ?_ ( each_cons ?_ ( each_cons ?_ ( each_cons ?_ ( each_cons ?_ ( each_cons ?_ ( each_cons ?_ ( each_cons ?_ ( each_nil)))))))))))))))))))
    · intro q a' w' hq hRd hLe hzl hfr hdep
      have e5 : a'.tmps.getD 5 undef = .pointer (some ⟨w2.heap.size, 0, none⟩) := hfr 5 rfl
      have f5 := e5; simp only [Array.getD_eq_getD_getElem?] at f5
      have hhx := hLe.keep hh5 hb5.1 hb5.2
      obtain ⟨kx, fx⟩ := blk hhx; clear hhx
      refine wpOp_plain rfl rfl (fun K hK => ?_)
      go_simp
      exact hK _ _ ⟨_, q, rfl, by omega, hRd, Turns.refl _, rfl, nofun⟩
    · intro q a' w' hq hRd hLe hzl hfr hdep
      have e5 : a'.tmps.getD 5 undef = .pointer (some ⟨w2.heap.size, 0, none⟩) := hfr 5 rfl
      have f5 := e5; simp only [Array.getD_eq_getD_getElem?] at f5
      refine wpOp_plain rfl rfl (fun K hK => ?_)
      go_simp
      exact hK _ _ ⟨_, q, rfl, by omega, hRd, Turns.refl _, rfl, nofun⟩
    · intro q a' w' hq hRd hLe hzl hfr hdep
      have e11 : a'.tmps.getD 11 undef = .pointer (some ⟨w2.heap.size, 0, none⟩) := hdep 1 _ 11 rfl rfl rfl
      have f11 := e11; simp only [Array.getD_eq_getD_getElem?] at f11
      have hhx := hLe.keep hh5 hb5.1 hb5.2
      obtain ⟨kx, fx⟩ := blk hhx; clear hhx
      refine wpOp_plain rfl rfl (fun K hK => ?_)
      go_simp
      exact hK _ _ ⟨_, q, rfl, by omega, hRd, Turns.refl _, rfl, nofun⟩
    · intro q a' w' hq hRd hLe hzl hfr hdep
      have e4 : a'.tmps.getD 4 undef = .pointer (some ⟨g, 0, none⟩) := hfr 4 rfl
      have f4 := e4; simp only [Array.getD_eq_getD_getElem?] at f4
      refine wpOp_plain rfl rfl (fun K hK => ?_)
      go_simp
      exact hK _ _ ⟨_, q, rfl, by omega, hRd, Turns.refl _, rfl, nofun⟩
    · intro q a' w' hq hRd hLe hzl hfr hdep
      have e13 : a'.tmps.getD 13 undef = .pointer (some ⟨g, 0, none⟩) := hdep 3 _ 13 rfl rfl rfl
      have f13 := e13; simp only [Array.getD_eq_getD_getElem?] at f13
      refine wpOp_plain rfl rfl (fun K hK => ?_)
      go_simp
      refine (pick_any hRd _ (by omega)).mono ?_
      rintro e w2 ⟨k, rfl, hk, hr, hg, hs⟩
      have hk1 := hk.1; have hk2 := hk.2.1; have hk3 := hk.2.2
      exact hK _ _ ⟨_, _, rfl, by omega, hr, Turns.of_grown hg, ⟨k, rfl, by omega, by omega⟩, nofun⟩
    · intro q a' w' hq hRd hLe hzl hfr hdep
      have e12 : a'.tmps.getD 12 undef = .int .i64 f := hdep 2 _ 12 rfl rfl rfl
      have f12 := e12; simp only [Array.getD_eq_getD_getElem?] at f12
      obtain ⟨x14, e14, b14, c14⟩ : (kInt g (w.heap.size) (fun o => o = .cells #[.int .i64 f, .int .i64 n] 25 (0, 0)) 0 19).p (a'.tmps.getD 14 undef) w' := hdep 4 _ 14 rfl rfl rfl
      have f14 := e14; simp only [Array.getD_eq_getD_getElem?] at f14
      have r15 : IntKind.i64.wrap (f + x14) = f + x14 := IntWalk.i64_in _ (by omega)
      refine wpOp_plain rfl rfl (fun K hK => ?_)
      go_simp
      exact hK _ _ ⟨_, q, rfl, by omega, hRd, Turns.refl _, ⟨_, rfl, by omega, by omega⟩, nofun⟩
    · intro q a' w' hq hRd hLe hzl hfr hdep
      obtain ⟨x15, e15, b15, c15⟩ : (kInt g (w.heap.size) (fun o => o = .cells #[.int .i64 f, .int .i64 n] 25 (0, 0)) (-1) 275).p (a'.tmps.getD 15 undef) w' := hdep 5 _ 15 rfl rfl rfl
      have f15 := e15; simp only [Array.getD_eq_getD_getElem?] at f15
      have r16 : IntKind.i64.wrap (x15 - 2) = x15 - 2 := IntWalk.i64_in _ (by omega)
      refine wpOp_plain rfl rfl (fun K hK => ?_)
      go_simp
      exact hK _ _ ⟨_, q, rfl, by omega, hRd, Turns.refl _, ⟨_, rfl, by omega, by omega⟩, nofun⟩
    · intro q a' w' hq hRd hLe hzl hfr hdep
      have e4 : a'.tmps.getD 4 undef = .pointer (some ⟨g, 0, none⟩) := hfr 4 rfl
      have f4 := e4; simp only [Array.getD_eq_getD_getElem?] at f4
      refine wpOp_plain rfl rfl (fun K hK => ?_)
      go_simp
      exact hK _ _ ⟨_, q, rfl, by omega, hRd, Turns.refl _, rfl, nofun⟩
    · intro q a' w' hq hRd hLe hzl hfr hdep
      have e17 : a'.tmps.getD 17 undef = .pointer (some ⟨g, 0, none⟩) := hdep 7 _ 17 rfl rfl rfl
      have f17 := e17; simp only [Array.getD_eq_getD_getElem?] at f17
      refine wpOp_plain rfl rfl (fun K hK => ?_)
      go_simp
      refine (pick_any hRd _ (by omega)).mono ?_
      rintro e w2 ⟨k, rfl, hk, hr, hg, hs⟩
      have hk1 := hk.1; have hk2 := hk.2.1; have hk3 := hk.2.2
      exact hK _ _ ⟨_, _, rfl, by omega, hr, Turns.of_grown hg, ⟨k, rfl, by omega, by omega⟩, nofun⟩
    · intro q a' w' hq hRd hLe hzl hfr hdep
      obtain ⟨x16, e16, b16, c16⟩ : (kInt g (w.heap.size) (fun o => o = .cells #[.int .i64 f, .int .i64 n] 25 (0, 0)) (-3) 273).p (a'.tmps.getD 16 undef) w' := hdep 6 _ 16 rfl rfl rfl
      have f16 := e16; simp only [Array.getD_eq_getD_getElem?] at f16
      obtain ⟨x18, e18, b18, c18⟩ : (kInt g (w.heap.size) (fun o => o = .cells #[.int .i64 f, .int .i64 n] 25 (0, 0)) 0 255).p (a'.tmps.getD 18 undef) w' := hdep 8 _ 18 rfl rfl rfl
      have f18 := e18; simp only [Array.getD_eq_getD_getElem?] at f18
      refine wpOp_plain rfl rfl (fun K hK => ?_)
      go_simp
      exact hK _ _ ⟨_, q, rfl, by omega, hRd.alloc _, Turns.alloc _ _, ⟨_, _, rfl, by have := hRd.lt; omega, heap_alloc_new _ _, x16, x18, by omega, by omega, by omega, by omega, rfl⟩, nofun⟩
    · intro q a' w' hq hRd hLe hzl hfr hdep
      refine wpOp_plain rfl rfl (fun K hK => ?_)
      go_simp
      exact hK _ _ ⟨_, q, rfl, by omega, hRd.alloc _, Turns.alloc _ _, ⟨_, _, rfl, by have := hRd.lt; omega, heap_alloc_new _ _, rfl⟩, nofun⟩
    · intro q a' w' hq hRd hLe hzl hfr hdep
      have e4 : a'.tmps.getD 4 undef = .pointer (some ⟨g, 0, none⟩) := hfr 4 rfl
      have f4 := e4; simp only [Array.getD_eq_getD_getElem?] at f4
      refine wpOp_plain rfl rfl (fun K hK => ?_)
      go_simp
      exact hK _ _ ⟨_, q, rfl, by omega, hRd, Turns.refl _, rfl, nofun⟩
    · intro q a' w' hq hRd hLe hzl hfr hdep
      have e21 : a'.tmps.getD 21 undef = .pointer (some ⟨g, 0, none⟩) := hdep 11 _ 21 rfl rfl rfl
      have f21 := e21; simp only [Array.getD_eq_getD_getElem?] at f21
      refine wpOp_plain rfl rfl (fun K hK => ?_)
      go_simp
      refine (pick_any hRd _ (by omega)).mono ?_
      rintro e w2 ⟨k, rfl, hk, hr, hg, hs⟩
      have hk1 := hk.1; have hk2 := hk.2.1; have hk3 := hk.2.2
      exact hK _ _ ⟨_, _, rfl, by omega, hr, Turns.of_grown hg, ⟨k, rfl, by omega, by omega⟩, nofun⟩
    · intro q a' w' hq hRd hLe hzl hfr hdep
      obtain ⟨a20, cs20, e20, hb20, hh20, rfl⟩ : (kArr g (w.heap.size) (fun o => o = .cells #[.int .i64 f, .int .i64 n] 25 (0, 0)) 3 6 (fun cs => cs = #[.int .i64 0, .int .i64 0, .int .i64 0, .int .i64 1, .int .i64 1, .int .i64 2])).p (a'.tmps.getD 20 undef) w' := hdep 10 _ 20 rfl rfl rfl
      have f20 := e20; simp only [Array.getD_eq_getD_getElem?] at f20
      obtain ⟨x22, e22, b22, c22⟩ : (kInt g (w.heap.size) (fun o => o = .cells #[.int .i64 f, .int .i64 n] 25 (0, 0)) 0 5).p (a'.tmps.getD 22 undef) w' := hdep 12 _ 22 rfl rfl rfl
      have f22 := e22; simp only [Array.getD_eq_getD_getElem?] at f22
      rcases (show x22 = 0 ∨ x22 = 1 ∨ x22 = 2 ∨ x22 = 3 ∨ x22 = 4 ∨ x22 = 5 by omega) with rfl | rfl | rfl | rfl | rfl | rfl
      · refine wpOp_plain rfl rfl (fun K hK => ?_)
        go_simp
        exact hK _ _ ⟨_, q, rfl, by omega, hRd, Turns.refl _, ⟨_, _, _, rfl, hb20, (cell_of_row _ _ 0 _ _ _ hh20).trans rfl, 0, by omega, by omega, rfl⟩, nofun⟩
      · refine wpOp_plain rfl rfl (fun K hK => ?_)
        go_simp
        exact hK _ _ ⟨_, q, rfl, by omega, hRd, Turns.refl _, ⟨_, _, _, rfl, hb20, (cell_of_row _ _ 1 _ _ _ hh20).trans rfl, 0, by omega, by omega, rfl⟩, nofun⟩
      · refine wpOp_plain rfl rfl (fun K hK => ?_)
        go_simp
        exact hK _ _ ⟨_, q, rfl, by omega, hRd, Turns.refl _, ⟨_, _, _, rfl, hb20, (cell_of_row _ _ 2 _ _ _ hh20).trans rfl, 0, by omega, by omega, rfl⟩, nofun⟩
      · refine wpOp_plain rfl rfl (fun K hK => ?_)
        go_simp
        exact hK _ _ ⟨_, q, rfl, by omega, hRd, Turns.refl _, ⟨_, _, _, rfl, hb20, (cell_of_row _ _ 3 _ _ _ hh20).trans rfl, 1, by omega, by omega, rfl⟩, nofun⟩
      · refine wpOp_plain rfl rfl (fun K hK => ?_)
        go_simp
        exact hK _ _ ⟨_, q, rfl, by omega, hRd, Turns.refl _, ⟨_, _, _, rfl, hb20, (cell_of_row _ _ 4 _ _ _ hh20).trans rfl, 1, by omega, by omega, rfl⟩, nofun⟩
      · refine wpOp_plain rfl rfl (fun K hK => ?_)
        go_simp
        exact hK _ _ ⟨_, q, rfl, by omega, hRd, Turns.refl _, ⟨_, _, _, rfl, hb20, (cell_of_row _ _ 5 _ _ _ hh20).trans rfl, 2, by omega, by omega, rfl⟩, nofun⟩
    · intro q a' w' hq hRd hLe hzl hfr hdep
      obtain ⟨a23, o23, v23, e23, hb23, hc23, y23_0, by23_0, cy23_0, rfl⟩ : (kCell g (w.heap.size) (fun o => o = .cells #[.int .i64 f, .int .i64 n] 25 (0, 0)) (fun v => ∃ y0 : Int, 0 ≤ y0 ∧ y0 ≤ 2 ∧ v = .int .i64 y0)).p (a'.tmps.getD 23 undef) w' := hdep 13 _ 23 rfl rfl rfl
      have f23 := e23; simp only [Array.getD_eq_getD_getElem?] at f23
      refine wpOp_plain rfl rfl (fun K hK => ?_)
      go_simp
      exact hK _ _ ⟨_, q, rfl, by omega, hRd, Turns.refl _, ⟨_, rfl, by omega, by omega⟩, nofun⟩
    · intro q a' w' hq hRd hLe hzl hfr hdep
      obtain ⟨a19, cs19, e19, hb19, hh19, y19_0, y19_1, by19_0, cy19_0, by19_1, cy19_1, rfl⟩ : (kArr g (w.heap.size) (fun o => o = .cells #[.int .i64 f, .int .i64 n] 25 (0, 0)) 3 3 (fun cs => ∃ y0 : Int, ∃ y1 : Int, (-3) ≤ y0 ∧ y0 ≤ 273 ∧ 0 ≤ y1 ∧ y1 ≤ 255 ∧ cs = #[.int .i64 y0, .int .i64 y1, .int .i64 256])).p (a'.tmps.getD 19 undef) w' := hdep 9 _ 19 rfl rfl rfl
      have f19 := e19; simp only [Array.getD_eq_getD_getElem?] at f19
      obtain ⟨x24, e24, b24, c24⟩ : (kInt g (w.heap.size) (fun o => o = .cells #[.int .i64 f, .int .i64 n] 25 (0, 0)) 0 2).p (a'.tmps.getD 24 undef) w' := hdep 14 _ 24 rfl rfl rfl
      have f24 := e24; simp only [Array.getD_eq_getD_getElem?] at f24
      rcases (show x24 = 0 ∨ x24 = 1 ∨ x24 = 2 by omega) with rfl | rfl | rfl
      · refine wpOp_plain rfl rfl (fun K hK => ?_)
        go_simp
        exact hK _ _ ⟨_, q, rfl, by omega, hRd, Turns.refl _, ⟨_, _, _, rfl, hb19, (cell_of_row _ _ 0 _ _ _ hh19).trans rfl, y19_0, by omega, by omega, rfl⟩, nofun⟩
      · refine wpOp_plain rfl rfl (fun K hK => ?_)
        go_simp
        exact hK _ _ ⟨_, q, rfl, by omega, hRd, Turns.refl _, ⟨_, _, _, rfl, hb19, (cell_of_row _ _ 1 _ _ _ hh19).trans rfl, y19_1, by omega, by omega, rfl⟩, nofun⟩
      · refine wpOp_plain rfl rfl (fun K hK => ?_)
        go_simp
        exact hK _ _ ⟨_, q, rfl, by omega, hRd, Turns.refl _, ⟨_, _, _, rfl, hb19, (cell_of_row _ _ 2 _ _ _ hh19).trans rfl, 256, by omega, by omega, rfl⟩, nofun⟩
    · intro q a' w' hq hRd hLe hzl hfr hdep
      obtain ⟨a25, o25, v25, e25, hb25, hc25, y25_0, by25_0, cy25_0, rfl⟩ : (kCell g (w.heap.size) (fun o => o = .cells #[.int .i64 f, .int .i64 n] 25 (0, 0)) (fun v => ∃ y0 : Int, (-3) ≤ y0 ∧ y0 ≤ 273 ∧ v = .int .i64 y0)).p (a'.tmps.getD 25 undef) w' := hdep 15 _ 25 rfl rfl rfl
      have f25 := e25; simp only [Array.getD_eq_getD_getElem?] at f25
      refine wpOp_plain rfl rfl (fun K hK => ?_)
      go_simp
      exact hK _ _ ⟨_, q, rfl, by omega, hRd, Turns.refl _, ⟨_, rfl, by omega, by omega⟩, nofun⟩
    · intro q a' w' hq hRd hLe hzl hfr hdep
      have e2 : a'.tmps.getD 2 undef = .pointer (some ⟨w.heap.size, 0, none⟩) := hfr 2 rfl
      have f2 := e2; simp only [Array.getD_eq_getD_getElem?] at f2
      have e10 : a'.tmps.getD 10 undef = .agg #[.int .i64 f, .int .i64 n] := hdep 0 _ 10 rfl rfl rfl
      have f10 := e10; simp only [Array.getD_eq_getD_getElem?] at f10
      refine wpOp_plain rfl rfl (fun K hK => ?_)
      refine wp_store_z (cells := #[.int .i64 f, .int .i64 n]) 25 (.tmp 2) (.tmp 10) rfl hLe hz3 hzg (fun o ho => ⟨_, ho, rfl⟩) e2 e10 (by kernel_rfl) rfl rfl ?_
      intro w2 hh2 hg2
      exact hK _ _ ⟨_, q, rfl, by omega, hRd.far hg2 hzg (by omega), Turns.set_z hh2 rfl hg2, ⟨rfl, _, rfl, hh2⟩, fun _ => rfl⟩
    · intro q a' w' hq hRd hLe hzl hfr hdep
      obtain ⟨x26, e26, b26, c26⟩ : (kInt g (w.heap.size) (fun o => o = .cells #[.int .i64 f, .int .i64 n] 25 (0, 0)) (-3) 273).p (a'.tmps.getD 26 undef) w' := hdep 16 _ 26 rfl rfl rfl
      have f26 := e26; simp only [Array.getD_eq_getD_getElem?] at f26
      refine wpOp_plain rfl rfl (fun K hK => ?_)
      go_simp
      exact hK _ _ ⟨_, q, rfl, by omega, hRd, Turns.refl _, ⟨_, rfl, b26, c26⟩, nofun⟩
  intro vs w4 q4 hq4 hr4 hg4 hT4 hN4
  obtain ⟨_, oz4, ho4, hz4⟩ := hN4 17 rfl
  obtain ⟨x3, e3, b3, c3⟩ : (kInt g (w.heap.size) (fun o => o = .cells #[.int .i64 f, .int .i64 n] 25 (0, 0)) (-3) 273).p (vs 18) w4 := hT4 18 3 rfl
  clear hT4 hN4
  simp only [putAll, List.drop_succ_cons, List.drop_zero, e3]
  clear e3
  go_simp
  subst ho4
  obtain ⟨k9, f9⟩ := blk hz4
  have e4 : Below w.heap.size w w4 := e3.trans (hg4.below e3.size (by omega) (Nat.le_refl _))
  go_wp2_with fail
  refine bodyPost_ret (v := .tuple #[.agg #[.int .i64 f, .int .i64 n], .int .i64 x3]) (by simp [results, Try.results20, go_sem, k9]) rfl ⟨f, n, x3, rfl, ⟨s1, s2, s3, s4⟩, by omega, e4⟩
end Go.Proofs.Ytjjbfjjmpapajaa
