/-
  The drawn prefix: its fields lie in small bounds.
-/
import Derived.Test.YtgoijpbkgkjfeaaReg
import Derived.Test.YtgoijpbkgkjfeaaPfx2
namespace Go.Proofs.Ytgoijpbkgkjfeaa
open Go.RowKit Go.Joins

/-- A prefix whose fields lie in small bounds. -/
def prefixR (v : Value) : Prop := ∃ b k : Int, v = .agg #[.int .i64 b, .int .i64 k] ∧ -1 ≤ b ∧ b ≤ 256 ∧ -1 ≤ k ∧ k ≤ 9

theorem div_mul_bd {x s : Int} (h0 : 0 ≤ x) (h1 : x ≤ 255) (hs : 1 ≤ s) : 0 ≤ x / s * s ∧ x / s * s ≤ 255 := by
  have h2 := Int.ediv_mul_le x (show s ≠ 0 by omega)
  have h3 := Int.mul_nonneg (Int.ediv_nonneg h0 (show 0 ≤ s by omega)) (show 0 ≤ s by omega)
  omega

set_option maxHeartbeats 4000000 in
theorem l20Prefix_any {w : World} {B g : Nat} {A : Option Addr} {m c p : Nat} (h : Rd w B g A m c p) (n : Int) (hn : -1000000 ≤ n) (hp2 : p ≤ 1000000000) :
    Calls Try.prog 23 #[(.pointer (some ⟨g, 0, none⟩)), .int .i64 n] w (Drawn w B g A m c p 50 (kVal g g (fun _ => False) prefixR)) := by
  have hlt := h.lt
  have hBg := h.2.1
  have hzg : w.heap.size ≠ g := by omega
  go_enter Try.func23, Try.ntmps23
  go_wp2_with fail
  refine (pick_any (h.alloc _) _ (by omega)).mono ?_
  rintro e w1 ⟨k, rfl, hk, hr1, hg1, hs1⟩
  have hk1 := hk.1; have hk2 := hk.2.1 (by omega); clear hk
  have hz1 := heap_far (heap_alloc_new w _) hg1 hzg
  have hG1 := grown_trans (grown_alloc (grown_refl w _) _) hg1
  have hb := pfx_bd k
  obtain ⟨hb1, hb2⟩ := hb
  have hne : ¬ pfxSize k = 0 := by omega
  go_wp2_with (go_at_call 39; refine (l26Size_any _ (by omega) (by omega) _).mono ?_; rintro e w' ⟨rfl, rfl⟩)
  refine (pick_any hr1 _ (by omega)).mono ?_
  rintro e w2 ⟨x, rfl, hx, hr2, hg2, hs2⟩
  have hx1 := hx.1; have hx2 := hx.2.1 (by omega); clear hx
  have hz2 := heap_far hz1 hg2 hzg
  have hG2 := grown_trans hG1 hg2
  obtain ⟨hd1, hd2⟩ := div_mul_bd hx1 (show x ≤ 255 by omega) hb1
  go_wp2_with fail
  generalize x / pfxSize k * pfxSize k = y at *
  have hsz : w2.heap.size = w.heap.size + 1 := by rw [hs2, hs1]; simp
  have hh3 : (w2.alloc (.cells #[.int .i64 y, .int .i64 k] 25)).heap[w.heap.size + 1]? = some (.cells #[.int .i64 y, .int .i64 k] 25 (0, 0)) := by
    rw [← hsz]; exact heap_alloc_new w2 _
  have hz3 := (Below.heap_alloc w2 (.cells #[.int .i64 y, .int .i64 k] 25) w.heap.size (by omega)).trans hz2
  have hG3 := grown_alloc hG2 (.cells #[.int .i64 y, .int .i64 k] 25)
  refine (odd_any (hr2.alloc _) _ hn (by omega)).mono ?_
  rintro e w4 ⟨od, q4, rfl, hq4, hr4, hg4, hs4, hy4⟩
  have hh4 := heap_far hh3 hg4 (by omega)
  have hz4 := heap_far hz3 hg4 hzg
  have hG4 := grown_trans hG3 hg4
  cases od with
  | false =>
    obtain ⟨kx, fx⟩ := blk hh4
    obtain ⟨kz, fz⟩ := blk hz4
    go_wp2_with (refine wpList_store_var rfl 25 (.tmp 4) (.tmp 33) rfl #[.int .i64 y, .int .i64 k] hz4 rfl rfl (by kernel_rfl) rfl rfl ?_ ; intro w9 hh9 hg9 hs9; obtain ⟨k9, f9⟩ := blk hh9; have hr9 := hr4.far hg9 hzg (by omega); have hG9 := grown_far hG4 hg9 (Nat.le_refl _))
    refine bodyPost_ret (v := .agg #[.int .i64 y, .int .i64 k]) (by simp [results, Try.results23, go_sem, k9]) rfl ⟨_, _, rfl, ⟨_, _, rfl, by omega, by omega, by omega, by omega⟩, by omega, hr9, hG9⟩
  | true =>
    go_upto_region 5 with (fail)
    refine wp_region_draws (ds := [(0, 23), (1, 24), (2, 25), (3, 26), (4, 27), (5, 28), (6, 29), (7, 30), (8, 31), (9, 32)]) (B := B) (g := g) (z := g) (O := fun _ => False) (A := A) (m := m) (c := c) (p := _) 10 1 [kVal g g (fun _ => False) (fun v => v = .agg #[.int .i64 5, .int .i64 3]), kVal g g (fun _ => False) (fun v => v = .agg #[.int .i64 256, .int .i64 8]), kVal g g (fun _ => False) (fun v => v = .agg #[.int .i64 0, .int .i64 9]), kVal g g (fun _ => False) (fun v => v = .agg #[.int .i64 (-1), .int .i64 8]), kVal g g (fun _ => False) (fun v => v = .agg #[.int .i64 0, .int .i64 (-1)]), kArr g g (fun _ => False) 25 5 (fun cs => cs = #[.int .i64 5, .int .i64 3, .int .i64 256, .int .i64 8, .int .i64 0, .int .i64 9, .int .i64 (-1), .int .i64 8, .int .i64 0, .int .i64 (-1)]), kIs g g (fun _ => False) (.pointer (some ⟨g, 0, none⟩)), kInt g g (fun _ => False) 0 4, kElt g g (fun _ => False) (fun xs => ∃ y0 : Int, ∃ y1 : Int, (-1) ≤ y0 ∧ y0 ≤ 256 ∧ (-1) ≤ y1 ∧ y1 ≤ 9 ∧ xs = [.int .i64 y0, .int .i64 y1]), kVal g g (fun _ => False) (fun v => ∃ y0 : Int, ∃ y1 : Int, (-1) ≤ y0 ∧ y0 ≤ 256 ∧ (-1) ≤ y1 ∧ y1 ≤ 9 ∧ v = .agg #[.int .i64 y0, .int .i64 y1])] (by kernel_rfl) (by kernel_rfl) (by first | exact .inl rfl | exact .inr (by kernel_rfl)) hr4 (Rd.lt hr4) (by rfl) ?_ rfl rfl ?_
    · refine each_cons ?_ ( each_cons ?_ ( each_cons ?_ ( each_cons ?_ ( each_cons ?_ ( each_cons ?_ ( each_cons ?_ ( each_cons ?_ ( each_cons ?_ ( each_cons ?_ ( each_nil))))))))))
      · intro q a' w' hq hRd hLe hzl hfr hdep
        refine wpOp_plain rfl rfl (fun K hK => ?_)
        go_simp
        exact hK _ _ ⟨_, q, rfl, by omega, hRd, Turns.refl _, rfl, nofun⟩
      · intro q a' w' hq hRd hLe hzl hfr hdep
        refine wpOp_plain rfl rfl (fun K hK => ?_)
        go_simp
        exact hK _ _ ⟨_, q, rfl, by omega, hRd, Turns.refl _, rfl, nofun⟩
      · intro q a' w' hq hRd hLe hzl hfr hdep
        refine wpOp_plain rfl rfl (fun K hK => ?_)
        go_simp
        exact hK _ _ ⟨_, q, rfl, by omega, hRd, Turns.refl _, rfl, nofun⟩
      · intro q a' w' hq hRd hLe hzl hfr hdep
        refine wpOp_plain rfl rfl (fun K hK => ?_)
        go_simp
        exact hK _ _ ⟨_, q, rfl, by omega, hRd, Turns.refl _, rfl, nofun⟩
      · intro q a' w' hq hRd hLe hzl hfr hdep
        refine wpOp_plain rfl rfl (fun K hK => ?_)
        go_simp
        exact hK _ _ ⟨_, q, rfl, by omega, hRd, Turns.refl _, rfl, nofun⟩
      · intro q a' w' hq hRd hLe hzl hfr hdep
        have e23 : a'.tmps.getD 23 undef = .agg #[.int .i64 5, .int .i64 3] := hdep 0 _ 23 rfl rfl rfl
        have f23 := e23; simp only [Array.getD_eq_getD_getElem?] at f23
        have e24 : a'.tmps.getD 24 undef = .agg #[.int .i64 256, .int .i64 8] := hdep 1 _ 24 rfl rfl rfl
        have f24 := e24; simp only [Array.getD_eq_getD_getElem?] at f24
        have e25 : a'.tmps.getD 25 undef = .agg #[.int .i64 0, .int .i64 9] := hdep 2 _ 25 rfl rfl rfl
        have f25 := e25; simp only [Array.getD_eq_getD_getElem?] at f25
        have e26 : a'.tmps.getD 26 undef = .agg #[.int .i64 (-1), .int .i64 8] := hdep 3 _ 26 rfl rfl rfl
        have f26 := e26; simp only [Array.getD_eq_getD_getElem?] at f26
        have e27 : a'.tmps.getD 27 undef = .agg #[.int .i64 0, .int .i64 (-1)] := hdep 4 _ 27 rfl rfl rfl
        have f27 := e27; simp only [Array.getD_eq_getD_getElem?] at f27
        refine wpOp_plain rfl rfl (fun K hK => ?_)
        go_simp
        exact hK _ _ ⟨_, q, rfl, by omega, hRd.alloc _, Turns.alloc _ _, ⟨_, _, rfl, by have := hRd.lt; omega, heap_alloc_new _ _, rfl⟩, nofun⟩
      · intro q a' w' hq hRd hLe hzl hfr hdep
        have e0 : a'.tmps.getD 0 undef = .pointer (some ⟨g, 0, none⟩) := hfr 0 rfl
        have f0 := e0; simp only [Array.getD_eq_getD_getElem?] at f0
        refine wpOp_plain rfl rfl (fun K hK => ?_)
        go_simp
        exact hK _ _ ⟨_, q, rfl, by omega, hRd, Turns.refl _, rfl, nofun⟩
      · intro q a' w' hq hRd hLe hzl hfr hdep
        have e29 : a'.tmps.getD 29 undef = .pointer (some ⟨g, 0, none⟩) := hdep 6 _ 29 rfl rfl rfl
        have f29 := e29; simp only [Array.getD_eq_getD_getElem?] at f29
        refine wpOp_plain rfl rfl (fun K hK => ?_)
        go_simp
        refine (pick_any hRd _ (by omega)).mono ?_
        rintro e w2 ⟨k, rfl, hk, hr, hg, hs⟩
        have hk1 := hk.1; have hk2 := hk.2.1; have hk3 := hk.2.2
        exact hK _ _ ⟨_, _, rfl, by omega, hr, Turns.of_grown hg, ⟨k, rfl, by omega, by omega⟩, nofun⟩
      · intro q a' w' hq hRd hLe hzl hfr hdep
        obtain ⟨a28, cs28, e28, hb28, hh28, rfl⟩ : (kArr g g (fun _ => False) 25 5 (fun cs => cs = #[.int .i64 5, .int .i64 3, .int .i64 256, .int .i64 8, .int .i64 0, .int .i64 9, .int .i64 (-1), .int .i64 8, .int .i64 0, .int .i64 (-1)])).p (a'.tmps.getD 28 undef) w' := hdep 5 _ 28 rfl rfl rfl
        have f28 := e28; simp only [Array.getD_eq_getD_getElem?] at f28
        obtain ⟨x30, e30, b30, c30⟩ : (kInt g g (fun _ => False) 0 4).p (a'.tmps.getD 30 undef) w' := hdep 7 _ 30 rfl rfl rfl
        have f30 := e30; simp only [Array.getD_eq_getD_getElem?] at f30
        rcases (show x30 = 0 ∨ x30 = 1 ∨ x30 = 2 ∨ x30 = 3 ∨ x30 = 4 by omega) with rfl | rfl | rfl | rfl | rfl
        · refine wpOp_plain rfl rfl (fun K hK => ?_)
          go_simp
          exact hK _ _ ⟨_, q, rfl, by omega, hRd, Turns.refl _, ⟨_, _, [.int .i64 5, .int .i64 3], rfl, hb28, fun i hi => by (rw [(blk hh28).1]; match i, hi with | 0, _ => rfl | 1, _ => rfl), 5, 3, by omega, by omega, by omega, by omega, rfl⟩, nofun⟩
        · refine wpOp_plain rfl rfl (fun K hK => ?_)
          go_simp
          exact hK _ _ ⟨_, q, rfl, by omega, hRd, Turns.refl _, ⟨_, _, [.int .i64 256, .int .i64 8], rfl, hb28, fun i hi => by (rw [(blk hh28).1]; match i, hi with | 0, _ => rfl | 1, _ => rfl), 256, 8, by omega, by omega, by omega, by omega, rfl⟩, nofun⟩
        · refine wpOp_plain rfl rfl (fun K hK => ?_)
          go_simp
          exact hK _ _ ⟨_, q, rfl, by omega, hRd, Turns.refl _, ⟨_, _, [.int .i64 0, .int .i64 9], rfl, hb28, fun i hi => by (rw [(blk hh28).1]; match i, hi with | 0, _ => rfl | 1, _ => rfl), 0, 9, by omega, by omega, by omega, by omega, rfl⟩, nofun⟩
        · refine wpOp_plain rfl rfl (fun K hK => ?_)
          go_simp
          exact hK _ _ ⟨_, q, rfl, by omega, hRd, Turns.refl _, ⟨_, _, [.int .i64 (-1), .int .i64 8], rfl, hb28, fun i hi => by (rw [(blk hh28).1]; match i, hi with | 0, _ => rfl | 1, _ => rfl), (-1), 8, by omega, by omega, by omega, by omega, rfl⟩, nofun⟩
        · refine wpOp_plain rfl rfl (fun K hK => ?_)
          go_simp
          exact hK _ _ ⟨_, q, rfl, by omega, hRd, Turns.refl _, ⟨_, _, [.int .i64 0, .int .i64 (-1)], rfl, hb28, fun i hi => by (rw [(blk hh28).1]; match i, hi with | 0, _ => rfl | 1, _ => rfl), 0, (-1), by omega, by omega, by omega, by omega, rfl⟩, nofun⟩
      · intro q a' w' hq hRd hLe hzl hfr hdep
        obtain ⟨a31, o31, xs31, e31, hb31, hc31, y31_0, y31_1, by31_0, cy31_0, by31_1, cy31_1, rfl⟩ : (kElt g g (fun _ => False) (fun xs => ∃ y0 : Int, ∃ y1 : Int, (-1) ≤ y0 ∧ y0 ≤ 256 ∧ (-1) ≤ y1 ∧ y1 ≤ 9 ∧ xs = [.int .i64 y0, .int .i64 y1])).p (a'.tmps.getD 31 undef) w' := hdep 8 _ 31 rfl rfl rfl
        have f31 := e31; simp only [Array.getD_eq_getD_getElem?] at f31
        have hc31_0 := hc31 0 (by simp); simp at hc31_0
        have hc31_1 := hc31 1 (by simp); simp at hc31_1
        refine wpOp_plain rfl rfl (fun K hK => ?_)
        go_simp
        exact hK _ _ ⟨_, q, rfl, by omega, hRd, Turns.refl _, ⟨y31_0, y31_1, by omega, by omega, by omega, by omega, rfl⟩, nofun⟩
    intro vs w5 q5 hq5 hr5 hg5 hT5 hN5
    replace hg5 := hg5.grown
    obtain ⟨x32_0, x32_1, bx32_0, cx32_0, bx32_1, cx32_1, e32⟩ : (kVal g g (fun _ => False) (fun v => ∃ y0 : Int, ∃ y1 : Int, (-1) ≤ y0 ∧ y0 ≤ 256 ∧ (-1) ≤ y1 ∧ y1 ≤ 9 ∧ v = .agg #[.int .i64 y0, .int .i64 y1])).p (vs 9) w5 := hT5 9 32 rfl
    clear hT5 hN5
    simp only [putAll, List.drop_succ_cons, List.drop_zero, e32]
    clear e32
    go_simp
    have hz5 := heap_far hz4 hg5 hzg
    have hG5 := grown_trans hG4 hg5
    refine wpList_store_var rfl 25 (.tmp 4) (.tmp 32) rfl #[.int .i64 x32_0, .int .i64 x32_1] hz5 rfl rfl (by kernel_rfl) rfl rfl ?_
    intro w9 hh9 hg9 hs9
    obtain ⟨k9, f9⟩ := blk hh9
    have hr9 := hr5.far hg9 hzg (by omega)
    have hG9 := grown_far hG5 hg9 (Nat.le_refl _)
    go_wp2
    refine bodyPost_ret (v := .agg #[.int .i64 x32_0, .int .i64 x32_1]) (by simp [results, Try.results23, go_sem, k9]) rfl ⟨_, _, rfl, ⟨_, _, rfl, by omega, by omega, by omega, by omega⟩, by omega, hr9, hG9⟩
end Go.Proofs.Ytgoijpbkgkjfeaa
