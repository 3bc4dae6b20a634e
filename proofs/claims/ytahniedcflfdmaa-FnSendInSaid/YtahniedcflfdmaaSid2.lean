/-
  What DrawSendIn draws: an outlet and a flow.
-/
import Derived.Test.YtahniedcflfdmaaSid1
namespace Go.Proofs.Ytahniedcflfdmaa
open Go Go.RowKit

/-- An outlet and a flow. -/
def OutFl (w : World) (e : Ending) (w' : World) : Prop :=
  ∃ x0 x1 : Int, ∃ A n c, ∃ f0 f1 f2 f3 f4 : Nat → Int, ∃ y0 y1 y2 y3 y4 : Int, e = .returned (.tuple #[.agg #[.int .i64 x0, .int .i64 x1, .slice A n c], .agg #[.int .i64 y0, .int .i64 y1, .int .i64 y2, .int .i64 y3, .int .i64 y4]]) ∧ n ≤ 9 ∧ Rws w' w'.heap.size 5 A n c (flowR f0 f1 f2 f3 f4) ∧ Below w.heap.size w w'
theorem pacc_z {w w' : World} {W0 g z : Nat} {O : Obj → Prop} {t : TypeId} {ks : List Bool} {A : Option Addr} {n c : Nat} (h : PAcc w W0 t ks (.slice A n c) n) (hT : Turns g z O w w') (hg : g < W0) (hz : z < W0) : PAcc w' W0 t ks (.slice A n c) n := by
  obtain ⟨R, h1, ⟨h2, h3⟩, h4⟩ := h
  refine ⟨R, h1, ⟨h2, ?_⟩, h4⟩
  rcases h3 with h3 | ⟨k, cap, cur, e, hb, hk, hr⟩
  · exact .inl h3
  · exact .inr ⟨k, cap, cur, e, hb, hT.keep hk (by omega) (by omega), hr⟩

set_option maxRecDepth 20000 in
set_option maxHeartbeats 16000000 in
theorem drawSendIn_any {w : World} {A : Option Addr} {n c : Nat} (h : Bytes w w.heap.size A n c) :
    Calls Try.prog 23 #[.slice A n c] w (OutFl w) := by
  go_enter Try.func23, Try.ntmps23
  go_wp2_with fail
  refine (open_any ((h.alloc (Nat.le_refl _) (.cells #[.int .i64 0, .int .i64 0, .slice none 0 0] 29)).alloc (by simp) (.cells #[.int .i64 0, .int .i64 0, .int .i64 0, .int .i64 0, .int .i64 0] 39)) (by simp <;> omega)).mono ?_
  rintro e w1 ⟨m, g, rfl, hgl, hr1, hb1, hs1⟩
  have hz1 := (hb1.block w.heap.size (by simp; omega)).trans ((heap_alloc_old _ _ (by simp)).trans (heap_alloc_new w (.cells #[.int .i64 0, .int .i64 0, .slice none 0 0] 29)))
  have hy1 := (hb1.block (w.heap.size + 1) (by simp)).trans (heap_new1 w (.cells #[.int .i64 0, .int .i64 0, .slice none 0 0] 29) (.cells #[.int .i64 0, .int .i64 0, .int .i64 0, .int .i64 0, .int .i64 0] 39))
  have hB1 : Below w.heap.size w w1 := Below.tr (show Below w.heap.size w _ by (repeat (first | exact Below.refl _ _ | assumption | refine Below.al ?_ _ | refine Below.dr ?_ | (refine Below.st ?_ (by simp <;> omega) _) | (refine Below.tr ?_ (by assumption))))) hb1
  have hs2 := hB1.size
  simp at hgl
  have hyl := heap_lt hy1
  clear hs1 hb1
  go_wp2_with fail
  refine (l20Outlet_any hr1 _ (by omega) (by omega)).mono ?_
  rintro e w2 ⟨x0, x1, A1, n1, c1, q, rfl, hn1, hn2, hP2, hq, hr2, hg2⟩
  have hgw1 := hr1.lt
  have hz2 := heap_far hz1 hg2 (by omega)
  have hy2 := heap_far hy1 hg2 (by omega)
  have hB2 : Below w.heap.size w w2 := hB1.trans (below_grown hg2 hs2 (by omega))
  have hs3 := hg2.size
  clear hz1 hy1 hg2
  go_upto_region 3 with ((refine wpList_store_var rfl 29 (.tmp 5) (.tmp 13) rfl #[.int .i64 x0, .int .i64 x1, .slice A1 n1 c1] (heap_alloc_new w2 _) rfl rfl (by kernel_rfl) rfl rfl ?_; intro w3 hx3 hg3 hs4))
  have hs5 := hg3.size
  simp at hs5
  have hz3 := heap_far ((heap_alloc_old w2 (.cells #[.int .i64 0, .int .i64 0, .slice none 0 0] 29) (by omega)).trans hz2) hg3 (by omega)
  have hy3 := heap_far ((heap_alloc_old w2 (.cells #[.int .i64 0, .int .i64 0, .slice none 0 0] 29) (by omega)).trans hy2) hg3 (by omega)
  have hr3 := (hr2.alloc (.cells #[.int .i64 0, .int .i64 0, .slice none 0 0] 29)).far hg3 (show w2.heap.size ≠ g by omega) (by omega)
  have hB3 : Below w.heap.size w w3 := Below.of_grown (Below.tr hB2 (show Below w2.heap.size w2 (w2.alloc (.cells #[.int .i64 0, .int .i64 0, .slice none 0 0] 29)) by (repeat (first | exact Below.refl _ _ | assumption | refine Below.al ?_ _ | refine Below.dr ?_ | (refine Below.st ?_ (by simp <;> omega) _) | (refine Below.tr ?_ (by assumption)))))) hg3 (by omega)
  have hP3 := (hP2.next (show Below w2.heap.size w2 (w2.alloc (.cells #[.int .i64 0, .int .i64 0, .slice none 0 0] 29)) by (repeat (first | exact Below.refl _ _ | assumption | refine Below.al ?_ _ | refine Below.dr ?_ | (refine Below.st ?_ (by simp <;> omega) _) | (refine Below.tr ?_ (by assumption)))))).kept hg3 (.inr fun e => absurd (hP2.block _ e).2 (Nat.lt_irrefl _))
  clear hz2 hy2 hr2 hB2 hP2 hg3
  have hx5 : w2.heap.size ≠ g := by omega
  have hx53 : w2.heap.size ≠ g ∧ w2.heap.size ≠ g := ⟨hx5, hx5⟩
  have hzg : w.heap.size ≠ g := by omega
  obtain ⟨B, hBe⟩ : ∃ B, B = w.heap.size := ⟨_, rfl⟩
  rw [← hBe] at hr3
  go_simp
  go_cut [6, 7, 8] from 14 to 21 (fun s6 s7 s8 wx => ∃ (b : Bool) (a6 a7 : Nat) (u0 u1 : Int) (m2 : Nat) (A2 : Option Addr) (c2 : Nat) (z0 z1 z2 z3 z4 : Int) (q2 : Nat), s6 = .pointer (some ⟨a6, 0, none⟩) ∧ s7 = .pointer (some ⟨a7, 0, none⟩) ∧ s8 = .bool b ∧ (a6 ≠ g ∧ a6 ≠ w.heap.size) ∧ (a7 ≠ g ∧ a7 ≠ w.heap.size) ∧ wx.heap[w.heap.size]? = some (.cells #[.int .i64 0, .int .i64 0, .slice none 0 0] 29 (0, 0)) ∧ wx.heap[w.heap.size + 1]? = some (.cells #[.int .i64 0, .int .i64 0, .int .i64 0, .int .i64 0, .int .i64 0] 39 (0, 0)) ∧ wx.heap[w2.heap.size]? = some (.cells #[.int .i64 x0, .int .i64 x1, .slice A1 n1 c1] 29 (0, 0)) ∧
    wx.heap[a6]? = some (.cells #[.int .i64 u0, .int .i64 u1, .slice A2 m2 c2] 29 (0, 0)) ∧ wx.heap[a7]? = some (.cells #[.int .i64 z0, .int .i64 z1, .int .i64 z2, .int .i64 z3, .int .i64 z4] 39 (0, 0)) ∧ PAcc wx w1.heap.size 39 [true, true, true, true, true] (.slice A1 n1 c1) n1 ∧ PAcc wx w1.heap.size 39 [true, true, true, true, true] (.slice A2 m2 c2) m2 ∧ m2 ≤ 9 ∧ Rd wx B g A m c q2 ∧ q2 ≤ q + 1010 ∧ Below w.heap.size w wx)
  case first =>
    refine wp_region_drawsM (ds := [(0, 15), (1, 16), (2, 17), (3, 18), (4, 14), (5, 19), (6, 20), (7, 21), (8, 6), (9, 7)]) (cs := [([(0, 15), (1, 16), (2, 17), (3, 18), (4, 14), (5, 19), (6, 20), (8, 6), (9, 7)], [10, 7, 11, 12]), ([(0, 15), (1, 16), (2, 17), (3, 18), (4, 14), (5, 19), (6, 20), (8, 6), (9, 7)], [10, 11, 7, 12]), ([(0, 15), (1, 16), (2, 17), (3, 18), (4, 14), (5, 19), (7, 21), (8, 6), (9, 7)], [10, 6, 11, 12]), ([(0, 15), (1, 16), (2, 17), (3, 18), (4, 14), (5, 19), (8, 6), (9, 7)], [10, 6, 7, 11, 12]), ([(0, 15), (1, 16), (2, 17), (3, 18), (4, 14), (5, 19), (8, 6), (9, 7)], [10, 6, 11, 7, 12]), ([(0, 15), (1, 16), (2, 17), (3, 18), (4, 14), (5, 19), (8, 6), (9, 7)], [10, 7, 6, 11, 12])]) (B := B) (g := g) (z := g) (O := fun _ => False) (A := A) (m := m) (c := c) (p := _) 10 [6, 7] 101 [kIs g g (fun _ => False) (.agg #[.int .i64 x0, .int .i64 x1, .slice A1 n1 c1]), kIs g g (fun _ => False) (.pointer (some ⟨g, 0, none⟩)), kVal g g (fun _ => False) (fun v => ∃ y0 : Int, ∃ y1 : Int, ∃ y2 : Int, ∃ y3 : Int, ∃ y4 : Int, 0 ≤ y0 ∧ y0 ≤ 255 ∧ 0 ≤ y1 ∧ y1 ≤ 999 ∧ 0 ≤ y2 ∧ y2 ≤ 255 ∧ 0 ≤ y3 ∧ y3 ≤ 999 ∧ 1 ≤ y4 ∧ y4 ≤ 2 ∧ v = .agg #[.int .i64 y0, .int .i64 y1, .int .i64 y2, .int .i64 y3, .int .i64 y4]), kSentZ g w1.heap.size hgw1, kSentZ g w1.heap.size hgw1, kOutZ g w1.heap.size hgw1, kFl5 g, kBool g g (fun _ => False), kNew g g (fun _ => False) (w3.heap.size) 29 #[.int .i64 0, .int .i64 0, .slice none 0 0], kNew g g (fun _ => False) (w3.heap.size) 39 #[.int .i64 0, .int .i64 0, .int .i64 0, .int .i64 0, .int .i64 0]] (by kernel_rfl) (by kernel_rfl) hr3 (Rd.lt hr3) (by rfl) ?_ rfl (by kernel_rfl) rfl ?_ ?_
    · refine each_cons ?_ ( each_cons ?_ ( each_cons ?_ ( each_cons ?_ ( each_cons ?_ ( each_cons ?_ ( each_cons ?_ ( each_cons ?_ ( each_cons ?_ ( each_cons ?_ ( each_nil))))))))))
      · intro q a' w' hq hRd hLe hzl hfr hdep
        have e5 : a'.tmps.getD 5 undef = .pointer (some ⟨w2.heap.size, 0, none⟩) := hfr 5 rfl
        have f5 := e5; simp only [Array.getD_eq_getD_getElem?] at f5
        have hhx := hLe.keep hx3 hx53.1 hx53.2
        obtain ⟨kx, fx⟩ := blk hhx; clear hhx
        refine wpOp_plain rfl rfl (fun K hK => ?_)
        go_simp
        exact hK _ _ ⟨_, q, rfl, by omega, hRd, Turns.refl _, rfl, nofun⟩
      · intro q a' w' hq hRd hLe hzl hfr hdep
        have e4 : a'.tmps.getD 4 undef = .pointer (some ⟨g, 0, none⟩) := hfr 4 rfl
        have f4 := e4; simp only [Array.getD_eq_getD_getElem?] at f4
        refine wpOp_plain rfl rfl (fun K hK => ?_)
        go_simp
        exact hK _ _ ⟨_, q, rfl, by omega, hRd, Turns.refl _, rfl, nofun⟩
      · intro q a' w' hq hRd hLe hzl hfr hdep
        have e16 : a'.tmps.getD 16 undef = .pointer (some ⟨g, 0, none⟩) := hdep 1 _ 16 rfl rfl rfl
        have f16 := e16; simp only [Array.getD_eq_getD_getElem?] at f16
        refine wpOp_plain rfl rfl (fun K hK => ?_)
        go_simp
        refine (l20Flow0_any hRd (by omega)).mono ?_
        rintro e w2 ⟨v, q2, rfl, ⟨u0, u1, u2, u3, u4, rfl, v0, v1, v2, v3, v4⟩, hq2, hr, hg⟩
        exact hK _ _ ⟨_, _, rfl, by omega, hr, Turns.of_grown hg, ⟨u0, u1, u2, u3, u4, v0.1, v0.2, v1.1, v1.2, v2.1, v2.2, v3.1, v3.2, v4.1, v4.2, rfl⟩, nofun⟩
      · intro q a' w' hq hRd hLe hzl hfr hdep
        have e15 : a'.tmps.getD 15 undef = .agg #[.int .i64 x0, .int .i64 x1, .slice A1 n1 c1] := hdep 0 _ 15 rfl rfl rfl
        have f15 := e15; simp only [Array.getD_eq_getD_getElem?] at f15
        obtain ⟨x17_0, x17_1, x17_2, x17_3, x17_4, bx17_0, cx17_0, bx17_1, cx17_1, bx17_2, cx17_2, bx17_3, cx17_3, bx17_4, cx17_4, e17⟩ : (kVal g g (fun _ => False) (fun v => ∃ y0 : Int, ∃ y1 : Int, ∃ y2 : Int, ∃ y3 : Int, ∃ y4 : Int, 0 ≤ y0 ∧ y0 ≤ 255 ∧ 0 ≤ y1 ∧ y1 ≤ 999 ∧ 0 ≤ y2 ∧ y2 ≤ 255 ∧ 0 ≤ y3 ∧ y3 ≤ 999 ∧ 1 ≤ y4 ∧ y4 ≤ 2 ∧ v = .agg #[.int .i64 y0, .int .i64 y1, .int .i64 y2, .int .i64 y3, .int .i64 y4])).p (a'.tmps.getD 17 undef) w' := hdep 2 _ 17 rfl rfl rfl
        have f17 := e17; simp only [Array.getD_eq_getD_getElem?] at f17
        refine wpOp_plain rfl rfl (fun K hK => ?_)
        go_simp
        refine (sendO_z hRd hgw1 (by have := hLe.size; omega) (hP3.far hLe.grown hgw1) (by omega)).mono ?_
        rintro e w2 ⟨v, q2, rfl, hv, hq2, hr, hg⟩
        exact hK _ _ ⟨_, _, rfl, by omega, hr, Turns.of_grown hg, hv, nofun⟩
      · intro q a' w' hq hRd hLe hzl hfr hdep
        obtain ⟨u180, u181, m18, A18, c18, z180, z181, z182, z183, z184, o18, e18, hP18⟩ : (kSentZ g w1.heap.size hgw1).p (a'.tmps.getD 18 undef) w' := hdep 3 _ 18 rfl rfl rfl
        have f18 := e18; simp only [Array.getD_eq_getD_getElem?] at f18
        refine wpOp_plain rfl rfl (fun K hK => ?_)
        go_simp
        exact hK _ _ ⟨_, q, rfl, by omega, hRd, Turns.refl _, ⟨_, _, _, _, _, _, _, _, _, _, _, rfl, hP18⟩, nofun⟩
      · intro q a' w' hq hRd hLe hzl hfr hdep
        obtain ⟨u140, u141, m14, A14, c14, z140, z141, z142, z143, z144, o14, e14, hP14⟩ : (kSentZ g w1.heap.size hgw1).p (a'.tmps.getD 14 undef) w' := hdep 4 _ 14 rfl rfl rfl
        have f14 := e14; simp only [Array.getD_eq_getD_getElem?] at f14
        refine wpOp_plain rfl rfl (fun K hK => ?_)
        go_simp
        exact hK _ _ ⟨_, q, rfl, by omega, hRd, Turns.refl _, ⟨_, _, _, _, _, rfl, hP14⟩, nofun⟩
      · intro q a' w' hq hRd hLe hzl hfr hdep
        obtain ⟨u140, u141, m14, A14, c14, z140, z141, z142, z143, z144, o14, e14, hP14⟩ : (kSentZ g w1.heap.size hgw1).p (a'.tmps.getD 14 undef) w' := hdep 4 _ 14 rfl rfl rfl
        have f14 := e14; simp only [Array.getD_eq_getD_getElem?] at f14
        refine wpOp_plain rfl rfl (fun K hK => ?_)
        go_simp
        exact hK _ _ ⟨_, q, rfl, by omega, hRd, Turns.refl _, ⟨_, _, _, _, _, rfl⟩, nofun⟩
      · intro q a' w' hq hRd hLe hzl hfr hdep
        obtain ⟨u140, u141, m14, A14, c14, z140, z141, z142, z143, z144, o14, e14, hP14⟩ : (kSentZ g w1.heap.size hgw1).p (a'.tmps.getD 14 undef) w' := hdep 4 _ 14 rfl rfl rfl
        have f14 := e14; simp only [Array.getD_eq_getD_getElem?] at f14
        refine wpOp_plain rfl rfl (fun K hK => ?_)
        go_simp
        exact hK _ _ ⟨_, q, rfl, by omega, hRd, Turns.refl _, ⟨_, rfl⟩, nofun⟩
      · intro q a' w' hq hRd hLe hzl hfr hdep
        refine wpOp_plain rfl rfl (fun K hK => ?_)
        go_simp
        exact hK _ _ ⟨_, q, rfl, by omega, hRd.alloc _, Turns.alloc _ _, ⟨_, rfl, by have := hRd.lt; omega, by have := hLe.size; (try simp at this); omega, heap_alloc_new _ _⟩, nofun⟩
      · intro q a' w' hq hRd hLe hzl hfr hdep
        refine wpOp_plain rfl rfl (fun K hK => ?_)
        go_simp
        exact hK _ _ ⟨_, q, rfl, by omega, hRd.alloc _, Turns.alloc _ _, ⟨_, rfl, by have := hRd.lt; omega, by have := hLe.size; (try simp at this); omega, heap_alloc_new _ _⟩, nofun⟩
    rotate_left
    intro e he
    simp only [List.mem_cons, List.not_mem_nil, or_false] at he
    rcases he with rfl | rfl | rfl | rfl | rfl | rfl
    all_goals
      intro vs w4 q4 hq4 hr4 hg4 hT4
      (try intro hN4)
      (try simp only [List.filterMap_cons, List.filterMap_nil, List.getElem?_cons_succ, List.getElem?_cons_zero])
      replace hg4 := hg4.grown
      obtain ⟨u140, u141, m14, A14, c14, z140, z141, z142, z143, z144, o14, e14, hP14⟩ : (kSentZ g w1.heap.size hgw1).p (vs 4) w4 := hT4 4 14 rfl
      obtain ⟨u190, u191, m19, A19, c19, e19, hP19⟩ : (kOutZ g w1.heap.size hgw1).p (vs 5) w4 := hT4 5 19 rfl
      obtain ⟨a6, e6, hb6, hB6, hh6⟩ : (kNew g g (fun _ => False) (w3.heap.size) 29 #[.int .i64 0, .int .i64 0, .slice none 0 0]).p (vs 8) w4 := hT4 8 6 rfl
      obtain ⟨a7, e7, hb7, hB7, hh7⟩ : (kNew g g (fun _ => False) (w3.heap.size) 39 #[.int .i64 0, .int .i64 0, .int .i64 0, .int .i64 0, .int .i64 0]).p (vs 9) w4 := hT4 9 7 rfl
      (try (obtain ⟨z200, z201, z202, z203, z204, e20⟩ : (kFl5 g).p (vs 6) w4 := hT4 6 20 rfl))
      (try (obtain ⟨x21, e21⟩ : (kBool g g (fun _ => False)).p (vs 7) w4 := hT4 7 21 rfl))
      clear hT4; (try clear hN4)
      simp only [putAll, List.drop_succ_cons, List.drop_zero, e14, e19, e6, e7]
      (try (simp only [e20]; clear e20))
      (try (simp only [e21]; clear e21))
      clear e14 e19 e6 e7
      go_simp
    all_goals
      clear hP14
      have hne67 : a6 ≠ a7 := fun e => by rw [e] at hh6; exact typed_ne hh6 hh7 (by decide)
      have hx4 := heap_far hx3 hg4 hx5
      have hz4 := heap_far hz3 hg4 hzg
      have hy4 := heap_far hy3 hg4 (by omega)
      have hB4 := hB3.trans (below_grown hg4 hB3.size (by omega))
      have hP4 := hP3.far hg4 hgw1
      have hs7 := hg4.size
      have hPb := hP3.block
      have hQ4 := hP19.pacc
      have hq9 := hP19.few
      have hn7 := hP19.ne hh7
      have hn6 : (Value.slice A19 m19 c19).ownBlock ≠ some a6 := fun e => by obtain ⟨cs, h1⟩ := hQ4.typed e; exact typed_ne h1 hh6 (by decide)
      have hl6 := heap_lt hh6
      have hl7 := heap_lt hh7
      clear hg4 hz3 hy3 hx3 hr3 hB3 hP3 hP19
      refine wpList_store_var rfl 29 (.tmp 6) (.tmp 19) rfl #[.int .i64 u190, .int .i64 u191, .slice A19 m19 c19] hh6 rfl rfl (by kernel_rfl) rfl rfl ?_
      intro w5 hh5 hg5 hs55
      have hy5 := heap_far hh7 hg5 (Ne.symm hne67)
      repeat (first | refine wpList_extract rfl (.tmp 14) 1 rfl _ rfl _ rfl ?_ | refine wpList_extract rfl (.tmp 14) 2 rfl _ rfl _ rfl ?_ | (refine wpList_store_var rfl 39 (.tmp 7) (.tmp 20) rfl #[.int .i64 z200, .int .i64 z201, .int .i64 z202, .int .i64 z203, .int .i64 z204] hy5 rfl rfl (by kernel_rfl) rfl rfl ?_; intro w6 hh77 hg6 hs6) | (refine wpList_store_var rfl 39 (.tmp 7) (.tmp 20) rfl #[.int .i64 z140, .int .i64 z141, .int .i64 z142, .int .i64 z143, .int .i64 z144] hy5 rfl rfl (by kernel_rfl) rfl rfl ?_; intro w6 hh77 hg6 hs6))
      go_wp2_with fail
      go_meet
      exact ⟨_, a6, a7, u190, u191, m19, A19, c19, _, _, _, _, _, _, rfl, rfl, rfl, ⟨by omega, by omega⟩, ⟨by omega, by omega⟩, heap_far (heap_far hz4 hg5 (by omega)) hg6 (by omega), heap_far (heap_far hy4 hg5 (by omega)) hg6 (by omega), heap_far (heap_far hx4 hg5 (by omega)) hg6 (by omega), heap_far hh5 hg6 hne67, hh77, (hP4.kept hg5 (.inr fun e => by have := (hPb _ e).2; omega)).kept hg6 (.inr fun e => by have := (hPb _ e).2; omega), (hQ4.kept hg5 (.inr hn6)).kept hg6 (.inr hn7), hq9, (hr4.far hg5 (by omega) (by omega)).far hg6 (by omega) (by omega), by omega, Below.of_grown (Below.of_grown hB4 hg5 (by omega)) hg6 (by omega)⟩
  case rest =>
    obtain ⟨b, a6, a7, u0, u1, m2, A2, c2, z0, z1, z2, z3, z4, q2, rfl, rfl, rfl, h6g, h7g, hz, hy, hx, hh6, hh7, hPx, hPy, hm2, hr, hq2, hB⟩ := hcut
    clear hz3 hy3 hx3 hr3 hB3 hP3
    have hx55 : w2.heap.size ≠ g ∧ w2.heap.size ≠ w.heap.size := ⟨by omega, by omega⟩
    cases b with
    | false =>
      go_upto_region 5 with (fail)
      refine wp_region_draws (ds := [(0, 24), (1, 25), (2, 26)]) (B := B) (g := g) (z := w.heap.size) (O := fun o => o = .cells #[.int .i64 x0, .int .i64 x1, .slice A1 n1 c1] 29 (0, 0)) (A := A) (m := m) (c := c) (p := _) 4 101 [kIs g (w.heap.size) (fun o => o = .cells #[.int .i64 x0, .int .i64 x1, .slice A1 n1 c1] 29 (0, 0)) (.agg #[.int .i64 x0, .int .i64 x1, .slice A1 n1 c1]), kIs g (w.heap.size) (fun o => o = .cells #[.int .i64 x0, .int .i64 x1, .slice A1 n1 c1] 29 (0, 0)) (.pointer (some ⟨g, 0, none⟩)), kVal g (w.heap.size) (fun o => o = .cells #[.int .i64 x0, .int .i64 x1, .slice A1 n1 c1] 29 (0, 0)) (fun v => ∃ y0 : Int, ∃ y1 : Int, ∃ y2 : Int, ∃ y3 : Int, ∃ y4 : Int, (-1) ≤ y0 ∧ y0 ≤ 1000 ∧ (-1) ≤ y1 ∧ y1 ≤ 1000 ∧ (-1) ≤ y2 ∧ y2 ≤ 1000 ∧ (-1) ≤ y3 ∧ y3 ≤ 1000 ∧ (-1) ≤ y4 ∧ y4 ≤ 1000 ∧ v = .agg #[.int .i64 y0, .int .i64 y1, .int .i64 y2, .int .i64 y3, .int .i64 y4]), kSet g (w.heap.size) (fun o => o = .cells #[.int .i64 x0, .int .i64 x1, .slice A1 n1 c1] 29 (0, 0)) hzg] (by kernel_rfl) (by kernel_rfl) (by first | exact .inl rfl | exact .inr (by kernel_rfl)) hr (heap_lt hz) (by rfl) ?_ rfl rfl ?_
      · refine each_cons ?_ ( each_cons ?_ ( each_cons ?_ ( each_cons ?_ ( each_nil))))
        · intro q a' w' hq hRd hLe hzl hfr hdep
          have e5 : a'.tmps.getD 5 undef = .pointer (some ⟨w2.heap.size, 0, none⟩) := hfr 5 rfl
          have f5 := e5; simp only [Array.getD_eq_getD_getElem?] at f5
          have hhx := hLe.keep hx hx55.1 hx55.2
          obtain ⟨kx, fx⟩ := blk hhx; clear hhx
          refine wpOp_plain rfl rfl (fun K hK => ?_)
          go_simp
          exact hK _ _ ⟨_, q, rfl, by omega, hRd, Turns.refl _, rfl, nofun⟩
        · intro q a' w' hq hRd hLe hzl hfr hdep
          have e4 : a'.tmps.getD 4 undef = .pointer (some ⟨g, 0, none⟩) := hfr 4 rfl
          have f4 := e4; simp only [Array.getD_eq_getD_getElem?] at f4
          refine wpOp_plain rfl rfl (fun K hK => ?_)
          go_simp
          exact hK _ _ ⟨_, q, rfl, by omega, hRd, Turns.refl _, rfl, nofun⟩
        · intro q a' w' hq hRd hLe hzl hfr hdep
          have e25 : a'.tmps.getD 25 undef = .pointer (some ⟨g, 0, none⟩) := hdep 1 _ 25 rfl rfl rfl
          have f25 := e25; simp only [Array.getD_eq_getD_getElem?] at f25
          refine wpOp_plain rfl rfl (fun K hK => ?_)
          go_simp
          refine (l20Flow_any hRd _ (by omega) (by omega)).mono ?_
          rintro e w2 ⟨v, q2, rfl, ⟨u0, u1, u2, u3, u4, rfl, v0, v1, v2, v3, v4⟩, hq2, hr, hg⟩
          exact hK _ _ ⟨_, _, rfl, by omega, hr, Turns.of_grown hg, ⟨u0, u1, u2, u3, u4, v0.1, v0.2, v1.1, v1.2, v2.1, v2.2, v3.1, v3.2, v4.1, v4.2, rfl⟩, nofun⟩
        · intro q a' w' hq hRd hLe hzl hfr hdep
          have e2 : a'.tmps.getD 2 undef = .pointer (some ⟨w.heap.size, 0, none⟩) := hfr 2 rfl
          have f2 := e2; simp only [Array.getD_eq_getD_getElem?] at f2
          have e24 : a'.tmps.getD 24 undef = .agg #[.int .i64 x0, .int .i64 x1, .slice A1 n1 c1] := hdep 0 _ 24 rfl rfl rfl
          have f24 := e24; simp only [Array.getD_eq_getD_getElem?] at f24
          refine wpOp_plain rfl rfl (fun K hK => ?_)
          refine wp_store_z (cells := #[.int .i64 x0, .int .i64 x1, .slice A1 n1 c1]) 29 (.tmp 2) (.tmp 24) rfl hLe hz hzg (fun o ho => ⟨_, ho, rfl⟩) e2 e24 (by kernel_rfl) rfl rfl ?_
          intro w2 hh2 hg2
          exact hK _ _ ⟨_, q, rfl, by omega, hRd.far hg2 hzg (by omega), Turns.set_z hh2 rfl hg2, ⟨rfl, _, rfl, hh2⟩, fun _ => rfl⟩
      intro vs w5 q5 hq5 hr5 hg5 hT5 hN5
      obtain ⟨_, oz5, ho5, hz5⟩ := hN5 3 rfl
      obtain ⟨x26_0, x26_1, x26_2, x26_3, x26_4, bx26_0, cx26_0, bx26_1, cx26_1, bx26_2, cx26_2, bx26_3, cx26_3, bx26_4, cx26_4, e26⟩ : (kVal g (w.heap.size) (fun o => o = .cells #[.int .i64 x0, .int .i64 x1, .slice A1 n1 c1] 29 (0, 0)) (fun v => ∃ y0 : Int, ∃ y1 : Int, ∃ y2 : Int, ∃ y3 : Int, ∃ y4 : Int, (-1) ≤ y0 ∧ y0 ≤ 1000 ∧ (-1) ≤ y1 ∧ y1 ≤ 1000 ∧ (-1) ≤ y2 ∧ y2 ≤ 1000 ∧ (-1) ≤ y3 ∧ y3 ≤ 1000 ∧ (-1) ≤ y4 ∧ y4 ≤ 1000 ∧ v = .agg #[.int .i64 y0, .int .i64 y1, .int .i64 y2, .int .i64 y3, .int .i64 y4])).p (vs 2) w5 := hT5 2 26 rfl
      clear hT5 hN5
      simp only [putAll, List.drop_succ_cons, List.drop_zero, e26]
      clear e26
      go_simp
      cases ho5
      have hy5 := hg5.keep hy (show w.heap.size + 1 ≠ g by omega) (show w.heap.size + 1 ≠ w.heap.size by omega)
      have hB5 : Below w.heap.size w w5 := hB.trans (hg5.below hB.size (by omega) (Nat.le_refl _))
      have hP5 := pacc_z hPx hg5 hgw1 (by omega)
      clear hy hB hg5 hr5
      refine wpList_store_var rfl 39 (.tmp 3) (.tmp 26) rfl #[.int .i64 x26_0, .int .i64 x26_1, .int .i64 x26_2, .int .i64 x26_3, .int .i64 x26_4] hy5 rfl rfl (by kernel_rfl) rfl rfl ?_
      intro w6 hy6 hg6 hs9
      have hz6 := heap_far hz5 hg6 (by omega)
      have hP6 := hP5.kept hg6 (.inr fun e => by have := (hP5.block _ e).1; omega)
      obtain ⟨e0, e1, e2, e3, e4, hR6⟩ := pacc_flows hP6
      obtain ⟨k8, f8⟩ := blk hz6
      obtain ⟨k9, f9⟩ := blk hy6
      go_wp2_with fail
      refine bodyPost_ret (v := .tuple #[.agg #[.int .i64 x0, .int .i64 x1, .slice A1 n1 c1], .agg #[.int .i64 x26_0, .int .i64 x26_1, .int .i64 x26_2, .int .i64 x26_3, .int .i64 x26_4]]) (by simp [results, Try.results23, go_sem, k8, k9]) rfl ⟨_, _, _, _, _, e0, e1, e2, e3, e4, _, _, _, _, _, rfl, by omega, hR6, Below.of_grown hB5 hg6 (by omega)⟩
    | true =>
      obtain ⟨k7, f7⟩ := blk hh7
      have hl7 := heap_lt hh7
      have hl6 := heap_lt hh6
      have hlx := heap_lt hx
      have hly := heap_lt hy
      go_wp2_with fail
      refine (specTurnFlow_any z0 z1 z2 z3 z4 _).mono ?_
      rintro e w7 ⟨r0, r1, r2, r3, r4, rfl, hb7⟩
      have hlz := heap_lt hz
      replace hz := (hb7.block _ hlz).trans hz
      replace hy := (hb7.block _ hly).trans hy
      replace hx := (hb7.block _ hlx).trans hx
      replace hh6 := (hb7.block _ hl6).trans hh6
      replace hr := hr.below hb7
      replace hPx := hPx.next hb7
      replace hPy := hPy.next hb7
      replace hB := Below.tr hB hb7
      have hs7 := hb7.size
      have hgl7 := hr.lt
      clear hh7 k7 f7 hb7
      go_wp2_with (refine wpList_store_var rfl 39 (.tmp 9) (.tmp 28) rfl #[.int .i64 r0, .int .i64 r1, .int .i64 r2, .int .i64 r3, .int .i64 r4] (heap_alloc_new w7 _) rfl rfl (by kernel_rfl) rfl rfl ?_; intro w8 h9 hg8 hs8)
      have hs88 := hg8.size
      simp at hs88
      replace hz := heap_far ((heap_alloc_old w7 (.cells #[.int .i64 0, .int .i64 0, .int .i64 0, .int .i64 0, .int .i64 0] 39) (by omega)).trans hz) hg8 (by omega)
      replace hy := heap_far ((heap_alloc_old w7 (.cells #[.int .i64 0, .int .i64 0, .int .i64 0, .int .i64 0, .int .i64 0] 39) (by omega)).trans hy) hg8 (by omega)
      replace hx := heap_far ((heap_alloc_old w7 (.cells #[.int .i64 0, .int .i64 0, .int .i64 0, .int .i64 0, .int .i64 0] 39) (by omega)).trans hx) hg8 (by omega)
      replace hh6 := heap_far ((heap_alloc_old w7 (.cells #[.int .i64 0, .int .i64 0, .int .i64 0, .int .i64 0, .int .i64 0] 39) (by omega)).trans hh6) hg8 (by omega)
      replace hr := (hr.alloc (.cells #[.int .i64 0, .int .i64 0, .int .i64 0, .int .i64 0, .int .i64 0] 39)).far hg8 (show w7.heap.size ≠ g by omega) (by omega)
      have hBx := hPx.block
      have hBy := hPy.block
      replace hPx := (hPx.next (show Below w7.heap.size w7 (w7.alloc (.cells #[.int .i64 0, .int .i64 0, .int .i64 0, .int .i64 0, .int .i64 0] 39)) by (repeat (first | exact Below.refl _ _ | assumption | refine Below.al ?_ _ | refine Below.dr ?_ | (refine Below.st ?_ (by simp <;> omega) _) | (refine Below.tr ?_ (by assumption)))))).kept hg8 (.inr fun e => by have := (hBx _ e).2; omega)
      replace hPy := (hPy.next (show Below w7.heap.size w7 (w7.alloc (.cells #[.int .i64 0, .int .i64 0, .int .i64 0, .int .i64 0, .int .i64 0] 39)) by (repeat (first | exact Below.refl _ _ | assumption | refine Below.al ?_ _ | refine Below.dr ?_ | (refine Below.st ?_ (by simp <;> omega) _) | (refine Below.tr ?_ (by assumption)))))).kept hg8 (.inr fun e => by have := (hBy _ e).2; omega)
      replace hB := Below.of_grown (Below.tr hB (show Below w7.heap.size w7 (w7.alloc (.cells #[.int .i64 0, .int .i64 0, .int .i64 0, .int .i64 0, .int .i64 0] 39)) by (repeat (first | exact Below.refl _ _ | assumption | refine Below.al ?_ _ | refine Below.dr ?_ | (refine Below.st ?_ (by simp <;> omega) _) | (refine Below.tr ?_ (by assumption)))))) hg8 (by omega)
      have h9g : w7.heap.size ≠ g ∧ w7.heap.size ≠ w.heap.size := ⟨by omega, by omega⟩
      have hNe : (Value.slice A1 n1 c1).ownBlock ≠ some w7.heap.size := fun e => absurd (hBx _ e).2 (Nat.lt_irrefl _)
      have hNy : (Value.slice A2 m2 c2).ownBlock ≠ some w7.heap.size := fun e => absurd (hBy _ e).2 (Nat.lt_irrefl _)
      clear hBx hBy hg8 hs8
      refine (odd_any hr _ (by omega) (by omega)).mono ?_
      rintro e w9 ⟨od, q9, rfl, hq9, hr9, hg9, hs9, hyy9⟩
      replace hz := heap_far hz hg9 hzg
      replace hy := heap_far hy hg9 (by omega)
      replace hx := heap_far hx hg9 hx5
      replace hh6 := heap_far hh6 hg9 h6g.1
      replace h9 := heap_far h9 hg9 h9g.1
      replace hPx := hPx.far hg9 hgw1
      replace hPy := hPy.far hg9 hgw1
      replace hB := hB.trans (below_grown hg9 hB.size (by omega))
      have hs99 := hg9.size
      replace hr := hr9
      clear hg9 hs9 hyy9 hr9
      cases od with
      | false =>
        go_upto_region 16 with (fail)
        refine wp_region_draws (ds := [(0, 53), (1, 54)]) (B := B) (g := g) (z := w.heap.size) (O := fun o => o = .cells #[.int .i64 u0, .int .i64 u1, .slice A2 m2 c2] 29 (0, 0)) (A := A) (m := m) (c := c) (p := _) 3 1 [kIs g (w.heap.size) (fun o => o = .cells #[.int .i64 u0, .int .i64 u1, .slice A2 m2 c2] 29 (0, 0)) (.agg #[.int .i64 u0, .int .i64 u1, .slice A2 m2 c2]), kIs g (w.heap.size) (fun o => o = .cells #[.int .i64 u0, .int .i64 u1, .slice A2 m2 c2] 29 (0, 0)) (.agg #[.int .i64 r0, .int .i64 r1, .int .i64 r2, .int .i64 r3, .int .i64 r4]), kSet g (w.heap.size) (fun o => o = .cells #[.int .i64 u0, .int .i64 u1, .slice A2 m2 c2] 29 (0, 0)) hzg] (by kernel_rfl) (by kernel_rfl) (by first | exact .inl rfl | exact .inr (by kernel_rfl)) hr (heap_lt hz) (by rfl) ?_ rfl rfl ?_
        · refine each_cons ?_ ( each_cons ?_ ( each_cons ?_ ( each_nil)))
          · intro q a' w' hq hRd hLe hzl hfr hdep
            have e6 : a'.tmps.getD 6 undef = .pointer (some ⟨a6, 0, none⟩) := hfr 6 rfl
            have f6 := e6; simp only [Array.getD_eq_getD_getElem?] at f6
            have hhx := hLe.keep hh6 h6g.1 h6g.2
            obtain ⟨kx, fx⟩ := blk hhx; clear hhx
            refine wpOp_plain rfl rfl (fun K hK => ?_)
            go_simp
            exact hK _ _ ⟨_, q, rfl, by omega, hRd, Turns.refl _, rfl, nofun⟩
          · intro q a' w' hq hRd hLe hzl hfr hdep
            have e9 : a'.tmps.getD 9 undef = .pointer (some ⟨w7.heap.size, 0, none⟩) := hfr 9 rfl
            have f9 := e9; simp only [Array.getD_eq_getD_getElem?] at f9
            have hhx := hLe.keep h9 h9g.1 h9g.2
            obtain ⟨kx, fx⟩ := blk hhx; clear hhx
            refine wpOp_plain rfl rfl (fun K hK => ?_)
            go_simp
            exact hK _ _ ⟨_, q, rfl, by omega, hRd, Turns.refl _, rfl, nofun⟩
          · intro q a' w' hq hRd hLe hzl hfr hdep
            have e2 : a'.tmps.getD 2 undef = .pointer (some ⟨w.heap.size, 0, none⟩) := hfr 2 rfl
            have f2 := e2; simp only [Array.getD_eq_getD_getElem?] at f2
            have e53 : a'.tmps.getD 53 undef = .agg #[.int .i64 u0, .int .i64 u1, .slice A2 m2 c2] := hdep 0 _ 53 rfl rfl rfl
            have f53 := e53; simp only [Array.getD_eq_getD_getElem?] at f53
            refine wpOp_plain rfl rfl (fun K hK => ?_)
            refine wp_store_z (cells := #[.int .i64 u0, .int .i64 u1, .slice A2 m2 c2]) 29 (.tmp 2) (.tmp 53) rfl hLe hz hzg (fun o ho => ⟨_, ho, rfl⟩) e2 e53 (by kernel_rfl) rfl rfl ?_
            intro w2 hh2 hg2
            exact hK _ _ ⟨_, q, rfl, by omega, hRd.far hg2 hzg (by omega), Turns.set_z hh2 rfl hg2, ⟨rfl, _, rfl, hh2⟩, fun _ => rfl⟩
        intro vs w5 q5 hq5 hr5 hg5 hT5 hN5
        obtain ⟨_, oz5, ho5, hz5⟩ := hN5 2 rfl
        have e54 : vs 1 = .agg #[.int .i64 r0, .int .i64 r1, .int .i64 r2, .int .i64 r3, .int .i64 r4] := hT5 1 54 rfl
        clear hT5 hN5
        simp only [putAll, List.drop_succ_cons, List.drop_zero, e54]
        clear e54
        go_simp
        cases ho5
        have hy5 := hg5.keep hy (show w.heap.size + 1 ≠ g by omega) (show w.heap.size + 1 ≠ w.heap.size by omega)
        have hB5 : Below w.heap.size w w5 := hB.trans (hg5.below hB.size (by omega) (Nat.le_refl _))
        have hP5 := pacc_z hPy hg5 hgw1 (by omega)
        clear hy hB hg5 hr5
        refine wpList_store_var rfl 39 (.tmp 3) (.tmp 54) rfl #[.int .i64 r0, .int .i64 r1, .int .i64 r2, .int .i64 r3, .int .i64 r4] hy5 rfl rfl (by kernel_rfl) rfl rfl ?_
        intro w6 hy6 hg6 hs9
        have hz6 := heap_far hz5 hg6 (by omega)
        have hP6 := hP5.kept hg6 (.inr fun e => by have := (hP5.block _ e).1; omega)
        obtain ⟨e0, e1, e2, e3, e4, hR6⟩ := pacc_flows hP6
        obtain ⟨k8, f8⟩ := blk hz6
        obtain ⟨k9, f9⟩ := blk hy6
        go_wp2_with fail
        refine bodyPost_ret (v := .tuple #[.agg #[.int .i64 u0, .int .i64 u1, .slice A2 m2 c2], .agg #[.int .i64 r0, .int .i64 r1, .int .i64 r2, .int .i64 r3, .int .i64 r4]]) (by simp [results, Try.results23, go_sem, k8, k9]) rfl ⟨_, _, _, _, _, e0, e1, e2, e3, e4, _, _, _, _, _, rfl, by omega, hR6, Below.of_grown hB5 hg6 (by omega)⟩
      | true =>
        go_wp2_with fail
        refine (pick_any hr _ (by omega)).mono ?_
        rintro e w10 ⟨k0, rfl, hk, hr10, hg10, hs10⟩
        have hk1 := hk.1; have hk2 := hk.2.1 (by omega); clear hk
        replace hz := heap_far hz hg10 hzg
        replace hy := heap_far hy hg10 (by omega)
        replace hx := heap_far hx hg10 hx5
        replace h9 := heap_far h9 hg10 h9g.1
        replace hPx := hPx.far hg10 hgw1
        replace hB := hB.trans (below_grown hg10 hB.size (by omega))
        have hs100 := hg10.size
        replace hr := hr10
        have h9l := heap_lt h9
        obtain ⟨k9, f9⟩ := blk h9
        replace hh6 := heap_far hh6 hg10 h6g.1
        replace hPy := hPy.far hg10 hgw1
        clear hg10 hs10 hr10
        rcases (show k0 = 0 ∨ k0 = 1 ∨ k0 = 2 ∨ k0 = 3 by omega) with rfl | rfl | rfl | rfl
        · go_upto_region 16 with (refine wpList_store_at rfl 3 (.tmp 40) (.tmp 39) rfl (.int .i64 (wrap64 (r0 + 1))) #[.int .i64 (wrap64 (r0 + 1)), .int .i64 r1, .int .i64 r2, .int .i64 r3, .int .i64 r4] h9 rfl rfl (by kernel_rfl) rfl rfl (by simp) rfl ?_; intro w11 h11 hg11 hs11)
          replace hPy := hPy.kept hg11 (.inr hNy)
          replace hh6 := heap_far hh6 hg11 (by omega)
          replace hz := heap_far hz hg11 (by omega)
          replace hy := heap_far hy hg11 (by omega)
          replace hr := hr.far hg11 h9g.1 (by omega)
          replace hB := Below.of_grown hB hg11 (by omega)
          replace h9 := h11
          refine wp_region_draws (ds := [(0, 53), (1, 54)]) (B := B) (g := g) (z := w.heap.size) (O := fun o => o = .cells #[.int .i64 u0, .int .i64 u1, .slice A2 m2 c2] 29 (0, 0)) (A := A) (m := m) (c := c) (p := _) 3 1 [kIs g (w.heap.size) (fun o => o = .cells #[.int .i64 u0, .int .i64 u1, .slice A2 m2 c2] 29 (0, 0)) (.agg #[.int .i64 u0, .int .i64 u1, .slice A2 m2 c2]), kIs g (w.heap.size) (fun o => o = .cells #[.int .i64 u0, .int .i64 u1, .slice A2 m2 c2] 29 (0, 0)) (.agg #[.int .i64 (wrap64 (r0 + 1)), .int .i64 r1, .int .i64 r2, .int .i64 r3, .int .i64 r4]), kSet g (w.heap.size) (fun o => o = .cells #[.int .i64 u0, .int .i64 u1, .slice A2 m2 c2] 29 (0, 0)) hzg] (by kernel_rfl) (by kernel_rfl) (by first | exact .inl rfl | exact .inr (by kernel_rfl)) hr (heap_lt hz) (by rfl) ?_ rfl rfl ?_
          · refine each_cons ?_ ( each_cons ?_ ( each_cons ?_ ( each_nil)))
            · intro q a' w' hq hRd hLe hzl hfr hdep
              have e6 : a'.tmps.getD 6 undef = .pointer (some ⟨a6, 0, none⟩) := hfr 6 rfl
              have f6 := e6; simp only [Array.getD_eq_getD_getElem?] at f6
              have hhx := hLe.keep hh6 h6g.1 h6g.2
              obtain ⟨kx, fx⟩ := blk hhx; clear hhx
              refine wpOp_plain rfl rfl (fun K hK => ?_)
              go_simp
              exact hK _ _ ⟨_, q, rfl, by omega, hRd, Turns.refl _, rfl, nofun⟩
            · intro q a' w' hq hRd hLe hzl hfr hdep
              have e9 : a'.tmps.getD 9 undef = .pointer (some ⟨w7.heap.size, 0, none⟩) := hfr 9 rfl
              have f9 := e9; simp only [Array.getD_eq_getD_getElem?] at f9
              have hhx := hLe.keep h9 h9g.1 h9g.2
              obtain ⟨kx, fx⟩ := blk hhx; clear hhx
              refine wpOp_plain rfl rfl (fun K hK => ?_)
              go_simp
              exact hK _ _ ⟨_, q, rfl, by omega, hRd, Turns.refl _, rfl, nofun⟩
            · intro q a' w' hq hRd hLe hzl hfr hdep
              have e2 : a'.tmps.getD 2 undef = .pointer (some ⟨w.heap.size, 0, none⟩) := hfr 2 rfl
              have f2 := e2; simp only [Array.getD_eq_getD_getElem?] at f2
              have e53 : a'.tmps.getD 53 undef = .agg #[.int .i64 u0, .int .i64 u1, .slice A2 m2 c2] := hdep 0 _ 53 rfl rfl rfl
              have f53 := e53; simp only [Array.getD_eq_getD_getElem?] at f53
              refine wpOp_plain rfl rfl (fun K hK => ?_)
              refine wp_store_z (cells := #[.int .i64 u0, .int .i64 u1, .slice A2 m2 c2]) 29 (.tmp 2) (.tmp 53) rfl hLe hz hzg (fun o ho => ⟨_, ho, rfl⟩) e2 e53 (by kernel_rfl) rfl rfl ?_
              intro w2 hh2 hg2
              exact hK _ _ ⟨_, q, rfl, by omega, hRd.far hg2 hzg (by omega), Turns.set_z hh2 rfl hg2, ⟨rfl, _, rfl, hh2⟩, fun _ => rfl⟩
          intro vs w5 q5 hq5 hr5 hg5 hT5 hN5
          obtain ⟨_, oz5, ho5, hz5⟩ := hN5 2 rfl
          have e54 : vs 1 = .agg #[.int .i64 (wrap64 (r0 + 1)), .int .i64 r1, .int .i64 r2, .int .i64 r3, .int .i64 r4] := hT5 1 54 rfl
          clear hT5 hN5
          simp only [putAll, List.drop_succ_cons, List.drop_zero, e54]
          clear e54
          go_simp
          cases ho5
          have hy5 := hg5.keep hy (show w.heap.size + 1 ≠ g by omega) (show w.heap.size + 1 ≠ w.heap.size by omega)
          have hB5 : Below w.heap.size w w5 := hB.trans (hg5.below hB.size (by omega) (Nat.le_refl _))
          have hP5 := pacc_z hPy hg5 hgw1 (by omega)
          clear hy hB hg5 hr5
          refine wpList_store_var rfl 39 (.tmp 3) (.tmp 54) rfl #[.int .i64 (wrap64 (r0 + 1)), .int .i64 r1, .int .i64 r2, .int .i64 r3, .int .i64 r4] hy5 rfl rfl (by kernel_rfl) rfl rfl ?_
          intro w6 hy6 hg6 hs9
          have hz6 := heap_far hz5 hg6 (by omega)
          have hP6 := hP5.kept hg6 (.inr fun e => by have := (hP5.block _ e).1; omega)
          obtain ⟨e0, e1, e2, e3, e4, hR6⟩ := pacc_flows hP6
          obtain ⟨k8, f8⟩ := blk hz6
          obtain ⟨k9, f9⟩ := blk hy6
          go_wp2_with fail
          refine bodyPost_ret (v := .tuple #[.agg #[.int .i64 u0, .int .i64 u1, .slice A2 m2 c2], .agg #[.int .i64 (wrap64 (r0 + 1)), .int .i64 r1, .int .i64 r2, .int .i64 r3, .int .i64 r4]]) (by simp [results, Try.results23, go_sem, k8, k9]) rfl ⟨_, _, _, _, _, e0, e1, e2, e3, e4, _, _, _, _, _, rfl, by omega, hR6, Below.of_grown hB5 hg6 (by omega)⟩
        · go_upto_region 16 with (refine wpList_store_at rfl 3 (.tmp 46) (.tmp 45) rfl (.int .i64 (wrap64 (r3 + 1))) #[.int .i64 r0, .int .i64 r1, .int .i64 r2, .int .i64 (wrap64 (r3 + 1)), .int .i64 r4] h9 rfl rfl (by kernel_rfl) rfl rfl (by simp) rfl ?_; intro w11 h11 hg11 hs11)
          replace hPy := hPy.kept hg11 (.inr hNy)
          replace hh6 := heap_far hh6 hg11 (by omega)
          replace hz := heap_far hz hg11 (by omega)
          replace hy := heap_far hy hg11 (by omega)
          replace hr := hr.far hg11 h9g.1 (by omega)
          replace hB := Below.of_grown hB hg11 (by omega)
          replace h9 := h11
          refine wp_region_draws (ds := [(0, 53), (1, 54)]) (B := B) (g := g) (z := w.heap.size) (O := fun o => o = .cells #[.int .i64 u0, .int .i64 u1, .slice A2 m2 c2] 29 (0, 0)) (A := A) (m := m) (c := c) (p := _) 3 1 [kIs g (w.heap.size) (fun o => o = .cells #[.int .i64 u0, .int .i64 u1, .slice A2 m2 c2] 29 (0, 0)) (.agg #[.int .i64 u0, .int .i64 u1, .slice A2 m2 c2]), kIs g (w.heap.size) (fun o => o = .cells #[.int .i64 u0, .int .i64 u1, .slice A2 m2 c2] 29 (0, 0)) (.agg #[.int .i64 r0, .int .i64 r1, .int .i64 r2, .int .i64 (wrap64 (r3 + 1)), .int .i64 r4]), kSet g (w.heap.size) (fun o => o = .cells #[.int .i64 u0, .int .i64 u1, .slice A2 m2 c2] 29 (0, 0)) hzg] (by kernel_rfl) (by kernel_rfl) (by first | exact .inl rfl | exact .inr (by kernel_rfl)) hr (heap_lt hz) (by rfl) ?_ rfl rfl ?_
          · refine each_cons ?_ ( each_cons ?_ ( each_cons ?_ ( each_nil)))
            · intro q a' w' hq hRd hLe hzl hfr hdep
              have e6 : a'.tmps.getD 6 undef = .pointer (some ⟨a6, 0, none⟩) := hfr 6 rfl
              have f6 := e6; simp only [Array.getD_eq_getD_getElem?] at f6
              have hhx := hLe.keep hh6 h6g.1 h6g.2
              obtain ⟨kx, fx⟩ := blk hhx; clear hhx
              refine wpOp_plain rfl rfl (fun K hK => ?_)
              go_simp
              exact hK _ _ ⟨_, q, rfl, by omega, hRd, Turns.refl _, rfl, nofun⟩
            · intro q a' w' hq hRd hLe hzl hfr hdep
              have e9 : a'.tmps.getD 9 undef = .pointer (some ⟨w7.heap.size, 0, none⟩) := hfr 9 rfl
              have f9 := e9; simp only [Array.getD_eq_getD_getElem?] at f9
              have hhx := hLe.keep h9 h9g.1 h9g.2
              obtain ⟨kx, fx⟩ := blk hhx; clear hhx
              refine wpOp_plain rfl rfl (fun K hK => ?_)
              go_simp
              exact hK _ _ ⟨_, q, rfl, by omega, hRd, Turns.refl _, rfl, nofun⟩
            · intro q a' w' hq hRd hLe hzl hfr hdep
              have e2 : a'.tmps.getD 2 undef = .pointer (some ⟨w.heap.size, 0, none⟩) := hfr 2 rfl
              have f2 := e2; simp only [Array.getD_eq_getD_getElem?] at f2
              have e53 : a'.tmps.getD 53 undef = .agg #[.int .i64 u0, .int .i64 u1, .slice A2 m2 c2] := hdep 0 _ 53 rfl rfl rfl
              have f53 := e53; simp only [Array.getD_eq_getD_getElem?] at f53
              refine wpOp_plain rfl rfl (fun K hK => ?_)
              refine wp_store_z (cells := #[.int .i64 u0, .int .i64 u1, .slice A2 m2 c2]) 29 (.tmp 2) (.tmp 53) rfl hLe hz hzg (fun o ho => ⟨_, ho, rfl⟩) e2 e53 (by kernel_rfl) rfl rfl ?_
              intro w2 hh2 hg2
              exact hK _ _ ⟨_, q, rfl, by omega, hRd.far hg2 hzg (by omega), Turns.set_z hh2 rfl hg2, ⟨rfl, _, rfl, hh2⟩, fun _ => rfl⟩
          intro vs w5 q5 hq5 hr5 hg5 hT5 hN5
          obtain ⟨_, oz5, ho5, hz5⟩ := hN5 2 rfl
          have e54 : vs 1 = .agg #[.int .i64 r0, .int .i64 r1, .int .i64 r2, .int .i64 (wrap64 (r3 + 1)), .int .i64 r4] := hT5 1 54 rfl
          clear hT5 hN5
          simp only [putAll, List.drop_succ_cons, List.drop_zero, e54]
          clear e54
          go_simp
          cases ho5
          have hy5 := hg5.keep hy (show w.heap.size + 1 ≠ g by omega) (show w.heap.size + 1 ≠ w.heap.size by omega)
          have hB5 : Below w.heap.size w w5 := hB.trans (hg5.below hB.size (by omega) (Nat.le_refl _))
          have hP5 := pacc_z hPy hg5 hgw1 (by omega)
          clear hy hB hg5 hr5
          refine wpList_store_var rfl 39 (.tmp 3) (.tmp 54) rfl #[.int .i64 r0, .int .i64 r1, .int .i64 r2, .int .i64 (wrap64 (r3 + 1)), .int .i64 r4] hy5 rfl rfl (by kernel_rfl) rfl rfl ?_
          intro w6 hy6 hg6 hs9
          have hz6 := heap_far hz5 hg6 (by omega)
          have hP6 := hP5.kept hg6 (.inr fun e => by have := (hP5.block _ e).1; omega)
          obtain ⟨e0, e1, e2, e3, e4, hR6⟩ := pacc_flows hP6
          obtain ⟨k8, f8⟩ := blk hz6
          obtain ⟨k9, f9⟩ := blk hy6
          go_wp2_with fail
          refine bodyPost_ret (v := .tuple #[.agg #[.int .i64 u0, .int .i64 u1, .slice A2 m2 c2], .agg #[.int .i64 r0, .int .i64 r1, .int .i64 r2, .int .i64 (wrap64 (r3 + 1)), .int .i64 r4]]) (by simp [results, Try.results23, go_sem, k8, k9]) rfl ⟨_, _, _, _, _, e0, e1, e2, e3, e4, _, _, _, _, _, rfl, by omega, hR6, Below.of_grown hB5 hg6 (by omega)⟩
        · go_upto_region 16 with (refine wpList_store_at rfl 3 (.tmp 52) (.tmp 51) rfl (.int .i64 (wrap64 (3 - r4))) #[.int .i64 r0, .int .i64 r1, .int .i64 r2, .int .i64 r3, .int .i64 (wrap64 (3 - r4))] h9 rfl rfl (by kernel_rfl) rfl rfl (by simp) rfl ?_; intro w11 h11 hg11 hs11)
          replace hPy := hPy.kept hg11 (.inr hNy)
          replace hh6 := heap_far hh6 hg11 (by omega)
          replace hz := heap_far hz hg11 (by omega)
          replace hy := heap_far hy hg11 (by omega)
          replace hr := hr.far hg11 h9g.1 (by omega)
          replace hB := Below.of_grown hB hg11 (by omega)
          replace h9 := h11
          refine wp_region_draws (ds := [(0, 53), (1, 54)]) (B := B) (g := g) (z := w.heap.size) (O := fun o => o = .cells #[.int .i64 u0, .int .i64 u1, .slice A2 m2 c2] 29 (0, 0)) (A := A) (m := m) (c := c) (p := _) 3 1 [kIs g (w.heap.size) (fun o => o = .cells #[.int .i64 u0, .int .i64 u1, .slice A2 m2 c2] 29 (0, 0)) (.agg #[.int .i64 u0, .int .i64 u1, .slice A2 m2 c2]), kIs g (w.heap.size) (fun o => o = .cells #[.int .i64 u0, .int .i64 u1, .slice A2 m2 c2] 29 (0, 0)) (.agg #[.int .i64 r0, .int .i64 r1, .int .i64 r2, .int .i64 r3, .int .i64 (wrap64 (3 - r4))]), kSet g (w.heap.size) (fun o => o = .cells #[.int .i64 u0, .int .i64 u1, .slice A2 m2 c2] 29 (0, 0)) hzg] (by kernel_rfl) (by kernel_rfl) (by first | exact .inl rfl | exact .inr (by kernel_rfl)) hr (heap_lt hz) (by rfl) ?_ rfl rfl ?_
          · refine each_cons ?_ ( each_cons ?_ ( each_cons ?_ ( each_nil)))
            · intro q a' w' hq hRd hLe hzl hfr hdep
              have e6 : a'.tmps.getD 6 undef = .pointer (some ⟨a6, 0, none⟩) := hfr 6 rfl
              have f6 := e6; simp only [Array.getD_eq_getD_getElem?] at f6
              have hhx := hLe.keep hh6 h6g.1 h6g.2
              obtain ⟨kx, fx⟩ := blk hhx; clear hhx
              refine wpOp_plain rfl rfl (fun K hK => ?_)
              go_simp
              exact hK _ _ ⟨_, q, rfl, by omega, hRd, Turns.refl _, rfl, nofun⟩
            · intro q a' w' hq hRd hLe hzl hfr hdep
              have e9 : a'.tmps.getD 9 undef = .pointer (some ⟨w7.heap.size, 0, none⟩) := hfr 9 rfl
              have f9 := e9; simp only [Array.getD_eq_getD_getElem?] at f9
              have hhx := hLe.keep h9 h9g.1 h9g.2
              obtain ⟨kx, fx⟩ := blk hhx; clear hhx
              refine wpOp_plain rfl rfl (fun K hK => ?_)
              go_simp
              exact hK _ _ ⟨_, q, rfl, by omega, hRd, Turns.refl _, rfl, nofun⟩
            · intro q a' w' hq hRd hLe hzl hfr hdep
              have e2 : a'.tmps.getD 2 undef = .pointer (some ⟨w.heap.size, 0, none⟩) := hfr 2 rfl
              have f2 := e2; simp only [Array.getD_eq_getD_getElem?] at f2
              have e53 : a'.tmps.getD 53 undef = .agg #[.int .i64 u0, .int .i64 u1, .slice A2 m2 c2] := hdep 0 _ 53 rfl rfl rfl
              have f53 := e53; simp only [Array.getD_eq_getD_getElem?] at f53
              refine wpOp_plain rfl rfl (fun K hK => ?_)
              refine wp_store_z (cells := #[.int .i64 u0, .int .i64 u1, .slice A2 m2 c2]) 29 (.tmp 2) (.tmp 53) rfl hLe hz hzg (fun o ho => ⟨_, ho, rfl⟩) e2 e53 (by kernel_rfl) rfl rfl ?_
              intro w2 hh2 hg2
              exact hK _ _ ⟨_, q, rfl, by omega, hRd.far hg2 hzg (by omega), Turns.set_z hh2 rfl hg2, ⟨rfl, _, rfl, hh2⟩, fun _ => rfl⟩
          intro vs w5 q5 hq5 hr5 hg5 hT5 hN5
          obtain ⟨_, oz5, ho5, hz5⟩ := hN5 2 rfl
          have e54 : vs 1 = .agg #[.int .i64 r0, .int .i64 r1, .int .i64 r2, .int .i64 r3, .int .i64 (wrap64 (3 - r4))] := hT5 1 54 rfl
          clear hT5 hN5
          simp only [putAll, List.drop_succ_cons, List.drop_zero, e54]
          clear e54
          go_simp
          cases ho5
          have hy5 := hg5.keep hy (show w.heap.size + 1 ≠ g by omega) (show w.heap.size + 1 ≠ w.heap.size by omega)
          have hB5 : Below w.heap.size w w5 := hB.trans (hg5.below hB.size (by omega) (Nat.le_refl _))
          have hP5 := pacc_z hPy hg5 hgw1 (by omega)
          clear hy hB hg5 hr5
          refine wpList_store_var rfl 39 (.tmp 3) (.tmp 54) rfl #[.int .i64 r0, .int .i64 r1, .int .i64 r2, .int .i64 r3, .int .i64 (wrap64 (3 - r4))] hy5 rfl rfl (by kernel_rfl) rfl rfl ?_
          intro w6 hy6 hg6 hs9
          have hz6 := heap_far hz5 hg6 (by omega)
          have hP6 := hP5.kept hg6 (.inr fun e => by have := (hP5.block _ e).1; omega)
          obtain ⟨e0, e1, e2, e3, e4, hR6⟩ := pacc_flows hP6
          obtain ⟨k8, f8⟩ := blk hz6
          obtain ⟨k9, f9⟩ := blk hy6
          go_wp2_with fail
          refine bodyPost_ret (v := .tuple #[.agg #[.int .i64 u0, .int .i64 u1, .slice A2 m2 c2], .agg #[.int .i64 r0, .int .i64 r1, .int .i64 r2, .int .i64 r3, .int .i64 (wrap64 (3 - r4))]]) (by simp [results, Try.results23, go_sem, k8, k9]) rfl ⟨_, _, _, _, _, e0, e1, e2, e3, e4, _, _, _, _, _, rfl, by omega, hR6, Below.of_grown hB5 hg6 (by omega)⟩
        · go_upto_region 9 with (fail)
          refine wp_region_draws (ds := [(0, 33), (1, 34)]) (B := B) (g := g) (z := w.heap.size) (O := fun o => o = .cells #[.int .i64 x0, .int .i64 x1, .slice A1 n1 c1] 29 (0, 0)) (A := A) (m := m) (c := c) (p := _) 3 1 [kIs g (w.heap.size) (fun o => o = .cells #[.int .i64 x0, .int .i64 x1, .slice A1 n1 c1] 29 (0, 0)) (.agg #[.int .i64 x0, .int .i64 x1, .slice A1 n1 c1]), kIs g (w.heap.size) (fun o => o = .cells #[.int .i64 x0, .int .i64 x1, .slice A1 n1 c1] 29 (0, 0)) (.agg #[.int .i64 r0, .int .i64 r1, .int .i64 r2, .int .i64 r3, .int .i64 r4]), kSet g (w.heap.size) (fun o => o = .cells #[.int .i64 x0, .int .i64 x1, .slice A1 n1 c1] 29 (0, 0)) hzg] (by kernel_rfl) (by kernel_rfl) (by first | exact .inl rfl | exact .inr (by kernel_rfl)) hr (heap_lt hz) (by rfl) ?_ rfl rfl ?_
          · refine each_cons ?_ ( each_cons ?_ ( each_cons ?_ ( each_nil)))
            · intro q a' w' hq hRd hLe hzl hfr hdep
              have e5 : a'.tmps.getD 5 undef = .pointer (some ⟨w2.heap.size, 0, none⟩) := hfr 5 rfl
              have f5 := e5; simp only [Array.getD_eq_getD_getElem?] at f5
              have hhx := hLe.keep hx hx55.1 hx55.2
              obtain ⟨kx, fx⟩ := blk hhx; clear hhx
              refine wpOp_plain rfl rfl (fun K hK => ?_)
              go_simp
              exact hK _ _ ⟨_, q, rfl, by omega, hRd, Turns.refl _, rfl, nofun⟩
            · intro q a' w' hq hRd hLe hzl hfr hdep
              have e9 : a'.tmps.getD 9 undef = .pointer (some ⟨w7.heap.size, 0, none⟩) := hfr 9 rfl
              have f9 := e9; simp only [Array.getD_eq_getD_getElem?] at f9
              have hhx := hLe.keep h9 h9g.1 h9g.2
              obtain ⟨kx, fx⟩ := blk hhx; clear hhx
              refine wpOp_plain rfl rfl (fun K hK => ?_)
              go_simp
              exact hK _ _ ⟨_, q, rfl, by omega, hRd, Turns.refl _, rfl, nofun⟩
            · intro q a' w' hq hRd hLe hzl hfr hdep
              have e2 : a'.tmps.getD 2 undef = .pointer (some ⟨w.heap.size, 0, none⟩) := hfr 2 rfl
              have f2 := e2; simp only [Array.getD_eq_getD_getElem?] at f2
              have e33 : a'.tmps.getD 33 undef = .agg #[.int .i64 x0, .int .i64 x1, .slice A1 n1 c1] := hdep 0 _ 33 rfl rfl rfl
              have f33 := e33; simp only [Array.getD_eq_getD_getElem?] at f33
              refine wpOp_plain rfl rfl (fun K hK => ?_)
              refine wp_store_z (cells := #[.int .i64 x0, .int .i64 x1, .slice A1 n1 c1]) 29 (.tmp 2) (.tmp 33) rfl hLe hz hzg (fun o ho => ⟨_, ho, rfl⟩) e2 e33 (by kernel_rfl) rfl rfl ?_
              intro w2 hh2 hg2
              exact hK _ _ ⟨_, q, rfl, by omega, hRd.far hg2 hzg (by omega), Turns.set_z hh2 rfl hg2, ⟨rfl, _, rfl, hh2⟩, fun _ => rfl⟩
          intro vs w5 q5 hq5 hr5 hg5 hT5 hN5
          obtain ⟨_, oz5, ho5, hz5⟩ := hN5 2 rfl
          have e34 : vs 1 = .agg #[.int .i64 r0, .int .i64 r1, .int .i64 r2, .int .i64 r3, .int .i64 r4] := hT5 1 34 rfl
          clear hT5 hN5
          simp only [putAll, List.drop_succ_cons, List.drop_zero, e34]
          clear e34
          go_simp
          cases ho5
          have hy5 := hg5.keep hy (show w.heap.size + 1 ≠ g by omega) (show w.heap.size + 1 ≠ w.heap.size by omega)
          have hB5 : Below w.heap.size w w5 := hB.trans (hg5.below hB.size (by omega) (Nat.le_refl _))
          have hP5 := pacc_z hPx hg5 hgw1 (by omega)
          clear hy hB hg5 hr5
          refine wpList_store_var rfl 39 (.tmp 3) (.tmp 34) rfl #[.int .i64 r0, .int .i64 r1, .int .i64 r2, .int .i64 r3, .int .i64 r4] hy5 rfl rfl (by kernel_rfl) rfl rfl ?_
          intro w6 hy6 hg6 hs9
          have hz6 := heap_far hz5 hg6 (by omega)
          have hP6 := hP5.kept hg6 (.inr fun e => by have := (hP5.block _ e).1; omega)
          obtain ⟨e0, e1, e2, e3, e4, hR6⟩ := pacc_flows hP6
          obtain ⟨k8, f8⟩ := blk hz6
          obtain ⟨k9, f9⟩ := blk hy6
          go_wp2_with fail
          refine bodyPost_ret (v := .tuple #[.agg #[.int .i64 x0, .int .i64 x1, .slice A1 n1 c1], .agg #[.int .i64 r0, .int .i64 r1, .int .i64 r2, .int .i64 r3, .int .i64 r4]]) (by simp [results, Try.results23, go_sem, k8, k9]) rfl ⟨_, _, _, _, _, e0, e1, e2, e3, e4, _, _, _, _, _, rfl, by omega, hR6, Below.of_grown hB5 hg6 (by omega)⟩
end Go.Proofs.Ytahniedcflfdmaa
