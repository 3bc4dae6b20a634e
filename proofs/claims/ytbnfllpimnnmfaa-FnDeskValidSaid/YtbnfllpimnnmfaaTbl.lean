/-
  The drawn table: what l20Table hands over.
-/
import Derived.Test.YtbnfllpimnnmfaaTch
import Derived.Test.YtbnfllpimnnmfaaNum
import Derived.Test.YtbnfllpimnnmfaaFlwO
import Derived.Test.YtbnfllpimnnmfaaLatM
import Derived.Test.YtbnfllpimnnmfaaCel
import Derived.Deep.CutRange
namespace Go.Proofs.Ytbnfllpimnnmfaa
open Go Go.RowKit

/-- One of the values that a call returned. -/
theorem wpList_extract {P : Program} {ops : Array Oper} {rest : List Oper} {o : Oper} {a : Act} {w : World} {Q : Exit → Act → World → Prop} (hgd : o.guard = none) (x : Operand) (k : Nat) (ho : o.op = .extract x k) (vs : Array Value) (hx : a.eval x = .tuple vs) (v : Value) (hv : vs[k]? = some v)
    (h : wpList P ops Q rest (a.put o.dst v) w) : wpList P ops Q (o :: rest) a w := by
  refine wpList_plain hgd fun K hK => ?_
  unfold Oper.wp execOp
  simp [ho, hx, Instr.extract, hv, Result.andThen]
  exact hK _ _ h
/-- What TouchFlow hands back. -/
def kTch (g W0 : Nat) (hg : g < W0) (N : Nat) : KP g g (fun _ => False) :=
  ⟨fun v w => ∃ (z0 z1 : Int) (A : Option Addr) (n c : Nat) (ok : Bool), v = .tuple #[.agg #[.int .i64 z0, .int .i64 z1, .slice A n c], .bool ok] ∧ n ≤ N ∧ PAcc w W0 81 [true, true, true, true, true, true, true] (.slice A n c) n,
   fun _ _ _ ⟨z0, z1, A, n, c, ok, h1, h2, h3⟩ hT => ⟨z0, z1, A, n, c, ok, h1, h2, h3.far hT.grown hg⟩⟩
def kTab (g W0 : Nat) (hg : g < W0) (N : Nat) : KP g g (fun _ => False) :=
  ⟨fun v w => ∃ (z0 z1 : Int) (A : Option Addr) (n c : Nat), v = .agg #[.int .i64 z0, .int .i64 z1, .slice A n c] ∧ n ≤ N ∧ PAcc w W0 81 [true, true, true, true, true, true, true] (.slice A n c) n,
   fun _ _ _ ⟨z0, z1, A, n, c, h1, h2, h3⟩ hT => ⟨z0, z1, A, n, c, h1, h2, h3.far hT.grown hg⟩⟩
theorem touch_d {w : World} {B g W0 : Nat} {A : Option Addr} {m c p : Nat} (h : Rd w B g A m c p) (hg : g < W0) (hW : W0 ≤ w.heap.size) {x0 x1 : Int} {A1 : Option Addr} {n1 c1 : Nat} (hA : PAcc w W0 81 [true, true, true, true, true, true, true] (.slice A1 n1 c1) n1) (hn : n1 ≤ 1000)
    {y0 y1 y2 y3 y4 ho now : Int} (hf : (0 ≤ y0 ∧ y0 ≤ 255) ∧ (0 ≤ y1 ∧ y1 ≤ 999) ∧ (0 ≤ y2 ∧ y2 ≤ 255) ∧ (0 ≤ y3 ∧ y3 ≤ 999) ∧ (1 ≤ y4 ∧ y4 ≤ 2)) (hh : 0 ≤ ho ∧ ho ≤ 30) (hnow : 0 ≤ now ∧ now ≤ 100) :
    Calls Try.prog 67 #[.agg #[.int .i64 x0, .int .i64 x1, .slice A1 n1 c1], .agg #[.int .i64 y0, .int .i64 y1, .int .i64 y2, .int .i64 y3, .int .i64 y4], .int .i64 ho, .int .i64 now] w fun e w' => ∃ v q, e = .returned v ∧ (kTch g W0 hg (n1 + 1)).p v w' ∧ q ≤ p ∧ Rd w' B g A m c q ∧ w.grownBy w' (some g) := by
  obtain ⟨R, hR, hacc⟩ := hA
  obtain ⟨f0, f1, f2, f3, f4, t5, la, rfl⟩ := entryR_of hR
  obtain ⟨A', c', e, hO⟩ := hacc.own
  cases e
  refine (touchFlow_weak x0 x1 y0 y1 y2 y3 y4 ho now hR (plain_cons_int (by omega) (plain_cons_int (by omega) (plain_cons_int (by omega) (plain_cons_int (by omega) (plain_cons_int (by omega) (plain_cons_int (by omega) (plain_cons_int (by omega) plain_nil))))))) hO.rows (Nat.le_refl _) hn).mono ?_
  rintro e w' ⟨z0, z1, A2, n2, c2, ok, rfl, hn2, _, hP, hb⟩
  exact ⟨_, p, rfl, ⟨z0, z1, A2, n2, c2, ok, rfl, hn2, hP.base hW⟩, Nat.le_refl _, h.below hb, grown_below hb⟩
/-- What the drawing of a table leaves. -/
def DrawnT (w : World) (B g : Nat) (A : Option Addr) (m c p K : Nat) (e : Ending) (w' : World) : Prop :=
  ∃ x0 x1 : Int, ∃ A1 n1 c1 q, e = .returned (.agg #[.int .i64 x0, .int .i64 x1, .slice A1 n1 c1]) ∧ n1 ≤ 8 ∧ PAcc w' w.heap.size 81 [true, true, true, true, true, true, true] (.slice A1 n1 c1) n1 ∧ q ≤ p + K ∧ Rd w' B g A m c q ∧ w.grownBy w' (some g)
theorem empty_pacc {w : World} {b W0 : Nat} (hb : w.heap[b]? = some (.cells #[] 81 (0, 0))) (hW : W0 ≤ b) : PAcc w W0 81 [true, true, true, true, true, true, true] (.slice (some ⟨b, 0, none⟩) 0 0) 0 :=
  ⟨fun _ => zeros [true, true, true, true, true, true, true], fun _ => plain_zeros _, Acc.of_new ⟨#[], hb, by simp, Nat.le_refl _, fun i hi => absurd hi (by omega)⟩ hW (by unfold maxLen; omega) (fun _ => rfl)⟩

theorem Rd.low {w w' : World} {B g B' : Nat} {A : Option Addr} {n c p : Nat} (h : Rd w B g A n c p) (hb : Below B' w w') (hg : g < B') : Rd w' B g A n c p :=
  ⟨(hb.block g hg).trans h.1, h.2.1, h.2.2.keep fun a ha => hb.cell (by have := h.2.1; omega)⟩
set_option maxRecDepth 20000 in
set_option maxHeartbeats 16000000 in
theorem l20Table_any {w : World} {B g Bp : Nat} {A : Option Addr} {m c p : Nat} (h : Rd w B g A m c p) {Ap : Option Addr} {np cp : Nat} {a b d : Nat → Int} (hO : Own w Bp 78 3 Ap np cp (hostR a b d)) (hgP : g < Bp) (hpl : ∀ i, Plain [true, true, true] (hostR a b d i)) (hnp : np ≤ 100) (n : Int) (hn : -1000000 ≤ n) (hp2 : p ≤ 400000000) :
    Calls Try.prog 57 #[(.pointer (some ⟨g, 0, none⟩)), .slice Ap np cp, .int .i64 n] w (DrawnT w B g A m c p 13000) := by
  have hlt := h.lt
  have hBg := h.2.1
  have hgW : g < w.heap.size + 1 := by omega
  go_enter Try.func57, Try.ntmps57
  have hr0 := h.alloc (.cells #[.int .i64 0, .int .i64 0, .slice none 0 0] 35)
  have hZ0 := heap_alloc_new w (.cells #[.int .i64 0, .int .i64 0, .slice none 0 0] 35)
  have hG0 := grown_alloc (grown_refl w (some g)) (.cells #[.int .i64 0, .int .i64 0, .slice none 0 0] 35)
  go_wp2_with fail
  refine (pick_any hr0 _ (by omega)).mono ?_
  rintro e w1 ⟨x0, rfl, hk, hr1, hg1, hs1⟩
  have hx0 := hk.1; have hx1 := hk.2.1 (by omega); clear hk
  have hZ1 := heap_far hZ0 hg1 (by omega)
  have hG1 := grown_trans hG0 hg1
  clear hg1 hs1 hr0 hZ0 hG0
  go_wp2_with fail
  refine (pick_any hr1 _ (by omega)).mono ?_
  rintro e w2 ⟨x1, rfl, hk, hr2, hg2, hs2⟩
  have hx2 := hk.1; have hx3 := hk.2.1 (by omega); clear hk
  have hZ2 := heap_far hZ1 hg2 (by omega)
  have hG2 := grown_trans hG1 hg2
  clear hs2
  have hz2 := hG2.size
  have hZl2 := heap_lt hZ2
  clear hg2 hr1 hZ1 hG1
  go_wp2_with fail
  refine (pick_any (hr2.alloc _) _ (by omega)).mono ?_
  rintro e w3 ⟨k3, rfl, hk, hr3, hg3, hs3⟩
  have hk1 := hk.1; have hk2 := hk.2.1 (by omega); clear hk hs3
  have hq3 := heap_far (heap_alloc_new w2 (.cells #[.int .i64 10, .int .i64 50, .int .i64 (1 + x1)] 3)) hg3 (by omega)
  have hZ3 := heap_far ((heap_alloc_old w2 (.cells #[.int .i64 10, .int .i64 50, .int .i64 (1 + x1)] 3) hZl2).trans hZ2) hg3 (by omega)
  have hG3 := grown_trans (grown_alloc hG2 (.cells #[.int .i64 10, .int .i64 50, .int .i64 (1 + x1)] 3)) hg3
  have hz3 : w2.heap.size < w3.heap.size := heap_lt hq3
  have hZl3 := heap_lt hZ3
  clear hg3 hr2 hZ2 hG2 hZl2
  obtain ⟨i3, rfl⟩ := Int.eq_ofNat_of_zero_le hk1
  have hi3 : (i3 : Int) < (3 : Int) := by omega
  obtain ⟨x2, hx4, hx5, hc3⟩ : ∃ x2 : Int, 1 ≤ x2 ∧ x2 ≤ 256 ∧ w3.cell? ⟨w2.heap.size, i3, none⟩ = some (.int .i64 x2) := by
    rw [(blk hq3).1]
    rcases (show i3 = 0 ∨ i3 = 1 ∨ i3 = 2 by omega) with rfl | rfl | rfl
    · exact ⟨10, by omega, by omega, rfl⟩
    · exact ⟨50, by omega, by omega, rfl⟩
    · exact ⟨1 + x1, by omega, by omega, rfl⟩
  clear hq3
  have hE3 := heap_alloc_new w3 (.cells #[] 81)
  have hX4 := heap_alloc_new (w3.alloc (.cells #[] 81)) (.cells #[.int .i64 (1 + x0), .int .i64 x2, .slice (some ⟨w3.heap.size, 0, none⟩) 0 0] 35)
  have hbl3 := Below.tr (below_bt w3 (.cells #[] 81)) (below_bt (w3.alloc (.cells #[] 81)) (.cells #[.int .i64 (1 + x0), .int .i64 x2, .slice (some ⟨w3.heap.size, 0, none⟩) 0 0] 35))
  have hE4 := (heap_alloc_old (w3.alloc (.cells #[] 81)) (.cells #[.int .i64 (1 + x0), .int .i64 x2, .slice (some ⟨w3.heap.size, 0, none⟩) 0 0] 35) (by simp)).trans hE3
  have hP4 := empty_pacc hE4 (show w.heap.size + 1 ≤ w3.heap.size by omega)
  have hZ4 := (hbl3.block w.heap.size hZl3).trans hZ3
  have hr4 := hr3.below hbl3
  have hG4 := grown_low hG3 (hbl3.mono (by omega))
  simp only [World.size_alloc] at hX4
  go_wp2_with fail
  refine (pick_any hr4 _ (by omega)).mono ?_
  rintro e w5 ⟨k5, rfl, hk, hr5, hg5, hs5⟩
  have hk3 := hk.1; have hk4 := hk.2.1 (by omega); clear hk hs5
  have hX5 := heap_far hX4 hg5 (by omega)
  have hZ5 := heap_far hZ4 hg5 (by omega)
  have hP5 := hP4.far hg5 hgW
  have hG5 := grown_trans hG4 hg5
  have hb7 : w3.heap.size + 1 ≠ g ∧ w3.heap.size + 1 ≠ g := ⟨by omega, by omega⟩
  have h7W : w.heap.size < w3.heap.size + 1 := by omega
  clear hc3 hE3 hX4 hbl3 hE4 hP4 hZ4 hr4 hG4 hg5 hZ3 hG3 hr3
  generalize w3.heap.size + 1 = a7 at *
  clear hZl3 hz3
  go_wp2_with fail
  have hOp := Lib.hid hO
  clear hO
  go_loopw [8, 9, 10, 11] (fun s8 s9 _ _ wr => ∃ (now k : Int) (q nn : Nat) (y0 y1 : Int) (A1 : Option Addr) (c1 : Nat), s8 = .int .i64 now ∧ s9 = .int .i64 k ∧ 0 ≤ k ∧ k ≤ 7 ∧ 0 ≤ now ∧ now ≤ 9 * (7 - k) ∧ (nn : Int) + k ≤ 7 ∧ wr.heap[w.heap.size]? = some (.cells #[.int .i64 0, .int .i64 0, .slice none 0 0] 35) ∧ wr.heap[a7]? = some (.cells #[.int .i64 y0, .int .i64 y1, .slice A1 nn c1] 35 (0, 0)) ∧ PAcc wr (w.heap.size + 1) 81 [true, true, true, true, true, true, true] (.slice A1 nn c1) nn ∧ Rd wr B g A m c q ∧ (q : Int) ≤ p + 20 + 1600 * (7 - k) ∧ w.grownBy wr (some g)) (fun _ s9 _ _ _ => (intOf s9).toNat)
  case atStart => exact ⟨0, k5, _, 0, _, _, _, _, rfl, rfl, hk3, by omega, by omega, by omega, by omega, hZ5, hX5, hP5, hr5, by omega, hG5⟩
  case round =>
    obtain ⟨now, k, q, nn, y0, y1, A1, c1, rfl, rfl, hk6, hk7, hn0, hn1, hnk, hZ, hX, hP, hr, hq, hG⟩ := hrel
    clear hZ5 hX5 hP5 hr5 hG5
    have hXl := heap_lt hX
    have hZl := heap_lt hZ
    have hsz := hG.size
    have hgw := hr.lt
    by_cases hlt2 : 0 < k
    · have hw1 : IntKind.i64.wrap (k - 1) = k - 1 := IntWalk.i64_in _ (by omega)
      go_upto_region 6 with (fail)
      go_cut [10, 11] from 27 to 49 (fun s10 s11 wx => ∃ (b : Bool) (a10 : Nat) (z0 z1 : Int) (A2 : Option Addr) (n2 c2 q2 : Nat), s10 = .pointer (some ⟨a10, 0, none⟩) ∧ s11 = .bool b ∧ a10 ≠ a7 ∧ wx.heap[w.heap.size]? = some (.cells #[.int .i64 0, .int .i64 0, .slice none 0 0] 35) ∧ wx.heap[a7]? = some (.cells #[.int .i64 y0, .int .i64 y1, .slice A1 nn c1] 35 (0, 0)) ∧ wx.heap[a10]? = some (.cells #[.int .i64 z0, .int .i64 z1, .slice A2 n2 c2] 35 (0, 0)) ∧ n2 ≤ nn + 1 ∧
        PAcc wx (w.heap.size + 1) 81 [true, true, true, true, true, true, true] (.slice A1 nn c1) nn ∧ PAcc wx (w.heap.size + 1) 81 [true, true, true, true, true, true, true] (.slice A2 n2 c2) n2 ∧ Rd wx B g A m c q2 ∧ (q2 : Int) ≤ q + 1500 ∧ w.grownBy wx (some g))
      case first =>
        have hOr := hOp.out.farN hG hgP
        refine wp_region_drawsM (ds := [(0, 32), (1, 33), (2, 34), (3, 35), (4, 36), (5, 37), (6, 38), (7, 39), (8, 40), (9, 41), (10, 31), (11, 42), (12, 43), (13, 10)]) (cs := [([(0, 32), (1, 33), (2, 34), (3, 35), (4, 36), (5, 37), (6, 38), (7, 39), (8, 40), (9, 41), (10, 31), (11, 42), (13, 10)], [14, 12, 15])]) (B := B) (g := g) (z := g) (O := fun _ => False) (A := A) (m := m) (c := c) (p := _) 14 [12] 101 [kIs g g (fun _ => False) (.agg #[.int .i64 y0, .int .i64 y1, .slice A1 nn c1]), kIs g g (fun _ => False) (.pointer (some ⟨g, 0, none⟩)), kVal g g (fun _ => False) (fun v => ∃ y0 : Int, ∃ y1 : Int, ∃ y2 : Int, ∃ y3 : Int, ∃ y4 : Int, 0 ≤ y0 ∧ y0 ≤ 255 ∧ 0 ≤ y1 ∧ y1 ≤ 999 ∧ 0 ≤ y2 ∧ y2 ≤ 255 ∧ 0 ≤ y3 ∧ y3 ≤ 999 ∧ 1 ≤ y4 ∧ y4 ≤ 2 ∧ v = .agg #[.int .i64 y0, .int .i64 y1, .int .i64 y2, .int .i64 y3, .int .i64 y4]), kIs g g (fun _ => False) (.pointer (some ⟨g, 0, none⟩)), kIs g g (fun _ => False) (.slice Ap np cp), kInt g g (fun _ => False) (-9223372036854775808) 9223372036854775807, kInt g g (fun _ => False) (-9223372036854775808) 30, kInt g g (fun _ => False) 0 30, kIs g g (fun _ => False) (.int .i64 now), kTch g (w.heap.size + 1) hgW (nn + 1), kTch g (w.heap.size + 1) hgW (nn + 1), kTab g (w.heap.size + 1) hgW (nn + 1), kBool g g (fun _ => False), kNew g g (fun _ => False) (wr.heap.size) 35 #[.int .i64 0, .int .i64 0, .slice none 0 0]] (by kernel_rfl) (by kernel_rfl) hr (Rd.lt hr) (by rfl) ?_ rfl (by kernel_rfl) rfl ?_ ?_
        · refine each_cons ?_ ( each_cons ?_ ( each_cons ?_ ( each_cons ?_ ( each_cons ?_ ( each_cons ?_ ( each_cons ?_ ( each_cons ?_ ( each_cons ?_ ( each_cons ?_ ( each_cons ?_ ( each_cons ?_ ( each_cons ?_ ( each_cons ?_ ( each_nil))))))))))))))
          · intro q a' w' hq hRd hLe hzl hfr hdep
            have e7 : a'.tmps.getD 7 undef = .pointer (some ⟨a7, 0, none⟩) := hfr 7 rfl
            have f7 := e7; simp only [Array.getD_eq_getD_getElem?] at f7
            have hhx := hLe.keep hX hb7.1 hb7.2
            obtain ⟨kx, fx⟩ := blk hhx; clear hhx
            refine wpOp_plain rfl rfl (fun K hK => ?_)
            go_simp
            exact hK _ _ ⟨_, q, rfl, by omega, hRd, Turns.refl _, rfl, nofun⟩
          · intro q a' w' hq hRd hLe hzl hfr hdep
            have e0 : a'.tmps.getD 0 undef = .pointer (some ⟨g, 0, none⟩) := hfr 0 rfl
            have f0 := e0; simp only [Array.getD_eq_getD_getElem?] at f0
            refine wpOp_plain rfl rfl (fun K hK => ?_)
            go_simp
            exact hK _ _ ⟨_, q, rfl, by omega, hRd, Turns.refl _, rfl, nofun⟩
          · intro q a' w' hq hRd hLe hzl hfr hdep
            have e33 : a'.tmps.getD 33 undef = .pointer (some ⟨g, 0, none⟩) := hdep 1 _ 33 rfl rfl rfl
            have f33 := e33; simp only [Array.getD_eq_getD_getElem?] at f33
            refine wpOp_plain rfl rfl (fun K hK => ?_)
            go_simp
            refine (l20Flow0_any hRd (by omega)).mono ?_
            rintro e w2 ⟨v, q2, rfl, ⟨u0, u1, u2, u3, u4, rfl, v0, v1, v2, v3, v4⟩, hq2, hr, hg⟩
            exact hK _ _ ⟨_, _, rfl, by omega, hr, Turns.of_grown hg, ⟨u0, u1, u2, u3, u4, v0.1, v0.2, v1.1, v1.2, v2.1, v2.2, v3.1, v3.2, v4.1, v4.2, rfl⟩, nofun⟩
          · intro q a' w' hq hRd hLe hzl hfr hdep
            have e0 : a'.tmps.getD 0 undef = .pointer (some ⟨g, 0, none⟩) := hfr 0 rfl
            have f0 := e0; simp only [Array.getD_eq_getD_getElem?] at f0
            refine wpOp_plain rfl rfl (fun K hK => ?_)
            go_simp
            exact hK _ _ ⟨_, q, rfl, by omega, hRd, Turns.refl _, rfl, nofun⟩
          · intro q a' w' hq hRd hLe hzl hfr hdep
            have e1 : a'.tmps.getD 1 undef = .slice Ap np cp := hfr 1 rfl
            have f1 := e1; simp only [Array.getD_eq_getD_getElem?] at f1
            refine wpOp_plain rfl rfl (fun K hK => ?_)
            go_simp
            exact hK _ _ ⟨_, q, rfl, by omega, hRd, Turns.refl _, rfl, nofun⟩
          · intro q a' w' hq hRd hLe hzl hfr hdep
            have e35 : a'.tmps.getD 35 undef = .pointer (some ⟨g, 0, none⟩) := hdep 3 _ 35 rfl rfl rfl
            have f35 := e35; simp only [Array.getD_eq_getD_getElem?] at f35
            have e36 : a'.tmps.getD 36 undef = .slice Ap np cp := hdep 4 _ 36 rfl rfl rfl
            have f36 := e36; simp only [Array.getD_eq_getD_getElem?] at f36
            refine wpOp_plain rfl rfl (fun K hK => ?_)
            go_simp
            refine (l20Number_any hRd (hOr.farN hLe.grown hgP) hgP hpl hnp (by omega)).mono ?_
            rintro e w2 ⟨v, q2, rfl, hv, hq2, hr, hg⟩
            exact hK _ _ ⟨_, _, rfl, by omega, hr, Turns.of_grown hg, hv, nofun⟩
          · intro q a' w' hq hRd hLe hzl hfr hdep
            obtain ⟨x37, e37, b37, c37⟩ : (kInt g g (fun _ => False) (-9223372036854775808) 9223372036854775807).p (a'.tmps.getD 37 undef) w' := hdep 5 _ 37 rfl rfl rfl
            have f37 := e37; simp only [Array.getD_eq_getD_getElem?] at f37
            refine wpOp_plain rfl rfl (fun K hK => ?_)
            go_simp
            (try (split <;> (try go_simp)))
            all_goals exact hK _ _ ⟨_, q, rfl, by omega, hRd, Turns.refl _, ⟨_, rfl, by omega, by omega⟩, nofun⟩
          · intro q a' w' hq hRd hLe hzl hfr hdep
            obtain ⟨x38, e38, b38, c38⟩ : (kInt g g (fun _ => False) (-9223372036854775808) 30).p (a'.tmps.getD 38 undef) w' := hdep 6 _ 38 rfl rfl rfl
            have f38 := e38; simp only [Array.getD_eq_getD_getElem?] at f38
            refine wpOp_plain rfl rfl (fun K hK => ?_)
            go_simp
            (try (split <;> (try go_simp)))
            all_goals exact hK _ _ ⟨_, q, rfl, by omega, hRd, Turns.refl _, ⟨_, rfl, by omega, by omega⟩, nofun⟩
          · intro q a' w' hq hRd hLe hzl hfr hdep
            have e8 : a'.tmps.getD 8 undef = .int .i64 now := hfr 8 rfl
            have f8 := e8; simp only [Array.getD_eq_getD_getElem?] at f8
            refine wpOp_plain rfl rfl (fun K hK => ?_)
            go_simp
            exact hK _ _ ⟨_, q, rfl, by omega, hRd, Turns.refl _, rfl, nofun⟩
          · intro q a' w' hq hRd hLe hzl hfr hdep
            have e32 : a'.tmps.getD 32 undef = .agg #[.int .i64 y0, .int .i64 y1, .slice A1 nn c1] := hdep 0 _ 32 rfl rfl rfl
            have f32 := e32; simp only [Array.getD_eq_getD_getElem?] at f32
            obtain ⟨x34_0, x34_1, x34_2, x34_3, x34_4, bx34_0, cx34_0, bx34_1, cx34_1, bx34_2, cx34_2, bx34_3, cx34_3, bx34_4, cx34_4, e34⟩ : (kVal g g (fun _ => False) (fun v => ∃ y0 : Int, ∃ y1 : Int, ∃ y2 : Int, ∃ y3 : Int, ∃ y4 : Int, 0 ≤ y0 ∧ y0 ≤ 255 ∧ 0 ≤ y1 ∧ y1 ≤ 999 ∧ 0 ≤ y2 ∧ y2 ≤ 255 ∧ 0 ≤ y3 ∧ y3 ≤ 999 ∧ 1 ≤ y4 ∧ y4 ≤ 2 ∧ v = .agg #[.int .i64 y0, .int .i64 y1, .int .i64 y2, .int .i64 y3, .int .i64 y4])).p (a'.tmps.getD 34 undef) w' := hdep 2 _ 34 rfl rfl rfl
            have f34 := e34; simp only [Array.getD_eq_getD_getElem?] at f34
            obtain ⟨x39, e39, b39, c39⟩ : (kInt g g (fun _ => False) 0 30).p (a'.tmps.getD 39 undef) w' := hdep 7 _ 39 rfl rfl rfl
            have f39 := e39; simp only [Array.getD_eq_getD_getElem?] at f39
            have e40 : a'.tmps.getD 40 undef = .int .i64 now := hdep 8 _ 40 rfl rfl rfl
            have f40 := e40; simp only [Array.getD_eq_getD_getElem?] at f40
            refine wpOp_plain rfl rfl (fun K hK => ?_)
            go_simp
            refine (touch_d hRd hgW (by have := hLe.size; omega) (hP.far hLe.grown hgW) (by omega) (by omega) (by omega) (by omega)).mono ?_
            rintro e w2 ⟨v, q2, rfl, hv, hq2, hr, hg⟩
            exact hK _ _ ⟨_, _, rfl, by omega, hr, Turns.of_grown hg, hv, nofun⟩
          · intro q a' w' hq hRd hLe hzl hfr hdep
            obtain ⟨z410, z411, A41, n41, c41, o41, e41, hn41, hP41⟩ : (kTch g (w.heap.size + 1) hgW (nn + 1)).p (a'.tmps.getD 41 undef) w' := hdep 9 _ 41 rfl rfl rfl
            have f41 := e41; simp only [Array.getD_eq_getD_getElem?] at f41
            refine wpOp_plain rfl rfl (fun K hK => ?_)
            go_simp
            exact hK _ _ ⟨_, q, rfl, by omega, hRd, Turns.refl _, ⟨_, _, _, _, _, _, rfl, hn41, hP41⟩, nofun⟩
          · intro q a' w' hq hRd hLe hzl hfr hdep
            obtain ⟨z310, z311, A31, n31, c31, o31, e31, hn31, hP31⟩ : (kTch g (w.heap.size + 1) hgW (nn + 1)).p (a'.tmps.getD 31 undef) w' := hdep 10 _ 31 rfl rfl rfl
            have f31 := e31; simp only [Array.getD_eq_getD_getElem?] at f31
            refine wpOp_plain rfl rfl (fun K hK => ?_)
            go_simp
            exact hK _ _ ⟨_, q, rfl, by omega, hRd, Turns.refl _, ⟨_, _, _, _, _, rfl, hn31, hP31⟩, nofun⟩
          · intro q a' w' hq hRd hLe hzl hfr hdep
            obtain ⟨z310, z311, A31, n31, c31, o31, e31, hn31, hP31⟩ : (kTch g (w.heap.size + 1) hgW (nn + 1)).p (a'.tmps.getD 31 undef) w' := hdep 10 _ 31 rfl rfl rfl
            have f31 := e31; simp only [Array.getD_eq_getD_getElem?] at f31
            refine wpOp_plain rfl rfl (fun K hK => ?_)
            go_simp
            exact hK _ _ ⟨_, q, rfl, by omega, hRd, Turns.refl _, ⟨_, rfl⟩, nofun⟩
          · intro q a' w' hq hRd hLe hzl hfr hdep
            refine wpOp_plain rfl rfl (fun K hK => ?_)
            go_simp
            exact hK _ _ ⟨_, q, rfl, by omega, hRd.alloc _, Turns.alloc _ _, ⟨_, rfl, by have := hRd.lt; omega, by have := hLe.size; (try simp at this); omega, heap_alloc_new _ _⟩, nofun⟩
        rotate_left
        intro e he
        simp only [List.mem_cons, List.not_mem_nil, or_false] at he
        rcases he with rfl
        all_goals
          intro vs w4 q4 hq4 hr4 hg4 hT4
          (try intro hN4)
          (try simp only [List.filterMap_cons, List.filterMap_nil, List.getElem?_cons_succ, List.getElem?_cons_zero])
          replace hg4 := hg4.grown
          obtain ⟨z310, z311, A31, n31, c31, o31, e31, hn31, hP31⟩ : (kTch g (w.heap.size + 1) hgW (nn + 1)).p (vs 10) w4 := hT4 10 31 rfl
          obtain ⟨z420, z421, A42, n42, c42, e42, hn42, hP42⟩ : (kTab g (w.heap.size + 1) hgW (nn + 1)).p (vs 11) w4 := hT4 11 42 rfl
          obtain ⟨a10, e10, hb10, hB10, hh10⟩ : (kNew g g (fun _ => False) (wr.heap.size) 35 #[.int .i64 0, .int .i64 0, .slice none 0 0]).p (vs 13) w4 := hT4 13 10 rfl
          (try (obtain ⟨x43, e43⟩ : (kBool g g (fun _ => False)).p (vs 12) w4 := hT4 12 43 rfl))
          clear hT4; (try clear hN4)
          simp only [putAll, List.drop_succ_cons, List.drop_zero, e31, e42, e10]
          (try (simp only [e43]; clear e43))
          clear e31 e42 e10
          go_simp
        all_goals
          clear hP31 hOr
          have h17 : a10 ≠ a7 := by omega
          have hZ4 := heap_far hZ hg4 (by omega)
          have hX4 := heap_far hX hg4 hb7.1
          have hG4 := grown_trans hG hg4
          have hz4 := hG4.size
          have hP4 := hP.far hg4 hgW
          have hn42_ := own_ne7 hP42 hh10 (by decide)
          have ho42 := own_ne7 hP4 hh10 (by decide)
          clear hg4 hZ hX hP hr hG
          repeat (first | refine wpList_extract rfl (.tmp 31) 1 rfl _ rfl _ rfl ?_ | (refine wpList_store_var rfl 35 (.tmp 10) (.tmp 42) rfl #[.int .i64 z420, .int .i64 z421, .slice A42 n42 c42] hh10 rfl rfl (by kernel_rfl) rfl rfl ?_; intro w5 hh5 hg5 hs5))
          change wpList _ _ _ (List.cons _ List.nil) _ _
          go_wp2_with fail
          have hX5 := heap_far hX4 hg5 (Ne.symm h17)
          have hZ5 := heap_far hZ4 hg5 (by omega)
          have hr5 := hr4.far hg5 hb10.1 (by omega)
          have hG5 := grown_far hG4 hg5 (by omega)
          have hP5 := hP42.kept hg5 (.inr hn42_)
          have hO5 := hP4.kept hg5 (.inr ho42)
          go_meet
          exact ⟨_, a10, _, _, A42, n42, c42, _, rfl, rfl, h17, hZ5, hX5, hh5, hn42, hO5, hP5, hr5, by omega, hG5⟩
      case rest =>
        obtain ⟨bo, a10, z0, z1, A2, n2, c2, q2, rfl, rfl, h17, hZ6, hX6, hh6, hn2, hO6, hP6, hr6, hq6, hG6⟩ := hcut
        clear hZ hX hP hr hG
        have hz6 := hG6.size
        cases bo with
        | false =>
          go_wp2_with fail
          refine (pick_any hr6 _ (by omega)).mono ?_
          rintro e w7 ⟨k9, rfl, hk, hr7, hg7, hs7⟩
          have hk10 := hk.1; have hk11 := hk.2.1 (by omega); clear hk hs7
          go_wp2_with fail
          go_roundw
          case rel => exact ⟨now + k9, k - 1, _, nn, y0, y1, A1, c1, rfl, rfl, by omega, by omega, by omega, by omega, by omega, heap_far hZ6 hg7 (by omega), heap_far hX6 hg7 hb7.1, hO6.far hg7 hgW, hr7, by omega, grown_trans hG6 hg7⟩
          case measure => simp [intOf]; omega
        | true =>
          obtain ⟨kk6, ff6⟩ := blk hh6
          have h7s6 := heap_lt hh6
          have hm45 := own_ne7 hP6 hX6 (by decide)
          go_wp2_with (refine wpList_store_var rfl 35 (.tmp 7) (.tmp 45) rfl #[.int .i64 z0, .int .i64 z1, .slice A2 n2 c2] hX6 rfl rfl (by kernel_rfl) rfl rfl ?_; intro w7 hX7 hg7 hs7; have hZ7 := heap_far hZ6 hg7 (by omega); have hr7 := hr6.far hg7 hb7.1 (by omega); have hP7 := hP6.kept hg7 (.inr hm45); have hG7 := grown_far hG6 hg7 (by omega))
          refine (pick_any hr7 _ (by omega)).mono ?_
          rintro e w8 ⟨k9, rfl, hk, hr8, hg8, hs8⟩
          have hk10 := hk.1; have hk11 := hk.2.1 (by omega); clear hk hs8
          go_wp2_with fail
          go_roundw
          case rel => exact ⟨now + k9, k - 1, _, n2, z0, z1, A2, c2, rfl, rfl, by omega, by omega, by omega, by omega, by omega, heap_far hZ7 hg8 (by omega), heap_far hX7 hg8 hb7.1, hP7.far hg8 hgW, hr8, by omega, grown_trans hG7 hg8⟩
          case measure => simp [intOf]; omega
    · obtain rfl : k = 0 := by omega
      have hq2 : q ≤ p + 11220 := by omega
      have hnn : nn ≤ 7 := by omega
      have hnow : now ≤ 63 := by omega
      clear hk6 hk7 hq hnk hn1 hk3 hk4 hx0 hx1 hx2 hx3 hx4 hx5
      go_wp2_with fail
      refine (odd_any hr _ hn (by omega)).mono ?_
      rintro e w5 ⟨od, q5, rfl, hq5, hr5, hg5, hs5, hy5⟩
      have hZ5 := heap_far hZ hg5 (by omega)
      have hX5 := heap_far hX hg5 hb7.1
      have hP5 := hP.far hg5 hgW
      have hG5 := grown_trans hG hg5
      have hz5 := hG5.size
      clear hs5 hy5 hg5 hZ hX hP hr hG hXl hZl hgw hsz
      cases od with
      | false =>
        have hX := hX5
        have hZ := hZ5
        have hP := hP5
        have hr := hr5
        have hG := hG5
        obtain ⟨k1, f1⟩ := blk hX
        go_wp2_with (refine wpList_store_var rfl 35 (.tmp 6) (.tmp 86) rfl #[.int .i64 (y0), .int .i64 (y1), .slice (A1) (nn) (c1)] hZ rfl rfl (by kernel_rfl) rfl rfl ?_; intro w9 hh9 hg9 hs9)
        have hr9 := hr.far hg9 (show w.heap.size ≠ g by omega) (by omega)
        have hG9 := grown_far hG hg9 (Nat.le_refl _)
        have hP9 := hP.kept hg9 (.inr (own_ne7 hP hZ (by decide)))
        obtain ⟨k9, f9⟩ := blk hh9
        refine bodyPost_ret (v := .agg #[.int .i64 (y0), .int .i64 (y1), .slice (A1) (nn) (c1)]) (by simp [results, Try.results57, go_sem, k9]) rfl ⟨_, _, _, _, _, _, rfl, by omega, hP9.base (by omega), by omega, hr9, hG9⟩
      | true =>
        go_wp2_with fail
        refine (pick_any hr5 _ (by omega)).mono ?_
        rintro e w6 ⟨k4, rfl, hk, hr6, hg6, hs6⟩
        have hk5 := hk.1; have hk6 := hk.2.1 (by omega); clear hk
        have hZ6 := heap_far hZ5 hg6 (by omega)
        have hX6 := heap_far hX5 hg6 hb7.1
        have hP6 := hP5.far hg6 hgW
        have hG6 := grown_trans hG5 hg6
        have hz6 := hG6.size
        have hX6l := heap_lt hX6
        have hZ6l := heap_lt hZ6
        have hg6l := hr6.lt
        have hPx := own_ne7 hP6 hX6 (by decide)
        clear hs6 hg6 hZ5 hX5 hP5 hr5 hG5 hz5
        rcases (show k4 = 0 ∨ k4 = 1 ∨ k4 = 2 ∨ k4 = 3 by omega) with rfl | rfl | rfl | rfl
        · go_wp2_with fail
          refine (pick_any (hr6.alloc _) _ (by omega)).mono ?_
          rintro e w7 ⟨k7, rfl, hk, hr7, hg7, hs7⟩
          have hk8 := hk.1; have hk9 := hk.2.1 (by omega); clear hk
          have hq7 := heap_far (heap_alloc_new w6 (.cells #[.int .i64 0, .int .i64 13] 3)) hg7 (by omega)
          have hZ7 := heap_far ((heap_alloc_old w6 (.cells #[.int .i64 0, .int .i64 13] 3) hZ6l).trans hZ6) hg7 (by omega)
          have hX7 := heap_far ((heap_alloc_old w6 (.cells #[.int .i64 0, .int .i64 13] 3) hX6l).trans hX6) hg7 hb7.1
          have hP7 := (hP6.next (below_bt w6 (.cells #[.int .i64 0, .int .i64 13] 3))).far hg7 hgW
          have hG7 := grown_trans (grown_alloc hG6 (.cells #[.int .i64 0, .int .i64 13] 3)) hg7
          obtain ⟨i7, rfl⟩ := Int.eq_ofNat_of_zero_le hk8
          obtain ⟨x7, hc7⟩ : ∃ x7 : Int, w7.cell? ⟨w6.heap.size, i7, none⟩ = some (.int .i64 x7) := by
            rw [(blk hq7).1]
            rcases (show i7 = 0 ∨ i7 = 1 by omega) with rfl | rfl
            · exact ⟨0, rfl⟩
            · exact ⟨13, rfl⟩
          have hi7 : (i7 : Int) < (2 : Int) := by omega
          have hX7l := heap_lt hX7
          clear hs7 hg7 hZ6 hX6 hP6 hr6 hG6 hq7
          go_wp2_with (first | (refine wpList_store_at rfl 3 (.tmp 71) (.tmp 70) rfl (.int .i64 x7) #[.int .i64 x7, .int .i64 y1, .slice A1 nn c1] hX7 rfl rfl (by kernel_rfl) rfl rfl (by simp) rfl ?_; intro w8 hX hg8 hs8; have hZ := heap_far hZ7 hg8 (by omega); obtain ⟨k1, f1⟩ := blk hX; have lx := heap_lt hX) | (refine wpList_store_var rfl 35 (.tmp 6) (.tmp 86) rfl #[.int .i64 (x7), .int .i64 (y1), .slice (A1) (nn) (c1)] hZ rfl rfl (by kernel_rfl) rfl rfl ?_; intro w9 hh9 hg9 hs9))
          have hP := hP7.kept hg8 (.inr hPx)
          have hr := hr7.far hg8 hb7.1 (by omega)
          have hG := grown_far hG7 hg8 (by omega)
          have hr9 := hr.far hg9 (show w.heap.size ≠ g by omega) (by omega)
          have hG9 := grown_far hG hg9 (Nat.le_refl _)
          have hP9 := hP.kept hg9 (.inr (own_ne7 hP hZ (by decide)))
          obtain ⟨k9, f9⟩ := blk hh9
          refine bodyPost_ret (v := .agg #[.int .i64 (x7), .int .i64 (y1), .slice (A1) (nn) (c1)]) (by simp [results, Try.results57, go_sem, k9]) rfl ⟨_, _, _, _, _, _, rfl, by omega, hP9.base (by omega), by omega, hr9, hG9⟩
        · go_wp2_with (first | (refine wpList_store_at rfl 3 (.tmp 74) (.const (.int .i64 0)) rfl (.int .i64 0) #[.int .i64 y0, .int .i64 0, .slice A1 nn c1] hX6 rfl rfl (by kernel_rfl) rfl rfl (by simp) rfl ?_; intro w7 hX hg7 hs7; have hZ := heap_far hZ6 hg7 (by omega); obtain ⟨k1, f1⟩ := blk hX; have lx := heap_lt hX) | (refine wpList_store_var rfl 35 (.tmp 6) (.tmp 86) rfl #[.int .i64 (y0), .int .i64 (0), .slice (A1) (nn) (c1)] hZ rfl rfl (by kernel_rfl) rfl rfl ?_; intro w9 hh9 hg9 hs9))
          have hP := hP6.kept hg7 (.inr hPx)
          have hr := hr6.far hg7 hb7.1 (by omega)
          have hG := grown_far hG6 hg7 (by omega)
          have hr9 := hr.far hg9 (show w.heap.size ≠ g by omega) (by omega)
          have hG9 := grown_far hG hg9 (Nat.le_refl _)
          have hP9 := hP.kept hg9 (.inr (own_ne7 hP hZ (by decide)))
          obtain ⟨k9, f9⟩ := blk hh9
          refine bodyPost_ret (v := .agg #[.int .i64 (y0), .int .i64 (0), .slice (A1) (nn) (c1)]) (by simp [results, Try.results57, go_sem, k9]) rfl ⟨_, _, _, _, _, _, rfl, by omega, hP9.base (by omega), by omega, hr9, hG9⟩
        · go_upto_region 18 with (fail)
          refine wp_region_draws (ds := [(0, 77), (1, 78), (2, 79), (3, 80), (4, 81), (5, 82), (6, 83)]) (B := B) (g := g) (z := g) (O := fun _ => False) (A := A) (m := m) (c := c) (p := _) 7 101 [kIs g g (fun _ => False) (.pointer (some ⟨a7, 2, none⟩)), kIs g g (fun _ => False) (.slice A1 nn c1), kIs g g (fun _ => False) (.pointer (some ⟨g, 0, none⟩)), kVal g g (fun _ => False) (fun v => ∃ y0 : Int, ∃ y1 : Int, ∃ y2 : Int, ∃ y3 : Int, ∃ y4 : Int, (-1) ≤ y0 ∧ y0 ≤ 1000 ∧ (-1) ≤ y1 ∧ y1 ≤ 1000 ∧ (-1) ≤ y2 ∧ y2 ≤ 1000 ∧ (-1) ≤ y3 ∧ y3 ≤ 1000 ∧ (-1) ≤ y4 ∧ y4 ≤ 1000 ∧ v = .agg #[.int .i64 y0, .int .i64 y1, .int .i64 y2, .int .i64 y3, .int .i64 y4]), kIs g g (fun _ => False) (.int .i64 now), kVal g g (fun _ => False) (fun v => ∃ y0 : Int, ∃ y1 : Int, ∃ y2 : Int, ∃ y3 : Int, ∃ y4 : Int, ∃ y5 : Int, (-1) ≤ y0 ∧ y0 ≤ 1000 ∧ (-1) ≤ y1 ∧ y1 ≤ 1000 ∧ (-1) ≤ y2 ∧ y2 ≤ 1000 ∧ (-1) ≤ y3 ∧ y3 ≤ 1000 ∧ (-1) ≤ y4 ∧ y4 ≤ 1000 ∧ 0 ≤ y5 ∧ y5 ≤ 100 ∧ v = .agg #[.int .i64 y0, .int .i64 y1, .int .i64 y2, .int .i64 y3, .int .i64 y4, .int .i64 0, .int .i64 y5]), kArr g g (fun _ => False) 81 1 (fun cs => ∃ y0 : Int, ∃ y1 : Int, ∃ y2 : Int, ∃ y3 : Int, ∃ y4 : Int, ∃ y5 : Int, (-1) ≤ y0 ∧ y0 ≤ 1000 ∧ (-1) ≤ y1 ∧ y1 ≤ 1000 ∧ (-1) ≤ y2 ∧ y2 ≤ 1000 ∧ (-1) ≤ y3 ∧ y3 ≤ 1000 ∧ (-1) ≤ y4 ∧ y4 ≤ 1000 ∧ 0 ≤ y5 ∧ y5 ≤ 100 ∧ cs = #[.int .i64 y0, .int .i64 y1, .int .i64 y2, .int .i64 y3, .int .i64 y4, .int .i64 0, .int .i64 y5])] (by kernel_rfl) (by kernel_rfl) (by first | exact .inl rfl | exact .inr (by kernel_rfl)) hr6 (Rd.lt hr6) (by rfl) ?_ rfl rfl ?_
          · refine each_cons ?_ ( each_cons ?_ ( each_cons ?_ ( each_cons ?_ ( each_cons ?_ ( each_cons ?_ ( each_cons ?_ ( each_nil)))))))
            · intro q a' w' hq hRd hLe hzl hfr hdep
              have e7 : a'.tmps.getD 7 undef = .pointer (some ⟨a7, 0, none⟩) := hfr 7 rfl
              have f7 := e7; simp only [Array.getD_eq_getD_getElem?] at f7
              refine wpOp_plain rfl rfl (fun K hK => ?_)
              go_simp
              exact hK _ _ ⟨_, q, rfl, by omega, hRd, Turns.refl _, rfl, nofun⟩
            · intro q a' w' hq hRd hLe hzl hfr hdep
              have e77 : a'.tmps.getD 77 undef = .pointer (some ⟨a7, 2, none⟩) := hdep 0 _ 77 rfl rfl rfl
              have f77 := e77; simp only [Array.getD_eq_getD_getElem?] at f77
              have hhx := hLe.keep hX6 hb7.1 hb7.2
              obtain ⟨kx, fx⟩ := blk hhx; clear hhx
              refine wpOp_plain rfl rfl (fun K hK => ?_)
              go_simp
              exact hK _ _ ⟨_, q, rfl, by omega, hRd, Turns.refl _, rfl, nofun⟩
            · intro q a' w' hq hRd hLe hzl hfr hdep
              have e0 : a'.tmps.getD 0 undef = .pointer (some ⟨g, 0, none⟩) := hfr 0 rfl
              have f0 := e0; simp only [Array.getD_eq_getD_getElem?] at f0
              refine wpOp_plain rfl rfl (fun K hK => ?_)
              go_simp
              exact hK _ _ ⟨_, q, rfl, by omega, hRd, Turns.refl _, rfl, nofun⟩
            · intro q a' w' hq hRd hLe hzl hfr hdep
              have e79 : a'.tmps.getD 79 undef = .pointer (some ⟨g, 0, none⟩) := hdep 2 _ 79 rfl rfl rfl
              have f79 := e79; simp only [Array.getD_eq_getD_getElem?] at f79
              refine wpOp_plain rfl rfl (fun K hK => ?_)
              go_simp
              refine (l20Flow_any hRd _ (by omega) (by omega)).mono ?_
              rintro e w2 ⟨v, q2, rfl, ⟨u0, u1, u2, u3, u4, rfl, v0, v1, v2, v3, v4⟩, hq2, hr, hg⟩
              exact hK _ _ ⟨_, _, rfl, by omega, hr, Turns.of_grown hg, ⟨u0, u1, u2, u3, u4, v0.1, v0.2, v1.1, v1.2, v2.1, v2.2, v3.1, v3.2, v4.1, v4.2, rfl⟩, nofun⟩
            · intro q a' w' hq hRd hLe hzl hfr hdep
              have e8 : a'.tmps.getD 8 undef = .int .i64 now := hfr 8 rfl
              have f8 := e8; simp only [Array.getD_eq_getD_getElem?] at f8
              refine wpOp_plain rfl rfl (fun K hK => ?_)
              go_simp
              exact hK _ _ ⟨_, q, rfl, by omega, hRd, Turns.refl _, rfl, nofun⟩
            · intro q a' w' hq hRd hLe hzl hfr hdep
              obtain ⟨x80_0, x80_1, x80_2, x80_3, x80_4, bx80_0, cx80_0, bx80_1, cx80_1, bx80_2, cx80_2, bx80_3, cx80_3, bx80_4, cx80_4, e80⟩ : (kVal g g (fun _ => False) (fun v => ∃ y0 : Int, ∃ y1 : Int, ∃ y2 : Int, ∃ y3 : Int, ∃ y4 : Int, (-1) ≤ y0 ∧ y0 ≤ 1000 ∧ (-1) ≤ y1 ∧ y1 ≤ 1000 ∧ (-1) ≤ y2 ∧ y2 ≤ 1000 ∧ (-1) ≤ y3 ∧ y3 ≤ 1000 ∧ (-1) ≤ y4 ∧ y4 ≤ 1000 ∧ v = .agg #[.int .i64 y0, .int .i64 y1, .int .i64 y2, .int .i64 y3, .int .i64 y4])).p (a'.tmps.getD 80 undef) w' := hdep 3 _ 80 rfl rfl rfl
              have f80 := e80; simp only [Array.getD_eq_getD_getElem?] at f80
              have e81 : a'.tmps.getD 81 undef = .int .i64 now := hdep 4 _ 81 rfl rfl rfl
              have f81 := e81; simp only [Array.getD_eq_getD_getElem?] at f81
              refine wpOp_plain rfl rfl (fun K hK => ?_)
              go_simp
              exact hK _ _ ⟨_, q, rfl, by omega, hRd, Turns.refl _, ⟨x80_0, x80_1, x80_2, x80_3, x80_4, now, by omega, by omega, by omega, by omega, by omega, by omega, by omega, by omega, by omega, by omega, by omega, by omega, rfl⟩, nofun⟩
            · intro q a' w' hq hRd hLe hzl hfr hdep
              obtain ⟨x82_0, x82_1, x82_2, x82_3, x82_4, x82_6, bx82_0, cx82_0, bx82_1, cx82_1, bx82_2, cx82_2, bx82_3, cx82_3, bx82_4, cx82_4, bx82_6, cx82_6, e82⟩ : (kVal g g (fun _ => False) (fun v => ∃ y0 : Int, ∃ y1 : Int, ∃ y2 : Int, ∃ y3 : Int, ∃ y4 : Int, ∃ y5 : Int, (-1) ≤ y0 ∧ y0 ≤ 1000 ∧ (-1) ≤ y1 ∧ y1 ≤ 1000 ∧ (-1) ≤ y2 ∧ y2 ≤ 1000 ∧ (-1) ≤ y3 ∧ y3 ≤ 1000 ∧ (-1) ≤ y4 ∧ y4 ≤ 1000 ∧ 0 ≤ y5 ∧ y5 ≤ 100 ∧ v = .agg #[.int .i64 y0, .int .i64 y1, .int .i64 y2, .int .i64 y3, .int .i64 y4, .int .i64 0, .int .i64 y5])).p (a'.tmps.getD 82 undef) w' := hdep 5 _ 82 rfl rfl rfl
              have f82 := e82; simp only [Array.getD_eq_getD_getElem?] at f82
              refine wpOp_plain rfl rfl (fun K hK => ?_)
              go_simp
              exact hK _ _ ⟨_, q, rfl, by omega, hRd.alloc _, Turns.alloc _ _, ⟨_, _, rfl, by have := hRd.lt; omega, heap_alloc_new _ _, x82_0, x82_1, x82_2, x82_3, x82_4, x82_6, by omega, by omega, by omega, by omega, by omega, by omega, by omega, by omega, by omega, by omega, by omega, by omega, rfl⟩, nofun⟩
          intro vs w7 q7 hq7 hr7 hg7 hT7 hN7
          replace hg7 := hg7.grown
          have e78 : vs 1 = .slice A1 nn c1 := hT7 1 78 rfl
          obtain ⟨a83, cs83, e83, hb83, hh83, y83_0, y83_1, y83_2, y83_3, y83_4, y83_6, by83_0, cy83_0, by83_1, cy83_1, by83_2, cy83_2, by83_3, cy83_3, by83_4, cy83_4, by83_6, cy83_6, rfl⟩ : (kArr g g (fun _ => False) 81 1 (fun cs => ∃ y0 : Int, ∃ y1 : Int, ∃ y2 : Int, ∃ y3 : Int, ∃ y4 : Int, ∃ y5 : Int, (-1) ≤ y0 ∧ y0 ≤ 1000 ∧ (-1) ≤ y1 ∧ y1 ≤ 1000 ∧ (-1) ≤ y2 ∧ y2 ≤ 1000 ∧ (-1) ≤ y3 ∧ y3 ≤ 1000 ∧ (-1) ≤ y4 ∧ y4 ≤ 1000 ∧ 0 ≤ y5 ∧ y5 ≤ 100 ∧ cs = #[.int .i64 y0, .int .i64 y1, .int .i64 y2, .int .i64 y3, .int .i64 y4, .int .i64 0, .int .i64 y5])).p (vs 6) w7 := hT7 6 83 rfl
          clear hT7 hN7
          simp only [putAll, List.drop_succ_cons, List.drop_zero, e78, e83]
          clear e78 e83
          go_simp
          have hZ7 := heap_far hZ6 hg7 (by omega)
          have hX7 := heap_far hX6 hg7 hb7.1
          have hP7 := hP6.far hg7 hgW
          have hG7 := grown_trans hG6 hg7
          have hz7 := hG7.size
          clear hg7 hZ6 hX6 hP6 hr6 hG6
          have hpr : Plain [true, true, true, true, true, true, true] (#[.int .i64 y83_0, .int .i64 y83_1, .int .i64 y83_2, .int .i64 y83_3, .int .i64 y83_4, .int .i64 0, .int .i64 y83_6]).toList := plain_cons_int (by omega) (plain_cons_int (by omega) (plain_cons_int (by omega) (plain_cons_int (by omega) (plain_cons_int (by omega) (plain_cons_int (by omega) (plain_cons_int (by omega) plain_nil))))))
          have hZ7l := heap_lt hZ7
          refine wpList_pushP rfl (.tmp 78) (.tmp 83) 33 rfl 81 _ [true, true, true, true, true, true, true] 56 Try.underlying33 info_entryP (by decide) (by decide) (by decide) rfl hP7 rfl hh83 hpr (by omega) (by omega) ?_
          intro v8 w8 hP8 hB8 hg8
          obtain ⟨A8, c8, he8, _, _⟩ := hP8.form
          subst he8
          have hX8 := keep_typed hP7 hg8 hX7 (by decide)
          have hZ8 := keep_typed hP7 hg8 hZ7 (by decide)
          have hr8 := hr7.low hB8 hgW
          have hG8 := grown_low hG7 (hB8.mono (by omega))
          have hs8 := hB8.size
          have hX8l := heap_lt hX8
          go_wp2_with (first | (refine wpList_store_at rfl 33 (.tmp 85) (.tmp 84) rfl (.slice A8 (nn + 1) c8) #[.int .i64 y0, .int .i64 y1, .slice A8 (nn + 1) c8] hX8 rfl rfl (by kernel_rfl) rfl rfl (by simp) rfl ?_; intro w10 hX hg10 hs10; have hZ := heap_far hZ8 hg10 (by omega); obtain ⟨k1, f1⟩ := blk hX; have lx := heap_lt hX) | (refine wpList_store_var rfl 35 (.tmp 6) (.tmp 86) rfl #[.int .i64 y0, .int .i64 y1, .slice A8 (nn + 1) c8] hZ rfl rfl (by kernel_rfl) rfl rfl ?_; intro w9 hh9 hg9 hs9))
          have hP := hP8.kept hg10 (.inr (own_ne7 hP8 hX8 (by decide)))
          have hr := hr8.far hg10 hb7.1 (by omega)
          have hG := grown_far hG8 hg10 (by omega)
          have hr9 := hr.far hg9 (show w.heap.size ≠ g by omega) (by omega)
          have hG9 := grown_far hG hg9 (Nat.le_refl _)
          have hP9 := hP.kept hg9 (.inr (own_ne7 hP hZ (by decide)))
          obtain ⟨k9, f9⟩ := blk hh9
          refine bodyPost_ret (v := .agg #[.int .i64 (y0), .int .i64 (y1), .slice (A8) (nn + 1) (c8)]) (by simp [results, Try.results57, go_sem, k9]) rfl ⟨_, _, _, _, _, _, rfl, by omega, hP9.base (by omega), by omega, hr9, hG9⟩
        · go_upto_region 12 with (fail)
          refine wp_region_draws (ds := [(0, 55), (1, 56), (2, 57), (3, 58), (4, 59), (5, 60), (6, 61)]) (B := B) (g := g) (z := g) (O := fun _ => False) (A := A) (m := m) (c := c) (p := _) 7 101 [kIs g g (fun _ => False) (.pointer (some ⟨a7, 2, none⟩)), kIs g g (fun _ => False) (.slice A1 nn c1), kIs g g (fun _ => False) (.pointer (some ⟨g, 0, none⟩)), kVal g g (fun _ => False) (fun v => ∃ y0 : Int, ∃ y1 : Int, ∃ y2 : Int, ∃ y3 : Int, ∃ y4 : Int, 0 ≤ y0 ∧ y0 ≤ 255 ∧ 0 ≤ y1 ∧ y1 ≤ 999 ∧ 0 ≤ y2 ∧ y2 ≤ 255 ∧ 0 ≤ y3 ∧ y3 ≤ 999 ∧ 1 ≤ y4 ∧ y4 ≤ 2 ∧ v = .agg #[.int .i64 y0, .int .i64 y1, .int .i64 y2, .int .i64 y3, .int .i64 y4]), kIs g g (fun _ => False) (.int .i64 now), kVal g g (fun _ => False) (fun v => ∃ y0 : Int, ∃ y1 : Int, ∃ y2 : Int, ∃ y3 : Int, ∃ y4 : Int, ∃ y5 : Int, 0 ≤ y0 ∧ y0 ≤ 255 ∧ 0 ≤ y1 ∧ y1 ≤ 999 ∧ 0 ≤ y2 ∧ y2 ≤ 255 ∧ 0 ≤ y3 ∧ y3 ≤ 999 ∧ 1 ≤ y4 ∧ y4 ≤ 2 ∧ 0 ≤ y5 ∧ y5 ≤ 100 ∧ v = .agg #[.int .i64 y0, .int .i64 y1, .int .i64 y2, .int .i64 y3, .int .i64 y4, .int .i64 31, .int .i64 y5]), kArr g g (fun _ => False) 81 1 (fun cs => ∃ y0 : Int, ∃ y1 : Int, ∃ y2 : Int, ∃ y3 : Int, ∃ y4 : Int, ∃ y5 : Int, 0 ≤ y0 ∧ y0 ≤ 255 ∧ 0 ≤ y1 ∧ y1 ≤ 999 ∧ 0 ≤ y2 ∧ y2 ≤ 255 ∧ 0 ≤ y3 ∧ y3 ≤ 999 ∧ 1 ≤ y4 ∧ y4 ≤ 2 ∧ 0 ≤ y5 ∧ y5 ≤ 100 ∧ cs = #[.int .i64 y0, .int .i64 y1, .int .i64 y2, .int .i64 y3, .int .i64 y4, .int .i64 31, .int .i64 y5])] (by kernel_rfl) (by kernel_rfl) (by first | exact .inl rfl | exact .inr (by kernel_rfl)) hr6 (Rd.lt hr6) (by rfl) ?_ rfl rfl ?_
          · refine each_cons ?_ ( each_cons ?_ ( each_cons ?_ ( each_cons ?_ ( each_cons ?_ ( each_cons ?_ ( each_cons ?_ ( each_nil)))))))
            · intro q a' w' hq hRd hLe hzl hfr hdep
              have e7 : a'.tmps.getD 7 undef = .pointer (some ⟨a7, 0, none⟩) := hfr 7 rfl
              have f7 := e7; simp only [Array.getD_eq_getD_getElem?] at f7
              refine wpOp_plain rfl rfl (fun K hK => ?_)
              go_simp
              exact hK _ _ ⟨_, q, rfl, by omega, hRd, Turns.refl _, rfl, nofun⟩
            · intro q a' w' hq hRd hLe hzl hfr hdep
              have e55 : a'.tmps.getD 55 undef = .pointer (some ⟨a7, 2, none⟩) := hdep 0 _ 55 rfl rfl rfl
              have f55 := e55; simp only [Array.getD_eq_getD_getElem?] at f55
              have hhx := hLe.keep hX6 hb7.1 hb7.2
              obtain ⟨kx, fx⟩ := blk hhx; clear hhx
              refine wpOp_plain rfl rfl (fun K hK => ?_)
              go_simp
              exact hK _ _ ⟨_, q, rfl, by omega, hRd, Turns.refl _, rfl, nofun⟩
            · intro q a' w' hq hRd hLe hzl hfr hdep
              have e0 : a'.tmps.getD 0 undef = .pointer (some ⟨g, 0, none⟩) := hfr 0 rfl
              have f0 := e0; simp only [Array.getD_eq_getD_getElem?] at f0
              refine wpOp_plain rfl rfl (fun K hK => ?_)
              go_simp
              exact hK _ _ ⟨_, q, rfl, by omega, hRd, Turns.refl _, rfl, nofun⟩
            · intro q a' w' hq hRd hLe hzl hfr hdep
              have e57 : a'.tmps.getD 57 undef = .pointer (some ⟨g, 0, none⟩) := hdep 2 _ 57 rfl rfl rfl
              have f57 := e57; simp only [Array.getD_eq_getD_getElem?] at f57
              refine wpOp_plain rfl rfl (fun K hK => ?_)
              go_simp
              refine (l20Flow0_any hRd (by omega)).mono ?_
              rintro e w2 ⟨v, q2, rfl, ⟨u0, u1, u2, u3, u4, rfl, v0, v1, v2, v3, v4⟩, hq2, hr, hg⟩
              exact hK _ _ ⟨_, _, rfl, by omega, hr, Turns.of_grown hg, ⟨u0, u1, u2, u3, u4, v0.1, v0.2, v1.1, v1.2, v2.1, v2.2, v3.1, v3.2, v4.1, v4.2, rfl⟩, nofun⟩
            · intro q a' w' hq hRd hLe hzl hfr hdep
              have e8 : a'.tmps.getD 8 undef = .int .i64 now := hfr 8 rfl
              have f8 := e8; simp only [Array.getD_eq_getD_getElem?] at f8
              refine wpOp_plain rfl rfl (fun K hK => ?_)
              go_simp
              exact hK _ _ ⟨_, q, rfl, by omega, hRd, Turns.refl _, rfl, nofun⟩
            · intro q a' w' hq hRd hLe hzl hfr hdep
              obtain ⟨x58_0, x58_1, x58_2, x58_3, x58_4, bx58_0, cx58_0, bx58_1, cx58_1, bx58_2, cx58_2, bx58_3, cx58_3, bx58_4, cx58_4, e58⟩ : (kVal g g (fun _ => False) (fun v => ∃ y0 : Int, ∃ y1 : Int, ∃ y2 : Int, ∃ y3 : Int, ∃ y4 : Int, 0 ≤ y0 ∧ y0 ≤ 255 ∧ 0 ≤ y1 ∧ y1 ≤ 999 ∧ 0 ≤ y2 ∧ y2 ≤ 255 ∧ 0 ≤ y3 ∧ y3 ≤ 999 ∧ 1 ≤ y4 ∧ y4 ≤ 2 ∧ v = .agg #[.int .i64 y0, .int .i64 y1, .int .i64 y2, .int .i64 y3, .int .i64 y4])).p (a'.tmps.getD 58 undef) w' := hdep 3 _ 58 rfl rfl rfl
              have f58 := e58; simp only [Array.getD_eq_getD_getElem?] at f58
              have e59 : a'.tmps.getD 59 undef = .int .i64 now := hdep 4 _ 59 rfl rfl rfl
              have f59 := e59; simp only [Array.getD_eq_getD_getElem?] at f59
              refine wpOp_plain rfl rfl (fun K hK => ?_)
              go_simp
              exact hK _ _ ⟨_, q, rfl, by omega, hRd, Turns.refl _, ⟨x58_0, x58_1, x58_2, x58_3, x58_4, now, by omega, by omega, by omega, by omega, by omega, by omega, by omega, by omega, by omega, by omega, by omega, by omega, rfl⟩, nofun⟩
            · intro q a' w' hq hRd hLe hzl hfr hdep
              obtain ⟨x60_0, x60_1, x60_2, x60_3, x60_4, x60_6, bx60_0, cx60_0, bx60_1, cx60_1, bx60_2, cx60_2, bx60_3, cx60_3, bx60_4, cx60_4, bx60_6, cx60_6, e60⟩ : (kVal g g (fun _ => False) (fun v => ∃ y0 : Int, ∃ y1 : Int, ∃ y2 : Int, ∃ y3 : Int, ∃ y4 : Int, ∃ y5 : Int, 0 ≤ y0 ∧ y0 ≤ 255 ∧ 0 ≤ y1 ∧ y1 ≤ 999 ∧ 0 ≤ y2 ∧ y2 ≤ 255 ∧ 0 ≤ y3 ∧ y3 ≤ 999 ∧ 1 ≤ y4 ∧ y4 ≤ 2 ∧ 0 ≤ y5 ∧ y5 ≤ 100 ∧ v = .agg #[.int .i64 y0, .int .i64 y1, .int .i64 y2, .int .i64 y3, .int .i64 y4, .int .i64 31, .int .i64 y5])).p (a'.tmps.getD 60 undef) w' := hdep 5 _ 60 rfl rfl rfl
              have f60 := e60; simp only [Array.getD_eq_getD_getElem?] at f60
              refine wpOp_plain rfl rfl (fun K hK => ?_)
              go_simp
              exact hK _ _ ⟨_, q, rfl, by omega, hRd.alloc _, Turns.alloc _ _, ⟨_, _, rfl, by have := hRd.lt; omega, heap_alloc_new _ _, x60_0, x60_1, x60_2, x60_3, x60_4, x60_6, by omega, by omega, by omega, by omega, by omega, by omega, by omega, by omega, by omega, by omega, by omega, by omega, rfl⟩, nofun⟩
          intro vs w7 q7 hq7 hr7 hg7 hT7 hN7
          replace hg7 := hg7.grown
          have e56 : vs 1 = .slice A1 nn c1 := hT7 1 56 rfl
          obtain ⟨a61, cs61, e61, hb61, hh61, y61_0, y61_1, y61_2, y61_3, y61_4, y61_6, by61_0, cy61_0, by61_1, cy61_1, by61_2, cy61_2, by61_3, cy61_3, by61_4, cy61_4, by61_6, cy61_6, rfl⟩ : (kArr g g (fun _ => False) 81 1 (fun cs => ∃ y0 : Int, ∃ y1 : Int, ∃ y2 : Int, ∃ y3 : Int, ∃ y4 : Int, ∃ y5 : Int, 0 ≤ y0 ∧ y0 ≤ 255 ∧ 0 ≤ y1 ∧ y1 ≤ 999 ∧ 0 ≤ y2 ∧ y2 ≤ 255 ∧ 0 ≤ y3 ∧ y3 ≤ 999 ∧ 1 ≤ y4 ∧ y4 ≤ 2 ∧ 0 ≤ y5 ∧ y5 ≤ 100 ∧ cs = #[.int .i64 y0, .int .i64 y1, .int .i64 y2, .int .i64 y3, .int .i64 y4, .int .i64 31, .int .i64 y5])).p (vs 6) w7 := hT7 6 61 rfl
          clear hT7 hN7
          simp only [putAll, List.drop_succ_cons, List.drop_zero, e56, e61]
          clear e56 e61
          go_simp
          have hZ7 := heap_far hZ6 hg7 (by omega)
          have hX7 := heap_far hX6 hg7 hb7.1
          have hP7 := hP6.far hg7 hgW
          have hG7 := grown_trans hG6 hg7
          have hz7 := hG7.size
          clear hg7 hZ6 hX6 hP6 hr6 hG6
          have hpr : Plain [true, true, true, true, true, true, true] (#[.int .i64 y61_0, .int .i64 y61_1, .int .i64 y61_2, .int .i64 y61_3, .int .i64 y61_4, .int .i64 31, .int .i64 y61_6]).toList := plain_cons_int (by omega) (plain_cons_int (by omega) (plain_cons_int (by omega) (plain_cons_int (by omega) (plain_cons_int (by omega) (plain_cons_int (by omega) (plain_cons_int (by omega) plain_nil))))))
          have hZ7l := heap_lt hZ7
          refine wpList_pushP rfl (.tmp 56) (.tmp 61) 33 rfl 81 _ [true, true, true, true, true, true, true] 56 Try.underlying33 info_entryP (by decide) (by decide) (by decide) rfl hP7 rfl hh61 hpr (by omega) (by omega) ?_
          intro v8 w8 hP8 hB8 hg8
          obtain ⟨A8, c8, he8, _, _⟩ := hP8.form
          subst he8
          have hX8 := keep_typed hP7 hg8 hX7 (by decide)
          have hZ8 := keep_typed hP7 hg8 hZ7 (by decide)
          have hr8 := hr7.low hB8 hgW
          have hG8 := grown_low hG7 (hB8.mono (by omega))
          have hs8 := hB8.size
          have hX8l := heap_lt hX8
          go_wp2_with (first | (refine wpList_store_at rfl 33 (.tmp 63) (.tmp 62) rfl (.slice A8 (nn + 1) c8) #[.int .i64 y0, .int .i64 y1, .slice A8 (nn + 1) c8] hX8 rfl rfl (by kernel_rfl) rfl rfl (by simp) rfl ?_; intro w10 hX hg10 hs10; have hZ := heap_far hZ8 hg10 (by omega); obtain ⟨k1, f1⟩ := blk hX; have lx := heap_lt hX) | (refine wpList_store_var rfl 35 (.tmp 6) (.tmp 86) rfl #[.int .i64 y0, .int .i64 y1, .slice A8 (nn + 1) c8] hZ rfl rfl (by kernel_rfl) rfl rfl ?_; intro w9 hh9 hg9 hs9))
          have hP := hP8.kept hg10 (.inr (own_ne7 hP8 hX8 (by decide)))
          have hr := hr8.far hg10 hb7.1 (by omega)
          have hG := grown_far hG8 hg10 (by omega)
          have hr9 := hr.far hg9 (show w.heap.size ≠ g by omega) (by omega)
          have hG9 := grown_far hG hg9 (Nat.le_refl _)
          have hP9 := hP.kept hg9 (.inr (own_ne7 hP hZ (by decide)))
          obtain ⟨k9, f9⟩ := blk hh9
          refine bodyPost_ret (v := .agg #[.int .i64 (y0), .int .i64 (y1), .slice (A8) (nn + 1) (c8)]) (by simp [results, Try.results57, go_sem, k9]) rfl ⟨_, _, _, _, _, _, rfl, by omega, hP9.base (by omega), by omega, hr9, hG9⟩
end Go.Proofs.Ytbnfllpimnnmfaa
