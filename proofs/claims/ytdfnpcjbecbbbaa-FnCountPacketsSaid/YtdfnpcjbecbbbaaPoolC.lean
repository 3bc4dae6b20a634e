/-
  The drawn counters.
-/
import Derived.Test.YtdfnpcjbecbbbaaPool
namespace Go.Proofs.Ytdfnpcjbecbbbaa
open Go.RowKit

theorem Acc.up2 {w : World} {B : Nat} {t : TypeId} {v : Value} {n : Nat} {a b c : Nat → Int} (h : Acc w B t 3 v n (counterR a b c)) (y z : Int) : Acc w B t 3 v n (counterR a (upTo b n y) (upTo c n z)) :=
  h.congr (fun i hi => by simp [counterR, upTo_lt hi]) fun i => rfl
/-- Packets and bytes in their bounds. -/
def Few (p y : Nat → Int) (n : Nat) : Prop := ∀ i, i < n → 0 ≤ p i ∧ p i ≤ 8 ∧ 0 ≤ y i ∧ y i ≤ 255
theorem Few.up {p y : Nat → Int} {n : Nat} {x z : Int} (h : Few p y n) (h1 : 0 ≤ x ∧ x ≤ 8 ∧ 0 ≤ z ∧ z ≤ 255) : Few (upTo p n x) (upTo y n z) (n + 1) := fun i hi => by
  by_cases hq : i < n
  · rw [upTo_lt hq, upTo_lt hq]; exact h i hq
  · obtain rfl : i = n := by omega
    rw [upTo_at, upTo_at]; exact h1
theorem info_counterP : (Try.prog.info? 32).map (fun i => (i.zero, i.size, i.bytes)) = some (some (.agg #[.int .i64 0, .int .i64 0, .int .i64 0]), 3, 24) := by kernel_rfl

set_option maxHeartbeats 8000000 in
theorem l20Counters_any {w : World} {B g : Nat} {A : Option Addr} {m c p : Nat} (h : Rd w B g A m c p) (hp2 : p ≤ 500000000) {B2 : Nat} {A2 : Option Addr} {n c2 : Nat} {a b d : Nat → Int} (HO : Own w B2 69 3 A2 n c2 (counterR a b d)) (hg2 : g < B2) (hn : n ≤ 5) :
    Calls Try.prog 35 #[(.pointer (some ⟨g, 0, none⟩)), .slice A2 n c2] w fun e w' => ∃ v q, ∃ p' y : Nat → Int, e = .returned v ∧ Few p' y n ∧ Acc w' w.heap.size 32 3 v n (counterR a p' y) ∧ q ≤ p + 200 ∧ Rd w' B g A m c q ∧ w.grownBy w' (some g) := by
  have hlt := h.lt
  have hBg := h.2.1
  have hcm := HO.1
  have hncc := HO.2.1
  unfold maxLen at hcm
  have hat : 0 < n → ∃ g', A2 = some ⟨g', 0, none⟩ ∧ B2 ≤ g' ∧ New w g' 69 3 n c2 (counterR a b d) := fun h => HO.at_ h
  clear HO
  go_enter Try.func35, Try.ntmps35
  go_wp2_with fail
  have hP0 : Acc (w.alloc (.cells #[] 32)) w.heap.size 32 3 (.slice (some ⟨w.heap.size, 0, none⟩) 0 0) 0 (counterR a (fun _ => 0) (fun _ => 0)) := Acc.made w _ _ (fun _ => rfl) (Nat.le_refl _)
  have hG0 := grown_alloc (grown_refl w (some g)) (.cells #[] 32)
  go_loopw [5, 6] (fun v i wr => ∃ (j q : Nat) (p' y : Nat → Int), j ≤ n ∧ i = .int .i64 j ∧ Few p' y j ∧ Acc wr w.heap.size 32 3 v j (counterR a p' y) ∧ Rd wr B g A m c q ∧ q ≤ p + 20 * j ∧ w.grownBy wr (some g)) (fun _ i _ => n - (intOf i).toNat)
  case atStart => exact ⟨0, p, _, _, by omega, rfl, fun i hi => absurd hi (by omega), hP0, h.alloc _, by omega, hG0⟩
  case round =>
    rename_i v _
    obtain ⟨j, q, p', y, hj, rfl, hF, hP, hr, hq, hG⟩ := hrel
    obtain ⟨A', c', rfl, hnc, hcm2⟩ := hP.form
    clear hP0 hG0
    by_cases hlt2 : j < n
    · obtain ⟨g', rfl, hBg', hN⟩ := hat (by omega)
      have hNl := hN.lt
      have hNr := hN.keep (w' := wr) (hG.block g' hNl (by simp; omega))
      have hrw := (hNr.rows (by unfold maxLen; omega) hNr.lt).2 (by omega)
      obtain ⟨bl, off, he, hbl, hc⟩ := hrw
      cases he
      have hne : g' ≠ g := by omega
      have hsw := hG.size
      clear hat hN hNr
      go_upto_region 5 with (fail)
      refine wp_region_draws (ds := [(0, 14), (1, 15), (2, 16), (3, 17), (4, 18), (5, 19), (6, 20), (7, 21), (8, 22), (9, 23), (10, 24), (11, 25)]) (B := B) (g := g) (z := g) (O := fun _ => False) (A := A) (m := m) (c := c) (p := _) 12 1 [kIs g g (fun _ => False) (.slice A' j c'), kIs g g (fun _ => False) (.slice (some ⟨g', 0, none⟩) n c2), kIs g g (fun _ => False) (.int .i64 (j : Int)), kIs g g (fun _ => False) (.pointer (some ⟨g', j * 3, none⟩)), kIs g g (fun _ => False) (.pointer (some ⟨g', j * 3, none⟩)), kIs g g (fun _ => False) (.int .i64 (a j)), kIs g g (fun _ => False) (.pointer (some ⟨g, 0, none⟩)), kInt g g (fun _ => False) 0 8, kIs g g (fun _ => False) (.pointer (some ⟨g, 0, none⟩)), kInt g g (fun _ => False) 0 255, kVal g g (fun _ => False) (fun v => ∃ y0 : Int, ∃ y1 : Int, 0 ≤ y0 ∧ y0 ≤ 8 ∧ 0 ≤ y1 ∧ y1 ≤ 255 ∧ v = .agg #[.int .i64 (a j), .int .i64 y0, .int .i64 y1]), kArr g g (fun _ => False) 32 1 (fun cs => ∃ y0 : Int, ∃ y1 : Int, 0 ≤ y0 ∧ y0 ≤ 8 ∧ 0 ≤ y1 ∧ y1 ≤ 255 ∧ cs = #[.int .i64 (a j), .int .i64 y0, .int .i64 y1])] (by kernel_rfl) (by kernel_rfl) (by first | exact .inl rfl | exact .inr (by kernel_rfl)) hr (Rd.lt hr) (by rfl) ?_ rfl rfl ?_
      · refine each_cons ?_ ( each_cons ?_ ( each_cons ?_ ( each_cons ?_ ( each_cons ?_ ( each_cons ?_ ( each_cons ?_ ( each_cons ?_ ( each_cons ?_ ( each_cons ?_ ( each_cons ?_ ( each_cons ?_ ( each_nil))))))))))))
        · intro q a' w' hq hRd hLe hzl hfr hdep
          have e5 : a'.tmps.getD 5 undef = .slice A' j c' := hfr 5 rfl
          have f5 := e5; simp only [Array.getD_eq_getD_getElem?] at f5
          refine wpOp_plain rfl rfl (fun K hK => ?_)
          go_simp
          exact hK _ _ ⟨_, q, rfl, by omega, hRd, Turns.refl _, rfl, nofun⟩
        · intro q a' w' hq hRd hLe hzl hfr hdep
          have e1 : a'.tmps.getD 1 undef = .slice (some ⟨g', 0, none⟩) n c2 := hfr 1 rfl
          have f1 := e1; simp only [Array.getD_eq_getD_getElem?] at f1
          refine wpOp_plain rfl rfl (fun K hK => ?_)
          go_simp
          exact hK _ _ ⟨_, q, rfl, by omega, hRd, Turns.refl _, rfl, nofun⟩
        · intro q a' w' hq hRd hLe hzl hfr hdep
          have e6 : a'.tmps.getD 6 undef = .int .i64 (j : Int) := hfr 6 rfl
          have f6 := e6; simp only [Array.getD_eq_getD_getElem?] at f6
          refine wpOp_plain rfl rfl (fun K hK => ?_)
          go_simp
          exact hK _ _ ⟨_, q, rfl, by omega, hRd, Turns.refl _, rfl, nofun⟩
        · intro q a' w' hq hRd hLe hzl hfr hdep
          have e15 : a'.tmps.getD 15 undef = .slice (some ⟨g', 0, none⟩) n c2 := hdep 1 _ 15 rfl rfl rfl
          have f15 := e15; simp only [Array.getD_eq_getD_getElem?] at f15
          have e16 : a'.tmps.getD 16 undef = .int .i64 (j : Int) := hdep 2 _ 16 rfl rfl rfl
          have f16 := e16; simp only [Array.getD_eq_getD_getElem?] at f16
          refine wpOp_plain rfl rfl (fun K hK => ?_)
          go_simp
          exact hK _ _ ⟨_, q, rfl, by omega, hRd, Turns.refl _, rfl, nofun⟩
        · intro q a' w' hq hRd hLe hzl hfr hdep
          have e17 : a'.tmps.getD 17 undef = .pointer (some ⟨g', j * 3, none⟩) := hdep 3 _ 17 rfl rfl rfl
          have f17 := e17; simp only [Array.getD_eq_getD_getElem?] at f17
          refine wpOp_plain rfl rfl (fun K hK => ?_)
          go_simp
          exact hK _ _ ⟨_, q, rfl, by omega, hRd, Turns.refl _, rfl, nofun⟩
        · intro q a' w' hq hRd hLe hzl hfr hdep
          have e18 : a'.tmps.getD 18 undef = .pointer (some ⟨g', j * 3, none⟩) := hdep 4 _ 18 rfl rfl rfl
          have f18 := e18; simp only [Array.getD_eq_getD_getElem?] at f18
          have kx := fun i => World.cell?_of_block (w := _) (w' := w') (a := ⟨g', i, none⟩) ((hLe.block _ hbl hne).resolve_right fun e => hne e.1)
          have qx0 := (kx _).trans (hc j hlt2 0 _ rfl); simp only [Nat.zero_add, Nat.add_zero, List.length, Nat.reduceAdd] at qx0
          clear kx
          refine wpOp_plain rfl rfl (fun K hK => ?_)
          go_simp
          exact hK _ _ ⟨_, q, rfl, by omega, hRd, Turns.refl _, rfl, nofun⟩
        · intro q a' w' hq hRd hLe hzl hfr hdep
          have e0 : a'.tmps.getD 0 undef = .pointer (some ⟨g, 0, none⟩) := hfr 0 rfl
          have f0 := e0; simp only [Array.getD_eq_getD_getElem?] at f0
          refine wpOp_plain rfl rfl (fun K hK => ?_)
          go_simp
          exact hK _ _ ⟨_, q, rfl, by omega, hRd, Turns.refl _, rfl, nofun⟩
        · intro q a' w' hq hRd hLe hzl hfr hdep
          have e20 : a'.tmps.getD 20 undef = .pointer (some ⟨g, 0, none⟩) := hdep 6 _ 20 rfl rfl rfl
          have f20 := e20; simp only [Array.getD_eq_getD_getElem?] at f20
          refine wpOp_plain rfl rfl (fun K hK => ?_)
          go_simp
          refine (pick_any hRd _ (by omega)).mono ?_
          rintro e w2 ⟨k, rfl, hk, hr, hg, hs⟩
          have hk1 := hk.1; have hk2 := hk.2.1; have hk3 := hk.2.2
          exact hK _ _ ⟨_, _, rfl, by omega, hr, Turns.of_grown hg, ⟨k, rfl, by omega, by omega⟩, nofun⟩
        · intro q a' w' hq hRd hLe hzl hfr hdep
          have e0 : a'.tmps.getD 0 undef = .pointer (some ⟨g, 0, none⟩) := hfr 0 rfl
          have f0 := e0; simp only [Array.getD_eq_getD_getElem?] at f0
          refine wpOp_plain rfl rfl (fun K hK => ?_)
          go_simp
          exact hK _ _ ⟨_, q, rfl, by omega, hRd, Turns.refl _, rfl, nofun⟩
        · intro q a' w' hq hRd hLe hzl hfr hdep
          have e22 : a'.tmps.getD 22 undef = .pointer (some ⟨g, 0, none⟩) := hdep 8 _ 22 rfl rfl rfl
          have f22 := e22; simp only [Array.getD_eq_getD_getElem?] at f22
          refine wpOp_plain rfl rfl (fun K hK => ?_)
          go_simp
          refine (pick_any hRd _ (by omega)).mono ?_
          rintro e w2 ⟨k, rfl, hk, hr, hg, hs⟩
          have hk1 := hk.1; have hk2 := hk.2.1; have hk3 := hk.2.2
          exact hK _ _ ⟨_, _, rfl, by omega, hr, Turns.of_grown hg, ⟨k, rfl, by omega, by omega⟩, nofun⟩
        · intro q a' w' hq hRd hLe hzl hfr hdep
          have e19 : a'.tmps.getD 19 undef = .int .i64 (a j) := hdep 5 _ 19 rfl rfl rfl
          have f19 := e19; simp only [Array.getD_eq_getD_getElem?] at f19
          obtain ⟨x21, e21, b21, c21⟩ : (kInt g g (fun _ => False) 0 8).p (a'.tmps.getD 21 undef) w' := hdep 7 _ 21 rfl rfl rfl
          have f21 := e21; simp only [Array.getD_eq_getD_getElem?] at f21
          obtain ⟨x23, e23, b23, c23⟩ : (kInt g g (fun _ => False) 0 255).p (a'.tmps.getD 23 undef) w' := hdep 9 _ 23 rfl rfl rfl
          have f23 := e23; simp only [Array.getD_eq_getD_getElem?] at f23
          refine wpOp_plain rfl rfl (fun K hK => ?_)
          go_simp
          exact hK _ _ ⟨_, q, rfl, by omega, hRd, Turns.refl _, ⟨x21, x23, by omega, by omega, by omega, by omega, rfl⟩, nofun⟩
        · intro q a' w' hq hRd hLe hzl hfr hdep
          obtain ⟨x24_1, x24_2, bx24_1, cx24_1, bx24_2, cx24_2, e24⟩ : (kVal g g (fun _ => False) (fun v => ∃ y0 : Int, ∃ y1 : Int, 0 ≤ y0 ∧ y0 ≤ 8 ∧ 0 ≤ y1 ∧ y1 ≤ 255 ∧ v = .agg #[.int .i64 (a j), .int .i64 y0, .int .i64 y1])).p (a'.tmps.getD 24 undef) w' := hdep 10 _ 24 rfl rfl rfl
          have f24 := e24; simp only [Array.getD_eq_getD_getElem?] at f24
          refine wpOp_plain rfl rfl (fun K hK => ?_)
          go_simp
          exact hK _ _ ⟨_, q, rfl, by omega, hRd.alloc _, Turns.alloc _ _, ⟨_, _, rfl, by have := hRd.lt; omega, heap_alloc_new _ _, x24_1, x24_2, by omega, by omega, by omega, by omega, rfl⟩, nofun⟩
      intro vs w7 q7 hq7 hr7 hg7 hT7 hN7
      replace hg7 := hg7.grown
      have e14 : vs 0 = .slice A' j c' := hT7 0 14 rfl
      obtain ⟨a25, cs25, e25, hb25, hh25, y25_1, y25_2, by25_1, cy25_1, by25_2, cy25_2, rfl⟩ : (kArr g g (fun _ => False) 32 1 (fun cs => ∃ y0 : Int, ∃ y1 : Int, 0 ≤ y0 ∧ y0 ≤ 8 ∧ 0 ≤ y1 ∧ y1 ≤ 255 ∧ cs = #[.int .i64 (a j), .int .i64 y0, .int .i64 y1])).p (vs 11) w7 := hT7 11 25 rfl
      clear hT7 hN7
      simp only [putAll, List.drop_succ_cons, List.drop_zero, e14, e25]
      clear e14 e25
      go_simp
      have hP7 := hP.far hg7 hlt
      have hG7 := grown_trans hG hg7
      have hsz7 := hG7.size
      clear hg7
      refine wpList_push rfl (.tmp 14) (.tmp 25) 25 rfl 32 _ 3 24 Try.underlying25 info_counterP (by decide) (by decide) (by decide) rfl (hP7.up2 y25_1 y25_2) rfl hh25 (by simp [counterR, upTo_at]) (counterR_one _ _ _ _) (by omega) (by omega) ?_
      intro v' w' hP' hB' hg'
      go_wp2_with fail
      go_roundw
      case rel => exact ⟨j + 1, q7, _, _, by omega, by go_num, hF.up (by omega), hP', hr7.lower hB' hlt, by omega, grown_low hG7 hB'⟩
      case measure => simp [intOf]; omega
    · obtain rfl : j = n := by omega
      clear hat
      go_wp2
      go_ret
      exact ⟨_, q, p', y, rfl, hF, hP, by omega, hr, hG⟩
end Go.Proofs.Ytdfnpcjbecbbbaa
