/-
  What DrawCountPackets draws: hosts, and the numbers and the sizes of packets.
-/
import Derived.Test.YtdfnpcjbecbbbaaPlg
import Derived.Test.YtdfnpcjbecbbbaaCpk
namespace Go.Proofs.Ytdfnpcjbecbbbaa
open Go Go.RowKit

theorem Own.far3 {w w' : World} {B g : Nat} {t : TypeId} {m : Nat} {A : Option Addr} {n c : Nat} {R : Nat → List Value} (h : Own w B t m A n c R) (hg : w.grownBy w' (some g)) (hl : g < B) : Own w' B t m A n c R :=
  h.keep fun k hk hlt _ => hg.block k hlt (by simp; omega)
/-- A drawn number. -/
def DrawnI (w : World) (B g : Nat) (A : Option Addr) (m c p K : Nat) (e : Ending) (w' : World) : Prop :=
  ∃ (x : Int) (q : Nat), e = .returned (.int .i64 x) ∧ (-9223372036854775808 ≤ x ∧ x ≤ 9223372036854775807) ∧ q ≤ p + K ∧ Rd w' B g A m c q ∧ w.grownBy w' (some g)
theorem plain_head {R : Nat → List Value} {a b d : Nat → Int} (hR : ∀ i, Plain [true, true, true] (R i)) (e : R = hostR a b d) (i : Nat) : -9223372036854775808 ≤ a i ∧ a i ≤ 9223372036854775807 := by
  obtain ⟨x, us, h1, h2, _⟩ := hR i
  rw [e] at h1
  simp only [hostR, List.cons.injEq, Value.int.injEq, true_and] at h1
  rw [h1.1]
  simp [Lit.wf, IntKind.min, IntKind.max, IntKind.signed, IntKind.bits] at h2
  omega
set_option maxHeartbeats 4000000 in
theorem l20Number_any {w : World} {B g : Nat} {A : Option Addr} {m c p : Nat} (h : Rd w B g A m c p) {B' : Nat} {v : Value} {n : Nat} (hL : PList w B' 69 [true, true, true] v n) (hg : g < B') (hp2 : p ≤ 500000000) :
    Calls Try.prog 40 #[(.pointer (some ⟨g, 0, none⟩)), v] w (DrawnI w B g A m c p 2) := by
  obtain ⟨A', c', R, rfl, hR, hO⟩ := hL
  obtain ⟨a, b, d, hab⟩ := hostR_of hR
  have hbd := plain_head hR hab
  subst hab
  have hlt := h.lt
  have hc1 := hO.1
  have hc2 := hO.2.1
  unfold maxLen at hc1
  rcases Nat.eq_zero_or_pos n with rfl | hn
  · go_enter Try.func40, Try.ntmps40
    go_wp2_with fail
    refine (pick_any h _ (by omega)).mono ?_
    rintro e w1 ⟨k, rfl, hk, hr1, hg1, hs1⟩
    have hk1 := hk.1; have hk2 := hk.2.1 (by omega); clear hk
    go_wp2
    go_ret
    exact ⟨_, _, rfl, by omega, by omega, hr1, hg1⟩
  · obtain ⟨gp, rfl, hgp, hN⟩ := hO.at_ hn
    have hnl : (0 : Int) < (n : Int) := by omega
    go_enter Try.func40, Try.ntmps40
    go_wp2_with fail
    refine (pick_any h _ (by omega)).mono ?_
    rintro e w1 ⟨k, rfl, hk, hr1, hg1, hs1⟩
    have hk1 := hk.1; have hk2 := hk.2.1 (by omega); clear hk
    have hN1 := hN.keep (hg1.block gp hN.lt (by simp; omega))
    clear hN hs1
    by_cases hk0 : 0 < k
    · go_wp2_with fail
      refine (pick_any hr1 _ (by omega)).mono ?_
      rintro e w2 ⟨j, rfl, hk, hr2, hg2, hs2⟩
      have hj1 := hk.1; have hj2 := hk.2.1 (by omega); clear hk
      obtain ⟨j, rfl⟩ := Int.eq_ofNat_of_zero_le hj1
      have hN2 := hN1.keep (hg2.block gp hN1.lt (by simp; omega))
      have q0 : w2.cell? ⟨gp, j * 3, none⟩ = some (.int .i64 (a j)) := hN2.val (i := j) (by omega) 0 (v := .int .i64 (a j)) rfl
      have e3 : (j : Int) < (n : Int) := by omega
      have hgl := hN2.lt
      have hjn : j < n := by omega
      have hbj := hbd j
      clear hN1 hN2 hs2 hbd
      go_wp2
      go_ret
      exact ⟨_, _, rfl, hbj, by omega, hr2, grown_trans hg1 hg2⟩
    · obtain rfl : k = 0 := by omega
      go_wp2_with fail
      refine (pick_any hr1 _ (by omega)).mono ?_
      rintro e w2 ⟨j, rfl, hk, hr2, hg2, hs2⟩
      have hj1 := hk.1; have hj2 := hk.2.1 (by omega); clear hk
      go_wp2
      go_ret
      exact ⟨_, _, rfl, by omega, by omega, hr2, grown_trans hg1 hg2⟩
/-- Hosts, numbers and sizes. -/
def CpkThree (w : World) (e : Ending) (w' : World) : Prop :=
  ∃ A1 n1 c1 A2 n2 c2 A3 n3 c3, ∃ a b d h s : Nat → Int, e = .returned (.tuple #[.slice A1 n1 c1, .slice A2 n2 c2, .slice A3 n3 c3]) ∧ n1 ≤ 7 ∧
    Own w' w.heap.size 69 3 A1 n1 c1 (hostR a b d) ∧ Own w' w.heap.size 3 1 A2 n2 c2 (intR h) ∧ Own w' w.heap.size 3 1 A3 n3 c3 (intR s) ∧ Below w.heap.size w w'

/-- The two slices lie in different blocks. -/
def ApartV (u v : Value) : Prop := ∀ k, u.ownBlock = some k → v.ownBlock ≠ some k
theorem ApartV.symm {u v : Value} (h : ApartV u v) : ApartV v u := fun k hk hu => h k hu hk
theorem ApartV.ne {u v : Value} (h : ApartV u v) : v.ownBlock = none ∨ v.ownBlock ≠ u.ownBlock := by
  cases hv : v.ownBlock with
  | none => exact .inl rfl
  | some k => exact .inr fun e => h k e.symm hv
theorem ApartV.left {u v u' : Value} {s : Nat} (h : ApartV u v) (hat : u'.ownBlock = u.ownBlock ∨ u'.ownBlock = some s) (hv : ∀ k, v.ownBlock = some k → k < s) : ApartV u' v := fun k hk => by
  rcases hat with e | e
  · exact h k (e ▸ hk)
  · intro hvk
    have := hv k hvk
    rw [e] at hk
    simp at hk
    omega
theorem Own.old {w w' : World} {B B0 L : Nat} {t : TypeId} {m : Nat} {A : Option Addr} {n c : Nat} {R : Nat → List Value} (h : Own w B t m A n c R) (hl : Lies A n B0 L) (hb : Below L w w') : Own w' B t m A n c R := by
  by_cases hn : n = 0
  · exact ⟨h.1, h.2.1, .inl hn⟩
  · refine h.keep fun g _ hlt hA => hb.block g ?_
    obtain ⟨g', e, _, h2⟩ := hl (by omega)
    rw [hA] at e
    have : g = g' := by simpa using e
    omega
theorem info_int8 : (Try.prog.info? 3).map (fun i => (i.zero, i.size, i.bytes)) = some (some (.int .i64 0), 1, 8) := by kernel_rfl
theorem plain_one {x : Int} (hx : -9223372036854775808 ≤ x ∧ x ≤ 9223372036854775807) : Plain [true] [.int .i64 x] := plain_cons_int hx plain_nil

set_option maxHeartbeats 16000000 in
theorem drawCountPackets_any {w : World} {A : Option Addr} {n c : Nat} (h : Bytes w w.heap.size A n c) :
    Calls Try.prog 22 #[.slice A n c] w (CpkThree w) := by
  go_enter Try.func22, Try.ntmps22
  go_wp2_with fail
  refine (open_any h (Nat.le_refl _)).mono ?_
  rintro e w1 ⟨m, g, rfl, hgl, hr1, hb1, hs1⟩
  have hs2 := hb1.size
  have hl1 := hr1.lt
  clear hs1
  go_wp2_with fail
  refine (l20Pool_gen hr1 12 (by omega) (by omega)).mono ?_
  rintro e w2 ⟨vp, np, q2, rfl, hnp, hP2, hq2, hr2, hg2⟩
  obtain ⟨A1, c1, R1, rfl, hR1, hO2⟩ := hP2
  have hL1 := hO2.lies
  have hB2 : Below w.heap.size w w2 := hb1.trans (below_grown hg2 hs2 hgl)
  have hl2 := hr2.lt
  have hs3 := hB2.size
  clear hb1 hg2
  go_wp2_with fail
  have hP7 := (PAcc.made (B := w2.heap.size) w2 3 [true] (Nat.le_refl _)).next (below_new _ (.cells #[] 3))
  have hP8 := PAcc.made (B := w2.heap.size) (w2.alloc (.cells #[] 3)) 3 [true] (by simp)
  have hO3 := hO2.next (Below.tr (below_new w2 (.cells #[] 3)) (below_new _ (.cells #[] 3)))
  have hG3 := grown_alloc (grown_alloc (grown_refl w2 (some g)) (.cells #[] 3)) (.cells #[] 3)
  have hap : ApartV (.slice (some ⟨w2.heap.size, 0, none⟩) 0 0) (.slice (some ⟨(w2.alloc (.cells #[] 3)).heap.size, 0, none⟩) 0 0) := fun k hk => by
    simp [Value.ownBlock] at hk ⊢
    omega
  refine (pick_any ((hr2.alloc _).alloc _) _ (by omega)).mono ?_
  rintro e w3 ⟨k, rfl, hk, hr3, hg3, hs4⟩
  have hk1 := hk.1; have hk2 := hk.2.1 (by omega); clear hk
  have hP73 := hP7.far hg3 hl2
  have hP83 := hP8.far hg3 hl2
  have hO4 := hO3.far3 hg3 hl1
  have hG4 := grown_trans hG3 hg3
  have hap3 := hap
  simp only [World.size_alloc] at hap3 hP83
  clear hP7 hP8 hO2 hO3 hG3 hg3 hs4 hr2 hap
  go_wp2_with fail
  go_loopw [7, 8, 9] (fun v7 v8 i wr => ∃ (nn q : Nat) (k : Int), 0 ≤ k ∧ (nn : Int) + k ≤ 9 ∧ i = .int .i64 k ∧ PAcc wr w2.heap.size 3 [true] v7 nn ∧ PAcc wr w2.heap.size 3 [true] v8 nn ∧ ApartV v7 v8 ∧ Own wr w1.heap.size 69 3 A1 np c1 R1 ∧ Rd wr w.heap.size g A m c q ∧ q ≤ 400 + 10 * nn ∧ w2.grownBy wr (some g)) (fun _ _ i _ => (intOf i).toNat)
  case atStart => exact ⟨0, _, k, hk1, by omega, rfl, hP73, hP83, hap3, hO4, hr3, by omega, hG4⟩
  case round =>
    obtain ⟨nn, q, k, hk1, hk2, rfl, hP7, hP8, hap, hO, hr, hq, hG⟩ := hrel
    clear hP73 hP83 hap3 hO4 hr3 hG4
    obtain ⟨A7, c7, rfl, hnc7, hcm7⟩ := hP7.form
    obtain ⟨A8, c8, rfl, hnc8, hcm8⟩ := hP8.form
    have hGs := hG.size
    by_cases hlt2 : 0 < k
    · go_wp2_with fail
      refine (l20Number_any hr ⟨A1, c1, R1, rfl, hR1, hO⟩ hl1 (by omega)).mono ?_
      rintro e w4 ⟨x, q4, rfl, hx, hq4, hr4, hg4⟩
      have hP74 := hP7.far hg4 hl2
      have hP84 := hP8.far hg4 hl2
      have hO4 := hO.far3 hg4 hl1
      have hG4 := grown_trans hG hg4
      have hGs4 := hG4.size
      clear hP7 hP8 hO hr hG hg4 hGs
      go_wp2_with ((at_builtin; refine wpList_pushPA rfl (.tmp 22) (.tmp 26) 41 rfl 3 _ [true] 8 Try.underlying41 info_int8 (by decide) (by decide) (by decide) rfl (hP74.next (below_new _ _)) rfl (heap_alloc_new _ _) (plain_one hx) (by omega) (by simp; omega) ?_); intro v7' w5 hP75 hB5 hg5 hat5)
      have hP85 := (hP84.next (below_new w4 (.cells #[.int .i64 x] 3))).kept hg5 hap.ne
      have hb8 := hP84.block
      have hap5 : ApartV v7' (.slice A8 nn c8) := hap.left hat5 (fun k hk => by have := hb8 k hk; simp; omega)
      have hO5 := (hO4.next (below_new w4 (.cells #[.int .i64 x] 3))).old hL1 hB5
      have hr5 := (hr4.alloc (.cells #[.int .i64 x] 3)).lower hB5 hl2
      have hG5 := grown_low (grown_alloc hG4 (.cells #[.int .i64 x] 3)) hB5
      have hGs5 := hG5.size
      clear hP74 hP84 hO4 hr4 hG4 hB5 hg5 hat5 hap hb8 hGs4
      refine (pick_any hr5 _ (by omega)).mono ?_
      rintro e w6 ⟨y, rfl, hy, hr6, hg6, hs6⟩
      have hy1 := hy.1; have hy2 := hy.2.1 (by omega); clear hy
      have hP76 := hP75.far hg6 hl2
      have hP86 := hP85.far hg6 hl2
      have hO6 := hO5.far3 hg6 hl1
      have hG6 := grown_trans hG5 hg6
      have hGs6 := hG6.size
      clear hP75 hP85 hO5 hr5 hG5 hg6 hs6 hGs5
      go_wp2_with ((at_builtin; refine wpList_pushPA rfl (.tmp 28) (.tmp 31) 41 rfl 3 _ [true] 8 Try.underlying41 info_int8 (by decide) (by decide) (by decide) rfl (hP86.next (below_new _ _)) rfl (heap_alloc_new _ _) (plain_one (by omega)) (by omega) (by simp; omega) ?_); intro v8' w7 hP87 hB7 hg7 hat7)
      have hP77 := (hP76.next (below_new w6 (.cells #[.int .i64 y] 3))).kept hg7 hap5.symm.ne
      have hb7 := hP76.block
      have hap7 := (hap5.symm.left hat7 (fun k hk => by have := hb7 k hk; simp; omega)).symm
      have hO7 := (hO6.next (below_new w6 (.cells #[.int .i64 y] 3))).old hL1 hB7
      have hr7 := (hr6.alloc (.cells #[.int .i64 y] 3)).lower hB7 hl2
      have hG7 := grown_low (grown_alloc hG6 (.cells #[.int .i64 y] 3)) hB7
      clear hP76 hP86 hO6 hr6 hG6 hB7 hg7 hat7 hap5 hb7 hGs6
      go_roundw
      case rel => exact ⟨nn + 1, _, k - 1, by omega, by omega, by go_num, hP77, hP87, hap7, hO7, hr7, by omega, hG7⟩
      case measure => simp [intOf]; omega
    · obtain rfl : k = 0 := by omega
      go_wp2_with fail
      refine (odd_any hr _ (by omega) (by omega)).mono ?_
      rintro e w5 ⟨od, q5, rfl, hq5, hr5, hg5, hs5, hy5⟩
      have hP75 := hP7.far hg5 hl2
      have hP85 := hP8.far hg5 hl2
      have hO5 := hO.far3 hg5 hl1
      have hG5 := grown_trans hG hg5
      have hGs5 := hG5.size
      clear hs5 hy5 hg5 hP7 hP8 hO hr hG
      cases od with
      | false =>
        go_wp2_with fail
        refine (odd_any hr5 _ (by omega) (by omega)).mono ?_
        rintro e w9 ⟨od2, q9, rfl, hq9, hr9, hg9, hs9, hy9⟩
        have hP79 := hP75.far hg9 hl2
        have hP89 := hP85.far hg9 hl2
        have hO9 := hO5.far3 hg9 hl1
        have hG9 := grown_trans hG5 hg9
        have hB9 := hB2.trans (below_grown hG9 hs3 (by omega))
        clear hs9 hy9 hg9 hq9 hP75 hP85 hO5 hr5 hG5 hr9 hG9
        obtain ⟨A7', c7', R7, e7, hR7, hO7⟩ := hP79.list
        obtain ⟨A8', c8', R8, e8, hR8, hO8⟩ := hP89.list
        clear hP79 hP89
        cases e7
        cases e8
        obtain ⟨f7, rfl⟩ := intR_of hR7
        obtain ⟨f8, rfl⟩ := intR_of hR8
        obtain ⟨fa, fb, fd, rfl⟩ := hostR_of hR1
        have hcm8 := hO8.1
        unfold maxLen at hcm8
        cases od2 with
        | false =>
          go_wp2
          refine bodyPost_ret (v := .tuple #[.slice A1 np c1, .slice A7 nn c7, .slice A8 nn c8]) (by simp [results, Try.results22, go_sem]) rfl ⟨_, _, _, _, _, _, _, _, _, fa, fb, fd, f7, f8, rfl, hnp, hO9.more hs2, hO7.more hs3, hO8.more hs3, hB9⟩
        | true =>
          rcases Nat.eq_zero_or_pos nn with rfl | hpos
          · go_wp2
            refine bodyPost_ret (v := .tuple #[.slice A1 np c1, .slice A7 0 c7, .slice A8 0 c8]) (by simp [results, Try.results22, go_sem]) rfl ⟨_, _, _, _, _, _, _, _, _, fa, fb, fd, f7, f8, rfl, hnp, hO9.more hs2, hO7.more hs3, hO8.more hs3, hB9⟩
          · obtain ⟨b8, rfl, hb8, hN8⟩ := hO8.at_ hpos
            have k8 : w9.cell? ⟨b8, 0, none⟩ = some (.int .i64 (f8 0)) := by simpa using hN8.val (i := 0) hpos 0 (v := .int .i64 (f8 0)) rfl
            have z8 := hN8.free 0
            have l8 := hN8.lt
            have hd : (0 : Int) < ((nn : Nat) : Int) := by omega
            have hN9 : New (w9.setCell ⟨b8, 0, none⟩ (.int .i64 (-1))) b8 3 1 nn c8 (intR (fun i => if i = 0 then -1 else f8 i)) := by
              have := new_cell hN8 0 0 (.int .i64 (-1)) hpos (by simp) (R' := intR (fun i => if i = 0 then -1 else f8 i)) (fun _ => rfl) (fun k hk q u hu => by
                match q, hu with
                | 0, hu =>
                  by_cases hk0 : k = 0
                  · subst hk0
                    exact .inl ⟨rfl, rfl, by simpa [intR] using hu.symm⟩
                  · exact .inr ⟨fun h => hk0 h.1, by simpa [intR, hk0] using hu⟩
                | q + 1, hu => simp [intR] at hu)
              simpa using this
            have hg9 := setCell_grown w9 b8 0 (.int .i64 (-1))
            have hO7n := hO7.keep (w' := w9.setCell ⟨b8, 0, none⟩ (.int .i64 (-1))) (fun k _ hl hA => hg9.block k hl (by
              have := hap k (by rw [hA]; rfl)
              simp [Value.ownBlock] at this
              simp
              omega))
            have hO9n := hO9.old (w' := w9.setCell ⟨b8, 0, none⟩ (.int .i64 (-1))) hL1 ((Below.refl _ _).setCell hb8 _)
            have hB9n : Below w.heap.size w (w9.setCell ⟨b8, 0, none⟩ (.int .i64 (-1))) := hB9.setCell (by simp; omega) _
            have hO8n := Own.of_new hN9 hO8.1 hb8
            clear hN9 hg9 hN8 hO7 hO9 hB9
            go_wp2
            refine bodyPost_ret (v := .tuple #[.slice A1 np c1, .slice A7 nn c7, .slice (some ⟨b8, 0, none⟩) (nn) c8]) (by simp [results, Try.results22, go_sem]) rfl ⟨_, _, _, _, _, _, _, _, _, fa, fb, fd, f7, _, rfl, hnp, hO9n.more hs2, hO7n.more hs3, hO8n.more hs3, hB9n⟩
      | true =>
        go_wp2_with ((at_builtin; refine wpList_pushPA rfl (.tmp 35) (.tmp 36) 41 rfl 3 _ [true] 8 Try.underlying41 info_int8 (by decide) (by decide) (by decide) rfl (hP85.next (below_new _ _)) rfl (heap_alloc_new _ _) (plain_one (by omega)) (by omega) (by simp; omega) ?_); intro v8' w7 hP87 hB7 hg7 hat7)
        have hP77 := (hP75.next (below_new w5 (.cells #[.int .i64 1] 3))).kept hg7 hap.symm.ne
        have hb7 := hP75.block
        have hap7 := (hap.symm.left hat7 (fun k hk => by have := hb7 k hk; simp; omega)).symm
        have hO7 := (hO5.next (below_new w5 (.cells #[.int .i64 1] 3))).old hL1 hB7
        have hr7 := (hr5.alloc (.cells #[.int .i64 1] 3)).lower hB7 hl2
        have hG7 := grown_low (grown_alloc hG5 (.cells #[.int .i64 1] 3)) hB7
        clear hP75 hP85 hO5 hr5 hG5 hB7 hg7 hat7 hap hb7
        obtain ⟨A9, c9, rfl, hnc9, hcm9⟩ := hP87.form
        go_wp2_with fail
        refine (odd_any hr7 _ (by omega) (by omega)).mono ?_
        rintro e w9 ⟨od2, q9, rfl, hq9, hr9, hg9, hs9, hy9⟩
        have hP79 := hP77.far hg9 hl2
        have hP89 := hP87.far hg9 hl2
        have hO9 := hO7.far3 hg9 hl1
        have hG9 := grown_trans hG7 hg9
        have hB9 := hB2.trans (below_grown hG9 hs3 (by omega))
        clear hs9 hy9 hg9 hq9 hP77 hP87 hO7 hr7 hG7 hr9 hG9
        obtain ⟨A7', c7', R7, e7, hR7, hO7⟩ := hP79.list
        obtain ⟨A8', c8', R8, e8, hR8, hO8⟩ := hP89.list
        clear hP79 hP89
        cases e7
        cases e8
        obtain ⟨f7, rfl⟩ := intR_of hR7
        obtain ⟨f8, rfl⟩ := intR_of hR8
        obtain ⟨fa, fb, fd, rfl⟩ := hostR_of hR1
        have hcm8 := hO8.1
        unfold maxLen at hcm8
        cases od2 with
        | false =>
          go_wp2
          refine bodyPost_ret (v := .tuple #[.slice A1 np c1, .slice A7 nn c7, .slice A9 (nn + 1) c9]) (by simp [results, Try.results22, go_sem]) rfl ⟨_, _, _, _, _, _, _, _, _, fa, fb, fd, f7, f8, rfl, hnp, hO9.more hs2, hO7.more hs3, hO8.more hs3, hB9⟩
        | true =>
          have hpos : 0 < nn + 1 := by omega
          obtain ⟨b8, rfl, hb8, hN8⟩ := hO8.at_ hpos
          have k8 : w9.cell? ⟨b8, 0, none⟩ = some (.int .i64 (f8 0)) := by simpa using hN8.val (i := 0) hpos 0 (v := .int .i64 (f8 0)) rfl
          have z8 := hN8.free 0
          have l8 := hN8.lt
          have hd : (0 : Int) < ((nn + 1 : Nat) : Int) := by omega
          have hN9 : New (w9.setCell ⟨b8, 0, none⟩ (.int .i64 (-1))) b8 3 1 (nn + 1) c9 (intR (fun i => if i = 0 then -1 else f8 i)) := by
            have := new_cell hN8 0 0 (.int .i64 (-1)) hpos (by simp) (R' := intR (fun i => if i = 0 then -1 else f8 i)) (fun _ => rfl) (fun k hk q u hu => by
              match q, hu with
              | 0, hu =>
                by_cases hk0 : k = 0
                · subst hk0
                  exact .inl ⟨rfl, rfl, by simpa [intR] using hu.symm⟩
                · exact .inr ⟨fun h => hk0 h.1, by simpa [intR, hk0] using hu⟩
              | q + 1, hu => simp [intR] at hu)
            simpa using this
          have hg9 := setCell_grown w9 b8 0 (.int .i64 (-1))
          have hO7n := hO7.keep (w' := w9.setCell ⟨b8, 0, none⟩ (.int .i64 (-1))) (fun k _ hl hA => hg9.block k hl (by
            have := hap7 k (by rw [hA]; rfl)
            simp [Value.ownBlock] at this
            simp
            omega))
          have hO9n := hO9.old (w' := w9.setCell ⟨b8, 0, none⟩ (.int .i64 (-1))) hL1 ((Below.refl _ _).setCell hb8 _)
          have hB9n : Below w.heap.size w (w9.setCell ⟨b8, 0, none⟩ (.int .i64 (-1))) := hB9.setCell (by simp; omega) _
          have hO8n := Own.of_new hN9 hO8.1 hb8
          clear hN9 hg9 hN8 hO7 hO9 hB9
          go_wp2
          refine bodyPost_ret (v := .tuple #[.slice A1 np c1, .slice A7 nn c7, .slice (some ⟨b8, 0, none⟩) (nn + 1) c9]) (by simp [results, Try.results22, go_sem]) rfl ⟨_, _, _, _, _, _, _, _, _, fa, fb, fd, f7, _, rfl, hnp, hO9n.more hs2, hO7n.more hs3, hO8n.more hs3, hB9n⟩
end Go.Proofs.Ytdfnpcjbecbbbaa
