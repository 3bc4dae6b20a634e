/-
  Drawn bytes.
-/
import Derived.Test.YtlnjpjeccpnddaaPush
import Derived.Test.YtlnjpjeccpnddaaCel
import Derived.Test.YtlnjpjeccpnddaaBytT
namespace Go.Proofs.Ytlnjpjeccpnddaa
open Go Go.RowKit

/-- Bytes, as a drawn list holds them. -/
def cap (z : Nat → Nat) : Nat → Nat := fun i => z i % 256
theorem cap_le (z : Nat → Nat) (i : Nat) : cap z i ≤ 255 := by unfold cap; omega
theorem cap_push {n x : Nat} (z : Nat → Nat) (h : x < 256) : cap (fun i => if i < n then z i else x) n = x := by simp [cap]; omega
theorem Acc.upB {w : World} {B : Nat} {t : TypeId} {v : Value} {n : Nat} {z : Nat → Nat} (h : Acc w B t 1 v n (byteR (cap z))) (x : Nat) : Acc w B t 1 v n (byteR (cap (fun i => if i < n then z i else x))) :=
  h.congr (fun i hi => by simp [byteR, cap, hi]) fun i => rfl
/-- Drawn bytes: at most N, new. -/
def DrawnB (w : World) (B g : Nat) (A : Option Addr) (m c p K N : Nat) (e : Ending) (w' : World) : Prop :=
  ∃ b n k q, ∃ z : Nat → Nat, e = .returned (.slice (some ⟨b, 0, none⟩) n k) ∧ n ≤ N ∧ w.heap.size ≤ b ∧ Acc w' w.heap.size 5 1 (.slice (some ⟨b, 0, none⟩) n k) n (byteR (cap z)) ∧ q ≤ p + K ∧ Rd w' B g A m c q ∧ w.grownBy w' (some g)
set_option maxHeartbeats 8000000 in
theorem l20Bytes_any {w : World} {B g : Nat} {A : Option Addr} {m c p : Nat} (h : Rd w B g A m c p) (N : Nat) (hN : N ≤ 100) (hp2 : p ≤ 600000000) :
    Calls Try.prog 39 #[(.pointer (some ⟨g, 0, none⟩)), .int .i64 N] w (DrawnB w B g A m c p 201 N) := by
  have hlt := h.lt
  go_enter Try.func39, Try.ntmps39
  go_wp2_with fail
  have hP0 : Acc (w.alloc (.cells #[] 5)) w.heap.size 5 1 (.slice (some ⟨w.heap.size, 0, none⟩) 0 0) 0 (byteR (cap (fun _ => 0))) := Acc.made w _ _ (fun _ => rfl) (Nat.le_refl _)
  refine (pick_any (h.alloc _) _ (by omega)).mono ?_
  rintro e w1 ⟨k, rfl, hk, hr1, hg1, hs1⟩
  have hk1 := hk.1; have hk2 := hk.2.1 (by omega); clear hk
  have hP1 := hP0.far hg1 hlt
  have hG1 := grown_trans (grown_alloc (grown_refl w _) _) hg1
  clear hP0 hg1 hs1
  go_wp2_with fail
  go_loopw [5, 6] (fun v i wr => ∃ (b nn cc q : Nat) (k : Int) (z : Nat → Nat), v = .slice (some ⟨b, 0, none⟩) nn cc ∧ w.heap.size ≤ b ∧ 0 ≤ k ∧ (nn : Int) + k ≤ N ∧ i = .int .i64 k ∧ Acc wr w.heap.size 5 1 (.slice (some ⟨b, 0, none⟩) nn cc) nn (byteR (cap z)) ∧ Rd wr B g A m c q ∧ q ≤ p + 1 + 2 * nn ∧ w.grownBy wr (some g)) (fun _ i _ => (intOf i).toNat)
  case atStart => exact ⟨w.heap.size, 0, 0, p + 1, k, _, rfl, Nat.le_refl _, hk1, by omega, rfl, hP1, hr1, by omega, hG1⟩
  case round =>
    obtain ⟨b, nn, cc, q, k, z, rfl, hbw, hk1, hk2, rfl, hP, hr, hq, hG⟩ := hrel
    clear hP1 hr1 hG1
    by_cases hlt2 : 0 < k
    · go_wp2_with fail
      refine (pick_any hr _ (by omega)).mono ?_
      rintro e w2 ⟨x, rfl, hk, hr2, hg2, hs2⟩
      have hx1 := hk.1; have hx2 := hk.2.1 (by omega); clear hk
      obtain ⟨x, rfl⟩ := Int.eq_ofNat_of_zero_le hx1
      have hP2 := hP.far hg2 hlt
      have hG2 := grown_trans hG hg2
      have hgw : g < w2.heap.size := hr2.lt
      have hw8 : IntKind.u8.wrap (x : Int) = (x : Int) := by simp [IntKind.wrap, IntKind.signed, IntKind.bits] <;> omega
      clear hg2 hs2 hP hr hG
      go_wp2_with fail
      refine (pick_any (hr2.alloc _) _ (by omega)).mono ?_
      rintro e w3 ⟨k3, rfl, hk, hr3, hg3, hs3⟩
      have hk3 := hk.1; have hk4 := hk.2.1 (by omega); clear hk
      have hP3 := (hP2.next (below_new _ _)).far hg3 hlt
      have hG3 := grown_trans (grown_alloc hG2 _) hg3
      have hsz3 := hG3.size
      have hAr := heap_far (heap_alloc_new w2 _) hg3 (show w2.heap.size ≠ g by omega)
      obtain ⟨kA, fA⟩ := blk hAr
      have hAl := heap_lt hAr
      clear hs3 hg3 hP2 hr2 hG2
      rcases (show k3 = 0 ∨ k3 = 1 ∨ k3 = 2 by omega) with rfl | rfl | rfl
      · go_wp2_with 
  (at_builtin; refine wpList_push rfl (.tmp 16) (.tmp 25) 22 rfl 5 _ 1 1 Try.underlying22 info_byte (by decide) (by decide) (by decide) rfl ((hP3.upB (x)).next (below_new _ _)) rfl (heap_alloc_new _ _) (by simp only [byteR, cap_push _ (show x < 256 by omega)] <;> rfl) (byteR_one _ _) (by omega) (by simp <;> omega) ?_; intro v' w4 hP4 hB4 hg4)
        obtain ⟨b', c', cs', rfl, hbb, hcs'⟩ := hP4.at_ (by omega)
        go_roundw
        case rel => exact ⟨b', nn + 1, c', _, k - 1, _, rfl, hbb, by omega, by omega, by go_num, hP4, (hr3.alloc _).lower hB4 hlt, by omega, grown_low (grown_alloc hG3 _) hB4⟩
        case measure => simp [intOf]; omega
      · go_wp2_with 
  (at_builtin; refine wpList_push rfl (.tmp 16) (.tmp 25) 22 rfl 5 _ 1 1 Try.underlying22 info_byte (by decide) (by decide) (by decide) rfl ((hP3.upB (0)).next (below_new _ _)) rfl (heap_alloc_new _ _) (by simp only [byteR, cap_push _ (show 0 < 256 by omega)] <;> rfl) (byteR_one _ _) (by omega) (by simp <;> omega) ?_; intro v' w4 hP4 hB4 hg4)
        obtain ⟨b', c', cs', rfl, hbb, hcs'⟩ := hP4.at_ (by omega)
        go_roundw
        case rel => exact ⟨b', nn + 1, c', _, k - 1, _, rfl, hbb, by omega, by omega, by go_num, hP4, (hr3.alloc _).lower hB4 hlt, by omega, grown_low (grown_alloc hG3 _) hB4⟩
        case measure => simp [intOf]; omega
      · go_wp2_with 
  (at_builtin; refine wpList_push rfl (.tmp 16) (.tmp 25) 22 rfl 5 _ 1 1 Try.underlying22 info_byte (by decide) (by decide) (by decide) rfl ((hP3.upB (255)).next (below_new _ _)) rfl (heap_alloc_new _ _) (by simp only [byteR, cap_push _ (show 255 < 256 by omega)] <;> rfl) (byteR_one _ _) (by omega) (by simp <;> omega) ?_; intro v' w4 hP4 hB4 hg4)
        obtain ⟨b', c', cs', rfl, hbb, hcs'⟩ := hP4.at_ (by omega)
        go_roundw
        case rel => exact ⟨b', nn + 1, c', _, k - 1, _, rfl, hbb, by omega, by omega, by go_num, hP4, (hr3.alloc _).lower hB4 hlt, by omega, grown_low (grown_alloc hG3 _) hB4⟩
        case measure => simp [intOf]; omega
    · obtain rfl : k = 0 := by omega
      go_wp2
      go_ret
      exact ⟨b, nn, cc, q, z, rfl, by omega, hbw, hP, by omega, hr, hG⟩
end Go.Proofs.Ytlnjpjeccpnddaa
