/-
  FnExactQueueOrder: the given statement, out of the walk of the law's function.
-/
import Derived.Test.YtghmcedfiebolaaQueX
namespace Go.Proofs.Ytghmcedfiebolaa
open Go.ChangeShapes Go.WideShapes Go.ChangeAt Go.RowKit Go.Joins Go.Deep

theorem fnExactQueueOrder_cells_mi : Try.prog.cellsOf 3 = 1 := by kernel_rfl
theorem fnExactQueueOrder_cells_ms : Try.prog.cellsOf 23 = 1 := by kernel_rfl
theorem fnExactQueueOrder_cells_int : Try.prog.cellsOf 3 = [true].length := by kernel_rfl

set_option maxRecDepth 100000 in
theorem fnExactQueueOrder_lifted (os : Os) (started : os.Started) (H : Type) (enc : TypeId × Value → H) :
    ReturnsInHanded {} Try.checked os 9 .any (Rows.fnExactQueueOrderSpec.pre6 enc Try.prog Try.f9 Rows.fnExactQueueOrderRow.domain false) (Rows.fnExactQueueOrderSpec.post enc Try.prog Try.f9 false true false false) := by
  refine returnsInHanded_of_change (C := Try.checked) own started (by kernel_rfl) Try.func9
    (ChangeSpec.witness6 (enc := enc) (C := Try.checked) false ⟨#[], #[.slice none 0 0, .slice none 0 0], []⟩ 8 (by kernel_rfl) (by kernel_rfl) (by kernel_rfl) (by kernel_rfl)) ?_
  intro W base args ds gs before hval0 hW _ _
  have hval : ∀ (j : Nat) t v, Try.f9.params[j]? = some t → args[j]? = some v → Value.okWide Try.prog W .any base t v := hval0
  have hW1 := hW
  obtain ⟨p, q, hA0, hV, rfl, hfz, hnd⟩ := hW1
  have hA : DataW.TrodAll enc Try.prog W 0 (fun _ => true) true Try.f9.params.toList args.toList ds p := hA0
  rw [Try.params9] at hA hval
  obtain ⟨v0, vs0, d0, ds0, p0, q0, hargs, rfl, rfl, h0, r0⟩ := trodAll_cons hA
  obtain ⟨v1, vs1, d1, ds1, p1, q1, rfl, rfl, rfl, h1, r1⟩ := trodAll_cons r0
  obtain ⟨rfl, rfl, rfl⟩ := trodAll_nil r1
  obtain rfl : args = #[v0, v1] := by cases args; simp_all
  refine law_contract (P := Try.prog) laidOut rfl rfl Try.underlying4 (by kernel_rfl) (fun _ _ => rfl) hW ?_
  obtain ⟨A0, n0, k0, rfl⟩ := okWide_slice Try.underlying22 (hval 0 22 _ rfl rfl)
  obtain ⟨qn0, q0, hQ0⟩ := mat_of 8 Try.underlying22 Try.underlying23 (by kernel_rfl) fnExactQueueOrder_cells_mi fnExactQueueOrder_cells_ms h0
  obtain ⟨A1, n1, k1, rfl⟩ := okWide_slice Try.underlying23 (hval 1 23 _ rfl rfl)
  obtain ⟨R1, hp1, hR1⟩ := rows_of 8 [true] Try.underlying23 (by kernel_rfl) fnExactQueueOrder_cells_int (by decide) h1
  obtain ⟨c1_0, rfl⟩ := intR_of hp1
  exact exactQueueOrder_walk hQ0 hR1

theorem fnExactQueueOrder_holds : Rows.FnExactQueueOrderSaid :=
  OpenClaim.holds_of_wide 9 Try.f9 rfl rfl rfl rfl rfl rfl rfl ⟨rfl, rfl, rfl, rfl, rfl⟩ rfl rfl rfl rfl rfl (by kernel_rfl) Try.func9 (by kernel_rfl)
    (of_decide_eq_true (by kernel_rfl)) (by unfold Func.isWrapper; first | (rw [if_pos (by decide +kernel)]; kernel_rfl) | (rw [if_neg (by decide +kernel)]; exact ⟨rfl, rfl⟩))
    (fun os started H enc _ => fnExactQueueOrder_lifted os started H enc)
end Go.Proofs.Ytghmcedfiebolaa
