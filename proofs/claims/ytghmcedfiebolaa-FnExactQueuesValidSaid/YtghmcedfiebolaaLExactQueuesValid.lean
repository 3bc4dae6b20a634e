/-
  FnExactQueuesValid: the given statement, out of the walk of the law's function.
-/
import Derived.Test.YtghmcedfiebolaaQueW
namespace Go.Proofs.Ytghmcedfiebolaa
open Go.ChangeShapes Go.WideShapes Go.ChangeAt Go.RowKit Go.Joins Go.Deep

theorem fnExactQueuesValid_cells_mi : Try.prog.cellsOf 3 = 1 := by kernel_rfl
theorem fnExactQueuesValid_cells_ms : Try.prog.cellsOf 23 = 1 := by kernel_rfl
theorem fnExactQueuesValid_cells_int : Try.prog.cellsOf 3 = [true].length := by kernel_rfl

set_option maxRecDepth 100000 in
theorem fnExactQueuesValid_lifted (os : Os) (started : os.Started) (H : Type) (enc : TypeId × Value → H) :
    ReturnsInHanded {} Try.checked os 3 .any (Rows.fnExactQueuesValidSpec.pre6 enc Try.prog Try.f3 Rows.fnExactQueuesValidRow.domain false) (Rows.fnExactQueuesValidSpec.post enc Try.prog Try.f3 false true false false) := by
  refine returnsInHanded_of_change (C := Try.checked) own started (by kernel_rfl) Try.func3
    (ChangeSpec.witness6 (enc := enc) (C := Try.checked) false ⟨#[], #[.slice none 0 0, .slice none 0 0], []⟩ 8 (by kernel_rfl) (by kernel_rfl) (by kernel_rfl) (by kernel_rfl)) ?_
  intro W base args ds gs before hval0 hW _ _
  have hval : ∀ (j : Nat) t v, Try.f3.params[j]? = some t → args[j]? = some v → Value.okWide Try.prog W .any base t v := hval0
  have hW1 := hW
  obtain ⟨p, q, hA0, hV, rfl, hfz, hnd⟩ := hW1
  have hA : DataW.TrodAll enc Try.prog W 0 (fun _ => true) true Try.f3.params.toList args.toList ds p := hA0
  rw [Try.params3] at hA hval
  obtain ⟨v0, vs0, d0, ds0, p0, q0, hargs, rfl, rfl, h0, r0⟩ := trodAll_cons hA
  obtain ⟨v1, vs1, d1, ds1, p1, q1, rfl, rfl, rfl, h1, r1⟩ := trodAll_cons r0
  obtain ⟨rfl, rfl, rfl⟩ := trodAll_nil r1
  obtain rfl : args = #[v0, v1] := by cases args; simp_all
  refine law_contract (P := Try.prog) laidOut rfl rfl Try.underlying4 (by kernel_rfl) (fun _ _ => rfl) hW ?_
  obtain ⟨A0, n0, k0, rfl⟩ := okWide_slice Try.underlying22 (hval 0 22 _ rfl rfl)
  obtain ⟨qn0, q0, hQ0⟩ := mat_of 8 Try.underlying22 Try.underlying23 (by kernel_rfl) fnExactQueuesValid_cells_mi fnExactQueuesValid_cells_ms h0
  obtain ⟨A1, n1, k1, rfl⟩ := okWide_slice Try.underlying23 (hval 1 23 _ rfl rfl)
  obtain ⟨R1, hp1, hR1⟩ := rows_of 8 [true] Try.underlying23 (by kernel_rfl) fnExactQueuesValid_cells_int (by decide) h1
  obtain ⟨c1_0, rfl⟩ := intR_of hp1
  exact exactQueuesValid_walk hQ0 hR1

theorem fnExactQueuesValid_holds : Rows.FnExactQueuesValidSaid :=
  OpenClaim.holds_of_wide 3 Try.f3 rfl rfl rfl rfl rfl rfl rfl ⟨rfl, rfl, rfl, rfl, rfl⟩ rfl rfl rfl rfl rfl (by kernel_rfl) Try.func3 (by kernel_rfl)
    (of_decide_eq_true (by kernel_rfl)) (by unfold Func.isWrapper; first | (rw [if_pos (by decide +kernel)]; kernel_rfl) | (rw [if_neg (by decide +kernel)]; exact ⟨rfl, rfl⟩))
    (fun os started H enc _ => fnExactQueuesValid_lifted os started H enc)
end Go.Proofs.Ytghmcedfiebolaa
