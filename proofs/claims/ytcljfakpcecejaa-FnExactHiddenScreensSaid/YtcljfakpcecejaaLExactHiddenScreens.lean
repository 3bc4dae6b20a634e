/-
  FnExactHiddenScreens: the given statement, out of the walk of the law's function.
-/
import Derived.Test.YtcljfakpcecejaaHidW
namespace Go.Proofs.Ytcljfakpcecejaa
open Go.ChangeShapes Go.WideShapes Go.ChangeAt Go.RowKit Go.Joins Go.Deep

theorem fnExactHiddenScreens_cells_laws_Screen : Try.prog.cellsOf 25 = [true, true, true, true, true, false].length := by kernel_rfl

set_option maxRecDepth 100000 in
theorem fnExactHiddenScreens_lifted (os : Os) (started : os.Started) (H : Type) (enc : TypeId × Value → H) :
    ReturnsInHanded {} Try.checked os 10 .any (Rows.fnExactHiddenScreensSpec.pre6 enc Try.prog Try.f10 Rows.fnExactHiddenScreensRow.domain false) (Rows.fnExactHiddenScreensSpec.post enc Try.prog Try.f10 false true false false) := by
  refine returnsInHanded_of_change (C := Try.checked) own started (by kernel_rfl) Try.func10
    (ChangeSpec.witness6 (enc := enc) (C := Try.checked) false ⟨#[], #[.slice none 0 0], []⟩ 8 (by kernel_rfl) (by kernel_rfl) (by kernel_rfl) (by kernel_rfl)) ?_
  intro W base args ds gs before hval0 hW _ _
  have hval : ∀ (j : Nat) t v, Try.f10.params[j]? = some t → args[j]? = some v → Value.okWide Try.prog W .any base t v := hval0
  have hW1 := hW
  obtain ⟨p, q, hA0, hV, rfl, hfz, hnd⟩ := hW1
  have hA : DataW.TrodAll enc Try.prog W 0 (fun _ => true) true Try.f10.params.toList args.toList ds p := hA0
  rw [Try.params10] at hA hval
  obtain ⟨v0, vs0, d0, ds0, p0, q0, hargs, rfl, rfl, h0, r0⟩ := trodAll_cons hA
  obtain ⟨rfl, rfl, rfl⟩ := trodAll_nil r0
  obtain rfl : args = #[v0] := by cases args; simp_all
  refine law_contract (P := Try.prog) laidOut rfl rfl Try.underlying4 (by kernel_rfl) (fun _ _ => rfl) hW ?_
  obtain ⟨A0, n0, k0, rfl⟩ := okWide_slice Try.underlying42 (hval 0 42 _ rfl rfl)
  obtain ⟨R0, hp0, hR0⟩ := rows_of 8 [true, true, true, true, true, false] Try.underlying42 (by kernel_rfl) fnExactHiddenScreens_cells_laws_Screen (by decide) h0
  obtain ⟨c0_0, c0_1, c0_2, c0_3, c0_4, c0_5, rfl⟩ := screenR_of hp0
  exact exactHiddenScreens_walk hR0

theorem fnExactHiddenScreens_holds : Rows.FnExactHiddenScreensSaid :=
  OpenClaim.holds_of_wide 10 Try.f10 rfl rfl rfl rfl rfl rfl rfl ⟨rfl, rfl, rfl, rfl, rfl⟩ rfl rfl rfl rfl rfl (by kernel_rfl) Try.func10 (by kernel_rfl)
    (of_decide_eq_true (by kernel_rfl)) (by unfold Func.isWrapper; first | (rw [if_pos (by decide +kernel)]; kernel_rfl) | (rw [if_neg (by decide +kernel)]; exact ⟨rfl, rfl⟩))
    (fun os started H enc _ => fnExactHiddenScreens_lifted os started H enc)
end Go.Proofs.Ytcljfakpcecejaa
