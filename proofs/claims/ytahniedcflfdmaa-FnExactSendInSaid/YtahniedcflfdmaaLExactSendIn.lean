/-
  FnExactSendIn: the given statement, out of the walk of the law's function.
-/
import Derived.Test.YtahniedcflfdmaaSinW
namespace Go.Proofs.Ytahniedcflfdmaa
open Go.ChangeShapes Go.WideShapes Go.ChangeAt Go.RowKit Go.Joins Go.Deep

theorem fnExactSendIn_cells_laws_Flow : Try.prog.cellsOf 38 = [true, true, true, true, true].length := by kernel_rfl
theorem fnExactSendIn_cells_laws_Outlet : Try.prog.cellsOf 24 = 3 := by kernel_rfl

set_option maxRecDepth 100000 in
theorem fnExactSendIn_lifted (os : Os) (started : os.Started) (H : Type) (enc : TypeId × Value → H) :
    ReturnsInHanded {} Try.checked os 5 .any (Rows.fnExactSendInSpec.pre6 enc Try.prog Try.f5 Rows.fnExactSendInRow.domain false) (Rows.fnExactSendInSpec.post enc Try.prog Try.f5 false true false false) := by
  refine returnsInHanded_of_change (C := Try.checked) own started (by kernel_rfl) Try.func5
    (ChangeSpec.witness6 (enc := enc) (C := Try.checked) false ⟨#[], #[.agg #[.int .i64 0, .int .i64 0, .slice none 0 0], .agg #[.int .i64 0, .int .i64 0, .int .i64 0, .int .i64 0, .int .i64 0]], []⟩ 8 (by kernel_rfl) (by kernel_rfl) (by kernel_rfl) (by kernel_rfl)) ?_
  intro W base args ds gs before hval0 hW _ _
  have hval : ∀ (j : Nat) t v, Try.f5.params[j]? = some t → args[j]? = some v → Value.okWide Try.prog W .any base t v := hval0
  have hW1 := hW
  obtain ⟨p, q, hA0, hV, rfl, hfz, hnd⟩ := hW1
  have hA : DataW.TrodAll enc Try.prog W 0 (fun _ => true) true Try.f5.params.toList args.toList ds p := hA0
  rw [Try.params5] at hA hval
  obtain ⟨v0, vs0, d0, ds0, p0, q0, hargs, rfl, rfl, h0, r0⟩ := trodAll_cons hA
  obtain ⟨v1, vs1, d1, ds1, p1, q1, rfl, rfl, rfl, h1, r1⟩ := trodAll_cons r0
  obtain ⟨rfl, rfl, rfl⟩ := trodAll_nil r1
  obtain rfl : args = #[v0, v1] := by cases args; simp_all
  refine law_contract (P := Try.prog) laidOut rfl rfl Try.underlying4 (by kernel_rfl) (fun _ _ => rfl) hW ?_
  obtain ⟨c0_0, c0_1, c0_2, y0_0, y0_1, y0_2, m0, rfl, rfl, rfl, hy0_0, hy0_1, hy0_2⟩ := open_agg3 Try.underlying24 (by kernel_rfl) fnExactSendIn_cells_laws_Outlet (hval 0 24 _ rfl rfl) h0
  obtain ⟨a0_0, e0_0, rfl, w0_0⟩ := DataW.trod_int Try.underlying3 hy0_0
  simp at e0_0
  subst e0_0
  obtain ⟨a0_1, e0_1, rfl, w0_1⟩ := DataW.trod_int Try.underlying3 hy0_1
  simp at e0_1
  subst e0_1
  obtain ⟨A0, n0, k0, es0, R0, hp0, hR0⟩ := rows_cell 8 [true, true, true, true, true] Try.underlying22 (by kernel_rfl) fnExactSendIn_cells_laws_Flow (by decide) hy0_2
  subst es0
  obtain ⟨d0_0, d0_1, d0_2, d0_3, d0_4, rfl⟩ := flowR_of hp0
  obtain ⟨⟨cs1⟩, rfl, hp1_0⟩ := plain_arg 8 [true, true, true, true, true] Try.underlying38 (by kernel_rfl) (hval 1 38 _ rfl rfl) h1
  replace hp1_0 : Plain [true, true, true, true, true] cs1 := hp1_0
  obtain ⟨x1_0, u1_0, rfl, w1_0, hp1_1⟩ := hp1_0
  obtain ⟨x1_1, u1_1, rfl, w1_1, hp1_2⟩ := hp1_1
  obtain ⟨x1_2, u1_2, rfl, w1_2, hp1_3⟩ := hp1_2
  obtain ⟨x1_3, u1_3, rfl, w1_3, hp1_4⟩ := hp1_3
  obtain ⟨x1_4, u1_4, rfl, w1_4, hp1_5⟩ := hp1_4
  obtain rfl : u1_4 = [] := hp1_5
  exact exactSendIn_walk _ _ _ _ _ _ _ hR0

theorem fnExactSendIn_holds : Rows.FnExactSendInSaid :=
  OpenClaim.holds_of_wide 5 Try.f5 rfl rfl rfl rfl rfl rfl rfl ⟨rfl, rfl, rfl, rfl, rfl⟩ rfl rfl rfl rfl rfl (by kernel_rfl) Try.func5 (by kernel_rfl)
    (of_decide_eq_true (by kernel_rfl)) (by unfold Func.isWrapper; first | (rw [if_pos (by decide +kernel)]; kernel_rfl) | (rw [if_neg (by decide +kernel)]; exact ⟨rfl, rfl⟩))
    (fun os started H enc _ => fnExactSendIn_lifted os started H enc)
end Go.Proofs.Ytahniedcflfdmaa
