/-
  FnExactAddRoute: the given statement, out of the walk of the law's function.
-/
import Derived.Test.YtgoijpbkgkjfeaaArW
namespace Go.Proofs.Ytgoijpbkgkjfeaa
open Go.ChangeShapes Go.WideShapes Go.ChangeAt Go.RowKit Go.Joins Go.Deep

theorem fnExactAddRoute_cells_laws_Route : Try.prog.cellsOf 38 = [true, true, true].length := by kernel_rfl

set_option maxRecDepth 100000 in
theorem fnExactAddRoute_lifted (os : Os) (started : os.Started) (H : Type) (enc : TypeId × Value → H) :
    ReturnsInHanded {} Try.checked os 4 .any (Rows.fnExactAddRouteSpec.pre6 enc Try.prog Try.f4 Rows.fnExactAddRouteRow.domain false) (Rows.fnExactAddRouteSpec.post enc Try.prog Try.f4 false true false false) := by
  refine returnsInHanded_of_change (C := Try.checked) own started (by kernel_rfl) Try.func4
    (ChangeSpec.witness6 (enc := enc) (C := Try.checked) false ⟨#[], #[.slice none 0 0, .agg #[.int .i64 0, .int .i64 0, .int .i64 0]], []⟩ 8 (by kernel_rfl) (by kernel_rfl) (by kernel_rfl) (by kernel_rfl)) ?_
  intro W base args ds gs before hval0 hW _ _
  have hval : ∀ (j : Nat) t v, Try.f4.params[j]? = some t → args[j]? = some v → Value.okWide Try.prog W .any base t v := hval0
  have hW1 := hW
  obtain ⟨p, q, hA0, hV, rfl, hfz, hnd⟩ := hW1
  have hA : DataW.TrodAll enc Try.prog W 0 (fun _ => true) true Try.f4.params.toList args.toList ds p := hA0
  rw [Try.params4] at hA hval
  obtain ⟨v0, vs0, d0, ds0, p0, q0, hargs, rfl, rfl, h0, r0⟩ := trodAll_cons hA
  obtain ⟨v1, vs1, d1, ds1, p1, q1, rfl, rfl, rfl, h1, r1⟩ := trodAll_cons r0
  obtain ⟨rfl, rfl, rfl⟩ := trodAll_nil r1
  obtain rfl : args = #[v0, v1] := by cases args; simp_all
  refine law_contract (P := Try.prog) laidOut rfl rfl Try.underlying4 (by kernel_rfl) (fun _ _ => rfl) hW ?_
  obtain ⟨A0, n0, k0, rfl⟩ := okWide_slice Try.underlying35 (hval 0 35 _ rfl rfl)
  obtain ⟨R0, hp0, hR0⟩ := rows_of 8 [true, true, true] Try.underlying35 (by kernel_rfl) fnExactAddRoute_cells_laws_Route (by decide) h0
  obtain ⟨c0_0, c0_1, c0_2, rfl⟩ := routeR_of hp0
  obtain ⟨⟨cs1⟩, rfl, hp1_0⟩ := plain_arg 8 [true, true, true] Try.underlying38 (by kernel_rfl) (hval 1 38 _ rfl rfl) h1
  replace hp1_0 : Plain [true, true, true] cs1 := hp1_0
  obtain ⟨x1_0, u1_0, rfl, w1_0, hp1_1⟩ := hp1_0
  obtain ⟨x1_1, u1_1, rfl, w1_1, hp1_2⟩ := hp1_1
  obtain ⟨x1_2, u1_2, rfl, w1_2, hp1_3⟩ := hp1_2
  obtain rfl : u1_2 = [] := hp1_3
  exact exactAddRoute_walk _ _ _ hR0

theorem fnExactAddRoute_holds : Rows.FnExactAddRouteSaid :=
  OpenClaim.holds_of_wide 4 Try.f4 rfl rfl rfl rfl rfl rfl rfl ⟨rfl, rfl, rfl, rfl, rfl⟩ rfl rfl rfl rfl rfl (by kernel_rfl) Try.func4 (by kernel_rfl)
    (of_decide_eq_true (by kernel_rfl)) (by unfold Func.isWrapper; first | (rw [if_pos (by decide +kernel)]; kernel_rfl) | (rw [if_neg (by decide +kernel)]; exact ⟨rfl, rfl⟩))
    (fun os started H enc _ => fnExactAddRoute_lifted os started H enc)
end Go.Proofs.Ytgoijpbkgkjfeaa
