/-
  FnExactScreenFits: the given statement, out of the walk of the law's function.
-/
import Derived.Test.YtcljfakpcecejaaScrW
namespace Go.Proofs.Ytcljfakpcecejaa
open Go.ChangeShapes Go.WideShapes Go.ChangeAt Go.RowKit Go.Joins Go.Deep


set_option maxRecDepth 100000 in
theorem fnExactScreenFits_lifted (os : Os) (started : os.Started) (H : Type) (enc : TypeId × Value → H) :
    ReturnsInHanded {} Try.checked os 3 .any (Rows.fnExactScreenFitsSpec.pre6 enc Try.prog Try.f3 Rows.fnExactScreenFitsRow.domain false) (Rows.fnExactScreenFitsSpec.post enc Try.prog Try.f3 false true false false) := by
  refine returnsInHanded_of_change (C := Try.checked) own started (by kernel_rfl) Try.func3
    (ChangeSpec.witness6 (enc := enc) (C := Try.checked) false ⟨#[], #[.agg #[.int .i64 0, .int .i64 0, .int .i64 0, .int .i64 0, .int .i64 0, .bool false], .agg #[.int .i64 0, .int .i64 0, .int .i64 0, .int .i64 0, .int .i64 0]], []⟩ 8 (by kernel_rfl) (by kernel_rfl) (by kernel_rfl) (by kernel_rfl)) ?_
  intro W base args ds gs before hval0 hW _ _
  have hval : ∀ (j : Nat) t v, Try.f3.params[j]? = some t → args[j]? = some v → Value.okWide Try.prog W .any base t v := hval0
  have hW1 := hW
  obtain ⟨p, q, hA0, hV, rfl, hfz, hnd⟩ := hW1
  have hA : DataW.TrodAll enc Try.prog W 0 (fun _ => true) true Try.f3.params.toList args.toList ds p := hA0
  rw [Try.params3] at hA hval
  obtain ⟨v0, vs0, d0, ds0, p0, q0, hargs, rfl, rfl, h0, r0⟩ := trodAll_cons hA
  obtain ⟨v1, vs1, d1, ds1, p1, q1, rfl, rfl, rfl, h1, r1⟩ := trodAll_cons r0
  obtain ⟨rfl, rfl, rfl⟩ := trodAll_nil r1
  obtain rfl : args = #[v0, v1] := by cases args; simp_all
  refine law_contract (P := Try.prog) laidOut rfl rfl Try.underlying4 (by kernel_rfl) (fun _ _ => rfl) hW ?_
  obtain ⟨⟨cs0⟩, rfl, hp0_0⟩ := plain_arg 8 [true, true, true, true, true, false] Try.underlying25 (by kernel_rfl) (hval 0 25 _ rfl rfl) h0
  replace hp0_0 : Plain [true, true, true, true, true, false] cs0 := hp0_0
  obtain ⟨x0_0, u0_0, rfl, w0_0, hp0_1⟩ := hp0_0
  obtain ⟨x0_1, u0_1, rfl, w0_1, hp0_2⟩ := hp0_1
  obtain ⟨x0_2, u0_2, rfl, w0_2, hp0_3⟩ := hp0_2
  obtain ⟨x0_3, u0_3, rfl, w0_3, hp0_4⟩ := hp0_3
  obtain ⟨x0_4, u0_4, rfl, w0_4, hp0_5⟩ := hp0_4
  obtain ⟨x0_5, u0_5, rfl, hp0_6⟩ := hp0_5
  obtain rfl : u0_5 = [] := hp0_6
  obtain ⟨⟨cs1⟩, rfl, hp1_0⟩ := plain_arg 8 [true, true, true, true, true] Try.underlying27 (by kernel_rfl) (hval 1 27 _ rfl rfl) h1
  replace hp1_0 : Plain [true, true, true, true, true] cs1 := hp1_0
  obtain ⟨x1_0, u1_0, rfl, w1_0, hp1_1⟩ := hp1_0
  obtain ⟨x1_1, u1_1, rfl, w1_1, hp1_2⟩ := hp1_1
  obtain ⟨x1_2, u1_2, rfl, w1_2, hp1_3⟩ := hp1_2
  obtain ⟨x1_3, u1_3, rfl, w1_3, hp1_4⟩ := hp1_3
  obtain ⟨x1_4, u1_4, rfl, w1_4, hp1_5⟩ := hp1_4
  obtain rfl : u1_4 = [] := hp1_5
  exact exactScreenFits_walk _ _ _ _ _ _ _ _ _ _ _ _

theorem fnExactScreenFits_holds : Rows.FnExactScreenFitsSaid :=
  OpenClaim.holds_of_wide 3 Try.f3 rfl rfl rfl rfl rfl rfl rfl ⟨rfl, rfl, rfl, rfl, rfl⟩ rfl rfl rfl rfl rfl (by kernel_rfl) Try.func3 (by kernel_rfl)
    (of_decide_eq_true (by kernel_rfl)) (by unfold Func.isWrapper; first | (rw [if_pos (by decide +kernel)]; kernel_rfl) | (rw [if_neg (by decide +kernel)]; exact ⟨rfl, rfl⟩))
    (fun os started H enc _ => fnExactScreenFits_lifted os started H enc)
end Go.Proofs.Ytcljfakpcecejaa
