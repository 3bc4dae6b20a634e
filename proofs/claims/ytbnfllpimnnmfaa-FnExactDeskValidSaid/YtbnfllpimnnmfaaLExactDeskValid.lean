/-
  FnExactDeskValid: the given statement, out of the walk of the law's function.
-/
import Derived.Test.YtbnfllpimnnmfaaDevW
namespace Go.Proofs.Ytbnfllpimnnmfaa
open Go.ChangeShapes Go.WideShapes Go.ChangeAt Go.RowKit Go.Joins Go.Deep


set_option maxRecDepth 100000 in
theorem fnExactDeskValid_lifted (os : Os) (started : os.Started) (H : Type) (enc : TypeId × Value → H) :
    ReturnsInHanded {} Try.checked os 6 .any (Rows.fnExactDeskValidSpec.pre6 enc Try.prog Try.f6 Rows.fnExactDeskValidRow.domain false) (Rows.fnExactDeskValidSpec.post enc Try.prog Try.f6 false true false false) := by
  refine returnsInHanded_of_change (C := Try.checked) own started (by kernel_rfl) Try.func6
    (ChangeSpec.witness6 (enc := enc) (C := Try.checked) false ⟨#[], #[.agg #[.slice none 0 0, .int .i64 0, .int .i64 0, .slice none 0 0, .int .i64 0]], []⟩ 8 (by kernel_rfl) (by kernel_rfl) (by kernel_rfl) (by kernel_rfl)) ?_
  intro W base args ds gs before hval0 hW _ _
  have hval : ∀ (j : Nat) t v, Try.f6.params[j]? = some t → args[j]? = some v → Value.okWide Try.prog W .any base t v := hval0
  have hW1 := hW
  obtain ⟨p, q, hA0, hV, rfl, hfz, hnd⟩ := hW1
  have hA : DataW.TrodAll enc Try.prog W 0 (fun _ => true) true Try.f6.params.toList args.toList ds p := hA0
  rw [Try.params6] at hA hval
  obtain ⟨v0, vs0, d0, ds0, p0, q0, hargs, rfl, rfl, h0, r0⟩ := trodAll_cons hA
  obtain ⟨rfl, rfl, rfl⟩ := trodAll_nil r0
  obtain rfl : args = #[v0] := by cases args; simp_all
  refine law_contract (P := Try.prog) laidOut rfl rfl Try.underlying4 (by kernel_rfl) (fun _ _ => rfl) hW ?_
  obtain ⟨A0a, m0, c0a, x0_0, x0_1, A0, n0, c0, now0, rfl, ⟨R0a, hp0a, hR0a⟩, ⟨R0, hp0, hR0⟩⟩ := open_desk Try.underlying51 rfl rfl rfl rfl rfl rfl Try.underlying49 rfl rfl rfl rfl rfl Try.underlying46 Try.underlying47 Try.underlying3 (by kernel_rfl) (by kernel_rfl) (by kernel_rfl) (by kernel_rfl) (by kernel_rfl) (by kernel_rfl) (by kernel_rfl) (by kernel_rfl) (by kernel_rfl) (hval 0 51 _ rfl rfl) h0
  obtain ⟨a0, b0, d0, rfl⟩ := hostR_of hp0a
  obtain ⟨f00, f01, f02, f03, f04, f05, f06, rfl⟩ := entryR_of hp0
  exact exactDeskValid_walk _ _ _ hR0a hR0

theorem fnExactDeskValid_holds : Rows.FnExactDeskValidSaid :=
  OpenClaim.holds_of_wide 6 Try.f6 rfl rfl rfl rfl rfl rfl rfl ⟨rfl, rfl, rfl, rfl, rfl⟩ rfl rfl rfl rfl rfl (by kernel_rfl) Try.func6 (by kernel_rfl)
    (of_decide_eq_true (by kernel_rfl)) (by unfold Func.isWrapper; first | (rw [if_pos (by decide +kernel)]; kernel_rfl) | (rw [if_neg (by decide +kernel)]; exact ⟨rfl, rfl⟩))
    (fun os started H enc _ => fnExactDeskValid_lifted os started H enc)
end Go.Proofs.Ytbnfllpimnnmfaa
