/-
  FnExactCountPackets: the given statement, out of the walk of the law's function.
-/
import Derived.Test.YtdfnpcjbecbbbaaCpkW
namespace Go.Proofs.Ytdfnpcjbecbbbaa
open Go.ChangeShapes Go.WideShapes Go.ChangeAt Go.RowKit Go.Joins Go.Deep

theorem fnExactCountPackets_cells_laws_Host : Try.prog.cellsOf 72 = [true, true, true].length := by kernel_rfl
theorem fnExactCountPackets_cells_int : Try.prog.cellsOf 3 = [true].length := by kernel_rfl

set_option maxRecDepth 100000 in
theorem fnExactCountPackets_lifted (os : Os) (started : os.Started) (H : Type) (enc : TypeId × Value → H) :
    ReturnsInHanded {} Try.checked os 8 .any (Rows.fnExactCountPacketsSpec.pre6 enc Try.prog Try.f8 Rows.fnExactCountPacketsRow.domain false) (Rows.fnExactCountPacketsSpec.post enc Try.prog Try.f8 false true false false) := by
  refine returnsInHanded_of_change (C := Try.checked) own started (by kernel_rfl) Try.func8
    (ChangeSpec.witness6 (enc := enc) (C := Try.checked) false ⟨#[], #[.slice none 0 0, .slice none 0 0, .slice none 0 0], []⟩ 8 (by kernel_rfl) (by kernel_rfl) (by kernel_rfl) (by kernel_rfl)) ?_
  intro W base args ds gs before hval0 hW _ _
  have hval : ∀ (j : Nat) t v, Try.f8.params[j]? = some t → args[j]? = some v → Value.okWide Try.prog W .any base t v := hval0
  have hW1 := hW
  obtain ⟨p, q, hA0, hV, rfl, hfz, hnd⟩ := hW1
  have hA : DataW.TrodAll enc Try.prog W 0 (fun _ => true) true Try.f8.params.toList args.toList ds p := hA0
  rw [Try.params8] at hA hval
  obtain ⟨v0, vs0, d0, ds0, p0, q0, hargs, rfl, rfl, h0, r0⟩ := trodAll_cons hA
  obtain ⟨v1, vs1, d1, ds1, p1, q1, rfl, rfl, rfl, h1, r1⟩ := trodAll_cons r0
  obtain ⟨v2, vs2, d2, ds2, p2, q2, rfl, rfl, rfl, h2, r2⟩ := trodAll_cons r1
  obtain ⟨rfl, rfl, rfl⟩ := trodAll_nil r2
  obtain rfl : args = #[v0, v1, v2] := by cases args; simp_all
  refine law_contract (P := Try.prog) laidOut rfl rfl Try.underlying4 (by kernel_rfl) (fun _ _ => rfl) hW ?_
  obtain ⟨A0, n0, k0, rfl⟩ := okWide_slice Try.underlying45 (hval 0 45 _ rfl rfl)
  obtain ⟨R0, hp0, hR0⟩ := rows_of 8 [true, true, true] Try.underlying45 (by kernel_rfl) fnExactCountPackets_cells_laws_Host (by decide) h0
  obtain ⟨c0_0, c0_1, c0_2, rfl⟩ := hostR_of hp0
  obtain ⟨A1, n1, k1, rfl⟩ := okWide_slice Try.underlying41 (hval 1 41 _ rfl rfl)
  obtain ⟨R1, hp1, hR1⟩ := rows_of 8 [true] Try.underlying41 (by kernel_rfl) fnExactCountPackets_cells_int (by decide) h1
  obtain ⟨c1_0, rfl⟩ := intR_of hp1
  obtain ⟨A2, n2, k2, rfl⟩ := okWide_slice Try.underlying41 (hval 2 41 _ rfl rfl)
  obtain ⟨R2, hp2, hR2⟩ := rows_of 8 [true] Try.underlying41 (by kernel_rfl) fnExactCountPackets_cells_int (by decide) h2
  obtain ⟨c2_0, rfl⟩ := intR_of hp2
  exact exactCountPackets_walk hR0 hR1 hR2

theorem fnExactCountPackets_holds : Rows.FnExactCountPacketsSaid :=
  OpenClaim.holds_of_wide 8 Try.f8 rfl rfl rfl rfl rfl rfl rfl ⟨rfl, rfl, rfl, rfl, rfl⟩ rfl rfl rfl rfl rfl (by kernel_rfl) Try.func8 (by kernel_rfl)
    (of_decide_eq_true (by kernel_rfl)) (by unfold Func.isWrapper; first | (rw [if_pos (by decide +kernel)]; kernel_rfl) | (rw [if_neg (by decide +kernel)]; exact ⟨rfl, rfl⟩))
    (fun os started H enc _ => fnExactCountPackets_lifted os started H enc)
end Go.Proofs.Ytdfnpcjbecbbbaa
