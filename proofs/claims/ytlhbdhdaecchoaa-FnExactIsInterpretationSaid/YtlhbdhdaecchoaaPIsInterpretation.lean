/-
  FnExactIsInterpretation returns true for every signature and list of weights, and turns nothing: proved without conditions.
-/
import Derived.Test.YtlhbdhdaecchoaaTy
import Derived.Test.YtlhbdhdaecchoaaOpen2
import Derived.Test.YtlhbdhdaecchoaaWIsInterpretation
set_option linter.unusedSimpArgs false
set_option linter.unusedVariables false
namespace Go.Proofs.Ytlhbdhdaecchoaa
open Go.ChangeShapes Go.WideShapes Go.ChangeAt Go.RowKit Go.Deep

set_option maxRecDepth 100000 in
theorem isInterpretation_holds_lifted (os : Os) (started : os.Started) (H : Type) (enc : TypeId × Value → H) :
    ReturnsInHanded {} Try.checked os 4 .any (Rows.fnExactIsInterpretationSpec.pre6 enc Try.prog Try.f4 Rows.fnExactIsInterpretationRow.domain false) (Rows.fnExactIsInterpretationSpec.post enc Try.prog Try.f4 false true false false) := by
  refine returnsInHanded_of_change (C := Try.checked) own started (by kernel_rfl) Try.func4
    (ChangeSpec.witness6 (enc := enc) (C := Try.checked) false ⟨#[], #[.agg #[.slice none 0 0, .slice none 0 0, .slice none 0 0], .slice none 0 0], []⟩ 8 (by kernel_rfl) (by kernel_rfl) (by kernel_rfl) (by kernel_rfl)) ?_
  intro W base args ds gs before hval0 hW _ _
  have hval : ∀ (j : Nat) t v, Try.f4.params[j]? = some t → args[j]? = some v → Value.okWide Try.prog W .any base t v := hval0
  have hW' := hW
  obtain ⟨p, q, hA0, hV, rfl, _, _⟩ := hW
  have hA : DataW.TrodAll enc Try.prog W 0 (fun _ => true) true Try.f4.params.toList args.toList ds p := hA0
  rw [Try.params4] at hA hval
  obtain ⟨v0, vs0, d0, ds0, p0, q0, hargs0, hd0, hp0, h0, r0⟩ := trodAll_cons hA
  obtain ⟨v1, vs1, d1, ds1, p1, q1, hargs1, hd1, hp1, h1, r1⟩ := trodAll_cons r0
  obtain ⟨e2, e2d, _⟩ := trodAll_nil r1
  rw [e2] at hargs1
  rw [hargs1] at hargs0
  obtain rfl : args = #[v0, v1] := by cases args; simp_all
  rw [e2d] at hd1
  rw [hd1] at hd0
  subst hd0
  obtain ⟨rfl, rfl⟩ := trodVars_none hV
  obtain ⟨cs0, rfl, _⟩ := okWide_struct Try.underlying28 (hval 0 28 v0 rfl rfl)
  obtain ⟨fuel0, hf0⟩ := h0
  obtain ⟨row0, hok0, hrep0⟩ := open_row seatTR fuel0 _ _ _ _ ty_Signature hf0
  have e0c : (Value.agg cs0).cells.toList.toArray = cs0 := by simp [Value.cells]
  obtain ⟨fuel1, hf1⟩ := h1
  have hone1 := okWide_one Try.underlying47 (hval 1 47 v1 rfl rfl)
  rw [hone1] at hf1
  obtain ⟨row1, hok1, hrep1⟩ := open_row seatTR fuel1 _ _ _ _ ty_s_weight hf1
  obtain ⟨rows1, hok1', hrep1'⟩ := open_sl hok1 hrep1
  have hlaw := lawExactIsInterpretation W row0 _ _ hok0 hrep0 rows1 _ _ hok1' hrep1'
  rw [e0c] at hlaw
  refine hlaw.mono fun e W' ⟨he, hb⟩ => ?_
  subst he
  exact ⟨_, rfl, law_post laidOut rfl rfl Try.underlying4 (by rw [Try.params4]; decide +kernel) hW' rfl hb⟩

theorem isInterpretation_holds : Rows.FnExactIsInterpretationSaid :=
  OpenClaim.holds_of_wide 4 Try.f4 rfl rfl rfl rfl rfl rfl rfl ⟨rfl, rfl, rfl, rfl, rfl⟩ rfl rfl rfl rfl rfl (by kernel_rfl) Try.func4 (by kernel_rfl)
    (of_decide_eq_true (by kernel_rfl)) (by unfold Func.isWrapper; rw [if_neg (of_decide_eq_false (by kernel_rfl))]; exact ⟨rfl, rfl⟩)
    (fun os started H enc _ => isInterpretation_holds_lifted os started H enc)
#print axioms isInterpretation_holds
end Go.Proofs.Ytlhbdhdaecchoaa
