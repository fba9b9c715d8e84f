/-
  FnExactChainSize returns true for every chain, and turns nothing: proved without conditions.
-/
import Derived.Test.YtiglacjigkcgkaaOpen
import Derived.Test.YtiglacjigkcgkaaWChainSize
set_option linter.unusedSimpArgs false
set_option linter.unusedVariables false
namespace Go.Proofs.Ytiglacjigkcgkaa
open Go.ChangeShapes Go.WideShapes Go.ChangeAt Go.RowKit Go.Deep

def chainT : TN → TypeId
  | .int => 3
  | .term => 24
  | .binding => 92
  | .link => 87
  | .chain => 41
  | _ => 0
def chainR : TN → Prop
  | .int | .term | .binding | .link | .chain => True
  | _ => False
theorem ty_int : TyOk Try.prog chainT chainR 3 [.int] := .int Try.underlying3
theorem ty_str : TyOk Try.prog chainT chainR 9 [.str] := .str Try.underlying9
theorem ty_ints : TyOk Try.prog chainT chainR 25 [.sl .int] := .sl (tn := .int) Try.underlying25 (by kernel_rfl) trivial
theorem ty_terms : TyOk Try.prog chainT chainR 22 [.sl .term] := .sl (tn := .term) Try.underlying22 (by kernel_rfl) trivial
theorem ty_bindings : TyOk Try.prog chainT chainR 50 [.sl .binding] := .sl (tn := .binding) Try.underlying50 (by kernel_rfl) trivial
theorem ty_links : TyOk Try.prog chainT chainR 39 [.sl .link] := .sl (tn := .link) Try.underlying39 (by kernel_rfl) trivial
theorem ty_chains : TyOk Try.prog chainT chainR 85 [.sl .chain] := .sl (tn := .chain) Try.underlying85 (by kernel_rfl) trivial
theorem ty_term : TyOk Try.prog chainT chainR 24 (fieldsOf .term) :=
  TyOk.st_of [[.int], [.str], [.int], [.sl .term]] Try.underlying24 (by kernel_rfl) (by kernel_rfl) ⟨ty_int, ty_str, ty_int, ty_terms, trivial⟩
theorem ty_binding : TyOk Try.prog chainT chainR 92 (fieldsOf .binding) :=
  TyOk.st_of [termF, termF] Try.underlying92 (by kernel_rfl) (by kernel_rfl) ⟨ty_term, ty_term, trivial⟩
theorem ty_occ : TyOk Try.prog chainT chainR 52 (fieldsOf .occ) :=
  TyOk.st_of [[.sl .int], [.sl .term], [.sl .term], [.sl .binding]] Try.underlying52 (by kernel_rfl) (by kernel_rfl) ⟨ty_ints, ty_terms, ty_terms, ty_bindings, trivial⟩
theorem ty_link : TyOk Try.prog chainT chainR 87 (fieldsOf .link) :=
  TyOk.st_of [[.int], occF, [.sl .chain]] Try.underlying87 (by kernel_rfl) (by kernel_rfl) ⟨ty_int, ty_occ, ty_chains, trivial⟩
theorem ty_chain : TyOk Try.prog chainT chainR 41 (fieldsOf .chain) :=
  TyOk.st_of [termF, termF, [.sl .link]] Try.underlying41 (by kernel_rfl) (by kernel_rfl) ⟨ty_term, ty_term, ty_links, trivial⟩
theorem chainTR : ∀ tn, chainR tn → TyOk Try.prog chainT chainR (chainT tn) (fieldsOf tn)
  | .int, _ => ty_int
  | .term, _ => ty_term
  | .binding, _ => ty_binding
  | .link, _ => ty_link
  | .chain, _ => ty_chain
  | .str, h | .ints, h | .sub, h | .decl, h | .op, h | .bindings, h | .occ, h | .cond, h | .eqn, h | .step, h | .weight, h => h.elim

set_option maxRecDepth 100000 in
theorem chainSize_lifted (os : Os) (started : os.Started) (H : Type) (enc : TypeId × Value → H) :
    ReturnsInHanded {} Try.checked os 4 .any (Rows.fnExactChainSizeSpec.pre6 enc Try.prog Try.f4 Rows.fnExactChainSizeRow.domain false) (Rows.fnExactChainSizeSpec.post enc Try.prog Try.f4 false true false false) := by
  refine returnsInHanded_of_change (C := Try.checked) own started (by kernel_rfl) Try.func4
    (ChangeSpec.witness6 (enc := enc) (C := Try.checked) false ⟨#[], #[.agg #[.int .i64 0, .string .empty, .int .i64 0, .slice none 0 0, .int .i64 0, .string .empty, .int .i64 0, .slice none 0 0, .slice none 0 0]], []⟩ 8 (by kernel_rfl) (by kernel_rfl) (by kernel_rfl) (by kernel_rfl)) ?_
  intro W base args ds gs before hval0 hW _ _
  have hval : ∀ (j : Nat) t v, Try.f4.params[j]? = some t → args[j]? = some v → Value.okWide Try.prog W .any base t v := hval0
  have hW' := hW
  obtain ⟨p, q, hA0, hV, rfl, _, _⟩ := hW
  have hA : DataW.TrodAll enc Try.prog W 0 (fun _ => true) true Try.f4.params.toList args.toList ds p := hA0
  rw [Try.params4] at hA hval
  obtain ⟨v0, d0, rfl, rfl, h0⟩ := trodAll_one hA
  obtain ⟨rfl, rfl⟩ := trodVars_none hV
  obtain ⟨cs0, rfl, _⟩ := okWide_struct Try.underlying41 (hval 0 41 v0 rfl rfl)
  obtain ⟨fuel, hf⟩ := h0
  obtain ⟨row, hok, hrep⟩ := open_row chainTR fuel _ _ _ _ ty_chain hf
  have e0 : (Value.agg cs0).cells.toList.toArray = cs0 := by simp [Value.cells]
  have hlaw := lawChainSize row _ _ W hok hrep
  rw [e0] at hlaw
  refine hlaw.mono fun e W' ⟨he, hb⟩ => ?_
  subst he
  exact ⟨_, rfl, law_post laidOut rfl rfl Try.underlying4 (by rw [Try.params4]; decide +kernel) hW' rfl hb⟩

theorem chainSize_holds : Rows.FnExactChainSizeSaid :=
  OpenClaim.holds_of_wide 4 Try.f4 rfl rfl rfl rfl rfl rfl rfl ⟨rfl, rfl, rfl, rfl, rfl⟩ rfl rfl rfl rfl rfl (by kernel_rfl) Try.func4 (by kernel_rfl)
    (of_decide_eq_true (by kernel_rfl)) (by unfold Func.isWrapper; rw [if_neg (of_decide_eq_false (by kernel_rfl))]; exact ⟨rfl, rfl⟩)
    (fun os started H enc _ => chainSize_lifted os started H enc)
#print axioms chainSize_holds
end Go.Proofs.Ytiglacjigkcgkaa
