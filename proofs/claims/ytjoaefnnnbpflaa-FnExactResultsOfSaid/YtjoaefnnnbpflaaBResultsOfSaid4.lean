/-
  FnExactResultsOf returns true for every list of steps, and turns nothing: proved without conditions.
-/
import Derived.Test.YtjoaefnnnbpflaaBResultsOfSaid3
set_option linter.unusedSimpArgs false
set_option linter.unusedVariables false
set_option maxHeartbeats 400000000
set_option maxRecDepth 100000
namespace Go.Proofs.Ytjoaefnnnbpflaa
open Go.ChangeShapes Go.WideShapes Go.ChangeAt Go.RowKit Go.Deep
theorem ZdJ (os:Os) (started:os.Started) (H:Type) (enc:TypeId × Value->H) :
  ReturnsInHanded {} Try.checked os 4 .any (Rows.fnExactResultsOfSpec.pre6 enc Try.prog Try.f4 Rows.fnExactResultsOfRow.domain false) (Rows.fnExactResultsOfSpec.post enc Try.prog Try.f4 false true false false):=by
 refine returnsInHanded_of_change (C:=Try.checked) own started (by kernel_rfl) Try.func4
  (ChangeSpec.witness6 (enc:=enc) (C:=Try.checked) false ⟨#[],#[.slice none 0 0],[]⟩ 8 (by kernel_rfl) (by kernel_rfl) (by kernel_rfl) (by kernel_rfl)) ?_
 intro W base args ds gs before hval0 hW _ _;have hval:∀ (j:Nat) t v,Try.f4.params[j]?=some t->args[j]?=some v->Value.okWide Try.prog W .any base t v:=hval0;have hW':=hW;obtain ⟨p,q,hA0,hV,rfl,_,_⟩:=hW;have hA:DataW.TrodAll enc Try.prog W 0 (fun _=>true) true Try.f4.params.toList args.toList ds p:=hA0;rw [Try.params4] at hA hval;obtain ⟨v0,vs0,d0,ds0,p0,q0,hargs0,hd0,hp0,h0,r0⟩:=trodAll_cons hA;obtain ⟨e1,e1d,_⟩:=trodAll_nil r0
 rw [e1] at hargs0;obtain rfl:args=#[v0]:=by cases args;simp_all
 rw [e1d] at hd0;subst hd0;obtain ⟨rfl,rfl⟩:=trodVars_none hV;obtain ⟨fuel0,hf0⟩:=h0;have hone0:=ZkI Try.underlying41 (hval 0 41 v0 rfl rfl);rw [hone0] at hf0;obtain ⟨row0,hok0,hrep0⟩:=Zom ZqD fuel0 _ _ _ _ Zlj hf0;obtain ⟨rows0,hok0',hrep0'⟩:=Zqq hok0 hrep0;have hlaw:=Ze4 W rows0 _ _ hok0' hrep0';refine hlaw.mono fun e W' ⟨he,hb⟩=>?_;subst he;exact ⟨_,rfl,Zon Zqn rfl rfl Try.underlying4 (by rw [Try.params4];decide +kernel) hW' rfl hb⟩
theorem ZdK:joinedFacts Try.checked.prog 4 Try.f4 Rows.fnExactResultsOfSpec Rows.fnExactResultsOfRow=true:=by
 unfold joinedFacts;simp only [Taq]
 and_intros
 all_goals as_aux_lemma=>kernel_rfl
theorem ZdV:Try.checked.prog.funcNamed Rows.fnExactResultsOfRow.func=some 4:=by kernel_rfl
theorem resultsOf_holds:Rows.FnExactResultsOfSaid :=
 OpenClaim.holds_of_wide 4 Try.f4 rfl rfl rfl rfl rfl rfl rfl ⟨rfl,rfl,rfl,rfl,rfl⟩ rfl rfl rfl rfl rfl ZdV Try.func4 ZdK
  (of_decide_eq_true (by kernel_rfl)) (by unfold Func.isWrapper;rw [if_neg (of_decide_eq_false (by kernel_rfl))];exact ⟨rfl,rfl⟩)
  (fun os started H enc _=>ZdJ os started H enc)
#print axioms resultsOf_holds
end Go.Proofs.Ytjoaefnnnbpflaa
