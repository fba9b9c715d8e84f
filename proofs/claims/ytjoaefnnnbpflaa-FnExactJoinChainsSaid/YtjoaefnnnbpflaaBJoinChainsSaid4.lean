/-
  FnExactJoinChains returns true for every two chains, and turns nothing: proved without conditions.
-/
import Derived.Test.YtjoaefnnnbpflaaBJoinChainsSaid3
set_option linter.unusedSimpArgs false
set_option linter.unusedVariables false
set_option maxHeartbeats 400000000
set_option maxRecDepth 100000
namespace Go.Proofs.Ytjoaefnnnbpflaa
open Go.ChangeShapes Go.WideShapes Go.ChangeAt Go.RowKit Go.Deep
theorem Zed (os:Os) (started:os.Started) (H:Type) (enc:TypeId × Value->H) :
  ReturnsInHanded {} Try.checked os 3 .any (Rows.fnExactJoinChainsSpec.pre6 enc Try.prog Try.f3 Rows.fnExactJoinChainsRow.domain false) (Rows.fnExactJoinChainsSpec.post enc Try.prog Try.f3 false true false false):=by
 refine returnsInHanded_of_change (C:=Try.checked) own started (by kernel_rfl) Try.func3
  (ChangeSpec.witness6 (enc:=enc) (C:=Try.checked) false ⟨#[],#[.agg #[.int .i64 0,.string .empty,.int .i64 0,.slice none 0 0,.int .i64 0,.string .empty,.int .i64 0,.slice none 0 0,.slice none 0 0],.agg #[.int .i64 0,.string .empty,.int .i64 0,.slice none 0 0,.int .i64 0,.string .empty,.int .i64 0,.slice none 0 0,.slice none 0 0]],[]⟩ 8 (by kernel_rfl) (by kernel_rfl) (by kernel_rfl) (by kernel_rfl)) ?_
 intro W base args ds gs before hval0 hW _ _;have hval:∀ (j:Nat) t v,Try.f3.params[j]?=some t->args[j]?=some v->Value.okWide Try.prog W .any base t v:=hval0;have hW':=hW;obtain ⟨p,q,hA0,hV,rfl,_,_⟩:=hW;have hA:DataW.TrodAll enc Try.prog W 0 (fun _=>true) true Try.f3.params.toList args.toList ds p:=hA0;rw [Try.params3] at hA hval;obtain ⟨v0,vs0,d0,ds0,p0,q0,hargs0,hd0,hp0,h0,r0⟩:=trodAll_cons hA;obtain ⟨v1,vs1,d1,ds1,p1,q1,hargs1,hd1,hp1,h1,r1⟩:=trodAll_cons r0
 obtain ⟨e2,e2d,_⟩:=trodAll_nil r1;rw [e2] at hargs1;rw [hargs1] at hargs0;obtain rfl:args=#[v0,v1]:=by cases args;simp_all
 rw [e2d] at hd1;rw [hd1] at hd0;subst hd0;obtain ⟨rfl,rfl⟩:=trodVars_none hV;obtain ⟨cs0,rfl,_⟩:=okWide_struct Try.underlying27 (hval 0 27 v0 rfl rfl);obtain ⟨fuel0,hf0⟩:=h0;obtain ⟨row0,hok0,hrep0⟩:=Ziz Zma fuel0 _ _ _ _ Zgj hf0;have e0c:(Value.agg cs0).cells.toList.toArray=cs0:=by simp [Value.cells]
 obtain ⟨cs1,rfl,_⟩:=okWide_struct Try.underlying27 (hval 1 27 v1 rfl rfl);obtain ⟨fuel1,hf1⟩:=h1;obtain ⟨row1,hok1,hrep1⟩:=Ziz Zma fuel1 _ _ _ _ Zgj hf1;have e1c:(Value.agg cs1).cells.toList.toArray=cs1:=by simp [Value.cells]
 have hlaw:=ZfI W row0 _ _ hok0 hrep0 row1 _ _ hok1 hrep1;rw [e0c,e1c] at hlaw;refine hlaw.mono fun e W' ⟨he,hb⟩=>?_;subst he;exact ⟨_,rfl,Zpc Zro rfl rfl Try.underlying4 (by rw [Try.params3];decide +kernel) hW' rfl hb⟩
theorem Zee:joinedFacts Try.checked.prog 3 Try.f3 Rows.fnExactJoinChainsSpec Rows.fnExactJoinChainsRow=true:=by
 unfold joinedFacts;simp only [Tar]
 and_intros
 all_goals as_aux_lemma=>kernel_rfl
theorem Zew:Try.checked.prog.funcNamed Rows.fnExactJoinChainsRow.func=some 3:=by kernel_rfl
theorem joinChains_holds:Rows.FnExactJoinChainsSaid :=
 OpenClaim.holds_of_wide 3 Try.f3 rfl rfl rfl rfl rfl rfl rfl ⟨rfl,rfl,rfl,rfl,rfl⟩ rfl rfl rfl rfl rfl Zew Try.func3 Zee
  (of_decide_eq_true (by kernel_rfl)) (by unfold Func.isWrapper;rw [if_neg (of_decide_eq_false (by kernel_rfl))];exact ⟨rfl,rfl⟩)
  (fun os started H enc _=>Zed os started H enc)
#print axioms joinChains_holds
end Go.Proofs.Ytjoaefnnnbpflaa
