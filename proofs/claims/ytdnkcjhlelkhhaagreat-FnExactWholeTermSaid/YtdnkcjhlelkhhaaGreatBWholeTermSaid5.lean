/-
  FnExactWholeTerm returns true for every module and reducer, and turns nothing: proved without conditions.
-/
import Derived.Test.YtdnkcjhlelkhhaaGreatBWholeTermSaid4
set_option linter.unusedSimpArgs false
set_option linter.unusedVariables false
set_option maxHeartbeats 400000000
set_option maxRecDepth 100000
namespace Go.Proofs.YtdnkcjhlelkhhaaGreat
open Go.ChangeShapes Go.WideShapes Go.ChangeAt Go.RowKit Go.Deep
theorem Zg5 (os:Os) (started:os.Started) (H:Type) (enc:TypeId × Value->H) :
  ReturnsInHanded {} Tryz.checked os 3 .any (Rows.fnExactWholeTermSpec.pre6 enc Tryz.prog Tryz.f3 Rows.fnExactWholeTermRow.domain false) (Rows.fnExactWholeTermSpec.post enc Tryz.prog Tryz.f3 false true false false):=by
 refine returnsInHanded_of_change (C:=Tryz.checked) own started (by kernel_rfl) Tryz.func3
  (ChangeSpec.witness6 (enc:=enc) (C:=Tryz.checked) false ⟨#[],#[.agg #[.slice none 0 0,.slice none 0 0,.slice none 0 0,.slice none 0 0,.slice none 0 0],.agg #[.int .i64 0,.string .empty,.int .i64 0,.slice none 0 0,.slice none 0 0,.bool false,.int .i64 0,.int .i64 0]],[]⟩ 8 (by kernel_rfl) (by kernel_rfl) (by kernel_rfl) (by kernel_rfl)) ?_
 intro W base args ds gs before hval0 hW _ _;have hval:∀ (j:Nat) t v,Tryz.f3.params[j]?=some t->args[j]?=some v->Value.okWide Tryz.prog W .any base t v:=hval0;have hW':=hW;obtain ⟨p,q,hA0,hV,rfl,_,_⟩:=hW;have hA:DataW.TrodAll enc Tryz.prog W 0 (fun _=>true) true Tryz.f3.params.toList args.toList ds p:=hA0;rw [Tryz.params3] at hA hval;obtain ⟨v0,vs0,d0,ds0,p0,q0,hargs0,hd0,hp0,h0,r0⟩:=trodAll_cons hA
 obtain ⟨v1,vs1,d1,ds1,p1,q1,hargs1,hd1,hp1,h1,r1⟩:=trodAll_cons r0;obtain ⟨e2,e2d,_⟩:=trodAll_nil r1;rw [e2] at hargs1;rw [hargs1] at hargs0;obtain rfl:args=#[v0,v1]:=by cases args;simp_all
 rw [e2d] at hd1;rw [hd1] at hd0;subst hd0;obtain ⟨rfl,rfl⟩:=trodVars_none hV;obtain ⟨cs0,rfl,_⟩:=okWide_struct Tryz.underlying31 (hval 0 31 v0 rfl rfl);obtain ⟨fuel0,hf0⟩:=h0;obtain ⟨row0,hok0,hrep0⟩:=Zn3 ZtD fuel0 _ _ _ _ ZtC hf0;have e0c:(Value.agg cs0).cells.toList.toArray=cs0:=by simp [Value.cells]
 obtain ⟨cs1,rfl,_⟩:=okWide_struct Tryz.underlying37 (hval 1 37 v1 rfl rfl);obtain ⟨fuel1,hf1⟩:=h1;obtain ⟨row1,hok1,hrep1⟩:=Zn3 ZtD fuel1 _ _ _ _ Zss hf1;have e1c:(Value.agg cs1).cells.toList.toArray=cs1:=by simp [Value.cells]
 have hlaw:=Zju W row0 _ _ hok0 hrep0 row1 _ _ hok1 hrep1;rw [e0c,e1c] at hlaw;refine hlaw.mono fun e W' ⟨he,hb⟩=>?_;subst he;exact ⟨_,rfl,Zxj ZzV rfl rfl Tryz.underlying4 (by rw [Tryz.params3];decide +kernel) hW' rfl hb⟩
theorem Zg6:joinedFacts Tryz.checked.prog 3 Tryz.f3 Rows.fnExactWholeTermSpec Rows.fnExactWholeTermRow=true:=by
 unfold joinedFacts;simp only [Tar]
 and_intros
 all_goals as_aux_lemma=>kernel_rfl
theorem Zho:Tryz.checked.prog.funcNamed Rows.fnExactWholeTermRow.func=some 3:=by kernel_rfl
theorem wholeTerm_holds:Rows.FnExactWholeTermSaid :=
 OpenClaim.holds_of_wide 3 Tryz.f3 rfl rfl rfl rfl rfl rfl rfl ⟨rfl,rfl,rfl,rfl,rfl⟩ rfl rfl rfl rfl rfl Zho Tryz.func3 Zg6
  (of_decide_eq_true (by kernel_rfl)) (by unfold Func.isWrapper;rw [if_neg (of_decide_eq_false (by kernel_rfl))];exact ⟨rfl,rfl⟩)
  (fun os started H enc _=>Zg5 os started H enc)
#print axioms wholeTerm_holds
end Go.Proofs.YtdnkcjhlelkhhaaGreat
