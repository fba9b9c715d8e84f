/-
  FnExactReferenceMatches returns true for every signature and two terms, and turns nothing: proved without conditions.
-/
import Derived.Test.YtkigoajepohkaaaGreatDoorBReferenceMatchesCardSaid5
import Derived.Test.YtkigoajepohkaaaGreatDoorTie
import Derived.Test.YtkigoajepohkaaaGreatDoorCards
set_option linter.unusedSimpArgs false
set_option linter.unusedVariables false
set_option maxHeartbeats 400000000
set_option maxRecDepth 100000
namespace Go.Proofs.YtkigoajepohkaaaGreatDoor
open Go.ChangeShapes Go.WideShapes Go.ChangeAt Go.RowKit Go.Deep
theorem Zfz (os:Os) (started:os.Started) (H:Type) (enc:TypeId × Value->H) :
  ReturnsInHanded {} Tryz.checked os 3 .any (fun w args=>(Rows.fnExactReferenceMatchesSpec.pre enc Tryz.prog Tryz.f3 Rows.fnExactReferenceMatchesRow.domain false w args∧laidMetH Tryz.prog Zg5 w)∧sizedMet enc Tryz.prog Tryz.f3 (OpenSpec.ofChange Rows.fnExactReferenceMatchesSpec) false w args) (Rows.fnExactReferenceMatchesSpec.post enc Tryz.prog Tryz.f3 false true false false):=by
 refine ZqE (C:=Tryz.checked) (X:=fun w _=>laidMetH Tryz.prog Zg5 w) (fun _ _ _ hh h=>h.of_heap hh) own started (by kernel_rfl) Tryz.func3
  (ChangeSpec.witness_shaped (enc:=enc) (C:=Tryz.checked) (os:=os) (X:=fun w _=>laidMetH Tryz.prog Zg5 w) false (World.doorLaid Tryz.prog 24 os) #[.agg #[.slice none 0 0,.slice none 0 0,.slice none 0 0],.agg #[.int .i64 0,.string .empty,.int .i64 0,.slice none 0 0],.agg #[.int .i64 0,.string .empty,.int .i64 0,.slice none 0 0]] 8 rfl (World.shaped_of_RefB (by kernel_rfl) (by kernel_rfl)) (by kernel_rfl) (by kernel_rfl) (by kernel_rfl) (ZBx os _)) ?_
 intro W base args ds gs before hval0 hW _ _ hL hS _;have hT:=ZBy hL hS;have hval:∀ (j:Nat) t v,Tryz.f3.params[j]?=some t->args[j]?=some v->Value.okWide Tryz.prog W .any base t v:=hval0;have hW':=hW;obtain ⟨p,q,hA0,hV,rfl,_,_⟩:=hW;have hA:DataW.TrodAll enc Tryz.prog W 0 (fun _=>true) true Tryz.f3.params.toList args.toList ds p:=hA0;rw [Tryz.params3] at hA hval;obtain ⟨v0,vs0,d0,ds0,p0,q0,hargs0,hd0,hp0,h0,r0⟩:=trodAll_cons hA
 obtain ⟨v1,vs1,d1,ds1,p1,q1,hargs1,hd1,hp1,h1,r1⟩:=trodAll_cons r0;obtain ⟨v2,vs2,d2,ds2,p2,q2,hargs2,hd2,hp2,h2,r2⟩:=trodAll_cons r1;obtain ⟨e3,e3d,_⟩:=trodAll_nil r2;rw [e3] at hargs2;rw [hargs2] at hargs1;rw [hargs1] at hargs0;obtain rfl:args=#[v0,v1,v2]:=by cases args;simp_all
 rw [e3d] at hd2;rw [hd2] at hd1;rw [hd1] at hd0;subst hd0;obtain ⟨rfl,rfl⟩:=trodVars_none hV;obtain ⟨cs0,rfl,_⟩:=okWide_struct Tryz.underlying28 (hval 0 28 v0 rfl rfl);obtain ⟨fuel0,hf0⟩:=h0;obtain ⟨row0,hok0,hrep0⟩:=ZlH Zp8 fuel0 _ _ _ _ Zp7 hf0;have e0c:(Value.agg cs0).cells.toList.toArray=cs0:=by simp [Value.cells]
 obtain ⟨cs1,rfl,_⟩:=okWide_struct Tryz.underlying31 (hval 1 31 v1 rfl rfl);obtain ⟨fuel1,hf1⟩:=h1;obtain ⟨row1,hok1,hrep1⟩:=ZlH Zp8 fuel1 _ _ _ _ ZnI hf1;have e1c:(Value.agg cs1).cells.toList.toArray=cs1:=by simp [Value.cells]
 obtain ⟨cs2,rfl,_⟩:=okWide_struct Tryz.underlying31 (hval 2 31 v2 rfl rfl);obtain ⟨fuel2,hf2⟩:=h2;obtain ⟨row2,hok2,hrep2⟩:=ZlH Zp8 fuel2 _ _ _ _ ZnI hf2;have e2c:(Value.agg cs2).cells.toList.toArray=cs2:=by simp [Value.cells]
 have hlaw:=Zhv W hT row0 _ _ hok0 hrep0 row1 _ _ hok1 hrep1 row2 _ _ hok2 hrep2;rw [e0c,e1c,e2c] at hlaw;refine hlaw.mono fun e W' ⟨he,hb⟩=>?_;subst he;exact ⟨_,rfl,ZA3 ZEd rfl rfl Tryz.underlying4 (by rw [Tryz.params3];decide +kernel) hW' rfl hb⟩
theorem ZfA:joinedFacts Tryz.checked.prog 3 Tryz.f3 Rows.fnExactReferenceMatchesSpec Rows.fnExactReferenceMatchesRow=true:=by
 unfold joinedFacts;simp only [Tar]
 and_intros
 all_goals as_aux_lemma=>kernel_rfl
theorem Zd1:Tryz.checked.prog.funcNamed Rows.fnExactReferenceMatchesRow.func=some 3:=by kernel_rfl
theorem Zh3:Rows.FnExactReferenceMatchesSaid :=
 OpenClaim.holds_of_wide 3 Tryz.f3 rfl rfl rfl rfl rfl rfl rfl ⟨rfl,rfl,rfl,rfl,rfl⟩ rfl rfl rfl rfl rfl Zd1 Tryz.func3 ZfA
  (of_decide_eq_true (by kernel_rfl)) (by unfold Func.isWrapper;rw [if_neg (of_decide_eq_false (by kernel_rfl))];exact ⟨rfl,rfl⟩)
  (fun os started H enc _=>Zfz os started H enc)
theorem goNo {P:Program} {c:OpenClaim} (h:P.funcs.any Func.goes=false) (hs:c.start=.entering):false=c.goesBy P:=by
 have h2:∀ f,P.goes f=false:=fun f=>by
  simp only [Program.goes,h,Bool.and_false,Bool.or_false,List.any_eq_false];intro g _
  cases e:P.funcs[g]? with
  | none=>simp
  | some fn=>simpa using Array.any_eq_false'.1 h fn (Array.mem_of_getElem? e)
 simp only [OpenClaim.goesBy,Program.goesAt,Program.goesFrom,hs]
 cases P.funcNamed c.func <;> simp [h2]
theorem referenceMatches_holds_card:Rows.FnExactReferenceMatchesCardSaid :=
 Claim7.holds_tied_plain_at .later [] [.data,.data,.data] true _ false Zh3 (fun _ h=>by cases h) (by kernel_rfl) (fun _ h=>by cases h) fnExactReferenceMatches_row_tie rfl ⟨rfl,rfl⟩ (by kernel_rfl) rfl
  (fun f fn hf hfn=>by
   obtain rfl:f=3:=Option.some.inj (Zd1.symm.trans hf) |>.symm;obtain rfl:fn=Tryz.f3:=(Option.some.inj (Tryz.func3.symm.trans hfn)).symm;refine ⟨by kernel_rfl,fun j t ht=>?_⟩;rw [Tryz.params3] at ht;have hm:=Array.mem_of_getElem? ht;have hw:([28,31,31]:List TypeId).all (fun t=>!Tryz.prog.wantsStandIn t)=true:=by kernel_rfl
   have:=List.all_eq_true.1 hw t (by simpa using hm);have h2:Tryz.prog.wantsStandIn t=false:=by simpa using this
   exact h2)
  (goNo (by kernel_rfl) rfl)
#print axioms referenceMatches_holds_card
end Go.Proofs.YtkigoajepohkaaaGreatDoor
