/-
  FnExactComposeSubstitutions returns true for every signature and two lists of bindings, and turns nothing: proved without conditions.
-/
import Derived.Test.YtffmjghcpgpfpaaGreatDoorBComposeSubstitutionsCard0
import Derived.Test.YtffmjghcpgpfpaaGreatDoorBComposeSubstitutionsCard1
import Derived.Test.YtffmjghcpgpfpaaGreatDoorBComposeSubstitutionsCard2
import Derived.Test.YtffmjghcpgpfpaaGreatDoorBComposeSubstitutionsCard3
import Derived.Test.YtffmjghcpgpfpaaGreatDoorBComposeSubstitutionsCard4
import Derived.Test.YtffmjghcpgpfpaaGreatDoorBComposeSubstitutionsCard5
import Derived.Test.YtffmjghcpgpfpaaGreatDoorTie
import Derived.Test.YtffmjghcpgpfpaaGreatDoorCards
set_option linter.unusedSimpArgs false
set_option linter.unusedVariables false
set_option maxHeartbeats 400000000
namespace Go.Proofs.YtffmjghcpgpfpaaGreatDoor
open Go.ChangeShapes Go.WideShapes Go.ChangeAt Go.RowKit Go.Deep
set_option maxRecDepth 100000 in
theorem ZeD (os:Os) (started:os.Started) (H:Type) (enc:TypeId × Value->H) :
  ReturnsInHanded {} Tryz.checked os 7 .any (fun w args=>(Rows.fnExactComposeSubstitutionsSpec.pre enc Tryz.prog Tryz.f7 Rows.fnExactComposeSubstitutionsRow.domain false w args∧laidMetH Tryz.prog ZgK w)∧sizedMet enc Tryz.prog Tryz.f7 (OpenSpec.ofChange Rows.fnExactComposeSubstitutionsSpec) false w args) (Rows.fnExactComposeSubstitutionsSpec.post enc Tryz.prog Tryz.f7 false true false false):=by
 refine ZpB (C:=Tryz.checked) (X:=fun w _=>laidMetH Tryz.prog ZgK w) (fun _ _ _ hh h=>h.of_heap hh) own started (by kernel_rfl) Tryz.func7
  (ChangeSpec.witness_shaped (enc:=enc) (C:=Tryz.checked) (os:=os) (X:=fun w _=>laidMetH Tryz.prog ZgK w) false (World.doorLaid Tryz.prog 24 os) #[.agg #[.slice none 0 0,.slice none 0 0,.slice none 0 0],.slice none 0 0,.slice none 0 0] 8 rfl (World.shaped_of_RefB (by kernel_rfl) (by kernel_rfl)) (by kernel_rfl) (by kernel_rfl) (by kernel_rfl) (ZAl os _)) ?_
 intro W base args ds gs before hval0 hW _ _ hL hS _
 have hT:=ZAm hL hS
 have hval:∀ (j:Nat) t v,Tryz.f7.params[j]?=some t->args[j]?=some v->Value.okWide Tryz.prog W .any base t v:=hval0
 have hW':=hW
 obtain ⟨p,q,hA0,hV,rfl,_,_⟩:=hW
 have hA:DataW.TrodAll enc Tryz.prog W 0 (fun _=>true) true Tryz.f7.params.toList args.toList ds p:=hA0
 rw [Tryz.params7] at hA hval
 obtain ⟨v0,vs0,d0,ds0,p0,q0,hargs0,hd0,hp0,h0,r0⟩:=trodAll_cons hA
 obtain ⟨v1,vs1,d1,ds1,p1,q1,hargs1,hd1,hp1,h1,r1⟩:=trodAll_cons r0
 obtain ⟨v2,vs2,d2,ds2,p2,q2,hargs2,hd2,hp2,h2,r2⟩:=trodAll_cons r1
 obtain ⟨e3,e3d,_⟩:=trodAll_nil r2
 rw [e3] at hargs2
 rw [hargs2] at hargs1
 rw [hargs1] at hargs0
 obtain rfl:args=#[v0,v1,v2]:=by cases args;simp_all
 rw [e3d] at hd2
 rw [hd2] at hd1
 rw [hd1] at hd0
 subst hd0
 obtain ⟨rfl,rfl⟩:=trodVars_none hV
 obtain ⟨cs0,rfl,_⟩:=okWide_struct Tryz.underlying28 (hval 0 28 v0 rfl rfl)
 obtain ⟨fuel0,hf0⟩:=h0
 obtain ⟨row0,hok0,hrep0⟩:=ZkI ZoT fuel0 _ _ _ _ ZoR hf0
 have e0c:(Value.agg cs0).cells.toList.toArray=cs0:=by simp [Value.cells]
 obtain ⟨fuel1,hf1⟩:=h1
 have hone1:=ZlH Tryz.underlying52 (hval 1 52 v1 rfl rfl)
 rw [hone1] at hf1
 obtain ⟨row1,hok1,hrep1⟩:=ZkI ZoT fuel1 _ _ _ _ ZiP hf1
 obtain ⟨rows1,hok1',hrep1'⟩:=ZtE hok1 hrep1
 obtain ⟨fuel2,hf2⟩:=h2
 have hone2:=ZlH Tryz.underlying52 (hval 2 52 v2 rfl rfl)
 rw [hone2] at hf2
 obtain ⟨row2,hok2,hrep2⟩:=ZkI ZoT fuel2 _ _ _ _ ZiP hf2
 obtain ⟨rows2,hok2',hrep2'⟩:=ZtE hok2 hrep2
 have hlaw:=Zfy W hT row0 _ _ hok0 hrep0 rows1 _ _ hok1' hrep1' rows2 _ _ hok2' hrep2'
 rw [e0c] at hlaw
 refine hlaw.mono fun e W' ⟨he,hb⟩=>?_
 subst he
 exact ⟨_,rfl,ZzG ZEd rfl rfl Tryz.underlying4 (by rw [Tryz.params7];decide +kernel) hW' rfl hb⟩
set_option maxRecDepth 100000 in
theorem ZeE:joinedFacts Tryz.checked.prog 7 Tryz.f7 Rows.fnExactComposeSubstitutionsSpec Rows.fnExactComposeSubstitutionsRow=true:=by
 unfold joinedFacts
 simp only [Bool.and_eq_true]
 and_intros
 all_goals as_aux_lemma=>kernel_rfl
theorem Zc3:Tryz.checked.prog.funcNamed Rows.fnExactComposeSubstitutionsRow.func=some 7:=by kernel_rfl
theorem Zga:Rows.FnExactComposeSubstitutionsSaid :=
 OpenClaim.holds_of_wide 7 Tryz.f7 rfl rfl rfl rfl rfl rfl rfl ⟨rfl,rfl,rfl,rfl,rfl⟩ rfl rfl rfl rfl rfl Zc3 Tryz.func7 ZeE
  (of_decide_eq_true (by kernel_rfl)) (by unfold Func.isWrapper;rw [if_neg (of_decide_eq_false (by kernel_rfl))];exact ⟨rfl,rfl⟩)
  (fun os started H enc _=>ZeD os started H enc)
theorem composeSubstitutions_holds_card:Rows.FnExactComposeSubstitutionsCardSaid :=
 Claim7.holds_tied_plain_at .later [] [.data,.data,.data] true _ false Zga (fun _ h=>by cases h) (by kernel_rfl) (fun _ h=>by cases h) fnExactComposeSubstitutions_row_tie rfl ⟨rfl,rfl⟩ (by kernel_rfl) rfl
  (fun f fn hf hfn=>by
   obtain rfl:f=7:=Option.some.inj (Zc3.symm.trans hf) |>.symm
   obtain rfl:fn=Tryz.f7:=(Option.some.inj (Tryz.func7.symm.trans hfn)).symm
   refine ⟨by kernel_rfl,fun j t ht=>?_⟩
   rw [Tryz.params7] at ht
   have hm:=Array.mem_of_getElem? ht
   have hw:([28,52,52]:List TypeId).all (fun t=>!Tryz.prog.wantsStandIn t)=true:=by kernel_rfl
   have:=List.all_eq_true.1 hw t (by simpa using hm)
   have h2:Tryz.prog.wantsStandIn t=false:=by simpa using this
   exact h2)
  (by kernel_rfl)
#print axioms composeSubstitutions_holds_card
end Go.Proofs.YtffmjghcpgpfpaaGreatDoor
