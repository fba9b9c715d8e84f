/-
  FnExactChainTerms returns true for every module and chain, and turns nothing: proved without conditions.
-/
import Derived.Test.YtbecmfjokofihaaGreatDoorBChainTermsCard6
import Derived.Test.YtbecmfjokofihaaGreatDoorTie
import Derived.Test.YtbecmfjokofihaaGreatDoorCards
set_option linter.unusedSimpArgs false
set_option linter.unusedVariables false
set_option maxHeartbeats 400000000
set_option maxRecDepth 100000
namespace Go.Proofs.YtbecmfjokofihaaGreatDoor
open Go.RowKit
section
open Go.ChangeShapes Go.WideShapes Go.ChangeAt Go.Deep
theorem ZiC (os:Os) (j6:os.Started) (H:Type) (enc:TypeId × Value->H) :
  ReturnsInHanded {} Tryz.checked os 3 .any (fun w args=>(Rows.fnExactChainTermsSpec.pre enc Tryz.prog Tryz.f3 Rows.fnExactChainTermsRow.domain false w args∧laidMetH Tryz.prog Zh4 w)∧sizedMet enc Tryz.prog Tryz.f3 (OpenSpec.ofChange Rows.fnExactChainTermsSpec) false w args) (Rows.fnExactChainTermsSpec.post enc Tryz.prog Tryz.f3 false true false false):=by
 refine ZsC (C:=Tryz.checked) (X:=fun w _=>laidMetH Tryz.prog Zh4 w) (fun _ _ _ hh h=>h.of_heap hh) own j6 (by kernel_rfl) Tryz.func3
  (ChangeSpec.witness_shaped (enc:=enc) (C:=Tryz.checked) (os:=os) (X:=fun w _=>laidMetH Tryz.prog Zh4 w) false (World.doorLaid Tryz.prog 24 os) #[.agg #[.slice none 0 0,.slice none 0 0,.slice none 0 0,.slice none 0 0,.slice none 0 0],.agg #[.int .i64 0,.string .empty,.int .i64 0,.slice none 0 0,.int .i64 0,.string .empty,.int .i64 0,.slice none 0 0,.slice none 0 0]] 8 rfl (World.shaped_of_RefB (by kernel_rfl) (by kernel_rfl)) (by kernel_rfl) (by kernel_rfl) (by kernel_rfl) (ZDw os _)) ?_
 intro W base args ds gs jm hval0 hW _ _ hL hS _;have hT:=ZDx hL hS;have mA:∀ (j:Nat) t v,Tryz.f3.params[j]?=some t->args[j]?=some v->Value.okWide Tryz.prog W .any base t v:=hval0;have hW':=hW;obtain ⟨p,q,A9,hV,rfl,_,_⟩:=hW;have hA:DataW.TrodAll enc Tryz.prog W 0 (fun _=>true) true Tryz.f3.params.toList args.toList ds p:=A9;rw [Tryz.params3] at hA mA;obtain ⟨v0,vs0,d0,ds0,p0,q0,Bn,r9,mY,h0,r0⟩:=trodAll_cons hA
 obtain ⟨v1,vs1,d1,ds1,p1,q1,u9,tW,sT,h1,r1⟩:=trodAll_cons r0;obtain ⟨e2,e2d,_⟩:=trodAll_nil r1;rw [e2] at u9;rw [u9] at Bn;obtain rfl:args=#[v0,v1]:=by cases args;simp_all
 rw [e2d] at tW;rw [tW] at r9;subst r9;obtain ⟨rfl,rfl⟩:=trodVars_none hV;obtain ⟨cs0,rfl,_⟩:=okWide_struct Tryz.underlying31 (mA 0 31 v0 rfl rfl);obtain ⟨fuel0,mL⟩:=h0;obtain ⟨dq,jV,hrep0⟩:=Zr1 ZyY fuel0 _ _ _ _ ZyX mL;have e0c:(Value.agg cs0).cells.toList.toArray=cs0:=by simp [Value.cells]
 obtain ⟨cs1,rfl,_⟩:=okWide_struct Tryz.underlying37 (mA 1 37 v1 rfl rfl);obtain ⟨fuel1,tX⟩:=h1;obtain ⟨dw,jW,hrep1⟩:=Zr1 ZyY fuel1 _ _ _ _ Zr7 tX;have e1c:(Value.agg cs1).cells.toList.toArray=cs1:=by simp [Value.cells]
 have hlaw:=ZlQ W hT dq _ _ jV hrep0 dw _ _ jW hrep1;rw [e0c,e1c] at hlaw;refine hlaw.mono fun e W' ⟨he,hb⟩=>?_;subst he;exact ⟨_,rfl,ZCZ ZF4 rfl rfl Tryz.underlying4 (by rw [Tryz.params3];decide +kernel) hW' rfl hb⟩
theorem ZnH:Rows.FnExactChainTermsSaid :=
 OpenClaim.holds_of_wide 3 Tryz.f3 rfl rfl rfl rfl rfl rfl rfl ⟨rfl,rfl,rfl,rfl,rfl⟩ rfl rfl rfl rfl rfl Zf2 Tryz.func3 ZiB
  (of_decide_eq_true (by kernel_rfl)) (by unfold Func.isWrapper;rw [if_neg (of_decide_eq_false (by kernel_rfl))];exact ⟨rfl,rfl⟩)
  (fun os j6 H enc _=>ZiC os j6 H enc)
theorem goNo {P:Program} {c:OpenClaim} (h:P.funcs.any Func.goes=false) (hs:c.start=.entering):false=c.goesBy P:=by
 have h2:∀ f,P.goes f=false:=fun f=>by
  simp only [Program.goes,h,Bool.and_false,Bool.or_false,List.any_eq_false];intro g _
  cases e:P.funcs[g]? with
  | none=>simp
  | some fn=>simpa using Array.any_eq_false'.1 h fn (Array.mem_of_getElem? e)
 simp only [OpenClaim.goesBy,Program.goesAt,Program.goesFrom,hs]
 cases P.funcNamed c.func <;> simp [h2]
theorem chainTerms_holds_card:Rows.FnExactChainTermsCardSaid :=
 Claim7.holds_tied_plain_at .later [] [.data,.data,.data] true _ false ZnH (fun _ h=>by cases h) (by kernel_rfl) (fun _ h=>by cases h) fnExactChainTerms_row_tie rfl ⟨rfl,rfl⟩ (by kernel_rfl) rfl
  (fun f fn hf yl=>by
   obtain rfl:f=3:=Option.some.inj (Zf2.symm.trans hf) |>.symm;obtain rfl:fn=Tryz.f3:=(Option.some.inj (Tryz.func3.symm.trans yl)).symm;refine ⟨by kernel_rfl,fun j t ht=>?_⟩;rw [Tryz.params3] at ht;have hm:=Array.mem_of_getElem? ht;have hw:([31,37]:List TypeId).all (fun t=>!Tryz.prog.wantsStandIn t)=true:=by kernel_rfl
   have:=List.all_eq_true.1 hw t (by simpa using hm);have h2:Tryz.prog.wantsStandIn t=false:=by simpa using this
   exact h2)
  (goNo (by kernel_rfl) rfl)
#print axioms chainTerms_holds_card
end
end Go.Proofs.YtbecmfjokofihaaGreatDoor
