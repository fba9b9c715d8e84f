/-
  FnExactUnify returns true for every signature and two terms, and turns nothing: proved without conditions.
-/
import Derived.Test.YtaenibhihgfehaaGreatDoorBUnifyCard6
import Derived.Test.YtaenibhihgfehaaGreatDoorTie
import Derived.Test.YtaenibhihgfehaaGreatDoorCards
set_option linter.unusedSimpArgs false
set_option linter.unusedVariables false
set_option linter.defProp false
set_option maxHeartbeats 400000000
set_option maxRecDepth 100000
namespace Go.Proofs.YtaenibhihgfehaaGreatDoor
open Go.RowKit
section
open Go.ChangeShapes Go.WideShapes Go.ChangeAt Go.Deep
def Zma(os:Os)(ld:os.Started)(H:Type)(enc:TypeId×Value->H) :
  ReturnsInHanded {} Tryz.checked os 3 .any (λw args=>(Rows.fnExactUnifySpec.pre enc Tryz.prog Tryz.f3 Rows.fnExactUnifyRow.domain false w args/\laidMetH Tryz.prog Zh9 w)/\sizedMet enc Tryz.prog Tryz.f3 (OpenSpec.ofChange Rows.fnExactUnifySpec) false w args) (Rows.fnExactUnifySpec.post enc Tryz.prog Tryz.f3 false true false false):=by
 refine Zs0 (C:=Tryz.checked) (X:=λw _=>laidMetH Tryz.prog Zh9 w) (λ_ _ _ hh h=>h.of_heap hh) own ld (by kernel_rfl) Tryz.func3
  (ChangeSpec.witness_shaped (enc:=enc) (C:=Tryz.checked) (os:=os) (X:=λw _=>laidMetH Tryz.prog Zh9 w) false (World.doorLaid Tryz.prog 24 os) #[.agg #[.slice none 0 0,.slice none 0 0,.slice none 0 0],.agg #[.int .i64 0,.string .empty,.int .i64 0,.slice none 0 0],.agg #[.int .i64 0,.string .empty,.int .i64 0,.slice none 0 0]] 8 rfl (World.shaped_of_RefB (by kernel_rfl) (by kernel_rfl)) (by kernel_rfl) (by kernel_rfl) (by kernel_rfl) (ZEu os _)) ?_
 intro W base args ds gs j6 hval0 hW _ _ hL hS _;have hT:=ZEv hL hS;have mW:∀(j:Nat)t v,Tryz.f3.params[j]?=some t->args[j]?=some v->Value.okWide Tryz.prog W .any base t v:=hval0;have hW':=hW;obtain⟨p,q,Gb,hV,rfl,_,_⟩:=hW;have hA:DataW.TrodAll enc Tryz.prog W 0 (λ_=>true) true Tryz.f3.params.toList args.toList ds p:=Gb;rw[Tryz.params3]at hA mW;obtain⟨v0,vs0,d0,ds0,p0,q0,Dy,sF,hp0,h0,r0⟩:=trodAll_cons hA
 obtain⟨v1,vs1,d1,ds1,p1,q1,xk,qV,lP,h1,r1⟩:=trodAll_cons r0;obtain⟨v2,vs2,d2,ds2,p2,q2,xl,lH,nA,h2,r2⟩:=trodAll_cons r1;obtain⟨e3,e3d,_⟩:=trodAll_nil r2;rw[e3]at xl;rw[xl]at xk;rw[xk]at Dy;obtain rfl:args=#[v0,v1,v2]:=by cases args;simp_all
 rw[e3d]at lH;rw[lH]at qV;rw[qV]at sF;subst sF;obtain⟨rfl,rfl⟩:=trodVars_none hV;obtain⟨cs0,rfl,_⟩:=okWide_struct Tryz.underlying28 (mW 0 28 v0 rfl rfl);obtain⟨fuel0,oD⟩:=h0;obtain⟨dH,kV,hrep0⟩:=Zno Zsv fuel0 _ _ _ _ Zsu oD;have e0c:(Value.agg cs0).cells.toList.toArray=cs0:=by simp[Value.cells]
 obtain⟨cs1,rfl,_⟩:=okWide_struct Tryz.underlying31 (mW 1 31 v1 rfl rfl);obtain⟨fuel1,wn⟩:=h1;obtain⟨dO,kW,hrep1⟩:=Zno Zsv fuel1 _ _ _ _ ZpF wn;have e1c:(Value.agg cs1).cells.toList.toArray=cs1:=by simp[Value.cells]
 obtain⟨cs2,rfl,_⟩:=okWide_struct Tryz.underlying31 (mW 2 31 v2 rfl rfl);obtain⟨fuel2,BH⟩:=h2;obtain⟨d9,dV,hrep2⟩:=Zno Zsv fuel2 _ _ _ _ ZpF BH;have e2c:(Value.agg cs2).cells.toList.toArray=cs2:=by simp[Value.cells]
 have hlaw:=ZrZ W hT dH _ _ kV hrep0 dO _ _ kW hrep1 d9 _ _ dV hrep2;rw[e0c,e1c,e2c]at hlaw;refine hlaw.mono λe W'⟨he,hb⟩=>?_;subst he;exact⟨_,rfl,ZD2 ZHf rfl rfl Tryz.underlying4 (by rw[Tryz.params3];decide +kernel) hW' rfl hb⟩
def Zmb:joinedFacts Tryz.checked.prog 3 Tryz.f3 Rows.fnExactUnifySpec Rows.fnExactUnifyRow:=by
 unfold joinedFacts;simp only[Tar]
 and_intros
 all_goals as_aux_lemma=>kernel_rfl
def Zhq:Tryz.checked.prog.funcNamed Rows.fnExactUnifyRow.func=some 3:=by kernel_rfl
def ZvV:Rows.FnExactUnifySaid :=
 OpenClaim.holds_of_wide 3 Tryz.f3 rfl rfl rfl rfl rfl rfl rfl ⟨rfl,rfl,rfl,rfl,rfl⟩ rfl rfl rfl rfl rfl Zhq Tryz.func3 Zmb
  (of_decide_eq_true (by kernel_rfl)) (by unfold Func.isWrapper;rw[if_neg (of_decide_eq_false (by kernel_rfl))];exact⟨rfl,rfl⟩)
  (λos ld H enc _=>Zma os ld H enc)
def goNo{P:Program}{c:OpenClaim}(h:P.funcs.any Func.goes=false)(hs:c.start=.entering):false=c.goesBy P:=by
 have h2:∀f,P.goes f=false:=λf=>by
  simp only[Program.goes,h,Bool.and_false,Bool.or_false,List.any_eq_false];intro g _
  cases e:P.funcs[g]? with
  |none=>simp
  |some fn=>simpa using Array.any_eq_false'.1 h fn (Array.mem_of_getElem? e)
 simp only[OpenClaim.goesBy,Program.goesAt,Program.goesFrom,hs]
 cases P.funcNamed c.func<;>simp[h2]
theorem unify_holds_card:Rows.FnExactUnifyCardSaid :=
 Claim7.holds_tied_plain_at .later [] [.data,.data,.data] true _ false ZvV (λ_ h=>by cases h) (by kernel_rfl) (λ_ h=>by cases h) fnExactUnify_row_tie rfl ⟨rfl,rfl⟩ (by kernel_rfl) rfl
  (λf fn hf Ad=>by
   obtain rfl:f=3:=Option.some.inj (Zhq.symm.trans hf) |>.symm;obtain rfl:fn=Tryz.f3:=(Option.some.inj (Tryz.func3.symm.trans Ad)).symm;refine⟨by kernel_rfl,λj t ht=>?_⟩;rw[Tryz.params3]at ht;have hm:=Array.mem_of_getElem? ht;have hw:([28,31,31]:List TypeId).all (λt=>!Tryz.prog.wantsStandIn t):=by kernel_rfl
   have:=List.all_eq_true.1 hw t (by simpa using hm);have h2:Tryz.prog.wantsStandIn t=false:=by simpa using this
   exact h2)
  (goNo (by kernel_rfl) rfl)
#print axioms unify_holds_card
end
end Go.Proofs.YtaenibhihgfehaaGreatDoor
