/-
  FnExactCheckChain returns true for every module and chain, and turns nothing: proved without conditions.
-/
import Derived.Test.YtcgacanpeaiabaaGreatDoorBCheckChainCard6
import Derived.Test.YtcgacanpeaiabaaGreatDoorTie
import Derived.Test.YtcgacanpeaiabaaGreatDoorCards
set_option linter.unusedSimpArgs false
set_option linter.unusedVariables false
set_option maxHeartbeats 400000000
set_option maxRecDepth 100000
namespace Go.Proofs.YtcgacanpeaiabaaGreatDoor
open Go.ChangeShapes Go.WideShapes Go.ChangeAt Go.RowKit Go.Deep
theorem ZhJ (os:Os) (started:os.Started) (H:Type) (enc:TypeId × Value->H) :
  ReturnsInHanded {} Tryz.checked os 5 .any (fun w args=>(Rows.fnExactCheckChainSpec.pre enc Tryz.prog Tryz.f5 Rows.fnExactCheckChainRow.domain false w args∧laidMetH Tryz.prog Zhe w)∧sizedMet enc Tryz.prog Tryz.f5 (OpenSpec.ofChange Rows.fnExactCheckChainSpec) false w args) (Rows.fnExactCheckChainSpec.post enc Tryz.prog Tryz.f5 false true false false):=by
 refine Zrc (C:=Tryz.checked) (X:=fun w _=>laidMetH Tryz.prog Zhe w) (fun _ _ _ hh h=>h.of_heap hh) own started (by kernel_rfl) Tryz.func5
  (ChangeSpec.witness_shaped (enc:=enc) (C:=Tryz.checked) (os:=os) (X:=fun w _=>laidMetH Tryz.prog Zhe w) false (World.doorLaid Tryz.prog 24 os) #[.agg #[.slice none 0 0,.slice none 0 0,.slice none 0 0,.slice none 0 0,.slice none 0 0],.agg #[.int .i64 0,.string .empty,.int .i64 0,.slice none 0 0,.int .i64 0,.string .empty,.int .i64 0,.slice none 0 0,.slice none 0 0]] 8 rfl (World.shaped_of_RefB (by kernel_rfl) (by kernel_rfl)) (by kernel_rfl) (by kernel_rfl) (by kernel_rfl) (ZBI os _)) ?_
 intro W base args ds gs before hval0 hW _ _ hL hS _;have hT:=ZBJ hL hS;have hval:∀ (j:Nat) t v,Tryz.f5.params[j]?=some t->args[j]?=some v->Value.okWide Tryz.prog W .any base t v:=hval0;have hW':=hW;obtain ⟨p,q,hA0,hV,rfl,_,_⟩:=hW;have hA:DataW.TrodAll enc Tryz.prog W 0 (fun _=>true) true Tryz.f5.params.toList args.toList ds p:=hA0;rw [Tryz.params5] at hA hval;obtain ⟨v0,vs0,d0,ds0,p0,q0,hargs0,hd0,hp0,h0,r0⟩:=trodAll_cons hA
 obtain ⟨v1,vs1,d1,ds1,p1,q1,hargs1,hd1,hp1,h1,r1⟩:=trodAll_cons r0;obtain ⟨e2,e2d,_⟩:=trodAll_nil r1;rw [e2] at hargs1;rw [hargs1] at hargs0;obtain rfl:args=#[v0,v1]:=by cases args;simp_all
 rw [e2d] at hd1;rw [hd1] at hd0;subst hd0;obtain ⟨rfl,rfl⟩:=trodVars_none hV;obtain ⟨cs0,rfl,_⟩:=okWide_struct Tryz.underlying68 (hval 0 68 v0 rfl rfl);obtain ⟨fuel0,hf0⟩:=h0;obtain ⟨row0,hok0,hrep0⟩:=ZqB Zxe fuel0 _ _ _ _ Zxd hf0;have e0c:(Value.agg cs0).cells.toList.toArray=cs0:=by simp [Value.cells]
 obtain ⟨cs1,rfl,_⟩:=okWide_struct Tryz.underlying71 (hval 1 71 v1 rfl rfl);obtain ⟨fuel1,hf1⟩:=h1;obtain ⟨row1,hok1,hrep1⟩:=ZqB Zxe fuel1 _ _ _ _ ZqH hf1;have e1c:(Value.agg cs1).cells.toList.toArray=cs1:=by simp [Value.cells]
 have hlaw:=ZkH W hT row0 _ _ hok0 hrep0 row1 _ _ hok1 hrep1;rw [e0c,e1c] at hlaw;refine hlaw.mono fun e W' ⟨he,hb⟩=>?_;subst he;exact ⟨_,rfl,ZBb ZEb rfl rfl Tryz.underlying4 (by rw [Tryz.params5];decide +kernel) hW' rfl hb⟩
theorem goNo {P:Program} {c:OpenClaim} (h:P.funcs.any Func.goes=false) (hs:c.start=.entering):false=c.goesBy P:=by
 have h2:∀ f,P.goes f=false:=fun f=>by
  simp only [Program.goes,h,Bool.and_false,Bool.or_false,List.any_eq_false];intro g _
  cases e:P.funcs[g]? with
  | none=>simp
  | some fn=>simpa using Array.any_eq_false'.1 h fn (Array.mem_of_getElem? e)
 simp only [OpenClaim.goesBy,Program.goesAt,Program.goesFrom,hs]
 cases P.funcNamed c.func <;> simp [h2]
theorem Zmu:Rows.FnExactCheckChainSaid :=
 OpenClaim.holds_of_wide 5 Tryz.f5 rfl rfl rfl rfl rfl rfl rfl ⟨rfl,rfl,rfl,rfl,rfl⟩ rfl rfl rfl rfl rfl Zfe Tryz.func5 ZhI
  (of_decide_eq_true (by kernel_rfl)) (by unfold Func.isWrapper;rw [if_neg (of_decide_eq_false (by kernel_rfl))];exact ⟨rfl,rfl⟩)
  (fun os started H enc _=>ZhJ os started H enc)
theorem checkChain_holds_card:Rows.FnExactCheckChainCardSaid :=
 Claim7.holds_tied_plain_at .later [] [.data,.data,.data] true _ false Zmu (fun _ h=>by cases h) (by kernel_rfl) (fun _ h=>by cases h) fnExactCheckChain_row_tie rfl ⟨rfl,rfl⟩ (by kernel_rfl) rfl
  (fun f fn hf hfn=>by
   obtain rfl:f=5:=Option.some.inj (Zfe.symm.trans hf) |>.symm;obtain rfl:fn=Tryz.f5:=(Option.some.inj (Tryz.func5.symm.trans hfn)).symm;refine ⟨by kernel_rfl,fun j t ht=>?_⟩;rw [Tryz.params5] at ht;have hm:=Array.mem_of_getElem? ht;have hw:([68,71]:List TypeId).all (fun t=>!Tryz.prog.wantsStandIn t)=true:=by kernel_rfl
   have:=List.all_eq_true.1 hw t (by simpa using hm);have h2:Tryz.prog.wantsStandIn t=false:=by simpa using this
   exact h2)
  (goNo (by kernel_rfl) rfl)
#print axioms checkChain_holds_card
end Go.Proofs.YtcgacanpeaiabaaGreatDoor
