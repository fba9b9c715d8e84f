/-
  FnCompose returns true for every list of bytes, and turns nothing: proved without conditions.
-/
import Derived.Test.YtmdkimnlbaahbaaGreatDoorBComposeCard5
import Derived.Test.YtmdkimnlbaahbaaGreatDoorTie
import Derived.Test.YtmdkimnlbaahbaaGreatDoorCards
import Derived.ChangeSlices
set_option linter.unusedSimpArgs false
set_option linter.unusedVariables false
set_option maxHeartbeats 400000000
set_option maxRecDepth 100000
namespace Go.Proofs.YtmdkimnlbaahbaaGreatDoor
open Go.ChangeShapes Go.WideShapes Go.ChangeAt Go.RowKit Go.Deep
theorem ZtO {H:Type} {enc:TypeId × Value->H} {P:Program} {w:World} {base:Nat} {held:Bool} {t e:TypeId} {fuel:Nat} {v:Value} {x:DataW H × List MemPlace} (ht:P.underlying t=some (.slice e)) (he:P.underlying e=some (.int .u8)) (hc:P.cellsOf e=1) (hv:v.cells.toList=[v])
  (h:DataW.trod enc P w base (fun _=>true) held fuel t v.cells.toList=some x):∃ (a:Option Addr) (n cap:Nat),v=.slice a n cap∧n<=cap∧Zmx w a n:=by
 rw [hv] at h;rcases open_ints ht he hc h with ⟨h1,_⟩ | ⟨a,len,cap,zs,h1,_,hl,_,hz,_,hcell,hwf⟩
 ·injection h1 with h1 _
  exact ⟨none,0,0,h1,Tai _,fun h0=>absurd h0 (by decide)⟩
 ·injection h1 with h1 _
  refine ⟨some a,len,cap,h1,hl,fun h0=>?_⟩;simp only [if_true] at hz;have hform:=Zxz a 0 ⟨_,hcell 0 om⟩ ⟨_,hcell 0 om⟩;have hr:∀ j,0<=zs.getD j 0∧zs.getD j 0 < 256:=fun j=>by
   by_cases hj:j < zs.length
   ·have hm:zs.getD j 0∈zs:=by rw [List.getD_eq_getElem?_getD,Taa hj];exact List.getElem_mem hj
    have:=hwf _ hm;simp only [Lit.wf,Tar,decide_eq_true_eq] at this;have h1:IntKind.min .u8=0:=by decide
    have h2:IntKind.max .u8=255:=by decide
    rw [h1,h2] at this;omega
   ·rw [List.getD_eq_getElem?_getD,List.getElem?_eq_none om];exact ⟨Int.le_refl _,by decide⟩
  refine ⟨a.block,a.off,fun j=>(zs.getD j 0).toNat,congrArg some hform,fun j=>by have:=hr j;show (zs.getD j 0).toNat < 256;omega,fun j hj=>?_⟩;have h2:=hcell j om;rw [ZtP hform] at h2;rw [h2,Int.toNat_of_nonneg (hr j).1]
theorem Zim (os:Os) (started:os.Started) (H:Type) (enc:TypeId × Value->H) :
  ReturnsInHanded {} Tryz.checked os 3 .any (fun w args=>(Rows.fnComposeSpec.pre enc Tryz.prog Tryz.f3 Rows.fnComposeRow.domain false w args∧laidMetH Tryz.prog Zgs w)∧sizedMet enc Tryz.prog Tryz.f3 (OpenSpec.ofChange Rows.fnComposeSpec) false w args) (Rows.fnComposeSpec.post enc Tryz.prog Tryz.f3 false true false false):=by
 refine ZoF (C:=Tryz.checked) (X:=fun w _=>laidMetH Tryz.prog Zgs w) (fun _ _ _ hh h=>h.of_heap hh) own started (by kernel_rfl) Tryz.func3
  (ChangeSpec.witness_shaped (enc:=enc) (C:=Tryz.checked) (os:=os) (X:=fun w _=>laidMetH Tryz.prog Zgs w) false (World.doorLaid Tryz.prog 24 os) #[.slice none 0 0] 8 rfl (World.shaped_of_RefB (by kernel_rfl) (by kernel_rfl)) (by kernel_rfl) (by kernel_rfl) (by kernel_rfl) (Zx1 os _)) ?_
 intro W base args ds gs before hval0 hW _ _ hL hS _;have hT:=Zx2 hL hS;have hval:∀ (j:Nat) t v,Tryz.f3.params[j]?=some t->args[j]?=some v->Value.okWide Tryz.prog W .any base t v:=hval0;have hW':=hW;obtain ⟨p,q,hA0,hV,rfl,_,_⟩:=hW;have hA:DataW.TrodAll enc Tryz.prog W 0 (fun _=>true) true Tryz.f3.params.toList args.toList ds p:=hA0;rw [Tryz.params3] at hA hval;obtain ⟨v0,vs0,d0,ds0,p0,q0,hargs0,hd0,hp0,h0,r0⟩:=trodAll_cons hA
 obtain ⟨e1,e1d,_⟩:=trodAll_nil r0;rw [e1] at hargs0;obtain rfl:args=#[v0]:=by cases args;simp_all
 rw [e1d] at hd0;subst hd0;obtain ⟨rfl,rfl⟩:=trodVars_none hV;obtain ⟨fuel0,hf0⟩:=h0;have hone0:=ZsV Tryz.underlying22 (hval 0 22 v0 rfl rfl);obtain ⟨a,n,cap,rfl,hnc,hbt⟩:=ZtO Tryz.underlying22 Tryz.underlying5 (by kernel_rfl) hone0 hf0;refine (Zxy (F:=3) (fun x h1 h2 h3=>ZqL h1 h2 h3) W hT a n cap hnc hbt).mono fun e W' ⟨he,hb⟩=>?_;subst he;exact ⟨_,rfl,ZxA ZAq rfl rfl Tryz.underlying4 (by rw [Tryz.params3];decide +kernel) hW' rfl hb⟩
theorem Zin:joinedFacts Tryz.checked.prog 3 Tryz.f3 Rows.fnComposeSpec Rows.fnComposeRow=true:=by
 unfold joinedFacts;simp only [Tar]
 and_intros
 all_goals as_aux_lemma=>kernel_rfl
theorem Zfa:Tryz.checked.prog.funcNamed Rows.fnComposeRow.func=some 3:=by kernel_rfl
theorem ZnS:Rows.FnComposeSaid :=
 OpenClaim.holds_of_wide 3 Tryz.f3 rfl rfl rfl rfl rfl rfl rfl ⟨rfl,rfl,rfl,rfl,rfl⟩ rfl rfl rfl rfl rfl Zfa Tryz.func3 Zin
  (of_decide_eq_true (by kernel_rfl)) (by unfold Func.isWrapper;rw [if_neg (of_decide_eq_false (by kernel_rfl))];exact ⟨rfl,rfl⟩)
  (fun os started H enc _=>Zim os started H enc)
theorem compose_holds_card:Rows.FnComposeCardSaid :=
 Claim7.holds_tied_plain_at .later [] [.data,.data,.data] true _ false ZnS (fun _ h=>by cases h) (by kernel_rfl) (fun _ h=>by cases h) fnCompose_row_tie rfl ⟨rfl,rfl⟩ (by kernel_rfl) rfl
  (fun f fn hf hfn=>by
   obtain rfl:f=3:=Option.some.inj (Zfa.symm.trans hf) |>.symm;obtain rfl:fn=Tryz.f3:=(Option.some.inj (Tryz.func3.symm.trans hfn)).symm;refine ⟨by kernel_rfl,fun j t ht=>?_⟩;rw [Tryz.params3] at ht;have hm:=Array.mem_of_getElem? ht;have hw:([22]:List TypeId).all (fun t=>!Tryz.prog.wantsStandIn t)=true:=by kernel_rfl
   have:=List.all_eq_true.1 hw t (by simpa using hm);have h2:Tryz.prog.wantsStandIn t=false:=by simpa using this
   exact h2)
  (by kernel_rfl)
#print axioms compose_holds_card
end Go.Proofs.YtmdkimnlbaahbaaGreatDoor
