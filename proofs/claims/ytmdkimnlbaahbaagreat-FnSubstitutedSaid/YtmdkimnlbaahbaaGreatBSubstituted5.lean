/-
  FnSubstituted returns true for every list of bytes, and turns nothing: proved without conditions.
-/
import Derived.Test.YtmdkimnlbaahbaaGreatBSubstituted4
import Derived.ChangeSlices
set_option linter.unusedSimpArgs false
set_option linter.unusedVariables false
set_option maxHeartbeats 400000000
set_option maxRecDepth 100000
namespace Go.Proofs.YtmdkimnlbaahbaaGreat
open Go.ChangeShapes Go.WideShapes Go.ChangeAt Go.RowKit Go.Deep
theorem Zsy {H:Type} {enc:TypeId × Value->H} {P:Program} {w:World} {base:Nat} {held:Bool} {t e:TypeId} {fuel:Nat} {v:Value} {x:DataW H × List MemPlace} (ht:P.underlying t=some (.slice e)) (he:P.underlying e=some (.int .u8)) (hc:P.cellsOf e=1) (hv:v.cells.toList=[v])
  (h:DataW.trod enc P w base (fun _=>true) held fuel t v.cells.toList=some x):∃ (a:Option Addr) (n cap:Nat),v=.slice a n cap∧n<=cap∧ZlW w a n:=by
 rw [hv] at h;rcases open_ints ht he hc h with ⟨h1,_⟩ | ⟨a,len,cap,zs,h1,_,hl,_,hz,_,hcell,hwf⟩
 ·injection h1 with h1 _
  exact ⟨none,0,0,h1,Tai _,fun h0=>absurd h0 (by decide)⟩
 ·injection h1 with h1 _
  refine ⟨some a,len,cap,h1,hl,fun h0=>?_⟩;simp only [if_true] at hz;have hform:=ZwA a 0 ⟨_,hcell 0 om⟩ ⟨_,hcell 0 om⟩;have hr:∀ j,0<=zs.getD j 0∧zs.getD j 0 < 256:=fun j=>by
   by_cases hj:j < zs.length
   ·have hm:zs.getD j 0∈zs:=by rw [List.getD_eq_getElem?_getD,Taa hj];exact List.getElem_mem hj
    have:=hwf _ hm;simp only [Lit.wf,Tar,decide_eq_true_eq] at this;have h1:IntKind.min .u8=0:=by decide
    have h2:IntKind.max .u8=255:=by decide
    rw [h1,h2] at this;omega
   ·rw [List.getD_eq_getElem?_getD,List.getElem?_eq_none om];exact ⟨Int.le_refl _,by decide⟩
  refine ⟨a.block,a.off,fun j=>(zs.getD j 0).toNat,congrArg some hform,fun j=>by have:=hr j;show (zs.getD j 0).toNat < 256;omega,fun j hj=>?_⟩;have h2:=hcell j om;rw [Zsz hform] at h2;rw [h2,Int.toNat_of_nonneg (hr j).1]
theorem Zf7 (os:Os) (started:os.Started) (H:Type) (enc:TypeId × Value->H) :
  ReturnsInHanded {} Tryz.checked os 4 .any (Rows.fnSubstitutedSpec.pre6 enc Tryz.prog Tryz.f4 Rows.fnSubstitutedRow.domain false) (Rows.fnSubstitutedSpec.post enc Tryz.prog Tryz.f4 false true false false):=by
 refine returnsInHanded_of_change (C:=Tryz.checked) own started (by kernel_rfl) Tryz.func4
  (ChangeSpec.witness6 (enc:=enc) (C:=Tryz.checked) false ⟨#[],#[.slice none 0 0],[]⟩ 8 (by kernel_rfl) (by kernel_rfl) (by kernel_rfl) (by kernel_rfl)) ?_
 intro W base args ds gs before hval0 hW _ _;have hval:∀ (j:Nat) t v,Tryz.f4.params[j]?=some t->args[j]?=some v->Value.okWide Tryz.prog W .any base t v:=hval0;have hW':=hW;obtain ⟨p,q,hA0,hV,rfl,_,_⟩:=hW;have hA:DataW.TrodAll enc Tryz.prog W 0 (fun _=>true) true Tryz.f4.params.toList args.toList ds p:=hA0;rw [Tryz.params4] at hA hval;obtain ⟨v0,vs0,d0,ds0,p0,q0,hargs0,hd0,hp0,h0,r0⟩:=trodAll_cons hA
 obtain ⟨e1,e1d,_⟩:=trodAll_nil r0;rw [e1] at hargs0;obtain rfl:args=#[v0]:=by cases args;simp_all
 rw [e1d] at hd0;subst hd0;obtain ⟨rfl,rfl⟩:=trodVars_none hV;obtain ⟨fuel0,hf0⟩:=h0;have hone0:=ZrA Tryz.underlying22 (hval 0 22 v0 rfl rfl);obtain ⟨a,n,cap,rfl,hnc,hbt⟩:=Zsy Tryz.underlying22 Tryz.underlying5 (by kernel_rfl) hone0 hf0;refine (Zwz (F:=4) (fun x h1 h2 h3=>Zsx h1 h2 h3) W trivial a n cap hnc hbt).mono fun e W' ⟨he,hb⟩=>?_;subst he;exact ⟨_,rfl,ZwB Zzr rfl rfl Tryz.underlying4 (by rw [Tryz.params4];decide +kernel) hW' rfl hb⟩
theorem substituted_holds:Rows.FnSubstitutedSaid :=
 OpenClaim.holds_of_wide 4 Tryz.f4 rfl rfl rfl rfl rfl rfl rfl ⟨rfl,rfl,rfl,rfl,rfl⟩ rfl rfl rfl rfl rfl (by kernel_rfl) Tryz.func4 (by kernel_rfl)
  (of_decide_eq_true (by kernel_rfl)) (by unfold Func.isWrapper;rw [if_neg (of_decide_eq_false (by kernel_rfl))];exact ⟨rfl,rfl⟩)
  (fun os started H enc _=>Zf7 os started H enc)
#print axioms substituted_holds
end Go.Proofs.YtmdkimnlbaahbaaGreat
