/-
  FnExactIsSortDecreasing returns true for every module, and turns nothing: proved without conditions.
-/
import Derived.Test.YtffmjghcpgpfpaaGreatDoorBIsSortDecreasingCard0
import Derived.Test.YtffmjghcpgpfpaaGreatDoorBIsSortDecreasingCard1
import Derived.Test.YtffmjghcpgpfpaaGreatDoorBIsSortDecreasingCard2
import Derived.Test.YtffmjghcpgpfpaaGreatDoorBIsSortDecreasingCard3
import Derived.Test.YtffmjghcpgpfpaaGreatDoorBIsSortDecreasingCard4
import Derived.Test.YtffmjghcpgpfpaaGreatDoorBIsSortDecreasingCard5
import Derived.Test.YtffmjghcpgpfpaaGreatDoorTie
import Derived.Test.YtffmjghcpgpfpaaGreatDoorCards
set_option linter.unusedSimpArgs false
set_option linter.unusedVariables false
set_option maxHeartbeats 400000000
set_option maxRecDepth 100000
namespace Go.Proofs.YtffmjghcpgpfpaaGreatDoor
open Go.ChangeShapes Go.WideShapes Go.ChangeAt Go.RowKit Go.Deep
theorem Ze6 (os:Os) (started:os.Started) (H:Type) (enc:TypeId × Value->H) :
  ReturnsInHanded {} Tryz.checked os 8 .any (fun w args=>(Rows.fnExactIsSortDecreasingSpec.pre enc Tryz.prog Tryz.f8 Rows.fnExactIsSortDecreasingRow.domain false w args∧laidMetH Tryz.prog ZgA w)∧sizedMet enc Tryz.prog Tryz.f8 (OpenSpec.ofChange Rows.fnExactIsSortDecreasingSpec) false w args) (Rows.fnExactIsSortDecreasingSpec.post enc Tryz.prog Tryz.f8 false true false false):=by
 refine ZpY (C:=Tryz.checked) (X:=fun w _=>laidMetH Tryz.prog ZgA w) (fun _ _ _ hh h=>h.of_heap hh) own started (by kernel_rfl) Tryz.func8
  (ChangeSpec.witness_shaped (enc:=enc) (C:=Tryz.checked) (os:=os) (X:=fun w _=>laidMetH Tryz.prog ZgA w) false (World.doorLaid Tryz.prog 24 os) #[.agg #[.slice none 0 0,.slice none 0 0,.slice none 0 0,.slice none 0 0,.slice none 0 0]] 8 rfl (World.shaped_of_RefB (by kernel_rfl) (by kernel_rfl)) (by kernel_rfl) (by kernel_rfl) (by kernel_rfl) (ZBP os _)) ?_
 intro W base args ds gs before hval0 hW _ _ hL hS _
 have hT:=ZBQ hL hS
 have hval:∀ (j:Nat) t v,Tryz.f8.params[j]?=some t->args[j]?=some v->Value.okWide Tryz.prog W .any base t v:=hval0
 have hW':=hW
 obtain ⟨p,q,hA0,hV,rfl,_,_⟩:=hW
 have hA:DataW.TrodAll enc Tryz.prog W 0 (fun _=>true) true Tryz.f8.params.toList args.toList ds p:=hA0
 rw [Tryz.params8] at hA hval
 obtain ⟨v0,vs0,d0,ds0,p0,q0,hargs0,hd0,hp0,h0,r0⟩:=trodAll_cons hA
 obtain ⟨e1,e1d,_⟩:=trodAll_nil r0
 rw [e1] at hargs0
 obtain rfl:args=#[v0]:=by cases args;simp_all
 rw [e1d] at hd0
 subst hd0
 obtain ⟨rfl,rfl⟩:=trodVars_none hV
 obtain ⟨cs0,rfl,_⟩:=okWide_struct Tryz.underlying70 (hval 0 70 v0 rfl rfl)
 obtain ⟨fuel0,hf0⟩:=h0
 obtain ⟨row0,hok0,hrep0⟩:=ZA8 ZGR fuel0 _ _ _ _ ZwM hf0
 have e0c:(Value.agg cs0).cells.toList.toArray=cs0:=by simp [Value.cells]
 have hlaw:=ZgZ W hT row0 _ _ hok0 hrep0
 rw [e0c] at hlaw
 refine hlaw.mono fun e W' ⟨he,hb⟩=>?_
 subst he
 exact ⟨_,rfl,ZA9 ZFV rfl rfl Tryz.underlying4 (by rw [Tryz.params8];decide +kernel) hW' rfl hb⟩
theorem Ze7:joinedFacts Tryz.checked.prog 8 Tryz.f8 Rows.fnExactIsSortDecreasingSpec Rows.fnExactIsSortDecreasingRow=true:=by
 unfold joinedFacts
 simp only [Taq]
 and_intros
 all_goals as_aux_lemma=>kernel_rfl
theorem Zdv:Tryz.checked.prog.funcNamed Rows.fnExactIsSortDecreasingRow.func=some 8:=by kernel_rfl
theorem ZhG:Rows.FnExactIsSortDecreasingSaid :=
 OpenClaim.holds_of_wide 8 Tryz.f8 rfl rfl rfl rfl rfl rfl rfl ⟨rfl,rfl,rfl,rfl,rfl⟩ rfl rfl rfl rfl rfl Zdv Tryz.func8 Ze7
  (of_decide_eq_true (by kernel_rfl)) (by unfold Func.isWrapper;rw [if_neg (of_decide_eq_false (by kernel_rfl))];exact ⟨rfl,rfl⟩)
  (fun os started H enc _=>Ze6 os started H enc)
theorem isSortDecreasing_holds_card:Rows.FnExactIsSortDecreasingCardSaid :=
 Claim7.holds_tied_plain_at .later [] [.data,.data,.data] true _ false ZhG (fun _ h=>by cases h) (by kernel_rfl) (fun _ h=>by cases h) fnExactIsSortDecreasing_row_tie rfl ⟨rfl,rfl⟩ (by kernel_rfl) rfl
  (fun f fn hf hfn=>by
   obtain rfl:f=8:=Option.some.inj (Zdv.symm.trans hf) |>.symm
   obtain rfl:fn=Tryz.f8:=(Option.some.inj (Tryz.func8.symm.trans hfn)).symm
   refine ⟨by kernel_rfl,fun j t ht=>?_⟩
   rw [Tryz.params8] at ht
   have hm:=Array.mem_of_getElem? ht
   have hw:([70]:List TypeId).all (fun t=>!Tryz.prog.wantsStandIn t)=true:=by kernel_rfl
   have:=List.all_eq_true.1 hw t (by simpa using hm)
   have h2:Tryz.prog.wantsStandIn t=false:=by simpa using this
   exact h2)
  (by kernel_rfl)
#print axioms isSortDecreasing_holds_card
end Go.Proofs.YtffmjghcpgpfpaaGreatDoor
