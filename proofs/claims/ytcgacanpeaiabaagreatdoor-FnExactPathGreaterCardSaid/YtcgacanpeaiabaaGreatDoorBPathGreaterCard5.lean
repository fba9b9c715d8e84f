/-
  FnExactPathGreater returns true for every signature, list of numbers and two terms, and turns nothing: proved without conditions.
-/
import Derived.Test.YtcgacanpeaiabaaGreatDoorBPathGreaterCard0
import Derived.Test.YtcgacanpeaiabaaGreatDoorBPathGreaterCard1
import Derived.Test.YtcgacanpeaiabaaGreatDoorBPathGreaterCard2
import Derived.Test.YtcgacanpeaiabaaGreatDoorBPathGreaterCard3
import Derived.Test.YtcgacanpeaiabaaGreatDoorBPathGreaterCard4
import Derived.Test.YtcgacanpeaiabaaGreatDoorTie
import Derived.Test.YtcgacanpeaiabaaGreatDoorCards
set_option linter.unusedSimpArgs false
set_option linter.unusedVariables false
set_option maxHeartbeats 400000000
set_option maxRecDepth 100000
namespace Go.Proofs.YtcgacanpeaiabaaGreatDoor
open Go.ChangeShapes Go.WideShapes Go.ChangeAt Go.RowKit Go.Deep
theorem Ze7 (os:Os) (started:os.Started) (H:Type) (enc:TypeId × Value->H) :
  ReturnsInHanded {} Tryz.checked os 3 .any (fun w args=>(Rows.fnExactPathGreaterSpec.pre enc Tryz.prog Tryz.f3 Rows.fnExactPathGreaterRow.domain false w args∧laidMetH Tryz.prog ZeX w)∧sizedMet enc Tryz.prog Tryz.f3 (OpenSpec.ofChange Rows.fnExactPathGreaterSpec) false w args) (Rows.fnExactPathGreaterSpec.post enc Tryz.prog Tryz.f3 false true false false):=by
 refine Zlv (C:=Tryz.checked) (X:=fun w _=>laidMetH Tryz.prog ZeX w) (fun _ _ _ hh h=>h.of_heap hh) own started (by kernel_rfl) Tryz.func3
  (ChangeSpec.witness_shaped (enc:=enc) (C:=Tryz.checked) (os:=os) (X:=fun w _=>laidMetH Tryz.prog ZeX w) false (World.doorLaid Tryz.prog 24 os) #[.agg #[.slice none 0 0,.slice none 0 0,.slice none 0 0],.slice none 0 0,.agg #[.int .i64 0,.string .empty,.int .i64 0,.slice none 0 0],.agg #[.int .i64 0,.string .empty,.int .i64 0,.slice none 0 0]] 8 rfl (World.shaped_of_RefB (by kernel_rfl) (by kernel_rfl)) (by kernel_rfl) (by kernel_rfl) (by kernel_rfl) (Zve os _)) ?_
 intro W base args ds gs before hval0 hW _ _ hL hS _
 have hT:=Zvf hL hS
 have hval:∀ (j:Nat) t v,Tryz.f3.params[j]?=some t->args[j]?=some v->Value.okWide Tryz.prog W .any base t v:=hval0
 have hW':=hW
 obtain ⟨p,q,hA0,hV,rfl,_,_⟩:=hW
 have hA:DataW.TrodAll enc Tryz.prog W 0 (fun _=>true) true Tryz.f3.params.toList args.toList ds p:=hA0
 rw [Tryz.params3] at hA hval
 obtain ⟨v0,vs0,d0,ds0,p0,q0,hargs0,hd0,hp0,h0,r0⟩:=trodAll_cons hA
 obtain ⟨v1,vs1,d1,ds1,p1,q1,hargs1,hd1,hp1,h1,r1⟩:=trodAll_cons r0
 obtain ⟨v2,vs2,d2,ds2,p2,q2,hargs2,hd2,hp2,h2,r2⟩:=trodAll_cons r1
 obtain ⟨v3,vs3,d3,ds3,p3,q3,hargs3,hd3,hp3,h3,r3⟩:=trodAll_cons r2
 obtain ⟨e4,e4d,_⟩:=trodAll_nil r3
 rw [e4] at hargs3
 rw [hargs3] at hargs2
 rw [hargs2] at hargs1
 rw [hargs1] at hargs0
 obtain rfl:args=#[v0,v1,v2,v3]:=by cases args;simp_all
 rw [e4d] at hd3
 rw [hd3] at hd2
 rw [hd2] at hd1
 rw [hd1] at hd0
 subst hd0
 obtain ⟨rfl,rfl⟩:=trodVars_none hV
 obtain ⟨cs0,rfl,_⟩:=okWide_struct Tryz.underlying28 (hval 0 28 v0 rfl rfl)
 obtain ⟨fuel0,hf0⟩:=h0
 obtain ⟨row0,hok0,hrep0⟩:=ZfK Zic fuel0 _ _ _ _ ZkX hf0
 have e0c:(Value.agg cs0).cells.toList.toArray=cs0:=by simp [Value.cells]
 obtain ⟨fuel1,hf1⟩:=h1
 have hone1:=ZpL Tryz.underlying29 (hval 1 29 v1 rfl rfl)
 rw [hone1] at hf1
 obtain ⟨row1,hok1,hrep1⟩:=ZfK Zic fuel1 _ _ _ _ ZfL hf1
 obtain ⟨rows1,hok1',hrep1'⟩:=ZzG hok1 hrep1
 obtain ⟨cs2,rfl,_⟩:=okWide_struct Tryz.underlying32 (hval 2 32 v2 rfl rfl)
 obtain ⟨fuel2,hf2⟩:=h2
 obtain ⟨row2,hok2,hrep2⟩:=ZfK Zic fuel2 _ _ _ _ Zct hf2
 have e2c:(Value.agg cs2).cells.toList.toArray=cs2:=by simp [Value.cells]
 obtain ⟨cs3,rfl,_⟩:=okWide_struct Tryz.underlying32 (hval 3 32 v3 rfl rfl)
 obtain ⟨fuel3,hf3⟩:=h3
 obtain ⟨row3,hok3,hrep3⟩:=ZfK Zic fuel3 _ _ _ _ Zct hf3
 have e3c:(Value.agg cs3).cells.toList.toArray=cs3:=by simp [Value.cells]
 have hlaw:=Zgr W hT row0 _ _ hok0 hrep0 rows1 _ _ hok1' hrep1' row2 _ _ hok2 hrep2 row3 _ _ hok3 hrep3
 rw [e0c,e2c,e3c] at hlaw
 refine hlaw.mono fun e W' ⟨he,hb⟩=>?_
 subst he
 exact ⟨_,rfl,ZuH Zzw rfl rfl Tryz.underlying4 (by rw [Tryz.params3];decide +kernel) hW' rfl hb⟩
theorem Ze8:joinedFacts Tryz.checked.prog 3 Tryz.f3 Rows.fnExactPathGreaterSpec Rows.fnExactPathGreaterRow=true:=by
 unfold joinedFacts
 simp only [Tar]
 and_intros
 all_goals as_aux_lemma=>kernel_rfl
theorem Zde:Tryz.checked.prog.funcNamed Rows.fnExactPathGreaterRow.func=some 3:=by kernel_rfl
theorem Zhr:Rows.FnExactPathGreaterSaid :=
 OpenClaim.holds_of_wide 3 Tryz.f3 rfl rfl rfl rfl rfl rfl rfl ⟨rfl,rfl,rfl,rfl,rfl⟩ rfl rfl rfl rfl rfl Zde Tryz.func3 Ze8
  (of_decide_eq_true (by kernel_rfl)) (by unfold Func.isWrapper;rw [if_neg (of_decide_eq_false (by kernel_rfl))];exact ⟨rfl,rfl⟩)
  (fun os started H enc _=>Ze7 os started H enc)
theorem pathGreater_holds_card:Rows.FnExactPathGreaterCardSaid :=
 Claim7.holds_tied_plain_at .later [] [.data,.data,.data] true _ false Zhr (fun _ h=>by cases h) (by kernel_rfl) (fun _ h=>by cases h) fnExactPathGreater_row_tie rfl ⟨rfl,rfl⟩ (by kernel_rfl) rfl
  (fun f fn hf hfn=>by
   obtain rfl:f=3:=Option.some.inj (Zde.symm.trans hf) |>.symm
   obtain rfl:fn=Tryz.f3:=(Option.some.inj (Tryz.func3.symm.trans hfn)).symm
   refine ⟨by kernel_rfl,fun j t ht=>?_⟩
   rw [Tryz.params3] at ht
   have hm:=Array.mem_of_getElem? ht
   have hw:([28,29,32,32]:List TypeId).all (fun t=>!Tryz.prog.wantsStandIn t)=true:=by kernel_rfl
   have:=List.all_eq_true.1 hw t (by simpa using hm)
   have h2:Tryz.prog.wantsStandIn t=false:=by simpa using this
   exact h2)
  (by kernel_rfl)
#print axioms pathGreater_holds_card
end Go.Proofs.YtcgacanpeaiabaaGreatDoor
