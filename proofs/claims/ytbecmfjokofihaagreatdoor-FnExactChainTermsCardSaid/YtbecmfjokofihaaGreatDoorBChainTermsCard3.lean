/-
  Part of a proof.
-/
import Derived.Test.YtbecmfjokofihaaGreatDoorBChainTermsCard0
import Derived.Test.YtbecmfjokofihaaGreatDoorBChainTermsCard1
import Derived.Test.YtbecmfjokofihaaGreatDoorBChainTermsCard2
import Derived.Lib.AppendStr
import Derived.Laws.BytesString
import Derived.Lib.LazyBuf
import Derived.Test.YtbecmfjokofihaaGreatDoorRows
set_option linter.unusedSimpArgs false
set_option linter.unusedVariables false
set_option maxHeartbeats 400000000
set_option maxRecDepth 100000
namespace Go.Proofs.YtbecmfjokofihaaGreatDoor
open Go.RowKit
variable {j k id b t2 ty ety sz by' N cap B:Nat} {K:St->Prop} {w w':World} {σ:St} {p:String} {ds:List (Option Nat)} {ag:Array Bool} {ops:Array Oper} {g:Sgn} {o:Opr} {op:Int} {m:List (Nat × Bk)}
variable {d:Dcl} {s:List (Nat × A)} {x:Operand} {ed:Array Edge} {ts:List Tm} {t u:Tm} {rows R:List (List C)} {v:Value} {oa:Option (Option Addr × Nat)} {P:Dcl->Prop} {r args:List D} {pm q:List Bk}
variable {f:FuncId} {sets T L:List Nat} {E S:Nat->Prop} {row:List C} {us:List Value} {mc:C}
theorem m239 {X Y:Prop} (b:Y) (h:Bx Y->X:=by
 intro B0
 have au:i < l.length:=by have:=(Tbl.1 gh).1;simpa using this
 refine ⟨?_,oi,gh,fun e he hb=>?_⟩
 ·rw [np (om:i < ag.size)];simpa using h
 exact B0.o au e he hb):X:=h ⟨b⟩
theorem m113 {p:Prop} (h:p:=by
 have:some d∈(c9 i k l).map (·.dst):=Tbi.2 ⟨o,by simpa using ho,i7⟩;rw [Zng] at this;obtain ⟨o',h1,h2⟩:=Tbi.1 this;exact hd o' (by simpa using h1) d h2):p:=h
theorem m40 {p:Prop} (h:p:=by
 rw [mem_ready,mem_ready];simp only [List.getElem?_toArray,Zim];by_cases hj:j=k
 ·subst hj;simp only [if_true,true_implies];constructor
  ·rintro ⟨q1,o,q2,q3⟩
   cases hl:l[j]? with
   | none=>rw [hl] at q2;cases q2
   | some o' =>
    rw [hl] at q2;injection q2 with q2
    subst q2;exact ⟨⟨q1,o',rfl,fun e he hb=>q3 e (by simp [he]) hb⟩,q3 ⟨i,.data⟩ (by simp) rfl⟩
  ·rintro ⟨⟨q1,o,q2,q3⟩,q4⟩;refine ⟨q1,_,by rw [q2];rfl,fun e he hb=>?_⟩;rcases Array.mem_push.1 he with he | he
   ·exact q3 e he hb
   ·subst he;exact q4
 ·simp [hj]):p:=h
def c9 (i:Nat):Nat->List Oper->List Oper
 | _,[]=>[]
 | 0,o::l=>{ o with after:=o.after.push ⟨i,.data⟩ }::l
 | k+1,o::l=>o::c9 i k l
theorem Zim (i:Nat):∀ (k:Nat) (l:List Oper) (j:Nat),(c9 i k l)[j]?=if j=k then l[j]?.map fun o=>{ o with after:=o.after.push ⟨i,.data⟩ } else l[j]?
 | k,[],j=>by simp [c9]
 | 0,o::l,0=>by simp [c9]
 | 0,o::l,j+1=>by simp [c9]
 | k+1,o::l,0=>by simp [c9]
 | k+1,o::l,j+1=>by simp [c9,Zim i k l j]
theorem Zj8 (i:Nat):∀ (k:Nat) (l:List Oper),(c9 i k l).length=l.length
 | k,[]=>by simp [c9]
 | 0,o::l=>by simp [c9]
 | k+1,o::l=>by simp [c9,Zj8 i k l]
theorem Zng (i:Nat):∀ (k:Nat) (l:List Oper),(c9 i k l).map (·.dst)=l.map (·.dst)
 | k,[]=>by simp [c9]
 | 0,o::l=>by simp [c9]
 | k+1,o::l=>by simp [c9,Zng i k l]
section
variable {P:Program} {l:List Oper} {i k:Nat} {oi ok:Oper}
theorem ZiR {Q:Exit->Act->World->Prop} {K:Act->World->Prop} {a:Act}:wpOp P (c9 i k l).toArray Q j K a w ↔ wpOp P l.toArray Q j K a w:=by
 have hb:∀ g:Nat,((c9 i k l)[g]?).bind (fun x=>x.dst)=(l[g]?).bind fun x=>x.dst:=fun g=>by
  rw [Zim];by_cases h:g=k
  ·rw [if_pos h];cases l[g]? <;> rfl
  ·rw [if_neg h]
 have hy:yielded (c9 i k l).toArray a.tmps=yielded l.toArray a.tmps:=by
  funext g;unfold yielded;simp only [List.getElem?_toArray,hb]
 unfold wpOp;rw [hy];simp only [List.getElem?_toArray,Zim];by_cases hjk:j=k
 ·rw [if_pos hjk]
  cases hj:l[j]? with
  | none=>exact Iff.rfl
  | some o=>exact Iff.rfl
 ·rw [if_neg hjk]
def ZB8 (ops:Array Oper) (i:Nat):Bool:=(List.range ops.size).all fun j=>j==i || match ops[i]?,ops[j]? with
 | some oi,some oj=>oi.after.any (fun e=>Region.binds .any e && e.on==j) || (oj.after.any (fun e=>Region.binds .any e && e.on==i) || oi.apart ops oj)
 | _,_=>true
def ZoA (ops:Array Oper) (i k:Nat):Bool:=xT ops && ZB8 ops i && i != k && match ops[i]?,ops[k]? with
 | some oi,some ok=>(match oi with
  | ⟨some _,.extract _ _,_,_,_,none⟩=>true
  | _=>false) && oi.after.all fun e=>!Region.binds .any e || ok.after.any fun e'=>Region.binds .any e' && e'.on==e.on
 | _,_=>false
theorem Zyb {Q:Exit->Act->World->Prop} (hQ:∀ ex a w,Q ex a w->ex=.normal) (hB:ZoA l.toArray i k=true) :
  ∀ (f:Nat) (ag:Array Bool) (a:Act) (w:World),ag.size=l.length->wpAny P .any (c9 i k l).toArray Q f ag a w->wpAny P .any l.toArray Q f ag a w:=by
 simp only [ZoA,Tar,bne_iff_ne,ne_eq] at hB;obtain ⟨⟨⟨iB,lR⟩,xc⟩,h4⟩:=hB;split at h4;rotate_left
 ·cases h4
 rename_i oi ok gh aj;simp only [Tar] at h4;obtain ⟨h5,h6⟩:=h4;have BP:∀ e∈oi.after,Region.binds .any e=true->∃ e'∈ok.after,Region.binds .any e'=true∧e'.on=e.on:=fun e he hb=>by
  have:=Array.all_eq_true_iff_forall_mem.1 h6 e he;simp only [hb,Bool.not_true,Bool.false_or,Array.any_eq_true',Tar,beq_iff_eq] at this;obtain ⟨e',q1,q2,q3⟩:=this;exact ⟨e',q1,q2,q3⟩
 have kC:∀ (ag:Array Bool) (j:Nat),j∈Region.ready .any (c9 i k l).toArray ag ↔ j∈Region.ready .any l.toArray ag∧(j=k->ag.getD i false=true):=fun ag j=>by
  exact m40
 have kG:∀ (ag:Array Bool),ag.size=l.length->k∈Region.ready .any l.toArray ag->i∈Region.ready .any l.toArray ag∨ag.getD i false=true:=fun ag hs hk=>by
  by_cases h:ag.getD i false=true
  ·exact .inr h
  ·left;rw [mem_ready] at hk ⊢;obtain ⟨_,o,q2,q3⟩:=hk;have:o=ok:=by rw [aj] at q2;injection q2 with q2;exact q2.symm
   subst this;refine m239 fun au e he hb=>?_
   ·obtain ⟨e',r1,r2,r3⟩:=BP e he hb;rw [<- r3];exact q3 e' r1 r2
 have hap':=lR;intro f
 induction f with
 | zero =>
  intro ag a w hs h;refine ⟨?_,h.2⟩;by_cases hk:k∈Region.ready .any l.toArray ag
  ·rcases kG ag hs hk with h1 | h1
   ·have:=(kC ag i).2 ⟨h1,fun e=>absurd e xc⟩;rw [h.1] at this
    cases this
   ·have:=(kC ag k).2 ⟨hk,fun _=>h1⟩;rw [h.1] at this
    cases this
  ·refine List.eq_nil_iff_forall_not_mem.2 fun j hj=>?_;have:=(kC ag j).2 ⟨hj,fun e=>absurd (e ▸ hj) hk⟩;rw [h.1] at this
   cases this
 | succ f ih =>
  intro ag a w hs h;by_cases hi:i∈Region.ready .any l.toArray ag
  ·have h1:=h.2 i ((kC ag i).2 ⟨hi,fun e=>absurd e xc⟩);rw [ZiR] at h1;have d5:∃ v,Yields P l.toArray oi v a∧wpAny P .any (c9 i k l).toArray Q f (ag.setIfInBounds i true) (a.put oi.dst v) w:=by
    unfold wpOp at h1;simp only [gh] at h1;split at h5;rotate_left
    ·cases h5
    rename_i d x n ty lI af;have hw:Region.wanted ⟨some d,.extract x n,ty,lI,af,none⟩ (yielded l.toArray a.tmps)=true:=by simp [Region.wanted]
    rw [if_pos hw] at h1;rcases h1 with h1 | ⟨_,b,w',h1⟩
    rotate_left
    ·have:=hQ _ _ _ h1;cases this
    unfold Oper.wp at h1
    cases hx:a.eval x with
    | tuple vs =>
     cases hv:vs[n]? with
     | some v =>
      have aJ:∀ w',(execOp a.eval ⟨some d,.extract x n,ty,lI,af,none⟩).run P w'=.ok (.value v) w':=fun w'=>by
       simp [execOp,Instr.extract,hx,hv]
      rw [aJ,Oper.upon_value] at h1;exact ⟨v,.inl ⟨hw,aJ⟩,h1⟩
     | none =>
      simp [execOp,Instr.extract,hx,hv,stuck,Oper.upon] at h1
    | _=>simp [execOp,Instr.extract,hx,stuck,Oper.upon] at h1
   obtain ⟨v,hv,h2⟩:=d5;refine wpAny_first (oi:=oi) (v:=v) gh (fun j oj cs b hj fh=>?_) (fun c a w hq=>?_) f ag a w (fun j oj hj bq hl bC=>?_) hi hv (ih _ _ _ (by simpa using hs) h2)
   ·have:=List.all_eq_true.1 iB oj (Tac (by simpa using hj));rw [fh] at this
    cases this
   ·have:=hQ _ _ _ hq;cases this
   ·have BD:=(Tbl.1 hj).1;have:=List.all_eq_true.1 lR j (List.mem_range.2 BD);simp only [gh,hj,Bool.or_eq_true,beq_iff_eq,List.any_eq_true,Array.any_eq_true',Tar] at this;rcases this with h1 | h1 | h1 | h1
    ·exact absurd h1 bq
    ·obtain ⟨ed,h2,h3,h4⟩:=h1;obtain ⟨_,o,q2,q3⟩:=mem_ready.1 hi;rw [gh] at q2;injection q2 with q2
     subst q2;have q4:=q3 ed h2 h3;rw [h4,<- np (by simpa [hs] using BD)] at q4;rw [hl] at q4
     cases q4
    ·obtain ⟨ed,h2,h3,h4⟩:=h1;exact absurd h4 (bC ed h2 h3)
    ·exact h1
  ·refine ⟨fun h0=>h.1 ?_,fun j hj=>?_⟩
   ·refine List.eq_nil_iff_forall_not_mem.2 fun j hj=>?_;have:=((kC ag j).1 hj).1;rw [h0] at this
    cases this
   ·have ka:j∈Region.ready .any (c9 i k l).toArray ag:=(kC ag j).2 ⟨hj,fun e=>by
     subst e;rcases kG ag hs hj with h1 | h1
     ·exact absurd h1 hi
     ·exact h1⟩
    have h1:=h.2 j ka;rw [ZiR] at h1;exact wpOp_mono (fun a w h=>ih _ a w (by simpa using hs) h) h1
end
section
variable {e:Env} {K:St->Prop} {ay:Nat} {Q:PX->St->Prop} {s:List (Nat × A)} {m:List (Nat × Bk)}
theorem ZoB {l:List Oper} {i:Nat} (hB:ZoA l.toArray i k=true) (h:gF e (c9 i k l).toArray K l.length (Array.replicate l.length false) σ):gF e l.toArray K l.length (Array.replicate l.length false) σ:=by
 intro he U w0 S0 nt a w hd hs;refine Zyb (fun ex a w hq=>hq.1) hB _ _ _ _ (by simp) (h he U w0 S0 nt a w (fun o ho d i7=>?_) hs);exact m113
theorem ZuJ {l:List Oper} {p:Nat} (wW:Aw l.toArray p=true) (hB:fI l.toArray (p+1)=true) (hp:al e (l.map (·.dst)) (p+1) l σ K):gF e l.toArray K l.length (Array.replicate l.length false) σ:=by
 intro he U w0 S0 nt a w hd hs;have:=Zh1 (ops:=l.toArray) he wW hB (K:=K) (Q:=QN e U w0 S0 nt K) (fun a w σ' hK iA=>⟨rfl,σ',hK,iA⟩) hd hs (by simpa using hp);simpa using this
theorem A4 {l l':List Oper} (p i k:Nat) (hK:al e ds (p+1) l' ⟨s,m⟩ (nB ay Q)) (hl:c9 i k l=l':=by simp only [c9];exact rfl) (bG:l'.map (·.dst)=ds:=by simp only [Tbu,List.map_nil];exact rfl) (hc:ZoA l.toArray i k=true:=by decide +kernel) (hA:Aw l'.toArray p=true:=by decide +kernel) (hr:fI l'.toArray (p+1)=true:=by decide +kernel):cp e ay (.region id l.toArray true) ⟨s,m⟩ Q:=by
 subst hl bG;have h1:=ZoB hc (by have:=ZuJ hA hr hK;rwa [Zj8] at this);exact ZiP (ops:=l.toArray) (by simpa using h1)
end
def ZFO (ops:Array Oper) (ok:Oper):List Nat:=(ok.after.toList.filter fun e=>Region.binds .any e).flatMap fun e=>e.on::match ops[e.on]? with
 | some o=>(o.after.toList.filter fun e=>Region.binds .any e).map (·.on)
 | none=>[]
def ZrU (ops:Array Oper) (i k:Nat):Bool:=xT ops && ZB8 ops i && i != k && match ops[i]?,ops[k]? with
 | some oi,some ok=>(match oi with
  | ⟨some _,.pick _ _ _,_,_,_,none⟩=>true
  | _=>false) && oi.after.all fun e=>!Region.binds .any e || (ZFO ops ok).contains e.on
 | _,_=>false
section
variable {P:Program} {l:List Oper} {i k:Nat}
def Zjx (l:List Oper) (ag:Array Bool):Prop:=∀ (j:Nat) o,ag.getD j false=true->l[j]?=some o->∀ e∈o.after,Region.binds .any e=true->ag.getD e.on false=true
theorem Zjx.put (hc:Zjx l ag) (hj:j∈Region.ready .any l.toArray ag):Zjx l (ag.setIfInBounds j true):=by
 intro q o hq ho e he hb;obtain ⟨_,o',h2,h3⟩:=mem_ready.1 hj;have zP:∀ t,ag.getD t false=true->(ag.setIfInBounds j true).getD t false=true:=fun t ht=>by
  by_cases htj:t=j
  ·subst htj;simp only [Array.getD_eq_getD_getElem?,Array.getElem?_setIfInBounds] at ht ⊢
   cases hl:ag[t]? with
   | none=>rw [hl] at ht;cases ht
   | some b =>
    have:t < ag.size:=(Tbl.1 hl).1;simp [this]
  ·rw [getD_set_ne false (Ne.symm htj)];exact ht
 by_cases hqj:q=j
 ·subst hqj;have:o'=o:=by
   rw [List.getElem?_toArray,ho] at h2;injection h2 with h2
   exact h2.symm
  subst this;exact zP _ (h3 e he hb)
 ·rw [getD_set_ne false (Ne.symm hqj)] at hq;exact zP _ (hc q o hq ho e he hb)
theorem ZuK {Q:Exit->Act->World->Prop} (hQ:∀ ex a w,Q ex a w->ex=.normal) (hB:ZrU l.toArray i k=true) :
  ∀ (f:Nat) (ag:Array Bool) (a:Act) (w:World),ag.size=l.length->Zjx l ag->wpAny P .any (c9 i k l).toArray Q f ag a w->wpAny P .any l.toArray Q f ag a w:=by
 simp only [ZrU,Tar,bne_iff_ne,ne_eq] at hB;obtain ⟨⟨⟨iB,lR⟩,xc⟩,h4⟩:=hB;split at h4;rotate_left
 ·cases h4
 rename_i oi ok gh aj;simp only [Tar] at h4;obtain ⟨h5,h6⟩:=h4;have kC:∀ (ag:Array Bool) (j:Nat),j∈Region.ready .any (c9 i k l).toArray ag ↔ j∈Region.ready .any l.toArray ag∧(j=k->ag.getD i false=true):=fun ag j=>by
  exact m40
 have kG:∀ (ag:Array Bool),ag.size=l.length->Zjx l ag->k∈Region.ready .any l.toArray ag->i∈Region.ready .any l.toArray ag∨ag.getD i false=true:=fun ag hs ip hk=>by
  by_cases h:ag.getD i false=true
  ·exact .inr h
  ·left;rw [mem_ready] at hk ⊢;obtain ⟨_,o,q2,q3⟩:=hk;have:o=ok:=by rw [aj] at q2;injection q2 with q2;exact q2.symm
   subst this;refine m239 fun au e he hb=>?_
   ·have:=Array.all_eq_true_iff_forall_mem.1 h6 e he;simp only [hb,Bool.not_true,Bool.false_or,List.contains_eq_mem,decide_eq_true_eq,ZFO,List.mem_flatMap,List.mem_filter,Tbg] at this;obtain ⟨e',⟨r1,r2⟩,r3⟩:=this;have gf:=q3 e' (Array.mem_toList_iff.1 r1) r2;rcases r3 with r3 | r3
    ·rw [r3];exact gf
    ·cases bZ:l.toArray[e'.on]? with
     | none=>rw [bZ] at r3;simp at r3
     | some o' =>
      rw [bZ] at r3;simp only [Tbi,List.mem_filter] at r3;obtain ⟨e2,⟨r4,r5⟩,r6⟩:=r3;rw [<- r6];exact ip e'.on o' gf (by simpa using bZ) e2 (Array.mem_toList_iff.1 r4) r5
 intro f
 induction f with
 | zero =>
  intro ag a w hs ip h;refine ⟨?_,h.2⟩;by_cases hk:k∈Region.ready .any l.toArray ag
  ·rcases kG ag hs ip hk with h1 | h1
   ·have:=(kC ag i).2 ⟨h1,fun e=>absurd e xc⟩;rw [h.1] at this
    cases this
   ·have:=(kC ag k).2 ⟨hk,fun _=>h1⟩;rw [h.1] at this
    cases this
  ·refine List.eq_nil_iff_forall_not_mem.2 fun j hj=>?_;have:=(kC ag j).2 ⟨hj,fun e=>absurd (e ▸ hj) hk⟩;rw [h.1] at this
   cases this
 | succ f ih =>
  intro ag a w hs ip h;by_cases hi:i∈Region.ready .any l.toArray ag
  ·have h1:=h.2 i ((kC ag i).2 ⟨hi,fun e=>absurd e xc⟩);rw [ZiR] at h1;have d5:∃ v,Yields P l.toArray oi v a∧wpAny P .any (c9 i k l).toArray Q f (ag.setIfInBounds i true) (a.put oi.dst v) w:=by
    unfold wpOp at h1;simp only [gh] at h1;split at h5;rotate_left
    ·cases h5
    rename_i d x y z ty lI af;have hw:Region.wanted ⟨some d,.pick x y z,ty,lI,af,none⟩ (yielded l.toArray a.tmps)=true:=by simp [Region.wanted]
    rw [if_pos hw] at h1;rcases h1 with h1 | ⟨_,b,w',h1⟩
    rotate_left
    ·have:=hQ _ _ _ h1;cases this
    unfold Oper.wp at h1
    cases hx:a.eval x with
    | bool b =>
     have aJ:∀ w',(execOp a.eval ⟨some d,.pick x y z,ty,lI,af,none⟩).run P w'=.ok (.value (if b then a.eval y else a.eval z)) w':=fun w'=>by
      cases b <;> simp [execOp,hx,asBool]
     rw [aJ,Oper.upon_value] at h1;exact ⟨_,.inl ⟨hw,aJ⟩,h1⟩
    | _=>simp [execOp,hx,asBool,stuck,Oper.upon,Result.andThen] at h1
   obtain ⟨v,hv,h2⟩:=d5;refine wpAny_first (oi:=oi) (v:=v) gh (fun j oj cs b hj fh=>?_) (fun c a w hq=>?_) f ag a w (fun j oj hj bq hl bC=>?_) hi hv (ih _ _ _ (by simpa using hs) (ip.put hi) h2)
   ·have:=List.all_eq_true.1 iB oj (Tac (by simpa using hj));rw [fh] at this
    cases this
   ·have:=hQ _ _ _ hq;cases this
   ·have BD:=(Tbl.1 hj).1;have:=List.all_eq_true.1 lR j (List.mem_range.2 BD);simp only [gh,hj,Bool.or_eq_true,beq_iff_eq,List.any_eq_true,Array.any_eq_true',Tar] at this;rcases this with h1 | h1 | h1 | h1
    ·exact absurd h1 bq
    ·obtain ⟨ed,h2,h3,h4⟩:=h1;obtain ⟨_,o,q2,q3⟩:=mem_ready.1 hi;rw [gh] at q2;injection q2 with q2
     subst q2;have q4:=q3 ed h2 h3;rw [h4,<- np (by simpa [hs] using BD)] at q4;rw [hl] at q4
     cases q4
    ·obtain ⟨ed,h2,h3,h4⟩:=h1;exact absurd h4 (bC ed h2 h3)
    ·exact h1
  ·refine ⟨fun h0=>h.1 ?_,fun j hj=>?_⟩
   ·refine List.eq_nil_iff_forall_not_mem.2 fun j hj=>?_;have:=((kC ag j).1 hj).1;rw [h0] at this
    cases this
   ·have ka:j∈Region.ready .any (c9 i k l).toArray ag:=(kC ag j).2 ⟨hj,fun e=>by
     subst e;rcases kG ag hs ip hj with h1 | h1
     ·exact absurd h1 hi
     ·exact h1⟩
    have h1:=h.2 j ka;rw [ZiR] at h1;exact wpOp_mono (fun a w h=>ih _ a w (by simpa using hs) (ip.put hj) h) h1
end
section
variable {e:Env} {K:St->Prop} {ay:Nat} {Q:PX->St->Prop} {s:List (Nat × A)} {m:List (Nat × Bk)}
theorem ZuL {l:List Oper} {i:Nat} (hB:ZrU l.toArray i k=true) (h:gF e (c9 i k l).toArray K l.length (Array.replicate l.length false) σ):gF e l.toArray K l.length (Array.replicate l.length false) σ:=by
 intro he U w0 S0 nt a w hd hs;refine ZuK (fun ex a w hq=>hq.1) hB _ _ _ _ (by simp) (fun j o hj=>by rw [getD_replicate_false] at hj;cases hj) (h he U w0 S0 nt a w (fun o ho d i7=>?_) hs);exact m113
theorem ZiS (he:e.Ok) {U:Nat->Prop} {w0:World} {S0:Nat->Prop} {nt:Nat} {n:Nat} (hB:fI ops n=true) (yp:∀ o,(ops.toList.take n).getLast?=some o->jb o=false) {Q:Exit->Act->World->Prop} (hQ:∀ a w σ',K σ'->aN e U w0 S0 nt σ' a w->Q .normal a w) {a:Act} 
  (hd:∀ o∈ops.toList,∀ d,o.dst=some d->d < nt) (h:aN e U w0 S0 nt σ a w) (hp:al e (ops.toList.map (·.dst)) n ops.toList σ K):wpAny e.P .any ops Q ops.size (Array.replicate ops.size false) a w:=by
 simp only [fI,Tar,Bool.or_eq_true,decide_eq_true_eq] at hB;obtain ⟨⟨⟨hH,hn⟩,hs⟩,qw⟩:=hB;obtain ⟨S,L,h1⟩:=h;have mz:ops.toList=ops.toList.take n++ops.toList.drop n:=(Tbm n _).symm;have bu:(ops.toList.take n).length=n:=by simp;omega
 have ek:al e (ops.toList.map (·.dst)) ((ops.toList.take n).length+0) (ops.toList.take n++ops.toList.drop n) σ K:=by rw [<- mz,bu];exact hp
 obtain ⟨αs,ca,nN,kZ⟩:=C3 (U:=U) he w0.heap.size S0 ops.toList (ops.toList.drop n) 0 (ops.toList.take n) σ (fun _=>yp) ek;rw [bu] at ca
 have oE:InvA e U w0 S0 nt σ.m ops n σ.s αs L (Array.replicate ops.size false) a w S :=
  ⟨⟨by simp,fun j oj _ hl=>(by rw [getD_replicate_false] at hl;cases hl),fun t _ ht=>getD_in (by simpa using ht) (getD_replicate_false _ _)⟩,h1.size,h1.defers,h1.cls,h1.kept,fun t _=>h1.rel t,fun i o d α _ hl=>(by rw [getD_replicate_false] at hl;cases hl)⟩
 have H:=Al (e:=e) (L:=L) (Q:=Q) he hH hn (fun au=>by
   rcases hs with hs | hs
   ·omega
   ·exact hs) qw (fun i o d hi ho i7=>hd o (List.mem_iff_getElem?.2 ⟨i,by simpa using ho⟩) d i7) ca nN (Zi1 hH Q) (fun _ _ _ _ _ _ _ _ _ _ _ _ _ _=>trivial) (fun ag a' w' S' hI _ aD=>?_) n _ a _ S oE trivial ?_
 ·rw [show n+(ops.size - n)=ops.size by omega] at H;exact H
 ·have fa:aN e U w0 S0 nt ⟨after σ.s (ops.toList.take n) αs,σ.m⟩ a' w':=by
   exact m299
  have:=Zps he ops.toList hQ (ops.toList.drop n) _ a' w' (fun o ho=>hd o (List.mem_of_mem_drop ho)) fa kZ;simpa using this
 ·rw [List.countP_eq_length.2]
  ·simp
  ·intro i hi;have eG:=List.mem_range.1 hi;have bO:i < (Array.replicate ops.size false).size:=by simp;omega
   rw [np bO,getD_replicate_false];rfl
theorem Zyc {l:List Oper} {n:Nat} (hB:fI l.toArray n=true) (yp:∀ o,(l.take n).getLast?=some o->jb o=false) (hp:al e (l.map (·.dst)) n l σ K):gF e l.toArray K l.length (Array.replicate l.length false) σ:=by
 intro he U w0 S0 nt a w hd hs;have:=ZiS (ops:=l.toArray) (n:=n) he hB (by simpa using yp) (K:=K) (Q:=QN e U w0 S0 nt K) (fun a w σ' hK iA=>⟨rfl,σ',hK,iA⟩) hd hs (by simpa using hp);simpa using this
def ZB9 (l:List Oper) (n:Nat):Bool:=match (l.take n).getLast? with
 | some o=>!jb o
 | none=>true
theorem gLp {l l':List Oper} (n i k:Nat) (hK:al e ds n l' ⟨s,m⟩ (nB ay Q)) (hl:c9 i k l=l':=by simp only [c9];exact rfl) (bG:l'.map (·.dst)=ds:=by simp only [Tbu,List.map_nil];exact rfl) (hc:ZrU l.toArray i k=true:=by decide +kernel) (hA:ZB9 l' n=true:=by decide +kernel) (hr:fI l'.toArray n=true:=by decide +kernel):cp e ay (.region id l.toArray true) ⟨s,m⟩ Q:=by
 subst hl bG;have h1:=ZuL hc (by have:=Zyc hr (fun o ho=>by unfold ZB9 at hA;rw [ho] at hA;simpa using hA) hK;rwa [Zj8] at this);exact ZiP (ops:=l.toArray) (by simpa using h1)
end
theorem m249 {p:Prop} (h:p:=by
 have F:=@ae;refine gG ?_;exact ⟨true,(decide_eq_true hA).symm,gw,gw⟩):p:=h
theorem m240 {p:Prop} (h:p:=by
 have F:=@ae;refine gG ?_;exact ⟨false,(decide_eq_false hA).symm,gw,gw⟩):p:=h
open Classical in
noncomputable def yP (g:Sgn) (o:Opr) (d:Dcl) (op:Int) (xs:List Tm):Tm:=(nd g o d op xs).getD (if ¬ ui o d xs.length∧∀ (i:Nat) a,xs[i]?=some a->lf g o d i a then da op (dE o (dc o op xs)) else ck)
theorem Zte {xs:List Tm} (h:∀ a∈xs,TermOk g a):∀ b∈dc o op xs,dt g b:=by
 intro b hb;obtain ⟨a,h1,h2⟩:=List.mem_flatMap.1 hb;have hf:=(h a h1).form;unfold gZ at h2;split at h2
 ·exact (nv.1 hf).2.1 b h2
 ·split at h2
  ·cases h2
  ·rw [Tbj.1 h2];exact hf
theorem ZqD:∀ (l m:List Tm),av (l++m)=av l+av m
 | [],m=>by simp [av]
 | x::l,m=>by simp only [Taf,av,ZqD l m];omega
theorem Znh {g:Sgn} {o:Opr} {op:Int}:∀ {xs:List Tm},(∀ a∈xs,TermOk g a)->av (dc o op xs)<=60 * xs.length
 | [],_=>by simp [dc,av]
 | a::xs,h=>by
  have ih:=Znh (o:=o) (op:=op) (xs:=xs) fun x hx=>h x (Tal _ hx);have ha:=(h a Tas).size;have e:dc o op (a::xs)=gZ o op a++dc o op xs:=rfl;have hz:=oK a;have hf:av (gZ o op a)<=am a:=by
   unfold gZ;split
   ·omega
   ·split
    ·simp [av]
    ·simp [av]
  rw [e,ZqD,Tag];omega
theorem ZGx {xs:List Tm} (h:∀ a∈xs,TermOk g a) (hl:xs.length<=1000):eJ (dc o op xs):=by
 have h1:=Zj7 (Zi7.2 (Zte (o:=o) (op:=op) h));have h2:=Znh (o:=o) (op:=op) h;unfold eJ;omega
theorem Zyd {l m:List Tm} (h:l.Perm m):ah (aq l)=ah (aq m):=by
 exact m138
section
variable {g:Sgn}
open Classical in
theorem ZuM (bW:jk g) (hg:SgnOk g) (h0:0<=op) (ho:g.ops[op.toNat]?=some o) (hd:o.decls[0]?=some d) (xs:List Tm) (ha:∀ a∈xs,TermOk g a) (hl:xs.length<=1048576) (zM:eJ (dc o op xs)):az e0 156 [.agg (bN g),.one (.lit (.int .i64 op)),.one (.sl (aq xs))] [.agg (an (yP g o d op xs)),.one (.lit (.bool (nd g o d op xs).isSome))]:=by
 have hz:=oc;have xb:b9 (dc o op xs):=Zlm.2 fun b hb=>dt.ok hg _ b (Tan _) (Zte ha b hb);have nO:=Znh (o:=o) (op:=op) ha;refine vO fun kW eD=>?_;have lV:=kW.hi;have ix:=hg.len;obtain ⟨d',dn,mw,ke,cd⟩:=hg.first ho;rw [hd] at dn;injection dn with dn
 subst dn;have cK:=ZfW hg.sorts;rw [fZ] at cK;have xX:=Zon hg h0 ho;rw [bN] at xX;have cA:=ZgZ hd;rw [fU] at cA;have hB:nd g o d op xs=if ui o d xs.length then none else if ∀ (i:Nat) a,xs[i]?=some a->lf g o d i a then uh o op (dc o op xs) else none:=rfl
 have hM:yP g o d op xs=(nd g o d op xs).getD (if ¬ ui o d xs.length∧∀ (i:Nat) a,xs[i]?=some a->lf g o d i a then da op (dE o (dc o op xs)) else ck):=rfl;have har2:o.assoc=true->d.args.length=2:=fun h=>by
  obtain ⟨k1,k2,hk,_⟩:=Opr.two hg ho hd (.inl h);rw [hk];rfl
 refine gI (ts:=[.cell 6 53,.slot 7]) 691281634562849416457226259614436229071 Tryz.func156 ?_;refine bw 2 (aj5 @ae @dR @h0 @ho @bH) @ae (cK) @ae ?_;refine fN 3 @ae ?_;refine gM (ι:=Bool) [38] [] (fun b=>[(38,A.d (.one (.lit (.bool b))))]) (fun b=>[]) (fun b=>b=decide (ui o d xs.length)) ?_ (fun b hb=>Exists.intro _ (ai (Wk.refl _) ?_))
 ·refine nI (ai @ae @bH) (cA) ?_;by_cases q:xs.length=d.args.length
  ·have hA:¬ ui o d xs.length:=fun h=>h.elim (fun h=>by have:=har2 h.1;omega) fun h=>h.2 q;refine fR (ai (eq_true om:((xs.length:Int)=(d.args.length:Int))=True) @ae) ?_;exact m240
  have q1:((xs.length:Int)=(d.args.length:Int))=False:=eq_false om
  cases dL:o.assoc with
  | false =>
   have hA:ui o d xs.length:=.inr ⟨dL,q⟩;refine fR (aj3 @q1 @dL @ae) ?_;exact m249
  | true =>
  by_cases q2:xs.length < 2
  ·have hA:ui o d xs.length:=.inl ⟨dL,q2⟩;refine fR (aj4 @q1 @dL (eq_false om:((2:Int)<=(xs.length:Int))=False) @ae) ?_;exact m249
  ·have hA:¬ ui o d xs.length:=fun h=>h.elim (fun h=>q2 h.2) fun h=>by rw [dL] at h;cases h.1
   refine fR (aj4 @q1 @dL (eq_true om:((2:Int)<=(xs.length:Int))=True) @ae) ?_;exact m240
 by_cases oV:ui o d xs.length
 ·rw [decide_eq_true oV] at hb;subst hb;rw [if_pos oV] at hB;rw [hB,if_neg fun h=>h.1 oV] at hM;rw [hM,hB];exact fD (ai @hz @ae)
 rw [decide_eq_false oV] at hb;subst hb;rw [if_neg oV] at hB;have yq:o.assoc=false->xs.length=d.args.length:=fun h=>Classical.byContradiction fun c=>oV (.inr ⟨h,c⟩);have Bv:dc o op []=[]:=rfl;refine bz 5 @ae @ae (xX) ?_;refine dT @ae @ae ?_;have F:=aj3 @Bv @ww @ae;refine gL (ι:=Nat) [7,12,13,14,50,55,73,82,92] [12] (fun i=>[(13,A.d (.one (.lit (.int .i64 i)))),(12,.buf 12)]) (fun i=>[(12,.buf none 53 4 (aq (dc o op (xs.take i))))]) (fun i=>i<=xs.length∧∀ (j:Nat) a,j < i->xs[j]?=some a->lf g o d j a) (fun i=>xs.length - i) (0) (⟨Taj _,fun j a h=>absurd h om⟩) (fun i hi=>?_)
 obtain ⟨hi,aD⟩:=hi;by_cases au:i < xs.length
 ·refine m198 fun a lw hT q1 dY k hk=>?_;obtain ⟨jS,fd⟩:=cd k (Tac hk);have cj:=AE hg.sorts jS fd;have BG:d.args[(fE o i:Nat)]?=some k:=hk;have cKa:=ZhK bW hg hT.form.node;rw [bN] at cKa;have cU:=tz (hT.ok hg) (Zqw (o:=o) eD om);have pC:o.unit≠0->(aH a (ku o)=0 ↔ a.op=o.unit - 1):=fun hu=>by
   rw [n9];constructor
   ·rintro h;rw [h];simp [ku,Tm.op,hu]
   ·exact Zla hg ho hu hT.form
  generalize hU:decide (aH a (ku o)=0)=U at cU;have bm:=ZmC (o:=o) (op:=op) lw;have ct:=ZiO o op xs (i+1);rw [bm,Tae] at ct;have tY:=uw (dc o op xs);have dh:fz g a=((kd g.sorts k:Nat):Int)->i+1<=xs.length∧∀ (j:Nat) a,j < i+1->xs[j]?=some a->lf g o d j a:=fun eZ=>⟨au,fun j a' hj de=>by
   by_cases e:j=i
   ·subst e;rw [lw] at de;injection de with de
    subst de;exact ⟨k,hk,eZ⟩
   ·exact aD j a' om de⟩
  refine fG (ai @q1 @ae) ?_;refine gM (ι:=Unit) [14] [] (fun u=>[(14,A.d (.one (.lit (.int .i64 (fE o i:Nat)))))]) (fun u=>[]) (fun u=>True) ?_ (fun u hu=>Exists.intro _ (ai (Wk.refl _) ?_))
  ·exact m288
  refine bz 13 @ae (ai @lw @ae) (cKa) ?_;by_cases eZ:fz g a=((kd g.sorts k:Nat):Int);rotate_left
  ·have bC:¬ ∀ (i:Nat) a,xs[i]?=some a->lf g o d i a:=fun h=>by
    obtain ⟨k',eV,he⟩:=h i a lw;rw [hk] at eV;injection eV with eV
    subst eV;exact eZ he
   rw [if_neg bC] at hB;rw [hB,if_neg fun h=>bC h.2] at hM;rw [hM,hB];exact bK (aj9 @ae @bH @hd @iW @BG @jS @cj @gu @eZ) (ai @hz @ae)
  have dh:=dh eZ;have l1:ZaB 4 (aq (dc o op (xs.take i)))=true:=oP _;have l5:ZaB 4 (aq a.args)=true:=oP _;refine fR (aj9 @ae @bH @hd @iW @BG @jS @cj @gu @eZ) ?_;refine fN 16 @ae ?_;refine gM (ι:=Bool) [82] [] (fun b=>[(82,A.d (.one (.lit (.bool b))))]) (fun b=>[]) (fun b=>b=decide (o.unit≠0∧a.op=o.unit - 1)) ?_ (fun b hb=>Exists.intro _ (ai (Wk.refl _) ?_))
  ·by_cases hu:o.unit=0
   ·have F:=ai @hu @ae;refine gG ?_;exact ⟨false,(decide_eq_false fun h=>h.1 hu).symm,gw,gw⟩
   ·refine nI (aj3 @hu @lw @ae) (cU) ?_;refine fR @ae ?_;have e:U=decide (o.unit≠0∧a.op=o.unit - 1):=by
     rw [<- hU];exact decide_eq_decide.2 ⟨fun h=>⟨hu,(pC hu).1 h⟩,fun h=>(pC hu).2 h.2⟩
    have F:=ai @hu @ae;refine gG ?_;exact ⟨U,e,gw,gw⟩
  by_cases DN:o.unit≠0∧a.op=o.unit - 1
  ·rw [decide_eq_true DN] at hb;subst hb;have hN:¬ (o.assoc=true∧a.op=op):=fun h=>by
    have e:(ku o).args=[]:=by unfold ku;rfl
    have e2:=Zla hg ho DN.1 hT.form DN.2;obtain ⟨o',d',hA⟩:=hT.form.node.app om;have:o'=o:=by have:=hA.at';rw [h.2,ho] at this;exact zW
    subst this;have:=(hA.asc h.1).1;rw [e2,e] at this;simp at this
   have e:gZ o op a=[]:=by unfold gZ;rw [if_neg hN,if_pos DN]
   rw [e,List.append_nil] at bm;rw [<- bm];have F:=ai @ae @dY;exact yO
  rw [decide_eq_false DN] at hb;subst hb;by_cases hN:o.assoc=true∧a.op=op
  ·refine m114 fun e bm ct l3 l4=>?_
   obtain ⟨zH,Bf⟩:=hN;have F:=aj10 @ae @lw @bH @zH (eq_true Bf:(a.op=op)=True) @l1 @l5 @l3 @l4 @dY;exact yO
  ·have e:gZ o op a=[a]:=by unfold gZ;rw [if_neg hN,if_neg DN]
   rw [e] at bm ct;refine m112 fun l3 l4=>?_
   rcases Bool.eq_false_or_eq_true o.assoc with dL | dL
   ·have hq:(a.op=op)=False:=eq_false fun h=>hN ⟨dL,h⟩;have F:=aj9 @ae @lw @bH @dL @hq @l1 @l3 @l4 @dY;exact yO
   ·have F:=aj8 @ae @lw @bH @dL @l1 @l3 @l4 @dY;exact yO
 ·obtain rfl:i=xs.length:=by omega
  have q1:=lF xs.length xs.length;rw [Tap];have Ba:∀ (i:Nat) a,xs[i]?=some a->lf g o d i a:=fun j a h=>aD j a (Tad.1 h).1 h;rw [if_pos Ba] at hB;rw [hB,if_pos ⟨oV,Ba⟩] at hM;rw [hM,hB];clear hM hB aD Ba yq;generalize hL:dc o op xs=L at zM xb nO ⊢;have hLb:L.length+ah (aq L)<=1048576:=zM;refine fN 19 (ai @q1 @ae) ?_;refine pS 12 fun a cap=>?_;refine pD 12 [12] [] ?_;by_cases hu:o.unit≠0∧L.length < 2
  ·rw [(by unfold uh;rw [if_pos hu]:uh o op L=some (L.headD (ku o)))];obtain ⟨uc,hu2⟩:=hu;have q2:(o.unit=0)=False:=eq_false uc
   cases L with
   | nil =>
    exact fD (aj5 @q1 @bH @q2 (eq_true om:(((0:Nat):Int)=0)=True) @ae)
   | cons b bs =>
    have lS:bs=[]:=Tao (by simp only [Tag] at hu2;omega);subst lS;have z4:(((1:Nat):Int)=1)=True:=eq_true om;have q5:([b]:List Tm)[0]?=some b:=rfl;have z5:(0 < 0+1)=True:=eq_true om;have z6:((0:Nat) < 1)=True:=eq_true om;have z7:Int.toNat 0=0:=rfl;refine bz 22 (aj12 @q1 @bH @q2 (eq_false om:(((0+1:Nat):Int)=0)=False) (eq_true om:(((0+1:Nat):Int)=1)=True) (eq_false om:(((1:Nat):Int)=0)=False) @z4 @z5 @z6 @z7 @q5 @ae) (aj5 @z5 @z6 @z7 @q5 @ae) (zf b (by simp only [aq,ah] at hLb;omega:ab (an b)<=1048576)) ?_;exact bK @ae @ae
  ·have sd:uh o op L=if lY o op (dE o L) then none else some (da op (dE o L)):=by unfold uh;rw [if_neg hu]
   rw [sd];clear sd xX cK cA;have hSl:=Zs2 o L;have hSp:=Zhp o L;have sz1:=Zlb hSp;have dz1:=Zkz hSp;have sl1:=uw L;have cSo:=Zll L xb zM;refine gM (ι:=Unit) [116] [] (fun v=>[(116,A.d (.one (.lit (.bool false))))]) (fun v=>[]) (fun v=>True) ?_ (fun v hv=>Exists.intro _ (ai (Wk.refl _) ?_))
   ·by_cases gl:o.unit=0
    ·have F:=ai (eq_true gl:(o.unit=0)=True) @ae;exact rA
    ·have q3:((L.length:Int)=0)=False:=eq_false fun h=>hu ⟨gl,om⟩;have F:=aj3 (eq_false gl:(o.unit=0)=False) @q3 @ae;exact rA
   refine fN 21 @ae ?_;refine gM (ι:=Unit) [123] [] (fun v=>[(123,A.d (.one (.lit (.bool false))))]) (fun v=>[]) (fun v=>True) ?_ (fun v hv=>Exists.intro _ (ai (Wk.refl _) ?_))
   ·by_cases gl:o.unit=0
    ·have F:=ai (eq_true gl:(o.unit=0)=True) @ae;exact rA
    ·have q3:((L.length:Int)=1)=False:=eq_false fun h=>hu ⟨gl,om⟩;have F:=aj3 (eq_false gl:(o.unit=0)=False) @q3 @ae;exact rA
   refine nJ 23 @ae ?_;refine fR (ai @bH @ae) ?_;refine gM (ι:=Unit) [12] [] (fun v=>[(12,.d (.one (.sl (aq (dE o L)))))]) (fun v=>[]) (fun v=>True) ?_ (fun v hv=>Exists.intro _ (ai (Wk.refl _) ?_))
   ·cases gQ:o.comm with
    | true =>
     rw [show dE o L=cq L by unfold dE;rw [if_pos gQ]];refine bw 24 (ai @gQ @ae) @ae (cSo) @ae ?_;have F:=@ae;exact rA
    | false =>
     exact m295
   have hSB:eJ (dE o L):=by
    unfold eJ at zM ⊢;rw [Zyd hSp,hSl];exact zM
   generalize dE o L=S at hSl sz1 dz1 hSB ⊢;refine m158 fun em zs=>?_
   have c1:=Zg4 (t:=da op S) (by unfold fc;omega);rw [em] at c1;refine bw 25 @ae @ae (Zlk S hSB) @ae ?_;refine fN 26 @ae ?_;by_cases h7:o.assoc=true∧7 < S.length
   ·rw [if_pos (show lY o op S from .inl h7)];obtain ⟨dL,h7⟩:=h7;have q2:((S.length:Int)<=7)=False:=eq_false om;refine gLp 13 12 13 ?_;exact bK (aj3 @dL @q2 @ae) (aj3 @hz @em @ae)
   have dL:o.assoc=true->((S.length:Int)<=7)=True:=fun h=>eq_true (Int.not_lt.1 fun q=>h7 ⟨h,om⟩);have ep:(if lY o op S then none else some (da op S)).isSome=decide (am (da op S)<=60∧aG (da op S)<=20):=by
    by_cases DP:lY o op S
    ·rw [if_pos DP];refine (decide_eq_false fun h=>?_).symm;rcases DP with h | h | h
     ·exact h7 h
     ·omega
     ·omega
    ·rw [if_neg DP];refine (decide_eq_true ⟨?_,?_⟩).symm
     ·exact Nat.not_lt.1 fun h=>DP (.inr (.inl h))
     ·exact Nat.not_lt.1 fun h=>DP (.inr (.inr h))
   have hgd:(if lY o op S then none else some (da op S)).getD (da op S)=da op S:=by
    split <;> rfl
   rw [ep,hgd,em];rcases Bool.eq_false_or_eq_true o.assoc with de | de
   ·have q2:=dL de;refine gLp 13 12 13 ?_;refine fC (aj3 @de @q2 @ae) (c1) ?_;exact bK @ae @ae
   ·refine gLp 13 12 13 ?_;refine fC (ai @de @ae) (c1) ?_;exact bK @ae @ae
open Classical in
theorem ZoC (bW:jk g) (hg:SgnOk g) (h0:0<=op) (ho:g.ops[op.toNat]?=some o) (hd:o.decls[0]?=some d) (xs:List Tm) (ha:∀ a∈xs,TermOk g a) (hl:xs.length<=1000):az e0 156 [.agg (bN g),.one (.lit (.int .i64 op)),.one (.sl (aq xs))] [.agg (an (yP g o d op xs)),.one (.lit (.bool (nd g o d op xs).isSome))]:=ZuM bW hg h0 ho hd xs ha om (ZGx (o:=o) (op:=op) ha hl)
end
theorem m232 {X Y:Prop} (b:Y) (h:Bx Y->X:=by
 intro B0
 have:=Ztf ⟨(op+1).toNat,om⟩;rw [show (((op+1).toNat:Nat):Int) - 1=op by omega] at this;simp only [gJ,oQ,Tah,Tbf] at h;exact B0.o this h):X:=h ⟨b⟩
def xZ (n:Nat):List UInt8:=if n < 10 then [UInt8.ofNat (48+n)] else [UInt8.ofNat (48+n / 10),UInt8.ofNat (48+n % 10)]
def dv (i:Int):List UInt8:=if i < 0 then 45::xZ (-i).toNat else xZ i.toNat
mutual
def oQ:Tm->List UInt8
 | .mk op nm so args=>dv op++((if op < 0 then 58::(nm.toList++58::dv so) else [])++40::(gJ args++[41]))
def gJ:List Tm->List UInt8
 | []=>[]
 | t::ts=>oQ t++gJ ts
end
theorem Zye (a b:List Tm):gJ (a++b)=gJ a++gJ b:=by
 induction a with
 | nil=>rfl
 | cons t ts ih=>simp only [Taf,gJ,ih,Tbf]
theorem As {P:UInt8->Prop}:∀ {l m:List UInt8} {c d:UInt8} {x y:List UInt8},(∀ b∈l,P b)->(∀ b∈m,P b)->¬ P c->¬ P d->l++c::x=m++d::y->l=m∧c=d∧x=y
 | [],[],c,d,x,y,_,_,_,_,h=>by simpa using h
 | [],b::m,c,d,x,y,_,hm,hc,_,h=>by
  simp only [Tah,Taf,List.cons.injEq] at h;exact absurd (hm b Tas) (h.1 ▸ hc)
 | a::l,[],c,d,x,y,hl,_,_,hd,h=>by
  simp only [Tah,Taf,List.cons.injEq] at h;exact absurd (hl a Tas) (h.1 ▸ hd)
 | a::l,b::m,c,d,x,y,hl,hm,hc,hd,h=>by
  simp only [Taf,List.cons.injEq] at h;obtain ⟨h1,h2⟩:=As (fun b hb=>hl b (Tal _ hb)) (fun b hb=>hm b (Tal _ hb)) hc hd h.2;exact ⟨by rw [h.1,h1],h2⟩
def su (b:UInt8):Prop:=b=45∨(48<=b.toNat∧b.toNat<=57)
instance (b:UInt8):Decidable (su b):=by unfold su;infer_instance
theorem ZGy:∀ i:Fin 15,∀ b∈dv ((i.val:Int) - 1),su b:=by decide
theorem ZGz:∀ i j:Fin 15,dv ((i.val:Int) - 1)=dv ((j.val:Int) - 1)->i=j:=by decide
theorem Zl9 {i:Int} (h0:-1<=i) (h1:i < 14):∀ b∈dv i,su b:=by
 have:=ZGy ⟨(i+1).toNat,om⟩
 rwa [show (((i+1).toNat:Nat):Int) - 1=i by omega] at this
theorem ZpG {i j:Int} (h0:-1<=i) (h1:i < 14) (h2:-1<=j) (h3:j < 14) (h:dv i=dv j):i=j:=by
 have:=ZGz ⟨(i+1).toNat,om⟩ ⟨(j+1).toNat,om⟩ (by
  simp only;rw [show (((i+1).toNat:Nat):Int) - 1=i by omega,show (((j+1).toNat:Nat):Int) - 1=j by omega];exact h)
 have:=congrArg Fin.val this;simp only at this;omega
theorem Ztf:∀ i:Fin 15,(dv ((i.val:Int) - 1)).head?≠some 41∧dv ((i.val:Int) - 1)≠[]:=by decide
def NamB (s:ByteArray):Prop:=∀ b∈s.toList,oe (b.toNat:Int)=true
mutual
def sF:Tm->Prop
 | .mk op nm so args=>-1<=op∧op < 14∧(op=-1->NamB nm∧0<=so∧so < 8)∧(op≠-1->nm=ByteArray.empty∧so=0)∧wD args
def wD:List Tm->Prop
 | []=>True
 | t::ts=>sF t∧wD ts
end
theorem toList_inj {a b:ByteArray} (h:a.toList=b.toList):a=b:=by
 rw [ByteArray.toList_eq,ByteArray.toList_eq] at h;obtain ⟨x⟩:=a;obtain ⟨y⟩:=b;simp only at h;rw [Array.toList_inj.1 h]
theorem Dj:¬ su 40:=by decide
theorem ZiT:¬ su 58:=by decide
mutual
theorem Zw5:∀ (a b:Tm) (x y:List UInt8),sF a->sF b->oQ a++x=oQ b++y->a=b∧x=y
 | .mk op nm so args,.mk op' nm' so' pp,x,y,ha,hb,h=>by
  simp only [sF] at ha hb;obtain ⟨a1,a2,a3,a4,a5⟩:=ha;obtain ⟨b1,b2,b3,b4,b5⟩:=hb;simp only [oQ,Tbf,Taf] at h;have n1:=Zl9 a1 a2;have n2:=Zl9 b1 b2;have vf:op=op'∧nm=nm'∧so=so'∧gJ args++([41]++x)=gJ pp++([41]++y):=by
   by_cases h1:op < 0
   ·rw [if_pos h1] at h;by_cases h2:op' < 0
    ·rw [if_pos h2] at h;simp only [Taf,Tbf] at h;obtain ⟨e1,_,e2⟩:=As n1 n2 ZiT ZiT h;have e1:=ZpG a1 a2 b1 b2 e1;have o1:op=-1:=om;have o2:op'=-1:=om;obtain ⟨p1,p2,p3⟩:=a3 o1;obtain ⟨q1,q2,q3⟩:=b3 o2;obtain ⟨f1,_,f2⟩:=As (P:=fun b=>oe (b.toNat:Int)=true) p1 q1 (by decide) (by decide) e2;obtain ⟨g1,_,g2⟩:=As (Zl9 om om) (Zl9 om om) Dj Dj f2;exact ⟨e1,toList_inj f1,ZpG om om om om g1,g2⟩
    ·rw [if_neg h2] at h;simp only [Taf,Tah] at h;obtain ⟨_,e,_⟩:=As n1 n2 ZiT Dj h;exact absurd e (by decide)
   ·rw [if_neg h1] at h;by_cases h2:op' < 0
    ·rw [if_pos h2] at h;simp only [Taf,Tah] at h;obtain ⟨_,e,_⟩:=As n1 n2 Dj ZiT h;exact absurd e (by decide)
    ·rw [if_neg h2] at h;simp only [Tah] at h;obtain ⟨e1,_,e2⟩:=As n1 n2 Dj Dj h;have e1:=ZpG a1 a2 b1 b2 e1;obtain ⟨p1,p2⟩:=a4 om;obtain ⟨q1,q2⟩:=b4 om;exact ⟨e1,by rw [p1,q1],by rw [p2,q2],e2⟩
  obtain ⟨rfl,rfl,rfl,he⟩:=vf;obtain ⟨i1,i2⟩:=Ztg args pp x y a5 b5 he;exact ⟨by rw [i1],i2⟩
theorem Ztg:∀ (xs bs:List Tm) (x y:List UInt8),wD xs->wD bs->gJ xs++([41]++x)=gJ bs++([41]++y)->xs=bs∧x=y
 | [],[],x,y,_,_,h=>by simpa [gJ] using h
 | [],.mk op nm so args::bs,x,y,_,hb,h=>by
  exfalso;simp only [wD,sF] at hb;refine m232 fun this h=>?_
  cases hd:dv op with
  | nil=>exact this.2 hd
  | cons c l =>
   rw [hd] at h this;simp only [Taf,List.cons.injEq] at h;exact this.1 (by rw [<- h.1];rfl)
 | .mk op nm so args::xs,[],x,y,ha,_,h=>by
  exfalso;simp only [wD,sF] at ha;refine m232 fun this h=>?_
  cases hd:dv op with
  | nil=>exact this.2 hd
  | cons c l =>
   rw [hd] at h this;simp only [Taf,List.cons.injEq] at h;exact this.1 (by rw [h.1];rfl)
 | a::xs,b::bs,x,y,ha,hb,h=>by
  simp only [wD] at ha hb;simp only [gJ,Tbf] at h;obtain ⟨e1,e2⟩:=Zw5 a b _ _ ha.1 hb.1 h;obtain ⟨f1,f2⟩:=Ztg xs bs x y ha.2 hb.2 e2;exact ⟨by rw [e1,f1],f2⟩
end
theorem ZDW {s:ByteArray} (h:iS s=true):NamB s:=by
 unfold iS at h;simp only [Tar] at h;have hn:=h.2;unfold km at hn;rw [List.all_eq_true] at hn;intro b hb;rw [ByteArray.toList_eq] at hb;obtain ⟨i,hi,rfl⟩:=List.getElem_of_mem hb;have eG:i < s.size:=by simpa using hi
 have:=hn i (List.mem_range'_1.2 ⟨Taj _,om⟩);simp only [Tar,Zk2,dif_pos eG] at this;exact this.1
mutual
theorem Zin {g:Sgn} (hg:SgnOk g):∀ (t:Tm),dt g t->sF t
 | .mk op nm so args,h=>by
  have h1:qg g (.mk op nm so args):=by simp only [dt] at h;exact h.1
  have hl:=hg.len;have hn:=hg.sorts.n8;refine ⟨?_,?_,?_,?_,ZqE hg args (by simp only [dt] at h;exact h.2.1:rL g args)⟩
  ·rcases h1 with h | ⟨o,d,h⟩
   ·have:op=-1:=h.1;omega
   ·have:0<=op:=h.lo;omega
  ·rcases h1 with h | ⟨o,d,h⟩
   ·have:op=-1:=h.1;omega
   ·have h0:0<=op:=h.lo;have:g.ops[op.toNat]?=some o:=h.at';have:=(Tad.1 this).1;omega
  ·intro ho;rcases h1 with h | ⟨o,d,h⟩
   ·have h4:0<=so:=h.2.2.1;have h5:so < g.sorts.names.length:=h.2.2.2.1;exact ⟨ZDW h.2.1,h4,om⟩
   ·have:0<=op:=h.lo;omega
  ·intro ho;rcases h1 with h | ⟨o,d,h⟩
   ·have:op=-1:=h.1;omega
   ·exact ⟨h.nm,h.so⟩
theorem ZqE {g:Sgn} (hg:SgnOk g):∀ (ts:List Tm),rL g ts->wD ts
 | [],_=>trivial
 | t::ts,h=>by
  simp only [rL] at h;exact ⟨Zin hg t h.1,ZqE hg ts h.2⟩
end
def jx (t:Tm):ByteArray:=⟨(oQ t).toArray⟩
theorem Zth (hg:SgnOk g) {a b:Tm} (ha:dt g a) (hb:dt g b) (h:(jx a).toList=(jx b).toList):a=b:=by
 rw [ByteArray.toList_eq,ByteArray.toList_eq] at h;simp only [jx] at h;exact (Zw5 a b [] [] (Zin hg a ha) (Zin hg b hb) (by rw [List.append_nil,List.append_nil];exact h)).1
def At (P:Program) (s d:TypeId):Bool:=match P.underlying s,P.underlying d with
 | some (.slice e),some .string=>match P.underlying e with
  | some (.int .u8)=>true
  | _=>false
 | _,_=>false
def Zjy (b:Int):ByteArray:=ByteArray.empty.push (UInt8.ofNat b.toNat)
section
variable {e:Env} {σ:St} {o:Oper} {K:St->Prop}
theorem ZCa {s d:TypeId} {b:Int} (ho:o.op=.convert s d x) (hx:aL σ.s x=.d (.clip [[.lit (.int .u8 b)]])) (ht:At e.P s d=true) (hK:K ⟨aI σ.s o.dst (.d (.one (.lit (.string (Zjy b))))),σ.m⟩):iT e o σ K:=by
 intro he U w0 S0 nt a w Q hd ⟨S,L,h⟩;refine Oper.wp_mono (fun a' w' hs=>⟨_,hK,hs⟩) (C2 h hd (nk fun w S L ρv hC hr=>?_));have bj:=hr x (by simp [ho,Op.operands]);rw [hx] at bj;obtain ⟨⟨A,n,cap,hv,hn,_,_,hb⟩,_⟩:=bj;simp only [Tag,Tak,Nat.zero_add] at hn;subst hn;obtain ⟨g,off,rfl,_,_,fF⟩:=hb (by decide);simp only [b7,bn,aQ,and_true] at fF;obtain ⟨u,hc,rfl⟩:=fF;have hl:=run_loadCells_list (P:=e.P) w ⟨g,off,none⟩ [.int .u8 b] (fun j u hj=>by
  cases j with
  | zero=>simp at hj;subst hj;rw [Addr.add_at];exact hc
  | succ j=>simp at hj)
 unfold At at ht;split at ht
 ·rename_i e1 h1 h2;split at ht
  ·rename_i h3;refine ⟨.string (Zjy b),?_,by simp [ax,aW,aQ]⟩;simp only [Tag,Tak,Nat.zero_add] at hl;simp [execOp,ho,hv,convert,underlying,h1,h2,h3,Conv.bytesToString,hl,Zjy,Result.andThen]
  ·cases ht
 ·cases ht
end
theorem gY {e:Env} {os:List Oper} {d t1:Nat} {b:Int} (hK:al e ds 0 os ⟨(d,.d (.one (.lit (.string (Zjy b)))))::s,m⟩ K)
  (hx:aL s x=.d (.clip [[.lit (.int .u8 b)]]):=by exact nf) (ht:At e.P t1 t2=true:=by kernel_rfl):al e ds 0 (⟨some d,.convert t1 t2 x,ty,p,ed,none⟩::os) ⟨s,m⟩ K:=by
 simp only [al] at hK ⊢;exact ut rfl (ZCa (o:=⟨some d,.convert t1 t2 x,ty,p,ed,none⟩) rfl hx ht hK)
section
variable {P:Program} {w:World}
theorem ZCb (ts:Array TypeId) (t ty e:TypeId) (i:TypeInfo) (z:Value) (h0:ts[0]?=some t) {t2:TypeId} (h1:ts[1]?=some t2) (sV:P.underlying t2=some .string) (ht:P.underlying t=some (.slice e)) (hi:P.info? e=some i) (hz:i.zero=some z) (b:Option Addr) (bJ dP:Nat) (cc:List Value) (x:Value) (n:Nat) (aF:List Value)
  (ix:(Builtin.lenOf x).run P w=.ok n w) (xb:(Builtin.firstCells i.size bJ (.slice b bJ dP)).run P w.drew=.ok cc.toArray w.drew) (hf:(Builtin.firstCells i.size n x).run P w.drew=.ok aF.toArray w.drew) (hg:dP < bJ+n) (h63:((bJ+n:Nat):Int)<=9223372036854775807) (iq:Builtin.nextslicecap (bJ+n) dP * i.bytes<=281474976710656) :
  (Builtin.append_ ts ty #[.slice b bJ dP,x]).run P w=.ok (.slice (some ⟨w.heap.size,0,none⟩) (bJ+n) (grownCap w (bJ+n) dP e)) (w.drew.alloc (.cells (cc.toArray++aF.toArray++Builtin.zeroCells z.cells (grownCap w (bJ+n) dP e - (bJ+n))) e)):=by
 have hn:¬ (bJ+n<=dP):=om;have A8:¬ (9223372036854775807 < ((bJ:Int)+(n:Int))):=om;have A7:¬ (281474976710656 < Builtin.nextslicecap (bJ+n) dP * i.bytes):=om;have e1:cc.toArray++(aF.toArray++Builtin.zeroCells z.cells (grownCap w (bJ+n) dP e - (bJ+n)))=(cc++aF).toArray++Builtin.zeroCells z.cells (grownCap w (bJ+n) dP e - (bJ+n)):=by
  apply Array.toList_inj.1;simp
 unfold grownCap at e1;simp [Builtin.append_,h0,h1,run_underlying ht,run_underlying sV,sizeOf,typeInfo,zeroValue,hi,hz,ix,hn,A8,A7,Question.forced,hf,xb,newRow,grownCap,e1]
theorem ZCc (ts:Array TypeId) (t ty e:TypeId) (i:TypeInfo) (h0:ts[0]?=some t) {t2:TypeId} (h1:ts[1]?=some t2) (sV:P.underlying t2=some .string) (ht:P.underlying t=some (.slice e)) (hi:P.info? e=some i) (g bJ dP:Nat) (bc:Array Value) (hg:w.heap[g]?=some (.cells bc e (0,0))) (x:Value) (n:Nat) (aF:List Value)
  (ix:(Builtin.lenOf x).run P w=.ok n w) (hf:(Builtin.firstCells i.size n x).run P w=.ok aF.toArray w) (rk:∀ u∈aF,u.oneCell'=true) (iz:bJ+n<=dP) (iq:bJ * i.size+aF.length<=bc.size) :
  (Builtin.append_ ts ty #[.slice (some ⟨g,0,none⟩) bJ dP,x]).run P w=.ok (.slice (some ⟨g,0,none⟩) (bJ+n) dP) (w.setRow g (bc.toList.take (bJ * i.size)++aF++bc.toList.drop (bJ * i.size+aF.length)).toArray):=by
 have bm:=run_storeCells_at P g (bJ * i.size) e aF 0 bc w hg (by simpa using iq) rk;simp only [Nat.add_zero] at bm;simp [Builtin.append_,h0,h1,run_underlying ht,run_underlying sV,sizeOf,typeInfo,hi,ix,iz,hf,Addr.add_lit,bm]
theorem ZCd (ts:Array TypeId) (t ty e:TypeId) (i:TypeInfo) (h0:ts[0]?=some t) {t2:TypeId} (h1:ts[1]?=some t2) (sV:P.underlying t2=some .string) (ht:P.underlying t=some (.slice e)) (hi:P.info? e=some i) (b:Option Addr) (x:Value)
  (ix:(Builtin.lenOf x).run P w=.ok 0 w) (hf:(Builtin.firstCells i.size 0 x).run P w=.ok #[] w) :
  (Builtin.append_ ts ty #[.slice b 0 0,x]).run P w=.ok (.slice b 0 0) w:=by
 cases b <;> simp [Builtin.append_,h0,h1,run_underlying ht,run_underlying sV,sizeOf,typeInfo,hi,ix,hf,storeCells]
end
section
variable {e:Env} {U:Nat->Prop} {w0:World} {S0:Nat->Prop} {nt:Nat} {σ:St} {a:Act} {w:World} {S:Nat->Prop} {L:Lay} {o:Oper}
theorem ZuN (he:e.Ok) (hC:Cls e U w0.heap.size S0 σ.m w S L) {ts:Array TypeId} {t ty:TypeId} (h0:ts[0]?=some t) {t2:TypeId} (h1:ts[1]?=some t2) (sV:e.P.underlying t2=some .string) (hb:jc e.P t=some (ety,sz,by')) {ys:List (List C)} {u:Value}
  (hv:ei w S ety sz rows v∨(aW w S (.clip rows) v∧(rows=[]∨ys≠[]))) (dX:rowsLen sz rows) (qx:rowsLen sz ys) (ct:rows.length+ys.length<=ak)
  (hy:∃ (aF:List Value),(∀ w',(Builtin.lenOf u).run e.P w'=.ok ys.length w')∧aC w S ys.flatten aF∧∀ (P:Program) (w':World),(∀ p,w'.cell? p=w.cell? p)->(Builtin.firstCells sz ys.length u).run P w'=.ok aF.toArray w') :
  ∃ v' w',(Builtin.append_ ts ty #[v,u]).run e.P w=.ok v' w'∧ei w' S ety sz (rows++ys) v'∧∃ τ:Option Nat,Kept e.D (fun b=>τ=some b) w.heap.size w w'∧(∀ g,τ=some g->aP v=some g∧ei w S ety sz rows v)∧(∀ g,aP v'=some g->τ=some g∨w.heap.size<=g):=by
 obtain ⟨i,z,hu,hi,hz,bO,wZ,qy,fg,sM⟩:=xy hb;obtain ⟨aF,ix,jU,hf⟩:=hy;have yt:aF.length=ys.length * sz:=by rw [jU.len,oL qx]
 have rk:=C1 (ZlV qx) jU;have hm30:rows.length+ys.length<=1073741824:=ct;have mr:(rows.length+ys.length) * i.bytes<=140737488355328:=by
  exact m197
 have vu:rowsLen sz (rows++ys):=dX.append qx
 have grow:∀ (b:Option Addr) (cap:Nat) (cc:List Value),v=.slice b rows.length cap->cap < rows.length+ys.length->aC w S rows.flatten cc->(∀ (P:Program) (w':World),(∀ p,w'.cell? p=w.cell? p)->(Builtin.firstCells sz rows.length v).run P w'=.ok cc.toArray w') ->
   ∃ v' w',(Builtin.append_ ts ty #[v,u]).run e.P w=.ok v' w'∧ei w' S ety sz (rows++ys) v'∧∃ τ:Option Nat,Kept e.D (fun b=>τ=some b) w.heap.size w w'∧(∀ g,τ=some g->aP v=some g∧ei w S ety sz rows v)∧(∀ g,aP v'=some g->τ=some g∨w.heap.size<=g):=by
  intro b cap cc hv au jD xb;have h63:rows.length+ys.length<=maxLen:=by unfold maxLen;omega
  have aJ:=ZCb ts t ty ety i z h0 h1 sV hu hi hz b rows.length cap cc u ys.length aF (ix w) (by rw [bO,<- hv];exact xb _ _ (ZiH w)) (by rw [bO];exact hf _ _ (ZiH w)) au om (growslice_fits om mr);rw [<- hv] at aJ;have Bz:=grownCap_ge w (rows.length+ys.length) cap ety;have gQ:=grownCap_le_maxLen w (rows.length+ys.length) cap ety h63;generalize qW:grownCap w (rows.length+ys.length) cap ety=nc at aJ Bz gQ
  have ip:cc.length=rows.length * sz:=by rw [jD.len,oL dX]
  have hk:Kept e.D (fun b=>(none:Option Nat)=some b) w.heap.size w (w.drew.alloc (.cells (cc.toArray++aF.toArray++Builtin.zeroCells z.cells (nc - (rows.length+ys.length))) ety)) :=
   ⟨rfl,rfl,rfl,fun _=>Nat.le_succ _,by simp,fun k hk _=>heap_alloc_old w.drew _ hk⟩
  have ce:=heap_alloc_new w.drew (.cells (cc.toArray++aF.toArray++Builtin.zeroCells z.cells (nc - (rows.length+ys.length))) ety);have zR:(w.drew.alloc (.cells (cc.toArray++aF.toArray++Builtin.zeroCells z.cells (nc - (rows.length+ys.length))) ety)).heap.size=w.heap.size+1:=by simp
  have e1:cc.toArray++aF.toArray++Builtin.zeroCells z.cells (nc - (rows.length+ys.length))=((cc++aF)++(Builtin.zeroCells z.cells (nc - (rows.length+ys.length))).toList).toArray:=by
   apply Array.toList_inj.1;simp
  rw [e1] at aJ hk ce zR;generalize w.drew.alloc (.cells ((cc++aF)++(Builtin.zeroCells z.cells (nc - (rows.length+ys.length))).toList).toArray ety)=W at aJ hk ce zR;refine ⟨_,_,aJ,?_,none,hk,by simp,fun g hg=>?_⟩
  ·have bu:rows.length+ys.length=(rows++ys).length:=by simp
   rw [bu];refine ZkN (w:=w) (cells:=cc++aF) (rest:=(Builtin.zeroCells z.cells (nc - (rows.length+ys.length))).toList) (n:=0) fg vu hk.size (fun b o hs=>qE (hk.block b (hC.sin b hs).1 (by simp)) o) ?_ (by simp;omega) gQ om (g:=w.heap.size) om (fun hs=>by have:=(hC.sin _ hs).1;omega) ?_ ?_
   ·rw [List.flatten_append];exact aC.app jD jU
   ·exact ce
   ·simp only [Tae,Array.length_toList,size_zeroCells,qy,ip,yt,<- Nat.add_mul];congr 1;omega
  ·simp only [aP] at hg;split at hg
   ·cases hg
   ·injection hg with hg;exact .inr om
 have vY:∀ (b:Option Addr),rows=[]->ys=[]->v=.slice b 0 0->∃ v' w',(Builtin.append_ ts ty #[v,u]).run e.P w=.ok v' w'∧ei w' S ety sz (rows++ys) v'∧∃ τ:Option Nat,Kept e.D (fun b=>τ=some b) w.heap.size w w'∧(∀ g,τ=some g->aP v=some g∧ei w S ety sz rows v)∧(∀ g,aP v'=some g->τ=some g∨w.heap.size<=g):=by
  intro b hr hy fj;subst hr hy;have kY:aF=[]:=Tao (by simpa using yt);have aJ:=ZCd (P:=e.P) (w:=w) ts t ty ety i h0 h1 sV hu hi b u (ix w) (by rw [bO];have:=hf e.P w (fun _=>rfl);rw [kY] at this;simpa using this);exact m126
 rcases hv with hv | ⟨hv,bq⟩
 ·have ue:=hv;obtain ⟨_,_,h3⟩:=hv;rcases h3 with ⟨hr,b,fj⟩ | ⟨g,cap,bc,fj,hc,hg,hs,hh,sR,hm,ez,hr⟩
  ·by_cases sZ:ys=[]
   ·exact vY b hr sZ fj
   ·have vC:0 < ys.length:=List.length_pos_iff.2 sZ;subst hr;refine grow b 0 [] fj (by simpa using vC) (by simp [aC]) (fun P w' _=>?_);rw [fj]
    cases b <;> simp [Builtin.firstCells,loadCells,loadCellsFrom]
  ·by_cases iz:rows.length+ys.length<=cap
   ·have iq:rows.length * i.size+aF.length<=bc.size:=by rw [yt,bO,ez,<- Nat.add_mul];exact Nat.mul_le_mul_right _ iz
    have aJ:=ZCc (P:=e.P) (w:=w) ts t ty ety i h0 h1 sV hu hi g rows.length cap bc hh u ys.length aF (ix w) (by rw [bO];exact hf _ _ (fun _=>rfl)) rk iz iq;rw [<- fj] at aJ;rw [bO] at aJ iq;have bA:=Zgm w g (rows.length * sz) ety aF bc hh iq;have ce:=setRow_heap w g bc (bc.toList.take (rows.length * sz)++aF++bc.toList.drop (rows.length * sz+aF.length)).toArray ety _ hh
    have iN:(w.setRow g (bc.toList.take (rows.length * sz)++aF++bc.toList.drop (rows.length * sz+aF.length)).toArray).drawn=w.drawn:=Zfn _ _ _;generalize hW:w.setRow g (bc.toList.take (rows.length * sz)++aF++bc.toList.drop (rows.length * sz+aF.length)).toArray=W at aJ bA ce iN;have hszW:W.heap.size=w.heap.size:=bA.size;have ky:∀ b o,S b->W.cell? ⟨b,o,none⟩=w.cell? ⟨b,o,none⟩:=fun b o hsb=>qE (bA.other b (fun e=>hs (e ▸ hsb))) o
    refine ⟨_,_,aJ,⟨fg,vu,.inr ⟨g,cap,_,by simp,hc,om,hs,ce,by simpa using iz,hm,by simp;omega,?_⟩⟩,some g,⟨bA.os,bA.tape,bA.output,fun _=>Nat.le_of_eq iN.symm,om,fun b hb hE=>bA.other b (fun eq=>hE (by rw [eq]))⟩,fun q hq=>?_,fun q hq=>?_⟩
    ·apply b7.of_flat;rw [List.flatten_append];have r1:=bn.keepAt (S':=S) om ky (fun _ h=>h) g 0 rows.flatten (fun j hj=>bA.old _ (.inl (by rw [oL dX] at hj;omega))) hr.flat;refine bn.append _ _ 0 r1 ?_;rw [oL dX,Nat.zero_add];exact bn.of_vals _ aF _ (aC.keep2 om ky (fun _ h=>h) jU) bA.new
    ·injection hq with hq;subst hq
     exact ⟨by rw [fj];simp only [aP];rw [if_neg om],ue⟩
    ·simp only [aP] at hq;rw [if_neg om] at hq;exact .inl hq
   ·obtain ⟨b',dz,cc,q1,_,_,q2,q3⟩:=ZkM ue;rw [fj] at q1;injection q1 with e1 e2 e3
    exact grow _ _ cc fj om q2 q3
 ·obtain ⟨jY,b,n,fj⟩:=hv;obtain ⟨b',dz,cc,q1,q2,q3,q4,q5⟩:=ZiG dX jY;rw [fj] at q1;injection q1 with e1 e2 e3
  by_cases sZ:ys=[]
  ·have hr:rows=[]:=by
    rcases bq with h | h
    ·exact h
    ·exact absurd sZ h
   refine vY b hr sZ ?_;rw [fj];have:n=0:=by rw [e2,hr];rfl
   rw [this]
  ·have vC:0 < ys.length:=List.length_pos_iff.2 sZ;exact grow b n cc (by rw [fj,e2]) om q4 q5
end
def d9 (s:ByteArray):List (List C):=s.data.toList.map fun b=>[.lit (.int .u8 b.toNat)]
theorem wL (s:ByteArray):(d9 s).length=s.size:=by rw [d9,Tay,Array.length_toList];rfl
theorem Zti (s:ByteArray):rowsLen 1 (d9 s):=fun r hr=>by
 obtain ⟨b,_,rfl⟩:=Tbi.1 hr;exact ⟨rfl,rfl⟩
theorem Zma (s t:ByteArray):d9 s++d9 t=d9 (s++t):=by
 rw [d9,d9,d9,<- Tbv];congr 1
theorem ZDX (s:ByteArray):(d9 s).flatten=(Lib.strCells s).map C.lit:=by
 rw [d9,Lib.strCells,List.map_map]
 induction s.data.toList with
 | nil=>rfl
 | cons b l ih=>simp only [Tbu,List.flatten_cons,ih,Taf,Tah];rfl
theorem Zln {w:World} {S:Nat->Prop}:∀ vs:List Value,aC w S (vs.map C.lit) vs
 | []=>by simp [aC]
 | v::vs=>by simp only [Tbu,aC,aQ];exact ⟨trivial,Zln vs⟩
section
variable {e:Env} {K:St->Prop} {ds:List (Option Nat)} {os:List Oper} {s:List (Nat × A)} {m:List (Nat × Bk)}
theorem ZCe {o:Oper} {y:Operand} {t d:Nat} {str:ByteArray} (ho:o.op=.call ⟨.builtin .append,#[x,y],#[t,t2]⟩) (i7:o.dst=some d) (hb:jc e.P t=some (ety,1,by')) (sV:e.P.underlying t2=some .string)
  (hx:aL σ.s x=.buf k) (hm:gm σ.m k=some (.buf oa ety 1 rows)) (hy:aL σ.s y=.d (.one (.lit (.string str)))) (ct:rows.length+(d9 str).length<=ak) (hK:K ⟨(d,.buf d)::bM d (bM k σ.s),(d,.buf none ety 1 (rows++d9 str))::aA d (aA k σ.m)⟩):iT e o σ K:=by
 intro he U w0 S0 nt a w Q hd ⟨S,L,h⟩;have bj:a.eval x=L.v k:=by have:=h.eval x;rw [hx] at this;exact this
 have iC:a.eval y=.string str:=by have:=h.eval y;rw [hy] at this;simpa [ax,aW,aQ] using this
 have bZ:ei w S ety 1 rows (L.v k):=(h.cls.own k _ hm).2
 obtain ⟨v',w',aJ,ge,τ,hk,hτ,fO⟩:=ZuN (ty:=o.type) (ts:=#[t,t2]) (v:=L.v k) (u:=.string str) he h.cls rfl rfl sV hb (.inl bZ) bZ.2.1 (Zti str) ct
  ⟨Lib.strCells str,fun w'=>by simp [Builtin.lenOf,wL],by rw [ZDX];exact Zln _,fun P w' _=>by rw [wL];exact Lib.run_firstCells_string w' 1 str⟩
 unfold Oper.wp;have pK:(execOp a.eval o).run e.P w=.ok (.value v') w':=by
  exact m271
 rw [pK,Oper.upon_value,i7];refine ⟨_,hK,h.born he (hd d i7) (τ:=τ) (b':=0) (v':=v') (s1:=bM k σ.s) (m1:=aA k σ.m) (fun _ h=>h) (fun _ h=>.inl h) (fun t=>?_) (fun k' x hx=>?_) (fun g hg=>?_) (fun k' x g cj hx hg dC=>?_) hk ?_ (fun g hg=>?_) (by simp [ax])⟩
 ·rcases Am k t σ.s with ⟨h1,_⟩ | h1
  ·exact .inl h1
  ·exact .inr h1
 ·rw [iL] at hx;split at hx
  ·cases hx
  ·exact hx
 ·have fo:=(hτ g hg).1;exact ⟨(bL.lt (k:=k) (L:=L) (bk:=.buf none ety 1 rows) ⟨by simp,bZ⟩ fo).2,h.cls.notE hm fo,h.cls.mine k _ g hm fo⟩
 ·have fo:=(hτ g hg).1;rw [iL] at hx;split at hx
  ·cases hx
  ·rename_i vj;exact vj (h.cls.inj k' k x _ g hx hm dC fo)
 ·simp only [bL,if_true];exact ⟨by simp,ge⟩
 ·simp only [cQ,if_true] at hg;exact fO g hg
theorem ZqF:∀ (l:List UInt8) (oS:ByteArray),(l.map fun b=>(b.toNat:Int)).foldl (fun r n=>r.push (UInt8.ofNat n.toNat)) oS=⟨oS.data++l.toArray⟩
 | [],oS=>by simp
 | b::l,oS=>by
  rw [Tbu,List.foldl_cons,ZqF l];rw [(by simp:UInt8.ofNat ((b.toNat:Int)).toNat=b)];simp [ByteArray.push]
theorem ZDY (s:ByteArray):(s.data.toList.map fun b=>(b.toNat:Int)).foldl (fun r n=>r.push (UInt8.ofNat n.toNat)) ByteArray.empty=s:=by
 rw [ZqF];show (⟨#[]++s.data.toList.toArray⟩:ByteArray)=s;simp
theorem ZuO {o:Oper} {t d:TypeId} {str:ByteArray} (ho:o.op=.convert t d x) (hx:aL σ.s x=.buf k) (hm:gm σ.m k=some (.buf oa ety 1 (d9 str))) (ht:At e.P t d=true) (hK:K ⟨aI σ.s o.dst (.d (.one (.lit (.string str)))),σ.m⟩):iT e o σ K:=by
 intro he U w0 S0 nt a w Q hd ⟨S,L,h⟩;have bj:a.eval x=L.v k:=by have:=h.eval x;rw [hx] at this;exact this
 have bZ:ei w S ety 1 (d9 str) (L.v k):=(h.cls.own k _ hm).2;have aJ:(convert t d (L.v k)).run e.P w=.ok (.string str) w:=by
  unfold At at ht;split at ht
  ·rename_i e1 h1 h2;split at ht
   ·rename_i h3;have key:∀ (b:Option Addr) (cap:Nat),L.v k=.slice b str.size cap->(∀ ad,b=some ad->(loadCells ad str.size).run e.P w=.ok ((str.data.toList.map fun b=>(b.toNat:Int)).map (Value.int .u8)).toArray w)->(b=none->str.size=0)->(convert t d (L.v k)).run e.P w=.ok (.string str) w:=fun b cap hv hl hn=>by
     rw [hv,run_convert_bytes_string w t d e1 b _ cap h1 h3 h2]
     cases b with
     | none =>
      have h0:=hn rfl;have:str=ByteArray.empty:=by
       cases str with
       | mk data=>simp only [ByteArray.size] at h0;rw [Array.eq_empty_of_size_eq_zero h0];rfl
      rw [this];simp [Conv.bytesToString]
     | some ad =>
      rw [run_bytesToString w ad _ cap _ (hl ad rfl),ZDY]
    rcases bZ.2.2 with ⟨hr,b,hv⟩ | ⟨g,cap,bc,hv,hc,hg,hs,hh,sR,dg,ez,hr⟩
    ·have h0:str.size=0:=by rw [<- wL,hr];rfl
     have r9:str.data.toList=[]:=Tao (by rw [Array.length_toList];exact h0);refine key b 0 (by rw [hv,h0]) (fun ad _=>?_) (fun _=>h0);rw [h0,r9];simp [loadCells,loadCellsFrom]
    ·rw [wL] at hv;refine key _ cap hv (fun ad had=>?_) (fun hb=>by cases hb);injection had with had
     subst had;have hl:=run_loadCells_list (P:=e.P) w ⟨g,0,none⟩ ((str.data.toList.map fun b=>(b.toNat:Int)).map (Value.int .u8)) (fun j u hj=>by
      rw [Tba,Tba] at hj;obtain ⟨b,hb,rfl⟩:∃ b,str.data.toList[j]?=some b∧u=.int .u8 b.toNat:=by
       cases hq:str.data.toList[j]? with
       | none=>rw [hq] at hj;cases hj
       | some b=>rw [hq] at hj;injection hj with hj;exact ⟨b,rfl,hj.symm⟩
      have h1:=b7.get (d9 str) 0 j [.lit (.int .u8 b.toNat)] (k:=1) (fun z hz=>(Zti str z hz).1) hr (by rw [d9,Tba,hb];rfl);rw [Addr.add_at];simpa [bn,aQ] using h1)
     rw [Tay,Tay,Array.length_toList] at hl;exact hl
   ·cases ht
  ·cases ht
 unfold Oper.wp;have pK:(execOp a.eval o).run e.P w=.ok (.value (.string str)) w:=by
  simp [execOp,ho,bj,aJ,Result.andThen]
 rw [pK,Oper.upon_value];exact ⟨_,hK,S,L,h.put (α:=.d (.one (.lit (.string str)))) (by simp [ax,aW,aQ]) hd⟩
theorem gSt {d t:Nat} {y:Operand} {str:ByteArray} {s2:List (Nat × A)} {m2:List (Nat × Bk)} (ct:rows.length+(d9 str).length<=ak) (sV:e.P.underlying t2=some .string) (hK:al e ds 0 os ⟨(d,.buf d)::s2,(d,.buf none ety 1 (rows++d9 str))::m2⟩ K)
  (hb:jc e.P t=some (ety,1,by'):=by exact j5) (hx:aL s x=.buf k:=by exact j5) (hm:gm m k=some (.buf oa ety 1 rows):=by exact nf) (hy:aL s y=.d (.one (.lit (.string str))):=by exact j5)
  (hs:bM d (bM k s)=s2:=by exact cJ) (hr:aA d (aA k m)=m2:=by exact cJ):al e ds 0 (⟨some d,.call ⟨.builtin .append,#[x,y],#[t,t2]⟩,ty,p,ed,none⟩::os) ⟨s,m⟩ K:=by
 subst hs hr;simp only [al] at hK ⊢;exact ut rfl (ZCe rfl rfl hb sV hx hm hy ct hK)
theorem gTx {d t1:Nat} (str:ByteArray) (ht:At e.P t1 t2=true) (hK:al e ds 0 os ⟨(d,.d (.one (.lit (.string str))))::s,m⟩ K) (hx:aL s x=.buf k:=by exact j5) (hm:gm m k=some (.buf oa ety 1 (d9 str)):=by exact nf):al e ds 0 (⟨some d,.convert t1 t2 x,ty,p,ed,none⟩::os) ⟨s,m⟩ K:=by
 simp only [al] at hK ⊢;exact ut rfl (ZuO (o:=⟨some d,.convert t1 t2 x,ty,p,ed,none⟩) rfl hx hm ht hK)
end
theorem m201 {p:Prop} (h:p:=by
 unfold IntKind.wrap;simp only [IntKind.signed,IntKind.bits];exact Int.emod_eq_of_lt om om):p:=h
theorem m188 {p:Prop} (h:p:=by
 refine dT @ae @ae ?_;exact (have F:=ae;eU (R:=CU (s++jP i)) [1001] ⟨a3,ou,rfl,rfl⟩)):p:=h
def jP (i:Int):ByteArray:=⟨(dv i).toArray⟩
theorem ZCf {i:Int} (h0:0<=i) (h1:i < 14):az e0 345 [.one (.lit (.int .i64 i))] [.one (.lit (.string (jP i)))]:=by
 have h:i=0∨i=1∨i=2∨i=3∨i=4∨i=5∨i=6∨i=7∨i=8∨i=9∨i=10∨i=11∨i=12∨i=13:=om;rcases h with rfl | rfl | rfl | rfl | rfl | rfl | rfl | rfl | rfl | rfl | rfl | rfl | rfl | rfl
 all_goals (
  have w1:IntKind.i64.wrap (0+1)=1:=by decide
  have w2:IntKind.i64.wrap (1+1)=2:=by decide
  have w3:IntKind.i64.wrap (2+1)=3:=by decide
  have w4:IntKind.i64.wrap (3+1)=4:=by decide
  have w5:IntKind.i64.wrap (4+1)=5:=by decide
  have w6:IntKind.i64.wrap (5+1)=6:=by decide
  have w7:IntKind.i64.wrap (6+1)=7:=by decide
  have w8:IntKind.i64.wrap (7+1)=8:=by decide
  have w9:IntKind.i64.wrap (8+1)=9:=by decide
  have wa:IntKind.i64.wrap (9+1)=10:=by decide
  have u0:IntKind.i64.wrap (10 * 2)=20:=by decide
  have u1:IntKind.i64.wrap (11 * 2)=22:=by decide
  have u2:IntKind.i64.wrap (12 * 2)=24:=by decide
  have u3:IntKind.i64.wrap (13 * 2)=26:=by decide
  have v0:IntKind.i64.wrap (20+2)=22:=by decide
  have v1:IntKind.i64.wrap (22+2)=24:=by decide
  have v2:IntKind.i64.wrap (24+2)=26:=by decide
  have v3:IntKind.i64.wrap (26+2)=28:=by decide
  refine gI (ts:=[.slot 2]) 21 Tryz.func345 ?_
  (exact fD (aj16 @w1 @w2 @w3 @w4 @w5 @w6 @w7 @w8 @w9 @wa @u0 @u1 @u2 @u3 @v0 (aj3 @v1 @v2 @v3))))
theorem ZFP (s:ByteArray):ZaB 1 (d9 s)=true:=by
 unfold d9
 induction s.data.toList with
 | nil=>rfl
 | cons b l ih=>simp only [Tbu,zb,ih,Bool.and_true];rfl
def CU (s:ByteArray) (r:List D) (pm:List Bk):Prop:=∃ a cap,r=[.one (.lit (.slice a (d9 s).length cap))]∧pm=[.buf (some (a,cap)) 5 1 (d9 s)]
theorem ZHj {P:Program} {t:TypeId} {a b:Int}:cv P .lss t (.int .u64 a) (.int .u64 b)=some (.bool (decide (a < b))):=rfl
theorem ZpH:wx (Tryz.prog.underlying 303)=some .u64:=by kernel_rfl
theorem ZHk:Tryz.prog.underlying 303=some (.int .u64):=by kernel_rfl
theorem Zw6:wx (Tryz.prog.underlying 2)=some .i64:=by kernel_rfl
theorem Zw7:e0.P.underlying 9=some .string:=by kernel_rfl
theorem ZqG {i:Int} (h0:0<=i) (h1:i < 14) (s:ByteArray) (hl:s.size<=1000000) (a:Option Addr) (cap:Nat):aR e0 340 [.one (.lit (.slice a (d9 s).length cap)),.one (.lit (.int .u64 i)),.one (.lit (.int .i64 10))] [.buf (some (a,cap)) 5 1 (d9 s)] (CU (s++jP i)):=by
 have w1:IntKind.i64.wrap i=i:=IntWalk.i64_in _ om;have l1:(d9 s).length+(d9 (jP i)).length<=ak:=by
  rw [wL,wL];have:(jP i).size<=3:=by unfold jP dv xZ;show (List.toArray _).size<=3;rw [List.size_toArray];split <;> split <;> simp
  unfold ak;omega
 refine dK (ts:=[.slot 6]) [1000] 5575 Tryz.func340 ?_;refine bz 3 (aj3 (eq_true om:(i < 100)=True) @ZHj @ae) (aj6 @w1 @ZpH @ZHk @zq @Zjw @ae) (ZCf h0 h1) ?_;refine gK 13 ?_;refine (have F:=ae;gSt l1 Zw7 ?_);rw [Zma];refine gS 17 fun a2 dB=>?_;refine dT @ae @ae ?_;exact (have F:=ae;eU (R:=CU (s++jP i)) [17] ⟨a2,dB,rfl,rfl⟩)
theorem ZCg {i:Int} (h0:-1<=i) (h1:i < 14) (s:ByteArray) (hl:s.size<=100000) (a:Option Addr) (cap:Nat):aR e0 326 [.one (.lit (.slice a (d9 s).length cap)),.one (.lit (.int .i64 i)),.one (.lit (.int .i64 10))] [.buf (some (a,cap)) 5 1 (d9 s)] (CU (s++jP i)):=by
 refine dK (ts:=[.slot 6]) [1000] 2247 Tryz.func326 ?_;by_cases hn:i < 0
 ·obtain rfl:i=-1:=by omega
  have q1:=lT (-1) 0;have w1:IntKind.u64.wrap (-1)=18446744073709551615:=by decide
  have w2:IntKind.u64.wrap (0 - 18446744073709551615)=1:=by decide
  have l1:(d9 s).length+1<=ak:=by rw [wL];unfold ak;omega
  have l2:ZaB 1 (d9 s)=true:=ZFP s;have e1:d9 s++[[.lit (.int .u8 45)]]=d9 (s++⟨#[45]⟩):=by rw [<- Zma];rfl
  have e2:s++⟨#[45]⟩++jP 1=s++jP (-1):=by rw [ByteArray.append_assoc];rfl
  have cU:=fun a cap=>ZqG (i:=1) om om (s++⟨#[45]⟩) (by rw [ByteArray.size_append];show s.size+1<=_;omega) a cap;rw [e2] at cU;refine nJ 3 (aj6 @q1 @w1 @ZpH @Zw6 @xK @ae) ?_;refine fR (aj4 @l1 @l2 @e1 @ae) ?_;refine fN 5 (aj3 @w2 @Aa.eq_3 @ae) ?_;refine pS 0 fun a2 dB=>?_;refine gB ?_;have F:=@ae;refine bR [0] [1001] (cU a2 dB) ?_;rintro r pm ⟨a3,ou,rfl,rfl⟩;refine m7 ?_
  refine dT @ae @ae ?_;exact (have F:=ae;eU (R:=CU (s++jP (-1))) [1001] ⟨a3,ou,rfl,rfl⟩)
 ·have w1:IntKind.u64.wrap i=i:=by
   have h:=@Int.emod_eq_of_lt;exact m201
  refine nJ 5 (aj6 (eq_false hn:(i < 0)=False) @w1 @ZpH @Zw6 @xK @ae) ?_;have F:=@ae;refine bR [1000] [1001] ((ZqG om h1 s om a cap)) ?_;rintro r pm ⟨a3,ou,rfl,rfl⟩;refine m7 ?_;exact m188
theorem ZmH {i:Int} (h0:-1<=i) (h1:i < 14) (s:ByteArray) (hl:s.size<=100000) (a:Option Addr) (cap:Nat):aR e0 305 [.one (.lit (.slice a (d9 s).length cap)),.one (.lit (.int .i64 i)),.one (.lit (.int .i64 10))] [.buf (some (a,cap)) 5 1 (d9 s)] (CU (s++jP i)):=by
 refine dK (ts:=[.slot 6]) [1000] 71 Tryz.func305 ?_;refine nJ 1 @ae ?_;have F:=@ae;refine bR [1000] [1001] (ZCg h0 h1 s hl a cap) ?_;rintro r pm ⟨a3,ou,rfl,rfl⟩;refine m7 ?_;exact m188
theorem m179 {X Y:Prop} (b:Y) (h:Bx Y->X:=by
 intro B0
 refine pV 3 fun b3 Bp=>?_;refine pV 4 fun b4 sM=>?_;have bq:b3≠b4:=fun e=>sM 3 b3 _ (by decide) rfl e.symm;clear Bp sM;have gg:(b3=b4)=False:=eq_false bq;have cy:(b4=b3)=False:=eq_false (fun e=>bq e.symm);exact B0.o b3 b4 bq gg cy):X:=h ⟨b⟩
def bs (l:List UInt8):ByteArray:=⟨l.toArray⟩
theorem ZoD (l m:List UInt8):bs l++bs m=bs (l++m):=by
 apply ByteArray.ext;rw [ByteArray.data_append];simp [bs]
theorem Zmb (l:List UInt8):(bs l).size=l.length:=by show (List.toArray l).size=_;simp
theorem ZqH (s:ByteArray):bs s.toList=s:=by
 rw [ByteArray.toList_eq];unfold bs;simp
theorem Zw8 {i:Int} (h1:i < 100):(dv i).length<=3:=by
 unfold dv xZ;split <;> split <;> simp
mutual
theorem Ztj {g:Sgn} (hg:SgnOk g):∀ (t:Tm),dt g t->(oQ t).length<=22 * am t
 | .mk op nm so args,h=>by
  have h1:=ZqI hg args (by simp only [dt] at h;exact h.2.1);have hk:=Zin hg _ h;simp only [sF] at hk;obtain ⟨k0,k1,k2,k3,_⟩:=hk;have d1:=Zw8 (i:=op) om;simp only [oQ,am,Tae,Tag,Tak];split
  ·have d2:=Zw8 (i:=so) (by have:=(k2 om).2.2;omega);have hn:iS nm=true:=by
    rcases h.node with hv | ⟨o,d,hA⟩
    ·exact hv.2.1
    ·have:=hA.lo;have:(Tm.mk op nm so args).op=op:=rfl;omega
   have h4:¬ 12 < nm.size:=fun h=>by rw [wt (.inr (.inl h))] at hn;cases hn
   have h5:nm.toList.length=nm.size:=by rw [ByteArray.toList_eq];exact Array.length_toList
   simp only [Tag,Tae];omega
  ·simp only [Tak];omega
theorem ZqI {g:Sgn} (hg:SgnOk g):∀ (ts:List Tm),rL g ts->(gJ ts).length<=22 * av ts
 | [],_=>by simp [gJ,av]
 | t::ts,h=>by
  simp only [rL] at h;have h1:=Ztj hg t h.1;have h2:=ZqI hg ts h.2;simp only [gJ,av,Tae];omega
end
theorem ZuP {l:List Tm} {i:Nat} (h:l[i]?=some t):gJ (l.take (i+1))=gJ (l.take i)++oQ t:=by
 rw [show l.take (i+1)=l.take i++[t] by simp [List.take_add_one,h],Zye];simp [gJ]
theorem ZqJ:∀ (l:List Tm) (i:Nat),(gJ (l.take i)).length<=(gJ l).length
 | [],i=>by simp [gJ]
 | x::xs,0=>by simp [gJ]
 | x::xs,i+1=>by have:=ZqJ xs i;simp only [Tbc,gJ,Tae];omega
theorem ZoE:∀ {ts:List Tm},wD ts->∀ t∈ts,sF t
 | _::_,h,t,ht=>by
  simp only [wD] at h;rcases Tbg.1 ht with rfl | ht
  ·exact h.1
  ·exact ZoE h.2 t ht
def jZ (op:Int) (nm:ByteArray) (so:Int):List UInt8:=dv op++(if op < 0 then 58::(nm.toList++58::dv so) else [])
theorem ZGA (op:Int) (nm:ByteArray) (so:Int) (args:List Tm):oQ (.mk op nm so args)=jZ op nm so++[40]++gJ args++[41]:=by
 simp [oQ,jZ,Tbf]
theorem Zyf:nZ Tryz.prog 213=some .one:=by kernel_rfl
theorem ZFQ:pd Tryz.prog 213=some 1:=by kernel_rfl
theorem ZHW:iJ Tryz.prog 213=some [.lit .nilFunc]:=by kernel_rfl
theorem ZHl:aY (.lit .nilFunc)=true:=rfl
def gt (b:Nat):Value:=.pointer (some ⟨b,0,none⟩)
def xq (bo bv:Nat) (f:FuncId) (s:ByteArray) (r:List D) (pm:List Bk):Prop:=∃ a cap,r=[]∧pm=[.var (some bo) [.lit (.slice a (d9 s).length cap)],.buf (some (a,cap)) 5 1 (d9 s),.var (some bv) [.fn f [.lit (gt bo),.lit (gt bv)]]]
theorem gTPk {X:Prop} {P:Program} {ts:List RS} {R:List D->List Bk->Prop} (ks:List Nat) (hR:R r pm) (hx:DB P ts R .normal σ->X:=by first | exact fun h=>h | exact fun h=>⟨_,Wk.refl _,h⟩) (hr:lJ P σ ts=some r:=by exact sfy) (hg:ej σ.m ks=some pm:=by exact nh) (hn:ks.Nodup:=by decide) (hp:pm.all pinned=true:=by exact nh):X :=
 hx ⟨r,ks,pm,hg,hn,hp,hR,De hr⟩
theorem ZuQ (t:Tm) (hk:sF t) (bO:am t<=60) (l:List UInt8) (a:Option Addr) (cap bo bv:Nat) (bq:bo≠bv) (hl:l.length+(oQ t).length<=90000)
  (h:∀ x∈t.args,∀ (l:List UInt8) (a:Option Addr) (cap:Nat),l.length+(oQ x).length<=90000->aR e0 304 [.agg (an x),.one (.lit (gt bo)),.one (.lit (gt bv))] [.var (some bo) [.lit (.slice a (d9 (bs l)).length cap)],.buf (some (a,cap)) 5 1 (d9 (bs l)),.var (some bv) [.fn 304 [.lit (gt bo),.lit (gt bv)]]] (xq bo bv 304 (bs (l++oQ x)))) :
  aR e0 304 [.agg (an t),.one (.lit (gt bo)),.one (.lit (gt bv))] [.var (some bo) [.lit (.slice a (d9 (bs l)).length cap)],.buf (some (a,cap)) 5 1 (d9 (bs l)),.var (some bv) [.fn 304 [.lit (gt bo),.lit (gt bv)]]] (xq bo bv 304 (bs (l++oQ t))):=by
 obtain ⟨op,nm,so,args⟩:=t;have hc:an (.mk op nm so args)=[.lit (.int .i64 op),.lit (.string nm),.lit (.int .i64 so),.sl (aq args)]:=by simp only [an]
 have gg:(bo=bv)=False:=eq_false bq;have cy:(bv=bo)=False:=eq_false (fun e=>bq e.symm);simp only [Tm.args] at h;have fh:=uw args;simp only [am] at bO;simp only [gt] at h ⊢;simp only [sF] at hk;obtain ⟨k0,k1,k2,k3,k4⟩:=hk;rw [ZGA] at hl ⊢;simp only [Tae,Tag,Tak] at hl;have rb:=fun l=>ZFP (bs l);have rV:bs l++jP op=bs (l++dv op):=ZoD _ _;have c1:=ZmH k0 k1 (bs l) (by rw [Zmb];omega) a cap
 rw [rV] at c1;have hP:jZ op nm so=dv op++(if op < 0 then 58::(nm.toList++58::dv so) else []):=rfl;have ap:=fun (l:List UInt8) (b:UInt8) (b':Int) (hb:b'=b.toNat)=>show d9 (bs l)++[[.lit (.int .u8 b')]]=d9 (bs (l++[b])) by rw [<- ZoD,<- Zma,hb];rfl
 have ml:=fun (l:List UInt8) (hl:l.length<=90000)=>show ((d9 (bs l)).length+1<=ak)=True from eq_true (by rw [wL,Zmb];unfold ak;omega)
 refine dK (ts:=[]) [1001,1000,1002] 32212258863 Tryz.func304 ?_;refine fN 1 @ae ?_;refine gB ?_;have F:=aj4 @hc @gg @cy @ae;refine bR [1000] [1000] (c1) ?_;clear F;rintro r pm ⟨a1,cap1,rfl,rfl⟩;simp only [aI,bh,aZ,Taf,Tah];refine fR (aj4 @hc @gg @cy @ae) ?_;refine fG (ai @hc @ae) ?_;refine gM (ι:=Option Addr × Nat) [] [1000,1001] (fun x=>[]) (fun x=>[(1001,.var (some bo) [.lit (.slice x.1 (d9 (bs (l++jZ op nm so))).length x.2)]),(1000,.buf (some (x.1,x.2)) 5 1 (d9 (bs (l++jZ op nm so))))]) (fun x=>True) ?_ (fun x hx=>Exists.intro _ (ai (Wk.refl _) ?_))
 ·by_cases ho:op < 0
  ·have q1:(op < 0)=True:=eq_true ho;rw [if_pos ho] at hP;obtain ⟨_,s0,s8⟩:=k2 om;have mv:(bs (l++dv op++[58]))++nm=bs (l++dv op++[58]++nm.toList):=by rw [<- ZqH nm,ZoD,ZqH]
   have e2:bs (l++dv op++[58]++nm.toList++[58])++jP so=bs (l++jZ op nm so):=by
    rw [hP];refine (ZoD _ _).trans ?_;simp [Tbf]
   have jX:=congrArg List.length hP;simp only [Tae,Tag] at jX;have c2:=fun a cap=>ZmH (i:=so) om om (bs (l++dv op++[58]++nm.toList++[58])) (by rw [Zmb];simp only [Tae,Tag,Tak];omega) a cap;rw [e2] at c2;have m1:=ml (l++dv op) (by simp only [Tae];omega);have m2:=ml (l++dv op++[58]++nm.toList) (by simp only [Tae,Tag,Tak];omega);have m3:(d9 (bs (l++dv op++[58]))).length+(d9 nm).length<=ak:=by
    rw [wL,wL,Zmb];have:nm.size=nm.toList.length:=by rw [ByteArray.toList_eq];exact Array.length_toList.symm
    simp only [Tae,Tag,Tak];unfold ak;omega
   have b1:=rb (l++dv op);have b2:=rb (l++dv op++[58]++nm.toList);have p1:=ap (l++dv op) 58 58 rfl;have p2:=ap (l++dv op++[58]++nm.toList) 58 58 rfl;clear hP jX ap ml rb;rw [decide_eq_true ho];refine fN 3 (ai @hc @ae) ?_;refine gB ?_;have F:=aj6 @m1 @b1 @p1 @gg @cy @ae;refine gP 3 ?_;clear F;refine gS 15 fun a2 dB=>?_;refine fR (aj3 @gg @cy @ae) ?_;refine fN 4 @ae ?_;refine gB ?_
   have F:=aj4 @hc @gg @cy @ae;refine gP 3 ?_;clear F;refine gK 16 ?_;refine (have F:=ae;gSt m3 Zw7 ?_);rw [Zma,mv];refine gS 19 fun a3 ou=>?_;refine fR (aj3 @gg @cy @ae) ?_;refine fN 5 @ae ?_;refine gB ?_;have F:=aj6 @m2 @b2 @p2 @gg @cy @ae;refine gP 3 ?_;clear F;refine gS 22 fun a4 AU=>?_;refine fR (aj3 @gg @cy @ae) ?_;refine fN 6 @ae ?_;refine gB ?_;have F:=aj4 @hc @gg @cy @ae;refine bR [22] [1000] (c2 a4 AU) ?_;clear F
   rintro r pm ⟨a5,uQ,rfl,rfl⟩;simp only [aI,bh,aZ,Taf,Tah];refine fR (aj3 @gg @cy @ae) ?_;exact (have F:=ae;⟨(a5,uQ),trivial,gw,gw⟩)
  ·have q1:(op < 0)=False:=eq_false ho;rw [if_neg ho,List.append_nil] at hP;rw [hP,decide_eq_false ho];have F:=ai @hc @ae;refine gG ?_;exact ⟨(a1,cap1),trivial,gw,gw⟩
 obtain ⟨a2,dB⟩:=x;dsimp only;have m1:=ml (l++jZ op nm so) (by simp only [Tae];omega);have b1:=rb (l++jZ op nm so);have p1:=ap (l++jZ op nm so) 40 40 rfl;have e3:l++(jZ op nm so++[40]++gJ args++[41])=l++jZ op nm so++[40]++gJ args++[41]:=by simp [Tbf]
 rw [e3];have hP2:(l++jZ op nm so++[40]).length=l.length+(jZ op nm so).length+1:=by simp only [Tae,Tag,Tak]
 have ca:=ZqJ args;refine fN 7 @ae ?_;refine gB ?_;have F:=aj6 @m1 @b1 @p1 @gg @cy @ae;refine gP 3 ?_;clear F;refine gS 29 fun a3 ou=>?_;refine fR (aj3 @gg @cy @ae) ?_;clear m1 b1 p1 e3 hP c1 rV;generalize l++jZ op nm so++[40]=q at hP2 ⊢;have hq0:q++gJ []=q:=by simp [gJ]
 refine fG (ai @hc @ae) ?_;have F:=@hq0;refine gL (ι:=Nat × Option Addr × Nat) [5,33,34] [29,1001,1002] (fun x=>[(33,.d (.one (.lit (.int .i64 (x.1:Int)))))]) (fun x=>[(1001,.var (some bo) [.lit (.slice x.2.1 (d9 (bs (q++gJ (args.take x.1)))).length x.2.2)]),(29,.buf (some (x.2.1,x.2.2)) 5 1 (d9 (bs (q++gJ (args.take x.1))))),(1002,.var (some bv) [.fn 304 [.lit (.pointer (some ⟨bo,0,none⟩)),.lit (.pointer (some ⟨bv,0,none⟩))]])]) (fun x=>x.1<=args.length) (fun x=>args.length - x.1) ((0,a3,ou)) (Taj _) (fun x hx=>?_);clear F
 obtain ⟨i,a4,AU⟩:=x;simp only at hx;dsimp only;by_cases au:i < args.length
 ·obtain ⟨b,hg⟩:∃ b,args[i]?=some b:=⟨_,Taa au⟩;have q2:=lT i args.length;have q4:IntKind.i64.wrap ((i:Int)+1)=(i:Int)+1:=IntWalk.i64_in _ om;have B5:=ZuP hg;have ct:=ca (i+1);rw [B5,Tae] at ct;have bV:=h b (Tac hg) (q++gJ (args.take i)) a4 AU (by rw [Tae];omega);rw [Tbf,<- B5] at bV;refine fB (aj6 @q2 @hc @bf @sA @hg @ae) ?_;have F:=aj4 @Zyf @gg @cy @ae;refine bR [1001,29,1002] [1001,29,1002] (bV) ?_;clear F
  rintro r pm ⟨a5,uQ,rfl,rfl⟩;simp only [gt,aI,bh,aZ,Taf,Tah];refine fR @ae ?_;have F:=@q4;refine gG ?_;exact ⟨(i+1,a5,uQ),au,gw,gw,om⟩
 ·obtain rfl:i=args.length:=by omega
  have q2:=lF args.length args.length;rw [Tap];have m1:=ml (q++gJ args) (by rw [Tae];omega);have b1:=rb (q++gJ args);have p1:=ap (q++gJ args) 41 41 rfl;refine fN 13 @q2 ?_;refine gB ?_;have F:=aj6 @m1 @b1 @p1 @gg @cy @ae;refine gP 3 ?_;clear F;refine gS 43 fun a5 uQ=>?_;refine fR (aj3 @gg @cy @ae) ?_;exact (have F:=ae;gTPk (R:=xq bo bv 304 (bs (q++gJ args++[41]))) [1001,43,1002] ⟨a5,uQ,rfl,rfl⟩)
theorem Zyg (bo bv:Nat) (bq:bo≠bv) (n:Nat):∀ (t:Tm),am t < n->sF t->am t<=60->∀ (l:List UInt8) (a:Option Addr) (cap:Nat),l.length+(oQ t).length<=90000->aR e0 304 [.agg (an t),.one (.lit (gt bo)),.one (.lit (gt bv))] [.var (some bo) [.lit (.slice a (d9 (bs l)).length cap)],.buf (some (a,cap)) 5 1 (d9 (bs l)),.var (some bv) [.fn 304 [.lit (gt bo),.lit (gt bv)]]] (xq bo bv 304 (bs (l++oQ t))):=by
 induction n with
 | zero=>exact fun _ h=>om
 | succ n ih =>
  intro t hn hk bO l a cap hl;refine ZuQ t hk bO l a cap bo bv bq hl fun x hx l a cap sa=>ih x ?_ ?_ ?_ l a cap sa
  ·have:=qd hx;rw [oK] at hn;omega
  ·obtain ⟨op,nm,so,args⟩:=t;simp only [sF] at hk;exact ZoE hk.2.2.2.2 x hx
  ·have:=qd hx;rw [oK] at bO;omega
theorem ZDZ:At e0.P 79 9=true:=by kernel_rfl
theorem ZCh (hg:SgnOk g) (hf:dt g t) (bO:am t<=60):az e0 243 [.agg (an t)] [.one (.lit (.string (jx t)))]:=by
 have hks:=Ztj hg t hf;have hby0:d9 (bs [])=[]:=rfl;refine gI (ts:=[.slot 2]) 31 Tryz.func243 ?_;refine il 1 @ae 1 @ae ?_;refine gO 5 5 1 ?_;refine gS 5 fun a cap=>?_;refine fR @ae ?_;refine fN 3 (aj3 @ZHW @ZFQ @ae) ?_;refine m179 fun b3 b4 bq gg cy=>?_;refine nJ 4 (aj7 @Zyf @ZFQ @ZHl @aY.eq_4 @gg @cy @ae) ?_;have bV:=Zyg b3 b4 bq _ t (Tan _) (Zin hg t hf) bO [] a cap (by simp only [Tak];omega);simp only [gt,hby0,Tak,Tah] at bV;have F:=aj4 @Zyf @gg @cy @ae;refine bR [3,5,4] [3,5,4] (bV) ?_;rintro r pm ⟨a2,dB,rfl,rfl⟩;simp only [gt,aI,bh,aZ,Taf,Tah];refine fR @ae ?_
 refine wz ?_;refine gB ?_;have F:=aj3 @gg @cy @ae;refine gP 1 ?_;refine gK 10 ?_;refine (have F:=ae;gTx (k:=5) (bs (oQ t)) ZDZ ?_);exact bK @ae @ae
section
open Go.MapKept Go.ChangeMaps
theorem ZoF {l:List (ByteArray × Value)} {k s:ByteArray}:jf (l++[(k,v)]) s=(jf l s).or (if s.toList=k.toList then some v else none):=by
 unfold jf;rw [List.find?_append]
 cases h:l.find? fun p=>s.toList==p.1.toList with
 | some p=>simp
 | none =>
  by_cases e:s.toList=k.toList
  ·simp [List.find?,e]
  ·have e2:(s.toList==k.toList)=false:=beq_eq_false_iff_ne.2 e;simp only [List.find?,e2,Option.or,if_neg e,Option.map_none]
def lg (g:Sgn) (l:List (ByteArray × Value)):Prop:=∀ u,dt g u->∀ v,jf l (jx u)=some v->v=.int .i64 (ao g u:Nat)
def gV (g:Sgn) (n:Nat) (l l':List (ByteArray × Value)):Prop:=∀ u,dt g u->n < am u->jf l (jx u)=none->jf l' (jx u)=none
theorem gV.refl {n:Nat} {l:List (ByteArray × Value)}:gV g n l l:=fun _ _ _ h=>h
theorem gV.trans {n:Nat} {l l' l'':List (ByteArray × Value)} (h:gV g n l l') (h':gV g n l' l''):gV g n l l'':=fun u hu hs h0=>h' u hu hs (h u hu hs h0)
theorem gV.mono {n m:Nat} {l l':List (ByteArray × Value)} (h:gV g n l l') (hn:n<=m):gV g m l l':=fun u hu hs h0=>h u hu om h0
theorem lg.nil:lg g []:=fun u _ v h=>by simp [jf] at h
theorem lg.snoc (hg:SgnOk g) {l:List (ByteArray × Value)} (h:lg g l) (ht:dt g t):lg g (l++[(jx t,.int .i64 (ao g t:Nat))]):=by
 intro u hu v hv;rw [ZoF] at hv
 cases hl:jf l (jx u) with
 | some x =>
  rw [hl] at hv;simp only [Option.some_or,Taq] at hv;subst hv;exact h u hu _ hl
 | none =>
  rw [hl,Option.none_or] at hv;by_cases e:(jx u).toList=(jx t).toList
  ·rw [if_pos e] at hv;obtain rfl:=Zth hg hu ht e;simpa using hv.symm
  ·rw [if_neg e] at hv;cases hv
theorem gV.snoc (hg:SgnOk g) {l:List (ByteArray × Value)} (ht:dt g t):gV g (am t) l (l++[(jx t,v)]):=by
 intro u hu hs h0;rw [ZoF,h0,Option.none_or,if_neg];intro e;obtain rfl:=Zth hg hu ht e;omega
section
variable {e:Env} {K:St->Prop} {ds:List (Option Nat)} {os:List Oper} {s:List (Nat × A)} {m:List (Nat × Bk)}
theorem gLo {d t:Nat} {y:Operand} {l:List (ByteArray × Value)} {k:ByteArray} {kt el:TypeId} {z:Value} {f:Bool} (κ:Nat) (ht:e.P.underlying t=some (.map kt el)) (hk:e.P.underlying kt=some .string) (hz:∀ w,(zeroValue el).run e.P w=.ok z w) (hv:(jf l k).getD z=v) (hf:(jf l k).isSome=f)
  (hK:al e ds 0 os ⟨(d,.tup [.one (.lit v),.one (.lit (.bool f))])::s,m⟩ K) (hx:aL s x=.d (.one (.lit (.map (some b)))):=by exact j5) (hy:aL s y=.d (.one (.lit (.string k))):=by exact j5) (hm:gm m κ=some (eI b l):=by exact nf):al e ds 0 (⟨some d,.lookup t x y true,ty,p,ed,none⟩::os) ⟨s,m⟩ K :=
 Zgt rfl (Zqn rfl ht hk hz hx hy hm (α:=.tup [.one (.lit v),.one (.lit (.bool f))]) (fun w S L=>by
  rw [hv,hf];exact ⟨[v,.bool f],rfl,by simp [cx,aW,aQ]⟩) hK)
theorem ZhT:e0.P.underlying 178=some (.map 9 3):=by kernel_rfl
theorem ZCi:∀ w,(zeroValue 3).run e0.P w=.ok (.int .i64 0) w:=fun w=>by kernel_rfl
end
end
theorem m300 {p:Prop} (h:p:=by
 have F:=aj8 @q2 @gH @ru @gu @mw @rg @dY @ae;exact m104):p:=h
theorem CC {p:Prop} (h:p:=by
 refine gG ?_;exact ⟨false,e,gw,gw⟩):p:=h
theorem te {X Y:Prop} (b:Y) (h:Bx Y->X:=by
 intro B0
 have rl:=fr (l:=sets);have rr:=fX (l:=sets);exact B0.o rl rr):X:=h ⟨b⟩
theorem Cn {X Y:Prop} (b:Y) (h:Bx Y->X:=by
 intro B0
 have w1:IntKind.i64.wrap ((sets.length:Int) - 1)=((sets.length - 1:Nat):Int):=dI om om om;exact B0.o w1):X:=h ⟨b⟩
theorem m191 {p:Prop} (h:p:=by
 refine gG ?_;exact ⟨(i+1,bE (tu g v (i+1)) g.sorts.names.length),⟨au,rfl⟩,gw,gw,om⟩):p:=h
theorem m171 {p:Prop} (h:p:=by
 refine gG ?_;exact ⟨(i+1,bE (un P (o.decls.take (i+1))) g.sorts.names.length),⟨au,rfl⟩,gw,gw,om⟩):p:=h
theorem m116 {p:Prop} (h:p:=by
 have e:false=decide (cm d sets (j+1)):=(decide_eq_false fun h=>by
  have:=tX.1 h;rw [decide_eq_true this.1] at iZ
  cases iZ).symm
 have F:=@ae;refine gG ?_;exact ⟨false,e,gw,gw⟩):p:=h
theorem m104 {p:Prop} (h:p:=by
 refine gG ?_;exact ⟨(i+1,bE (uj g P (o.decls.take (i+1))) g.sorts.names.length),⟨au,rfl⟩,gw,gw,om⟩):p:=h
theorem m90 {p:Prop} (h:p:=by
 refine li fun b _=>?_;constructor
 ·rintro ⟨x,hx,h1,h2⟩;rcases Tbh.1 hx with hx | hx
  ·exact ⟨x,hx,h1,h2⟩
  ·rw [Tbj.1 hx] at h1;exact absurd h1 h
 ·rintro ⟨x,hx,h1,h2⟩;exact ⟨x,List.mem_append_left _ hx,h1,h2⟩):p:=h
theorem m75 {p:Prop} (h:p:=by
 constructor
 ·rintro ⟨x,hx,h1,h2⟩;rcases Tbh.1 hx with hx | hx
  ·exact .inl ⟨x,hx,h1,h2⟩
  ·rw [Tbj.1 hx] at h2;exact .inr h2
 ·rintro (⟨x,hx,h1,h2⟩ | h2)
  ·exact ⟨x,List.mem_append_left _ hx,h1,h2⟩
  ·exact ⟨d,List.mem_append_right _ (Tbj.2 rfl),h,h2⟩):p:=h
theorem Zhr {e:Env} {a b:D} (h:az e f [a,b,.one (.sl rows)] r):az e f [a,b,.clip rows] r :=
 ⟨h.1,fun w S vs hS hE hG hv=>h.2 w S vs hS hE hG (by
  match vs,hv with
  | [x,y,z],hv=>exact ⟨hv.1,hv.2.1,hv.2.2.1.1,trivial⟩)⟩
def cm (d:Dcl) (sets:List Nat) (n:Nat):Prop:=∀ (i:Nat) k s,i < n->d.args[i]?=some k->sets[i]?=some s->s.testBit k.toNat=true
theorem cm.zero:cm d sets 0:=fun i k s h=>absurd h (Nat.not_lt_zero i)
theorem cm.succ {n:Nat} {k:Int} {s:Nat} (hk:d.args[n]?=some k) (hs:sets[n]?=some s):cm d sets (n+1) ↔ cm d sets n∧s.testBit k.toNat=true:=by
 constructor
 ·exact fun h=>⟨fun i k s hi=>h i k s om,h n k s om hk hs⟩
 ·rintro ⟨h1,h2⟩ i k' s' hi eV iA;by_cases e:i=n
  ·subst e;rw [hk] at eV;rw [hs] at iA;injection eV with eV
   injection iA with iA
   subst eV iA;exact h2
  ·exact h1 i k' s' om eV iA
theorem cm.full:cm d sets d.args.length ↔ ∀ (i:Nat) k s,d.args[i]?=some k->sets[i]?=some s->s.testBit k.toNat=true :=
 ⟨fun h i k s hk hs=>h i k s (Tad.1 hk).1 hk hs,fun h i k s _ hk hs=>h i k s hk hs⟩
def uj (g:Sgn) (P:Dcl->Prop) (ds:List Dcl) (b:Nat):Prop:=∃ d∈ds,P d∧(vZ g d.res).testBit b=true
theorem ZGB:bE (uj g P []) N=0:=Zih fun b _ h=>by
 obtain ⟨d,hd,_⟩:=h
 cases hd
theorem ZHn {ds:List Dcl} (h:P d) (hu:vZ g d.res < 2 ^ N):bE (uj g P (ds++[d])) N=bE (uj g P ds) N ||| vZ g d.res:=by
 rw [<- Zii hu,AC];refine li fun b _=>?_;exact m75
theorem ZHX {ds:List Dcl} (h:¬ P d):bE (uj g P (ds++[d])) N=bE (uj g P ds) N:=by
 exact m90
theorem ZHo:bE (uj g (fun d=>cm d sets d.args.length∨(o.comm=true∧cm d sets.reverse d.args.length)) o.decls) N=bE (lX g o sets) N:=by
 refine li fun b _=>?_;unfold lX pl;constructor
 ·rintro ⟨d,hd,h1,h2⟩;rcases h1 with h1 | ⟨h0,h1⟩
  ·exact .inl ⟨d,hd,cm.full.1 h1,h2⟩
  ·exact .inr ⟨h0,d,hd,cm.full.1 h1,h2⟩
 ·rintro (⟨d,hd,h1,h2⟩ | ⟨h0,d,hd,h1,h2⟩)
  ·exact ⟨d,hd,.inl (cm.full.2 h1),h2⟩
  ·exact ⟨d,hd,.inr ⟨h0,cm.full.2 h1⟩,h2⟩
theorem mH {v:Nat} (h:v < 2 ^ N) (hN:N<=8):v < 4611686018427387904:=by
 have:2 ^ N<=2 ^ 8:=Tbs om hN;omega
section
variable {g:Sgn} {mc:C}
open Classical in
theorem Zje (hg:SgnOk g) (h0:0<=op) (ho:g.ops[op.toNat]?=some o) (sets:List Nat) (bu:∀ d∈o.decls,d.args.length=sets.length) (fh:sets.length<=3) (hs:∀ s∈sets,s < 2 ^ g.sorts.names.length):az e0 244 [.one (.ptr (dJ g mc)),.one (.lit (.int .i64 op)),.one (.sl (nR sets))] [.one (.lit (.int .i64 ((bE (lX g o sets) g.sorts.names.length:Nat):Int)))]:=by
 have hN:=hg.sorts.n8;have hD:=hg.decls o (Tac ho);have sO:o.decls.length<=4:=hD.len4;rw [<- ZHo];generalize hPd:(fun d=>cm d sets d.args.length∨(o.comm=true∧cm d sets.reverse d.args.length))=P;have z0:bE (uj g P []) g.sorts.names.length=0:=ZGB;have z1:((bE (uj g P []) g.sorts.names.length:Nat):Int)=0:=by rw [z0];rfl
 have yg:(nR (up g.sorts)).length=g.sorts.names.length:=by rw [fr,ZsU hg.sorts]
 refine gI (ts:=[.slot 6]) 1180591620846512012743 Tryz.func244 ?_;refine fG (aj5 @gH @h0 @ho @bH @ae) ?_;have F:=@ae;refine gL (ι:=Nat × Nat) [8,10,11,12,13,14,26,27,33,34,35,36,70] [] (fun x=>[(26,A.d (.one (.lit (.int .i64 x.1)))),(8,A.d (.one (.lit (.int .i64 x.2))))]) (fun x=>[]) (fun x=>x.1<=o.decls.length∧x.2=bE (uj g P (o.decls.take x.1)) g.sorts.names.length) (fun x=>o.decls.length - x.1) ((0,0)) (⟨Taj _,z0.symm⟩) (fun x hx=>?_)
 obtain ⟨i,out⟩:=x;obtain ⟨hi,lB⟩:=hx;simp only at hi lB;subst lB;dsimp only;have BL:bE (uj g P (o.decls.take i)) g.sorts.names.length < 2 ^ g.sorts.names.length:=nz _ _;have hob62:=mH BL hN;by_cases au:i < o.decls.length;rotate_left
 ·obtain rfl:i=o.decls.length:=by omega
  rw [Tap];exact fD (ai (lF o.decls.length o.decls.length) @ae)
 obtain ⟨d,zL⟩:∃ d,o.decls[i]?=some d:=⟨_,Taa au⟩;have vd:=Tac zL;have hdl2:=bu d vd;obtain ⟨f,hf,_⟩:=hg.first ho;have qp:=hD.all f hf d vd;have dY:=bI (k:=i) om;have pP:o.decls.take (i+1)=o.decls.take i++[d]:=by simp [List.take_add_one,zL]
 refine fN 6 (aj3 (lT i o.decls.length) @zL @ae) ?_;refine dl 4 (by decide +kernel) ?_;intro ds bG;simp only [List.map] at bG;subst bG;have F:=ai @bH @ae;refine gP 2 ?_;refine (have F:=ae;A0 ?_);refine (have F:=ae;A0 ?_);refine dT @ae (ai @iW @ae) ?_;have F:=@ae;refine gL (ι:=Nat × Bool × Bool) [11,12,13,14,35,36] [] (fun y=>[(35,A.d (.one (.lit (.int .i64 y.1)))),(11,A.d (.one (.lit (.bool y.2.1)))),(12,A.d (.one (.lit (.bool y.2.2))))]) (fun y=>[]) (fun y=>y.1<=d.args.length∧y.2.1=decide (cm d sets y.1)∧y.2.2=decide (o.comm=true∧cm d sets.reverse y.1)) (fun y=>d.args.length - y.1) ((0,true,o.comm)) (⟨Taj _,(decide_eq_true cm.zero).symm,by cases o.comm <;> simp [cm.zero]⟩) (fun y hy=>?_)
 obtain ⟨j,b1,b2⟩:=y;obtain ⟨hj,iZ,jC⟩:=hy;simp only at hj iZ jC;dsimp only;by_cases lz:j < d.args.length
 ·obtain ⟨k,hk⟩:∃ k,d.args[j]?=some k:=⟨_,Taa lz⟩;have o8:=qp.args k (Tac hk);obtain ⟨kn,rfl⟩:∃ kn:Nat,k=kn:=⟨k.toNat,om⟩;obtain ⟨s,BW⟩:∃ s,sets[j]?=some s:=⟨_,Taa om⟩;obtain ⟨s',BX⟩:∃ s,sets[sets.length - 1 - j]?=some s:=⟨_,Taa om⟩;have q2:=lT j d.args.length;have oD:=bI (k:=j) om;have r1:=e6 BW;have r2:=e6 BX;refine te fun rl rr=>?_;have h1:=xS (k:=kn) om;have h2:=Zoe (x:=s) (k:=kn) (mH (hs s (Tac BW)) hN) om;have h3:=Zoe (x:=s') (k:=kn) (mH (hs s' (Tac BX)) hN) om;refine Cn fun w1=>?_;have w2:IntKind.i64.wrap (((sets.length - 1:Nat):Int) - (j:Int))=((sets.length - 1 - j:Nat):Int):=dI om om om
  have i1:(j < sets.length)=True:=eq_true om;have i2:(sets.length - 1 - j < sets.length)=True:=eq_true om;have tX:=cm.succ (n:=j) hk BW;have DU:=cm.succ (sets:=sets.reverse) (n:=j) hk (by rw [List.getElem?_reverse om];exact BX:sets.reverse[j]?=some s');rw [show (kn:Int).toNat=kn from rfl] at tX DU;refine fN 10 (aj4 @q2 @hk @gu @ae) ?_;refine gM (ι:=Bool) [11] [] (fun b=>[(11,A.d (.one (.lit (.bool b))))]) (fun b=>[]) (fun b=>b=decide (cm d sets (j+1))) ?_ (fun b hb=>Exists.intro _ (ai (Wk.refl _) ?_))
  ·cases b1 with
   | false =>
    exact m116
   | true =>
    have Bo:=of_decide_eq_true iZ.symm
    cases ht:fq s kn with
    | false =>
     rw [ht] at h2;have e:false=decide (cm d sets (j+1)):=(decide_eq_false fun h=>by
      have:=(tX.1 h).2;rw [show s.testBit kn=false from ht] at this
      cases this).symm
     have F:=aj8 @r1 @rl @rr @h1 @h2 @i1 @bD @ae;exact CC
    | true =>
     rw [ht] at h2;have e:true=decide (cm d sets (j+1)):=(decide_eq_true (tX.2 ⟨Bo,ht⟩)).symm;have F:=aj8 @r1 @rl @rr @h1 @h2 @i1 @bD @ae;refine gG ?_;exact ⟨true,e,gw,gw⟩
  clear iZ;refine fN 11 @ae ?_;refine gM (ι:=Bool) [12] [] (fun c=>[(12,A.d (.one (.lit (.bool c))))]) (fun c=>[]) (fun c=>c=decide (o.comm=true∧cm d sets.reverse (j+1))) ?_ (fun c hc=>Exists.intro _ (ai (Wk.refl _) ?_))
  ·cases b2 with
   | false =>
    have e:false=decide (o.comm=true∧cm d sets.reverse (j+1)):=(decide_eq_false fun h=>by
     have:=DU.1 h.2;rw [decide_eq_true ⟨h.1,this.1⟩] at jC
     cases jC).symm
    have F:=@ae;exact CC
   | true =>
    have hb2':=of_decide_eq_true jC.symm
    cases ht:fq s' kn with
    | false =>
     rw [ht] at h3;have e:false=decide (o.comm=true∧cm d sets.reverse (j+1)):=(decide_eq_false fun h=>by
      have:=(DU.1 h.2).2;rw [show s'.testBit kn=false from ht] at this
      cases this).symm
     have F:=aj10 @r2 @rl @rr @w1 @w2 @h1 @h3 @i2 @bD @ae;exact CC
    | true =>
     rw [ht] at h3;have e:true=decide (o.comm=true∧cm d sets.reverse (j+1)):=(decide_eq_true ⟨hb2'.1,DU.2 ⟨hb2'.2,ht⟩⟩).symm;have F:=aj10 @r2 @rl @rr @w1 @w2 @h1 @h3 @i2 @bD @ae;refine gG ?_;exact ⟨true,e,gw,gw⟩
  have F:=ai @oD @ae;refine gG ?_;exact ⟨(j+1,b,c),⟨lz,hb,hc⟩,gw,gw,om⟩
 ·obtain rfl:j=d.args.length:=by omega
  have q2:=lF d.args.length d.args.length;have DM:P d ↔ cm d sets d.args.length∨(o.comm=true∧cm d sets.reverse d.args.length):=by rw [<- hPd]
  have ep:=Zju hg.sorts qp.res.1 qp.res.2;have ru:=Zqg ep.1;have rr:=fX (l:=up g.sorts);have rg:=xC hob62 (mH ep.2 hN);have mw:=qp.res.1;have ke:=qp.res.2;have dX:(d.res.toNat < g.sorts.names.length)=True:=eq_true om;by_cases hp:P d
  ·have eO:(b1 || b2)=true:=by
    rcases DM.1 hp with h | h
    ·rw [iZ,decide_eq_true h];rfl
    ·rw [jC,decide_eq_true h,Bool.or_true]
   have e:=ZHn (N:=g.sorts.names.length) (ds:=o.decls.take i) hp ep.2;rw [<- pP] at e;rw [<- e] at rg
   cases b1 with
   | true => 
    exact m300
   | false =>
    rw [Bool.false_or] at eO;subst eO;exact m300
  ·have h1:b1=false:=by rw [iZ];exact decide_eq_false fun h=>hp (DM.2 (.inl h))
   have h2:b2=false:=by rw [jC];exact decide_eq_false fun h=>hp (DM.2 (.inr h))
   subst h1 h2;have e:=ZHX (g:=g) (N:=g.sorts.names.length) (ds:=o.decls.take i) hp;rw [<- pP] at e;rw [<- e];have F:=aj3 @q2 @dY @ae;exact m104
def tu (g:Sgn) (v n b:Nat):Prop:=∃ k,k < n∧v.testBit k=true∧((up g.sorts).getD k 0).testBit b=true
theorem ZGC {v n:Nat} (h:fq v n=true) (hu:(up g.sorts).getD n 0 < 2 ^ N):bE (tu g v (n+1)) N=bE (tu g v n) N ||| (up g.sorts).getD n 0:=by
 rw [<- Zii hu,AC];refine li fun b _=>?_;constructor
 ·rintro ⟨k,h1,h2,h3⟩;by_cases e:k=n
  ·subst e;exact .inr h3
  ·exact .inl ⟨k,om,h2,h3⟩
 ·rintro (⟨k,h1,h2,h3⟩ | h3)
  ·exact ⟨k,om,h2,h3⟩
  ·exact ⟨n,om,h,h3⟩
theorem ZGD {v n:Nat} (h:fq v n=false):bE (tu g v (n+1)) N=bE (tu g v n) N:=by
 refine li fun b _=>?_;constructor
 ·rintro ⟨k,h1,h2,h3⟩;by_cases e:k=n
  ·subst e;rw [show v.testBit k=false from h] at h2
   cases h2
  ·exact ⟨k,om,h2,h3⟩
 ·rintro ⟨k,h1,h2,h3⟩;exact ⟨k,om,h2,h3⟩
theorem ZGE {v:Nat}:bE (tu g v 0) N=0:=Zih fun b _ h=>by
 obtain ⟨k,h1,_⟩:=h;omega
theorem ZuR (hg:SgnOk g) {v:Nat} (hv:v < 2 ^ g.sorts.names.length):az e0 350 [.one (.sl (nR (up g.sorts))),.one (.lit (.int .i64 (v:Int)))] [.one (.lit (.int .i64 ((bE (tu g v g.sorts.names.length) g.sorts.names.length:Nat):Int)))]:=by
 have hN:=hg.sorts.n8;have rv:=mH hv hN;have yg:(nR (up g.sorts)).length=g.sorts.names.length:=by rw [fr,ZsU hg.sorts]
 have z0:bE (tu g v 0) g.sorts.names.length=0:=ZGE;have rr:=fX (l:=up g.sorts);refine gI (ts:=[.slot 4]) 33907 Tryz.func350 ?_;refine fG @ae ?_;have F:=@ae;refine gL (ι:=Nat × Nat) [5,6,10,15] [] (fun x=>[(6,A.d (.one (.lit (.int .i64 x.1)))),(5,A.d (.one (.lit (.int .i64 x.2))))]) (fun x=>[]) (fun x=>x.1<=g.sorts.names.length∧x.2=bE (tu g v x.1) g.sorts.names.length) (fun x=>g.sorts.names.length - x.1) ((0,0)) (⟨Taj _,z0.symm⟩) (fun x hx=>?_)
 obtain ⟨i,out⟩:=x;obtain ⟨hi,lB⟩:=hx;simp only at hi lB;subst lB;dsimp only;by_cases au:i < g.sorts.names.length;rotate_left
 ·obtain rfl:i=g.sorts.names.length:=by omega
  exact fD (aj3 (lF g.sorts.names.length g.sorts.names.length) @yg @ae)
 have dY:=bI (k:=i) om;have hu:=(wO (SortsOk.subsIn hg.sorts.subs)).get au;have ru:=e6 hu.1;have rg:=xC (mH (nz (tu g v i) g.sorts.names.length) hN) (mH hu.2 hN);refine bz 5 (aj3 (lT i g.sorts.names.length) @yg @ae) @ae (Zhn (a:=v) (k:=i) rv om) ?_
 cases ht:fq v i with
 | false =>
  rw [<- (ZGD (g:=g) (N:=g.sorts.names.length) ht)];refine fR @ae ?_;have F:=ai @dY @ae;exact m191
 | true =>
  have e:=ZGC ht hu.2;rw [<- e] at rg;refine fR @ae ?_;have F:=aj8 @ru @rr @yg @au @rg @dY @bD @ae;exact m191
def un (P:Dcl->Prop) (ds:List Dcl) (b:Nat):Prop:=∃ d∈ds,P d∧d.res.toNat=b
theorem ZGF:bE (un P []) N=0:=Zih fun b _ h=>by
 obtain ⟨d,hd,_⟩:=h
 cases hd
theorem ZHp {ds:List Dcl} (h:P d) (hu:d.res.toNat < N):bE (un P (ds++[d])) N=bE (un P ds) N ||| 2 ^ d.res.toNat:=by
 have h2:2 ^ d.res.toNat < 2 ^ N:=Nat.pow_lt_pow_right om hu;rw [<- Zii h2,AC];refine li fun b _=>?_;rw [ZwY];exact m75
theorem ZHY {ds:List Dcl} (h:¬ P d):bE (un P (ds++[d])) N=bE (un P ds) N:=by
 exact m90
theorem ZGG (hg:SgnOk g) (hD:∀ d∈o.decls,0<=d.res∧d.res < g.sorts.names.length) (sets:List Nat):bE (tu g (bE (un (fun d=>cm d sets d.args.length) o.decls) g.sorts.names.length) g.sorts.names.length) g.sorts.names.length=bE (pl g o sets) g.sorts.names.length:=by
 refine li fun b _=>?_;unfold tu pl;constructor
 ·rintro ⟨k,h1,h2,h3⟩;obtain ⟨h4,d,hd,h5,h6⟩:=(tC _ _ _).1 h2;refine ⟨d,hd,cm.full.1 h5,?_⟩;unfold vZ;rw [h6];exact h3
 ·rintro ⟨d,hd,h1,h2⟩;have hr:=hD d hd;exact ⟨d.res.toNat,om,(tC _ _ _).2 ⟨om,d,hd,cm.full.2 h1,rfl⟩,h2⟩
open Classical in
theorem Zj9 (hg:SgnOk g) (hm:o∈g.ops) (sets:List Nat) (bu:∀ d∈o.decls,d.args.length=sets.length) (fh:sets.length<=3) (hs:∀ s∈sets,s < 2 ^ g.sorts.names.length):az e0 342 [.one (.sl (nR (up g.sorts))),.one (.sl (o.decls.map AA)),.one (.sl (nR sets))] [.one (.lit (.int .i64 ((bE (pl g o sets) g.sorts.names.length:Nat):Int)))]:=by
 have hN:=hg.sorts.n8;have hD:=hg.decls o hm;have sO:o.decls.length<=4:=hD.len4;obtain ⟨f,hf⟩:∃ f,o.decls[0]?=some f:=⟨_,Taa (by have:=hD.len1;omega)⟩;have ep:=fun d hd=>(hD.all f hf d hd).res;rw [<- ZGG hg ep sets];generalize hPd:(fun d=>cm d sets d.args.length)=P;have z0:bE (un P []) g.sorts.names.length=0:=ZGF;have cC:=ZuR hg (nz (un P o.decls) g.sorts.names.length);refine gI (ts:=[.slot 6]) 549756880839 Tryz.func342 ?_
 refine fG @ae ?_;have F:=@ae;refine gL (ι:=Nat × Nat) [7,8,9,10,14,20,39] [] (fun x=>[(8,A.d (.one (.lit (.int .i64 x.1)))),(7,A.d (.one (.lit (.int .i64 x.2))))]) (fun x=>[]) (fun x=>x.1<=o.decls.length∧x.2=bE (un P (o.decls.take x.1)) g.sorts.names.length) (fun x=>o.decls.length - x.1) ((0,0)) (⟨Taj _,z0.symm⟩) (fun x hx=>?_);obtain ⟨i,out⟩:=x;obtain ⟨hi,lB⟩:=hx;simp only at hi lB
 subst lB;dsimp only;by_cases au:i < o.decls.length;rotate_left
 ·obtain rfl:i=o.decls.length:=by omega
  rw [Tap];refine bz 12 (ai (lF o.decls.length o.decls.length) @ae) @ae (cC) ?_;exact bK @ae @ae
 obtain ⟨d,zL⟩:∃ d,o.decls[i]?=some d:=⟨_,Taa au⟩;have vd:=Tac zL;have hdl2:=bu d vd;have qp:=hD.all f hf d vd;have dY:=bI (k:=i) om;have pP:o.decls.take (i+1)=o.decls.take i++[d]:=by simp [List.take_add_one,zL]
 refine te fun rl rr=>?_;refine fG (ai (lT i o.decls.length) @ae) ?_;have F:=@ae;refine gL (ι:=Nat × Bool) [9,10,20] [] (fun y=>[(10,A.d (.one (.lit (.int .i64 y.1)))),(9,A.d (.one (.lit (.bool y.2))))]) (fun y=>[]) (fun y=>y.1<=sets.length∧y.2=decide (cm d sets y.1)) (fun y=>sets.length - y.1) ((0,true)) (⟨Taj _,(decide_eq_true cm.zero).symm⟩) (fun y hy=>?_);obtain ⟨j,b1⟩:=y;obtain ⟨hj,iZ⟩:=hy
 simp only at hj iZ;dsimp only;by_cases lz:j < sets.length
 ·obtain ⟨k,hk⟩:∃ k,d.args[j]?=some k:=⟨_,Taa om⟩;have o8:=qp.args k (Tac hk);obtain ⟨kn,rfl⟩:∃ kn:Nat,k=kn:=⟨k.toNat,om⟩;obtain ⟨s,BW⟩:∃ s,sets[j]?=some s:=⟨_,Taa om⟩;have b62:=mH (hs s (Tac BW)) hN;have q2:=lT j sets.length;have oD:=bI (k:=j) om;have r1:=e6 BW;have i1:(j < sets.length)=True:=eq_true om;have i3:(j < d.args.length)=True:=eq_true om;have tX:=cm.succ (n:=j) hk BW;rw [show (kn:Int).toNat=kn from rfl] at tX
  refine fN 9 (aj3 @q2 @rl @ae) ?_;refine gM (ι:=Bool) [9] [] (fun b=>[(9,A.d (.one (.lit (.bool b))))]) (fun b=>[]) (fun b=>b=decide (cm d sets (j+1))) ?_ (fun b hb=>Exists.intro _ (ai (Wk.refl _) ?_))
  ·cases b1 with
   | false =>
    exact m116
   | true =>
    have Bo:=of_decide_eq_true iZ.symm;have e:fq s kn=decide (cm d sets (j+1)):=by
     cases ht:fq s kn with
     | false=>exact (decide_eq_false fun h=>by
       have:=(tX.1 h).2;rw [show s.testBit kn=false from ht] at this
       cases this).symm
     | true=>exact (decide_eq_true (tX.2 ⟨Bo,ht⟩)).symm
    refine nI (aj11 @r1 @rl @rr @i1 @i3 @zL @hk @iW @gu @bD @ae) (Zhn (a:=s) (k:=kn) b62 om) ?_;refine fR @ae ?_;have F:=@ae;refine gG ?_;exact ⟨fq s kn,e,gw,gw⟩
  have F:=ai @oD @ae;refine gG ?_;exact ⟨(j+1,b),⟨lz,hb⟩,gw,gw,om⟩
 ·obtain rfl:j=sets.length:=by omega
  have q2:=lF sets.length sets.length;have DM:P d ↔ cm d sets sets.length:=by rw [<- hPd,<- hdl2]
  have mw:=qp.res.1;have ke:=qp.res.2;obtain ⟨rn,D1⟩:∃ rn:Nat,d.res=rn:=⟨d.res.toNat,om⟩;have cB:=ZiK (k:=rn) om;rw [<- D1] at cB;have rg:=xC (mH (nz (un P (o.decls.take i)) g.sorts.names.length) hN) (mH (v:=2 ^ rn) (N:=g.sorts.names.length) (Nat.pow_lt_pow_right om om) hN)
  cases b1 with
  | true =>
   have hp:P d:=DM.2 (of_decide_eq_true iZ.symm);have e:=ZHp (N:=g.sorts.names.length) (ds:=o.decls.take i) hp om;rw [<- pP,show d.res.toNat=rn by omega] at e;rw [<- e] at rg;refine bw 11 (aj3 @q2 @rl @ae) (aj3 @zL @iW @ae) (cB) (ai @rg @ae) ?_;have F:=ai @dY @ae;exact m171
  | false =>
   have hp:¬ P d:=fun h=>by rw [decide_eq_true (DM.1 h)] at iZ;cases iZ
   have e:=ZHY (N:=g.sorts.names.length) (ds:=o.decls.take i) hp;rw [<- pP] at e;rw [<- e];have F:=aj4 @q2 @rl @dY @ae;exact m171
theorem ZmI (hg:SgnOk g) (h0:0<=op) (ho:g.ops[op.toNat]?=some o) (sets:List Nat) (bu:∀ d∈o.decls,d.args.length=sets.length) (fh:sets.length<=3) (hs:∀ s∈sets,s < 2 ^ g.sorts.names.length):az e0 332 [.agg (bN g),.one (.lit (.int .i64 op)),.one (.sl (nR sets))] [.one (.lit (.int .i64 ((bE (pl g o sets) g.sorts.names.length:Nat):Int)))]:=by
 have cU:=Zh9 hg.sorts.n8 hg.sorts.m16 (SortsOk.subsIn hg.sorts.subs);have cG:=Zj9 hg (Tac ho) sets bu fh hs;rw [fZ] at cU;rw [bN];refine gI (ts:=[.slot 6]) 79 Tryz.func332 ?_;refine bz 1 @ae @ae (cU) ?_;refine fC (aj4 @h0 @ho @bH @ae) (cG) ?_;exact bK @ae @ae
end
theorem CB {p:Prop} (h:p:=by
 ·rw [Tbo (Ne.symm e)]):p:=h
theorem Ztk {a:Nat} (ha:a < 4611686018427387904) (hb:b < 4611686018427387904):bits .xor .i64 (a:Int) (b:Int)=((a ^^^ b:Nat):Int):=by
 have h:a ^^^ b < 2 ^ 62:=Nat.xor_lt_two_pow om om;have e:(BitVec.ofInt IntKind.i64.bits (a:Int) ^^^ BitVec.ofInt IntKind.i64.bits (b:Int)).toNat=a ^^^ b:=by
  rw [BitVec.toNat_xor];show (BitVec.ofInt 64 (a:Int)).toNat ^^^ (BitVec.ofInt 64 (b:Int)).toNat=_;rw [Dv om,Dv om]
 exact Ck
def qD (R:Nat->Nat->Nat->Prop) (a c b:Nat):Prop:=R a c b∨R c a b
theorem ZD0 {R:Nat->Nat->Nat->Prop} {m:Nat}:BagB (qD R) sets m b ↔ BagB R sets m b:=by
 constructor
 ·intro h
  induction h with
  | leaf h1 h2=>exact .leaf h1 h2
  | node h1 h2 h3 _ _ h6 i1 i2 =>
   rcases h6 with h6 | h6
   ·exact .node h1 h2 h3 i1 i2 h6
   ·rw [Nat.or_comm];exact .node h2 h1 (by rw [Nat.and_comm];exact h3) i2 i1 h6
 ·intro h
  induction h with
  | leaf h1 h2=>exact .leaf h1 h2
  | node h1 h2 h3 _ _ h6 i1 i2=>exact .node h1 h2 h3 i1 i2 (.inl h6)
theorem ZD1 {R:Nat->Nat->Nat->Prop} {s t:Nat}:j7 (qD R) s t b ↔ j7 R s t b∨j7 R t s b:=by
 unfold j7 qD;constructor
 ·rintro ⟨a,c,h1,h2,h3 | h3⟩
  ·exact .inl ⟨a,c,h1,h2,h3⟩
  ·exact .inr ⟨c,a,h2,h1,h3⟩
 ·rintro (⟨a,c,h1,h2,h3⟩ | ⟨a,c,h1,h2,h3⟩)
  ·exact ⟨a,c,h1,h2,.inl h3⟩
  ·exact ⟨c,a,h2,h1,.inr h3⟩
noncomputable def ig (g:Sgn) (R:Nat->Nat->Nat->Prop) (sets:List Nat) (m:Nat):Nat:=bE (BagB R sets m) g.sorts.names.length
theorem ZD2 {R:Nat->Nat->Nat->Prop} {m:Nat}:ig g (qD R) sets m=ig g R sets m:=li fun b _=>ZD0
def jF (g:Sgn) (R:Nat->Nat->Nat->Prop) (sets:List Nat) (M:Nat) (T:List Nat):Prop:=T.length=2 ^ sets.length∧∀ m,1<=m->m < 2 ^ sets.length->(m < M->T[m]?=some (ig g R sets m))∧(M<=m->T[m]?=some 0)
section
variable {g:Sgn} {R:Nat->Nat->Nat->Prop} {sets:List Nat}
theorem jF.start:jF g R sets 1 (List.replicate (2 ^ sets.length) 0):=⟨by simp,fun m h1 h2=>⟨fun h=>om,fun _=>by rw [Tbr,if_pos h2]⟩⟩
theorem jF.next {M:Nat} (h:jF g R sets M T) (hM:M < 2 ^ sets.length):jF g R sets (M+1) (T.set M (ig g R sets M)):=by
 refine ⟨by rw [Taz,h.1],fun m h1 h2=>?_⟩;by_cases e:m=M
 ·subst e;exact ⟨fun _=>Tbn (by rw [h.1];exact h2),fun q=>om⟩
 ·rw [Tbo (Ne.symm e)];exact ⟨fun q=>(h.2 m h1 h2).1 om,fun q=>(h.2 m h1 h2).2 om⟩
theorem jF.zero {M:Nat} (h:jF g R sets M T) (h1:1<=M) (hM:M < 2 ^ sets.length):T.set M 0=T:=by
 have h2:=(h.2 M h1 hM).2 (Tai _);refine List.ext_getElem? fun q=>?_;by_cases e:q=M
 ·subst e;rw [Tbn (by rw [h.1];exact hM),h2]
 exact CB
theorem Zw9:∀ (q:Nat),(2 ^ q - 1) &&& 2 ^ q=0:=fun q=>by
 refine Nat.eq_of_testBit_eq fun i=>?_;rw [Nat.testBit_and,Nat.testBit_two_pow_sub_one,Nat.testBit_two_pow,Nat.zero_testBit];by_cases h:i < q
 ·simp [h];omega
 ·simp [h]
theorem Zxa {m:Nat} (hm:m≠0) (h:(m - 1) &&& m=0):∃ q,m=2 ^ q:=by
 refine ⟨Nat.log2 m,?_⟩;have h1:=Nat.log2_self_le hm;have h2:m < 2 ^ (Nat.log2 m+1):=(Nat.log2_lt hm).1 (Tan _);refine Classical.byContradiction fun bq=>?_;have h3:(m - 1).testBit (Nat.log2 m)=true:=by
  have:=Tbt (x:=m - 1) (i:=Nat.log2 m)
  cases ht:(m - 1).testBit (Nat.log2 m) with
  | true=>rfl
  | false =>
   have h4:m - 1 < 2 ^ Nat.log2 m:=Nat.lt_pow_two_of_testBit _ fun i hi=>by
    rcases Nat.lt_or_eq_of_le hi with hi | hi
    ·exact Tbt (Tbd (by omega:m - 1 < 2 ^ (Nat.log2 m+1)) (Tbs om hi))
    ·rw [<- hi];exact ht
   omega
 have h5:m.testBit (Nat.log2 m)=true:=by
  cases ht:m.testBit (Nat.log2 m) with
  | true=>rfl
  | false =>
   have h4:m < 2 ^ Nat.log2 m:=Nat.lt_pow_two_of_testBit _ fun i hi=>by
    rcases Nat.lt_or_eq_of_le hi with hi | hi
    ·exact Tbt (Tbd h2 (Tbs om hi))
    ·rw [<- hi];exact ht
   omega
 have h6:=Nat.testBit_and (m - 1) m (Nat.log2 m);rw [h,h3,h5] at h6;simp at h6
end
section
variable {w:World} {S:Nat->Prop} {a:Option Addr} {n cap:Nat} {rows:List (List C)}
def uL (a:Option Addr) (n cap:Nat) (rows:List (List C)) (R:List (List C)):List (List C):=R.map fun r=>r.map (eT a n cap rows)
theorem Zlo:(uL a n cap rows R).length=R.length:=by simp [uL]
theorem Zyh {c:C} (h:aY c=true):aY (eT a n cap rows c)=true:=by
 unfold eT;split
 ·split
  ·rfl
  ·exact h
 ·exact h
theorem ZD4 (h:rowsLen sz R):rowsLen sz (uL a n cap rows R):=fun r hr=>by
 obtain ⟨r',sU,rfl⟩:=Tbi.1 hr;obtain ⟨h1,h2⟩:=h r' sU;refine ⟨by rw [Tay];exact h1,?_⟩;rw [List.all_map,List.all_eq_true];exact fun c hc=>Zyh (List.all_eq_true.1 h2 c hc)
theorem ZqK (hr:aQ w S (.sl rows) (.slice a n cap)) {b:Nat}:∀ {R:List (List C)} {off:Nat},b7 w S b off R->b7 w S b off (uL a n cap rows R)
 | [],_,h=>h
 | r::R,off,h=>by
  simp only [uL,Tbu,b7,Tay] at h ⊢;exact ⟨Zm0 hr h.1,ZqK hr h.2⟩
theorem ZD5 (hr:aQ w S (.sl rows) (.slice a n cap)) (h:ei w S ety sz R v):ei w S ety sz (uL a n cap rows R) v:=by
 obtain ⟨h1,h2,h3⟩:=h;refine ⟨h1,ZD4 h2,?_⟩;rcases h3 with ⟨h4,h5⟩ | ⟨g,dz,bc,h4,h5⟩
 ·exact .inl ⟨by rw [h4];rfl,h5⟩
 ·refine .inr ⟨g,dz,bc,by rw [Zlo];exact h4,?_⟩;obtain ⟨q1,q2,q3,q4,q5,q6,q7,q8⟩:=h5;exact ⟨q1,q2,q3,q4,by rw [Zlo];exact q5,q6,q7,ZqK hr q8⟩
end
section
variable {e:Env} {σ:St} {ay:Nat} {Q:PX->St->Prop}
theorem ZCk (k kb:Nat) (bq:kb≠k) {a:Option Addr} {jr gU:Nat} {o':Option (Option Addr × Nat)} (hm:gm σ.m k=some (.buf (some (a,cap)) ety sz rows)) (hb:gm σ.m kb=some (.buf o' jr gU R)) :
  jJ e σ (fun σ'=>σ'=⟨eF k (.buf (some (a,cap)) ety sz rows) σ.s,(kb,.buf o' jr gU (uL a rows.length cap rows R))::aA kb (aA k σ.m)⟩):=by
 intro he U w0 S0 nt ac w ⟨S,L,h⟩;have ho:=h.cls.own k _ hm;have hv:L.v k=.slice a rows.length cap:=ho.1 (a,cap) rfl;have jY:=ei.rep ho.2;rw [hv] at jY;obtain ⟨S',L',h',kv⟩:=h.freeze2 he hm;have hr:aQ w S' (.sl rows) (.slice a rows.length cap):=jY.mono fun b hb=>(kv b).2 (hb.imp id (fun q=>by show aP (L.v k)=some b;rw [hv];exact q));have dC:gm (aA k σ.m) kb=some (.buf o' jr gU R):=by rw [iL,if_neg bq];exact hb
 have BL:=h'.cls.own kb _ dC;exact ⟨_,rfl,S',L',h'.cls.swap dC (bk':=.buf o' jr gU (uL a rows.length cap rows R)) ⟨fun p hp=>by rw [Zlo];exact BL.1 p hp,ZD5 hr BL.2⟩ (fun g hg=>hg),h'.rel,h'.size,h'.defers,h'.kept⟩
theorem pDb {c:Code} {s2:List (Nat × A)} {m2:List (Nat × Bk)} {a:Option Addr} {jr gU:Nat} {o':Option (Option Addr × Nat)} (k kb:Nat) (bq:kb≠k) (hK:cp e ay c ⟨s2,(kb,.buf o' jr gU (uL a rows.length cap rows R))::m2⟩ Q)
  (hm:gm m k=some (.buf (some (a,cap)) ety sz rows):=by exact cJ) (hb:gm m kb=some (.buf o' jr gU R):=by exact cJ) (hs:eF k (.buf (some (a,cap)) ety sz rows) s=s2:=by exact cJ) (hr:aA kb (aA k m)=m2:=by exact cJ):cp e ay c ⟨s,m⟩ Q :=
 rI (ZCk k kb bq hm hb) fun σ' hσ=>by subst hσ;simp only [hs,hr];exact hK
end
theorem m192 {X Y:Prop} (b:Y) (h:Bx Y->X:=by
 intro B0
 have mu:=Opr.deg2 hg ho (.inl ha);have yk:∀ i j,e7 g o sets i j < 2 ^ g.sorts.names.length:=fun i j=>nz _ _;have mV:=fun a c b (h:bY g o a c b)=>bY.lt hg (Tac ho) h;exact B0.o mu yk mV):X:=h ⟨b⟩
section
variable {g:Sgn} {mc:C}
noncomputable def e7 (g:Sgn) (o:Opr) (sets:List Nat) (i j:Nat):Nat:=bE (ChB (bY g o) sets i j) g.sorts.names.length
noncomputable def oT (g:Sgn) (o:Opr) (sets:List Nat) (r:Nat):List Nat:=(List.range sets.length).map fun k=>if k < r then 0 else e7 g o sets r (k+1)
theorem Zmc {r:Nat}:(oT g o sets r).length=sets.length:=by simp [oT]
theorem Zxc {r:Nat} (h1:r<=k) (h2:k < sets.length):(oT g o sets r)[k]?=some (e7 g o sets r (k+1)):=by
 unfold oT;rw [Tba,List.getElem?_range h2,Option.map_some,if_neg om]
def lZ (g:Sgn) (o:Opr) (sets:List Nat) (p k:Nat) (L:List Nat):Prop:=L.length=sets.length∧∀ j,j < sets.length->L[j]?=some (if j < p then 0 else if j < k then e7 g o sets p (j+1) else 0)
theorem lZ.all {p:Nat} (h:lZ g o sets p sets.length L):L=oT g o sets p:=by
 refine List.ext_getElem? fun j=>?_;by_cases hj:j < sets.length
 ·rw [h.2 j hj];unfold oT;rw [Tba,List.getElem?_range hj,Option.map_some];by_cases h1:j < p
  ·rw [if_pos h1,if_pos h1]
  ·rw [if_neg h1,if_neg h1,if_pos hj]
 ·rw [List.getElem?_eq_none (by rw [h.1];omega),List.getElem?_eq_none (by rw [Zmc];omega)]
theorem lZ.next {p:Nat} (h:lZ g o sets p k L) (hp:p<=k) (hk:k < sets.length):lZ g o sets p (k+1) (L.set k (e7 g o sets p (k+1))):=by
 refine ⟨by rw [Taz,h.1],fun j hj=>?_⟩;by_cases e:j=k
 ·subst e;rw [Tbn (by rw [h.1];exact hj),if_neg om,if_pos om]
 ·rw [Tbo (Ne.symm e),h.2 j hj];by_cases h1:j < p
  ·rw [if_pos h1,if_pos h1]
  ·rw [if_neg h1,if_neg h1];by_cases h2:j < k
   ·rw [if_pos h2,if_pos om]
   ·rw [if_neg h2,if_neg om]
theorem lZ.zero {p:Nat} (h:lZ g o sets p k L) (hp:p<=k) (hk:k < sets.length):L.set k 0=L:=by
 have h1:=h.2 k hk;rw [if_neg om,if_neg om] at h1;refine List.ext_getElem? fun j=>?_;by_cases e:j=k
 ·subst e;rw [Tbn (by rw [h.1];exact hk),h1]
 exact CB
theorem lZ.start {p s:Nat} (hs:sets[p]?=some s) (h:s < 2 ^ g.sorts.names.length):lZ g o sets p (p+1) ((List.replicate sets.length 0).set p s):=by
 have hp:=(Tad.1 hs).1;refine ⟨by simp,fun j hj=>?_⟩;by_cases e:j=p
 ·subst e;rw [Tbn (by simpa using hj),if_neg om,if_pos om];unfold e7;rw [ZB1 hs h]
 ·rw [Tbo (Ne.symm e),Tbr,if_pos hj];by_cases h1:j < p
  ·rw [if_pos h1]
  ·rw [if_neg h1,if_neg om]
theorem ZGJ (hg:SgnOk g) {i:Nat} (ho:g.ops[i]?=some o) (ha:o.assoc=true) (hc:o.comm=false) {s t:Nat}:bE (lX g o [s,t]) N=bE (fun b=>j7 (bY g o) s t b) N:=by
 refine li fun b _=>?_;unfold lX;rw [Ay (Opr.deg2 hg ho (.inl ha)),hc];simp
def ik (d:List Nat):List C:=[.sl (nR d)]
theorem ZCl:∀ d,ik d=[.sl (nR d)]:=fun _=>rfl
theorem ZHr (n:Nat):(List.replicate n ([]:List Nat)).map ik=List.replicate n [C.sl []]:=by
 rw [List.map_replicate];rfl
theorem ZCm (Ds:List (List Nat)):ZaB 1 (Ds.map ik)=true:=xG (e:=ik) (n:=1) (fun _=>rfl) Ds
theorem ZD6 {a:Option Addr} {n:Nat} {Ds:List (List Nat)} {p:Nat}:uL a n cap (nR L) ((Ds.map ik).set p [.lit (.slice a n cap)])=(Ds.set p L).map ik:=by
 have h1:∀ d,(ik d).map (eT a n cap (nR L))=ik d:=fun d=>rfl;have h2:[C.lit (.slice a n cap)].map (eT a n cap (nR L))=ik L:=by simp [eT,ik]
 unfold uL;rw [List.map_set,h2,List.map_set,List.map_map];congr 1
theorem ZHZ {a:Option Addr} {n:Nat} {Ds:List (List Nat)} {p:Nat} (aj:aY (.lit (.slice a n cap))=true):ZaB 1 ((Ds.map ik).set p [.lit (.slice a n cap)])=true:=by
 have h:=ZCm Ds;unfold ZaB at h ⊢;rw [List.all_eq_true] at h ⊢;intro r hr;rcases List.mem_or_eq_of_mem_set hr with h1 | h1
 ·exact h r h1
 ·subst h1;simp [aj]
theorem ZpJ (hg:SgnOk g) (h0:0<=op) (ho:g.ops[op.toNat]?=some o) (ha:o.assoc=true) (hc:o.comm=false) (sets:List Nat) (gg:1<=sets.length) (DY:sets.length<=7) (hs:∀ s∈sets,s < 2 ^ g.sorts.names.length):az e0 246 [.one (.ptr (dJ g mc)),.one (.lit (.int .i64 op)),.one (.sl (nR sets))] [.one (.lit (.int .i64 ((e7 g o sets 0 sets.length:Nat):Int)))]:=by
 have hN:=hg.sorts.n8;refine te fun rl rr=>?_;have dg:((sets.length:Int)<=(ak:Int))=True:=eq_true (by unfold ak;omega);refine m192 fun mu yk mV=>?_;have w0:IntKind.i64.wrap ((sets.length:Int) - 1)=(sets.length:Int) - 1:=IntWalk.i64_in _ om
 refine gI (ts:=[.slot 6]) 142936512139207 Tryz.func246 ?_;refine fG (aj5 @rl @dg @Tbx @w0 @ae) ?_;have F:=ai (ZHr sets.length) @ae;refine gL (ι:=Nat × List (List Nat)) [8,9,10,11,19,41,47] [8] (fun x=>[(9,.d (.one (.lit (.int .i64 ((x.1:Int) - 1))))),(8,.buf 8)]) (fun x=>[(8,.buf none 93 1 (x.2.map ik))]) (fun x=>x.1<=sets.length∧x.2.length=sets.length∧∀ r,x.1<=r->r < sets.length->x.2[r]?=some (oT g o sets r)) (fun x=>x.1) ((sets.length,List.replicate sets.length [])) (⟨Tai _,by simp,fun r h1 h2=>absurd h1 om⟩) (fun x hx=>?_)
 obtain ⟨x,Ds⟩:=x;obtain ⟨hx,hDl,hD⟩:=hx;simp only at hx hDl hD;dsimp only;have hDB:=ZCm Ds;have Bh:(Ds.map ik).length=sets.length:=by rw [Tay,hDl]
 cases x with
 | zero =>
  have q1:((0:Int)<=((0:Nat):Int) - 1)=False:=eq_false om;have r0:=hD 0 (Tai _) om;have cg:=e6 (Zxc (g:=g) (o:=o) (sets:=sets) (r:=0) (k:=sets.length - 1) om om);rw [show sets.length - 1+1=sets.length by omega] at cg;refine Cn fun w1=>?_;have cl:=fr (l:=oT g o sets 0);have cr:=fX (l:=oT g o sets 0);rw [Zmc] at cl;exact fD (aj13 @q1 @r0 @hDl @hDB @ZCl @cg @cl @cr (eq_true om:(0 < sets.length)=True) (eq_true om:(sets.length - 1 < sets.length)=True) @w1 @bD @ae)
 | succ p =>
 have hp:p < sets.length:=om;have q1:((0:Int)<=((p+1:Nat):Int) - 1)=True:=eq_true om;have hpc:((p+1:Nat):Int) - 1=(p:Int):=om;rw [hpc] at q1 ⊢;obtain ⟨s,hsp⟩:∃ s,sets[p]?=some s:=⟨_,Taa hp⟩;have r1:=e6 hsp;have dY:=bI (k:=p) om;have hwm:IntKind.i64.wrap ((p:Int) - 1)=(p:Int) - 1:=IntWalk.i64_in _ om;have i1:(p < sets.length)=True:=eq_true hp;have hFs:=lZ.start (g:=g) (o:=o) hsp (hs s (Tac hsp))
 have nl0:(nR (List.replicate sets.length 0)).length=sets.length:=by rw [fr,List.length_replicate]
 have nr0:=fX (l:=List.replicate sets.length 0);have ns0:=qJ (l:=List.replicate sets.length 0) p s;obtain ⟨z0,xk⟩:∃ z,(List.replicate sets.length 0)[p]?=some z:=⟨_,Taa (by simpa using hp)⟩;have ng0:=e6 xk;refine il 6 (ai @q1 @ae) 4 (aj4 @dg @Tbx @tl @ae) ?_;generalize List.replicate sets.length 0=L0 at nl0 nr0 ns0 ng0 hFs ⊢;refine gS 25 fun a cap=>?_
 rw [nl0];have hB8:=ZHZ (a:=a) (n:=sets.length) (cap:=cap) (Ds:=Ds) (p:=p) rfl;have hl8:((Ds.map ik).set p [.lit (.slice a sets.length cap)]).length=sets.length:=by rw [Taz,Bh]
 have hg8:((Ds.map ik).set p [.lit (.slice a sets.length cap)])[p]?=some [.lit (.slice a sets.length cap)]:=Tbn (by rw [Bh];exact hp);have hr8:∀ r,p+1<=r->r < sets.length->((Ds.map ik).set p [.lit (.slice a sets.length cap)])[r]?=some [.sl (nR (oT g o sets r))]:=fun r h1 h2=>by
  rw [Tbo om,Tba,hD r h1 h2];rfl
 have hd8:=fun L=>ZD6 (a:=a) (n:=sets.length) (cap:=cap) (L:=L) (Ds:=Ds) (p:=p);obtain ⟨z,hz⟩:∃ z,Ds[p]?=some z:=⟨_,Taa om⟩;refine fR (aj7 @hDl @hDB @hz @ZCl @i1 @bD @ae) ?_;generalize (Ds.map ik).set p [.lit (.slice a sets.length cap)]=R8 at hB8 hl8 hg8 hr8 hd8 ⊢;refine fN 9 (aj14 @hB8 @hl8 @hg8 @nl0 @nr0 @ns0 @ng0 @r1 @rl @rr @i1 @dY @bD @ae) ?_;generalize L0.set p s=L1 at hFs ⊢;clear nl0 nr0 ns0 ng0 xk hz
 have F:=@ae;refine gL (ι:=Nat × List Nat) [10,11,41,47] [25] (fun y=>[(10,A.d (.one (.lit (.int .i64 y.1))))]) (fun y=>[(25,.buf (some (a,cap)) 3 1 (nR y.2))]) (fun y=>p+1<=y.1∧y.1<=sets.length∧lZ g o sets p y.1 y.2) (fun y=>sets.length - y.1) ((p+1,L1)) (⟨Tai _,hp,hFs⟩) (fun y hy=>?_);clear hFs L1;obtain ⟨k,L⟩:=y;obtain ⟨fd,ec,hF⟩:=hy;simp only at fd ec hF;dsimp only;by_cases eX:k < sets.length
 rotate_left
 ·obtain rfl:k=sets.length:=by omega
  have hL:=hF.all;subst hL;have q2:=lF sets.length sets.length;have cl:=fr (l:=oT g o sets p);rw [Zmc] at cl;refine fN 5 (ai @q2 @ae) ?_;refine pDb 25 8 (by decide) ?_;rw [cl,(hd8 (oT g o sets p))];have Bu:p<=sets.length∧(Ds.set p (oT g o sets p)).length=sets.length∧∀ r,p<=r->r < sets.length->(Ds.set p (oT g o sets p))[r]?=some (oT g o sets r):=⟨om,by rw [Taz,hDl],fun r h1 h2=>by
   by_cases e:r=p
   ·subst e;exact Tbn om
   ·rw [Tbo om];exact hD r om h2⟩
  have F:=ai @hwm @ae;refine gG ?_;exact ⟨(p,Ds.set p (oT g o sets p)),Bu,gw,gw,om⟩
 have na:=bI (k:=k) om;have hz:=hF.zero om eX;refine fG (ai (lT k sets.length) @ae) ?_;have F:=ai (by rw [hz]:nR (L.set k 0)=nR L) @ae;refine gL (ι:=Nat × Nat) [11,47] [25] (fun z=>[(11,A.d (.one (.lit (.int .i64 z.1))))]) (fun z=>[(25,.buf (some (a,cap)) 3 1 (nR (L.set k z.2)))]) (fun z=>p<=z.1∧z.1<=k∧z.2=bE (fv (bY g o) sets g.sorts.names.length p (k+1) (z.1+1)) g.sorts.names.length) (fun z=>k - z.1) ((p,0)) (⟨Tai _,om,Zqz.symm⟩) (fun z hz=>?_);obtain ⟨m,v⟩:=z;obtain ⟨iy,sS,hv⟩:=hz
 simp only at iy sS hv;subst hv;dsimp only;by_cases hmk:m < k;rotate_left
 ·obtain rfl:m=k:=by omega
  have e:bE (fv (bY g o) sets g.sorts.names.length p (m+1) (m+1)) g.sorts.names.length=e7 g o sets p (m+1):=Zw2 hs mV om;rw [e];have F:=aj3 (lF m m) @na @ae;refine gG ?_;exact ⟨(m+1,L.set m (e7 g o sets p (m+1))),⟨om,eX,hF.next om eX⟩,gw,gw,om⟩
 have q3:=lT m k;have hwm1:=bI (k:=m) om;have hLm:=hF.2 m om;rw [if_neg om,if_pos hmk] at hLm;have e:=fun b=>Zs7 (R:=bY g o) (sets:=sets) (N:=g.sorts.names.length) (i:=p) (j:=k+1) (k:=m+1) (b:=b) om om;have e:bE (fv (bY g o) sets g.sorts.names.length p (k+1) (m+1)) g.sorts.names.length ||| bE (fun b=>j7 (bY g o) (e7 g o sets p (m+1)) (e7 g o sets (m+1) (k+1)) b) g.sorts.names.length=bE (fv (bY g o) sets g.sorts.names.length p (k+1) (m+1+1)) g.sorts.names.length:=by
  rw [AC];exact li fun b _=>(e b).symm
 have cR:=Zje (mc:=mc) hg h0 ho [e7 g o sets p (m+1),e7 g o sets (m+1) (k+1)] (fun d hd=>mu d hd) (by simp) (fun s hs=>by
  simp only [Tbg,List.not_mem_nil,or_false] at hs;rcases hs with rfl | rfl <;> exact yk _ _)
 rw [ZGJ hg ho ha hc] at cR;have cR:=Zhr cR;have eO:=xC (mH (nz (fv (bY g o) sets g.sorts.names.length p (k+1) (m+1)) g.sorts.names.length) hN) (mH (nz (fun b=>j7 (bY g o) (e7 g o sets p (m+1)) (e7 g o sets (m+1) (k+1)) b) g.sorts.names.length) hN);rw [e] at eO;have rv:=mH (nz (fv (bY g o) sets g.sorts.names.length p (k+1) (m+1)) g.sorts.names.length) hN;clear e;generalize bE (fun b=>j7 (bY g o) (e7 g o sets p (m+1)) (e7 g o sets (m+1) (k+1)) b) g.sorts.names.length=tw at cR eO
 generalize bE (fv (bY g o) sets g.sorts.names.length p (k+1) (m+1)) g.sorts.names.length=v at eO ⊢;have nl:=fr (l:=L.set k v);rw [Taz,hF.1] at nl;have nr:=fX (l:=L.set k v);have g1:(nR (L.set k v))[k]?=some [.lit (.int .i64 v)]:=e6 (Tbn (by rw [hF.1];exact eX));have g2:(nR (L.set k v))[m]?=some [.lit (.int .i64 (e7 g o sets p (m+1)))]:=e6 (by rw [Tbo om];exact hLm);have g3:=hr8 (m+1) om om
 have g4:=e6 (Zxc (g:=g) (o:=o) (sets:=sets) (r:=m+1) (k:=k) om eX);have cl:=fr (l:=oT g o sets (m+1));rw [Zmc] at cl;have cr:=fX (l:=oT g o sets (m+1));have ns:=fun x=>qJ (l:=L.set k v) k x;simp only [List.set_set] at ns;have i2:(k < sets.length)=True:=eq_true eX;refine bw 14 (ai @q3 @ae) (aj16 @hB8 @hl8 @hg8 @nl @nr @g1 @g2 @g3 @g4 @cl @cr @i1 @i2 (eq_true om:(m < sets.length)=True) (eq_true om:(m+1 < sets.length)=True) (aj3 @hwm1 @bD @ae)) (cR) (aj8 @nl @nr @g1 @eO @ns @i2 @bD @ae) ?_;have F:=ai @hwm1 @ae;refine gG ?_;exact ⟨(m+1,bE (fv (bY g o) sets g.sorts.names.length p (k+1) (m+1+1)) g.sorts.names.length),⟨om,hmk,rfl⟩,gw,gw,om⟩
end
theorem Zxd {n i i' j':Nat} (hj:j < n) (ka:j' < n) (h:i * n+j=i' * n+j'):i=i'∧j=j':=by
 have h1:(i * n+j) / n=i:=by rw [Nat.mul_comm,Nat.mul_add_div om,Nat.div_eq_of_lt hj,Nat.add_zero]
 have h2:(i' * n+j') / n=i':=by rw [Nat.mul_comm,Nat.mul_add_div om,Nat.div_eq_of_lt ka,Nat.add_zero]
 rw [h] at h1;have e:i=i':=by rw [<- h1,h2]
 subst e;exact ⟨rfl,om⟩
theorem xQ {n i:Nat} (hi:i < n) (hj:j < n):i * n+j < n * n:=by
 have:(i+1) * n<=n * n:=Nat.mul_le_mul_right n hi;rw [Nat.succ_mul] at this;omega
section
variable {g:Sgn}
def iQ (g:Sgn) (o:Opr) (sets:List Nat) (P:Nat->Nat->Prop) (T:List Nat):Prop:=T.length=sets.length * sets.length∧∀ i j,i<=j->j < sets.length->(P i j->T[i * sets.length+j]?=some (e7 g o sets i (j+1)))∧(¬ P i j->T[i * sets.length+j]?=some 0)
theorem iQ.start {P:Nat->Nat->Prop} (h:∀ i j,i<=j->¬ P i j):iQ g o sets P (List.replicate (sets.length * sets.length) 0):=⟨by simp,fun i j h1 h2=>⟨fun hp=>absurd hp (h i j h1),fun _=>by
 rw [Tbr,if_pos (xQ om h2)]⟩⟩
theorem iQ.next {P P':Nat->Nat->Prop} (h:iQ g o sets P T) {i:Nat} (nQ:i<=j) (hj:j < sets.length) (h1:∀ i' j',i'<=j'->j' < sets.length->(P' i' j' ↔ P i' j'∨(i'=i∧j'=j))):iQ g o sets P' (T.set (i * sets.length+j) (e7 g o sets i (j+1))):=by
 refine ⟨by rw [Taz,h.1],fun i' j' q1 q2=>?_⟩;have hl:=xQ (n:=sets.length) (i:=i) (j:=j) om hj;by_cases e:i'=i∧j'=j
 ·obtain ⟨rfl,rfl⟩:=e;exact ⟨fun _=>Tbn (by rw [h.1];exact hl),fun hn=>absurd ((h1 _ _ q1 q2).2 (.inr ⟨rfl,rfl⟩)) hn⟩
 ·have bq:i * sets.length+j≠i' * sets.length+j':=fun q=>e (by have:=Zxd hj q2 q;exact ⟨this.1.symm,this.2.symm⟩);rw [Tbo bq];have h2:=h.2 i' j' q1 q2;exact ⟨fun hp=>h2.1 (((h1 _ _ q1 q2).1 hp).resolve_right e),fun hn=>h2.2 fun hp=>hn ((h1 _ _ q1 q2).2 (.inl hp))⟩
theorem iQ.mono {P P':Nat->Nat->Prop} (h:iQ g o sets P T) (h1:∀ i j,i<=j->j < sets.length->(P' i j ↔ P i j)):iQ g o sets P' T:=⟨h.1,fun i j q1 q2=>by
 rw [h1 i j q1 q2];exact (h.2 i j q1 q2)⟩
theorem iQ.zero {P:Nat->Nat->Prop} (h:iQ g o sets P T) {i:Nat} (nQ:i<=j) (hj:j < sets.length) (hn:¬ P i j):T.set (i * sets.length+j) 0=T:=by
 have h1:=(h.2 i j nQ hj).2 hn;have hl:=xQ (n:=sets.length) (i:=i) (j:=j) om hj;refine List.ext_getElem? fun q=>?_;by_cases e:q=i * sets.length+j
 ·subst e;rw [Tbn (by rw [h.1];exact hl),h1]
 exact CB
def tr (size i0:Nat) (i j:Nat):Prop:=j+1 < i+size∨(j+1=i+size∧i < i0)
theorem CT {i n:Nat} (hi:i<=10) (hn:n<=10):IntKind.i64.wrap ((i:Int) * (n:Int))=((i * n:Nat):Int):=by
 have:i * n<=10 * 10:=Nat.mul_le_mul hi hn;exact dI (by simp) om om
theorem v7 {i n:Nat} (hi:i<=1000) (hn:n<=1000):IntKind.i64.wrap ((i:Int)+(n:Int))=((i+n:Nat):Int):=dI (by simp) om om
theorem ZuS (hg:SgnOk g) (h0:0<=op) (ho:g.ops[op.toNat]?=some o) (ha:o.assoc=true) (sets:List Nat) (gg:1<=sets.length) (DY:sets.length<=7) (hs:∀ s∈sets,s < 2 ^ g.sorts.names.length):az e0 331 [.agg (bN g),.one (.lit (.int .i64 op)),.one (.sl (nR sets))] [.one (.lit (.int .i64 ((e7 g o sets 0 sets.length:Nat):Int)))]:=by
 have hN:=hg.sorts.n8;refine te fun rl rr=>?_;have hnn:sets.length * sets.length<=7 * 7:=Nat.mul_le_mul DY DY;have dg:(((sets.length * sets.length:Nat):Int)<=(ak:Int))=True:=eq_true (by unfold ak;omega);refine m192 fun mu yk mV=>?_
 have wnn:=CT (i:=sets.length) (n:=sets.length) om om;have cU:=Zh9 hg.sorts.n8 hg.sorts.m16 (SortsOk.subsIn hg.sorts.subs);have qU:=iQ.start (g:=g) (o:=o) (sets:=sets) (P:=tr 1 0) fun i j h q=>by unfold tr at q;omega
 rw [fZ] at cU;rw [bN];refine gI (ts:=[.slot 6]) 36028870066978767 Tryz.func331 ?_;refine bz 2 (ai @rl @ae) @ae (cU) ?_;refine dT @ae (aj6 @rl @wnn @dg @Tbx @tl @ae) ?_;generalize List.replicate (sets.length * sets.length) 0=T0 at qU ⊢;have F:=@ae;refine gL (ι:=Nat × List Nat) [9,10,11,12,13,25,32,36,55] [9] (fun x=>[(10,A.d (.one (.lit (.int .i64 x.1)))),(9,.buf 9)]) (fun x=>[(9,.buf none 3 1 (nR x.2))]) (fun x=>1<=x.1∧x.1<=sets.length+1∧iQ g o sets (tr x.1 0) x.2) (fun x=>sets.length+1 - x.1) ((1,T0)) (⟨Tai _,om,qU⟩) (fun x hx=>?_)
 clear qU T0;obtain ⟨size,T⟩:=x;obtain ⟨D3,hz2,hT⟩:=hx;simp only at D3 hz2 hT;dsimp only;have nl:=fr (l:=T);rw [hT.1] at nl;have nr:=fX (l:=T);by_cases hzl:size<=sets.length;rotate_left
 ·obtain rfl:size=sets.length+1:=by omega
  have q1:(((sets.length+1:Nat):Int)<=(sets.length:Int))=False:=eq_false om;have hg1:=((hT.2 0 (sets.length - 1) om om).1 (.inl om));rw [show 0 * sets.length+(sets.length - 1)=sets.length - 1 by omega,show sets.length - 1+1=sets.length by omega] at hg1;refine Cn fun w1=>?_;have ct:sets.length * 1<=sets.length * sets.length:=Nat.mul_le_mul_left _ gg
  exact fD (aj8 @q1 @nl @nr (e6 hg1) @w1 (eq_true om:(sets.length - 1 < sets.length * sets.length)=True) @bD @ae)
 have q1:((size:Int)<=(sets.length:Int))=True:=eq_true om;have kg:=bI (k:=size) om;clear nl nr;refine fG (ai @q1 @ae) ?_;have F:=@ae;refine gL (ι:=Nat × List Nat) [9,11,12,13,32,36,55] [9] (fun y=>[(11,A.d (.one (.lit (.int .i64 y.1)))),(9,.buf 9)]) (fun y=>[(9,.buf none 3 1 (nR y.2))]) (fun y=>y.1+size<=sets.length+1∧iQ g o sets (tr size y.1) y.2) (fun y=>sets.length+1 - y.1) ((0,T)) (⟨om,hT⟩) (fun y hy=>?_)
 clear hT T;obtain ⟨i,T⟩:=y;obtain ⟨hi,hT⟩:=hy;simp only at hi hT;dsimp only;have nl:=fr (l:=T);rw [hT.1] at nl;have nr:=fX (l:=T);have wis:=v7 (i:=i) (n:=size) om om;by_cases ci:i+size<=sets.length;rotate_left
 ·have uX:iQ g o sets (tr (size+1) 0) T:=hT.mono fun i' j' h1 h2=>by
   unfold tr;omega
  have F:=aj4 (eq_false om:(((i+size:Nat):Int)<=(sets.length:Int))=False) @wis @kg @ae;refine gG ?_;exact ⟨(size+1,T),⟨om,om,uX⟩,gw,gw,om⟩
 have q2:(((i+size:Nat):Int)<=(sets.length:Int))=True:=eq_true om;have dZ:=bI (k:=i) om;have wii:=CT (i:=i) (n:=sets.length) om om;have au:=xQ (n:=sets.length) (i:=i) (j:=i+size - 1) om om;by_cases zQ:size=1
 ·subst zQ;have q3:(((1:Nat):Int)=1)=True:=eq_true rfl;obtain ⟨s,BV⟩:∃ s,sets[i]?=some s:=⟨_,Taa om⟩;have r1:=e6 BV;have e:e7 g o sets i (i+1)=s:=by unfold e7;exact ZB1 BV (hs s (Tac BV))
  have uX:iQ g o sets (tr 1 (i+1)) (T.set (i * sets.length+i) (e7 g o sets i (i+1))):=hT.next (Tai _) om fun i' j' h1 h2=>by
   unfold tr;omega
  rw [e] at uX;have wa:=v7 (i:=i * sets.length) (n:=i) om om;have ns:=qJ (l:=T) (i * sets.length+i) s;obtain ⟨z,hz⟩:∃ z,T[i * sets.length+i]?=some z:=⟨_,Taa (by rw [hT.1];exact xQ om om)⟩;have F:=aj15 @q2 @wis @q3 @wii @wa @r1 @rl @rr @nl @nr @ns (e6 hz) (eq_true om:(i < sets.length)=True) (eq_true (xQ om om):(i * sets.length+i < sets.length * sets.length)=True) (aj3 @dZ @bD @ae);refine gG ?_;exact ⟨(i+1,T.set (i * sets.length+i) s),⟨om,uX⟩,gw,gw,om⟩
 have q3:((size:Int)=1)=False:=eq_false om;obtain ⟨j,hj⟩:∃ j,j+1=i+size:=⟨i+size - 1,om⟩;have wj:IntKind.i64.wrap (((i+size:Nat):Int) - 1)=(j:Int):=dI om om om;have nQ:i < j:=om;have sP:j < sets.length:=om;have hij2:i<=j:=om;have au:=xQ (n:=sets.length) (i:=i) (j:=j) om sP;have waj:=v7 (i:=i * sets.length) (n:=j) om om;have xk:=hT.zero hij2 sP (by unfold tr;omega);have rf:iQ g o sets (tr size (i+1)) (T.set (i * sets.length+j) (e7 g o sets i (j+1))):=hT.next hij2 sP fun i' j' h1 h2=>by
  unfold tr;omega
 refine fN 13 (aj5 @q2 @wis @q3 @wj @ae) ?_;refine fG @ae ?_;have F:=ai (by rw [xk]:nR (T.set (i * sets.length+j) 0)=nR T) @ae;refine gL (ι:=Nat × Nat) [9,13,55] [9] (fun z=>[(13,A.d (.one (.lit (.int .i64 z.1)))),(9,.buf 9)]) (fun z=>[(9,.buf none 3 1 (nR (T.set (i * sets.length+j) z.2)))]) (fun z=>i<=z.1∧z.1<=j∧z.2=bE (fv (bY g o) sets g.sorts.names.length i (j+1) (z.1+1)) g.sorts.names.length) (fun z=>j - z.1) ((i,0)) (⟨Tai _,om,Zqz.symm⟩) (fun z hz=>?_)
 obtain ⟨k,v⟩:=z;obtain ⟨fd,ec,hv⟩:=hz;simp only at fd ec hv;subst hv;dsimp only;by_cases hkj:k < j;rotate_left
 ·obtain rfl:k=j:=by omega
  have e:bE (fv (bY g o) sets g.sorts.names.length i (k+1) (k+1)) g.sorts.names.length=e7 g o sets i (k+1):=Zw2 hs mV om;rw [e];have F:=aj3 (lF k k) @dZ @ae;refine gG ?_;exact ⟨(i+1,T.set (i * sets.length+k) (e7 g o sets i (k+1))),⟨om,rf⟩,gw,gw,om⟩
 have q4:=lT k j;have na:=bI (k:=k) om;have hTk:=(hT.2 i k fd om).1 (by unfold tr;omega);have hTj:=(hT.2 (k+1) j om sP).1 (by unfold tr;omega);have hltk:=xQ (n:=sets.length) (i:=i) (j:=k) om om;have hltj:=xQ (n:=sets.length) (i:=k+1) (j:=j) om sP;have wak:=v7 (i:=i * sets.length) (n:=k) om om;have wm2:=CT (i:=k+1) (n:=sets.length) om om;have wa2:=v7 (i:=(k+1) * sets.length) (n:=j) om om
 have e:=fun b=>Zs7 (R:=bY g o) (sets:=sets) (N:=g.sorts.names.length) (i:=i) (j:=j+1) (k:=k+1) (b:=b) om om;have e:bE (fv (bY g o) sets g.sorts.names.length i (j+1) (k+1)) g.sorts.names.length ||| bE (fun b=>j7 (bY g o) (e7 g o sets i (k+1)) (e7 g o sets (k+1) (j+1)) b) g.sorts.names.length=bE (fv (bY g o) sets g.sorts.names.length i (j+1) (k+1+1)) g.sorts.names.length:=by
  rw [AC];exact li fun b _=>(e b).symm
 have cR:=Zj9 hg (Tac ho) [e7 g o sets i (k+1),e7 g o sets (k+1) (j+1)] (fun d hd=>mu d hd) (by simp) (fun s hs=>by
  simp only [Tbg,List.not_mem_nil,or_false] at hs;rcases hs with rfl | rfl <;> exact yk _ _)
 rw [show bE (pl g o [e7 g o sets i (k+1),e7 g o sets (k+1) (j+1)]) g.sorts.names.length=bE (fun b=>j7 (bY g o) (e7 g o sets i (k+1)) (e7 g o sets (k+1) (j+1)) b) g.sorts.names.length from li fun b _=>Ay mu] at cR;have cR:=Zhr cR;have eO:=xC (mH (nz (fv (bY g o) sets g.sorts.names.length i (j+1) (k+1)) g.sorts.names.length) hN) (mH (nz (fun b=>j7 (bY g o) (e7 g o sets i (k+1)) (e7 g o sets (k+1) (j+1)) b) g.sorts.names.length) hN)
 rw [e] at eO;clear e;generalize bE (fun b=>j7 (bY g o) (e7 g o sets i (k+1)) (e7 g o sets (k+1) (j+1)) b) g.sorts.names.length=tw at cR eO;generalize bE (fv (bY g o) sets g.sorts.names.length i (j+1) (k+1)) g.sorts.names.length=v at eO ⊢;have nl2:=fr (l:=T.set (i * sets.length+j) v);rw [Taz,hT.1] at nl2;have nr2:=fX (l:=T.set (i * sets.length+j) v);have ne1:i * sets.length+j≠i * sets.length+k:=om
 have ne2:i * sets.length+j≠(k+1) * sets.length+j:=fun q=>by have:=Zxd sP sP q;omega
 have g1:(nR (T.set (i * sets.length+j) v))[i * sets.length+j]?=some [.lit (.int .i64 v)]:=e6 (Tbn (by rw [hT.1];exact au));have g2:(nR (T.set (i * sets.length+j) v))[i * sets.length+k]?=some [.lit (.int .i64 (e7 g o sets i (k+1)))]:=e6 (by rw [Tbo ne1];exact hTk);have g3:(nR (T.set (i * sets.length+j) v))[(k+1) * sets.length+j]?=some [.lit (.int .i64 (e7 g o sets (k+1) (j+1)))]:=e6 (by rw [Tbo ne2];exact hTj)
 have ns:=fun x=>qJ (l:=T.set (i * sets.length+j) v) (i * sets.length+j) x;simp only [List.set_set] at ns;have i1:(i * sets.length+j < sets.length * sets.length)=True:=eq_true au;have i2:(i * sets.length+k < sets.length * sets.length)=True:=eq_true hltk;have i3:((k+1) * sets.length+j < sets.length * sets.length)=True:=eq_true hltj;clear nl nr;refine bw 16 (ai @q4 @ae) (aj16 @wii @waj @wak @na @wm2 @wa2 @nl2 @nr2 @g1 @g2 @g3 @i1 @i2 @i3 @h0 (aj4 @ho @bH @bD @ae)) (cR) (aj8 @nl2 @nr2 @g1 @eO @ns @i1 @bD @ae) ?_;have F:=ai @na @ae;refine gG ?_;exact ⟨(k+1,bE (fv (bY g o) sets g.sorts.names.length i (j+1) (k+1+1)) g.sorts.names.length),⟨om,hkj,rfl⟩,gw,gw,om⟩
end
def Env.plus (e:Env) (E2:Nat->Prop) (G2:World->Prop):Env:=⟨e.P,fun b=>e.E b∨E2 b,fun w=>e.G w∧G2 w,e.D⟩
structure Fits (e:Env) (E2:Nat->Prop) (G2:World->Prop):Prop where
 st:tD E2 G2
 dj:∀ w,G2 w->∀ b,E2 b->¬ e.E b
section
variable {e:Env} {E2:Nat->Prop} {G2:World->Prop}
theorem Fits.ok (h:Fits e E2 G2) (he:e.Ok):(e.plus E2 G2).Ok:=⟨fun w w' hz hb ⟨h1,h2⟩=>⟨he.keep w w' hz (fun b dC=>hb b (.inl dC)) h1,h.st w w' hz (fun b dC=>hb b (.inr dC)) h2⟩,he.mixed⟩
theorem Kept.up {D:Prop} {E':Nat->Prop} (h:Kept D E B w w') (hE:∀ b,E b->E' b):Kept D E' B w w':=⟨h.os,h.tape,h.output,h.drawn,h.size,fun k hk hn=>h.block k hk fun q=>hn (hE k q)⟩
theorem Fits.keep (h:Fits e E2 G2) (hk:Kept e.D E w.heap.size w w') (hE:∀ b,(e.plus E2 G2).E b->b < w.heap.size) (hG:G2 w) (hn:∀ b,E2 b->¬ E b):G2 w':=h.st w w' hk.size (fun b hb=>hk.block b (hE b (.inr hb)) (hn b hb)) hG
theorem az.up (h2:Fits e E2 G2) (h:az e f args r):az (e.plus E2 G2) f args r :=
 ⟨h.1,fun w S vs hS hE hG dD=>(h.2 w S vs (fun b hb=>⟨(hS b hb).1,fun q=>(hS b hb).2 (.inl q)⟩) (fun b hb=>hE b (.inl hb)) hG.1 dD).mono fun en w' ⟨v,h1,hk,hg,ha⟩=>⟨v,h1,hk.up fun _=>.inl,⟨hg,h2.keep hk hE hG.2 (h2.dj w hG.2)⟩,ha⟩⟩
theorem k9.up (h2:Fits e E2 G2) {R:List D->Prop} (h:k9 e f args R):k9 (e.plus E2 G2) f args R :=
 ⟨h.1,fun w S vs hS hE hG dD=>(h.2 w S vs (fun b hb=>⟨(hS b hb).1,fun q=>(hS b hb).2 (.inl q)⟩) (fun b hb=>hE b (.inl hb)) hG.1 dD).mono fun en w' ⟨v,r,h1,hr,hk,hg,ha⟩=>⟨v,r,h1,hr,hk.up fun _=>.inl,⟨hg,h2.keep hk hE hG.2 (h2.dj w hG.2)⟩,ha⟩⟩
theorem kh.up (h2:Fits e E2 G2) (h:kh e f args ty sz rows):kh (e.plus E2 G2) f args ty sz rows :=
 ⟨h.1,fun w S vs hS hE hG dD=>(h.2 w S vs (fun b hb=>⟨(hS b hb).1,fun q=>(hS b hb).2 (.inl q)⟩) (fun b hb=>hE b (.inl hb)) hG.1 dD).mono fun en w' ⟨v,h1,hk,hg,ha⟩=>⟨v,h1,hk.up fun _=>.inl,⟨hg,h2.keep hk hE hG.2 (h2.dj w hG.2)⟩,ha⟩⟩
theorem jG.up (h2:Fits e E2 G2) {rows':List (List C)} (h:jG e f ty sz rows args rows' r):jG (e.plus E2 G2) f ty sz rows args rows' r :=
 ⟨h.1,fun w S v0 vs hS hE h0 hG hb dD=>(h.2 w S v0 vs (fun b hb=>⟨(hS b hb).1,fun q=>(hS b hb).2 (.inl q)⟩) (fun b hb=>hE b (.inl hb)) (fun g hg q=>h0 g hg (.inl q)) hG.1 hb dD).mono fun en w' ⟨v,h1,hk,hg,ha⟩=>⟨v,h1,hk.up fun _ q=>q.elim (fun q=>.inl (.inl q)) .inr,⟨hg,h2.keep hk hE hG.2 fun b hb q=>q.elim (h2.dj w hG.2 b hb) fun q=>h0 b q (.inr hb)⟩,ha⟩⟩
theorem qC.up (h2:Fits e E2 G2) {rows':List (List C)} (h:qC e f ty sz rows args rows'):qC (e.plus E2 G2) f ty sz rows args rows' :=
 ⟨h.1,fun w S v0 vs hS hE h0 hG hb dD=>(h.2 w S v0 vs (fun b hb=>⟨(hS b hb).1,fun q=>(hS b hb).2 (.inl q)⟩) (fun b hb=>hE b (.inl hb)) (fun g hg q=>h0 g hg (.inl q)) hG.1 hb dD).mono fun en w' ⟨v,h1,hk,hg,ha⟩=>⟨v,h1,hk.up fun _ q=>q.elim (fun q=>.inl (.inl q)) .inr,⟨hg,h2.keep hk hE hG.2 fun b hb q=>q.elim (h2.dj w hG.2 b hb) fun q=>h0 b q (.inr hb)⟩,ha⟩⟩
theorem aR.up (h2:Fits e E2 G2) {R:List D->List Bk->Prop} (h:aR e f args pm R):aR (e.plus E2 G2) f args pm R :=
 ⟨h.1,fun w S vs hS hE hG iO lR dD=>(h.2 w S vs (fun b hb=>⟨(hS b hb).1,fun q=>(hS b hb).2 (.inl q)⟩) (fun b hb=>hE b (.inl hb)) hG.1 (fun x hx=>⟨(iO x hx).1,fun g hg q=>(iO x hx).2 g hg (.inl q)⟩) lR dD).mono fun en w' ⟨v,r,bX,h1,hr,hk,hg,ha⟩=>⟨v,r,bX,h1,hr,hk.up fun _ q=>q.elim (fun q=>.inl (.inl q)) .inr,⟨hg,h2.keep hk hE hG.2 fun b hb q=>q.elim (h2.dj w hG.2 b hb) fun ⟨x,hx,hxg⟩=>(iO x hx).2 b hxg (.inr hb)⟩,ha⟩⟩
theorem ZD8 {ι:Type} {G:ι->World->Prop} {ok:ι->Prop} (h2:Fits e E2 G2) (bm:∀ i,tD E2 (G i)) (ho:∀ w,G2 w->∃ i,ok i∧G i w) (hi:∀ w i,(∀ b,E2 b->¬ e.E b)->ok i->G i w->G2 w) {xs:List D} (hb:ny e.P f=true)
  (h:∀ i,ok i->aR e f xs [.set E2 (G i)] (fun r' pm=>r'=r∧∃ i',ok i'∧pm=[.set E2 (G i')])):az (e.plus E2 G2) f xs r:=by
 refine ⟨hb,fun w S vs hS hE hG dD=>?_⟩;obtain ⟨i,hi1,hi2⟩:=ho w hG.2;have jg:=h2.dj w hG.2;refine ((h i hi1).2 w S vs (fun b hb=>⟨(hS b hb).1,fun q=>(hS b hb).2 (.inl q)⟩) (fun b hb=>hE b (.inl hb)) hG.1 (fun x hx=>?_) ⟨fun y hy=>(by cases hy),trivial⟩ dD).mono fun en w' ⟨v,r',pm,h1,⟨hr,i',hi1',iO⟩,hk,hg,hp,_,ha⟩=>?_
 ·obtain rfl:=Tbj.1 hx;exact ⟨⟨fun b hb=>⟨hE b (.inr hb),fun q=>(hS b q).2 (.inr hb)⟩,hi2,bm i⟩,fun g hg=>jg g hg⟩
 ·subst hr iO;have ua:∀ (G:World->Prop) (b:Nat),dV [.set E2 G] b ↔ E2 b:=fun G b=>⟨fun ⟨x,hx,hg⟩=>by obtain rfl:=Tbj.1 hx;exact hg,fun q=>⟨_,Tbj.2 rfl,q⟩⟩;refine ⟨v,h1,hk.up fun b q=>q.elim .inl fun q=>.inr ((ua _ b).1 q),⟨hg,hi w' i' jg hi1' (hp _ (Tbj.2 rfl)).1.2.1⟩,ha.keep (Tai _) (fun _ _ _=>rfl) fun b hb=>?_⟩;rcases hb.1 with q | q | q
  ·exact .inl q
  ·exact absurd ((ua _ b).2 ((ua _ b).1 q)) hb.2
  ·exact .inr q
theorem ZGL {ay:Nat} {c:Code} {Q:PX->St->Prop} {G1:World->Prop} (k:Nat) (bm:tD E2 G2) (hm:gm m k=some (.set E2 G1)) (h2:(∀ b,E2 b->¬ e.E b)->Fits e E2 G2∧∀ w,G1 w->G2 w) (h:Fits e E2 G2->cp (e.plus E2 G2) ay c ⟨s,aA k m⟩ Q):cp e ay c ⟨s,m⟩ Q:=by
 intro he U w0 S0 nt a w aj ⟨S,L,hs⟩;have hc:=hs.cls;have ho:=hc.own k _ hm;obtain ⟨hF,hG⟩:=h2 fun b hb=>hc.notE hm (show cQ L k (.set E2 G1) b from hb);have au:∀ b,e.E b∨E2 b->b < w.heap.size:=fun b hb=>hb.elim (fun q=>Tbd (hc.ein b q) hc.bsz) fun q=>(ho.1 b q).1;have et:∀ k' bk,gm (aA k m) k'=some bk->k'≠k∧gm m k'=some bk:=fun k' bk eV=>by
  rw [iL] at eV;by_cases e:k'=k
  ·rw [if_pos e] at eV;cases eV
  ·rw [if_neg e] at eV;exact ⟨e,eV⟩
 have xi:aN (e.plus E2 G2) (fun g=>∃ k' bk,gm (aA k m) k'=some bk∧cQ L k' bk g) w S nt ⟨s,aA k m⟩ a w:=by
  refine ⟨S,L,⟨fun b hb=>⟨(hc.sin b hb).1,fun q=>q.elim (hc.sin b hb).2 fun q=>(ho.1 b q).2 hb⟩,fun b hb=>.inl hb,au,?_,Tai _,fun k' bk g h1 h2=>.inr ⟨k',bk,h1,h2⟩,fun k' bk eV=>hc.own k' bk (et k' bk eV).2,fun k1 k2 x1 x2 g h1 h2=>hc.inj k1 k2 x1 x2 g (et k1 x1 h1).2 (et k2 x2 h2).2,⟨hc.g,hG w ho.2.1⟩⟩,hs.rel,hs.size,hs.defers,Kept.refl _ _ _ _⟩;rintro b ⟨k',bk,h1,h3⟩ q;obtain ⟨bq,h1⟩:=et k' bk h1
  rcases q with q | q
  ·exact hc.notE h1 h3 q
  ·exact bq (hc.inj k' k bk _ b h1 hm h3 q)
 refine wp_mono (h hF (hF.ok he) _ _ _ _ _ w aj xi) fun ex a' w' hq=>?_;have back:∀ σ',aN (e.plus E2 G2) (fun g=>∃ k' bk,gm (aA k m) k'=some bk∧cQ L k' bk g) w S nt σ' a' w'->aN e U w0 S0 nt σ' a' w':=fun σ' ⟨S1,L1,h1⟩=>by
  have c1:=h1.cls;have hU:∀ b,(∃ k' bk,gm (aA k m) k'=some bk∧cQ L k' bk b)->w0.heap.size<=b∨U b:=fun b ⟨k',bk,q1,q2⟩=>hc.mine k' bk b (et k' bk q1).2 q2;refine ⟨S1,L1,⟨fun b hb=>⟨(c1.sin b hb).1,fun q=>(c1.sin b hb).2 (.inl q)⟩,fun b hb=>?_,hc.ein,hc.uin,Tbe hc.bsz c1.bsz,fun k' bk g q1 q2=>?_,c1.own,c1.inj,c1.g.1⟩,h1.rel,h1.size,h1.defers,⟨h1.kept.os.trans hs.kept.os,h1.kept.tape.trans hs.kept.tape,h1.kept.output.trans hs.kept.output,fun d=>Tbe (hs.kept.drawn d) (h1.kept.drawn d),Tbe hs.kept.size h1.kept.size,fun b hb hn=>?_⟩⟩
  ·rcases c1.sfr b hb with q | q | q
   ·exact hc.sfr b q
   ·exact .inr (.inl (Tbe hc.bsz q))
   ·exact .inr (hU b q)
  ·rcases c1.mine k' bk g q1 q2 with q | q
   ·exact .inl (Tbe hc.bsz q)
   ·exact hU g q
  ·refine (h1.kept.block b (Tbd hb hs.kept.size) fun q=>?_).trans (hs.kept.block b hb hn);rcases q with (q | q) | q
   ·exact hn (.inl q)
   ·rcases hc.mine k _ b hm (show cQ L k (.set E2 G1) b from q) with q | q
    ·omega
    ·exact hn (.inr q)
   ·rcases hU b q with q | q
    ·omega
    ·exact hn (.inr q)
 cases ex with
 | normal=>exact hq.elim fun σ' hq=>⟨σ',hq.1,back σ' hq.2⟩
 | exit id=>exact hq.elim fun σ' hq=>⟨σ',hq.1,back σ' hq.2⟩
 | ret=>exact hq.elim fun σ' hq=>⟨σ',hq.1,back σ' hq.2⟩
 | goto l=>exact hq
 | panic ch=>exact hq
 | outgrown=>exact hq
end
mutual
theorem ZqM:∀ t:Tm,am t<=ab (an t)+1
 | .mk _ _ _ args=>by
  have:=ZoJ args;simp only [am,an,ab,dN];omega
theorem ZoJ:∀ ts:List Tm,av ts<=(aq ts).length+ah (aq ts)
 | []=>by simp [av]
 | t::ts=>by
  have h1:=ZqM t;have h2:=ZoJ ts;simp only [av,aq,Tag,ah];omega
end
theorem qe (h:ab (an t)<=1048576):am t<=fc:=by
 have:=ZqM t;unfold fc;omega
theorem Df (a b:List C):ab (a++b)=ab a+ab b:=by
 induction a with
 | nil=>simp [ab]
 | cons x xs ih=>simp only [Taf,ab,ih];omega
theorem Zgy {r:List C}:∀ {rows:List (List C)},r∈rows->ab r<=ah rows
 | x::rs,h=>by
  simp only [ah];rcases Tbg.1 h with rfl | h
  ·omega
  ·have:=Zgy h;omega
theorem Kept.all1 {D:Prop} (h:Kept D e1.E B w w') (h1:e1.G w) (h2:e1.G w'):Kept D (fun _=>False) B w w':=⟨h.os,h.tape,h.output,h.drawn,h.size,fun k hk _=>by
 by_cases e:k=2
 ·have k1:nC w:=h1;have k2:nC w':=h2;subst e;unfold nC at k1 k2;exact k2.trans k1.symm
 ·exact h.block k hk e⟩
theorem az.weaken {e:Env} {pp:List D} (h:az e f pp r) (ha:∀ (w:World) (S:Nat->Prop) (vs:List Value),cx w S args vs->cx w S pp vs):az e f args r :=
 ⟨h.1,fun w S vs h1 h2 h3 h4=>h.2 w S vs h1 h2 h3 (ha w S vs h4)⟩
theorem ZH2 {P:Nat->Prop} (h:∃ n,P n):∃ n,P n∧∀ m,m < n->¬ P m:=by
 obtain ⟨n,hn⟩:=h
 induction n using Nat.strongRecOn with
 | _ n ih =>
  by_cases hx:∃ m,m < n∧P m
  ·obtain ⟨m,hm,hp⟩:=hx;exact ih m hm hp
  ·exact ⟨n,hn,fun m hm hp=>hx ⟨m,hm,hp⟩⟩
theorem Zrj {caps:List C} {P:Tm->Bool} (hl:ts.length<=fc) (h:∀ a∈ts,az e0 f (.agg (an a)::caps.map .one) [.one (.lit (.bool (P a)))]) :
  ∃ r:Int,(0<=r ↔ ts.any P=true)∧az e0 333 [.one (.sl (aq ts)),.one (.fn f caps)] [.one (.lit (.int .i64 r))]:=by
 unfold fc at hl;by_cases hA:ts.any P=true
 ·obtain ⟨k,hk,qV⟩:∃ k:Nat,(∃ a,ts[k]?=some a∧P a=true)∧∀ (j:Nat) a,j < k->ts[j]?=some a->P a=false:=by
   have pI:∃ k:Nat,∃ a,ts[k]?=some a∧P a=true:=by
    obtain ⟨a,ha,hp⟩:=List.any_eq_true.1 hA;obtain ⟨k,hk⟩:=Tbk ha;exact ⟨k,a,hk,hp⟩
   obtain ⟨k,hk,yo⟩:=ZH2 pI;refine ⟨k,hk,fun j a hj ha=>?_⟩
   cases hp:P a with
   | false=>rfl
   | true=>exact absurd ⟨a,ha,hp⟩ (yo j hj)
  obtain ⟨a0,uY,mY⟩:=hk;have eX:=(Tad.1 uY).1;refine ⟨(k:Int),⟨fun _=>hA,fun _=>om⟩,?_⟩;refine gI 66483 Tryz.func333 ?_;refine fG @ae ?_;have F:=@aw;refine gL (ι:=Nat) [4,5,8,9,16] [] (fun i=>[(8,A.d (.one (.lit (.int .i64 i))))]) (fun i=>[]) (fun i=>i<=k) (fun i=>k+1 - i) (0) om (fun i hi=>?_);clear F;have gf:(i:Int) < (ts.length:Int):=om;obtain ⟨a,ha⟩:∃ a,ts[i]?=some a:=⟨_,Taa om⟩;have dY:=bI (k:=i) om
  refine fB (ai @ae @gf) ?_;refine fC (ai @ae @ha) (h a (Tac ha)) ?_;by_cases xc:i=k
  ·subst xc;rw [ha] at uY;injection uY with uY
   subst uY;refine fR (ai @ae @mY) ?_;exact fT @ae
  ·have vr:=qV i a om ha;refine fR (ai @ae @vr) ?_;have F:=ai @dY @ae;refine gG ?_;exact ⟨i+1,om,gw,gw,om⟩
 ·have qV:∀ (j:Nat) a,ts[j]?=some a->P a=false:=fun j a ha=>by
   cases hp:P a with
   | false=>rfl
   | true=>exact absurd (List.any_eq_true.2 ⟨a,Tac ha,hp⟩) hA
  refine ⟨-1,⟨fun h=>om,fun h=>absurd h hA⟩,?_⟩;refine gI 66483 Tryz.func333 ?_;refine fG @ae ?_;have F:=@aw;refine gL (ι:=Nat) [4,5,8,9,16] [] (fun i=>[(8,A.d (.one (.lit (.int .i64 i))))]) (fun i=>[]) (fun i=>i<=ts.length) (fun i=>ts.length - i) (0) om (fun i hi=>?_);clear F;by_cases eG:i < ts.length;rotate_left
  ·have gf:¬ ((i:Int) < (ts.length:Int)):=om;exact fT (ai @ae @gf)
  have gf:(i:Int) < (ts.length:Int):=om;obtain ⟨a,ha⟩:∃ a,ts[i]?=some a:=⟨_,Taa om⟩;have dY:=bI (k:=i) om;have vr:=qV i a ha;refine fB (ai @ae @gf) ?_;refine fC (ai @ae @ha) (h a (Tac ha)) ?_;refine fR (ai @ae @vr) ?_;have F:=ai @dY @ae;refine gG ?_;exact ⟨i+1,om,gw,gw,om⟩
theorem Znm {caps:List C} {P:Tm->Bool} (hl:ts.length<=fc) (h:∀ a∈ts,az e0 f (.agg (an a)::caps.map .one) [.one (.lit (.bool (P a)))]) :
  az e0 311 [.one (.sl (aq ts)),.one (.fn f caps)] [.one (.lit (.bool (ts.any P)))]:=by
 obtain ⟨r,hr,c⟩:=Zrj hl h;refine gI 19 Tryz.func311 ?_;refine fB @ae ?_;refine fC @ae (c) ?_;have e:decide (0<=r)=ts.any P:=by
  rw [Bool.eq_iff_iff,decide_eq_true_iff];exact hr
 refine fR @ae ?_;exact fT @e
theorem ZGO:aU w (.sl []) E (.slice none 0 0):=by
 simp only [aU];exact m222
theorem ZCB:eS [] [.set (fun _=>False) (fun w=>aT w (an ck) (fun _=>False) [.int .i64 0,.string ByteArray.empty,.int .i64 0,.slice none 0 0])]:=fun w S _ _ =>
 ⟨fun x hx=>by simp at hx;subst hx;exact ⟨fun b h=>h.elim,ZB6 (args:=[]) (by simp only [aq];exact ZGO),aT.stable _ _ _⟩,wK _,fun g ⟨x,hx,hg⟩=>by simp at hx;subst hx;exact hg.elim⟩
theorem m256 {p:Prop} (h:p:=by
 have F:=@q4;refine gG ?_;exact ⟨(i+1,b),⟨au,rfl,rY⟩,gw,gw,om⟩):p:=h
theorem m145 {p:Prop} (h:p:=by
 refine gX ?_;refine dT @aw @ae ?_;refine pE [] [1001] ZCB ?_;exact (have F:=@aw;eU [1001] (Dq.mk (x:=(ck,false)) rfl rfl))):p:=h
def di:Tm->List Int->Tm × Bool
 | t,[]=>(t,true)
 | t,p::ps=>if p < 0 then (ck,false) else match t.args[p.toNat]? with
  | some a=>di a ps
  | none=>(ck,false)
def Dq (x:Tm × Bool) (r:List D) (pm:List Bk):Prop:=∃ us E,r=[.agg (aM us),.one (.lit (.bool x.2))]∧us.length=4∧(aM us).all aY=true∧pm=[.set E (fun w=>aT w (an x.1) E us)]
theorem Dq.mk {x:Tm × Bool} {b:Bool} {u0 u1 u2 u3:Value} (aj:(aM [u0,u1,u2,u3]).all aY=true) (hb:b=x.2):Dq x [.agg [.lit u0,.lit u1,.lit u2,.lit u3],.one (.lit (.bool b))] [.set E (fun w=>aT w (an x.1) E [u0,u1,u2,u3])]:=⟨[u0,u1,u2,u3],E,by rw [hb];rfl,rfl,aj,rfl⟩
theorem ZfO {ps:List Int} {i:Nat} {p:Int} (h:ps[i]?=some p):di t (ps.drop i)=if p < 0 then (ck,false) else match t.args[p.toNat]? with
  | some a=>di a (ps.drop (i+1))
  | none=>(ck,false):=by
 obtain ⟨hl,rfl⟩:=Tad.1 h;rw [List.drop_eq_getElem_cons hl,di]
theorem Znn {a b:Tm} {i:Nat} (h:a.args[i]?=some b):ab (an b)<=ab (an a):=by
 obtain ⟨op,nm,so,args⟩:=a;have h2:=tB (by rw [sA];simp only [Tm.args] at h;rw [h];rfl:(aq args)[i]?=some (an b));simp only [an,ab,dN];omega
theorem ZoN (t:Tm) (ps:List Int) (hl:ps.length<=1048576) (hb:ab (an t)<=1048576):aR e0 185 [.agg (an t),.one (.sl (ps.map d7))] [] (Dq (di t ps)):=by
 refine dK (ts:=[.cell 4 53,.slot 5]) [] 4198327 Tryz.func185 ?_;refine fG @ae ?_;have F:=@ae;refine gL (ι:=Nat × Tm) [5,7,10,11,22] [2] (fun x=>[(10,.d (.one (.lit (.int .i64 (x.1:Int)))))]) (fun x=>[(2,.var none (an x.2))]) (fun x=>x.1<=ps.length∧di t ps=di x.2 (ps.drop x.1)∧ab (an x.2)<=1048576) (fun x=>ps.length - x.1) ((0,t)) (⟨Taj _,rfl,hb⟩) (fun x hx=>?_);obtain ⟨i,a⟩:=x
 obtain ⟨hi,hs,ha⟩:=hx;simp only at hi hs ha;rw [hs];clear hs;by_cases au:i < ps.length
 ·obtain ⟨p,hp⟩:∃ p,ps[i]?=some p:=⟨_,Taa au⟩;have q1:=lT i ps.length;rw [ZfO hp];by_cases mY:p < 0
  ·rw [if_pos mY];refine nJ 5 (aj4 @q1 @hp @gu (eq_true mY:(p < 0)=True)) ?_;exact m145
  ·have q2:(p < 0)=False:=eq_false mY;rw [if_neg mY]
   cases hg:a.args[p.toNat]? with
   | none =>
    have ct:=List.getElem?_eq_none_iff.1 hg;refine nJ 5 (aj6 @q1 @hp @gu @q2 @ae (eq_true om:(p ≥ (a.args.length:Int))=True)) ?_;exact m145
   | some b =>
    have jT:=(Tad.1 hg).1;refine fG (aj8 @q1 @hp @gu @q2 @ae (eq_false om:(p ≥ (a.args.length:Int))=False) @hg (eq_true om:(0<=p)=True)) ?_;have rY:ab (an b)<=1048576:=Tbe (Znn hg) ha;have q4:IntKind.i64.wrap ((i:Int)+1)=(i:Int)+1:=IntWalk.i64_in _ om;exact m256
 ·obtain rfl:i=ps.length:=by omega
  rw [List.drop_length,di];refine fB (lF ps.length ps.length) ?_;have F:=@ae;refine bR [] [1001] (Zil a ha) ?_;rintro r pm ⟨us,E2,rfl,hu,aj,rfl⟩;rw [zp] at hu;obtain ⟨u0,u1,u2,u3,rfl⟩:=len4 hu;obtain ⟨k0,k1,k2,k3⟩:=vU aj;simp only [pg,aI,bh,aZ,Taf,Tah];refine dT (aj5 @ae @k0 @k1 @k2 @k3) @ae ?_;exact (have F:=@aw;eU [1001] (Dq.mk aj rfl))
theorem m175 {p:Prop} (h:p:=by
 obtain ⟨op,nm,so,args⟩:=a;simp only [an,ab,dN,bf] at ha;simp only [Tm.args];omega):p:=h
theorem Zls (x lo hi:Int):az e0 95 [.one (.lit (.int .i64 x)),.one (.lit (.int .i64 lo)),.one (.lit (.int .i64 hi))] [.one (.lit (.bool (decide (lo<=x∧x<=hi))))]:=by
 exact m154
theorem ZCC {ps:List Int} {i:Nat} {p:Int} (h:ps[i]?=some p) (eY:¬ (0<=p∧p<=(t.args.length:Int) - 1)):di t (ps.drop i)=(ck,false):=by
 rw [ZfO h];split
 ·rfl
 ·rw [List.getElem?_eq_none om]
theorem ZGP {a:Tm} (ha:ab (an a)<=1048576):a.args.length<=1048576:=by
 exact m175
theorem Zlt (t:Tm) (ps:List Int) (hl:ps.length<=1048576) (hb:ab (an t)<=1048576):az e0 168 [.agg (an t),.one (.sl (ps.map d7))] [.agg (an (di t ps).1),.one (.lit (.bool (di t ps).2))]:=by
 refine gI (ts:=[.cell 4 53,.slot 5]) 4195447 Tryz.func168 ?_;refine fG @ae ?_;have F:=@ae;refine gL (ι:=Nat × Tm) [5,6,10,22] [2] (fun x=>[(6,.d (.one (.lit (.int .i64 (x.1:Int)))))]) (fun x=>[(2,.var none (an x.2))]) (fun x=>x.1<=ps.length∧di t ps=di x.2 (ps.drop x.1)∧ab (an x.2)<=1048576) (fun x=>ps.length - x.1) ((0,t)) (⟨Taj _,rfl,hb⟩) (fun x hx=>?_);obtain ⟨i,a⟩:=x;obtain ⟨hi,hs,ha⟩:=hx
 simp only at hi hs ha;rw [hs];clear hs;by_cases au:i < ps.length
 ·obtain ⟨p,hp⟩:∃ p,ps[i]?=some p:=⟨_,Taa au⟩;have q1:=lT i ps.length;have ca:=ZGP ha;have q2:IntKind.i64.wrap ((a.args.length:Int) - 1)=(a.args.length:Int) - 1:=IntWalk.i64_in _ om;have q4:IntKind.i64.wrap ((i:Int)+1)=(i:Int)+1:=IntWalk.i64_in _ om;by_cases eY:0<=p∧p<=(a.args.length:Int) - 1
  ·obtain ⟨b,hg⟩:∃ b,a.args[p.toNat]?=some b:=⟨_,Taa om⟩;have q3:decide (0<=p∧p<=(a.args.length:Int) - 1)=true:=decide_eq_true eY;rw [ZfO hp,if_neg om,hg];have bF:=aj5 @q1 @hp @gu @q2 @ae;refine bU bF bF (Zls p 0 _) ?_;refine dT @q3 (aj8 @q1 @hp @gu @q2 @ae @q3 (eq_true eY.1:(0<=p)=True) @hg) ?_;have rY:ab (an b)<=1048576:=Tbe (Znn hg) ha
   exact m256
  ·have q3:decide (0<=p∧p<=(a.args.length:Int) - 1)=false:=decide_eq_false eY;rw [ZCC hp eY];refine bU (aj5 @q1 @hp @gu @q2 @ae) (aj5 @q1 @hp @gu @q2 @ae) (Zls p 0 _) ?_;exact bK @q3 (aj7 @q1 @hp @gu @q2 @ae @q3 @oc)
 ·obtain rfl:i=ps.length:=by omega
  rw [List.drop_length,di];exact fD (ai (lF ps.length ps.length) @ae)
section
variable {e:Env} {ay:Nat} {Q:PX->St->Prop} {ds:List (Option Nat)}
def f9 (L:List Oper):Nat->Nat->List Nat
 | 0,_=>[]
 | n+1,j=>lt L j++(lt L j).flatMap (f9 L n)
theorem Zkd {L:List Oper} {ag:Array Bool} (h:∀ j,ag.getD j false=true->∀ q∈lt L j,ag.getD q false=true):∀ (n j:Nat),(∀ q∈lt L j,ag.getD q false=true)->∀ q∈f9 L n j,ag.getD q false=true
 | 0,_,_,q,hq=>by cases hq
 | n+1,j,hj,q,hq=>by
  rcases Tbh.1 hq with hq | hq
  ·exact hj q hq
  ·obtain ⟨r,hr,hq⟩:=List.mem_flatMap.1 hq;exact Zkd h n r (h r (hj r hr)) q hq
def AG (e:Env) (ds:List (Option Nat)) (L:List Oper) (cons:Nat->Option Nat) (pU:List Nat) (B:St->Prop) (P:Nat->St->Prop):Nat->List Oper->Prop
 | _,[]=>True
 | i,o::os=>(∀ s m,B ⟨s,m⟩->(∀ j∈lt L i,(cons j=none∨cons j=some i)->P j ⟨s,m⟩)->(∀ j∈pU,cons j=some i->P j ⟨s,m⟩)->(∀ j∈pU,∀ k,cons j=some k->i∈lt L k->P j ⟨s,m⟩)->al e ds 0 [o] ⟨s,m⟩ (fun σ'=>B σ'∧P i σ'∧∀ j,j≠i->i ∉ f9 L 6 j->cons j≠some i->(∀ k,cons j=some k->k ∉ f9 L 6 i)->P j ⟨s,m⟩->P j σ'))∧AG e ds L cons pU B P (i+1) os
theorem AG.get {L:List Oper} {cons:Nat->Option Nat} {pU:List Nat} {B:St->Prop} {P:Nat->St->Prop}:∀ {l:List Oper} {k i:Nat} {o:Oper},AG e ds L cons pU B P k l->l[i]?=some o->∀ s m,B ⟨s,m⟩->(∀ j∈lt L (k+i),(cons j=none∨cons j=some (k+i))->P j ⟨s,m⟩)->(∀ j∈pU,cons j=some (k+i)->P j ⟨s,m⟩)->(∀ j∈pU,∀ k',cons j=some k'->k+i∈lt L k'->P j ⟨s,m⟩)->al e ds 0 [o] ⟨s,m⟩ (fun σ'=>B σ'∧P (k+i) σ'∧∀ j,j≠k+i->k+i ∉ f9 L 6 j->cons j≠some (k+i)->(∀ k',cons j=some k'->k' ∉ f9 L 6 (k+i))->P j ⟨s,m⟩->P j σ')
 | [],k,i,o,_,h=>by simp at h
 | x::l,k,0,o,h,ho=>by
  exact m228
 | x::l,k,i+1,o,h,ho=>by
  have:=AG.get (l:=l) (k:=k+1) (i:=i) (o:=o) h.2 (by simpa using ho);rw [show k+1+i=k+(i+1) by omega] at this;exact this
theorem ZuY {l:List Oper} {cons:Nat->Option Nat} {pU:List Nat} {B:St->Prop} {P:Nat->St->Prop} (hb:ZrR l=true) (BB:pU.all (fun j=>decide (l.length<=j))=true) (nU:AG e ds l cons pU B P 0 l) (hK:∀ s m,B ⟨s,m⟩->(∀ i,i < l.length∨i∈pU->(∀ k,cons i=some k->l.length<=k)->P i ⟨s,m⟩)->K ⟨s,m⟩) :
  ∀ (f:Nat) (ag:Array Bool) (σ:St),ag.size=l.length->(List.range l.length).countP (fun i=>!ag.getD i true)=f->B σ->(∀ j,ag.getD j false=true->(P j σ∨∃ k,cons j=some k∧ag.getD k false=true)∧∀ q∈lt l j,ag.getD q false=true)->(∀ j∈pU,P j σ∨∃ k,cons j=some k∧ag.getD k false=true)->mU e ds l.toArray K f ag σ:=by
 have im:∀ i o,l[i]?=some o->o.guard=none∧∀ e∈o.after,Region.binds .any e=true->e.on < i:=fun i o ho=>by
  exact m64
 have rc:∀ (ag:Array Bool),ag.size=l.length->Region.ready .any l.toArray ag=[]->∀ i,i < l.length->ag.getD i false=true:=fun ag bO h0 i=>by
  exact m56
 have au:∀ (ag:Array Bool) (k:Nat),ag.getD k false=true->k < ag.size:=fun ag k h=>Classical.byContradiction fun hn=>by
  rw [Array.getD_eq_getD_getElem?,Array.getElem?_eq_none om] at h
  cases h
 intro f
 induction f with
 | zero =>
  intro ag σ bO hc hB hP hI;have aD:∀ i,i < l.length->ag.getD i true=true:=fun i hi=>by
   have:=List.countP_eq_zero.1 hc i (List.mem_range.2 hi);simpa using this
  refine ⟨?_,hK σ.s σ.m hB fun i hio hk=>?_⟩
  ·cases hr:Region.ready .any l.toArray ag with
   | nil=>rfl
   | cons i r =>
    have hi:i∈Region.ready .any l.toArray ag:=by rw [hr];simp
    obtain ⟨kG,oi,gh,_⟩:=mem_ready.1 hi;have ci:i < l.length:=by
     have:=(Tbl.1 gh).1;simpa using this
    rw [aD i ci] at kG
    cases kG
  ·have bC:¬ ∃ k,cons i=some k∧ag.getD k false=true:=fun ⟨k,h1,h2⟩=>by
    have:=au ag k h2;have:=hk k h1;omega
   rcases hio with hi | hi
   ·exact (hP i (by rw [<- np om];exact aD i hi)).1.resolve_right bC
   ·exact (hI i hi).resolve_right bC
 | succ f ih =>
  intro ag σ bO hc hB hP hI;refine ⟨fun h0=>hK σ.s σ.m hB fun i hio hk=>?_,fun i hi=>?_⟩
  ·have bC:¬ ∃ k,cons i=some k∧ag.getD k false=true:=fun ⟨k,h1,h2⟩=>by
    have:=au ag k h2;have:=hk k h1;omega
   rcases hio with hi | hi
   ·exact (hP i (rc ag bO h0 i hi)).1.resolve_right bC
   ·exact (hI i hi).resolve_right bC
  obtain ⟨kG,o,gh,aD⟩:=mem_ready.1 hi;have ho:l[i]?=some o:=by simpa using gh
  have ci:i < l.length:=(Tad.1 ho).1;have cb:i < ag.size:=om;have hda:lt l i=wI o:=by unfold lt;rw [ho]
  have oC:ag.getD i false=false:=by rw [<- np cb];exact kG
  have hanc:∀ q∈f9 l 6 i,ag.getD q false=true:=Zkd (fun j hj=>(hP j hj).2) 6 i fun q hq=>by
   rw [hda] at hq;simp only [wI,Tbi,List.mem_filter] at hq;obtain ⟨e,⟨he,ly⟩,rfl⟩:=hq;exact aD e (Array.mem_toList_iff.1 he) ly
  refine ⟨o,gh,(im i o ho).1,CW (im i o ho).1 ?_⟩;have h1:=AG.get nU ho σ.s σ.m hB (fun j hj DQ=>by
   rw [Nat.zero_add] at hj DQ;have ka:=hj;rw [hda] at ka;simp only [wI,Tbi,List.mem_filter] at ka;obtain ⟨e,⟨he,ly⟩,rfl⟩:=ka;refine (hP e.on (aD e (Array.mem_toList_iff.1 he) ly)).1.resolve_right ?_;rintro ⟨k,fd,ec⟩;rcases DQ with DQ | DQ
   ·rw [DQ] at fd;cases fd
   ·rw [DQ] at fd;injection fd with fd
    subst fd;rw [oC] at ec
    cases ec) (fun j hj hc=>by
   rw [Nat.zero_add] at hc;refine (hI j hj).resolve_right ?_;rintro ⟨k,fd,ec⟩;rw [hc] at fd;injection fd with fd
   subst fd;rw [oC] at ec
   cases ec) (fun j hj k' hc hd=>by
   rw [Nat.zero_add] at hd;refine (hI j hj).resolve_right ?_;rintro ⟨k,fd,ec⟩;rw [hc] at fd;injection fd with fd
   subst fd;have h2:=(hP _ ec).2 i hd;rw [oC] at h2
   cases h2)
  rw [Nat.zero_add] at h1;refine Zok h1 fun σ' ⟨k1,k2,k3⟩=>ih _ σ' (by simpa using bO) ?_ k1 (fun j hj=>?_) fun j hj=>?_
  ·have h1:(List.range l.length).countP (fun j=>!(ag.setIfInBounds i true).getD j true)+1=(List.range l.length).countP (fun j=>!ag.getD j true):=by
    have ff:=List.perm_cons_erase (List.mem_range.2 ci);rw [ff.countP_eq,ff.countP_eq,List.countP_cons,List.countP_cons];have mt:((List.range l.length).erase i).countP (fun j=>!(ag.setIfInBounds i true).getD j true)=((List.range l.length).erase i).countP (fun j=>!ag.getD j true):=by
     refine List.countP_congr fun j hj=>?_;have bq:j≠i:=fun e=>by
      subst e;exact List.Nodup.not_mem_erase (List.nodup_range) hj
     rw [getD_set_ne true (Ne.symm bq)]
    rw [mt,kG];simp [cb]
   omega
  ·by_cases i9:j=i
   ·subst i9;refine ⟨.inl k2,fun q hq=>?_⟩;rw [hda] at hq;simp only [wI,Tbi,List.mem_filter] at hq;obtain ⟨e,⟨he,ly⟩,rfl⟩:=hq;have au:=(im j o ho).2 e (Array.mem_toList_iff.1 he) ly;rw [getD_set_ne false om];exact aD e (Array.mem_toList_iff.1 he) ly
   ·rw [getD_set_ne false (Ne.symm i9)] at hj;obtain ⟨p1,p2⟩:=hP j hj;have DZ:i ∉ f9 l 6 j:=fun hm=>by
     have h2:=Zkd (fun j hj=>(hP j hj).2) 6 j p2 i hm;rw [oC] at h2
     cases h2
    refine ⟨?_,fun q hq=>?_⟩
    ·rcases p1 with p1 | ⟨k,fd,ec⟩
     ·by_cases hci:cons j=some i
      ·refine .inr ⟨i,hci,?_⟩;rw [<- np (by simpa using cb)];simp [Array.getD_eq_getD_getElem?,cb]
      ·by_cases qY:∃ k,cons j=some k∧k∈f9 l 6 i
       ·obtain ⟨k,fd,ec⟩:=qY;refine .inr ⟨k,fd,?_⟩;have BF:=hanc k ec;have qt:i≠k:=fun e=>by subst e;rw [oC] at BF;cases BF
        rw [getD_set_ne false qt];exact BF
       ·exact .inl (k3 j i9 DZ hci (fun k fd ec=>qY ⟨k,fd,ec⟩) p1)
     ·refine .inr ⟨k,fd,?_⟩;by_cases qt:k=i
      ·subst qt;rw [oC] at ec;cases ec
      ·rw [getD_set_ne false (Ne.symm qt)];exact ec
    ·by_cases hqi:q=i
     ·subst hqi;have h2:=p2 q hq;rw [oC] at h2
      cases h2
     ·rw [getD_set_ne false (Ne.symm hqi)];exact p2 q hq
  ·have lz:l.length<=j:=by have:=List.all_eq_true.1 BB j hj;simpa using this
   have i9:j≠i:=om;have DZ:i ∉ f9 l 6 j:=fun hm=>by
    have hd:lt l j=[]:=by unfold lt;rw [List.getElem?_eq_none lz]
    simp [f9,hd] at hm
   rcases hI j hj with p1 | ⟨k,fd,ec⟩
   ·by_cases hci:cons j=some i
    ·refine .inr ⟨i,hci,?_⟩;rw [<- np (by simpa using cb)];simp [Array.getD_eq_getD_getElem?,cb]
    ·by_cases qY:∃ k,cons j=some k∧k∈f9 l 6 i
     ·obtain ⟨k,fd,ec⟩:=qY;refine .inr ⟨k,fd,?_⟩;have BF:=hanc k ec;have qt:i≠k:=fun e=>by subst e;rw [oC] at BF;cases BF
      rw [getD_set_ne false qt];exact BF
     ·exact .inl (k3 j i9 DZ hci (fun k fd ec=>qY ⟨k,fd,ec⟩) p1)
   ·refine .inr ⟨k,fd,?_⟩;by_cases qt:k=i
    ·subst qt;rw [oC] at ec;cases ec
    ·rw [getD_set_ne false (Ne.symm qt)];exact ec
def kJ:List (Nat × A)->List (Nat × A)->Prop
 | [],_=>True
 | (t,x)::r,s=>gs s t=x∧kJ r s
def kI:List (Nat × Bk)->List (Nat × Bk)->Prop
 | [],_=>True
 | (t,x)::r,m=>gm m t=some x∧kI r m
theorem ZFS {s:List (Nat × A)}:∀ {sb:List (Nat × A)},(∀ p∈sb,gs s p.1=p.2) ↔ kJ sb s
 | []=>by simp [kJ]
 | (t,x)::r=>by simp only [List.forall_mem_cons,kJ,ZFS (sb:=r)]
theorem ZFT {m:List (Nat × Bk)}:∀ {mb:List (Nat × Bk)},(∀ p∈mb,gm m p.1=some p.2) ↔ kI mb m
 | []=>by simp [kI]
 | (t,x)::r=>by simp only [List.forall_mem_cons,kI,ZFT (mb:=r)]
theorem qF {sb:List (Nat × A)} {mb:List (Nat × Bk)}:dQ sb mb ⟨s,m⟩ ↔ kJ sb s∧kI mb m:=and_congr ZFS ZFT
abbrev Tab:=List (List (Nat × A) × List (Nat × Bk))
def jA (T:Tab) (i:Nat) (σ:St):Prop:=dQ (T.getD i ([],[])).1 (T.getD i ([],[])).2 σ
theorem cZ {T:Tab} {i:Nat}:jA T i ⟨s,m⟩ ↔ kJ (T.getD i ([],[])).1 s∧kI (T.getD i ([],[])).2 m:=qF
def DE (L:List Oper) (cons:Nat->Option Nat) (T:Tab) (i:Nat) (f:List (Nat × A)->List (Nat × Bk)->Bool):Bool:=(List.range T.length).all fun j=>j==i || ((f9 L 6 j).contains i || (cons j==some i || ((match cons j with | some k=>(f9 L 6 i).contains k | none=>false) || f (T.getD j ([],[])).1 (T.getD j ([],[])).2)))
theorem Zjz {L:List Oper} {cons:Nat->Option Nat} {T:Tab} {i:Nat} {f:List (Nat × A)->List (Nat × Bk)->Bool} {σ':St} (h:DE L cons T i f=true) (hf:∀ sb mb,f sb mb=true->dQ sb mb σ->dQ sb mb σ'):∀ j,j≠i->i ∉ f9 L 6 j->cons j≠some i->(∀ k,cons j=some k->k ∉ f9 L 6 i)->jA T j σ->jA T j σ':=fun j h1 h2 h3 h4 hp=>by
 unfold jA at hp ⊢;by_cases hj:j < T.length
 ·have:=List.all_eq_true.1 h j (List.mem_range.2 hj);simp only [Bool.or_eq_true,beq_iff_eq,List.contains_eq_mem,decide_eq_true_eq] at this;rcases this with q | q | q | q | q
  ·exact absurd q h1
  ·exact absurd q h2
  ·exact absurd q h3
  ·cases hc:cons j with
   | none=>rw [hc] at q;cases q
   | some k=>rw [hc] at q;exact absurd (by simpa using q) (h4 k hc)
  ·exact hf _ _ q hp
 ·rw [(by rw [List.getD_eq_getElem?_getD,List.getElem?_eq_none om];rfl:T.getD j ([],[])=([],[]))];exact ⟨fun p hp=>(by cases hp),fun p hp=>by cases hp⟩
section
variable {sb:List (Nat × A)} {mb:List (Nat × Bk)} {s:List (Nat × A)} {m:List (Nat × Bk)} {d k:Nat} {α:A} {bk:Bk}
theorem dQ.kill (h:dQ sb mb ⟨s,m⟩) (hf:sb.all (fun p=>!nb k p.2)=true):dQ sb mb ⟨bM k s,m⟩:=⟨fun p hp=>by
 have h1:=List.all_eq_true.1 hf p hp;have h2:=h.1 p hp;show gs (bM k s) p.1=p.2;rw [Zf7 _ _ _ (by rw [h2];simpa using h1)];exact h2,h.2⟩
theorem dQ.mrem (h:dQ sb mb ⟨s,m⟩) (hf:mb.all (fun p=>p.1 != k)=true):dQ sb mb ⟨s,aA k m⟩:=⟨h.1,fun p hp=>by
 have h1:=List.all_eq_true.1 hf p hp;simp only [bne_iff_ne,ne_eq] at h1;show gm (aA k m) p.1=some p.2;rw [iL,if_neg h1];exact h.2 p hp⟩
theorem ZCD {x:A} (h:nb k x=false):fk k bk x=x:=by
 cases x <;> simp_all [fk,nb]
theorem dQ.frz (h:dQ sb mb ⟨s,m⟩) (hf:sb.all (fun p=>!nb k p.2)=true) (hm:mb.all (fun p=>p.1 != k)=true):dQ sb mb ⟨eF k bk s,aA k m⟩:=by
 refine dQ.mrem (m:=m) ⟨fun p hp=>?_,h.2⟩ hm;have h1:=List.all_eq_true.1 hf p hp;show gs (eF k bk s) p.1=p.2;rw [Zpq,(h.1 p hp)];exact ZCD (by simpa using h1)
def ZFU (d:Nat) (sb:List (Nat × A)) (_:List (Nat × Bk)):Bool:=sb.all fun p=>p.1 != d
def ZFV (d:Nat) (_:List (Nat × A)) (mb:List (Nat × Bk)):Bool:=mb.all fun p=>p.1 != d
def zw (d k:Nat) (sb:List (Nat × A)) (mb:List (Nat × Bk)):Bool:=sE d sb mb && sE k sb mb
theorem dQ.ownE (h:dQ sb mb ⟨s,m⟩) (hf:zw d k sb mb=true):dQ sb mb ⟨(d,α)::bM d (bM k s),(d,bk)::aA d (aA k m)⟩:=by
 simp only [zw,sE,Tar,List.all_eq_true,bne_iff_ne,ne_eq,Bool.not_eq_true'] at hf;refine dQ.born (dQ.mrem (dQ.kill h ?_) ?_) ?_
 ·simp only [List.all_eq_true,Bool.not_eq_true'];exact fun p hp=>(hf.2.1 p hp).2
 ·simp only [List.all_eq_true,bne_iff_ne,ne_eq];exact fun p hp=>hf.2.2 p hp
 ·simp only [sE,Tar,List.all_eq_true,bne_iff_ne,ne_eq,Bool.not_eq_true'];exact hf.1
theorem dQ.ownF (h:dQ sb mb ⟨s,m⟩) (hf:zw d k sb mb=true):dQ sb mb ⟨eF d bk ((d,α)::bM d (bM k s)),aA d ((d,bk)::aA d (aA k m))⟩:=by
 have h1:=dQ.ownE (α:=α) (bk:=bk) h hf;simp only [zw,sE,Tar,List.all_eq_true,bne_iff_ne,ne_eq,Bool.not_eq_true'] at hf;refine dQ.frz h1 ?_ ?_
 ·simp only [List.all_eq_true,Bool.not_eq_true'];exact fun p hp=>(hf.1.1 p hp).2
 ·simp only [List.all_eq_true,bne_iff_ne,ne_eq];exact fun p hp=>hf.1.2 p hp
end
section
variable {L:List Oper} {cons:Nat->Option Nat} {T:Tab} {i:Nat} {sb:List (Nat × A)} {mb:List (Nat × Bk)} {s s2:List (Nat × A)} {m m2:List (Nat × Bk)} {d k:Nat} {α:A} {bk:Bk}
abbrev Did (L:List Oper) (cons:Nat->Option Nat) (T:Tab) (i:Nat) (sb:List (Nat × A)) (mb:List (Nat × Bk)) (s:List (Nat × A)) (m:List (Nat × Bk)) (σ':St):Prop:=dQ sb mb σ'∧jA T i σ'∧∀ j,j≠i->i ∉ f9 L 6 j->cons j≠some i->(∀ k,cons j=some k->k ∉ f9 L 6 i)->jA T j ⟨s,m⟩->jA T j σ'
theorem kS (hB:dQ sb mb ⟨s,m⟩) (hp:jA T i ⟨(d,α)::s,m⟩) (h1:ZFU d sb mb=true:=by rfl) (h2:DE L cons T i (ZFU d)=true:=by rfl):Did L cons T i sb mb s m ⟨(d,α)::s,m⟩:=⟨hB.slot h1,hp,Zjz h2 fun _ _ h hl=>hl.slot h⟩
theorem kM (hB:dQ sb mb ⟨s,m⟩) (hp:jA T i ⟨s,(d,bk)::aA d m⟩) (h1:ZFV d sb mb=true:=by rfl) (h2:DE L cons T i (ZFV d)=true:=by rfl):Did L cons T i sb mb s m ⟨s,(d,bk)::aA d m⟩:=⟨hB.own h1,hp,Zjz h2 fun _ _ h hl=>hl.own h⟩
theorem kB (hB:dQ sb mb ⟨s,m⟩) (hp:jA T i ⟨(d,α)::bM d s,(d,bk)::aA d m⟩) (h1:sE d sb mb=true:=by rfl) (h2:DE L cons T i (sE d)=true:=by rfl):Did L cons T i sb mb s m ⟨(d,α)::bM d s,(d,bk)::aA d m⟩:=⟨hB.born h1,hp,Zjz h2 fun _ _ h hl=>hl.born h⟩
theorem kE (hB:dQ sb mb ⟨s,m⟩) (hp:jA T i ⟨(d,α)::bM d (bM k s),(d,bk)::aA d (aA k m)⟩) (h1:zw d k sb mb=true:=by rfl) (h2:DE L cons T i (zw d k)=true:=by rfl):Did L cons T i sb mb s m ⟨(d,α)::bM d (bM k s),(d,bk)::aA d (aA k m)⟩:=⟨hB.ownE h1,hp,Zjz h2 fun _ _ h hl=>hl.ownE h⟩
theorem kF (hB:dQ sb mb ⟨s,m⟩) (hp:jA T i ⟨eF d bk ((d,α)::bM d (bM k s)),aA d ((d,bk)::aA d (aA k m))⟩) (h1:zw d k sb mb=true:=by rfl) (h2:DE L cons T i (zw d k)=true:=by rfl):Did L cons T i sb mb s m ⟨eF d bk ((d,α)::bM d (bM k s)),aA d ((d,bk)::aA d (aA k m))⟩:=⟨hB.ownF h1,hp,Zjz h2 fun _ _ h hl=>hl.ownF h⟩
end
theorem gFz {os:List Oper} {bk:Bk} (k:Nat) (hK:al e ds 0 os ⟨eF k bk s,aA k m⟩ K) (hm:gm m k=some bk:=by exact nf):al e ds 0 os ⟨s,m⟩ K :=
 Di (wm [k] rfl) fun σ' hσ=>by subst hσ;simp only [frzs,frz,hm,sK];exact hK
theorem gGk {l:List Oper} (sb:List (Nat × A)) (mb:List (Nat × Bk)) (T:Tab) (cons:Nat->Option Nat) (pU:List Nat) (hB:dQ sb mb ⟨s,m⟩) (hI:∀ j∈pU,jA T j ⟨s,m⟩) (hS:AG e (l.map (·.dst)) l cons pU (dQ sb mb) (jA T) 0 l) (hK:∀ s' m',dQ sb mb ⟨s',m'⟩->(∀ i,i < l.length∨i∈pU->(∀ k,cons i=some k->l.length<=k)->jA T i ⟨s',m'⟩)->∃ sf mf,dQ sf mf ⟨s',m'⟩∧Q .normal ⟨sf,mf⟩)
  (hb:ZrR l=true:=by decide +kernel) (BB:pU.all (fun j=>decide (l.length<=j))=true:=by decide +kernel) (hT:tp l.toArray 0=true:=by decide +kernel):cp e ay (.region id l.toArray true) ⟨s,m⟩ Q:=fun he U w0 S0 nt a w aj hs=>by
 refine Zm5 he hT (K:=fun σ'=>∃ sf mf,dQ sf mf σ'∧Q .normal ⟨sf,mf⟩) (fun a w σ' ⟨sf,mf,h1,h2⟩ h3=>⟨⟨sf,mf⟩,h2,h3.weak (fun t=>ZsS t h1.1) (fun t bk=>ZsT t bk h1.2)⟩) (Zoc aj) hs ?_;simp only [List.take_zero,al]
 have:=ZuY (K:=fun σ'=>∃ sf mf,dQ sf mf σ'∧Q .normal ⟨sf,mf⟩) hb BB hS hK l.length (mj l.length 0) ⟨s,m⟩ (by simp [mj]) (by
  rw [List.countP_eq_length.2]
  ·simp
  ·intro i hi;have eG:=List.mem_range.1 hi;simp [mj,eG]) hB (fun j hj=>by
   have h0:(mj l.length 0).getD j false=false:=by
    by_cases lz:j < l.length
    ·simp [mj,lz]
    ·simp [mj,lz]
   rw [h0] at hj
   cases hj) (fun j hj=>.inl (hI j hj))
 simpa using this
end
def kQ (rows:List (List C)) (r:List D) (pm:List Bk):Prop:=∃ v E,r=[.one (.lit v)]∧aY (.lit v)=true∧pm=[.set E (fun w=>aU w (.sl rows) E v)]
def qL:Bk->Bool
 | .set _ _=>true
 | _=>false
def oG:C->Bool
 | .lit _=>true
 | _=>false
def kH:D->Bool
 | .one c=>oG c
 | .agg cs=>cs.all oG
 | _=>false
theorem ZmJ {w:World} {S S':Nat->Prop}:∀ {cs:List C} {vs:List Value},cs.all oG=true->aC w S cs vs->aC w S' cs vs
 | [],[],_,_=>trivial
 | .lit x::cs,v::vs,hl,h=>by
  simp only [List.all_cons,Tar] at hl;exact ⟨h.1,ZmJ hl.2 h.2⟩
 | .sl _::_,_::_,hl,_=>by simp [oG] at hl
 | .ptr _::_,_::_,hl,_=>by simp [oG] at hl
 | .fn _ _::_,_::_,hl,_=>by simp [oG] at hl
 | [],_::_,_,h=>h.elim
 | _::_,[],_,h=>h.elim
theorem Ztw {S':Nat->Prop} {x:D} (hl:kH x=true) (h:aW w S x v):aW w S' x v:=by
 cases x with
 | one c=>cases c with
  | lit y=>exact h
  | _=>simp [kH,oG] at hl
 | agg cs=>obtain ⟨vs,h1,h2⟩:=h;exact ⟨vs,h1,ZmJ hl h2⟩
 | clip _=>simp [kH] at hl
theorem Zlu {w:World} {S S':Nat->Prop}:∀ {r:List D} {vs:List Value},r.all kH=true->cx w S r vs->cx w S' r vs
 | [],[],_,_=>trivial
 | x::r,v::vs,hl,h=>by
  simp only [List.all_cons,Tar] at hl;exact ⟨Ztw hl.1 h.1,Zlu hl.2 h.2⟩
 | [],_::_,_,h=>h.elim
 | _::_,[],_,h=>h.elim
theorem ZEe {S':Nat->Prop} {L:Lay}:∀ {r:List D} {v:Value},r.all kH=true->ax w S L (bh r) v->ax w S' L (bh r) v
 | [],_,_,h=>by obtain ⟨vs,h1,h2⟩:=h;exact ⟨vs,h1,Zlu rfl h2⟩
 | [x],v,hl,h=>by
  simp only [List.all_cons,List.all_nil,Bool.and_true] at hl;exact Ztw (x:=x) (v:=v) hl h
 | x::y::z,_,hl,h=>by obtain ⟨vs,h1,h2⟩:=h;exact ⟨vs,h1,Zlu hl h2⟩
theorem ZH3 {e:Env} (h:az e f args r):aR e f args [] (fun r' pm=>r'=r∧pm=[]):=by
 refine ⟨h.1,fun w S vs hS hE hG iO ha hv=>(h.2 w S vs hS hE hG hv).mono ?_⟩;rintro en w' ⟨v,h1,h2,h3,h4⟩;refine ⟨v,r,[],h1,⟨rfl,rfl⟩,⟨h2.os,h2.tape,h2.output,h2.drawn,h2.size,fun k hk hn=>h2.block k hk (fun h=>hn (.inl h))⟩,h3,fun x hx=>by simp at hx,trivial,?_⟩;exact ax.keep (Tai _) (fun _ _ _=>rfl) (fun b hb=>⟨hb.elim .inl (fun h=>.inr (.inr h)),fun ⟨x,hx,_⟩=>by simp at hx⟩) h4
theorem ZCE {x:Bk} (hs:qL x=true) (h:mQ w S x) {g:Nat} (hg:dU x g):g < w.heap.size∧¬ S g:=by
 cases x with
 | set E G=>exact h.1 g hg
 | _=>simp [qL] at hs
theorem Ztx {S':Nat->Prop} {x:Bk} (hs:qL x=true) (h:mQ w S x) (hz:w.heap.size<=w'.heap.size) (hk:∀ b,dU x b->w'.heap[b]?=w.heap[b]?) (hS:∀ b,dU x b->¬ S' b):mQ w' S' x:=by
 cases x with
 | set E G=>exact ⟨fun b hb=>⟨Tbd (h.1 b hb).1 hz,hS b hb⟩,h.2.2 w w' hz hk h.2.1,h.2.2⟩
 | _=>simp [qL] at hs
theorem ZqQ:∀ {a b:List Bk},mT a->mT b->(∀ x∈a,∀ y∈b,∀ g,dU x g->¬ dU y g)->mT (a++b)
 | [],_,_,h,_=>h
 | x::a,b,⟨h1,h2⟩,h,hd=>⟨fun y hy g hx hg=>(Tbh.1 hy).elim (fun q=>h1 y q g hx hg) (fun q=>hd x Tas y q g hx hg),ZqQ h2 h (fun z hz=>hd z (Tal _ hz))⟩
theorem ZCF {e:Env} {data lits:List D} {R:List D->List Bk->Prop} (pm:List Bk) (h:aR e f data [] R) (pO:pm.all qL=true) (hR:∀ r q,R r q->r.all kH=true∧q.all qL=true)
  (hx:∀ (w:World) (S:Nat->Prop) (vs:List Value),(∀ x∈pm,mQ w S x)->cx w S lits vs->cx w (fun b=>S b∨dV pm b) data vs):aR e f lits pm (fun r q=>∃ q1,R r q1∧q=q1++pm):=by
 refine ⟨h.1,fun w S vs hS hE hG iO ha hv=>?_⟩;have vv:∀ x∈pm,qL x=true:=fun x hx=>List.all_eq_true.1 pO x hx;have au:∀ g,dV pm g->g < w.heap.size∧¬ S g∧¬ e.E g:=fun g ⟨x,B7,hg⟩=>⟨(ZCE (vv x B7) (iO x B7).1 hg).1,(ZCE (vv x B7) (iO x B7).1 hg).2,(iO x B7).2 g hg⟩;refine (h.2 w (fun b=>S b∨dV pm b) vs (fun b hb=>hb.elim (hS b) (fun q=>⟨(au b q).1,(au b q).2.2⟩)) hE hG (fun x hx=>by simp at hx) trivial (hx w S vs (fun x hx=>(iO x hx).1) hv)).mono ?_
 rintro en w' ⟨v,r,q1,h1,h2,h3,h4,h5,h6,h7⟩;obtain ⟨l1,l2⟩:=hR r q1 h2;have l2':∀ x∈q1,qL x=true:=fun x hx=>List.all_eq_true.1 l2 x hx;have vk:∀ x∈q1,∀ g,dU x g->w.heap.size<=g:=fun x hx g hg=>((h5 x hx).2 g hg).elim (fun ⟨y,hy,_⟩=>by simp at hy) id;have yr:∀ b,¬ dV [] b:=fun b ⟨y,hy,_⟩=>by simp at hy
 refine ⟨v,r,q1++pm,h1,⟨q1,h2,rfl⟩,⟨h3.os,h3.tape,h3.output,h3.drawn,h3.size,fun k hk hn=>h3.block k hk (fun q=>q.elim (fun q=>hn (.inl q)) (fun q=>yr k q))⟩,h4,fun x B7=>?_,ZqQ h6 ha (fun x hx y hy g hg o7=>?_),ZEe l1 h7⟩
 ·rcases Tbh.1 B7 with hq | hq
  ·refine ⟨Ztx (l2' x hq) (h5 x hq).1 (Tai _) (fun _ _=>rfl) (fun b hb hn=>hn.2 ⟨x,Tbh.2 (.inl hq),hb⟩),fun g hg=>.inr (vk x hq g hg)⟩
  ·refine ⟨Ztx (vv x hq) (iO x hq).1 h3.size (fun b hb=>h3.block b (au b ⟨x,hq,hb⟩).1 (fun q=>q.elim (au b ⟨x,hq,hb⟩).2.2 (yr b))) (fun b hb hn=>hn.2 ⟨x,Tbh.2 (.inr hq),hb⟩),fun g hg=>.inl ⟨x,hq,hg⟩⟩
 ·have:=vk x hx g hg;have:=(au g ⟨y,hy,o7⟩).1;omega
theorem Zgd {w:World} {S:Nat->Prop}:∀ {us vs:List Value},aC w S (aM us) vs->vs=us
 | [],[],_=>rfl
 | u::us,v::vs,h=>by
  obtain ⟨h1,h2⟩:=h;have h1:v=u:=h1;rw [h1,Zgd h2]
 | [],_::_,h=>h.elim
 | _::_,[],h=>h.elim
theorem Kept.noPin {D:Prop} (h:Kept D (fun b=>E b∨dV [] b) B w w'):Kept D E B w w' :=
 ⟨h.os,h.tape,h.output,h.drawn,h.size,fun k hk hn=>h.block k hk fun h=>h.elim hn fun ⟨x,hx,_⟩=>by cases hx⟩
theorem Zty {e:Env} (h:aR e f args [] (eL row)):az e f args [.agg row]:=by
 refine ⟨h.1,fun w S vs hS hE hG hv=>(h.2 w S vs hS hE hG (fun x hx=>by cases hx) trivial hv).mono ?_⟩;rintro en w' ⟨v,r,bX,h1,⟨us,E,rfl,hl,aj,rfl⟩,h3,h4,h5,h6,h7⟩;obtain ⟨⟨q1,q2,q3⟩,p2⟩:=h5 _ Tas;obtain ⟨sm,gl,hr⟩:=h7;have e1:=Zgd hr;subst e1;refine ⟨v,h1,h3.noPin,h4,sm,gl,aT.rep _ _ _ _ (fun g hg=>.inr ⟨?_,(q1 g hg).1⟩) q2⟩;exact (p2 g hg).elim (fun ⟨x,hx,_⟩=>by cases hx) id
theorem ZqR {e:Env} {x:Tm × Bool} (h:aR e f args [] (Dq x)):az e f args [.agg (an x.1),.one (.lit (.bool x.2))]:=by
 refine ⟨h.1,fun w S vs hS hE hG hv=>(h.2 w S vs hS hE hG (fun x hx=>by cases hx) trivial hv).mono ?_⟩;rintro en w' ⟨v,r,bX,h1,⟨us,E,rfl,hl,aj,rfl⟩,h3,h4,h5,h6,h7⟩;obtain ⟨⟨q1,q2,q3⟩,p2⟩:=h5 _ Tas;obtain ⟨vs',dD,hd⟩:=h7
 match vs',hd with
 | [u0,u1],⟨⟨sm,gl,hr⟩,hb,_⟩ =>
  have e1:=Zgd hr;subst e1;refine ⟨v,h1,h3.noPin,h4,[u0,u1],dD,⟨sm,gl,aT.rep _ _ _ _ (fun g hg=>.inr ⟨?_,(q1 g hg).1⟩) q2⟩,hb,trivial⟩;exact (p2 g hg).elim (fun ⟨x,hx,_⟩=>by cases hx) id
theorem m257 {p:Prop} (h:p:=by
 refine gG ?_;exact ⟨(i+1,k,out++[a]),⟨au,hk,hla,bm⟩,gw,gw,om⟩):p:=h
theorem m214 {p:Prop} (h:p:=by
 refine fG (aj3 @q1 @q2 @ae) ?_;have F:=aj3 @q1 @q2 @ae;refine gG ?_;exact uV [4]):p:=h
def wo:List Tm->List Tm->List Tm × Bool
 | l,[]=>(l,true)
 | [],_::_=>([],false)
 | a::l,o::os=>if aH a o=0 then wo l os else (a::(wo l (o::os)).1,(wo l (o::os)).2)
theorem Zlv (l:List Tm):wo l []=(l,true):=by cases l <;> rfl
def nW (s:Tm):List Tm->Option (List Tm)
 | []=>none
 | a::l=>if aH a s=0 then some l else (nW s l).map (a::·)
def gv:List Tm->List Tm->Option (List Tm)
 | l,[]=>some l
 | l,s::ss=>(nW s l).bind fun l'=>gv l' ss
theorem Zno {s:Tm} {l:List Tm} (h:∀ a∈l,aH a s≠0):nW s l=none:=by
 induction l with
 | nil=>rfl
 | cons a l ih =>
  simp only [nW,if_neg (h a Tas),ih fun x hx=>h x (Tal _ hx),Option.map_none]
theorem ZCG {s:Tm}:∀ {l:List Tm} {i:Nat} {x:Tm},l[i]?=some x->aH x s=0->(∀ (j:Nat) a,j < i->l[j]?=some a->aH a s≠0)->nW s l=some (l.take i++l.drop (i+1))
 | [],i,x,h,_,_=>by simp at h
 | a::l,0,x,h,hx,_=>by
  simp at h;subst h;simp [nW,hx]
 | a::l,i+1,x,h,hx,hb=>by
  have:=ZCG (l:=l) (i:=i) (by simpa using h) hx fun j b hj BC=>hb (j+1) b om (by simpa using BC);simp [nW,(hb 0 a om (by simp)),this]
theorem ZpL {s:Tm}:∀ {l l':List Tm},nW s l=some l'->l'.length+1=l.length
 | [],l',h=>by simp [nW] at h
 | a::l,l',h=>by
  simp only [nW] at h;split at h
  ·injection h with h;subst h;simp
  ·cases hr:nW s l with
   | none=>rw [hr] at h;cases h
   | some r =>
    rw [hr] at h;injection h with h
    subst h;have:=ZpL hr;simp;omega
theorem ZiW:∀ {ss l l':List Tm},gv l ss=some l'->l'.length+ss.length=l.length
 | [],l,l',h=>by simp only [gv] at h;injection h with h;subst h;simp
 | s::ss,l,l',h=>by
  simp only [gv] at h
  cases hr:nW s l with
  | none=>rw [hr] at h;cases h
  | some r =>
   rw [hr] at h;have h1:=ZiW (ss:=ss) h;have h2:=ZpL hr;simp only [Tag];omega
def nX (l:List Tm):Prop:=l.Pairwise fun a b=>aH a b<=0
theorem ZEf {a s:Tm} {l:List Tm} (h:aH a s≠0):nW s (a::l)=(nW s l).map (a::·):=by simp [nW,h]
theorem ZoO {a:Tm}:∀ {ss l:List Tm},(∀ s∈ss,aH a s≠0)->gv (a::l) ss=(gv l ss).map (a::·)
 | [],l,_=>rfl
 | s::ss,l,h=>by
  simp only [gv,ZEf (h s Tas)]
  cases hr:nW s l with
  | none=>rfl
  | some r =>
   simp only [Option.map_some,Option.bind_some];exact ZoO fun x hx=>h x (Tal _ hx)
theorem ZjA:∀ {l os:List Tm},nX l->nX os->((wo l os).2=true ↔ (gv l os).isSome=true)∧((wo l os).2=true->gv l os=some (wo l os).1)
 | l,[],_,_=>by rw [Zlv];simp [gv]
 | [],o::os,_,_=>by simp [wo,gv,nW]
 | a::l,o::os,hl,ho=>by
  have gf:=List.pairwise_cons.1 hl;have bZ:=List.pairwise_cons.1 ho;by_cases h:aH a o=0
  ·simp only [wo,if_pos h,gv,nW,Option.bind_some];exact (ZjA (l:=l) (os:=os) gf.2 bZ.2)
  ·have ih:=ZjA (l:=l) (os:=o::os) gf.2 ho;simp only [wo,if_neg h];by_cases au:aH a o < 0
   ·have bq:∀ s∈o::os,aH a s≠0:=fun s hs e=>by
     rcases Tbg.1 hs with rfl | hs
     ·omega
     ·have h2:=(ZiM a o s).1.2.1 au (bZ.1 s hs);omega
    rw [ZoO bq];refine ⟨by rw [ih.1];cases gv l (o::os) <;> simp,fun hw=>?_⟩;rw [ih.2 hw];rfl
   ·have t6:∀ x∈a::l,aH x o≠0:=fun x hx e=>by
     rcases Tbg.1 hx with rfl | hx
     ·exact h e
     ·have h1:=gf.1 x hx;have h2:=wv e;subst h2;omega
    have hn:gv (a::l) (o::os)=none:=by simp only [gv,Zno t6,Option.bind_none]
    have cy:gv l (o::os)=none:=by simp only [gv,Zno fun x hx=>t6 x (Tal _ hx),Option.bind_none]
    rw [cy] at ih;rw [hn];refine ⟨by rw [ih.1],fun hw=>?_⟩;have:=ih.1.1 hw
    cases this
theorem Zlw:∀ {l os:List Tm},nX l->(wo l os).2=true->nX os
 | l,[],_,_=>List.Pairwise.nil
 | [],o::os,_,h=>by simp [wo] at h
 | a::l,o::os,hl,h=>by
  have gf:=List.pairwise_cons.1 hl;by_cases hc:aH a o=0
  ·simp only [wo,if_pos hc] at h;have:=Zlw gf.2 h;have e:=wv hc;subst e;refine List.pairwise_cons.2 ⟨fun s hs=>?_,this⟩;exact gf.1 s (rF h s hs)
  ·simp only [wo,if_neg hc] at h;exact Zlw gf.2 h
where rF:∀ {l os:List Tm},(wo l os).2=true->∀ s∈os,s∈l
 | l,[],_,s,hs=>by cases hs
 | [],o::os,h,s,hs=>by simp [wo] at h
 | a::l,o::os,h,s,hs=>by
  by_cases hc:aH a o=0
  ·simp only [wo,if_pos hc] at h;have e:=wv hc;subst e;rcases Tbg.1 hs with rfl | hs
   ·exact Tas
   ·exact Tal _ (rF h s hs)
  ·simp only [wo,if_neg hc] at h;exact Tal _ (rF h s hs)
theorem y9 {α:Type} {l:List α} {i:Nat} {x:α} (h:l[i]?=some x):l.drop i=x::l.drop (i+1):=by
 obtain ⟨hl,hx⟩:=Tad.1 h;exact Cr
theorem ZuZ (l os:List Tm) (xf:l.length<=1048576) (jD:os.length<=1048576):az e0 186 [.one (.sl (aq l)),.one (.sl (aq os))] [.one (.sl (aq (wo l os).1)),.one (.lit (.bool (wo l os).2))]:=by
 refine gI (ts:=[.slot 4,.slot 5]) 268466931 Tryz.func186 ?_;refine fG @ae ?_;have F:=@ww;refine gL (ι:=Nat × Nat × List Tm) [6,7,9,13,14,28] [6] (fun x=>[(13,A.d (.one (.lit (.int .i64 x.1)))),(7,A.d (.one (.lit (.int .i64 x.2.1)))),(6,.buf 6)]) (fun x=>[(6,.buf none 53 4 (aq x.2.2))]) (fun x=>x.1<=l.length∧x.2.1<=os.length∧x.2.2.length<=x.1∧(wo l os)=(x.2.2++(wo (l.drop x.1) (os.drop x.2.1)).1,(wo (l.drop x.1) (os.drop x.2.1)).2)) (fun x=>l.length - x.1) ((0,0,[])) (⟨Taj _,Taj _,Tai _,rfl⟩) (fun x hx=>?_)
 obtain ⟨i,k,out⟩:=x;obtain ⟨hi,hk,hol2,hw⟩:=hx;simp only at hi hk hol2 hw;by_cases au:i < l.length;rotate_left
 ·obtain rfl:i=l.length:=by omega
  have q1:=lF l.length l.length;rw [hw];dsimp only;rw [List.drop_length] at hw ⊢;by_cases hke:k=os.length
  ·subst hke;have q2:((os.length:Int)=(os.length:Int))=True:=eq_true rfl;rw [List.drop_length,Zlv,List.append_nil];exact m214
  ·have q2:((k:Int)=(os.length:Int))=False:=eq_false om;obtain ⟨o,ho⟩:∃ o,os[k]?=some o:=⟨_,Taa om⟩;rw [(by rw [y9 ho];rfl:wo [] (os.drop k)=([],false)),List.append_nil];exact m214
 obtain ⟨a,ha⟩:∃ a,l[i]?=some a:=⟨_,Taa au⟩;have q1:=lT i l.length;have dZ:=bI (k:=i) om;have l1:ZaB 4 (aq out)=true:=oP _;have l3:(out.length+1<=ak)=True:=eq_true (by unfold ak;omega);have l4:aq out++[an a]=aq (out++[a]):=by rw [pf,wb]
 have hla:(out++[a]).length<=i+1:=by simp;omega
 by_cases hko:k < os.length;rotate_left
 ·have bm:wo l os=(out++[a]++(wo (l.drop (i+1)) (os.drop k)).1,(wo (l.drop (i+1)) (os.drop k)).2):=by
   have hd:os.drop k=[]:=List.drop_eq_nil_of_le om;rw [hw,y9 ha,hd,Zlv,Zlv];simp
  have F:=aj8 @q1 (lF k os.length) @ha @ae @l1 @l3 @l4 @dZ;exact m257
 obtain ⟨o,ho⟩:∃ o,os[k]?=some o:=⟨_,Taa hko⟩;have na:=bI (k:=k) om;refine bU (aj3 @q1 @ha @ae) (aj6 @q1 (lT k os.length) @ha @ho @bD @ae) (uv a o) ?_;by_cases hc:aH a o=0
 ·have z:=decide_eq_true hc;have bm:wo l os=(out++(wo (l.drop (i+1)) (os.drop (k+1))).1,(wo (l.drop (i+1)) (os.drop (k+1))).2):=by
   rw [hw,y9 ha,y9 ho,wo,if_pos hc]
  refine fR @z ?_;have F:=aj3 @z @na @dZ;refine gG ?_;exact ⟨(i+1,k+1,out),⟨au,hko,Nat.le_succ_of_le hol2,bm⟩,gw,gw,om⟩
 ·have z:=decide_eq_false hc;have bm:wo l os=(out++[a]++(wo (l.drop (i+1)) (os.drop k)).1,(wo (l.drop (i+1)) (os.drop k)).2):=by
   rw [hw,y9 ha,y9 ho,wo,if_neg hc,<- y9 ho];simp
  refine fR @z ?_;have F:=aj6 @z @ae @l1 @l3 @l4 @dZ;exact m257
open Classical in
noncomputable def kp (a b:List Tm):Bool:=decide (a=b)
theorem ZkB (a b:List Tm) (ha:a.length<=1048576) (hb:b.length<=1048576):az e0 187 [.one (.sl (aq a)),.one (.sl (aq b)),.one (.fn 89 [])] [.one (.lit (.bool (kp a b)))]:=by
 refine gI 1074250695 Tryz.func187 ?_;by_cases hl:a.length=b.length;rotate_left
 ·exact fT (aj3 (eq_false om:((a.length:Int)=(b.length:Int))=False) @ae (by simp only [kp,decide_eq_false_iff_not];intro h;rw [h] at hl;exact hl rfl:kp a b=false))
 refine fG (ai (eq_true om:((a.length:Int)=(b.length:Int))=True) @ae) ?_;have F:=@aw;refine gL (ι:=Nat) [6,7,8,9,17,18,30] [] (fun i=>[(17,A.d (.one (.lit (.int .i64 i))))]) (fun i=>[]) (fun i=>i<=a.length∧∀ (j:Nat) x y,j < i->a[j]?=some x->b[j]?=some y->x=y) (fun i=>a.length - i) (0) (⟨Taj _,fun j x y h=>absurd h om⟩) (fun i hi=>?_);obtain ⟨hi,aD⟩:=hi;by_cases au:i < a.length
 rotate_left
 ·have e:kp a b=true:=by
   simp only [kp,decide_eq_true_eq];refine List.ext_getElem hl fun j h1 h2=>aD j _ _ om (Taa h1) (Taa h2)
  exact fT (aj3 (lF i a.length) @ae @e)
 obtain ⟨x,hx⟩:∃ x,a[i]?=some x:=⟨_,Taa au⟩;obtain ⟨y,hy⟩:∃ y,b[i]?=some y:=⟨_,Taa om⟩;have dZ:=bI (k:=i) om;refine bU (aj5 (lT i a.length) @hx @hy @bD @ae) @ae (uv x y) ?_;by_cases hc:aH x y=0
 ·have z:=decide_eq_true hc;have bm:∀ (j:Nat) x y,j < i+1->a[j]?=some x->b[j]?=some y->x=y:=fun j u v hj hu hv=>by
   by_cases e:j=i
   ·subst e;rw [hx] at hu;rw [hy] at hv;injection hu with hu;injection hv with hv
    subst hu hv;exact wv hc
   ·exact aD j u v om hu hv
  refine fR @z ?_;have F:=ai @z @dZ;refine gG ?_;exact ⟨i+1,⟨au,bm⟩,gw,gw,om⟩
 ·have z:=decide_eq_false hc;have e:kp a b=false:=by
   simp only [kp,decide_eq_false_iff_not];intro h;subst h;rw [hx] at hy;injection hy with hy
   subst hy;exact hc (ze x)
  exact bP @z (ai @z @e)
def DJ (n:Nat):ByteArray:=Zjy (IntKind.u8.wrap (IntKind.i64.wrap (48+(n:Int).tmod 10)))
def ni (n:Nat) (oS:ByteArray):ByteArray:=if h:n=0 then oS else ni (n / 10) (DJ n++oS)
termination_by n
decreasing_by omega
def dH (k:Int):ByteArray:=if k<=0 then ⟨#[109,48]⟩ else ⟨#[109]⟩++ni k.toNat ByteArray.empty
theorem ZHw (oS:ByteArray):ni 0 oS=oS:=by rw [ni];simp
theorem ZHx {n:Nat} (h:n≠0) (oS:ByteArray):ni n oS=ni (n / 10) (DJ n++oS):=by rw [ni];simp [h]
theorem Ztz (n:Nat):(DJ n).size=1:=rfl
theorem yW (k:Int) (hk:k<=1000000000) (jS:0<=k):az e0 52 [.one (.lit (.int .i64 k))] [.one (.lit (.string (dH k)))]:=by
 by_cases h0:k<=0
 ·rw [(by unfold dH;rw [if_pos h0]:dH k=⟨#[109,48]⟩)];refine gI (ts:=[.slot 2]) 173 Tryz.func52 ?_;exact fD (eq_true h0:(k<=0)=True)
 ·have q1:(k<=0)=False:=eq_false h0;rw [(by unfold dH;rw [if_neg h0]:dH k=⟨#[109]⟩++ni k.toNat ByteArray.empty)];obtain ⟨n,rfl⟩:∃ n:Nat,k=n:=⟨k.toNat,om⟩;rw [Tbx];refine gI (ts:=[.slot 2]) 173 Tryz.func52 ?_;refine fG @q1 ?_;have F:=@q1;refine gL (ι:=Nat × ByteArray) [0,3,7] [] (fun x=>[(0,.d (.one (.lit (.int .i64 (x.1:Int))))),(3,.d (.one (.lit (.string x.2))))]) (fun x=>[]) (fun x=>ni n ByteArray.empty=ni x.1 x.2∧x.2.size+x.1<=n) (fun x=>x.1) ((n,⟨#[]⟩)) (⟨rfl,by show 0+n<=n;omega⟩) (fun x hx=>?_)
  obtain ⟨j,oS⟩:=x;obtain ⟨h1,h2⟩:=hx;simp only at h1 h2;rw [h1];clear h1;by_cases hj:j=0
  ·subst hj;rw [ZHw];have q5:((ByteArray.mk #[109]).size+oS.size<=9223372036854775807)=True:=eq_true (by show 1+oS.size<=_;omega);exact fD (ai (eq_false om:(((0:Nat):Int) > 0)=False) @q5)
  ·have q2:((j:Int) > 0)=True:=eq_true om;rw [ZHx hj];have q3:IntKind.i64.wrap ((j:Int).tdiv 10)=((j / 10:Nat):Int):=by rw [show (j:Int).tdiv 10=((j / 10:Nat):Int) from by rw [Int.ofNat_tdiv];rfl];exact IntWalk.i64_in _ om
   refine il 5 @q2 5 @q2 ?_;refine gY ?_;change al _ _ _ _ ⟨(13,.d (.one (.lit (.string (DJ j)))))::_,_⟩ _;refine fR (ai @q2 (eq_true (by rw [Ztz];omega):((DJ j).size+oS.size<=9223372036854775807)=True)) ?_;have hd:=Ztz j;have F:=ai @q2 @q3;refine gG ?_;exact ⟨(j / 10,DJ j++oS),⟨rfl,by rw [ByteArray.size_append,hd];omega⟩,gw,gw,om⟩
theorem m254 {X Y:Prop} (b:Y) (h:Bx Y->X:=by
 intro B0
 obtain ⟨h1,h2,h3⟩:(∀ b,E b->b < w.heap.size∧¬ S b)∧br w (r::rest) E (us::mG)∧_:=h (.set E (fun w=>br w (r::rest) E (us::mG))) (by simp);exact B0.o h1 h2 h3):X:=h ⟨b⟩
def CM (k:Int):Value->Value
 | .int i _=>.int i k
 | .string _=>.string (dH k)
 | .bool _=>.bool (k % 3==0)
 | v=>v
mutual
def zY:Int->C->C
 | k,.lit v=>.lit (CM k v)
 | k,.sl rows=>.sl (bd k rows)
 | _,.ptr cs=>.ptr cs
 | _,.fn f cs=>.fn f cs
def qI:Int->List C->List C
 | _,[]=>[]
 | k,c::cs=>zY k c::qI (k+jp c) cs
def bd:Int->List (List C)->List (List C)
 | _,[]=>[]
 | k,r::rs=>qI k r::bd (k+tx r) rs
def jp:C->Nat
 | .lit _=>1
 | .sl rows=>aa rows
 | .ptr _=>0
 | .fn _ _=>0
def tx:List C->Nat
 | []=>0
 | c::cs=>jp c+tx cs
def aa:List (List C)->Nat
 | []=>0
 | r::rs=>tx r+aa rs
end
theorem ZqS:∀ (k:Int) (cs:List C),(qI k cs).length=cs.length
 | _,[]=>by simp [qI]
 | k,c::cs=>by simp [qI,ZqS _ cs]
theorem ZoP:∀ (k:Int) (rs:List (List C)),(bd k rs).length=rs.length
 | _,[]=>by simp [bd]
 | k,c::cs=>by simp [bd,ZoP _ cs]
theorem Zdh:∀ (rs:List (List C)) (r:List C),aa (rs++[r])=aa rs+tx r
 | [],r=>by simp [aa]
 | q::rs,r=>by simp [aa,Zdh rs r];omega
theorem ZcJ:∀ (rs:List (List C)) (r:List C) (k:Int),bd k (rs++[r])=bd k rs++[qI (k+aa rs) r]
 | [],r,k=>by simp [bd,aa]
 | q::rs,r,k=>by simp [bd,aa,ZcJ rs r,Int.add_assoc]
theorem xt {α:Type} {l:List α} {i:Nat} {x:α} (h:l[i]?=some x):l.take (i+1)=l.take i++[x]:=by simp [List.take_add_one,h]
theorem Zb3 {α:Type} {l:List α} {i:Nat} {x:α} (h:l[i]?=some x):l.drop i=x::l.drop (i+1):=by
 exact m208
theorem ZcB:∀ (rs:List (List C)) (i:Nat),aa (rs.take i)<=aa rs
 | [],i=>by simp [aa]
 | r::rs,0=>by simp [aa]
 | r::rs,i+1=>by have:=ZcB rs i;simp only [Tbc,aa];omega
theorem Zxj {x y:Bk} (h:∀ g,dU x g->¬ dU y g):mT [x,y]:=⟨fun z hz g hg=>by simp at hz;subst hz;exact h g hg,wK _⟩
theorem Zfu:AK (ι:=Option Addr × Nat) [.set E (fun w=>aU w (.sl []) E v)] (fun i=>v=.slice i.1 0 i.2) (fun _=>[.set E (fun w=>aU w (.sl []) E v)]):=fun w S h ha=>by
 obtain ⟨h1,h2,h3⟩:_∧aU w (.sl []) E v∧_:=h (.set E (fun w=>aU w (.sl []) E v)) (by simp);simp only [aU] at h2;obtain ⟨A,n,cap,hv,hn,_⟩:=h2;simp at hn;subst hn;exact ⟨(A,cap),hv,h,ha,fun _ h=>h⟩
theorem ZeG (bq:rows≠[]) (dX:rowsLen sz rows):AK (ι:=Option Addr × Nat × Nat × List (List Value) × (Nat->Prop)) [.set E (fun w=>aU w (.sl rows) E v)]
  (fun i=>v=.slice i.1 i.2.2.2.1.length i.2.1∧i.2.2.2.1.length=rows.length∧rows.length<=maxLen) (fun i=>[.buf (some (i.1,i.2.1)) i.2.2.1 sz (i.2.2.2.1.map aM),.set i.2.2.2.2 (fun w=>br w rows i.2.2.2.2 i.2.2.2.1)]):=fun w S h ha=>by
 obtain ⟨h1,h2,h3⟩:(∀ b,E b->b < w.heap.size∧¬ S b)∧aU w (.sl rows) E v∧_:=h (.set E (fun w=>aU w (.sl rows) E v)) (by simp);obtain ⟨A,n,cap,rfl,gg,cy,hn3⟩:=(aU.rep _ _ _ h2).form;obtain ⟨uss,ety,E',rfl,k1,k2,k3,k4⟩:=aU.open (T:=S) (fun b hb=>(h1 b hb).2) bq dX h2;refine ⟨(A,cap,ety,uss,E'),⟨rfl,k2.len,om⟩,fun x hx=>?_,Zxj fun g hg o7=>?_,fun g ⟨x,hx,hg⟩=>⟨_,Tas,?_⟩⟩
 ·simp only [Tbg,List.not_mem_nil,or_false] at hx;rcases hx with rfl | rfl
  ·show ei w S ety sz (uss.map aM) (.slice A (uss.map aM).length cap);rw [Tay];exact k1
  ·exact ⟨fun b hb=>h1 b (k3 b hb).1,k2,br.stable _ _ _⟩
 ·simp only [dU,Tay] at hg o7;exact (k3 g o7).2 hg
 ·simp only [Tbg,List.not_mem_nil,or_false] at hx;rcases hx with rfl | rfl
  ·simp only [dU,Tay] at hg;exact k4 g hg
  ·exact (k3 g hg).1
def ko:List C->List Value->(Nat->Nat->Prop)->List Bk
 | .sl rows::cs,u::us,Es=>.set (Es 0) (fun w=>aU w (.sl rows) (Es 0) u)::ko cs us (fun k=>Es (k+1))
 | .lit _::cs,_::us,Es=>ko cs us Es
 | _,_,_=>[]
def uH:List C->List Value->Prop
 | [],[]=>True
 | .lit x::cs,u::us=>u=x∧uH cs us
 | .sl _::cs,_::us=>uH cs us
 | _,_=>False
def tJ:C->Bool
 | .lit _=>true
 | .sl _=>true
 | _=>false
theorem Zit {w:World} {S:Nat->Prop}:∀ {cs:List C} {us:List Value} {E:Nat->Prop},cs.all tJ=true->aT w cs E us->(∀ b,E b->b < w.heap.size∧¬ S b)->∃ Es,uH cs us∧(∀ x∈ko cs us Es,mQ w S x)∧mT (ko cs us Es)∧∀ g,dV (ko cs us Es) g->E g
 | [],[],E,_,_,_=>⟨fun _ _=>False,trivial,by simp [ko],trivial,fun g ⟨x,hx,_⟩=>by simp [ko] at hx⟩
 | c::cs,u::us,E,hp,h,hE=>by
  simp only [aT] at h;obtain ⟨S1,S2,i1,i2,hd,h1,h2⟩:=h;simp only [List.all_cons,Tar] at hp;obtain ⟨Es,k1,k2,k3,k4⟩:=Zit hp.2 h2 (fun b hb=>hE b (i2 b hb))
  cases c with
  | lit x =>
   simp only [aU] at h1;exact ⟨Es,⟨h1,k1⟩,k2,k3,fun g hg=>i2 g (k4 g hg)⟩
  | sl rows =>
   refine ⟨fun k=>match k with | 0=>S1 | k+1=>Es k,k1,fun x hx=>?_,⟨fun y hy g hg o7=>hd g hg (k4 g ⟨y,hy,o7⟩),k3⟩,fun g ⟨x,hx,hg⟩=>?_⟩
   ·simp only [ko,Tbg] at hx;rcases hx with rfl | hx
    ·exact ⟨fun b hb=>hE b (i1 b hb),h1,aU.stable _ _ _⟩
    ·exact k2 x hx
   ·simp only [ko,Tbg] at hx;rcases hx with rfl | hx
    ·exact i1 g hg
    ·exact i2 g (k4 g ⟨x,hx,hg⟩)
  | ptr _=>simp [tJ] at hp
  | fn _ _=>simp [tJ] at hp
 | [],_::_,_,_,h,_=>by simp [aT] at h
 | _::_,[],_,_,h,_=>by simp [aT] at h
theorem aT.of_cells {w:World} {S:Nat->Prop}:∀ {cs:List C} {us:List Value} {Es:Nat->Nat->Prop},cs.all tJ=true->uH cs us->(∀ x∈ko cs us Es,mQ w S x)->mT (ko cs us Es)->aT w cs (dV (ko cs us Es)) us
 | [],[],Es,_,_,_,_=>aT.nil
 | .lit x::cs,u::us,Es,hp,hl,h,ha=>by
  obtain ⟨rfl,hl⟩:=hl;simp only [List.all_cons,Tar] at hp;simp only [aT];exact ⟨fun _=>False,_,fun _ h=>h.elim,fun _ h=>h,fun _ h _=>h,by simp [aU],aT.of_cells (Es:=Es) hp.2 hl h ha⟩
 | .sl rows::cs,u::us,Es,hp,hl,h,ha=>by
  simp only [List.all_cons,Tar] at hp;simp only [aT];obtain ⟨a1,a2⟩:=ha;have hE:=h (.set (Es 0) (fun w=>aU w (.sl rows) (Es 0) u)) Tas;refine ⟨Es 0,dV (ko cs us (fun k=>Es (k+1))),fun b hb=>⟨_,Tas,hb⟩,fun b ⟨x,hx,hb⟩=>⟨x,Tal _ hx,hb⟩,fun b hb ⟨x,hx,jC⟩=>a1 x hx b hb jC,hE.2.1,aT.of_cells hp.2 hl (fun x hx=>h x (Tal _ hx)) a2⟩
 | .ptr _::_,_::_,_,hp,_,_,_=>by simp [tJ] at hp
 | .fn _ _::_,_::_,_,hp,_,_,_=>by simp [tJ] at hp
 | [],_::_,_,_,hl,_,_=>by simp [uH] at hl
 | .lit _::_,[],_,_,hl,_,_=>by simp [uH] at hl
 | .sl _::_,[],_,_,hl,_,_=>by simp [uH] at hl
theorem Zgz:∀ {cs:List C} {us:List Value} {Es:Nat->Nat->Prop} (y:Bk),y∈ko cs us Es->∃ E G,y=.set E G
 | .sl rows::cs,u::us,Es,y,h=>by
  rcases Tbg.1 h with rfl | h
  ·exact ⟨_,_,rfl⟩
  ·exact Zgz y h
 | .lit _::cs,_::us,Es,y,h=>Zgz (cs:=cs) (us:=us) y h
 | .ptr _::_,_,_,y,h=>by simp [ko] at h
 | .fn _ _::_,_,_,y,h=>by simp [ko] at h
 | [],_,_,y,h=>by simp [ko] at h
 | .lit _::_,[],_,y,h=>by simp [ko] at h
 | .sl _::_,[],_,y,h=>by simp [ko] at h
theorem ZeH {r:List C} {rest:List (List C)} {mG:List (List Value)} (hp:r.all tJ=true):AK (ι:=Unit) [.set E (fun w=>br w (r::rest) E (us::mG))] (fun _=>uH r us) (fun _=>[.set E (fun w=>br w (r::rest) E (us::mG))]):=fun w S h ha=>by
 refine m254 fun h1 h2 h3=>?_;obtain ⟨S1,S2,i1,i2,hd,k1,k2⟩:=h2;obtain ⟨Es,hl,_⟩:=Zit (S:=S) hp k1 (fun b hb=>h1 b (i1 b hb));exact ⟨(),hl,h,ha,fun _ h=>h⟩
theorem Ao {r:List C} {rest:List (List C)} {mG:List (List Value)} (hp:r.all tJ=true):AK (ι:=(Nat->Prop) × (Nat->Nat->Prop)) [.set E (fun w=>br w (r::rest) E (us::mG))] (fun _=>True) (fun i=>.set i.1 (fun w=>br w rest i.1 mG)::ko r us i.2):=fun w S h ha=>by
 refine m254 fun h1 h2 h3=>?_;obtain ⟨S1,S2,i1,i2,hd,k1,k2⟩:=h2;obtain ⟨Es,hl,q1,q2,q3⟩:=Zit (S:=S) hp k1 (fun b hb=>h1 b (i1 b hb));refine ⟨(S2,Es),trivial,fun x hx=>?_,⟨fun y hy g hg o7=>hd g (q3 g ⟨y,hy,o7⟩) hg,q2⟩,fun g ⟨x,hx,hg⟩=>⟨_,Tas,?_⟩⟩
 ·rcases Tbg.1 hx with rfl | hx
  ·exact ⟨fun b hb=>h1 b (i2 b hb),k2,br.stable _ _ _⟩
  ·exact q1 x hx
 ·rcases Tbg.1 hx with rfl | hx
  ·exact i2 g hg
  ·exact i1 g (q3 g ⟨x,hx,hg⟩)
theorem xN {done:List (List C)} {ud:List (List Value)} {cs:List C} {Es:Nat->Nat->Prop} (hp:cs.all tJ=true) (hl:uH cs us):eS (.set E (fun w=>br w done E ud)::ko cs us Es) [.set (fun b=>E b∨dV (ko cs us Es) b) (fun w=>br w (done++[cs]) (fun b=>E b∨dV (ko cs us Es) b) (ud++[us]))]:=fun w S h ha=>by
 have hE:=h (.set E (fun w=>br w done E ud)) Tas;have hv:=aT.of_cells (w:=w) (S:=S) hp hl (fun x hx=>h x (Tal _ hx)) ha.2;refine ⟨fun x hx=>?_,wK _,fun g ⟨x,hx,hg⟩=>?_⟩
 ·refine xm fun hx=>?_;subst hx;refine ⟨fun b hb=>?_,br.snoc hE.2.1 hv (fun _ h=>.inl h) (fun _ h=>.inr h) (fun b hb ⟨y,hy,hg⟩=>ha.1 y hy b hb hg),br.stable _ _ _⟩;rcases hb with hb | ⟨y,hy,hg⟩
  ·exact hE.1 b hb
  ·obtain ⟨E',G',rfl⟩:=Zgz y hy;exact (h _ (Tal _ hy)).1 b hg
 ·refine xm fun hx=>?_;subst hx;rcases hg with hg | ⟨y,hy,hg⟩
  ·exact ⟨_,Tas,hg⟩
  ·exact ⟨y,Tal _ hy,hg⟩
theorem ZgA:∀ (ps:List Int) (t:Tm),ab (an (di t ps).1)<=ab (an t)
 | [],t=>Tai _
 | p::ps,t=>by
  rw [di];split
  ·rw [oc];simp [ab,dN,ah]
  ·split
   ·rename_i a h;exact Tbe (ZgA ps a) (Znn h)
   ·rw [oc];simp [ab,dN,ah]
theorem ZmK:∀ (ps:List Int) (t:Tm),(di t ps).2=false->(di t ps).1=ck
 | [],t,h=>by simp [di] at h
 | p::ps,t,h=>by
  rw [di] at h ⊢;split at h
  ·rename_i h1;rw [if_pos h1]
  ·rename_i h1;rw [if_neg h1];split at h
   ·rename_i a h2;exact ZmK ps a h
   ·rfl
theorem m167 {p:Prop} (h:p:=by
 obtain ⟨us,E,rfl,_,_,rfl⟩:=h;exact ⟨by simp only [List.all_cons,List.all_nil,kH,ZmL];rfl,rfl⟩):p:=h
def AN (pm:List Bk) (l d:D):Prop:=l=d∨(∃ us row E,l=.agg (aM us)∧d=.agg row∧.set E (fun w=>aT w row E us)∈pm)∨(∃ v rows E,l=.one (.lit v)∧d=.one (.sl rows)∧.set E (fun w=>aU w (.sl rows) E v)∈pm)
def DF (pm:List Bk):List D->List D->Prop
 | [],[]=>True
 | l::ls,d::ds=>AN pm l d∧DF pm ls ds
 | _,_=>False
theorem AN.same {d:D}:AN pm d d:=.inl rfl
theorem AN.tree (h:.set E (fun w=>aT w row E us)∈pm):AN pm (.agg (aM us)) (.agg row):=.inr (.inl ⟨us,row,E,rfl,rfl,h⟩)
theorem AN.treeS (h:.set E (fun w=>aU w (.sl rows) E v)∈pm):AN pm (.one (.lit v)) (.one (.sl rows)):=.inr (.inr ⟨v,rows,E,rfl,rfl,h⟩)
theorem DF.rel {pm:List Bk}:∀ {lits data:List D},DF pm lits data->∀ (w:World) (S:Nat->Prop) (vs:List Value),(∀ x∈pm,mQ w S x)->cx w S lits vs->cx w (fun b=>S b∨dV pm b) data vs
 | [],[],_,w,S,[],_,_=>trivial
 | [],[],_,w,S,_::_,_,h=>h.elim
 | l::ls,d::ds,hr,w,S,[],_,h=>h.elim
 | l::ls,d::ds,⟨h1,h2⟩,w,S,v::vs,hp,⟨hv,dD⟩=>by
  refine ⟨?_,DF.rel h2 w S vs hp dD⟩;rcases h1 with rfl | ⟨us,row,E,rfl,rfl,hm⟩ | ⟨u,rows,E,rfl,rfl,hm⟩
  ·exact aW.keep (Tai _) (fun _ _ _=>rfl) (fun b hb=>.inl hb) hv
  ·obtain ⟨vs',rfl,hr⟩:=hv;rw [Zjc hr];obtain ⟨_,h3,_⟩:=hp _ hm;exact ⟨us,rfl,aT.rep row E _ us (fun b hb=>.inr ⟨_,hm,hb⟩) h3⟩
  ·have hv:v=u:=hv;subst hv;obtain ⟨_,h3,_⟩:=hp _ hm;exact (aU.rep _ E v h3).mono fun b hb=>.inr ⟨_,hm,hb⟩
 | [],_::_,h,_,_,_,_,_=>h.elim
 | _::_,[],h,_,_,_,_,_=>h.elim
theorem Zxk {e:Env} {data lits:List D} {R:List D->List Bk->Prop} (pm:List Bk) (h:aR e f data [] R) (hr:DF pm lits data) (pO:pm.all qL=true) (hR:∀ r q,R r q->r.all kH=true∧q.all qL=true):aR e f lits pm (fun r q=>∃ q1,R r q1∧q=q1++pm) :=
 ZCF pm h pO hR hr.rel
theorem Ziu {e:Env} {data lits:List D} (pm:List Bk) (h:az e f data r) (hr:DF pm lits data) (pO:pm.all qL=true) (hl:r.all kH=true):aR e f lits pm (fun r' q=>r'=r∧q=pm):=by
 have hc:=Zxk pm (ZH3 h) hr pO (fun r' q ⟨h1,h2⟩=>by rw [h1,h2];exact ⟨hl,rfl⟩);refine ⟨hc.1,fun w S vs h1 h2 h3 h4 h5 h6=>(hc.2 w S vs h1 h2 h3 h4 h5 h6).mono ?_⟩;rintro en w' ⟨v,r',q,k1,⟨q1,⟨rfl,rfl⟩,rfl⟩,k3⟩;exact ⟨v,r',_,k1,⟨rfl,rfl⟩,k3⟩
theorem ZmL (us:List Value):(aM us).all oG=true:=by
 induction us with
 | nil=>rfl
 | cons u us ih=>simp only [aM,Tbu,List.all_cons,oG,Bool.true_and];exact ih
theorem eL.lits (h:eL row r q):r.all kH=true∧q.all qL=true:=by
 exact m167
theorem kQ.lits (h:kQ rows r q):r.all kH=true∧q.all qL=true:=by
 obtain ⟨v,E,rfl,_,rfl⟩:=h;exact ⟨rfl,rfl⟩
def ZCH (row:List C) (b:Bool) (r:List D) (pm:List Bk):Prop:=∃ us E,r=[.agg (aM us),.one (.lit (.bool b))]∧us.length=row.length∧(aM us).all aY=true∧pm=[.set E (fun w=>aT w row E us)]
theorem ZCH.lits {b:Bool} (h:ZCH row b r q):r.all kH=true∧q.all qL=true:=by
 exact m167
def Zxl (rows:List (List C)) (b:Bool) (r:List D) (pm:List Bk):Prop:=∃ v E,r=[.one (.lit v),.one (.lit (.bool b))]∧aY (.lit v)=true∧pm=[.set E (fun w=>aU w (.sl rows) E v)]
theorem Zxl.lits {b:Bool} (h:Zxl rows b r q):r.all kH=true∧q.all qL=true:=by
 obtain ⟨v,E,rfl,_,rfl⟩:=h;exact ⟨rfl,rfl⟩
theorem m225 {X Y:Prop} (b:Y) (h:Bx Y->X:=by
 intro B0
 have s1:((o.left.length:Int)<=(p.args.length:Int))=True:=eq_true om;have s2:(((p.args.length - o.right.length:Nat):Int)<=(p.args.length:Int))=True:=eq_true om;exact B0.o s1 s2):X:=h ⟨b⟩
theorem Cg {X Y:Prop} (b:Y) (h:Bx Y->X:=by
 intro B0
 have e:=ZfO (t:=t) (ps:=p::ps) (i:=0) (p:=p) rfl;simp only [List.drop_zero,Nat.zero_add,List.drop_succ_cons] at e;exact B0.o e):X:=h ⟨b⟩
open Classical in
noncomputable def mp (g:Sgn) (p:Tm) (o:Occ):Option (List Tm):=if p.op < 0 then none else match g.ops[p.op.toNat]? with
 | none=>none
 | some x=>if x.assoc=false∨p.args.length < o.left.length+o.right.length+2 then none
  else if x.comm=true then (if o.right.length=0∧(wo p.args o.left).2=true then some (wo p.args o.left).1 else none)
  else if kp (p.args.take o.left.length) o.left=true∧kp (p.args.drop (p.args.length - o.right.length)) o.right=true then some ((p.args.take (p.args.length - o.right.length)).drop o.left.length) else none
noncomputable def ev (g:Sgn) (t:Tm) (o:Occ):Tm × Bool:=if (di t o.path).2=false then (ck,false) else if o.left.length+o.right.length=0 then ((di t o.path).1,true) else match mp g (di t o.path).1 o with
 | none=>(ck,false)
 | some r=>(.mk (di t o.path).1.op ByteArray.empty 0 r,true)
open Classical in
noncomputable def mE (g:Sgn) (t:Tm) (o:Occ):Tm × Bool:=if SgnOk g∧TermOk g t then ev g t o else (ck,false)
theorem Zkf {g:Sgn}:∀ (ps:List Int) (t:Tm),dt g t->(di t ps).2=true->dt g (di t ps).1
 | [],t,h,_=>h
 | p::ps,t,h,hs=>by
  refine Cg fun e=>?_;rw [e] at hs ⊢;by_cases hp:p < 0
  ·rw [if_pos hp] at hs;cases hs
  rw [if_neg hp] at hs ⊢
  cases ha:t.args[p.toNat]? with
  | none=>rw [ha] at hs;cases hs
  | some a =>
   rw [ha] at hs;exact Zkf ps a ((nv.1 h).2.1 a (Tac ha)) hs
theorem yQ (op:Int) (l:List Tm):an (.mk op ByteArray.empty 0 l)=[.lit (.int .i64 op),.lit (.string ByteArray.empty),.lit (.int .i64 0),.sl (aq l)]:=by simp only [an]
theorem Znp {a:Tm} (ha:ab (an a)<=1048576):a.args.length<=1048576:=by
 exact m175
theorem ZqT (hg:SgnOk g) (ht:aK t) (hb:ab (an t)<=1048576) {o:Occ} (co:o.path.length<=1048576) (jD:o.left.length<=1048576) (eO:o.right.length<=1048576):az e0 109 [.one (.ptr (dJ g mc)),.agg (an t),.agg (f8 o)] [.agg (an (if d4 g t=true then ev g t o else (ck,false)).1),.one (.lit (.bool (if d4 g t=true then ev g t o else (ck,false)).2))]:=by
 have c2:=ZqR (ZoN t o.path co hb);have hz:=oc;rw [f8.eq_1];refine gI (ts:=[.cell 6 53,.slot 7]) 170141183618927975792446829016171823095 Tryz.func109 ?_;refine bU @ae @ae ((C7 (mc:=mc) hg ht (qe hb))) ?_
 cases h1:d4 g t with
 | false =>
  rw [if_neg (by simp)];exact bK @ae (ai @ae @hz)
 | true =>
 rw [if_pos rfl];have hT:=mP.1 h1;refine fR @ae ?_;refine bU @ae @ae (c2) ?_;have eN:=Zkf (g:=g) o.path t hT.form;have lS:=ZgA o.path t;have ra:=ZmK o.path t
 have pH:ev g t o=if (di t o.path).2=false then (ck,false) else if o.left.length+o.right.length=0 then ((di t o.path).1,true) else match mp g (di t o.path).1 o with
  | none=>(ck,false)
  | some r=>(.mk (di t o.path).1.op ByteArray.empty 0 r,true):=rfl
 rw [pH];clear pH c2;generalize et:di t o.path=px at eN lS ra ⊢;obtain ⟨p,ok⟩:=px;simp only at eN lS ra ⊢
 cases ok with
 | false =>
  have e:=ra rfl;subst e;rw [if_pos rfl];exact bK @ae @ae
 | true =>
 rw [if_neg (by simp)];have kg:IntKind.i64.wrap ((o.left.length:Int)+(o.right.length:Int))=(o.left.length:Int)+(o.right.length:Int):=IntWalk.i64_in _ om;by_cases kY:o.left.length+o.right.length=0
 ·rw [if_pos kY];exact bK @ae (aj3 (eq_true om:((o.left.length:Int)+(o.right.length:Int)=0)=True) @kg @ae)
 have z0:((o.left.length:Int)+(o.right.length:Int)=0)=False:=eq_false om;rw [if_neg kY];have vr:=eN rfl;have ca:=Znp (om:ab (an p)<=1048576);have w1:IntKind.i64.wrap ((p.args.length:Int) - (o.left.length:Int))=(p.args.length:Int) - (o.left.length:Int):=IntWalk.i64_in _ om;have w2:IntKind.i64.wrap ((p.args.length:Int) - (o.left.length:Int) - (o.right.length:Int))=(p.args.length:Int) - (o.left.length:Int) - (o.right.length:Int):=IntWalk.i64_in _ om
 refine fR @ae ?_;rcases vr.node with hv | ⟨x,d,hA⟩
 ·have BN:p.op=-1:=hv.1;rw [(by unfold mp;rw [if_pos om]:mp g p o=none)];exact fD (aj7 @z0 @kg @w1 @w2 (eq_true om:(p.op < 0)=True) @ae @hz)
 have h0:0<=p.op:=hA.lo;have fW:g.ops[p.op.toNat]?=some x:=hA.at';have jv:¬ (p.op < 0):=om
 have rV:mp g p o=if x.assoc=false∨p.args.length < o.left.length+o.right.length+2 then none
  else if x.comm=true then (if o.right.length=0∧(wo p.args o.left).2=true then some (wo p.args o.left).1 else none)
  else if kp (p.args.take o.left.length) o.left=true∧kp (p.args.drop (p.args.length - o.right.length)) o.right=true then some ((p.args.take (p.args.length - o.right.length)).drop o.left.length) else none:=by
  simp only [mp,if_neg jv,fW]
 rw [rV];clear rV
 cases ha:x.assoc with
 | false =>
  rw [if_pos (.inl rfl)];exact fD (aj12 @z0 @kg @w1 @w2 @jv @gH @h0 @fW @bH @ha @ae @hz)
 | true =>
 by_cases cy:p.args.length < o.left.length+o.right.length+2
 ·rw [if_pos (.inr cy)];exact fD (aj13 @z0 @kg @w1 @w2 @jv @gH @h0 @fW @bH @ha (eq_true om:((p.args.length:Int) - (o.left.length:Int) - (o.right.length:Int) < 2)=True) @ae @hz)
 have q2:((p.args.length:Int) - (o.left.length:Int) - (o.right.length:Int) < 2)=False:=eq_false om;rw [if_neg (fun h=>h.elim (fun h=>by cases h) cy)]
 cases hc:x.comm with
 | true =>
  rw [if_pos rfl];refine bp (aj13 @z0 @kg @w1 @w2 @jv @gH @h0 @fW @bH @ha @hc @q2 @ae) @ae ((ZuZ p.args o.left ca jD)) @ae ?_;by_cases mw:o.right.length=0;rotate_left
  ·rw [if_neg fun h=>mw h.1];exact fD (aj3 (lT 0 o.right.length) @ae @hz)
  have q3:=lF 0 o.right.length
  cases hw:(wo p.args o.left).2 with
  | false =>
   rw [if_neg fun h=>by cases h.2];exact fD (aj4 @q3 @hw @ae @hz)
  | true =>
   rw [if_pos ⟨mw,rfl⟩];exact fD (aj4 @q3 @hw @ae (yQ p.op (wo p.args o.left).1))
 | false =>
  rw [if_neg (by simp)];have wE:IntKind.i64.wrap ((o.left.length:Int)+((p.args.length:Int) - (o.left.length:Int) - (o.right.length:Int)))=((p.args.length - o.right.length:Nat):Int):=by
   rw [IntWalk.i64_in _ om];omega
  have sll:((p.args.length:Int)<=(p.args.length:Int))=True:=eq_true (Int.le_refl _);have stk:p.args.take p.args.length=p.args:=Tap;refine m225 fun s1 s2=>?_;have s3:((o.left.length:Int)<=((p.args.length - o.right.length:Nat):Int))=True:=eq_true om;have cB:=ZkB (p.args.drop (p.args.length - o.right.length)) o.right (by rw [Tax];omega) eO;refine bU (aj14 @z0 @kg @w1 @w2 @jv @gH @h0 @fW @bH @ha @hc @q2 @wE @ae) (aj5 @ae @s1 @bD @rH @sB) ((ZkB (p.args.take o.left.length) o.left (by rw [Taw];omega) jD)) ?_
  cases h3:kp (p.args.take o.left.length) o.left with
  | false =>
   rw [if_neg fun h=>by cases h.1];exact bK @ae (ai @ae @hz)
  | true =>
   refine fC (aj7 @ae @s2 @sll @stk @bD @rH @sB) (cB) ?_
   cases h4:kp (p.args.drop (p.args.length - o.right.length)) o.right with
   | false =>
    rw [if_neg fun h=>by cases h.2];exact bK @ae (ai @ae @hz)
   | true =>
    rw [if_pos ⟨rfl,rfl⟩];exact bK @ae (aj8 @ae @s1 @s2 @s3 @bD @rH @sB (yQ p.op ((p.args.take (p.args.length - o.right.length)).drop o.left.length)))
theorem Zyo {p:Tm} {o:Occ} {r:List Tm} (h:mp g p o=some r):r.Sublist p.args:=by
 unfold mp at h;split at h
 ·cases h
 ·split at h
  ·cases h
  ·split at h
   ·cases h
   ·split at h
    ·split at h
     ·injection h with h;subst h;exact rG _ _
     ·cases h
    ·split at h
     ·injection h with h;subst h;exact (List.drop_sublist _ _).trans (List.take_sublist _ _)
     ·cases h
where rG:∀ (l os:List Tm),((wo l os).1).Sublist l
 | l,[]=>by rw [Zlv];exact List.Sublist.refl _
 | [],o::os=>by simp [wo]
 | a::l,o::os=>by
  simp only [wo];split
  ·exact (rG l os).cons _
  ·exact (rG l (o::os)).cons_cons _
theorem ZCI {a b:List Tm} (h:a.Sublist b):a.length+ah (aq a)<=b.length+ah (aq b):=by
 induction h with
 | slnil=>exact Tai _
 | cons x h ih=>simp only [aq,ah,Tag];omega
 | cons_cons x h ih=>simp only [aq,ah,Tag];omega
theorem ZqU (op so:Int) (nm:ByteArray) (args:List Tm):ab (an (.mk op nm so args))=nm.size+(args.length+ah (aq args)):=by
 simp only [an,ab,dN,bf];omega
theorem Zht:b9 ts ↔ ∀ t∈ts,aK t:=by
 exact yB
theorem ZtA:ab (an ck)=0:=by rw [ck,ZqU];rfl
theorem ZoQ:aK ck:=by simp only [ck,aK,b9,and_true];exact ⟨⟨by decide,by decide⟩,by simp [maxLen],⟨by decide,by decide⟩⟩
theorem ZoR:∀ (ps:List Int) (t:Tm),aK t->aK (di t ps).1
 | [],t,h=>h
 | p::ps,t,h=>by
  rw [di];by_cases hp:p < 0
  ·rw [if_pos hp];exact ZoQ
  ·rw [if_neg hp]
   cases ha:t.args[p.toNat]? with
   | none=>exact ZoQ
   | some a =>
    refine ZoR ps a ?_;obtain ⟨op,nm,so,args⟩:=t;simp only [aK] at h;exact h.2.2.2.mem (Tac ha)
theorem ZoS {o:Occ} (ht:aK t) (hb:ab (an t)<=B):aK (ev g t o).1∧ab (an (ev g t o).1)<=B∧((ev g t o).2=false->(ev g t o).1=ck):=by
 have h1:=ZoR o.path t ht;have h2:=ZgA o.path t;unfold ev;generalize di t o.path=px at h1 h2 ⊢;obtain ⟨p,ok⟩:=px;simp only at h1 h2 ⊢;have hz:aK ck∧ab (an ck)<=B:=⟨ZoQ,by rw [ZtA];exact Taj _⟩;split
 ·exact ⟨hz.1,hz.2,fun _=>rfl⟩
 ·split
  ·exact ⟨h1,Tbe h2 hb,fun h=>by cases h⟩
  ·split
   ·exact ⟨hz.1,hz.2,fun _=>rfl⟩
   ·rename_i r hr;have hs:=Zyo hr;obtain ⟨op,nm,so,args⟩:=p;have lS:=ZCI hs;simp only [Tm.args,Tm.op] at hs lS ⊢;rw [ZqU] at h2 ⊢;simp only [aK] at h1 ⊢;refine ⟨⟨h1.1,by simp [maxLen],⟨by decide,by decide⟩,Zht.2 fun a ha=>Zht.1 h1.2.2.2 a (hs.subset ha)⟩,?_,fun h=>by cases h⟩;have:ByteArray.empty.size=0:=rfl;omega
theorem ZpM {o:Occ} (h1:SgnOk g) (h2:TermOk g t):mE g t o=ev g t o:=if_pos ⟨h1,h2⟩
theorem ZCJ {o:Occ} (h:¬ (SgnOk g∧TermOk g t)):mE g t o=(ck,false):=if_neg h
theorem ZqV {o:Occ} (ht:aK t) (hb:ab (an t)<=B):aK (mE g t o).1∧ab (an (mE g t o).1)<=B:=by
 by_cases h:SgnOk g∧TermOk g t
 ·rw [ZpM h.1 h.2];have:=ZoS (g:=g) (o:=o) ht hb;exact ⟨this.1,this.2.1⟩
 ·rw [ZCJ h];exact ⟨ZoQ,by rw [ZtA];exact Taj _⟩
theorem m178 {p:Prop} (h:p:=by
 have BN:p.op=-1:=hv.1;have e:mp g p o=none:=by unfold mp;rw [if_pos om]
 rw [e] at hr;cases hr):p:=h
theorem m93 {p:Prop} (h:p:=by
 simp only [Tbh,Tbj] at ha;rcases ha with (ha | rfl) | ha
 ·exact hL a ha
 ·exact hu
 ·exact hR a ha):p:=h
noncomputable def kK (g:Sgn):Tm->List Int->Tm->Option Tm
 | _,[],u=>some u
 | t,p::ps,u=>match t.args[p.toNat]? with
  | none=>none
  | some a=>(kK g a ps u).bind fun x=>mO g t.op (t.args.set p.toNat x)
open Classical in
noncomputable def oI (g:Sgn) (t:Tm) (o:Occ) (u:Tm):Option Tm:=if SgnOk g∧TermOk g t∧TermOk g u∧(ev g t o).2=true then (if o.left.length+o.right.length=0 then kK g t o.path u else (mO g (di t o.path).1.op (o.left++[u]++o.right)).bind fun c=>kK g t o.path c) else none
theorem Zlx {g:Sgn} (hg:SgnOk g):∀ (ps:List Int) {t u x:Tm},TermOk g t->TermOk g u->kK g t ps u=some x->TermOk g x
 | [],t,u,x,ht,hu,h=>by simp only [kK,Taq] at h;subst h;exact hu
 | p::ps,t,u,x,ht,hu,h=>by
  simp only [kK] at h
  cases ha:t.args[p.toNat]? with
  | none=>rw [ha] at h;cases h
  | some a =>
   rw [ha] at h;simp only at h;have hm:=Tac ha
   cases hr:kK g a ps u with
   | none=>rw [hr] at h;cases h
   | some y =>
    rw [hr] at h;simp only [Option.bind_some] at h;obtain ⟨o,d,hA⟩:=ht.app hm;exact Zld hg hA.lo (ZpD (fun b hb=>ht.arg hb) (Zlx hg ps (ht.arg hm) hu hr)) h
theorem Zkg {g:Sgn}:∀ (ps:List Int) (t:Tm),TermOk g t->(di t ps).2=true->TermOk g (di t ps).1
 | [],t,h,_=>h
 | p::ps,t,h,hs=>by
  refine Cg fun e=>?_;rw [e] at hs ⊢;by_cases hp:p < 0
  ·rw [if_pos hp] at hs;cases hs
  rw [if_neg hp] at hs ⊢
  cases ha:t.args[p.toNat]? with
  | none=>rw [ha] at hs;cases hs
  | some a =>
   rw [ha] at hs;exact Zkg ps a (h.arg (Tac ha)) hs
theorem Zyp {o:Occ} (h:(ev g t o).2=true):(di t o.path).2=true:=by
 unfold ev at h
 cases hs:(di t o.path).2 with
 | true=>rfl
 | false=>rw [if_pos hs] at h;cases h
theorem Zly {o:Occ} (ht:TermOk g t) (h:(ev g t o).2=true) (hn:¬ (o.left.length+o.right.length=0)):∃ x d,AppOk g (di t o.path).1 x d∧x.assoc=true∧o.left.length+o.right.length+2<=(di t o.path).1.args.length∧(∀ b∈o.left,TermOk g b)∧∀ b∈o.right,TermOk g b:=by
 have hs:=Zyp h;have hT:=Zkg o.path t ht hs;unfold ev at h;rw [if_neg (by rw [hs];simp),if_neg hn] at h
 cases hr:mp g (di t o.path).1 o with
 | none=>rw [hr] at h;cases h
 | some r =>
 clear h;generalize (di t o.path).1=p at hT hr ⊢;rcases hT.form.node with hv | ⟨x,d,hA⟩
 ·exact m178
 have h0:0<=p.op:=hA.lo;have fW:g.ops[p.op.toNat]?=some x:=hA.at';have jv:¬ (p.op < 0):=om
 have rV:mp g p o=if x.assoc=false∨p.args.length < o.left.length+o.right.length+2 then none
  else if x.comm=true then (if o.right.length=0∧(wo p.args o.left).2=true then some (wo p.args o.left).1 else none)
  else if kp (p.args.take o.left.length) o.left=true∧kp (p.args.drop (p.args.length - o.right.length)) o.right=true then some ((p.args.take (p.args.length - o.right.length)).drop o.left.length) else none:=by
  simp only [mp,if_neg jv,fW]
 rw [rV] at hr;clear rV;have cy:¬ (x.assoc=false∨p.args.length < o.left.length+o.right.length+2):=fun hh=>by rw [if_pos hh] at hr;cases hr
 rw [if_neg cy] at hr;refine ⟨x,d,hA,by cases e:x.assoc with | true=>rfl | false=>exact absurd (.inl e) cy,by have:=fun q=>cy (.inr q);omega,?_⟩;by_cases hc:x.comm=true
 ·rw [if_pos hc] at hr;have hw:o.right.length=0∧(wo p.args o.left).2=true:=Classical.byContradiction fun hh=>by rw [if_neg hh] at hr;cases hr
  refine ⟨fun b hb=>hT.arg (Zlw.rF hw.2 b hb),fun b hb=>?_⟩;have:=Tao hw.1;rw [this] at hb;cases hb
 ·rw [if_neg hc] at hr;have hw:kp (p.args.take o.left.length) o.left=true∧kp (p.args.drop (p.args.length - o.right.length)) o.right=true:=Classical.byContradiction fun hh=>by rw [if_neg hh] at hr;cases hr
  simp only [kp,decide_eq_true_eq] at hw;refine ⟨fun b hb=>hT.arg ?_,fun b hb=>hT.arg ?_⟩
  ·rw [<- hw.1] at hb;exact List.mem_of_mem_take hb
  ·rw [<- hw.2] at hb;exact List.mem_of_mem_drop hb
theorem ZCK {x:Tm} {o:Occ} (h:oI g t o u=some x):TermOk g x:=by
 unfold oI at h;split at h;rotate_left
 ·cases h
 rename_i hh;obtain ⟨hg,ht,hu,hk⟩:=hh;split at h
 ·exact Zlx hg o.path ht hu h
 ·rename_i hn;obtain ⟨x',d,hA,dL,ct,hL,hR⟩:=Zly ht hk hn
  cases hm:mO g (di t o.path).1.op (o.left++[u]++o.right) with
  | none=>rw [hm] at h;cases h
  | some c =>
   rw [hm] at h;refine Zlx hg o.path ht (Zld hg hA.lo (fun a ha=>?_) hm) h;exact m93
theorem ZtB {p:Int} {ps:List Int} (h:(di t (p::ps)).2=true):0<=p∧∃ a,t.args[p.toNat]?=some a∧(di a ps).2=true:=by
 refine Cg fun e=>?_;rw [e] at h;by_cases hp:p < 0
 ·rw [if_pos hp] at h;cases h
 rw [if_neg hp] at h
 cases ha:t.args[p.toNat]? with
 | none=>rw [ha] at h;cases h
 | some a =>
  rw [ha] at h;exact ⟨om,a,rfl,h⟩
theorem ZpN (ts:List Tm) (i:Nat) (hi:i < ts.length) (hl:ts.length<=1048576):az e0 254 [.one (.sl (aq ts)),.one (.lit (.int .i64 i))] [.one (.sl (aq (ts.take i++ts.drop (i+1))))]:=by
 rw [pf,<- rH,<- sB];have ug:((i:Int)<=(ts.length:Int))=True:=eq_true om;have hxl2:(((i+1:Nat):Int)<=(ts.length:Int))=True:=eq_true om;have hw:=bI (k:=i) om;have r1:ZaB 4 ((aq ts).take i)=true:=by rw [rH];exact oP _
 have r2:ZaB 4 ((aq ts).drop (i+1))=true:=by rw [sB];exact oP _
 have n1:((aq ts).take i).length<=1048576:=by rw [Taw,bf];omega
 have n2:((aq ts).drop (i+1)).length<=1048576:=by rw [Tax,bf];omega
 have n3:((aq ts).take i).length+((aq ts).drop (i+1)).length<=ak:=by unfold ak;omega
 have tkA:(aq ts).take ts.length=aq ts:=by rw [<- bf ts,Tap]
 have xf:((ts.length:Int)<=(ts.length:Int))=True:=eq_true (Int.le_refl _);refine gI (ts:=[.slot 4]) 19 Tryz.func254 ?_;refine fN 1 @ae ?_;have F:=aj10 r1 r2 ug hxl2 hw n3 tkA xf @bD ae;refine gA 9 4 ?_ (.inl rfl) ?_
 ·show 0+_<=ak;unfold ak;omega
 clear F;refine fR (aj10 @r1 @r2 @ug @hxl2 @hw @n3 @tkA @xf @bD @ae) ?_;have F:=aj4 @r1 @r2 @n3 @ae;refine gG ?_;exact uV [4]
theorem Zyq {l:List Tm}:(some l).getD []=l:=rfl
theorem ZmM (l ss:List Tm) (hl:b9 l) (hs:b9 ss) (xf:l.length<=1048576) (fh:ss.length<=1048576):az e0 169 [.one (.sl (aq l)),.one (.sl (aq ss))] [.one (.sl (aq ((gv l ss).getD []))),.one (.lit (.bool (gv l ss).isSome))]:=by
 refine gI (ts:=[.slot 4,.slot 5]) 34896611571 Tryz.func169 ?_;refine fG @ae ?_;have F:=@ae;refine gL (ι:=Nat × List Tm) [0,4,5,6,7,11,29,35] [] (fun x=>[(6,A.d (.one (.lit (.int .i64 x.1)))),(0,.d (.one (.sl (aq x.2))))]) (fun x=>[]) (fun x=>x.1<=ss.length∧gv l ss=gv x.2 (ss.drop x.1)∧b9 x.2∧x.2.length<=1048576) (fun x=>ss.length - x.1) ((0,l)) (⟨Taj _,rfl,hl,xf⟩) (fun x hx=>?_);obtain ⟨i,bc⟩:=x
 obtain ⟨hi,hf,tV,ip⟩:=hx;simp only at hi hf tV ip;rw [hf];by_cases au:i < ss.length;rotate_left
 ·obtain rfl:i=ss.length:=by omega
  rw [List.drop_length];rw [(by cases bc <;> rfl:gv bc []=some bc),Zyq,show (some bc:Option (List Tm)).isSome=true from rfl];exact fD (ai (lF ss.length ss.length) @ae)
 obtain ⟨s,kf⟩:∃ s,ss[i]?=some s:=⟨_,Taa au⟩;have dZ:=bI (k:=i) om;have yv:=hs.mem (Tac kf);have nU:gv bc (ss.drop i)=(nW s bc).bind fun l'=>gv l' (ss.drop (i+1)):=by rw [y9 kf];rfl
 refine fG (ai (lT i ss.length) @ae) ?_;have F:=@aw;refine gL (ι:=Nat) [7,29] [] (fun k=>[(7,A.d (.one (.lit (.int .i64 k))))]) (fun k=>[]) (fun k=>k<=bc.length∧∀ (j:Nat) a,j < k->bc[j]?=some a->aH a s≠0) (fun k=>bc.length - k) (0) (⟨Taj _,fun j a h=>absurd h om⟩) (fun k hk=>?_);obtain ⟨hk,qV⟩:=hk;by_cases eX:k < bc.length;rotate_left
 ·obtain rfl:k=bc.length:=by omega
  have hn:nW s bc=none:=Zno fun a ha=>by
   obtain ⟨j,hj⟩:=Tbk ha;exact qV j a (Tad.1 hj).1 hj
  rw [nU,hn,show ((none:Option (List Tm)).bind fun l'=>gv l' (ss.drop (i+1)))=none from rfl,show (none:Option (List Tm)).getD []=[] from rfl,show (none:Option (List Tm)).isSome=false from rfl,ww];have F:=aj3 (lF bc.length bc.length) (eq_true rfl:((bc.length:Int)=(bc.length:Int))=True) @ae;refine gG ?_;exact uV [4]
 obtain ⟨a,ha⟩:∃ a,bc[k]?=some a:=⟨_,Taa eX⟩;have q2:=lT k bc.length;have q4:((k:Int)=(bc.length:Int))=False:=eq_false om;have na:=bI (k:=k) om;refine bU (ai @q2 @ae) (aj5 @q2 @ha @kf @bD @ae) (tz (tV.mem (Tac ha)) yv) ?_;by_cases hc:aH a s=0
 ·have z:=decide_eq_true hc;have hrm:=ZCG ha hc qV;have bu:=ZpL hrm;have hcw:=ZpN bc k eX ip;have e9:b9 (bc.take k++bc.drop (k+1)):=Zht.2 fun x hx=>by
   rcases Tbh.1 hx with h | h
   ·exact tV.mem (List.mem_of_mem_take h)
   ·exact tV.mem (List.mem_of_mem_drop h)
  rw [nU,hrm,show ((some (bc.take k++bc.drop (k+1)):Option (List Tm)).bind fun l'=>gv l' (ss.drop (i+1)))=gv (bc.take k++bc.drop (k+1)) (ss.drop (i+1)) from rfl] at hf ⊢;refine fR @z ?_;refine bp (aj3 @z @q4 @ae) @ae (hcw) @ae ?_;have F:=@dZ;refine gG ?_;exact ⟨(i+1,bc.take k++bc.drop (k+1)),⟨au,rfl,e9,by simp only at bu ⊢;omega⟩,gw,gw,om⟩
 ·have z:=decide_eq_false hc;have jC:∀ (j:Nat) b,j < k+1->bc[j]?=some b->aH b s≠0:=fun j b hj BC=>by
   by_cases e:j=k
   ·subst e;rw [ha] at BC;injection BC with BC
    subst BC;exact hc
   ·exact qV j b om BC
  refine fR @z ?_;have F:=ai @z @na;refine gG ?_;exact ⟨k+1,⟨eX,jC⟩,gw,gw,om⟩
theorem ZqW {a b:List Tm}:aH (.mk 0 ByteArray.empty 0 a) (.mk 0 ByteArray.empty 0 b)=0 ↔ a=b:=by
 constructor
 ·intro h;have:=wv h;injection this
 ·rintro rfl;exact ze _
theorem ZFW {l:List Tm} (h:b9 l):aK (.mk 0 ByteArray.empty 0 l):=by
 simp only [aK];exact ⟨⟨by decide,by decide⟩,by simp [maxLen],⟨by decide,by decide⟩,h⟩
theorem Ziv (a b:List Tm) (ha:b9 a) (hb:b9 b):az e0 253 [.one (.sl (aq a)),.one (.sl (aq b))] [.one (.lit (.int .i64 (aH (.mk 0 ByteArray.empty 0 a) (.mk 0 ByteArray.empty 0 b))))]:=by
 have hc:=CY (ZFW ha) (ZFW hb);simp only [yQ] at hc;refine gI 19 Tryz.func253 ?_;refine bU @ae @ae (hc) ?_;exact bP @ae @ae
theorem Cu {p:Prop} (h:p:=by
 exact bK (ai @h1 @ae) (aj3 @h1 @ae @hz)):p:=h
theorem m205 {p:Prop} (h:p:=by
 exact fD (aj3 (eq_true om:((o.left.length:Int)+(o.right.length:Int)=0)=True) @kg @ae)):p:=h
theorem Cf {X Y:Prop} (b:Y) (h:Bx Y->X:=by
 intro B0
 have kg:IntKind.i64.wrap ((o.left.length:Int)+(o.right.length:Int))=(o.left.length:Int)+(o.right.length:Int):=IntWalk.i64_in _ om;exact B0.o kg):X:=h ⟨b⟩
theorem Zxm:∀ {l:List Tm},(∀ (j:Nat) p a,l[j]?=some p->l[j+1]?=some a->aH p a<=0)->nX l
 | [],_=>List.Pairwise.nil
 | [a],_=>List.pairwise_singleton _ _
 | a::b::l,h=>by
  have ih:=Zxm (l:=b::l) fun j p x hp hx=>h (j+1) p x (by simpa using hp) (by simpa using hx);have Bl:=h 0 a b (by simp) (by simp);refine List.Pairwise.cons (fun x hx=>?_) ih;rcases Tbg.1 hx with rfl | hx
  ·exact Bl
  ·exact wl Bl ((List.pairwise_cons.1 ih).1 x hx)
theorem ZtC {p:Tm} (hF:dt g p) {x:Opr} (hA:AppOk g p x d) (hc:x.comm=true):nX p.args:=by
 have h3:=(nv.1 hF).2.2;have h0:=hA.lo;have hR:=h3.resolve_left om;exact Zxm fun j q a hq ha=>(hR x d hA.at' hA.fst (j+1) a ha).ord hc j q rfl hq
theorem ZEg {args left:List Tm} {r:Nat} (hA:nX args) (hn:left.length+r+2<=args.length):((gv args left).isSome=true∧r=0∧1 < ((gv args left).getD []).length∧left=cq left) ↔ (r=0∧(wo args left).2=true):=by
 constructor
 ·rintro ⟨h1,h2,h3,h4⟩;exact ⟨h2,(ZjA hA (by rw [h4];exact rJ left:nX left)).1.2 h1⟩
 ·rintro ⟨h1,h2⟩;have hL:=Zlw hA h2;have e:=(ZjA hA hL).2 h2;have hl:=ZiW e;rw [e];refine ⟨rfl,h1,?_,(C8 hL).symm⟩;simp only [Option.getD_some];omega
theorem ZEh {args left:List Tm} (hA:nX args) (h2:(wo args left).2=true):gv args left=some (wo args left).1:=(ZjA hA (Zlw hA h2)).2 h2
theorem Zyr {l:List Tm} (h:b9 l) (k:Nat):b9 (l.drop k):=Zht.2 fun a ha=>Zht.1 h a (List.mem_of_mem_drop ha)
open Classical in
theorem Znq {a b:List Tm}:decide (aH (.mk 0 ByteArray.empty 0 a) (.mk 0 ByteArray.empty 0 b)=0)=decide (a=b):=by
 by_cases h:a=b
 ·rw [decide_eq_true h,decide_eq_true (ZqW.2 h)]
 ·rw [decide_eq_false h,decide_eq_false fun e=>h (ZqW.1 e)]
open Classical in
theorem ZmN (hg:SgnOk g) (hT:TermOk g t) (ht:aK t) (hb:ab (an t)<=1048576) {o:Occ} (co:o.path.length<=1048576) (jD:o.left.length<=1048576) (eO:o.right.length<=1048576) (hL:b9 o.left) (hR:b9 o.right) (hLb:eJ o.left):az e0 167 [.agg (bN g),.agg (an t),.agg (f8 o)] [.one (.lit (.bool (ev g t o).2))]:=by
 have c2:=Zlt t o.path co hb;rw [f8.eq_1,bN];refine gI (ts:=[.slot 6]) 145241088653791231 Tryz.func167 ?_;refine bU @ae @ae (c2) ?_;have eN:=Zkf (g:=g) o.path t hT.form;have lS:=ZgA o.path t;have ri:=ZoR o.path t ht;have pH:(ev g t o).2=if (di t o.path).2=false then false else if o.left.length+o.right.length=0 then true else (mp g (di t o.path).1 o).isSome:=by
  unfold ev;split
  ·rfl
  ·split
   ·rfl
   ·cases mp g (di t o.path).1 o <;> rfl
 rw [pH];clear pH c2;generalize et:di t o.path=px at eN lS ri ⊢;obtain ⟨p,ok⟩:=px;simp only at eN lS ri ⊢;refine Cf fun kg=>?_
 cases ok with
 | false =>
  rw [if_pos rfl];exact bK @ae (ai @ae @kg)
 | true =>
 rw [if_neg (by simp)];refine fR @ae ?_;by_cases kY:o.left.length+o.right.length=0
 ·rw [if_pos kY];exact m205
 have z0:((o.left.length:Int)+(o.right.length:Int)=0)=False:=eq_false om;rw [if_neg kY];have vr:=eN rfl;have ca:=Znp (om:ab (an p)<=1048576);have w1:IntKind.i64.wrap ((p.args.length:Int) - 2)=(p.args.length:Int) - 2:=IntWalk.i64_in _ om;rcases vr.node with hv | ⟨x,d,hA⟩
 ·have BN:p.op=-1:=hv.1;rw [(by unfold mp;rw [if_pos om]:mp g p o=none)];exact fD (aj5 @z0 @kg @w1 (eq_true BN:(p.op=-1)=True) @ae)
 have h0:0<=p.op:=hA.lo;have fW:g.ops[p.op.toNat]?=some x:=hA.at';have jv:¬ (p.op < 0):=om;have q1:(p.op=-1)=False:=eq_false om
 have rV:mp g p o=if x.assoc=false∨p.args.length < o.left.length+o.right.length+2 then none
  else if x.comm=true then (if o.right.length=0∧(wo p.args o.left).2=true then some (wo p.args o.left).1 else none)
  else if kp (p.args.take o.left.length) o.left=true∧kp (p.args.drop (p.args.length - o.right.length)) o.right=true then some ((p.args.take (p.args.length - o.right.length)).drop o.left.length) else none:=by
  simp only [mp,if_neg jv,fW]
 rw [rV];clear rV
 cases ha:x.assoc with
 | false =>
  rw [if_pos (.inl rfl)];exact fD (aj9 @z0 @kg @w1 @q1 @h0 @fW @bH @ha @ae)
 | true =>
 by_cases cy:p.args.length < o.left.length+o.right.length+2
 ·rw [if_pos (.inr cy)];exact fD (aj10 @z0 @kg @w1 @q1 @h0 @fW @bH @ha (eq_true om:((p.args.length:Int) - 2 < (o.left.length:Int)+(o.right.length:Int))=True) @ae)
 have q2:((p.args.length:Int) - 2 < (o.left.length:Int)+(o.right.length:Int))=False:=eq_false om;rw [if_neg (fun h=>h.elim (fun h=>by cases h) cy)];have vo:b9 p.args:=(Zft.1 ri).2.2.2
 cases hc:x.comm with
 | true =>
  rw [if_pos rfl];have cW:=ZmM p.args o.left vo hL ca jD;have iq:=ZEg (left:=o.left) (r:=o.right.length) (ZtC vr hA hc) om;have ep:(if o.right.length=0∧(wo p.args o.left).2=true then some (wo p.args o.left).1 else none:Option (List Tm)).isSome=decide ((gv p.args o.left).isSome=true∧o.right.length=0∧1 < ((gv p.args o.left).getD []).length∧o.left=cq o.left):=by
   by_cases h:o.right.length=0∧(wo p.args o.left).2=true
   ·rw [if_pos h,decide_eq_true (iq.2 h)];rfl
   ·rw [if_neg h,decide_eq_false fun q=>h (iq.1 q)];rfl
  rw [ep];clear ep iq;have fh:(gv p.args o.left).getD []=[]∨((gv p.args o.left).getD []).length<=1048576:=by
   cases e:gv p.args o.left with
   | none=>exact .inl rfl
   | some r=>have:=ZiW e;exact .inr (by simp only [Option.getD_some];omega)
  refine bU (aj11 @z0 @kg @w1 @q1 @h0 @fW @bH @ha @hc @q2 @ae) @ae (cW) ?_;generalize gv p.args o.left=tk at fh ⊢
  cases tk with
  | none =>
   rw [decide_eq_false (by simp)];exact bK @ae @ae
  | some r =>
  simp only [Option.getD_some,Option.isSome_some,true_and] at fh ⊢;refine fR @ae ?_;by_cases mw:o.right.length=0;rotate_left
  ·rw [decide_eq_false fun h=>mw h.1];exact fD (ai (eq_false om:((o.right.length:Int)=0)=False) @ae)
  have q3:((o.right.length:Int)=0)=True:=eq_true om;by_cases ke:1 < r.length;rotate_left
  ·rw [decide_eq_false fun h=>ke h.2.1];exact fD (aj3 @q3 (lF 1 r.length) @ae)
  have q4:=lT 1 r.length;have e:decide (o.right.length=0∧1 < r.length∧o.left=cq o.left)=decide (aH (.mk 0 ByteArray.empty 0 o.left) (.mk 0 ByteArray.empty 0 (cq o.left))=0):=by
   rw [Znq];simp only [mw,ke,true_and]
  rw [e];have bF:=aj3 @q3 @q4 @ae;refine bU bF bF ((Zll o.left hL hLb)) ?_;refine fC bF ((Ziv o.left (cq o.left) hL (Zoz hL))) ?_;exact bK bF bF
 | false =>
  rw [if_neg (by simp)];have wE:IntKind.i64.wrap ((p.args.length:Int) - (o.right.length:Int))=((p.args.length - o.right.length:Nat):Int):=by
   rw [IntWalk.i64_in _ om];omega
  refine m225 fun s1 s2=>?_;have sll:((p.args.length:Int)<=(p.args.length:Int))=True:=eq_true (Int.le_refl _);have stk:p.args.take p.args.length=p.args:=Tap;have cA:=Ziv o.left (p.args.take o.left.length) hL (ZmG vo _);have cB:=Ziv o.right (p.args.drop (p.args.length - o.right.length)) hR (Zyr vo _)
  have e:(if kp (p.args.take o.left.length) o.left=true∧kp (p.args.drop (p.args.length - o.right.length)) o.right=true then some ((p.args.take (p.args.length - o.right.length)).drop o.left.length) else none:Option (List Tm)).isSome=(decide (aH (.mk 0 ByteArray.empty 0 o.left) (.mk 0 ByteArray.empty 0 (p.args.take o.left.length))=0) && decide (aH (.mk 0 ByteArray.empty 0 o.right) (.mk 0 ByteArray.empty 0 (p.args.drop (p.args.length - o.right.length)))=0)):=by
   rw [Znq,Znq];simp only [kp,decide_eq_true_eq];by_cases hx:p.args.take o.left.length=o.left
   ·by_cases hy:p.args.drop (p.args.length - o.right.length)=o.right
    ·rw [if_pos ⟨hx,hy⟩,decide_eq_true hx.symm,decide_eq_true hy.symm];rfl
    ·rw [if_neg fun h=>hy h.2,decide_eq_true hx.symm,decide_eq_false fun h=>hy h.symm];rfl
   ·rw [if_neg fun h=>hx h.1,decide_eq_false fun h=>hx h.symm];rfl
  rw [e];clear e;refine bU (aj12 @z0 @kg @w1 @q1 @h0 @fW @bH @ha @hc @q2 @wE @ae) (aj5 @ae @s1 @bD @rH @sB) (cA) ?_;by_cases h3:aH (.mk 0 ByteArray.empty 0 o.left) (.mk 0 ByteArray.empty 0 (p.args.take o.left.length))=0;rotate_left
  ·have z3:=eq_false h3;rw [decide_eq_false h3,Bool.false_and];exact bK (ai @z3 @ae) (ai @z3 @ae)
  rw [decide_eq_true h3,Bool.true_and];refine fC (aj9 (eq_true h3) @wE @ae @s2 @sll @stk @bD @rH @sB) (cB) ?_;exact bK @ae @ae
theorem Zlz (op:Int) (l:List Tm) (h2:2<=l.length) (hl:l.length<=1048576):az e0 170 [.one (.lit (.int .i64 op)),.one (.sl (aq l))] [.agg (an (.mk op ByteArray.empty 0 l))]:=by
 have em:=yQ op l;refine gI (ts:=[.cell 4 53]) 147 Tryz.func170 ?_;refine il 3 (ai (eq_false om:((l.length:Int)=1)=False) @ae) 4 (ai (eq_true (by unfold ak;omega):(l.length<=ak)=True) @ae) ?_;refine gS 14 fun a cap=>?_;refine gD 14 [14] [] ?_;exact bK (ai @em @ae) (ai @em @ae)
theorem Zro (aj:jk g) (ht:aK t) (hb:ab (an t)<=1048576) {o:Occ} (co:o.path.length<=1048576) (jD:o.left.length<=1048576) (eO:o.right.length<=1048576) (hL:b9 o.left) (hR:b9 o.right) (hLb:eJ o.left):az e0 96 [.agg (bN g),.agg (an t),.agg (f8 o)] [.agg (an (mE g t o).1),.one (.lit (.bool (mE g t o).2))]:=by
 have cT:=yV aj ht (qe hb);have hz:=oc;by_cases h:SgnOk g∧TermOk g t;rotate_left
 ·have h1:(fA g && d4 g t)=false:=by
   rcases Classical.not_and_iff_not_or_not.1 h with h | h
   ·rw [C6 h,Bool.false_and]
   ·rw [y7 h,Bool.and_false]
  rw [ZCJ h];rw [f8.eq_1,bN];rw [bN] at cT;refine gI (ts:=[.cell 6 53,.slot 7]) 576460889744475647 Tryz.func96 ?_;refine bU @ae @ae (cT) ?_;exact Cu
 have h1:(fA g && d4 g t)=true:=by rw [v8 h.1,wf h.2];rfl
 obtain ⟨hg,hT⟩:=h;rw [ZpM hg hT];have cF:=ZmN hg hT ht hb co jD eO hL hR hLb;have c2:=Zlt t o.path co hb;have fm:=ZoS (g:=g) (o:=o) ht hb;have eN:=Zkf (g:=g) o.path t hT.form;have lS:=ZgA o.path t;have ri:=ZoR o.path t ht;rw [f8.eq_1] at cF ⊢;rw [bN] at cT cF ⊢;refine gI (ts:=[.cell 6 53,.slot 7]) 576460889744475647 Tryz.func96 ?_;refine bU @ae @ae (cT) ?_;refine fC (ai @h1 @ae) (cF) ?_
 cases hf:(ev g t o).2 with
 | false =>
  rw [(fm.2.2 hf)];exact Cu
 | true =>
 refine fR (ai @h1 @ae) ?_;refine bU (ai @h1 @ae) @ae (c2) ?_
 have pH:ev g t o=if (di t o.path).2=false then (ck,false) else if o.left.length+o.right.length=0 then ((di t o.path).1,true) else match mp g (di t o.path).1 o with
  | none=>(ck,false)
  | some r=>(.mk (di t o.path).1.op ByteArray.empty 0 r,true):=rfl
 rw [pH] at hf fm ⊢;clear pH c2 cF cT;generalize et:di t o.path=px at eN lS ri hf fm ⊢;obtain ⟨p,ok⟩:=px;simp only at eN lS ri hf fm ⊢
 cases ok with
 | false=>rw [if_pos rfl] at hf;cases hf
 | true =>
 rw [if_neg (by simp)] at hf fm ⊢;have kg:IntKind.i64.wrap ((o.left.length:Int)+(o.right.length:Int))=(o.left.length:Int)+(o.right.length:Int):=IntWalk.i64_in _ om;have ua:ab (an p)<=1048576:=om;refine fR @ae ?_;by_cases kY:o.left.length+o.right.length=0
 ·rw [if_pos kY];refine bU (aj3 (eq_true om:((o.left.length:Int)+(o.right.length:Int)=0)=True) @kg @ae) @ae ((zf p ua)) ?_;exact bK @ae @ae
 have z0:((o.left.length:Int)+(o.right.length:Int)=0)=False:=eq_false om;rw [if_neg kY] at hf fm ⊢;have vr:=eN rfl;have ca:=Znp ua
 cases hr:mp g p o with
 | none=>rw [hr] at hf;cases hf
 | some r =>
 rw [hr] at fm;simp only at fm ⊢;have db:=fm.2.1;clear fm hf;rcases vr.node with hv | ⟨x,d,hA⟩
 ·exact m178
 have h0:0<=p.op:=hA.lo;have fW:g.ops[p.op.toNat]?=some x:=hA.at';have jv:¬ (p.op < 0):=om
 have rV:mp g p o=if x.assoc=false∨p.args.length < o.left.length+o.right.length+2 then none
  else if x.comm=true then (if o.right.length=0∧(wo p.args o.left).2=true then some (wo p.args o.left).1 else none)
  else if kp (p.args.take o.left.length) o.left=true∧kp (p.args.drop (p.args.length - o.right.length)) o.right=true then some ((p.args.take (p.args.length - o.right.length)).drop o.left.length) else none:=by
  simp only [mp,if_neg jv,fW]
 rw [rV] at hr;clear rV;have cy:¬ (x.assoc=false∨p.args.length < o.left.length+o.right.length+2):=fun hh=>by rw [if_pos hh] at hr;cases hr
 rw [if_neg cy] at hr;have hn3:¬ (p.args.length < o.left.length+o.right.length+2):=fun hh=>cy (.inr hh);have vo:b9 p.args:=(Zft.1 ri).2.2.2;have wE:IntKind.i64.wrap ((p.args.length:Int) - (o.right.length:Int))=((p.args.length - o.right.length:Nat):Int):=by
  rw [IntWalk.i64_in _ om];omega
 have s2:(((p.args.length - o.right.length:Nat):Int)<=(p.args.length:Int))=True:=eq_true om;have s3:((o.left.length:Int)<=((p.args.length - o.right.length:Nat):Int))=True:=eq_true om;have cC:=zf (.mk p.op ByteArray.empty 0 r) db
 cases hc:x.comm with
 | true =>
  rw [if_pos hc] at hr;have hw:o.right.length=0∧(wo p.args o.left).2=true:=Classical.byContradiction fun hh=>by rw [if_neg hh] at hr;cases hr
  rw [if_pos hw] at hr;injection hr with hr
  have cW:=ZmM p.args o.left vo hL ca jD;have etk:=ZEh (ZtC vr hA hc) hw.2;have ix:=ZiW etk;rw [etk,hr] at cW;rw [hr] at ix;have cV:=Zlz p.op r om om;rw [Option.getD_some,Option.isSome_some] at cW;refine bp (aj13 @z0 @kg @wE @s2 @s3 @h0 @fW @bH @hc @bD @rH @sB @ae) @ae (cW) @ae ?_;refine bU @ae @ae (cV) ?_;refine fC @ae (cC) ?_;exact bK @ae @ae
 | false =>
  rw [if_neg (by rw [hc];simp)] at hr;have hw:kp (p.args.take o.left.length) o.left=true∧kp (p.args.drop (p.args.length - o.right.length)) o.right=true:=Classical.byContradiction fun hh=>by rw [if_neg hh] at hr;cases hr
  rw [if_pos hw] at hr;injection hr with hr
  have ix:r.length=p.args.length - o.right.length - o.left.length:=by rw [<- hr,Tax,Taw];omega
  have cV:=Zlz p.op r om om;rw [<- hr] at cV cC ⊢;refine bU (aj13 @z0 @kg @wE @s2 @s3 @h0 @fW @bH @hc @bD @rH @sB @ae) @ae (cV) ?_;refine fC @ae (cC) ?_;exact bK @ae @ae
theorem m294 {p:Prop} (h:p:=by
 intro s' m' hB hD hI hJ;have F:=ai (qF.1 hB) (cZ.1 (hD 12 (by decide) (.inl rfl)));exact m11):p:=h
theorem tf {p:Prop} (h:p:=by
 intro s' m' hB hD hI hJ;have F:=(qF.1 hB);exact m11):p:=h
theorem m218 {X Y:Prop} (b:Y) (h:Bx Y->X:=by
 intro B0
 refine fG (ai @l1 @ae) ?_;refine A4 15 14 16 ?_;refine fC (aj13 @l2 @l3 @l4 @l5 @l6 @l7 @l8 @t0 @t1 @mY @t8 @bD @ae) (hc) ?_;exact B0.o):X:=h ⟨b⟩
theorem m174 {X Y:Prop} (b:Y) (h:Bx Y->X:=by
 intro B0
 have l5:((p::ps).map d7).take ((p::ps).map d7).length=(p::ps).map d7:=Tap;have l6:((1:Int)<=(((p::ps).map d7).length:Int))=True:=eq_true (by rw [l0];omega);exact B0.o l5 l6):X:=h ⟨b⟩
theorem m168 {p:Prop} (h:p:=by
 exact fD (aj3 (eq_true rfl:((([]:List (List C)).length:Int)=0)=True) (eq_true rfl:(((0:Nat):Int)=0)=True) @ae)):p:=h
theorem m111 {X Y:Prop} (b:Y) (h:Bx Y->X:=by
 intro B0
 have hz:=oc;obtain ⟨mY,a,t8,iA⟩:=ZtB hs;have hm:=Tac t8;obtain ⟨o,d,hA⟩:=ht.app hm;have ca:=ZgK ht;have au:=(Tad.1 t8).1;have hc:=ih (ht.arg hm) iA (by simp only [Tag] at hl;omega);have e:kK g t (p::ps) u=(kK g a ps u).bind fun x=>mO g t.op (t.args.set p.toNat x):=by simp only [kK,t8]
 exact B0.o hz mY a t8 iA hm o d hA ca au hc e):X:=h ⟨b⟩
theorem D7 {X Y:Prop} (b:Y) (h:Bx Y->X:=by
 intro B0
 simp only [kJ,kI,List.getD_cons_zero,List.getD_cons_succ,and_true,true_and] at F;exact B0.o F):X:=h ⟨b⟩
theorem m11 {p:Prop} (h:p:=by
 simp only [kJ,kI,List.getD_cons_zero,List.getD_cons_succ,and_true,true_and] at F;have F:=ai F (ae);refine bT ?_;exact kS hB (cZ.2 (by simp [kJ,kI,gs,gm]))):p:=h
noncomputable def pY (g:Sgn) (op:Int) (xs:List Tm):Tm:=match g.ops[op.toNat]? with
 | none=>ck
 | some o=>match o.decls[0]? with
  | none=>ck
  | some d=>yP g o d op xs
noncomputable def xn (g:Sgn):Tm->List Int->Tm->Tm
 | t,[],u=>u
 | t,p::ps,u=>match t.args[p.toNat]? with
  | none=>ck
  | some a=>match kK g a ps u with
   | none=>ck
   | some x=>pY g t.op (t.args.set p.toNat x)
section
variable {g:Sgn}
theorem Zu0 {o:Occ} (hn:o.left.length+o.right.length=0):az e0 258 [.agg (bN g),.one (.lit (.int .i64 op)),.agg (f8 o),.agg (an u)] [.agg (an u),.one (.lit (.bool true))]:=by
 refine Cf fun kg=>?_;rw [f8.eq_1,dR];refine gI (ts:=[.cell 8 53,.slot 9]) 132063 Tryz.func258 ?_;exact m205
theorem Zys {o:Occ} {r:Tm} {b:Bool} (hn:¬ (o.left.length+o.right.length=0)) (hl:o.left.length<=1048576) (hr:o.right.length<=1048576) (cM:az e0 156 [.agg (bN g),.one (.lit (.int .i64 op)),.one (.sl (aq (o.left++[u]++o.right)))] [.agg (an r),.one (.lit (.bool b))]):az e0 258 [.agg (bN g),.one (.lit (.int .i64 op)),.agg (f8 o),.agg (an u)] [.agg (an r),.one (.lit (.bool b))]:=by
 have z0:((o.left.length:Int)+(o.right.length:Int)=0)=False:=eq_false om;refine Cf fun kg=>?_;have l1:∀ l:List Tm,ZaB 4 (aq l)=true:=fun l=>oP l;have l2:(o.left.length+1<=ak)=True:=eq_true (by unfold ak;omega);have l3:aq o.left++[an u]=aq (o.left++[u]):=by rw [pf,wb]
 have l4:((o.left++[u]).length+o.right.length<=ak)=True:=eq_true (by rw [Tae,Tag,Tak];unfold ak;omega);have l5:aq (o.left++[u])++aq o.right=aq (o.left++[u]++o.right):=(pf _ _).symm;have l6:(0+o.left.length<=ak)=True:=eq_true (by unfold ak;omega);have l7:(o.left.length<=ak)=True:=eq_true (by unfold ak;omega);have l8:∀ t:Tm,ZaB 4 [an t]=true:=fun t=>oP [t];generalize o.left++[u]++o.right=L2 at l5 cM
 generalize o.left++[u]=L1 at l3 l4 l5;rw [dR] at cM;rw [f8.eq_1,dR];refine gI (ts:=[.cell 8 53,.slot 9]) 132063 Tryz.func258 ?_;refine fN 3 (aj3 @z0 @kg @ae) ?_
 /- gk AQ -/
 refine gGk [(1,.d (.one (.lit (.int .i64 op)))),(4,.ref 4 0),(6,.ref 6 0),(7,.ref 7 0),(8,.ref 8 0)] [(4,.var none [.sl (g.sorts.names.map kj),.sl (g.sorts.subs.map kU),.sl (g.ops.map fU)]),(6,.var none [.sl (o.path.map d7),.sl (aq o.left),.sl (aq o.right),.sl (o.mat.map fS)]),(7,.var none (an u))] [([(19,.d (.agg [.sl (g.sorts.names.map kj),.sl (g.sorts.subs.map kU),.sl (g.ops.map fU)]))],[]),([(20,.d (.one (.lit (.int .i64 op))))],[]),([(21,.d (.clip []))],[]),([(22,.ref 6 1)],[]),([(23,.d (.one (.sl (aq o.left))))],[]),([(24,.buf 24)],[(24,.buf none 53 4 (aq o.left))]),([(25,.d (.agg (an u)))],[]),([(26,.d (.clip [an u]))],[]),([(27,.buf 27)],[(27,.buf none 53 4 (aq L1))]),([(28,.ref 6 2)],[]),([(29,.d (.one (.sl (aq o.right))))],[]),([(30,.d (.one (.sl (aq L2))))],[]),([(31,.tup [.agg (an r),.one (.lit (.bool b))])],[]),([(32,.d (.agg (an r)))],[]),([(33,.d (.one (.lit (.bool b))))],[]),([],[(8,.var none (an r))]),([(9,.d (.one (.lit (.bool b))))],[]),([],[(8,.var none [.lit (.int .i64 0),.lit (.string ByteArray.empty),.lit (.int .i64 0),.sl []])])] (fun j=>([(5,8),(8,11),(17,15)]:List (Nat × Nat)).lookup j) [17] (⟨by simp [gs],by simp [gm]⟩) (fun j hj=>by simp only [Tbg,List.not_mem_nil,or_false] at hj;subst hj;exact ⟨by simp [gs],by simp [gm]⟩) ⟨?_,?_,?_,?_,?_,?_,?_,?_,?_,?_,?_,?_,?_,?_,?_,?_,?_,trivial⟩ ?_
 ·exact tf
 ·exact tf
 ·exact tf
 ·exact tf
 ·intro s' m' hB hD hI hJ;have F:=ai (qF.1 hB) (cZ.1 (hD 3 (by decide) (.inl rfl)));exact m11
 ·intro s' m' hB hD hI hJ;have F:=aj3 (qF.1 hB) (cZ.1 (hD 2 (by decide) (.inl rfl))) (cZ.1 (hD 4 (by decide) (.inl rfl)));refine D7 fun F=>?_;have F:=aj5 F @l1 l6 l7 ae;refine bT ?_;exact kB hB (cZ.2 (by simp [kJ,kI,gs,gm]))
 ·exact tf
 ·intro s' m' hB hD hI hJ;have F:=ai (qF.1 hB) (cZ.1 (hD 6 (by decide) (.inl rfl)));refine D7 fun F=>?_;have F:=aj3 F @l8 ae;refine bT ?_;exact kS hB (cZ.2 (by simp [kJ,kI,gs,gm]))
 ·intro s' m' hB hD hI hJ;have F:=aj3 (qF.1 hB) (cZ.1 (hD 5 (by decide) (.inr rfl))) (cZ.1 (hD 7 (by decide) (.inl rfl)));refine D7 fun F=>?_;have F:=aj6 F @l1 l2 l3 @l8 ae;refine bT ?_;exact kE hB (cZ.2 (by simp [kJ,kI,gs,gm]))
 ·exact tf
 ·intro s' m' hB hD hI hJ;have F:=ai (qF.1 hB) (cZ.1 (hD 9 (by decide) (.inl rfl)));exact m11
 ·intro s' m' hB hD hI hJ;have F:=aj3 (qF.1 hB) (cZ.1 (hD 8 (by decide) (.inr rfl))) (cZ.1 (hD 10 (by decide) (.inl rfl)));refine D7 fun F=>?_;have F:=aj5 F @l1 l4 l5 ae;refine gP 1 ?_;refine gFz 30 ?_;refine mg ?_;exact kF hB (cZ.2 (by simp [kJ,kI,gs,gm,eF,fk]))
 ·intro s' m' hB hD hI hJ;have F:=aj4 (qF.1 hB) (cZ.1 (hD 0 (by decide) (.inl rfl))) (cZ.1 (hD 1 (by decide) (.inl rfl))) (cZ.1 (hD 11 (by decide) (.inl rfl)));refine D7 fun F=>?_;have F:=ai F (ae);refine gC (cM) ?_;refine mg ?_;exact kS hB (cZ.2 (by simp [kJ,kI,gs,gm]))
 ·exact m294
 ·exact m294
 ·intro s' m' hB hD hI hJ;have F:=aj3 (qF.1 hB) (cZ.1 (hD 13 (by decide) (.inl rfl))) (cZ.1 (hI 17 (by decide) (by decide)));refine D7 fun F=>?_;have F:=ai F (ae);refine bT ?_;exact kM hB (cZ.2 (by simp [kJ,kI,gs,gm]))
 ·intro s' m' hB hD hI hJ;have F:=ai (qF.1 hB) (cZ.1 (hD 14 (by decide) (.inl rfl)));exact m11
 intro s' m' hB hP;refine ⟨_,_,(hB.app (hP 15 (.inl (by decide)) (fun k h=>by simp [List.lookup] at h))).app (hP 16 (.inl (by decide)) (fun k h=>by simp [List.lookup] at h)),?_⟩;simp only [Taf,Tah,List.append_nil,List.getD_cons_zero,List.getD_cons_succ]
 /- gk end AQ -/
 refine ⟨_,Wk.refl _,?_⟩;exact fD @ae
theorem ZmO (bW:jk g) (hg:SgnOk g) (h0:0<=op) (ho:g.ops[op.toNat]?=some o) (xs:List Tm) (ha:∀ a∈xs,TermOk g a) (hl:xs.length<=1000):az e0 156 [.agg (bN g),.one (.lit (.int .i64 op)),.one (.sl (aq xs))] [.agg (an (pY g op xs)),.one (.lit (.bool (mO g op xs).isSome))]:=by
 obtain ⟨d,hd,_⟩:=hg.first ho;rw [Zot ho hd,(by simp only [pY,ho,hd]:pY g op xs=yP g o d op xs)];exact ZoC bW hg h0 ho hd xs ha hl
theorem Zxn {xs:List Tm} (h:mO g op xs=some t):pY g op xs=t:=by
 unfold mO at h;unfold pY
 cases ho:g.ops[op.toNat]? with
 | none=>rw [ho] at h;cases h
 | some o =>
  rw [ho] at h;simp only at h ⊢
  cases hd:o.decls[0]? with
  | none=>rw [hd] at h;cases h
  | some d =>
   rw [hd] at h;simp only at h ⊢;simp only [yP,h,Option.getD_some]
theorem ZtD:∀ (ps:List Int) {t x:Tm},kK g t ps u=some x->xn g t ps u=x
 | [],t,x,h=>by simp only [kK,Taq] at h;simp only [xn,h]
 | p::ps,t,x,h=>by
  simp only [kK] at h;simp only [xn]
  cases ha:t.args[p.toNat]? with
  | none=>rw [ha] at h;cases h
  | some a =>
   rw [ha] at h;simp only at h ⊢
   cases hr:kK g a ps u with
   | none=>rw [hr] at h;cases h
   | some y =>
    rw [hr] at h;exact Zxn h
theorem ZjB (bW:jk g) (hg:SgnOk g) (hu:TermOk g u):∀ (ps:List Int) {t:Tm},TermOk g t->(di t ps).2=true->ps.length<=1048576->az e0 259 [.agg (bN g),.agg (an t),.one (.sl (ps.map d7)),.agg (an u)] [.agg (an (xn g t ps u)),.one (.lit (.bool (kK g t ps u).isSome))]:=by
 intro ps
 induction ps with
 | nil =>
  intro t ht hs hl;have hz:=oc;have e:kK g t [] u=some u:=rfl;have e2:xn g t [] u=u:=rfl;rw [e,e2,dR];rw [List.map_nil];refine gI (ts:=[.cell 8 53,.slot 9]) 8589975487 Tryz.func259 ?_;exact m168
 | cons p ps ih =>
  intro t ht hs hl;refine m111 fun hz mY a t8 iA hm o d hA ca au hc e=>?_
  have e2:xn g t (p::ps) u=match kK g a ps u with | none=>ck | some x=>pY g t.op (t.args.set p.toNat x):=by simp only [xn,t8]
  have aj:=fun x=>Zlx hg ps (x:=x) (ht.arg hm) hu;have vn:=fun x=>ZtD (g:=g) (u:=u) ps (t:=a) (x:=x);rw [e,e2];clear ih hs iA e e2;generalize hr:kK g a ps u=r at hc aj vn ⊢;generalize xn g a ps u=q at hc vn;have l0:((p::ps).map d7).length=ps.length+1:=by simp
  have l1:((((p::ps).map d7).length:Int)=0)=False:=eq_false (by rw [l0];omega);have l2:((p::ps).map d7)[0]?=some [.lit (.int .i64 p)]:=rfl;have l3:ZaB 1 ((p::ps).map d7)=true:=Zk0 _;have l4:((p::ps).map d7).drop 1=ps.map d7:=rfl;refine m174 fun l5 l6=>?_;generalize (p::ps).map d7=rows at l0 l1 l2 l3 l4 l5 l6 ⊢
  have l7:((rows.length:Int)<=(rows.length:Int))=True:=eq_true (Int.le_refl _);have l8:(0 < rows.length)=True:=eq_true om;have t0:Int.toNat 0=0:=rfl;have t1:Int.toNat 1=1:=rfl;have m1:(0+t.args.length<=ak)=True:=eq_true (by unfold ak;omega);have m2:(t.args.length<=ak)=True:=eq_true (by unfold ak;omega);rw [dR] at hc ⊢;refine gI (ts:=[.cell 8 53,.slot 9]) 8589975487 Tryz.func259 ?_
  refine m218 ?_
  cases r with
  | none =>
   exact bK @ae (ai @hz @ae)
  | some x =>
   have hx:=aj x rfl;have hqx:=vn x rfl;subst hqx;simp only [Option.isSome_some,Option.bind_some];refine fR @ae ?_;refine nJ 7 (aj3 @ae @m1 @m2) ?_;refine fR (aj11 @mY @l2 @l3 @l8 @t0 @au @t8 @bf @df @bD @ae) ?_;have cB:=ZmO bW hg hA.lo hA.at' (t.args.set p.toNat q) (ZpD (fun b hb=>ht.arg hb) hx) (by rw [Taz];omega);rw [dR] at cB;refine fN 8 @ae ?_;refine rI (wm [12] (by simp only [pz,↓reduceIte,Nat.reduceEqDiff,Nat.reduceAdd,Nat.reduceSub,Nat.reduceMul,Nat.reduceLeDiff,Nat.reduceBEq,Tam,decide_true,decide_false,Int.reduceLE,Int.reduceToNat,Int.reduceLT,Int.reduceEq,eq_self,Nat.reduceShiftRight,Nat.reduceAnd,Nat.reduceBneDiff,ae];exact rfl)) fun σ' hσ=>?_
   subst hσ;refine nI @ae (cB) ?_;exact bK @ae @ae
end
section
variable {e:Env} {σ:St} {o:Oper} {K:St->Prop}
theorem Zyt {t t' el:TypeId} (ho:o.op=.binOp .eql t x (.const (.slice none 0 0)) t') (ht:e.P.underlying t=some (.slice el)) (hx:aL σ.s x=.d (.one (.sl rows))) (hK:∀ b:Bool,(b=true->rows=[])->K ⟨aI σ.s o.dst (.d (.one (.lit (.bool b)))),σ.m⟩):iT e o σ K:=by
 intro he U w0 S0 nt a w Q hd ⟨S,L,h1⟩;have bj:=h1.eval x;rw [hx] at bj;simp only [ax,aW,aQ] at bj;obtain ⟨A,n,cap,hv,hn,_,_,hp⟩:=bj;unfold Oper.wp;have aJ:(execOp a.eval o).run e.P w=.ok (.value (.bool A.isNone)) w:=by
  have hc:a.eval (.const (.slice none 0 0))=.slice none 0 0:=rfl;simp only [execOp,ho,hv,hc,eqGuard];simp [Result.andThen];rw [Lib.run_eql_slice_nil w t el A n cap 0 0 ht]
 rw [aJ,Oper.upon_value];refine ⟨_,hK A.isNone (fun hb=>?_),S,L,h1.put (by simp [ax,aW,aQ]) hd⟩;rcases Nat.eq_zero_or_pos n with h0 | h0
 ·exact Tao om
 ·obtain ⟨b,off,rfl,_⟩:=hp h0
  cases hb
end
section
variable {e:Env} {K:St->Prop} {ds:List (Option Nat)} {os:List Oper} {s:List (Nat × A)} {m:List (Nat × Bk)}
theorem gNil {d t t':Nat} {el:TypeId} (ht:e.P.underlying t=some (.slice el)) (hK:∀ b:Bool,(b=true->rows=[])->al e ds 0 os ⟨(d,.d (.one (.lit (.bool b))))::s,m⟩ K)
  (hx:aL s x=.d (.one (.sl rows)):=by exact j5):al e ds 0 (⟨some d,.binOp .eql t x (.const (.slice none 0 0)) t',ty,p,ed,none⟩::os) ⟨s,m⟩ K :=
 Zgt rfl (Zyt rfl ht hx hK)
end
def Af (ty sz:Nat) (rows:List (List C)) (r:List D) (pm:List Bk):Prop:=∃ a cap,r=[.one (.lit (.slice a rows.length cap))]∧pm=[.buf (some (a,cap)) ty sz rows]
theorem Zu1 (h:aq ts=[]):ts=[]:=by
 cases ts with
 | nil=>rfl
 | cons t ts=>simp [aq] at h
theorem ZeX (ts:List Tm) (hl:ts.length<=1048576):aR e0 188 [.one (.sl (aq ts))] [] (Af 53 4 (aq ts)):=by
 have l1:(ts.length<=ak)=True:=eq_true (by unfold ak;omega);refine dK (ts:=[.slot 2]) [] 21 Tryz.func188 ?_;refine il 1 @ae 1 @ae ?_;refine (have F:=ae;gNil (rows:=aq ts) (el:=53) (by kernel_rfl) fun b hb=>?_)
 cases b with
 | true =>
  have hb:=Zu1 (hb rfl);subst hb;refine dT @ae @ae ?_;refine pS 2 fun a cap=>?_;exact (have F:=bf;eU (R:=Af 53 4 (aq [])) [2] ⟨a,cap,rfl,rfl⟩)
 | false =>
  refine fR @ae ?_;refine il 3 @ae 1 @ae ?_;refine gO 5 53 4 ?_;have F:=ai @l1 @ae;refine gP 2 ?_;refine gS 7 fun a cap=>?_;refine dT @ae @ae ?_;exact (have F:=bf;eU (R:=Af 53 4 (aq ts)) [7] ⟨a,cap,rfl,rfl⟩)
section
variable {e:Env} {K:St->Prop} {s:List (Nat × A)} {m:List (Nat × Bk)}
theorem gFa {f d t n fi off:Nat} {ft:TypeId} (i:Nat) (hK:gF e ops K f (ag.setIfInBounds i true) ⟨(d,.ref k (off+n))::s,m⟩)
  (hi:ops[i]?=some ⟨some d,.fieldAddr t x fi,ty,p,ed,none⟩:=by simp only [List.getElem?_toArray,Tau,Tat];exact rfl) (hx:aL s x=.ref k off:=by exact cJ) (ht:iG e.P t fi=some (n,ft):=by exact nf) (iB:xT ops=true:=by decide +kernel) (lR:AF ops ag i=true:=by decide +kernel) (hr:(Region.ready .any ops ag).contains i=true:=by decide +kernel):gF e ops K (f+1) ag ⟨s,m⟩:=by
 refine C9 (o:=⟨some d,.fieldAddr t x fi,ty,p,ed,none⟩) hi rfl rfl iB lR hr (α:=.ref k (off+n)) (fun _ U w0 S0 nt ac w S L h=>⟨.pointer (some ⟨L.b k,off+n,none⟩),fun w2=>?_,rfl⟩) hK;have h1:=h.eval x;rw [hx] at h1;have h1:ac.eval x=.pointer (some ⟨L.b k,off,none⟩):=h1;have:=ZfR (P:=e.P) ht (L.b k) off w2;simp [execOp,h1,this]
theorem gFx {f d n:Nat} {xs:List D} {y:D} (i:Nat) (hK:gF e ops K f (ag.setIfInBounds i true) ⟨(d,.d y)::s,m⟩)
  (hi:ops[i]?=some ⟨some d,.extract x n,ty,p,ed,none⟩:=by simp only [List.getElem?_toArray,Tau,Tat];exact rfl) (hx:aL s x=.tup xs:=by exact cJ) (hy:xs[n]?=some y:=by exact rfl) (iB:xT ops=true:=by decide +kernel) (lR:AF ops ag i=true:=by decide +kernel) (hr:(Region.ready .any ops ag).contains i=true:=by decide +kernel):gF e ops K (f+1) ag ⟨s,m⟩:=by
 refine C9 (α:=.d y) (o:=⟨some d,.extract x n,ty,p,ed,none⟩) hi rfl rfl iB lR hr (fun _ U w0 S0 nt ac w S L h=>?_) hK;have h1:=h.eval x;rw [hx] at h1;obtain ⟨vs,hv,hr⟩:=h1;obtain ⟨v,h1,h2⟩:=hr.get hy;exact ⟨v,fun w2=>by simp [execOp,hv,Instr.extract,h1,Result.andThen],h2⟩
theorem Zkh {f:Nat} (bq:Region.ready .any ops ag≠[]) (bG:ops.toList.map (·.dst)=ds) (h:∀ i∈Region.ready .any ops ag,∃ o,ops[i]?=some o∧o.guard=none∧al e ds 0 [o] σ (fun σ'=>gF e ops K f (ag.setIfInBounds i true) σ')):gF e ops K (f+1) ag σ:=by
 subst bG;intro he U w0 S0 nt a w hd hs;refine ⟨fun h0=>absurd h0 bq,fun i hi=>?_⟩;obtain ⟨o,ho,hg,hr⟩:=h i hi;unfold wpOp;refine m203 fun kz=>?_;refine .inl (Oper.wp_mono (fun a' w' ⟨σ',hr,iA⟩=>?_) (CW hg hr he U w0 S0 nt a w _ (hd o kz) hs));exact hr he U w0 S0 nt a' w' ops.toList (fun _ a w=>wpAny e.P .any ops (QN e U w0 S0 nt K) f (ag.setIfInBounds i true) a w) rfl (fun o ho=>by simp at ho) (fun a w σ'' hK BU=>hK he U w0 S0 nt a w hd BU) iA
theorem wU {f:Nat} {o:Oper} (i:Nat) (hK:al e ds 0 [o] σ (gF e ops K f (ag.setIfInBounds i true))) (bG:ops.toList.map (·.dst)=ds:=by exact rfl) (hr:Region.ready .any ops ag=[i]:=by decide +kernel) (ho:ops[i]?=some o:=by simp only [List.getElem?_toArray,Tau,Tat];exact rfl) (hg:o.guard=none:=by exact rfl):gF e ops K (f+1) ag σ:=by
 refine Zkh (by rw [hr];simp) bG fun j hj=>?_;rw [hr] at hj;have i9:j=i:=by simpa using hj
 subst i9;exact ⟨o,ho,hg,hK⟩
theorem AZ {f:Nat} {o o':Oper} (i j:Nat) (hK:al e ds 0 [o] σ (gF e ops K f (ag.setIfInBounds i true))) (Bc:al e ds 0 [o'] σ (gF e ops K f (ag.setIfInBounds j true))) (bG:ops.toList.map (·.dst)=ds:=by exact rfl) (hr:Region.ready .any ops ag=[i,j]:=by decide +kernel) (ho:ops[i]?=some o:=by simp only [List.getElem?_toArray,Tau,Tat];exact rfl) (hg:o.guard=none:=by exact rfl) (bZ:ops[j]?=some o':=by simp only [List.getElem?_toArray,Tau,Tat];exact rfl) (fo:o'.guard=none:=by exact rfl):gF e ops K (f+1) ag σ:=by
 refine Zkh (by rw [hr];simp) bG fun k hk=>?_;rw [hr] at hk;have hk:k=i∨k=j:=by simpa using hk
 rcases hk with rfl | rfl
 ·exact ⟨o,ho,hg,hK⟩
 ·exact ⟨o',bZ,fo,Bc⟩
theorem gA3 {f:Nat} {o o' o2:Oper} (i j l:Nat) (hK:al e ds 0 [o] σ (gF e ops K f (ag.setIfInBounds i true))) (Bc:al e ds 0 [o'] σ (gF e ops K f (ag.setIfInBounds j true))) (hK2:al e ds 0 [o2] σ (gF e ops K f (ag.setIfInBounds l true))) (bG:ops.toList.map (·.dst)=ds:=by exact rfl) (hr:Region.ready .any ops ag=[i,j,l]:=by decide +kernel) (ho:ops[i]?=some o:=by simp only [List.getElem?_toArray,Tau,Tat];exact rfl) (hg:o.guard=none:=by exact rfl) (bZ:ops[j]?=some o':=by simp only [List.getElem?_toArray,Tau,Tat];exact rfl) (fo:o'.guard=none:=by exact rfl) (rg:ops[l]?=some o2:=by simp only [List.getElem?_toArray,Tau,Tat];exact rfl) (o7:o2.guard=none:=by exact rfl):gF e ops K (f+1) ag σ:=by
 refine Zkh (by rw [hr];simp) bG fun k hk=>?_;rw [hr] at hk;have hk:k=i∨k=j∨k=l:=by simpa using hk
 rcases hk with rfl | rfl | rfl
 ·exact ⟨o,ho,hg,hK⟩
 ·exact ⟨o',bZ,fo,Bc⟩
 ·exact ⟨o2,rg,o7,hK2⟩
end
theorem m301 {p:Prop} (h:p:=by
 refine (have F:=ae;bT ?_);refine wU 5 ?_;refine m73 ?_;exact m5):p:=h
theorem m290 {p:Prop} (h:p:=by
 ·refine (have F:=ae;bT ?_);refine AZ 2 6 ?_ ?_
  ·refine m73 ?_;exact m5
  ·refine Cx ?_;refine wU 2 ?_;refine (have F:=ae;bT ?_);exact m5):p:=h
theorem m289 {p:Prop} (h:p:=by
 refine (have F:=ae;bT ?_);refine AZ 6 11 ?_ ?_
 ·refine Cx ?_;refine AZ 7 11 ?_ ?_
  ·exact m29
  ·refine (have F:=ae;bT ?_);exact m5
 ·refine m73 ?_;exact m5):p:=h
theorem m281 {p:Prop} (h:p:=by
 refine CL ?_;refine zD 2 4 ?_ ?_
 ·refine yF fun F=>?_;rintro r pm ⟨b,cap,rfl,rfl⟩;refine m7 ?_;refine mg ?_;refine dW 4 ?_;refine CL ?_;exact m28
 ·refine CL ?_;refine dW 2 ?_;refine yF fun F=>?_;rintro r pm ⟨b,cap,rfl,rfl⟩;refine m7 ?_;refine mg ?_;exact m28):p:=h
theorem Cx {X Y:Prop} (b:Y) (h:Bx Y->X:=by
 intro B0
 refine (have F:=aj4 @l1 l4 l5 ae;bT ?_);exact B0.o):X:=h ⟨b⟩
theorem yF {X Y:Prop} (b:Y) (h:Bx Y->X:=by
 intro B0
 have F:=ae;refine bR [] [1001] (ZeX o.left om) ?_;exact B0.o F):X:=h ⟨b⟩
theorem CL {X Y:Prop} (b:Y) (h:Bx Y->X:=by
 intro B0
 refine (have F:=(aj4 @l1 l2 l3 ae);bT ?_);exact B0.o):X:=h ⟨b⟩
theorem m73 {X Y:Prop} (b:Y) (h:Bx Y->X:=by
 intro B0
 refine (have F:=ae;bT ?_);refine wU 6 ?_;refine (have F:=aj4 @l1 l4 l5 ae;bT ?_);exact B0.o):X:=h ⟨b⟩
theorem m29 {p:Prop} (h:p:=by
 refine gS 55 fun b2 dB=>?_;refine gD 55 [55] [] ?_;refine (have F:=ae;gC cB ?_);refine mg ?_;refine e8 8 ?_;refine gFx 9 ?_;refine gFx 10 ?_;refine wU 11 ?_;refine (have F:=ae;bT ?_);refine wU 12 ?_;refine (have F:=ae;bT ?_);refine wU 13 ?_;refine (have F:=ae;bT ?_);refine zB ?_;refine (have F:=ae;qm ?_);exact (have F:=ae;⟨(),trivial,gw,gw⟩)):p:=h
theorem m28 {p:Prop} (h:p:=by
 refine dW 5 ?_;refine (have F:=(aj4 @l1 l2 l3 ae);bT ?_);refine dW 6 ?_;refine gS 47 fun b2 dB=>?_;refine (have F:=(aj4 @l1 l2 l3 ae);bT ?_);refine (have F:=ae;qm ?_);exact (have F:=ae;⟨(b2,dB),trivial,gw,gw⟩)):p:=h
theorem m5 {p:Prop} (h:p:=by
 refine wU 7 ?_;refine gS 55 fun b2 dB=>?_;refine gD 55 [55] [] ?_;refine (have F:=ae;gC cB ?_);refine mg ?_;refine e8 8 ?_;refine gFx 9 ?_;refine gFx 10 ?_;refine wU 12 ?_;refine (have F:=ae;bT ?_);refine wU 13 ?_;refine (have F:=ae;bT ?_);refine zB ?_;refine (have F:=ae;qm ?_);exact (have F:=ae;⟨(),trivial,gw,gw⟩)):p:=h
theorem ZoT (hg:SgnOk g) (h0:0<=op) (ho:g.ops[op.toNat]?=some o) (xs:List Tm) (ha:∀ a∈xs,TermOk g a) (hl:xs.length<=1000):az e0 162 [.one (.ptr (dJ g mc)),.one (.lit (.int .i64 op)),.one (.sl (aq xs))] [.agg (an ((mO g op xs).getD ck)),.one (.lit (.bool (mO g op xs).isSome))]:=by
 obtain ⟨d,hd,_⟩:=hg.first ho;rw [Zot ho hd];exact ZqC hg h0 ho hd xs ha hl
theorem ZmP (hg:SgnOk g) (hu:TermOk g u):∀ (ps:List Int) {t:Tm},TermOk g t->(di t ps).2=true->ps.length<=1048576->az e0 189 [.one (.ptr (dJ g mc)),.agg (an t),.one (.sl (ps.map d7)),.agg (an u)] [.agg (an ((kK g t ps u).getD ck)),.one (.lit (.bool (kK g t ps u).isSome))]:=by
 intro ps
 induction ps with
 | nil =>
  intro t ht hs hl;have hz:=oc;have e:kK g t [] u=some u:=rfl;rw [e];rw [List.map_nil];refine gI (ts:=[.cell 8 53,.slot 9]) 8589975471 Tryz.func189 ?_;exact m168
 | cons p ps ih =>
  intro t ht hs hl;refine m111 fun hz mY a t8 iA hm o d hA ca au hc e=>?_
  have aj:=fun x=>Zlx hg ps (x:=x) (ht.arg hm) hu;rw [e];clear ih hs iA e;generalize hr:kK g a ps u=r at hc aj ⊢;have l0:((p::ps).map d7).length=ps.length+1:=by simp
  have l1:((((p::ps).map d7).length:Int)=0)=False:=eq_false (by rw [l0];omega);have l2:((p::ps).map d7)[0]?=some [.lit (.int .i64 p)]:=rfl;have l3:ZaB 1 ((p::ps).map d7)=true:=Zk0 _;have l4:((p::ps).map d7).drop 1=ps.map d7:=rfl;refine m174 fun l5 l6=>?_;generalize (p::ps).map d7=rows at l0 l1 l2 l3 l4 l5 l6 ⊢
  have l7:((rows.length:Int)<=(rows.length:Int))=True:=eq_true (Int.le_refl _);have l8:(0 < rows.length)=True:=eq_true om;have t0:Int.toNat 0=0:=rfl;have t1:Int.toNat 1=1:=rfl;refine gI (ts:=[.cell 8 53,.slot 9]) 8589975471 Tryz.func189 ?_;refine m218 ?_
  cases r with
  | none =>
   exact bK @ae (ai @hz @ae)
  | some x =>
   have hx:=aj x rfl;simp only [Option.getD_some,Option.isSome_some,Option.bind_some];refine fR @ae ?_;refine nJ 6 @ae ?_;have F:=@ae;refine bR [] [1001] (ZeX t.args om) ?_;rintro r pm ⟨b,cap,rfl,rfl⟩;refine m7 ?_;refine fR @ae ?_;refine wz ?_;refine gB ?_;refine fR (aj11 @mY @l2 @l3 @l8 @t0 @au @t8 @bf @df @bD @ae) ?_;have cB:=ZoT (mc:=mc) hg hA.lo hA.at' (t.args.set p.toNat x) (ZpD (fun b hb=>ht.arg hb) hx) (by rw [Taz];omega)
   have cb:t.args.length=(aq (t.args.set p.toNat x)).length:=by rw [bf,Taz]
   generalize t.args.set p.toNat x=S at cB cb ⊢;rw [cb];refine pD 1001 [12] [] ?_;refine bz 8 @ae @ae (cB) ?_;exact bK @ae @ae
theorem Zu2 (hg:SgnOk g) (ht:aK t) (hb:ab (an t)<=1048576) (hu:TermOk g u) {o:Occ} (co:o.path.length<=1048576) (jD:o.left.length<=1048576) (eO:o.right.length<=1048576):az e0 111 [.one (.ptr (dJ g mc)),.agg (an t),.agg (f8 o),.agg (an u)] [.agg (an ((oI g t o u).getD ck)),.one (.lit (.bool (oI g t o u).isSome))]:=by
 have hz:=oc;have cT:=ZqT (mc:=mc) hg ht hb co jD eO;generalize hk:(if d4 g t=true then ev g t o else (ck,false))=k at cT;obtain ⟨kt,kb⟩:=k;rw [f8.eq_1] at cT ⊢;refine gI (ts:=[.cell 8 53,.slot 9]) 1152921521820392431 Tryz.func111 ?_;refine bU @ae @ae (cT) ?_
 cases kb with
 | false =>
  have e:oI g t o u=none:=by
   unfold oI;rw [if_neg];rintro ⟨_,h2,_,h4⟩;rw [if_pos (wf h2)] at hk;rw [hk] at h4;cases h4
  rw [e];exact bK @ae (ai @hz @ae)
 | true =>
 have hT:TermOk g t:=Classical.byContradiction fun h=>by
  rw [y7 h] at hk;simp at hk
 rw [if_pos (wf hT)] at hk;have ec:(ev g t o).2=true:=by rw [hk]
 have fW:=Zyp ec;have hs:=Zkg o.path t hT fW;have e:oI g t o u=if o.left.length+o.right.length=0 then kK g t o.path u else (mO g (di t o.path).1.op (o.left++[u]++o.right)).bind fun c=>kK g t o.path c:=by
  unfold oI;rw [if_pos ⟨hg,hT,hu,ec⟩]
 rw [e];clear e hk cT;have kg:IntKind.i64.wrap ((o.left.length:Int)+(o.right.length:Int))=(o.left.length:Int)+(o.right.length:Int):=IntWalk.i64_in _ om;refine fR @ae ?_;by_cases hn:o.left.length+o.right.length=0
 ·rw [if_pos hn];refine bz 11 (aj3 (eq_false om:(0 < (o.left.length:Int)+(o.right.length:Int))=False) @kg @ae) @ae ((ZmP (mc:=mc) hg hu o.path hT fW co)) ?_;exact bK @ae @ae
 rw [if_neg hn];have z0:(0 < (o.left.length:Int)+(o.right.length:Int))=True:=eq_true om;obtain ⟨x,d,hA,dL,ct,hL,hR⟩:=Zly hT ec hn;have ca:=ZgK hs;have cS:=ZqR (ZoN t o.path co hb);generalize hq:di t o.path=q at cS hs hA ca ct ⊢;obtain ⟨p,pb⟩:=q;simp only at cS hs hA ca ct ⊢;have aD:∀ a∈o.left++[u]++o.right,TermOk g a:=fun a ha=>by
  exact m93
 have cB:=ZoT (mc:=mc) hg hA.lo hA.at' (o.left++[u]++o.right) aD (by simp only [Tae,Tag,Tak];omega);have aj:=fun c=>Zld hg (t:=c) hA.lo aD;generalize hm:mO g p.op (o.left++[u]++o.right)=m at cB aj ⊢;refine bw 5 (aj3 @z0 @kg @ae) @ae (cS) @ae ?_;refine fN 6 @ae ?_;have l1:∀ l:List Tm,ZaB 4 (aq l)=true:=fun l=>oP l;have l2:(o.left.length+1<=ak)=True:=eq_true (by unfold ak;omega)
 have l3:aq o.left++[an u]=aq (o.left++[u]):=by rw [pf,wb]
 have l4:((o.left++[u]).length+o.right.length<=ak)=True:=eq_true (by rw [Tae,Tag,Tak];unfold ak;omega);have l5:aq (o.left++[u])++aq o.right=aq (o.left++[u]++o.right):=(pf _ _).symm;generalize o.left++[u]++o.right=L2 at l5 cB;generalize o.left++[u]=L1 at l3 l4 l5;refine gM (ι:=Option Addr × Nat) [14] [47] (fun z=>[(14,.d (.one (.lit (.slice z.1 L1.length z.2))))]) (fun z=>[(47,.buf (some (z.1,z.2)) 53 4 (aq L1))]) (fun z=>True) ?_ (fun z hz=>Exists.intro _ (ai (Wk.refl _) ?_))
 ·refine A3 ?_;refine gFa 0 ?_;refine zB ?_;refine zD 1 3 ?_ ?_
  ·refine CL ?_;refine zD 2 3 ?_ ?_
   ·refine yF fun F=>?_;rintro r pm ⟨b,cap,rfl,rfl⟩;refine m7 ?_;refine mg ?_;refine dW 3 ?_;have bF:=aj4 @l1 l2 l3 ae;refine (have F:=bF;bT ?_);refine dW 4 ?_;refine (have F:=bF;bT ?_);refine dW 5 ?_;refine (have F:=bF;bT ?_);refine dW 6 ?_;refine gS 47 fun b2 dB=>?_;refine (have F:=bF;bT ?_)
    refine (have F:=ae;qm ?_);exact (have F:=ae;⟨(b2,dB),trivial,gw,gw⟩)
   ·exact m281
  ·refine CL ?_;refine zD 1 4 ?_ ?_
   ·exact m281
   ·refine CL ?_;refine dW 1 ?_;refine CL ?_;refine dW 2 ?_;refine yF fun F=>?_;rintro r pm ⟨b,cap,rfl,rfl⟩;refine m7 ?_;refine mg ?_;exact m28
 obtain ⟨b1,cap1⟩:=z;dsimp only;refine wz ?_;refine gM (ι:=Unit) [14,15,16] [15,47] (fun z=>[(15,.ref 15 0),(16,A.d (.one (.lit (.bool m.isSome))))]) (fun z=>[(15,.var none (an (m.getD ck)))]) (fun z=>True) ?_ (fun z hz=>Exists.intro _ (ai (Wk.refl _) ?_))
 ·refine A3 ?_;refine e8 0 ?_;refine gFa 1 ?_;refine e8 3 ?_;refine gFa 4 ?_;refine gA3 2 5 11 ?_ ?_ ?_
  ·refine (have F:=ae;bT ?_);refine AZ 5 11 ?_ ?_
   ·exact m289
   ·exact m301
  ·refine (have F:=ae;bT ?_);refine gA3 2 6 11 ?_ ?_ ?_
   ·exact m289
   ·refine Cx ?_;refine AZ 2 11 ?_ ?_
    ·refine (have F:=ae;bT ?_);refine AZ 7 11 ?_ ?_
     ·exact m29
     ·refine (have F:=ae;bT ?_);exact m5
    ·refine (have F:=ae;bT ?_);refine wU 2 ?_;refine (have F:=ae;bT ?_);exact m5
   exact m290
  ·refine (have F:=ae;bT ?_);refine AZ 2 5 ?_ ?_
   ·exact m301
   exact m290
 cases m with
 | none =>
  exact fD (ai @hz @ae)
 | some c =>
  simp only [Option.getD_some,Option.isSome_some,Option.bind_some];refine bz 11 @ae @ae ((ZmP (mc:=mc) hg (aj c rfl) o.path hT fW co)) ?_;exact bK @ae @ae
theorem yA {X Y:Prop} (b:Y) (h:Bx Y->X:=by
 intro B0
 refine gI (ts:=[.cell 8 53,.slot 9]) 550024253439 Tryz.func100 ?_;refine bU @ae @ae (cT) ?_;exact B0.o):X:=h ⟨b⟩
theorem Zki {o:Occ} (h:ab (f8 o)<=1048576):o.path.length<=1048576∧eJ o.left∧eJ o.right:=by
 simp only [f8,ab,dN,bf,Tay] at h;unfold eJ;omega
theorem Zyu (aj:jk g) (ht:aK t) (hb:ab (an t)<=1048576) {o:Occ} (ho:Zn6 o) (va:ab (f8 o)<=1048576):az e0 96 [.agg (bN g),.agg (an t),.agg (f8 o)] [.agg (an (mE g t o).1),.one (.lit (.bool (mE g t o).2))]:=by
 obtain ⟨h1,h2,h3⟩:=Zki va;have js:=h2;unfold eJ at js h3;exact Zro aj ht hb h1 om om ho.2.1 ho.2.2.1 h2
section
variable {g:Sgn}
noncomputable def pt6 (g:Sgn) (t:Tm) (o:Occ) (u:Tm):Tm:=if o.left.length+o.right.length=0 then xn g t o.path u else match mO g (di t o.path).1.op (o.left++[u]++o.right) with
 | none=>ck
 | some c=>xn g t o.path c
noncomputable def CP (g:Sgn) (t:Tm) (o:Occ) (u:Tm):Option Tm:=if o.left.length+o.right.length=0 then kK g t o.path u else (mO g (di t o.path).1.op (o.left++[u]++o.right)).bind fun c=>kK g t o.path c
theorem ZHy {x:Tm} {o:Occ} (h:CP g t o u=some x):pt6 g t o u=x:=by
 unfold CP at h;unfold pt6;split at h
 ·rename_i hn;rw [if_pos hn];exact ZtD _ h
 ·rename_i hn;rw [if_neg hn]
  cases hm:mO g (di t o.path).1.op (o.left++[u]++o.right) with
  | none=>rw [hm] at h;cases h
  | some c =>
   rw [hm] at h;exact ZtD _ h
theorem Zyv (bW:jk g) (hg:SgnOk g) (hT:TermOk g t) (hb:ab (an t)<=1048576) (hu:TermOk g u) {o:Occ} (hf:(ev g t o).2=true) (co:o.path.length<=1048576) (jD:o.left.length<=1048576) (eO:o.right.length<=1048576):az e0 173 [.agg (bN g),.agg (an t),.agg (f8 o),.agg (an u)] [.agg (an (pt6 g t o u)),.one (.lit (.bool (CP g t o u).isSome))]:=by
 have hz:=oc;have fW:=Zyp hf;have c2:=Zlt t o.path co hb;have hs:=Zkg o.path t hT fW;unfold pt6 CP;by_cases hn:o.left.length+o.right.length=0
 ·rw [if_pos hn,if_pos hn];have cA:=fun op=>Zu0 (g:=g) (op:=op) (u:=u) hn;have cR:=ZjB bW hg hu o.path hT fW co;rw [f8.eq_1] at cA ⊢;rw [dR] at cR cA ⊢;rw [fW] at c2;refine gI (ts:=[.cell 8 53,.slot 9]) 2147497983 Tryz.func173 ?_;refine bp @ae @ae (c2) @ae ?_;refine bw 2 @ae @ae (cA _) @ae ?_;refine bz 5 @ae @ae (cR) ?_
  exact bK @ae @ae
 rw [if_neg hn,if_neg hn];obtain ⟨x,d,hA,dL,ct,hL,hR⟩:=Zly hT hf hn;have ca:=ZgK hs;have aD:∀ a∈o.left++[u]++o.right,TermOk g a:=fun a ha=>by
  exact m93
 have cM:=ZmO bW hg hA.lo hA.at' (o.left++[u]++o.right) aD (by simp only [Tae,Tag,Tak];omega);have aj:=fun c=>Zld hg (t:=c) hA.lo aD;have vn:=fun c=>Zxn (g:=g) (op:=(di t o.path).1.op) (xs:=o.left++[u]++o.right) (t:=c);have cA:=Zys (g:=g) (op:=(di t o.path).1.op) (o:=o) (u:=u) hn jD eO cM;clear cM;generalize pY g (di t o.path).1.op (o.left++[u]++o.right)=q at cA vn;generalize mO g (di t o.path).1.op (o.left++[u]++o.right)=m at cA aj vn ⊢
 rw [f8.eq_1] at cA ⊢;rw [dR] at cA ⊢;rw [fW] at c2;generalize (di t o.path).1=p at c2 cA;refine gI (ts:=[.cell 8 53,.slot 9]) 2147497983 Tryz.func173 ?_;refine bp @ae @ae (c2) @ae ?_;refine bz 2 @ae @ae (cA) ?_
 cases m with
 | none =>
  exact bK @ae (ai @hz @ae)
 | some c =>
  have hq:=vn c rfl;subst hq;have cR:=ZjB bW hg (aj q rfl) o.path hT fW co;rw [dR] at cR;simp only [Option.isSome_some,Option.bind_some];refine fR @ae ?_;refine bz 5 @ae @ae (cR) ?_;exact bK @ae @ae
theorem ZoU {o:Occ} (h:¬ (SgnOk g∧TermOk g t∧TermOk g u∧(ev g t o).2=true)):oI g t o u=none:=by unfold oI;rw [if_neg h]
theorem ZGQ {o:Occ} (h:SgnOk g∧TermOk g t∧TermOk g u∧(ev g t o).2=true):oI g t o u=CP g t o u:=by unfold oI CP;rw [if_pos h]
theorem ZEi {x:Tm} {o:Occ} (h:oI g t o u=some x):ab (an x)<=1048576:=by
 have h1:=ZCK h;have h2:=ZiQ h1.form;have h3:=h1.size;omega
theorem Zyw (aj:jk g) (ht:aK t) (hb:ab (an t)<=1048576) (hu:aK u) (hbu:ab (an u)<=1048576) {o:Occ} (ho:Zn6 o) (va:ab (f8 o)<=1048576):az e0 100 [.agg (bN g),.agg (an t),.agg (f8 o),.agg (an u)] [.agg (an ((oI g t o u).getD ck)),.one (.lit (.bool (oI g t o u).isSome))]:=by
 obtain ⟨co,h2,h3⟩:=Zki va;have js:=h2;unfold eJ at js h3;have cT:=yV aj ht (qe hb);have cU:=yV aj hu (qe hbu);have hz:=oc;by_cases hg:SgnOk g;rotate_left
 ·have h1:(fA g && d4 g t)=false:=by rw [C6 hg,Bool.false_and]
  rw [ZoU fun h=>hg h.1];rw [f8.eq_1,dR];rw [dR] at cT;refine yA ?_;exact Cu
 rw [v8 hg,Bool.true_and] at cT cU;by_cases hT:TermOk g t;rotate_left
 ·rw [ZoU fun h=>hT h.2.1];rw [y7 hT] at cT;rw [f8.eq_1,dR];rw [dR] at cT;refine yA ?_;exact bK @ae (ai @ae @hz)
 rw [wf hT] at cT;by_cases hU:TermOk g u;rotate_left
 ·rw [ZoU fun h=>hU h.2.2.1];rw [y7 hU] at cU;rw [f8.eq_1,dR];rw [dR] at cT cU;refine yA ?_;refine fC @ae (cU) ?_;exact bK @ae (ai @ae @hz)
 rw [wf hU] at cU;have cF:=ZmN hg hT ht hb co om om ho.2.1 ho.2.2.1 h2;have cP:=fun hf=>Zyv aj hg hT hb hU (o:=o) hf co om om;have D2:=fun hf=>ZGQ (g:=g) (t:=t) (u:=u) (o:=o) ⟨hg,hT,hU,hf⟩;have D1:=fun hf:¬ _=>ZoU (g:=g) (t:=t) (u:=u) (o:=o) fun h=>hf h.2.2.2;have db:=fun x=>ZEi (g:=g) (t:=t) (u:=u) (o:=o) (x:=x);have vn:=fun x=>ZHy (g:=g) (t:=t) (u:=u) (o:=o) (x:=x);rw [f8.eq_1] at cF cP ⊢;rw [dR] at cT cU cF cP ⊢
 generalize (ev g t o).2=f at cF cP D2 D1;generalize pt6 g t o u=q at cP vn;generalize CP g t o u=m at cP D2 vn;generalize oI g t o u=r at D2 D1 db ⊢;refine yA ?_;refine fC @ae (cU) ?_;refine fC @ae (cF) ?_
 cases f with
 | false =>
  rw [D1 (by simp)];exact bK @ae (ai @ae @hz)
 | true =>
 have cP:=cP rfl;have D2:=D2 rfl;subst D2;clear D1;refine fR @ae ?_;refine bz 3 @ae @ae (cP) ?_
 cases r with
 | none =>
  exact bK @ae (ai @ae @hz)
 | some x =>
  have hq:=vn x rfl;subst hq;refine fR @ae ?_;refine bz 6 @ae @ae (zf q (db q rfl)) ?_;exact bK @ae @ae
end
theorem Zen {r:List C} (h:aV (Zab .cond) r):∃ (i0:Int) (t1:ByteArray) (i2:Int) (r3:List (List C)) (i4:Int) (t5:ByteArray) (i6:Int) (r7:List (List C)),r=[.lit (.int .i64 i0),.lit (.string t1),.lit (.int .i64 i2),.sl r3,.lit (.int .i64 i4),.lit (.string t5),.lit (.int .i64 i6),.sl r7]∧eP i0∧t1.size<=maxLen∧eP i2∧aO (Zab .term) r3∧eP i4∧t5.size<=maxLen∧eP i6∧aO (Zab .term) r7:=by
 exact m297
theorem ZeI {r:List C} (h:aV (Zab .eqn) r):∃ (i0:Int) (t1:ByteArray) (i2:Int) (r3:List (List C)) (i4:Int) (t5:ByteArray) (i6:Int) (r7:List (List C)) (r8:List (List C)),r=[.lit (.int .i64 i0),.lit (.string t1),.lit (.int .i64 i2),.sl r3,.lit (.int .i64 i4),.lit (.string t5),.lit (.int .i64 i6),.sl r7,.sl r8]∧eP i0∧t1.size<=maxLen∧eP i2∧aO (Zab .term) r3∧eP i4∧t5.size<=maxLen∧eP i6∧aO (Zab .term) r7∧aO (Zab .cond) r8:=by
 exact m296
theorem Zfy {r:List C} (h:aV (tv) r):∃ (r0:List (List C)) (r1:List (List C)) (r2:List (List C)) (r3:List (List C)) (r4:List (List C)),r=[.sl r0,.sl r1,.sl r2,.sl r3,.sl r4]∧aO (Zab .str) r0∧aO (Zab .sub) r1∧aO (Zab .op) r2∧aO (Zab .eqn) r3∧aO (Zab .eqn) r4:=by
 obtain ⟨c0,c1,c2,c3,c4,rfl⟩:=yy h.len;refine vN fun h=>?_;obtain ⟨h0,h1,h2,h3,h4⟩:=h;obtain ⟨r0,rfl,g0⟩:=kl h0;obtain ⟨r1,rfl,g1⟩:=kl h1;obtain ⟨r2,rfl,g2⟩:=kl h2;obtain ⟨r3,rfl,g3⟩:=kl h3;obtain ⟨r4,rfl,g4⟩:=kl h4;exact ⟨r0,r1,r2,r3,r4,rfl,g0,g1,g2,g3,g4⟩
theorem m237 {p:Prop} (h:p:=by
 rcases Tbg.1 h with rfl | h
 ·exact ⟨_,_,rfl⟩
 ·exact Zkq h):p:=h
inductive Seg
 | lits (us:List Value)
 | sl (E:Nat->Prop) (rows:List (List C)) (u:Value)
 | st (E:Nat->Prop) (cs:List C) (us:List Value)
def mD:List Seg->List Bk
 | []=>[]
 | .lits _::r=>mD r
 | .sl E rows u::r=>.set E (fun w=>aU w (.sl rows) E u)::mD r
 | .st E cs us::r=>.set E (fun w=>aT w cs E us)::mD r
def vW:List Seg->List C
 | []=>[]
 | .lits us::r=>aM us++vW r
 | .sl _ rows _::r=>.sl rows::vW r
 | .st _ cs _::r=>cs++vW r
def vX:List Seg->List Value
 | []=>[]
 | .lits us::r=>us++vX r
 | .sl _ _ u::r=>u::vX r
 | .st _ _ us::r=>us++vX r
theorem aT.app {w:World} {S S1 S2:Nat->Prop} {ds:List C} {vs:List Value} (h2:aT w ds S2 vs) (i2:∀ x,S2 x->S x):∀ {cs:List C} {us:List Value} {S1:Nat->Prop},aT w cs S1 us->(∀ x,S1 x->S x)->(∀ x,S1 x->S2 x->False)->aT w (cs++ds) S (us++vs)
 | [],[],_,_,_,_=>aT.keep (Tai _) ds S2 S vs (fun _ _=>rfl) i2 h2
 | c::cs,u::us,T,h,i1,hd=>by
  simp only [aT] at h;obtain ⟨T1,T2,a1,a2,a3,a4,a5⟩:=h;have h3:aT w (cs++ds) (fun x=>T2 x∨S2 x) (us++vs):=aT.app (S:=fun x=>T2 x∨S2 x) (S1:=T2) h2 (fun _ h=>.inr h) a5 (fun _ h=>.inl h) fun x hx=>hd x (a2 x hx);exact aT.cons T1 (fun x=>T2 x∨S2 x) a4 h3 (fun x hx=>i1 x (a1 x hx)) (fun x hx=>hx.elim (fun q=>i1 x (a2 x q)) (i2 x)) fun x hx hy=>hy.elim (a3 x hx) (hd x (a1 x hx))
 | [],_::_,_,h,_,_=>by simp [aT] at h
 | _::_,[],_,h,_,_=>by simp [aT] at h
theorem aT.lits {w:World}:∀ {us:List Value},aT w (aM us) (fun _=>False) us
 | []=>aT.nil
 | u::us=>aT.lit aT.lits
theorem Zkp {w:World} {S:Nat->Prop}:∀ {ss:List Seg},(∀ x∈mD ss,mQ w S x)->mT (mD ss)->aT w (vW ss) (dV (mD ss)) (vX ss)
 | [],_,_=>aT.nil
 | .lits us::r,h,ha=>aT.app (S1:=fun _=>False) (Zkp (ss:=r) h ha) (fun _ q=>q) aT.lits (fun _ q=>q.elim) fun _ q=>q.elim
 | .sl E rows u::r,h,⟨a1,a2⟩=>aT.cons E (dV (mD r)) (h _ Tas).2.1 (Zkp (fun x hx=>h x (Tal _ hx)) a2) (fun b q=>⟨_,Tas,q⟩) (fun b ⟨x,hx,q⟩=>⟨x,Tal _ hx,q⟩) fun b q ⟨x,hx,q2⟩=>a1 x hx b q q2
 | .st E cs us::r,h,⟨a1,a2⟩=>aT.app (S1:=E) (Zkp (fun x hx=>h x (Tal _ hx)) a2) (fun b ⟨x,hx,q⟩=>⟨x,Tal _ hx,q⟩) (h _ Tas).2.1 (fun b q=>⟨_,Tas,q⟩) fun b q ⟨x,hx,q2⟩=>a1 x hx b q q2
theorem Zkq:∀ {ss:List Seg} {y:Bk},y∈mD ss->∃ E G,y=.set E G
 | .lits _::r,y,h=>Zkq (ss:=r) h
 | .sl _ _ _::r,y,h=>by
  exact m237
 | .st _ _ _::r,y,h=>by
  exact m237
 | [],_,h=>by cases h
theorem uy (ss:List Seg):eS (mD ss) [.set (dV (mD ss)) (fun w=>aT w (vW ss) (dV (mD ss)) (vX ss))]:=fun w S h ha=>by
 have hv:=Zkp (w:=w) (S:=S) h ha;refine ⟨fun x hx=>?_,wK _,fun g ⟨x,hx,hg⟩=>?_⟩
 ·refine xm fun hx=>?_;subst hx;refine ⟨fun b ⟨y,hy,hg⟩=>?_,hv,aT.stable _ _ _⟩;obtain ⟨E',G',rfl⟩:=Zkq hy;exact (h _ hy).1 b hg
 ·refine xm fun hx=>?_;subst hx;exact hg
theorem xD {α:Type} (A:List α) (z x:α) (k:Nat) (i:Nat) (hi:i=A.length):(A++List.replicate (k+1) z).set i x=(A++[x])++List.replicate k z:=by
 subst hi;rw [List.set_append_right _ _ (Tai _),Nat.sub_self,List.replicate_succ,List.set_cons_zero,Tbf];rfl
theorem zZ {α:Type} {l:List α} {i:Nat} {x:α} (h:l[i]?=some x):l.take (i+1)=l.take i++[x]:=by simp [List.take_add_one,h]
theorem tk0 (l:List (List C)):l.take 0=[]:=rfl
theorem nla (l:List (List C)):[]++l=l:=rfl
theorem ZFZ (u:Value):aM [u]=[.lit u]:=rfl
theorem Zcn {e:Env} {post:List D} (hb:ny e.P f=true) (h:rows.length<=maxLen->az e f (.one (.sl rows)::post) r):az e f (.one (.sl rows)::post) r:=⟨hb,fun w S vs hS hE hG hv=>by
 match vs,hv with
 | v::vs,⟨h1,h2⟩ =>
  have d5:aQ w S (.sl rows) v:=h1;obtain ⟨A,n,cap,rfl,hn,hc,hm⟩:=d5.form;exact (h om).2 w S _ hS hE hG ⟨h1,h2⟩⟩
theorem Zew:ah []=0:=by simp [ah]
def ZrX:F->Bool
 | .int=>true
 | .bool=>true
 | _=>false
theorem ZHI {fs:List F}:∀ {r:List C},fs.all ZrX=true->aV fs r->ab r=0:=by
 induction fs with
 | nil=>intro r _ h;cases r with
  | nil=>simp [ab]
  | cons _ _=>simp [aV] at h
 | cons f fs ih =>
  intro r hf h
  cases r with
  | nil=>simp [aV] at h
  | cons c cs =>
   simp only [aV] at h;simp only [List.all_cons,Tar] at hf;have h2:=ih hf.2 h.2
   cases f with
   | int=>obtain ⟨n,rfl,_⟩:=pe h.1;simp [ab,dN,h2]
   | bool=>obtain ⟨n,rfl⟩:=ZmW h.1;simp [ab,dN,h2]
   | str=>simp [ZrX] at hf
   | sl t=>simp [ZrX] at hf
theorem ZyI {fs:List F} (hf:fs.all ZrX=true):∀ {rows:List (List C)},aO fs rows->ah rows=0
 | [],_=>Zew
 | r::rs,h=>by
  simp only [aO] at h;simp [ah,ZHI hf h.1,ZyI hf h.2]
section
variable {e:Env} {K:St->Prop} {ay:Nat} {Q:PX->St->Prop} {s:List (Nat × A)} {m:List (Nat × Bk)}
def naB (l:List Oper) (n:Nat):Bool:=match (l.take n).getLast? with
 | some o=>!jb o
 | none=>true
theorem Zvd {l:List Oper} {n:Nat} (hN:naB l n=true) (hB:fI l.toArray n=true) (hp:al e (l.map (·.dst)) n l σ K):gF e l.toArray K l.length (Array.replicate l.length false) σ:=by
 intro he U w0 S0 nt a w hd hs;have:=ZiS (ops:=l.toArray) he hB (fun o ho=>by
  unfold naB at hN;have bZ:(l.take n).getLast?=some o:=by simpa using ho
  rw [bZ] at hN;simpa using hN) (K:=K) (Q:=QN e U w0 S0 nt K) (fun a w σ' hK iA=>⟨rfl,σ',hK,iA⟩) hd hs (by simpa using hp)
 simpa using this
theorem gLu {l l':List Oper} (n i k:Nat) (hK:al e ds n l' ⟨s,m⟩ (nB ay Q)) (hl:c9 i k l=l':=by simp only [c9];exact rfl) (bG:l'.map (·.dst)=ds:=by simp only [Tbu,List.map_nil];exact rfl)
  (hc:ZoA l.toArray i k=true:=by decide +kernel) (hA:naB l' n=true:=by decide +kernel) (hr:fI l'.toArray n=true:=by decide +kernel):cp e ay (.region id l.toArray true) ⟨s,m⟩ Q:=by
 subst hl bG;have h1:=ZoB hc (by have:=Zvd hA hr hK;rwa [Zj8] at this);exact ZiP (ops:=l.toArray) (by simpa using h1)
end
def tw2 (a:Alg) (i:Nat) (x y:Int):Int:=(a.tables.getD i []).getD (x * a.size+y).toNat 0
def Inz (a:Alg) (x:Int):Prop:=0<=x∧x < a.size
structure Tab2 (a:Alg) (i:Nat):Prop where
 lo:1<=a.size
 hi:a.size<=4
 tab:∃ l,a.tables[i]?=some l∧l.length=a.size.toNat * a.size.toNat∧∀ x∈l,Inz a x
theorem Tab2.get {a:Alg} {i:Nat} (h:Tab2 a i) {x y:Int} (hx:Inz a x) (hy:Inz a y):∃ l,a.tables[i]?=some l∧IntKind.i64.wrap (x * a.size)=x * a.size∧IntKind.i64.wrap (x * a.size+y)=x * a.size+y∧0<=x * a.size+y∧l[(x * a.size+y).toNat]?=some (tw2 a i x y)∧Inz a (tw2 a i x y):=by
 obtain ⟨l,h1,h2,h3⟩:=h.tab;have eD:=h.lo;have lV:=h.hi;obtain ⟨x0,x1⟩:=hx;obtain ⟨y0,y1⟩:=hy;have m0:0<=x * a.size:=Int.mul_nonneg x0 om;have m1:x * a.size+a.size<=a.size * a.size:=by
  have:(x+1) * a.size<=a.size * a.size:=Int.mul_le_mul_of_nonneg_right om om;rw [Int.add_mul] at this;omega
 have m2:a.size * a.size<=16:=by
  have:=Int.mul_le_mul lV lV om om;omega
 have hl:(x * a.size+y).toNat < l.length:=by
  rw [h2];have e:((a.size.toNat * a.size.toNat:Nat):Int)=a.size * a.size:=by rw [Int.natCast_mul,Int.toNat_of_nonneg om]
  omega
 have e1:tw2 a i x y=l[(x * a.size+y).toNat]:=by
  unfold tw2;simp [List.getD_eq_getElem?_getD,h1,Taa hl]
 refine ⟨l,h1,dI rfl om om,dI rfl om om,om,?_,?_⟩
 ·rw [e1];exact Taa hl
 ·rw [e1];exact h3 _ (List.getElem_mem hl)
structure TabN (z:Int) (n:Nat) (ac:Bool) (l:List Int):Prop where
 lo:1<=z
 hi:z<=4
 len:l.length=z.toNat ^ n
 all:∀ x∈l,0<=x∧x < z
 le3:n<=3
 as2:ac=true->n=2
def In0 (z x:Int):Prop:=0<=x∧x < z
theorem ZGU {z:Int} (h:1<=z) (n:Nat):((z.toNat ^ n:Nat):Int)=z ^ n:=by
 rw [Int.natCast_pow,Int.toNat_of_nonneg om]
theorem TabN.get {z:Int} {n:Nat} {ac:Bool} {l:List Int} (h:TabN z n ac l) {k:Int} (h0:0<=k) (h1:k < z ^ n):l[k.toNat]?=some (l.getD k.toNat 0)∧In0 z (l.getD k.toNat 0):=by
 have hl:k.toNat < l.length:=by
  have:=ZGU h.lo n;have e:=h.len;omega
 rw [List.getD_eq_getElem?_getD,Taa hl];exact ⟨rfl,h.all _ (List.getElem_mem hl)⟩
structure Wt where
 const:Int
 coefs:List Int
section
variable {g:Sgn} {ws:List Wt} {vs:List Tm} {t:Tm} {o:Opr} {d:Dcl}
end
section
variable {g:Sgn} {ws:List Wt}
end
section
variable {f g:Tm->Int} {vs:List Tm}
end
section
variable {e:Env} {σ:St} {o:Oper} {K:St->Prop}
theorem ZEm {t:TypeId} {n d:Nat} {parts:Array (Nat × Operand)} (ho:o.op=.buildSlice t n parts) (bG:o.dst=some d) (hb:jc e.P t=some (ety,sz,by')) (hn:parts.size=n∧n * sz<=16777216) (h0n:0 < n) (hp:uG sz 0 (parts.toList.map fun p=>(p.1,aL σ.s p.2))=some rows)
  (hK:K ⟨(d,.buf d)::bM d σ.s,(d,.buf none ety sz rows)::aA d σ.m⟩):iT e o σ K:=by
 intro he U w0 S0 nt a w Q hd ⟨S,L,h1⟩;obtain ⟨i,z,hu,hi,hz,bO,wZ,qy,fg,_⟩:=xy hb;obtain ⟨q1,q2,q3,q4,q5⟩:=Zi0 (w:=w) (S:=S) (L:=L) (vs:=parts.toList.map fun p=>a.eval p.2) hp (by simp) (mapv (fun p hp=>h1.eval p.2));simp only [Tay,Array.length_toList,List.map_map] at q1 q3;generalize dD:(parts.toList.map fun p=>a.eval p.2)=vs at q4 q5;have iP:vs.length=n:=by rw [<- dD];simp [hn.1]
 have rm:(parts.map fun (p:Nat × Operand)=>(p.1,a.eval p.2)).toList=(vs.zipIdx 0).map fun x=>(x.2,x.1):=by
  have:=ZkL (parts.map fun (p:Nat × Operand)=>(p.1,a.eval p.2)).toList 0 (by simpa [Function.comp_def] using q3);rw [this,<- dD];simp [Function.comp_def]
 have lS:(Instr.buildSlice t n (parts.map fun (p:Nat × Operand)=>(p.1,a.eval p.2))).run e.P w=.ok (.slice (some ⟨w.heap.size,0,none⟩) n n) (w.alloc (.cells (vs.flatMap fun v=>v.cells.toList).toArray ety)):=by
  have h0:¬ n * i.size=0:=fun h=>by rw [bO] at h;rcases Nat.mul_eq_zero.1 h with h | h <;> omega
  exact m94
 have bu:(vs.flatMap fun v=>v.cells.toList).length=n * sz:=by rw [q5.len,oL q2,q1,hn.1]
 have jR:∀ j u,(vs.flatMap fun v=>v.cells.toList)[j]?=some u->(w.alloc (.cells (vs.flatMap fun v=>v.cells.toList).toArray ety)).cell? ⟨w.heap.size,0+j,none⟩=some u:=fun j u hj=>by
  rw [Nat.zero_add];exact Zpk rfl (by simpa using hj)
 have vk:=heap_alloc_new w (.cells (vs.flatMap fun v=>v.cells.toList).toArray ety);have oY:Below w.heap.size w (w.alloc (.cells (vs.flatMap fun v=>v.cells.toList).toArray ety)):=wF w _;have hzW:(w.alloc (.cells (vs.flatMap fun v=>v.cells.toList).toArray ety)).heap.size=w.heap.size+1:=by simp
 have iN:(w.alloc (.cells (vs.flatMap fun v=>v.cells.toList).toArray ety)).drawn=w.drawn:=rfl;generalize hW:w.alloc (.cells (vs.flatMap fun v=>v.cells.toList).toArray ety)=W at lS jR oY hzW vk iN;have hC:=h1.cls;have hg:e.G W:=he.keep _ _ oY.size (fun b hE=>oY.block b (Tbd (hC.ein b hE) hC.bsz)) hC.g;have sQ:Kept e.D e.E w.heap.size w W:=Kept.of_below oY (fun _=>by rw [iN];exact Tai _)
 have aJ:(execOp a.eval o).run e.P w=.ok (.value (.slice (some ⟨w.heap.size,0,none⟩) n n)) W:=by
  simp only [execOp,ho,Sem.run_bind];have e1:(parts.map fun x=>match x with | (i,x)=>(i,a.eval x))=parts.map fun (p:Nat × Operand)=>(p.1,a.eval p.2):=rfl;rw [e1,lS];rfl
 have hS:∀ b,S b->b < w.heap.size:=fun b hb=>(hC.sin b hb).1;have hgv:gives e.P o a.eval w fun v w'=>v=.slice (some ⟨w.heap.size,0,none⟩) n n∧w'=W:=by
  unfold gives;rw [aJ];exact ⟨rfl,rfl⟩
 refine xE hgv fun v w' ⟨e1,e2⟩=>⟨_,hK,?_⟩;subst e1 e2;rw [bG];have hq5:aC w' S rows.flatten (vs.flatMap fun v=>v.cells.toList):=aC.keep2 sQ.size (hC.cell sQ) (fun _ h=>h) q5;refine h1.bornE (hd d bG) (τ:=none) (b':=0) (v':=.slice (some ⟨w.heap.size,0,none⟩) n n) (S':=S) (fun _ h=>h) (fun _ h=>.inl h) (fun t=>.inl rfl) (fun k x h=>h) (by simp) (by simp) ⟨sQ.os,sQ.tape,sQ.output,sQ.drawn,sQ.size,fun b hb hE=>sQ.block b hb (fun h=>hE (.inl h))⟩ hg ?_ (fun g hg=>?_) (by simp [ax])
 ·simp only [bL,if_true];refine ⟨by simp,fg,q2,.inr ⟨w.heap.size,n,(vs.flatMap fun v=>v.cells.toList).toArray,by rw [q1,hn.1],h0n,om,fun h=>by have:=hS _ h;omega,vk,om,?_,by simpa using bu,b7.of_flat (bn.of_vals _ _ 0 hq5 jR)⟩⟩;have:n * 1<=n * sz:=Nat.mul_le_mul_left n fg;unfold maxLen;omega
 ·simp only [cQ,if_true,aP] at hg;rw [if_neg om] at hg;injection hg with hg
  subst hg;exact .inr (Tai _)
end
theorem gBs {e:Env} {os:List Oper} {d t n:Nat} {parts:List (Nat × Operand)} {s2:List (Nat × A)} {m2:List (Nat × Bk)} (hK:al e ds 0 os ⟨(d,.buf d)::s2,(d,.buf none ety sz rows)::m2⟩ K)
  (hb:jc e.P t=some (ety,sz,by'):=by exact j5) (hp:uG sz 0 (parts.map fun p=>(p.1,aL s p.2))=some rows:=by exact lL) (hs:bM d s=s2:=by exact cJ) (hr:aA d m=m2:=by exact cJ) (hn:parts.length=n∧n * sz<=16777216:=by decide) (h0n:0 < n:=by decide):al e ds 0 (⟨some d,.buildSlice t n parts.toArray,ty,p,ed,none⟩::os) ⟨s,m⟩ K:=by
 subst hs hr;simp only [al] at hK ⊢;exact ut rfl (ZEm (o:=⟨some d,.buildSlice t n parts.toArray,ty,p,ed,none⟩) rfl rfl hb (by simpa using hn) h0n (by simpa using hp) hK)
end Go.Proofs.YtbecmfjokofihaaGreatDoor
