/-
  Part of a proof: Qma, Qmb, Qmc, Qmd, Tt, Qme, Qf, LString, LSub, LSorts, LInt, LDecl, LOp, LSignature, Enc, Alg0, Qe, Qh, Qg, Dw, Door, LTerm.
-/
import Derived.Test.YtffmjghcpgpfpaaGreatDoorBIsSortDecreasingCard0
import Derived.Test.YtffmjghcpgpfpaaGreatDoorChecked
import Derived.Test.YtffmjghcpgpfpaaGreatDoorRows
import Derived.Deep.QuietTactic
import Derived.BigQuiet
import Derived.Deep.RegionHeld3
import Derived.Lib.LaidTab
import Derived.HandedShaped
import Derived.LaidMore
import Derived.LaidLaws
import Derived.ProofKit
import Derived.Stop.Joined
import Derived.Stop.LaidErr
set_option linter.unusedSimpArgs false
set_option linter.unusedVariables false
set_option maxHeartbeats 400000000
set_option maxRecDepth 100000
namespace Go.Proofs.YtffmjghcpgpfpaaGreatDoor
open Go.RowKit
section
variable {e:Env} {U:Nat->Prop} {w0:World} {S0:Nat->Prop} {nt:Nat} {σ:St} {a:Act} {w:World} {S:Nat->Prop} {L:Lay} {o:Oper}
theorem ZeM {ops:List Oper} {j d:Nat} (h:((ops.map (·.dst))[j]?).join=some d):(ops.toArray[j]?).bind (·.dst)=some d:=by
 simp only [Taz] at h
 simp only [List.getElem?_toArray]
 cases ho:ops[j]? with
 | none=>rw [ho] at h;simp at h
 | some p=>rw [ho] at h;simpa using h
theorem ARel.bool {b:Bool} {v:Value} (h:ARel w S L (.d (.one (.lit (.bool b)))) v):v=.bool b:=by simpa [ARel,DRel,Rep] using h
theorem ZiY {l:Array Value} {d:Nat} {b:Bool} (h:l.getD d undef=.bool b):l[d]?=some (.bool b):=by
 by_cases hd:d < l.size
 ·simp [hd] at h;simp [hd,h]
 ·simp [hd,undef] at h
theorem ZwY (h:Sim e U w0 S0 nt σ a w S L) {ops:List Oper} {j:Nat} {want b:Bool} (hg:o.guard=some (j,want)) (hs:(((ops.map (·.dst))[j]?).join.map (gs σ.s))=some (.d (.one (.lit (.bool b))))):Region.wanted o (yielded ops.toArray a.tmps)=decide (b=want):=by
 simp only [Tau] at hs
 obtain ⟨d,h1,h2⟩:=hs
 have h3:=h.rel d
 rw [h2] at h3
 have h4:=ZiY h3.bool
 have h5:((ops.toArray[j]?).bind (·.dst))=some d:=ZeM h1
 have h6:yielded ops.toArray a.tmps j=some b:=by unfold yielded;rw [h5];simp only [Option.bind_some,h4]
 simp only [Region.wanted,hg,h6]
 cases b <;> cases want <;> rfl
theorem Zvm {l:Array Value} {d:Nat} (h:l.getD d undef=undef):l[d]?=some undef∨l[d]?=none:=by
 by_cases hd:d < l.size
 ·simp [hd] at h;simp [hd,h]
 ·simp [hd]
theorem ZiZ {ops:Array Oper} {tmps:Array Value} {j d:Nat} {want:Bool} (hg:o.guard=some (j,want)) (hs:(ops[j]?).bind (·.dst)=some d) (h:tmps.getD d undef=undef):Region.wanted o (yielded ops tmps)=false:=by
 have h6:yielded ops tmps j=none:=by
  unfold yielded
  rw [hs]
  rcases Zvm h with h1 | h1 <;> simp only [Option.bind_some,h1]
  rfl
 simp only [Region.wanted,hg,h6]
 cases want <;> rfl
def Zeb (e:Env) (ds:List (Option Nat)) (os:List Oper) (σ:St) (K:St->Prop):Prop:=e.Ok->∀ (U:Nat->Prop) (w0:World) (S0:Nat->Prop) (nt:Nat) (a:Act) (w:World) (ops:List Oper) (Q:Exit->Act->World->Prop),ops.map (·.dst)=ds->(∀ o∈os,∀ d,o.dst=some d->d < nt) ->
 (∀ a w σ',K σ'->SimE e U w0 S0 nt σ' a w->Q .normal a w)->SimE e U w0 S0 nt σ a w->wpList e.P ops.toArray Q os a w
def Runs (e:Env) (ds:List (Option Nat)):Nat->List Oper->St->(St->Prop)->Prop
 | 0,os,σ,K=>Zeb e ds os σ K
 | _+1,[],σ,K=>K σ
 | n+1,o::os,σ,K=>match o.guard with
  | none=>if n=0∧isAl o=true then ∃ d t cs,o.dst=some d∧o.op=.alloc t∧ZaC e.P t=some cs∧Zeb e ds os ⟨(d,.ref d 0)::Zau d σ.s,(d,.var none cs)::remM d σ.m⟩ K
   else ZeL e o σ (fun σ'=>Runs e ds n os σ' K)
  | some (j,want)=>match (ds[j]?.join).map (gs σ.s) with
   | some (.d (.one (.lit (.bool b))))=>if b=want then ZeL e o σ (fun σ'=>Runs e ds n os σ' K) else Runs e ds n os ⟨setA σ.s o.dst .no,σ.m⟩ K
   | some .no=>Runs e ds n os ⟨setA σ.s o.dst .no,σ.m⟩ K
   | _=>False
theorem ZwZ {ds:List (Option Nat)} {K:St->Prop} {σ:St} (h:K σ):Zeb e ds [] σ K:=fun he U w0 S0 nt a w ops Q hds hd hQ hs=>hQ a w σ h hs
theorem Zvn {ds:List (Option Nat)} {K:St->Prop} {os:List Oper} {σ:St} {P:St->Prop} (hT:Turn e σ P) (h:∀ σ',P σ'->Zeb e ds os σ' K):Zeb e ds os σ K:=fun he U w0 S0 nt a w ops Q hds hd hQ hs=>by
 obtain ⟨σ',h1,h2⟩:=hT he U w0 S0 nt a w hs
 exact h σ' h1 he U w0 S0 nt a w ops Q hds hd hQ h2
theorem ZcM {ds:List (Option Nat)} {K:St->Prop} {os:List Oper} {σ:St} {o:Oper} (hg:o.guard=none) (h:ZbC e o σ (fun σ'=>Zeb e ds os σ' K)):Zeb e ds (o::os) σ K:=fun he U w0 S0 nt a w ops Q hds hd hQ hs=>by
 unfold wpList
 have hw:Region.wanted o (yielded ops.toArray a.tmps)=true:=by simp [Region.wanted,hg]
 rw [if_pos hw]
 exact .inl (Oper.wp_mono (fun a' w' ⟨σ',hK,hS⟩=>hK he U w0 S0 nt a' w' ops Q hds (fun o' ho'=>hd o' (by simp [ho'])) hQ hS) (h he U w0 S0 nt a w Q (hd o (by simp)) hs))
theorem ZrA {ds:List (Option Nat)} {K:St->Prop} {os:List Oper} {σ:St} {o:Oper} {j:Nat} {want:Bool} (hg:o.guard=some (j,want)) (h:match (ds[j]?.join).map (gs σ.s) with
   | some (.d (.one (.lit (.bool b))))=>if b=want then ZbC e o σ (fun σ'=>Zeb e ds os σ' K) else Zeb e ds os ⟨setA σ.s o.dst .no,σ.m⟩ K
   | some .no=>Zeb e ds os ⟨setA σ.s o.dst .no,σ.m⟩ K
   | _=>False):Zeb e ds (o::os) σ K:=fun he U w0 S0 nt a w ops Q hds hd hQ hs=>by
 unfold wpList
 obtain ⟨S,L,h1⟩:=id hs
 subst hds
 split at h
 ·rename_i b hb
  rw [ZwY h1 hg hb]
  by_cases hbw:b=want
  ·rw [if_pos hbw] at h
   simp only [hbw,decide_true,if_true]
   exact .inl (Oper.wp_mono (fun a' w' ⟨σ',hK,hS⟩=>hK he U w0 S0 nt a' w' ops Q rfl (fun o' ho'=>hd o' (by simp [ho'])) hQ hS) (h he U w0 S0 nt a w Q (hd o (by simp)) hs))
  ·rw [if_neg hbw] at h
   simp only [hbw,decide_false,Tal,if_false]
   exact h he U w0 S0 nt _ _ ops Q rfl (fun o' ho'=>hd o' (by simp [ho'])) hQ ⟨S,L,h1.put (α:=.no) rfl (hd o (by simp))⟩
 ·rename_i hb
  simp only [Tau] at hb
  obtain ⟨d,hb1,hb2⟩:=hb
  have h3:=h1.rel d
  rw [hb2] at h3
  rw [ZiZ (d:=d) hg (ZeM hb1) h3]
  simp only [Tal,if_false]
  exact h he U w0 S0 nt _ _ ops Q rfl (fun o' ho'=>hd o' (by simp [ho'])) hQ ⟨S,L,h1.put (α:=.no) rfl (hd o (by simp))⟩
 ·exact h.elim
theorem ZmJ (he:e.Ok) (ops:List Oper) {K:St->Prop} {Q:Exit->Act->World->Prop} (hQ:∀ a w σ',K σ'->SimE e U w0 S0 nt σ' a w->Q .normal a w) (os:List Oper) (σ:St) (a:Act) (w:World) (hd:∀ o∈os,∀ d,o.dst=some d->d < nt) (h:SimE e U w0 S0 nt σ a w) (hp:Runs e (ops.map (·.dst)) 0 os σ K):wpList e.P ops.toArray Q os a w:=by
 have hp:Zeb e (ops.map (·.dst)) os σ K:=by simpa only [Runs] using hp
 exact hp he U w0 S0 nt a w ops Q rfl hd hQ h
end
section
variable {e:Env} {U:Nat->Prop} {w0:World} {S0:Nat->Prop} {nt:Nat} {ops:Array Oper} {n:Nat}
structure HeadAt (ops:Array Oper) (n i:Nat) (o:Oper) (d:Nat):Prop where
 op:ops[i]?=some o
 dst:o.dst=some d
 back:∀ e∈o.after,Region.binds .any e=true->e.on < i
 guard:∀ j want,o.guard=some (j,want)->j < n∧Region.waitsFor .any ops i j=true
 dep:∀ (j:Nat) (p:Oper),j < n->ops[j]?=some p->(j≠i->p.dst≠some d)∧(∀ t∈Zcx o,p.dst=some t->Region.waitsFor .any ops i j=true)
theorem Zcr.get (h:Zcr ops n=true) {i:Nat} (hi:i < n):∃ o d,HeadAt ops n i o d:=by
 have h1:=List.all_eq_true.1 h i (List.mem_range.2 hi)
 cases ho:ops[i]? with
 | none=>rw [ho] at h1;simp at h1
 | some o =>
  rw [ho] at h1
  simp only [Taq] at h1
  obtain ⟨⟨⟨h2,h3⟩,h5⟩,h4⟩:=h1
  obtain ⟨d,hd⟩:=Option.isSome_iff_exists.1 h2
  refine ⟨o,d,ho,hd,fun e he hb=>?_,fun j want hg=>?_,fun j p hj hp=>?_⟩
  ·have:=Array.all_eq_true'.1 h3 e he
   simpa [hb] using this
  ·rw [hg] at h5
   simpa using h5
  ·have h5:=List.all_eq_true.1 h4 j (List.mem_range.2 hj)
   rw [hp] at h5
   simp only [Taq,Bool.or_eq_true,beq_iff_eq,bne_iff_ne,ne_eq,Bool.not_eq_true'] at h5
   refine ⟨fun hne hpd=>?_,fun t ht hpt=>?_⟩
   ·rcases h5.1 with h | h
    ·exact hne h
    ·exact h (hpd.trans hd.symm)
   ·rcases h5.2 with h | h
    ·have:=List.any_eq_false.1 h t ht
     simp [hpt] at this
    ·exact h
theorem HeadAt.waits {i:Nat} {o:Oper} {d j:Nat} (h:HeadAt ops n i o d) (hw:Region.waitsFor .any ops i j=true):∃ e∈o.after,Region.binds .any e=true∧e.on=j:=by
 obtain ⟨p3,hp3,e,he,hbe,hon⟩:=Region.waitsFor_spec hw
 rw [h.op] at hp3
 injection hp3 with hp3
 subst hp3
 exact ⟨e,he,hbe,hon⟩
def Zf1 (e:Env) (U:Nat->Prop) (base:Nat) (S0:Nat->Prop) (m:List (Nat × Bk)) (ops:List Oper) (o:Oper) (s:List (Nat × A)) (α:A):Prop :=
 match o.guard with
 | none=>Zbp e U base S0 m o (evA s) α
 | some (j,want)=>(∃ b,((ops.map (·.dst))[j]?).join.map (gs s)=some (.d (.one (.lit (.bool b))))∧if b=want then Zbp e U base S0 m o (evA s) α else α=.no)∨(((ops.map (·.dst))[j]?).join.map (gs s)=some .no∧α=.no)
def Zc5 (e:Env) (U:Nat->Prop) (base:Nat) (S0:Nat->Prop) (m:List (Nat × Bk)) (ops:List Oper):List Oper->List (Nat × A)->List A->Prop
 | [],_,[]=>True
 | o::os,s,α::αs=>Zf1 e U base S0 m ops o s α∧Zc5 e U base S0 m ops os (setA s o.dst α) αs
 | _,_,_=>False
def after:List (Nat × A)->List Oper->List A->List (Nat × A)
 | s,o::os,α::αs=>after (setA s o.dst α) os αs
 | s,_,_=>s
theorem Zec (he:e.Ok) (base:Nat) (S0:Nat->Prop) (l:List Oper) {K:St->Prop} (rest:List Oper) (k:Nat):∀ (os:List Oper) (σ:St),(k=0->∀ o,os.getLast?=some o->isAl o=false)->Runs e (l.map (·.dst)) (os.length+k) (os++rest) σ K ->
  ∃ αs,αs.length=os.length∧Zc5 e U base S0 σ.m l os σ.s αs∧Runs e (l.map (·.dst)) k rest ⟨after σ.s os αs,σ.m⟩ K
 | [],σ,_,h=>⟨[],rfl,trivial,by rw [Taj,Nat.zero_add] at h;exact h⟩
 | o::os,σ,hl,h=>by
  have ih:=fun (σ':St) (h':Runs e (l.map (·.dst)) (os.length+k) (os++rest) σ' K)=>Zec he base S0 l rest k os σ' (fun hk o' ho'=>by
   cases os with
   | nil=>cases ho'
   | cons p ps=>exact hl hk o' (by rw [List.getLast?_cons_cons];exact ho')) h'
  rw [Taf,show os.length+1+k=(os.length+k)+1 by omega] at h
  simp only [Tae,Runs] at h
  cases hg:o.guard with
  | none =>
   rw [hg] at h
   simp only at h
   have hna:¬ (os.length+k=0∧isAl o=true):=fun ⟨h1,h2⟩=>by
    have h3:os=[]:=Tan om
    subst h3
    rw [hl om o rfl] at h2
    cases h2
   rw [if_neg hna] at h
   obtain ⟨α,h1,h2⟩:=h he
   obtain ⟨αs,h3,h4,h5⟩:=ih _ h1
   exact ⟨α::αs,by simp [h3],⟨by unfold Zf1;rw [hg];exact h2 U base S0,h4⟩,h5⟩
  | some jw =>
   obtain ⟨j,want⟩:=jw
   rw [hg] at h
   simp only at h
   split at h
   ·rename_i b hb
    by_cases hbw:b=want
    ·rw [if_pos hbw] at h
     obtain ⟨α,h1,h2⟩:=h he
     obtain ⟨αs,h3,h4,h5⟩:=ih _ h1
     exact ⟨α::αs,by simp [h3],⟨by unfold Zf1;rw [hg];exact .inl ⟨b,hb,by rw [if_pos hbw];exact h2 U base S0⟩,h4⟩,h5⟩
    ·rw [if_neg hbw] at h
     obtain ⟨αs,h3,h4,h5⟩:=ih _ h
     exact ⟨.no::αs,by simp [h3],⟨by unfold Zf1;rw [hg];exact .inl ⟨b,hb,by rw [if_neg hbw]⟩,h4⟩,h5⟩
   ·rename_i hb
    obtain ⟨αs,h3,h4,h5⟩:=ih _ h
    exact ⟨.no::αs,by simp [h3],⟨by unfold Zf1;rw [hg];exact .inr ⟨hb,rfl⟩,h4⟩,h5⟩
   ·exact h.elim
theorem Zc5.get {base:Nat} {m:List (Nat × Bk)} {l:List Oper}:∀ {os:List Oper} {s:List (Nat × A)} {αs:List A},Zc5 e U base S0 m l os s αs->∀ (i:Nat) (o:Oper),os[i]?=some o->∃ α,αs[i]?=some α∧Zf1 e U base S0 m l o (after s (os.take i) (αs.take i)) α
 | [],_,_,_,i,o,h=>by simp at h
 | p::os,s,[],h,_,_,_=>by simp [Zc5] at h
 | p::os,s,α::αs,h,0,o,ho=>by
  simp at ho
  subst ho
  exact ⟨α,by simp,by simpa [after] using h.1⟩
 | p::os,s,α::αs,h,i+1,o,ho=>by
  obtain ⟨β,h1,h2⟩:=Zc5.get h.2 i o (by simpa using ho)
  exact ⟨β,by simpa using h1,by simpa [after] using h2⟩
theorem ZcZ {t:Nat}:∀ (os:List Oper) (αs:List A) (s:List (Nat × A)),(∀ o∈os,o.dst≠some t)->gs (after s os αs) t=gs s t
 | [],αs,s,_=>by cases αs <;> rfl
 | o::os,[],s,_=>rfl
 | o::os,α::αs,s,h=>by
  simp only [after]
  rw [ZcZ os αs _ (fun p hp=>h p (by simp [hp]))]
  cases hd:o.dst with
  | none=>rfl
  | some d =>
   have:t≠d:=fun e=>h o (by simp) (by rw [hd,e])
   simp [setA,gs,this]
theorem ZdM {t:Nat}:∀ (os:List Oper) (αs:List A) (s:List (Nat × A)) (i:Nat) (o:Oper) (α:A),os[i]?=some o->αs[i]?=some α->o.dst=some t->(∀ (j:Nat) (p:Oper),j≠i->os[j]?=some p->p.dst≠some t)->gs (after s os αs) t=α
 | [],_,_,_,_,_,h,_,_,_=>by simp at h
 | _::_,[],_,_,_,_,_,h,_,_=>by simp at h
 | p::os,β::αs,s,0,o,α,h1,h2,h3,h4=>by
  simp at h1 h2
  subst h1 h2
  simp only [after]
  rw [ZcZ os αs _ (fun q hq=>by obtain ⟨j,hj⟩:=List.mem_iff_getElem?.1 hq;exact h4 (j+1) q om (by simpa using hj))]
  simp [h3,setA,gs]
 | p::os,β::αs,s,i+1,o,α,h1,h2,h3,h4=>by
  simp only [after]
  exact ZdM os αs _ i o α (by simpa using h1) (by simpa using h2) h3 (fun j q hj hq=>h4 (j+1) q om (by simpa using hq))
structure InvA (e:Env) (U:Nat->Prop) (w0:World) (S0:Nat->Prop) (nt:Nat) (m:List (Nat × Bk)) (ops:Array Oper) (n:Nat) (s:List (Nat × A)) (αs:List A) (L:Lay) (listed:Array Bool) (a:Act) (w:World) (S:Nat->Prop):Prop where
 head:HeadInv .any ops n listed
 size:a.tmps.size=nt
 defers:a.defers=[]
 cls:Cls e U w0.heap.size S0 m w S L
 kept:Kept e.D (fun b=>e.E b∨U b) w0.heap.size w0 w
 out:∀ t,(∀ (i:Nat) (o:Oper),i < n->ops[i]?=some o->o.dst≠some t)->ARel w S L (gs s t) (a.tmps.getD t undef)
 done:∀ (i:Nat) (o:Oper) (d:Nat) (α:A),i < n->listed.getD i false=true->ops[i]?=some o->o.dst=some d->αs[i]?=some α->ARel w S L α (a.tmps.getD d undef)
variable {m:List (Nat × Bk)} {s:List (Nat × A)} {αs:List A} {L:Lay}
theorem InvA.operand (hH:Zcr ops n=true) (hn:n<=ops.size) {listed:Array Bool} {a:Act} {w:World} {S:Nat->Prop} (hI:InvA e U w0 S0 nt m ops n s αs L listed a w S) (hal:αs.length=n) {i:Nat} {o:Oper} {d:Nat} (hA:HeadAt ops n i o d) (hi:i < n)
  (hall:∀ e∈o.after,Region.binds .any e=true->listed.getD e.on false=true) {t:Nat} (hw:∀ (j:Nat) (p:Oper),j < n->ops[j]?=some p->p.dst=some t->Region.waitsFor .any ops i j=true) :
  ARel w S L (gs (after s (ops.toList.take i) (αs.take i)) t) (a.tmps.getD t undef):=by
 by_cases hex:∃ (j:Nat) (p:Oper),j < n∧ops[j]?=some p∧p.dst=some t
 ·obtain ⟨j,p,hj,hp,hpt⟩:=hex
  obtain ⟨e',he',hbe,hon⟩:=hA.waits (hw j p hj hp hpt)
  have hl:=hall e' he' hbe
  rw [hon] at hl
  have hji:=hA.back e' he' hbe
  rw [hon] at hji
  obtain ⟨α,hα⟩:∃ α,αs[j]?=some α:=⟨αs[j],Taa om⟩
  obtain ⟨p',d',hP⟩:=Zcr.get hH hj
  have hpp:p'=p:=by have:=hP.op;rw [hp] at this;injection this with this;exact this.symm
  subst hpp
  have hdt:d'=t:=by have:=hP.dst;rw [hpt] at this;injection this with this;exact this.symm
  subst hdt
  rw [ZdM (ops.toList.take i) (αs.take i) s j p' α (by rw [List.getElem?_take,if_pos hji];simpa using hp) (by rw [List.getElem?_take,if_pos hji];exact hα) hpt (fun k q hk hq=>by
   rw [List.getElem?_take] at hq
   split at hq
   ·exact (hP.dep k q om (by simpa using hq)).1 hk
   ·cases hq)]
  exact hI.done j p' d' α hj hl hp hpt hα
 ·have hno:∀ (j:Nat) (p:Oper),j < n->ops[j]?=some p->p.dst≠some t:=fun j p hj hp hd=>hex ⟨j,p,hj,hp,hd⟩
  rw [ZcZ _ _ _ (fun p hp=>by
   obtain ⟨j,hj⟩:=List.mem_iff_getElem?.1 hp
   rw [List.getElem?_take] at hj
   split at hj
   ·exact hno j p om (by simpa using hj)
   ·cases hj)]
  exact hI.out t hno
theorem InvA.put (hH:Zcr ops n=true) {listed:Array Bool} {a:Act} {w w':World} {S S':Nat->Prop} (hI:InvA e U w0 S0 nt m ops n s αs L listed a w S) {i:Nat} {o:Oper} {d:Nat} {α:A} {v:Value} (hA:HeadAt ops n i o d) (hi:i < n) (hr:i∈Region.ready .any ops listed) (hdn:d < nt)
  (hα:αs[i]?=some α) (hS:∀ b,S b->S' b) (hC:Cls e U w0.heap.size S0 m w' S' L) (hk:Kept e.D e.E w.heap.size w w') (hv:ARel w' S' L α v) :
  InvA e U w0 S0 nt m ops n s αs L (listed.setIfInBounds i true) (a.put o.dst v) w' S':=by
 have hlt:d < a.tmps.size:=by rw [hI.size];exact hdn
 rw [hA.dst]
 refine ⟨hI.head.set hr hi,by simp [Act.put,hI.size],by simp [Act.put,hI.defers],hC,hI.kept.trans ⟨hk.os,hk.tape,hk.output,hk.drawn,hk.size,fun b hb hE=>hk.block b (by have:=hI.cls.bsz;omega) (fun h1=>hE (.inl h1))⟩,fun t ht=>?_,fun j p dj β hj hl hp hdj hβ=>?_⟩
 ·rw [Zcq hlt]
  have:t≠d:=fun eq=>ht i o hi hA.op (by rw [hA.dst,eq])
  rw [if_neg this]
  exact (hI.out t ht).keep hk.size (hI.cls.cell hk) hS
 ·rw [Zcq hlt]
  by_cases hji:j=i
  ·subst hji
   rw [hA.op] at hp
   injection hp with hp
   subst hp
   rw [hA.dst] at hdj
   injection hdj with hdj
   subst hdj
   rw [hα] at hβ
   injection hβ with hβ
   subst hβ
   simpa using hv
  ·have hne:dj≠d:=fun eq=>(hA.dep j p hj hp).1 hji (by rw [hdj,eq])
   rw [if_neg hne]
   rw [getD_set_ne false (Ne.symm hji)] at hl
   exact (hI.done j p dj β hj hl hp hdj hβ).keep hk.size (hI.cls.cell hk) hS
theorem Zi0 (hH:Zcr ops n=true) {listed:Array Bool} (hh:HeadInv .any ops n listed) {i:Nat} (hi:i < n) (hun:listed.getD i true=false):Region.ready .any ops listed≠[]:=by
 induction i using Nat.strongRecOn with
 | _ i ih =>
  obtain ⟨o,d,hA⟩:=Zcr.get hH hi
  by_cases hall:∀ e∈o.after,Region.binds .any e=true->listed.getD e.on false=true
  ·intro h0
   have:=mem_ready.2 ⟨hun,o,hA.op,hall⟩
   rw [h0] at this
   cases this
  ·simp only [Classical.not_forall] at hall
   obtain ⟨e,he,hb,hl⟩:=hall
   have hlt:=hA.back e he hb
   have hs:e.on < listed.size:=by rw [hh.size];have:=(Tbl.1 hA.op).1;omega
   exact ih e.on hlt om (by rw [ZbY hs];simpa using hl)
def Zi1 (e:Env) (U:Nat->Prop) (w0:World) (S0:Nat->Prop) (nt:Nat) (m:List (Nat × Bk)) (ops:Array Oper) (n:Nat) (s:List (Nat × A)) (αs:List A) (L:Lay) (J:Array Bool->Act->World->(Nat->Prop)->Prop) (Q:Exit->Act->World->Prop):Prop :=
 ∀ (listed:Array Bool) (a:Act) (w:World) (S:Nat->Prop) (i:Nat) (o:Oper) (d:Nat) (α:A),InvA e U w0 S0 nt m ops n s αs L listed a w S->J listed a w S->HeadAt ops n i o d->i < n->i∈Region.ready .any ops listed->d < nt->αs[i]?=some α ->
  (∀ x∈o.op.operands,ARel w S L (evA (after s (ops.toList.take i) (αs.take i)) x) (a.eval x))->Zbp e U w0.heap.size S0 m o (evA (after s (ops.toList.take i) (αs.take i))) α ->
  o.wp e.P a w (fun a' w'=>∃ S',InvA e U w0 S0 nt m ops n s αs L (listed.setIfInBounds i true) a' w' S'∧J (listed.setIfInBounds i true) a' w' S') Q
theorem Zho (hH:Zcr ops n=true) (Q:Exit->Act->World->Prop):Zi1 e U w0 S0 nt m ops n s αs L (fun _ _ _ _=>True) Q :=
 fun listed a w S i o d α hI _ hA hin hr hdn hα hop hG=>ZeF (hG w S L a.eval hI.cls hop) fun v w' ⟨S',hS,hC,hk,hv⟩=>⟨S',hI.put hH hA hin hr hdn hα hS.1 hC hk hv,trivial⟩
theorem Zdm {J:Array Bool->Act->World->(Nat->Prop)->Prop} (he:e.Ok) (hH:Zcr ops n=true) (hn:n<=ops.size) (hs:n < ops.size->Region.sinkB .any ops n=true∧Region.chainB .any ops n=true) (hsq:Region.seqB .any ops (ops.size - n) n (Zb8 ops.size n)=true)
  (hsz:∀ (i:Nat) (o:Oper) (d:Nat),i < n->ops[i]?=some o->o.dst=some d->d < nt) (hal:αs.length=n) (hch:Zc5 e U w0.heap.size S0 m ops.toList (ops.toList.take n) s αs) {Q:Exit->Act->World->Prop} (hgo:Zi1 e U w0 S0 nt m ops n s αs L J Q)
  (hsk:∀ (listed:Array Bool) (a:Act) (w:World) (S:Nat->Prop) (i:Nat) (o:Oper) (d:Nat),J listed a w S->InvA e U w0 S0 nt m ops n s αs L listed a w S->HeadAt ops n i o d->i < n->i∈Region.ready .any ops listed->d < nt->o.guard≠none->J (listed.setIfInBounds i true) (a.put o.dst undef) w S)
  (hend:∀ listed a w S,InvA e U w0 S0 nt m ops n s αs L listed a w S->J listed a w S->(∀ i,i < n->listed.getD i false=true)->wpList e.P ops Q (ops.toList.drop n) a w) :
  ∀ (k:Nat) (listed:Array Bool) (a:Act) (w:World) (S:Nat->Prop),InvA e U w0 S0 nt m ops n s αs L listed a w S->J listed a w S->(List.range n).countP (fun i=>!listed.getD i true)=k->wpAny e.P .any ops Q (k+(ops.size - n)) listed a w
 | 0,listed,a,w,S,hI,hJ,hc=>by
  have hall:∀ i,i < n->listed.getD i true=true:=fun i hi=>by
   have:=List.countP_eq_zero.1 hc i (List.mem_range.2 hi)
   simpa using this
  have heq:=Znr hI.head hn hall
  have hdl:(ops.toList.drop n).length=ops.size - n:=by simp
  have hE:=hend listed a w S hI hJ (fun i hi=>by
   have hl:i < listed.size:=by rw [hI.head.size];omega
   rw [<- ZbY hl];exact hall i hi)
  have:=wpAny_of_seq (md:=.any) (Q':=Q) (ops.toList.drop n) n listed a w (fun j=>by simp [Tbb]) (by rw [hdl,heq];exact hsq) hE
  rw [hdl] at this
  simpa using this
 | k+1,listed,a,w,S,hI,hJ,hc=>by
  obtain ⟨i0,hi0,hu0⟩:∃ i,i < n∧listed.getD i true=false:=by
   have:0 < (List.range n).countP (fun i=>!listed.getD i true):=by omega
   obtain ⟨i,hi,hp⟩:=List.countP_pos_iff.1 this
   exact ⟨i,List.mem_range.1 hi,by simpa using hp⟩
  rw [show k+1+(ops.size - n)=(k+(ops.size - n))+1 by omega]
  refine ⟨fun h0=>absurd h0 (Zi0 hH hI.head hi0 hu0),fun i hr=>?_⟩
  obtain ⟨hun,oi,hoi,hall⟩:=mem_ready.1 hr
  have hin:i < n:=by
   rcases Nat.lt_or_ge i n with h | h
   ·exact h
   ·have hns:n < ops.size:=Nat.lt_of_le_of_lt h (Tbl.1 hoi).1
    exact absurd hr (tail_waits (hs hns).1 (hs hns).2 hns hI.head _ i0 rfl hi0 hu0 i h)
  obtain ⟨o,d,hA⟩:=Zcr.get hH hin
  have hoo:oi=o:=by have:=hA.op;rw [hoi] at this;injection this
  subst hoo
  have hls:i < listed.size:=by rw [hI.head.size];exact (Tbl.1 hoi).1
  obtain ⟨α,hα,hst⟩:=hch.get i oi (by rw [List.getElem?_take,if_pos hin];simpa using hoi)
  have htk:(ops.toList.take n).take i=ops.toList.take i:=by rw [List.take_take,Nat.min_eq_left om]
  rw [htk] at hst
  have hdn:=hsz i oi d hin hoi hA.dst
  have hcount:(List.range n).countP (fun j=>!(listed.setIfInBounds i true).getD j true)=k:=by
   have h1:(List.range n).countP (fun j=>!(listed.setIfInBounds i true).getD j true)+1=(List.range n).countP (fun j=>!listed.getD j true):=by
    have hperm:=List.perm_cons_erase (List.mem_range.2 hin)
    rw [hperm.countP_eq,hperm.countP_eq,List.countP_cons,List.countP_cons]
    have hcong:((List.range n).erase i).countP (fun j=>!(listed.setIfInBounds i true).getD j true)=((List.range n).erase i).countP (fun j=>!listed.getD j true):=by
     refine List.countP_congr fun j hj=>?_
     have hne:j≠i:=fun e=>by
      subst e
      exact List.Nodup.not_mem_erase (List.nodup_range) hj
     rw [getD_set_ne true (Ne.symm hne)]
    rw [hcong,hun]
    simp [hls]
   omega
  have hop:∀ x∈oi.op.operands,ARel w S L (evA (after s (ops.toList.take i) (αs.take i)) x) (a.eval x):=fun x hx=>by
   cases x with
   | tmp t =>
    exact hI.operand hH hn hal hA hin hall (fun j p hj hp hpt=>(hA.dep j p hj hp).2 t (List.mem_filterMap.2 ⟨.tmp t,by simpa using hx,rfl⟩) hpt)
   | const v =>
    simp only [evA,Act.eval]
    unfold ZdY
    split
    ·simp only [ARel,DRel,Rep]
     exact ⟨⟨none,0,0,rfl,rfl,Tah _,by decide,fun h=>absurd h (by decide)⟩,none,0,rfl⟩
    ·rename_i vs;exact ⟨vs.toList,rfl,Zcw _⟩
    ·simp [ARel,DRel,Rep]
   | func f =>
    simp only [evA,Act.eval,ARel,DRel,Rep]
    exact ⟨[],rfl,by simp [Zaa]⟩
   | global g=>trivial
  have go:Zbp e U w0.heap.size S0 m oi (evA (after s (ops.toList.take i) (αs.take i))) α->oi.wp e.P a w (wpAny e.P .any ops Q (k+(ops.size - n)) (listed.setIfInBounds i true)) Q:=fun hG =>
   Oper.wp_mono (fun a' w' ⟨S',hI',hJ'⟩=>Zdm he hH hn hs hsq hsz hal hch hgo hsk hend k _ _ _ S' hI' hJ' hcount) (hgo listed a w S i oi d α hI hJ hA hin hr hdn hα hop hG)
  unfold wpOp
  simp only [hoi]
  unfold Zf1 at hst
  cases hg:oi.guard with
  | none =>
   rw [hg] at hst
   have hwt:Region.wanted oi (yielded ops a.tmps)=true:=by simp [Region.wanted,hg]
   rw [if_pos hwt]
   exact .inl (go hst)
  | some jw =>
   obtain ⟨j,want⟩:=jw
   rw [hg] at hst
   obtain ⟨hjn,hjw⟩:=hA.guard j want hg
   have hrelD:∀ dj,((ops[j]?).bind (·.dst))=some dj->ARel w S L (gs (after s (ops.toList.take i) (αs.take i)) dj) (a.tmps.getD dj undef):=fun dj hdj=>hI.operand hH hn hal hA hin hall (t:=dj) (fun j' p hj' hp hpt=>by
    obtain ⟨p0,d0,hP0⟩:=Zcr.get hH hjn
    have hd0:d0=dj:=by have:=hdj;rw [hP0.op] at this;simp [hP0.dst] at this;exact this
    by_cases hjj:j'=j
    ·rw [hjj];exact hjw
    ·exact absurd (by rw [hpt,hd0]) ((hP0.dep j' p hj' hp).1 hjj))
   rcases hst with ⟨b,hb1,hb2⟩ | ⟨hb1,hb2⟩
   rotate_left
   ·simp only [Tau] at hb1
    obtain ⟨dj,hd1,hd2⟩:=hb1
    have hdj:((ops[j]?).bind (·.dst))=some dj:=by simpa using ZeM hd1
    have hrel:=hrelD dj hdj
    rw [hd2] at hrel
    rw [ZiZ hg hdj hrel]
    subst hb2
    simp only [Tal,if_false]
    exact Zdm he hH hn hs hsq hsz hal hch hgo hsk hend k _ _ _ S (hI.put hH hA hin hr hdn hα (fun _ h=>h) hI.cls (Kept.refl _ _ _ _) rfl) (hsk listed a w S i oi d hJ hI hA hin hr hdn (by rw [hg];simp)) hcount
   simp only [Tau] at hb1
   obtain ⟨dj,hd1,hd2⟩:=hb1
   have hdj:((ops[j]?).bind (·.dst))=some dj:=by simpa using ZeM hd1
   have hrel:=hrelD dj hdj
   rw [hd2] at hrel
   have h4:=ZiY hrel.bool
   have hwt:Region.wanted oi (yielded ops a.tmps)=decide (b=want):=by
    have h6:yielded ops a.tmps j=some b:=by unfold yielded;rw [hdj];simp only [Option.bind_some,h4]
    simp only [Region.wanted,hg,h6]
    cases b <;> cases want <;> rfl
   rw [hwt]
   by_cases hbw:b=want
   ·rw [if_pos hbw] at hb2
    simp only [hbw,decide_true,if_true]
    exact .inl (go hb2)
   ·rw [if_neg hbw] at hb2
    subst hb2
    simp only [hbw,decide_false,Tal,if_false]
    exact Zdm he hH hn hs hsq hsz hal hch hgo hsk hend k _ _ _ S (hI.put hH hA hin hr hdn hα (fun _ h=>h) hI.cls (Kept.refl _ _ _ _) rfl) (hsk listed a w S i oi d hJ hI hA hin hr hdn (by rw [hg];simp)) hcount
end
section
variable {e:Env} {U:Nat->Prop} {w0:World} {S0:Nat->Prop} {nt:Nat}
theorem SimE.drew {σ:St} {a:Act} {w:World} (he:e.Ok) (h:SimE e U w0 S0 nt σ a w):SimE e U w0 S0 nt σ a { w with drawn:=w.drawn+1 }:=by
 obtain ⟨S,L,h⟩:=h
 have hk:Kept e.D e.E w.heap.size w { w with drawn:=w.drawn+1 }:=⟨rfl,rfl,rfl,fun _=>Nat.le_succ _,Tah _,fun _ _ _=>rfl⟩
 exact ⟨S,L,h.later (h.cls.later hk (he.keep w _ (Tah _) (fun _ _=>rfl) h.cls.g) (fun _ h=>h) (fun _ h=>.inl h)) hk (fun _ h=>h)⟩
theorem Zkl (he:e.Ok) {id:Nat} {ops:Array Oper} {n:Nat} (hB:regB ops n=true) (hna:∀ o,(ops.toList.take n).getLast?=some o->isAl o=false) {K:St->Prop} {Q:Exit->Act->World->Prop} (hQ:∀ a w σ',K σ'->SimE e U w0 S0 nt σ' a w->Q .normal a w) {σ:St} {a:Act} {w:World}
  (hd:∀ o∈ops.toList,∀ d,o.dst=some d->d < nt) (h:SimE e U w0 S0 nt σ a w) (hp:Runs e (ops.toList.map (·.dst)) n ops.toList σ K):(Code.region id ops true).wp e.P Q a w:=by
 simp only [regB,Taq,Bool.or_eq_true,decide_eq_true_eq] at hB
 obtain ⟨⟨⟨hH,hn⟩,hs⟩,hsq⟩:=hB
 obtain ⟨S,L,h1⟩:=h.drew he
 refine wp_region_any he.mixed ?_
 have hsplit:ops.toList=ops.toList.take n++ops.toList.drop n:=(Tbm n _).symm
 have hlen:(ops.toList.take n).length=n:=by simp;omega
 have hp':Runs e (ops.toList.map (·.dst)) ((ops.toList.take n).length+0) (ops.toList.take n++ops.toList.drop n) σ K:=by rw [<- hsplit,hlen];exact hp
 obtain ⟨αs,hal,hch,hrest⟩:=Zec (U:=U) he w0.heap.size S0 ops.toList (ops.toList.drop n) 0 (ops.toList.take n) σ (fun _=>hna) hp'
 rw [hlen] at hal
 have inv0:InvA e U w0 S0 nt σ.m ops n σ.s αs L (Array.replicate ops.size false) a { w with drawn:=w.drawn+1 } S :=
  ⟨⟨by simp,fun j oj _ hl=>(by rw [getD_replicate_false] at hl;cases hl),fun t _ ht=>getD_in (by simpa using ht) (getD_replicate_false _ _)⟩,h1.size,h1.defers,h1.cls,h1.kept,fun t _=>h1.rel t,fun i o d α _ hl=>(by rw [getD_replicate_false] at hl;cases hl)⟩
 have H:=Zdm (e:=e) (L:=L) (Q:=Q) he hH hn (fun hlt=>by
   rcases hs with hs | hs
   ·omega
   ·exact hs) hsq (fun i o d hi ho hdd=>hd o (List.mem_iff_getElem?.2 ⟨i,by simpa using ho⟩) d hdd) hal hch (Zho hH Q) (fun _ _ _ _ _ _ _ _ _ _ _ _ _ _=>trivial) (fun listed a' w' S' hI _ hall=>?_) n _ a _ S inv0 trivial ?_
 ·rw [show n+(ops.size - n)=ops.size by omega] at H
  exact H
 ·have hsim:SimE e U w0 S0 nt ⟨after σ.s (ops.toList.take n) αs,σ.m⟩ a' w':=by
   refine ⟨S',L,hI.cls,fun t=>?_,hI.size,hI.defers,hI.kept⟩
   by_cases hex:∃ (j:Nat) (p:Oper),j < n∧ops[j]?=some p∧p.dst=some t
   ·obtain ⟨j,p,hj,hp,hpt⟩:=hex
    obtain ⟨p',d',hP⟩:=Zcr.get hH hj
    have hpp:p'=p:=by have:=hP.op;rw [hp] at this;injection this with this;exact this.symm
    subst hpp
    have hdt:d'=t:=by have:=hP.dst;rw [hpt] at this;injection this with this;exact this.symm
    subst hdt
    obtain ⟨α,hα⟩:∃ α,αs[j]?=some α:=⟨αs[j],Taa om⟩
    show ARel w' S' L (gs (after σ.s (ops.toList.take n) αs) d') _
    rw [ZdM (ops.toList.take n) αs σ.s j p' α (by rw [List.getElem?_take,if_pos hj];simpa using hp) hα hpt (fun k q hk hq=>by
     rw [List.getElem?_take] at hq
     split at hq
     ·exact (hP.dep k q om (by simpa using hq)).1 hk
     ·cases hq)]
    exact hI.done j p' d' α hj (hall j hj) hp hpt hα
   ·have hno:∀ (j:Nat) (p:Oper),j < n->ops[j]?=some p->p.dst≠some t:=fun j p hj hp hd=>hex ⟨j,p,hj,hp,hd⟩
    show ARel w' S' L (gs (after σ.s (ops.toList.take n) αs) t) _
    rw [ZcZ _ _ _ (fun p hp=>by
     obtain ⟨j,hj⟩:=List.mem_iff_getElem?.1 hp
     rw [List.getElem?_take] at hj
     split at hj
     ·exact hno j p om (by simpa using hj)
     ·cases hj)]
    exact hI.out t hno
  have:=ZmJ he ops.toList hQ (ops.toList.drop n) _ a' w' (fun o ho=>hd o (List.mem_of_mem_drop ho)) hsim hrest
  simpa using this
 ·rw [List.countP_eq_length.2]
  ·simp
  ·intro i hi
   have hi':=List.mem_range.1 hi
   have hsz:i < (Array.replicate ops.size false).size:=by simp;omega
   rw [ZbY hsz,getD_replicate_false]
   rfl
theorem Zh1 (mask t:Nat):∀ (s:List (Nat × A)),gs (Zdo mask s) t=gs s t∨gs (Zdo mask s) t=.undef
 | []=>.inl rfl
 | (k,a)::r=>by
  have key:∀ (s:List (Nat × A)),mask.testBit t=false->gs (Zdo mask s) t=.undef:=by
   intro s ht
   induction s with
   | nil=>rfl
   | cons p s ih =>
    obtain ⟨k,a⟩:=p
    simp only [Zdo]
    split
    ·rename_i hk
     have:t≠k:=fun e=>by rw [e,hk] at ht;cases ht
     simp only [gs,this,if_false]
     exact ih
    ·exact ih
  cases ht:mask.testBit t with
  | false=>exact .inr (key _ ht)
  | true =>
   left
   have key2:∀ (s:List (Nat × A)),gs (Zdo mask s) t=gs s t:=by
    intro s
    induction s with
    | nil=>rfl
    | cons p s ih =>
     obtain ⟨k,a⟩:=p
     simp only [Zdo]
     split
     ·simp only [gs,ih]
     ·rename_i hk
      have:t≠k:=fun e=>hk (by rw [<- e];exact ht)
      simp only [gs,this,if_false]
      exact ih
   exact key2 _
theorem Zh2 {s:List (Nat × A)} {t:Nat}:∀ {r:List (Nat × A)},Zcy s r->gs r t=gs s t∨gs r t=.undef
 | [],_=>.inr rfl
 | (k,a)::r,h=>by
  simp only [Zcy] at h
  simp only [gs]
  split
  ·rename_i e;rw [e];exact .inl h.1.symm
  ·exact Zh2 h.2
theorem Zh3 {m:List (Nat × Bk)} {t:Nat}:∀ {r:List (Nat × Bk)} {cs:Bk},Zcz m r->gm r t=some cs->gm m t=some cs
 | [],_,_,h=>by simp [gm] at h
 | (k,a)::r,cs,h,hg=>by
  simp only [Zcz] at h
  simp only [gm] at hg
  split at hg
  ·rename_i e;rw [e,h.1];exact hg
  ·exact Zh3 h.2 hg
theorem SimE.weak {σ σ':St} {a:Act} {w:World} (h:SimE e U w0 S0 nt σ a w) (hs:∀ t,gs σ'.s t=gs σ.s t∨gs σ'.s t=.undef) (hm:∀ t cs,gm σ'.m t=some cs->gm σ.m t=some cs):SimE e U w0 S0 nt σ' a w:=by
 obtain ⟨S,L,h⟩:=h
 refine ⟨S,L,⟨h.cls.sin,h.cls.sfr,h.cls.ein,h.cls.uin,h.cls.bsz,fun k x g hk=>h.cls.mine k x g (hm k x hk),fun k x hk=>h.cls.own k x (hm k x hk),fun k k' x x' g h1 h2=>h.cls.inj k k' x x' g (hm _ _ h1) (hm _ _ h2),h.cls.g⟩,fun t=>?_,h.size,h.defers,h.kept⟩
 rcases hs t with h1 | h1
 ·rw [h1];exact h.rel t
 ·rw [h1];trivial
theorem ZrB {m:List (Nat × Bk)} {base:Nat} {ρ:Operand->A} {o:Oper} {t:TypeId} {v:Value} {i:TypeInfo} (he:e.Ok) (ho:o.op=.alloc t) (hi:e.P.info? t=some i) (hv:i.zero=some v):Zbp e U base S0 m o ρ .undef:=by
 intro w S L ρv hC hr
 have hb:Below w.heap.size w (w.alloc (.cells v.cells t)):=ZeS w _
 unfold gives
 have hrun:(execOp ρv o).run e.P w=.ok (.value (.pointer (some ⟨w.heap.size,0,none⟩))) (w.alloc (.cells v.cells t)):=by
  simp [execOp,ho,Instr.alloc,zeroValue,typeInfo,hi,hv,newVar,newRow,Result.andThen]
 rw [hrun]
 have hk:Kept e.D e.E w.heap.size w (w.alloc (.cells v.cells t)):=Kept.of_below hb (fun _=>Tah _)
 exact ⟨S,⟨fun _ h=>h,fun _ h=>.inl h⟩,hC.later hk (he.keep _ _ hb.size (fun b hE=>hb.block b (Tbd (hC.ein b hE) hC.bsz)) hC.g) (fun _ h=>h) (fun _ h=>.inl h),hk,trivial⟩
def ZoV (e:Env) (base p d:Nat) (m:List (Nat × Bk)) (L:Lay) (t:TypeId) (v:Value) (listed:Array Bool) (a:Act) (w:World) (S:Nat->Prop):Prop :=
 listed.getD p false=true->∃ b,a.tmps.getD d undef=.pointer (some ⟨b,0,none⟩)∧base<=b∧b < w.heap.size∧¬ S b∧(∀ k bk,gm m k=some bk->¬ ZaB L k bk b)∧w.heap[b]?=some (.cells v.cells t)
theorem Cls.blk_lt {m:List (Nat × Bk)} {base:Nat} {w:World} {S:Nat->Prop} {L:Lay} (h:Cls e U base S0 m w S L) {k:Nat} {bk:Bk} {g:Nat} (hk:gm m k=some bk) (hg:ZaB L k bk g):g < w.heap.size:=by
 have ho:=h.own k bk hk
 exact (Own1.lt ho hg).1
theorem Zgy (he:e.Ok) {ops:Array Oper} {p:Nat} (hAl:ZeG ops p=true) (hB:regB ops (p+1)=true) {K:St->Prop} {Q:Exit->Act->World->Prop} (hQ:∀ a w σ',K σ'->SimE e U w0 S0 nt σ' a w->Q .normal a w) {σ:St} {a:Act} {w:World}
  (hd:∀ o∈ops.toList,∀ d,o.dst=some d->d < nt) (h:SimE e U w0 S0 nt σ a w) (hp:Runs e (ops.toList.map (·.dst)) (p+1) ops.toList σ K):wpAny e.P .any ops Q ops.size (Array.replicate ops.size false) a w:=by
 simp only [regB,Taq,Bool.or_eq_true,decide_eq_true_eq] at hB
 obtain ⟨⟨⟨hH,hn⟩,hs⟩,hsq⟩:=hB
 unfold ZeG at hAl
 split at hAl
 rotate_left
 ·cases hAl
 rename_i o0 hop
 unfold isAl at hAl
 split at hAl
 rotate_left
 ·cases hAl
 rename_i d t ty pos af
 obtain ⟨S,L,h1⟩:=h
 have hsplit:ops.toList=ops.toList.take p++ops.toList.drop p:=(Tbm p _).symm
 have hlen:(ops.toList.take p).length=p:=by simp;omega
 have hp':Runs e (ops.toList.map (·.dst)) ((ops.toList.take p).length+1) (ops.toList.take p++ops.toList.drop p) σ K:=by rw [<- hsplit,hlen];exact hp
 obtain ⟨αs0,hal0,hch0,hrest0⟩:=Zec (U:=U) he w0.heap.size S0 ops.toList (ops.toList.drop p) 1 (ops.toList.take p) σ (fun h=>absurd h (by decide)) hp'
 rw [hlen] at hal0
 have hpl:ops.toList[p]?=some ⟨some d,.alloc t,ty,pos,af,none⟩:=by simpa using hop
 have hdrop:ops.toList.drop p=⟨some d,.alloc t,ty,pos,af,none⟩::ops.toList.drop (p+1):=by
  rw [List.drop_eq_getElem_cons (Tac.1 hpl).1,(Tac.1 hpl).2]
 have htake:ops.toList.take (p+1)=ops.toList.take p++[⟨some d,.alloc t,ty,pos,af,none⟩]:=Zcu hpl
 rw [hdrop] at hrest0
 simp only [Runs,isAl,and_self,if_true] at hrest0
 obtain ⟨d0,t0,cs,hd0,ht0,hz,hrest⟩:=hrest0
 injection hd0 with hd0
 subst hd0
 injection ht0 with ht0
 subst ht0
 unfold ZaC at hz
 simp only [Tau,Option.bind_eq_some_iff] at hz
 obtain ⟨v,⟨i,hi,hv⟩,hcs⟩:=hz
 have hG:=fun (ρ:Operand->A)=>ZrB (U:=U) (S0:=S0) (m:=σ.m) (base:=w0.heap.size) (ρ:=ρ) (o:=⟨some d,.alloc t,ty,pos,af,none⟩) he rfl hi hv
 have hal:(αs0++[A.undef]).length=p+1:=by simp [hal0]
 have chain_snoc:∀ (os:List Oper) (s:List (Nat × A)) (αs:List A),Zc5 e U w0.heap.size S0 σ.m ops.toList os s αs->Zc5 e U w0.heap.size S0 σ.m ops.toList (os++[⟨some d,.alloc t,ty,pos,af,none⟩]) s (αs++[A.undef]):=by
  intro os
  induction os with
  | nil =>
   intro s αs hc
   cases αs with
   | nil=>exact ⟨hG _,trivial⟩
   | cons x xs=>simp [Zc5] at hc
  | cons o os ih =>
   intro s αs hc
   cases αs with
   | nil=>simp [Zc5] at hc
   | cons x xs=>exact ⟨hc.1,ih _ _ hc.2⟩
 have after_snoc:∀ (os:List Oper) (s:List (Nat × A)) (αs:List A),αs.length=os.length->after s (os++[⟨some d,.alloc t,ty,pos,af,none⟩]) (αs++[A.undef])=(d,A.undef)::after s os αs:=by
  intro os
  induction os with
  | nil =>
   intro s αs hl
   cases αs with
   | nil=>rfl
   | cons x xs=>simp at hl
  | cons o os ih =>
   intro s αs hl
   cases αs with
   | nil=>simp at hl
   | cons x xs=>exact ih _ _ (by simpa using hl)
 have hch:Zc5 e U w0.heap.size S0 σ.m ops.toList (ops.toList.take (p+1)) σ.s (αs0++[A.undef]):=by rw [htake];exact chain_snoc _ _ _ hch0
 have haf:after σ.s (ops.toList.take (p+1)) (αs0++[A.undef])=(d,A.undef)::after σ.s (ops.toList.take p) αs0:=by rw [htake];exact after_snoc _ _ _ (by rw [hal0,hlen])
 have inv0:InvA e U w0 S0 nt σ.m ops (p+1) σ.s (αs0++[A.undef]) L (Array.replicate ops.size false) a w S :=
  ⟨⟨by simp,fun j oj _ hl=>(by rw [getD_replicate_false] at hl;cases hl),fun t _ ht=>getD_in (by simpa using ht) (getD_replicate_false _ _)⟩,h1.size,h1.defers,h1.cls,h1.kept,fun t _=>h1.rel t,fun i o d α _ hl=>(by rw [getD_replicate_false] at hl;cases hl)⟩
 have hJ0:ZoV e w0.heap.size p d σ.m L t v (Array.replicate ops.size false) a w S:=fun hl=>by rw [getD_replicate_false] at hl;cases hl
 have hA0:∀ {i':Nat} {o':Oper} {d':Nat},HeadAt ops (p+1) i' o' d'->i'≠p->d'≠d:=fun hA hne e'=>by
  have:=(hA.dep p _ om hop).1 (Ne.symm hne)
  exact this (by rw [e'])
 have hgo:Zi1 e U w0 S0 nt σ.m ops (p+1) σ.s (αs0++[A.undef]) L (ZoV e w0.heap.size p d σ.m L t v) Q:=by
  intro listed a w S i' o' d' α hI hJ hA hin hr hdn hα hopd hG'
  by_cases hip:i'=p
  ·subst hip
   have ho':o'=⟨some d,.alloc t,ty,pos,af,none⟩:=by have:=hA.op;rw [hop] at this;injection this with this;exact this.symm
   subst ho'
   have hdd:d'=d:=by have:=hA.dst;injection this with this;exact this.symm
   subst hdd
   have hau:α=A.undef:=by rw [Tbq om,hal0] at hα;simpa using hα.symm
   subst hau
   unfold Oper.wp
   have hrun:(execOp a.eval ⟨some d',.alloc t,ty,pos,af,none⟩).run e.P w=.ok (.value (.pointer (some ⟨w.heap.size,0,none⟩))) (w.alloc (.cells v.cells t)):=by
    simp [execOp,Instr.alloc,zeroValue,typeInfo,hi,hv,newVar,newRow,Result.andThen]
   have hb:Below w.heap.size w (w.alloc (.cells v.cells t)):=ZeS w _
   have hk:Kept e.D e.E w.heap.size w (w.alloc (.cells v.cells t)):=Kept.of_below hb (fun _=>Tah _)
   have hC:=hI.cls
   have hC':Cls e U w0.heap.size S0 σ.m (w.alloc (.cells v.cells t)) S L:=hC.later hk (he.keep _ _ hb.size (fun b hE=>hb.block b (Tbd (hC.ein b hE) hC.bsz)) hC.g) (fun _ h=>h) (fun _ h=>.inl h)
   rw [hrun,Oper.upon_value]
   refine ⟨S,hI.put hH hA hin hr hdn hα (fun _ h=>h) hC' hk trivial,fun _=>⟨w.heap.size,?_,hC.bsz,by simp,fun hs=>by have:=(hC.sin _ hs).1;omega,fun k bk hk hg=>by have:=hC.blk_lt hk hg;omega,heap_alloc_new w _⟩⟩
   rw [Zcq (by rw [hI.size];exact hdn)]
   simp
  ·refine ZeF (hG' w S L a.eval hI.cls hopd) fun v' w' ⟨S',hS,hC,hk,hv'⟩=>⟨S',hI.put hH hA hin hr hdn hα hS.1 hC hk hv',fun hl=>?_⟩
   rw [getD_set_ne false hip] at hl
   obtain ⟨b,q1,q2,q3,q4,q5,q6⟩:=hJ hl
   refine ⟨b,?_,q2,Tbd q3 hk.size,fun hs=>?_,q5,?_⟩
   ·rw [hA.dst,Zcq (by rw [hI.size];exact hdn),if_neg (Ne.symm (hA0 hA hip))]
    exact q1
   ·rcases hS.2 b hs with hs | hs
    ·exact q4 hs
    ·omega
   ·rw [hk.block b q3 (fun hE=>by have:=hI.cls.ein b hE;omega)]
    exact q6
 have hskp:∀ (listed:Array Bool) (a:Act) (w:World) (S:Nat->Prop) (i':Nat) (o':Oper) (d':Nat),ZoV e w0.heap.size p d σ.m L t v listed a w S->InvA e U w0 S0 nt σ.m ops (p+1) σ.s (αs0++[A.undef]) L listed a w S->HeadAt ops (p+1) i' o' d'->i' < p+1->i'∈Region.ready .any ops listed->d' < nt->o'.guard≠none->ZoV e w0.heap.size p d σ.m L t v (listed.setIfInBounds i' true) (a.put o'.dst undef) w S:=by
  intro listed a w S i' o' d' hJ hI hA hin hr hdn hg hl
  have hip:i'≠p:=fun e'=>by
   subst e'
   have:=hA.op
   rw [hop] at this
   injection this with this
   rw [<- this] at hg
   exact hg rfl
  rw [getD_set_ne false hip] at hl
  obtain ⟨b,q1,q2⟩:=hJ hl
  refine ⟨b,?_,q2⟩
  rw [hA.dst,Zcq (by rw [hI.size];exact hdn),if_neg (Ne.symm (hA0 hA hip))]
  exact q1
 have H:=Zdm (e:=e) (L:=L) (Q:=Q) he hH hn (fun hlt=>by
   rcases hs with hs | hs
   ·omega
   ·exact hs) hsq (fun i o d hi ho hdd=>hd o (List.mem_iff_getElem?.2 ⟨i,by simpa using ho⟩) d hdd) hal hch hgo hskp (fun listed a' w' S' hI hJ hall=>?_) (p+1) _ a _ S inv0 hJ0 ?_
 ·rw [show p+1+(ops.size - (p+1))=ops.size by omega] at H
  exact H
 ·have hsim:Sim e U w0 S0 nt ⟨after σ.s (ops.toList.take (p+1)) (αs0++[A.undef]),σ.m⟩ a' w' S' L:=by
   refine ⟨hI.cls,fun t=>?_,hI.size,hI.defers,hI.kept⟩
   by_cases hex:∃ (j:Nat) (p':Oper),j < p+1∧ops[j]?=some p'∧p'.dst=some t
   ·obtain ⟨j,p0,hj,hp,hpt⟩:=hex
    obtain ⟨p',d',hP⟩:=Zcr.get hH hj
    have hpp:p'=p0:=by have:=hP.op;rw [hp] at this;injection this with this;exact this.symm
    subst hpp
    have hdt:d'=t:=by have:=hP.dst;rw [hpt] at this;injection this with this;exact this.symm
    subst hdt
    obtain ⟨α,hα⟩:∃ α,(αs0++[A.undef])[j]?=some α:=⟨(αs0++[A.undef])[j],Taa om⟩
    show ARel w' S' L (gs (after σ.s (ops.toList.take (p+1)) (αs0++[A.undef])) d') _
    rw [ZdM (ops.toList.take (p+1)) (αs0++[A.undef]) σ.s j p' α (by rw [List.getElem?_take,if_pos hj];simpa using hp) hα hpt (fun k q hk hq=>by
     rw [List.getElem?_take] at hq
     split at hq
     ·exact (hP.dep k q om (by simpa using hq)).1 hk
     ·cases hq)]
    exact hI.done j p' d' α hj (hall j hj) hp hpt hα
   ·have hno:∀ (j:Nat) (p':Oper),j < p+1->ops[j]?=some p'->p'.dst≠some t:=fun j p' hj hp hd=>hex ⟨j,p',hj,hp,hd⟩
    show ARel w' S' L (gs (after σ.s (ops.toList.take (p+1)) (αs0++[A.undef])) t) _
    rw [ZcZ _ _ _ (fun p' hp=>by
     obtain ⟨j,hj⟩:=List.mem_iff_getElem?.1 hp
     rw [List.getElem?_take] at hj
     split at hj
     ·exact hno j p' om (by simpa using hj)
     ·cases hj)]
    exact hI.out t hno
  rw [haf] at hsim
  obtain ⟨b,q1,q2,q3,q4,q5,q6⟩:=hJ (hall p om)
  have hdn:d < nt:=hd _ (List.mem_iff_getElem?.2 ⟨p,hpl⟩) d rfl
  have hrv:=Zcw (w:=w') (S:=S') v.cells.toList
  rw [hcs] at hrv
  have hsimB:=hsim.bornE (bk:=.var none cs) (w':=w') (b':=b) (v':=undef) (u:=a'.tmps.getD d undef) (τ:=some b) (s1:=(d,A.undef)::after σ.s (ops.toList.take p) αs0) (m1:=σ.m) (α:=.ref d 0) (S':=S') hdn (fun _ h=>h) (fun _ h=>.inl h) (fun t=>.inl rfl) (fun k x h=>h)
   (fun g hg=>by injection hg with hg;subst hg;exact ⟨q4,fun hE=>by have:=hI.cls.ein _ hE;omega,.inl q2⟩) (fun k x g hkd hx hg hb=>by injection hg with hg;subst hg;exact q5 k x hx hb)
   (Kept.refl _ _ _ _) hI.cls.g (by
    simp only [Own1,if_true]
    refine ⟨by simp,q3,q4,⟨v.cells,t,q6,by have:=hrv.len;simpa using this⟩,?_⟩
    exact Zah.of_vals cs v.cells.toList 0 hrv (fun j u hj=>by
     rw [Nat.zero_add]
     have hj':v.cells[j]?=some u:=by simpa using hj
     simp [World.cell?,q6,hj']))
   (fun g hg=>by simp only [ZaB,if_true] at hg;exact .inl (by rw [hg])) (by simp [ARel,q1])
  have hsimD:SimE e U w0 S0 nt ⟨(d,.ref d 0)::Zau d ((d,A.undef)::after σ.s (ops.toList.take p) αs0),(d,.var none cs)::remM d σ.m⟩ a' w':=by
   obtain ⟨S2,L2,k1,k2,k3,k4,k5⟩:=hsimB
   refine ⟨S2,L2,k1,fun t=>?_,hI.size,hI.defers,k5⟩
   have:=k2 t
   rw [Zcq (by rw [hI.size];exact hdn)] at this
   by_cases ht:t=d
   ·rw [if_pos ht] at this;rw [ht];rw [ht] at this;exact this
   ·rw [if_neg ht] at this;exact this
  have hsimC:SimE e U w0 S0 nt ⟨(d,.ref d 0)::Zau d (after σ.s (ops.toList.take p) αs0),(d,.var none cs)::remM d σ.m⟩ a' w':=SimE.weak hsimD (fun t=>.inl (by
   by_cases ht:t=d
   ·simp [gs,ht]
   ·simp [gs,ht,Zau])) (fun t x hx=>hx)
  have:=hrest he U w0 S0 nt a' w' ops.toList Q rfl (fun o ho=>hd o (List.mem_of_mem_drop ho)) hQ hsimC
  simpa using this
 ·rw [List.countP_eq_length.2]
  ·simp
  ·intro i hi
   have hi':=List.mem_range.1 hi
   have hsz:i < (Array.replicate ops.size false).size:=by simp;omega
   rw [ZbY hsz,getD_replicate_false]
   rfl
theorem Zpq (he:e.Ok) {id:Nat} {ops:Array Oper} {p:Nat} (hAl:ZeG ops p=true) (hB:regB ops (p+1)=true) {K:St->Prop} {Q:Exit->Act->World->Prop} (hQ:∀ a w σ',K σ'->SimE e U w0 S0 nt σ' a w->Q .normal a w) {σ:St} {a:Act} {w:World}
  (hd:∀ o∈ops.toList,∀ d,o.dst=some d->d < nt) (h:SimE e U w0 S0 nt σ a w) (hp:Runs e (ops.toList.map (·.dst)) (p+1) ops.toList σ K):(Code.region id ops true).wp e.P Q a w:=wp_region_any he.mixed (Zgy he hAl hB hQ hd (h.drew he) hp)
theorem Zoy {P:Program} {Q:Exit->Act->World->Prop} {c:Code} {ι:Type} (I:ι->Act->World->Prop) (μ:ι->Nat) (i0:ι) {a:Act} {w:World} (h₀:I i0 a w)
  (round:∀ i a w,I i a w->c.wp P (Exit.then (fun a' w'=>∃ j,I j a' w'∧μ j < μ i) Q) a w):(Code.loop c).wp P Q a w:=by
 intro b k cs
 have key:∀ n i a w,μ i=n->I i a w ->
   ∃ e a' w',Q e a' w'∧Arrives P (lone (b.at a (.code c::.inLoop c::k)) cs w) b k cs e a' w':=by
  intro n
  induction n using Nat.strongRecOn with
  | _ n ih =>
   intro i a w hn hI
   obtain ⟨e,a₁,w₁,hq,harr⟩:=round i a w hI b (.inLoop c::k) cs
   cases e with
   | normal =>
    obtain ⟨j,hI₁,hlt⟩:=hq
    obtain ⟨e₂,a₂,w₂,hq₂,harr₂⟩:=ih (μ j) (hn ▸ hlt) j a₁ w₁ rfl hI₁
    exact ⟨e₂,a₂,w₂,hq₂,.of_steps (Steps.trans harr (.one step_inLoop)) harr₂⟩
   | exit id=>exact ⟨_,a₁,w₁,hq,.pass (x:=.inLoop c) rfl (fun _ _=>.inl (by simp)) harr⟩
   | goto l=>exact ⟨_,a₁,w₁,hq,.pass (x:=.inLoop c) rfl (fun _ _=>.inl (by simp)) harr⟩
   | ret=>exact ⟨_,a₁,w₁,hq,.pass (x:=.inLoop c) rfl (fun _ _=>.inl (by simp)) harr⟩
   | panic ch=>exact ⟨_,a₁,w₁,hq,.pass (x:=.inLoop c) rfl (fun _ _=>.inl (by simp)) harr⟩
   | outgrown=>exact ⟨_,a₁,w₁,hq,.pass (x:=.inLoop c) rfl (fun _ _=>.inl (by simp)) harr⟩
 obtain ⟨e,a',w',hq,harr⟩:=key _ i0 a w rfl h₀
 exact ⟨e,a',w',hq,.of_steps (.one step_loop) harr⟩
def Zcn (nt:Nat):Code->Bool
 | .region _ ops _=>ops.toList.all (fun o=>o.dst.all (fun d=>decide (d < nt)))
 | .seq a b=>Zcn nt a && Zcn nt b
 | .cond _ a b=>Zcn nt a && Zcn nt b
 | .block _ c=>Zcn nt c
 | .loop c=>Zcn nt c
 | _=>true
def Then (e:Env) (U:Nat->Prop) (w0:World) (S0:Nat->Prop) (nt:Nat) (K:St->Prop) (a:Act) (w:World):Prop:=∃ σ,K σ∧SimE e U w0 S0 nt σ a w
def LQ (e:Env) (U:Nat->Prop) (w0:World) (S0:Nat->Prop) (nt:Nat) (Q:PX->St->Prop):Exit->Act->World->Prop
 | .normal,a,w=>Then e U w0 S0 nt (Q .normal) a w
 | .exit id,a,w=>Then e U w0 S0 nt (Q (.exit id)) a w
 | .ret,a,w=>Then e U w0 S0 nt (Q .ret) a w
 | _,_,_=>False
def pwp (e:Env) (mask:Nat) (c:Code) (σ:St) (Q:PX->St->Prop):Prop:=e.Ok->∀ (U:Nat->Prop) (w0:World) (S0:Nat->Prop) (nt:Nat) (a:Act) (w:World),Zcn nt c=true->SimE e U w0 S0 nt σ a w->c.wp e.P (LQ e U w0 S0 nt Q) a w
def ZcN (mask:Nat) (Q:PX->St->Prop) (σ':St):Prop:=Q .normal ⟨Zdo mask σ'.s,σ'.m⟩
end
section
variable {e:Env} {mask:Nat} {σ:St} {Q:PX->St->Prop}
theorem LQ.mono {U:Nat->Prop} {w0:World} {S0:Nat->Prop} {nt:Nat} {Q Q':PX->St->Prop} (hQ:∀ p σ,Q p σ->Q' p σ) {ex:Exit} {a:Act} {w:World} (h:LQ e U w0 S0 nt Q ex a w):LQ e U w0 S0 nt Q' ex a w:=by
 cases ex with
 | normal=>exact h.elim fun σ h=>⟨σ,hQ _ _ h.1,h.2⟩
 | exit id=>exact h.elim fun σ h=>⟨σ,hQ _ _ h.1,h.2⟩
 | ret=>exact h.elim fun σ h=>⟨σ,hQ _ _ h.1,h.2⟩
 | goto l=>exact h
 | panic ch=>exact h
 | outgrown=>exact h
theorem ZBt {Q Q':PX->St->Prop} (hQ:∀ p σ,Q p σ->Q' p σ) (c:Code) (σ:St) (h:pwp e mask c σ Q):pwp e mask c σ Q':=fun he U w0 S0 nt a w hok hs=>wp_mono (h he U w0 S0 nt a w hok hs) fun ex a' w' hq=>hq.mono hQ
theorem ZcF {P:St->Prop} {c:Code} (hT:Turn e σ P) (h:∀ σ',P σ'->pwp e mask c σ' Q):pwp e mask c σ Q:=fun he U w0 S0 nt a w hok hs=>by
 obtain ⟨σ',h1,h2⟩:=hT he U w0 S0 nt a w hs
 exact h σ' h1 he U w0 S0 nt a w hok h2
theorem Zpr (h:Q .normal σ):pwp e mask .skip σ Q:=fun he U w0 S0 nt a w hok hs=>wp_skip ⟨σ,h,hs⟩
theorem Zps {id:Nat} (h:Q (.exit id) σ):pwp e mask (.exit id) σ Q:=fun he U w0 S0 nt a w hok hs=>wp_exit ⟨σ,h,hs⟩
theorem Zgk (h:Q .ret σ):pwp e mask .ret σ Q:=fun he U w0 S0 nt a w hok hs=>wp_ret ⟨σ,h,hs⟩
theorem Zlv {id:Nat} {ops:Array Oper} {draw:Bool} (n:Nat) (hn:(if draw then regX ops n else decide (n=0))=true) (hp:Runs e (ops.toList.map (·.dst)) n ops.toList σ (ZcN mask Q)):pwp e mask (.region id ops draw) σ Q:=fun he U w0 S0 nt a w hok hs=>by
 simp only [Zcn] at hok
 have hd:∀ o∈ops.toList,∀ d,o.dst=some d->d < nt:=fun o ho d hd=>by
  have:=List.all_eq_true.1 hok o ho
  rw [hd] at this
  simpa using this
 have hQ:∀ a w σ',ZcN mask Q σ'->SimE e U w0 S0 nt σ' a w->LQ e U w0 S0 nt Q .normal a w:=fun a w σ' h1 h2 =>
  ⟨_,h1,h2.weak (fun t=>Zh1 mask t σ'.s) (fun _ _ h=>h)⟩
 cases draw with
 | false =>
  have hn:n=0:=by simpa using hn
  subst hn
  refine wp_region_list ?_
  have:=ZmJ he ops.toList hQ ops.toList _ a w hd hs hp
  simpa using this
 | true =>
  have hn:regB ops n=true:=by simpa [regX] using hn
  cases n with
  | zero=>exact Zkl he hn (by simp) hQ hd hs hp
  | succ p =>
   by_cases hA:ZeG ops p=true
   ·exact Zpq he hA hn hQ hd hs hp
   ·refine Zkl he hn (fun o ho=>?_) hQ hd hs hp
    have hle:p+1<=ops.size:=by
     simp only [regB,Taq,decide_eq_true_eq] at hn
     exact hn.1.1.2
    have hlt:p < ops.size:=by omega
    have e:(ops.toList.take (p+1)).getLast?=ops[p]?:=by
     rw [List.getLast?_eq_getElem?]
     simp only [Tav,Array.length_toList,Nat.min_eq_left hle,Nat.add_sub_cancel]
     rw [List.getElem?_take,if_pos om]
     simp
    rw [e] at ho
    unfold ZeG at hA
    rw [ho] at hA
    simpa using hA
theorem Zd3 {a b:Code} (h:pwp e mask a σ (fun x σ'=>match x with
  | .normal=>∃ σ1,Wk σ' σ1∧pwp e mask b σ1 Q
  | x=>Q x σ')):pwp e mask (.seq a b) σ Q:=fun he U w0 S0 nt ac w hok hs=>by
 simp only [Zcn,Taq] at hok
 refine wp_seq (wp_mono (h he U w0 S0 nt ac w hok.1 hs) fun ex a' w' hq=>?_)
 cases ex with
 | normal=>obtain ⟨σ',⟨σ1,hw,h1⟩,h2⟩:=hq;exact h1 he U w0 S0 nt a' w' hok.2 (h2.weak hw.1 hw.2)
 | exit id=>exact hq
 | ret=>exact hq
 | goto l=>exact hq
 | panic ch=>exact hq
 | outgrown=>exact hq
theorem Zpt {c:Operand} {a b:Code} {t:Bool} (hc:evA σ.s c=.d (.one (.lit (.bool t)))) (h1:t=true->pwp e mask a σ Q) (h2:t=false->pwp e mask b σ Q):pwp e mask (.cond c a b) σ Q:=fun he U w0 S0 nt ac w hok hs=>by
 simp only [Zcn,Taq] at hok
 obtain ⟨S,L,h'⟩:=id hs
 have h3:=h'.eval c
 rw [hc] at h3
 refine wp_cond h3.bool ?_
 cases t
 ·simp only [Tal,if_false];exact h2 rfl he U w0 S0 nt ac w hok.2 hs
 ·simp only [if_true];exact h1 rfl he U w0 S0 nt ac w hok.1 hs
theorem Zny {id:Nat} {c:Code} (h:pwp e mask c σ (fun x σ'=>match x with
  | .exit j=>if j=id then Q .normal σ' else Q (.exit j) σ'
  | x=>Q x σ')):pwp e mask (.block id c) σ Q:=fun he U w0 S0 nt ac w hok hs=>by
 simp only [Zcn] at hok
 refine wp_block (wp_mono (h he U w0 S0 nt ac w hok hs) fun ex a' w' hq=>?_)
 cases ex with
 | normal=>exact hq
 | exit j =>
  obtain ⟨σ',h1,h2⟩:=hq
  simp only [Exit.inBlock]
  simp only at h1
  split
  ·rename_i hj;rw [if_pos hj] at h1;exact ⟨σ',h1,h2⟩
  ·rename_i hj;rw [if_neg hj] at h1;exact ⟨σ',h1,h2⟩
 | ret=>exact hq
 | goto l=>exact hq
 | panic ch=>exact hq
 | outgrown=>exact hq
theorem ZBu {c:Code} {ι:Type} (st:ι->St) (ok:ι->Prop) (μ:ι->Nat) (x0:ι) (h0:ok x0) (hs0:Zcy σ.s (st x0).s) (hm0:Zcz σ.m (st x0).m)
  (hr:∀ x,ok x->pwp e mask c (st x) (fun p σ''=>match p with
   | .normal=>∃ y,ok y∧Zcy σ''.s (st y).s∧Zcz σ''.m (st y).m∧μ y < μ x
   | p=>Q p σ'')):pwp e mask (.loop c) σ Q:=fun he U w0 S0 nt ac w hok hs=>by
 simp only [Zcn] at hok
 refine Zoy (ι:=ι) (fun x a w=>ok x∧SimE e U w0 S0 nt (st x) a w) μ x0 ⟨h0,hs.weak (fun t=>Zh2 hs0) (fun t cs=>Zh3 hm0)⟩ fun x1 a1 w1 ⟨h1,h2⟩=>?_
 refine wp_mono (hr x1 h1 he U w0 S0 nt a1 w1 hok h2) fun ex a' w' hq=>?_
 cases ex with
 | normal =>
  obtain ⟨σ',⟨y,h5,h3,h4,h6⟩,h7⟩:=hq
  exact ⟨y,⟨h5,h7.weak (fun t=>Zh2 h3) (fun t cs=>Zh3 h4)⟩,h6⟩
 | exit id=>exact hq
 | ret=>exact hq
 | goto l=>exact hq
 | panic ch=>exact hq
 | outgrown=>exact hq
end
def ZdR:Nat->List D->List (Nat × A)
 | _,[]=>[]
 | k,x::xs=>(k,.d x)::ZdR (k+1) xs
theorem Zpu:∀ (xs:List D) (k t:Nat),gs (ZdR k xs) t=if k<=t then match xs[t - k]? with
   | some x=>.d x
   | none=>.undef
  else .undef
 | [],k,t=>by simp [ZdR,gs]
 | x::xs,k,t=>by
  simp only [ZdR,gs]
  by_cases h1:t=k
  ·subst h1;simp
  ·rw [Zpu xs (k+1) t]
   simp only [h1,if_false]
   by_cases h2:k+1<=t
   ·rw [if_pos h2,if_pos om,show t - k=(t - (k+1))+1 by omega]
    simp
   ·rw [if_neg h2]
    by_cases h3:k<=t
    ·omega
    ·rw [if_neg h3]
inductive RS where
 | slot (t:Nat)
 | cell (t ty:Nat)
def Zbz:List ResultVar->List RS
 | []=>[]
 | .tmp t::r=>.slot t::Zbz r
 | .cell a t::r=>.cell a t::Zbz r
def resA (P:Program) (σ:St):RS->A
 | .slot t=>gs σ.s t
 | .cell t ty=>(ZeB (ZaJ P ty) (ptrA σ.m (gs σ.s t))).getD .undef
def Zc6 (P:Program) (σ:St):List RS->List D->Prop
 | [],[]=>True
 | t::ts,x::xs=>resA P σ t=.d x∧Zc6 P σ ts xs
 | _,_=>False
def retQ (P:Program) (slots:List RS) (r:List D):PX->St->Prop
 | .exit _,_=>False
 | _,σ=>∃ ks,Zc6 P (frzs ks σ) slots r
section
variable {e:Env} {U:Nat->Prop} {w0:World} {S0:Nat->Prop} {nt:Nat} {σ:St} {a:Act} {w:World} {S:Nat->Prop} {L:Lay}
theorem ZBv (h:Sim e U w0 S0 nt σ a w S L) {x:ResultVar} {rs:List RS} {t:RS} (hrs:Zbz [x]=[t]) {y:D} (hy:resA e.P σ t=.d y):∃ v,(match x with
   | .tmp t=>(pure (a.tmps.getD t undef):Sem Value)
   | .cell b t=>do loadVar t (<- asAddr (a.tmps.getD b undef))).run e.P w=.ok v w∧DRel w S y v:=by
 cases x with
 | tmp k =>
  simp only [Zbz,List.cons.injEq,and_true] at hrs
  subst hrs
  have:=h.rel k
  simp only [resA] at hy
  rw [hy] at this
  exact ⟨_,rfl,this⟩
 | cell b ty =>
  simp only [Zbz,List.cons.injEq,and_true] at hrs
  subst hrs
  simp only [resA] at hy
  cases hl:ZeB (ZaJ e.P ty) (ptrA σ.m (gs σ.s b)) with
  | none=>rw [hl] at hy;simp at hy
  | some α =>
   rw [hl] at hy
   simp only [Option.getD_some] at hy
   subst hy
   unfold ZeB at hl
   split at hl
   ·rename_i k cs hk hp
    obtain ⟨u,h1,h2⟩:=Zns h.cls hp (h.rel b) hk hl
    refine ⟨u,?_,h2⟩
    have hptr:∃ p,a.tmps.getD b undef=.pointer (some p):=by
     have hr:=h.rel b
     unfold ptrA at hp
     split at hp
     ·rename_i hx;rw [hx] at hr;simp only [ARel,DRel,Rep] at hr;obtain ⟨b',off,hv,_⟩:=hr;exact ⟨_,hv⟩
     ·rename_i hx;rw [hx] at hr;exact ⟨_,hr⟩
     ·rename_i hx;rw [hx] at hr;obtain ⟨g,_,hv⟩:=hr;exact ⟨_,hv⟩
     ·cases hp
    obtain ⟨p,hp'⟩:=hptr
    rw [hp'] at h1
    show Sem.run e.P (do loadVar ty (<- asAddr (a.tmps.getD b undef))) w=_
    rw [hp']
    simpa [Instr.loadAt,Instr.sureAddr,asAddr,Result.andThen] using h1
   ·cases hl
theorem Zi2 (h:Sim e U w0 S0 nt σ a w S L):∀ {l:List ResultVar} {r:List D},Zc6 e.P σ (Zbz l) r->∃ vs:List Value,(l.mapM (m:=Sem) fun (x:ResultVar)=>match x with
   | .tmp t=>(pure (a.tmps.getD t undef):Sem Value)
   | .cell b t=>do loadVar t (<- asAddr (a.tmps.getD b undef))).run e.P w=.ok vs w∧ZaI w S r vs
 | [],r,hr=>by
  cases r with
  | nil=>exact ⟨[],by simp,trivial⟩
  | cons x xs=>simp [Zbz,Zc6] at hr
 | x::l,r,hr=>by
  have hx:Zbz (x::l)=(Zbz [x]).head (by cases x <;> simp [Zbz])::Zbz l:=by cases x <;> rfl
  rw [hx] at hr
  cases r with
  | nil=>simp [Zc6] at hr
  | cons y ys =>
   simp only [Zc6] at hr
   obtain ⟨v,h1,h2⟩:=ZBv h (x:=x) (rs:=[]) (by cases x <;> rfl) hr.1
   obtain ⟨vs,h3,h4⟩:=Zi2 h hr.2
   refine ⟨v::vs,?_,h2,h4⟩
   simp only [List.mapM_cons,Sem.run_bind,Sem.run_pure,Result.andThen_ok]
   rw [h1]
   simp only [Result.andThen_ok]
   rw [h3]
   simp
end
theorem Zkm {e:Env} {U:Nat->Prop} {w0:World} {S0:Nat->Prop} {nt:Nat} {σ:St} {a:Act} {w:World} {S:Nat->Prop} {L:Lay} {fn:Func} {r:List D} (h:Sim e U w0 S0 nt σ a w S L) (hr:Zc6 e.P σ (Zbz fn.results.toList) r) :
  ∃ v,(results fn a.tmps).run e.P w=.ok v w∧ARel w S ⟨fun _=>0,fun _=>Go.undef⟩ (retA r) v:=by
 obtain ⟨vs,h1,h2⟩:=Zi2 h hr
 have hrun:(fn.results.mapM (m:=Sem) fun (x:ResultVar)=>match x with
   | .tmp t=>(pure (a.tmps.getD t undef):Sem Value)
   | .cell b t=>do loadVar t (<- asAddr (a.tmps.getD b undef))).run e.P w=.ok vs.toArray w:=by
  rw [Array.mapM_eq_mapM_toList]
  simp only [Sem.run_map,h1,Result.andThen_ok]
 have hrun:(results fn a.tmps).run e.P w=.ok (if h:(vs.toArray).size=1 then (vs.toArray)[0] else .tuple vs.toArray) w:=by
  unfold results
  rw [Sem.run_bind]
  exact congrArg (fun (z:Result (Array Value))=>z.andThen (fun a w''=>Sem.run e.P (pure (if h:a.size=1 then a[0] else Value.tuple a)) w'')) hrun
 match r,vs,h2,hrun with
 | [x],[v],hd,hrun=>exact ⟨v,by rw [hrun];simp,hd.1⟩
 | [],[],hd,hrun=>exact ⟨.tuple #[],by rw [hrun];simp,[],rfl,trivial⟩
 | x::y::r',v::v'::vs',hd,hrun=>exact ⟨.tuple (v::v'::vs').toArray,by rw [hrun];simp,_,rfl,hd⟩
 | [],_::_,hd,_=>simp [ZaI] at hd
 | _::_,[],hd,_=>simp [ZaI] at hd
 | [_],_::_::_,hd,_=>simp [ZaI] at hd
 | _::_::_,[_],hd,_=>simp [ZaI] at hd
theorem Zpv {w:World} {S:Nat->Prop} {L:Lay} {args:List D} {vs:List Value} {n:Nat} (hvs:ZaI w S args vs) (t:Nat):ARel w S L (gs (ZdR 0 args) t) ((vs.toArray++Array.replicate n undef).getD t undef):=by
 rw [Zpu]
 simp only [Tai,if_true,Nat.sub_zero]
 cases hx:args[t]? with
 | none=>trivial
 | some x =>
  obtain ⟨v,h1,h2⟩:=hvs.get hx
  have hlt:t < vs.length:=(Tac.1 h1).1
  have e1:(vs.toArray++Array.replicate n undef).getD t undef=v:=by
   rw [Array.getD_eq_getD_getElem?,Array.getElem?_append_left (by simpa using hlt)]
   simp [h1]
  simp only [e1]
  exact h2
theorem Zvo {e:Env} (he:e.Ok) {f:FuncId} {fn:Func} {c:Code} {args r:List D} {ts:List RS} (mask:Nat) (hf:e.P.funcs[f]?=some fn) (hb:fn.body=some c) (hnm:(fn.name == "runtime.NumGoroutine")=false)
  (hok:Zcn fn.ntmps c=true) (hal:Nat.ble args.length fn.ntmps=true) (hres:Zbz fn.results.toList=ts) (h:pwp e mask c ⟨ZdR 0 args,[]⟩ (retQ e.P ts r)):Con e f args r:=by
 refine ⟨by unfold Zb3;rw [hf];simp [hnm,hb],fun w S vs hS hE hG hvs=>?_⟩
 have hvl:=hvs.len
 have hal:=Nat.le_of_ble_eq_true hal
 subst hres
 refine calls_of_wp hf hb ?_
 have hsim:SimE e (fun _=>False) w S fn.ntmps ⟨ZdR 0 args,[]⟩ { tmps:=vs.toArray++Array.replicate (fn.ntmps - vs.toArray.size) undef,defers:=[] } w:=by
  exact ⟨S,⟨fun _=>0,fun _=>Go.undef⟩,⟨hS,fun b hb=>.inl hb,hE,fun _ h=>h.elim,Tah _,fun k x g hk=>by simp [gm] at hk,fun k x hk=>by simp [gm] at hk,fun k k' x x' g hk=>by simp [gm] at hk,hG⟩,fun t=>Zpv hvs t,by simp;omega,rfl,Kept.refl _ _ _ _⟩
 refine wp_mono (h he _ _ _ _ _ w hok hsim) fun ex a' w' hq=>?_
 have fin:∀ σ',(∃ ks,Zc6 e.P (frzs ks σ') (Zbz fn.results.toList) r)->SimE e (fun _=>False) w S fn.ntmps σ' a' w'->a'.defers=[]∧∃ v,(results fn a'.tmps).run e.P w'=.ok v w'∧∃ u,Ending.returned v=.returned u∧Kept e.D e.E w.heap.size w w'∧e.G w'∧ARel w' (fun b=>S b∨(w.heap.size<=b∧b < w'.heap.size)) ⟨fun _=>0,fun _=>Go.undef⟩ (retA r) u:=by
  intro σ' ⟨ks,h1⟩ h2
  obtain ⟨S',L',h2⟩:=SimE.frzs he ks σ' h2
  obtain ⟨v,h3,h4⟩:=Zkm h2 h1
  refine ⟨h2.defers,v,h3,v,rfl,⟨h2.kept.os,h2.kept.tape,h2.kept.output,h2.kept.drawn,h2.kept.size,fun b hb hE=>h2.kept.block b hb (fun h=>h.elim hE id)⟩,h2.cls.g,h4.keep (Tah _) (fun _ _ _=>rfl) (fun b hb=>?_)⟩
  rcases h2.cls.sfr b hb with h | h | h
  ·exact .inl h
  ·exact .inr ⟨h,(h2.cls.sin b hb).1⟩
  ·exact h.elim
 cases ex with
 | normal=>obtain ⟨σ',h1,h2⟩:=hq;exact fin σ' h1 h2
 | ret=>obtain ⟨σ',h1,h2⟩:=hq;exact fin σ' h1 h2
 | exit id=>obtain ⟨σ',h1,h2⟩:=hq;exact h1.elim
 | goto l=>exact hq.elim
 | panic ch=>exact hq.elim
 | outgrown=>exact hq.elim
def ZjV (P:Program) (slots:List RS) (R:List D->List Bk->Prop):PX->St->Prop
 | .exit _,_=>False
 | _,σ=>∃ r ks pm,getM σ.m ks=some pm∧ks.Nodup∧pm.all pinned=true∧R r pm∧Zc6 P σ slots r
theorem ZrC {e:Env} (he:e.Ok) {f:FuncId} {fn:Func} {c:Code} {args:List D} {pm:List Bk} {R:List D->List Bk->Prop} {ts:List RS} (keys:List Nat) (mask:Nat) (hf:e.P.funcs[f]?=some fn) (hb:fn.body=some c) (hnm:(fn.name == "runtime.NumGoroutine")=false)
  (hok:Zcn fn.ntmps c=true) (hal:Nat.ble args.length fn.ntmps=true) (hres:Zbz fn.results.toList=ts) (h:pwp e mask c ⟨ZdR 0 args,zipM keys pm⟩ (ZjV e.P ts R)):ConP e f args pm R:=by
 refine ⟨by unfold Zb3;rw [hf];simp [hnm,hb],fun w S vs hS hE hG hpm hap hvs=>?_⟩
 have hvl:=hvs.len
 have hal:=Nat.le_of_ble_eq_true hal
 subst hres
 refine calls_of_wp hf hb ?_
 have hsim:SimE e (Zbx pm) w S fn.ntmps ⟨ZdR 0 args,zipM keys pm⟩ { tmps:=vs.toArray++Array.replicate (fn.ntmps - vs.toArray.size) undef,defers:=[] } w:=by
  have at':∀ k x,gm (zipM keys pm) k=some x->x∈pm∧Own1 w S (layB (zipM keys pm) ⟨fun _=>0,fun _=>Go.undef⟩) k x∧∀ g,ZaB (layB (zipM keys pm) ⟨fun _=>0,fun _=>Go.undef⟩) k x g ↔ pblk x g:=fun k x hx=>by
   have hm:=(Zfc hx).2
   exact ⟨hm,ZdC (hpm x hm).1 hx⟩
  refine ⟨S,layB (zipM keys pm) ⟨fun _=>0,fun _=>Go.undef⟩,⟨hS,fun b hb=>.inl hb,hE,fun b ⟨x,hx,hg⟩=>(hpm x hx).2 b hg,Tah _,fun k x g hx hg=>.inr ⟨x,(at' k x hx).1,((at' k x hx).2.2 g).1 hg⟩,fun k x hx=>(at' k x hx).2.1,fun k k' x x' g hx hx' hg hg'=>?_,hG⟩,fun t=>Zpv hvs t,by simp;omega,rfl,Kept.refl _ _ _ _⟩
  exact ZiW hap hx hx' (((at' k x hx).2.2 g).1 hg) (((at' k' x' hx').2.2 g).1 hg')
 refine wp_mono (h he _ _ _ _ _ w hok hsim) fun ex a' w' hq=>?_
 have fin:∀ σ',(∃ r ks pm',getM σ'.m ks=some pm'∧ks.Nodup∧pm'.all pinned=true∧R r pm'∧Zc6 e.P σ' (Zbz fn.results.toList) r)->SimE e (Zbx pm) w S fn.ntmps σ' a' w'->a'.defers=[]∧∃ v,(results fn a'.tmps).run e.P w'=.ok v w' ∧
   ∃ u r pm',Ending.returned v=.returned u∧R r pm'∧Kept e.D (fun b=>e.E b∨Zbx pm b) w.heap.size w w'∧e.G w' ∧
   (∀ x∈pm',ZdI w' (fun b=>(S b∨Zbx pm b∨(w.heap.size<=b∧b < w'.heap.size))∧¬ Zbx pm' b) x∧∀ g,pblk x g->Zbx pm g∨w.heap.size<=g)∧ZeA pm' ∧
   ARel w' (fun b=>(S b∨Zbx pm b∨(w.heap.size<=b∧b < w'.heap.size))∧¬ Zbx pm' b) ⟨fun _=>0,fun _=>Go.undef⟩ (retA r) u:=by
  intro σ' ⟨r,ks,pm',hg,hn,hp,hR,h1⟩ ⟨S',L',h2⟩
  obtain ⟨v,h3,h4⟩:=Zkm h2 h1
  have hp:∀ x∈pm',pinned x=true:=fun x hx=>List.all_eq_true.1 hp x hx
  have hS':∀ b,S' b->(S b∨Zbx pm b∨(w.heap.size<=b∧b < w'.heap.size))∧¬ Zbx pm' b:=fun b hb=>by
   refine ⟨?_,fun ⟨x,hx,hxg⟩=>?_⟩
   ·rcases h2.cls.sfr b hb with q | q | q
    ·exact .inl q
    ·exact .inr (.inr ⟨q,(h2.cls.sin b hb).1⟩)
    ·exact .inr (.inl q)
   ·obtain ⟨k,hk,hkx⟩:=Zd2 hg x hx
    exact ((h2.cls.own k x hkx).lt (((ZcL (h2.cls.own k x hkx) (hp x hx)).2 b).2 hxg)).2 hb
  refine ⟨h2.defers,v,h3,v,r,pm',rfl,hR,h2.kept,h2.cls.g,fun x hx=>?_,Zf0 h2.cls.own h2.cls.inj hn hg hp,ZkM (h4.keep (Tah _) (fun _ _ _=>rfl) hS')⟩
  obtain ⟨k,hk,hkx⟩:=Zd2 hg x hx
  have ho:=h2.cls.own k x hkx
  have hpo:=ZcL ho (hp x hx)
  refine ⟨(ZcL (ho.keep (Tah _) (fun _ _ _=>rfl) hS' (fun g hg'=>⟨rfl,fun hs=>hs.2 ⟨x,hx,(hpo.2 g).1 hg'⟩⟩)) (hp x hx)).1,fun g hg'=>?_⟩
  rcases h2.cls.mine k x g hkx ((hpo.2 g).2 hg') with q | q
  ·exact .inr q
  ·exact .inl q
 cases ex with
 | normal=>obtain ⟨σ',h1,h2⟩:=hq;exact fin σ' h1 h2
 | ret=>obtain ⟨σ',h1,h2⟩:=hq;exact fin σ' h1 h2
 | exit id=>obtain ⟨σ',h1,h2⟩:=hq;exact h1.elim
 | goto l=>exact hq.elim
 | panic ch=>exact hq.elim
 | outgrown=>exact hq.elim
inductive Res where
 | bad
 | done (σ:St)
 | call (q:Bool) (c:Operand) (args:List Operand) (d:Option Nat) (n:Nat) (os:List Oper) (σ:St)
 | map (q:Bool) (d:Option Nat) (n:Nat) (os:List Oper) (σ:St)
 | stop (n:Nat) (os:List Oper) (σ:St)
def ZdD (x:Option St) (f:St->Res):Res :=
 match x with
 | some σ=>f σ
 | none=>.bad
def ZjW (d:Option Nat) (next:St->Res) (σ:St):Res:=next ⟨setA σ.s d .no,σ.m⟩
def Zlw (yes no:St->Res) (σ:St):Bool->Res
 | true=>yes σ
 | false=>no σ
def ZfH (want:Bool) (yes no:St->Res) (σ:St):Option A->Res
 | some (.d (.one (.lit (.bool b))))=>Zlw yes no σ (b==want)
 | some .no=>no σ
 | _=>.bad
def qB:Nat->Bool
 | 0=>false
 | _+1=>true
def Zbn (P:Program) (d:Option Nat) (ty:TypeId) (q n:Nat) (os:List Oper) (next:St->Res):Op->St->Res
 | .alloc t,σ=>ZdD (if qB q=true then none else newE σ d (ZaC P t)) next
 | .call ⟨.value c,args,_⟩,σ=>.call (qB n) c args.toList d (n - 1) os σ
 | .makeMap _ none,σ=>.map (qB n) d (n - 1) os σ
 | op,σ=>ZdD (ZhX P (qB n) σ d ty op) next
def Zbw (P:Program) (ds:List (Option Nat)):Nat->List Oper->St->Res
 | _,[],σ=>.done σ
 | n,⟨d,op,ty,_,_,none⟩::os,σ=>Zbn P d ty (n - 1) n os (Zbw P ds (n - 1) os) op σ
 | n,⟨d,op,ty,_,_,some (j,want)⟩::os,σ=>ZfH want (Zbn P d ty n n os (Zbw P ds (n - 1) os) op) (ZjW d (Zbw P ds (n - 1) os)) σ ((ds[j]?.join).map (gs σ.s))
def runN (P:Program) (ds:List (Option Nat)):Nat->Nat->List Oper->St->Res
 | 0,n,os,σ=>.stop n os σ
 | _+1,_,[],σ=>.done σ
 | j+1,n,⟨d,op,ty,_,_,none⟩::os,σ=>Zbn P d ty (n - 1) n os (runN P ds j (n - 1) os) op σ
 | j+1,n,⟨d,op,ty,_,_,some (i,want)⟩::os,σ=>ZfH want (Zbn P d ty n n os (runN P ds j (n - 1) os) op) (ZjW d (runN P ds j (n - 1) os)) σ ((ds[i]?.join).map (gs σ.s))
def ResQ (e:Env) (ds:List (Option Nat)) (K:St->Prop):Res->Prop
 | .bad=>False
 | .done σ=>K σ
 | .call q c args d n os σ=>∀ (o:Oper) (ts:Array TypeId),o.op=.call ⟨.value c,args.toArray,ts⟩->o.dst=d->ZoU e q o σ (fun σ'=>Runs e ds n os σ' K)
 | .map q d n os σ=>q=false∧∀ b:Nat,Runs e ds n os ⟨setA σ.s d (.d (.one (.lit (.map (some b))))),σ.m⟩ K
 | .stop n os σ=>Runs e ds n os σ K
theorem Zfq {e:Env} {ds:List (Option Nat)} {os:List Oper} {K:St->Prop} {n q:Nat} {next:St->Res} (ih:∀ σ,ResQ e ds K (next σ)->Runs e ds (n - 1) os σ K) {o:Oper} {σ:St} (hq:q=n∨∀ t,o.op≠.alloc t) (h:ResQ e ds K (Zbn e.P o.dst o.type q n os next o.op σ)) :
  ZoU e (qB n) o σ (fun σ'=>Runs e ds (n - 1) os σ' K):=by
 unfold Zbn at h
 split at h
 ·rename_i t ho
  rcases hq with hq | hq
  ·subst hq
   unfold ZdD at h
   split at h
   ·rename_i σ' hσ
    cases hq:qB q with
    | true=>rw [hq] at hσ;simp at hσ
    | false =>
     rw [hq] at hσ
     show ZbC e o _ (fun σ'=>Runs e ds (q - 1) os σ' K)
     refine ZwV (σ':=σ') ?_ (ih σ' h)
     simp only [ho,ZhX]
     exact hσ
   ·exact h.elim
  ·exact (hq t ho).elim
 ·rename_i c args ts ho
  exact h o ts (by rw [ho]) rfl
 ·rename_i t ho
  obtain ⟨h1,h2⟩:=h
  rw [h1]
  exact Zpo ho h2
 ·rename_i op σ1 hne0 hne hne2 ho
  unfold ZdD at h
  split at h
  ·rename_i σ' hσ
   cases hq:qB n with
   | true =>
    rw [hq] at hσ
    show ZeL e o _ (fun σ'=>Runs e ds (n - 1) os σ' K)
    exact ZF0 hσ (ih σ' h)
   | false =>
    rw [hq] at hσ
    show ZbC e o _ (fun σ'=>Runs e ds (n - 1) os σ' K)
    exact ZwV hσ (ih σ' h)
  ·exact h.elim
theorem Znz {e:Env} {ds:List (Option Nat)} {K:St->Prop} {n:Nat} {os:List Oper} {o:Oper} {σ:St} {next:St->Res} (hg:o.guard=none) (ih:∀ σ,ResQ e ds K (next σ)->Runs e ds (n - 1) os σ K) (h:ResQ e ds K (Zbn e.P o.dst o.type (n - 1) n os next o.op σ)):Runs e ds n (o::os) σ K:=by
 have alloc:∀ t,o.op=.alloc t->qB (n - 1)=false∧∃ d cs,o.dst=some d∧ZaC e.P t=some cs∧Runs e ds (n - 1) os ⟨(d,.ref d 0)::Zau d σ.s,(d,.var none cs)::remM d σ.m⟩ K:=fun t ho=>by
  rw [ho] at h
  simp only [Zbn] at h
  unfold ZdD at h
  split at h
  ·rename_i σ' hσ
   split at hσ
   ·cases hσ
   ·rename_i hq
    unfold newE at hσ
    split at hσ
    ·rename_i d cs hd hz
     injection hσ with hσ
     exact ⟨by simpa using hq,d,cs,hd,hz,by rw [hσ];exact ih _ h⟩
    ·cases hσ
  ·exact h.elim
 cases n with
 | zero =>
  simp only [Runs]
  have h1:=Zfq (n:=0) (q:=0) ih (.inl rfl) h
  have h1:ZbC e o σ (fun σ'=>Runs e ds 0 os σ' K):=h1
  simp only [Runs] at h1
  exact ZcM hg h1
 | succ n =>
  simp only [Runs,hg]
  by_cases hal:∃ t,o.op=.alloc t
  ·obtain ⟨t,ho⟩:=hal
   obtain ⟨h1,d,cs,h2,h3,h4⟩:=alloc t ho
   have hn:n=0:=by
    cases n with
    | zero=>rfl
    | succ k=>cases h1
   subst hn
   have hia:isAl o=true:=by
    obtain ⟨od,oo,ot,op,oa,og⟩:=o
    simp only at ho h2 hg
    subst ho h2 hg
    rfl
   simp only [hia,and_self,if_true]
   simp only [Nat.add_sub_cancel,Runs] at h4
   exact ⟨d,t,cs,h2,ho,h3,h4⟩
  ·have hna:¬ (n=0∧isAl o=true):=fun ⟨_,h2⟩=>by
    unfold isAl at h2
    split at h2
    ·exact hal ⟨_,rfl⟩
    ·cases h2
   rw [if_neg hna]
   exact Zfq ih (.inr fun t ht=>hal ⟨t,ht⟩) h
theorem Zvp {e:Env} {ds:List (Option Nat)} {K:St->Prop} {n:Nat} {os:List Oper} {o:Oper} {σ:St} {j:Nat} {want:Bool} (hg:o.guard=some (j,want)) (h:match (ds[j]?.join).map (gs σ.s) with
   | some (.d (.one (.lit (.bool b))))=>if b=want then ZoU e (qB n) o σ (fun σ'=>Runs e ds (n - 1) os σ' K) else Runs e ds (n - 1) os ⟨setA σ.s o.dst .no,σ.m⟩ K
   | some .no=>Runs e ds (n - 1) os ⟨setA σ.s o.dst .no,σ.m⟩ K
   | _=>False):Runs e ds n (o::os) σ K:=by
 cases n with
 | zero =>
  simp only [Runs]
  refine ZrA hg ?_
  split at h
  ·rename_i b hb
   try simp only [hb]
   split at h
   ·rename_i hbw
    rw [if_pos hbw]
    have h:ZbC e o σ (fun σ'=>Runs e ds 0 os σ' K):=h
    simpa only [Runs] using h
   ·rename_i hbw
    rw [if_neg hbw]
    have h:Runs e ds 0 os ⟨setA σ.s o.dst .no,σ.m⟩ K:=h
    simpa only [Runs] using h
  ·rename_i hb
   try simp only [hb]
   have h:Runs e ds 0 os ⟨setA σ.s o.dst .no,σ.m⟩ K:=h
   simpa only [Runs] using h
  ·exact h.elim
 | succ n =>
  simp only [Runs,hg]
  exact h
theorem Zi3 {e:Env} {ds:List (Option Nat)} {K:St->Prop} {n:Nat} {os:List Oper} {d:Option Nat} {op:Op} {ty:TypeId} {pos:String} {aft:Array Edge} {j:Nat} {want:Bool} {next:St->Res} (ih:∀ σ,ResQ e ds K (next σ)->Runs e ds (n - 1) os σ K) {σ:St}
  (h:ResQ e ds K (ZfH want (Zbn e.P d ty n n os next op) (ZjW d next) σ ((ds[j]?.join).map (gs σ.s)))):Runs e ds n (⟨d,op,ty,pos,aft,some (j,want)⟩::os) σ K:=by
 refine Zvp rfl ?_
 unfold ZfH at h
 split at h
 ·rename_i b hb
  simp only [hb]
  unfold Zlw at h
  split at h
  ·rename_i hbw
   rw [if_pos (by simpa using hbw)]
   exact Zfq (o:=⟨d,op,ty,pos,aft,some (j,want)⟩) ih (.inl rfl) h
  ·rename_i hbw
   rw [if_neg (by simpa using hbw)]
   exact ih _ h
 ·rename_i hb
  simp only [hb]
  exact ih _ h
 ·exact h.elim
theorem Zb1 {e:Env} {ds:List (Option Nat)} {K:St->Prop} {n:Nat} {σ:St} (h:K σ):Runs e ds n [] σ K:=by
 cases n with
 | zero=>simp only [Runs];exact ZwZ h
 | succ n=>exact h
theorem Zfd {e:Env} {ds:List (Option Nat)} {K:St->Prop}:∀ (os:List Oper) (n:Nat) (σ:St),ResQ e ds K (Zbw e.P ds n os σ)->Runs e ds n os σ K
 | [],n,σ,h=>Zb1 h
 | ⟨d,op,ty,pos,aft,none⟩::os,n,σ,h=>Znz (o:=⟨d,op,ty,pos,aft,none⟩) rfl (Zfd os (n - 1)) h
 | ⟨d,op,ty,pos,aft,some (j,want)⟩::os,n,σ,h=>Zi3 (Zfd os (n - 1)) h
theorem ZmK {e:Env} {ds:List (Option Nat)} {K:St->Prop}:∀ (j:Nat) (os:List Oper) (n:Nat) (σ:St),ResQ e ds K (runN e.P ds j n os σ)->Runs e ds n os σ K
 | 0,os,n,σ,h=>h
 | j+1,[],n,σ,h=>Zb1 h
 | j+1,⟨d,op,ty,pos,aft,none⟩::os,n,σ,h=>Znz (o:=⟨d,op,ty,pos,aft,none⟩) rfl (ZmK j os (n - 1)) h
 | j+1,⟨d,op,ty,pos,aft,some (i,want)⟩::os,n,σ,h=>Zi3 (ZmK j os (n - 1)) h
def ZoW (c:A) (xs:Option (List D)) (σ:St):Option (FuncId × List D × St) :=
 match ZcW c,xs with
 | some (f,caps),some xs=>some (f,xs++caps.map .one,σ)
 | _,_=>none
def ZoX (c:Operand) (args:List Operand):Option St->Option (FuncId × List D × St)
 | some σ=>ZoW (evA σ.s c) (dsA (args.map (evA σ.s))) σ
 | none=>none
def Zfr (q:Bool) (c:Operand) (args:List Operand) (σ:St):Option (FuncId × List D × St):=ZoX c args (frzQ q (ZdQ (args.map (evA σ.s))) σ)
def ZoY (f:Option (FuncId × List C)) (k:Nat) (xs:Option (List D)):Option Bk->Option (FuncId × Nat × Nat × Nat × List (List C) × List D)
 | some (.buf _ ty sz rows)=>match f,xs with
  | some (f,caps),some xs=>some (f,k,ty,sz,rows,xs++caps.map .one)
  | _,_=>none
 | _=>none
def ZoZ (m:List (Nat × Bk)) (f:Option (FuncId × List C)) (xs:Option (List D)):A->Option (FuncId × Nat × Nat × Nat × List (List C) × List D)
 | .buf k=>ZoY f k xs (gm m k)
 | _=>none
def Zlx (c:Operand) (x0:Operand) (rest:List Operand) (σ:St):Option (FuncId × Nat × Nat × Nat × List (List C) × List D):=ZoZ σ.m (ZcW (evA σ.s c)) (dsA (rest.map (evA σ.s))) (nrm σ.m (evA σ.s x0))
section
variable {e:Env} {mask:Nat} {σ:St} {Q:PX->St->Prop} {ds:List (Option Nat)} {K:St->Prop} {os os':List Oper} {n n':Nat} {s1 s2 s3:List (Nat × A)} {m1 m2 m3:List (Nat × Bk)}
theorem ZfI {σ':St} (h:Zbw e.P ds n os σ=.done σ') (hK:K σ'):Runs e ds n os σ K:=Zfd os n σ (by rw [h];exact hK)
theorem Zw0 {ks:List Nat} {σ σ':St} (hf:frzQ false ks σ=some σ'):frzs ks σ=σ':=by
 unfold frzQ at hf
 split at hf
 ·injection hf with hf
 ·simpa using hf
theorem Zh4 {q:Bool} {c:Operand} {args:List Operand} {f:FuncId} {xs:List D} {σ':St} (h1:Zfr q c args σ=some (f,xs,σ')):∃ caps ys,frzQ q (ZdQ (args.map (evA σ.s))) σ=some σ'∧ZcW (evA σ'.s c)=some (f,caps)∧dsA (args.map (evA σ'.s))=some ys∧xs=ys++caps.map .one:=by
 unfold Zfr ZoX at h1
 split at h1
 ·rename_i σ1 hf
  unfold ZoW at h1
  split at h1
  ·rename_i f' caps xs' hcal hds
   simp only [Tap,Prod.mk.injEq] at h1
   obtain ⟨rfl,rfl,rfl⟩:=h1
   exact ⟨caps,xs',hf,hcal,hds,rfl⟩
  ·cases h1
 ·cases h1
theorem ZF1 {q:Bool} {c:Operand} {args:List Operand} {f:FuncId} {xs:List D} {d:Option Nat} {r:List D} (h:Zbw e.P ds n os σ=.call q c args d n' os' ⟨s1,m1⟩) (h1:Zfr q c args ⟨s1,m1⟩=some (f,xs,⟨s2,m2⟩)) (hc:Con e f xs r) (h2:setA s2 d (retA r)=s3) (hK:Runs e ds n' os' ⟨s3,m2⟩ K):Runs e ds n os σ K:=by
 refine Zfd os n σ ?_
 rw [h]
 intro o ts ho hd
 obtain ⟨caps,ys,hf,hcal,hds,rfl⟩:=Zh4 h1
 exact ZBn ho hf hcal hds hc (by rw [hd,h2];exact hK)
theorem ZBw {c:Operand} {args:List Operand} {f:FuncId} {xs:List D} {d ty sz:Nat} {rows:List (List C)} (h:Zbw e.P ds n os σ=.call false c args (some d) n' os' ⟨s1,m1⟩) (h1:Zfr false c args ⟨s1,m1⟩=some (f,xs,⟨s2,m2⟩)) (hc:ConR e f xs ty sz rows) (h2:Zau d s2=s3) (h3:remM d m2=m3) (hK:Runs e ds n' os' ⟨(d,.buf d)::s3,(d,.buf none ty sz rows)::m3⟩ K):Runs e ds n os σ K:=by
 refine Zfd os n σ ?_
 rw [h]
 intro o ts ho hd
 obtain ⟨caps,ys,hf,hcal,hds,rfl⟩:=Zh4 h1
 exact Znv (Zd1 _ (Zw0 hf)) (fun σ'' hσ=>by subst hσ;exact ZGS ho hd hcal hds hc (by simp only [h2,h3];exact hK))
theorem ZBx {c:Operand} {args:List Operand} {f:FuncId} {xs:List D} {d:Option Nat} (ks ks':List Nat) {pm:List Bk} {R:List D->List Bk->Prop} (h:Zbw e.P ds n os σ=.call false c args d n' os' ⟨s1,m1⟩) (h1:Zfr false c args ⟨s1,m1⟩=some (f,xs,⟨s2,m2⟩)) (hc:ConP e f xs pm R) (hpm:getM m2 ks=some pm) (hpn:pm.all pinned=true) (hn:ks.Nodup)
  (hk:ZcY (ks++ks') s2=s3) (hr:Zc4 (ks++ks') m2=m3) (hK:∀ r pm',R r pm'->Runs e ds n' os' ⟨setA s3 d (retA r),zipM ks' pm'++m3⟩ K):Runs e ds n os σ K:=by
 refine Zfd os n σ ?_
 rw [h]
 intro o ts ho hd
 obtain ⟨caps,ys,hf,hcal,hds,rfl⟩:=Zh4 h1
 exact Znv (Zd1 _ (Zw0 hf)) (fun σ'' hσ=>by subst hσ;exact ZGU ho ks ks' hn hpm hpn hcal hds hc (fun r pm' hR=>by rw [hd];simp only [hk,hr];exact hK r pm' hR))
theorem Zvq {c x0:Operand} {rest:List Operand} {f:FuncId} {k ty sz:Nat} {rows:List (List C)} {xs:List D} (h1:Zlx c x0 rest σ=some (f,k,ty,sz,rows,xs)):∃ oa caps ys,nrm σ.m (evA σ.s x0)=.buf k∧gm σ.m k=some (.buf oa ty sz rows)∧ZcW (evA σ.s c)=some (f,caps)∧dsA (rest.map (evA σ.s))=some ys∧xs=ys++caps.map .one:=by
 unfold Zlx ZoZ at h1
 split at h1
 ·rename_i k' hk
  unfold ZoY at h1
  split at h1
  ·rename_i oa ty' sz' rows0 hm
   split at h1
   ·rename_i f' caps xs' hcal hds
    simp only [Tap,Prod.mk.injEq] at h1
    obtain ⟨rfl,rfl,rfl,rfl,rfl,rfl⟩:=h1
    exact ⟨oa,caps,xs',hk,hm,hcal,hds,rfl⟩
   ·cases h1
  ·cases h1
 ·cases h1
theorem ZBy {c x0:Operand} {rest:List Operand} {f:FuncId} {xs:List D} {d:Option Nat} {k ty sz:Nat} {rows rows':List (List C)} {r:List D} {oa:Option (Option Addr × Nat)} (h:Zbw e.P ds n os σ=.call false c (x0::rest) d n' os' ⟨s1,m1⟩) (h1:Zlx c x0 rest ⟨s1,m1⟩=some (f,k,ty,sz,rows,xs)) (hm:gm m1 k=some (.buf oa ty sz rows)) (hc:ConI e f ty sz rows xs rows' r) (hl:rows'.length=rows.length) (h2:setA s1 d (retA r)=s3) (h3:remM k m1=m3) (hK:Runs e ds n' os' ⟨s3,(k,.buf oa ty sz rows')::m3⟩ K):Runs e ds n os σ K:=by
 refine Zfd os n σ ?_
 rw [h]
 intro o ts ho hd
 obtain ⟨oa',caps,ys,hk,hm',hcal,hds,rfl⟩:=Zvq h1
 exact ZGT ho rfl hk hm hcal hds hc hl (by rw [hd];simp only [h2,h3];exact hK)
theorem Zg8 {P:St->Prop} (hT:Turn e σ P) (h:∀ σ',P σ'->Runs e ds 0 os σ' K):Runs e ds 0 os σ K:=by
 simp only [Runs] at h ⊢
 exact Zvn hT h
def Zly:Res->Option (Nat × List Oper × List (Nat × A) × List (Nat × Bk))
 | .stop n os σ=>some (n,os,σ.s,σ.m)
 | _=>none
theorem Zw1 (j:Nat) (h:Zly (runN e.P ds j n os σ)=some (n',os',s1,m1)) (hK:Runs e ds n' os' ⟨s1,m1⟩ K):Runs e ds n os σ K:=by
 refine ZmK j os n σ ?_
 cases hr:runN e.P ds j n os σ with
 | stop n1 os1 σ1 =>
  rw [hr] at h
  simp only [Zly,Tap,Prod.mk.injEq] at h
  obtain ⟨rfl,rfl,rfl,rfl⟩:=h
  exact hK
 | _=>rw [hr] at h;cases h
theorem ZrD {d t ty:Nat} {p:String} {ed:Array Edge} {parts:List (Nat × Operand)} {s:List (Nat × A)} {m:List (Nat × Bk)} {cs cs':List C} (hz:Zdp e.P t=some cs) (hst:ZaU e.P t=true) (hok:cs.all ZaE=true) (hf:Zdn e.P t cs (parts.map fun p=>(p.1,evA s p.2))=some cs')
  (hK:Runs e ds 0 os ⟨(d,.d (.agg cs'))::s,m⟩ K):Runs e ds 0 (⟨some d,.build t parts.toArray,ty,p,ed,none⟩::os) ⟨s,m⟩ K:=by
 simp only [Runs] at hK ⊢
 exact ZcM rfl (Zrz (o:=⟨some d,.build t parts.toArray,ty,p,ed,none⟩) rfl hz hst hok hf hK)
theorem ZBz {id:Nat} {l:List Oper} {σ1:St} (ks:List Nat) (hf:frzs ks σ=σ1) (hds:l.map (·.dst)=ds) (h:Runs e ds 0 l σ1 (ZcN mask Q)):pwp e mask (.region id l.toArray false) σ Q :=
 ZcF (Zd1 ks hf) (fun σ' hσ=>by subst hσ;exact Zlv 0 rfl (by subst hds;exact h))
theorem ZBA {id:Nat} {l:List Oper} (hds:l.map (·.dst)=ds) (h:Runs e ds 0 l σ (ZcN mask Q)):pwp e mask (.region id l.toArray false) σ Q:=ZBz [] rfl hds h
theorem Zw2 {id:Nat} {l:List Oper} {σ1:St} (n:Nat) (ks:List Nat) (hf:frzs ks σ=σ1) (hr:regX l.toArray n=true) (hds:l.map (·.dst)=ds) (h:Runs e ds n l σ1 (ZcN mask Q)):pwp e mask (.region id l.toArray true) σ Q :=
 ZcF (Zd1 ks hf) (fun σ' hσ=>by subst hσ;exact Zlv n (by simpa using hr) (by subst hds;exact h))
theorem ZBB {id:Nat} {l:List Oper} (n:Nat) (hr:regX l.toArray n=true) (hds:l.map (·.dst)=ds) (h:Runs e ds n l σ (ZcN mask Q)):pwp e mask (.region id l.toArray true) σ Q:=Zw2 n [] rfl hr hds h
theorem Wk.refl (σ:St):Wk σ σ:=⟨fun _=>.inl rfl,fun _ _ h=>h⟩
theorem Zw3 {c:Operand} {a b:Code} (hc:evA σ.s c=.d (.one (.lit (.bool true)))) (h:pwp e mask a σ Q):pwp e mask (.cond c a b) σ Q:=Zpt hc (fun _=>h) (fun h=>by cases h)
theorem Zw4 {c:Operand} {a b:Code} (hc:evA σ.s c=.d (.one (.lit (.bool false)))) (h:pwp e mask b σ Q):pwp e mask (.cond c a b) σ Q:=Zpt hc (fun h=>by cases h) (fun _=>h)
theorem Zlz {P:Program} {ts:List RS} {r:List D} (h:Zc6 P σ ts r):retQ P ts r .ret σ:=⟨[],h⟩
theorem ZGV {P:Program} {ts:List RS} {r:List D} {σ1:St} (ks:List Nat) (hf:frzs ks σ=σ1) (h:Zc6 P σ1 ts r):retQ P ts r .ret σ:=⟨ks,by rw [hf];exact h⟩
end
section
variable {P:Program} {d:Option Nat} {ds:List (Option Nat)} {os:List Oper} {q n:Nat} {ty:TypeId} {nx:St->Res} {s:List (Nat × A)} {m:List (Nat × Bk)} {σ:St}
def ZcO (nx:St->Res) (s:List (Nat × A)) (m:List (Nat × Bk)) (d:Option Nat):Option A->Res
 | some α=>nx ⟨setA s d α,m⟩
 | none=>.bad
theorem ZlA {α:A}:ZcO nx s m d (some α)=nx ⟨setA s d α,m⟩:=rfl
theorem ZbG {x:Option A}:ZdD (putE ⟨s,m⟩ d x) nx=ZcO nx s m d x:=by cases x <;> rfl
theorem Zw5:Zbw P ds n [] ⟨s,m⟩=.done ⟨s,m⟩:=rfl
theorem ro_n {op:Op} {t:TypeId} {p:String} {a:Array Edge}:Zbw P ds n (⟨d,op,t,p,a,none⟩::os) ⟨s,m⟩=Zbn P d t (n - 1) n os (Zbw P ds (n - 1) os) op ⟨s,m⟩:=rfl
theorem ro_g {op:Op} {t:TypeId} {p:String} {a:Array Edge} {j:Nat} {w:Bool}:Zbw P ds n (⟨d,op,t,p,a,some (j,w)⟩::os) ⟨s,m⟩=ZfH w (Zbn P d t n n os (Zbw P ds (n - 1) os) op) (ZjW d (Zbw P ds (n - 1) os)) ⟨s,m⟩ ((ds[j]?.join).map (gs s)):=rfl
theorem Zw6 {y x:St->Res} {b w:Bool}:ZfH w y x σ (some (.d (.one (.lit (.bool b)))))=Zlw y x σ (b==w):=rfl
theorem pk_t {y x:St->Res}:Zlw y x σ true=y σ:=rfl
theorem pk_f {y x:St->Res}:Zlw y x σ false=x σ:=rfl
theorem sk_r:ZjW d nx ⟨s,m⟩=nx ⟨setA s d .no,m⟩:=rfl
theorem g_no {y x:St->Res} {w:Bool}:ZfH w y x σ (some .no)=x σ:=rfl
theorem qB_0:qB 0=false:=rfl
theorem qB_s {k:Nat}:qB (k+1)=true:=rfl
theorem Zw7 {x:Operand}:Zbn P d ty q n os nx (.move x) ⟨s,m⟩=nx ⟨setA s d (evA s x),m⟩:=rfl
theorem Zw8 {c a b:Operand}:Zbn P d ty q n os nx (.pick c a b) ⟨s,m⟩=ZcO nx s m d (ZoR (evA s a) (evA s b) (evA s c)):=ZbG
theorem Zw9 {t:TypeId} {x:Operand}:Zbn P d ty q n os nx (.load t x) ⟨s,m⟩=ZcO nx s m d (ZeB (ZaJ P t) (ptrA m (nrm m (evA s x)))):=ZbG
theorem Zkn {t:TypeId} {x:Operand} {f:Nat}:Zbn P d ty q n os nx (.fieldAddr t x f) ⟨s,m⟩=ZcO nx s m d (Zda (evA s x) (offT P t f)):=ZbG
theorem ZsC {t:TypeId} {x:Operand} {f:Nat}:Zbn P d ty q n os nx (.field t x f) ⟨s,m⟩=ZcO nx s m d (ZiO P (evA s x) (offT P t f)):=ZbG
theorem Zko {t:TypeId} {x i:Operand}:Zbn P d ty q n os nx (.indexAddr t x i) ⟨s,m⟩=ZcO nx s m d (ZdB m (Zbg P t) (nrm m (evA s x)) (evA s i)):=ZbG
theorem ZsD {t:TypeId} {x i:Operand}:Zbn P d ty q n os nx (.index t x i) ⟨s,m⟩=ZcO nx s m d (ZiP (P.underlying t) (evA s x) (evA s i)):=ZbG
theorem ZCD {op:BinOp} {t t':TypeId} {x y:Operand}:Zbn P d ty q n os nx (.binOp op t x y t') ⟨s,m⟩=ZcO nx s m d (binA P t op (evA s x) (evA s y)):=ZbG
theorem R_un {op:UnOp} {t:TypeId} {x:Operand}:Zbn P d ty q n os nx (.unOp op t x) ⟨s,m⟩=ZcO nx s m d (unA op (evA s x)):=ZbG
theorem ZnA {x:Operand} {i:Nat}:Zbn P d ty q n os nx (.extract x i) ⟨s,m⟩=ZcO nx s m d (Zgv i (evA s x)):=ZbG
theorem ZCE {x:Operand}:Zbn P d ty q n os nx (.nilCheck x) ⟨s,m⟩=ZcO nx s m d (nilA (evA s x)):=ZbG
theorem Zxa {a b:TypeId} {x:Operand}:Zbn P d ty q n os nx (.convert a b x) ⟨s,m⟩=ZcO nx s m d (ZjP P a b (evA s x)):=ZbG
theorem ZsE {t:TypeId} {x:Operand} {lo hi mx:Option Operand}:Zbn P d ty q n os nx (.slice t x lo hi mx) ⟨s,m⟩=ZcO nx s m d (Zfb P t (evA s x) (lo.map (evA s)) (hi.map (evA s)) (mx.map (evA s))):=ZbG
theorem ZCF {args:List Operand} {ts:Array TypeId}:Zbn P d ty q n os nx (.call ⟨.builtin .len,args.toArray,ts⟩) ⟨s,m⟩=ZcO nx s m d (lenA m (lenT P ts) (args.map fun x=>nrm m (evA s x))):=ZbG
theorem ZCG {args:List Operand} {ts:Array TypeId}:Zbn P d ty q n os nx (.call ⟨.builtin .max,args.toArray,ts⟩) ⟨s,m⟩=ZcO nx s m d (maxA (args.map (evA s))):=ZbG
theorem ZCH {args:List Operand} {ts:Array TypeId}:Zbn P d ty q n os nx (.call ⟨.builtin .min,args.toArray,ts⟩) ⟨s,m⟩=ZcO nx s m d (minA (args.map (evA s))):=ZbG
theorem Zxb {c:Operand} {args:List Operand} {ts:Array TypeId}:Zbn P d ty q n os nx (.call ⟨.value c,args.toArray,ts⟩) ⟨s,m⟩=.call (qB n) c args d (n - 1) os ⟨s,m⟩:=rfl
def ZlB (nx:St->Res) (d:Option Nat) (f:List (Nat × A)->List (Nat × Bk)->Option A):Option St->Res
 | some σ=>ZcO nx σ.s σ.m d (f σ.s σ.m)
 | none=>.bad
theorem ZsF {f:List (Nat × A)->List (Nat × Bk)->Option A}:ZlB nx d f (some ⟨s,m⟩)=ZcO nx s m d (f s m):=rfl
theorem ZkP {op:Op} {x:Option St} {f:List (Nat × A)->List (Nat × Bk)->Option A} (h:∀ s m,Zg2 P m (evA s) op=f s m):ZdD (Zg3 P d op x) nx=ZlB nx d f x:=by
 cases x with
 | none=>rfl
 | some σ =>
  obtain ⟨s',m'⟩:=σ
  show ZdD (putE ⟨s',m'⟩ d (Zg2 P m' (evA s') op)) nx=_
  rw [ZbG,h]
  rfl
theorem ZsG {t:TypeId} {parts:List (Nat × Operand)}:Zbn P d ty q n os nx (.build t parts.toArray) ⟨s,m⟩=ZlB nx d (fun s m=>ZhI P t (parts.map fun p=>(p.1,evA s p.2))) (frzQ (qB n) (ZdQ (parts.map fun p=>evA s p.2)) ⟨s,m⟩):=ZkP (fun _ _=>rfl)
theorem Zi4 {t:TypeId} {k:Nat} {parts:List (Nat × Operand)}:Zbn P d ty q n os nx (.buildSlice t k parts.toArray) ⟨s,m⟩=ZlB nx d (fun s m=>Zer (Za1 P t) k (parts.map fun p=>(p.1,evA s p.2))) (frzQ (qB n) (ZdQ (parts.map fun p=>evA s p.2)) ⟨s,m⟩):=ZkP (fun _ _=>rfl)
theorem ZlC {f:FuncId} {caps:List Operand}:Zbn P d ty q n os nx (.makeFunc (.func f) #[] caps.toArray) ⟨s,m⟩=ZlB nx d (fun s m=>fnA f (csA (caps.map (evA s)))) (frzQ (qB n) (ZdQ (caps.map (evA s))) ⟨s,m⟩):=ZkP (fun _ _=>rfl)
theorem Zxc {q:Bool}:frzQ q [] σ=some σ:=rfl
theorem ZsH {k:Nat} {ks:List Nat}:frzQ false (k::ks) σ=some (frzs (k::ks) σ):=rfl
theorem Zxd:frzs [] σ=σ:=rfl
theorem ZsI {k:Nat} {ks:List Nat}:frzs (k::ks) ⟨s,m⟩=frzs ks (frzB k ⟨s,m⟩ (gm m k)):=rfl
theorem ZsJ {k:Nat} {bk:Bk}:frzB k ⟨s,m⟩ (some bk)=⟨frzS k bk s,remM k m⟩:=rfl
theorem ZsK {k:Nat}:frzB k ⟨s,m⟩ none=⟨s,m⟩:=rfl
theorem Zxe {k:Nat} {bk:Bk}:frzS k bk []=[]:=rfl
theorem ZsL {k t:Nat} {bk:Bk} {a:A} {r:List (Nat × A)}:frzS k bk ((t,a)::r)=(t,frzA k bk a)::frzS k bk r:=rfl
theorem Zpw {k:Nat} {bk:Bk}:frzA k bk .undef=.undef:=rfl
theorem ZCI {k:Nat} {bk:Bk}:frzA k bk .no=.no:=rfl
theorem fA_d {k:Nat} {bk:Bk} {x:D}:frzA k bk (.d x)=.d x:=rfl
theorem Zxf {k:Nat} {bk:Bk} {x:List D}:frzA k bk (.tup x)=.tup x:=rfl
theorem ZCJ {k k' off:Nat} {o:Option Nat} {cs:List C}:frzA k (.var o cs) (.ref k' off)=if k'=k then .d (.one (.ptr (cs.drop off))) else .ref k' off:=rfl
theorem ZCK {k k' off e sz:Nat} {o:Option (Option Addr × Nat)} {rows:List (List C)}:frzA k (.buf o e sz rows) (.ref k' off)=if k'=k then .undef else .ref k' off:=rfl
theorem ZCL {k k':Nat} {o:Option Nat} {cs:List C}:frzA k (.var o cs) (.buf k')=if k'=k then .undef else .buf k':=rfl
theorem ZCM {k k' e sz:Nat} {o:Option (Option Addr × Nat)} {rows:List (List C)}:frzA k (.buf o e sz rows) (.buf k')=if k'=k then .d (.one (.sl rows)) else .buf k':=rfl
theorem Zxg {k k' j sz off:Nat} {bk:Bk}:frzA k bk (.row k' j sz off)=if k'=k then .undef else .row k' j sz off:=rfl
theorem ky_d {x:D}:keyA (.d x)=[]:=rfl
theorem Zxh {k off:Nat}:keyA (.ref k off)=[k]:=rfl
theorem Zxi {k:Nat}:keyA (.buf k)=[k]:=rfl
theorem Zxj {k j sz off:Nat}:keyA (.row k j sz off)=[]:=rfl
theorem ZsM:ZdQ []=[]:=rfl
theorem Zpx {a:A} {r:List A}:ZdQ (a::r)=keyA a++ZdQ r:=rfl
theorem ZsN {t:TypeId}:Zbn P d ty q n os nx (.alloc t) ⟨s,m⟩=ZdD (if qB q=true then none else newE ⟨s,m⟩ d (ZaC P t)) nx:=rfl
theorem ZCN {t:TypeId} {x:Operand}:Zbn P d ty q n os nx (.box t x) ⟨s,m⟩=ZdD (if qB n=true then none else ZjS d x (frzQ (qB n) (keyA (evA s x)) ⟨s,m⟩)) nx:=rfl
theorem ZsO {t:TypeId} {x y:Operand}:Zbn P d ty q n os nx (.store t x y) ⟨s,m⟩=ZdD (if qB n=true then none else Zg4 P d t x y (frzQ (qB n) (keyA (evA s y)) ⟨s,m⟩)) nx:=rfl
theorem Zpy {x:Operand}:Zbn P d ty q n os nx (.assign x) ⟨s,m⟩=ZdD (if qB n=true then none else Zdt P ⟨s,m⟩ d ty (evA s x)) nx:=rfl
theorem Zkp {t:TypeId} {l c:Operand}:Zbn P d ty q n os nx (.makeSlice t l c) ⟨s,m⟩=ZdD (if qB n=true then none else ZhW P ⟨s,m⟩ d t (evA s l) (evA s c)) nx:=rfl
theorem Zpz {args:List Operand} {ts:Array TypeId}:Zbn P d ty q n os nx (.call ⟨.builtin .append,args.toArray,ts⟩) ⟨s,m⟩=ZdD (if qB n=true then none else Zgj P ⟨s,m⟩ d ts (args.map fun x=>nrm m (evA s x))) nx:=rfl
theorem Zxk:ZdD (some σ) nx=nx σ:=rfl
theorem Zxl {k:Nat} {cs:List C}:newE ⟨s,m⟩ (some k) (some cs)=some ⟨(k,.ref k 0)::Zau k s,(k,.var none cs)::remM k m⟩:=rfl
theorem ZsP {x:Operand}:ZjS d x (some ⟨s,m⟩)=newE ⟨s,m⟩ d (Zcv (evA s x)):=rfl
theorem ZsQ {t:TypeId} {x y:Operand}:Zg4 P d t x y (some ⟨s,m⟩)=ZhJ ⟨s,m⟩ d (nrm m (evA s x)) (Zcv (evA s y)) (ZaK P t):=rfl
theorem ZCO {k off k2:Nat} {us:List C}:ZhJ ⟨s,m⟩ none (.ref k off) (some us) (some k2)=storeVar ⟨s,m⟩ k off k2 us (gm m k):=rfl
theorem ZCP {k j sz off k2:Nat} {us:List C}:ZhJ ⟨s,m⟩ none (.row k j sz off) (some us) (some k2)=storeRow ⟨s,m⟩ k j sz off k2 us (gm m k):=rfl
theorem ZCQ {o:Option Nat} {k off k2:Nat} {us cs:List C}:storeVar ⟨s,m⟩ k off k2 us (some (.var o cs))=if us.length=k2∧off+k2<=cs.length then some ⟨s,(k,.var o (cs.take off++us++cs.drop (off+k2)))::remM k m⟩ else none:=rfl
def ZpA (s:List (Nat × A)) (m:List (Nat × Bk)) (o:Option (Option Addr × Nat)) (k j e sz off k2:Nat) (us:List C) (rows:List (List C)):Option (List C)->Option St
 | some r=>if us.length=k2∧off+k2<=r.length then some ⟨s,(k,.buf o e sz (rows.set j (r.take off++us++r.drop (off+k2))))::remM k m⟩ else none
 | none=>none
theorem ZCR {o:Option (Option Addr × Nat)} {k j sz sz' off k2 e:Nat} {us:List C} {rows:List (List C)}:storeRow ⟨s,m⟩ k j sz off k2 us (some (.buf o e sz' rows))=if sz'=sz then ZpA s m o k j e sz off k2 us rows rows[j]? else none:=by
 simp only [storeRow]
 split
 ·unfold ZpA;cases rows[j]? <;> rfl
 ·rfl
theorem s_bf {o:Option (Option Addr × Nat)} {k j sz off k2 e:Nat} {us r:List C} {rows:List (List C)}:ZpA s m o k j e sz off k2 us rows (some r)=if us.length=k2∧off+k2<=r.length then some ⟨s,(k,.buf o e sz (rows.set j (r.take off++us++r.drop (off+k2))))::remM k m⟩ else none:=rfl
theorem ZsR {o:Option Nat} {cs:List C}:varA (some (.var o cs))=some cs:=rfl
theorem ZsS {o:Option (Option Addr × Nat)} {j sz sz' e:Nat} {rows:List (List C)}:rowA j sz (some (.buf o e sz' rows))=if sz'=sz then rows[j]? else none:=rfl
theorem ZCS {k:Nat} {c:C}:Zdt P ⟨s,m⟩ (some k) ty (.d (.one c))=some ⟨(k,.d (.one c))::s,m⟩:=rfl
theorem ZCT {k:Nat} {c:List C}:Zdt P ⟨s,m⟩ (some k) ty (.d (.agg c))=some ⟨(k,.d (.agg c))::s,m⟩:=rfl
theorem Zxm {k:Nat} {r:List C} {rs:List (List C)}:Zdt P ⟨s,m⟩ (some k) ty (.d (.clip (r::rs)))=some ⟨(k,.d (.clip (r::rs)))::s,m⟩:=rfl
theorem ZCU {k:Nat}:Zdt P ⟨s,m⟩ (some k) ty (.d (.clip []))=newB ⟨s,m⟩ k (Za1 P ty):=rfl
theorem ZCV {k:Nat} {x:List D}:Zdt P ⟨s,m⟩ (some k) ty (.tup x)=some ⟨(k,.tup x)::s,m⟩:=rfl
theorem ZCW {k k' off:Nat}:Zdt P ⟨s,m⟩ (some k) ty (.ref k' off)=some ⟨(k,.ref k' off)::s,m⟩:=rfl
theorem ZCX {k k':Nat}:Zdt P ⟨s,m⟩ (some k) ty (.buf k')=ZjR ⟨s,m⟩ k' k (gm m k'):=rfl
theorem ZsT {o:Option (Option Addr × Nat)} {k k' e sz:Nat} {rows:List (List C)}:ZjR ⟨s,m⟩ k k' (some (.buf o e sz rows))=if k=k' then some ⟨(k',.buf k')::s,m⟩ else some (ownE ⟨s,m⟩ k k' (.buf o e sz rows)):=rfl
theorem ZsU {k e sz b:Nat}:newB ⟨s,m⟩ k (some (e,sz,b))=some ⟨(k,.buf k)::Zau k s,(k,.buf none e sz [])::remM k m⟩:=rfl
theorem ZsV {k:Nat}:newB ⟨s,m⟩ k none=some ⟨(k,.d (.clip []))::s,m⟩:=rfl
theorem ZCY {k k':Nat} {bk:Bk}:ownE ⟨s,m⟩ k k' bk=⟨(k',.buf k')::Zau k' (Zau k s),(k',bk)::remM k' (remM k m)⟩:=rfl
theorem Zxn {k:Nat}:Zau k []=[]:=rfl
theorem Zxo {k k' off t:Nat} {r:List (Nat × A)}:Zau k ((t,.ref k' off)::r)=(t,if k'=k then .undef else .ref k' off)::Zau k r:=rfl
theorem Zxp {k k' t:Nat} {r:List (Nat × A)}:Zau k ((t,.buf k')::r)=(t,if k'=k then .undef else .buf k')::Zau k r:=rfl
theorem Zxq {k k' j sz off t:Nat} {r:List (Nat × A)}:Zau k ((t,.row k' j sz off)::r)=(t,if k'=k then .undef else .row k' j sz off)::Zau k r:=rfl
theorem kl_d {k t:Nat} {x:D} {r:List (Nat × A)}:Zau k ((t,.d x)::r)=(t,.d x)::Zau k r:=rfl
theorem Zxr {k t:Nat} {x:List D} {r:List (Nat × A)}:Zau k ((t,.tup x)::r)=(t,.tup x)::Zau k r:=rfl
theorem ZpB {k t:Nat} {r:List (Nat × A)}:Zau k ((t,.undef)::r)=(t,.undef)::Zau k r:=rfl
theorem ZCZ {k t:Nat} {r:List (Nat × A)}:Zau k ((t,.no)::r)=(t,.no)::Zau k r:=rfl
theorem Zxs {k:Nat}:remM k []=[]:=rfl
theorem ZsW {k t:Nat} {a:Bk} {r:List (Nat × Bk)}:remM k ((t,a)::r)=if t=k then remM k r else (t,a)::remM k r:=rfl
def appX (s:List (Nat × A)) (m:List (Nat × Bk)) (k e sz:Nat) (y:A) (ys:List (List C)):A->Option St
 | .buf k'=>if Zln k' y=true then none else ZhK ⟨s,m⟩ k k' e sz ys (gm m k')
 | .d (.clip rows)=>if ZaT sz rows=true∧rows.length+ys.length<=maxApp∧(rows.isEmpty || !ys.isEmpty)=true then some ⟨(k,.buf k)::Zau k s,(k,.buf none e sz (rows++ys))::remM k m⟩ else none
 | _=>none
def appA (s:List (Nat × A)) (m:List (Nat × Bk)) (k:Nat) (x y:A):Option (TypeId × Nat × Nat)->Option (List (List C))->Option St
 | some (e,sz,_),some ys=>if ZaT sz ys=true then appX s m k e sz y ys x else none
 | _,_=>none
theorem ZC0 {k:Nat} {t:TypeId} {x y:A}:Zgj P ⟨s,m⟩ (some k) #[t,t] [x,y]=appA s m k x y (Za1 P t) (slA m y):=by
 unfold Zgj appA
 simp only [List.getElem?_toArray,Tas,Tat,if_true]
 cases Za1 P t with
 | none=>rfl
 | some b =>
  obtain ⟨e,sz,b⟩:=b
  cases slA m y with
  | none=>rfl
  | some ys =>
   simp only
   split
   ·cases x with
    | d x=>cases x <;> rfl
    | _=>rfl
   ·rfl
theorem ZsX {k e sz b:Nat} {x y:A} {ys:List (List C)}:appA s m k x y (some (e,sz,b)) (some ys)=if ZaT sz ys=true then appX s m k e sz y ys x else none:=rfl
theorem Zxt {k k' e sz:Nat} {y:A} {ys:List (List C)}:appX s m k e sz y ys (.buf k')=if Zln k' y=true then none else ZhK ⟨s,m⟩ k k' e sz ys (gm m k'):=rfl
theorem ZsY {k e sz:Nat} {y:A} {ys rows:List (List C)}:appX s m k e sz y ys (.d (.clip rows))=if ZaT sz rows=true∧rows.length+ys.length<=maxApp∧(rows.isEmpty || !ys.isEmpty)=true then some ⟨(k,.buf k)::Zau k s,(k,.buf none e sz (rows++ys))::remM k m⟩ else none:=rfl
theorem ZsZ {o:Option (Option Addr × Nat)} {k k' e e' sz sz':Nat} {ys rows:List (List C)}:ZhK ⟨s,m⟩ k k' e sz ys (some (.buf o e' sz' rows))=if e'=e∧sz'=sz∧rows.length+ys.length<=maxApp then some (ownE ⟨s,m⟩ k' k (.buf none e' sz (rows++ys))) else none:=rfl
theorem ib_d {k:Nat} {x:D}:Zln k (.d x)=false:=rfl
theorem Zxu {k k':Nat}:Zln k (.buf k')=(k'==k):=rfl
def Zo0 (s:List (Nat × A)) (m:List (Nat × Bk)) (k e sz:Nat) (a b:Int):Option (List C)->Option St
 | some z=>if a=b∧0<=a∧a<=maxApp∧z.all ZaE=true then some ⟨(k,.buf k)::Zau k s,(k,.buf none e sz (List.replicate a.toNat z))::remM k m⟩ else none
 | none=>none
def Zvr (P:Program) (s:List (Nat × A)) (m:List (Nat × Bk)) (k:Nat):Option Int->Option Int->Option (TypeId × Nat × Nat)->Option St
 | some a,some b,some (e,sz,_)=>Zo0 s m k e sz a b (ZaC P e)
 | _,_,_=>none
theorem ZC1 {k:Nat} {t:TypeId} {l c:A}:ZhW P ⟨s,m⟩ (some k) t l c=Zvr P s m k (intA l) (intA c) (Za1 P t):=by
 unfold ZhW Zvr
 cases intA l with
 | none=>rfl
 | some a =>
  cases intA c with
  | none=>rfl
  | some b =>
   cases Za1 P t with
   | none=>rfl
   | some q =>
    obtain ⟨e,sz,q⟩:=q
    simp only [Zo0]
    cases ZaC P e <;> rfl
theorem Zs0 {k e sz q:Nat} {a b:Int}:Zvr P s m k (some a) (some b) (some (e,sz,q))=Zo0 s m k e sz a b (ZaC P e):=rfl
theorem Zs1 {k e sz:Nat} {a b:Int} {z:List C}:Zo0 s m k e sz a b (some z)=if a=b∧0<=a∧a<=maxApp∧z.all ZaE=true then some ⟨(k,.buf k)::Zau k s,(k,.buf none e sz (List.replicate a.toNat z))::remM k m⟩ else none:=rfl
theorem Zxv {j:Int}:intA (.d (.one (.lit (.int .i64 j))))=some j:=rfl
theorem ZC2 {t:Nat}:evA s (.tmp t)=gs s t:=rfl
theorem Zs2 {v:Value}:evA s (.const v)=ZdY v:=rfl
theorem Zxw {f:FuncId}:evA s (.func f)=.d (.one (.fn f [])):=rfl
theorem ZC3 {k:IntKind} {i:Int}:ZdY (.int k i)=.d (.one (.lit (.int k i))):=rfl
theorem Zxx {b:Bool}:ZdY (.bool b)=.d (.one (.lit (.bool b))):=rfl
theorem ZC4 {b:ByteArray}:ZdY (.string b)=.d (.one (.lit (.string b))):=rfl
theorem t_sl:ZdY (.slice none 0 0)=.d (.clip []):=rfl
theorem ZC5 {p:Option Addr}:ZdY (.pointer p)=.d (.one (.lit (.pointer p))):=rfl
theorem ZC6 {l:List Value}:ZdY (.agg l.toArray)=.d (.agg (l.map toC)):=rfl
theorem Zs3 {k:IntKind} {i:Int}:toC (.int k i)=.lit (.int k i):=rfl
theorem Zs4 {b:ByteArray}:toC (.string b)=.lit (.string b):=rfl
theorem ZpC {b:Bool}:toC (.bool b)=.lit (.bool b):=rfl
theorem Zxy:toC (.slice none 0 0)=.sl []:=rfl
theorem Zs5 {p:Option Addr}:toC (.pointer p)=.lit (.pointer p):=rfl
theorem Zs6 {k:Nat} {a:A}:setA s (some k) a=(k,a)::s:=rfl
theorem Zs7 {a:A}:setA s none a=s:=rfl
theorem ZC7 {cs:List C}:ptrA m (.d (.one (.ptr cs)))=some cs:=rfl
theorem ZC8 {k off:Nat}:ptrA m (.ref k off)=(varA (gm m k)).map (·.drop off):=rfl
theorem ZC9 {k j sz off:Nat}:ptrA m (.row k j sz off)=(rowA j sz (gm m k)).map (·.drop off):=rfl
theorem Zxz {k:TK} {cs:List C}:ZeB (some k) (some cs)=valT k cs:=rfl
theorem ZDa {c:C} {cs:List C}:valT .one (c::cs)=some (.d (.one c)):=rfl
theorem ZDb {k:Nat} {cs:List C}:valT (.agg k) cs=if k<=cs.length then some (.d (.agg (cs.take k))) else none:=rfl
theorem Zs8 {a b:A} {t:Bool}:ZoR a b (.d (.one (.lit (.bool t))))=some (if t=true then a else b):=rfl
theorem ZxA {cs:List C} {k:Nat} {t:TypeId}:Zda (.d (.one (.ptr cs))) (some (k,t))=some (.d (.one (.ptr (cs.drop k)))):=rfl
theorem ZxB {b off k:Nat} {t:TypeId}:Zda (.ref b off) (some (k,t))=some (.ref b (off+k)):=rfl
theorem ZxC {b j sz off k:Nat} {t:TypeId}:Zda (.row b j sz off) (some (k,t))=some (.row b j sz (off+k)):=rfl
theorem ZDc {cs:List C} {k:Nat} {t:TypeId}:ZiO P (.d (.agg cs)) (some (k,t))=ZeB (ZaJ P t) (some (cs.drop k)):=rfl
theorem ZDd {k:Nat} {rows:List (List C)} {kk:IntKind} {j:Int}:ZdB m (some k) (.d (.one (.sl rows))) (.d (.one (.lit (.int kk j))))=if 0<=j then if ZaT k rows=true then eltA rows[j.toNat]? else none else none:=rfl
theorem Zs9 {k:Nat} {rows:List (List C)} {kk:IntKind} {j:Int}:ZdB m (some k) (.d (.clip rows)) (.d (.one (.lit (.int kk j))))=if 0<=j then if ZaT k rows=true then eltA rows[j.toNat]? else none else none:=rfl
theorem ZxD {k b:Nat} {kk:IntKind} {j:Int}:ZdB m (some k) (.buf b) (.d (.one (.lit (.int kk j))))=Zll b k j (gm m b):=rfl
theorem ZxE {o:Option (Option Addr × Nat)} {k b e sz:Nat} {j:Int} {rows:List (List C)}:Zll b k j (some (.buf o e sz rows))=if sz=k then if 0<=j then if j.toNat < rows.length then some (.row b j.toNat sz 0) else none else none else none:=rfl
theorem Zta {r:List C}:eltA (some r)=some (.d (.one (.ptr r))):=rfl
theorem ZDe {b:ByteArray} {kk:IntKind} {j:Int}:ZiP (some .string) (.d (.one (.lit (.string b)))) (.d (.one (.lit (.int kk j))))=if 0<=j then ZoS b[j.toNat]? else none:=rfl
theorem Ztb {b:UInt8}:ZoS (some b)=some (.d (.one (.lit (.int .u8 b.toNat)))):=rfl
theorem Ztc {v:Value}:litA (some v)=some (.d (.one (.lit v))):=rfl
theorem ZDf {op:BinOp} {t:TypeId} {a b:Value}:binA P t op (.d (.one (.lit a))) (.d (.one (.lit b)))=litA (binT P op t a b):=rfl
theorem ZDg {op:UnOp} {a:Value}:unA op (.d (.one (.lit a)))=litA (unV op a):=rfl
theorem ZxF {b:Bool}:unV .not (.bool b)=some (.bool (!b)):=rfl
theorem ZxG {a:Int}:unV .neg (.int .i64 a)=some (.int .i64 (IntKind.i64.wrap (0 - a))):=rfl
theorem Ztd {x:D}:dA (some x)=some (.d x):=rfl
theorem ZDh {i:Nat} {xs:List D}:Zgv i (.tup xs)=dA xs[i]?:=rfl
theorem ZxH {cs:List C}:nilA (.d (.one (.ptr cs)))=some (.d (.one (.ptr cs))):=rfl
theorem ZDi {f:FuncId} {cs:List C}:nilA (.d (.one (.fn f cs)))=some (.d (.one (.fn f cs))):=rfl
theorem ZxI {k off:Nat}:nilA (.ref k off)=some (.ref k off):=rfl
theorem ZDj {rows:List (List C)}:lenA m (some true) [.d (.one (.sl rows))]=some (.d (.one (.lit (.int .i64 rows.length)))):=rfl
theorem ZDk {rows:List (List C)}:lenA m (some true) [.d (.clip rows)]=some (.d (.one (.lit (.int .i64 rows.length)))):=rfl
theorem ZDl {k:Nat}:lenA m (some true) [.buf k]=lenS (bufA (gm m k)):=rfl
theorem ZDm {p:Option Addr} {k cap:Nat}:lenA m (some true) [.d (.one (.lit (.slice p k cap)))]=some (.d (.one (.lit (.int .i64 k)))):=rfl
theorem ZxJ {b:ByteArray}:lenA m (some false) [.d (.one (.lit (.string b)))]=some (.d (.one (.lit (.int .i64 b.size)))):=rfl
theorem Zte {rows:List (List C)}:lenS (some rows)=some (.d (.one (.lit (.int .i64 rows.length)))):=rfl
theorem ZDn {rows:List (List C)}:slA m (.d (.one (.sl rows)))=some rows:=rfl
theorem Ztf {rows:List (List C)}:slA m (.d (.clip rows))=some rows:=rfl
theorem ZxK {k:Nat}:slA m (.buf k)=bufA (gm m k):=rfl
theorem Ztg {o:Option (Option Addr × Nat)} {e sz:Nat} {rows:List (List C)}:bufA (some (.buf o e sz rows))=some rows:=rfl
theorem ZDo {x y:Int}:maxA [.d (.one (.lit (.int .i64 x))),.d (.one (.lit (.int .i64 y)))]=some (.d (.one (.lit (.int .i64 (if y > x then y else x))))):=rfl
theorem ZDp {x y:Int}:minA [.d (.one (.lit (.int .i64 x))),.d (.one (.lit (.int .i64 y)))]=some (.d (.one (.lit (.int .i64 (if y < x then y else x))))):=rfl
theorem ZDq {e sz b k:Nat} {parts:List (Nat × A)}:Zer (some (e,sz,b)) k parts=if parts.length=k∧k * sz<=16777216 then ZoT (ZeT sz 0 parts) else none:=rfl
theorem Zth {rows:List (List C)}:ZoT (some rows)=some (.d (.clip rows)):=rfl
theorem ZxL {sz i:Nat}:ZeT sz i []=some []:=rfl
def ZpD (sz:Nat) (r:Option (List (List C))):Option (List C)->Option (List (List C))
 | some cs=>if cs.length=sz then r.map (cs::·) else none
 | none=>none
theorem Zti {sz i j:Nat} {x:A} {r:List (Nat × A)}:ZeT sz i ((j,x)::r)=if i=j then ZpD sz (ZeT sz (i+1) r) (Zcv x) else none:=by
 show (if i=j then _ else _)=_
 unfold ZpD
 split
 ·cases Zcv x <;> rfl
 ·rfl
theorem Ztj {sz:Nat} {r:Option (List (List C))} {cs:List C}:ZpD sz r (some cs)=if cs.length=sz then r.map (cs::·) else none:=rfl
def ZpE (P:Program) (t:TypeId) (parts:List (Nat × A)):Bool->Option (List C)->Option A
 | true,some cs=>if cs.all ZaE=true then aggA (Zdn P t cs parts) else none
 | _,_=>none
theorem ZDr {t:TypeId} {parts:List (Nat × A)}:ZhI P t parts=ZpE P t parts (ZaU P t) (ZaC P t):=by
 unfold ZhI ZpE
 cases ZaU P t <;> cases ZaC P t <;> rfl
theorem Ztk {t:TypeId} {parts:List (Nat × A)} {cs:List C}:ZpE P t parts true (some cs)=if cs.all ZaE=true then aggA (Zdn P t cs parts) else none:=rfl
theorem Ztl {cs:List C}:aggA (some cs)=some (.d (.agg cs)):=rfl
theorem ZxM {t:TypeId} {cs:List C}:Zdn P t cs []=some cs:=rfl
def Zvs (P:Program) (t:TypeId) (cs:List C) (r:List (Nat × A)):Option (Nat × TypeId)->Option (List C)->Option (List C)
 | some (off,ft),some us=>if ZaK P ft=some us.length∧off+us.length<=cs.length then Zdn P t (cs.take off++us++cs.drop (off+us.length)) r else none
 | _,_=>none
theorem Ztm {t:TypeId} {cs:List C} {f:Nat} {x:A} {r:List (Nat × A)}:Zdn P t cs ((f,x)::r)=Zvs P t cs r (offT P t f) (Zcv x):=by
 conv=>lhs;unfold Zdn
 unfold Zvs
 rcases offT P t f with _ | ⟨off,ft⟩ <;> cases Zcv x <;> rfl
theorem Ztn {t ft:TypeId} {cs us:List C} {off:Nat} {r:List (Nat × A)}:Zvs P t cs r (some (off,ft)) (some us)=if ZaK P ft=some us.length∧off+us.length<=cs.length then Zdn P t (cs.take off++us++cs.drop (off+us.length)) r else none:=rfl
def ZlD (n:Int):Option TypeDesc->Option IntKind->Option A
 | some _,some k=>some (.d (.one (.lit (.int k (k.wrap n)))))
 | _,_=>none
theorem ZxN {a b:TypeId} {k:IntKind} {j:Int}:ZjP P a b (.d (.one (.lit (.int k j))))=ZlD j (P.underlying a) (ZdA (P.underlying b)):=by
 unfold ZjP ZlD
 cases P.underlying a <;> cases ZdA (P.underlying b) <;> rfl
theorem Zto {t:TypeDesc} {k:IntKind} {j:Int}:ZlD j (some t) (some k)=some (.d (.one (.lit (.int k (k.wrap j))))):=rfl
theorem Ztp {k:IntKind}:ZdA (some (.int k))=some k:=rfl
theorem Ztq {f:FuncId} {cs:List C}:fnA f (some cs)=some (.d (.one (.fn f cs))):=rfl
theorem ZxO:csA []=some []:=rfl
theorem Ztr {c:C} {r:List A}:csA (.d (.one c)::r)=(csA r).map (c::·):=rfl
def ZlE (lo hi mx:Option A) (k:Nat):Option (List (List C))->Option A
 | some rows=>if ZaT k rows=true∧(mx.isNone || hi.isSome)=true then dA (ZhH rows (loA lo) (hiA rows.length hi) (mx.map intA)) else none
 | none=>none
def ZpF (P:Program) (t:TypeId) (x:A) (lo hi mx:Option A):Option Nat->Option A
 | some k=>ZlE lo hi mx k (Zgu x)
 | none=>if Zpk (P.underlying t)∧mx=none then match strA x with
   | some s=>dA (ZmE s (loA lo) (hiA s.size hi))
   | none=>none
  else none
theorem ZDs {t:TypeId} {x:A} {lo hi mx:Option A}:Zfb P t x lo hi mx=ZpF P t x lo hi mx (Zbg P t):=by
 unfold Zfb ZpF ZlE
 cases Zbg P t with
 | none=>rfl
 | some k=>cases Zgu x <;> rfl
theorem Zts {t:TypeId} {x:A} {lo hi mx:Option A} {k:Nat}:ZpF P t x lo hi mx (some k)=ZlE lo hi mx k (Zgu x):=rfl
theorem Ztt {lo hi mx:Option A} {k:Nat} {rows:List (List C)}:ZlE lo hi mx k (some rows)=if ZaT k rows=true∧(mx.isNone || hi.isSome)=true then dA (ZhH rows (loA lo) (hiA rows.length hi) (mx.map intA)) else none:=rfl
theorem ZxP {rows:List (List C)}:Zgu (.d (.one (.sl rows)))=some rows:=rfl
theorem ZpG {rows:List (List C)}:Zgu (.d (.clip rows))=some rows:=rfl
theorem Ztu:loA none=some 0:=rfl
theorem Ztv {x:A}:loA (some x)=intA x:=rfl
theorem Ztw {k:Nat}:hiA k none=some (k:Int):=rfl
theorem Ztx {k:Nat} {x:A}:hiA k (some x)=intA x:=rfl
theorem sl_2 {rows:List (List C)} {l h:Int}:ZhH rows (some l) (some h) none=if 0<=l∧l<=h∧h<=rows.length then some (.one (.sl ((rows.take h.toNat).drop l.toNat))) else none:=rfl
theorem sl_3 {rows:List (List C)} {l h k:Int}:ZhH rows (some l) (some h) (some (some k))=if 0<=l∧l<=h∧h<=rows.length∧k=h then some (.clip ((rows.take h.toNat).drop l.toNat)) else none:=rfl
theorem ZxQ {c:C}:Zcv (.d (.one c))=if ZaE c=true then some [c] else none:=rfl
theorem ZxR {cs:List C}:Zcv (.d (.agg cs))=if cs.all ZaE=true then some cs else none:=rfl
theorem Zty {rows:List (List C)}:Zcv (.d (.clip rows))=some [.sl rows]:=rfl
theorem ZxS {k:IntKind} {i:Int}:ZaE (.lit (.int k i))=true:=rfl
theorem Ztz {b:Bool}:ZaE (.lit (.bool b))=true:=rfl
theorem ZxT {b:ByteArray}:ZaE (.lit (.string b))=true:=rfl
theorem ZxU {b:Option Nat}:ZaE (.lit (.map b))=true:=rfl
theorem ZDt {b:Option Addr}:ZaE (.lit (.pointer b))=true:=rfl
theorem ZxV {a:Option Addr} {n c:Nat}:ZaE (.lit (.slice a n c))=true:=rfl
theorem ZDu {rows:List (List C)}:ZaE (.sl rows)=true:=rfl
theorem ZxW {cs:List C}:ZaE (.ptr cs)=true:=rfl
theorem ZDv {f:Nat} {cs:List C}:ZaE (.fn f cs)=true:=rfl
theorem ZxX:dsA []=some []:=rfl
theorem ZtA {x:D} {r:List A}:dsA (.d x::r)=(dsA r).map (x::·):=rfl
theorem ZDw {q:Bool} {c:Operand} {args:List Operand}:Zfr q c args ⟨s,m⟩=ZoX c args (frzQ q (ZdQ (args.map (evA s))) ⟨s,m⟩):=rfl
theorem cp_s {c:Operand} {args:List Operand}:ZoX c args (some ⟨s,m⟩)=ZoW (evA s c) (dsA (args.map (evA s))) ⟨s,m⟩:=rfl
theorem cp_x {f:FuncId} {caps:List C} {xs:List D}:ZoW (.d (.one (.fn f caps))) (some xs) σ=some (f,xs++caps.map .one,σ):=rfl
theorem ZDx {c x0:Operand} {rest:List Operand}:Zlx c x0 rest ⟨s,m⟩=ZoZ m (ZcW (evA s c)) (dsA (rest.map (evA s))) (nrm m (evA s x0)):=rfl
theorem co_z {f:Option (FuncId × List C)} {xs:Option (List D)} {k:Nat}:ZoZ m f xs (.buf k)=ZoY f k xs (gm m k):=rfl
theorem co_y {o:Option (Option Addr × Nat)} {f:FuncId} {caps:List C} {xs:List D} {k ty sz:Nat} {rows:List (List C)}:ZoY (some (f,caps)) k (some xs) (some (.buf o ty sz rows))=some (f,k,ty,sz,rows,xs++caps.map .one):=rfl
theorem ZDy {f:FuncId} {caps:List C}:ZcW (.d (.one (.fn f caps)))=some (f,caps):=rfl
theorem ZtB {t:Nat}:resA P ⟨s,m⟩ (.slot t)=gs s t:=rfl
theorem ZtC {t k:Nat}:resA P ⟨s,m⟩ (.cell t k)=(ZeB (ZaJ P k) (ptrA m (gs s t))).getD .undef:=rfl
theorem ZDz {x:D}:retA [x]=.d x:=rfl
theorem ZDA {x y:D} {r:List D}:retA (x::y::r)=.tup (x::y::r):=rfl
theorem r_no:retA []=.tup []:=rfl
theorem ZxY {t:TypeId} {a b:Int}:binT P .add t (.int .i64 a) (.int .i64 b)=some (.int .i64 (IntKind.i64.wrap (a+b))):=rfl
theorem ZxZ {t:TypeId} {a b:Int}:binT P .sub t (.int .i64 a) (.int .i64 b)=some (.int .i64 (IntKind.i64.wrap (a - b))):=rfl
theorem Zx0 {t:TypeId} {a b:Int}:binT P .mul t (.int .i64 a) (.int .i64 b)=some (.int .i64 (IntKind.i64.wrap (a * b))):=rfl
theorem Zx1 {t:TypeId} {a b:Int}:binT P .lss t (.int .i64 a) (.int .i64 b)=some (.bool (decide (a < b))):=rfl
theorem Zx2 {t:TypeId} {a b:Int}:binT P .leq t (.int .i64 a) (.int .i64 b)=some (.bool (decide (a<=b))):=rfl
theorem Zx3 {t:TypeId} {a b:Int}:binT P .gtr t (.int .i64 a) (.int .i64 b)=some (.bool (decide (b < a))):=rfl
theorem Zx4 {t:TypeId} {a b:Int}:binT P .geq t (.int .i64 a) (.int .i64 b)=some (.bool (decide (b<=a))):=rfl
theorem Zx5 {t:TypeId} {a b:Int}:binT P .eql t (.int .i64 a) (.int .i64 b)=some (.bool (decide (a=b))):=rfl
theorem Zx6 {t:TypeId} {a b:Int}:binT P .neq t (.int .i64 a) (.int .i64 b)=some (.bool (!decide (a=b))):=rfl
theorem Zx7 {t:TypeId} {a b:Int}:binT P .lss t (.int .u8 a) (.int .u8 b)=some (.bool (decide (a < b))):=rfl
theorem Zx8 {t:TypeId} {a b:Int}:binT P .leq t (.int .u8 a) (.int .u8 b)=some (.bool (decide (a<=b))):=rfl
theorem Zx9 {t:TypeId} {a b:Int}:binT P .gtr t (.int .u8 a) (.int .u8 b)=some (.bool (decide (b < a))):=rfl
theorem Zya {t:TypeId} {a b:Int}:binT P .geq t (.int .u8 a) (.int .u8 b)=some (.bool (decide (b<=a))):=rfl
theorem Zyb {t:TypeId} {a b:Int}:binT P .eql t (.int .u8 a) (.int .u8 b)=some (.bool (decide (a=b))):=rfl
theorem Zyc {t:TypeId} {a b:Int}:binT P .neq t (.int .u8 a) (.int .u8 b)=some (.bool (!decide (a=b))):=rfl
theorem Zyd {t:TypeId} {a b:ByteArray}:binT P .eql t (.string a) (.string b)=some (.bool (a.toList==b.toList)):=rfl
theorem Zye {t:TypeId} {a b:ByteArray}:binT P .neq t (.string a) (.string b)=some (.bool (!(a.toList==b.toList))):=rfl
theorem Zyf {t:TypeId} {a b:ByteArray}:binT P .lss t (.string a) (.string b)=some (.bool (Go.Op.bytesLess a.toList b.toList)):=rfl
theorem Zyg {t:TypeId} {a b:Bool}:binT P .eql t (.bool a) (.bool b)=ZhV (P.underlying t) (a==b):=rfl
theorem Zyh {t:TypeId} {a b:Bool}:binT P .neq t (.bool a) (.bool b)=ZhV (P.underlying t) (!(a==b)):=rfl
theorem bb_t {v:Bool}:ZhV (some .bool) v=some (.bool v):=rfl
theorem Zyi {t:TypeId} {a b:Int}:binT P .and t (.int .i64 a) (.int .i64 b)=some (.int .i64 (bits .and .i64 a b)):=rfl
theorem ZDB {t:TypeId} {a b:Int}:binT P .or t (.int .i64 a) (.int .i64 b)=some (.int .i64 (bits .or .i64 a b)):=rfl
theorem Zyj {t:TypeId} {a b:Int}:binT P .xor t (.int .i64 a) (.int .i64 b)=some (.int .i64 (bits .xor .i64 a b)):=rfl
theorem ZnB {t:TypeId} {a b:Int}:binT P .andNot t (.int .i64 a) (.int .i64 b)=some (.int .i64 (bits .andNot .i64 a b)):=rfl
theorem Zyk {t:TypeId} {k:IntKind} {a b:Int}:binT P .shl t (.int .i64 a) (.int k b)=if 0<=b then some (.int .i64 (IntKind.i64.wrap (a * 2 ^ (min b.toNat 64)))) else none:=rfl
theorem Zyl {t:TypeId} {k:IntKind} {a b:Int}:binT P .shr t (.int .i64 a) (.int k b)=if 0<=b then some (.int .i64 (a.fdiv (2 ^ (min b.toNat 64)))) else none:=rfl
theorem ZlF {t:TypeId} {k:IntKind} {a b:Int}:binT P .shr t (.int .u64 a) (.int k b)=if 0<=b then some (.int .u64 (a.fdiv (2 ^ (min b.toNat 64)))) else none:=rfl
theorem ZGW {a:Int}:unV .neg (.int .u64 a)=some (.int .u64 (IntKind.u64.wrap (0 - a))):=rfl
theorem Zym {t:TypeId} {a b:Int}:binT P .quo t (.int .i64 a) (.int .i64 b)=if b=0 then none else some (.int .i64 (IntKind.i64.wrap (a.tdiv b))):=rfl
theorem Zyn {t:TypeId} {a b:Int}:binT P .rem t (.int .i64 a) (.int .i64 b)=if b=0 then none else some (.int .i64 (a.tmod b)):=rfl
theorem Zyo {t:TypeId} {a b:ByteArray}:binT P .add t (.string a) (.string b)=if a.size+b.size<=9223372036854775807 then some (.string (a++b)) else none:=rfl
theorem Zyp {b off k:Nat} {t:TypeId}:Zda (.d (.one (.lit (.pointer (some ⟨b,off,none⟩))))) (some (k,t))=some (.d (.one (.lit (.pointer (some ⟨b,off+k,none⟩))))):=rfl
theorem Zyq {p:Addr}:nilA (.d (.one (.lit (.pointer (some p)))))=some (.d (.one (.lit (.pointer (some p))))):=rfl
theorem Zyr {b off:Nat}:nrm m (.d (.one (.lit (.pointer (some ⟨b,off,none⟩)))))=Zlm m b off (varK b m):=rfl
theorem ZDC {p:Option Addr} {k cap:Nat}:nrm m (.d (.one (.lit (.slice p k cap))))=ZjQ m p k cap (bufK p k cap m):=rfl
theorem nr_p {cs:List C}:nrm m (.d (.one (.ptr cs)))=.d (.one (.ptr cs)):=rfl
theorem nr_s {rows:List (List C)}:nrm m (.d (.one (.sl rows)))=.d (.one (.sl rows)):=rfl
theorem nr_c {rows:List (List C)}:nrm m (.d (.clip rows))=.d (.clip rows):=rfl
theorem nr_i {k:IntKind} {i:Int}:nrm m (.d (.one (.lit (.int k i))))=.d (.one (.lit (.int k i))):=rfl
theorem Zys {b:ByteArray}:nrm m (.d (.one (.lit (.string b))))=.d (.one (.lit (.string b))):=rfl
theorem Zyt {k off:Nat}:nrm m (.ref k off)=.ref k off:=rfl
theorem Zyu {k:Nat}:nrm m (.buf k)=.buf k:=rfl
theorem Zyv {k j sz off:Nat}:nrm m (.row k j sz off)=.row k j sz off:=rfl
theorem Zyw {b:Nat}:varK b []=none:=rfl
theorem Zyx {b b' k:Nat} {cs:List C} {r:List (Nat × Bk)}:varK b ((k,.var (some b') cs)::r)=if b=b' then some k else varK b r:=rfl
theorem Zyy {b k:Nat} {cs:List C} {r:List (Nat × Bk)}:varK b ((k,.var none cs)::r)=varK b r:=rfl
theorem Zyz {b k e sz:Nat} {o:Option (Option Addr × Nat)} {rows:List (List C)} {r:List (Nat × Bk)}:varK b ((k,.buf o e sz rows)::r)=varK b r:=rfl
theorem ZyA {b k:Nat} {E:Nat->Prop} {G:World->Prop} {r:List (Nat × Bk)}:varK b ((k,.set E G)::r)=varK b r:=rfl
theorem ZyB {p:Option Addr} {k cap:Nat}:bufK p k cap []=none:=rfl
theorem ZyC {p p':Option Addr} {k cap cap' k' e sz:Nat} {rows:List (List C)} {r:List (Nat × Bk)}:bufK p k cap ((k',.buf (some (p',cap')) e sz rows)::r)=if p=p'∧k=rows.length∧cap=cap' then some k' else bufK p k cap r:=rfl
theorem ZyD {p:Option Addr} {k cap k' e sz:Nat} {rows:List (List C)} {r:List (Nat × Bk)}:bufK p k cap ((k',.buf none e sz rows)::r)=bufK p k cap r:=rfl
theorem ZyE {p:Option Addr} {k cap k':Nat} {o:Option Nat} {cs:List C} {r:List (Nat × Bk)}:bufK p k cap ((k',.var o cs)::r)=bufK p k cap r:=rfl
theorem ZyF {p:Option Addr} {k cap k':Nat} {E:Nat->Prop} {G:World->Prop} {r:List (Nat × Bk)}:bufK p k cap ((k',.set E G)::r)=bufK p k cap r:=rfl
theorem ZtD {b off k:Nat}:Zlm m b off (some k)=nrmV b off k (gm m k):=rfl
theorem ZtE {b off:Nat}:Zlm m b off none=.d (.one (.lit (.pointer (some ⟨b,off,none⟩)))):=rfl
theorem ZyG {b off k b':Nat} {cs:List C}:nrmV b off k (some (.var (some b') cs))=if b=b' then .ref k off else .d (.one (.lit (.pointer (some ⟨b,off,none⟩)))):=rfl
theorem ZyH {p:Option Addr} {k cap k':Nat}:ZjQ m p k cap (some k')=nrmB p k cap k' (gm m k'):=rfl
theorem ZDD {p:Option Addr} {k cap:Nat}:ZjQ m p k cap none=.d (.one (.lit (.slice p k cap))):=rfl
theorem ZyI {p p':Option Addr} {k cap cap' k' e sz:Nat} {rows:List (List C)}:nrmB p k cap k' (some (.buf (some (p',cap')) e sz rows))=if p=p'∧k=rows.length∧cap=cap' then .buf k' else .d (.one (.lit (.slice p k cap))):=rfl
theorem rn_0:runN P ds 0 n os ⟨s,m⟩=.stop n os ⟨s,m⟩:=rfl
theorem rn_n {j:Nat} {op:Op} {t:TypeId} {p:String} {a:Array Edge}:runN P ds (j+1) n (⟨d,op,t,p,a,none⟩::os) ⟨s,m⟩=Zbn P d t (n - 1) n os (runN P ds j (n - 1) os) op ⟨s,m⟩:=rfl
theorem rn_g {j:Nat} {op:Op} {t:TypeId} {p:String} {a:Array Edge} {i:Nat} {w:Bool}:runN P ds (j+1) n (⟨d,op,t,p,a,some (i,w)⟩::os) ⟨s,m⟩=ZfH w (Zbn P d t n n os (runN P ds j (n - 1) os) op) (ZjW d (runN P ds j (n - 1) os)) ⟨s,m⟩ ((ds[i]?.join).map (gs s)):=rfl
theorem st_o:Zly (.stop n os ⟨s,m⟩)=some (n,os,s,m):=rfl
theorem ZyJ {f:A->A}:mapS f []=[]:=rfl
theorem ZtF {f:A->A} {t:Nat} {a:A} {r:List (Nat × A)}:mapS f ((t,a)::r)=(t,f a)::mapS f r:=rfl
theorem ZyK {k b k' off:Nat}:litV k b (.ref k' off)=if k'=k then .d (.one (.lit (.pointer (some ⟨b,off,none⟩)))) else .ref k' off:=rfl
theorem lv_d {k b:Nat} {x:D}:litV k b (.d x)=.d x:=rfl
theorem ZyL {k b k':Nat}:litV k b (.buf k')=.buf k':=rfl
theorem ZyM {k b k' j sz off:Nat}:litV k b (.row k' j sz off)=.row k' j sz off:=rfl
theorem ZyN {k b:Nat} {xs:List D}:litV k b (.tup xs)=.tup xs:=rfl
theorem ZDE {k b:Nat}:litV k b .no=.no:=rfl
theorem ZDF {k b:Nat}:litV k b .undef=.undef:=rfl
theorem ZyO {k k2 cap k':Nat} {p:Option Addr}:litB k p k2 cap (.buf k')=if k'=k then .d (.one (.lit (.slice p k2 cap))) else .buf k':=rfl
theorem lb_d {k k2 cap:Nat} {p:Option Addr} {x:D}:litB k p k2 cap (.d x)=.d x:=rfl
theorem ZyP {k k2 cap k' off:Nat} {p:Option Addr}:litB k p k2 cap (.ref k' off)=.ref k' off:=rfl
theorem ZyQ {k k2 cap k' j sz off:Nat} {p:Option Addr}:litB k p k2 cap (.row k' j sz off)=.row k' j sz off:=rfl
theorem ZyR {k k2 cap:Nat} {p:Option Addr} {xs:List D}:litB k p k2 cap (.tup xs)=.tup xs:=rfl
theorem ZDG {k k2 cap:Nat} {p:Option Addr}:litB k p k2 cap .no=.no:=rfl
theorem ZDH {k k2 cap:Nat} {p:Option Addr}:litB k p k2 cap .undef=.undef:=rfl
theorem ZyS:ZcY [] s=s:=rfl
theorem ZtG {k:Nat} {ks:List Nat}:ZcY (k::ks) s=ZcY ks (Zau k s):=rfl
theorem ZyT:Zc4 [] m=m:=rfl
theorem ZtH {k:Nat} {ks:List Nat}:Zc4 (k::ks) m=Zc4 ks (remM k m):=rfl
theorem ZtI {k:Nat} {ks:List Nat} {x:Bk} {xs:List Bk}:zipM (k::ks) (x::xs)=(k,x)::zipM ks xs:=rfl
theorem ZyU {xs:List Bk}:zipM [] xs=[]:=rfl
theorem ZDI {ks:List Nat}:zipM ks []=[]:=by cases ks <;> rfl
def getC:Option Bk->Option (List Bk)->Option (List Bk)
 | some x,some r=>some (x::r)
 | _,_=>none
theorem ZyV:getM m []=some []:=rfl
theorem ZtJ {k:Nat} {ks:List Nat}:getM m (k::ks)=getC (gm m k) (getM m ks):=by
 show (match gm m k,getM m ks with | some x,some r=>some (x::r) | _,_=>none)=_
 cases gm m k <;> cases getM m ks <;> rfl
theorem gt_c {x:Bk} {r:List Bk}:getC (some x) (some r)=some (x::r):=rfl
theorem ZyW {b:Nat} {cs:List C}:pinned (.var (some b) cs)=true:=rfl
theorem ZyX {q:Option Addr × Nat} {e sz:Nat} {rows:List (List C)}:pinned (.buf (some q) e sz rows)=true:=rfl
theorem ZyY {E:Nat->Prop} {G:World->Prop}:pinned (.set E G)=true:=rfl
theorem ZDJ {p p':Option Addr} {k cap k' cap':Nat} {rows:List (List C)}:datC p k cap rows (.lit (.slice p' k' cap'))=if p'=p∧k'=k∧cap'=cap then .sl rows else .lit (.slice p' k' cap'):=rfl
theorem ZyZ {p:Option Addr} {k cap:Nat} {rows:List (List C)} {kk:IntKind} {i:Int}:datC p k cap rows (.lit (.int kk i))=.lit (.int kk i):=rfl
theorem Zy0 {p:Option Addr} {k cap:Nat} {rows:List (List C)} {b:ByteArray}:datC p k cap rows (.lit (.string b))=.lit (.string b):=rfl
theorem ZtK {p:Option Addr} {k cap:Nat} {rows:List (List C)} {b:Bool}:datC p k cap rows (.lit (.bool b))=.lit (.bool b):=rfl
theorem Zy1 {p:Option Addr} {k cap:Nat} {rows:List (List C)} {q:Option Addr}:datC p k cap rows (.lit (.pointer q))=.lit (.pointer q):=rfl
theorem Zy2 {p:Option Addr} {k cap:Nat} {rows:List (List C)} {q:Option Nat}:datC p k cap rows (.lit (.map q))=.lit (.map q):=rfl
theorem dc_s {p:Option Addr} {k cap:Nat} {rows rs:List (List C)}:datC p k cap rows (.sl rs)=.sl rs:=rfl
theorem dc_p {p:Option Addr} {k cap:Nat} {rows:List (List C)} {cs:List C}:datC p k cap rows (.ptr cs)=.ptr cs:=rfl
theorem dc_f {p:Option Addr} {k cap:Nat} {rows:List (List C)} {f:FuncId} {cs:List C}:datC p k cap rows (.fn f cs)=.fn f cs:=rfl
theorem Zy3 {p:Option Addr} {k cap:Nat} {rows:List (List C)} {c:C}:datA p k cap rows (.d (.one c))=.d (.one (datC p k cap rows c)):=rfl
theorem Zy4 {p:Option Addr} {k cap:Nat} {rows:List (List C)} {cs:List C}:datA p k cap rows (.d (.agg cs))=.d (.agg (cs.map (datC p k cap rows))):=rfl
theorem Zy5 {p:Option Addr} {k cap k' off:Nat} {rows:List (List C)}:datA p k cap rows (.ref k' off)=.ref k' off:=rfl
theorem Zy6 {p:Option Addr} {k cap:Nat} {rows:List (List C)}:datS p k cap rows [] s=s:=rfl
theorem ZtL {p:Option Addr} {k cap t:Nat} {rows:List (List C)} {ts:List Nat}:datS p k cap rows (t::ts) s=datS p k cap rows ts ((t,datA p k cap rows (gs s t))::s):=rfl
theorem Zy7 {p:Option Addr} {k cap:Nat} {rows:List (List C)}:datM p k cap rows [] m=m:=rfl
theorem ZtM {p:Option Addr} {k cap t:Nat} {rows:List (List C)} {ts:List Nat}:datM p k cap rows (t::ts) m=datM p k cap rows ts (datV p k cap rows t m (gm m t)):=rfl
theorem Zy8 {p:Option Addr} {k cap t:Nat} {rows:List (List C)} {o:Option Nat} {cs:List C}:datV p k cap rows t m (some (.var o cs))=(t,.var o (cs.map (datC p k cap rows)))::remM t m:=rfl
def unD:A->Option D
 | .d x=>some x
 | _=>none
def Zo1:Option D->Option (List D)->Option (List D)
 | some x,some r=>some (x::r)
 | _,_=>none
def resD (P:Program) (σ:St):List RS->Option (List D)
 | []=>some []
 | t::ts=>Zo1 (unD (resA P σ t)) (resD P σ ts)
theorem Zy9:resD P ⟨s,m⟩ []=some []:=rfl
theorem ZtN {t:RS} {ts:List RS}:resD P ⟨s,m⟩ (t::ts)=Zo1 (unD (resA P ⟨s,m⟩ t)) (resD P ⟨s,m⟩ ts):=rfl
theorem ZtO {x:D} {r:List D}:Zo1 (some x) (some r)=some (x::r):=rfl
theorem ud_d {x:D}:unD (.d x)=some x:=rfl
end
theorem Zfe {P:Program} {σ:St}:∀ {ts:List RS} {r:List D},resD P σ ts=some r->Zc6 P σ ts r
 | [],r,h=>by simp only [resD,Tap] at h;subst h;trivial
 | t::ts,r,h=>by
  simp only [resD] at h
  unfold Zo1 at h
  split at h
  ·rename_i x r' hx hr
   injection h with h;subst h
   refine ⟨?_,Zfe hr⟩
   unfold unD at hx
   split at hx
   ·rename_i y hy;injection hx with hx;subst hx;exact hy
   ·cases hx
  ·cases h
end Go.Proofs.YtffmjghcpgpfpaaGreatDoor
set_option maxRecDepth 10000
namespace Go.Proofs.YtffmjghcpgpfpaaGreatDoor
open Go.RowKit
theorem kt2:ZaJ Tryz.prog 2=some .one:=by kernel_rfl
theorem zt2:ZaK Tryz.prog 2=some 1:=by kernel_rfl
theorem ot2:ZaC Tryz.prog 2=some [.lit (.int .i64 0)]:=by kernel_rfl
theorem kt3:ZaJ Tryz.prog 3=some .one:=by kernel_rfl
theorem zt3:ZaK Tryz.prog 3=some 1:=by kernel_rfl
theorem ot3:ZaC Tryz.prog 3=some [.lit (.int .i64 0)]:=by kernel_rfl
theorem kt4:ZaJ Tryz.prog 4=some .one:=by kernel_rfl
theorem zt4:ZaK Tryz.prog 4=some 1:=by kernel_rfl
theorem ot4:ZaC Tryz.prog 4=some [.lit (.bool false)]:=by kernel_rfl
theorem ut4:Tryz.prog.underlying 4=some .bool:=by kernel_rfl
theorem kt5:ZaJ Tryz.prog 5=some .one:=by kernel_rfl
theorem zt5:ZaK Tryz.prog 5=some 1:=by kernel_rfl
theorem ot5:ZaC Tryz.prog 5=some [.lit (.int .u8 0)]:=by kernel_rfl
theorem kt9:ZaJ Tryz.prog 9=some .one:=by kernel_rfl
theorem zt9:ZaK Tryz.prog 9=some 1:=by kernel_rfl
theorem ot9:ZaC Tryz.prog 9=some [.lit (.string ByteArray.empty)]:=by kernel_rfl
theorem lt9:lenT Tryz.prog #[9]=some false:=by kernel_rfl
theorem ut9:Tryz.prog.underlying 9=some .string:=by kernel_rfl
theorem kt22:ZaJ Tryz.prog 22=some .one:=by kernel_rfl
theorem zt22:ZaK Tryz.prog 22=some 1:=by kernel_rfl
theorem ot22:ZaC Tryz.prog 22=some [.sl []]:=by kernel_rfl
theorem et22:Zbg Tryz.prog 22=some 1:=by kernel_rfl
theorem lt22:lenT Tryz.prog #[22]=some true:=by kernel_rfl
theorem bt22:Za1 Tryz.prog 22=some (9,1,16):=by kernel_rfl
theorem kt23:ZaJ Tryz.prog 23=some .one:=by kernel_rfl
theorem zt23:ZaK Tryz.prog 23=some 1:=by kernel_rfl
theorem ot23:ZaC Tryz.prog 23=some [.sl []]:=by kernel_rfl
theorem et23:Zbg Tryz.prog 23=some 2:=by kernel_rfl
theorem lt23:lenT Tryz.prog #[23]=some true:=by kernel_rfl
theorem bt23:Za1 Tryz.prog 23=some (193,2,16):=by kernel_rfl
theorem kt25:ZaJ Tryz.prog 25=some (.agg 2):=by kernel_rfl
theorem zt25:ZaK Tryz.prog 25=some 2:=by kernel_rfl
theorem ot25:ZaC Tryz.prog 25=some [.sl [],.sl []]:=by kernel_rfl
theorem st25:ZaU Tryz.prog 25=true:=by kernel_rfl
theorem Zza:offT Tryz.prog 25 0=some (0,22):=by kernel_rfl
theorem Zzb:offT Tryz.prog 25 1=some (1,23):=by kernel_rfl
theorem kt26:ZaJ Tryz.prog 26=some .one:=by kernel_rfl
theorem zt26:ZaK Tryz.prog 26=some 1:=by kernel_rfl
theorem ot26:ZaC Tryz.prog 26=some [.sl []]:=by kernel_rfl
theorem et26:Zbg Tryz.prog 26=some 5:=by kernel_rfl
theorem lt26:lenT Tryz.prog #[26]=some true:=by kernel_rfl
theorem bt26:Za1 Tryz.prog 26=some (134,5,56):=by kernel_rfl
theorem kt28:ZaJ Tryz.prog 28=some (.agg 3):=by kernel_rfl
theorem zt28:ZaK Tryz.prog 28=some 3:=by kernel_rfl
theorem ot28:ZaC Tryz.prog 28=some [.sl [],.sl [],.sl []]:=by kernel_rfl
theorem st28:ZaU Tryz.prog 28=true:=by kernel_rfl
theorem Zzc:offT Tryz.prog 28 0=some (0,25):=by kernel_rfl
theorem Zzd:offT Tryz.prog 28 1=some (2,26):=by kernel_rfl
theorem kt29:ZaJ Tryz.prog 29=some .one:=by kernel_rfl
theorem zt29:ZaK Tryz.prog 29=some 1:=by kernel_rfl
theorem ot29:ZaC Tryz.prog 29=some [.sl []]:=by kernel_rfl
theorem et29:Zbg Tryz.prog 29=some 1:=by kernel_rfl
theorem lt29:lenT Tryz.prog #[29]=some true:=by kernel_rfl
theorem bt29:Za1 Tryz.prog 29=some (3,1,8):=by kernel_rfl
theorem kt30:ZaJ Tryz.prog 30=some .one:=by kernel_rfl
theorem zt30:ZaK Tryz.prog 30=some 1:=by kernel_rfl
theorem ot30:ZaC Tryz.prog 30=some [.sl []]:=by kernel_rfl
theorem et30:Zbg Tryz.prog 30=some 4:=by kernel_rfl
theorem lt30:lenT Tryz.prog #[30]=some true:=by kernel_rfl
theorem bt30:Za1 Tryz.prog 30=some (32,4,56):=by kernel_rfl
theorem kt32:ZaJ Tryz.prog 32=some (.agg 4):=by kernel_rfl
theorem zt32:ZaK Tryz.prog 32=some 4:=by kernel_rfl
theorem ot32:ZaC Tryz.prog 32=some [.lit (.int .i64 0),.lit (.string ByteArray.empty),.lit (.int .i64 0),.sl []]:=by kernel_rfl
theorem st32:ZaU Tryz.prog 32=true:=by kernel_rfl
theorem Zze:offT Tryz.prog 32 0=some (0,3):=by kernel_rfl
theorem Zzf:offT Tryz.prog 32 1=some (1,9):=by kernel_rfl
theorem Zzg:offT Tryz.prog 32 2=some (2,3):=by kernel_rfl
theorem Zzh:offT Tryz.prog 32 3=some (3,30):=by kernel_rfl
theorem kt36:ZaJ Tryz.prog 36=some .one:=by kernel_rfl
theorem zt36:ZaK Tryz.prog 36=some 1:=by kernel_rfl
theorem ot36:ZaC Tryz.prog 36=some [.sl []]:=by kernel_rfl
theorem et36:Zbg Tryz.prog 36=some 2:=by kernel_rfl
theorem lt36:lenT Tryz.prog #[36]=some true:=by kernel_rfl
theorem bt36:Za1 Tryz.prog 36=some (191,2,16):=by kernel_rfl
theorem kt38:ZaJ Tryz.prog 38=some (.agg 2):=by kernel_rfl
theorem zt38:ZaK Tryz.prog 38=some 2:=by kernel_rfl
theorem ot38:ZaC Tryz.prog 38=some [.sl [],.sl []]:=by kernel_rfl
theorem st38:ZaU Tryz.prog 38=true:=by kernel_rfl
theorem xt38:Zdp Tryz.prog 38=some [.lit (.slice none 0 0),.lit (.slice none 0 0)]:=by kernel_rfl
theorem Zzi:offT Tryz.prog 38 0=some (0,22):=by kernel_rfl
theorem Zzj:offT Tryz.prog 38 1=some (1,36):=by kernel_rfl
theorem kt39:ZaJ Tryz.prog 39=some .one:=by kernel_rfl
theorem zt39:ZaK Tryz.prog 39=some 1:=by kernel_rfl
theorem ot39:ZaC Tryz.prog 39=some [.sl []]:=by kernel_rfl
theorem et39:Zbg Tryz.prog 39=some 5:=by kernel_rfl
theorem lt39:lenT Tryz.prog #[39]=some true:=by kernel_rfl
theorem bt39:Za1 Tryz.prog 39=some (137,5,56):=by kernel_rfl
theorem kt41:ZaJ Tryz.prog 41=some (.agg 3):=by kernel_rfl
theorem zt41:ZaK Tryz.prog 41=some 3:=by kernel_rfl
theorem ot41:ZaC Tryz.prog 41=some [.sl [],.sl [],.sl []]:=by kernel_rfl
theorem st41:ZaU Tryz.prog 41=true:=by kernel_rfl
theorem xt41:Zdp Tryz.prog 41=some [.lit (.slice none 0 0),.lit (.slice none 0 0),.lit (.slice none 0 0)]:=by kernel_rfl
theorem Zzk:offT Tryz.prog 41 0=some (0,38):=by kernel_rfl
theorem Zzl:offT Tryz.prog 41 1=some (2,39):=by kernel_rfl
theorem kt44:ZaJ Tryz.prog 44=some .one:=by kernel_rfl
theorem zt44:ZaK Tryz.prog 44=some 1:=by kernel_rfl
theorem ot44:ZaC Tryz.prog 44=some [.sl []]:=by kernel_rfl
theorem et44:Zbg Tryz.prog 44=some 4:=by kernel_rfl
theorem lt44:lenT Tryz.prog #[44]=some true:=by kernel_rfl
theorem bt44:Za1 Tryz.prog 44=some (46,4,56):=by kernel_rfl
theorem kt46:ZaJ Tryz.prog 46=some (.agg 4):=by kernel_rfl
theorem zt46:ZaK Tryz.prog 46=some 4:=by kernel_rfl
theorem ot46:ZaC Tryz.prog 46=some [.lit (.int .i64 0),.lit (.string ByteArray.empty),.lit (.int .i64 0),.sl []]:=by kernel_rfl
theorem st46:ZaU Tryz.prog 46=true:=by kernel_rfl
theorem xt46:Zdp Tryz.prog 46=some [.lit (.int .i64 0),.lit (.string ByteArray.empty),.lit (.int .i64 0),.lit (.slice none 0 0)]:=by kernel_rfl
theorem Zzm:offT Tryz.prog 46 0=some (0,3):=by kernel_rfl
theorem Zzn:offT Tryz.prog 46 1=some (1,9):=by kernel_rfl
theorem Zzo:offT Tryz.prog 46 2=some (2,3):=by kernel_rfl
theorem Zzp:offT Tryz.prog 46 3=some (3,44):=by kernel_rfl
theorem kt52:ZaJ Tryz.prog 52=some .one:=by kernel_rfl
theorem zt52:ZaK Tryz.prog 52=some 1:=by kernel_rfl
theorem ot52:ZaC Tryz.prog 52=some [.sl []]:=by kernel_rfl
theorem et52:Zbg Tryz.prog 52=some 8:=by kernel_rfl
theorem lt52:lenT Tryz.prog #[52]=some true:=by kernel_rfl
theorem bt52:Za1 Tryz.prog 52=some (100,8,112):=by kernel_rfl
theorem kt55:ZaJ Tryz.prog 55=some .one:=by kernel_rfl
theorem zt55:ZaK Tryz.prog 55=some 1:=by kernel_rfl
theorem ot55:ZaC Tryz.prog 55=some [.sl []]:=by kernel_rfl
theorem et55:Zbg Tryz.prog 55=some 8:=by kernel_rfl
theorem lt55:lenT Tryz.prog #[55]=some true:=by kernel_rfl
theorem bt55:Za1 Tryz.prog 55=some (102,8,112):=by kernel_rfl
theorem kt68:ZaJ Tryz.prog 68=some .one:=by kernel_rfl
theorem zt68:ZaK Tryz.prog 68=some 1:=by kernel_rfl
theorem ot68:ZaC Tryz.prog 68=some [.sl []]:=by kernel_rfl
theorem et68:Zbg Tryz.prog 68=some 9:=by kernel_rfl
theorem lt68:lenT Tryz.prog #[68]=some true:=by kernel_rfl
theorem bt68:Za1 Tryz.prog 68=some (176,9,136):=by kernel_rfl
theorem kt70:ZaJ Tryz.prog 70=some (.agg 5):=by kernel_rfl
theorem zt70:ZaK Tryz.prog 70=some 5:=by kernel_rfl
theorem ot70:ZaC Tryz.prog 70=some [.sl [],.sl [],.sl [],.sl [],.sl []]:=by kernel_rfl
theorem st70:ZaU Tryz.prog 70=true:=by kernel_rfl
theorem Zzq:offT Tryz.prog 70 0=some (0,28):=by kernel_rfl
theorem Zzr:offT Tryz.prog 70 1=some (3,68):=by kernel_rfl
theorem Zzs:offT Tryz.prog 70 2=some (4,68):=by kernel_rfl
theorem kt73:ZaJ Tryz.prog 73=some .one:=by kernel_rfl
theorem zt73:ZaK Tryz.prog 73=some 1:=by kernel_rfl
theorem ot73:ZaC Tryz.prog 73=some [.sl []]:=by kernel_rfl
theorem et73:Zbg Tryz.prog 73=some 9:=by kernel_rfl
theorem lt73:lenT Tryz.prog #[73]=some true:=by kernel_rfl
theorem bt73:Za1 Tryz.prog 73=some (124,9,136):=by kernel_rfl
theorem kt75:ZaJ Tryz.prog 75=some (.agg 5):=by kernel_rfl
theorem zt75:ZaK Tryz.prog 75=some 5:=by kernel_rfl
theorem ot75:ZaC Tryz.prog 75=some [.sl [],.sl [],.sl [],.sl [],.sl []]:=by kernel_rfl
theorem st75:ZaU Tryz.prog 75=true:=by kernel_rfl
theorem xt75:Zdp Tryz.prog 75=some [.lit (.slice none 0 0),.lit (.slice none 0 0),.lit (.slice none 0 0),.lit (.slice none 0 0),.lit (.slice none 0 0)]:=by kernel_rfl
theorem Zzt:offT Tryz.prog 75 0=some (0,41):=by kernel_rfl
theorem Zzu:offT Tryz.prog 75 1=some (3,73):=by kernel_rfl
theorem Zzv:offT Tryz.prog 75 2=some (4,73):=by kernel_rfl
theorem kt87:ZaJ Tryz.prog 87=some .one:=by kernel_rfl
theorem zt87:ZaK Tryz.prog 87=some 1:=by kernel_rfl
theorem kt91:ZaJ Tryz.prog 91=some .one:=by kernel_rfl
theorem zt91:ZaK Tryz.prog 91=some 1:=by kernel_rfl
theorem kt93:ZaJ Tryz.prog 93=some (.agg 3):=by kernel_rfl
theorem zt93:ZaK Tryz.prog 93=some 3:=by kernel_rfl
theorem ot93:ZaC Tryz.prog 93=some [.lit (.pointer none),.sl [],.lit (.map none)]:=by kernel_rfl
theorem st93:ZaU Tryz.prog 93=true:=by kernel_rfl
theorem xt93:Zdp Tryz.prog 93=some [.lit (.pointer none),.lit (.slice none 0 0),.lit (.map none)]:=by kernel_rfl
theorem Zzw:offT Tryz.prog 93 0=some (0,87):=by kernel_rfl
theorem Zzx:offT Tryz.prog 93 1=some (1,29):=by kernel_rfl
theorem Zzy:offT Tryz.prog 93 2=some (2,91):=by kernel_rfl
theorem ZDK:ZaJ Tryz.prog 100=some (.agg 8):=by kernel_rfl
theorem ZDL:ZaK Tryz.prog 100=some 8:=by kernel_rfl
theorem ZDM:ZaC Tryz.prog 100=some [.lit (.int .i64 0),.lit (.string ByteArray.empty),.lit (.int .i64 0),.sl [],.lit (.int .i64 0),.lit (.string ByteArray.empty),.lit (.int .i64 0),.sl []]:=by kernel_rfl
theorem ZDN:ZaU Tryz.prog 100=true:=by kernel_rfl
theorem ZtP:offT Tryz.prog 100 0=some (0,32):=by kernel_rfl
theorem ZtQ:offT Tryz.prog 100 1=some (4,32):=by kernel_rfl
theorem ZDO:ZaJ Tryz.prog 102=some (.agg 8):=by kernel_rfl
theorem ZDP:ZaK Tryz.prog 102=some 8:=by kernel_rfl
theorem ZDQ:ZaC Tryz.prog 102=some [.lit (.int .i64 0),.lit (.string ByteArray.empty),.lit (.int .i64 0),.sl [],.lit (.int .i64 0),.lit (.string ByteArray.empty),.lit (.int .i64 0),.sl []]:=by kernel_rfl
theorem ZDR:ZaU Tryz.prog 102=true:=by kernel_rfl
theorem ZDS:Zdp Tryz.prog 102=some [.lit (.int .i64 0),.lit (.string ByteArray.empty),.lit (.int .i64 0),.lit (.slice none 0 0),.lit (.int .i64 0),.lit (.string ByteArray.empty),.lit (.int .i64 0),.lit (.slice none 0 0)]:=by kernel_rfl
theorem ZtR:offT Tryz.prog 102 0=some (0,46):=by kernel_rfl
theorem ZtS:offT Tryz.prog 102 1=some (4,46):=by kernel_rfl
theorem ZDT:ZaJ Tryz.prog 122=some .one:=by kernel_rfl
theorem ZDU:ZaK Tryz.prog 122=some 1:=by kernel_rfl
theorem ZDV:ZaC Tryz.prog 122=some [.sl []]:=by kernel_rfl
theorem ZDW:Zbg Tryz.prog 122=some 8:=by kernel_rfl
theorem ZDX:lenT Tryz.prog #[122]=some true:=by kernel_rfl
theorem ZDY:Za1 Tryz.prog 122=some (229,8,112):=by kernel_rfl
theorem ZDZ:ZaJ Tryz.prog 124=some (.agg 9):=by kernel_rfl
theorem ZD0:ZaK Tryz.prog 124=some 9:=by kernel_rfl
theorem ZD1:ZaC Tryz.prog 124=some [.lit (.int .i64 0),.lit (.string ByteArray.empty),.lit (.int .i64 0),.sl [],.lit (.int .i64 0),.lit (.string ByteArray.empty),.lit (.int .i64 0),.sl [],.sl []]:=by kernel_rfl
theorem ZD2:ZaU Tryz.prog 124=true:=by kernel_rfl
theorem ZD3:Zdp Tryz.prog 124=some [.lit (.int .i64 0),.lit (.string ByteArray.empty),.lit (.int .i64 0),.lit (.slice none 0 0),.lit (.int .i64 0),.lit (.string ByteArray.empty),.lit (.int .i64 0),.lit (.slice none 0 0),.lit (.slice none 0 0)]:=by kernel_rfl
theorem ZtT:offT Tryz.prog 124 0=some (0,46):=by kernel_rfl
theorem ZtU:offT Tryz.prog 124 1=some (4,46):=by kernel_rfl
theorem ZtV:offT Tryz.prog 124 2=some (8,122):=by kernel_rfl
theorem ZD4:ZaJ Tryz.prog 132=some .one:=by kernel_rfl
theorem ZD5:ZaK Tryz.prog 132=some 1:=by kernel_rfl
theorem ZD6:ZaC Tryz.prog 132=some [.sl []]:=by kernel_rfl
theorem ZD7:Zbg Tryz.prog 132=some 2:=by kernel_rfl
theorem ZD8:lenT Tryz.prog #[132]=some true:=by kernel_rfl
theorem ZD9:Za1 Tryz.prog 132=some (239,2,32):=by kernel_rfl
theorem ZEa:ZaJ Tryz.prog 134=some (.agg 5):=by kernel_rfl
theorem ZEb:ZaK Tryz.prog 134=some 5:=by kernel_rfl
theorem ZEc:ZaC Tryz.prog 134=some [.lit (.string ByteArray.empty),.sl [],.lit (.bool false),.lit (.bool false),.lit (.int .i64 0)]:=by kernel_rfl
theorem ZEd:ZaU Tryz.prog 134=true:=by kernel_rfl
theorem ZtW:offT Tryz.prog 134 0=some (0,9):=by kernel_rfl
theorem ZtX:offT Tryz.prog 134 1=some (1,132):=by kernel_rfl
theorem ZtY:offT Tryz.prog 134 2=some (2,4):=by kernel_rfl
theorem ZtZ:offT Tryz.prog 134 3=some (3,4):=by kernel_rfl
theorem Zt0:offT Tryz.prog 134 4=some (4,3):=by kernel_rfl
theorem ZEe:ZaJ Tryz.prog 135=some .one:=by kernel_rfl
theorem ZEf:ZaK Tryz.prog 135=some 1:=by kernel_rfl
theorem ZEg:ZaC Tryz.prog 135=some [.sl []]:=by kernel_rfl
theorem ZEh:Zbg Tryz.prog 135=some 2:=by kernel_rfl
theorem ZEi:lenT Tryz.prog #[135]=some true:=by kernel_rfl
theorem ZEj:Za1 Tryz.prog 135=some (199,2,32):=by kernel_rfl
theorem ZEk:ZaJ Tryz.prog 137=some (.agg 5):=by kernel_rfl
theorem ZEl:ZaK Tryz.prog 137=some 5:=by kernel_rfl
theorem ZEm:ZaC Tryz.prog 137=some [.lit (.string ByteArray.empty),.sl [],.lit (.bool false),.lit (.bool false),.lit (.int .i64 0)]:=by kernel_rfl
theorem ZEn:ZaU Tryz.prog 137=true:=by kernel_rfl
theorem ZEo:Zdp Tryz.prog 137=some [.lit (.string ByteArray.empty),.lit (.slice none 0 0),.lit (.bool false),.lit (.bool false),.lit (.int .i64 0)]:=by kernel_rfl
theorem Zt1:offT Tryz.prog 137 0=some (0,9):=by kernel_rfl
theorem Zt2:offT Tryz.prog 137 1=some (1,135):=by kernel_rfl
theorem Zt3:offT Tryz.prog 137 2=some (2,4):=by kernel_rfl
theorem Zt4:offT Tryz.prog 137 3=some (3,4):=by kernel_rfl
theorem Zt5:offT Tryz.prog 137 4=some (4,3):=by kernel_rfl
theorem ZEp:ZaJ Tryz.prog 143=some (.agg 3):=by kernel_rfl
theorem ZEq:ZaK Tryz.prog 143=some 3:=by kernel_rfl
theorem ZEr:ZaC Tryz.prog 143=some [.sl [],.sl [],.sl []]:=by kernel_rfl
theorem ZEs:ZaU Tryz.prog 143=true:=by kernel_rfl
theorem ZEt:Zdp Tryz.prog 143=some [.lit (.slice none 0 0),.lit (.slice none 0 0),.lit (.slice none 0 0)]:=by kernel_rfl
theorem Zt6:offT Tryz.prog 143 0=some (0,29):=by kernel_rfl
theorem Zt7:offT Tryz.prog 143 1=some (1,29):=by kernel_rfl
theorem Zt8:offT Tryz.prog 143 2=some (2,29):=by kernel_rfl
theorem ZEu:ZaJ Tryz.prog 146=some .one:=by kernel_rfl
theorem ZEv:ZaK Tryz.prog 146=some 1:=by kernel_rfl
theorem ZEw:ZaJ Tryz.prog 148=some (.agg 7):=by kernel_rfl
theorem ZEx:ZaK Tryz.prog 148=some 7:=by kernel_rfl
theorem ZEy:ZaC Tryz.prog 148=some [.sl [],.sl [],.sl [],.sl [],.sl [],.sl [],.lit (.map none)]:=by kernel_rfl
theorem ZEz:ZaU Tryz.prog 148=true:=by kernel_rfl
theorem ZEA:Zdp Tryz.prog 148=some [.lit (.slice none 0 0),.lit (.slice none 0 0),.lit (.slice none 0 0),.lit (.slice none 0 0),.lit (.slice none 0 0),.lit (.slice none 0 0),.lit (.map none)]:=by kernel_rfl
theorem Zt9:offT Tryz.prog 148 0=some (0,143):=by kernel_rfl
theorem Zua:offT Tryz.prog 148 1=some (3,41):=by kernel_rfl
theorem Zub:offT Tryz.prog 148 2=some (6,146):=by kernel_rfl
theorem ZEB:ZaJ Tryz.prog 162=some .one:=by kernel_rfl
theorem ZEC:ZaK Tryz.prog 162=some 1:=by kernel_rfl
theorem ZED:ZaC Tryz.prog 162=some [.sl []]:=by kernel_rfl
theorem ZEE:Zbg Tryz.prog 162=some 1:=by kernel_rfl
theorem ZEF:lenT Tryz.prog #[162]=some true:=by kernel_rfl
theorem ZEG:Za1 Tryz.prog 162=some (5,1,1):=by kernel_rfl
theorem ZEH:ZaJ Tryz.prog 168=some .one:=by kernel_rfl
theorem ZEI:ZaK Tryz.prog 168=some 1:=by kernel_rfl
theorem ZEJ:ZaC Tryz.prog 168=some [.lit (.int .u64 0)]:=by kernel_rfl
theorem ZEK:ZaJ Tryz.prog 174=some .one:=by kernel_rfl
theorem ZEL:ZaK Tryz.prog 174=some 1:=by kernel_rfl
theorem ZEM:ZaC Tryz.prog 174=some [.sl []]:=by kernel_rfl
theorem ZEN:Zbg Tryz.prog 174=some 8:=by kernel_rfl
theorem ZEO:lenT Tryz.prog #[174]=some true:=by kernel_rfl
theorem ZEP:Za1 Tryz.prog 174=some (259,8,112):=by kernel_rfl
theorem ZEQ:ZaJ Tryz.prog 176=some (.agg 9):=by kernel_rfl
theorem ZER:ZaK Tryz.prog 176=some 9:=by kernel_rfl
theorem ZES:ZaC Tryz.prog 176=some [.lit (.int .i64 0),.lit (.string ByteArray.empty),.lit (.int .i64 0),.sl [],.lit (.int .i64 0),.lit (.string ByteArray.empty),.lit (.int .i64 0),.sl [],.sl []]:=by kernel_rfl
theorem ZET:ZaU Tryz.prog 176=true:=by kernel_rfl
theorem Zuc:offT Tryz.prog 176 0=some (0,32):=by kernel_rfl
theorem Zud:offT Tryz.prog 176 1=some (4,32):=by kernel_rfl
theorem Zue:offT Tryz.prog 176 2=some (8,174):=by kernel_rfl
theorem ZEU:ZaJ Tryz.prog 191=some (.agg 2):=by kernel_rfl
theorem ZEV:ZaK Tryz.prog 191=some 2:=by kernel_rfl
theorem ZEW:ZaC Tryz.prog 191=some [.lit (.int .i64 0),.lit (.int .i64 0)]:=by kernel_rfl
theorem ZEX:ZaU Tryz.prog 191=true:=by kernel_rfl
theorem Zuf:offT Tryz.prog 191 0=some (0,3):=by kernel_rfl
theorem Zug:offT Tryz.prog 191 1=some (1,3):=by kernel_rfl
theorem ZEY:ZaJ Tryz.prog 193=some (.agg 2):=by kernel_rfl
theorem ZEZ:ZaK Tryz.prog 193=some 2:=by kernel_rfl
theorem ZE0:ZaC Tryz.prog 193=some [.lit (.int .i64 0),.lit (.int .i64 0)]:=by kernel_rfl
theorem ZE1:ZaU Tryz.prog 193=true:=by kernel_rfl
theorem Zuh:offT Tryz.prog 193 0=some (0,3):=by kernel_rfl
theorem Zui:offT Tryz.prog 193 1=some (1,3):=by kernel_rfl
theorem ZE2:ZaJ Tryz.prog 199=some (.agg 2):=by kernel_rfl
theorem ZE3:ZaK Tryz.prog 199=some 2:=by kernel_rfl
theorem ZE4:ZaC Tryz.prog 199=some [.sl [],.lit (.int .i64 0)]:=by kernel_rfl
theorem ZE5:ZaU Tryz.prog 199=true:=by kernel_rfl
theorem ZE6:Zdp Tryz.prog 199=some [.lit (.slice none 0 0),.lit (.int .i64 0)]:=by kernel_rfl
theorem Zuj:offT Tryz.prog 199 0=some (0,29):=by kernel_rfl
theorem Zuk:offT Tryz.prog 199 1=some (1,3):=by kernel_rfl
theorem ZE7:ZaJ Tryz.prog 229=some (.agg 8):=by kernel_rfl
theorem ZE8:ZaK Tryz.prog 229=some 8:=by kernel_rfl
theorem ZE9:ZaC Tryz.prog 229=some [.lit (.int .i64 0),.lit (.string ByteArray.empty),.lit (.int .i64 0),.sl [],.lit (.int .i64 0),.lit (.string ByteArray.empty),.lit (.int .i64 0),.sl []]:=by kernel_rfl
theorem ZFa:ZaU Tryz.prog 229=true:=by kernel_rfl
theorem ZFb:Zdp Tryz.prog 229=some [.lit (.int .i64 0),.lit (.string ByteArray.empty),.lit (.int .i64 0),.lit (.slice none 0 0),.lit (.int .i64 0),.lit (.string ByteArray.empty),.lit (.int .i64 0),.lit (.slice none 0 0)]:=by kernel_rfl
theorem Zul:offT Tryz.prog 229 0=some (0,46):=by kernel_rfl
theorem Zum:offT Tryz.prog 229 1=some (4,46):=by kernel_rfl
theorem ZFc:ZaJ Tryz.prog 234=some .one:=by kernel_rfl
theorem ZFd:ZaK Tryz.prog 234=some 1:=by kernel_rfl
theorem ZFe:ZaC Tryz.prog 234=some [.sl []]:=by kernel_rfl
theorem ZFf:Zbg Tryz.prog 234=some 1:=by kernel_rfl
theorem ZFg:lenT Tryz.prog #[234]=some true:=by kernel_rfl
theorem ZFh:Za1 Tryz.prog 234=some (73,1,24):=by kernel_rfl
theorem ZFi:ZaJ Tryz.prog 239=some (.agg 2):=by kernel_rfl
theorem ZFj:ZaK Tryz.prog 239=some 2:=by kernel_rfl
theorem ZFk:ZaC Tryz.prog 239=some [.sl [],.lit (.int .i64 0)]:=by kernel_rfl
theorem ZFl:ZaU Tryz.prog 239=true:=by kernel_rfl
theorem Zun:offT Tryz.prog 239 0=some (0,29):=by kernel_rfl
theorem Zuo:offT Tryz.prog 239 1=some (1,3):=by kernel_rfl
theorem ZFm:ZaJ Tryz.prog 248=some .one:=by kernel_rfl
theorem ZFn:ZaK Tryz.prog 248=some 1:=by kernel_rfl
theorem ZFo:ZaC Tryz.prog 248=some [.sl []]:=by kernel_rfl
theorem ZFp:Zbg Tryz.prog 248=some 1:=by kernel_rfl
theorem ZFq:lenT Tryz.prog #[248]=some true:=by kernel_rfl
theorem ZFr:Za1 Tryz.prog 248=some (29,1,24):=by kernel_rfl
theorem ZFs:ZaJ Tryz.prog 259=some (.agg 8):=by kernel_rfl
theorem ZFt:ZaK Tryz.prog 259=some 8:=by kernel_rfl
theorem ZFu:ZaC Tryz.prog 259=some [.lit (.int .i64 0),.lit (.string ByteArray.empty),.lit (.int .i64 0),.sl [],.lit (.int .i64 0),.lit (.string ByteArray.empty),.lit (.int .i64 0),.sl []]:=by kernel_rfl
theorem ZFv:ZaU Tryz.prog 259=true:=by kernel_rfl
theorem Zup:offT Tryz.prog 259 0=some (0,32):=by kernel_rfl
theorem Zuq:offT Tryz.prog 259 1=some (4,32):=by kernel_rfl
theorem tt_0:type_of% (ai kt2 (ai zt2 (ai ot2 (ai kt3 (ai zt3 (ai ot3 (ai kt4 (ai zt4 (ai ot4 (ai ut4 (ai kt5 (ai zt5 (ai ot5 (ai kt9 (ai zt9 (ai ot9 (ai lt9 (ai ut9 (ai kt22 (ai zt22 (ai ot22 (ai et22 (ai lt22 (ai bt22 (ai kt23 (ai zt23 (ai ot23 (ai et23 (ai lt23 (ai bt23 (ai kt25 (ai zt25 (ai ot25 (ai st25 (ai Zza (ai Zzb (ai kt26 (ai zt26 (ai ot26 (et26)))))))))))))))))))))))))))))))))))))))):=ai kt2 (ai zt2 (ai ot2 (ai kt3 (ai zt3 (ai ot3 (ai kt4 (ai zt4 (ai ot4 (ai ut4 (ai kt5 (ai zt5 (ai ot5 (ai kt9 (ai zt9 (ai ot9 (ai lt9 (ai ut9 (ai kt22 (ai zt22 (ai ot22 (ai et22 (ai lt22 (ai bt22 (ai kt23 (ai zt23 (ai ot23 (ai et23 (ai lt23 (ai bt23 (ai kt25 (ai zt25 (ai ot25 (ai st25 (ai Zza (ai Zzb (ai kt26 (ai zt26 (ai ot26 (et26)))))))))))))))))))))))))))))))))))))))
theorem tt_1:type_of% (ai lt26 (ai bt26 (ai kt28 (ai zt28 (ai ot28 (ai st28 (ai Zzc (ai Zzd (ai kt29 (ai zt29 (ai ot29 (ai et29 (ai lt29 (ai bt29 (ai kt30 (ai zt30 (ai ot30 (ai et30 (ai lt30 (ai bt30 (ai kt32 (ai zt32 (ai ot32 (ai st32 (ai Zze (ai Zzf (ai Zzg (ai Zzh (ai kt36 (ai zt36 (ai ot36 (ai et36 (ai lt36 (ai bt36 (ai kt38 (ai zt38 (ai ot38 (ai st38 (ai xt38 (Zzi)))))))))))))))))))))))))))))))))))))))):=ai lt26 (ai bt26 (ai kt28 (ai zt28 (ai ot28 (ai st28 (ai Zzc (ai Zzd (ai kt29 (ai zt29 (ai ot29 (ai et29 (ai lt29 (ai bt29 (ai kt30 (ai zt30 (ai ot30 (ai et30 (ai lt30 (ai bt30 (ai kt32 (ai zt32 (ai ot32 (ai st32 (ai Zze (ai Zzf (ai Zzg (ai Zzh (ai kt36 (ai zt36 (ai ot36 (ai et36 (ai lt36 (ai bt36 (ai kt38 (ai zt38 (ai ot38 (ai st38 (ai xt38 (Zzi)))))))))))))))))))))))))))))))))))))))
theorem tt_2:type_of% (ai Zzj (ai kt39 (ai zt39 (ai ot39 (ai et39 (ai lt39 (ai bt39 (ai kt41 (ai zt41 (ai ot41 (ai st41 (ai xt41 (ai Zzk (ai Zzl (ai kt44 (ai zt44 (ai ot44 (ai et44 (ai lt44 (ai bt44 (ai kt46 (ai zt46 (ai ot46 (ai st46 (ai xt46 (ai Zzm (ai Zzn (ai Zzo (ai Zzp (ai kt52 (ai zt52 (ai ot52 (ai et52 (ai lt52 (ai bt52 (ai kt55 (ai zt55 (ai ot55 (ai et55 (lt55)))))))))))))))))))))))))))))))))))))))):=ai Zzj (ai kt39 (ai zt39 (ai ot39 (ai et39 (ai lt39 (ai bt39 (ai kt41 (ai zt41 (ai ot41 (ai st41 (ai xt41 (ai Zzk (ai Zzl (ai kt44 (ai zt44 (ai ot44 (ai et44 (ai lt44 (ai bt44 (ai kt46 (ai zt46 (ai ot46 (ai st46 (ai xt46 (ai Zzm (ai Zzn (ai Zzo (ai Zzp (ai kt52 (ai zt52 (ai ot52 (ai et52 (ai lt52 (ai bt52 (ai kt55 (ai zt55 (ai ot55 (ai et55 (lt55)))))))))))))))))))))))))))))))))))))))
theorem tt_3:type_of% (ai bt55 (ai kt68 (ai zt68 (ai ot68 (ai et68 (ai lt68 (ai bt68 (ai kt70 (ai zt70 (ai ot70 (ai st70 (ai Zzq (ai Zzr (ai Zzs (ai kt73 (ai zt73 (ai ot73 (ai et73 (ai lt73 (ai bt73 (ai kt75 (ai zt75 (ai ot75 (ai st75 (ai xt75 (ai Zzt (ai Zzu (ai Zzv (ai kt87 (ai zt87 (ai kt91 (ai zt91 (ai kt93 (ai zt93 (ai ot93 (ai st93 (ai xt93 (ai Zzw (ai Zzx (Zzy)))))))))))))))))))))))))))))))))))))))):=ai bt55 (ai kt68 (ai zt68 (ai ot68 (ai et68 (ai lt68 (ai bt68 (ai kt70 (ai zt70 (ai ot70 (ai st70 (ai Zzq (ai Zzr (ai Zzs (ai kt73 (ai zt73 (ai ot73 (ai et73 (ai lt73 (ai bt73 (ai kt75 (ai zt75 (ai ot75 (ai st75 (ai xt75 (ai Zzt (ai Zzu (ai Zzv (ai kt87 (ai zt87 (ai kt91 (ai zt91 (ai kt93 (ai zt93 (ai ot93 (ai st93 (ai xt93 (ai Zzw (ai Zzx (Zzy)))))))))))))))))))))))))))))))))))))))
theorem tt_4:type_of% (ai ZDK (ai ZDL (ai ZDM (ai ZDN (ai ZtP (ai ZtQ (ai ZDO (ai ZDP (ai ZDQ (ai ZDR (ai ZDS (ai ZtR (ai ZtS (ai ZDT (ai ZDU (ai ZDV (ai ZDW (ai ZDX (ai ZDY (ai ZDZ (ai ZD0 (ai ZD1 (ai ZD2 (ai ZD3 (ai ZtT (ai ZtU (ai ZtV (ai ZD4 (ai ZD5 (ai ZD6 (ai ZD7 (ai ZD8 (ai ZD9 (ai ZEa (ai ZEb (ai ZEc (ai ZEd (ai ZtW (ai ZtX (ZtY)))))))))))))))))))))))))))))))))))))))):=ai ZDK (ai ZDL (ai ZDM (ai ZDN (ai ZtP (ai ZtQ (ai ZDO (ai ZDP (ai ZDQ (ai ZDR (ai ZDS (ai ZtR (ai ZtS (ai ZDT (ai ZDU (ai ZDV (ai ZDW (ai ZDX (ai ZDY (ai ZDZ (ai ZD0 (ai ZD1 (ai ZD2 (ai ZD3 (ai ZtT (ai ZtU (ai ZtV (ai ZD4 (ai ZD5 (ai ZD6 (ai ZD7 (ai ZD8 (ai ZD9 (ai ZEa (ai ZEb (ai ZEc (ai ZEd (ai ZtW (ai ZtX (ZtY)))))))))))))))))))))))))))))))))))))))
theorem tt_5:type_of% (ai ZtZ (ai Zt0 (ai ZEe (ai ZEf (ai ZEg (ai ZEh (ai ZEi (ai ZEj (ai ZEk (ai ZEl (ai ZEm (ai ZEn (ai ZEo (ai Zt1 (ai Zt2 (ai Zt3 (ai Zt4 (ai Zt5 (ai ZEp (ai ZEq (ai ZEr (ai ZEs (ai ZEt (ai Zt6 (ai Zt7 (ai Zt8 (ai ZEu (ai ZEv (ai ZEw (ai ZEx (ai ZEy (ai ZEz (ai ZEA (ai Zt9 (ai Zua (ai Zub (ai ZEB (ai ZEC (ai ZED (ZEE)))))))))))))))))))))))))))))))))))))))):=ai ZtZ (ai Zt0 (ai ZEe (ai ZEf (ai ZEg (ai ZEh (ai ZEi (ai ZEj (ai ZEk (ai ZEl (ai ZEm (ai ZEn (ai ZEo (ai Zt1 (ai Zt2 (ai Zt3 (ai Zt4 (ai Zt5 (ai ZEp (ai ZEq (ai ZEr (ai ZEs (ai ZEt (ai Zt6 (ai Zt7 (ai Zt8 (ai ZEu (ai ZEv (ai ZEw (ai ZEx (ai ZEy (ai ZEz (ai ZEA (ai Zt9 (ai Zua (ai Zub (ai ZEB (ai ZEC (ai ZED (ZEE)))))))))))))))))))))))))))))))))))))))
theorem tt_6:type_of% (ai ZEF (ai ZEG (ai ZEH (ai ZEI (ai ZEJ (ai ZEK (ai ZEL (ai ZEM (ai ZEN (ai ZEO (ai ZEP (ai ZEQ (ai ZER (ai ZES (ai ZET (ai Zuc (ai Zud (ai Zue (ai ZEU (ai ZEV (ai ZEW (ai ZEX (ai Zuf (ai Zug (ai ZEY (ai ZEZ (ai ZE0 (ai ZE1 (ai Zuh (ai Zui (ai ZE2 (ai ZE3 (ai ZE4 (ai ZE5 (ai ZE6 (ai Zuj (ai Zuk (ai ZE7 (ai ZE8 (ZE9)))))))))))))))))))))))))))))))))))))))):=ai ZEF (ai ZEG (ai ZEH (ai ZEI (ai ZEJ (ai ZEK (ai ZEL (ai ZEM (ai ZEN (ai ZEO (ai ZEP (ai ZEQ (ai ZER (ai ZES (ai ZET (ai Zuc (ai Zud (ai Zue (ai ZEU (ai ZEV (ai ZEW (ai ZEX (ai Zuf (ai Zug (ai ZEY (ai ZEZ (ai ZE0 (ai ZE1 (ai Zuh (ai Zui (ai ZE2 (ai ZE3 (ai ZE4 (ai ZE5 (ai ZE6 (ai Zuj (ai Zuk (ai ZE7 (ai ZE8 (ZE9)))))))))))))))))))))))))))))))))))))))
theorem tt_7:type_of% (ai ZFa (ai ZFb (ai Zul (ai Zum (ai ZFc (ai ZFd (ai ZFe (ai ZFf (ai ZFg (ai ZFh (ai ZFi (ai ZFj (ai ZFk (ai ZFl (ai Zun (ai Zuo (ai ZFm (ai ZFn (ai ZFo (ai ZFp (ai ZFq (ai ZFr (ai ZFs (ai ZFt (ai ZFu (ai ZFv (ai Zup (Zuq)))))))))))))))))))))))))))):=ai ZFa (ai ZFb (ai Zul (ai Zum (ai ZFc (ai ZFd (ai ZFe (ai ZFf (ai ZFg (ai ZFh (ai ZFi (ai ZFj (ai ZFk (ai ZFl (ai Zun (ai Zuo (ai ZFm (ai ZFn (ai ZFo (ai ZFp (ai ZFq (ai ZFr (ai ZFs (ai ZFt (ai ZFu (ai ZFv (ai Zup (Zuq)))))))))))))))))))))))))))
end Go.Proofs.YtffmjghcpgpfpaaGreatDoor
namespace Go.Proofs.YtffmjghcpgpfpaaGreatDoor
open Go.RowKit
theorem pm_0:type_of% (ai @ZlA (ai @Zw5 (ai @ro_n (ai @ro_g (ai @Zw6 (ai @pk_t (ai @pk_f (ai @sk_r (ai @g_no (ai @qB_0 (ai @qB_s (ai @Zw7 (ai @Zw8 (ai @Zw9 (ai @Zkn (ai @ZsC (ai @Zko (ai @ZsD (ai @ZCD (ai @R_un (ai @ZnA (ai @ZCE (ai @Zxa (ai @ZsE (ai @ZCF (ai @ZCG (ai @ZCH (ai @Zxb (ai @ZsF (@ZsG)))))))))))))))))))))))))))))):=ai @ZlA (ai @Zw5 (ai @ro_n (ai @ro_g (ai @Zw6 (ai @pk_t (ai @pk_f (ai @sk_r (ai @g_no (ai @qB_0 (ai @qB_s (ai @Zw7 (ai @Zw8 (ai @Zw9 (ai @Zkn (ai @ZsC (ai @Zko (ai @ZsD (ai @ZCD (ai @R_un (ai @ZnA (ai @ZCE (ai @Zxa (ai @ZsE (ai @ZCF (ai @ZCG (ai @ZCH (ai @Zxb (ai @ZsF (@ZsG)))))))))))))))))))))))))))))
theorem pm_1:type_of% (ai @Zi4 (ai @ZlC (ai @Zxc (ai @ZsH (ai @Zxd (ai @ZsI (ai @ZsJ (ai @ZsK (ai @Zxe (ai @ZsL (ai @Zpw (ai @ZCI (ai @fA_d (ai @Zxf (ai @ZCJ (ai @ZCK (ai @ZCL (ai @ZCM (ai @Zxg (ai @ky_d (ai @Zxh (ai @Zxi (ai @Zxj (ai @ZsM (ai @Zpx (ai @ZsN (ai @ZCN (ai @ZsO (ai @Zpy (@Zkp)))))))))))))))))))))))))))))):=ai @Zi4 (ai @ZlC (ai @Zxc (ai @ZsH (ai @Zxd (ai @ZsI (ai @ZsJ (ai @ZsK (ai @Zxe (ai @ZsL (ai @Zpw (ai @ZCI (ai @fA_d (ai @Zxf (ai @ZCJ (ai @ZCK (ai @ZCL (ai @ZCM (ai @Zxg (ai @ky_d (ai @Zxh (ai @Zxi (ai @Zxj (ai @ZsM (ai @Zpx (ai @ZsN (ai @ZCN (ai @ZsO (ai @Zpy (@Zkp)))))))))))))))))))))))))))))
theorem pm_2:type_of% (ai @Zpz (ai @Zxk (ai @Zxl (ai @ZsP (ai @ZsQ (ai @ZCO (ai @ZCP (ai @ZCQ (ai @ZCR (ai @s_bf (ai @ZsR (ai @ZsS (ai @ZCS (ai @ZCT (ai @Zxm (ai @ZCU (ai @ZCV (ai @ZCW (ai @ZCX (ai @ZsT (ai @ZsU (ai @ZsV (ai @ZCY (ai @Zxn (ai @Zxo (ai @Zxp (ai @Zxq (ai @kl_d (ai @Zxr (@ZpB)))))))))))))))))))))))))))))):=ai @Zpz (ai @Zxk (ai @Zxl (ai @ZsP (ai @ZsQ (ai @ZCO (ai @ZCP (ai @ZCQ (ai @ZCR (ai @s_bf (ai @ZsR (ai @ZsS (ai @ZCS (ai @ZCT (ai @Zxm (ai @ZCU (ai @ZCV (ai @ZCW (ai @ZCX (ai @ZsT (ai @ZsU (ai @ZsV (ai @ZCY (ai @Zxn (ai @Zxo (ai @Zxp (ai @Zxq (ai @kl_d (ai @Zxr (@ZpB)))))))))))))))))))))))))))))
theorem pm_3:type_of% (ai @ZCZ (ai @Zxs (ai @ZsW (ai @ZC0 (ai @ZsX (ai @Zxt (ai @ZsY (ai @ZsZ (ai @ib_d (ai @Zxu (ai @ZC1 (ai @Zs0 (ai @Zs1 (ai @Zxv (ai @ZC2 (ai @Zs2 (ai @Zxw (ai @ZC3 (ai @Zxx (ai @ZC4 (ai @t_sl (ai @ZC5 (ai @Zs6 (ai @Zs7 (ai @ZC7 (ai @ZC8 (ai @ZC9 (ai @Zxz (ai @ZDa (@ZDb)))))))))))))))))))))))))))))):=ai @ZCZ (ai @Zxs (ai @ZsW (ai @ZC0 (ai @ZsX (ai @Zxt (ai @ZsY (ai @ZsZ (ai @ib_d (ai @Zxu (ai @ZC1 (ai @Zs0 (ai @Zs1 (ai @Zxv (ai @ZC2 (ai @Zs2 (ai @Zxw (ai @ZC3 (ai @Zxx (ai @ZC4 (ai @t_sl (ai @ZC5 (ai @Zs6 (ai @Zs7 (ai @ZC7 (ai @ZC8 (ai @ZC9 (ai @Zxz (ai @ZDa (@ZDb)))))))))))))))))))))))))))))
theorem pm_4:type_of% (ai @Zs8 (ai @ZxA (ai @ZxB (ai @ZxC (ai @ZDc (ai @ZDd (ai @Zs9 (ai @ZxD (ai @ZxE (ai @Zta (ai @ZDe (ai @Ztb (ai @Ztc (ai @ZDf (ai @ZDg (ai @ZxF (ai @ZxG (ai @Ztd (ai @ZDh (ai @ZxH (ai @ZDi (ai @ZxI (ai @ZDj (ai @ZDk (ai @ZDl (ai @ZDm (ai @ZxJ (ai @Zte (ai @ZDn (@Ztf)))))))))))))))))))))))))))))):=ai @Zs8 (ai @ZxA (ai @ZxB (ai @ZxC (ai @ZDc (ai @ZDd (ai @Zs9 (ai @ZxD (ai @ZxE (ai @Zta (ai @ZDe (ai @Ztb (ai @Ztc (ai @ZDf (ai @ZDg (ai @ZxF (ai @ZxG (ai @Ztd (ai @ZDh (ai @ZxH (ai @ZDi (ai @ZxI (ai @ZDj (ai @ZDk (ai @ZDl (ai @ZDm (ai @ZxJ (ai @Zte (ai @ZDn (@Ztf)))))))))))))))))))))))))))))
theorem pm_5:type_of% (ai @ZxK (ai @Ztg (ai @ZDo (ai @ZDp (ai @ZDq (ai @Zth (ai @ZxL (ai @Zti (ai @Ztj (ai @ZDr (ai @Ztk (ai @Ztl (ai @ZxM (ai @Ztm (ai @Ztn (ai @ZxN (ai @Zto (ai @Ztp (ai @Ztq (ai @ZxO (ai @Ztr (ai @ZDs (ai @Zts (ai @Ztt (ai @ZxP (ai @ZpG (ai @Ztu (ai @Ztv (ai @Ztw (@Ztx)))))))))))))))))))))))))))))):=ai @ZxK (ai @Ztg (ai @ZDo (ai @ZDp (ai @ZDq (ai @Zth (ai @ZxL (ai @Zti (ai @Ztj (ai @ZDr (ai @Ztk (ai @Ztl (ai @ZxM (ai @Ztm (ai @Ztn (ai @ZxN (ai @Zto (ai @Ztp (ai @Ztq (ai @ZxO (ai @Ztr (ai @ZDs (ai @Zts (ai @Ztt (ai @ZxP (ai @ZpG (ai @Ztu (ai @Ztv (ai @Ztw (@Ztx)))))))))))))))))))))))))))))
theorem pm_6:type_of% (ai @sl_2 (ai @sl_3 (ai @ZxQ (ai @ZxR (ai @Zty (ai @ZxS (ai @Ztz (ai @ZxT (ai @ZxU (ai @ZDt (ai @ZxV (ai @ZDu (ai @ZxW (ai @ZDv (ai @ZxX (ai @ZtA (ai @ZDw (ai @cp_s (ai @cp_x (ai @ZDx (ai @co_z (ai @co_y (ai @ZDy (ai @ZtB (ai @ZtC (ai @ZDz (ai @ZDA (ai @r_no (ai @ZxY (@ZxZ)))))))))))))))))))))))))))))):=ai @sl_2 (ai @sl_3 (ai @ZxQ (ai @ZxR (ai @Zty (ai @ZxS (ai @Ztz (ai @ZxT (ai @ZxU (ai @ZDt (ai @ZxV (ai @ZDu (ai @ZxW (ai @ZDv (ai @ZxX (ai @ZtA (ai @ZDw (ai @cp_s (ai @cp_x (ai @ZDx (ai @co_z (ai @co_y (ai @ZDy (ai @ZtB (ai @ZtC (ai @ZDz (ai @ZDA (ai @r_no (ai @ZxY (@ZxZ)))))))))))))))))))))))))))))
theorem pm_7:type_of% (ai @Zx0 (ai @Zx1 (ai @Zx2 (ai @Zx3 (ai @Zx4 (ai @Zx5 (ai @Zx6 (ai @Zx7 (ai @Zx8 (ai @Zx9 (ai @Zya (ai @Zyb (ai @Zyc (ai @Zyd (ai @Zye (ai @Zyf (ai @Zyg (ai @Zyh (ai @bb_t (ai @Zyi (ai @ZDB (ai @Zyj (ai @ZnB (ai @Zyk (ai @Zyl (ai @Zym (ai @Zyn (ai @Zyo (ai @Zyp (@Zyq)))))))))))))))))))))))))))))):=ai @Zx0 (ai @Zx1 (ai @Zx2 (ai @Zx3 (ai @Zx4 (ai @Zx5 (ai @Zx6 (ai @Zx7 (ai @Zx8 (ai @Zx9 (ai @Zya (ai @Zyb (ai @Zyc (ai @Zyd (ai @Zye (ai @Zyf (ai @Zyg (ai @Zyh (ai @bb_t (ai @Zyi (ai @ZDB (ai @Zyj (ai @ZnB (ai @Zyk (ai @Zyl (ai @Zym (ai @Zyn (ai @Zyo (ai @Zyp (@Zyq)))))))))))))))))))))))))))))
theorem pm_8:type_of% (ai @Zyr (ai @ZDC (ai @nr_p (ai @nr_s (ai @nr_c (ai @nr_i (ai @Zys (ai @Zyt (ai @Zyu (ai @Zyv (ai @Zyw (ai @Zyx (ai @Zyy (ai @Zyz (ai @ZyA (ai @ZyB (ai @ZyC (ai @ZyD (ai @ZyE (ai @ZyF (ai @ZtD (ai @ZtE (ai @ZyG (ai @ZyH (ai @ZDD (ai @ZyI (ai @rn_0 (ai @rn_n (ai @rn_g (@st_o)))))))))))))))))))))))))))))):=ai @Zyr (ai @ZDC (ai @nr_p (ai @nr_s (ai @nr_c (ai @nr_i (ai @Zys (ai @Zyt (ai @Zyu (ai @Zyv (ai @Zyw (ai @Zyx (ai @Zyy (ai @Zyz (ai @ZyA (ai @ZyB (ai @ZyC (ai @ZyD (ai @ZyE (ai @ZyF (ai @ZtD (ai @ZtE (ai @ZyG (ai @ZyH (ai @ZDD (ai @ZyI (ai @rn_0 (ai @rn_n (ai @rn_g (@st_o)))))))))))))))))))))))))))))
theorem pm_9:type_of% (ai @ZyJ (ai @ZtF (ai @ZyK (ai @lv_d (ai @ZyL (ai @ZyM (ai @ZyN (ai @ZDE (ai @ZDF (ai @ZyO (ai @lb_d (ai @ZyP (ai @ZyQ (ai @ZyR (ai @ZDG (ai @ZDH (ai @ZyS (ai @ZtG (ai @ZyT (ai @ZtH (ai @ZtI (ai @ZyU (ai @ZDI (ai @ZyV (ai @ZtJ (ai @gt_c (ai @ZyW (ai @ZyX (ai @ZyY (@ZDJ)))))))))))))))))))))))))))))):=ai @ZyJ (ai @ZtF (ai @ZyK (ai @lv_d (ai @ZyL (ai @ZyM (ai @ZyN (ai @ZDE (ai @ZDF (ai @ZyO (ai @lb_d (ai @ZyP (ai @ZyQ (ai @ZyR (ai @ZDG (ai @ZDH (ai @ZyS (ai @ZtG (ai @ZyT (ai @ZtH (ai @ZtI (ai @ZyU (ai @ZDI (ai @ZyV (ai @ZtJ (ai @gt_c (ai @ZyW (ai @ZyX (ai @ZyY (@ZDJ)))))))))))))))))))))))))))))
theorem ZFw:type_of% (ai @ZyZ (ai @Zy0 (ai @ZtK (ai @Zy1 (ai @Zy2 (ai @dc_s (ai @dc_p (ai @dc_f (ai @Zy3 (ai @Zy4 (ai @Zy5 (ai @Zy6 (ai @ZtL (ai @Zy7 (ai @ZtM (ai @Zy8 (ai @Zy9 (ai @ZtN (ai @ZtO (@ud_d)))))))))))))))))))):=ai @ZyZ (ai @Zy0 (ai @ZtK (ai @Zy1 (ai @Zy2 (ai @dc_s (ai @dc_p (ai @dc_f (ai @Zy3 (ai @Zy4 (ai @Zy5 (ai @Zy6 (ai @ZtL (ai @Zy7 (ai @ZtM (ai @Zy8 (ai @Zy9 (ai @ZtN (ai @ZtO (@ud_d)))))))))))))))))))
theorem ZFx:type_of% (ai @ZC6 (ai @Zs3 (ai @Zs4 (ai @ZpC (ai @Zxy @Zs5))))):=(ai @ZC6 (ai @Zs3 (ai @Zs4 (ai @ZpC (ai @Zxy @Zs5)))))
def ZeC:List Nat->List (Nat × A)->List (Nat × A)
 | _,[]=>[]
 | ds,(k,a)::r=>if ds.elem k then ZeC ds r else (k,a)::ZeC (k::ds) r
def ZeD:List Nat->List (Nat × Bk)->List (Nat × Bk)
 | _,[]=>[]
 | ds,(k,a)::r=>if ds.elem k then ZeD ds r else (k,a)::ZeD (k::ds) r
theorem ZBC {s t:List (Nat × A)} (h:∀ p∈t,gs s p.1=p.2):Zcy s t:=by
 induction t with
 | nil=>exact trivial
 | cons p r ih=>exact ⟨h p Tar,ih fun q hq=>h q (Tak _ hq)⟩
theorem ZBD {s t:List (Nat × Bk)} (h:∀ p∈t,gm s p.1=some p.2):Zcz s t:=by
 induction t with
 | nil=>exact trivial
 | cons p r ih=>exact ⟨h p Tar,ih fun q hq=>h q (Tak _ hq)⟩
theorem Zzz:∀ {s:List (Nat × A)} {ds:List Nat} {p:Nat × A},p∈ZeC ds s->ds.elem p.1=false∧gs s p.1=p.2:=by
 intro s
 induction s with
 | nil=>intro ds p h;cases h
 | cons q r ih =>
  intro ds p h
  obtain ⟨k,a⟩:=q
  simp only [ZeC] at h
  by_cases hk:ds.elem k=true
  ·rw [if_pos hk] at h
   have:=ih h
   refine ⟨this.1,?_⟩
   rw [gs,if_neg ?_]
   ·exact this.2
   ·intro e;rw [e] at this;rw [hk] at this;cases this.1
  ·rw [if_neg hk] at h
   rcases Tbg.1 h with rfl | h
   ·exact ⟨by simpa using hk,by simp [gs]⟩
   ·have:=ih h
    have h1:=this.1
    rw [List.elem_cons] at h1
    have hne:¬ p.1=k:=by intro e;simp [e] at h1
    refine ⟨?_,?_⟩
    ·cases hb:(p.1==k) with
     | true=>rw [hb] at h1;cases h1
     | false=>rw [hb] at h1;exact h1
    ·rw [gs,if_neg hne];exact this.2
theorem ZzA:∀ {s:List (Nat × Bk)} {ds:List Nat} {p:Nat × Bk},p∈ZeD ds s->ds.elem p.1=false∧gm s p.1=some p.2:=by
 intro s
 induction s with
 | nil=>intro ds p h;cases h
 | cons q r ih =>
  intro ds p h
  obtain ⟨k,a⟩:=q
  simp only [ZeD] at h
  by_cases hk:ds.elem k=true
  ·rw [if_pos hk] at h
   have:=ih h
   refine ⟨this.1,?_⟩
   rw [gm,if_neg ?_]
   ·exact this.2
   ·intro e;rw [e] at this;rw [hk] at this;cases this.1
  ·rw [if_neg hk] at h
   rcases Tbg.1 h with rfl | h
   ·exact ⟨by simpa using hk,by simp [gm]⟩
   ·have:=ih h
    have h1:=this.1
    rw [List.elem_cons] at h1
    have hne:¬ p.1=k:=by intro e;simp [e] at h1
    refine ⟨?_,?_⟩
    ·cases hb:(p.1==k) with
     | true=>rw [hb] at h1;cases h1
     | false=>rw [hb] at h1;exact h1
    ·rw [gm,if_neg hne];exact this.2
theorem ZpH {s a b:List (Nat × A)}:Zcy s (a++b) ↔ Zcy s a∧Zcy s b:=by
 induction a with
 | nil=>simp [Zcy]
 | cons p r ih=>simp [Zcy,ih,and_assoc]
theorem ZpI {s a b:List (Nat × Bk)}:Zcz s (a++b) ↔ Zcz s a∧Zcz s b:=by
 induction a with
 | nil=>simp [Zcz]
 | cons p r ih=>simp [Zcz,ih,and_assoc]
theorem ZzB {e:Env} {mask:Nat} {Q:PX->St->Prop} {c:Code} {s:List (Nat × A)} {m:List (Nat × Bk)} {ι:Type} (ds dm:List Nat) (us:ι->List (Nat × A)) (ms:ι->List (Nat × Bk)) (ok:ι->Prop) (μ:ι->Nat) (x0:ι)
  {s0:List (Nat × A)} {m0:List (Nat × Bk)} (hs0:ZeC ds s=s0) (hm0:ZeD dm m=m0) {ss:ι->List (Nat × A)} {mm:ι->List (Nat × Bk)} (hss:∀ x,us x++s0=ss x) (hmm:∀ x,ms x++m0=mm x) (hs:Zcy s (us x0)) (hm:Zcz m (ms x0)) (h0:ok x0)
  (hr:∀ x,ok x->pwp e mask c ⟨ss x,mm x⟩ (fun p σ''=>match p with
   | .normal=>∃ y,ok y∧Zcy σ''.s (ss y)∧Zcz σ''.m (mm y)∧μ y < μ x
   | p=>Q p σ'')):pwp e mask (.loop c) ⟨s,m⟩ Q:=by
 refine ZBu (fun x=>⟨ss x,mm x⟩) ok μ x0 h0 ?_ ?_ hr
 ·show Zcy s (ss x0)
  rw [<- hss,ZpH,<- hs0]
  exact ⟨hs,ZBC fun p hp=>(Zzz hp).2⟩
 ·show Zcz m (mm x0)
  rw [<- hmm,ZpI,<- hm0]
  exact ⟨hm,ZBD fun p hp=>(ZzA hp).2⟩
theorem ZzC {e:Env} {mask:Nat} {Q:PX->St->Prop} {σ:St} {id:Nat} {l:List Oper} (h:∀ ds,l.map (·.dst)=ds->Runs e ds 0 l σ (ZcN mask Q)):pwp e mask (.region id l.toArray false) σ Q:=ZBA rfl (h _ rfl)
theorem Zam {e:Env} {mask:Nat} {Q:PX->St->Prop} {σ:St} {id:Nat} {l:List Oper} (n:Nat) (hr:regX l.toArray n=true) (h:∀ ds,l.map (·.dst)=ds->Runs e ds n l σ (ZcN mask Q)):pwp e mask (.region id l.toArray true) σ Q:=ZBB n hr rfl (h _ rfl)
theorem Zur {mask:Nat}:Zdo mask []=[]:=rfl
theorem Zus {mask k:Nat} {a:A} {r:List (Nat × A)}:Zdo mask ((k,a)::r)=if mask.testBit k=true then (k,a)::Zdo mask r else Zdo mask r:=rfl
theorem ZFy {m n:Nat}:m.testBit n=((1 &&& (m >>> n)) != 0):=rfl
def endR (mask:Nat):Res->Option (List (Nat × A) × List (Nat × Bk))
 | .done σ=>some (Zdo mask σ.s,σ.m)
 | _=>none
theorem ZzD {mask:Nat} {s:List (Nat × A)} {m:List (Nat × Bk)}:endR mask (.done ⟨s,m⟩)=some (Zdo mask s,m):=rfl
theorem reT {e:Env} {mask:Nat} {Q:PX->St->Prop} {ds:List (Option Nat)} {n:Nat} {os:List Oper} {σ:St} {s2:List (Nat × A)} {m2:List (Nat × Bk)} (h:endR mask (Zbw e.P ds n os σ)=some (s2,m2)) (hQ:Q .normal ⟨s2,m2⟩):Runs e ds n os σ (ZcN mask Q):=by
 cases hr:Zbw e.P ds n os σ with
 | bad=>rw [hr] at h;cases h
 | call q c args d n' os' σ'=>rw [hr] at h;cases h
 | map q d n' os' σ'=>rw [hr] at h;cases h
 | stop n' os' σ'=>rw [hr] at h;cases h
 | done σ' =>
  rw [hr] at h
  simp only [endR,Tap,Prod.mk.injEq] at h
  obtain ⟨h1,h2⟩:=h
  refine ZfI hr ?_
  unfold ZcN
  rw [h1,h2]
  exact hQ
def ZpJ:Res->Option (FuncId × List D × Option Nat × Nat × List Oper × St)
 | .call q c args d n os σ=>(Zfr q c args σ).map (fun x=>(x.1,x.2.1,d,n,os,x.2.2))
 | _=>none
theorem ZpK {q:Bool} {c:Operand} {args:List Operand} {d:Option Nat} {n:Nat} {os:List Oper} {σ:St}:ZpJ (.call q c args d n os σ)=(Zfr q c args σ).map (fun x=>(x.1,x.2.1,d,n,os,x.2.2)):=rfl
theorem rcT {e:Env} {K:St->Prop} {ds:List (Option Nat)} {n n':Nat} {os os':List Oper} {σ:St} {f:FuncId} {xs:List D} {d:Option Nat} {r:List D} {s2 s3:List (Nat × A)} {m2:List (Nat × Bk)} (h:ZpJ (Zbw e.P ds n os σ)=some (f,xs,d,n',os',⟨s2,m2⟩)) (hc:Con e f xs r) (h2:setA s2 d (retA r)=s3) (hK:Runs e ds n' os' ⟨s3,m2⟩ K):Runs e ds n os σ K:=by
 cases hr:Zbw e.P ds n os σ with
 | bad=>rw [hr] at h;cases h
 | done σ'=>rw [hr] at h;cases h
 | map q d n' os' σ'=>rw [hr] at h;cases h
 | stop n' os' σ'=>rw [hr] at h;cases h
 | call q c args d1 n1 os1 σ1 =>
  rw [hr] at h
  simp only [ZpJ,Tau,Prod.mk.injEq] at h
  obtain ⟨⟨f',xs',σ2⟩,h1,rfl,rfl,rfl,rfl,rfl,h3⟩:=h
  simp only at h3
  subst h3
  exact ZF1 hr h1 hc h2 hK
theorem wkI {e:Env} {mask:Nat} {Q:PX->St->Prop} {σ:St} {c:Code} (h:pwp e mask c σ Q):∃ σ1,Wk σ σ1∧pwp e mask c σ1 Q:=⟨σ,Wk.refl σ,h⟩
theorem Wk.trans {a b c:St} (h:Wk a b) (k:Wk b c):Wk a c:=by
 refine ⟨fun t=>?_,fun t x hx=>h.2 t x (k.2 t x hx)⟩
 rcases k.1 t with q | q
 ·rcases h.1 t with r | r
  ·exact .inl (q.trans r)
  ·exact .inr (q.trans r)
 ·exact .inr q
theorem ZzE {e:Env} {mask:Nat} {Q:PX->St->Prop} {a:Code} {s:List (Nat × A)} {m:List (Nat × Bk)} {ι:Type} (hQ:∀ σ σ1,Wk σ σ1->Q .normal σ1->Q .normal σ) (ds dm:List Nat) (us:ι->List (Nat × A)) (ms:ι->List (Nat × Bk)) (R:ι->Prop)
  {s0:List (Nat × A)} {m0:List (Nat × Bk)} (hs0:ZeC ds s=s0) (hm0:ZeD dm m=m0) {ss:ι->List (Nat × A)} {mm:ι->List (Nat × Bk)} (hss:∀ x,us x++s0=ss x) (hmm:∀ x,ms x++m0=mm x)
  (h:pwp e mask a ⟨s,m⟩ (fun x σ'=>match x with
   | .normal=>∃ y,R y∧Zcy σ'.s (ss y)∧Zcz σ'.m (mm y)
   | x=>Q x σ')) (hb:∀ x,R x->Q .normal ⟨ss x,mm x⟩):pwp e mask a ⟨s,m⟩ Q:=by
 refine ZBt (fun p σ' hq=>?_) a _ h
 cases p with
 | normal =>
  obtain ⟨y,h1,h2,h3⟩:=hq
  exact hQ _ _ ⟨fun t=>Zh2 h2,fun t x=>Zh3 h3⟩ (hb y h1)
 | exit id=>exact hq
 | ret=>exact hq
theorem ZeW {r:List C} (h:Zal (Zad .str) r):∃ x0:ByteArray,r=[.lit (.string x0)]∧x0.size<=maxLen:=by
 obtain ⟨c0,rfl⟩:=len1 h.len
 simp only [Zad,Zal,and_true] at h
 have h0:=h
 obtain ⟨x0,rfl,g0⟩:=Ze9 h0
 exact ⟨x0,rfl,g0⟩
def Zvt (rows:List (List C)):Prop:=∀ (S:Nat->Prop) (v:Value) (left:Int) (w:World),Zao (Zad .str) rows->Rep w S (.sl rows) v->0<=left->left<=1048576 ->
 Calls Tryz.prog 91 #[v,.int .i64 left] w fun e w'=>e=.returned (.int .i64 (sub left (rows.length+Zaf rows)))∧Below w.heap.size w w'
def Zvu (rows:List (List C)):Prop:=∀ (S S':Nat->Prop) (v v':Value) (w:World),Zao (Zad .str) rows->Rep w S (.sl rows) v->Rep w S' (.sl rows) v' ->
 Calls Tryz.prog 111 #[v,v'] w fun e w'=>e=.returned (.bool true)∧Below w.heap.size w w'
def Zvv (rows:List (List C)):Prop:=∀ (S:Nat->Prop) (v:Value) (w:World),Zao (Zad .str) rows->Rep w S (.sl rows) v->rows.length+Zaf rows<=1048576 ->
 Calls Tryz.prog 100 #[v] w fun e w'=>∃ v',e=.returned v'∧Own w' (.sl rows) (fun x=>w.heap.size<=x∧x < w'.heap.size) v'∧Below w.heap.size w w'
theorem Zoz (rows:List (List C)):Zvt rows:=by
 intro S v left w hok hv h0 h1
 obtain ⟨A,m,cap,rfl,hm,hmc,hcm⟩:=hv.form
 have HV:=Lib.hid hv
 have HM:=Lib.hid hm
 have HOK:=Lib.hid hok
 clear hv hm hok
 unfold maxLen at hcm
 by_cases hlt:left - m < 0
 ·rw [Zax (by have:=HM.out;omega)]
  go_enter Tryz.func91,Tryz.ntmps91
  go_wp2
  go_ret
  exact ⟨rfl,Below.refl _ _⟩
 ·go_enter Tryz.func91,Tryz.ntmps91
  go_wp2
  go_loopw [1,5] (fun l i wr=>∃ k:Nat,k<=m∧i=.int .i64 k∧l=.int .i64 (left - m - (Zaf (rows.take k):Int))∧0<=left - m - (Zaf (rows.take k):Int)∧Below w.heap.size w wr) (fun _ i _=>m - (intOf i).toNat)
  case atStart=>exact ⟨0,Tai _,rfl,by simp [Zaf],by simp [Zaf];omega,Below.refl _ _⟩
  case round =>
   obtain ⟨k,hk,rfl,rfl,hl0,hb⟩:=hrel
   by_cases hkm:k < m
   ·obtain ⟨b,off,r,rfl,hS,hbz,hget,hokr,hrow⟩:=(HV.out.below hb).get HOK.out hkm
    obtain ⟨u0,c0,hvals⟩:=hrow.vals1 hokr.len
    obtain ⟨x0,rfl,g0⟩:=ZeW hokr
    simp only [Zaa,Rep.lit_iff,and_true] at hvals
    subst hvals
    unfold maxLen at g0
    have hle:=ZcX rows (k+1)
    have HBT:=Lib.hid (ZdX hget)
    simp only [Zae,Zbr,Nat.add_zero] at HBT
    clear hokr hrow hget
    simp only [Zad,Taf,Taj,Nat.reduceAdd,Nat.mul_one] at c0
    by_cases h2:left - m - (Zaf (rows.take k):Int) - x0.size < 0
    ·go_wp2
     go_ret
     exact ⟨Zaw (a:=-1) (Zax (by have:=HBT.out;have:=HM.out;omega)).symm,hb⟩
    ·go_wp2
     go_roundw
     case rel=>exact ⟨k+1,by omega,by go_num,by have:=HBT.out;congr 1;omega,by have:=HBT.out;omega,hb⟩
     case measure=>simp [intOf];omega
   ·go_wp2
    go_ret
    have e:k=m:=by omega
    subst e
    have:rows.take k=rows:=List.take_of_length_le (by have:=HM.out;omega)
    rw [this] at hl0 ⊢
    exact ⟨Zaw (by have:=HM.out;rw [Za0 om];omega),hb⟩
theorem ZoA (rows:List (List C)):Zvu rows:=by
 intro S S' v v' w hok hv hv'
 obtain ⟨A,m,cap,rfl,hm,hmc,hcm⟩:=hv.form
 obtain ⟨A',m',cap',rfl,hm',hmc',hcm'⟩:=hv'.form
 obtain rfl:m=m':=by omega
 have HV:=Lib.hid hv
 have HV':=Lib.hid hv'
 have HM:=Lib.hid hm
 have HOK:=Lib.hid hok
 clear hv hm hok hm' hv'
 unfold maxLen at hcm hcm'
 go_enter Tryz.func111,Tryz.ntmps111
 go_wp2
 go_loopw [5] (fun i wr=>∃ k:Nat,k<=m∧i=.int .i64 k∧Below w.heap.size w wr) (fun i _=>m - (intOf i).toNat)
 case atStart=>exact ⟨0,Tai _,rfl,Below.refl _ _⟩
 case round =>
  obtain ⟨k,hk,rfl,hb⟩:=hrel
  by_cases hkm:k < m
  ·obtain ⟨b,off,r,rfl,hS,hbz,hget,hokr,hrow⟩:=(HV.out.below hb).get HOK.out hkm
   obtain ⟨b',off',r',rfl,hS',hbz',hget',hokr',hrow'⟩:=(HV'.out.below hb).get HOK.out hkm
   obtain rfl:r=r':=by rw [hget] at hget';exact Option.some.inj hget'
   obtain ⟨u0,c0,hvals⟩:=hrow.vals1 hokr.len
   obtain ⟨u1,d0,hvals'⟩:=hrow'.vals1 hokr.len
   obtain ⟨x0,rfl,g0⟩:=ZeW hokr
   simp only [Zaa,Rep.lit_iff,and_true] at hvals hvals'
   subst hvals
   subst hvals'
   clear hokr hokr' hrow hrow' hget hget' g0
   simp only [Zad,Taf,Taj,Nat.reduceAdd,Nat.mul_one] at c0 d0
   have k0:(0:Int)<=(k:Int):=by omega
   have k1:(k:Int) < (m:Int):=by omega
   go_wp2_with fail
   go_quiet (fail)
   go_wp2
   go_roundw
   case rel=>exact ⟨k+1,by omega,by go_num,hb.trans (Zfn (Below.refl _ _) _)⟩
   case measure=>simp [intOf];omega
  ·go_wp2
   go_ret
   exact ⟨rfl,hb⟩
theorem ZrE:(Tryz.prog.info? 9).map (fun i=>(i.zero,i.size,i.bytes))=some (some (.string .empty),1,16):=by kernel_rfl
theorem ZoB (rows:List (List C)):Zvv rows:=by
 intro S v w hok hv hlen
 obtain ⟨A,m,cap,rfl,hm,hmc,hcm⟩:=hv.form
 obtain ⟨i0,hi,hz0,hz1,hz2⟩:=info_parts ZrE
 have HV:=Lib.hid hv
 have HM:=Lib.hid hm
 have HOK:=Lib.hid hok
 have hml:m<=1048576:=by omega
 clear hv hm hok
 unfold maxLen at hcm
 have hmk:=run_make (P:=Tryz.prog) w 22 9 i0 _ Tryz.underlying22 hi hz0 .i64 .i64 (m:Int) (m:Int) om om (by rw [hz2];omega) om
 go_enter Tryz.func100,Tryz.ntmps100
 go_wp2
 clear hmk
 go_loopw [4] (fun i wr=>∃ k:Nat,k<=m∧i=.int .i64 k∧ZbA w w.heap.size 9 m 1 rows k wr) (fun i _=>m - (intOf i).toNat)
 case atStart=>exact ⟨0,Tai _,rfl,ZbA.start (by rw [size_madeCells];omega)⟩
 case round =>
  obtain ⟨k,hk,rfl,hfill⟩:=hrel
  have hb:=hfill.1
  by_cases hkm:k < m
  ·obtain ⟨b,off,r,rfl,hS,hbz,hget,hokr,hrow⟩:=(HV.out.below hb).get HOK.out hkm
   obtain ⟨u0,c0,hvals⟩:=hrow.vals1 hokr.len
   obtain ⟨x0,rfl,g0⟩:=ZeW hokr
   simp only [Zaa,Rep.lit_iff,and_true] at hvals
   subst hvals
   have HGET:=Lib.hid hget
   have HF:=Lib.hid hfill
   obtain ⟨cur,hcur,hcs⟩:=HF.out.row (Below.refl _ _)
   have HCUR:=Lib.hid hcur
   have HCS:=Lib.hid hcs
   clear hokr hrow hget hfill g0 hcur hcs
   simp only [Zad,Taf,Taj,Nat.reduceAdd,Nat.mul_one] at c0
   go_wp2_with (refine ZbX rfl 9 _ _ rfl w.heap.size k rfl [.string x0] rfl i0 hi hz1 9 cur HCUR.out (by have:=HCS.out;simp only [Taf,Taj];omega) (by simp [Value.oneCell']) ?_;intro w3 hput)
   go_roundw
   case rel=>exact ⟨k+1,by omega,by go_num,HF.out.step (fs:=Zad .str) HOK.out HGET.out (Below.refl _ _) (Zai.lit Zai.nil) (by simpa [Zad] using hput)⟩
   case measure=>simp [intOf];omega
  ·go_wp2
   go_ret
   have e:k=m:=by omega
   subst e
   exact ⟨_,rfl,hfill.done HM.out (by unfold maxLen;omega) (by decide) HOK.out.lens⟩
theorem Zg9 {r:List C} (h:Zal (Zad .sub) r):∃ (i0:Int) (i1:Int),r=[.lit (.int .i64 i0),.lit (.int .i64 i1)]∧I64 i0∧I64 i1:=by
 obtain ⟨c0,c1,rfl⟩:=len2 h.len
 simp only [Zad,Za2,occF,Zbc,sigF,ZaW,algF,Tae,Tag,Zal,and_true] at h
 obtain ⟨h0,h1⟩:=h
 obtain ⟨i0,rfl,g0⟩:=Zcp h0
 obtain ⟨i1,rfl,g1⟩:=Zcp h1
 exact ⟨i0,i1,rfl,g0,g1⟩
theorem Zhp {w:World} {S:Nat->Prop} {i0:Int} {i1:Int} {us:List Value} (h:Zaa w S [.lit (.int .i64 i0),.lit (.int .i64 i1)] us):us=[.int .i64 i0,.int .i64 i1]:=by
 obtain ⟨u0,u1,rfl⟩:=len2 h.len
 simp only [Zaa,Rep.lit_iff,and_true] at h
 obtain ⟨rfl,rfl⟩:=h
 exact rfl
def ZpL (row:List C):Prop:=∀ (S S':Nat->Prop) (us us':List Value) (w:World),Zal (Zad .sub) row->Zaa w S row us->Zaa w S' row us' ->
 Calls Tryz.prog 172 #[.agg us.toArray,.agg us'.toArray] w fun e w'=>e=.returned (.bool true)∧Below w.heap.size w w'
def ZpM (row:List C):Prop:=∀ (S:Nat->Prop) (us:List Value) (w:World),Zal (Zad .sub) row->Zaa w S row us->Zae row<=1048576 ->
 Calls Tryz.prog 158 #[.agg us.toArray] w fun e w'=>∃ us':List Value,e=.returned (.agg us'.toArray)∧Zai w' row (fun x=>w.heap.size<=x∧x < w'.heap.size) us'∧Below w.heap.size w w'
def ZF2 (rows:List (List C)):Prop:=∀ (S:Nat->Prop) (v:Value) (left:Int) (w:World),Zao (Zad .sub) rows->Rep w S (.sl rows) v->0<=left->left<=1048576 ->
 Calls Tryz.prog 92 #[v,.int .i64 left] w fun e w'=>e=.returned (.int .i64 (sub left (rows.length+Zaf rows)))∧Below w.heap.size w w'
def Zut (rows:List (List C)):Prop:=∀ (S S':Nat->Prop) (v v':Value) (w:World),Zao (Zad .sub) rows->Rep w S (.sl rows) v->Rep w S' (.sl rows) v' ->
 Calls Tryz.prog 112 #[v,v'] w fun e w'=>e=.returned (.bool true)∧Below w.heap.size w w'
def Zuu (rows:List (List C)):Prop:=∀ (S:Nat->Prop) (v:Value) (w:World),Zao (Zad .sub) rows->Rep w S (.sl rows) v->rows.length+Zaf rows<=1048576 ->
 Calls Tryz.prog 101 #[v] w fun e w'=>∃ v',e=.returned v'∧Own w' (.sl rows) (fun x=>w.heap.size<=x∧x < w'.heap.size) v'∧Below w.heap.size w w'
theorem ZBE (row:List C):ZpL row:=by
 intro S S' us us' w hok hv hv'
 obtain ⟨i0,i1,rfl,g0,g1⟩:=Zg9 hok
 obtain rfl:=Zhp hv
 obtain rfl:=Zhp hv'
 have G0:=Lib.hid g0
 have G1:=Lib.hid g1
 clear g0 g1 hok
 clear hv hv' 
 have hbw:=((Below.refl w.heap.size w).alloc (Tah _) (.cells #[.int .i64 i0,.int .i64 i1] 191)).alloc (by simp) (.cells #[.int .i64 i0,.int .i64 i1] 191)
 go_enter Tryz.func172,Tryz.ntmps172
 go_wp2
 go_ret
 exact ⟨rfl,hbw⟩
theorem ZBF (row:List C):ZpM row:=by
 intro S us w hok hv hlen
 obtain ⟨i0,i1,rfl,g0,g1⟩:=Zg9 hok
 obtain rfl:=Zhp hv
 have G0:=Lib.hid g0
 have G1:=Lib.hid g1
 clear g0 g1 hok
 clear hv 
 clear hlen
 go_enter Tryz.func158,Tryz.ntmps158
 go_wp2
 refine bodyPost_ret (v:=.agg #[.int .i64 i0,.int .i64 i1]) (by simp [results,Tryz.results158,go_sem]) rfl ⟨[.int .i64 i0,.int .i64 i1],rfl,?_,(by repeat (first | refine Below.alloc ?_ (by simp;try omega) _ | exact Below.refl _ _))⟩
 simp
 exact (Zai.lit (Zai.lit Zai.nil))
theorem ZzF (row:List C):ZpL row:=ZBE row
theorem ZzG (row:List C):ZpM row:=ZBF row
theorem ZpN:∀ (rows:List (List C)),Zao (Zad .sub) rows->Zaf rows=0
 | [],_=>by simp [Zaf]
 | r::rs,h=>by
  obtain ⟨i0,i1,rfl,_⟩:=Zg9 h.1
  simp [Zaf,Zae,Zbr,ZpN rs h.2]
theorem Zvw (rows:List (List C)):ZF2 rows:=by
 intro S v left w hok hv h0 h1
 obtain ⟨A,m,cap,rfl,hm,hmc,hcm⟩:=hv.form
 have hz:=ZpN rows hok
 rw [hz,hm]
 clear hv hm hok hz
 unfold maxLen at hcm
 by_cases hlt:left - m < 0
 ·rw [Zax om]
  go_enter Tryz.func92,Tryz.ntmps92
  go_wp2
  go_ret
  exact ⟨rfl,Below.refl _ _⟩
 ·rw [Za0 om]
  go_enter Tryz.func92,Tryz.ntmps92
  go_wp2
  go_ret
  exact ⟨Zaw om,Below.refl _ _⟩
theorem ZzH (rows:List (List C)) (h:∀ (i:Nat) r,rows[i]?=some r->ZpL r):Zut rows:=by
 intro S S' v v' w hok hv hv'
 obtain ⟨A,m,cap,rfl,hm,hmc,hcm⟩:=hv.form
 obtain ⟨A',m',cap',rfl,hm',hmc',hcm'⟩:=hv'.form
 obtain rfl:m=m':=by omega
 have H:=Lib.hid h
 have HV:=Lib.hid hv
 have HV':=Lib.hid hv'
 have HM:=Lib.hid hm
 have HOK:=Lib.hid hok
 clear h hv hm hok hm' hv'
 unfold maxLen at hcm hcm'
 go_enter Tryz.func112,Tryz.ntmps112
 go_wp2
 go_loopw [5] (fun i wr=>∃ k:Nat,k<=m∧i=.int .i64 k∧Below w.heap.size w wr) (fun i _=>m - (intOf i).toNat)
 case atStart=>exact ⟨0,Tai _,rfl,Below.refl _ _⟩
 case round =>
  obtain ⟨k,hk,rfl,hb⟩:=hrel
  by_cases hkm:k < m
  ·obtain ⟨b,off,r,rfl,hS,hbz,hget,hokr,hrow⟩:=(HV.out.below hb).get HOK.out hkm
   obtain ⟨b',off',r',rfl,hS',hbz',hget',hokr',hrow'⟩:=(HV'.out.below hb).get HOK.out hkm
   obtain rfl:r=r':=by rw [hget] at hget';exact Option.some.inj hget'
   obtain ⟨u0,u1,c0,c1,hvals⟩:=hrow.vals2 hokr.len
   obtain ⟨x0,x1,d0,d1,hvals'⟩:=hrow'.vals2 hokr.len
   have HT:=H.out k r hget
   have HVALS:=Lib.hid hvals
   have HVALS':=Lib.hid hvals'
   have HOKR:=Lib.hid hokr
   clear hvals hvals' hokr hokr' hrow hrow' hget hget'
   simp only [Zad,Za2,occF,Zbc,sigF,ZaW,algF,Tae,Tag,Taf,Taj,Nat.reduceAdd,Nat.mul_one] at c0 c1 d0 d1
   have k0:(0:Int)<=(k:Int):=by omega
   have k1:(k:Int) < (m:Int):=by omega
   go_wp2_with fail
   go_region_held3 (fun w'=>∀ b o,b < wr.heap.size->w'.cell? ⟨b,o,none⟩=wr.cell? ⟨b,o,none⟩) (first | go_keep | exact fun b o h=>hb2.cell (p:=⟨b,o,none⟩) h) (first | (go_at_call 172;refine (HT S S' _ _ _ HOKR.out (HVALS.out.below (Below.refl _ _).drew) (HVALS'.out.below (Below.refl _ _).drew)).mono ?_;rintro e w' ⟨rfl,hb2⟩))
   go_wp2
   go_roundw
   case rel=>exact ⟨k+1,by omega,by go_num,hb.trans ((Below.refl _ _).drew.trans (hb2.mono hb.size))⟩
   case measure=>simp [intOf];omega
  ·go_wp2
   go_ret
   exact ⟨rfl,hb⟩
theorem ZBG:(Tryz.prog.info? 191).map (fun i=>(i.zero,i.size,i.bytes))=some (some (.agg #[.int .i64 0,.int .i64 0]),2,16):=by kernel_rfl
theorem ZzI (rows:List (List C)) (h:∀ (i:Nat) r,rows[i]?=some r->ZpM r):Zuu rows:=by
 intro S v w hok hv hlen
 obtain ⟨A,m,cap,rfl,hm,hmc,hcm⟩:=hv.form
 obtain ⟨i0,hi,hz0,hz1,hz2⟩:=info_parts ZBG
 have H:=Lib.hid h
 have HV:=Lib.hid hv
 have HM:=Lib.hid hm
 have HOK:=Lib.hid hok
 have hml:m<=1048576:=by omega
 clear h hv hm hok
 unfold maxLen at hcm
 have hmk:=run_make (P:=Tryz.prog) w 36 191 i0 _ Tryz.underlying36 hi hz0 .i64 .i64 (m:Int) (m:Int) om om (by rw [hz2];omega) om
 go_enter Tryz.func101,Tryz.ntmps101
 go_wp2
 clear hmk
 go_loopw [4] (fun i wr=>∃ k:Nat,k<=m∧i=.int .i64 k∧ZbA w w.heap.size 191 m 2 rows k wr) (fun i _=>m - (intOf i).toNat)
 case atStart=>exact ⟨0,Tai _,rfl,ZbA.start (size_madeCells _ _)⟩
 case round =>
  obtain ⟨k,hk,rfl,hfill⟩:=hrel
  have hb:=hfill.1
  by_cases hkm:k < m
  ·obtain ⟨b,off,r,rfl,hS,hbz,hget,hokr,hrow⟩:=(HV.out.below hb).get HOK.out hkm
   obtain ⟨u0,u1,c0,c1,hvals⟩:=hrow.vals2 hokr.len
   have HT:=H.out k r hget
   have HVALS:=Lib.hid hvals
   have HOKR:=Lib.hid hokr
   have HGET:=Lib.hid hget
   have HF:=Lib.hid hfill
   have hbg:=Zco hget
   clear hvals hokr hrow hget hfill
   simp only [Zad,Za2,occF,Zbc,sigF,ZaW,algF,Tae,Tag,Taf,Taj,Nat.reduceAdd,Nat.mul_one] at c0 c1
   go_wp2_with fail
   refine (HT S _ _ HOKR.out HVALS.out om).mono ?_
   rintro e w2 ⟨us,rfl,hown,hb2⟩
   have hone:=HOKR.out.one (Zai.rep _ _ (fun _=>True) _ (fun _ _=>trivial) hown)
   obtain ⟨y0,y1,rfl⟩:=len2 (hown.len.trans HOKR.out.len)
   have HOWN:=Lib.hid hown
   have HONE:=Lib.hid hone
   obtain ⟨cur,hcur,hcs⟩:=HF.out.row hb2
   have HCUR:=Lib.hid hcur
   have HCS:=Lib.hid hcs
   clear hown hone hcur hcs
   go_wp2_with (refine ZbX rfl 191 _ _ rfl w.heap.size (k * 2) rfl [y0,y1] rfl i0 hi hz1 191 cur HCUR.out (by have:=HCS.out;simp only [Taf,Taj];omega) HONE.out ?_;intro w3 hput)
   go_roundw
   case rel=>exact ⟨k+1,by omega,by go_num,HF.out.step (fs:=Zad .sub) HOK.out HGET.out hb2 HOWN.out hput⟩
   case measure=>simp [intOf];omega
  ·go_wp2
   go_ret
   have e:k=m:=by omega
   subst e
   exact ⟨_,rfl,hfill.done HM.out (by unfold maxLen;omega) (by decide) HOK.out.lens⟩
theorem Zvx (rows:List (List C)):Zut rows:=ZzH rows (fun _ r _=>ZzF r)
theorem Zvy (rows:List (List C)):Zuu rows:=ZzI rows (fun _ r _=>ZzG r)
theorem Zhq {r:List C} (h:Zal (Zbc) r):∃ (r0:List (List C)) (r1:List (List C)),r=[.sl r0,.sl r1]∧Zao (Zad .str) r0∧Zao (Zad .sub) r1:=by
 obtain ⟨c0,c1,rfl⟩:=len2 h.len
 simp only [Zad,Za2,occF,Zbc,sigF,ZaW,algF,Tae,Tag,Zal,and_true] at h
 obtain ⟨h0,h1⟩:=h
 obtain ⟨r0,rfl,g0⟩:=Zcm h0
 obtain ⟨r1,rfl,g1⟩:=Zcm h1
 exact ⟨r0,r1,rfl,g0,g1⟩
theorem Zfs {r0:List (List C)} {r1:List (List C)} (g0:Zao (Zad .str) r0) (g1:Zao (Zad .sub) r1):Zal (Zbc) [.sl r0,.sl r1]:=by
 simp only [Zad,Za2,occF,Zbc,sigF,ZaW,algF,Tae,Tag,Zal,and_true]
 exact ⟨Zg1 g0,Zg1 g1⟩
theorem ZdJ {w:World} {S:Nat->Prop} {r0:List (List C)} {r1:List (List C)} {us:List Value} (h:Zaa w S [.sl r0,.sl r1] us):∃ v0 v1,us=[v0,v1]∧Rep w S (.sl r0) v0∧Rep w S (.sl r1) v1:=by
 obtain ⟨u0,u1,rfl⟩:=len2 h.len
 simp only [Zaa,Rep.lit_iff,and_true] at h
 obtain ⟨e0,e1⟩:=h
 exact ⟨u0,u1,rfl,e0,e1⟩
theorem Zd4 {w:World} {S:Nat->Prop} {r0:List (List C)} {r1:List (List C)} {v0:Value} {v1:Value} (e0:Rep w S (.sl r0) v0) (e1:Rep w S (.sl r1) v1):Zaa w S [.sl r0,.sl r1] [v0,v1]:=by
 simp only [Zaa,Rep.lit_iff,and_true,true_and]
 exact ⟨e0,e1⟩
def ZpO (row:List C):Prop:=∀ (S:Nat->Prop) (us:List Value) (left:Int) (w:World),Zal (Zbc) row->Zaa w S row us->0<=left->left<=1048576 ->
 Calls Tryz.prog 40 #[.agg us.toArray,.int .i64 left] w fun e w'=>e=.returned (.int .i64 (sub left (Zae row)))∧Below w.heap.size w w'
def ZpP (row:List C):Prop:=∀ (S S':Nat->Prop) (us us':List Value) (w:World),Zal (Zbc) row->Zaa w S row us->Zaa w S' row us' ->
 Calls Tryz.prog 54 #[.agg us.toArray,.agg us'.toArray] w fun e w'=>e=.returned (.bool true)∧Below w.heap.size w w'
def ZpQ (row:List C):Prop:=∀ (S:Nat->Prop) (us:List Value) (w:World),Zal (Zbc) row->Zaa w S row us->Zae row<=1048576 ->
 Calls Tryz.prog 46 #[.agg us.toArray] w fun e w'=>∃ us':List Value,e=.returned (.agg us'.toArray)∧Zai w' row (fun x=>w.heap.size<=x∧x < w'.heap.size) us'∧Below w.heap.size w w'
theorem Zvz (row:List C):ZpO row:=by
 intro S us left w hok hv h0 h1
 obtain ⟨r0,r1,rfl,g0,g1⟩:=Zhq hok
 obtain ⟨v0,v1,rfl,e0,e1⟩:=ZdJ hv
 have HC0:=Lib.hid (Zoz r0)
 have HC1:=Lib.hid (Zvw r1)
 have HB:=Lib.hid (show Zae [.sl r0,.sl r1]=(r0.length+Zaf r0)+(r1.length+Zaf r1) from by simp only [Zae,Zbr];omega)
 have G0:=Lib.hid g0
 have G1:=Lib.hid g1
 clear g0 g1 hok
 have E0:=Lib.hid e0
 have E1:=Lib.hid e1
 clear hv e0 e1
 generalize hrow:Zae [.sl r0,.sl r1]=total at HB ⊢
 clear hrow
 have hbw:=(Below.refl w.heap.size w).alloc (Tah _) (.cells #[v0,v1] 25)
 go_enter Tryz.func40,Tryz.ntmps40
 go_wp2_with fail
 by_cases q0:left < ((r0.length+Zaf r0):Nat)
 ·refine (HC0.out S _ _ _ G0.out (E0.out.below hbw) om om).mono ?_
  rw [Zax om]
  rintro e w1 ⟨rfl,hb1⟩
  go_wp2
  go_ret
  exact ⟨Zaw (a:=-1) (Zax (by have:=HB.out;omega)).symm,hbw.trans (hb1.mono hbw.size)⟩
 refine (HC0.out S _ _ _ G0.out (E0.out.below hbw) om om).mono ?_
 rw [Za0 om]
 rintro e w1 ⟨rfl,hb1⟩
 obtain ⟨hc1,hf1⟩:=Za8 hb1
 have hz1:w.heap.size < w1.heap.size:=(by have:=hb1.size;(try simp at this);omega)
 replace hbw:=hbw.trans (hb1.mono hbw.size)
 go_wp2_with fail
 by_cases q1:(left - (((r0.length+Zaf r0):Nat):Int)) < ((r1.length+Zaf r1):Nat)
 ·refine (HC1.out S _ _ _ G1.out (E1.out.below hbw) om om).mono ?_
  rw [Zax om]
  rintro e w2 ⟨rfl,hb2⟩
  go_wp2
  go_ret
  exact ⟨Zaw (a:=-1) (Zax (by have:=HB.out;omega)).symm,hbw.trans (hb2.mono hbw.size)⟩
 refine (HC1.out S _ _ _ G1.out (E1.out.below hbw) om om).mono ?_
 rw [Za0 om]
 rintro e w2 ⟨rfl,hb2⟩
 obtain ⟨hc2,hf2⟩:=Za8 hb2
 have hz2:w.heap.size < w2.heap.size:=(by have:=hb2.size;(try simp at this);omega)
 replace hbw:=hbw.trans (hb2.mono hbw.size)
 go_wp2
 go_ret
 exact ⟨Zaw (by have:=HB.out;rw [Za0 om];omega),hbw⟩
theorem ZvA (row:List C):ZpP row:=by
 intro S S' us us' w hok hv hv'
 obtain ⟨r0,r1,rfl,g0,g1⟩:=Zhq hok
 obtain ⟨v0,v1,rfl,e0,e1⟩:=ZdJ hv
 obtain ⟨x0,x1,rfl,d0,d1⟩:=ZdJ hv'
 have HC0:=Lib.hid (ZoA r0)
 have HC1:=Lib.hid (Zvx r1)
 have G0:=Lib.hid g0
 have G1:=Lib.hid g1
 clear g0 g1 hok
 have E0:=Lib.hid e0
 have D0:=Lib.hid d0
 have E1:=Lib.hid e1
 have D1:=Lib.hid d1
 clear hv hv' e0 d0 e1 d1
 have hbw:=((Below.refl w.heap.size w).alloc (Tah _) (.cells #[v0,v1] 38)).alloc (by simp) (.cells #[x0,x1] 38)
 go_enter Tryz.func54,Tryz.ntmps54
 go_wp2_with fail
 refine (HC0.out S S' _ _ _ G0.out (E0.out.below hbw) (D0.out.below hbw)).mono ?_
 rintro e w1 ⟨rfl,hb1⟩
 obtain ⟨hc1,hf1⟩:=Za8 hb1
 have hz1:w.heap.size+1 < w1.heap.size:=(by have:=hb1.size;(try simp at this);omega)
 have ha1:w.heap.size < w1.heap.size:=by omega
 replace hbw:=hbw.trans (hb1.mono hbw.size)
 go_wp2_with fail
 refine (HC1.out S S' _ _ _ G1.out (E1.out.below hbw) (D1.out.below hbw)).mono ?_
 rintro e w2 ⟨rfl,hb2⟩
 obtain ⟨hc2,hf2⟩:=Za8 hb2
 have hz2:w.heap.size+1 < w2.heap.size:=(by have:=hb2.size;(try simp at this);omega)
 have ha2:w.heap.size < w2.heap.size:=by omega
 replace hbw:=hbw.trans (hb2.mono hbw.size)
 go_wp2
 go_ret
 exact ⟨rfl,hbw⟩
theorem ZvB (row:List C):ZpQ row:=by
 intro S us w hok hv hlen
 obtain ⟨r0,r1,rfl,g0,g1⟩:=Zhq hok
 obtain ⟨v0,v1,rfl,e0,e1⟩:=ZdJ hv
 have HC0:=Lib.hid (ZoB r0)
 have HC1:=Lib.hid (Zvy r1)
 have G0:=Lib.hid g0
 have G1:=Lib.hid g1
 clear g0 g1 hok
 have E0:=Lib.hid e0
 have E1:=Lib.hid e1
 clear hv e0 e1
 have hl0:(r0.length+Zaf r0)<=1048576:=by
  have e:(r0.length+Zaf r0)<=Zae [.sl r0,.sl r1]:=by simp only [Zae,Zbr];omega
  exact Tbe e hlen
 have hl1:(r1.length+Zaf r1)<=1048576:=by
  have e:(r1.length+Zaf r1)<=Zae [.sl r0,.sl r1]:=by simp only [Zae,Zbr];omega
  exact Tbe e hlen
 clear hlen
 go_enter Tryz.func46,Tryz.ntmps46
 go_wp2_with fail
 refine (HC0.out S _ _ G0.out (by exact E0.out.below (by repeat (first | refine Below.alloc ?_ (by simp;try omega) _ | exact Below.refl _ _))) hl0).mono ?_
 rintro e w1 ⟨y0,rfl,hown0,hb1⟩
 obtain ⟨A0,n0,cap0,rfl,_,_,_⟩:=(Own.rep _ _ _ hown0).form
 have hz1:=hb1.size
 simp at hz1 hown0
 have HOWN0:=Lib.hid hown0
 clear hown0
 have hbw1:Below w.heap.size w w1:=Below.trans (by repeat (first | refine Below.alloc ?_ (by simp;try omega) _ | exact Below.refl _ _)) (hb1.mono (by simp;try omega))
 obtain ⟨hc1,hf1⟩:=Za8 hb1
 have ha1:w.heap.size < w1.heap.size:=by omega
 have hbb1:w.heap.size+1 < w1.heap.size:=by omega
 have hcc1:w.heap.size+1+1 < w1.heap.size:=by omega
 go_wp2_with fail
 refine (HC1.out S _ _ G1.out (by exact E1.out.below (by repeat (first | refine Below.setCell ?_ (by simp;try omega) _ | exact hbw1))) hl1).mono ?_
 rintro e w2 ⟨y1,rfl,hown1,hb2⟩
 obtain ⟨A1,n1,cap1,rfl,_,_,_⟩:=(Own.rep _ _ _ hown1).form
 have hz2:=hb2.size
 simp at hz2 hown1
 have HOWN1:=Lib.hid hown1
 clear hown1
 have hbw2:Below w.heap.size w w2:=Below.trans (by repeat (first | refine Below.setCell ?_ (by simp;try omega) _ | exact hbw1)) (hb2.mono (by simp;try omega))
 obtain ⟨hc2,hf2⟩:=Za8 hb2
 have ha2:w.heap.size < w2.heap.size:=by omega
 have hbb2:w.heap.size+1 < w2.heap.size:=by omega
 have hcc2:w.heap.size+1+1 < w2.heap.size:=by omega
 go_wp2
 refine bodyPost_ret (v:=.agg #[.slice A0 n0 cap0,.slice A1 n1 cap1]) (by simp [results,Tryz.results46,go_sem,hc1,ha1,hbb1,hcc1,hc2,ha2,hbb2,hcc2]) rfl ⟨[.slice A0 n0 cap0,.slice A1 n1 cap1],rfl,?_,(by repeat (first | refine Below.setCell ?_ (by simp;try omega) _ | exact hbw2))⟩
 simp
 exact (Zai.cons (fun x=>w.heap.size+1+1+1<=x∧x < w1.heap.size) (fun x=>w1.heap.size<=x∧x < w2.heap.size) (HOWN0.out.same (by repeat (first | refine Same.trans ?_ (Same.setCell _ _ _ _ (by simp;try omega)) | refine Same.trans ?_ ((Same.below hb2).mono (fun x hx=>by simp at hx ⊢;omega)) | exact Same.refl _ _))) (Zai.cons (fun x=>w1.heap.size<=x∧x < w2.heap.size) (fun x=>w2.heap.size<=x∧x < w2.heap.size) (HOWN1.out.same (by repeat (first | refine Same.trans ?_ (Same.setCell _ _ _ _ (by simp;try omega)) | exact Same.refl _ _))) Zai.nil (fun x hx=>⟨by omega,by omega⟩) (fun x hx=>⟨by omega,by omega⟩) (fun x hx hy=>by omega)) (fun x hx=>⟨by omega,by omega⟩) (fun x hx=>⟨by omega,by omega⟩) (fun x hx hy=>by omega))
theorem ZrF (row:List C):ZpO row:=Zvz row
theorem ZrG (row:List C):ZpP row:=ZvA row
theorem ZrH (row:List C):ZpQ row:=ZvB row
theorem Zha {r:List C} (h:Zal (Zad .int) r):∃ x0:Int,r=[.lit (.int .i64 x0)]∧I64 x0:=by
 obtain ⟨c0,rfl⟩:=len1 h.len
 simp only [Zad,Zal,and_true] at h
 have h0:=h
 obtain ⟨x0,rfl,g0⟩:=Zcp h0
 exact ⟨x0,rfl,g0⟩
def ZF3 (rows:List (List C)):Prop:=∀ (S:Nat->Prop) (v:Value) (left:Int) (w:World),Zao (Zad .int) rows->Rep w S (.sl rows) v->0<=left->left<=1048576 ->
 Calls Tryz.prog 246 #[v,.int .i64 left] w fun e w'=>e=.returned (.int .i64 (sub left (rows.length+Zaf rows)))∧Below w.heap.size w w'
def ZF4 (rows:List (List C)):Prop:=∀ (S S':Nat->Prop) (v v':Value) (w:World),Zao (Zad .int) rows->Rep w S (.sl rows) v->Rep w S' (.sl rows) v' ->
 Calls Tryz.prog 17 #[v,v'] w fun e w'=>e=.returned (.bool true)∧Below w.heap.size w w'
def ZF5 (rows:List (List C)):Prop:=∀ (S:Nat->Prop) (v:Value) (w:World),Zao (Zad .int) rows->Rep w S (.sl rows) v->rows.length+Zaf rows<=1048576 ->
 Calls Tryz.prog 13 #[v] w fun e w'=>∃ v',e=.returned v'∧Own w' (.sl rows) (fun x=>w.heap.size<=x∧x < w'.heap.size) v'∧Below w.heap.size w w'
theorem ZpR:∀ (rows:List (List C)),Zao (Zad .int) rows->Zaf rows=0
 | [],_=>by simp [Zaf]
 | r::rs,h=>by
  obtain ⟨x0,rfl,_⟩:=Zha h.1
  simp [Zaf,Zae,Zbr,ZpR rs h.2]
theorem ZvC (rows:List (List C)):ZF3 rows:=by
 intro S v left w hok hv h0 h1
 obtain ⟨A,m,cap,rfl,hm,hmc,hcm⟩:=hv.form
 have hz:=ZpR rows hok
 rw [hz,hm]
 clear hv hm hok hz
 unfold maxLen at hcm
 by_cases hlt:left - m < 0
 ·rw [Zax om]
  go_enter Tryz.func246,Tryz.ntmps246
  go_wp2
  go_ret
  exact ⟨rfl,Below.refl _ _⟩
 ·rw [Za0 om]
  go_enter Tryz.func246,Tryz.ntmps246
  go_wp2
  go_ret
  exact ⟨Zaw om,Below.refl _ _⟩
theorem ZvD (rows:List (List C)):ZF4 rows:=by
 intro S S' v v' w hok hv hv'
 obtain ⟨A,m,cap,rfl,hm,hmc,hcm⟩:=hv.form
 obtain ⟨A',m',cap',rfl,hm',hmc',hcm'⟩:=hv'.form
 obtain rfl:m=m':=by omega
 have HV:=Lib.hid hv
 have HV':=Lib.hid hv'
 have HM:=Lib.hid hm
 have HOK:=Lib.hid hok
 clear hv hm hok hm' hv'
 unfold maxLen at hcm hcm'
 go_enter Tryz.func17,Tryz.ntmps17
 go_wp2
 go_loopw [5] (fun i wr=>∃ k:Nat,k<=m∧i=.int .i64 k∧Below w.heap.size w wr) (fun i _=>m - (intOf i).toNat)
 case atStart=>exact ⟨0,Tai _,rfl,Below.refl _ _⟩
 case round =>
  obtain ⟨k,hk,rfl,hb⟩:=hrel
  by_cases hkm:k < m
  ·obtain ⟨b,off,r,rfl,hS,hbz,hget,hokr,hrow⟩:=(HV.out.below hb).get HOK.out hkm
   obtain ⟨b',off',r',rfl,hS',hbz',hget',hokr',hrow'⟩:=(HV'.out.below hb).get HOK.out hkm
   obtain rfl:r=r':=by rw [hget] at hget';exact Option.some.inj hget'
   obtain ⟨u0,c0,hvals⟩:=hrow.vals1 hokr.len
   obtain ⟨u1,d0,hvals'⟩:=hrow'.vals1 hokr.len
   obtain ⟨x0,rfl,g0⟩:=Zha hokr
   simp only [Zaa,Rep.lit_iff,and_true] at hvals hvals'
   subst hvals
   subst hvals'
   clear hokr hokr' hrow hrow' hget hget' g0
   simp only [Zad,Taf,Taj,Nat.reduceAdd,Nat.mul_one] at c0 d0
   have k0:(0:Int)<=(k:Int):=by omega
   have k1:(k:Int) < (m:Int):=by omega
   go_wp2_with fail
   go_quiet (fail)
   go_wp2
   go_roundw
   case rel=>exact ⟨k+1,by omega,by go_num,hb.trans (Zfn (Below.refl _ _) _)⟩
   case measure=>simp [intOf];omega
  ·go_wp2
   go_ret
   exact ⟨rfl,hb⟩
theorem ZBH:(Tryz.prog.info? 3).map (fun i=>(i.zero,i.size,i.bytes))=some (some (.int .i64 0),1,8):=by kernel_rfl
theorem ZvE (rows:List (List C)):ZF5 rows:=by
 intro S v w hok hv hlen
 obtain ⟨A,m,cap,rfl,hm,hmc,hcm⟩:=hv.form
 obtain ⟨i0,hi,hz0,hz1,hz2⟩:=info_parts ZBH
 have HV:=Lib.hid hv
 have HM:=Lib.hid hm
 have HOK:=Lib.hid hok
 have hml:m<=1048576:=by omega
 clear hv hm hok
 unfold maxLen at hcm
 have hmk:=run_make (P:=Tryz.prog) w 29 3 i0 _ Tryz.underlying29 hi hz0 .i64 .i64 (m:Int) (m:Int) om om (by rw [hz2];omega) om
 go_enter Tryz.func13,Tryz.ntmps13
 go_wp2
 clear hmk
 go_loopw [4] (fun i wr=>∃ k:Nat,k<=m∧i=.int .i64 k∧ZbA w w.heap.size 3 m 1 rows k wr) (fun i _=>m - (intOf i).toNat)
 case atStart=>exact ⟨0,Tai _,rfl,ZbA.start (by rw [size_madeCells];omega)⟩
 case round =>
  obtain ⟨k,hk,rfl,hfill⟩:=hrel
  have hb:=hfill.1
  by_cases hkm:k < m
  ·obtain ⟨b,off,r,rfl,hS,hbz,hget,hokr,hrow⟩:=(HV.out.below hb).get HOK.out hkm
   obtain ⟨u0,c0,hvals⟩:=hrow.vals1 hokr.len
   obtain ⟨x0,rfl,g0⟩:=Zha hokr
   simp only [Zaa,Rep.lit_iff,and_true] at hvals
   subst hvals
   have HGET:=Lib.hid hget
   have HF:=Lib.hid hfill
   obtain ⟨cur,hcur,hcs⟩:=HF.out.row (Below.refl _ _)
   have HCUR:=Lib.hid hcur
   have HCS:=Lib.hid hcs
   clear hokr hrow hget hfill g0 hcur hcs
   simp only [Zad,Taf,Taj,Nat.reduceAdd,Nat.mul_one] at c0
   go_wp2_with (refine ZbX rfl 3 _ _ rfl w.heap.size k rfl [.int .i64 x0] rfl i0 hi hz1 3 cur HCUR.out (by have:=HCS.out;simp only [Taf,Taj];omega) (by simp [Value.oneCell']) ?_;intro w3 hput)
   go_roundw
   case rel=>exact ⟨k+1,by omega,by go_num,HF.out.step (fs:=Zad .int) HOK.out HGET.out (Below.refl _ _) (Zai.lit Zai.nil) (by simpa [Zad] using hput)⟩
   case measure=>simp [intOf];omega
  ·go_wp2
   go_ret
   have e:k=m:=by omega
   subst e
   exact ⟨_,rfl,hfill.done HM.out (by unfold maxLen;omega) (by decide) HOK.out.lens⟩
theorem Zf2 {r:List C} (h:Zal (Zad .decl) r):∃ (r0:List (List C)) (i1:Int),r=[.sl r0,.lit (.int .i64 i1)]∧Zao (Zad .int) r0∧I64 i1:=by
 obtain ⟨c0,c1,rfl⟩:=len2 h.len
 simp only [Zad,Za2,occF,Zbc,sigF,ZaW,algF,Tae,Tag,Zal,and_true] at h
 obtain ⟨h0,h1⟩:=h
 obtain ⟨r0,rfl,g0⟩:=Zcm h0
 obtain ⟨i1,rfl,g1⟩:=Zcp h1
 exact ⟨r0,i1,rfl,g0,g1⟩
theorem ZeX {w:World} {S:Nat->Prop} {r0:List (List C)} {i1:Int} {us:List Value} (h:Zaa w S [.sl r0,.lit (.int .i64 i1)] us):∃ v0,us=[v0,.int .i64 i1]∧Rep w S (.sl r0) v0:=by
 obtain ⟨u0,u1,rfl⟩:=len2 h.len
 simp only [Zaa,Rep.lit_iff,and_true] at h
 obtain ⟨e0,rfl⟩:=h
 exact ⟨u0,rfl,e0⟩
def ZmL (row:List C):Prop:=∀ (S:Nat->Prop) (us:List Value) (left:Int) (w:World),Zal (Zad .decl) row->Zaa w S row us->0<=left->left<=1048576 ->
 Calls Tryz.prog 216 #[.agg us.toArray,.int .i64 left] w fun e w'=>e=.returned (.int .i64 (sub left (Zae row)))∧Below w.heap.size w w'
def ZmM (row:List C):Prop:=∀ (S S':Nat->Prop) (us us':List Value) (w:World),Zal (Zad .decl) row->Zaa w S row us->Zaa w S' row us' ->
 Calls Tryz.prog 230 #[.agg us.toArray,.agg us'.toArray] w fun e w'=>e=.returned (.bool true)∧Below w.heap.size w w'
def ZmN (row:List C):Prop:=∀ (S:Nat->Prop) (us:List Value) (w:World),Zal (Zad .decl) row->Zaa w S row us->Zae row<=1048576 ->
 Calls Tryz.prog 220 #[.agg us.toArray] w fun e w'=>∃ us':List Value,e=.returned (.agg us'.toArray)∧Zai w' row (fun x=>w.heap.size<=x∧x < w'.heap.size) us'∧Below w.heap.size w w'
def ZpS (rows:List (List C)):Prop:=∀ (S:Nat->Prop) (v:Value) (left:Int) (w:World),Zao (Zad .decl) rows->Rep w S (.sl rows) v->0<=left->left<=1048576 ->
 Calls Tryz.prog 148 #[v,.int .i64 left] w fun e w'=>e=.returned (.int .i64 (sub left (rows.length+Zaf rows)))∧Below w.heap.size w w'
def ZpT (rows:List (List C)):Prop:=∀ (S S':Nat->Prop) (v v':Value) (w:World),Zao (Zad .decl) rows->Rep w S (.sl rows) v->Rep w S' (.sl rows) v' ->
 Calls Tryz.prog 173 #[v,v'] w fun e w'=>e=.returned (.bool true)∧Below w.heap.size w w'
def ZpU (rows:List (List C)):Prop:=∀ (S:Nat->Prop) (v:Value) (w:World),Zao (Zad .decl) rows->Rep w S (.sl rows) v->rows.length+Zaf rows<=1048576 ->
 Calls Tryz.prog 159 #[v] w fun e w'=>∃ v',e=.returned v'∧Own w' (.sl rows) (fun x=>w.heap.size<=x∧x < w'.heap.size) v'∧Below w.heap.size w w'
theorem ZzJ (row:List C):ZmL row:=by
 intro S us left w hok hv h0 h1
 obtain ⟨r0,i1,rfl,g0,g1⟩:=Zf2 hok
 obtain ⟨v0,rfl,e0⟩:=ZeX hv
 have HC0:=Lib.hid (ZvC r0)
 have HB:=Lib.hid (show Zae [.sl r0,.lit (.int .i64 i1)]=(r0.length+Zaf r0) from by simp only [Zae,Zbr];omega)
 have G0:=Lib.hid g0
 have G1:=Lib.hid g1
 clear g0 g1 hok
 have E0:=Lib.hid e0
 clear hv e0
 generalize hrow:Zae [.sl r0,.lit (.int .i64 i1)]=total at HB ⊢
 clear hrow
 have hbw:=(Below.refl w.heap.size w).alloc (Tah _) (.cells #[v0,.int .i64 i1] 239)
 go_enter Tryz.func216,Tryz.ntmps216
 go_wp2_with fail
 by_cases q0:left < ((r0.length+Zaf r0):Nat)
 ·refine (HC0.out S _ _ _ G0.out (E0.out.below hbw) om om).mono ?_
  rw [Zax om]
  rintro e w1 ⟨rfl,hb1⟩
  go_wp2
  go_ret
  exact ⟨Zaw (a:=-1) (Zax (by have:=HB.out;omega)).symm,hbw.trans (hb1.mono hbw.size)⟩
 refine (HC0.out S _ _ _ G0.out (E0.out.below hbw) om om).mono ?_
 rw [Za0 om]
 rintro e w1 ⟨rfl,hb1⟩
 obtain ⟨hc1,hf1⟩:=Za8 hb1
 have hz1:w.heap.size < w1.heap.size:=(by have:=hb1.size;(try simp at this);omega)
 replace hbw:=hbw.trans (hb1.mono hbw.size)
 go_wp2
 go_ret
 exact ⟨Zaw (by have:=HB.out;rw [Za0 om];omega),hbw⟩
theorem ZzK (row:List C):ZmM row:=by
 intro S S' us us' w hok hv hv'
 obtain ⟨r0,i1,rfl,g0,g1⟩:=Zf2 hok
 obtain ⟨v0,rfl,e0⟩:=ZeX hv
 obtain ⟨x0,rfl,d0⟩:=ZeX hv'
 have HC0:=Lib.hid (ZvD r0)
 have G0:=Lib.hid g0
 have G1:=Lib.hid g1
 clear g0 g1 hok
 have E0:=Lib.hid e0
 have D0:=Lib.hid d0
 clear hv hv' e0 d0
 have hbw:=((Below.refl w.heap.size w).alloc (Tah _) (.cells #[v0,.int .i64 i1] 199)).alloc (by simp) (.cells #[x0,.int .i64 i1] 199)
 go_enter Tryz.func230,Tryz.ntmps230
 go_wp2_with fail
 refine (HC0.out S S' _ _ _ G0.out (E0.out.below hbw) (D0.out.below hbw)).mono ?_
 rintro e w1 ⟨rfl,hb1⟩
 obtain ⟨hc1,hf1⟩:=Za8 hb1
 have hz1:w.heap.size+1 < w1.heap.size:=(by have:=hb1.size;(try simp at this);omega)
 have ha1:w.heap.size < w1.heap.size:=by omega
 replace hbw:=hbw.trans (hb1.mono hbw.size)
 go_wp2
 go_ret
 exact ⟨rfl,hbw⟩
theorem ZzL (row:List C):ZmN row:=by
 intro S us w hok hv hlen
 obtain ⟨r0,i1,rfl,g0,g1⟩:=Zf2 hok
 obtain ⟨v0,rfl,e0⟩:=ZeX hv
 have HC0:=Lib.hid (ZvE r0)
 have G0:=Lib.hid g0
 have G1:=Lib.hid g1
 clear g0 g1 hok
 have E0:=Lib.hid e0
 clear hv e0
 have hl0:(r0.length+Zaf r0)<=1048576:=by
  have e:(r0.length+Zaf r0)<=Zae [.sl r0,.lit (.int .i64 i1)]:=by simp only [Zae,Zbr];omega
  exact Tbe e hlen
 clear hlen
 go_enter Tryz.func220,Tryz.ntmps220
 go_wp2_with fail
 refine (HC0.out S _ _ G0.out (by exact E0.out.below (by repeat (first | refine Below.alloc ?_ (by simp;try omega) _ | exact Below.refl _ _))) hl0).mono ?_
 rintro e w1 ⟨y0,rfl,hown0,hb1⟩
 obtain ⟨A0,n0,cap0,rfl,_,_,_⟩:=(Own.rep _ _ _ hown0).form
 have hz1:=hb1.size
 simp at hz1 hown0
 have HOWN0:=Lib.hid hown0
 clear hown0
 have hbw1:Below w.heap.size w w1:=Below.trans (by repeat (first | refine Below.alloc ?_ (by simp;try omega) _ | exact Below.refl _ _)) (hb1.mono (by simp;try omega))
 obtain ⟨hc1,hf1⟩:=Za8 hb1
 have ha1:w.heap.size < w1.heap.size:=by omega
 have hbb1:w.heap.size+1 < w1.heap.size:=by omega
 have hcc1:w.heap.size+1+1 < w1.heap.size:=by omega
 go_wp2
 refine bodyPost_ret (v:=.agg #[.slice A0 n0 cap0,.int .i64 i1]) (by simp [results,Tryz.results220,go_sem,hc1,ha1,hbb1,hcc1]) rfl ⟨[.slice A0 n0 cap0,.int .i64 i1],rfl,?_,(by repeat (first | refine Below.setCell ?_ (by simp;try omega) _ | exact hbw1))⟩
 simp
 exact (Zai.cons (fun x=>w.heap.size+1+1+1<=x∧x < w1.heap.size) (fun x=>w1.heap.size<=x∧x < w1.heap.size) (HOWN0.out.same (by repeat (first | refine Same.trans ?_ (Same.setCell _ _ _ _ (by simp;try omega)) | exact Same.refl _ _))) (Zai.lit Zai.nil) (fun x hx=>⟨by omega,by omega⟩) (fun x hx=>⟨by omega,by omega⟩) (fun x hx hy=>by omega))
theorem ZvF (row:List C):ZmL row:=ZzJ row
theorem ZvG (row:List C):ZmM row:=ZzK row
theorem ZvH (row:List C):ZmN row:=ZzL row
theorem ZvI (rows:List (List C)) (h:∀ (i:Nat) r,rows[i]?=some r->ZmL r):ZpS rows:=by
 intro S v left w hok hv h0 h1
 obtain ⟨A,m,cap,rfl,hm,hmc,hcm⟩:=hv.form
 have H:=Lib.hid h
 have HV:=Lib.hid hv
 have HM:=Lib.hid hm
 have HOK:=Lib.hid hok
 clear h hv hm hok
 unfold maxLen at hcm
 by_cases hlt:left - m < 0
 ·rw [Zax (by have:=HM.out;omega)]
  go_enter Tryz.func148,Tryz.ntmps148
  go_wp2
  go_ret
  exact ⟨rfl,Below.refl _ _⟩
 ·go_enter Tryz.func148,Tryz.ntmps148
  go_wp2
  go_loopw [1,5] (fun l i wr=>∃ k:Nat,k<=m∧i=.int .i64 k∧l=.int .i64 (left - m - (Zaf (rows.take k):Int))∧0<=left - m - (Zaf (rows.take k):Int)∧Below w.heap.size w wr) (fun _ i _=>m - (intOf i).toNat)
  case atStart=>exact ⟨0,Tai _,rfl,by simp [Zaf],by simp [Zaf];omega,Below.refl _ _⟩
  case round =>
   obtain ⟨k,hk,rfl,rfl,hl0,hb⟩:=hrel
   by_cases hkm:k < m
   ·obtain ⟨b,off,r,rfl,hS,hbz,hget,hokr,hrow⟩:=(HV.out.below hb).get HOK.out hkm
    obtain ⟨u0,u1,c0,c1,hvals⟩:=hrow.vals2 hokr.len
    have HT:=H.out k r hget
    have HVALS:=Lib.hid hvals
    have HOKR:=Lib.hid hokr
    have HBT:=Lib.hid (ZdX hget)
    have hle:=ZcX rows (k+1)
    clear hvals hokr hrow hget
    simp only [Zad,Za2,occF,Zbc,sigF,ZaW,algF,Tae,Tag,Taf,Taj,Nat.reduceAdd,Nat.mul_one] at c0 c1
    by_cases h2:left - m - (Zaf (rows.take k):Int) < Zae r
    ·go_wp2_with fail
     refine (HT S _ _ _ HOKR.out HVALS.out om om).mono ?_
     rw [Zax h2]
     rintro e w' ⟨rfl,hb2⟩
     go_wp2
     go_ret
     exact ⟨Zaw (a:=-1) (Zax (by have:=HBT.out;have:=HM.out;omega)).symm,hb.trans (hb2.mono hb.size)⟩
    ·go_wp2_with fail
     refine (HT S _ _ _ HOKR.out HVALS.out om om).mono ?_
     rw [Za0 om]
     rintro e w' ⟨rfl,hb2⟩
     go_wp2
     go_roundw
     case rel=>exact ⟨k+1,by omega,by go_num,by have:=HBT.out;congr 1;omega,by have:=HBT.out;omega,hb.trans (hb2.mono hb.size)⟩
     case measure=>simp [intOf];omega
   ·go_wp2
    go_ret
    have e:k=m:=by omega
    subst e
    have:rows.take k=rows:=List.take_of_length_le (by have:=HM.out;omega)
    rw [this] at hl0 ⊢
    exact ⟨Zaw (by have:=HM.out;rw [Za0 om];omega),hb⟩
theorem ZvJ (rows:List (List C)) (h:∀ (i:Nat) r,rows[i]?=some r->ZmM r):ZpT rows:=by
 intro S S' v v' w hok hv hv'
 obtain ⟨A,m,cap,rfl,hm,hmc,hcm⟩:=hv.form
 obtain ⟨A',m',cap',rfl,hm',hmc',hcm'⟩:=hv'.form
 obtain rfl:m=m':=by omega
 have H:=Lib.hid h
 have HV:=Lib.hid hv
 have HV':=Lib.hid hv'
 have HM:=Lib.hid hm
 have HOK:=Lib.hid hok
 clear h hv hm hok hm' hv'
 unfold maxLen at hcm hcm'
 go_enter Tryz.func173,Tryz.ntmps173
 go_wp2
 go_loopw [5] (fun i wr=>∃ k:Nat,k<=m∧i=.int .i64 k∧Below w.heap.size w wr) (fun i _=>m - (intOf i).toNat)
 case atStart=>exact ⟨0,Tai _,rfl,Below.refl _ _⟩
 case round =>
  obtain ⟨k,hk,rfl,hb⟩:=hrel
  by_cases hkm:k < m
  ·obtain ⟨b,off,r,rfl,hS,hbz,hget,hokr,hrow⟩:=(HV.out.below hb).get HOK.out hkm
   obtain ⟨b',off',r',rfl,hS',hbz',hget',hokr',hrow'⟩:=(HV'.out.below hb).get HOK.out hkm
   obtain rfl:r=r':=by rw [hget] at hget';exact Option.some.inj hget'
   obtain ⟨u0,u1,c0,c1,hvals⟩:=hrow.vals2 hokr.len
   obtain ⟨x0,x1,d0,d1,hvals'⟩:=hrow'.vals2 hokr.len
   have HT:=H.out k r hget
   have HVALS:=Lib.hid hvals
   have HVALS':=Lib.hid hvals'
   have HOKR:=Lib.hid hokr
   clear hvals hvals' hokr hokr' hrow hrow' hget hget'
   simp only [Zad,Za2,occF,Zbc,sigF,ZaW,algF,Tae,Tag,Taf,Taj,Nat.reduceAdd,Nat.mul_one] at c0 c1 d0 d1
   have k0:(0:Int)<=(k:Int):=by omega
   have k1:(k:Int) < (m:Int):=by omega
   go_wp2_with fail
   go_region_held3 (fun w'=>∀ b o,b < wr.heap.size->w'.cell? ⟨b,o,none⟩=wr.cell? ⟨b,o,none⟩) (first | go_keep | exact fun b o h=>hb2.cell (p:=⟨b,o,none⟩) h) (first | (go_at_call 230;refine (HT S S' _ _ _ HOKR.out (HVALS.out.below (Below.refl _ _).drew) (HVALS'.out.below (Below.refl _ _).drew)).mono ?_;rintro e w' ⟨rfl,hb2⟩))
   go_wp2
   go_roundw
   case rel=>exact ⟨k+1,by omega,by go_num,hb.trans ((Below.refl _ _).drew.trans (hb2.mono hb.size))⟩
   case measure=>simp [intOf];omega
  ·go_wp2
   go_ret
   exact ⟨rfl,hb⟩
theorem ZzM:(Tryz.prog.info? 199).map (fun i=>(i.zero,i.size,i.bytes))=some (some (.agg #[.slice none 0 0,.int .i64 0]),2,32):=by kernel_rfl
theorem ZvK (rows:List (List C)) (h:∀ (i:Nat) r,rows[i]?=some r->ZmN r):ZpU rows:=by
 intro S v w hok hv hlen
 obtain ⟨A,m,cap,rfl,hm,hmc,hcm⟩:=hv.form
 obtain ⟨i0,hi,hz0,hz1,hz2⟩:=info_parts ZzM
 have H:=Lib.hid h
 have HV:=Lib.hid hv
 have HM:=Lib.hid hm
 have HOK:=Lib.hid hok
 have hml:m<=1048576:=by omega
 clear h hv hm hok
 unfold maxLen at hcm
 have hmk:=run_make (P:=Tryz.prog) w 135 199 i0 _ Tryz.underlying135 hi hz0 .i64 .i64 (m:Int) (m:Int) om om (by rw [hz2];omega) om
 go_enter Tryz.func159,Tryz.ntmps159
 go_wp2
 clear hmk
 go_loopw [4] (fun i wr=>∃ k:Nat,k<=m∧i=.int .i64 k∧ZbA w w.heap.size 199 m 2 rows k wr) (fun i _=>m - (intOf i).toNat)
 case atStart=>exact ⟨0,Tai _,rfl,ZbA.start (size_madeCells _ _)⟩
 case round =>
  obtain ⟨k,hk,rfl,hfill⟩:=hrel
  have hb:=hfill.1
  by_cases hkm:k < m
  ·obtain ⟨b,off,r,rfl,hS,hbz,hget,hokr,hrow⟩:=(HV.out.below hb).get HOK.out hkm
   obtain ⟨u0,u1,c0,c1,hvals⟩:=hrow.vals2 hokr.len
   have HT:=H.out k r hget
   have HVALS:=Lib.hid hvals
   have HOKR:=Lib.hid hokr
   have HGET:=Lib.hid hget
   have HF:=Lib.hid hfill
   have hbg:=Zco hget
   clear hvals hokr hrow hget hfill
   simp only [Zad,Za2,occF,Zbc,sigF,ZaW,algF,Tae,Tag,Taf,Taj,Nat.reduceAdd,Nat.mul_one] at c0 c1
   go_wp2_with fail
   refine (HT S _ _ HOKR.out HVALS.out om).mono ?_
   rintro e w2 ⟨us,rfl,hown,hb2⟩
   have hone:=HOKR.out.one (Zai.rep _ _ (fun _=>True) _ (fun _ _=>trivial) hown)
   obtain ⟨y0,y1,rfl⟩:=len2 (hown.len.trans HOKR.out.len)
   have HOWN:=Lib.hid hown
   have HONE:=Lib.hid hone
   obtain ⟨cur,hcur,hcs⟩:=HF.out.row hb2
   have HCUR:=Lib.hid hcur
   have HCS:=Lib.hid hcs
   clear hown hone hcur hcs
   go_wp2_with (refine ZbX rfl 199 _ _ rfl w.heap.size (k * 2) rfl [y0,y1] rfl i0 hi hz1 199 cur HCUR.out (by have:=HCS.out;simp only [Taf,Taj];omega) HONE.out ?_;intro w3 hput)
   go_roundw
   case rel=>exact ⟨k+1,by omega,by go_num,HF.out.step (fs:=Zad .decl) HOK.out HGET.out hb2 HOWN.out hput⟩
   case measure=>simp [intOf];omega
  ·go_wp2
   go_ret
   have e:k=m:=by omega
   subst e
   exact ⟨_,rfl,hfill.done HM.out (by unfold maxLen;omega) (by decide) HOK.out.lens⟩
theorem ZrI (rows:List (List C)):ZpS rows:=ZvI rows (fun _ r _=>ZvF r)
theorem ZrJ (rows:List (List C)):ZpT rows:=ZvJ rows (fun _ r _=>ZvG r)
theorem ZrK (rows:List (List C)):ZpU rows:=ZvK rows (fun _ r _=>ZvH r)
theorem Zh5 {r:List C} (h:Zal (Zad .op) r):∃ (t0:ByteArray) (r1:List (List C)) (p2:Bool) (p3:Bool) (i4:Int),r=[.lit (.string t0),.sl r1,.lit (.bool p2),.lit (.bool p3),.lit (.int .i64 i4)]∧t0.size<=maxLen∧Zao (Zad .decl) r1∧True∧True∧I64 i4:=by
 obtain ⟨c0,c1,c2,c3,c4,rfl⟩:=len5 h.len
 simp only [Zad,Za2,occF,Zbc,sigF,ZaW,algF,Tae,Tag,Zal,and_true] at h
 obtain ⟨h0,h1,h2,h3,h4⟩:=h
 obtain ⟨t0,rfl,g0⟩:=Ze9 h0
 obtain ⟨r1,rfl,g1⟩:=Zcm h1
 obtain ⟨p2,rfl⟩:=Zpb h2
 obtain ⟨p3,rfl⟩:=Zpb h3
 obtain ⟨i4,rfl,g4⟩:=Zcp h4
 exact ⟨t0,r1,p2,p3,i4,rfl,g0,g1,trivial,trivial,g4⟩
theorem Zf3 {w:World} {S:Nat->Prop} {t0:ByteArray} {r1:List (List C)} {p2:Bool} {p3:Bool} {i4:Int} {us:List Value} (h:Zaa w S [.lit (.string t0),.sl r1,.lit (.bool p2),.lit (.bool p3),.lit (.int .i64 i4)] us):∃ v1,us=[.string t0,v1,.bool p2,.bool p3,.int .i64 i4]∧Rep w S (.sl r1) v1:=by
 obtain ⟨u0,u1,u2,u3,u4,rfl⟩:=len5 h.len
 simp only [Zaa,Rep.lit_iff,and_true] at h
 obtain ⟨rfl,e1,rfl,rfl,rfl⟩:=h
 exact ⟨u1,rfl,e1⟩
def ZvL (row:List C):Prop:=∀ (S:Nat->Prop) (us:List Value) (left:Int) (w:World),Zal (Zad .op) row->Zaa w S row us->0<=left->left<=1048576 ->
 Calls Tryz.prog 93 #[.agg us.toArray,.int .i64 left] w fun e w'=>e=.returned (.int .i64 (sub left (Zae row)))∧Below w.heap.size w w'
def ZvM (row:List C):Prop:=∀ (S S':Nat->Prop) (us us':List Value) (w:World),Zal (Zad .op) row->Zaa w S row us->Zaa w S' row us' ->
 Calls Tryz.prog 113 #[.agg us.toArray,.agg us'.toArray] w fun e w'=>e=.returned (.bool true)∧Below w.heap.size w w'
def ZvN (row:List C):Prop:=∀ (S:Nat->Prop) (us:List Value) (w:World),Zal (Zad .op) row->Zaa w S row us->Zae row<=1048576 ->
 Calls Tryz.prog 102 #[.agg us.toArray] w fun e w'=>∃ us':List Value,e=.returned (.agg us'.toArray)∧Zai w' row (fun x=>w.heap.size<=x∧x < w'.heap.size) us'∧Below w.heap.size w w'
def ZzN (rows:List (List C)):Prop:=∀ (S:Nat->Prop) (v:Value) (left:Int) (w:World),Zao (Zad .op) rows->Rep w S (.sl rows) v->0<=left->left<=1048576 ->
 Calls Tryz.prog 41 #[v,.int .i64 left] w fun e w'=>e=.returned (.int .i64 (sub left (rows.length+Zaf rows)))∧Below w.heap.size w w'
def ZzO (rows:List (List C)):Prop:=∀ (S S':Nat->Prop) (v v':Value) (w:World),Zao (Zad .op) rows->Rep w S (.sl rows) v->Rep w S' (.sl rows) v' ->
 Calls Tryz.prog 55 #[v,v'] w fun e w'=>e=.returned (.bool true)∧Below w.heap.size w w'
def ZzP (rows:List (List C)):Prop:=∀ (S:Nat->Prop) (v:Value) (w:World),Zao (Zad .op) rows->Rep w S (.sl rows) v->rows.length+Zaf rows<=1048576 ->
 Calls Tryz.prog 47 #[v] w fun e w'=>∃ v',e=.returned v'∧Own w' (.sl rows) (fun x=>w.heap.size<=x∧x < w'.heap.size) v'∧Below w.heap.size w w'
theorem ZF6 (row:List C):ZvL row:=by
 intro S us left w hok hv h0 h1
 obtain ⟨t0,r1,p2,p3,i4,rfl,g0,g1,_,_,g4⟩:=Zh5 hok
 obtain ⟨v1,rfl,e1⟩:=Zf3 hv
 have HC1:=Lib.hid (ZrI r1)
 have HB:=Lib.hid (show Zae [.lit (.string t0),.sl r1,.lit (.bool p2),.lit (.bool p3),.lit (.int .i64 i4)]=t0.size+(r1.length+Zaf r1) from by simp only [Zae,Zbr];omega)
 have hs0:=g0
 unfold maxLen at hs0
 have G0:=Lib.hid g0
 have G1:=Lib.hid g1
 have G4:=Lib.hid g4
 clear g0 g1 g4 hok
 have E1:=Lib.hid e1
 clear hv e1
 generalize hrow:Zae [.lit (.string t0),.sl r1,.lit (.bool p2),.lit (.bool p3),.lit (.int .i64 i4)]=total at HB ⊢
 clear hrow
 have hbw:=(Below.refl w.heap.size w).alloc (Tah _) (.cells #[.string t0,v1,.bool p2,.bool p3,.int .i64 i4] 134)
 by_cases q0:left - (t0.size:Int) < 0
 ·go_enter Tryz.func93,Tryz.ntmps93
  go_wp2
  go_ret
  exact ⟨Zaw (a:=-1) (Zax (by have:=HB.out;omega)).symm,hbw⟩
 go_enter Tryz.func93,Tryz.ntmps93
 go_wp2_with fail
 by_cases q1:(left - (t0.size:Int)) < ((r1.length+Zaf r1):Nat)
 ·refine (HC1.out S _ _ _ G1.out (E1.out.below hbw) om om).mono ?_
  rw [Zax om]
  rintro e w1 ⟨rfl,hb1⟩
  go_wp2
  go_ret
  exact ⟨Zaw (a:=-1) (Zax (by have:=HB.out;omega)).symm,hbw.trans (hb1.mono hbw.size)⟩
 refine (HC1.out S _ _ _ G1.out (E1.out.below hbw) om om).mono ?_
 rw [Za0 om]
 rintro e w1 ⟨rfl,hb1⟩
 obtain ⟨hc1,hf1⟩:=Za8 hb1
 have hz1:w.heap.size < w1.heap.size:=(by have:=hb1.size;(try simp at this);omega)
 replace hbw:=hbw.trans (hb1.mono hbw.size)
 go_wp2
 go_ret
 exact ⟨Zaw (by have:=HB.out;rw [Za0 om];omega),hbw⟩
theorem ZF7 (row:List C):ZvM row:=by
 intro S S' us us' w hok hv hv'
 obtain ⟨t0,r1,p2,p3,i4,rfl,g0,g1,_,_,g4⟩:=Zh5 hok
 obtain ⟨v1,rfl,e1⟩:=Zf3 hv
 obtain ⟨x1,rfl,d1⟩:=Zf3 hv'
 have HC1:=Lib.hid (ZrJ r1)
 have G0:=Lib.hid g0
 have G1:=Lib.hid g1
 have G4:=Lib.hid g4
 clear g0 g1 g4 hok
 have E1:=Lib.hid e1
 have D1:=Lib.hid d1
 clear hv hv' e1 d1
 have hbw:=((Below.refl w.heap.size w).alloc (Tah _) (.cells #[.string t0,v1,.bool p2,.bool p3,.int .i64 i4] 137)).alloc (by simp) (.cells #[.string t0,x1,.bool p2,.bool p3,.int .i64 i4] 137)
 go_enter Tryz.func113,Tryz.ntmps113
 go_wp2_with fail
 refine (HC1.out S S' _ _ _ G1.out (E1.out.below hbw) (D1.out.below hbw)).mono ?_
 rintro e w1 ⟨rfl,hb1⟩
 obtain ⟨hc1,hf1⟩:=Za8 hb1
 have hz1:w.heap.size+1 < w1.heap.size:=(by have:=hb1.size;(try simp at this);omega)
 have ha1:w.heap.size < w1.heap.size:=by omega
 replace hbw:=hbw.trans (hb1.mono hbw.size)
 go_wp2
 go_ret
 exact ⟨rfl,hbw⟩
theorem ZF8 (row:List C):ZvN row:=by
 intro S us w hok hv hlen
 obtain ⟨t0,r1,p2,p3,i4,rfl,g0,g1,_,_,g4⟩:=Zh5 hok
 obtain ⟨v1,rfl,e1⟩:=Zf3 hv
 have HC1:=Lib.hid (ZrK r1)
 have G0:=Lib.hid g0
 have G1:=Lib.hid g1
 have G4:=Lib.hid g4
 clear g0 g1 g4 hok
 have E1:=Lib.hid e1
 clear hv e1
 have hl1:(r1.length+Zaf r1)<=1048576:=by
  have e:(r1.length+Zaf r1)<=Zae [.lit (.string t0),.sl r1,.lit (.bool p2),.lit (.bool p3),.lit (.int .i64 i4)]:=by simp only [Zae,Zbr];omega
  exact Tbe e hlen
 clear hlen
 go_enter Tryz.func102,Tryz.ntmps102
 go_wp2_with fail
 refine (HC1.out S _ _ G1.out (by exact E1.out.below (by repeat (first | refine Below.alloc ?_ (by simp;try omega) _ | exact Below.refl _ _))) hl1).mono ?_
 rintro e w1 ⟨y1,rfl,hown1,hb1⟩
 obtain ⟨A1,n1,cap1,rfl,_,_,_⟩:=(Own.rep _ _ _ hown1).form
 have hz1:=hb1.size
 simp at hz1 hown1
 have HOWN1:=Lib.hid hown1
 clear hown1
 have hbw1:Below w.heap.size w w1:=Below.trans (by repeat (first | refine Below.alloc ?_ (by simp;try omega) _ | exact Below.refl _ _)) (hb1.mono (by simp;try omega))
 obtain ⟨hc1,hf1⟩:=Za8 hb1
 have ha1:w.heap.size < w1.heap.size:=by omega
 have hbb1:w.heap.size+1 < w1.heap.size:=by omega
 have hcc1:w.heap.size+1+1 < w1.heap.size:=by omega
 go_wp2
 refine bodyPost_ret (v:=.agg #[.string t0,.slice A1 n1 cap1,.bool p2,.bool p3,.int .i64 i4]) (by simp [results,Tryz.results102,go_sem,hc1,ha1,hbb1,hcc1]) rfl ⟨[.string t0,.slice A1 n1 cap1,.bool p2,.bool p3,.int .i64 i4],rfl,?_,(by repeat (first | refine Below.setCell ?_ (by simp;try omega) _ | exact hbw1))⟩
 simp
 exact (Zai.lit (Zai.cons (fun x=>w.heap.size+1+1+1<=x∧x < w1.heap.size) (fun x=>w1.heap.size<=x∧x < w1.heap.size) (HOWN1.out.same (by repeat (first | refine Same.trans ?_ (Same.setCell _ _ _ _ (by simp;try omega)) | exact Same.refl _ _))) (Zai.lit (Zai.lit (Zai.lit Zai.nil))) (fun x hx=>⟨by omega,by omega⟩) (fun x hx=>⟨by omega,by omega⟩) (fun x hx hy=>by omega)))
theorem ZBI (row:List C):ZvL row:=ZF6 row
theorem ZBJ (row:List C):ZvM row:=ZF7 row
theorem ZBK (row:List C):ZvN row:=ZF8 row
theorem ZBL (rows:List (List C)) (h:∀ (i:Nat) r,rows[i]?=some r->ZvL r):ZzN rows:=by
 intro S v left w hok hv h0 h1
 obtain ⟨A,m,cap,rfl,hm,hmc,hcm⟩:=hv.form
 have H:=Lib.hid h
 have HV:=Lib.hid hv
 have HM:=Lib.hid hm
 have HOK:=Lib.hid hok
 clear h hv hm hok
 unfold maxLen at hcm
 by_cases hlt:left - m < 0
 ·rw [Zax (by have:=HM.out;omega)]
  go_enter Tryz.func41,Tryz.ntmps41
  go_wp2
  go_ret
  exact ⟨rfl,Below.refl _ _⟩
 ·go_enter Tryz.func41,Tryz.ntmps41
  go_wp2
  go_loopw [1,5] (fun l i wr=>∃ k:Nat,k<=m∧i=.int .i64 k∧l=.int .i64 (left - m - (Zaf (rows.take k):Int))∧0<=left - m - (Zaf (rows.take k):Int)∧Below w.heap.size w wr) (fun _ i _=>m - (intOf i).toNat)
  case atStart=>exact ⟨0,Tai _,rfl,by simp [Zaf],by simp [Zaf];omega,Below.refl _ _⟩
  case round =>
   obtain ⟨k,hk,rfl,rfl,hl0,hb⟩:=hrel
   by_cases hkm:k < m
   ·obtain ⟨b,off,r,rfl,hS,hbz,hget,hokr,hrow⟩:=(HV.out.below hb).get HOK.out hkm
    obtain ⟨u0,u1,u2,u3,u4,c0,c1,c2,c3,c4,hvals⟩:=hrow.vals5 hokr.len
    have HT:=H.out k r hget
    have HVALS:=Lib.hid hvals
    have HOKR:=Lib.hid hokr
    have HBT:=Lib.hid (ZdX hget)
    have hle:=ZcX rows (k+1)
    clear hvals hokr hrow hget
    simp only [Zad,Za2,occF,Zbc,sigF,ZaW,algF,Tae,Tag,Taf,Taj,Nat.reduceAdd,Nat.mul_one] at c0 c1 c2 c3 c4
    by_cases h2:left - m - (Zaf (rows.take k):Int) < Zae r
    ·go_wp2_with fail
     refine (HT S _ _ _ HOKR.out HVALS.out om om).mono ?_
     rw [Zax h2]
     rintro e w' ⟨rfl,hb2⟩
     go_wp2
     go_ret
     exact ⟨Zaw (a:=-1) (Zax (by have:=HBT.out;have:=HM.out;omega)).symm,hb.trans (hb2.mono hb.size)⟩
    ·go_wp2_with fail
     refine (HT S _ _ _ HOKR.out HVALS.out om om).mono ?_
     rw [Za0 om]
     rintro e w' ⟨rfl,hb2⟩
     go_wp2
     go_roundw
     case rel=>exact ⟨k+1,by omega,by go_num,by have:=HBT.out;congr 1;omega,by have:=HBT.out;omega,hb.trans (hb2.mono hb.size)⟩
     case measure=>simp [intOf];omega
   ·go_wp2
    go_ret
    have e:k=m:=by omega
    subst e
    have:rows.take k=rows:=List.take_of_length_le (by have:=HM.out;omega)
    rw [this] at hl0 ⊢
    exact ⟨Zaw (by have:=HM.out;rw [Za0 om];omega),hb⟩
theorem ZBM (rows:List (List C)) (h:∀ (i:Nat) r,rows[i]?=some r->ZvM r):ZzO rows:=by
 intro S S' v v' w hok hv hv'
 obtain ⟨A,m,cap,rfl,hm,hmc,hcm⟩:=hv.form
 obtain ⟨A',m',cap',rfl,hm',hmc',hcm'⟩:=hv'.form
 obtain rfl:m=m':=by omega
 have H:=Lib.hid h
 have HV:=Lib.hid hv
 have HV':=Lib.hid hv'
 have HM:=Lib.hid hm
 have HOK:=Lib.hid hok
 clear h hv hm hok hm' hv'
 unfold maxLen at hcm hcm'
 go_enter Tryz.func55,Tryz.ntmps55
 go_wp2
 go_loopw [5] (fun i wr=>∃ k:Nat,k<=m∧i=.int .i64 k∧Below w.heap.size w wr) (fun i _=>m - (intOf i).toNat)
 case atStart=>exact ⟨0,Tai _,rfl,Below.refl _ _⟩
 case round =>
  obtain ⟨k,hk,rfl,hb⟩:=hrel
  by_cases hkm:k < m
  ·obtain ⟨b,off,r,rfl,hS,hbz,hget,hokr,hrow⟩:=(HV.out.below hb).get HOK.out hkm
   obtain ⟨b',off',r',rfl,hS',hbz',hget',hokr',hrow'⟩:=(HV'.out.below hb).get HOK.out hkm
   obtain rfl:r=r':=by rw [hget] at hget';exact Option.some.inj hget'
   obtain ⟨u0,u1,u2,u3,u4,c0,c1,c2,c3,c4,hvals⟩:=hrow.vals5 hokr.len
   obtain ⟨x0,x1,x2,x3,x4,d0,d1,d2,d3,d4,hvals'⟩:=hrow'.vals5 hokr.len
   have HT:=H.out k r hget
   have HVALS:=Lib.hid hvals
   have HVALS':=Lib.hid hvals'
   have HOKR:=Lib.hid hokr
   clear hvals hvals' hokr hokr' hrow hrow' hget hget'
   simp only [Zad,Za2,occF,Zbc,sigF,ZaW,algF,Tae,Tag,Taf,Taj,Nat.reduceAdd,Nat.mul_one] at c0 c1 c2 c3 c4 d0 d1 d2 d3 d4
   have k0:(0:Int)<=(k:Int):=by omega
   have k1:(k:Int) < (m:Int):=by omega
   go_wp2_with fail
   go_region_held3 (fun w'=>∀ b o,b < wr.heap.size->w'.cell? ⟨b,o,none⟩=wr.cell? ⟨b,o,none⟩) (first | go_keep | exact fun b o h=>hb2.cell (p:=⟨b,o,none⟩) h) (first | (go_at_call 113;refine (HT S S' _ _ _ HOKR.out (HVALS.out.below (Below.refl _ _).drew) (HVALS'.out.below (Below.refl _ _).drew)).mono ?_;rintro e w' ⟨rfl,hb2⟩))
   go_wp2
   go_roundw
   case rel=>exact ⟨k+1,by omega,by go_num,hb.trans ((Below.refl _ _).drew.trans (hb2.mono hb.size))⟩
   case measure=>simp [intOf];omega
  ·go_wp2
   go_ret
   exact ⟨rfl,hb⟩
theorem ZF9:(Tryz.prog.info? 137).map (fun i=>(i.zero,i.size,i.bytes))=some (some (.agg #[.string .empty,.slice none 0 0,.bool false,.bool false,.int .i64 0]),5,56):=by kernel_rfl
theorem ZBN (rows:List (List C)) (h:∀ (i:Nat) r,rows[i]?=some r->ZvN r):ZzP rows:=by
 intro S v w hok hv hlen
 obtain ⟨A,m,cap,rfl,hm,hmc,hcm⟩:=hv.form
 obtain ⟨i0,hi,hz0,hz1,hz2⟩:=info_parts ZF9
 have H:=Lib.hid h
 have HV:=Lib.hid hv
 have HM:=Lib.hid hm
 have HOK:=Lib.hid hok
 have hml:m<=1048576:=by omega
 clear h hv hm hok
 unfold maxLen at hcm
 have hmk:=run_make (P:=Tryz.prog) w 39 137 i0 _ Tryz.underlying39 hi hz0 .i64 .i64 (m:Int) (m:Int) om om (by rw [hz2];omega) om
 go_enter Tryz.func47,Tryz.ntmps47
 go_wp2
 clear hmk
 go_loopw [4] (fun i wr=>∃ k:Nat,k<=m∧i=.int .i64 k∧ZbA w w.heap.size 137 m 5 rows k wr) (fun i _=>m - (intOf i).toNat)
 case atStart=>exact ⟨0,Tai _,rfl,ZbA.start (size_madeCells _ _)⟩
 case round =>
  obtain ⟨k,hk,rfl,hfill⟩:=hrel
  have hb:=hfill.1
  by_cases hkm:k < m
  ·obtain ⟨b,off,r,rfl,hS,hbz,hget,hokr,hrow⟩:=(HV.out.below hb).get HOK.out hkm
   obtain ⟨u0,u1,u2,u3,u4,c0,c1,c2,c3,c4,hvals⟩:=hrow.vals5 hokr.len
   have HT:=H.out k r hget
   have HVALS:=Lib.hid hvals
   have HOKR:=Lib.hid hokr
   have HGET:=Lib.hid hget
   have HF:=Lib.hid hfill
   have hbg:=Zco hget
   clear hvals hokr hrow hget hfill
   simp only [Zad,Za2,occF,Zbc,sigF,ZaW,algF,Tae,Tag,Taf,Taj,Nat.reduceAdd,Nat.mul_one] at c0 c1 c2 c3 c4
   go_wp2_with fail
   refine (HT S _ _ HOKR.out HVALS.out om).mono ?_
   rintro e w2 ⟨us,rfl,hown,hb2⟩
   have hone:=HOKR.out.one (Zai.rep _ _ (fun _=>True) _ (fun _ _=>trivial) hown)
   obtain ⟨y0,y1,y2,y3,y4,rfl⟩:=len5 (hown.len.trans HOKR.out.len)
   have HOWN:=Lib.hid hown
   have HONE:=Lib.hid hone
   obtain ⟨cur,hcur,hcs⟩:=HF.out.row hb2
   have HCUR:=Lib.hid hcur
   have HCS:=Lib.hid hcs
   clear hown hone hcur hcs
   go_wp2_with (refine ZbX rfl 137 _ _ rfl w.heap.size (k * 5) rfl [y0,y1,y2,y3,y4] rfl i0 hi hz1 137 cur HCUR.out (by have:=HCS.out;simp only [Taf,Taj];omega) HONE.out ?_;intro w3 hput)
   go_roundw
   case rel=>exact ⟨k+1,by omega,by go_num,HF.out.step (fs:=Zad .op) HOK.out HGET.out hb2 HOWN.out hput⟩
   case measure=>simp [intOf];omega
  ·go_wp2
   go_ret
   have e:k=m:=by omega
   subst e
   exact ⟨_,rfl,hfill.done HM.out (by unfold maxLen;omega) (by decide) HOK.out.lens⟩
theorem ZzQ (rows:List (List C)):ZzN rows:=ZBL rows (fun _ r _=>ZBI r)
theorem ZzR (rows:List (List C)):ZzO rows:=ZBM rows (fun _ r _=>ZBJ r)
theorem ZzS (rows:List (List C)):ZzP rows:=ZBN rows (fun _ r _=>ZBK r)
theorem ZdS {r:List C} (h:Zal (sigF) r):∃ (r0:List (List C)) (r1:List (List C)) (r2:List (List C)),r=[.sl r0,.sl r1,.sl r2]∧Zao (Zad .str) r0∧Zao (Zad .sub) r1∧Zao (Zad .op) r2:=by
 obtain ⟨c0,c1,c2,rfl⟩:=len3 h.len
 simp only [Zad,Za2,occF,Zbc,sigF,ZaW,algF,Tae,Tag,Zal,and_true] at h
 obtain ⟨h0,h1,h2⟩:=h
 obtain ⟨r0,rfl,g0⟩:=Zcm h0
 obtain ⟨r1,rfl,g1⟩:=Zcm h1
 obtain ⟨r2,rfl,g2⟩:=Zcm h2
 exact ⟨r0,r1,r2,rfl,g0,g1,g2⟩
theorem Zdb {r0:List (List C)} {r1:List (List C)} {r2:List (List C)} (g0:Zao (Zad .str) r0) (g1:Zao (Zad .sub) r1) (g2:Zao (Zad .op) r2):Zal (sigF) [.sl r0,.sl r1,.sl r2]:=by
 simp only [Zad,Za2,occF,Zbc,sigF,ZaW,algF,Tae,Tag,Zal,and_true]
 exact ⟨Zg1 g0,Zg1 g1,Zg1 g2⟩
theorem ZcG {w:World} {S:Nat->Prop} {r0:List (List C)} {r1:List (List C)} {r2:List (List C)} {us:List Value} (h:Zaa w S [.sl r0,.sl r1,.sl r2] us):∃ v0 v1 v2,us=[v0,v1,v2]∧Rep w S (.sl r0) v0∧Rep w S (.sl r1) v1∧Rep w S (.sl r2) v2:=by
 obtain ⟨u0,u1,u2,rfl⟩:=len3 h.len
 simp only [Zaa,Rep.lit_iff,and_true] at h
 obtain ⟨e0,e1,e2⟩:=h
 exact ⟨u0,u1,u2,rfl,e0,e1,e2⟩
theorem Zc0 {w:World} {S:Nat->Prop} {r0:List (List C)} {r1:List (List C)} {r2:List (List C)} {v0:Value} {v1:Value} {v2:Value} (e0:Rep w S (.sl r0) v0) (e1:Rep w S (.sl r1) v1) (e2:Rep w S (.sl r2) v2):Zaa w S [.sl r0,.sl r1,.sl r2] [v0,v1,v2]:=by
 simp only [Zaa,Rep.lit_iff,and_true,true_and]
 exact ⟨e0,e1,e2⟩
def Zi5 (row:List C):Prop:=∀ (S:Nat->Prop) (us:List Value) (left:Int) (w:World),Zal (sigF) row->Zaa w S row us->0<=left->left<=1048576 ->
 Calls Tryz.prog 9 #[.agg us.toArray,.int .i64 left] w fun e w'=>e=.returned (.int .i64 (sub left (Zae row)))∧Below w.heap.size w w'
def Zi6 (row:List C):Prop:=∀ (S S':Nat->Prop) (us us':List Value) (w:World),Zal (sigF) row->Zaa w S row us->Zaa w S' row us' ->
 Calls Tryz.prog 16 #[.agg us.toArray,.agg us'.toArray] w fun e w'=>e=.returned (.bool true)∧Below w.heap.size w w'
def Zi7 (row:List C):Prop:=∀ (S:Nat->Prop) (us:List Value) (w:World),Zal (sigF) row->Zaa w S row us->Zae row<=1048576 ->
 Calls Tryz.prog 12 #[.agg us.toArray] w fun e w'=>∃ us':List Value,e=.returned (.agg us'.toArray)∧Zai w' row (fun x=>w.heap.size<=x∧x < w'.heap.size) us'∧Below w.heap.size w w'
theorem ZmO (row:List C):Zi5 row:=by
 intro S us left w hok hv h0 h1
 obtain ⟨r0,r1,r2,rfl,g0,g1,g2⟩:=ZdS hok
 obtain ⟨v0,v1,v2,rfl,e0,e1,e2⟩:=ZcG hv
 have HC0:=Lib.hid (ZrF [.sl r0,.sl r1])
 have HC2:=Lib.hid (ZzQ r2)
 have HB:=Lib.hid (show Zae [.sl r0,.sl r1,.sl r2]=(Zae [.sl r0,.sl r1])+(r2.length+Zaf r2) from by simp only [Zae,Zbr];omega)
 have G0:=Lib.hid g0
 have G1:=Lib.hid g1
 have G2:=Lib.hid g2
 clear g0 g1 g2 hok
 have E0:=Lib.hid e0
 have E1:=Lib.hid e1
 have E2:=Lib.hid e2
 clear hv e0 e1 e2
 generalize hrow:Zae [.sl r0,.sl r1,.sl r2]=total at HB ⊢
 clear hrow
 have hbw:=(Below.refl w.heap.size w).alloc (Tah _) (.cells #[v0,v1,v2] 28)
 go_enter Tryz.func9,Tryz.ntmps9
 go_wp2_with fail
 by_cases q0:left < ((Zae [.sl r0,.sl r1]):Nat)
 ·refine (HC0.out S _ _ _ (Zfs G0.out G1.out) (Zd4 (E0.out.below hbw) (E1.out.below hbw)) om om).mono ?_
  rw [Zax om]
  rintro e w1 ⟨rfl,hb1⟩
  go_wp2
  go_ret
  exact ⟨Zaw (a:=-1) (Zax (by have:=HB.out;omega)).symm,hbw.trans (hb1.mono hbw.size)⟩
 refine (HC0.out S _ _ _ (Zfs G0.out G1.out) (Zd4 (E0.out.below hbw) (E1.out.below hbw)) om om).mono ?_
 rw [Za0 om]
 rintro e w1 ⟨rfl,hb1⟩
 obtain ⟨hc1,hf1⟩:=Za8 hb1
 have hz1:w.heap.size < w1.heap.size:=(by have:=hb1.size;(try simp at this);omega)
 replace hbw:=hbw.trans (hb1.mono hbw.size)
 go_wp2_with fail
 by_cases q2:(left - (((Zae [.sl r0,.sl r1]):Nat):Int)) < ((r2.length+Zaf r2):Nat)
 ·refine (HC2.out S _ _ _ G2.out (E2.out.below hbw) om om).mono ?_
  rw [Zax om]
  rintro e w2 ⟨rfl,hb2⟩
  go_wp2
  go_ret
  exact ⟨Zaw (a:=-1) (Zax (by have:=HB.out;omega)).symm,hbw.trans (hb2.mono hbw.size)⟩
 refine (HC2.out S _ _ _ G2.out (E2.out.below hbw) om om).mono ?_
 rw [Za0 om]
 rintro e w2 ⟨rfl,hb2⟩
 obtain ⟨hc2,hf2⟩:=Za8 hb2
 have hz2:w.heap.size < w2.heap.size:=(by have:=hb2.size;(try simp at this);omega)
 replace hbw:=hbw.trans (hb2.mono hbw.size)
 go_wp2
 go_ret
 exact ⟨Zaw (by have:=HB.out;rw [Za0 om];omega),hbw⟩
theorem ZmP (row:List C):Zi6 row:=by
 intro S S' us us' w hok hv hv'
 obtain ⟨r0,r1,r2,rfl,g0,g1,g2⟩:=ZdS hok
 obtain ⟨v0,v1,v2,rfl,e0,e1,e2⟩:=ZcG hv
 obtain ⟨x0,x1,x2,rfl,d0,d1,d2⟩:=ZcG hv'
 have HC0:=Lib.hid (ZrG [.sl r0,.sl r1])
 have HC2:=Lib.hid (ZzR r2)
 have G0:=Lib.hid g0
 have G1:=Lib.hid g1
 have G2:=Lib.hid g2
 clear g0 g1 g2 hok
 have E0:=Lib.hid e0
 have D0:=Lib.hid d0
 have E1:=Lib.hid e1
 have D1:=Lib.hid d1
 have E2:=Lib.hid e2
 have D2:=Lib.hid d2
 clear hv hv' e0 d0 e1 d1 e2 d2
 have hbw:=((Below.refl w.heap.size w).alloc (Tah _) (.cells #[v0,v1,v2] 41)).alloc (by simp) (.cells #[x0,x1,x2] 41)
 go_enter Tryz.func16,Tryz.ntmps16
 go_wp2_with fail
 refine (HC0.out S S' _ _ _ (Zfs G0.out G1.out) (Zd4 (E0.out.below hbw) (E1.out.below hbw)) (Zd4 (D0.out.below hbw) (D1.out.below hbw))).mono ?_
 rintro e w1 ⟨rfl,hb1⟩
 obtain ⟨hc1,hf1⟩:=Za8 hb1
 have hz1:w.heap.size+1 < w1.heap.size:=(by have:=hb1.size;(try simp at this);omega)
 have ha1:w.heap.size < w1.heap.size:=by omega
 replace hbw:=hbw.trans (hb1.mono hbw.size)
 go_wp2_with fail
 refine (HC2.out S S' _ _ _ G2.out (E2.out.below hbw) (D2.out.below hbw)).mono ?_
 rintro e w2 ⟨rfl,hb2⟩
 obtain ⟨hc2,hf2⟩:=Za8 hb2
 have hz2:w.heap.size+1 < w2.heap.size:=(by have:=hb2.size;(try simp at this);omega)
 have ha2:w.heap.size < w2.heap.size:=by omega
 replace hbw:=hbw.trans (hb2.mono hbw.size)
 go_wp2
 go_ret
 exact ⟨rfl,hbw⟩
theorem ZmQ (row:List C):Zi7 row:=by
 intro S us w hok hv hlen
 obtain ⟨r0,r1,r2,rfl,g0,g1,g2⟩:=ZdS hok
 obtain ⟨v0,v1,v2,rfl,e0,e1,e2⟩:=ZcG hv
 have HC0:=Lib.hid (ZrH [.sl r0,.sl r1])
 have HC2:=Lib.hid (ZzS r2)
 have G0:=Lib.hid g0
 have G1:=Lib.hid g1
 have G2:=Lib.hid g2
 clear g0 g1 g2 hok
 have E0:=Lib.hid e0
 have E1:=Lib.hid e1
 have E2:=Lib.hid e2
 clear hv e0 e1 e2
 have hl0:(Zae [.sl r0,.sl r1])<=1048576:=by
  have e:(Zae [.sl r0,.sl r1])<=Zae [.sl r0,.sl r1,.sl r2]:=by simp only [Zae,Zbr];omega
  exact Tbe e hlen
 have hl2:(r2.length+Zaf r2)<=1048576:=by
  have e:(r2.length+Zaf r2)<=Zae [.sl r0,.sl r1,.sl r2]:=by simp only [Zae,Zbr];omega
  exact Tbe e hlen
 clear hlen
 go_enter Tryz.func12,Tryz.ntmps12
 go_wp2_with fail
 refine (HC0.out S _ _ (Zfs G0.out G1.out) (by exact Zd4 (E0.out.below (by repeat (first | refine Below.alloc ?_ (by simp;try omega) _ | exact Below.refl _ _))) (E1.out.below (by repeat (first | refine Below.alloc ?_ (by simp;try omega) _ | exact Below.refl _ _)))) hl0).mono ?_
 rintro e w1 ⟨ys0,rfl,hown0,hb1⟩
 obtain ⟨y0,y1,rfl,f0,f1⟩:=ZdJ (Zai.rep _ _ (fun _=>True) _ (fun _ _=>trivial) hown0)
 obtain ⟨A0,n0,cap0,rfl,_,_,_⟩:=f0.form
 clear f0
 obtain ⟨A1,n1,cap1,rfl,_,_,_⟩:=f1.form
 clear f1
 have hz1:=hb1.size
 simp at hz1 hown0
 have HOWN0:=Lib.hid hown0
 clear hown0
 have hbw1:Below w.heap.size w w1:=Below.trans (by repeat (first | refine Below.alloc ?_ (by simp;try omega) _ | exact Below.refl _ _)) (hb1.mono (by simp;try omega))
 obtain ⟨hc1,hf1⟩:=Za8 hb1
 have ha1:w.heap.size < w1.heap.size:=by omega
 have hbb1:w.heap.size+1 < w1.heap.size:=by omega
 have hcc1:w.heap.size+1+1 < w1.heap.size:=by omega
 go_wp2_with fail
 refine (HC2.out S _ _ G2.out (by exact E2.out.below (by repeat (first | refine Below.setCell ?_ (by simp;try omega) _ | exact hbw1))) hl2).mono ?_
 rintro e w2 ⟨y2,rfl,hown2,hb2⟩
 obtain ⟨A2,n2,cap2,rfl,_,_,_⟩:=(Own.rep _ _ _ hown2).form
 have hz2:=hb2.size
 simp at hz2 hown2
 have HOWN2:=Lib.hid hown2
 clear hown2
 have hbw2:Below w.heap.size w w2:=Below.trans (by repeat (first | refine Below.setCell ?_ (by simp;try omega) _ | exact hbw1)) (hb2.mono (by simp;try omega))
 obtain ⟨hc2,hf2⟩:=Za8 hb2
 have ha2:w.heap.size < w2.heap.size:=by omega
 have hbb2:w.heap.size+1 < w2.heap.size:=by omega
 have hcc2:w.heap.size+1+1 < w2.heap.size:=by omega
 go_wp2
 refine bodyPost_ret (v:=.agg #[.slice A0 n0 cap0,.slice A1 n1 cap1,.slice A2 n2 cap2]) (by simp [results,Tryz.results12,go_sem,hc1,ha1,hbb1,hcc1,hc2,ha2,hbb2,hcc2]) rfl ⟨[.slice A0 n0 cap0,.slice A1 n1 cap1,.slice A2 n2 cap2],rfl,?_,(by repeat (first | refine Below.setCell ?_ (by simp;try omega) _ | exact hbw2))⟩
 simp
 exact (Zai.append (cs:=[.sl r0,.sl r1]) (ds:=[.sl r2]) (us:=[.slice A0 n0 cap0,.slice A1 n1 cap1]) (vs:=[.slice A2 n2 cap2]) (fun x=>w.heap.size+1+1+1<=x∧x < w1.heap.size) (fun x=>w1.heap.size<=x∧x < w2.heap.size) (HOWN0.out.same (by repeat (first | refine Same.trans ?_ (Same.setCell _ _ _ _ (by simp;try omega)) | refine Same.trans ?_ ((Same.below hb2).mono (fun x hx=>by simp at hx ⊢;omega)) | exact Same.refl _ _))) (Zai.cons (fun x=>w1.heap.size<=x∧x < w2.heap.size) (fun x=>w2.heap.size<=x∧x < w2.heap.size) (HOWN2.out.same (by repeat (first | refine Same.trans ?_ (Same.setCell _ _ _ _ (by simp;try omega)) | exact Same.refl _ _))) Zai.nil (fun x hx=>⟨by omega,by omega⟩) (fun x hx=>⟨by omega,by omega⟩) (fun x hx hy=>by omega)) (fun x hx=>⟨by omega,by omega⟩) (fun x hx=>⟨by omega,by omega⟩) (fun x hx hy=>by omega))
theorem ZlG (row:List C):Zi5 row:=ZmO row
theorem ZlH (row:List C):Zi6 row:=ZmP row
theorem ZlI (row:List C):Zi7 row:=ZmQ row
theorem decL {α:Type} {fs:List F} {e:α->List C} {p:α->Prop} (hd:∀ row,Zal fs row->∃ a,row=e a∧p a):∀ {rows:List (List C)},Zao fs rows->∃ l:List α,rows=l.map e∧∀ x∈l,p x
 | [],_=>⟨[],rfl,by simp⟩
 | r::rs,h=>by
  simp only [Zao] at h
  obtain ⟨a,rfl,ha⟩:=hd r h.1
  obtain ⟨l,rfl,hl⟩:=decL hd h.2
  exact ⟨a::l,rfl,fun x hx=>by
   rcases Tbg.1 hx with rfl | hx
   ·exact ha
   ·exact hl x hx⟩
theorem okL {α:Type} {fs:List F} {e:α->List C} {p:α->Prop} (hk:∀ a,p a->Zal fs (e a)):∀ {l:List α},(∀ x∈l,p x)->Zao fs (l.map e)
 | [],_=>by simp [Zao]
 | a::l,h=>by
  simp only [Tbv,Zao]
  exact ⟨hk a (h a (by simp)),okL hk (fun x hx=>h x (by simp [hx]))⟩
def ZbQ (n:Int):List C:=[.lit (.int .i64 n)]
def ZcH (s:ByteArray):List C:=[.lit (.string s)]
def Zc1 (p:Int × Int):List C:=[.lit (.int .i64 p.1),.lit (.int .i64 p.2)]
def ZFz (p:Int × Int):Prop:=I64 p.1∧I64 p.2
def ZvO (s:ByteArray):Prop:=s.size<=maxLen
theorem ZGX:∀ row,Zal (Zad .int) row->∃ a,row=ZbQ a∧I64 a:=fun row h=>Zha h
theorem ZGY:∀ row,Zal (Zad .str) row->∃ a,row=ZcH a∧ZvO a:=fun row h=>ZeW h
theorem ZGZ:∀ row,Zal (Zad .sub) row->∃ a,row=Zc1 a∧ZFz a:=fun row h=>by
 obtain ⟨i0,i1,rfl,h0,h1⟩:=Zg9 h
 exact ⟨(i0,i1),rfl,h0,h1⟩
structure Srt where
 names:List ByteArray
 subs:List (Int × Int)
def Za6 (s:Srt):List C:=[.sl (s.names.map ZcH),.sl (s.subs.map Zc1)]
def ZlJ (s:Srt):Prop:=(∀ x∈s.names,ZvO x)∧∀ x∈s.subs,ZFz x
structure Dcl where
 args:List Int
 res:Int
def Zgz (d:Dcl):List C:=[.sl (d.args.map ZbQ),.lit (.int .i64 d.res)]
def ZFA (d:Dcl):Prop:=(∀ x∈d.args,I64 x)∧I64 d.res
theorem ZG0:∀ row,Zal (Zad .decl) row->∃ a,row=Zgz a∧ZFA a:=fun row h=>by
 obtain ⟨r0,i1,rfl,g0,g1⟩:=Zf2 h
 obtain ⟨l0,rfl,k0⟩:=decL ZGX g0
 exact ⟨⟨l0,i1⟩,rfl,k0,g1⟩
structure Opr where
 name:ByteArray
 decls:List Dcl
 assoc:Bool
 comm:Bool
 unit:Int
def ZbK (o:Opr):List C:=[.lit (.string o.name),.sl (o.decls.map Zgz),.lit (.bool o.assoc),.lit (.bool o.comm),.lit (.int .i64 o.unit)]
def ZFB (o:Opr):Prop:=ZvO o.name∧(∀ x∈o.decls,ZFA x)∧I64 o.unit
theorem ZG1:∀ row,Zal (Zad .op) row->∃ a,row=ZbK a∧ZFB a:=fun row h=>by
 obtain ⟨t0,r1,p2,p3,i4,rfl,g0,g1,_,_,g4⟩:=Zh5 h
 obtain ⟨l1,rfl,k1⟩:=decL ZG0 g1
 exact ⟨⟨t0,l1,p2,p3,i4⟩,rfl,g0,k1,g4⟩
structure Sgn where
 sorts:Srt
 ops:List Opr
def Zav (s:Sgn):List C:=[.sl (s.sorts.names.map ZcH),.sl (s.sorts.subs.map Zc1),.sl (s.ops.map ZbK)]
def Zdq (s:Sgn):Prop:=ZlJ s.sorts∧∀ x∈s.ops,ZFB x
theorem ZG2 {row:List C} (h:Zal sigF row):∃ s,row=Zav s∧Zdq s:=by
 obtain ⟨r0,r1,r2,rfl,g0,g1,g2⟩:=ZdS h
 obtain ⟨l0,rfl,k0⟩:=decL ZGY g0
 obtain ⟨l1,rfl,k1⟩:=decL ZGZ g1
 obtain ⟨l2,rfl,k2⟩:=decL ZG1 g2
 exact ⟨⟨⟨l0,l1⟩,l2⟩,rfl,⟨k0,k1⟩,k2⟩
theorem Rep.at {α:Type} {w:World} {S:Nat->Prop} {fs:List F} {e:α->List C} {p:α->Prop} (hk:∀ a,p a->Zal fs (e a)) {l:List α} (hl:∀ x∈l,p x) {A:Option Addr} {m cap k:Nat} {a:α}
  (h:Rep w S (.sl (l.map e)) (.slice A m cap)) (ha:l[k]?=some a):∃ b off,A=some ⟨b,off,none⟩∧S b∧b < w.heap.size∧Zah w S b (off+k * fs.length) (e a):=by
 have hkl:k < l.length:=(Tac.1 ha).1
 obtain ⟨A',m',cap',hf,hm,_,_⟩:=h.form
 injection hf with h1 h2 h3
 subst h1 h2 h3
 obtain ⟨b,off,r,rfl,hS,hbz,hget,hokr,hrow⟩:=h.get (okL hk hl) (i:=k) (by rw [<- hm];simpa using hkl)
 refine ⟨b,off,rfl,hS,hbz,?_⟩
 rw [Taz,ha] at hget
 simp only [Option.map_some,Tap] at hget
 rw [hget]
 exact hrow
def Zuv (l:List Int):List C:=[.sl (l.map ZbQ)]
def Zo2:List Nat:=[0,1,56,2,57,49,28,3,61,58,42,50,38,29,17,4,62,47,59,36,45,43,51,22,53,39,33,30,24,18,12,5,63,55,48,27,60,41,37,16,46,35,44,21,52,32,23,11,54,26,40,15,34,20,31,10,25,14,19,9,13,8,7,6]
def tabA:Array Value:=(Zo2.map fun (n:Nat)=>Value.int .u8 (n:Int)).toArray
def ZcA (w:World):Prop:=w.heap[(2:Nat)]?=some (.cells tabA 277 (0,0))
theorem ZcA.cell {w:World} (h:ZcA w):∀ j,j < 64->w.cell? ⟨2,j,none⟩=some (.int .u8 ((Zo2.getD j 0:Nat):Int)):=fun j hj=>by
 unfold ZcA at h
 unfold World.cell?
 have hl:j < Zo2.length:=hj
 simp only [h]
 unfold tabA
 rw [if_neg (by simp),List.getElem?_toArray,Taz,List.getD_eq_getElem?_getD,Taa hl]
 rfl
noncomputable def e0:Env:=⟨Tryz.prog,fun b=>b=2,ZcA,False⟩
noncomputable def e1:Env:=⟨Tryz.prog,fun b=>b=2,ZcA,True⟩
theorem ZpV {w w':World} (h:w'.heap[(2:Nat)]?=w.heap[(2:Nat)]?) (k:ZcA w):ZcA w':=h.trans k
theorem e1P:e1.P=Tryz.prog:=rfl
theorem ZvP:e1.Ok:=⟨fun _ _ _ h k=>ZpV (h _ rfl) k,by kernel_rfl⟩
theorem ZlK {f:FuncId} {args r:List D} (h:Con e1 f args r):Con e0 f args r :=
 ⟨h.1,fun w S vs hS hE hG hvs=>(h.2 w S vs hS hE hG hvs).mono fun en w' ⟨v,h1,h2,h3,h4⟩=>⟨v,h1,⟨h2.os,h2.tape,h2.output,fun d=>d.elim,h2.size,h2.block⟩,h3,h4⟩⟩
theorem e0P:e0.P=Tryz.prog:=rfl
theorem Zhb:e0.Ok:=⟨fun _ _ _ h k=>ZpV (h _ rfl) k,by kernel_rfl⟩
theorem Zhc {e:Env} (he:e.Ok) {f:FuncId} {args r:List D} (hb:Zb3 e.P f=true)
  (h:∀ (w:World) (S:Nat->Prop) (vs:List Value),ZaI w S args vs->Calls e.P f vs.toArray w fun en w'=>∃ v,en=.returned v∧Below w.heap.size w w'∧ARel w' (fun b=>S b∨(w.heap.size<=b∧b < w'.heap.size)) ⟨fun _=>0,fun _=>Go.undef⟩ (retA r) v) (hD:¬ e.D:=by exact id):Con e f args r:=by
 refine ⟨hb,fun w S vs hS hE hG hvs=>(h w S vs hvs).mono fun en w' ⟨v,h1,h2,h3⟩=>⟨v,h1,Kept.of_below h2 (fun d=>(hD d).elim),he.keep _ _ h2.size (fun b hb=>h2.block b (hE b hb)) hG,?_⟩⟩
 exact h3
theorem Zdc {α:Type} {e:α->List C} {n:Nat} (h:∀ a,((e a).length==n && (e a).all ZaE)=true) (l:List α):ZaT n (l.map e)=true:=by
 unfold ZaT
 rw [List.all_map]
 exact List.all_eq_true.2 fun a _=>h a
theorem ZnC {n:Nat}:ZaT n []=true:=rfl
theorem Zed {n:Nat} {r:List C} {rs:List (List C)}:ZaT n (r::rs)=(r.length==n && r.all ZaE && ZaT n rs):=rfl
theorem ZpW (l:List Int):ZaT 1 (l.map ZbQ)=true:=Zdc (e:=ZbQ) (n:=1) (fun _=>rfl) l
theorem Zi8 (l:List ByteArray):ZaT 1 (l.map ZcH)=true:=Zdc (e:=ZcH) (n:=1) (fun _=>rfl) l
theorem ZpX (l:List (Int × Int)):ZaT 2 (l.map Zc1)=true:=Zdc (e:=Zc1) (n:=2) (fun _=>rfl) l
theorem ZzT (l:List Dcl):ZaT 2 (l.map Zgz)=true:=Zdc (e:=Zgz) (n:=2) (fun _=>rfl) l
theorem ZzU (l:List Opr):ZaT 5 (l.map ZbK)=true:=Zdc (e:=ZbK) (n:=5) (fun _=>rfl) l
theorem Zuw (l:List (List Int)):ZaT 1 (l.map Zuv)=true:=Zdc (e:=Zuv) (n:=1) (fun _=>rfl) l
theorem ZaQ {a b:Int} (h:a=b) (h1:-9223372036854775808<=b) (h2:b<=9223372036854775807):IntKind.i64.wrap a=b:=by rw [h];exact IntWalk.i64_in _ ⟨h1,h2⟩
theorem Zap {k:Nat} (h:k < 9223372036854775807):IntKind.i64.wrap ((k:Int)+1)=((k+1:Nat):Int):=ZaQ om om om
theorem bqtt:(true==true)=true:=rfl
theorem bqtf:(true==false)=false:=rfl
theorem bqft:(false==true)=false:=rfl
theorem bqff:(false==false)=true:=rfl
theorem Zas (n:Nat):(n:Int).toNat=n:=Tbz n
theorem gs_n {t:Nat}:gs [] t=.undef:=rfl
theorem gs_c {k t:Nat} {a:A} {r:List (Nat × A)}:gs ((k,a)::r) t=if t=k then a else gs r t:=rfl
theorem gm_n {t:Nat}:gm [] t=none:=rfl
theorem gm_c {k t:Nat} {a:Bk} {r:List (Nat × Bk)}:gm ((k,a)::r) t=if t=k then some a else gm r t:=rfl
theorem Zux {k:Nat}:ZdR k []=[]:=rfl
theorem Zuy {k:Nat} {d:D} {r:List D}:ZdR k (d::r)=(k,.d d)::ZdR (k+1) r:=rfl
theorem pz:type_of% (ai @tt_0 (ai @tt_1 (ai @tt_2 (ai @tt_3 (ai @tt_4 (ai @tt_5 (ai @tt_6 (ai @tt_7 (ai @pm_0 (ai @pm_1 (ai @pm_2 (ai @pm_3 (ai @pm_4 (ai @pm_5 (ai @pm_6 (ai @pm_7 (ai @pm_8 (ai @pm_9 (ai @ZFw (ai @ZFx (ai @e0P (ai @e1P (ai @gs_n (ai @gs_c (ai @gm_n (ai @gm_c (ai @Zux (ai @Zuy (ai @ZpW (ai @Zi8 (ai @ZpX (ai @ZzT (ai @ZzU (ai @Zuw (ai @ZnC (ai @Zed (ai @bqtt (ai @bqtf (ai @bqft (ai @bqff (ai @Bool.and_self (ai @Bool.or_true (ai @Bool.true_or (ai @Bool.or_false (ai @Bool.false_or (ai @Nat.zero_add (ai @Nat.add_zero (ai @and_self (ai @true_and (ai @and_true (ai @Bool.not_true (ai @Bool.not_false (ai @Zas (ai @Zur (ai @Zus (ai @ZFy (ai @ZzD (ai @ZpK (ai @Int.natCast_nonneg (ai @Int.toNat_zero (ai @Int.toNat_one (ai @Tah (ai @List.map_nil.{0,0} (ai @Tas.{0} (ai @Tat.{0} (ai @List.drop_succ_cons.{0} (ai @List.drop_zero.{0} (ai @List.drop_nil.{0} (ai @Tbc.{0} (ai @List.take_zero.{0} (ai @Taf.{0} (ai @Taj.{0} (ai @Tad.{0} (ai @List.all_cons.{0} (ai @List.all_nil.{0} (ai @List.isEmpty_cons.{0} (ai @List.isEmpty_nil.{0} (ai @Tae.{0} (ai @Tag.{0} (ai @List.append_nil.{0} (ai @Option.map_some.{0,0} (ai @Option.map_none.{0,0} (ai @Option.join_some.{0} (ai @Option.getD_some.{0} (ai @Option.isNone_none.{0} (ai @Option.isNone_some.{0} (ai @Option.isSome_none.{0} (ai @Option.isSome_some.{0} (ai @Tbv.{0,0} (ai @Tax.{0,0} (@Taz.{0,0}))))))))))))))))))))))))))))))))))))))))))))))))))))))))))))))))))))))))))))))))))))))))))):=ai @tt_0 (ai @tt_1 (ai @tt_2 (ai @tt_3 (ai @tt_4 (ai @tt_5 (ai @tt_6 (ai @tt_7 (ai @pm_0 (ai @pm_1 (ai @pm_2 (ai @pm_3 (ai @pm_4 (ai @pm_5 (ai @pm_6 (ai @pm_7 (ai @pm_8 (ai @pm_9 (ai @ZFw (ai @ZFx (ai @e0P (ai @e1P (ai @gs_n (ai @gs_c (ai @gm_n (ai @gm_c (ai @Zux (ai @Zuy (ai @ZpW (ai @Zi8 (ai @ZpX (ai @ZzT (ai @ZzU (ai @Zuw (ai @ZnC (ai @Zed (ai @bqtt (ai @bqtf (ai @bqft (ai @bqff (ai @Bool.and_self (ai @Bool.or_true (ai @Bool.true_or (ai @Bool.or_false (ai @Bool.false_or (ai @Nat.zero_add (ai @Nat.add_zero (ai @and_self (ai @true_and (ai @and_true (ai @Bool.not_true (ai @Bool.not_false (ai @Zas (ai @Zur (ai @Zus (ai @ZFy (ai @ZzD (ai @ZpK (ai @Int.natCast_nonneg (ai @Int.toNat_zero (ai @Int.toNat_one (ai @Tah (ai @List.map_nil.{0,0} (ai @Tas.{0} (ai @Tat.{0} (ai @List.drop_succ_cons.{0} (ai @List.drop_zero.{0} (ai @List.drop_nil.{0} (ai @Tbc.{0} (ai @List.take_zero.{0} (ai @Taf.{0} (ai @Taj.{0} (ai @Tad.{0} (ai @List.all_cons.{0} (ai @List.all_nil.{0} (ai @List.isEmpty_cons.{0} (ai @List.isEmpty_nil.{0} (ai @Tae.{0} (ai @Tag.{0} (ai @List.append_nil.{0} (ai @Option.map_some.{0,0} (ai @Option.map_none.{0,0} (ai @Option.join_some.{0} (ai @Option.getD_some.{0} (ai @Option.isNone_none.{0} (ai @Option.isNone_some.{0} (ai @Option.isSome_none.{0} (ai @Option.isSome_some.{0} (ai @Tbv.{0,0} (ai @Tax.{0,0} (@Taz.{0,0}))))))))))))))))))))))))))))))))))))))))))))))))))))))))))))))))))))))))))))))))))))))))))
theorem sfx {p:Prop} (h:p:=by first | (simp only [pz,↓reduceIte,Nat.reduceEqDiff,Nat.reduceAdd,Nat.reduceSub,Nat.reduceMul,Nat.reduceLeDiff,Nat.reduceBEq,Tal,decide_true,decide_false,Int.reduceLE,Int.reduceToNat,Int.reduceLT,Int.reduceEq,eq_self,Nat.reduceShiftRight,Nat.reduceAnd,Nat.reduceBneDiff,F];done) | (simp only [pz,↓reduceIte,Nat.reduceEqDiff,Nat.reduceAdd,Nat.reduceSub,Nat.reduceMul,Nat.reduceLeDiff,Nat.reduceBEq,Tal,decide_true,decide_false,Int.reduceLE,Int.reduceToNat,Int.reduceLT,Int.reduceEq,eq_self,Nat.reduceShiftRight,Nat.reduceAnd,Nat.reduceBneDiff,F];exact rfl)):p:=h
theorem snx {p:Prop} (h:p:=by first | (simp only [pz,↓reduceIte,Nat.reduceEqDiff,Nat.reduceAdd,Nat.reduceSub,Nat.reduceMul,Nat.reduceLeDiff,Nat.reduceBEq,Tal,decide_true,decide_false,Int.reduceLE,Int.reduceToNat,Int.reduceLT,Int.reduceEq,eq_self,Nat.reduceShiftRight,Nat.reduceAnd,Nat.reduceBneDiff];done) | (simp only [pz,↓reduceIte,Nat.reduceEqDiff,Nat.reduceAdd,Nat.reduceSub,Nat.reduceMul,Nat.reduceLeDiff,Nat.reduceBEq,Tal,decide_true,decide_false,Int.reduceLE,Int.reduceToNat,Int.reduceLT,Int.reduceEq,eq_self,Nat.reduceShiftRight,Nat.reduceAnd,Nat.reduceBneDiff];exact rfl)):p:=h
theorem sfy {p:Prop} (h:p:=by first | (simp only [pz,↓reduceIte,Nat.reduceEqDiff,Nat.reduceAdd,Nat.reduceSub,Nat.reduceMul,Nat.reduceLeDiff,Nat.reduceBEq,Tal,decide_true,decide_false,Int.reduceLE,Int.reduceToNat,Int.reduceLT,Int.reduceEq,eq_self,Nat.reduceShiftRight,Nat.reduceAnd,Nat.reduceBneDiff,F];exact rfl) | simp only [pz,↓reduceIte,Nat.reduceEqDiff,Nat.reduceAdd,Nat.reduceSub,Nat.reduceMul,Nat.reduceLeDiff,Nat.reduceBEq,Tal,decide_true,decide_false,Int.reduceLE,Int.reduceToNat,Int.reduceLT,Int.reduceEq,eq_self,Nat.reduceShiftRight,Nat.reduceAnd,Nat.reduceBneDiff,F]):p:=h
theorem sny {p:Prop} (h:p:=by first | (simp only [pz,↓reduceIte,Nat.reduceEqDiff,Nat.reduceAdd,Nat.reduceSub,Nat.reduceMul,Nat.reduceLeDiff,Nat.reduceBEq,Tal,decide_true,decide_false,Int.reduceLE,Int.reduceToNat,Int.reduceLT,Int.reduceEq,eq_self,Nat.reduceShiftRight,Nat.reduceAnd,Nat.reduceBneDiff];exact rfl) | simp only [pz,↓reduceIte,Nat.reduceEqDiff,Nat.reduceAdd,Nat.reduceSub,Nat.reduceMul,Nat.reduceLeDiff,Nat.reduceBEq,Tal,decide_true,decide_false,Int.reduceLE,Int.reduceToNat,Int.reduceLT,Int.reduceEq,eq_self,Nat.reduceShiftRight,Nat.reduceAnd,Nat.reduceBneDiff]):p:=h
theorem sfv {p:Prop} (h:p:=by simp only [pz,↓reduceIte,Nat.reduceEqDiff,Nat.reduceAdd,Nat.reduceSub,Nat.reduceMul,Nat.reduceLeDiff,Nat.reduceBEq,Tal,decide_true,decide_false,Int.reduceLE,Int.reduceToNat,Int.reduceLT,Int.reduceEq,eq_self,Nat.reduceShiftRight,Nat.reduceAnd,Nat.reduceBneDiff,F];exact rfl):p:=h
theorem snv {p:Prop} (h:p:=by simp only [pz,↓reduceIte,Nat.reduceEqDiff,Nat.reduceAdd,Nat.reduceSub,Nat.reduceMul,Nat.reduceLeDiff,Nat.reduceBEq,Tal,decide_true,decide_false,Int.reduceLE,Int.reduceToNat,Int.reduceLT,Int.reduceEq,eq_self,Nat.reduceShiftRight,Nat.reduceAnd,Nat.reduceBneDiff];exact rfl):p:=h
theorem Za4:∀ n,ZbQ n=[.lit (.int .i64 n)]:=fun _=>rfl
theorem ZaR:∀ d,Zgz d=[.sl (d.args.map ZbQ),.lit (.int .i64 d.res)]:=fun _=>rfl
theorem Zaj:∀ o,ZbK o=[.lit (.string o.name),.sl (o.decls.map Zgz),.lit (.bool o.assoc),.lit (.bool o.comm),.lit (.int .i64 o.unit)]:=fun _=>rfl
theorem ZaG:∀ s,Zav s=[.sl (s.sorts.names.map ZcH),.sl (s.sorts.subs.map Zc1),.sl (s.ops.map ZbK)]:=fun _=>rfl
theorem gB {X Y:Prop} (b:Y) (h:Y->X:=by
 intro b
 first
  | with_reducible refine ZzC ?_
  | (first
   | refine Zam 1 (by decide +kernel) ?_
   | refine Zam 2 (by decide +kernel) ?_
   | refine Zam 3 (by decide +kernel) ?_
   | refine Zam 4 (by decide +kernel) ?_
   | refine Zam 5 (by decide +kernel) ?_
   | refine Zam 6 (by decide +kernel) ?_
   | refine Zam 7 (by decide +kernel) ?_
   | refine Zam 8 (by decide +kernel) ?_
   | refine Zam 9 (by decide +kernel) ?_
   | refine Zam 10 (by decide +kernel) ?_
   | refine Zam 11 (by decide +kernel) ?_
   | refine Zam 12 (by decide +kernel) ?_
   | refine Zam 13 (by decide +kernel) ?_
   | refine Zam 14 (by decide +kernel) ?_
   | refine Zam 15 (by decide +kernel) ?_
   | refine Zam 16 (by decide +kernel) ?_
   | refine Zam 17 (by decide +kernel) ?_
   | refine Zam 18 (by decide +kernel) ?_
   | refine Zam 19 (by decide +kernel) ?_
   | refine Zam 20 (by decide +kernel) ?_
   | refine Zam 21 (by decide +kernel) ?_
   | refine Zam 22 (by decide +kernel) ?_
   | refine Zam 23 (by decide +kernel) ?_
   | refine Zam 24 (by decide +kernel) ?_
   | refine Zam 25 (by decide +kernel) ?_
   | refine Zam 26 (by decide +kernel) ?_
   | refine Zam 27 (by decide +kernel) ?_
   | refine Zam 28 (by decide +kernel) ?_
   | refine Zam 29 (by decide +kernel) ?_
   | refine Zam 30 (by decide +kernel) ?_
   | refine Zam 31 (by decide +kernel) ?_
   | refine Zam 32 (by decide +kernel) ?_
   | refine Zam 33 (by decide +kernel) ?_
   | refine Zam 34 (by decide +kernel) ?_
   | refine Zam 35 (by decide +kernel) ?_
   | refine Zam 36 (by decide +kernel) ?_
   | refine Zam 37 (by decide +kernel) ?_
   | refine Zam 38 (by decide +kernel) ?_
   | refine Zam 39 (by decide +kernel) ?_
   | refine Zam 40 (by decide +kernel) ?_
   | refine Zam 41 (by decide +kernel) ?_
   | refine Zam 42 (by decide +kernel) ?_
   | refine Zam 43 (by decide +kernel) ?_
   | refine Zam 44 (by decide +kernel) ?_
   | refine Zam 45 (by decide +kernel) ?_
   | refine Zam 46 (by decide +kernel) ?_
   | refine Zam 47 (by decide +kernel) ?_
   | refine Zam 48 (by decide +kernel) ?_
   | refine Zam 49 (by decide +kernel) ?_
   | refine Zam 50 (by decide +kernel) ?_
   | refine Zam 51 (by decide +kernel) ?_
   | refine Zam 52 (by decide +kernel) ?_
   | refine Zam 53 (by decide +kernel) ?_
   | refine Zam 54 (by decide +kernel) ?_
   | refine Zam 55 (by decide +kernel) ?_
   | refine Zam 56 (by decide +kernel) ?_
   | refine Zam 57 (by decide +kernel) ?_
   | refine Zam 58 (by decide +kernel) ?_
   | refine Zam 59 (by decide +kernel) ?_
   | refine Zam 60 (by decide +kernel) ?_
   | refine Zam 61 (by decide +kernel) ?_
   | refine Zam 62 (by decide +kernel) ?_
   | refine Zam 63 (by decide +kernel) ?_
   | refine Zam 64 (by decide +kernel) ?_)
 intro ds hds
 simp only [List.map] at hds
 subst hds
 exact b):X:=h b
theorem gC {X Y Z:Prop} (c:Z) (b:Y) (h:Z->Y->X:=by
 intro c b
 refine rcT (by exact sfv) c (by simp only [setA,retA];exact rfl) ?_
 exact b):X:=h c b
theorem gR {X Y:Prop} (b:Y) (h:Y->X:=by
 intro b
 refine reT (by exact sfv) ?_
 first | (change pwp _ _ _ _ _) | refine wkI ?_ | skip
 exact b):X:=h b
theorem gG {X Y:Prop} (b:Y) (h:Y->X:=by
 intro b
 repeat (first
  | with_reducible refine Zd3 ?_
  | with_reducible refine Zny ?_
  | ((first | with_reducible refine Zpr ?_ | with_reducible refine Zps ?_);try refine wkI ?_)
  | (with_reducible refine Zw3 ?_ ?_;· simp only [pz,↓reduceIte,Nat.reduceEqDiff,F])
  | (with_reducible refine Zw4 ?_ ?_;· simp only [pz,↓reduceIte,Nat.reduceEqDiff,F])
  | (refine gB ?_;refine reT (by exact sfv) ?_;try refine wkI ?_))
 exact b):X:=h b
def Zag (_:Nat):Prop:=True
theorem ZG3 {n:Nat} (_:Zag n) {e:Env} {mask id:Nat} {ops:Array Oper} {fl:Bool} {σ:St} {Q:PX->St->Prop} (h:pwp e mask (.region id ops fl) σ Q) (_:(id==n)=false:=by decide):pwp e mask (.region id ops fl) σ Q:=h
theorem gGn {X Y:Prop} (b:Y) (h:Y->X:=by
 intro b
 repeat (first
  | with_reducible refine Zd3 ?_
  | with_reducible refine Zny ?_
  | ((first | with_reducible refine Zpr ?_ | with_reducible refine Zps ?_);try refine wkI ?_)
  | (with_reducible refine Zw3 ?_ ?_;· simp only [pz,↓reduceIte,Nat.reduceEqDiff,F])
  | (with_reducible refine Zw4 ?_ ?_;· simp only [pz,↓reduceIte,Nat.reduceEqDiff,F])
  | (refine ZG3 NN ?_;refine gB ?_;refine reT (by exact sfv) ?_;try refine wkI ?_))
 exact b):X:=h b
theorem gT {X:Prop} (h:X:=by
 refine Zgk (Zlz ?_)
 simp [Zc6,resA,Zbz,gs,F]):X:=h
theorem gTz {X:Prop} {P:Program} {ts:List RS} {r:List D} {σ σ1:St} (ks:List Nat) (hx:retQ P ts r .ret σ->X:=by exact fun h=>Zgk h) (hf:frzs ks σ=σ1:=by exact sfv) (h:Zc6 P σ1 ts r:=by simp [Zc6,resA,Zbz,gs,F]):X:=hx (ZGV ks hf h)
theorem gTd {X:Prop} {P:Program} {ts:List RS} {r:List D} {σ:St} (hx:retQ P ts r .ret σ->X:=by exact fun h=>Zgk h) (hr:resD P σ ts=some r:=by exact sfx):X:=hx (Zlz (Zfe hr))
theorem gw {X:Prop} (h:X:=by simp [Zcy,Zcz,gs,gm,F]):X:=h
theorem gL {e:Env} {mask:Nat} {Q:PX->St->Prop} {c:Code} {s:List (Nat × A)} {m:List (Nat × Bk)} {ι:Type} (ds dm:List Nat) (us:ι->List (Nat × A)) (ms:ι->List (Nat × Bk)) (ok:ι->Prop) (μ:ι->Nat) (x0:ι) (h0:ok x0)
  {s0:List (Nat × A)} {m0:List (Nat × Bk)} {ss:ι->List (Nat × A)} {mm:ι->List (Nat × Bk)}
  (hr:∀ x,ok x->pwp e mask c ⟨ss x,mm x⟩ (fun p σ''=>match p with
   | .normal=>∃ y,ok y∧Zcy σ''.s (ss y)∧Zcz σ''.m (mm y)∧μ y < μ x
   | p=>Q p σ''))
  (hs0:ZeC ds s=s0:=by simp only [ZeC,ZeD,List.elem_cons,List.elem_nil,Nat.reduceBEq,Bool.or_false,Bool.false_or,Bool.or_true,Bool.true_or,Bool.or_self,↓reduceIte,Tal];exact rfl) (hm0:ZeD dm m=m0:=by simp only [ZeC,ZeD,List.elem_cons,List.elem_nil,Nat.reduceBEq,Bool.or_false,Bool.false_or,Bool.or_true,Bool.true_or,Bool.or_self,↓reduceIte,Tal];exact rfl) (hss:∀ x,us x++s0=ss x:=by intro x;simp only [Tae,Tag];exact rfl) (hmm:∀ x,ms x++m0=mm x:=by intro x;simp only [Tae,Tag];exact rfl)
  (hs:Zcy s (us x0):=by simp [Zcy,gs,F]) (hm:Zcz m (ms x0):=by simp [Zcz,gm,F]):pwp e mask (.loop c) ⟨s,m⟩ Q:=ZzB ds dm us ms ok μ x0 hs0 hm0 hss hmm hs hm h0 hr
theorem gM {e:Env} {mask:Nat} {Q:PX->St->Prop} {a:Code} {s:List (Nat × A)} {m:List (Nat × Bk)} {ι:Type} (ds dm:List Nat) (us:ι->List (Nat × A)) (ms:ι->List (Nat × Bk)) (R:ι->Prop)
  {s0:List (Nat × A)} {m0:List (Nat × Bk)} {ss:ι->List (Nat × A)} {mm:ι->List (Nat × Bk)}
  (h:pwp e mask a ⟨s,m⟩ (fun x σ'=>match x with
   | .normal=>∃ y,R y∧Zcy σ'.s (ss y)∧Zcz σ'.m (mm y)
   | x=>Q x σ')) (hb:∀ x,R x->Q .normal ⟨ss x,mm x⟩) 
  (hs0:ZeC ds s=s0:=by simp only [ZeC,ZeD,List.elem_cons,List.elem_nil,Nat.reduceBEq,Bool.or_false,Bool.false_or,Bool.or_true,Bool.true_or,Bool.or_self,↓reduceIte,Tal];exact rfl) (hm0:ZeD dm m=m0:=by simp only [ZeC,ZeD,List.elem_cons,List.elem_nil,Nat.reduceBEq,Bool.or_false,Bool.false_or,Bool.or_true,Bool.true_or,Bool.or_self,↓reduceIte,Tal];exact rfl) (hss:∀ x,us x++s0=ss x:=by intro x;simp only [Tae,Tag];exact rfl) (hmm:∀ x,ms x++m0=mm x:=by intro x;simp only [Tae,Tag];exact rfl)
  (hQ:∀ σ σ1,Wk σ σ1->Q .normal σ1->Q .normal σ:=by exact fun _ _ h p=>Exists.elim p fun σ2 q=>⟨σ2,h.trans q.1,q.2⟩):pwp e mask a ⟨s,m⟩ Q:=ZzE hQ ds dm us ms R hs0 hm0 hss hmm h hb
theorem gI {e:Env} {f:FuncId} {fn:Func} {c:Code} {args r:List D} {ts:List RS} (mask:Nat) (hf:e.P.funcs[f]?=some fn) (h:pwp e mask c ⟨ZdR 0 args,[]⟩ (retQ e.P ts r)) (hb:fn.body=some c:=by exact rfl) (hnm:(fn.name == "runtime.NumGoroutine")=false:=by kernel_rfl)
  (hok:Zcn fn.ntmps c=true:=by kernel_rfl) (hal:Nat.ble args.length fn.ntmps=true:=by exact rfl) (hres:Zbz fn.results.toList=ts:=by exact rfl) (he:e.Ok:=by first | exact Zhb | exact ZvP | assumption):Con e f args r:=Zvo he mask hf hb hnm hok hal hres h
theorem gCP {e:Env} {K:St->Prop} {ds:List (Option Nat)} {n n':Nat} {os os':List Oper} {σ:St} {c:Operand} {args:List Operand} {f:FuncId} {xs:List D} {d:Option Nat} {s1 s2 s3:List (Nat × A)} {m1 m2 m3:List (Nat × Bk)} {pm:List Bk} {R:List D->List Bk->Prop} (ks ks':List Nat) (hc:ConP e f xs pm R)
  (hK:∀ r pm',R r pm'->Runs e ds n' os' ⟨setA s3 d (retA r),zipM ks' pm'++m3⟩ K) (h:Zbw e.P ds n os σ=.call false c args d n' os' ⟨s1,m1⟩:=by exact sfv) (h1:Zfr false c args ⟨s1,m1⟩=some (f,xs,⟨s2,m2⟩):=by exact sfv)
  (hpm:getM m2 ks=some pm:=by exact sny) (hpn:pm.all pinned=true:=by simp only [pz,↓reduceIte,Nat.reduceEqDiff,Nat.reduceAdd,Nat.reduceSub,Nat.reduceMul,Nat.reduceLeDiff,Nat.reduceBEq,Tal,decide_true,decide_false,Int.reduceLE,Int.reduceToNat,Int.reduceLT,Int.reduceEq,eq_self,Nat.reduceShiftRight,Nat.reduceAnd,Nat.reduceBneDiff]) (hn:ks.Nodup:=by decide) (hk:ZcY (ks++ks') s2=s3:=by exact snv) (hr:Zc4 (ks++ks') m2=m3:=by exact snv):Runs e ds n os σ K:=ZBx ks ks' h h1 hc hpm hpn hn hk hr hK
theorem gCI {e:Env} {K:St->Prop} {ds:List (Option Nat)} {n n':Nat} {os os':List Oper} {σ:St} {c x0:Operand} {rest:List Operand} {f:FuncId} {xs:List D} {d:Option Nat} {s1 s3:List (Nat × A)} {m1 m3:List (Nat × Bk)} {k ty sz:Nat} {rows rows':List (List C)} {r:List D} {oa:Option (Option Addr × Nat)} (hc:ConI e f ty sz rows xs rows' r) (hl:rows'.length=rows.length)
  (hK:Runs e ds n' os' ⟨s3,(k,.buf oa ty sz rows')::m3⟩ K) (h:Zbw e.P ds n os σ=.call false c (x0::rest) d n' os' ⟨s1,m1⟩:=by exact sfv) (h1:Zlx c x0 rest ⟨s1,m1⟩=some (f,k,ty,sz,rows,xs):=by exact sfv)
  (hm:gm m1 k=some (.buf oa ty sz rows):=by exact snv) (h2:setA s1 d (retA r)=s3:=by simp only [setA,retA];exact rfl) (h3:remM k m1=m3:=by exact snv):Runs e ds n os σ K:=ZBy h h1 hm hc hl h2 h3 hK
theorem gCR {e:Env} {K:St->Prop} {ds:List (Option Nat)} {n n':Nat} {os os':List Oper} {σ:St} {c:Operand} {args:List Operand} {f:FuncId} {xs:List D} {d ty sz:Nat} {s1 s2 s3:List (Nat × A)} {m1 m2 m3:List (Nat × Bk)} {rows:List (List C)} (hc:ConR e f xs ty sz rows) (hK:Runs e ds n' os' ⟨(d,.buf d)::s3,(d,.buf none ty sz rows)::m3⟩ K)
  (h:Zbw e.P ds n os σ=.call false c args (some d) n' os' ⟨s1,m1⟩:=by exact sfv) (h1:Zfr false c args ⟨s1,m1⟩=some (f,xs,⟨s2,m2⟩):=by exact sfv) (h2:Zau d s2=s3:=by exact snv) (h3:remM d m2=m3:=by exact snv):Runs e ds n os σ K:=ZBw h h1 hc h2 h3 hK
theorem gP {e:Env} {K:St->Prop} {ds:List (Option Nat)} {n n':Nat} {os os':List Oper} {σ:St} {s1:List (Nat × A)} {m1:List (Nat × Bk)} (j:Nat) (hK:Runs e ds n' os' ⟨s1,m1⟩ K) (h:Zly (runN e.P ds j n os σ)=some (n',os',s1,m1):=by exact sfv):Runs e ds n os σ K:=Zw1 j h hK
theorem gS {e:Env} {K:St->Prop} {ds:List (Option Nat)} {os:List Oper} {s:List (Nat × A)} {m m2:List (Nat × Bk)} {ety sz:Nat} {rows:List (List C)} {s2:Option Addr->Nat->List (Nat × A)} (k:Nat) (hK:∀ a cap,Runs e ds 0 os ⟨s2 a cap,(k,.buf (some (a,cap)) ety sz rows)::m2⟩ K)
  (hm:gm m k=some (.buf none ety sz rows):=by exact snv) (hs:∀ a cap,mapS (litB k a rows.length cap) s=s2 a cap:=by intro a cap;exact snv) (hr:remM k m=m2:=by exact snv):Runs e ds 0 os ⟨s,m⟩ K :=
 Zg8 (Znw k hm) fun σ' ⟨a,cap,hσ⟩=>by subst hσ;simp only [hs,hr];exact hK a cap
theorem gO {e:Env} {K:St->Prop} {ds:List (Option Nat)} {os:List Oper} {s s2:List (Nat × A)} {m m2:List (Nat × Bk)} (t ety sz:Nat) (hK:Runs e ds 0 os ⟨(t,.buf t)::s2,(t,.buf none ety sz [])::m2⟩ K) (h0:0 < sz:=by decide) (hm:gs s t=.d (.clip []):=by simp only [pz,↓reduceIte,Nat.reduceEqDiff,Nat.reduceAdd,Nat.reduceSub,Nat.reduceMul,Nat.reduceLeDiff,Nat.reduceBEq,Tal,decide_true,decide_false,Int.reduceLE,Int.reduceToNat,Int.reduceLT,Int.reduceEq,eq_self,Nat.reduceShiftRight,Nat.reduceAnd,Nat.reduceBneDiff])
  (hs:Zau t s=s2:=by exact snv) (hr:remM t m=m2:=by exact snv):Runs e ds 0 os ⟨s,m⟩ K :=
 Zg8 (ZBp t ety sz h0 hm) fun σ' hσ=>by subst hσ;simp only [hs,hr];exact hK
theorem gK {e:Env} {K:St->Prop} {ds:List (Option Nat)} {os:List Oper} {s:List (Nat × A)} {m:List (Nat × Bk)} {x:A} (t:Nat) (hK:Runs e ds 0 os ⟨(t,x)::s,m⟩ K) (hx:nrm m (gs s t)=x:=by exact snv):Runs e ds 0 os ⟨s,m⟩ K :=
 Zg8 (ZBo t) fun σ' hσ=>by subst hσ;simp only [hx];exact hK
theorem gX {e:Env} {K:St->Prop} {ds:List (Option Nat)} {os:List Oper} {d t ty:Nat} {p:String} {ed:Array Edge} {parts:List (Nat × Operand)} {s:List (Nat × A)} {m:List (Nat × Bk)} {cs cs':List C} (hK:Runs e ds 0 os ⟨(d,.d (.agg cs'))::s,m⟩ K)
  (hz:Zdp e.P t=some cs:=by exact sny) (hst:ZaU e.P t=true:=by simp only [pz,↓reduceIte,Nat.reduceEqDiff,Nat.reduceAdd,Nat.reduceSub,Nat.reduceMul,Nat.reduceLeDiff,Nat.reduceBEq,Tal,decide_true,decide_false,Int.reduceLE,Int.reduceToNat,Int.reduceLT,Int.reduceEq,eq_self,Nat.reduceShiftRight,Nat.reduceAnd,Nat.reduceBneDiff]) (hok:cs.all ZaE=true:=by first | rfl | simp only [pz,↓reduceIte,Nat.reduceEqDiff,Nat.reduceAdd,Nat.reduceSub,Nat.reduceMul,Nat.reduceLeDiff,Nat.reduceBEq,Tal,decide_true,decide_false,Int.reduceLE,Int.reduceToNat,Int.reduceLT,Int.reduceEq,eq_self,Nat.reduceShiftRight,Nat.reduceAnd,Nat.reduceBneDiff]) (hf:Zdn e.P t cs (parts.map fun p=>(p.1,evA s p.2))=some cs':=by exact sfv):Runs e ds 0 (⟨some d,.build t parts.toArray,ty,p,ed,none⟩::os) ⟨s,m⟩ K:=ZrD hz hst hok hf hK
theorem pN {e:Env} {mask:Nat} {Q:PX->St->Prop} {c:Code} {s s2:List (Nat × A)} {m m2:List (Nat × Bk)} (κ ety sz:Nat) (hK:pwp e mask c ⟨s2,(κ,.buf (some (none,0)) ety sz [])::m2⟩ Q) (h0:0 < sz:=by decide) (hs:Zau κ s=s2:=by exact snv) (hr:remM κ m=m2:=by exact snv):pwp e mask c ⟨s,m⟩ Q :=
 ZcF (ZBq κ ety sz h0) fun σ' hσ=>by subst hσ;simp only [hs,hr];exact hK
theorem pD {e:Env} {mask:Nat} {Q:PX->St->Prop} {c:Code} {s s2:List (Nat × A)} {m m2:List (Nat × Bk)} {a:Option Addr} {cap ety sz:Nat} {rows:List (List C)} (k:Nat) (ts ks:List Nat) (hK:pwp e mask c ⟨s2,m2⟩ Q) (hm:gm m k=some (.buf (some (a,cap)) ety sz rows):=by exact snv)
  (hs:datS a rows.length cap rows ts (frzS k (.buf (some (a,cap)) ety sz rows) s)=s2:=by exact snv) (hr:datM a rows.length cap rows ks (remM k m)=m2:=by exact snv):pwp e mask c ⟨s,m⟩ Q :=
 ZcF (ZBs k ts ks hm) fun σ' hσ=>by subst hσ;simp only [hs,hr];exact hK
theorem pV {e:Env} {mask:Nat} {Q:PX->St->Prop} {c:Code} {s:List (Nat × A)} {m m2:List (Nat × Bk)} {cs:List C} {s2:Nat->List (Nat × A)} (k:Nat) (hK:∀ b,(∀ k' b' cs',k'≠k->gm m k'=some (.var (some b') cs')->b≠b')->pwp e mask c ⟨s2 b,(k,.var (some b) cs)::m2⟩ Q)
  (hm:gm m k=some (.var none cs):=by exact snv) (hs:∀ b,mapS (litV k b) s=s2 b:=by intro b;exact snv) (hr:remM k m=m2:=by exact snv):pwp e mask c ⟨s,m⟩ Q :=
 ZcF (ZwX k hm) fun σ' ⟨b,hb,hσ⟩=>by subst hσ;simp only [hs,hr];exact hK b hb
theorem pS {e:Env} {mask:Nat} {Q:PX->St->Prop} {c:Code} {s:List (Nat × A)} {m m2:List (Nat × Bk)} {ety sz:Nat} {rows:List (List C)} {s2:Option Addr->Nat->List (Nat × A)} (k:Nat) (hK:∀ a cap,pwp e mask c ⟨s2 a cap,(k,.buf (some (a,cap)) ety sz rows)::m2⟩ Q)
  (hm:gm m k=some (.buf none ety sz rows):=by exact snv) (hs:∀ a cap,mapS (litB k a rows.length cap) s=s2 a cap:=by intro a cap;exact snv) (hr:remM k m=m2:=by exact snv):pwp e mask c ⟨s,m⟩ Q :=
 ZcF (Znw k hm) fun σ' ⟨a,cap,hσ⟩=>by subst hσ;simp only [hs,hr];exact hK a cap
def ZlL (pm pm':List Bk):Prop:=∀ (w:World) (S:Nat->Prop),(∀ x∈pm,ZdI w S x)->ZeA pm->(∀ x∈pm',ZdI w S x)∧ZeA pm'∧∀ g,Zbx pm' g->Zbx pm g
theorem gE {e:Env} {K:St->Prop} {ds:List (Option Nat)} {os:List Oper} {s s2:List (Nat × A)} {m m2 m3:List (Nat × Bk)} {pm pm':List Bk} (ks ks':List Nat) (hre:ZlL pm pm') (hK:Runs e ds 0 os ⟨s2,m3⟩ K) (hpm:getM m ks=some pm:=by exact sny) (hn:ks.Nodup:=by decide) (hp:pm.all pinned=true:=by simp only [pz,↓reduceIte,Nat.reduceEqDiff,Nat.reduceAdd,Nat.reduceSub,Nat.reduceMul,Nat.reduceLeDiff,Nat.reduceBEq,Tal,decide_true,decide_false,Int.reduceLE,Int.reduceToNat,Int.reduceLT,Int.reduceEq,eq_self,Nat.reduceShiftRight,Nat.reduceAnd,Nat.reduceBneDiff])
  (hs:ZcY (ks++ks') s=s2:=by exact snv) (hr:Zc4 (ks++ks') m=m2:=by exact snv) (h3:zipM ks' pm'++m2=m3:=by exact snv):Runs e ds 0 os ⟨s,m⟩ K :=
 Zg8 (ZsB (Φ:=fun x=>x=pm') ks ks' hn hpm hp (fun w S h1 h2=>⟨pm',rfl,hre w S h1 h2⟩)) fun σ' ⟨q,hq,hσ⟩=>by subst hq hσ;simp only [hs,hr,h3];exact hK
theorem pE {e:Env} {mask:Nat} {Q:PX->St->Prop} {c:Code} {s s2:List (Nat × A)} {m m2 m3:List (Nat × Bk)} {pm pm':List Bk} (ks ks':List Nat) (hre:ZlL pm pm') (hK:pwp e mask c ⟨s2,m3⟩ Q) (hpm:getM m ks=some pm:=by exact sny) (hn:ks.Nodup:=by decide) (hp:pm.all pinned=true:=by simp only [pz,↓reduceIte,Nat.reduceEqDiff,Nat.reduceAdd,Nat.reduceSub,Nat.reduceMul,Nat.reduceLeDiff,Nat.reduceBEq,Tal,decide_true,decide_false,Int.reduceLE,Int.reduceToNat,Int.reduceLT,Int.reduceEq,eq_self,Nat.reduceShiftRight,Nat.reduceAnd,Nat.reduceBneDiff])
  (hs:ZcY (ks++ks') s=s2:=by exact snv) (hr:Zc4 (ks++ks') m=m2:=by exact snv) (h3:zipM ks' pm'++m2=m3:=by exact snv):pwp e mask c ⟨s,m⟩ Q :=
 ZcF (ZsB (Φ:=fun x=>x=pm') ks ks' hn hpm hp (fun w S h1 h2=>⟨pm',rfl,hre w S h1 h2⟩)) fun σ' ⟨q,hq,hσ⟩=>by subst hq hσ;simp only [hs,hr,h3];exact hK
theorem gIP {e:Env} {f:FuncId} {fn:Func} {c:Code} {args:List D} {pm:List Bk} {m0:List (Nat × Bk)} {R:List D->List Bk->Prop} {ts:List RS} (keys:List Nat) (mask:Nat) (hf:e.P.funcs[f]?=some fn) (h:pwp e mask c ⟨ZdR 0 args,m0⟩ (ZjV e.P ts R)) (hm:zipM keys pm=m0:=by exact snv) (hb:fn.body=some c:=by exact rfl) (hnm:(fn.name == "runtime.NumGoroutine")=false:=by kernel_rfl)
  (hok:Zcn fn.ntmps c=true:=by kernel_rfl) (hal:Nat.ble args.length fn.ntmps=true:=by exact rfl) (hres:Zbz fn.results.toList=ts:=by exact rfl) (he:e.Ok:=by first | exact Zhb | exact ZvP | assumption):ConP e f args pm R:=ZrC he keys mask hf hb hnm hok hal hres (by rw [hm];exact h)
theorem gTP {X:Prop} {P:Program} {ts:List RS} {R:List D->List Bk->Prop} {σ:St} {r:List D} {pm:List Bk} (ks:List Nat) (hR:R r pm) (hx:ZjV P ts R .ret σ->X:=by exact fun h=>Zgk h) (hr:resD P σ ts=some r:=by exact sfy) (hg:getM σ.m ks=some pm:=by exact sny) (hn:ks.Nodup:=by decide) (hp:pm.all pinned=true:=by simp only [pz,↓reduceIte,Nat.reduceEqDiff,Nat.reduceAdd,Nat.reduceSub,Nat.reduceMul,Nat.reduceLeDiff,Nat.reduceBEq,Tal,decide_true,decide_false,Int.reduceLE,Int.reduceToNat,Int.reduceLT,Int.reduceEq,eq_self,Nat.reduceShiftRight,Nat.reduceAnd,Nat.reduceBneDiff]):X :=
 hx ⟨r,ks,pm,hg,hn,hp,hR,Zfe hr⟩
theorem okC.cell:∀ {f:F} {c:C},okC f c->ZaE c=true
 | .int,.lit v,h=>by obtain ⟨n,rfl,_⟩:=h;rfl
 | .str,.lit v,h=>by obtain ⟨n,rfl,_⟩:=h;rfl
 | .bool,.lit v,h=>by obtain ⟨n,rfl⟩:=h;rfl
 | .sl t,.sl rows,h=>rfl
 | .int,.sl _,h=>False.elim h
 | .str,.sl _,h=>False.elim h
 | .bool,.sl _,h=>False.elim h
 | .sl _,.lit _,h=>False.elim h
 | f,.ptr _,h=>by cases f <;> exact False.elim h
 | f,.fn _ _,h=>by cases f <;> exact False.elim h
theorem Zal.cells:∀ {fs:List F} {cs:List C},Zal fs cs->cs.all ZaE=true
 | [],[],_=>rfl
 | f::fs,c::cs,h=>by
  simp only [Zal] at h
  rw [List.all_cons,h.1.cell,Zal.cells h.2]
  rfl
 | [],_::_,h=>by simp [Zal] at h
 | _::_,[],h=>by simp [Zal] at h
theorem Zal.take {fs:List F} {cs:List C} (h:Zal fs cs) {n:Nat} (hn:fs.length=n):cs.length=n∧cs.take n=cs∧cs.drop n=[]:=by
 have:=h.len
 refine ⟨by omega,?_,?_⟩
 ·rw [List.take_of_length_le om]
 ·rw [List.drop_eq_nil_of_le om]
theorem Zaa.inside' {w:World} {S:Nat->Prop}:∀ {cs:List C} {us:List Value},Zaa w S cs us->Zaa w (fun b=>b < w.heap.size) cs us
 | [],[],_=>by simp [Zaa]
 | c::cs,u::us,h=>by
  simp only [Zaa] at h ⊢
  exact ⟨(Rep.inside c u h.1).mono (fun b hb=>hb.2),Zaa.inside' h.2⟩
 | [],_::_,h=>by simp [Zaa] at h
 | _::_,[],h=>by simp [Zaa] at h
theorem ZcB {α:Type} (l:List α):l.drop 0=l:=rfl
section
variable {w:World} {S:Nat->Prop} {T:Nat}
theorem ZHG {f:F} {c:C} {z:Int} (h:okC f c) (hr:Rep w S c (.int .u8 z)):False:=by
 cases c with
 | lit v =>
  simp only [Rep] at hr
  subst hr
  cases f with
  | int=>obtain ⟨n,h,_⟩:=h;cases h
  | str=>obtain ⟨n,h,_⟩:=h;cases h
  | bool=>obtain ⟨n,h⟩:=h;cases h
  | sl t=>simp only [okC] at h
 | sl rows =>
  simp only [Rep] at hr
  obtain ⟨A,n,cap,hv,_⟩:=hr
  cases hv
 | ptr cs=>cases f <;> simp only [okC] at h
 | fn g cs=>cases f <;> simp only [okC] at h
theorem ZzV (t:TN):∃ f fs,Zad t=f::fs:=by cases t <;> exact ⟨_,_,rfl⟩
theorem ZBO (hT:∀ o u,w.cell? ⟨T,o,none⟩=some u->∃ z,u=.int .u8 z) {t:TN} {rows:List (List C)} {b off:Nat} (h0:0 < rows.length) (hok:Zao (Zad t) rows) (h:Zan w S b off rows):b≠T:=by
 rintro rfl
 cases rows with
 | nil=>simp at h0
 | cons r rs =>
  obtain ⟨f,fs,e⟩:=ZzV t
  simp only [Zao,Zan] at hok h
  rw [e] at hok
  cases r with
  | nil=>simp only [Zal] at hok;exact hok.1.elim
  | cons c cs =>
   simp only [Zal,Zah] at hok h
   obtain ⟨⟨u,hu,hr⟩,_⟩:=h.1
   obtain ⟨z,rfl⟩:=hT off u hu
   exact ZHG hok.1.1 hr
mutual
theorem Rep.off (hT:∀ o u,w.cell? ⟨T,o,none⟩=some u->∃ z,u=.int .u8 z):∀ (f:F) (c:C) (v:Value),okC f c->Rep w S c v->Rep w (fun b=>S b∧b≠T) c v
 | _,.lit x,v,_,h=>by simpa [Rep] using h
 | .sl t,.sl rows,v,hok,h=>by
  simp only [okC] at hok
  simp only [Rep] at h ⊢
  obtain ⟨A,n,cap,hv,hn,hc,hm,hr⟩:=h
  refine ⟨A,n,cap,hv,hn,hc,hm,fun h0=>?_⟩
  obtain ⟨b,off,hA,hs,hb,hrows⟩:=hr h0
  exact ⟨b,off,hA,⟨hs,ZBO hT om hok hrows⟩,hb,Zan.off hT (Zad t) b off rows hok hrows⟩
 | .int,.sl _,_,hok,_=>by simp only [okC] at hok
 | .str,.sl _,_,hok,_=>by simp only [okC] at hok
 | .bool,.sl _,_,hok,_=>by simp only [okC] at hok
 | f,.ptr _,_,hok,_=>by cases f <;> simp only [okC] at hok
 | f,.fn _ _,_,hok,_=>by cases f <;> simp only [okC] at hok
theorem Zan.off (hT:∀ o u,w.cell? ⟨T,o,none⟩=some u->∃ z,u=.int .u8 z):∀ (fs:List F) (b off:Nat) (rows:List (List C)),Zao fs rows->Zan w S b off rows->Zan w (fun b=>S b∧b≠T) b off rows
 | _,_,_,[],_,_=>by simp [Zan]
 | fs,b,off,r::rs,hok,h=>by
  simp only [Zao] at hok
  simp only [Zan] at h ⊢
  exact ⟨Zah.off hT fs b off r hok.1 h.1,Zan.off hT fs b _ rs hok.2 h.2⟩
theorem Zah.off (hT:∀ o u,w.cell? ⟨T,o,none⟩=some u->∃ z,u=.int .u8 z):∀ (fs:List F) (b off:Nat) (cs:List C),Zal fs cs->Zah w S b off cs->Zah w (fun b=>S b∧b≠T) b off cs
 | _,_,_,[],_,_=>by simp [Zah]
 | f::fs,b,off,c::cs,hok,h=>by
  simp only [Zal] at hok
  simp only [Zah] at h ⊢
  obtain ⟨⟨u,hu,hr⟩,h2⟩:=h
  exact ⟨⟨u,hu,Rep.off hT f c u hok.1 hr⟩,Zah.off hT fs b _ cs hok.2 h2⟩
 | [],_,_,c::cs,hok,_=>by simp only [Zal] at hok
end
theorem Zaa.off (hT:∀ o u,w.cell? ⟨T,o,none⟩=some u->∃ z,u=.int .u8 z):∀ (fs:List F) (cs:List C) (us:List Value),Zal fs cs->Zaa w S cs us->Zaa w (fun b=>S b∧b≠T) cs us
 | _,[],[],_,_=>by simp [Zaa]
 | f::fs,c::cs,u::us,hok,h=>by
  simp only [Zal] at hok
  simp only [Zaa] at h ⊢
  exact ⟨Rep.off hT f c u hok.1 h.1,Zaa.off hT fs cs us hok.2 h.2⟩
 | [],c::cs,_,hok,_=>by simp only [Zal] at hok
 | _::_,[],_,hok,_=>by simp only [Zal] at hok
 | _,[],_::_,_,h=>by simp [Zaa] at h
 | _,_::_,[],_,h=>by simp [Zaa] at h
end
theorem ZG4 {w:World} (h:ZcA w):∀ o u,w.cell? ⟨2,o,none⟩=some u->∃ z,u=.int .u8 z:=fun o u hu=>by
 unfold ZcA at h
 unfold World.cell? at hu
 simp only [h] at hu
 unfold tabA at hu
 rw [if_neg (by simp),List.getElem?_toArray,Taz] at hu
 obtain ⟨n,_,rfl⟩:=Tau.1 hu
 exact ⟨_,rfl⟩
theorem ZG5 {w:World} (h:ZcA w):∀ b,e0.E b->b < w.heap.size:=fun b hb=>by
 have hb:b=2:=hb
 subst hb
 unfold ZcA at h
 exact (Tbl.1 h).1
theorem Kept.belowT {w w':World} (h:Kept e0.D e0.E w.heap.size w w') (h1:ZcA w) (h2:ZcA w'):Below w.heap.size w w':=⟨h.os,h.tape,h.output,h.size,fun k hk=>by
 by_cases e:k=2
 ·subst e;exact h2.trans h1.symm
 ·exact h.block k hk e⟩
end Go.Proofs.YtffmjghcpgpfpaaGreatDoor
namespace Go.Proofs.YtffmjghcpgpfpaaGreatDoor
open Go.ChangeShapes Go.WideShapes Go.ChangeAt Go.RowKit
abbrev ZgA:List (String × DataW Unit):=[("math/bits.deBruijn32tab",Rows.laid_math_bits_deBruijn32tab),("math/bits.deBruijn64tab",Rows.laid_math_bits_deBruijn64tab),("internal/strconv.uint64pow10",Rows.laid_internal_strconv_uint64pow10)]
theorem ZBP (os:Os) (args:Array Value):laidMetH Tryz.prog ZgA ((World.doorLaid Tryz.prog 24 os).forCall (fun _ _=>0) ⟨#[],args,[]⟩).memory :=
 laidMetH_of_parts3 (fuel:=8) (laidMet_of_run' 8 (by kernel_rfl) (by kernel_rfl)) (by kernel_rfl) (by kernel_rfl)
theorem gTab:Tryz.prog.globalNamed "math/bits.deBruijn64tab" = some 2:=by kernel_rfl
theorem tTab:(Tryz.prog.globals[(2:Nat)]?).map (·.type)=some 277:=by kernel_rfl
theorem ZGa:∃ zero,((begin Tryz.prog (fun _ _=>0) default).world.heap[(2:Nat)]?).bind Obj.row?=some (zero,277):=⟨(List.replicate 64 (Value.int .u8 0)).toArray,by kernel_rfl⟩
theorem ZBQ {W:World} (h:laidMetH Tryz.prog ZgA W) (hs:W.ShapedOpen Tryz.prog):ZcA W:=by
 rw [MakeChecks.laidMetH_plain _ _ _ (by kernel_rfl)] at h
 have h2:=laidMet.tail h
 have h3:laidMet Tryz.prog [("math/bits.deBruijn64tab",Lib.tabData .u8 (Zo2.map fun (n:Nat)=>(n:Int))),("internal/strconv.uint64pow10",Rows.laid_internal_strconv_uint64pow10)] W:=h2
 have h4:=Lib.tabIs_of_head gTab tTab (e:=5) (n:=64) (by kernel_rfl) (by kernel_rfl) (by kernel_rfl) (by kernel_rfl) h3
 obtain ⟨zero,hz⟩:=ZGa
 obtain ⟨cs,hh,_⟩:=hs.1 _ zero _ (by decide +kernel) hz
 unfold Lib.TabIs World.var? at h4
 rw [gTab] at h4
 simp only [Option.bind_some,hh,Tap] at h4
 unfold ZcA
 rw [hh,h4]
 unfold tabA
 rw [List.map_map]
 rfl
section
variable {H:Type} {enc:TypeId × Value->H}
theorem ZpY {a:Assume} {C:Checked} {os:Os} {f:FuncId} {fn:Func} {s:ChangeSpec} {conds:List PathCond} {apart fresh handsOn again:Bool} {X:World->Array Value->Prop}
  (hX:∀ (w w':World) (args:Array Value),w.heap=w'.heap->X w args->X w' args)
  (own:ownKnob C.prog.godebug=none) (started:os.Started) (noInit:C.prog.inits.idxOf? f=none) (hfn:C.prog.funcs[f]?=some fn)
  (witness:∃ (w:World) (tape:Tape) (i:Input),w.os=os∧(w.forCall tape i).Shaped C.prog∧i.vars=[]∧Input.okWide C.prog (w.forCall tape i) .any w.heap.size f i ∧
   ((s.pre enc C.prog fn conds apart (w.forCall tape i).memory i.args∧X (w.forCall tape i).memory i.args)∧sizedMet enc C.prog fn (OpenSpec.ofChange s) apart (w.forCall tape i).memory i.args)∧a.holds C.prog (lone (Frame.enter C.prog f i.args .normal) [] (w.forCall tape i)))
  (contract:∀ (W:World) (base:Nat) (args:Array Value) (ds gs:List (DataW H)) (before:List MemPlace),
   (∀ (j:Nat) t v,fn.params[j]?=some t->args[j]?=some v->Value.okWide C.prog W .any base t v) ->
   DataW.Whole enc C.prog fn.params.toList s.vars apart W args.toList ds gs before ->
   conds.all (PathCond.test C.prog ⟨fn.params.toList,ds,s.plain.varTypes C.prog,gs⟩)=true ->
   (DataW.weightsEach C.prog (fn.params.toList++s.plain.varTypes C.prog) (ds++gs)).all (·<=reachBytes)=true->X W args->W.ShapedOpen C.prog ->
   a.holds C.prog (lone (Frame.enter C.prog f args .normal) [] W) ->
   Calls C.prog f args W fun e W'=>∃ v,e=.returned v∧s.post enc C.prog fn apart fresh handsOn again W args v W') :
  ReturnsInHanded a C os f .any (fun w args=>(s.pre enc C.prog fn conds apart w args∧X w args)∧sizedMet enc C.prog fn (OpenSpec.ofChange s) apart w args) (s.post enc C.prog fn apart fresh handsOn again):=by
 refine returnsInHanded_of_calls own started noInit witness ?_
 intro w tape i _ hsh _ hok hpre hholds
 obtain ⟨_,_,_,fn',hfn',_,_,_,_,hval⟩:=hok
 obtain rfl:fn'=fn:=Option.some.inj (hfn'.symm.trans hfn)
 obtain ⟨⟨⟨ds,gs,before,hw,hc⟩,hx⟩,hz⟩:=hpre
 refine (contract (w.forCall tape i) w.heap.size i.args ds gs before hval (DataW.Whole.of_heap (w':=w.forCall tape i) (by rfl) hw) hc (hz.weights hw) (hX _ _ _ (by rfl) hx) hsh hholds).mono fun e W' ⟨v,he,hp⟩=>?_
 subst he
 exact ChangeSpec.post_blind hp
end
end Go.Proofs.YtffmjghcpgpfpaaGreatDoor
namespace Go.Proofs.YtffmjghcpgpfpaaGreatDoor
open Go.RowKit
theorem Zf4 {r:List C} (h:Zal (Zad .term) r):∃ (i0:Int) (t1:ByteArray) (i2:Int) (r3:List (List C)),r=[.lit (.int .i64 i0),.lit (.string t1),.lit (.int .i64 i2),.sl r3]∧I64 i0∧t1.size<=maxLen∧I64 i2∧Zao (Zad .term) r3:=by
 obtain ⟨c0,c1,c2,c3,rfl⟩:=len4 h.len
 simp only [Zad,Za2,occF,Zbc,sigF,ZaW,algF,Tae,Tag,Zal,and_true] at h
 obtain ⟨h0,h1,h2,h3⟩:=h
 obtain ⟨i0,rfl,g0⟩:=Zcp h0
 obtain ⟨t1,rfl,g1⟩:=Ze9 h1
 obtain ⟨i2,rfl,g2⟩:=Zcp h2
 obtain ⟨r3,rfl,g3⟩:=Zcm h3
 exact ⟨i0,t1,i2,r3,rfl,g0,g1,g2,g3⟩
theorem ZbD {i0:Int} {t1:ByteArray} {i2:Int} {r3:List (List C)} (g0:I64 i0) (g1:t1.size<=maxLen) (g2:I64 i2) (g3:Zao (Zad .term) r3):Zal (Zad .term) [.lit (.int .i64 i0),.lit (.string t1),.lit (.int .i64 i2),.sl r3]:=by
 simp only [Zad,Za2,occF,Zbc,sigF,ZaW,algF,Tae,Tag,Zal,and_true]
 exact ⟨Zpc g0,ZwI g1,Zpc g2,Zg1 g3⟩
theorem ZbR {w:World} {S:Nat->Prop} {i0:Int} {t1:ByteArray} {i2:Int} {r3:List (List C)} {us:List Value} (h:Zaa w S [.lit (.int .i64 i0),.lit (.string t1),.lit (.int .i64 i2),.sl r3] us):∃ v3,us=[.int .i64 i0,.string t1,.int .i64 i2,v3]∧Rep w S (.sl r3) v3:=by
 obtain ⟨u0,u1,u2,u3,rfl⟩:=len4 h.len
 simp only [Zaa,Rep.lit_iff,and_true] at h
 obtain ⟨rfl,rfl,rfl,e3⟩:=h
 exact ⟨u3,rfl,e3⟩
theorem Zba {w:World} {S:Nat->Prop} {i0:Int} {t1:ByteArray} {i2:Int} {r3:List (List C)} {v3:Value} (e3:Rep w S (.sl r3) v3):Zaa w S [.lit (.int .i64 i0),.lit (.string t1),.lit (.int .i64 i2),.sl r3] [.int .i64 i0,.string t1,.int .i64 i2,v3]:=by
 simp only [Zaa,Rep.lit_iff,and_true,true_and]
 exact e3
def ZmR (row:List C):Prop:=∀ (S:Nat->Prop) (us:List Value) (left:Int) (w:World),Zal (Zad .term) row->Zaa w S row us->0<=left->left<=1048576 ->
 Calls Tryz.prog 10 #[.agg us.toArray,.int .i64 left] w fun e w'=>e=.returned (.int .i64 (sub left (Zae row)))∧Below w.heap.size w w'
def ZmS (row:List C):Prop:=∀ (S S':Nat->Prop) (us us':List Value) (w:World),Zal (Zad .term) row->Zaa w S row us->Zaa w S' row us' ->
 Calls Tryz.prog 18 #[.agg us.toArray,.agg us'.toArray] w fun e w'=>e=.returned (.bool true)∧Below w.heap.size w w'
def ZmT (row:List C):Prop:=∀ (S:Nat->Prop) (us:List Value) (w:World),Zal (Zad .term) row->Zaa w S row us->Zae row<=1048576 ->
 Calls Tryz.prog 14 #[.agg us.toArray] w fun e w'=>∃ us':List Value,e=.returned (.agg us'.toArray)∧Zai w' row (fun x=>w.heap.size<=x∧x < w'.heap.size) us'∧Below w.heap.size w w'
def Zh6 (rows:List (List C)):Prop:=∀ (S:Nat->Prop) (v:Value) (left:Int) (w:World),Zao (Zad .term) rows->Rep w S (.sl rows) v->0<=left->left<=1048576 ->
 Calls Tryz.prog 42 #[v,.int .i64 left] w fun e w'=>e=.returned (.int .i64 (sub left (rows.length+Zaf rows)))∧Below w.heap.size w w'
def Zh7 (rows:List (List C)):Prop:=∀ (S S':Nat->Prop) (v v':Value) (w:World),Zao (Zad .term) rows->Rep w S (.sl rows) v->Rep w S' (.sl rows) v' ->
 Calls Tryz.prog 56 #[v,v'] w fun e w'=>e=.returned (.bool true)∧Below w.heap.size w w'
def Zh8 (rows:List (List C)):Prop:=∀ (S:Nat->Prop) (v:Value) (w:World),Zao (Zad .term) rows->Rep w S (.sl rows) v->rows.length+Zaf rows<=1048576 ->
 Calls Tryz.prog 48 #[v] w fun e w'=>∃ v',e=.returned v'∧Own w' (.sl rows) (fun x=>w.heap.size<=x∧x < w'.heap.size) v'∧Below w.heap.size w w'
theorem ZnD (row:List C) (h:∀ (rows:List (List C)),Zb7 rows < ZbJ row->Zh6 rows):ZmR row:=by
 intro S us left w hok hv h0 h1
 obtain ⟨i0,t1,i2,r3,rfl,g0,g1,g2,g3⟩:=Zf4 hok
 obtain ⟨v3,rfl,e3⟩:=ZbR hv
 have HC3:=Lib.hid (h r3 (by simp [ZbJ,ZeQ];omega))
 clear h
 have HB:=Lib.hid (show Zae [.lit (.int .i64 i0),.lit (.string t1),.lit (.int .i64 i2),.sl r3]=t1.size+(r3.length+Zaf r3) from by simp only [Zae,Zbr];omega)
 have hs1:=g1
 unfold maxLen at hs1
 have G0:=Lib.hid g0
 have G1:=Lib.hid g1
 have G2:=Lib.hid g2
 have G3:=Lib.hid g3
 clear g0 g1 g2 g3 hok
 have E3:=Lib.hid e3
 clear hv e3
 generalize hrow:Zae [.lit (.int .i64 i0),.lit (.string t1),.lit (.int .i64 i2),.sl r3]=total at HB ⊢
 clear hrow
 have hbw:=(Below.refl w.heap.size w).alloc (Tah _) (.cells #[.int .i64 i0,.string t1,.int .i64 i2,v3] 32)
 by_cases q1:left - (t1.size:Int) < 0
 ·go_enter Tryz.func10,Tryz.ntmps10
  go_wp2
  go_ret
  exact ⟨Zaw (a:=-1) (Zax (by have:=HB.out;omega)).symm,hbw⟩
 go_enter Tryz.func10,Tryz.ntmps10
 go_wp2_with fail
 by_cases q3:(left - (t1.size:Int)) < ((r3.length+Zaf r3):Nat)
 ·refine (HC3.out S _ _ _ G3.out (E3.out.below hbw) om om).mono ?_
  rw [Zax om]
  rintro e w1 ⟨rfl,hb1⟩
  go_wp2
  go_ret
  exact ⟨Zaw (a:=-1) (Zax (by have:=HB.out;omega)).symm,hbw.trans (hb1.mono hbw.size)⟩
 refine (HC3.out S _ _ _ G3.out (E3.out.below hbw) om om).mono ?_
 rw [Za0 om]
 rintro e w1 ⟨rfl,hb1⟩
 obtain ⟨hc1,hf1⟩:=Za8 hb1
 have hz1:w.heap.size < w1.heap.size:=(by have:=hb1.size;(try simp at this);omega)
 replace hbw:=hbw.trans (hb1.mono hbw.size)
 go_wp2
 go_ret
 exact ⟨Zaw (by have:=HB.out;rw [Za0 om];omega),hbw⟩
theorem ZnE (row:List C) (h:∀ (rows:List (List C)),Zb7 rows < ZbJ row->Zh7 rows):ZmS row:=by
 intro S S' us us' w hok hv hv'
 obtain ⟨i0,t1,i2,r3,rfl,g0,g1,g2,g3⟩:=Zf4 hok
 obtain ⟨v3,rfl,e3⟩:=ZbR hv
 obtain ⟨x3,rfl,d3⟩:=ZbR hv'
 have HC3:=Lib.hid (h r3 (by simp [ZbJ,ZeQ];omega))
 clear h
 have G0:=Lib.hid g0
 have G1:=Lib.hid g1
 have G2:=Lib.hid g2
 have G3:=Lib.hid g3
 clear g0 g1 g2 g3 hok
 have E3:=Lib.hid e3
 have D3:=Lib.hid d3
 clear hv hv' e3 d3
 have hbw:=((Below.refl w.heap.size w).alloc (Tah _) (.cells #[.int .i64 i0,.string t1,.int .i64 i2,v3] 46)).alloc (by simp) (.cells #[.int .i64 i0,.string t1,.int .i64 i2,x3] 46)
 go_enter Tryz.func18,Tryz.ntmps18
 go_wp2_with fail
 refine (HC3.out S S' _ _ _ G3.out (E3.out.below hbw) (D3.out.below hbw)).mono ?_
 rintro e w1 ⟨rfl,hb1⟩
 obtain ⟨hc1,hf1⟩:=Za8 hb1
 have hz1:w.heap.size+1 < w1.heap.size:=(by have:=hb1.size;(try simp at this);omega)
 have ha1:w.heap.size < w1.heap.size:=by omega
 replace hbw:=hbw.trans (hb1.mono hbw.size)
 go_wp2
 go_ret
 exact ⟨rfl,hbw⟩
theorem ZnF (row:List C) (h:∀ (rows:List (List C)),Zb7 rows < ZbJ row->Zh8 rows):ZmT row:=by
 intro S us w hok hv hlen
 obtain ⟨i0,t1,i2,r3,rfl,g0,g1,g2,g3⟩:=Zf4 hok
 obtain ⟨v3,rfl,e3⟩:=ZbR hv
 have HC3:=Lib.hid (h r3 (by simp [ZbJ,ZeQ];omega))
 clear h
 have G0:=Lib.hid g0
 have G1:=Lib.hid g1
 have G2:=Lib.hid g2
 have G3:=Lib.hid g3
 clear g0 g1 g2 g3 hok
 have E3:=Lib.hid e3
 clear hv e3
 have hl3:(r3.length+Zaf r3)<=1048576:=by
  have e:(r3.length+Zaf r3)<=Zae [.lit (.int .i64 i0),.lit (.string t1),.lit (.int .i64 i2),.sl r3]:=by simp only [Zae,Zbr];omega
  exact Tbe e hlen
 clear hlen
 go_enter Tryz.func14,Tryz.ntmps14
 go_wp2_with fail
 refine (HC3.out S _ _ G3.out (by exact E3.out.below (by repeat (first | refine Below.alloc ?_ (by simp;try omega) _ | exact Below.refl _ _))) hl3).mono ?_
 rintro e w1 ⟨y3,rfl,hown3,hb1⟩
 obtain ⟨A3,n3,cap3,rfl,_,_,_⟩:=(Own.rep _ _ _ hown3).form
 have hz1:=hb1.size
 simp at hz1 hown3
 have HOWN3:=Lib.hid hown3
 clear hown3
 have hbw1:Below w.heap.size w w1:=Below.trans (by repeat (first | refine Below.alloc ?_ (by simp;try omega) _ | exact Below.refl _ _)) (hb1.mono (by simp;try omega))
 obtain ⟨hc1,hf1⟩:=Za8 hb1
 have ha1:w.heap.size < w1.heap.size:=by omega
 have hbb1:w.heap.size+1 < w1.heap.size:=by omega
 have hcc1:w.heap.size+1+1 < w1.heap.size:=by omega
 go_wp2
 refine bodyPost_ret (v:=.agg #[.int .i64 i0,.string t1,.int .i64 i2,.slice A3 n3 cap3]) (by simp [results,Tryz.results14,go_sem,hc1,ha1,hbb1,hcc1]) rfl ⟨[.int .i64 i0,.string t1,.int .i64 i2,.slice A3 n3 cap3],rfl,?_,(by repeat (first | refine Below.setCell ?_ (by simp;try omega) _ | exact hbw1))⟩
 simp
 exact (Zai.lit (Zai.lit (Zai.lit (Zai.cons (fun x=>w.heap.size+1+1+1<=x∧x < w1.heap.size) (fun x=>w1.heap.size<=x∧x < w1.heap.size) (HOWN3.out.same (by repeat (first | refine Same.trans ?_ (Same.setCell _ _ _ _ (by simp;try omega)) | exact Same.refl _ _))) Zai.nil (fun x hx=>⟨by omega,by omega⟩) (fun x hx=>⟨by omega,by omega⟩) (fun x hx hy=>by omega)))))
theorem ZvQ (rows:List (List C)) (h:∀ (i:Nat) r,rows[i]?=some r->ZmR r):Zh6 rows:=by
 intro S v left w hok hv h0 h1
 obtain ⟨A,m,cap,rfl,hm,hmc,hcm⟩:=hv.form
 have H:=Lib.hid h
 have HV:=Lib.hid hv
 have HM:=Lib.hid hm
 have HOK:=Lib.hid hok
 clear h hv hm hok
 unfold maxLen at hcm
 by_cases hlt:left - m < 0
 ·rw [Zax (by have:=HM.out;omega)]
  go_enter Tryz.func42,Tryz.ntmps42
  go_wp2
  go_ret
  exact ⟨rfl,Below.refl _ _⟩
 ·go_enter Tryz.func42,Tryz.ntmps42
  go_wp2
  go_loopw [1,5] (fun l i wr=>∃ k:Nat,k<=m∧i=.int .i64 k∧l=.int .i64 (left - m - (Zaf (rows.take k):Int))∧0<=left - m - (Zaf (rows.take k):Int)∧Below w.heap.size w wr) (fun _ i _=>m - (intOf i).toNat)
  case atStart=>exact ⟨0,Tai _,rfl,by simp [Zaf],by simp [Zaf];omega,Below.refl _ _⟩
  case round =>
   obtain ⟨k,hk,rfl,rfl,hl0,hb⟩:=hrel
   by_cases hkm:k < m
   ·obtain ⟨b,off,r,rfl,hS,hbz,hget,hokr,hrow⟩:=(HV.out.below hb).get HOK.out hkm
    obtain ⟨u0,u1,u2,u3,c0,c1,c2,c3,hvals⟩:=hrow.vals4 hokr.len
    have HT:=H.out k r hget
    have HVALS:=Lib.hid hvals
    have HOKR:=Lib.hid hokr
    have HBT:=Lib.hid (ZdX hget)
    have hle:=ZcX rows (k+1)
    clear hvals hokr hrow hget
    simp only [Zad,Za2,occF,Zbc,sigF,ZaW,algF,Tae,Tag,Taf,Taj,Nat.reduceAdd,Nat.mul_one] at c0 c1 c2 c3
    by_cases h2:left - m - (Zaf (rows.take k):Int) < Zae r
    ·go_wp2_with fail
     refine (HT S _ _ _ HOKR.out HVALS.out om om).mono ?_
     rw [Zax h2]
     rintro e w' ⟨rfl,hb2⟩
     go_wp2
     go_ret
     exact ⟨Zaw (a:=-1) (Zax (by have:=HBT.out;have:=HM.out;omega)).symm,hb.trans (hb2.mono hb.size)⟩
    ·go_wp2_with fail
     refine (HT S _ _ _ HOKR.out HVALS.out om om).mono ?_
     rw [Za0 om]
     rintro e w' ⟨rfl,hb2⟩
     go_wp2
     go_roundw
     case rel=>exact ⟨k+1,by omega,by go_num,by have:=HBT.out;congr 1;omega,by have:=HBT.out;omega,hb.trans (hb2.mono hb.size)⟩
     case measure=>simp [intOf];omega
   ·go_wp2
    go_ret
    have e:k=m:=by omega
    subst e
    have:rows.take k=rows:=List.take_of_length_le (by have:=HM.out;omega)
    rw [this] at hl0 ⊢
    exact ⟨Zaw (by have:=HM.out;rw [Za0 om];omega),hb⟩
theorem ZvR (rows:List (List C)) (h:∀ (i:Nat) r,rows[i]?=some r->ZmS r):Zh7 rows:=by
 intro S S' v v' w hok hv hv'
 obtain ⟨A,m,cap,rfl,hm,hmc,hcm⟩:=hv.form
 obtain ⟨A',m',cap',rfl,hm',hmc',hcm'⟩:=hv'.form
 obtain rfl:m=m':=by omega
 have H:=Lib.hid h
 have HV:=Lib.hid hv
 have HV':=Lib.hid hv'
 have HM:=Lib.hid hm
 have HOK:=Lib.hid hok
 clear h hv hm hok hm' hv'
 unfold maxLen at hcm hcm'
 go_enter Tryz.func56,Tryz.ntmps56
 go_wp2
 go_loopw [5] (fun i wr=>∃ k:Nat,k<=m∧i=.int .i64 k∧Below w.heap.size w wr) (fun i _=>m - (intOf i).toNat)
 case atStart=>exact ⟨0,Tai _,rfl,Below.refl _ _⟩
 case round =>
  obtain ⟨k,hk,rfl,hb⟩:=hrel
  by_cases hkm:k < m
  ·obtain ⟨b,off,r,rfl,hS,hbz,hget,hokr,hrow⟩:=(HV.out.below hb).get HOK.out hkm
   obtain ⟨b',off',r',rfl,hS',hbz',hget',hokr',hrow'⟩:=(HV'.out.below hb).get HOK.out hkm
   obtain rfl:r=r':=by rw [hget] at hget';exact Option.some.inj hget'
   obtain ⟨u0,u1,u2,u3,c0,c1,c2,c3,hvals⟩:=hrow.vals4 hokr.len
   obtain ⟨x0,x1,x2,x3,d0,d1,d2,d3,hvals'⟩:=hrow'.vals4 hokr.len
   have HT:=H.out k r hget
   have HVALS:=Lib.hid hvals
   have HVALS':=Lib.hid hvals'
   have HOKR:=Lib.hid hokr
   clear hvals hvals' hokr hokr' hrow hrow' hget hget'
   simp only [Zad,Za2,occF,Zbc,sigF,ZaW,algF,Tae,Tag,Taf,Taj,Nat.reduceAdd,Nat.mul_one] at c0 c1 c2 c3 d0 d1 d2 d3
   have k0:(0:Int)<=(k:Int):=by omega
   have k1:(k:Int) < (m:Int):=by omega
   go_wp2_with fail
   go_region_held3 (fun w'=>∀ b o,b < wr.heap.size->w'.cell? ⟨b,o,none⟩=wr.cell? ⟨b,o,none⟩) (first | go_keep | exact fun b o h=>hb2.cell (p:=⟨b,o,none⟩) h) (first | (go_at_call 18;refine (HT S S' _ _ _ HOKR.out (HVALS.out.below (Below.refl _ _).drew) (HVALS'.out.below (Below.refl _ _).drew)).mono ?_;rintro e w' ⟨rfl,hb2⟩))
   go_wp2
   go_roundw
   case rel=>exact ⟨k+1,by omega,by go_num,hb.trans ((Below.refl _ _).drew.trans (hb2.mono hb.size))⟩
   case measure=>simp [intOf];omega
  ·go_wp2
   go_ret
   exact ⟨rfl,hb⟩
theorem ZnG:(Tryz.prog.info? 46).map (fun i=>(i.zero,i.size,i.bytes))=some (some (.agg #[.int .i64 0,.string .empty,.int .i64 0,.slice none 0 0]),4,56):=by kernel_rfl
theorem ZvS (rows:List (List C)) (h:∀ (i:Nat) r,rows[i]?=some r->ZmT r):Zh8 rows:=by
 intro S v w hok hv hlen
 obtain ⟨A,m,cap,rfl,hm,hmc,hcm⟩:=hv.form
 obtain ⟨i0,hi,hz0,hz1,hz2⟩:=info_parts ZnG
 have H:=Lib.hid h
 have HV:=Lib.hid hv
 have HM:=Lib.hid hm
 have HOK:=Lib.hid hok
 have hml:m<=1048576:=by omega
 clear h hv hm hok
 unfold maxLen at hcm
 have hmk:=run_make (P:=Tryz.prog) w 44 46 i0 _ Tryz.underlying44 hi hz0 .i64 .i64 (m:Int) (m:Int) om om (by rw [hz2];omega) om
 go_enter Tryz.func48,Tryz.ntmps48
 go_wp2
 clear hmk
 go_loopw [4] (fun i wr=>∃ k:Nat,k<=m∧i=.int .i64 k∧ZbA w w.heap.size 46 m 4 rows k wr) (fun i _=>m - (intOf i).toNat)
 case atStart=>exact ⟨0,Tai _,rfl,ZbA.start (size_madeCells _ _)⟩
 case round =>
  obtain ⟨k,hk,rfl,hfill⟩:=hrel
  have hb:=hfill.1
  by_cases hkm:k < m
  ·obtain ⟨b,off,r,rfl,hS,hbz,hget,hokr,hrow⟩:=(HV.out.below hb).get HOK.out hkm
   obtain ⟨u0,u1,u2,u3,c0,c1,c2,c3,hvals⟩:=hrow.vals4 hokr.len
   have HT:=H.out k r hget
   have HVALS:=Lib.hid hvals
   have HOKR:=Lib.hid hokr
   have HGET:=Lib.hid hget
   have HF:=Lib.hid hfill
   have hbg:=Zco hget
   clear hvals hokr hrow hget hfill
   simp only [Zad,Za2,occF,Zbc,sigF,ZaW,algF,Tae,Tag,Taf,Taj,Nat.reduceAdd,Nat.mul_one] at c0 c1 c2 c3
   go_wp2_with fail
   refine (HT S _ _ HOKR.out HVALS.out om).mono ?_
   rintro e w2 ⟨us,rfl,hown,hb2⟩
   have hone:=HOKR.out.one (Zai.rep _ _ (fun _=>True) _ (fun _ _=>trivial) hown)
   obtain ⟨y0,y1,y2,y3,rfl⟩:=len4 (hown.len.trans HOKR.out.len)
   have HOWN:=Lib.hid hown
   have HONE:=Lib.hid hone
   obtain ⟨cur,hcur,hcs⟩:=HF.out.row hb2
   have HCUR:=Lib.hid hcur
   have HCS:=Lib.hid hcs
   clear hown hone hcur hcs
   go_wp2_with (refine ZbX rfl 46 _ _ rfl w.heap.size (k * 4) rfl [y0,y1,y2,y3] rfl i0 hi hz1 46 cur HCUR.out (by have:=HCS.out;simp only [Taf,Taj];omega) HONE.out ?_;intro w3 hput)
   go_roundw
   case rel=>exact ⟨k+1,by omega,by go_num,HF.out.step (fs:=Zad .term) HOK.out HGET.out hb2 HOWN.out hput⟩
   case measure=>simp [intOf];omega
  ·go_wp2
   go_ret
   have e:k=m:=by omega
   subst e
   exact ⟨_,rfl,hfill.done HM.out (by unfold maxLen;omega) (by decide) HOK.out.lens⟩
theorem ZrL (n:Nat):∀ rows,Zb7 rows < n->Zh6 rows:=by
 induction n with
 | zero=>intro rows h;omega
 | succ n ih=>exact fun rows h=>ZvQ rows (fun i r hr=>ZnD r (fun rows' h'=>ih rows' (by have:=Zdw hr;omega)))
theorem ZrM (rows:List (List C)):Zh6 rows:=ZrL _ rows (Tam _)
theorem Zf5 (row:List C):ZmR row:=ZnD row (fun rows _=>ZrM rows)
theorem ZrN (n:Nat):∀ rows,Zb7 rows < n->Zh7 rows:=by
 induction n with
 | zero=>intro rows h;omega
 | succ n ih=>exact fun rows h=>ZvR rows (fun i r hr=>ZnE r (fun rows' h'=>ih rows' (by have:=Zdw hr;omega)))
theorem ZrO (rows:List (List C)):Zh7 rows:=ZrN _ rows (Tam _)
theorem Zf6 (row:List C):ZmS row:=ZnE row (fun rows _=>ZrO rows)
theorem ZrP (n:Nat):∀ rows,Zb7 rows < n->Zh8 rows:=by
 induction n with
 | zero=>intro rows h;omega
 | succ n ih=>exact fun rows h=>ZvS rows (fun i r hr=>ZnF r (fun rows' h'=>ih rows' (by have:=Zdw hr;omega)))
theorem ZrQ (rows:List (List C)):Zh8 rows:=ZrP _ rows (Tam _)
theorem Zf7 (row:List C):ZmT row:=ZnF row (fun rows _=>ZrQ rows)
end Go.Proofs.YtffmjghcpgpfpaaGreatDoor
