/-
  Part of a proof.
-/
import Derived.Test.YtmdkimnlbaahbaaGreatBSubstituted0
import Derived.Test.YtmdkimnlbaahbaaGreatChecked
import Derived.Test.YtmdkimnlbaahbaaGreatRows
import Derived.Lib.Bytealg
import Derived.Deep.RegionHeld3
import Derived.Deep.QuietTactic
import Derived.BigQuiet
import Derived.MapKept
import Derived.ChangeMaps5
import Derived.Laws.StructEq
set_option linter.unusedSimpArgs false
set_option linter.unusedVariables false
set_option maxHeartbeats 400000000
set_option maxRecDepth 100000
namespace Go.Proofs.YtmdkimnlbaahbaaGreat
open Go.RowKit
section
variable {e:Env} {U:Nat->Prop} {w0:World} {S0:Nat->Prop} {nt:Nat}
theorem SimE.drew {σ:St} {a:Act} {w:World} (he:e.Ok) (h:SimE e U w0 S0 nt σ a w):SimE e U w0 S0 nt σ a { w with drawn:=w.drawn+1 }:=by
 obtain ⟨S,L,h⟩:=h;have hk:Kept e.D e.E w.heap.size w { w with drawn:=w.drawn+1 }:=⟨rfl,rfl,rfl,fun _=>Nat.le_succ _,Tai _,fun _ _ _=>rfl⟩;exact ⟨S,L,h.later (h.cls.later hk (he.keep w _ (Tai _) (fun _ _=>rfl) h.cls.g) (fun _ h=>h) (fun _ h=>.inl h)) hk (fun _ h=>h)⟩
theorem Zjl (he:e.Ok) {id:Nat} {ops:Array Oper} {n:Nat} (hB:regB ops n=true) (hna:∀ o,(ops.toList.take n).getLast?=some o->isAl o=false) {K:St->Prop} {Q:Exit->Act->World->Prop} (hQ:∀ a w σ',K σ'->SimE e U w0 S0 nt σ' a w->Q .normal a w) {σ:St} {a:Act} {w:World}
  (hd:∀ o∈ops.toList,∀ d,o.dst=some d->d < nt) (h:SimE e U w0 S0 nt σ a w) (hp:Runs e (ops.toList.map (·.dst)) n ops.toList σ K):(Code.region id ops true).wp e.P Q a w:=by
 simp only [regB,Tar,Bool.or_eq_true,decide_eq_true_eq] at hB;obtain ⟨⟨⟨hH,hn⟩,hs⟩,hsq⟩:=hB;obtain ⟨S,L,h1⟩:=h.drew he;refine wp_region_any he.mixed ?_;have hsplit:ops.toList=ops.toList.take n++ops.toList.drop n:=(Tbl n _).symm;have hlen:(ops.toList.take n).length=n:=by simp;omega
 have hp':Runs e (ops.toList.map (·.dst)) ((ops.toList.take n).length+0) (ops.toList.take n++ops.toList.drop n) σ K:=by rw [<- hsplit,hlen];exact hp
 obtain ⟨αs,hal,hch,hrest⟩:=ZcS (U:=U) he w0.heap.size S0 ops.toList (ops.toList.drop n) 0 (ops.toList.take n) σ (fun _=>hna) hp';rw [hlen] at hal
 have inv0:InvA e U w0 S0 nt σ.m ops n σ.s αs L (Array.replicate ops.size false) a { w with drawn:=w.drawn+1 } S :=
  ⟨⟨by simp,fun j oj _ hl=>(by rw [getD_replicate_false] at hl;cases hl),fun t _ ht=>getD_in (by simpa using ht) (getD_replicate_false _ _)⟩,h1.size,h1.defers,h1.cls,h1.kept,fun t _=>h1.rel t,fun i o d α _ hl=>(by rw [getD_replicate_false] at hl;cases hl)⟩
 have H:=Zc6 (e:=e) (L:=L) (Q:=Q) he hH hn (fun hlt=>by
   rcases hs with hs | hs
   ·omega
   ·exact hs) hsq (fun i o d hi ho hdd=>hd o (List.mem_iff_getElem?.2 ⟨i,by simpa using ho⟩) d hdd) hal hch (ZgA hH Q) (fun _ _ _ _ _ _ _ _ _ _ _ _ _ _=>trivial) (fun listed a' w' S' hI _ hall=>?_) n _ a _ S inv0 trivial ?_
 ·rw [show n+(ops.size - n)=ops.size by omega] at H;exact H
 ·have hsim:SimE e U w0 S0 nt ⟨after σ.s (ops.toList.take n) αs,σ.m⟩ a' w':=by
   refine ⟨S',L,hI.cls,fun t=>?_,hI.size,hI.defers,hI.kept⟩;by_cases hex:∃ (j:Nat) (p:Oper),j < n∧ops[j]?=some p∧p.dst=some t
   ·obtain ⟨j,p,hj,hp,hpt⟩:=hex;obtain ⟨p',d',hP⟩:=ZbV.get hH hj;have hpp:p'=p:=by have:=hP.op;rw [hp] at this;injection this with this;exact this.symm
    subst hpp;have hdt:d'=t:=by have:=hP.dst;rw [hpt] at this;injection this with this;exact this.symm
    subst hdt;obtain ⟨α,hα⟩:∃ α,αs[j]?=some α:=⟨αs[j],Taa om⟩;show ARel w' S' L (gs (after σ.s (ops.toList.take n) αs) d') _;rw [Zc5 (ops.toList.take n) αs σ.s j p' α (by rw [List.getElem?_take,if_pos hj];simpa using hp) hα hpt (fun k q hk hq=>by
     rw [List.getElem?_take] at hq;split at hq
     ·exact (hP.dep k q om (by simpa using hq)).1 hk
     ·cases hq)]
    exact hI.done j p' d' α hj (hall j hj) hp hpt hα
   ·have hno:∀ (j:Nat) (p:Oper),j < n->ops[j]?=some p->p.dst≠some t:=fun j p hj hp hd=>hex ⟨j,p,hj,hp,hd⟩;show ARel w' S' L (gs (after σ.s (ops.toList.take n) αs) t) _;rw [Zb7 _ _ _ (fun p hp=>by
     obtain ⟨j,hj⟩:=List.mem_iff_getElem?.1 hp;rw [List.getElem?_take] at hj;split at hj
     ·exact hno j p om (by simpa using hj)
     ·cases hj)]
    exact hI.out t hno
  have:=ZgT he ops.toList hQ (ops.toList.drop n) _ a' w' (fun o ho=>hd o (List.mem_of_mem_drop ho)) hsim hrest;simpa using this
 ·rw [List.countP_eq_length.2]
  ·simp
  ·intro i hi;have hi':=List.mem_range.1 hi;have hsz:i < (Array.replicate ops.size false).size:=by simp;omega
   rw [Zbc hsz,getD_replicate_false];rfl
theorem Zhc (mask t:Nat):∀ (s:List (Nat × A)),gs (Zda mask s) t=gs s t∨gs (Zda mask s) t=.undef
 | []=>.inl rfl
 | (k,a)::r=>by
  have key:∀ (s:List (Nat × A)),mask.testBit t=false->gs (Zda mask s) t=.undef:=by
   intro s ht
   induction s with
   | nil=>rfl
   | cons p s ih =>
    obtain ⟨k,a⟩:=p;simp only [Zda];split
    ·rename_i hk;have:t≠k:=fun e=>by rw [e,hk] at ht;cases ht
     simp only [gs,this,if_false];exact ih
    ·exact ih
  cases ht:mask.testBit t with
  | false=>exact .inr (key _ ht)
  | true =>
   left;have key2:∀ (s:List (Nat × A)),gs (Zda mask s) t=gs s t:=by
    intro s
    induction s with
    | nil=>rfl
    | cons p s ih =>
     obtain ⟨k,a⟩:=p;simp only [Zda];split
     ·simp only [gs,ih]
     ·rename_i hk;have:t≠k:=fun e=>hk (by rw [<- e];exact ht);simp only [gs,this,if_false];exact ih
   exact key2 _
theorem Zhd {s:List (Nat × A)} {t:Nat}:∀ {r:List (Nat × A)},Zcr s r->gs r t=gs s t∨gs r t=.undef
 | [],_=>.inr rfl
 | (k,a)::r,h=>by
  simp only [Zcr] at h;simp only [gs];split
  ·rename_i e;rw [e];exact .inl h.1.symm
  ·exact Zhd h.2
theorem Zhe {m:List (Nat × Bk)} {t:Nat}:∀ {r:List (Nat × Bk)} {cs:Bk},Zcs m r->gm r t=some cs->gm m t=some cs
 | [],_,_,h=>by simp [gm] at h
 | (k,a)::r,cs,h,hg=>by
  simp only [Zcs] at h;simp only [gm] at hg;split at hg
  ·rename_i e;rw [e,h.1];exact hg
  ·exact Zhe h.2 hg
theorem SimE.weak {σ σ':St} {a:Act} {w:World} (h:SimE e U w0 S0 nt σ a w) (hs:∀ t,gs σ'.s t=gs σ.s t∨gs σ'.s t=.undef) (hm:∀ t cs,gm σ'.m t=some cs->gm σ.m t=some cs):SimE e U w0 S0 nt σ' a w:=by
 obtain ⟨S,L,h⟩:=h;refine ⟨S,L,⟨h.cls.sin,h.cls.sfr,h.cls.ein,h.cls.uin,h.cls.bsz,fun k x g hk=>h.cls.mine k x g (hm k x hk),fun k x hk=>h.cls.own k x (hm k x hk),fun k k' x x' g h1 h2=>h.cls.inj k k' x x' g (hm _ _ h1) (hm _ _ h2),h.cls.g⟩,fun t=>?_,h.size,h.defers,h.kept⟩;rcases hs t with h1 | h1
 ·rw [h1];exact h.rel t
 ·rw [h1];trivial
theorem Zjm {m:List (Nat × Bk)} {base:Nat} {ρ:Operand->A} {o:Oper} {t:TypeId} {v:Value} {i:TypeInfo} (he:e.Ok) (ho:o.op=.alloc t) (hi:e.P.info? t=some i) (hv:i.zero=some v):ZaM e U base S0 m o ρ .undef:=by
 intro w S L ρv hC hr;have hb:Below w.heap.size w (w.alloc (.cells v.cells t)):=ZdD w _;unfold gives;have hrun:(execOp ρv o).run e.P w=.ok (.value (.pointer (some ⟨w.heap.size,0,none⟩))) (w.alloc (.cells v.cells t)):=by
  simp [execOp,ho,Instr.alloc,zeroValue,typeInfo,hi,hv,newVar,newRow,Result.andThen]
 rw [hrun];have hk:Kept e.D e.E w.heap.size w (w.alloc (.cells v.cells t)):=Kept.of_below hb (fun _=>Tai _);exact ⟨S,⟨fun _ h=>h,fun _ h=>.inl h⟩,hC.later hk (he.keep _ _ hb.size (fun b hE=>hb.block b (Tbc (hC.ein b hE) hC.bsz)) hC.g) (fun _ h=>h) (fun _ h=>.inl h),hk,trivial⟩
def Zfq (e:Env) (base p d:Nat) (m:List (Nat × Bk)) (L:Lay) (t:TypeId) (v:Value) (listed:Array Bool) (a:Act) (w:World) (S:Nat->Prop):Prop :=
 listed.getD p false=true->∃ b,a.tmps.getD d undef=.pointer (some ⟨b,0,none⟩)∧base<=b∧b < w.heap.size∧¬ S b∧(∀ k bk,gm m k=some bk->¬ Zau L k bk b)∧w.heap[b]?=some (.cells v.cells t)
theorem Cls.blk_lt {m:List (Nat × Bk)} {base:Nat} {w:World} {S:Nat->Prop} {L:Lay} (h:Cls e U base S0 m w S L) {k:Nat} {bk:Bk} {g:Nat} (hk:gm m k=some bk) (hg:Zau L k bk g):g < w.heap.size:=by
 have ho:=h.own k bk hk;exact (Own1.lt ho hg).1
theorem ZfN (he:e.Ok) {ops:Array Oper} {p:Nat} (hAl:Zeh ops p=true) (hB:regB ops (p+1)=true) {K:St->Prop} {Q:Exit->Act->World->Prop} (hQ:∀ a w σ',K σ'->SimE e U w0 S0 nt σ' a w->Q .normal a w) {σ:St} {a:Act} {w:World}
  (hd:∀ o∈ops.toList,∀ d,o.dst=some d->d < nt) (h:SimE e U w0 S0 nt σ a w) (hp:Runs e (ops.toList.map (·.dst)) (p+1) ops.toList σ K):wpAny e.P .any ops Q ops.size (Array.replicate ops.size false) a w:=by
 simp only [regB,Tar,Bool.or_eq_true,decide_eq_true_eq] at hB;obtain ⟨⟨⟨hH,hn⟩,hs⟩,hsq⟩:=hB;unfold Zeh at hAl;split at hAl;rotate_left
 ·cases hAl
 rename_i o0 hop;unfold isAl at hAl;split at hAl;rotate_left
 ·cases hAl
 rename_i d t ty pos af;obtain ⟨S,L,h1⟩:=h;have hsplit:ops.toList=ops.toList.take p++ops.toList.drop p:=(Tbl p _).symm;have hlen:(ops.toList.take p).length=p:=by simp;omega
 have hp':Runs e (ops.toList.map (·.dst)) ((ops.toList.take p).length+1) (ops.toList.take p++ops.toList.drop p) σ K:=by rw [<- hsplit,hlen];exact hp
 obtain ⟨αs0,hal0,hch0,hrest0⟩:=ZcS (U:=U) he w0.heap.size S0 ops.toList (ops.toList.drop p) 1 (ops.toList.take p) σ (fun h=>absurd h (by decide)) hp';rw [hlen] at hal0;have hpl:ops.toList[p]?=some ⟨some d,.alloc t,ty,pos,af,none⟩:=by simpa using hop
 have hdrop:ops.toList.drop p=⟨some d,.alloc t,ty,pos,af,none⟩::ops.toList.drop (p+1):=by
  rw [List.drop_eq_getElem_cons (Tad.1 hpl).1,(Tad.1 hpl).2]
 have htake:ops.toList.take (p+1)=ops.toList.take p++[⟨some d,.alloc t,ty,pos,af,none⟩]:=Zcm hpl;rw [hdrop] at hrest0;simp only [Runs,isAl,and_self,if_true] at hrest0;obtain ⟨d0,t0,cs,hd0,ht0,hz,hrest⟩:=hrest0;injection hd0 with hd0
 subst hd0;injection ht0 with ht0
 subst ht0;unfold ZaP at hz;simp only [Tav,Option.bind_eq_some_iff] at hz;obtain ⟨v,⟨i,hi,hv⟩,hcs⟩:=hz;have hG:=fun (ρ:Operand->A)=>Zjm (U:=U) (S0:=S0) (m:=σ.m) (base:=w0.heap.size) (ρ:=ρ) (o:=⟨some d,.alloc t,ty,pos,af,none⟩) he rfl hi hv;have hal:(αs0++[A.undef]).length=p+1:=by simp [hal0]
 have chain_snoc:∀ (os:List Oper) (s:List (Nat × A)) (αs:List A),Zb6 e U w0.heap.size S0 σ.m ops.toList os s αs->Zb6 e U w0.heap.size S0 σ.m ops.toList (os++[⟨some d,.alloc t,ty,pos,af,none⟩]) s (αs++[A.undef]):=by
  intro os
  induction os with
  | nil =>
   intro s αs hc
   cases αs with
   | nil=>exact ⟨hG _,trivial⟩
   | cons x xs=>simp [Zb6] at hc
  | cons o os ih =>
   intro s αs hc
   cases αs with
   | nil=>simp [Zb6] at hc
   | cons x xs=>exact ⟨hc.1,ih _ _ hc.2⟩
 have after_snoc:∀ (os:List Oper) (s:List (Nat × A)) (αs:List A),αs.length=os.length->after s (os++[⟨some d,.alloc t,ty,pos,af,none⟩]) (αs++[A.undef])=(d,A.undef)::after s os αs:=by
  intro os
  induction os with
  | nil =>
   intro s αs hl
   cases αs with
   | nil=>rfl
   | cons x xs=>simp at hl
  | cons o os ih =>
   intro s αs hl
   cases αs with
   | nil=>simp at hl
   | cons x xs=>exact ih _ _ (by simpa using hl)
 have hch:Zb6 e U w0.heap.size S0 σ.m ops.toList (ops.toList.take (p+1)) σ.s (αs0++[A.undef]):=by rw [htake];exact chain_snoc _ _ _ hch0
 have haf:after σ.s (ops.toList.take (p+1)) (αs0++[A.undef])=(d,A.undef)::after σ.s (ops.toList.take p) αs0:=by rw [htake];exact after_snoc _ _ _ (by rw [hal0,hlen])
 have inv0:InvA e U w0 S0 nt σ.m ops (p+1) σ.s (αs0++[A.undef]) L (Array.replicate ops.size false) a w S :=
  ⟨⟨by simp,fun j oj _ hl=>(by rw [getD_replicate_false] at hl;cases hl),fun t _ ht=>getD_in (by simpa using ht) (getD_replicate_false _ _)⟩,h1.size,h1.defers,h1.cls,h1.kept,fun t _=>h1.rel t,fun i o d α _ hl=>(by rw [getD_replicate_false] at hl;cases hl)⟩
 have hJ0:Zfq e w0.heap.size p d σ.m L t v (Array.replicate ops.size false) a w S:=fun hl=>by rw [getD_replicate_false] at hl;cases hl
 have hA0:∀ {i':Nat} {o':Oper} {d':Nat},HeadAt ops (p+1) i' o' d'->i'≠p->d'≠d:=fun hA hne e'=>by
  have:=(hA.dep p _ om hop).1 (Ne.symm hne);exact this (by rw [e'])
 have hgo:Zh6 e U w0 S0 nt σ.m ops (p+1) σ.s (αs0++[A.undef]) L (Zfq e w0.heap.size p d σ.m L t v) Q:=by
  intro listed a w S i' o' d' α hI hJ hA hin hr hdn hα hopd hG';by_cases hip:i'=p
  ·subst hip;have ho':o'=⟨some d,.alloc t,ty,pos,af,none⟩:=by have:=hA.op;rw [hop] at this;injection this with this;exact this.symm
   subst ho';have hdd:d'=d:=by have:=hA.dst;injection this with this;exact this.symm
   subst hdd;have hau:α=A.undef:=by rw [Tbp om,hal0] at hα;simpa using hα.symm
   subst hau;unfold Oper.wp;have hrun:(execOp a.eval ⟨some d',.alloc t,ty,pos,af,none⟩).run e.P w=.ok (.value (.pointer (some ⟨w.heap.size,0,none⟩))) (w.alloc (.cells v.cells t)):=by
    simp [execOp,Instr.alloc,zeroValue,typeInfo,hi,hv,newVar,newRow,Result.andThen]
   have hb:Below w.heap.size w (w.alloc (.cells v.cells t)):=ZdD w _;have hk:Kept e.D e.E w.heap.size w (w.alloc (.cells v.cells t)):=Kept.of_below hb (fun _=>Tai _);have hC:=hI.cls;have hC':Cls e U w0.heap.size S0 σ.m (w.alloc (.cells v.cells t)) S L:=hC.later hk (he.keep _ _ hb.size (fun b hE=>hb.block b (Tbc (hC.ein b hE) hC.bsz)) hC.g) (fun _ h=>h) (fun _ h=>.inl h);rw [hrun,Oper.upon_value];refine ⟨S,hI.put hH hA hin hr hdn hα (fun _ h=>h) hC' hk trivial,fun _=>⟨w.heap.size,?_,hC.bsz,by simp,fun hs=>by have:=(hC.sin _ hs).1;omega,fun k bk hk hg=>by have:=hC.blk_lt hk hg;omega,heap_alloc_new w _⟩⟩
   rw [ZbK (by rw [hI.size];exact hdn)];simp
  ·refine ZcG (hG' w S L a.eval hI.cls hopd) fun v' w' ⟨S',hS,hC,hk,hv'⟩=>⟨S',hI.put hH hA hin hr hdn hα hS.1 hC hk hv',fun hl=>?_⟩;rw [getD_set_ne false hip] at hl;obtain ⟨b,q1,q2,q3,q4,q5,q6⟩:=hJ hl;refine ⟨b,?_,q2,Tbc q3 hk.size,fun hs=>?_,q5,?_⟩
   ·rw [hA.dst,ZbK (by rw [hI.size];exact hdn),if_neg (Ne.symm (hA0 hA hip))];exact q1
   ·rcases hS.2 b hs with hs | hs
    ·exact q4 hs
    ·omega
   ·rw [hk.block b q3 (fun hE=>by have:=hI.cls.ein b hE;omega)];exact q6
 have hskp:∀ (listed:Array Bool) (a:Act) (w:World) (S:Nat->Prop) (i':Nat) (o':Oper) (d':Nat),Zfq e w0.heap.size p d σ.m L t v listed a w S->InvA e U w0 S0 nt σ.m ops (p+1) σ.s (αs0++[A.undef]) L listed a w S->HeadAt ops (p+1) i' o' d'->i' < p+1->i'∈Region.ready .any ops listed->d' < nt->o'.guard≠none->Zfq e w0.heap.size p d σ.m L t v (listed.setIfInBounds i' true) (a.put o'.dst undef) w S:=by
  intro listed a w S i' o' d' hJ hI hA hin hr hdn hg hl;have hip:i'≠p:=fun e'=>by
   subst e';have:=hA.op;rw [hop] at this;injection this with this
   rw [<- this] at hg;exact hg rfl
  rw [getD_set_ne false hip] at hl;obtain ⟨b,q1,q2⟩:=hJ hl;refine ⟨b,?_,q2⟩;rw [hA.dst,ZbK (by rw [hI.size];exact hdn),if_neg (Ne.symm (hA0 hA hip))];exact q1
 have H:=Zc6 (e:=e) (L:=L) (Q:=Q) he hH hn (fun hlt=>by
   rcases hs with hs | hs
   ·omega
   ·exact hs) hsq (fun i o d hi ho hdd=>hd o (List.mem_iff_getElem?.2 ⟨i,by simpa using ho⟩) d hdd) hal hch hgo hskp (fun listed a' w' S' hI hJ hall=>?_) (p+1) _ a _ S inv0 hJ0 ?_
 ·rw [show p+1+(ops.size - (p+1))=ops.size by omega] at H;exact H
 ·have hsim:Sim e U w0 S0 nt ⟨after σ.s (ops.toList.take (p+1)) (αs0++[A.undef]),σ.m⟩ a' w' S' L:=by
   refine ⟨hI.cls,fun t=>?_,hI.size,hI.defers,hI.kept⟩;by_cases hex:∃ (j:Nat) (p':Oper),j < p+1∧ops[j]?=some p'∧p'.dst=some t
   ·obtain ⟨j,p0,hj,hp,hpt⟩:=hex;obtain ⟨p',d',hP⟩:=ZbV.get hH hj;have hpp:p'=p0:=by have:=hP.op;rw [hp] at this;injection this with this;exact this.symm
    subst hpp;have hdt:d'=t:=by have:=hP.dst;rw [hpt] at this;injection this with this;exact this.symm
    subst hdt;obtain ⟨α,hα⟩:∃ α,(αs0++[A.undef])[j]?=some α:=⟨(αs0++[A.undef])[j],Taa om⟩;show ARel w' S' L (gs (after σ.s (ops.toList.take (p+1)) (αs0++[A.undef])) d') _;rw [Zc5 (ops.toList.take (p+1)) (αs0++[A.undef]) σ.s j p' α (by rw [List.getElem?_take,if_pos hj];simpa using hp) hα hpt (fun k q hk hq=>by
     rw [List.getElem?_take] at hq;split at hq
     ·exact (hP.dep k q om (by simpa using hq)).1 hk
     ·cases hq)]
    exact hI.done j p' d' α hj (hall j hj) hp hpt hα
   ·have hno:∀ (j:Nat) (p':Oper),j < p+1->ops[j]?=some p'->p'.dst≠some t:=fun j p' hj hp hd=>hex ⟨j,p',hj,hp,hd⟩;show ARel w' S' L (gs (after σ.s (ops.toList.take (p+1)) (αs0++[A.undef])) t) _;rw [Zb7 _ _ _ (fun p' hp=>by
     obtain ⟨j,hj⟩:=List.mem_iff_getElem?.1 hp;rw [List.getElem?_take] at hj;split at hj
     ·exact hno j p' om (by simpa using hj)
     ·cases hj)]
    exact hI.out t hno
  rw [haf] at hsim;obtain ⟨b,q1,q2,q3,q4,q5,q6⟩:=hJ (hall p om);have hdn:d < nt:=hd _ (List.mem_iff_getElem?.2 ⟨p,hpl⟩) d rfl;have hrv:=ZbY (w:=w') (S:=S') v.cells.toList;rw [hcs] at hrv
  have hsimB:=hsim.bornE (bk:=.var none cs) (w':=w') (b':=b) (v':=undef) (u:=a'.tmps.getD d undef) (τ:=some b) (s1:=(d,A.undef)::after σ.s (ops.toList.take p) αs0) (m1:=σ.m) (α:=.ref d 0) (S':=S') hdn (fun _ h=>h) (fun _ h=>.inl h) (fun t=>.inl rfl) (fun k x h=>h)
   (fun g hg=>by injection hg with hg;subst hg;exact ⟨q4,fun hE=>by have:=hI.cls.ein _ hE;omega,.inl q2⟩) (fun k x g hkd hx hg hb=>by injection hg with hg;subst hg;exact q5 k x hx hb)
   (Kept.refl _ _ _ _) hI.cls.g (by
    simp only [Own1,if_true];refine ⟨by simp,q3,q4,⟨v.cells,t,q6,by have:=hrv.len;simpa using this⟩,?_⟩;exact Zaf.of_vals cs v.cells.toList 0 hrv (fun j u hj=>by
     rw [Nat.zero_add];have hj':v.cells[j]?=some u:=by simpa using hj
     simp [World.cell?,q6,hj']))
   (fun g hg=>by simp only [Zau,if_true] at hg;exact .inl (by rw [hg])) (by simp [ARel,q1])
  have hsimD:SimE e U w0 S0 nt ⟨(d,.ref d 0)::Zan d ((d,A.undef)::after σ.s (ops.toList.take p) αs0),(d,.var none cs)::remM d σ.m⟩ a' w':=by
   obtain ⟨S2,L2,k1,k2,k3,k4,k5⟩:=hsimB;refine ⟨S2,L2,k1,fun t=>?_,hI.size,hI.defers,k5⟩;have:=k2 t;rw [ZbK (by rw [hI.size];exact hdn)] at this;by_cases ht:t=d
   ·rw [if_pos ht] at this;rw [ht];rw [ht] at this;exact this
   ·rw [if_neg ht] at this;exact this
  have hsimC:SimE e U w0 S0 nt ⟨(d,.ref d 0)::Zan d (after σ.s (ops.toList.take p) αs0),(d,.var none cs)::remM d σ.m⟩ a' w':=SimE.weak hsimD (fun t=>.inl (by
   by_cases ht:t=d
   ·simp [gs,ht]
   ·simp [gs,ht,Zan])) (fun t x hx=>hx)
  have:=hrest he U w0 S0 nt a' w' ops.toList Q rfl (fun o ho=>hd o (List.mem_of_mem_drop ho)) hQ hsimC;simpa using this
 ·rw [List.countP_eq_length.2]
  ·simp
  ·intro i hi;have hi':=List.mem_range.1 hi;have hsz:i < (Array.replicate ops.size false).size:=by simp;omega
   rw [Zbc hsz,getD_replicate_false];rfl
theorem ZnC (he:e.Ok) {id:Nat} {ops:Array Oper} {p:Nat} (hAl:Zeh ops p=true) (hB:regB ops (p+1)=true) {K:St->Prop} {Q:Exit->Act->World->Prop} (hQ:∀ a w σ',K σ'->SimE e U w0 S0 nt σ' a w->Q .normal a w) {σ:St} {a:Act} {w:World}
  (hd:∀ o∈ops.toList,∀ d,o.dst=some d->d < nt) (h:SimE e U w0 S0 nt σ a w) (hp:Runs e (ops.toList.map (·.dst)) (p+1) ops.toList σ K):(Code.region id ops true).wp e.P Q a w:=wp_region_any he.mixed (ZfN he hAl hB hQ hd (h.drew he) hp)
theorem ZmW {P:Program} {Q:Exit->Act->World->Prop} {c:Code} {ι:Type} (I:ι->Act->World->Prop) (μ:ι->Nat) (i0:ι) {a:Act} {w:World} (h₀:I i0 a w)
  (round:∀ i a w,I i a w->c.wp P (Exit.then (fun a' w'=>∃ j,I j a' w'∧μ j < μ i) Q) a w):(Code.loop c).wp P Q a w:=by
 intro b k cs
 have key:∀ n i a w,μ i=n->I i a w ->
   ∃ e a' w',Q e a' w'∧Arrives P (lone (b.at a (.code c::.inLoop c::k)) cs w) b k cs e a' w':=by
  intro n
  induction n using Nat.strongRecOn with
  | _ n ih =>
   intro i a w hn hI;obtain ⟨e,a₁,w₁,hq,harr⟩:=round i a w hI b (.inLoop c::k) cs
   cases e with
   | normal =>
    obtain ⟨j,hI₁,hlt⟩:=hq;obtain ⟨e₂,a₂,w₂,hq₂,harr₂⟩:=ih (μ j) (hn ▸ hlt) j a₁ w₁ rfl hI₁;exact ⟨e₂,a₂,w₂,hq₂,.of_steps (Steps.trans harr (.one step_inLoop)) harr₂⟩
   | exit id=>exact ⟨_,a₁,w₁,hq,.pass (x:=.inLoop c) rfl (fun _ _=>.inl (by simp)) harr⟩
   | goto l=>exact ⟨_,a₁,w₁,hq,.pass (x:=.inLoop c) rfl (fun _ _=>.inl (by simp)) harr⟩
   | ret=>exact ⟨_,a₁,w₁,hq,.pass (x:=.inLoop c) rfl (fun _ _=>.inl (by simp)) harr⟩
   | panic ch=>exact ⟨_,a₁,w₁,hq,.pass (x:=.inLoop c) rfl (fun _ _=>.inl (by simp)) harr⟩
   | outgrown=>exact ⟨_,a₁,w₁,hq,.pass (x:=.inLoop c) rfl (fun _ _=>.inl (by simp)) harr⟩
 obtain ⟨e,a',w',hq,harr⟩:=key _ i0 a w rfl h₀;exact ⟨e,a',w',hq,.of_steps (.one step_loop) harr⟩
def Zb4 (nt:Nat):Code->Bool
 | .region _ ops _=>ops.toList.all (fun o=>o.dst.all (fun d=>decide (d < nt)))
 | .seq a b=>Zb4 nt a && Zb4 nt b
 | .cond _ a b=>Zb4 nt a && Zb4 nt b
 | .block _ c=>Zb4 nt c
 | .loop c=>Zb4 nt c
 | _=>true
def Then (e:Env) (U:Nat->Prop) (w0:World) (S0:Nat->Prop) (nt:Nat) (K:St->Prop) (a:Act) (w:World):Prop:=∃ σ,K σ∧SimE e U w0 S0 nt σ a w
def LQ (e:Env) (U:Nat->Prop) (w0:World) (S0:Nat->Prop) (nt:Nat) (Q:PX->St->Prop):Exit->Act->World->Prop
 | .normal,a,w=>Then e U w0 S0 nt (Q .normal) a w
 | .exit id,a,w=>Then e U w0 S0 nt (Q (.exit id)) a w
 | .ret,a,w=>Then e U w0 S0 nt (Q .ret) a w
 | _,_,_=>False
def pwp (e:Env) (mask:Nat) (c:Code) (σ:St) (Q:PX->St->Prop):Prop:=e.Ok->∀ (U:Nat->Prop) (w0:World) (S0:Nat->Prop) (nt:Nat) (a:Act) (w:World),Zb4 nt c=true->SimE e U w0 S0 nt σ a w->c.wp e.P (LQ e U w0 S0 nt Q) a w
def Zct (mask:Nat) (Q:PX->St->Prop) (σ':St):Prop:=Q .normal ⟨Zda mask σ'.s,σ'.m⟩
end
section
variable {e:Env} {mask:Nat} {σ:St} {Q:PX->St->Prop}
theorem LQ.mono {U:Nat->Prop} {w0:World} {S0:Nat->Prop} {nt:Nat} {Q Q':PX->St->Prop} (hQ:∀ p σ,Q p σ->Q' p σ) {ex:Exit} {a:Act} {w:World} (h:LQ e U w0 S0 nt Q ex a w):LQ e U w0 S0 nt Q' ex a w:=by
 cases ex with
 | normal=>exact h.elim fun σ h=>⟨σ,hQ _ _ h.1,h.2⟩
 | exit id=>exact h.elim fun σ h=>⟨σ,hQ _ _ h.1,h.2⟩
 | ret=>exact h.elim fun σ h=>⟨σ,hQ _ _ h.1,h.2⟩
 | goto l=>exact h
 | panic ch=>exact h
 | outgrown=>exact h
theorem ZwR {Q Q':PX->St->Prop} (hQ:∀ p σ,Q p σ->Q' p σ) (c:Code) (σ:St) (h:pwp e mask c σ Q):pwp e mask c σ Q':=fun he U w0 S0 nt a w hok hs=>wp_mono (h he U w0 S0 nt a w hok hs) fun ex a' w' hq=>hq.mono hQ
theorem Zb2 {P:St->Prop} {c:Code} (hT:Turn e σ P) (h:∀ σ',P σ'->pwp e mask c σ' Q):pwp e mask c σ Q:=fun he U w0 S0 nt a w hok hs=>by
 obtain ⟨σ',h1,h2⟩:=hT he U w0 S0 nt a w hs;exact h σ' h1 he U w0 S0 nt a w hok h2
theorem ZnD (h:Q .normal σ):pwp e mask .skip σ Q:=fun he U w0 S0 nt a w hok hs=>wp_skip ⟨σ,h,hs⟩
theorem ZnE {id:Nat} (h:Q (.exit id) σ):pwp e mask (.exit id) σ Q:=fun he U w0 S0 nt a w hok hs=>wp_exit ⟨σ,h,hs⟩
theorem Zep (h:Q .ret σ):pwp e mask .ret σ Q:=fun he U w0 S0 nt a w hok hs=>wp_ret ⟨σ,h,hs⟩
theorem Zks {id:Nat} {ops:Array Oper} {draw:Bool} (n:Nat) (hn:(if draw then regX ops n else decide (n=0))=true) (hp:Runs e (ops.toList.map (·.dst)) n ops.toList σ (Zct mask Q)):pwp e mask (.region id ops draw) σ Q:=fun he U w0 S0 nt a w hok hs=>by
 simp only [Zb4] at hok;have hd:∀ o∈ops.toList,∀ d,o.dst=some d->d < nt:=fun o ho d hd=>by
  have:=List.all_eq_true.1 hok o ho;rw [hd] at this;simpa using this
 have hQ:∀ a w σ',Zct mask Q σ'->SimE e U w0 S0 nt σ' a w->LQ e U w0 S0 nt Q .normal a w:=fun a w σ' h1 h2 =>
  ⟨_,h1,h2.weak (fun t=>Zhc mask t σ'.s) (fun _ _ h=>h)⟩
 cases draw with
 | false =>
  have hn:n=0:=by simpa using hn
  subst hn;refine wp_region_list ?_;have:=ZgT he ops.toList hQ ops.toList _ a w hd hs hp;simpa using this
 | true =>
  have hn:regB ops n=true:=by simpa [regX] using hn
  cases n with
  | zero=>exact Zjl he hn (by simp) hQ hd hs hp
  | succ p =>
   by_cases hA:Zeh ops p=true
   ·exact ZnC he hA hn hQ hd hs hp
   ·refine Zjl he hn (fun o ho=>?_) hQ hd hs hp;have hle:p+1<=ops.size:=by
     simp only [regB,Tar,decide_eq_true_eq] at hn;exact hn.1.1.2
    have hlt:p < ops.size:=om;have e:(ops.toList.take (p+1)).getLast?=ops[p]?:=by
     rw [List.getLast?_eq_getElem?];simp only [Taw,Array.length_toList,Nat.min_eq_left hle,Nat.add_sub_cancel];rw [List.getElem?_take,if_pos om];simp
    rw [e] at ho;unfold Zeh at hA;rw [ho] at hA;simpa using hA
theorem ZfO {a b:Code} (h:pwp e mask a σ (fun x σ'=>match x with
  | .normal=>∃ σ1,Wk σ' σ1∧pwp e mask b σ1 Q
  | x=>Q x σ')):pwp e mask (.seq a b) σ Q:=fun he U w0 S0 nt ac w hok hs=>by
 simp only [Zb4,Tar] at hok;refine wp_seq (wp_mono (h he U w0 S0 nt ac w hok.1 hs) fun ex a' w' hq=>?_)
 cases ex with
 | normal=>obtain ⟨σ',⟨σ1,hw,h1⟩,h2⟩:=hq;exact h1 he U w0 S0 nt a' w' hok.2 (h2.weak hw.1 hw.2)
 | exit id=>exact hq
 | ret=>exact hq
 | goto l=>exact hq
 | panic ch=>exact hq
 | outgrown=>exact hq
theorem ZnF {c:Operand} {a b:Code} {t:Bool} (hc:evA σ.s c=.d (.one (.lit (.bool t)))) (h1:t=true->pwp e mask a σ Q) (h2:t=false->pwp e mask b σ Q):pwp e mask (.cond c a b) σ Q:=fun he U w0 S0 nt ac w hok hs=>by
 simp only [Zb4,Tar] at hok;obtain ⟨S,L,h'⟩:=id hs;have h3:=h'.eval c;rw [hc] at h3;refine wp_cond h3.bool ?_
 cases t
 ·simp only [Tam,if_false];exact h2 rfl he U w0 S0 nt ac w hok.2 hs
 ·simp only [if_true];exact h1 rfl he U w0 S0 nt ac w hok.1 hs
theorem Zl6 {id:Nat} {c:Code} (h:pwp e mask c σ (fun x σ'=>match x with
  | .exit j=>if j=id then Q .normal σ' else Q (.exit j) σ'
  | x=>Q x σ')):pwp e mask (.block id c) σ Q:=fun he U w0 S0 nt ac w hok hs=>by
 simp only [Zb4] at hok;refine wp_block (wp_mono (h he U w0 S0 nt ac w hok hs) fun ex a' w' hq=>?_)
 cases ex with
 | normal=>exact hq
 | exit j =>
  obtain ⟨σ',h1,h2⟩:=hq;simp only [Exit.inBlock];simp only at h1;split
  ·rename_i hj;rw [if_pos hj] at h1;exact ⟨σ',h1,h2⟩
  ·rename_i hj;rw [if_neg hj] at h1;exact ⟨σ',h1,h2⟩
 | ret=>exact hq
 | goto l=>exact hq
 | panic ch=>exact hq
 | outgrown=>exact hq
theorem ZwS {c:Code} {ι:Type} (st:ι->St) (ok:ι->Prop) (μ:ι->Nat) (x0:ι) (h0:ok x0) (hs0:Zcr σ.s (st x0).s) (hm0:Zcs σ.m (st x0).m)
  (hr:∀ x,ok x->pwp e mask c (st x) (fun p σ''=>match p with
   | .normal=>∃ y,ok y∧Zcr σ''.s (st y).s∧Zcs σ''.m (st y).m∧μ y < μ x
   | p=>Q p σ'')):pwp e mask (.loop c) σ Q:=fun he U w0 S0 nt ac w hok hs=>by
 simp only [Zb4] at hok;refine ZmW (ι:=ι) (fun x a w=>ok x∧SimE e U w0 S0 nt (st x) a w) μ x0 ⟨h0,hs.weak (fun t=>Zhd hs0) (fun t cs=>Zhe hm0)⟩ fun x1 a1 w1 ⟨h1,h2⟩=>?_;refine wp_mono (hr x1 h1 he U w0 S0 nt a1 w1 hok h2) fun ex a' w' hq=>?_
 cases ex with
 | normal =>
  obtain ⟨σ',⟨y,h5,h3,h4,h6⟩,h7⟩:=hq;exact ⟨y,⟨h5,h7.weak (fun t=>Zhd h3) (fun t cs=>Zhe h4)⟩,h6⟩
 | exit id=>exact hq
 | ret=>exact hq
 | goto l=>exact hq
 | panic ch=>exact hq
 | outgrown=>exact hq
end
def ZcT:Nat->List D->List (Nat × A)
 | _,[]=>[]
 | k,x::xs=>(k,.d x)::ZcT (k+1) xs
theorem ZnG:∀ (xs:List D) (k t:Nat),gs (ZcT k xs) t=if k<=t then match xs[t - k]? with
   | some x=>.d x
   | none=>.undef
  else .undef
 | [],k,t=>by simp [ZcT,gs]
 | x::xs,k,t=>by
  simp only [ZcT,gs];by_cases h1:t=k
  ·subst h1;simp
  ·rw [ZnG xs (k+1) t];simp only [h1,if_false];by_cases h2:k+1<=t
   ·rw [if_pos h2,if_pos om,show t - k=(t - (k+1))+1 by omega];simp
   ·rw [if_neg h2];by_cases h3:k<=t
    ·omega
    ·rw [if_neg h3]
inductive RS where
 | slot (t:Nat)
 | cell (t ty:Nat)
def Zbd:List ResultVar->List RS
 | []=>[]
 | .tmp t::r=>.slot t::Zbd r
 | .cell a t::r=>.cell a t::Zbd r
def resA (P:Program) (σ:St):RS->A
 | .slot t=>gs σ.s t
 | .cell t ty=>(Zec (ZaV P ty) (ptrA σ.m (gs σ.s t))).getD .undef
def Zcb (P:Program) (σ:St):List RS->List D->Prop
 | [],[]=>True
 | t::ts,x::xs=>resA P σ t=.d x∧Zcb P σ ts xs
 | _,_=>False
def retQ (P:Program) (slots:List RS) (r:List D):PX->St->Prop
 | .exit _,_=>False
 | _,σ=>∃ ks,Zcb P (frzs ks σ) slots r
section
variable {e:Env} {U:Nat->Prop} {w0:World} {S0:Nat->Prop} {nt:Nat} {σ:St} {a:Act} {w:World} {S:Nat->Prop} {L:Lay}
theorem ZwT (h:Sim e U w0 S0 nt σ a w S L) {x:ResultVar} {rs:List RS} {t:RS} (hrs:Zbd [x]=[t]) {y:D} (hy:resA e.P σ t=.d y):∃ v,(match x with
   | .tmp t=>(pure (a.tmps.getD t undef):Sem Value)
   | .cell b t=>do loadVar t (<- asAddr (a.tmps.getD b undef))).run e.P w=.ok v w∧DRel w S y v:=by
 cases x with
 | tmp k =>
  simp only [Zbd,List.cons.injEq,and_true] at hrs;subst hrs;have:=h.rel k;simp only [resA] at hy;rw [hy] at this;exact ⟨_,rfl,this⟩
 | cell b ty =>
  simp only [Zbd,List.cons.injEq,and_true] at hrs;subst hrs;simp only [resA] at hy
  cases hl:Zec (ZaV e.P ty) (ptrA σ.m (gs σ.s b)) with
  | none=>rw [hl] at hy;simp at hy
  | some α =>
   rw [hl] at hy;simp only [Option.getD_some] at hy;subst hy;unfold Zec at hl;split at hl
   ·rename_i k cs hk hp;obtain ⟨u,h1,h2⟩:=ZlY h.cls hp (h.rel b) hk hl;refine ⟨u,?_,h2⟩;have hptr:∃ p,a.tmps.getD b undef=.pointer (some p):=by
     have hr:=h.rel b;unfold ptrA at hp;split at hp
     ·rename_i hx;rw [hx] at hr;simp only [ARel,DRel,Rep] at hr;obtain ⟨b',off,hv,_⟩:=hr;exact ⟨_,hv⟩
     ·rename_i hx;rw [hx] at hr;exact ⟨_,hr⟩
     ·rename_i hx;rw [hx] at hr;obtain ⟨g,_,hv⟩:=hr;exact ⟨_,hv⟩
     ·cases hp
    obtain ⟨p,hp'⟩:=hptr;rw [hp'] at h1;show Sem.run e.P (do loadVar ty (<- asAddr (a.tmps.getD b undef))) w=_;rw [hp'];simpa [Instr.loadAt,Instr.sureAddr,asAddr,Result.andThen] using h1
   ·cases hl
theorem Zh7 (h:Sim e U w0 S0 nt σ a w S L):∀ {l:List ResultVar} {r:List D},Zcb e.P σ (Zbd l) r->∃ vs:List Value,(l.mapM (m:=Sem) fun (x:ResultVar)=>match x with
   | .tmp t=>(pure (a.tmps.getD t undef):Sem Value)
   | .cell b t=>do loadVar t (<- asAddr (a.tmps.getD b undef))).run e.P w=.ok vs w∧Zar w S r vs
 | [],r,hr=>by
  cases r with
  | nil=>exact ⟨[],by simp,trivial⟩
  | cons x xs=>simp [Zbd,Zcb] at hr
 | x::l,r,hr=>by
  have hx:Zbd (x::l)=(Zbd [x]).head (by cases x <;> simp [Zbd])::Zbd l:=by cases x <;> rfl
  rw [hx] at hr
  cases r with
  | nil=>simp [Zcb] at hr
  | cons y ys =>
   simp only [Zcb] at hr;obtain ⟨v,h1,h2⟩:=ZwT h (x:=x) (rs:=[]) (by cases x <;> rfl) hr.1;obtain ⟨vs,h3,h4⟩:=Zh7 h hr.2;refine ⟨v::vs,?_,h2,h4⟩;simp only [List.mapM_cons,Sem.run_bind,Sem.run_pure,Result.andThen_ok];rw [h1];simp only [Result.andThen_ok];rw [h3];simp
end
theorem ZgB {e:Env} {U:Nat->Prop} {w0:World} {S0:Nat->Prop} {nt:Nat} {σ:St} {a:Act} {w:World} {S:Nat->Prop} {L:Lay} {fn:Func} {r:List D} (h:Sim e U w0 S0 nt σ a w S L) (hr:Zcb e.P σ (Zbd fn.results.toList) r) :
  ∃ v,(results fn a.tmps).run e.P w=.ok v w∧ARel w S ⟨fun _=>0,fun _=>Go.undef⟩ (retA r) v:=by
 obtain ⟨vs,h1,h2⟩:=Zh7 h hr
 have hrun:(fn.results.mapM (m:=Sem) fun (x:ResultVar)=>match x with
   | .tmp t=>(pure (a.tmps.getD t undef):Sem Value)
   | .cell b t=>do loadVar t (<- asAddr (a.tmps.getD b undef))).run e.P w=.ok vs.toArray w:=by
  rw [Array.mapM_eq_mapM_toList];simp only [Sem.run_map,h1,Result.andThen_ok]
 have hrun:(results fn a.tmps).run e.P w=.ok (if h:(vs.toArray).size=1 then (vs.toArray)[0] else .tuple vs.toArray) w:=by
  unfold results;rw [Sem.run_bind];exact congrArg (fun (z:Result (Array Value))=>z.andThen (fun a w''=>Sem.run e.P (pure (if h:a.size=1 then a[0] else Value.tuple a)) w'')) hrun
 match r,vs,h2,hrun with
 | [x],[v],hd,hrun=>exact ⟨v,by rw [hrun];simp,hd.1⟩
 | [],[],hd,hrun=>exact ⟨.tuple #[],by rw [hrun];simp,[],rfl,trivial⟩
 | x::y::r',v::v'::vs',hd,hrun=>exact ⟨.tuple (v::v'::vs').toArray,by rw [hrun];simp,_,rfl,hd⟩
 | [],_::_,hd,_=>simp [Zar] at hd
 | _::_,[],hd,_=>simp [Zar] at hd
 | [_],_::_::_,hd,_=>simp [Zar] at hd
 | _::_::_,[_],hd,_=>simp [Zar] at hd
theorem ZjU {w:World} {S:Nat->Prop} {L:Lay} {args:List D} {vs:List Value} {n:Nat} (hvs:Zar w S args vs) (t:Nat):ARel w S L (gs (ZcT 0 args) t) ((vs.toArray++Array.replicate n undef).getD t undef):=by
 rw [ZnG];simp only [Taj,if_true,Nat.sub_zero]
 cases hx:args[t]? with
 | none=>trivial
 | some x =>
  obtain ⟨v,h1,h2⟩:=hvs.get hx;have hlt:t < vs.length:=(Tad.1 h1).1;have e1:(vs.toArray++Array.replicate n undef).getD t undef=v:=by
   rw [Array.getD_eq_getD_getElem?,Array.getElem?_append_left (by simpa using hlt)];simp [h1]
  simp only [e1];exact h2
theorem ZrF {e:Env} (he:e.Ok) {f:FuncId} {fn:Func} {c:Code} {args r:List D} {ts:List RS} (mask:Nat) (hf:e.P.funcs[f]?=some fn) (hb:fn.body=some c) (hnm:(fn.name == "runtime.NumGoroutine")=false)
  (hok:Zb4 fn.ntmps c=true) (hal:Nat.ble args.length fn.ntmps=true) (hres:Zbd fn.results.toList=ts) (h:pwp e mask c ⟨ZcT 0 args,[]⟩ (retQ e.P ts r)):Con e f args r:=by
 refine ⟨by unfold Zcf;rw [hf];simp [hnm,hb],fun w S vs hS hE hG hvs=>?_⟩;have hvl:=hvs.len;have hal:=Nat.le_of_ble_eq_true hal;subst hres;refine calls_of_wp hf hb ?_;have hsim:SimE e (fun _=>False) w S fn.ntmps ⟨ZcT 0 args,[]⟩ { tmps:=vs.toArray++Array.replicate (fn.ntmps - vs.toArray.size) undef,defers:=[] } w:=by
  exact ⟨S,⟨fun _=>0,fun _=>Go.undef⟩,⟨hS,fun b hb=>.inl hb,hE,fun _ h=>h.elim,Tai _,fun k x g hk=>by simp [gm] at hk,fun k x hk=>by simp [gm] at hk,fun k k' x x' g hk=>by simp [gm] at hk,hG⟩,fun t=>ZjU hvs t,by simp;omega,rfl,Kept.refl _ _ _ _⟩
 refine wp_mono (h he _ _ _ _ _ w hok hsim) fun ex a' w' hq=>?_;have fin:∀ σ',(∃ ks,Zcb e.P (frzs ks σ') (Zbd fn.results.toList) r)->SimE e (fun _=>False) w S fn.ntmps σ' a' w'->a'.defers=[]∧∃ v,(results fn a'.tmps).run e.P w'=.ok v w'∧∃ u,Ending.returned v=.returned u∧Kept e.D e.E w.heap.size w w'∧e.G w'∧ARel w' (fun b=>S b∨(w.heap.size<=b∧b < w'.heap.size)) ⟨fun _=>0,fun _=>Go.undef⟩ (retA r) u:=by
  intro σ' ⟨ks,h1⟩ h2;obtain ⟨S',L',h2⟩:=SimE.frzs he ks σ' h2;obtain ⟨v,h3,h4⟩:=ZgB h2 h1;refine ⟨h2.defers,v,h3,v,rfl,⟨h2.kept.os,h2.kept.tape,h2.kept.output,h2.kept.drawn,h2.kept.size,fun b hb hE=>h2.kept.block b hb (fun h=>h.elim hE id)⟩,h2.cls.g,h4.keep (Tai _) (fun _ _ _=>rfl) (fun b hb=>?_)⟩;rcases h2.cls.sfr b hb with h | h | h
  ·exact .inl h
  ·exact .inr ⟨h,(h2.cls.sin b hb).1⟩
  ·exact h.elim
 cases ex with
 | normal=>obtain ⟨σ',h1,h2⟩:=hq;exact fin σ' h1 h2
 | ret=>obtain ⟨σ',h1,h2⟩:=hq;exact fin σ' h1 h2
 | exit id=>obtain ⟨σ',h1,h2⟩:=hq;exact h1.elim
 | goto l=>exact hq.elim
 | panic ch=>exact hq.elim
 | outgrown=>exact hq.elim
def Zne (P:Program) (slots:List RS) (R:List D->List Bk->Prop):PX->St->Prop
 | .exit _,_=>False
 | _,σ=>∃ r ks pm,getM σ.m ks=some pm∧ks.Nodup∧pm.all pinned=true∧R r pm∧Zcb P σ slots r
theorem Zpd {e:Env} (he:e.Ok) {f:FuncId} {fn:Func} {c:Code} {args:List D} {pm:List Bk} {R:List D->List Bk->Prop} {ts:List RS} (keys:List Nat) (mask:Nat) (hf:e.P.funcs[f]?=some fn) (hb:fn.body=some c) (hnm:(fn.name == "runtime.NumGoroutine")=false)
  (hok:Zb4 fn.ntmps c=true) (hal:Nat.ble args.length fn.ntmps=true) (hres:Zbd fn.results.toList=ts) (h:pwp e mask c ⟨ZcT 0 args,zipM keys pm⟩ (Zne e.P ts R)):ConP e f args pm R:=by
 refine ⟨by unfold Zcf;rw [hf];simp [hnm,hb],fun w S vs hS hE hG hpm hap hvs=>?_⟩;have hvl:=hvs.len;have hal:=Nat.le_of_ble_eq_true hal;subst hres;refine calls_of_wp hf hb ?_;have hsim:SimE e (Za9 pm) w S fn.ntmps ⟨ZcT 0 args,zipM keys pm⟩ { tmps:=vs.toArray++Array.replicate (fn.ntmps - vs.toArray.size) undef,defers:=[] } w:=by
  have at':∀ k x,gm (zipM keys pm) k=some x->x∈pm∧Own1 w S (layB (zipM keys pm) ⟨fun _=>0,fun _=>Go.undef⟩) k x∧∀ g,Zau (layB (zipM keys pm) ⟨fun _=>0,fun _=>Go.undef⟩) k x g ↔ pblk x g:=fun k x hx=>by
   have hm:=(Zdv hx).2;exact ⟨hm,Zb5 (hpm x hm).1 hx⟩
  refine ⟨S,layB (zipM keys pm) ⟨fun _=>0,fun _=>Go.undef⟩,⟨hS,fun b hb=>.inl hb,hE,fun b ⟨x,hx,hg⟩=>(hpm x hx).2 b hg,Tai _,fun k x g hx hg=>.inr ⟨x,(at' k x hx).1,((at' k x hx).2.2 g).1 hg⟩,fun k x hx=>(at' k x hx).2.1,fun k k' x x' g hx hx' hg hg'=>?_,hG⟩,fun t=>ZjU hvs t,by simp;omega,rfl,Kept.refl _ _ _ _⟩;exact Zgc hap hx hx' (((at' k x hx).2.2 g).1 hg) (((at' k' x' hx').2.2 g).1 hg')
 refine wp_mono (h he _ _ _ _ _ w hok hsim) fun ex a' w' hq=>?_
 have fin:∀ σ',(∃ r ks pm',getM σ'.m ks=some pm'∧ks.Nodup∧pm'.all pinned=true∧R r pm'∧Zcb e.P σ' (Zbd fn.results.toList) r)->SimE e (Za9 pm) w S fn.ntmps σ' a' w'->a'.defers=[]∧∃ v,(results fn a'.tmps).run e.P w'=.ok v w' ∧
   ∃ u r pm',Ending.returned v=.returned u∧R r pm'∧Kept e.D (fun b=>e.E b∨Za9 pm b) w.heap.size w w'∧e.G w' ∧
   (∀ x∈pm',Zdg w' (fun b=>(S b∨Za9 pm b∨(w.heap.size<=b∧b < w'.heap.size))∧¬ Za9 pm' b) x∧∀ g,pblk x g->Za9 pm g∨w.heap.size<=g)∧Zeb pm' ∧
   ARel w' (fun b=>(S b∨Za9 pm b∨(w.heap.size<=b∧b < w'.heap.size))∧¬ Za9 pm' b) ⟨fun _=>0,fun _=>Go.undef⟩ (retA r) u:=by
  intro σ' ⟨r,ks,pm',hg,hn,hp,hR,h1⟩ ⟨S',L',h2⟩;obtain ⟨v,h3,h4⟩:=ZgB h2 h1;have hp:∀ x∈pm',pinned x=true:=fun x hx=>List.all_eq_true.1 hp x hx;have hS':∀ b,S' b->(S b∨Za9 pm b∨(w.heap.size<=b∧b < w'.heap.size))∧¬ Za9 pm' b:=fun b hb=>by
   refine ⟨?_,fun ⟨x,hx,hxg⟩=>?_⟩
   ·rcases h2.cls.sfr b hb with q | q | q
    ·exact .inl q
    ·exact .inr (.inr ⟨q,(h2.cls.sin b hb).1⟩)
    ·exact .inr (.inl q)
   ·obtain ⟨k,hk,hkx⟩:=ZdJ hg x hx;exact ((h2.cls.own k x hkx).lt (((Zcy (h2.cls.own k x hkx) (hp x hx)).2 b).2 hxg)).2 hb
  refine ⟨h2.defers,v,h3,v,r,pm',rfl,hR,h2.kept,h2.cls.g,fun x hx=>?_,Zfp h2.cls.own h2.cls.inj hn hg hp,Zej (h4.keep (Tai _) (fun _ _ _=>rfl) hS')⟩;obtain ⟨k,hk,hkx⟩:=ZdJ hg x hx;have ho:=h2.cls.own k x hkx;have hpo:=Zcy ho (hp x hx);refine ⟨(Zcy (ho.keep (Tai _) (fun _ _ _=>rfl) hS' (fun g hg'=>⟨rfl,fun hs=>hs.2 ⟨x,hx,(hpo.2 g).1 hg'⟩⟩)) (hp x hx)).1,fun g hg'=>?_⟩;rcases h2.cls.mine k x g hkx ((hpo.2 g).2 hg') with q | q
  ·exact .inr q
  ·exact .inl q
 cases ex with
 | normal=>obtain ⟨σ',h1,h2⟩:=hq;exact fin σ' h1 h2
 | ret=>obtain ⟨σ',h1,h2⟩:=hq;exact fin σ' h1 h2
 | exit id=>obtain ⟨σ',h1,h2⟩:=hq;exact h1.elim
 | goto l=>exact hq.elim
 | panic ch=>exact hq.elim
 | outgrown=>exact hq.elim
def Znf (P:Program) (slots:List RS) (R:List D->Prop):PX->St->Prop
 | .exit _,_=>False
 | _,σ=>∃ ks r,R r∧Zcb P (frzs ks σ) slots r
theorem Zpe {e:Env} (he:e.Ok) {f:FuncId} {fn:Func} {c:Code} {args:List D} {R:List D->Prop} {ts:List RS} (mask:Nat) (hf:e.P.funcs[f]?=some fn) (hb:fn.body=some c) (hnm:(fn.name == "runtime.NumGoroutine")=false)
  (hok:Zb4 fn.ntmps c=true) (hal:Nat.ble args.length fn.ntmps=true) (hres:Zbd fn.results.toList=ts) (h:pwp e mask c ⟨ZcT 0 args,[]⟩ (Znf e.P ts R)):ConE e f args R:=by
 refine ⟨by unfold Zcf;rw [hf];simp [hnm,hb],fun w S vs hS hE hG hvs=>?_⟩;have hvl:=hvs.len;have hal:=Nat.le_of_ble_eq_true hal;subst hres;refine calls_of_wp hf hb ?_;have hsim:SimE e (fun _=>False) w S fn.ntmps ⟨ZcT 0 args,[]⟩ { tmps:=vs.toArray++Array.replicate (fn.ntmps - vs.toArray.size) undef,defers:=[] } w:=by
  exact ⟨S,⟨fun _=>0,fun _=>Go.undef⟩,⟨hS,fun b hb=>.inl hb,hE,fun _ h=>h.elim,Tai _,fun k x g hk=>by simp [gm] at hk,fun k x hk=>by simp [gm] at hk,fun k k' x x' g hk=>by simp [gm] at hk,hG⟩,fun t=>ZjU hvs t,by simp;omega,rfl,Kept.refl _ _ _ _⟩
 refine wp_mono (h he _ _ _ _ _ w hok hsim) fun ex a' w' hq=>?_;have fin:∀ σ',(∃ ks r,R r∧Zcb e.P (frzs ks σ') (Zbd fn.results.toList) r)->SimE e (fun _=>False) w S fn.ntmps σ' a' w'->a'.defers=[]∧∃ v,(results fn a'.tmps).run e.P w'=.ok v w'∧∃ u r,Ending.returned v=.returned u∧R r∧Kept e.D e.E w.heap.size w w'∧e.G w'∧ARel w' (fun b=>S b∨(w.heap.size<=b∧b < w'.heap.size)) ⟨fun _=>0,fun _=>Go.undef⟩ (retA r) u:=by
  intro σ' ⟨ks,r,hr,h1⟩ h2;obtain ⟨S',L',h2⟩:=SimE.frzs he ks σ' h2;obtain ⟨v,h3,h4⟩:=ZgB h2 h1;refine ⟨h2.defers,v,h3,v,r,rfl,hr,⟨h2.kept.os,h2.kept.tape,h2.kept.output,h2.kept.drawn,h2.kept.size,fun b hb hE=>h2.kept.block b hb (fun h=>h.elim hE id)⟩,h2.cls.g,h4.keep (Tai _) (fun _ _ _=>rfl) (fun b hb=>?_)⟩;rcases h2.cls.sfr b hb with h | h | h
  ·exact .inl h
  ·exact .inr ⟨h,(h2.cls.sin b hb).1⟩
  ·exact h.elim
 cases ex with
 | normal=>obtain ⟨σ',h1,h2⟩:=hq;exact fin σ' h1 h2
 | ret=>obtain ⟨σ',h1,h2⟩:=hq;exact fin σ' h1 h2
 | exit id=>obtain ⟨σ',h1,h2⟩:=hq;exact h1.elim
 | goto l=>exact hq.elim
 | panic ch=>exact hq.elim
 | outgrown=>exact hq.elim
inductive Res where
 | bad
 | done (σ:St)
 | call (q:Bool) (c:Operand) (args:List Operand) (d:Option Nat) (n:Nat) (os:List Oper) (σ:St)
 | map (q:Bool) (d:Option Nat) (n:Nat) (os:List Oper) (σ:St)
 | stop (n:Nat) (os:List Oper) (σ:St)
def ZcU (x:Option St) (f:St->Res):Res :=
 match x with
 | some σ=>f σ
 | none=>.bad
def ZiT (d:Option Nat) (next:St->Res) (σ:St):Res:=next ⟨setA σ.s d .no,σ.m⟩
def ZiU (yes no:St->Res) (σ:St):Bool->Res
 | true=>yes σ
 | false=>no σ
def Zey (want:Bool) (yes no:St->Res) (σ:St):Option A->Res
 | some (.d (.one (.lit (.bool b))))=>ZiU yes no σ (b==want)
 | some .no=>no σ
 | _=>.bad
def qB:Nat->Bool
 | 0=>false
 | _+1=>true
def Zba (P:Program) (d:Option Nat) (ty:TypeId) (q n:Nat) (os:List Oper) (next:St->Res):Op->St->Res
 | .alloc t,σ=>ZcU (if qB q=true then none else newE σ d (ZaP P t)) next
 | .call ⟨.value c,args,_⟩,σ=>.call (qB n) c args.toList d (n - 1) os σ
 | .makeMap _ none,σ=>.map (qB n) d (n - 1) os σ
 | op,σ=>ZcU (Zg7 P (qB n) σ d ty op) next
def ZaQ (P:Program) (ds:List (Option Nat)):Nat->List Oper->St->Res
 | _,[],σ=>.done σ
 | n,⟨d,op,ty,_,_,none⟩::os,σ=>Zba P d ty (n - 1) n os (ZaQ P ds (n - 1) os) op σ
 | n,⟨d,op,ty,_,_,some (j,want)⟩::os,σ=>Zey want (Zba P d ty n n os (ZaQ P ds (n - 1) os) op) (ZiT d (ZaQ P ds (n - 1) os)) σ ((ds[j]?.join).map (gs σ.s))
def runN (P:Program) (ds:List (Option Nat)):Nat->Nat->List Oper->St->Res
 | 0,n,os,σ=>.stop n os σ
 | _+1,_,[],σ=>.done σ
 | j+1,n,⟨d,op,ty,_,_,none⟩::os,σ=>Zba P d ty (n - 1) n os (runN P ds j (n - 1) os) op σ
 | j+1,n,⟨d,op,ty,_,_,some (i,want)⟩::os,σ=>Zey want (Zba P d ty n n os (runN P ds j (n - 1) os) op) (ZiT d (runN P ds j (n - 1) os)) σ ((ds[i]?.join).map (gs σ.s))
def ResQ (e:Env) (ds:List (Option Nat)) (K:St->Prop):Res->Prop
 | .bad=>False
 | .done σ=>K σ
 | .call q c args d n os σ=>∀ (o:Oper) (ts:Array TypeId),o.op=.call ⟨.value c,args.toArray,ts⟩->o.dst=d->Zkq e q o σ (fun σ'=>Runs e ds n os σ' K)
 | .map q d n os σ=>q=false∧∀ b:Nat,Runs e ds n os ⟨setA σ.s d (.d (.one (.lit (.map (some b))))),σ.m⟩ K
 | .stop n os σ=>Runs e ds n os σ K
theorem ZeZ {e:Env} {ds:List (Option Nat)} {os:List Oper} {K:St->Prop} {n q:Nat} {next:St->Res} (ih:∀ σ,ResQ e ds K (next σ)->Runs e ds (n - 1) os σ K) {o:Oper} {σ:St} (hq:q=n∨∀ t,o.op≠.alloc t) (h:ResQ e ds K (Zba e.P o.dst o.type q n os next o.op σ)) :
  Zkq e (qB n) o σ (fun σ'=>Runs e ds (n - 1) os σ' K):=by
 unfold Zba at h;split at h
 ·rename_i t ho;rcases hq with hq | hq
  ·subst hq;unfold ZcU at h;split at h
   ·rename_i σ' hσ
    cases hq:qB q with
    | true=>rw [hq] at hσ;simp at hσ
    | false =>
     rw [hq] at hσ;show Zbx e o _ (fun σ'=>Runs e ds (q - 1) os σ' K);refine ZsH (σ':=σ') ?_ (ih σ' h);simp only [ho,Zg7];exact hσ
   ·exact h.elim
  ·exact (hq t ho).elim
 ·rename_i c args ts ho;exact h o ts (by rw [ho]) rfl
 ·rename_i t ho;obtain ⟨h1,h2⟩:=h;rw [h1];exact Znz ho h2
 ·rename_i op σ1 hne0 hne hne2 ho;unfold ZcU at h;split at h
  ·rename_i σ' hσ
   cases hq:qB n with
   | true =>
    rw [hq] at hσ;show Zdu e o _ (fun σ'=>Runs e ds (n - 1) os σ' K);exact ZpR hσ (ih σ' h)
   | false =>
    rw [hq] at hσ;show Zbx e o _ (fun σ'=>Runs e ds (n - 1) os σ' K);exact ZsH hσ (ih σ' h)
  ·exact h.elim
theorem Zl7 {e:Env} {ds:List (Option Nat)} {K:St->Prop} {n:Nat} {os:List Oper} {o:Oper} {σ:St} {next:St->Res} (hg:o.guard=none) (ih:∀ σ,ResQ e ds K (next σ)->Runs e ds (n - 1) os σ K) (h:ResQ e ds K (Zba e.P o.dst o.type (n - 1) n os next o.op σ)):Runs e ds n (o::os) σ K:=by
 have alloc:∀ t,o.op=.alloc t->qB (n - 1)=false∧∃ d cs,o.dst=some d∧ZaP e.P t=some cs∧Runs e ds (n - 1) os ⟨(d,.ref d 0)::Zan d σ.s,(d,.var none cs)::remM d σ.m⟩ K:=fun t ho=>by
  rw [ho] at h;simp only [Zba] at h;unfold ZcU at h;split at h
  ·rename_i σ' hσ;split at hσ
   ·cases hσ
   ·rename_i hq;unfold newE at hσ;split at hσ
    ·rename_i d cs hd hz;injection hσ with hσ
     exact ⟨by simpa using hq,d,cs,hd,hz,by rw [hσ];exact ih _ h⟩
    ·cases hσ
  ·exact h.elim
 cases n with
 | zero =>
  simp only [Runs];have h1:=ZeZ (n:=0) (q:=0) ih (.inl rfl) h;have h1:Zbx e o σ (fun σ'=>Runs e ds 0 os σ' K):=h1;simp only [Runs] at h1;exact Zcz hg h1
 | succ n =>
  simp only [Runs,hg];by_cases hal:∃ t,o.op=.alloc t
  ·obtain ⟨t,ho⟩:=hal;obtain ⟨h1,d,cs,h2,h3,h4⟩:=alloc t ho;have hn:n=0:=by
    cases n with
    | zero=>rfl
    | succ k=>cases h1
   subst hn;have hia:isAl o=true:=by
    obtain ⟨od,oo,ot,op,oa,og⟩:=o;simp only at ho h2 hg;subst ho h2 hg;rfl
   simp only [hia,and_self,if_true];simp only [Nat.add_sub_cancel,Runs] at h4;exact ⟨d,t,cs,h2,ho,h3,h4⟩
  ·have hna:¬ (n=0∧isAl o=true):=fun ⟨_,h2⟩=>by
    unfold isAl at h2;split at h2
    ·exact hal ⟨_,rfl⟩
    ·cases h2
   rw [if_neg hna];exact ZeZ ih (.inr fun t ht=>hal ⟨t,ht⟩) h
theorem ZrG {e:Env} {ds:List (Option Nat)} {K:St->Prop} {n:Nat} {os:List Oper} {o:Oper} {σ:St} {j:Nat} {want:Bool} (hg:o.guard=some (j,want)) (h:match (ds[j]?.join).map (gs σ.s) with
   | some (.d (.one (.lit (.bool b))))=>if b=want then Zkq e (qB n) o σ (fun σ'=>Runs e ds (n - 1) os σ' K) else Runs e ds (n - 1) os ⟨setA σ.s o.dst .no,σ.m⟩ K
   | some .no=>Runs e ds (n - 1) os ⟨setA σ.s o.dst .no,σ.m⟩ K
   | _=>False):Runs e ds n (o::os) σ K:=by
 cases n with
 | zero =>
  simp only [Runs];refine Zpc hg ?_;split at h
  ·rename_i b hb
   try simp only [hb]
   split at h
   ·rename_i hbw;rw [if_pos hbw];have h:Zbx e o σ (fun σ'=>Runs e ds 0 os σ' K):=h;simpa only [Runs] using h
   ·rename_i hbw;rw [if_neg hbw];have h:Runs e ds 0 os ⟨setA σ.s o.dst .no,σ.m⟩ K:=h;simpa only [Runs] using h
  ·rename_i hb
   try simp only [hb]
   have h:Runs e ds 0 os ⟨setA σ.s o.dst .no,σ.m⟩ K:=h;simpa only [Runs] using h
  ·exact h.elim
 | succ n =>
  simp only [Runs,hg];exact h
theorem Zh8 {e:Env} {ds:List (Option Nat)} {K:St->Prop} {n:Nat} {os:List Oper} {d:Option Nat} {op:Op} {ty:TypeId} {pos:String} {aft:Array Edge} {j:Nat} {want:Bool} {next:St->Res} (ih:∀ σ,ResQ e ds K (next σ)->Runs e ds (n - 1) os σ K) {σ:St}
  (h:ResQ e ds K (Zey want (Zba e.P d ty n n os next op) (ZiT d next) σ ((ds[j]?.join).map (gs σ.s)))):Runs e ds n (⟨d,op,ty,pos,aft,some (j,want)⟩::os) σ K:=by
 refine ZrG rfl ?_;unfold Zey at h;split at h
 ·rename_i b hb;simp only [hb];unfold ZiU at h;split at h
  ·rename_i hbw;rw [if_pos (by simpa using hbw)];exact ZeZ (o:=⟨d,op,ty,pos,aft,some (j,want)⟩) ih (.inl rfl) h
  ·rename_i hbw;rw [if_neg (by simpa using hbw)];exact ih _ h
 ·rename_i hb;simp only [hb];exact ih _ h
 ·exact h.elim
theorem ZbL {e:Env} {ds:List (Option Nat)} {K:St->Prop} {n:Nat} {σ:St} (h:K σ):Runs e ds n [] σ K:=by
 cases n with
 | zero=>simp only [Runs];exact ZsL h
 | succ n=>exact h
theorem ZdT {e:Env} {ds:List (Option Nat)} {K:St->Prop}:∀ (os:List Oper) (n:Nat) (σ:St),ResQ e ds K (ZaQ e.P ds n os σ)->Runs e ds n os σ K
 | [],n,σ,h=>ZbL h
 | ⟨d,op,ty,pos,aft,none⟩::os,n,σ,h=>Zl7 (o:=⟨d,op,ty,pos,aft,none⟩) rfl (ZdT os (n - 1)) h
 | ⟨d,op,ty,pos,aft,some (j,want)⟩::os,n,σ,h=>Zh8 (ZdT os (n - 1)) h
theorem ZlD {e:Env} {ds:List (Option Nat)} {K:St->Prop}:∀ (j:Nat) (os:List Oper) (n:Nat) (σ:St),ResQ e ds K (runN e.P ds j n os σ)->Runs e ds n os σ K
 | 0,os,n,σ,h=>h
 | j+1,[],n,σ,h=>ZbL h
 | j+1,⟨d,op,ty,pos,aft,none⟩::os,n,σ,h=>Zl7 (o:=⟨d,op,ty,pos,aft,none⟩) rfl (ZlD j os (n - 1)) h
 | j+1,⟨d,op,ty,pos,aft,some (i,want)⟩::os,n,σ,h=>Zh8 (ZlD j os (n - 1)) h
def Zkt (c:A) (xs:Option (List D)) (σ:St):Option (FuncId × List D × St) :=
 match Zcg c,xs with
 | some (f,caps),some xs=>some (f,xs++caps.map .one,σ)
 | _,_=>none
def ZiV (c:Operand) (args:List Operand):Option St->Option (FuncId × List D × St)
 | some σ=>Zkt (evA σ.s c) (dsA (args.map (evA σ.s))) σ
 | none=>none
def ZdU (q:Bool) (c:Operand) (args:List Operand) (σ:St):Option (FuncId × List D × St):=ZiV c args (frzQ q (Zdz (args.map (evA σ.s))) σ)
def Zng (f:Option (FuncId × List C)) (k:Nat) (xs:Option (List D)):Option Bk->Option (FuncId × Nat × Nat × Nat × List (List C) × List D)
 | some (.buf _ ty sz rows)=>match f,xs with
  | some (f,caps),some xs=>some (f,k,ty,sz,rows,xs++caps.map .one)
  | _,_=>none
 | _=>none
def Znh (m:List (Nat × Bk)) (f:Option (FuncId × List C)) (xs:Option (List D)):A->Option (FuncId × Nat × Nat × Nat × List (List C) × List D)
 | .buf k=>Zng f k xs (gm m k)
 | _=>none
def Zku (c:Operand) (x0:Operand) (rest:List Operand) (σ:St):Option (FuncId × Nat × Nat × Nat × List (List C) × List D):=Znh σ.m (Zcg (evA σ.s c)) (dsA (rest.map (evA σ.s))) (nrm σ.m (evA σ.s x0))
section
variable {e:Env} {mask:Nat} {σ:St} {Q:PX->St->Prop} {ds:List (Option Nat)} {K:St->Prop} {os os':List Oper} {n n':Nat} {s1 s2 s3:List (Nat × A)} {m1 m2 m3:List (Nat × Bk)}
theorem Zeq {σ':St} (h:ZaQ e.P ds n os σ=.done σ') (hK:K σ'):Runs e ds n os σ K:=ZdT os n σ (by rw [h];exact hK)
theorem ZsM {ks:List Nat} {σ σ':St} (hf:frzQ false ks σ=some σ'):frzs ks σ=σ':=by
 unfold frzQ at hf;split at hf
 ·injection hf with hf
 ·simpa using hf
theorem Zez {q:Bool} {c:Operand} {args:List Operand} {f:FuncId} {xs:List D} {σ':St} (h1:ZdU q c args σ=some (f,xs,σ')):∃ caps ys,frzQ q (Zdz (args.map (evA σ.s))) σ=some σ'∧Zcg (evA σ'.s c)=some (f,caps)∧dsA (args.map (evA σ'.s))=some ys∧xs=ys++caps.map .one:=by
 unfold ZdU ZiV at h1;split at h1
 ·rename_i σ1 hf;unfold Zkt at h1;split at h1
  ·rename_i f' caps xs' hcal hds;simp only [Taq,Prod.mk.injEq] at h1;obtain ⟨rfl,rfl,rfl⟩:=h1;exact ⟨caps,xs',hf,hcal,hds,rfl⟩
  ·cases h1
 ·cases h1
theorem Zzu {q:Bool} {c:Operand} {args:List Operand} {f:FuncId} {xs:List D} {d:Option Nat} {r:List D} (h:ZaQ e.P ds n os σ=.call q c args d n' os' ⟨s1,m1⟩) (h1:ZdU q c args ⟨s1,m1⟩=some (f,xs,⟨s2,m2⟩)) (hc:Con e f xs r) (h2:setA s2 d (retA r)=s3) (hK:Runs e ds n' os' ⟨s3,m2⟩ K):Runs e ds n os σ K:=by
 refine ZdT os n σ ?_;rw [h];intro o ts ho hd;obtain ⟨caps,ys,hf,hcal,hds,rfl⟩:=Zez h1;exact ZwM ho hf hcal hds hc (by rw [hd,h2];exact hK)
theorem ZwU {d:Option Nat} (h:ZaQ e.P ds n os σ=.map false d n' os' ⟨s1,m1⟩) (hK:∀ b:Nat,Runs e ds n' os' ⟨setA s1 d (.d (.one (.lit (.map (some b))))),m1⟩ K):Runs e ds n os σ K:=by
 refine ZdT os n σ ?_;rw [h];exact ⟨rfl,hK⟩
theorem ZsN {P:Program} {d:Option Nat} {ty:TypeId} {n:Nat} {os:List Oper} {nx:St->Res} {q:Nat} {t:TypeId} {s:List (Nat × A)} {m:List (Nat × Bk)}:Zba P d ty q n os nx (.makeMap t none) ⟨s,m⟩=.map (qB n) d (n - 1) os ⟨s,m⟩:=rfl
theorem ZwV {c:Operand} {args:List Operand} {f:FuncId} {xs:List D} {d:Option Nat} {R:List D->Prop} (h:ZaQ e.P ds n os σ=.call false c args d n' os' ⟨s1,m1⟩) (h1:ZdU false c args ⟨s1,m1⟩=some (f,xs,⟨s2,m2⟩)) (hc:ConE e f xs R) (hK:∀ r,R r->Runs e ds n' os' ⟨setA s2 d (retA r),m2⟩ K):Runs e ds n os σ K:=by
 refine ZdT os n σ ?_;rw [h];intro o ts ho hd;obtain ⟨caps,ys,hf,hcal,hds,rfl⟩:=Zez h1;exact Zl3 (ZcD _ (ZsM hf)) (fun σ'' hσ=>by subst hσ;exact ZsI ho hcal hds hc (fun r hr=>by rw [hd];exact hK r hr))
theorem ZwW {c:Operand} {args:List Operand} {f:FuncId} {xs:List D} {d:Option Nat} (ks ks':List Nat) {pm:List Bk} {R:List D->List Bk->Prop} (h:ZaQ e.P ds n os σ=.call false c args d n' os' ⟨s1,m1⟩) (h1:ZdU false c args ⟨s1,m1⟩=some (f,xs,⟨s2,m2⟩)) (hc:ConP e f xs pm R) (hpm:getM m2 ks=some pm) (hpn:pm.all pinned=true) (hn:ks.Nodup)
  (hk:Zcd (ks++ks') s2=s3) (hr:Zci (ks++ks') m2=m3) (hK:∀ r pm',R r pm'->Runs e ds n' os' ⟨setA s3 d (retA r),zipM ks' pm'++m3⟩ K):Runs e ds n os σ K:=by
 refine ZdT os n σ ?_;rw [h];intro o ts ho hd;obtain ⟨caps,ys,hf,hcal,hds,rfl⟩:=Zez h1;exact Zl3 (ZcD _ (ZsM hf)) (fun σ'' hσ=>by subst hσ;exact ZAd ho ks ks' hn hpm hpn hcal hds hc (fun r pm' hR=>by rw [hd];simp only [hk,hr];exact hK r pm' hR))
theorem ZrH {c x0:Operand} {rest:List Operand} {f:FuncId} {k ty sz:Nat} {rows:List (List C)} {xs:List D} (h1:Zku c x0 rest σ=some (f,k,ty,sz,rows,xs)):∃ oa caps ys,nrm σ.m (evA σ.s x0)=.buf k∧gm σ.m k=some (.buf oa ty sz rows)∧Zcg (evA σ.s c)=some (f,caps)∧dsA (rest.map (evA σ.s))=some ys∧xs=ys++caps.map .one:=by
 unfold Zku Znh at h1;split at h1
 ·rename_i k' hk;unfold Zng at h1;split at h1
  ·rename_i oa ty' sz' rows0 hm;split at h1
   ·rename_i f' caps xs' hcal hds;simp only [Taq,Prod.mk.injEq] at h1;obtain ⟨rfl,rfl,rfl,rfl,rfl,rfl⟩:=h1;exact ⟨oa,caps,xs',hk,hm,hcal,hds,rfl⟩
   ·cases h1
  ·cases h1
 ·cases h1
theorem ZwX {c x0:Operand} {rest:List Operand} {f:FuncId} {xs:List D} {d:Option Nat} {k ty sz:Nat} {rows rows':List (List C)} {r:List D} {oa:Option (Option Addr × Nat)} (h:ZaQ e.P ds n os σ=.call false c (x0::rest) d n' os' ⟨s1,m1⟩) (h1:Zku c x0 rest ⟨s1,m1⟩=some (f,k,ty,sz,rows,xs)) (hm:gm m1 k=some (.buf oa ty sz rows)) (hc:ConI e f ty sz rows xs rows' r) (hl:rows'.length=rows.length) (h2:setA s1 d (retA r)=s3) (h3:remM k m1=m3) (hK:Runs e ds n' os' ⟨s3,(k,.buf oa ty sz rows')::m3⟩ K):Runs e ds n os σ K:=by
 refine ZdT os n σ ?_;rw [h];intro o ts ho hd;obtain ⟨oa',caps,ys,hk,hm',hcal,hds,rfl⟩:=ZrH h1;exact ZAc ho rfl hk hm hcal hds hc hl (by rw [hd];simp only [h2,h3];exact hK)
theorem Ze9 {P:St->Prop} (hT:Turn e σ P) (h:∀ σ',P σ'->Runs e ds 0 os σ' K):Runs e ds 0 os σ K:=by
 simp only [Runs] at h ⊢;exact ZrE hT h
def Zkv:Res->Option (Nat × List Oper × List (Nat × A) × List (Nat × Bk))
 | .stop n os σ=>some (n,os,σ.s,σ.m)
 | _=>none
theorem ZsO (j:Nat) (h:Zkv (runN e.P ds j n os σ)=some (n',os',s1,m1)) (hK:Runs e ds n' os' ⟨s1,m1⟩ K):Runs e ds n os σ K:=by
 refine ZlD j os n σ ?_
 cases hr:runN e.P ds j n os σ with
 | stop n1 os1 σ1 =>
  rw [hr] at h;simp only [Zkv,Taq,Prod.mk.injEq] at h;obtain ⟨rfl,rfl,rfl,rfl⟩:=h;exact hK
 | _=>rw [hr] at h;cases h
theorem Zpf {d t ty:Nat} {p:String} {ed:Array Edge} {parts:List (Nat × Operand)} {s:List (Nat × A)} {m:List (Nat × Bk)} {cs cs':List C} (hz:Zdb e.P t=some cs) (hst:Zbm e.P t=true) (hok:cs.all Zay=true) (hf:ZcQ e.P t cs (parts.map fun p=>(p.1,evA s p.2))=some cs')
  (hK:Runs e ds 0 os ⟨(d,.d (.agg cs'))::s,m⟩ K):Runs e ds 0 (⟨some d,.build t parts.toArray,ty,p,ed,none⟩::os) ⟨s,m⟩ K:=by
 simp only [Runs] at hK ⊢;exact Zcz rfl (Zpb (o:=⟨some d,.build t parts.toArray,ty,p,ed,none⟩) rfl hz hst hok hf hK)
theorem ZnH {id:Nat} {l:List Oper} {σ1:St} (ks:List Nat) (hf:frzs ks σ=σ1) (hds:l.map (·.dst)=ds) (h:Runs e ds 0 l σ1 (Zct mask Q)):pwp e mask (.region id l.toArray false) σ Q :=
 Zb2 (ZcD ks hf) (fun σ' hσ=>by subst hσ;exact Zks 0 rfl (by subst hds;exact h))
theorem ZwY {id:Nat} {l:List Oper} (hds:l.map (·.dst)=ds) (h:Runs e ds 0 l σ (Zct mask Q)):pwp e mask (.region id l.toArray false) σ Q:=ZnH [] rfl hds h
theorem ZsP {id:Nat} {l:List Oper} {σ1:St} (n:Nat) (ks:List Nat) (hf:frzs ks σ=σ1) (hr:regX l.toArray n=true) (hds:l.map (·.dst)=ds) (h:Runs e ds n l σ1 (Zct mask Q)):pwp e mask (.region id l.toArray true) σ Q :=
 Zb2 (ZcD ks hf) (fun σ' hσ=>by subst hσ;exact Zks n (by simpa using hr) (by subst hds;exact h))
theorem ZwZ {id:Nat} {l:List Oper} (n:Nat) (hr:regX l.toArray n=true) (hds:l.map (·.dst)=ds) (h:Runs e ds n l σ (Zct mask Q)):pwp e mask (.region id l.toArray true) σ Q:=ZsP n [] rfl hr hds h
theorem Wk.refl (σ:St):Wk σ σ:=⟨fun _=>.inl rfl,fun _ _ h=>h⟩
theorem ZsQ {c:Operand} {a b:Code} (hc:evA σ.s c=.d (.one (.lit (.bool true)))) (h:pwp e mask a σ Q):pwp e mask (.cond c a b) σ Q:=ZnF hc (fun _=>h) (fun h=>by cases h)
theorem ZsR {c:Operand} {a b:Code} (hc:evA σ.s c=.d (.one (.lit (.bool false)))) (h:pwp e mask b σ Q):pwp e mask (.cond c a b) σ Q:=ZnF hc (fun h=>by cases h) (fun _=>h)
theorem Zkw {P:Program} {ts:List RS} {r:List D} (h:Zcb P σ ts r):retQ P ts r .ret σ:=⟨[],h⟩
theorem ZAe {P:Program} {ts:List RS} {r:List D} {σ1:St} (ks:List Nat) (hf:frzs ks σ=σ1) (h:Zcb P σ1 ts r):retQ P ts r .ret σ:=⟨ks,by rw [hf];exact h⟩
end
section
variable {P:Program} {d:Option Nat} {ds:List (Option Nat)} {os:List Oper} {q n:Nat} {ty:TypeId} {nx:St->Res} {s:List (Nat × A)} {m:List (Nat × Bk)} {σ:St}
def ZcA (nx:St->Res) (s:List (Nat × A)) (m:List (Nat × Bk)) (d:Option Nat):Option A->Res
 | some α=>nx ⟨setA s d α,m⟩
 | none=>.bad
theorem Zkx {α:A}:ZcA nx s m d (some α)=nx ⟨setA s d α,m⟩:=rfl
theorem ZbA {x:Option A}:ZcU (putE ⟨s,m⟩ d x) nx=ZcA nx s m d x:=by cases x <;> rfl
theorem ZsS:ZaQ P ds n [] ⟨s,m⟩=.done ⟨s,m⟩:=rfl
theorem ro_n {op:Op} {t:TypeId} {p:String} {a:Array Edge}:ZaQ P ds n (⟨d,op,t,p,a,none⟩::os) ⟨s,m⟩=Zba P d t (n - 1) n os (ZaQ P ds (n - 1) os) op ⟨s,m⟩:=rfl
theorem ro_g {op:Op} {t:TypeId} {p:String} {a:Array Edge} {j:Nat} {w:Bool}:ZaQ P ds n (⟨d,op,t,p,a,some (j,w)⟩::os) ⟨s,m⟩=Zey w (Zba P d t n n os (ZaQ P ds (n - 1) os) op) (ZiT d (ZaQ P ds (n - 1) os)) ⟨s,m⟩ ((ds[j]?.join).map (gs s)):=rfl
theorem ZsT {y x:St->Res} {b w:Bool}:Zey w y x σ (some (.d (.one (.lit (.bool b)))))=ZiU y x σ (b==w):=rfl
theorem pk_t {y x:St->Res}:ZiU y x σ true=y σ:=rfl
theorem pk_f {y x:St->Res}:ZiU y x σ false=x σ:=rfl
theorem sk_r:ZiT d nx ⟨s,m⟩=nx ⟨setA s d .no,m⟩:=rfl
theorem g_no {y x:St->Res} {w:Bool}:Zey w y x σ (some .no)=x σ:=rfl
theorem qB_0:qB 0=false:=rfl
theorem qB_s {k:Nat}:qB (k+1)=true:=rfl
theorem ZsU {x:Operand}:Zba P d ty q n os nx (.move x) ⟨s,m⟩=nx ⟨setA s d (evA s x),m⟩:=rfl
theorem ZsV {c a b:Operand}:Zba P d ty q n os nx (.pick c a b) ⟨s,m⟩=ZcA nx s m d (Znb (evA s a) (evA s b) (evA s c)):=ZbA
theorem ZsW {t:TypeId} {x:Operand}:Zba P d ty q n os nx (.load t x) ⟨s,m⟩=ZcA nx s m d (Zec (ZaV P t) (ptrA m (nrm m (evA s x)))):=ZbA
theorem Zjn {t:TypeId} {x:Operand} {f:Nat}:Zba P d ty q n os nx (.fieldAddr t x f) ⟨s,m⟩=ZcA nx s m d (ZcR (evA s x) (offT P t f)):=ZbA
theorem ZpT {t:TypeId} {x:Operand} {f:Nat}:Zba P d ty q n os nx (.field t x f) ⟨s,m⟩=ZcA nx s m d (Zh0 P (evA s x) (offT P t f)):=ZbA
theorem Zjo {t:TypeId} {x i:Operand}:Zba P d ty q n os nx (.indexAddr t x i) ⟨s,m⟩=ZcA nx s m d (Zdn m (Zbn P t) (nrm m (evA s x)) (evA s i)):=ZbA
theorem ZpU {t:TypeId} {x i:Operand}:Zba P d ty q n os nx (.index t x i) ⟨s,m⟩=ZcA nx s m d (Zh1 (P.underlying t) (evA s x) (evA s i)):=ZbA
theorem ZxU {op:BinOp} {t t':TypeId} {x y:Operand}:Zba P d ty q n os nx (.binOp op t x y t') ⟨s,m⟩=ZcA nx s m d (binA P t op (evA s x) (evA s y)):=ZbA
theorem R_un {op:UnOp} {t:TypeId} {x:Operand}:Zba P d ty q n os nx (.unOp op t x) ⟨s,m⟩=ZcA nx s m d (unA op (evA s x)):=ZbA
theorem Zl8 {x:Operand} {i:Nat}:Zba P d ty q n os nx (.extract x i) ⟨s,m⟩=ZcA nx s m d (ZfK i (evA s x)):=ZbA
theorem ZxV {x:Operand}:Zba P d ty q n os nx (.nilCheck x) ⟨s,m⟩=ZcA nx s m d (nilA (evA s x)):=ZbA
theorem ZsX {a b:TypeId} {x:Operand}:Zba P d ty q n os nx (.convert a b x) ⟨s,m⟩=ZcA nx s m d (ZiN P a b (evA s x)):=ZbA
theorem ZpV {t:TypeId} {x:Operand} {lo hi mx:Option Operand}:Zba P d ty q n os nx (.slice t x lo hi mx) ⟨s,m⟩=ZcA nx s m d (ZeN P t (evA s x) (lo.map (evA s)) (hi.map (evA s)) (mx.map (evA s))):=ZbA
theorem ZxW {args:List Operand} {ts:Array TypeId}:Zba P d ty q n os nx (.call ⟨.builtin .len,args.toArray,ts⟩) ⟨s,m⟩=ZcA nx s m d (lenA m (lenT P ts) (args.map fun x=>nrm m (evA s x))):=ZbA
theorem ZxX {args:List Operand} {ts:Array TypeId}:Zba P d ty q n os nx (.call ⟨.builtin .max,args.toArray,ts⟩) ⟨s,m⟩=ZcA nx s m d (maxA (args.map (evA s))):=ZbA
theorem ZxY {args:List Operand} {ts:Array TypeId}:Zba P d ty q n os nx (.call ⟨.builtin .min,args.toArray,ts⟩) ⟨s,m⟩=ZcA nx s m d (minA (args.map (evA s))):=ZbA
theorem ZsY {c:Operand} {args:List Operand} {ts:Array TypeId}:Zba P d ty q n os nx (.call ⟨.value c,args.toArray,ts⟩) ⟨s,m⟩=.call (qB n) c args d (n - 1) os ⟨s,m⟩:=rfl
def Zky (nx:St->Res) (d:Option Nat) (f:List (Nat × A)->List (Nat × Bk)->Option A):Option St->Res
 | some σ=>ZcA nx σ.s σ.m d (f σ.s σ.m)
 | none=>.bad
theorem ZpW {f:List (Nat × A)->List (Nat × Bk)->Option A}:Zky nx d f (some ⟨s,m⟩)=ZcA nx s m d (f s m):=rfl
theorem ZjV {op:Op} {x:Option St} {f:List (Nat × A)->List (Nat × Bk)->Option A} (h:∀ s m,Zf8 P m (evA s) op=f s m):ZcU (Zf9 P d op x) nx=Zky nx d f x:=by
 cases x with
 | none=>rfl
 | some σ =>
  obtain ⟨s',m'⟩:=σ;show ZcU (putE ⟨s',m'⟩ d (Zf8 P m' (evA s') op)) nx=_;rw [ZbA,h];rfl
theorem ZpX {t:TypeId} {parts:List (Nat × Operand)}:Zba P d ty q n os nx (.build t parts.toArray) ⟨s,m⟩=Zky nx d (fun s m=>ZgQ P t (parts.map fun p=>(p.1,evA s p.2))) (frzQ (qB n) (Zdz (parts.map fun p=>evA s p.2)) ⟨s,m⟩):=ZjV (fun _ _=>rfl)
theorem Zh9 {t:TypeId} {k:Nat} {parts:List (Nat × Operand)}:Zba P d ty q n os nx (.buildSlice t k parts.toArray) ⟨s,m⟩=Zky nx d (fun s m=>Zd3 (Zbh P t) k (parts.map fun p=>(p.1,evA s p.2))) (frzQ (qB n) (Zdz (parts.map fun p=>evA s p.2)) ⟨s,m⟩):=ZjV (fun _ _=>rfl)
theorem Zkz {f:FuncId} {caps:List Operand}:Zba P d ty q n os nx (.makeFunc (.func f) #[] caps.toArray) ⟨s,m⟩=Zky nx d (fun s m=>fnA f (csA (caps.map (evA s)))) (frzQ (qB n) (Zdz (caps.map (evA s))) ⟨s,m⟩):=ZjV (fun _ _=>rfl)
theorem ZsZ {q:Bool}:frzQ q [] σ=some σ:=rfl
theorem ZpY {k:Nat} {ks:List Nat}:frzQ false (k::ks) σ=some (frzs (k::ks) σ):=rfl
theorem Zs0:frzs [] σ=σ:=rfl
theorem ZpZ {k:Nat} {ks:List Nat}:frzs (k::ks) ⟨s,m⟩=frzs ks (frzB k ⟨s,m⟩ (gm m k)):=rfl
theorem Zp0 {k:Nat} {bk:Bk}:frzB k ⟨s,m⟩ (some bk)=⟨frzS k bk s,remM k m⟩:=rfl
theorem Zp1 {k:Nat}:frzB k ⟨s,m⟩ none=⟨s,m⟩:=rfl
theorem Zs1 {k:Nat} {bk:Bk}:frzS k bk []=[]:=rfl
theorem Zp2 {k t:Nat} {bk:Bk} {a:A} {r:List (Nat × A)}:frzS k bk ((t,a)::r)=(t,frzA k bk a)::frzS k bk r:=rfl
theorem ZnI {k:Nat} {bk:Bk}:frzA k bk .undef=.undef:=rfl
theorem ZxZ {k:Nat} {bk:Bk}:frzA k bk .no=.no:=rfl
theorem fA_d {k:Nat} {bk:Bk} {x:D}:frzA k bk (.d x)=.d x:=rfl
theorem Zs2 {k:Nat} {bk:Bk} {x:List D}:frzA k bk (.tup x)=.tup x:=rfl
theorem Zx0 {k k' off:Nat} {o:Option Nat} {cs:List C}:frzA k (.var o cs) (.ref k' off)=if k'=k then .d (.one (.ptr (cs.drop off))) else .ref k' off:=rfl
theorem Zx1 {k k' off e sz:Nat} {o:Option (Option Addr × Nat)} {rows:List (List C)}:frzA k (.buf o e sz rows) (.ref k' off)=if k'=k then .undef else .ref k' off:=rfl
theorem Zx2 {k k':Nat} {o:Option Nat} {cs:List C}:frzA k (.var o cs) (.buf k')=if k'=k then .undef else .buf k':=rfl
theorem Zx3 {k k' e sz:Nat} {o:Option (Option Addr × Nat)} {rows:List (List C)}:frzA k (.buf o e sz rows) (.buf k')=if k'=k then .d (.one (.sl rows)) else .buf k':=rfl
theorem Zs3 {k k' j sz off:Nat} {bk:Bk}:frzA k bk (.row k' j sz off)=if k'=k then .undef else .row k' j sz off:=rfl
theorem ky_d {x:D}:keyA (.d x)=[]:=rfl
theorem Zs4 {k off:Nat}:keyA (.ref k off)=[k]:=rfl
theorem Zs5 {k:Nat}:keyA (.buf k)=[k]:=rfl
theorem Zs6 {k j sz off:Nat}:keyA (.row k j sz off)=[]:=rfl
theorem Zp3:Zdz []=[]:=rfl
theorem ZnJ {a:A} {r:List A}:Zdz (a::r)=keyA a++Zdz r:=rfl
theorem Zp4 {t:TypeId}:Zba P d ty q n os nx (.alloc t) ⟨s,m⟩=ZcU (if qB q=true then none else newE ⟨s,m⟩ d (ZaP P t)) nx:=rfl
theorem Zx4 {t:TypeId} {x:Operand}:Zba P d ty q n os nx (.box t x) ⟨s,m⟩=ZcU (if qB n=true then none else ZiQ d x (frzQ (qB n) (keyA (evA s x)) ⟨s,m⟩)) nx:=rfl
theorem Zp5 {t:TypeId} {x y:Operand}:Zba P d ty q n os nx (.store t x y) ⟨s,m⟩=ZcU (if qB n=true then none else Zga P d t x y (frzQ (qB n) (keyA (evA s y)) ⟨s,m⟩)) nx:=rfl
theorem ZnK {x:Operand}:Zba P d ty q n os nx (.assign x) ⟨s,m⟩=ZcU (if qB n=true then none else Zdh P ⟨s,m⟩ d ty (evA s x)) nx:=rfl
theorem Zjp {t:TypeId} {l c:Operand}:Zba P d ty q n os nx (.makeSlice t l c) ⟨s,m⟩=ZcU (if qB n=true then none else Zg6 P ⟨s,m⟩ d t (evA s l) (evA s c)) nx:=rfl
theorem ZnL {args:List Operand} {ts:Array TypeId}:Zba P d ty q n os nx (.call ⟨.builtin .append,args.toArray,ts⟩) ⟨s,m⟩=ZcU (if qB n=true then none else ZfD P ⟨s,m⟩ d ts (args.map fun x=>nrm m (evA s x))) nx:=rfl
theorem Zs7:ZcU (some σ) nx=nx σ:=rfl
theorem Zs8 {k:Nat} {cs:List C}:newE ⟨s,m⟩ (some k) (some cs)=some ⟨(k,.ref k 0)::Zan k s,(k,.var none cs)::remM k m⟩:=rfl
theorem Zp6 {x:Operand}:ZiQ d x (some ⟨s,m⟩)=newE ⟨s,m⟩ d (Zcn (evA s x)):=rfl
theorem Zp7 {t:TypeId} {x y:Operand}:Zga P d t x y (some ⟨s,m⟩)=ZgR ⟨s,m⟩ d (nrm m (evA s x)) (Zcn (evA s y)) (Za1 P t):=rfl
theorem Zx5 {k off k2:Nat} {us:List C}:ZgR ⟨s,m⟩ none (.ref k off) (some us) (some k2)=storeVar ⟨s,m⟩ k off k2 us (gm m k):=rfl
theorem Zx6 {k j sz off k2:Nat} {us:List C}:ZgR ⟨s,m⟩ none (.row k j sz off) (some us) (some k2)=storeRow ⟨s,m⟩ k j sz off k2 us (gm m k):=rfl
theorem Zx7 {o:Option Nat} {k off k2:Nat} {us cs:List C}:storeVar ⟨s,m⟩ k off k2 us (some (.var o cs))=if us.length=k2∧off+k2<=cs.length then some ⟨s,(k,.var o (cs.take off++us++cs.drop (off+k2)))::remM k m⟩ else none:=rfl
def ZnM (s:List (Nat × A)) (m:List (Nat × Bk)) (o:Option (Option Addr × Nat)) (k j e sz off k2:Nat) (us:List C) (rows:List (List C)):Option (List C)->Option St
 | some r=>if us.length=k2∧off+k2<=r.length then some ⟨s,(k,.buf o e sz (rows.set j (r.take off++us++r.drop (off+k2))))::remM k m⟩ else none
 | none=>none
theorem Zx8 {o:Option (Option Addr × Nat)} {k j sz sz' off k2 e:Nat} {us:List C} {rows:List (List C)}:storeRow ⟨s,m⟩ k j sz off k2 us (some (.buf o e sz' rows))=if sz'=sz then ZnM s m o k j e sz off k2 us rows rows[j]? else none:=by
 simp only [storeRow];split
 ·unfold ZnM;cases rows[j]? <;> rfl
 ·rfl
theorem s_bf {o:Option (Option Addr × Nat)} {k j sz off k2 e:Nat} {us r:List C} {rows:List (List C)}:ZnM s m o k j e sz off k2 us rows (some r)=if us.length=k2∧off+k2<=r.length then some ⟨s,(k,.buf o e sz (rows.set j (r.take off++us++r.drop (off+k2))))::remM k m⟩ else none:=rfl
theorem Zp8 {o:Option Nat} {cs:List C}:varA (some (.var o cs))=some cs:=rfl
theorem Zp9 {o:Option (Option Addr × Nat)} {j sz sz' e:Nat} {rows:List (List C)}:rowA j sz (some (.buf o e sz' rows))=if sz'=sz then rows[j]? else none:=rfl
theorem Zx9 {k:Nat} {c:C}:Zdh P ⟨s,m⟩ (some k) ty (.d (.one c))=some ⟨(k,.d (.one c))::s,m⟩:=rfl
theorem Zya {k:Nat} {c:List C}:Zdh P ⟨s,m⟩ (some k) ty (.d (.agg c))=some ⟨(k,.d (.agg c))::s,m⟩:=rfl
theorem Zs9 {k:Nat} {r:List C} {rs:List (List C)}:Zdh P ⟨s,m⟩ (some k) ty (.d (.clip (r::rs)))=some ⟨(k,.d (.clip (r::rs)))::s,m⟩:=rfl
theorem Zyb {k:Nat}:Zdh P ⟨s,m⟩ (some k) ty (.d (.clip []))=newB ⟨s,m⟩ k (Zbh P ty):=rfl
theorem Zyc {k:Nat} {x:List D}:Zdh P ⟨s,m⟩ (some k) ty (.tup x)=some ⟨(k,.tup x)::s,m⟩:=rfl
theorem Zyd {k k' off:Nat}:Zdh P ⟨s,m⟩ (some k) ty (.ref k' off)=some ⟨(k,.ref k' off)::s,m⟩:=rfl
theorem Zye {k k':Nat}:Zdh P ⟨s,m⟩ (some k) ty (.buf k')=ZiP ⟨s,m⟩ k' k (gm m k'):=rfl
theorem Zqa {o:Option (Option Addr × Nat)} {k k' e sz:Nat} {rows:List (List C)}:ZiP ⟨s,m⟩ k k' (some (.buf o e sz rows))=if k=k' then some ⟨(k',.buf k')::s,m⟩ else some (ownE ⟨s,m⟩ k k' (.buf o e sz rows)):=rfl
theorem Zqb {k e sz b:Nat}:newB ⟨s,m⟩ k (some (e,sz,b))=some ⟨(k,.buf k)::Zan k s,(k,.buf none e sz [])::remM k m⟩:=rfl
theorem Zqc {k:Nat}:newB ⟨s,m⟩ k none=some ⟨(k,.d (.clip []))::s,m⟩:=rfl
theorem Zyf {k k':Nat} {bk:Bk}:ownE ⟨s,m⟩ k k' bk=⟨(k',.buf k')::Zan k' (Zan k s),(k',bk)::remM k' (remM k m)⟩:=rfl
theorem Zta {k:Nat}:Zan k []=[]:=rfl
theorem Ztb {k k' off t:Nat} {r:List (Nat × A)}:Zan k ((t,.ref k' off)::r)=(t,if k'=k then .undef else .ref k' off)::Zan k r:=rfl
theorem Ztc {k k' t:Nat} {r:List (Nat × A)}:Zan k ((t,.buf k')::r)=(t,if k'=k then .undef else .buf k')::Zan k r:=rfl
theorem Ztd {k k' j sz off t:Nat} {r:List (Nat × A)}:Zan k ((t,.row k' j sz off)::r)=(t,if k'=k then .undef else .row k' j sz off)::Zan k r:=rfl
theorem kl_d {k t:Nat} {x:D} {r:List (Nat × A)}:Zan k ((t,.d x)::r)=(t,.d x)::Zan k r:=rfl
theorem Zte {k t:Nat} {x:List D} {r:List (Nat × A)}:Zan k ((t,.tup x)::r)=(t,.tup x)::Zan k r:=rfl
theorem ZnN {k t:Nat} {r:List (Nat × A)}:Zan k ((t,.undef)::r)=(t,.undef)::Zan k r:=rfl
theorem Zyg {k t:Nat} {r:List (Nat × A)}:Zan k ((t,.no)::r)=(t,.no)::Zan k r:=rfl
theorem Ztf {k:Nat}:remM k []=[]:=rfl
theorem Zqd {k t:Nat} {a:Bk} {r:List (Nat × Bk)}:remM k ((t,a)::r)=if t=k then remM k r else (t,a)::remM k r:=rfl
def appX (s:List (Nat × A)) (m:List (Nat × Bk)) (k e sz:Nat) (y:A) (ys:List (List C)):A->Option St
 | .buf k'=>if Zki k' y=true then none else ZgS ⟨s,m⟩ k k' e sz ys (gm m k')
 | .d (.clip rows)=>if ZaL sz rows=true∧rows.length+ys.length<=maxApp∧(rows.isEmpty || !ys.isEmpty)=true then some ⟨(k,.buf k)::Zan k s,(k,.buf none e sz (rows++ys))::remM k m⟩ else none
 | _=>none
def appA (s:List (Nat × A)) (m:List (Nat × Bk)) (k:Nat) (x y:A):Option (TypeId × Nat × Nat)->Option (List (List C))->Option St
 | some (e,sz,_),some ys=>if ZaL sz ys=true then appX s m k e sz y ys x else none
 | _,_=>none
theorem Zyh {k:Nat} {t:TypeId} {x y:A}:ZfD P ⟨s,m⟩ (some k) #[t,t] [x,y]=appA s m k x y (Zbh P t) (slA m y):=by
 unfold ZfD appA;simp only [List.getElem?_toArray,Tat,Tau,if_true]
 cases Zbh P t with
 | none=>rfl
 | some b =>
  obtain ⟨e,sz,b⟩:=b
  cases slA m y with
  | none=>rfl
  | some ys =>
   simp only;split
   ·cases x with
    | d x=>cases x <;> rfl
    | _=>rfl
   ·rfl
theorem Zqe {k e sz b:Nat} {x y:A} {ys:List (List C)}:appA s m k x y (some (e,sz,b)) (some ys)=if ZaL sz ys=true then appX s m k e sz y ys x else none:=rfl
theorem Ztg {k k' e sz:Nat} {y:A} {ys:List (List C)}:appX s m k e sz y ys (.buf k')=if Zki k' y=true then none else ZgS ⟨s,m⟩ k k' e sz ys (gm m k'):=rfl
theorem Zqf {k e sz:Nat} {y:A} {ys rows:List (List C)}:appX s m k e sz y ys (.d (.clip rows))=if ZaL sz rows=true∧rows.length+ys.length<=maxApp∧(rows.isEmpty || !ys.isEmpty)=true then some ⟨(k,.buf k)::Zan k s,(k,.buf none e sz (rows++ys))::remM k m⟩ else none:=rfl
theorem Zqg {o:Option (Option Addr × Nat)} {k k' e e' sz sz':Nat} {ys rows:List (List C)}:ZgS ⟨s,m⟩ k k' e sz ys (some (.buf o e' sz' rows))=if e'=e∧sz'=sz∧rows.length+ys.length<=maxApp then some (ownE ⟨s,m⟩ k' k (.buf none e' sz (rows++ys))) else none:=rfl
theorem ib_d {k:Nat} {x:D}:Zki k (.d x)=false:=rfl
theorem Zth {k k':Nat}:Zki k (.buf k')=(k'==k):=rfl
def Zni (s:List (Nat × A)) (m:List (Nat × Bk)) (k e sz:Nat) (a b:Int):Option (List C)->Option St
 | some z=>if a=b∧0<=a∧a<=maxApp∧z.all Zay=true then some ⟨(k,.buf k)::Zan k s,(k,.buf none e sz (List.replicate a.toNat z))::remM k m⟩ else none
 | none=>none
def ZrI (P:Program) (s:List (Nat × A)) (m:List (Nat × Bk)) (k:Nat):Option Int->Option Int->Option (TypeId × Nat × Nat)->Option St
 | some a,some b,some (e,sz,_)=>Zni s m k e sz a b (ZaP P e)
 | _,_,_=>none
theorem Zyi {k:Nat} {t:TypeId} {l c:A}:Zg6 P ⟨s,m⟩ (some k) t l c=ZrI P s m k (intA l) (intA c) (Zbh P t):=by
 unfold Zg6 ZrI
 cases intA l with
 | none=>rfl
 | some a =>
  cases intA c with
  | none=>rfl
  | some b =>
   cases Zbh P t with
   | none=>rfl
   | some q =>
    obtain ⟨e,sz,q⟩:=q;simp only [Zni]
    cases ZaP P e <;> rfl
theorem Zqh {k e sz q:Nat} {a b:Int}:ZrI P s m k (some a) (some b) (some (e,sz,q))=Zni s m k e sz a b (ZaP P e):=rfl
theorem Zqi {k e sz:Nat} {a b:Int} {z:List C}:Zni s m k e sz a b (some z)=if a=b∧0<=a∧a<=maxApp∧z.all Zay=true then some ⟨(k,.buf k)::Zan k s,(k,.buf none e sz (List.replicate a.toNat z))::remM k m⟩ else none:=rfl
theorem Zti {j:Int}:intA (.d (.one (.lit (.int .i64 j))))=some j:=rfl
theorem Zyj {t:Nat}:evA s (.tmp t)=gs s t:=rfl
theorem Zqj {v:Value}:evA s (.const v)=Zdr v:=rfl
theorem Ztj {f:FuncId}:evA s (.func f)=.d (.one (.fn f [])):=rfl
theorem Zyk {k:IntKind} {i:Int}:Zdr (.int k i)=.d (.one (.lit (.int k i))):=rfl
theorem Ztk {b:Bool}:Zdr (.bool b)=.d (.one (.lit (.bool b))):=rfl
theorem Zyl {b:ByteArray}:Zdr (.string b)=.d (.one (.lit (.string b))):=rfl
theorem t_sl:Zdr (.slice none 0 0)=.d (.clip []):=rfl
theorem Zym {p:Option Addr}:Zdr (.pointer p)=.d (.one (.lit (.pointer p))):=rfl
theorem Zyn {l:List Value}:Zdr (.agg l.toArray)=.d (.agg (l.map toC)):=rfl
theorem Zqk {k:IntKind} {i:Int}:toC (.int k i)=.lit (.int k i):=rfl
theorem Zql {b:ByteArray}:toC (.string b)=.lit (.string b):=rfl
theorem ZnO {b:Bool}:toC (.bool b)=.lit (.bool b):=rfl
theorem Ztl:toC (.slice none 0 0)=.sl []:=rfl
theorem Zqm {p:Option Addr}:toC (.pointer p)=.lit (.pointer p):=rfl
theorem ZiW {k:Nat} {a:A}:setA s (some k) a=(k,a)::s:=rfl
theorem Zqn {a:A}:setA s none a=s:=rfl
theorem Zyo {cs:List C}:ptrA m (.d (.one (.ptr cs)))=some cs:=rfl
theorem Zyp {k off:Nat}:ptrA m (.ref k off)=(varA (gm m k)).map (·.drop off):=rfl
theorem Zyq {k j sz off:Nat}:ptrA m (.row k j sz off)=(rowA j sz (gm m k)).map (·.drop off):=rfl
theorem Ztm {k:TK} {cs:List C}:Zec (some k) (some cs)=valT k cs:=rfl
theorem Zyr {c:C} {cs:List C}:valT .one (c::cs)=some (.d (.one c)):=rfl
theorem Zys {k:Nat} {cs:List C}:valT (.agg k) cs=if k<=cs.length then some (.d (.agg (cs.take k))) else none:=rfl
theorem Zqo {a b:A} {t:Bool}:Znb a b (.d (.one (.lit (.bool t))))=some (if t=true then a else b):=rfl
theorem Ztn {cs:List C} {k:Nat} {t:TypeId}:ZcR (.d (.one (.ptr cs))) (some (k,t))=some (.d (.one (.ptr (cs.drop k)))):=rfl
theorem Zto {b off k:Nat} {t:TypeId}:ZcR (.ref b off) (some (k,t))=some (.ref b (off+k)):=rfl
theorem Ztp {b j sz off k:Nat} {t:TypeId}:ZcR (.row b j sz off) (some (k,t))=some (.row b j sz (off+k)):=rfl
theorem Zyt {cs:List C} {k:Nat} {t:TypeId}:Zh0 P (.d (.agg cs)) (some (k,t))=Zec (ZaV P t) (some (cs.drop k)):=rfl
theorem Zyu {k:Nat} {rows:List (List C)} {kk:IntKind} {j:Int}:Zdn m (some k) (.d (.one (.sl rows))) (.d (.one (.lit (.int kk j))))=if 0<=j then if ZaL k rows=true then eltA rows[j.toNat]? else none else none:=rfl
theorem Zqp {k:Nat} {rows:List (List C)} {kk:IntKind} {j:Int}:Zdn m (some k) (.d (.clip rows)) (.d (.one (.lit (.int kk j))))=if 0<=j then if ZaL k rows=true then eltA rows[j.toNat]? else none else none:=rfl
theorem Ztq {k b:Nat} {kk:IntKind} {j:Int}:Zdn m (some k) (.buf b) (.d (.one (.lit (.int kk j))))=Zkg b k j (gm m b):=rfl
theorem Ztr {o:Option (Option Addr × Nat)} {k b e sz:Nat} {j:Int} {rows:List (List C)}:Zkg b k j (some (.buf o e sz rows))=if sz=k then if 0<=j then if j.toNat < rows.length then some (.row b j.toNat sz 0) else none else none else none:=rfl
theorem Zqq {r:List C}:eltA (some r)=some (.d (.one (.ptr r))):=rfl
theorem Zyv {b:ByteArray} {kk:IntKind} {j:Int}:Zh1 (some .string) (.d (.one (.lit (.string b)))) (.d (.one (.lit (.int kk j))))=if 0<=j then Znc b[j.toNat]? else none:=rfl
theorem Zqr {b:UInt8}:Znc (some b)=some (.d (.one (.lit (.int .u8 b.toNat)))):=rfl
theorem Zqs {v:Value}:litA (some v)=some (.d (.one (.lit v))):=rfl
theorem Zyw {op:BinOp} {t:TypeId} {a b:Value}:binA P t op (.d (.one (.lit a))) (.d (.one (.lit b)))=litA (binT P op t a b):=rfl
theorem Zyx {op:UnOp} {a:Value}:unA op (.d (.one (.lit a)))=litA (unV op a):=rfl
theorem Zts {b:Bool}:unV .not (.bool b)=some (.bool (!b)):=rfl
theorem Ztt {a:Int}:unV .neg (.int .i64 a)=some (.int .i64 (IntKind.i64.wrap (0 - a))):=rfl
theorem Zqt {x:D}:dA (some x)=some (.d x):=rfl
theorem Zyy {i:Nat} {xs:List D}:ZfK i (.tup xs)=dA xs[i]?:=rfl
theorem Ztu {cs:List C}:nilA (.d (.one (.ptr cs)))=some (.d (.one (.ptr cs))):=rfl
theorem Zyz {f:FuncId} {cs:List C}:nilA (.d (.one (.fn f cs)))=some (.d (.one (.fn f cs))):=rfl
theorem Ztv {k off:Nat}:nilA (.ref k off)=some (.ref k off):=rfl
theorem ZyA {rows:List (List C)}:lenA m (some true) [.d (.one (.sl rows))]=some (.d (.one (.lit (.int .i64 rows.length)))):=rfl
theorem ZyB {rows:List (List C)}:lenA m (some true) [.d (.clip rows)]=some (.d (.one (.lit (.int .i64 rows.length)))):=rfl
theorem ZyC {k:Nat}:lenA m (some true) [.buf k]=lenS (bufA (gm m k)):=rfl
theorem ZyD {p:Option Addr} {k cap:Nat}:lenA m (some true) [.d (.one (.lit (.slice p k cap)))]=some (.d (.one (.lit (.int .i64 k)))):=rfl
theorem Ztw {b:ByteArray}:lenA m (some false) [.d (.one (.lit (.string b)))]=some (.d (.one (.lit (.int .i64 b.size)))):=rfl
theorem Zqu {rows:List (List C)}:lenS (some rows)=some (.d (.one (.lit (.int .i64 rows.length)))):=rfl
theorem ZyE {rows:List (List C)}:slA m (.d (.one (.sl rows)))=some rows:=rfl
theorem Zqv {rows:List (List C)}:slA m (.d (.clip rows))=some rows:=rfl
theorem Ztx {k:Nat}:slA m (.buf k)=bufA (gm m k):=rfl
theorem Zqw {o:Option (Option Addr × Nat)} {e sz:Nat} {rows:List (List C)}:bufA (some (.buf o e sz rows))=some rows:=rfl
theorem ZyF {x y:Int}:maxA [.d (.one (.lit (.int .i64 x))),.d (.one (.lit (.int .i64 y)))]=some (.d (.one (.lit (.int .i64 (if y > x then y else x))))):=rfl
theorem ZyG {x y:Int}:minA [.d (.one (.lit (.int .i64 x))),.d (.one (.lit (.int .i64 y)))]=some (.d (.one (.lit (.int .i64 (if y < x then y else x))))):=rfl
theorem ZyH {e sz b k:Nat} {parts:List (Nat × A)}:Zd3 (some (e,sz,b)) k parts=if parts.length=k∧k * sz<=16777216 then Znd (ZdF sz 0 parts) else none:=rfl
theorem Zqx {rows:List (List C)}:Znd (some rows)=some (.d (.clip rows)):=rfl
theorem Zty {sz i:Nat}:ZdF sz i []=some []:=rfl
def ZnP (sz:Nat) (r:Option (List (List C))):Option (List C)->Option (List (List C))
 | some cs=>if cs.length=sz then r.map (cs::·) else none
 | none=>none
theorem Zqy {sz i j:Nat} {x:A} {r:List (Nat × A)}:ZdF sz i ((j,x)::r)=if i=j then ZnP sz (ZdF sz (i+1) r) (Zcn x) else none:=by
 show (if i=j then _ else _)=_;unfold ZnP;split
 ·cases Zcn x <;> rfl
 ·rfl
theorem Zqz {sz:Nat} {r:Option (List (List C))} {cs:List C}:ZnP sz r (some cs)=if cs.length=sz then r.map (cs::·) else none:=rfl
def ZnQ (P:Program) (t:TypeId) (parts:List (Nat × A)):Bool->Option (List C)->Option A
 | true,some cs=>if cs.all Zay=true then aggA (ZcQ P t cs parts) else none
 | _,_=>none
theorem ZyI {t:TypeId} {parts:List (Nat × A)}:ZgQ P t parts=ZnQ P t parts (Zbm P t) (ZaP P t):=by
 unfold ZgQ ZnQ
 cases Zbm P t <;> cases ZaP P t <;> rfl
theorem ZqA {t:TypeId} {parts:List (Nat × A)} {cs:List C}:ZnQ P t parts true (some cs)=if cs.all Zay=true then aggA (ZcQ P t cs parts) else none:=rfl
theorem ZqB {cs:List C}:aggA (some cs)=some (.d (.agg cs)):=rfl
theorem Ztz {t:TypeId} {cs:List C}:ZcQ P t cs []=some cs:=rfl
def ZrJ (P:Program) (t:TypeId) (cs:List C) (r:List (Nat × A)):Option (Nat × TypeId)->Option (List C)->Option (List C)
 | some (off,ft),some us=>if Za1 P ft=some us.length∧off+us.length<=cs.length then ZcQ P t (cs.take off++us++cs.drop (off+us.length)) r else none
 | _,_=>none
theorem ZqC {t:TypeId} {cs:List C} {f:Nat} {x:A} {r:List (Nat × A)}:ZcQ P t cs ((f,x)::r)=ZrJ P t cs r (offT P t f) (Zcn x):=by
 conv=>lhs;unfold ZcQ
 unfold ZrJ;rcases offT P t f with _ | ⟨off,ft⟩ <;> cases Zcn x <;> rfl
theorem ZqD {t ft:TypeId} {cs us:List C} {off:Nat} {r:List (Nat × A)}:ZrJ P t cs r (some (off,ft)) (some us)=if Za1 P ft=some us.length∧off+us.length<=cs.length then ZcQ P t (cs.take off++us++cs.drop (off+us.length)) r else none:=rfl
def Znj (n:Int):Option TypeDesc->Option IntKind->Option A
 | some _,some k=>some (.d (.one (.lit (.int k (k.wrap n)))))
 | _,_=>none
theorem ZtA {a b:TypeId} {k:IntKind} {j:Int}:ZiN P a b (.d (.one (.lit (.int k j))))=Znj j (P.underlying a) (ZeM (P.underlying b)):=by
 unfold ZiN Znj
 cases P.underlying a <;> cases ZeM (P.underlying b) <;> rfl
theorem ZqE {t:TypeDesc} {k:IntKind} {j:Int}:Znj j (some t) (some k)=some (.d (.one (.lit (.int k (k.wrap j))))):=rfl
theorem ZqF {k:IntKind}:ZeM (some (.int k))=some k:=rfl
theorem ZqG {f:FuncId} {cs:List C}:fnA f (some cs)=some (.d (.one (.fn f cs))):=rfl
theorem ZtB:csA []=some []:=rfl
theorem ZqH {c:C} {r:List A}:csA (.d (.one c)::r)=(csA r).map (c::·):=rfl
def ZkA (lo hi mx:Option A) (k:Nat):Option (List (List C))->Option A
 | some rows=>if ZaL k rows=true∧(mx.isNone || hi.isSome)=true then dA (ZgP rows (loA lo) (hiA rows.length hi) (mx.map intA)) else none
 | none=>none
def ZnR (P:Program) (t:TypeId) (x:A) (lo hi mx:Option A):Option Nat->Option A
 | some k=>ZkA lo hi mx k (ZfJ x)
 | none=>if Znv (P.underlying t)∧mx=none then match strA x with
   | some s=>dA (Zlx s (loA lo) (hiA s.size hi))
   | none=>none
  else none
theorem ZyJ {t:TypeId} {x:A} {lo hi mx:Option A}:ZeN P t x lo hi mx=ZnR P t x lo hi mx (Zbn P t):=by
 unfold ZeN ZnR ZkA
 cases Zbn P t with
 | none=>rfl
 | some k=>cases ZfJ x <;> rfl
theorem ZqI {t:TypeId} {x:A} {lo hi mx:Option A} {k:Nat}:ZnR P t x lo hi mx (some k)=ZkA lo hi mx k (ZfJ x):=rfl
theorem ZqJ {lo hi mx:Option A} {k:Nat} {rows:List (List C)}:ZkA lo hi mx k (some rows)=if ZaL k rows=true∧(mx.isNone || hi.isSome)=true then dA (ZgP rows (loA lo) (hiA rows.length hi) (mx.map intA)) else none:=rfl
theorem ZtC {rows:List (List C)}:ZfJ (.d (.one (.sl rows)))=some rows:=rfl
theorem ZnS {rows:List (List C)}:ZfJ (.d (.clip rows))=some rows:=rfl
theorem ZqK:loA none=some 0:=rfl
theorem ZqL {x:A}:loA (some x)=intA x:=rfl
theorem ZqM {k:Nat}:hiA k none=some (k:Int):=rfl
theorem ZqN {k:Nat} {x:A}:hiA k (some x)=intA x:=rfl
theorem sl_2 {rows:List (List C)} {l h:Int}:ZgP rows (some l) (some h) none=if 0<=l∧l<=h∧h<=rows.length then some (.one (.sl ((rows.take h.toNat).drop l.toNat))) else none:=rfl
theorem sl_3 {rows:List (List C)} {l h k:Int}:ZgP rows (some l) (some h) (some (some k))=if 0<=l∧l<=h∧h<=rows.length∧k=h then some (.clip ((rows.take h.toNat).drop l.toNat)) else none:=rfl
theorem ZtD {c:C}:Zcn (.d (.one c))=if Zay c=true then some [c] else none:=rfl
theorem ZtE {cs:List C}:Zcn (.d (.agg cs))=if cs.all Zay=true then some cs else none:=rfl
theorem ZqO {rows:List (List C)}:Zcn (.d (.clip rows))=some [.sl rows]:=rfl
theorem ZtF {k:IntKind} {i:Int}:Zay (.lit (.int k i))=true:=rfl
theorem ZqP {b:Bool}:Zay (.lit (.bool b))=true:=rfl
theorem ZtG {b:ByteArray}:Zay (.lit (.string b))=true:=rfl
theorem ZtH {b:Option Nat}:Zay (.lit (.map b))=true:=rfl
theorem ZyK {b:Option Addr}:Zay (.lit (.pointer b))=true:=rfl
theorem ZtI {a:Option Addr} {n c:Nat}:Zay (.lit (.slice a n c))=true:=rfl
theorem ZyL {rows:List (List C)}:Zay (.sl rows)=true:=rfl
theorem ZtJ {cs:List C}:Zay (.ptr cs)=true:=rfl
theorem ZyM {f:Nat} {cs:List C}:Zay (.fn f cs)=true:=rfl
theorem ZtK:dsA []=some []:=rfl
theorem ZqQ {x:D} {r:List A}:dsA (.d x::r)=(dsA r).map (x::·):=rfl
theorem ZyN {q:Bool} {c:Operand} {args:List Operand}:ZdU q c args ⟨s,m⟩=ZiV c args (frzQ q (Zdz (args.map (evA s))) ⟨s,m⟩):=rfl
theorem cp_s {c:Operand} {args:List Operand}:ZiV c args (some ⟨s,m⟩)=Zkt (evA s c) (dsA (args.map (evA s))) ⟨s,m⟩:=rfl
theorem cp_x {f:FuncId} {caps:List C} {xs:List D}:Zkt (.d (.one (.fn f caps))) (some xs) σ=some (f,xs++caps.map .one,σ):=rfl
theorem ZyO {c x0:Operand} {rest:List Operand}:Zku c x0 rest ⟨s,m⟩=Znh m (Zcg (evA s c)) (dsA (rest.map (evA s))) (nrm m (evA s x0)):=rfl
theorem co_z {f:Option (FuncId × List C)} {xs:Option (List D)} {k:Nat}:Znh m f xs (.buf k)=Zng f k xs (gm m k):=rfl
theorem co_y {o:Option (Option Addr × Nat)} {f:FuncId} {caps:List C} {xs:List D} {k ty sz:Nat} {rows:List (List C)}:Zng (some (f,caps)) k (some xs) (some (.buf o ty sz rows))=some (f,k,ty,sz,rows,xs++caps.map .one):=rfl
theorem ZyP {f:FuncId} {caps:List C}:Zcg (.d (.one (.fn f caps)))=some (f,caps):=rfl
theorem ZqR {t:Nat}:resA P ⟨s,m⟩ (.slot t)=gs s t:=rfl
theorem ZqS {t k:Nat}:resA P ⟨s,m⟩ (.cell t k)=(Zec (ZaV P k) (ptrA m (gs s t))).getD .undef:=rfl
theorem ZyQ {x:D}:retA [x]=.d x:=rfl
theorem ZyR {x y:D} {r:List D}:retA (x::y::r)=.tup (x::y::r):=rfl
theorem r_no:retA []=.tup []:=rfl
theorem ZtL {t:TypeId} {a b:Int}:binT P .add t (.int .i64 a) (.int .i64 b)=some (.int .i64 (IntKind.i64.wrap (a+b))):=rfl
theorem ZtM {t:TypeId} {a b:Int}:binT P .sub t (.int .i64 a) (.int .i64 b)=some (.int .i64 (IntKind.i64.wrap (a - b))):=rfl
theorem ZtN {t:TypeId} {a b:Int}:binT P .mul t (.int .i64 a) (.int .i64 b)=some (.int .i64 (IntKind.i64.wrap (a * b))):=rfl
theorem ZtO {t:TypeId} {a b:Int}:binT P .lss t (.int .i64 a) (.int .i64 b)=some (.bool (decide (a < b))):=rfl
theorem ZtP {t:TypeId} {a b:Int}:binT P .leq t (.int .i64 a) (.int .i64 b)=some (.bool (decide (a<=b))):=rfl
theorem ZtQ {t:TypeId} {a b:Int}:binT P .gtr t (.int .i64 a) (.int .i64 b)=some (.bool (decide (b < a))):=rfl
theorem ZtR {t:TypeId} {a b:Int}:binT P .geq t (.int .i64 a) (.int .i64 b)=some (.bool (decide (b<=a))):=rfl
theorem ZtS {t:TypeId} {a b:Int}:binT P .eql t (.int .i64 a) (.int .i64 b)=some (.bool (decide (a=b))):=rfl
theorem ZtT {t:TypeId} {a b:Int}:binT P .neq t (.int .i64 a) (.int .i64 b)=some (.bool (!decide (a=b))):=rfl
theorem ZtU {t:TypeId} {a b:Int}:binT P .lss t (.int .u8 a) (.int .u8 b)=some (.bool (decide (a < b))):=rfl
theorem ZtV {t:TypeId} {a b:Int}:binT P .leq t (.int .u8 a) (.int .u8 b)=some (.bool (decide (a<=b))):=rfl
theorem ZtW {t:TypeId} {a b:Int}:binT P .gtr t (.int .u8 a) (.int .u8 b)=some (.bool (decide (b < a))):=rfl
theorem ZtX {t:TypeId} {a b:Int}:binT P .geq t (.int .u8 a) (.int .u8 b)=some (.bool (decide (b<=a))):=rfl
theorem ZtY {t:TypeId} {a b:Int}:binT P .eql t (.int .u8 a) (.int .u8 b)=some (.bool (decide (a=b))):=rfl
theorem ZtZ {t:TypeId} {a b:Int}:binT P .neq t (.int .u8 a) (.int .u8 b)=some (.bool (!decide (a=b))):=rfl
theorem Zt0 {t:TypeId} {a b:ByteArray}:binT P .eql t (.string a) (.string b)=some (.bool (a.toList==b.toList)):=rfl
theorem Zt1 {t:TypeId} {a b:ByteArray}:binT P .neq t (.string a) (.string b)=some (.bool (!(a.toList==b.toList))):=rfl
theorem Zt2 {t:TypeId} {a b:ByteArray}:binT P .lss t (.string a) (.string b)=some (.bool (Go.Op.bytesLess a.toList b.toList)):=rfl
theorem Zt3 {t:TypeId} {a b:Bool}:binT P .eql t (.bool a) (.bool b)=Zg5 (P.underlying t) (a==b):=rfl
theorem Zt4 {t:TypeId} {a b:Bool}:binT P .neq t (.bool a) (.bool b)=Zg5 (P.underlying t) (!(a==b)):=rfl
theorem bb_t {v:Bool}:Zg5 (some .bool) v=some (.bool v):=rfl
theorem Zt5 {t:TypeId} {a b:Int}:binT P .and t (.int .i64 a) (.int .i64 b)=some (.int .i64 (bits .and .i64 a b)):=rfl
theorem ZyS {t:TypeId} {a b:Int}:binT P .or t (.int .i64 a) (.int .i64 b)=some (.int .i64 (bits .or .i64 a b)):=rfl
theorem Zt6 {t:TypeId} {a b:Int}:binT P .xor t (.int .i64 a) (.int .i64 b)=some (.int .i64 (bits .xor .i64 a b)):=rfl
theorem Zl9 {t:TypeId} {a b:Int}:binT P .andNot t (.int .i64 a) (.int .i64 b)=some (.int .i64 (bits .andNot .i64 a b)):=rfl
theorem Zt7 {t:TypeId} {k:IntKind} {a b:Int}:binT P .shl t (.int .i64 a) (.int k b)=if 0<=b then some (.int .i64 (IntKind.i64.wrap (a * 2 ^ (min b.toNat 64)))) else none:=rfl
theorem Zt8 {t:TypeId} {k:IntKind} {a b:Int}:binT P .shr t (.int .i64 a) (.int k b)=if 0<=b then some (.int .i64 (a.fdiv (2 ^ (min b.toNat 64)))) else none:=rfl
theorem Zt9 {t:TypeId} {a b:Int}:binT P .quo t (.int .i64 a) (.int .i64 b)=if b=0 then none else some (.int .i64 (IntKind.i64.wrap (a.tdiv b))):=rfl
theorem Zua {t:TypeId} {a b:Int}:binT P .rem t (.int .i64 a) (.int .i64 b)=if b=0 then none else some (.int .i64 (a.tmod b)):=rfl
theorem Zub {t:TypeId} {a b:ByteArray}:binT P .add t (.string a) (.string b)=if a.size+b.size<=9223372036854775807 then some (.string (a++b)) else none:=rfl
theorem Zuc {b off k:Nat} {t:TypeId}:ZcR (.d (.one (.lit (.pointer (some ⟨b,off,none⟩))))) (some (k,t))=some (.d (.one (.lit (.pointer (some ⟨b,off+k,none⟩))))):=rfl
theorem Zud {p:Addr}:nilA (.d (.one (.lit (.pointer (some p)))))=some (.d (.one (.lit (.pointer (some p))))):=rfl
theorem Zue {b off:Nat}:nrm m (.d (.one (.lit (.pointer (some ⟨b,off,none⟩)))))=Zkh m b off (varK b m):=rfl
theorem ZyT {p:Option Addr} {k cap:Nat}:nrm m (.d (.one (.lit (.slice p k cap))))=ZiO m p k cap (bufK p k cap m):=rfl
theorem nr_p {cs:List C}:nrm m (.d (.one (.ptr cs)))=.d (.one (.ptr cs)):=rfl
theorem nr_s {rows:List (List C)}:nrm m (.d (.one (.sl rows)))=.d (.one (.sl rows)):=rfl
theorem nr_c {rows:List (List C)}:nrm m (.d (.clip rows))=.d (.clip rows):=rfl
theorem nr_i {k:IntKind} {i:Int}:nrm m (.d (.one (.lit (.int k i))))=.d (.one (.lit (.int k i))):=rfl
theorem Zuf {b:ByteArray}:nrm m (.d (.one (.lit (.string b))))=.d (.one (.lit (.string b))):=rfl
theorem Zug {k off:Nat}:nrm m (.ref k off)=.ref k off:=rfl
theorem Zuh {k:Nat}:nrm m (.buf k)=.buf k:=rfl
theorem Zui {k j sz off:Nat}:nrm m (.row k j sz off)=.row k j sz off:=rfl
theorem Zuj {b:Nat}:varK b []=none:=rfl
theorem Zuk {b b' k:Nat} {cs:List C} {r:List (Nat × Bk)}:varK b ((k,.var (some b') cs)::r)=if b=b' then some k else varK b r:=rfl
theorem Zul {b k:Nat} {cs:List C} {r:List (Nat × Bk)}:varK b ((k,.var none cs)::r)=varK b r:=rfl
theorem Zum {b k e sz:Nat} {o:Option (Option Addr × Nat)} {rows:List (List C)} {r:List (Nat × Bk)}:varK b ((k,.buf o e sz rows)::r)=varK b r:=rfl
theorem Zun {b k:Nat} {E:Nat->Prop} {G:World->Prop} {r:List (Nat × Bk)}:varK b ((k,.set E G)::r)=varK b r:=rfl
theorem Zuo {p:Option Addr} {k cap:Nat}:bufK p k cap []=none:=rfl
theorem Zup {p p':Option Addr} {k cap cap' k' e sz:Nat} {rows:List (List C)} {r:List (Nat × Bk)}:bufK p k cap ((k',.buf (some (p',cap')) e sz rows)::r)=if p=p'∧k=rows.length∧cap=cap' then some k' else bufK p k cap r:=rfl
theorem Zuq {p:Option Addr} {k cap k' e sz:Nat} {rows:List (List C)} {r:List (Nat × Bk)}:bufK p k cap ((k',.buf none e sz rows)::r)=bufK p k cap r:=rfl
theorem Zur {p:Option Addr} {k cap k':Nat} {o:Option Nat} {cs:List C} {r:List (Nat × Bk)}:bufK p k cap ((k',.var o cs)::r)=bufK p k cap r:=rfl
theorem Zus {p:Option Addr} {k cap k':Nat} {E:Nat->Prop} {G:World->Prop} {r:List (Nat × Bk)}:bufK p k cap ((k',.set E G)::r)=bufK p k cap r:=rfl
theorem ZqT {b off k:Nat}:Zkh m b off (some k)=nrmV b off k (gm m k):=rfl
theorem ZqU {b off:Nat}:Zkh m b off none=.d (.one (.lit (.pointer (some ⟨b,off,none⟩)))):=rfl
theorem Zut {b off k b':Nat} {cs:List C}:nrmV b off k (some (.var (some b') cs))=if b=b' then .ref k off else .d (.one (.lit (.pointer (some ⟨b,off,none⟩)))):=rfl
theorem Zuu {p:Option Addr} {k cap k':Nat}:ZiO m p k cap (some k')=nrmB p k cap k' (gm m k'):=rfl
theorem ZyU {p:Option Addr} {k cap:Nat}:ZiO m p k cap none=.d (.one (.lit (.slice p k cap))):=rfl
theorem Zuv {p p':Option Addr} {k cap cap' k' e sz:Nat} {rows:List (List C)}:nrmB p k cap k' (some (.buf (some (p',cap')) e sz rows))=if p=p'∧k=rows.length∧cap=cap' then .buf k' else .d (.one (.lit (.slice p k cap))):=rfl
theorem rn_0:runN P ds 0 n os ⟨s,m⟩=.stop n os ⟨s,m⟩:=rfl
theorem rn_n {j:Nat} {op:Op} {t:TypeId} {p:String} {a:Array Edge}:runN P ds (j+1) n (⟨d,op,t,p,a,none⟩::os) ⟨s,m⟩=Zba P d t (n - 1) n os (runN P ds j (n - 1) os) op ⟨s,m⟩:=rfl
theorem rn_g {j:Nat} {op:Op} {t:TypeId} {p:String} {a:Array Edge} {i:Nat} {w:Bool}:runN P ds (j+1) n (⟨d,op,t,p,a,some (i,w)⟩::os) ⟨s,m⟩=Zey w (Zba P d t n n os (runN P ds j (n - 1) os) op) (ZiT d (runN P ds j (n - 1) os)) ⟨s,m⟩ ((ds[i]?.join).map (gs s)):=rfl
theorem st_o:Zkv (.stop n os ⟨s,m⟩)=some (n,os,s,m):=rfl
theorem Zuw {f:A->A}:mapS f []=[]:=rfl
theorem ZqV {f:A->A} {t:Nat} {a:A} {r:List (Nat × A)}:mapS f ((t,a)::r)=(t,f a)::mapS f r:=rfl
theorem Zux {k b k' off:Nat}:litV k b (.ref k' off)=if k'=k then .d (.one (.lit (.pointer (some ⟨b,off,none⟩)))) else .ref k' off:=rfl
theorem lv_d {k b:Nat} {x:D}:litV k b (.d x)=.d x:=rfl
theorem Zuy {k b k':Nat}:litV k b (.buf k')=.buf k':=rfl
theorem Zuz {k b k' j sz off:Nat}:litV k b (.row k' j sz off)=.row k' j sz off:=rfl
theorem ZuA {k b:Nat} {xs:List D}:litV k b (.tup xs)=.tup xs:=rfl
theorem ZyV {k b:Nat}:litV k b .no=.no:=rfl
theorem ZyW {k b:Nat}:litV k b .undef=.undef:=rfl
theorem ZuB {k k2 cap k':Nat} {p:Option Addr}:litB k p k2 cap (.buf k')=if k'=k then .d (.one (.lit (.slice p k2 cap))) else .buf k':=rfl
theorem lb_d {k k2 cap:Nat} {p:Option Addr} {x:D}:litB k p k2 cap (.d x)=.d x:=rfl
theorem ZuC {k k2 cap k' off:Nat} {p:Option Addr}:litB k p k2 cap (.ref k' off)=.ref k' off:=rfl
theorem ZuD {k k2 cap k' j sz off:Nat} {p:Option Addr}:litB k p k2 cap (.row k' j sz off)=.row k' j sz off:=rfl
theorem ZuE {k k2 cap:Nat} {p:Option Addr} {xs:List D}:litB k p k2 cap (.tup xs)=.tup xs:=rfl
theorem ZyX {k k2 cap:Nat} {p:Option Addr}:litB k p k2 cap .no=.no:=rfl
theorem ZyY {k k2 cap:Nat} {p:Option Addr}:litB k p k2 cap .undef=.undef:=rfl
theorem ZuF:Zcd [] s=s:=rfl
theorem ZqW {k:Nat} {ks:List Nat}:Zcd (k::ks) s=Zcd ks (Zan k s):=rfl
theorem ZuG:Zci [] m=m:=rfl
theorem ZqX {k:Nat} {ks:List Nat}:Zci (k::ks) m=Zci ks (remM k m):=rfl
theorem ZqY {k:Nat} {ks:List Nat} {x:Bk} {xs:List Bk}:zipM (k::ks) (x::xs)=(k,x)::zipM ks xs:=rfl
theorem ZuH {xs:List Bk}:zipM [] xs=[]:=rfl
theorem ZyZ {ks:List Nat}:zipM ks []=[]:=by cases ks <;> rfl
def getC:Option Bk->Option (List Bk)->Option (List Bk)
 | some x,some r=>some (x::r)
 | _,_=>none
theorem ZuI:getM m []=some []:=rfl
theorem ZiX {k:Nat} {ks:List Nat}:getM m (k::ks)=getC (gm m k) (getM m ks):=by
 show (match gm m k,getM m ks with | some x,some r=>some (x::r) | _,_=>none)=_
 cases gm m k <;> cases getM m ks <;> rfl
theorem gt_c {x:Bk} {r:List Bk}:getC (some x) (some r)=some (x::r):=rfl
theorem ZuJ {b:Nat} {cs:List C}:pinned (.var (some b) cs)=true:=rfl
theorem ZuK {q:Option Addr × Nat} {e sz:Nat} {rows:List (List C)}:pinned (.buf (some q) e sz rows)=true:=rfl
theorem ZuL {E:Nat->Prop} {G:World->Prop}:pinned (.set E G)=true:=rfl
theorem Zy0 {p p':Option Addr} {k cap k' cap':Nat} {rows:List (List C)}:datC p k cap rows (.lit (.slice p' k' cap'))=if p'=p∧k'=k∧cap'=cap then .sl rows else .lit (.slice p' k' cap'):=rfl
theorem ZuM {p:Option Addr} {k cap:Nat} {rows:List (List C)} {kk:IntKind} {i:Int}:datC p k cap rows (.lit (.int kk i))=.lit (.int kk i):=rfl
theorem ZuN {p:Option Addr} {k cap:Nat} {rows:List (List C)} {b:ByteArray}:datC p k cap rows (.lit (.string b))=.lit (.string b):=rfl
theorem ZqZ {p:Option Addr} {k cap:Nat} {rows:List (List C)} {b:Bool}:datC p k cap rows (.lit (.bool b))=.lit (.bool b):=rfl
theorem ZuO {p:Option Addr} {k cap:Nat} {rows:List (List C)} {q:Option Addr}:datC p k cap rows (.lit (.pointer q))=.lit (.pointer q):=rfl
theorem ZuP {p:Option Addr} {k cap:Nat} {rows:List (List C)} {q:Option Nat}:datC p k cap rows (.lit (.map q))=.lit (.map q):=rfl
theorem dc_s {p:Option Addr} {k cap:Nat} {rows rs:List (List C)}:datC p k cap rows (.sl rs)=.sl rs:=rfl
theorem dc_p {p:Option Addr} {k cap:Nat} {rows:List (List C)} {cs:List C}:datC p k cap rows (.ptr cs)=.ptr cs:=rfl
theorem dc_f {p:Option Addr} {k cap:Nat} {rows:List (List C)} {f:FuncId} {cs:List C}:datC p k cap rows (.fn f cs)=.fn f cs:=rfl
theorem ZuQ {p:Option Addr} {k cap:Nat} {rows:List (List C)} {c:C}:datA p k cap rows (.d (.one c))=.d (.one (datC p k cap rows c)):=rfl
theorem ZuR {p:Option Addr} {k cap:Nat} {rows:List (List C)} {cs:List C}:datA p k cap rows (.d (.agg cs))=.d (.agg (cs.map (datC p k cap rows))):=rfl
theorem ZuS {p:Option Addr} {k cap k' off:Nat} {rows:List (List C)}:datA p k cap rows (.ref k' off)=.ref k' off:=rfl
theorem ZuT {p:Option Addr} {k cap:Nat} {rows:List (List C)}:datS p k cap rows [] s=s:=rfl
theorem Zq0 {p:Option Addr} {k cap t:Nat} {rows:List (List C)} {ts:List Nat}:datS p k cap rows (t::ts) s=datS p k cap rows ts ((t,datA p k cap rows (gs s t))::s):=rfl
theorem ZuU {p:Option Addr} {k cap:Nat} {rows:List (List C)}:datM p k cap rows [] m=m:=rfl
theorem Zq1 {p:Option Addr} {k cap t:Nat} {rows:List (List C)} {ts:List Nat}:datM p k cap rows (t::ts) m=datM p k cap rows ts (datV p k cap rows t m (gm m t)):=rfl
theorem ZuV {p:Option Addr} {k cap t:Nat} {rows:List (List C)} {o:Option Nat} {cs:List C}:datV p k cap rows t m (some (.var o cs))=(t,.var o (cs.map (datC p k cap rows)))::remM t m:=rfl
def unD:A->Option D
 | .d x=>some x
 | _=>none
def Znk:Option D->Option (List D)->Option (List D)
 | some x,some r=>some (x::r)
 | _,_=>none
def resD (P:Program) (σ:St):List RS->Option (List D)
 | []=>some []
 | t::ts=>Znk (unD (resA P σ t)) (resD P σ ts)
theorem ZuW:resD P ⟨s,m⟩ []=some []:=rfl
theorem Zq2 {t:RS} {ts:List RS}:resD P ⟨s,m⟩ (t::ts)=Znk (unD (resA P ⟨s,m⟩ t)) (resD P ⟨s,m⟩ ts):=rfl
theorem Zq3 {x:D} {r:List D}:Znk (some x) (some r)=some (x::r):=rfl
theorem ud_d {x:D}:unD (.d x)=some x:=rfl
end
theorem ZfP {P:Program} {σ:St}:∀ {ts:List RS} {r:List D},resD P σ ts=some r->Zcb P σ ts r
 | [],r,h=>by simp only [resD,Taq] at h;subst h;trivial
 | t::ts,r,h=>by
  simp only [resD] at h;unfold Znk at h;split at h
  ·rename_i x r' hx hr;injection h with h;subst h
   refine ⟨?_,ZfP hr⟩;unfold unD at hx;split at hx
   ·rename_i y hy;injection hx with hx;subst hx;exact hy
   ·cases hx
  ·cases h
end Go.Proofs.YtmdkimnlbaahbaaGreat
set_option maxRecDepth 10000
namespace Go.Proofs.YtmdkimnlbaahbaaGreat
open Go.RowKit
theorem tt_0:(ZaV Tryz.prog 2=some .one)∧(Za1 Tryz.prog 2=some 1)∧(ZaP Tryz.prog 2=some [.lit (.int .i64 0)])∧(ZaV Tryz.prog 3=some .one)∧(Za1 Tryz.prog 3=some 1)∧(ZaP Tryz.prog 3=some [.lit (.int .i64 0)])∧(ZaV Tryz.prog 4=some .one)∧(Za1 Tryz.prog 4=some 1)∧(ZaP Tryz.prog 4=some [.lit (.bool false)])∧(Tryz.prog.underlying 4=some .bool)∧(ZaV Tryz.prog 5=some .one)∧(Za1 Tryz.prog 5=some 1)∧(ZaP Tryz.prog 5=some [.lit (.int .u8 0)])∧(ZaV Tryz.prog 9=some .one)∧(Za1 Tryz.prog 9=some 1)∧(ZaP Tryz.prog 9=some [.lit (.string ByteArray.empty)])∧(lenT Tryz.prog #[9]=some false)∧(Tryz.prog.underlying 9=some .string)∧(ZaV Tryz.prog 22=some .one)∧(Za1 Tryz.prog 22=some 1)∧(ZaP Tryz.prog 22=some [.sl []])∧(Zbn Tryz.prog 22=some 1)∧(lenT Tryz.prog #[22]=some true)∧(Zbh Tryz.prog 22=some (5,1,1))∧(ZaV Tryz.prog 24=some .one)∧(Za1 Tryz.prog 24=some 1)∧(ZaP Tryz.prog 24=some [.sl []])∧(Zbn Tryz.prog 24=some 1)∧(lenT Tryz.prog #[24]=some true)∧(Zbh Tryz.prog 24=some (9,1,16))∧(ZaV Tryz.prog 25=some .one)∧(Za1 Tryz.prog 25=some 1)∧(ZaP Tryz.prog 25=some [.sl []])∧(Zbn Tryz.prog 25=some 2)∧(lenT Tryz.prog #[25]=some true)∧(Zbh Tryz.prog 25=some (94,2,16))∧(ZaV Tryz.prog 27=some (.agg 2))∧(Za1 Tryz.prog 27=some 2)∧(ZaP Tryz.prog 27=some [.sl [],.sl []])∧(Zbm Tryz.prog 27=true):=by repeat' (first | refine ai ?_ ?_ | kernel_rfl)
theorem tt_1:(Zdb Tryz.prog 27=some [.lit (.slice none 0 0),.lit (.slice none 0 0)])∧(offT Tryz.prog 27 0=some (0,24))∧(offT Tryz.prog 27 1=some (1,25))∧(ZaV Tryz.prog 28=some .one)∧(Za1 Tryz.prog 28=some 1)∧(ZaP Tryz.prog 28=some [.sl []])∧(Zbn Tryz.prog 28=some 5)∧(lenT Tryz.prog #[28]=some true)∧(Zbh Tryz.prog 28=some (81,5,56))∧(ZaV Tryz.prog 30=some (.agg 3))∧(Za1 Tryz.prog 30=some 3)∧(ZaP Tryz.prog 30=some [.sl [],.sl [],.sl []])∧(Zbm Tryz.prog 30=true)∧(Zdb Tryz.prog 30=some [.lit (.slice none 0 0),.lit (.slice none 0 0),.lit (.slice none 0 0)])∧(offT Tryz.prog 30 0=some (0,27))∧(offT Tryz.prog 30 1=some (2,28))∧(ZaV Tryz.prog 31=some .one)∧(Za1 Tryz.prog 31=some 1)∧(ZaP Tryz.prog 31=some [.sl []])∧(Zbn Tryz.prog 31=some 2)∧(lenT Tryz.prog #[31]=some true)∧(Zbh Tryz.prog 31=some (101,2,32))∧(ZaV Tryz.prog 32=some .one)∧(Za1 Tryz.prog 32=some 1)∧(ZaP Tryz.prog 32=some [.sl []])∧(Zbn Tryz.prog 32=some 4)∧(lenT Tryz.prog #[32]=some true)∧(Zbh Tryz.prog 32=some (34,4,56))∧(ZaV Tryz.prog 34=some (.agg 4))∧(Za1 Tryz.prog 34=some 4)∧(ZaP Tryz.prog 34=some [.lit (.int .i64 0),.lit (.string ByteArray.empty),.lit (.int .i64 0),.sl []])∧(Zbm Tryz.prog 34=true)∧(Zdb Tryz.prog 34=some [.lit (.int .i64 0),.lit (.string ByteArray.empty),.lit (.int .i64 0),.lit (.slice none 0 0)])∧(offT Tryz.prog 34 0=some (0,3))∧(offT Tryz.prog 34 1=some (1,9))∧(offT Tryz.prog 34 2=some (2,3))∧(offT Tryz.prog 34 3=some (3,32))∧(ZaV Tryz.prog 38=some .one)∧(Za1 Tryz.prog 38=some 1)∧(ZaP Tryz.prog 38=some [.sl []]):=by repeat' (first | refine ai ?_ ?_ | kernel_rfl)
theorem tt_2:(Zbn Tryz.prog 38=some 8)∧(lenT Tryz.prog #[38]=some true)∧(Zbh Tryz.prog 38=some (58,8,112))∧(ZaV Tryz.prog 43=some .one)∧(Za1 Tryz.prog 43=some 1)∧(ZaP Tryz.prog 43=some [.sl []])∧(Zbn Tryz.prog 43=some 1)∧(lenT Tryz.prog #[43]=some true)∧(Zbh Tryz.prog 43=some (3,1,8))∧(ZaV Tryz.prog 48=some .one)∧(Za1 Tryz.prog 48=some 1)∧(ZaP Tryz.prog 48=some [.sl []])∧(Zbn Tryz.prog 48=some 1)∧(lenT Tryz.prog #[48]=some true)∧(Zbh Tryz.prog 48=some (43,1,24))∧(ZaV Tryz.prog 50=some (.agg 2))∧(Za1 Tryz.prog 50=some 2)∧(ZaP Tryz.prog 50=some [.lit (.int .i64 0),.sl []])∧(Zbm Tryz.prog 50=true)∧(Zdb Tryz.prog 50=some [.lit (.int .i64 0),.lit (.slice none 0 0)])∧(offT Tryz.prog 50 0=some (0,3))∧(offT Tryz.prog 50 1=some (1,48))∧(ZaV Tryz.prog 58=some (.agg 8))∧(Za1 Tryz.prog 58=some 8)∧(ZaP Tryz.prog 58=some [.lit (.int .i64 0),.lit (.string ByteArray.empty),.lit (.int .i64 0),.sl [],.lit (.int .i64 0),.lit (.string ByteArray.empty),.lit (.int .i64 0),.sl []])∧(Zbm Tryz.prog 58=true)∧(Zdb Tryz.prog 58=some [.lit (.int .i64 0),.lit (.string ByteArray.empty),.lit (.int .i64 0),.lit (.slice none 0 0),.lit (.int .i64 0),.lit (.string ByteArray.empty),.lit (.int .i64 0),.lit (.slice none 0 0)])∧(offT Tryz.prog 58 0=some (0,34))∧(offT Tryz.prog 58 1=some (4,34))∧(ZaV Tryz.prog 60=some .one)∧(Za1 Tryz.prog 60=some 1)∧(ZaV Tryz.prog 79=some .one)∧(Za1 Tryz.prog 79=some 1)∧(ZaP Tryz.prog 79=some [.sl []])∧(Zbn Tryz.prog 79=some 2)∧(lenT Tryz.prog #[79]=some true)∧(Zbh Tryz.prog 79=some (97,2,32))∧(ZaV Tryz.prog 81=some (.agg 5))∧(Za1 Tryz.prog 81=some 5)∧(ZaP Tryz.prog 81=some [.lit (.string ByteArray.empty),.sl [],.lit (.bool false),.lit (.bool false),.lit (.int .i64 0)]):=by repeat' (first | refine ai ?_ ?_ | kernel_rfl)
theorem tt_3:(Zbm Tryz.prog 81=true)∧(Zdb Tryz.prog 81=some [.lit (.string ByteArray.empty),.lit (.slice none 0 0),.lit (.bool false),.lit (.bool false),.lit (.int .i64 0)])∧(offT Tryz.prog 81 0=some (0,9))∧(offT Tryz.prog 81 1=some (1,79))∧(offT Tryz.prog 81 2=some (2,4))∧(offT Tryz.prog 81 3=some (3,4))∧(offT Tryz.prog 81 4=some (4,3))∧(ZaV Tryz.prog 92=some (.agg 3))∧(Za1 Tryz.prog 92=some 3)∧(ZaP Tryz.prog 92=some [.sl [],.lit (.int .i64 0),.lit (.int .i64 0)])∧(Zbm Tryz.prog 92=true)∧(Zdb Tryz.prog 92=some [.lit (.slice none 0 0),.lit (.int .i64 0),.lit (.int .i64 0)])∧(offT Tryz.prog 92 0=some (0,22))∧(offT Tryz.prog 92 1=some (1,3))∧(offT Tryz.prog 92 2=some (2,3))∧(ZaV Tryz.prog 94=some (.agg 2))∧(Za1 Tryz.prog 94=some 2)∧(ZaP Tryz.prog 94=some [.lit (.int .i64 0),.lit (.int .i64 0)])∧(Zbm Tryz.prog 94=true)∧(offT Tryz.prog 94 0=some (0,3))∧(offT Tryz.prog 94 1=some (1,3))∧(ZaV Tryz.prog 97=some (.agg 2))∧(Za1 Tryz.prog 97=some 2)∧(ZaP Tryz.prog 97=some [.sl [],.lit (.int .i64 0)])∧(Zbm Tryz.prog 97=true)∧(Zdb Tryz.prog 97=some [.lit (.slice none 0 0),.lit (.int .i64 0)])∧(offT Tryz.prog 97 0=some (0,43))∧(offT Tryz.prog 97 1=some (1,3))∧(ZaV Tryz.prog 101=some (.agg 2))∧(Za1 Tryz.prog 101=some 2)∧(ZaP Tryz.prog 101=some [.lit (.int .i64 0),.sl []])∧(Zbm Tryz.prog 101=true)∧(Zdb Tryz.prog 101=some [.lit (.int .i64 0),.lit (.slice none 0 0)])∧(offT Tryz.prog 101 0=some (0,3))∧(offT Tryz.prog 101 1=some (1,43))∧(ZaV Tryz.prog 103=some .one)∧(Za1 Tryz.prog 103=some 1)∧(ZaV Tryz.prog 128=some (.agg 3))∧(Za1 Tryz.prog 128=some 3)∧(ZaP Tryz.prog 128=some [.sl [],.sl [],.sl []]):=by repeat' (first | refine ai ?_ ?_ | kernel_rfl)
theorem tt_4:(Zbm Tryz.prog 128=true)∧(Zdb Tryz.prog 128=some [.lit (.slice none 0 0),.lit (.slice none 0 0),.lit (.slice none 0 0)])∧(offT Tryz.prog 128 0=some (0,43))∧(offT Tryz.prog 128 1=some (1,43))∧(offT Tryz.prog 128 2=some (2,43))∧(ZaV Tryz.prog 131=some .one)∧(Za1 Tryz.prog 131=some 1)∧(ZaV Tryz.prog 133=some (.agg 7))∧(Za1 Tryz.prog 133=some 7)∧(ZaP Tryz.prog 133=some [.sl [],.sl [],.sl [],.sl [],.sl [],.sl [],.lit (.map none)])∧(Zbm Tryz.prog 133=true)∧(Zdb Tryz.prog 133=some [.lit (.slice none 0 0),.lit (.slice none 0 0),.lit (.slice none 0 0),.lit (.slice none 0 0),.lit (.slice none 0 0),.lit (.slice none 0 0),.lit (.map none)])∧(offT Tryz.prog 133 0=some (0,128))∧(offT Tryz.prog 133 1=some (3,30))∧(offT Tryz.prog 133 2=some (6,131))∧(ZaV Tryz.prog 136=some .one)∧(Za1 Tryz.prog 136=some 1)∧(ZaV Tryz.prog 140=some .one)∧(Za1 Tryz.prog 140=some 1)∧(ZaP Tryz.prog 140=some [.lit (.int .u64 0)]):=by repeat' (first | refine ai ?_ ?_ | kernel_rfl)
end Go.Proofs.YtmdkimnlbaahbaaGreat
namespace Go.Proofs.YtmdkimnlbaahbaaGreat
open Go.RowKit
theorem pm_0:type_of% (aj16 @Zkx @ZsS @ro_n @ro_g @ZsT @pk_t @pk_f @sk_r @g_no @qB_0 @qB_s @ZsU @ZsV @ZsW @Zjn (aj15 @ZpT @Zjo @ZpU @ZxU @R_un @Zl8 @ZxV @ZsX @ZpV @ZxW @ZxX @ZxY @ZsY @ZpW (@ZpX))):=aj16 @Zkx @ZsS @ro_n @ro_g @ZsT @pk_t @pk_f @sk_r @g_no @qB_0 @qB_s @ZsU @ZsV @ZsW @Zjn (aj15 @ZpT @Zjo @ZpU @ZxU @R_un @Zl8 @ZxV @ZsX @ZpV @ZxW @ZxX @ZxY @ZsY @ZpW (@ZpX))
theorem pm_1:type_of% (aj16 @Zh9 @Zkz @ZsZ @ZpY @Zs0 @ZpZ @Zp0 @Zp1 @Zs1 @Zp2 @ZnI @ZxZ @fA_d @Zs2 @Zx0 (aj15 @Zx1 @Zx2 @Zx3 @Zs3 @ky_d @Zs4 @Zs5 @Zs6 @Zp3 @ZnJ @Zp4 @Zx4 @Zp5 @ZnK (@Zjp))):=aj16 @Zh9 @Zkz @ZsZ @ZpY @Zs0 @ZpZ @Zp0 @Zp1 @Zs1 @Zp2 @ZnI @ZxZ @fA_d @Zs2 @Zx0 (aj15 @Zx1 @Zx2 @Zx3 @Zs3 @ky_d @Zs4 @Zs5 @Zs6 @Zp3 @ZnJ @Zp4 @Zx4 @Zp5 @ZnK (@Zjp))
theorem pm_2:type_of% (aj16 @ZnL @Zs7 @Zs8 @Zp6 @Zp7 @Zx5 @Zx6 @Zx7 @Zx8 @s_bf @Zp8 @Zp9 @Zx9 @Zya @Zs9 (aj15 @Zyb @Zyc @Zyd @Zye @Zqa @Zqb @Zqc @Zyf @Zta @Ztb @Ztc @Ztd @kl_d @Zte (@ZnN))):=aj16 @ZnL @Zs7 @Zs8 @Zp6 @Zp7 @Zx5 @Zx6 @Zx7 @Zx8 @s_bf @Zp8 @Zp9 @Zx9 @Zya @Zs9 (aj15 @Zyb @Zyc @Zyd @Zye @Zqa @Zqb @Zqc @Zyf @Zta @Ztb @Ztc @Ztd @kl_d @Zte (@ZnN))
theorem pm_3:type_of% (aj16 @Zyg @Ztf @Zqd @Zyh @Zqe @Ztg @Zqf @Zqg @ib_d @Zth @Zyi @Zqh @Zqi @Zti @Zyj (aj15 @Zqj @Ztj @Zyk @Ztk @Zyl @t_sl @Zym @ZiW @Zqn @Zyo @Zyp @Zyq @Ztm @Zyr (@Zys))):=aj16 @Zyg @Ztf @Zqd @Zyh @Zqe @Ztg @Zqf @Zqg @ib_d @Zth @Zyi @Zqh @Zqi @Zti @Zyj (aj15 @Zqj @Ztj @Zyk @Ztk @Zyl @t_sl @Zym @ZiW @Zqn @Zyo @Zyp @Zyq @Ztm @Zyr (@Zys))
theorem pm_4:type_of% (aj16 @Zqo @Ztn @Zto @Ztp @Zyt @Zyu @Zqp @Ztq @Ztr @Zqq @Zyv @Zqr @Zqs @Zyw @Zyx (aj15 @Zts @Ztt @Zqt @Zyy @Ztu @Zyz @Ztv @ZyA @ZyB @ZyC @ZyD @Ztw @Zqu @ZyE (@Zqv))):=aj16 @Zqo @Ztn @Zto @Ztp @Zyt @Zyu @Zqp @Ztq @Ztr @Zqq @Zyv @Zqr @Zqs @Zyw @Zyx (aj15 @Zts @Ztt @Zqt @Zyy @Ztu @Zyz @Ztv @ZyA @ZyB @ZyC @ZyD @Ztw @Zqu @ZyE (@Zqv))
theorem pm_5:type_of% (aj16 @Ztx @Zqw @ZyF @ZyG @ZyH @Zqx @Zty @Zqy @Zqz @ZyI @ZqA @ZqB @Ztz @ZqC @ZqD (aj15 @ZtA @ZqE @ZqF @ZqG @ZtB @ZqH @ZyJ @ZqI @ZqJ @ZtC @ZnS @ZqK @ZqL @ZqM (@ZqN))):=aj16 @Ztx @Zqw @ZyF @ZyG @ZyH @Zqx @Zty @Zqy @Zqz @ZyI @ZqA @ZqB @Ztz @ZqC @ZqD (aj15 @ZtA @ZqE @ZqF @ZqG @ZtB @ZqH @ZyJ @ZqI @ZqJ @ZtC @ZnS @ZqK @ZqL @ZqM (@ZqN))
theorem pm_6:type_of% (aj16 @sl_2 @sl_3 @ZtD @ZtE @ZqO @ZtF @ZqP @ZtG @ZtH @ZyK @ZtI @ZyL @ZtJ @ZyM @ZtK (aj15 @ZqQ @ZyN @cp_s @cp_x @ZyO @co_z @co_y @ZyP @ZqR @ZqS @ZyQ @ZyR @r_no @ZtL (@ZtM))):=aj16 @sl_2 @sl_3 @ZtD @ZtE @ZqO @ZtF @ZqP @ZtG @ZtH @ZyK @ZtI @ZyL @ZtJ @ZyM @ZtK (aj15 @ZqQ @ZyN @cp_s @cp_x @ZyO @co_z @co_y @ZyP @ZqR @ZqS @ZyQ @ZyR @r_no @ZtL (@ZtM))
theorem pm_7:type_of% (aj16 @ZtN @ZtO @ZtP @ZtQ @ZtR @ZtS @ZtT @ZtU @ZtV @ZtW @ZtX @ZtY @ZtZ @Zt0 @Zt1 (aj15 @Zt2 @Zt3 @Zt4 @bb_t @Zt5 @ZyS @Zt6 @Zl9 @Zt7 @Zt8 @Zt9 @Zua @Zub @Zuc (@Zud))):=aj16 @ZtN @ZtO @ZtP @ZtQ @ZtR @ZtS @ZtT @ZtU @ZtV @ZtW @ZtX @ZtY @ZtZ @Zt0 @Zt1 (aj15 @Zt2 @Zt3 @Zt4 @bb_t @Zt5 @ZyS @Zt6 @Zl9 @Zt7 @Zt8 @Zt9 @Zua @Zub @Zuc (@Zud))
theorem pm_8:type_of% (aj16 @Zue @ZyT @nr_p @nr_s @nr_c @nr_i @Zuf @Zug @Zuh @Zui @Zuj @Zuk @Zul @Zum @Zun (aj15 @Zuo @Zup @Zuq @Zur @Zus @ZqT @ZqU @Zut @Zuu @ZyU @Zuv @rn_0 @rn_n @rn_g (@st_o))):=aj16 @Zue @ZyT @nr_p @nr_s @nr_c @nr_i @Zuf @Zug @Zuh @Zui @Zuj @Zuk @Zul @Zum @Zun (aj15 @Zuo @Zup @Zuq @Zur @Zus @ZqT @ZqU @Zut @Zuu @ZyU @Zuv @rn_0 @rn_n @rn_g (@st_o))
theorem pm_9:type_of% (aj16 @Zuw @ZqV @Zux @lv_d @Zuy @Zuz @ZuA @ZyV @ZyW @ZuB @lb_d @ZuC @ZuD @ZuE @ZyX (aj15 @ZyY @ZuF @ZqW @ZuG @ZqX @ZqY @ZuH @ZyZ @ZuI @ZiX @gt_c @ZuJ @ZuK @ZuL (@Zy0))):=aj16 @Zuw @ZqV @Zux @lv_d @Zuy @Zuz @ZuA @ZyV @ZyW @ZuB @lb_d @ZuC @ZuD @ZuE @ZyX (aj15 @ZyY @ZuF @ZqW @ZuG @ZqX @ZqY @ZuH @ZyZ @ZuI @ZiX @gt_c @ZuJ @ZuK @ZuL (@Zy0))
theorem Zy1:type_of% (aj16 @ZuM @ZuN @ZqZ @ZuO @ZuP @dc_s @dc_p @dc_f @ZuQ @ZuR @ZuS @ZuT @Zq0 @ZuU @Zq1 (aj5 @ZuV @ZuW @Zq2 @Zq3 (@ud_d))):=aj16 @ZuM @ZuN @ZqZ @ZuO @ZuP @dc_s @dc_p @dc_f @ZuQ @ZuR @ZuS @ZuT @Zq0 @ZuU @Zq1 (aj5 @ZuV @ZuW @Zq2 @Zq3 (@ud_d))
theorem Zy2:type_of% (aj6 @Zyn @Zqk @Zql @ZnO @Ztl @Zqm):=(aj6 @Zyn @Zqk @Zql @ZnO @Ztl @Zqm)
def Zee:List Nat->List (Nat × A)->List (Nat × A)
 | _,[]=>[]
 | ds,(k,a)::r=>if ds.elem k then Zee ds r else (k,a)::Zee (k::ds) r
def Zef:List Nat->List (Nat × Bk)->List (Nat × Bk)
 | _,[]=>[]
 | ds,(k,a)::r=>if ds.elem k then Zef ds r else (k,a)::Zef (k::ds) r
theorem Zw0 {s t:List (Nat × A)} (h:∀ p∈t,gs s p.1=p.2):Zcr s t:=by
 induction t with
 | nil=>exact trivial
 | cons p r ih=>exact ⟨h p Tas,ih fun q hq=>h q (Tal _ hq)⟩
theorem Zw1 {s t:List (Nat × Bk)} (h:∀ p∈t,gm s p.1=some p.2):Zcs s t:=by
 induction t with
 | nil=>exact trivial
 | cons p r ih=>exact ⟨h p Tas,ih fun q hq=>h q (Tal _ hq)⟩
theorem ZuX:∀ {s:List (Nat × A)} {ds:List Nat} {p:Nat × A},p∈Zee ds s->ds.elem p.1=false∧gs s p.1=p.2:=by
 intro s
 induction s with
 | nil=>intro ds p h;cases h
 | cons q r ih =>
  intro ds p h;obtain ⟨k,a⟩:=q;simp only [Zee] at h;by_cases hk:ds.elem k=true
  ·rw [if_pos hk] at h;have:=ih h;refine ⟨this.1,?_⟩;rw [gs,if_neg ?_]
   ·exact this.2
   ·intro e;rw [e] at this;rw [hk] at this;cases this.1
  ·rw [if_neg hk] at h;rcases Tbf.1 h with rfl | h
   ·exact ⟨by simpa using hk,by simp [gs]⟩
   ·have:=ih h;have h1:=this.1;rw [List.elem_cons] at h1;have hne:¬ p.1=k:=by intro e;simp [e] at h1
    refine ⟨?_,?_⟩
    ·cases hb:(p.1==k) with
     | true=>rw [hb] at h1;cases h1
     | false=>rw [hb] at h1;exact h1
    ·rw [gs,if_neg hne];exact this.2
theorem ZuY:∀ {s:List (Nat × Bk)} {ds:List Nat} {p:Nat × Bk},p∈Zef ds s->ds.elem p.1=false∧gm s p.1=some p.2:=by
 intro s
 induction s with
 | nil=>intro ds p h;cases h
 | cons q r ih =>
  intro ds p h;obtain ⟨k,a⟩:=q;simp only [Zef] at h;by_cases hk:ds.elem k=true
  ·rw [if_pos hk] at h;have:=ih h;refine ⟨this.1,?_⟩;rw [gm,if_neg ?_]
   ·exact this.2
   ·intro e;rw [e] at this;rw [hk] at this;cases this.1
  ·rw [if_neg hk] at h;rcases Tbf.1 h with rfl | h
   ·exact ⟨by simpa using hk,by simp [gm]⟩
   ·have:=ih h;have h1:=this.1;rw [List.elem_cons] at h1;have hne:¬ p.1=k:=by intro e;simp [e] at h1
    refine ⟨?_,?_⟩
    ·cases hb:(p.1==k) with
     | true=>rw [hb] at h1;cases h1
     | false=>rw [hb] at h1;exact h1
    ·rw [gm,if_neg hne];exact this.2
theorem ZnT {s a b:List (Nat × A)}:Zcr s (a++b) ↔ Zcr s a∧Zcr s b:=by
 induction a with
 | nil=>simp [Zcr]
 | cons p r ih=>simp [Zcr,ih,and_assoc]
theorem ZnU {s a b:List (Nat × Bk)}:Zcs s (a++b) ↔ Zcs s a∧Zcs s b:=by
 induction a with
 | nil=>simp [Zcs]
 | cons p r ih=>simp [Zcs,ih,and_assoc]
theorem ZuZ {e:Env} {mask:Nat} {Q:PX->St->Prop} {c:Code} {s:List (Nat × A)} {m:List (Nat × Bk)} {ι:Type} (ds dm:List Nat) (us:ι->List (Nat × A)) (ms:ι->List (Nat × Bk)) (ok:ι->Prop) (μ:ι->Nat) (x0:ι)
  {s0:List (Nat × A)} {m0:List (Nat × Bk)} (hs0:Zee ds s=s0) (hm0:Zef dm m=m0) {ss:ι->List (Nat × A)} {mm:ι->List (Nat × Bk)} (hss:∀ x,us x++s0=ss x) (hmm:∀ x,ms x++m0=mm x) (hs:Zcr s (us x0)) (hm:Zcs m (ms x0)) (h0:ok x0)
  (hr:∀ x,ok x->pwp e mask c ⟨ss x,mm x⟩ (fun p σ''=>match p with
   | .normal=>∃ y,ok y∧Zcr σ''.s (ss y)∧Zcs σ''.m (mm y)∧μ y < μ x
   | p=>Q p σ'')):pwp e mask (.loop c) ⟨s,m⟩ Q:=by
 refine ZwS (fun x=>⟨ss x,mm x⟩) ok μ x0 h0 ?_ ?_ hr
 ·show Zcr s (ss x0);rw [<- hss,ZnT,<- hs0];exact ⟨hs,Zw0 fun p hp=>(ZuX hp).2⟩
 ·show Zcs m (mm x0);rw [<- hmm,ZnU,<- hm0];exact ⟨hm,Zw1 fun p hp=>(ZuY hp).2⟩
theorem Zu0 {e:Env} {mask:Nat} {Q:PX->St->Prop} {σ:St} {id:Nat} {l:List Oper} (h:∀ ds,l.map (·.dst)=ds->Runs e ds 0 l σ (Zct mask Q)):pwp e mask (.region id l.toArray false) σ Q:=ZwY rfl (h _ rfl)
theorem Zak {e:Env} {mask:Nat} {Q:PX->St->Prop} {σ:St} {id:Nat} {l:List Oper} (n:Nat) (hr:regX l.toArray n=true) (h:∀ ds,l.map (·.dst)=ds->Runs e ds n l σ (Zct mask Q)):pwp e mask (.region id l.toArray true) σ Q:=ZwZ n hr rfl (h _ rfl)
theorem Zq4 {mask:Nat}:Zda mask []=[]:=rfl
theorem Zq5 {mask k:Nat} {a:A} {r:List (Nat × A)}:Zda mask ((k,a)::r)=if mask.testBit k=true then (k,a)::Zda mask r else Zda mask r:=rfl
theorem Zy3 {m n:Nat}:m.testBit n=((1 &&& (m >>> n)) != 0):=rfl
def endR (mask:Nat):Res->Option (List (Nat × A) × List (Nat × Bk))
 | .done σ=>some (Zda mask σ.s,σ.m)
 | _=>none
theorem Zu1 {mask:Nat} {s:List (Nat × A)} {m:List (Nat × Bk)}:endR mask (.done ⟨s,m⟩)=some (Zda mask s,m):=rfl
theorem reT {e:Env} {mask:Nat} {Q:PX->St->Prop} {ds:List (Option Nat)} {n:Nat} {os:List Oper} {σ:St} {s2:List (Nat × A)} {m2:List (Nat × Bk)} (h:endR mask (ZaQ e.P ds n os σ)=some (s2,m2)) (hQ:Q .normal ⟨s2,m2⟩):Runs e ds n os σ (Zct mask Q):=by
 cases hr:ZaQ e.P ds n os σ with
 | bad=>rw [hr] at h;cases h
 | call q c args d n' os' σ'=>rw [hr] at h;cases h
 | map q d n' os' σ'=>rw [hr] at h;cases h
 | stop n' os' σ'=>rw [hr] at h;cases h
 | done σ' =>
  rw [hr] at h;simp only [endR,Taq,Prod.mk.injEq] at h;obtain ⟨h1,h2⟩:=h;refine Zeq hr ?_;unfold Zct;rw [h1,h2];exact hQ
def ZnV:Res->Option (FuncId × List D × Option Nat × Nat × List Oper × St)
 | .call q c args d n os σ=>(ZdU q c args σ).map (fun x=>(x.1,x.2.1,d,n,os,x.2.2))
 | _=>none
theorem ZnW {q:Bool} {c:Operand} {args:List Operand} {d:Option Nat} {n:Nat} {os:List Oper} {σ:St}:ZnV (.call q c args d n os σ)=(ZdU q c args σ).map (fun x=>(x.1,x.2.1,d,n,os,x.2.2)):=rfl
theorem rcT {e:Env} {K:St->Prop} {ds:List (Option Nat)} {n n':Nat} {os os':List Oper} {σ:St} {f:FuncId} {xs:List D} {d:Option Nat} {r:List D} {s2 s3:List (Nat × A)} {m2:List (Nat × Bk)} (h:ZnV (ZaQ e.P ds n os σ)=some (f,xs,d,n',os',⟨s2,m2⟩)) (hc:Con e f xs r) (h2:setA s2 d (retA r)=s3) (hK:Runs e ds n' os' ⟨s3,m2⟩ K):Runs e ds n os σ K:=by
 cases hr:ZaQ e.P ds n os σ with
 | bad=>rw [hr] at h;cases h
 | done σ'=>rw [hr] at h;cases h
 | map q d n' os' σ'=>rw [hr] at h;cases h
 | stop n' os' σ'=>rw [hr] at h;cases h
 | call q c args d1 n1 os1 σ1 =>
  rw [hr] at h;simp only [ZnV,Tav,Prod.mk.injEq] at h;obtain ⟨⟨f',xs',σ2⟩,h1,rfl,rfl,rfl,rfl,rfl,h3⟩:=h;simp only at h3;subst h3;exact Zzu hr h1 hc h2 hK
theorem wkI {e:Env} {mask:Nat} {Q:PX->St->Prop} {σ:St} {c:Code} (h:pwp e mask c σ Q):∃ σ1,Wk σ σ1∧pwp e mask c σ1 Q:=⟨σ,Wk.refl σ,h⟩
theorem Zy4 {σ:St} {P:Program} {ts:List RS} {R:List D->Prop} (ks:List Nat) (r:List D) {σ1:St} (hr:R r) (hf:frzs ks σ=σ1) (h:Zcb P σ1 ts r):Znf P ts R .ret σ:=⟨ks,r,hr,by rw [hf];exact h⟩
theorem Wk.trans {a b c:St} (h:Wk a b) (k:Wk b c):Wk a c:=by
 refine ⟨fun t=>?_,fun t x hx=>h.2 t x (k.2 t x hx)⟩;rcases k.1 t with q | q
 ·rcases h.1 t with r | r
  ·exact .inl (q.trans r)
  ·exact .inr (q.trans r)
 ·exact .inr q
theorem Zu2 {e:Env} {mask:Nat} {Q:PX->St->Prop} {a:Code} {s:List (Nat × A)} {m:List (Nat × Bk)} {ι:Type} (hQ:∀ σ σ1,Wk σ σ1->Q .normal σ1->Q .normal σ) (ds dm:List Nat) (us:ι->List (Nat × A)) (ms:ι->List (Nat × Bk)) (R:ι->Prop)
  {s0:List (Nat × A)} {m0:List (Nat × Bk)} (hs0:Zee ds s=s0) (hm0:Zef dm m=m0) {ss:ι->List (Nat × A)} {mm:ι->List (Nat × Bk)} (hss:∀ x,us x++s0=ss x) (hmm:∀ x,ms x++m0=mm x)
  (h:pwp e mask a ⟨s,m⟩ (fun x σ'=>match x with
   | .normal=>∃ y,R y∧Zcr σ'.s (ss y)∧Zcs σ'.m (mm y)
   | x=>Q x σ')) (hb:∀ x,R x->Q .normal ⟨ss x,mm x⟩):pwp e mask a ⟨s,m⟩ Q:=by
 refine ZwR (fun p σ' hq=>?_) a _ h
 cases p with
 | normal =>
  obtain ⟨y,h1,h2,h3⟩:=hq;exact hQ _ _ ⟨fun t=>Zhd h2,fun t x=>Zhe h3⟩ (hb y h1)
 | exit id=>exact hq
 | ret=>exact hq
theorem okL {α:Type} {fs:List F} {e:α->List C} {p:α->Prop} (hk:∀ a,p a->ZbO fs (e a)):∀ {l:List α},(∀ x∈l,p x)->Zcx fs (l.map e)
 | [],_=>by simp [Zcx]
 | a::l,h=>by
  simp only [Tbt,Zcx];exact ⟨hk a (h a (by simp)),okL hk (fun x hx=>h x (by simp [hx]))⟩
def Zat (n:Int):List C:=[.lit (.int .i64 n)]
def Zby (s:ByteArray):List C:=[.lit (.string s)]
def ZbM (p:Int × Int):List C:=[.lit (.int .i64 p.1),.lit (.int .i64 p.2)]
def ZAF (p:Int × Int):Prop:=I64 p.1∧I64 p.2
def Zy5 (s:ByteArray):Prop:=s.size<=maxLen
structure Srt where
 names:List ByteArray
 subs:List (Int × Int)
def Za3 (s:Srt):List C:=[.sl (s.names.map Zby),.sl (s.subs.map ZbM)]
def ZkB (s:Srt):Prop:=(∀ x∈s.names,Zy5 x)∧∀ x∈s.subs,ZAF x
structure Dcl where
 args:List Int
 res:Int
def ZgU (d:Dcl):List C:=[.sl (d.args.map Zat),.lit (.int .i64 d.res)]
def ZAG (d:Dcl):Prop:=(∀ x∈d.args,I64 x)∧I64 d.res
structure Opr where
 name:ByteArray
 decls:List Dcl
 assoc:Bool
 comm:Bool
 unit:Int
def ZaU (o:Opr):List C:=[.lit (.string o.name),.sl (o.decls.map ZgU),.lit (.bool o.assoc),.lit (.bool o.comm),.lit (.int .i64 o.unit)]
def ZAH (o:Opr):Prop:=Zy5 o.name∧(∀ x∈o.decls,ZAG x)∧I64 o.unit
structure Sgn where
 sorts:Srt
 ops:List Opr
def Zag (s:Sgn):List C:=[.sl (s.sorts.names.map Zby),.sl (s.sorts.subs.map ZbM),.sl (s.ops.map ZaU)]
def ZbJ (s:Sgn):Prop:=ZkB s.sorts∧∀ x∈s.ops,ZAH x
theorem Rep.at {α:Type} {w:World} {S:Nat->Prop} {fs:List F} {e:α->List C} {p:α->Prop} (hk:∀ a,p a->ZbO fs (e a)) {l:List α} (hl:∀ x∈l,p x) {A:Option Addr} {m cap k:Nat} {a:α}
  (h:Rep w S (.sl (l.map e)) (.slice A m cap)) (ha:l[k]?=some a):∃ b off,A=some ⟨b,off,none⟩∧S b∧b < w.heap.size∧Zaf w S b (off+k * fs.length) (e a):=by
 have hkl:k < l.length:=(Tad.1 ha).1;obtain ⟨A',m',cap',hf,hm,_,_⟩:=h.form;injection hf with h1 h2 h3
 subst h1 h2 h3;obtain ⟨b,off,r,rfl,hS,hbz,hget,hokr,hrow⟩:=h.get (okL hk hl) (i:=k) (by rw [<- hm];simpa using hkl);refine ⟨b,off,rfl,hS,hbz,?_⟩;rw [Taz,ha] at hget;simp only [Option.map_some,Taq] at hget;rw [hget];exact hrow
def ZbX (l:List Int):List C:=[.sl (l.map Zat)]
def Zia (l:List Int):Prop:=∀ x∈l,I64 x
structure Alg where
 size:Int
 tables:List (List Int)
def Zbz (a:Alg):List C:=[.lit (.int .i64 a.size),.sl (a.tables.map ZbX)]
def Zhf (a:Alg):Prop:=I64 a.size∧∀ t∈a.tables,Zia t
noncomputable def e0:Env:=⟨Tryz.prog,fun _=>False,fun _=>True,False⟩
noncomputable def e1:Env:=⟨Tryz.prog,fun _=>False,fun _=>True,True⟩
theorem e1P:e1.P=Tryz.prog:=rfl
theorem Znl:e1.Ok:=⟨fun _ _ _ _ _=>trivial,by kernel_rfl⟩
theorem Zy6 {f:FuncId} {args r:List D} (h:Con e1 f args r):Con e0 f args r :=
 ⟨h.1,fun w S vs hS hE hG hvs=>(h.2 w S vs hS hE hG hvs).mono fun en w' ⟨v,h1,h2,h3,h4⟩=>⟨v,h1,⟨h2.os,h2.tape,h2.output,fun d=>d.elim,h2.size,h2.block⟩,h3,h4⟩⟩
theorem e0P:e0.P=Tryz.prog:=rfl
theorem ZkC:e0.Ok:=⟨fun _ _ _ _ _=>trivial,by kernel_rfl⟩
theorem ZcV {α:Type} {e:α->List C} {n:Nat} (h:∀ a,((e a).length==n && (e a).all Zay)=true) (l:List α):ZaL n (l.map e)=true:=by
 unfold ZaL;rw [List.all_map];exact List.all_eq_true.2 fun a _=>h a
theorem Zma {n:Nat}:ZaL n []=true:=rfl
theorem ZkD {n:Nat} {r:List C} {rs:List (List C)}:ZaL n (r::rs)=(r.length==n && r.all Zay && ZaL n rs):=rfl
theorem Zib (l:List Int):ZaL 1 (l.map Zat)=true:=ZcV (e:=Zat) (n:=1) (fun _=>rfl) l
theorem Zic (l:List ByteArray):ZaL 1 (l.map Zby)=true:=ZcV (e:=Zby) (n:=1) (fun _=>rfl) l
theorem ZnX (l:List (Int × Int)):ZaL 2 (l.map ZbM)=true:=ZcV (e:=ZbM) (n:=2) (fun _=>rfl) l
theorem Zu3 (l:List Dcl):ZaL 2 (l.map ZgU)=true:=ZcV (e:=ZgU) (n:=2) (fun _=>rfl) l
theorem Zu4 (l:List Opr):ZaL 5 (l.map ZaU)=true:=ZcV (e:=ZaU) (n:=5) (fun _=>rfl) l
theorem ZiY (l:List (List Int)):ZaL 1 (l.map ZbX)=true:=ZcV (e:=ZbX) (n:=1) (fun _=>rfl) l
theorem Za2 {a b:Int} (h:a=b) (h1:-9223372036854775808<=b) (h2:b<=9223372036854775807):IntKind.i64.wrap a=b:=by rw [h];exact IntWalk.i64_in _ ⟨h1,h2⟩
theorem Zap {k:Nat} (h:k < 9223372036854775807):IntKind.i64.wrap ((k:Int)+1)=((k+1:Nat):Int):=Za2 om om om
theorem bqtt:(true==true)=true:=rfl
theorem bqtf:(true==false)=false:=rfl
theorem bqft:(false==true)=false:=rfl
theorem bqff:(false==false)=true:=rfl
theorem ZaS (n:Nat):(n:Int).toNat=n:=Tbv n
theorem gs_n {t:Nat}:gs [] t=.undef:=rfl
theorem gs_c {k t:Nat} {a:A} {r:List (Nat × A)}:gs ((k,a)::r) t=if t=k then a else gs r t:=rfl
theorem gm_n {t:Nat}:gm [] t=none:=rfl
theorem gm_c {k t:Nat} {a:Bk} {r:List (Nat × Bk)}:gm ((k,a)::r) t=if t=k then some a else gm r t:=rfl
theorem Zq6 {k:Nat}:ZcT k []=[]:=rfl
theorem Zq7 {k:Nat} {d:D} {r:List D}:ZcT k (d::r)=(k,.d d)::ZcT (k+1) r:=rfl
theorem pz:type_of% (aj16 @tt_0 @tt_1 @tt_2 @tt_3 @tt_4 @pm_0 @pm_1 @pm_2 @pm_3 @pm_4 @pm_5 @pm_6 @pm_7 @pm_8 @pm_9 (aj16 @Zy1 @Zy2 @e0P @e1P @gs_n @gs_c @gm_n @gm_c @Zq6 @Zq7 @Zib @Zic @ZnX @Zu3 @Zu4 (aj16 @ZiY @Zma @ZkD @bqtt @bqtf @bqft @bqff @Bool.and_self @Bool.or_true @Bool.true_or @Bool.or_false @Bool.false_or @Nat.zero_add @Nat.add_zero @and_self (aj16 @true_and @and_true @Bool.not_true @Bool.not_false @ZaS @Zq4 @Zq5 @Zy3 @Zu1 @ZnW @Int.natCast_nonneg @Int.toNat_zero @Int.toNat_one @Tai @List.map_nil.{0,0} (aj16 @Tat.{0} @Tau.{0} @List.drop_succ_cons.{0} @List.drop_zero.{0} @List.drop_nil.{0} @Tbb.{0} @List.take_zero.{0} @Tag.{0} @Tak.{0} @Tae.{0} @List.all_cons.{0} @List.all_nil.{0} @List.isEmpty_cons.{0} @List.isEmpty_nil.{0} @Taf.{0} (aj13 @Tah.{0} @List.append_nil.{0} @Option.map_some.{0,0} @Option.map_none.{0,0} @Option.join_some.{0} @Option.getD_some.{0} @Option.isNone_none.{0} @Option.isNone_some.{0} @Option.isSome_none.{0} @Option.isSome_some.{0} @Tbt.{0,0} @Tax.{0,0} (@Taz.{0,0}))))))):=aj16 @tt_0 @tt_1 @tt_2 @tt_3 @tt_4 @pm_0 @pm_1 @pm_2 @pm_3 @pm_4 @pm_5 @pm_6 @pm_7 @pm_8 @pm_9 (aj16 @Zy1 @Zy2 @e0P @e1P @gs_n @gs_c @gm_n @gm_c @Zq6 @Zq7 @Zib @Zic @ZnX @Zu3 @Zu4 (aj16 @ZiY @Zma @ZkD @bqtt @bqtf @bqft @bqff @Bool.and_self @Bool.or_true @Bool.true_or @Bool.or_false @Bool.false_or @Nat.zero_add @Nat.add_zero @and_self (aj16 @true_and @and_true @Bool.not_true @Bool.not_false @ZaS @Zq4 @Zq5 @Zy3 @Zu1 @ZnW @Int.natCast_nonneg @Int.toNat_zero @Int.toNat_one @Tai @List.map_nil.{0,0} (aj16 @Tat.{0} @Tau.{0} @List.drop_succ_cons.{0} @List.drop_zero.{0} @List.drop_nil.{0} @Tbb.{0} @List.take_zero.{0} @Tag.{0} @Tak.{0} @Tae.{0} @List.all_cons.{0} @List.all_nil.{0} @List.isEmpty_cons.{0} @List.isEmpty_nil.{0} @Taf.{0} (aj13 @Tah.{0} @List.append_nil.{0} @Option.map_some.{0,0} @Option.map_none.{0,0} @Option.join_some.{0} @Option.getD_some.{0} @Option.isNone_none.{0} @Option.isNone_some.{0} @Option.isSome_none.{0} @Option.isSome_some.{0} @Tbt.{0,0} @Tax.{0,0} (@Taz.{0,0}))))))
theorem sfx {p:Prop} (h:p:=by simp only [pz,↓reduceIte,Nat.reduceEqDiff,Nat.reduceAdd,Nat.reduceSub,Nat.reduceMul,Nat.reduceLeDiff,Nat.reduceBEq,Tam,decide_true,decide_false,Int.reduceLE,Int.reduceToNat,Int.reduceLT,Int.reduceEq,eq_self,Nat.reduceShiftRight,Nat.reduceAnd,Nat.reduceBneDiff,F];first | done | exact rfl):p:=h
theorem snx {p:Prop} (h:p:=by simp only [pz,↓reduceIte,Nat.reduceEqDiff,Nat.reduceAdd,Nat.reduceSub,Nat.reduceMul,Nat.reduceLeDiff,Nat.reduceBEq,Tam,decide_true,decide_false,Int.reduceLE,Int.reduceToNat,Int.reduceLT,Int.reduceEq,eq_self,Nat.reduceShiftRight,Nat.reduceAnd,Nat.reduceBneDiff];first | done | exact rfl):p:=h
theorem sfy {p:Prop} (h:p:=by simp only [pz,↓reduceIte,Nat.reduceEqDiff,Nat.reduceAdd,Nat.reduceSub,Nat.reduceMul,Nat.reduceLeDiff,Nat.reduceBEq,Tam,decide_true,decide_false,Int.reduceLE,Int.reduceToNat,Int.reduceLT,Int.reduceEq,eq_self,Nat.reduceShiftRight,Nat.reduceAnd,Nat.reduceBneDiff,F];try exact rfl):p:=h
theorem sny {p:Prop} (h:p:=by simp only [pz,↓reduceIte,Nat.reduceEqDiff,Nat.reduceAdd,Nat.reduceSub,Nat.reduceMul,Nat.reduceLeDiff,Nat.reduceBEq,Tam,decide_true,decide_false,Int.reduceLE,Int.reduceToNat,Int.reduceLT,Int.reduceEq,eq_self,Nat.reduceShiftRight,Nat.reduceAnd,Nat.reduceBneDiff];try exact rfl):p:=h
theorem sfv {p:Prop} (h:p:=by simp only [pz,↓reduceIte,Nat.reduceEqDiff,Nat.reduceAdd,Nat.reduceSub,Nat.reduceMul,Nat.reduceLeDiff,Nat.reduceBEq,Tam,decide_true,decide_false,Int.reduceLE,Int.reduceToNat,Int.reduceLT,Int.reduceEq,eq_self,Nat.reduceShiftRight,Nat.reduceAnd,Nat.reduceBneDiff,F];exact rfl):p:=h
theorem snv {p:Prop} (h:p:=by simp only [pz,↓reduceIte,Nat.reduceEqDiff,Nat.reduceAdd,Nat.reduceSub,Nat.reduceMul,Nat.reduceLeDiff,Nat.reduceBEq,Tam,decide_true,decide_false,Int.reduceLE,Int.reduceToNat,Int.reduceLT,Int.reduceEq,eq_self,Nat.reduceShiftRight,Nat.reduceAnd,Nat.reduceBneDiff];exact rfl):p:=h
theorem Zao:∀ n,Zat n=[.lit (.int .i64 n)]:=fun _=>rfl
theorem ZaG:∀ d,ZgU d=[.sl (d.args.map Zat),.lit (.int .i64 d.res)]:=fun _=>rfl
theorem Zae:∀ o,ZaU o=[.lit (.string o.name),.sl (o.decls.map ZgU),.lit (.bool o.assoc),.lit (.bool o.comm),.lit (.int .i64 o.unit)]:=fun _=>rfl
theorem Zbj:∀ s,Zag s=[.sl (s.sorts.names.map Zby),.sl (s.sorts.subs.map ZbM),.sl (s.ops.map ZaU)]:=fun _=>rfl
theorem Zbp:∀ l,ZbX l=[.sl (l.map Zat)]:=fun _=>rfl
theorem Zw2:∀ a,Zbz a=[.lit (.int .i64 a.size),.sl (a.tables.map ZbX)]:=fun _=>rfl
theorem ZAf:∀ x,retA [x]=.d x:=fun _=>rfl
theorem gB {X Y:Prop} (b:Y) (h:Y->X:=by
 intro b
 first
  | with_reducible refine Zu0 ?_
  | (first
   | refine Zak 1 (by decide +kernel) ?_
   | refine Zak 2 (by decide +kernel) ?_
   | refine Zak 3 (by decide +kernel) ?_
   | refine Zak 4 (by decide +kernel) ?_
   | refine Zak 5 (by decide +kernel) ?_
   | refine Zak 6 (by decide +kernel) ?_
   | refine Zak 7 (by decide +kernel) ?_
   | refine Zak 8 (by decide +kernel) ?_
   | refine Zak 9 (by decide +kernel) ?_
   | refine Zak 10 (by decide +kernel) ?_
   | refine Zak 11 (by decide +kernel) ?_
   | refine Zak 12 (by decide +kernel) ?_
   | refine Zak 13 (by decide +kernel) ?_
   | refine Zak 14 (by decide +kernel) ?_
   | refine Zak 15 (by decide +kernel) ?_
   | refine Zak 16 (by decide +kernel) ?_
   | refine Zak 17 (by decide +kernel) ?_
   | refine Zak 18 (by decide +kernel) ?_
   | refine Zak 19 (by decide +kernel) ?_
   | refine Zak 20 (by decide +kernel) ?_
   | refine Zak 21 (by decide +kernel) ?_
   | refine Zak 22 (by decide +kernel) ?_
   | refine Zak 23 (by decide +kernel) ?_
   | refine Zak 24 (by decide +kernel) ?_
   | refine Zak 25 (by decide +kernel) ?_
   | refine Zak 26 (by decide +kernel) ?_
   | refine Zak 27 (by decide +kernel) ?_
   | refine Zak 28 (by decide +kernel) ?_
   | refine Zak 29 (by decide +kernel) ?_
   | refine Zak 30 (by decide +kernel) ?_
   | refine Zak 31 (by decide +kernel) ?_
   | refine Zak 32 (by decide +kernel) ?_
   | refine Zak 33 (by decide +kernel) ?_
   | refine Zak 34 (by decide +kernel) ?_
   | refine Zak 35 (by decide +kernel) ?_
   | refine Zak 36 (by decide +kernel) ?_
   | refine Zak 37 (by decide +kernel) ?_
   | refine Zak 38 (by decide +kernel) ?_
   | refine Zak 39 (by decide +kernel) ?_
   | refine Zak 40 (by decide +kernel) ?_
   | refine Zak 41 (by decide +kernel) ?_
   | refine Zak 42 (by decide +kernel) ?_
   | refine Zak 43 (by decide +kernel) ?_
   | refine Zak 44 (by decide +kernel) ?_
   | refine Zak 45 (by decide +kernel) ?_
   | refine Zak 46 (by decide +kernel) ?_
   | refine Zak 47 (by decide +kernel) ?_
   | refine Zak 48 (by decide +kernel) ?_
   | refine Zak 49 (by decide +kernel) ?_
   | refine Zak 50 (by decide +kernel) ?_
   | refine Zak 51 (by decide +kernel) ?_
   | refine Zak 52 (by decide +kernel) ?_
   | refine Zak 53 (by decide +kernel) ?_
   | refine Zak 54 (by decide +kernel) ?_
   | refine Zak 55 (by decide +kernel) ?_
   | refine Zak 56 (by decide +kernel) ?_
   | refine Zak 57 (by decide +kernel) ?_
   | refine Zak 58 (by decide +kernel) ?_
   | refine Zak 59 (by decide +kernel) ?_
   | refine Zak 60 (by decide +kernel) ?_
   | refine Zak 61 (by decide +kernel) ?_
   | refine Zak 62 (by decide +kernel) ?_
   | refine Zak 63 (by decide +kernel) ?_
   | refine Zak 64 (by decide +kernel) ?_)
 intro ds hds;simp only [List.map] at hds;subst hds;exact b):X:=h b
theorem gC {X Y Z:Prop} (c:Z) (b:Y) (h:Z->Y->X:=by
 intro c b;refine rcT (by exact sfv) c (by simp only [setA,retA];exact rfl) ?_;exact b):X:=h c b
theorem gCE {X Y Z:Prop} (c:Z) (b:Y) (h:Z->Y->X:=by
 intro c b;refine ZwV (by exact sfv) (by exact sfv) c ?_;exact b):X:=h c b
theorem gR {X Y:Prop} (b:Y) (h:Y->X:=by
 intro b;refine reT (by exact sfv) ?_
 first | (change pwp _ _ _ _ _) | refine wkI ?_ | skip
 exact b):X:=h b
theorem gG {X Y:Prop} (b:Y) (h:Y->X:=by
 intro b
 repeat (first
  | with_reducible refine ZfO ?_
  | with_reducible refine Zl6 ?_
  | ((first | with_reducible refine ZnD ?_ | with_reducible refine ZnE ?_);try refine wkI ?_)
  | (with_reducible refine ZsQ ?_ ?_;· simp only [pz,↓reduceIte,Nat.reduceEqDiff,F])
  | (with_reducible refine ZsR ?_ ?_;· simp only [pz,↓reduceIte,Nat.reduceEqDiff,F])
  | (refine gB ?_;refine reT (by exact sfv) ?_;try refine wkI ?_))
 exact b):X:=h b
def Zac (_:Nat):Prop:=True
theorem ZAg {n:Nat} (_:Zac n) {e:Env} {mask id:Nat} {ops:Array Oper} {fl:Bool} {σ:St} {Q:PX->St->Prop} (h:pwp e mask (.region id ops fl) σ Q) (_:(id==n)=false:=by decide):pwp e mask (.region id ops fl) σ Q:=h
theorem gGn {X Y:Prop} (b:Y) (h:Y->X:=by
 intro b
 repeat (first
  | with_reducible refine ZfO ?_
  | with_reducible refine Zl6 ?_
  | ((first | with_reducible refine ZnD ?_ | with_reducible refine ZnE ?_);try refine wkI ?_)
  | (with_reducible refine ZsQ ?_ ?_;· simp only [pz,↓reduceIte,Nat.reduceEqDiff,F])
  | (with_reducible refine ZsR ?_ ?_;· simp only [pz,↓reduceIte,Nat.reduceEqDiff,F])
  | (refine ZAg NN ?_;refine gB ?_;refine reT (by exact sfv) ?_;try refine wkI ?_))
 exact b):X:=h b
theorem gT {X:Prop} (h:X:=by
 refine Zep (Zkw ?_);simp [Zcb,resA,Zbd,gs,F]):X:=h
theorem gTz {X:Prop} {P:Program} {ts:List RS} {r:List D} {σ σ1:St} (ks:List Nat) (hx:retQ P ts r .ret σ->X:=by exact fun h=>Zep h) (hf:frzs ks σ=σ1:=by exact sfv) (h:Zcb P σ1 ts r:=by simp [Zcb,resA,Zbd,gs,F]):X:=hx (ZAe ks hf h)
theorem gTd {X:Prop} {P:Program} {ts:List RS} {r:List D} {σ:St} (hx:retQ P ts r .ret σ->X:=by exact fun h=>Zep h) (hr:resD P σ ts=some r:=by exact sfx):X:=hx (Zkw (ZfP hr))
theorem gF {e:Env} {mask:Nat} {Q:PX->St->Prop} {σ σ1:St} {id:Nat} {l:List Oper} {s2:List (Nat × A)} {m2:List (Nat × Bk)} {Y:Prop} (ks:List Nat) (b:Y) (hf:frzs ks σ=σ1:=by exact sfv)
  (h:endR mask (ZaQ e.P (l.map (·.dst)) 0 l σ1)=some (s2,m2):=by exact sfv) (hy:Y->Q .normal ⟨s2,m2⟩:=by first | exact fun b=>wkI b | exact fun b=>b):pwp e mask (.region id l.toArray false) σ Q :=
 ZnH ks hf rfl (reT h (hy b))
theorem gw {X:Prop} (h:X:=by simp [Zcr,Zcs,gs,gm,F]):X:=h
theorem gL {e:Env} {mask:Nat} {Q:PX->St->Prop} {c:Code} {s:List (Nat × A)} {m:List (Nat × Bk)} {ι:Type} (ds dm:List Nat) (us:ι->List (Nat × A)) (ms:ι->List (Nat × Bk)) (ok:ι->Prop) (μ:ι->Nat) (x0:ι) (h0:ok x0)
  {s0:List (Nat × A)} {m0:List (Nat × Bk)} {ss:ι->List (Nat × A)} {mm:ι->List (Nat × Bk)}
  (hr:∀ x,ok x->pwp e mask c ⟨ss x,mm x⟩ (fun p σ''=>match p with
   | .normal=>∃ y,ok y∧Zcr σ''.s (ss y)∧Zcs σ''.m (mm y)∧μ y < μ x
   | p=>Q p σ''))
  (hs0:Zee ds s=s0:=by simp only [Zee,Zef,List.elem_cons,List.elem_nil,Nat.reduceBEq,Bool.or_false,Bool.false_or,Bool.or_true,Bool.true_or,Bool.or_self,↓reduceIte,Tam];exact rfl) (hm0:Zef dm m=m0:=by simp only [Zee,Zef,List.elem_cons,List.elem_nil,Nat.reduceBEq,Bool.or_false,Bool.false_or,Bool.or_true,Bool.true_or,Bool.or_self,↓reduceIte,Tam];exact rfl) (hss:∀ x,us x++s0=ss x:=by intro x;simp only [Taf,Tah];exact rfl) (hmm:∀ x,ms x++m0=mm x:=by intro x;simp only [Taf,Tah];exact rfl)
  (hs:Zcr s (us x0):=by simp [Zcr,gs,F]) (hm:Zcs m (ms x0):=by simp [Zcs,gm,F]):pwp e mask (.loop c) ⟨s,m⟩ Q:=ZuZ ds dm us ms ok μ x0 hs0 hm0 hss hmm hs hm h0 hr
theorem gM {e:Env} {mask:Nat} {Q:PX->St->Prop} {a:Code} {s:List (Nat × A)} {m:List (Nat × Bk)} {ι:Type} (ds dm:List Nat) (us:ι->List (Nat × A)) (ms:ι->List (Nat × Bk)) (R:ι->Prop)
  {s0:List (Nat × A)} {m0:List (Nat × Bk)} {ss:ι->List (Nat × A)} {mm:ι->List (Nat × Bk)}
  (h:pwp e mask a ⟨s,m⟩ (fun x σ'=>match x with
   | .normal=>∃ y,R y∧Zcr σ'.s (ss y)∧Zcs σ'.m (mm y)
   | x=>Q x σ')) (hb:∀ x,R x->Q .normal ⟨ss x,mm x⟩) 
  (hs0:Zee ds s=s0:=by simp only [Zee,Zef,List.elem_cons,List.elem_nil,Nat.reduceBEq,Bool.or_false,Bool.false_or,Bool.or_true,Bool.true_or,Bool.or_self,↓reduceIte,Tam];exact rfl) (hm0:Zef dm m=m0:=by simp only [Zee,Zef,List.elem_cons,List.elem_nil,Nat.reduceBEq,Bool.or_false,Bool.false_or,Bool.or_true,Bool.true_or,Bool.or_self,↓reduceIte,Tam];exact rfl) (hss:∀ x,us x++s0=ss x:=by intro x;simp only [Taf,Tah];exact rfl) (hmm:∀ x,ms x++m0=mm x:=by intro x;simp only [Taf,Tah];exact rfl)
  (hQ:∀ σ σ1,Wk σ σ1->Q .normal σ1->Q .normal σ:=by exact fun _ _ h p=>Exists.elim p fun σ2 q=>⟨σ2,h.trans q.1,q.2⟩):pwp e mask a ⟨s,m⟩ Q:=Zu2 hQ ds dm us ms R hs0 hm0 hss hmm h hb
theorem gI {e:Env} {f:FuncId} {fn:Func} {c:Code} {args r:List D} {ts:List RS} (mask:Nat) (hf:e.P.funcs[f]?=some fn) (h:pwp e mask c ⟨ZcT 0 args,[]⟩ (retQ e.P ts r)) (hb:fn.body=some c:=by exact rfl) (hnm:(fn.name == "runtime.NumGoroutine")=false:=by kernel_rfl)
  (hok:Zb4 fn.ntmps c=true:=by kernel_rfl) (hal:Nat.ble args.length fn.ntmps=true:=by exact rfl) (hres:Zbd fn.results.toList=ts:=by exact rfl) (he:e.Ok:=by first | exact ZkC | exact Znl | assumption):Con e f args r:=ZrF he mask hf hb hnm hok hal hres h
theorem gIE {e:Env} {f:FuncId} {fn:Func} {c:Code} {args:List D} {R:List D->Prop} {ts:List RS} (mask:Nat) (hf:e.P.funcs[f]?=some fn) (h:pwp e mask c ⟨ZcT 0 args,[]⟩ (Znf e.P ts R)) (hb:fn.body=some c:=by exact rfl) (hnm:(fn.name == "runtime.NumGoroutine")=false:=by kernel_rfl)
  (hok:Zb4 fn.ntmps c=true:=by kernel_rfl) (hal:Nat.ble args.length fn.ntmps=true:=by exact rfl) (hres:Zbd fn.results.toList=ts:=by exact rfl) (he:e.Ok:=by first | exact ZkC | exact Znl | assumption):ConE e f args R:=Zpe he mask hf hb hnm hok hal hres h
theorem gCP {e:Env} {K:St->Prop} {ds:List (Option Nat)} {n n':Nat} {os os':List Oper} {σ:St} {c:Operand} {args:List Operand} {f:FuncId} {xs:List D} {d:Option Nat} {s1 s2 s3:List (Nat × A)} {m1 m2 m3:List (Nat × Bk)} {pm:List Bk} {R:List D->List Bk->Prop} (ks ks':List Nat) (hc:ConP e f xs pm R)
  (hK:∀ r pm',R r pm'->Runs e ds n' os' ⟨setA s3 d (retA r),zipM ks' pm'++m3⟩ K) (h:ZaQ e.P ds n os σ=.call false c args d n' os' ⟨s1,m1⟩:=by exact sfv) (h1:ZdU false c args ⟨s1,m1⟩=some (f,xs,⟨s2,m2⟩):=by exact sfv)
  (hpm:getM m2 ks=some pm:=by exact sny) (hpn:pm.all pinned=true:=by exact sny) (hn:ks.Nodup:=by decide) (hk:Zcd (ks++ks') s2=s3:=by exact snv) (hr:Zci (ks++ks') m2=m3:=by exact snv):Runs e ds n os σ K:=ZwW ks ks' h h1 hc hpm hpn hn hk hr hK
theorem gCI {e:Env} {K:St->Prop} {ds:List (Option Nat)} {n n':Nat} {os os':List Oper} {σ:St} {c x0:Operand} {rest:List Operand} {f:FuncId} {xs:List D} {d:Option Nat} {s1 s3:List (Nat × A)} {m1 m3:List (Nat × Bk)} {k ty sz:Nat} {rows rows':List (List C)} {r:List D} {oa:Option (Option Addr × Nat)} (hc:ConI e f ty sz rows xs rows' r) (hl:rows'.length=rows.length)
  (hK:Runs e ds n' os' ⟨s3,(k,.buf oa ty sz rows')::m3⟩ K) (h:ZaQ e.P ds n os σ=.call false c (x0::rest) d n' os' ⟨s1,m1⟩:=by exact sfv) (h1:Zku c x0 rest ⟨s1,m1⟩=some (f,k,ty,sz,rows,xs):=by exact sfv)
  (hm:gm m1 k=some (.buf oa ty sz rows):=by exact snv) (h2:setA s1 d (retA r)=s3:=by simp only [setA,retA];exact rfl) (h3:remM k m1=m3:=by exact snv):Runs e ds n os σ K:=ZwX h h1 hm hc hl h2 h3 hK
theorem gP {e:Env} {K:St->Prop} {ds:List (Option Nat)} {n n':Nat} {os os':List Oper} {σ:St} {s1:List (Nat × A)} {m1:List (Nat × Bk)} (j:Nat) (hK:Runs e ds n' os' ⟨s1,m1⟩ K) (h:Zkv (runN e.P ds j n os σ)=some (n',os',s1,m1):=by exact sfv):Runs e ds n os σ K:=ZsO j h hK
theorem gS {e:Env} {K:St->Prop} {ds:List (Option Nat)} {os:List Oper} {s:List (Nat × A)} {m m2:List (Nat × Bk)} {ety sz:Nat} {rows:List (List C)} {s2:Option Addr->Nat->List (Nat × A)} (k:Nat) (hK:∀ a cap,Runs e ds 0 os ⟨s2 a cap,(k,.buf (some (a,cap)) ety sz rows)::m2⟩ K)
  (hm:gm m k=some (.buf none ety sz rows):=by exact snv) (hs:∀ a cap,mapS (litB k a rows.length cap) s=s2 a cap:=by intro a cap;exact snv) (hr:remM k m=m2:=by exact snv):Runs e ds 0 os ⟨s,m⟩ K :=
 Ze9 (Zl4 k hm) fun σ' ⟨a,cap,hσ⟩=>by subst hσ;simp only [hs,hr];exact hK a cap
theorem gO {e:Env} {K:St->Prop} {ds:List (Option Nat)} {os:List Oper} {s s2:List (Nat × A)} {m m2:List (Nat × Bk)} (t ety sz:Nat) (hK:Runs e ds 0 os ⟨(t,.buf t)::s2,(t,.buf none ety sz [])::m2⟩ K) (h0:0 < sz:=by decide) (hm:gs s t=.d (.clip []):=by exact sny)
  (hs:Zan t s=s2:=by exact snv) (hr:remM t m=m2:=by exact snv):Runs e ds 0 os ⟨s,m⟩ K :=
 Ze9 (ZwO t ety sz h0 hm) fun σ' hσ=>by subst hσ;simp only [hs,hr];exact hK
theorem gK {e:Env} {K:St->Prop} {ds:List (Option Nat)} {os:List Oper} {s:List (Nat × A)} {m:List (Nat × Bk)} {x:A} (t:Nat) (hK:Runs e ds 0 os ⟨(t,x)::s,m⟩ K) (hx:nrm m (gs s t)=x:=by exact snv):Runs e ds 0 os ⟨s,m⟩ K :=
 Ze9 (ZwN t) fun σ' hσ=>by subst hσ;simp only [hx];exact hK
theorem gD {e:Env} {K:St->Prop} {ds:List (Option Nat)} {os:List Oper} {s s2:List (Nat × A)} {m m2:List (Nat × Bk)} {a:Option Addr} {cap ety sz:Nat} {rows:List (List C)} (k:Nat) (ts ks:List Nat) (hK:Runs e ds 0 os ⟨s2,m2⟩ K) (hm:gm m k=some (.buf (some (a,cap)) ety sz rows):=by exact snv)
  (hs:datS a rows.length cap rows ts (frzS k (.buf (some (a,cap)) ety sz rows) s)=s2:=by exact snv) (hr:datM a rows.length cap rows ks (remM k m)=m2:=by exact snv):Runs e ds 0 os ⟨s,m⟩ K :=
 Ze9 (ZnB k ts ks hm) fun σ' hσ=>by subst hσ;simp only [hs,hr];exact hK
theorem gX {e:Env} {K:St->Prop} {ds:List (Option Nat)} {os:List Oper} {d t ty:Nat} {p:String} {ed:Array Edge} {parts:List (Nat × Operand)} {s:List (Nat × A)} {m:List (Nat × Bk)} {cs cs':List C} (hK:Runs e ds 0 os ⟨(d,.d (.agg cs'))::s,m⟩ K)
  (hz:Zdb e.P t=some cs:=by exact sny) (hst:Zbm e.P t=true:=by exact sny) (hok:cs.all Zay=true:=by first | rfl | exact sny) (hf:ZcQ e.P t cs (parts.map fun p=>(p.1,evA s p.2))=some cs':=by exact sfv):Runs e ds 0 (⟨some d,.build t parts.toArray,ty,p,ed,none⟩::os) ⟨s,m⟩ K:=Zpf hz hst hok hf hK
theorem pN {e:Env} {mask:Nat} {Q:PX->St->Prop} {c:Code} {s s2:List (Nat × A)} {m m2:List (Nat × Bk)} (κ ety sz:Nat) (hK:pwp e mask c ⟨s2,(κ,.buf (some (none,0)) ety sz [])::m2⟩ Q) (h0:0 < sz:=by decide) (hs:Zan κ s=s2:=by exact snv) (hr:remM κ m=m2:=by exact snv):pwp e mask c ⟨s,m⟩ Q :=
 Zb2 (ZwP κ ety sz h0) fun σ' hσ=>by subst hσ;simp only [hs,hr];exact hK
theorem pD {e:Env} {mask:Nat} {Q:PX->St->Prop} {c:Code} {s s2:List (Nat × A)} {m m2:List (Nat × Bk)} {a:Option Addr} {cap ety sz:Nat} {rows:List (List C)} (k:Nat) (ts ks:List Nat) (hK:pwp e mask c ⟨s2,m2⟩ Q) (hm:gm m k=some (.buf (some (a,cap)) ety sz rows):=by exact snv)
  (hs:datS a rows.length cap rows ts (frzS k (.buf (some (a,cap)) ety sz rows) s)=s2:=by exact snv) (hr:datM a rows.length cap rows ks (remM k m)=m2:=by exact snv):pwp e mask c ⟨s,m⟩ Q :=
 Zb2 (ZnB k ts ks hm) fun σ' hσ=>by subst hσ;simp only [hs,hr];exact hK
theorem pV {e:Env} {mask:Nat} {Q:PX->St->Prop} {c:Code} {s:List (Nat × A)} {m m2:List (Nat × Bk)} {cs:List C} {s2:Nat->List (Nat × A)} (k:Nat) (hK:∀ b,(∀ k' b' cs',k'≠k->gm m k'=some (.var (some b') cs')->b≠b')->pwp e mask c ⟨s2 b,(k,.var (some b) cs)::m2⟩ Q)
  (hm:gm m k=some (.var none cs):=by exact snv) (hs:∀ b,mapS (litV k b) s=s2 b:=by intro b;exact snv) (hr:remM k m=m2:=by exact snv):pwp e mask c ⟨s,m⟩ Q :=
 Zb2 (ZsJ k hm) fun σ' ⟨b,hb,hσ⟩=>by subst hσ;simp only [hs,hr];exact hK b hb
theorem pS {e:Env} {mask:Nat} {Q:PX->St->Prop} {c:Code} {s:List (Nat × A)} {m m2:List (Nat × Bk)} {ety sz:Nat} {rows:List (List C)} {s2:Option Addr->Nat->List (Nat × A)} (k:Nat) (hK:∀ a cap,pwp e mask c ⟨s2 a cap,(k,.buf (some (a,cap)) ety sz rows)::m2⟩ Q)
  (hm:gm m k=some (.buf none ety sz rows):=by exact snv) (hs:∀ a cap,mapS (litB k a rows.length cap) s=s2 a cap:=by intro a cap;exact snv) (hr:remM k m=m2:=by exact snv):pwp e mask c ⟨s,m⟩ Q :=
 Zb2 (Zl4 k hm) fun σ' ⟨a,cap,hσ⟩=>by subst hσ;simp only [hs,hr];exact hK a cap
def ZgV (pm pm':List Bk):Prop:=∀ (w:World) (S:Nat->Prop),(∀ x∈pm,Zdg w S x)->Zeb pm->(∀ x∈pm',Zdg w S x)∧Zeb pm'∧∀ g,Za9 pm' g->Za9 pm g
theorem gE {e:Env} {K:St->Prop} {ds:List (Option Nat)} {os:List Oper} {s s2:List (Nat × A)} {m m2 m3:List (Nat × Bk)} {pm pm':List Bk} (ks ks':List Nat) (hre:ZgV pm pm') (hK:Runs e ds 0 os ⟨s2,m3⟩ K) (hpm:getM m ks=some pm:=by exact sny) (hn:ks.Nodup:=by decide) (hp:pm.all pinned=true:=by exact sny)
  (hs:Zcd (ks++ks') s=s2:=by exact snv) (hr:Zci (ks++ks') m=m2:=by exact snv) (h3:zipM ks' pm'++m2=m3:=by exact snv):Runs e ds 0 os ⟨s,m⟩ K :=
 Ze9 (ZpS (Φ:=fun x=>x=pm') ks ks' hn hpm hp (fun w S h1 h2=>⟨pm',rfl,hre w S h1 h2⟩)) fun σ' ⟨q,hq,hσ⟩=>by subst hq hσ;simp only [hs,hr,h3];exact hK
theorem pE {e:Env} {mask:Nat} {Q:PX->St->Prop} {c:Code} {s s2:List (Nat × A)} {m m2 m3:List (Nat × Bk)} {pm pm':List Bk} (ks ks':List Nat) (hre:ZgV pm pm') (hK:pwp e mask c ⟨s2,m3⟩ Q) (hpm:getM m ks=some pm:=by exact sny) (hn:ks.Nodup:=by decide) (hp:pm.all pinned=true:=by exact sny)
  (hs:Zcd (ks++ks') s=s2:=by exact snv) (hr:Zci (ks++ks') m=m2:=by exact snv) (h3:zipM ks' pm'++m2=m3:=by exact snv):pwp e mask c ⟨s,m⟩ Q :=
 Zb2 (ZpS (Φ:=fun x=>x=pm') ks ks' hn hpm hp (fun w S h1 h2=>⟨pm',rfl,hre w S h1 h2⟩)) fun σ' ⟨q,hq,hσ⟩=>by subst hq hσ;simp only [hs,hr,h3];exact hK
theorem gIP {e:Env} {f:FuncId} {fn:Func} {c:Code} {args:List D} {pm:List Bk} {m0:List (Nat × Bk)} {R:List D->List Bk->Prop} {ts:List RS} (keys:List Nat) (mask:Nat) (hf:e.P.funcs[f]?=some fn) (h:pwp e mask c ⟨ZcT 0 args,m0⟩ (Zne e.P ts R)) (hm:zipM keys pm=m0:=by exact snv) (hb:fn.body=some c:=by exact rfl) (hnm:(fn.name == "runtime.NumGoroutine")=false:=by kernel_rfl)
  (hok:Zb4 fn.ntmps c=true:=by kernel_rfl) (hal:Nat.ble args.length fn.ntmps=true:=by exact rfl) (hres:Zbd fn.results.toList=ts:=by exact rfl) (he:e.Ok:=by first | exact ZkC | exact Znl | assumption):ConP e f args pm R:=Zpd he keys mask hf hb hnm hok hal hres (by rw [hm];exact h)
theorem gTP {X:Prop} {P:Program} {ts:List RS} {R:List D->List Bk->Prop} {σ:St} {r:List D} {pm:List Bk} (ks:List Nat) (hR:R r pm) (hx:Zne P ts R .ret σ->X:=by exact fun h=>Zep h) (hr:resD P σ ts=some r:=by exact sfy) (hg:getM σ.m ks=some pm:=by exact sny) (hn:ks.Nodup:=by decide) (hp:pm.all pinned=true:=by exact sny):X :=
 hx ⟨r,ks,pm,hg,hn,hp,hR,ZfP hr⟩
theorem fG {p X Y:Prop} (f:p) (b:Y) (h:p->Y->X:=by intro F b;exact gG b):X:=h f b
theorem fR {p X Y:Prop} (f:p) (b:Y) (h:p->Y->X:=by intro F b;exact gR b):X:=h f b
theorem fC {p X Y Z:Prop} (f:p) (c:Z) (b:Y) (h:p->Z->Y->X:=by intro F c b;exact gC c b):X:=h f c b
theorem fN {p X Y:Prop} (n:Nat) (f:p) (b:Y) (h:Zac n->p->Y->X:=by intro NN F b;exact gGn b):X:=h trivial f b
theorem fT {p X:Prop} (f:p) (h:p->X:=by intro F;refine gG ?_;exact gT):X:=h f
theorem fD {p X:Prop} (f:p) (h:p->X:=by intro F;refine gG ?_;exact gTd):X:=h f
theorem fB {p X Y:Prop} (f:p) (b:Y) (h:p->Y->X:=by intro F b;refine gG ?_;exact gB b):X:=h f b
theorem okC.cell:∀ {f:F} {c:C},okC f c->Zay c=true
 | .int,.lit v,h=>by obtain ⟨n,rfl,_⟩:=h;rfl
 | .str,.lit v,h=>by obtain ⟨n,rfl,_⟩:=h;rfl
 | .bool,.lit v,h=>by obtain ⟨n,rfl⟩:=h;rfl
 | .sl t,.sl rows,h=>rfl
 | .int,.sl _,h=>False.elim h
 | .str,.sl _,h=>False.elim h
 | .bool,.sl _,h=>False.elim h
 | .sl _,.lit _,h=>False.elim h
 | f,.ptr _,h=>by cases f <;> exact False.elim h
 | f,.fn _ _,h=>by cases f <;> exact False.elim h
theorem ZbO.cells:∀ {fs:List F} {cs:List C},ZbO fs cs->cs.all Zay=true
 | [],[],_=>rfl
 | f::fs,c::cs,h=>by
  simp only [ZbO] at h;rw [List.all_cons,h.1.cell,ZbO.cells h.2];rfl
 | [],_::_,h=>by simp [ZbO] at h
 | _::_,[],h=>by simp [ZbO] at h
theorem ZbO.take {fs:List F} {cs:List C} (h:ZbO fs cs) {n:Nat} (hn:fs.length=n):cs.length=n∧cs.take n=cs∧cs.drop n=[]:=by
 have:=h.len;refine ⟨om,?_,?_⟩
 ·rw [List.take_of_length_le om]
 ·rw [List.drop_eq_nil_of_le om]
theorem Zcx.rowsLen {fs:List F} {rows:List (List C)} (h:Zcx fs rows):rowsLen fs.length rows:=fun r hr=>by
 obtain ⟨i,hi⟩:=Tbj hr;exact ⟨(h.get hi).len,(h.get hi).cells⟩
theorem Zy7 {α:Type} (l:List α):l.drop 0=l:=rfl
inductive Tm where
 | mk (op:Int) (name:ByteArray) (sort:Int) (args:List Tm)
def Tm.args:Tm->List Tm | .mk _ _ _ a=>a
def Tm.op:Tm->Int | .mk a _ _ _=>a
def Tm.name:Tm->ByteArray | .mk _ a _ _=>a
def Tm.sort:Tm->Int | .mk _ _ a _=>a
mutual
def Zab:Tm->List C
 | .mk op nm so args=>[.lit (.int .i64 op),.lit (.string nm),.lit (.int .i64 so),.sl (Zaa args)]
def Zaa:List Tm->List (List C)
 | []=>[]
 | t::ts=>Zab t::Zaa ts
end
mutual
def okTm:Tm->Prop
 | .mk op nm so args=>I64 op∧nm.size<=maxLen∧I64 so∧Zaw args
def Zaw:List Tm->Prop
 | []=>True
 | t::ts=>okTm t∧Zaw ts
end
theorem Zbu (ts:List Tm):Zaa ts=ts.map Zab:=by
 induction ts with
 | nil=>simp [Zaa]
 | cons t ts ih=>simp [Zaa,ih]
theorem Zai (ts:List Tm):(Zaa ts).length=ts.length:=by simp [Zbu]
theorem Zbo (ts:List Tm) (i:Nat):(Zaa ts)[i]?=ts[i]?.map Zab:=by simp [Zbu]
theorem Zaw.mem:∀ {ts:List Tm} {t:Tm},Zaw ts->t∈ts->okTm t
 | [],_,_,h=>by simp at h
 | x::xs,t,h,ht=>by
  simp only [Zaw] at h;rcases Tbf.1 ht with rfl | ht
  ·exact h.1
  ·exact Zaw.mem h.2 ht
def ZaN (a b:Int):Int:=if a < b then -1 else if b < a then 1 else 0
def ZbZ (a b:ByteArray):Int:=Lib.compareBytes a.data.toList b.data.toList
def ZaJ:List Int->Int
 | []=>0
 | x::xs=>if x=0 then ZaJ xs else x
mutual
def Zah:Tm->Tm->Int
 | .mk o n s a,.mk o' n' s' a'=>ZaJ [ZaN o o',ZbZ n n',ZaN s s',ZaF a a']
def ZaF:List Tm->List Tm->Int
 | [],[]=>0
 | [],_::_=>-1
 | _::_,[]=>1
 | x::xs,y::ys=>ZaJ [Zah x y,ZaF xs ys]
end
theorem Zfj:∀ (l:List UInt8),Lib.compareBytes l l=0
 | []=>rfl
 | x::xs=>by simp [Lib.compareBytes,Zfj xs]
theorem Zfk:∀ {l m:List UInt8},Lib.compareBytes l m=0->l=m
 | [],[],_=>rfl
 | [],_::_,h=>by simp [Lib.compareBytes] at h
 | _::_,[],h=>by simp [Lib.compareBytes] at h
 | x::xs,y::ys,h=>by
  simp only [Lib.compareBytes] at h;split at h
  ·simp at h
  ·split at h
   ·simp at h
   ·rename_i h1 h2;have e:x=y:=UInt8.le_antisymm (UInt8.not_lt.1 h2) (UInt8.not_lt.1 h1);rw [e,Zfk h]
theorem Zfl:∀ (l m:List UInt8),Op.bytesLess l m=decide (Lib.compareBytes l m=-1)
 | [],[]=>by simp [Op.bytesLess,Lib.compareBytes]
 | [],_::_=>by simp [Op.bytesLess,Lib.compareBytes]
 | _::_,[]=>by simp [Op.bytesLess,Lib.compareBytes]
 | x::xs,y::ys=>by
  have ih:=Zfl xs ys;simp only [Op.bytesLess,Lib.compareBytes,ih];by_cases h1:x < y
  ·simp [h1]
  ·by_cases h2:y < x
   ·have:¬ x=y:=fun e=>by subst e;exact h1 h2
    simp [h1,h2,this]
   ·have e:x=y:=UInt8.le_antisymm (UInt8.not_lt.1 h2) (UInt8.not_lt.1 h1);subst e;simp [h1]
theorem Zfa:∀ (l m:List UInt8),Lib.compareBytes l m=-1∨Lib.compareBytes l m=0∨Lib.compareBytes l m=1
 | [],[]=>by simp [Lib.compareBytes]
 | [],_::_=>by simp [Lib.compareBytes]
 | _::_,[]=>by simp [Lib.compareBytes]
 | x::xs,y::ys=>by
  have ih:=Zfa xs ys;simp only [Lib.compareBytes];split
  ·simp
  ·split
   ·simp
   ·exact ih
theorem ZcE {a b:Int}:ZaN a b=0 ↔ a=b:=by unfold ZaN;split <;> (try split) <;> simp <;> omega
theorem Ze0 {a b:ByteArray}:ZbZ a b=0 ↔ a=b:=by
 constructor
 ·intro h;have:=Zfk h;obtain ⟨⟨la⟩⟩:=a;obtain ⟨⟨lb⟩⟩:=b;simp at this;rw [this]
 ·rintro rfl;exact Zfj _
theorem ZnY (a b:ByteArray):ZbZ a b=-1∨ZbZ a b=0∨ZbZ a b=1:=Zfa _ _
theorem Zpg:∀ {ps qs:List Tm} {k:Nat} {x y:Tm},ps[k]?=some x->qs[k]?=some y->ZaF (ps.drop k) (qs.drop k)=ZaJ [Zah x y,ZaF (ps.drop (k+1)) (qs.drop (k+1))]:=by
 intro ps qs k x y h1 h2;have e1:ps.drop k=x::ps.drop (k+1):=by
  obtain ⟨hl,hx⟩:=Tad.1 h1;rw [<- hx];exact List.drop_eq_getElem_cons hl
 have e2:qs.drop k=y::qs.drop (k+1):=by
  obtain ⟨hl,hx⟩:=Tad.1 h2;rw [<- hx];exact List.drop_eq_getElem_cons hl
 rw [e1,e2,ZaF]
theorem ZaY (t:Tm):(Zab t).length=4:=by cases t;rfl
theorem Zbq (t:Tm):(Zab t).take 4=Zab t:=by cases t;rfl
theorem Zq8 (t:Tm):(Zab t).drop 4=[]:=by cases t;rfl
theorem Zbl (t:Tm):(Zab t).all Zay=true:=by cases t;rfl
theorem ZcL (ts:List Tm):ZaL 4 (Zaa ts)=true:=by
 rw [Zbu];exact ZcV (e:=Zab) (n:=4) (fun t=>by rw [ZaY,Zbl];rfl) ts
theorem Zy8 (t:Tm):valT .one (Zab t)=some (.d (.one (.lit (.int .i64 t.op)))):=by cases t;rfl
theorem Zy9 (t:Tm):(Zab t).drop 1=[.lit (.string t.name),.lit (.int .i64 t.sort),.sl (Zaa t.args)]:=by cases t;rfl
theorem Zza (t:Tm):(Zab t).drop 2=[.lit (.int .i64 t.sort),.sl (Zaa t.args)]:=by cases t;rfl
theorem Zzb (t:Tm):(Zab t).drop 3=[.sl (Zaa t.args)]:=by cases t;rfl
theorem tmz:type_of% (aj12 Zy8 Zy9 Zza Zzb ZaY Zbq Zq8 Zbl ZcL Zbo Zai @Zy7):=(aj12 Zy8 Zy9 Zza Zzb ZaY Zbq Zq8 Zbl ZcL Zbo Zai @Zy7)
theorem ZrK (a b:Int) (w:World):Calls Tryz.prog 125 #[.int .i64 a,.int .i64 b] w fun e w'=>e=.returned (.int .i64 (ZaN a b))∧w=w':=by
 unfold ZaN;by_cases h1:a < b
 ·rw [if_pos h1]
  go_enter Tryz.func125,Tryz.ntmps125
  go_wp2
  go_ret
  exact ⟨rfl,rfl⟩
 ·by_cases h2:b < a
  ·rw [if_neg h1,if_pos h2]
   go_enter Tryz.func125,Tryz.ntmps125
   go_wp2
   go_ret
   exact ⟨rfl,rfl⟩
  ·rw [if_neg h1,if_neg h2]
   go_enter Tryz.func125,Tryz.ntmps125
   go_wp2
   go_ret
   exact ⟨rfl,rfl⟩
theorem ZlE (a b:ByteArray) (w:World):Calls Tryz.prog 146 #[.string a,.string b] w fun e w'=>e=.returned (.int .i64 (ZbZ a b))∧w=w':=by
 go_enter Tryz.func146,Tryz.ntmps146
 go_wp2
 rw [run_callFunc_extern Tryz.func153 (by kernel_rfl) (by kernel_rfl) (by kernel_rfl) (e:=Extern.BytealgCompare.compare) (by kernel_rfl),Lib.run_compareString];simp only [Result.andThen];rw [Oper.upon_value]
 go_wp2
 go_ret
 exact ⟨rfl,rfl⟩
theorem ZlF (a b:ByteArray) (w:World):Calls Tryz.prog 126 #[.string a,.string b] w fun e w'=>e=.returned (.int .i64 (ZbZ a b))∧w=w':=by
 go_enter Tryz.func126,Tryz.ntmps126
 go_wp2_with fail
 refine (ZlE _ _ _).mono ?_;rintro e w' ⟨rfl,rfl⟩
 go_wp2
 go_ret
 exact ⟨rfl,rfl⟩
theorem ZnZ {l:List Int} {k:Nat} {x:Int} (h:l[k]?=some x):ZaJ (l.drop k)=if x=0 then ZaJ (l.drop (k+1)) else x:=by
 obtain ⟨hl,hx⟩:=Tad.1 h;rw [List.drop_eq_getElem_cons hl,hx,ZaJ]
theorem Zn0 {e:Env} {f:FuncId} {args:List D} {x:Value} (hb:Zcf e.P f=true) (h:∀ (w:World) (S:Nat->Prop) (vs:List Value),Zar w S args vs->Calls e.P f vs.toArray w fun en w'=>en=.returned x∧w=w'):Con e f args [.one (.lit x)] :=
 ⟨hb,fun w S vs _ _ hG hv=>(h w S vs hv).mono fun en w' ⟨h1,h2⟩=>by subst h2;exact ⟨x,h1,Kept.refl ..,hG,by simp [retA,ARel,DRel,Rep]⟩⟩
theorem Zw3 {e:Env} {f:FuncId} {args r:List D} {φ:Prop} (hb:Zcf e.P f=true) (hφ:∀ (w:World) (S:Nat->Prop) (vs:List Value),Zar w S args vs->φ) (h:φ->Con e f args r):Con e f args r :=
 ⟨hb,fun w S vs h1 h2 h3 h4=>(h (hφ w S vs h4)).2 w S vs h1 h2 h3 h4⟩
theorem Zmb (a b:Int):Con e1 125 [.one (.lit (.int .i64 a)),.one (.lit (.int .i64 b))] [.one (.lit (.int .i64 (ZaN a b)))]:=by
 refine Zn0 (by kernel_rfl) fun w S vs h=>?_
 match vs,h with
 | [x,y],h =>
  obtain ⟨hx,hy,_⟩:=h;have hx:x=.int .i64 a:=hx;have hy:y=.int .i64 b:=hy;subst hx hy;exact ZrK a b w
theorem Zu5 (a b:ByteArray):Con e1 126 [.one (.lit (.string a)),.one (.lit (.string b))] [.one (.lit (.int .i64 (ZbZ a b)))]:=by
 refine Zn0 (by kernel_rfl) fun w S vs h=>?_
 match vs,h with
 | [x,y],h =>
  obtain ⟨hx,hy,_⟩:=h;have hx:x=.string a:=hx;have hy:y=.string b:=hy;subst hx hy;exact ZlF a b w
theorem ZrL (l:List Int) (hl:l.length<=1048576):Con e1 124 [.clip (l.map fun n=>[.lit (.int .i64 n)])] [.one (.lit (.int .i64 (ZaJ l)))]:=by
 have rb:ZaL 1 (l.map fun n=>[C.lit (.int .i64 n)])=true:=ZcV (e:=fun n=>[C.lit (.int .i64 n)]) (n:=1) (fun _=>rfl) l;refine gI (ts:=[.slot 2]) 17389 Tryz.func124 ?_;refine fG @rb ?_;have F:=@rb;refine gL (ι:=Nat) [2,5,8,9,14] [] (fun x=>[(8,.d (.one (.lit (.int .i64 (x:Int)))))]) (fun x=>[]) (fun x=>x<=l.length∧ZaJ l=ZaJ (l.drop x)) (fun x=>l.length - x) (0) (⟨Taj _,rfl⟩) (fun x hx=>?_);clear F;obtain ⟨hi,hf⟩:=hx
 rw [hf];clear hf;by_cases hlt:x < l.length
 ·obtain ⟨n,hn⟩:∃ n,l[x]?=some n:=⟨_,Taa hlt⟩;have q1:=lT x l.length;have q4:IntKind.i64.wrap ((x:Int)+1)=(x:Int)+1:=IntWalk.i64_in _ om;rw [ZnZ hn];by_cases h0:n=0
  ·subst h0;rw [if_pos rfl];refine fG (aj3 @q1 @rb @hn) ?_;have F:=@q4;refine gG ?_;exact ⟨x+1,⟨hlt,rfl⟩,gw,gw,om⟩
  ·have q2:(n=0)=False:=eq_false h0;rw [if_neg h0];exact fD (aj4 @q1 @rb @hn @q2)
 ·obtain rfl:x=l.length:=by omega
  have q1:=lF l.length l.length;rw [List.drop_length];simp only [ZaJ];exact fD @q1
theorem Zph {b:List Tm} {k:Nat} {xs:List Tm} (h:xs.length<=k):ZaF (xs.drop k) b=if b=[] then 0 else -1:=by
 rw [List.drop_eq_nil_of_le h]
 cases b with
 | nil=>simp [ZaF]
 | cons x xs=>simp [ZaF]
theorem Zpi {a:Tm} {k:Nat} {xs bs:List Tm} (ha:xs[k]?=some a) (h:bs.length<=k):ZaF (xs.drop k) (bs.drop k)=1:=by
 obtain ⟨hl,hx⟩:=Tad.1 ha;rw [List.drop_eq_nil_of_le h,List.drop_eq_getElem_cons hl];simp [ZaF]
theorem ZkE (xs bs:List Tm) (hla:xs.length<=maxLen) (hlb:bs.length<=maxLen) (h:∀ a∈xs,∀ b∈bs,Con e1 105 [.agg (Zab a),.agg (Zab b)] [.one (.lit (.int .i64 (Zah a b)))]):Con e1 127 [.one (.sl (Zaa xs)),.one (.sl (Zaa bs)),.one (.fn 105 [])] [.one (.lit (.int .i64 (ZaF xs bs)))]:=by
 unfold maxLen at hla hlb;refine gI (ts:=[.slot 6]) 277027520455 Tryz.func127 ?_;refine fG @tmz ?_;have F:=@tmz;refine gL (ι:=Nat) [6,7,8,9,10,13,14,21,31] [] (fun x=>[(13,.d (.one (.lit (.int .i64 (x:Int)))))]) (fun x=>[]) (fun x=>x<=xs.length∧x<=bs.length∧ZaF xs bs=ZaF (xs.drop x) (bs.drop x)) (fun x=>xs.length - x) (0) (⟨Taj _,Taj _,rfl⟩) (fun x hx=>?_);clear F;obtain ⟨hi,hj,hf⟩:=hx;rw [hf];clear hf
 by_cases hlt:x < xs.length
 ·obtain ⟨a,ha⟩:∃ n,xs[x]?=some n:=⟨_,Taa hlt⟩;have q1:=lT x xs.length;by_cases hlt2:x < bs.length
  ·obtain ⟨b,hb⟩:∃ n,bs[x]?=some n:=⟨_,Taa hlt2⟩;have q2:((x:Int) ≥ (bs.length:Int))=False:=eq_false om;have q4:IntKind.i64.wrap ((x:Int)+1)=(x:Int)+1:=IntWalk.i64_in _ om;rw [Zpg ha hb];simp only [ZaJ];refine fB (aj5 @q1 @q2 @tmz @ha @hb) ?_;refine fC @tmz (h a (Tac ha) b (Tac hb)) ?_;refine fR @tmz ?_;by_cases h0:Zah a b=0
   ·have q3:(Zah a b=0)=True:=eq_true h0;rw [if_pos h0,show (if ZaF (xs.drop (x+1)) (bs.drop (x+1))=0 then (0:Int) else ZaF (xs.drop (x+1)) (bs.drop (x+1)))=ZaF (xs.drop (x+1)) (bs.drop (x+1)) by split <;> simp_all];refine fG (ai @tmz @q3) ?_;have F:=@q4;refine gG ?_;exact ⟨x+1,⟨hlt,hlt2,rfl⟩,gw,gw,om⟩
   ·have q3:(Zah a b=0)=False:=eq_false h0;rw [if_neg h0];exact fD (ai @tmz @q3)
  ·have q2:((x:Int) ≥ (bs.length:Int))=True:=eq_true om;rw [Zpi ha om];exact fD (aj4 @q1 @q2 @tmz @ha)
 ·have q1:=lF x xs.length;rw [Zph om];by_cases h2:xs.length < bs.length
  ·have q2:=lT xs.length bs.length;rw [if_neg (by intro e;have:=congrArg List.length e;simp at this;omega)];exact fD (aj3 @q1 @q2 @tmz)
  ·have q2:=lF xs.length bs.length;rw [if_pos (by apply List.drop_eq_nil_of_le;omega)];exact fD (aj3 @q1 @q2 @tmz)
theorem Zq9 {w:World} {S:Nat->Prop} {rows:List (List C)} {v:Value} (h:Rep w S (.sl rows) v):rows.length<=maxLen:=by
 simp only [Rep] at h;obtain ⟨A,n,cap,_,h1,h2,h3,_⟩:=h;omega
theorem Zn1 (xs bs:List Tm) (h:∀ a∈xs,∀ b∈bs,Con e1 105 [.agg (Zab a),.agg (Zab b)] [.one (.lit (.int .i64 (Zah a b)))]):Con e1 127 [.one (.sl (Zaa xs)),.one (.sl (Zaa bs)),.one (.fn 105 [])] [.one (.lit (.int .i64 (ZaF xs bs)))]:=by
 refine Zw3 (φ:=xs.length<=maxLen∧bs.length<=maxLen) (by kernel_rfl) (fun w S vs hv=>?_) fun hφ=>ZkE xs bs hφ.1 hφ.2 h
 match vs,hv with
 | [x,y,z],hv =>
  have h1:=Zq9 hv.1;have h2:=Zq9 hv.2.1;rw [Zai] at h1 h2;exact ⟨h1,h2⟩
theorem Zpj (a b:Tm) (h:∀ x∈a.args,∀ y∈b.args,Con e1 105 [.agg (Zab x),.agg (Zab y)] [.one (.lit (.int .i64 (Zah x y)))]):Con e1 105 [.agg (Zab a),.agg (Zab b)] [.one (.lit (.int .i64 (Zah a b)))]:=by
 obtain ⟨o,n,s,xs⟩:=a;obtain ⟨o',n',s',bs⟩:=b;simp only [Tm.args] at h;have c1:Zab (.mk o n s xs)=[.lit (.int .i64 o),.lit (.string n),.lit (.int .i64 s),.sl (Zaa xs)]:=by simp only [Zab]
 have c2:Zab (.mk o' n' s' bs)=[.lit (.int .i64 o'),.lit (.string n'),.lit (.int .i64 s'),.sl (Zaa bs)]:=by simp only [Zab]
 have e3:Zah (.mk o n s xs) (.mk o' n' s' bs)=if ZaJ [ZaN o o',ZbZ n n',ZaN s s']=0 then ZaF xs bs else ZaJ [ZaN o o',ZbZ n n',ZaN s s']:=by
  simp only [Zah,ZaJ];by_cases h1:ZaN o o'=0
  ·by_cases h2:ZbZ n n'=0
   ·by_cases h3:ZaN s s'=0
    ·simp only [h1,h2,h3,if_true];split <;> simp_all
    ·simp only [h1,h2,h3,if_true,if_false]
   ·simp only [h1,h2,if_true,if_false]
  ·simp only [h1,if_false]
 have hor:=ZrL [ZaN o o',ZbZ n n',ZaN s s'] (by simp);simp only [Tbt,List.map_nil] at hor;rw [e3];refine gI (ts:=[.slot 4]) 16777279 Tryz.func105 ?_;refine fB (ai @c1 @c2) ?_;refine fC (ai @c1 @c2) (Zmb o o') ?_;refine fC (ai @c1 @c2) (Zu5 n n') ?_;refine fC (ai @c1 @c2) (Zmb s s') ?_;refine fC (ai @c1 @c2) (hor) ?_;refine fR (ai @c1 @c2) ?_;by_cases h0:ZaJ [ZaN o o',ZbZ n n',ZaN s s']=0
 ·have q3:(ZaJ [ZaN o o',ZbZ n n',ZaN s s']=0)=True:=eq_true h0;rw [if_pos h0];refine fB (aj3 @q3 @c1 @c2) ?_;refine fC (ai @c1 @c2) (Zn1 xs bs h) ?_;refine fR (ai @c1 @c2) ?_;exact fD (ai @c1 @c2)
 ·have q3:(ZaJ [ZaN o o',ZbZ n n',ZaN s s']=0)=False:=eq_false h0;rw [if_neg h0];exact fD (aj3 @q3 @c1 @c2)
theorem ZrM (n:Nat):∀ a b:Tm,Zce (Zab a) < n->Con e1 105 [.agg (Zab a),.agg (Zab b)] [.one (.lit (.int .i64 (Zah a b)))]:=by
 induction n with
 | zero=>exact fun _ _ h=>om
 | succ n ih =>
  intro a b hn;refine Zpj a b fun x hx y hy=>ih x y ?_;obtain ⟨op,nm,so,args⟩:=a;simp only [Zab,Zce,ZgN] at hn;simp only [Tm.args] at hx;obtain ⟨i,hi⟩:=Tbj hx;have hi':(Zaa args)[i]?=some (Zab x):=by rw [Zbo,hi];rfl
  have h1:=Zen hi';omega
theorem ZjW (a b:Tm):Con e1 105 [.agg (Zab a),.agg (Zab b)] [.one (.lit (.int .i64 (Zah a b)))]:=ZrM _ a b (Tan _)
mutual
def sizeTm:Tm->Nat
 | .mk _ _ _ a=>1+sizeTms a
def sizeTms:List Tm->Nat
 | []=>0
 | t::ts=>sizeTm t+sizeTms ts
end
theorem Zad.mem {w:World} {S:Nat->Prop}:∀ {cs:List C} {us:List Value} {c:C},Zad w S cs us->c∈cs->∃ u,Rep w S c u
 | c::cs,u::us,x,h,hx=>by
  simp only [Zad] at h;rcases Tbf.1 hx with rfl | hx
  ·exact ⟨u,h.1⟩
  ·exact Zad.mem h.2 hx
 | [],_,_,_,hx=>by simp at hx
 | _::_,[],_,h,_=>by simp [Zad] at h
theorem Zw4 {e:Env} {f:FuncId} {cs:List C} {rows:List (List C)} {post r:List D} (hb:Zcf e.P f=true) (hc:.sl rows∈cs) (h:rows.length<=maxLen->Con e f (.agg cs::post) r):Con e f (.agg cs::post) r:=⟨hb,fun w S vs hS hE hG hv=>by
 match vs,hv with
 | v::vs,⟨h1,h2⟩ =>
  have h1':DRel w S (.agg cs) v:=h1;obtain ⟨us,_,hu⟩:=h1';obtain ⟨u,hr⟩:=hu.mem hc;obtain ⟨A,n,cap,_,hn,hl,hm⟩:=hr.form;exact (h om).2 w S _ hS hE hG ⟨h1,h2⟩⟩
theorem Zw5 {n n':ByteArray} (h:n≠n'):(n.toList==n'.toList)=false:=by
 simp only [beq_eq_false_iff_ne,ne_eq,ByteArray.toList_eq];intro e;apply h;obtain ⟨⟨la⟩⟩:=n;obtain ⟨⟨lb⟩⟩:=n';simp at e;rw [e]
theorem Zpk {x y:List Tm} {i:Nat} {a b:Tm} (ha:x[i]?=some a) (hb:y[i]?=some b):ZaF (x.drop i) (y.drop i)=if Zah a b=0 then ZaF (x.drop (i+1)) (y.drop (i+1)) else Zah a b:=by
 obtain ⟨h1,rfl⟩:=Tad.1 ha;obtain ⟨h2,rfl⟩:=Tad.1 hb;rw [List.drop_eq_getElem_cons h1,List.drop_eq_getElem_cons h2];simp only [ZaF,ZaJ];split
 ·split <;> simp_all
 ·rfl
theorem ZlG (a b:Tm) (ha:okTm a) (h:∀ x∈a.args,okTm x->∀ y∈b.args,Con e0 55 [.agg (Zab x),.agg (Zab y)] [.one (.lit (.int .i64 (Zah x y)))]):Con e0 55 [.agg (Zab a),.agg (Zab b)] [.one (.lit (.int .i64 (Zah a b)))]:=by
 obtain ⟨o,n,s,xs⟩:=a;obtain ⟨o',n',s',ys⟩:=b;simp only [Tm.args] at h;simp only [okTm] at ha;have c1:Zab (.mk o n s xs)=[.lit (.int .i64 o),.lit (.string n),.lit (.int .i64 s),.sl (Zaa xs)]:=by simp only [Zab]
 have c2:Zab (.mk o' n' s' ys)=[.lit (.int .i64 o'),.lit (.string n'),.lit (.int .i64 s'),.sl (Zaa ys)]:=by simp only [Zab]
 rw [c1,c2];refine Zw4 (rows:=Zaa xs) (by kernel_rfl) (by simp) fun hm1=>?_;unfold maxLen at hm1;rw [Zai] at hm1;by_cases ho:o=o';rotate_left
 ·have q1:(o=o')=False:=eq_false ho;have hz:ZaN o o'≠0:=fun e=>ho (ZcE.1 e);rw [show Zah (.mk o n s xs) (.mk o' n' s' ys)=ZaN o o' by simp only [Zah,ZaJ,if_neg hz]];by_cases hl:o < o'
  ·have q2:(o < o')=True:=eq_true hl;rw [show ZaN o o'=-1 by unfold ZaN;rw [if_pos hl]];refine gI (ts:=[.slot 4]) 304601861798674884003967 Tryz.func55 ?_;exact fD (ai @q1 @q2)
  ·have q2:(o < o')=False:=eq_false hl;rw [show ZaN o o'=1 by unfold ZaN;rw [if_neg hl,if_pos om]];refine gI (ts:=[.slot 4]) 304601861798674884003967 Tryz.func55 ?_;exact fD (ai @q1 @q2)
 subst ho;have hz0:ZaN o o=0:=ZcE.2 rfl;by_cases hn:n=n';rotate_left
 ·have q1:=Zw5 hn;have hz:ZbZ n n'≠0:=fun e=>hn (Ze0.1 e);have hlq:Op.bytesLess n.toList n'.toList=decide (ZbZ n n'=-1):=by rw [ByteArray.toList_eq,ByteArray.toList_eq];exact Zfl _ _
  rw [show Zah (.mk o n s xs) (.mk o n' s' ys)=ZbZ n n' by simp only [Zah,ZaJ,if_pos hz0,if_neg hz]];rcases ZnY n n' with e | e | e
  ·have q2:Op.bytesLess n.toList n'.toList=true:=by rw [hlq,e];rfl
   rw [e];refine gI (ts:=[.slot 4]) 304601861798674884003967 Tryz.func55 ?_;exact fD (ai @q1 @q2)
  ·exact absurd e hz
  ·have q2:Op.bytesLess n.toList n'.toList=false:=by rw [hlq,e];rfl
   rw [e];refine gI (ts:=[.slot 4]) 304601861798674884003967 Tryz.func55 ?_;exact fD (ai @q1 @q2)
 subst hn;have hz1:ZbZ n n=0:=Ze0.2 rfl;by_cases hs:s=s';rotate_left
 ·have q1:(s=s')=False:=eq_false hs;have hz:ZaN s s'≠0:=fun e=>hs (ZcE.1 e);rw [show Zah (.mk o n s xs) (.mk o n s' ys)=ZaN s s' by simp only [Zah,ZaJ,if_pos hz0,if_pos hz1,if_neg hz]];by_cases hl:s < s'
  ·have q2:(s < s')=True:=eq_true hl;rw [show ZaN s s'=-1 by unfold ZaN;rw [if_pos hl]];refine gI (ts:=[.slot 4]) 304601861798674884003967 Tryz.func55 ?_;exact fD (aj3 @q1 @q2 @beq_self_eq_true.{0})
  ·have q2:(s < s')=False:=eq_false hl;rw [show ZaN s s'=1 by unfold ZaN;rw [if_neg hl,if_pos om]];refine gI (ts:=[.slot 4]) 304601861798674884003967 Tryz.func55 ?_;exact fD (aj3 @q1 @q2 @beq_self_eq_true.{0})
 subst hs;have hz2:ZaN s s=0:=ZcE.2 rfl
 rw [show Zah (.mk o n s xs) (.mk o n s ys)=ZaF xs ys by
  simp only [Zah,ZaJ,if_pos hz0,if_pos hz1,if_pos hz2];split <;> simp_all]
 refine gI (ts:=[.slot 4]) 304601861798674884003967 Tryz.func55 ?_;refine fG (@beq_self_eq_true.{0}) ?_;have F:=@e0P;refine gL (ι:=Nat) [4,5,6,48,63] [] (fun i=>[(5,A.d (.one (.lit (.int .i64 i))))]) (fun i=>[]) (fun i=>i<=xs.length∧i<=ys.length∧ZaF xs ys=ZaF (xs.drop i) (ys.drop i)) (fun i=>xs.length - i) (0) (⟨Taj _,Taj _,rfl⟩) (fun i hi=>?_);clear F;obtain ⟨hi1,hi2,he⟩:=hi;have l1:=Zai xs;have l2:=Zai ys
 by_cases h1:i < xs.length;rotate_left
 ·obtain rfl:i=xs.length:=by omega
  have q1:=lF xs.length xs.length;rw [List.drop_length] at he;by_cases h2:xs.length < ys.length
  ·have q2:=lT xs.length ys.length;rw [he,List.drop_eq_getElem_cons h2];simp only [ZaF];exact fD (aj3 @q1 @q2 @tmz)
  ·have q2:=lF xs.length ys.length;have q3:((xs.length:Int) > (ys.length:Int))=False:=eq_false om;rw [he,List.drop_of_length_le om];simp only [ZaF];exact fD (aj4 @q1 @q2 @q3 @tmz)
 have q1:=lT i xs.length;by_cases h2:i < ys.length;rotate_left
 ·obtain rfl:i=ys.length:=by omega
  have q2:=lF ys.length ys.length;have q3:=lF xs.length ys.length;have q4:((xs.length:Int) > (ys.length:Int))=True:=eq_true om;rw [he,List.drop_length,List.drop_eq_getElem_cons h1];simp only [ZaF];exact fD (aj5 @q1 @q2 @q3 @q4 @tmz)
 have q2:=lT i ys.length;obtain ⟨x,hx⟩:∃ x,xs[i]?=some x:=⟨_,Taa h1⟩;obtain ⟨y,hy⟩:∃ y,ys[i]?=some y:=⟨_,Taa h2⟩;have cC:=h x (Tac hx) (Zaw.mem ha.2.2.2 (Tac hx)) y (Tac hy);rw [Zpk hx hy] at he;have hwi:=Zap (k:=i) om;refine fN 16 (aj3 @q1 @q2 @tmz) ?_;refine gB ?_;refine fC (aj6 @hx @hy @h1 @h2 @ZaS @tmz) (cC) ?_;by_cases h0:Zah x y=0
 ·have q5:(Zah x y=0)=True:=eq_true h0;rw [if_pos h0] at he;refine fR @e0P ?_;have F:=ai @q5 @hwi;refine gG ?_;exact ⟨i+1,⟨h1,h2,he⟩,gw,gw,om⟩
 ·have q5:(Zah x y=0)=False:=eq_false h0;rw [if_neg h0] at he;rw [he];refine fR @e0P ?_;exact fD @q5
theorem ZmX (n:Nat):∀ a b:Tm,Zce (Zab a) < n->okTm a->Con e0 55 [.agg (Zab a),.agg (Zab b)] [.one (.lit (.int .i64 (Zah a b)))]:=by
 induction n with
 | zero=>exact fun _ _ h=>absurd h om
 | succ n ih =>
  intro a b hn ha;refine ZlG a b ha fun x hx hox y hy=>ih x y ?_ hox;obtain ⟨op,nm,so,args⟩:=a;simp only [Zab,Zce,ZgN] at hn;simp only [Tm.args] at hx;obtain ⟨i,hi⟩:=Tbj hx;have hi':(Zaa args)[i]?=some (Zab x):=by rw [Zbo,hi];rfl
  have h1:=Zen hi';omega
theorem Zpl {a b:Tm} (ha:okTm a) (hk:okTm b):Con e0 105 [.agg (Zab a),.agg (Zab b)] [.one (.lit (.int .i64 (Zah a b)))]:=Zy6 (ZjW a b)
theorem Zdw {a b:Tm} (ha:okTm a) (hk:okTm b):Con e0 55 [.agg (Zab a),.agg (Zab b)] [.one (.lit (.int .i64 (Zah a b)))]:=ZmX _ a b (Tan _) ha
theorem wrap_i64 {n:Int} (h0:0<=n) (h1:n < 9223372036854775808):IntKind.i64.wrap n=n:=by
 simp [IntKind.wrap,IntKind.bits,IntKind.signed];omega
theorem ZgW {a:Nat} (h:a < 18446744073709551616):(BitVec.ofInt 64 (a:Int)).toNat=a:=by
 rw [BitVec.toNat_ofInt];omega
theorem Zer {a b:Nat} (ha:a < 4611686018427387904) (hb:b < 4611686018427387904):bits .or .i64 (a:Int) (b:Int)=((a ||| b:Nat):Int):=by
 have h:a ||| b < 2 ^ 62:=Nat.or_lt_two_pow om om;have e:(BitVec.ofInt IntKind.i64.bits (a:Int) ||| BitVec.ofInt IntKind.i64.bits (b:Int)).toNat=a ||| b:=by
  rw [BitVec.toNat_or];show (BitVec.ofInt 64 (a:Int)).toNat ||| (BitVec.ofInt 64 (b:Int)).toNat=_;rw [ZgW om,ZgW om]
 unfold bits;show IntKind.i64.wrap _=_;rw [e];exact wrap_i64 om om
theorem Zhg {a b:Nat} (ha:a < 4611686018427387904) (hb:b < 4611686018427387904):bits .and .i64 (a:Int) (b:Int)=((a &&& b:Nat):Int):=by
 have h:a &&& b < 2 ^ 62:=Nat.and_lt_two_pow _ om;have e:(BitVec.ofInt IntKind.i64.bits (a:Int) &&& BitVec.ofInt IntKind.i64.bits (b:Int)).toNat=a &&& b:=by
  rw [BitVec.toNat_and];show (BitVec.ofInt 64 (a:Int)).toNat &&& (BitVec.ofInt 64 (b:Int)).toNat=_;rw [ZgW om,ZgW om]
 unfold bits;show IntKind.i64.wrap _=_;rw [e];exact wrap_i64 om om
theorem ZfQ {k:Nat} (h:k < 62):2 ^ k < 4611686018427387904:=Tbc (Nat.pow_lt_pow_right om h) om
theorem testBit_and (a k:Nat):((a &&& 2 ^ k) != 0)=a.testBit k:=by
 cases h:a.testBit k
 ·have:a &&& 2 ^ k=0:=by
   apply Nat.eq_of_testBit_eq;intro j;rw [Nat.testBit_and,Nat.testBit_two_pow,Nat.zero_testBit];by_cases hj:k=j
   ·subst hj;simp [h]
   ·simp [hj]
  simp [this]
 ·have:¬ (a &&& 2 ^ k=0):=by
   intro h0;have h1:(a &&& 2 ^ k).testBit k=true:=by rw [Nat.testBit_and,Nat.testBit_two_pow];simp [h]
   rw [h0,Nat.zero_testBit] at h1;simp at h1
  simp [this]
theorem Zpm {a k:Nat} (ha:a < 4611686018427387904):(bits .and .i64 ((a:Int) / 2 ^ k) 1==1)=a.testBit k:=by
 have e:(a:Int) / 2 ^ k=((a / 2 ^ k:Nat):Int):=by simp
 have h1:a / 2 ^ k<=a:=Nat.div_le_self _ _;have h2:bits .and .i64 ((a / 2 ^ k:Nat):Int) ((1:Nat):Int)=_:=Zhg om om;rw [e];rw [show (1:Int)=((1:Nat):Int) from rfl,h2,Nat.testBit,Nat.shiftRight_eq_div_pow,Nat.and_comm];have h3:1 &&& a / 2 ^ k < 2:=by rw [Nat.one_and_eq_mod_two];omega
 generalize 1 &&& a / 2 ^ k=x at h3 ⊢;have:x=0∨x=1:=om;rcases this with rfl | rfl <;> rfl
def Zdc (l:List Nat) (p:Int × Int):List Nat:=l.set p.1.toNat (l.getD p.1.toNat 0 ||| l.getD p.2.toNat 0)
def Zzv (subs:List (Int × Int)) (l:List Nat):List Nat:=subs.foldl Zdc l
def Zds (subs:List (Int × Int)):Nat->List Nat->List Nat
 | 0,l=>l
 | k+1,l=>Zzv subs (Zds subs k l)
def up0 (n:Nat):List Nat:=(List.range n).map (2 ^ ·)
def up (s:Srt):List Nat:=Zds s.subs s.names.length (up0 s.names.length)
def ZbW (l:List Nat):List Int:=l.map (fun (n:Nat)=>(n:Int))
def ZcW (n:Nat) (subs:List (Int × Int)):Prop:=∀ p∈subs,0<=p.1∧p.1 < n∧0<=p.2∧p.2 < n
def UpOk (n:Nat) (l:List Nat):Prop:=l.length=n∧∀ x∈l,x < 2 ^ n
theorem UpOk.get {n:Nat} {l:List Nat} (h:UpOk n l) {i:Nat} (hi:i < n):l[i]?=some (l.getD i 0)∧l.getD i 0 < 2 ^ n:=by
 have hl:i < l.length:=by rw [h.1];exact hi
 have e:l[i]?=some l[i]:=Taa hl;have e2:l.getD i 0=l[i]:=by simp [List.getD,e]
 rw [e2];exact ⟨e,h.2 _ (List.getElem_mem hl)⟩
theorem UpOk.sub {n:Nat} {l:List Nat} (h:UpOk n l) {p:Int × Int} (hp:0<=p.1∧p.1 < n∧0<=p.2∧p.2 < n):UpOk n (Zdc l p):=by
 refine ⟨by unfold Zdc;rw [Tay];exact h.1,fun x hx=>?_⟩;unfold Zdc at hx;rcases List.mem_or_eq_of_mem_set hx with hx | rfl
 ·exact h.2 x hx
 ·exact Nat.or_lt_two_pow (h.get (i:=p.1.toNat) om).2 (h.get (i:=p.2.toNat) om).2
theorem UpOk.foldl {n:Nat}:∀ {subs:List (Int × Int)} {l:List Nat},UpOk n l->ZcW n subs->UpOk n (subs.foldl Zdc l)
 | [],l,h,_=>h
 | p::ps,l,h,hs=>UpOk.foldl (subs:=ps) (h.sub (hs p (by simp))) (fun q hq=>hs q (by simp [hq]))
theorem UpOk.iter {n:Nat} {subs:List (Int × Int)} (hs:ZcW n subs):∀ (k:Nat) {l:List Nat},UpOk n l->UpOk n (Zds subs k l)
 | 0,l,h=>h
 | k+1,l,h=>(UpOk.iter hs k h).foldl hs
theorem UpOk.start (n:Nat):UpOk n (up0 n):=by
 refine ⟨by simp [up0],fun x hx=>?_⟩;simp only [up0,Tbh,List.mem_range] at hx;obtain ⟨i,hi,rfl⟩:=hx;exact Nat.pow_lt_pow_right om hi
theorem Zfr {s:Srt} (h:ZcW s.names.length s.subs):UpOk s.names.length (up s):=UpOk.iter h _ (UpOk.start _)
theorem Zhh {α β:Type} {f:β->α->β} {l:List α} {k:Nat} {a:α} (h:l[k]?=some a) (b:β):(l.take (k+1)).foldl f b=f ((l.take k).foldl f b) a:=by
 rw [Zcm h,List.foldl_append];rfl
theorem ZcW.take {n:Nat} {subs:List (Int × Int)} (h:ZcW n subs) (k:Nat):ZcW n (subs.take k):=fun p hp=>h p (List.mem_of_mem_take hp)
theorem Zmc (l:List Nat):(ZbW l).length=l.length:=by simp [ZbW]
theorem Zu6 {l:List Nat} {i x:Nat} (h:l[i]?=some x):(ZbW l)[i]?=some (x:Int):=by simp [ZbW,h]
theorem Zu7 (l:List Nat) (i x:Nat):ZbW (l.set i x)=(ZbW l).set i (x:Int):=by simp [ZbW,List.map_set]
theorem ZrN (l:List Nat) (x:Nat):ZbW (l++[x])=ZbW l++[(x:Int)]:=by simp [ZbW]
def ZdA (n k:Nat):List Nat:=up0 k++List.replicate (n - k) 0
theorem Zu8 {n k:Nat} (h:k<=n):(ZdA n k).length=n:=by simp [ZdA,up0];omega
theorem Zu9 {n k:Nat} (h:k < n):(ZdA n k).set k (2 ^ k)=ZdA n (k+1):=by
 unfold ZdA;have e:n - k=(n - (k+1))+1:=om;have e2:up0 (k+1)=up0 k++[2 ^ k]:=by simp [up0,List.range_succ]
 have e3:(up0 k).length=k:=by simp [up0]
 rw [e,List.replicate_succ,List.set_append_right _ _ om,e3,Nat.sub_self,List.set_cons_zero,e2,Tbe];rfl
theorem Zva (n:Nat):ZdA n n=up0 n:=by simp [ZdA]
theorem Zw6 (k:Nat):up0 (k+1)=up0 k++[2 ^ k]:=by simp [up0,List.range_succ]
def Za6 (l:List ByteArray) (s:ByteArray):Bool:=l.any (fun t=>s.toList==t.toList)
def Zcj (n:Int):Bool:=decide (48<=n∧n<=57) || decide (65<=n∧n<=90) || decide (97<=n∧n<=122)
def Zfb (s:ByteArray) (i:Nat):Int:=if h:i < s.size then (s[i].toNat:Int) else 0
def ZaZ (s:ByteArray) (k:Nat):Bool:=(List.range' k (s.size - k)).all (fun i=>Zcj (Zfb s i) && !(i==0 && decide (Zfb s i<=57)))
def Za7 (s:ByteArray):Bool:=decide (1<=s.size∧s.size<=12) && !(s.toList==[105,102]) && !(s.toList==[97,110,100]) && ZaZ s 0
theorem ZmY {s:ByteArray} {k:Nat} (h:k < s.size):ZaZ s k=((Zcj (s[k].toNat:Int) && !(k==0 && decide ((s[k].toNat:Int)<=57))) && ZaZ s (k+1)):=by
 have eb:Zfb s k=(s[k].toNat:Int):=by unfold Zfb;rw [dif_pos h]
 rw [<- eb];unfold ZaZ;have e:s.size - k=(s.size - (k+1))+1:=om;rw [e,List.range'_succ,List.all_cons]
theorem Zid {s:ByteArray} {k:Nat} (h:s.size<=k):ZaZ s k=true:=by
 unfold ZaZ;have e:s.size - k=0:=om;rw [e];rfl
theorem ZcB {s:ByteArray} (h:s.size < 1∨12 < s.size∨s.toList=[105,102]∨s.toList=[97,110,100]):Za7 s=false:=by
 unfold Za7;rcases h with h | h | h | h
 ·have:¬ (1<=s.size∧s.size<=12):=om;simp [this]
 ·have:¬ (1<=s.size∧s.size<=12):=om;simp [this]
 ·simp [h]
 ·simp [h]
def Zeg (n:Nat) (p:Int × Int):Prop:=0<=p.1∧p.1 < n∧0<=p.2∧p.2 < n∧p.1≠p.2
def Zie (names:List ByteArray) (i:Nat):Prop:=∀ x,names[i]?=some x->Za7 x=true∧Za6 (names.take i) x=false
def ZcI (u:List Nat) (i k:Nat):Prop:=¬ (i≠k∧(u.getD i 0).testBit k=true∧(u.getD k 0).testBit i=true)
structure SortsOk (s:Srt):Prop where
 n1:1<=s.names.length
 n8:s.names.length<=8
 m16:s.subs.length<=16
 names:∀ i,i < s.names.length->Zie s.names i
 subs:∀ p∈s.subs,Zeg s.names.length p
 pairs:∀ i k,i < s.names.length->k < s.names.length->ZcI (up s) i k
open Classical in
noncomputable def ZbU (s:Srt):Bool:=decide (SortsOk s)
theorem ZeA {s:Srt} (h:SortsOk s):ZbU s=true:=by unfold ZbU;simp [h]
theorem Zfh {s:Srt} (h:¬ SortsOk s):ZbU s=false:=by unfold ZbU;simp [h]
theorem Zpn {s:Srt}:ZbU s=true ↔ SortsOk s:=by unfold ZbU;simp
theorem SortsOk.subsIn {s:Srt} (h:∀ p∈s.subs,Zeg s.names.length p):ZcW s.names.length s.subs:=fun p hp=>⟨(h p hp).1,(h p hp).2.1,(h p hp).2.2.1,(h p hp).2.2.2.1⟩
theorem Zra {a b:ByteArray}:(a.toList==b.toList)=(b.toList==a.toList):=by
 rw [Bool.eq_iff_iff];simp;exact ⟨fun h=>h.symm,fun h=>h.symm⟩
theorem Zpo {l:List ByteArray} {s x:ByteArray} {k:Nat} (h:l[k]?=some x):Za6 (l.drop k) s=((x.toList==s.toList) || Za6 (l.drop (k+1)) s):=by
 obtain ⟨hl,hx⟩:=Tad.1 h;rw [List.drop_eq_getElem_cons hl,hx,Za6,List.any_cons,Zra];rfl
theorem Zpp (l:List ByteArray) (t s:ByteArray):Za6 (l++[t]) s=(Za6 l s || (s.toList==t.toList)):=by simp [Za6,List.any_append]
def kSub (l:List Nat) (p:Int × Int):List Nat:=(l.set p.1.toNat (min (l.getD p.1.toNat 0) (l.getD p.2.toNat 0))).set p.2.toNat (min (l.getD p.1.toNat 0) (l.getD p.2.toNat 0))
def Zdo (subs:List (Int × Int)):Nat->List Nat->List Nat
 | 0,l=>l
 | k+1,l=>subs.foldl kSub (Zdo subs k l)
def Zb0 (s:Srt):List Nat:=Zdo s.subs s.names.length (List.range s.names.length)
def KOk (n:Nat) (l:List Nat):Prop:=l.length=n∧∀ x∈l,x < n
theorem KOk.get {n:Nat} {l:List Nat} (h:KOk n l) {i:Nat} (hi:i < n):l[i]?=some (l.getD i 0)∧l.getD i 0 < n:=by
 have hl:i < l.length:=by rw [h.1];exact hi
 have e:l[i]?=some l[i]:=Taa hl;have e2:l.getD i 0=l[i]:=by simp [List.getD,e]
 rw [e2];exact ⟨e,h.2 _ (List.getElem_mem hl)⟩
theorem KOk.sub {n:Nat} {l:List Nat} (h:KOk n l) {p:Int × Int} (hp:0<=p.1∧p.1 < n∧0<=p.2∧p.2 < n):KOk n (kSub l p):=by
 refine ⟨by unfold kSub;rw [Tay,Tay];exact h.1,fun x hx=>?_⟩;have hm:min (l.getD p.1.toNat 0) (l.getD p.2.toNat 0) < n:=by
  have:=(h.get (i:=p.1.toNat) om).2;omega
 unfold kSub at hx;rcases List.mem_or_eq_of_mem_set hx with hx | rfl
 ·rcases List.mem_or_eq_of_mem_set hx with hx | rfl
  ·exact h.2 x hx
  ·exact hm
 ·exact hm
theorem KOk.foldl {n:Nat}:∀ {subs:List (Int × Int)} {l:List Nat},KOk n l->ZcW n subs->KOk n (subs.foldl kSub l)
 | [],l,h,_=>h
 | p::ps,l,h,hs=>KOk.foldl (subs:=ps) (h.sub (hs p (by simp))) (fun q hq=>hs q (by simp [hq]))
theorem KOk.iter {n:Nat} {subs:List (Int × Int)} (hs:ZcW n subs):∀ (k:Nat) {l:List Nat},KOk n l->KOk n (Zdo subs k l)
 | 0,l,h=>h
 | k+1,l,h=>(KOk.iter hs k h).foldl hs
theorem KOk.start (n:Nat):KOk n (List.range n):=⟨by simp,fun x hx=>by simpa using hx⟩
theorem Zhi {s:Srt} (h:ZcW s.names.length s.subs):KOk s.names.length (Zb0 s):=KOk.iter h _ (KOk.start _)
def Zco (a k:Nat):List Nat:=(List.range k).filter (fun j=>a.testBit j)
def Zd5 (a:Nat):List Nat:=Zco a 16
theorem ZrO {a k:Nat} (h:a.testBit k=true):Zco a (k+1)=Zco a k++[k]:=by simp [Zco,List.range_succ,List.filter_append,h]
theorem Zvb {a k:Nat} (h:a.testBit k=false):Zco a (k+1)=Zco a k:=by simp [Zco,List.range_succ,List.filter_append,h]
theorem ZkF (a k:Nat):(Zco a k).length<=k:=by
 have:=List.length_filter_le (fun j=>a.testBit j) (List.range k);simpa [Zco] using this
def downIn (i:Nat) (l:List Nat) (ks:List Nat):List Nat:=ks.foldl (fun l k=>l.set k (l.getD k 0 ||| 2 ^ i)) l
def downs (u:List Nat):Nat->List Nat->List Nat
 | 0,l=>l
 | m+1,l=>downIn m (downs u m l) (Zd5 (u.getD m 0))
def down (s:Srt):List Nat:=downs (up s) s.names.length (List.replicate s.names.length 0)
theorem UpOk.or {n:Nat} {l:List Nat} (h:UpOk n l) {k i:Nat} (hk:k < n) (hi:i < n):UpOk n (l.set k (l.getD k 0 ||| 2 ^ i)):=by
 refine ⟨by rw [Tay];exact h.1,fun x hx=>?_⟩;rcases List.mem_or_eq_of_mem_set hx with hx | rfl
 ·exact h.2 x hx
 ·exact Nat.or_lt_two_pow (h.get hk).2 (Nat.pow_lt_pow_right om hi)
theorem UpOk.downIn {n i:Nat} (hi:i < n):∀ {ks l:List Nat},UpOk n l->(∀ k∈ks,k < n)->UpOk n (downIn i l ks)
 | [],l,h,_=>h
 | k::ks,l,h,hk=>UpOk.downIn (ks:=ks) hi (h.or (hk k (by simp)) hi) (fun q hq=>hk q (by simp [hq]))
theorem Zmd {a n:Nat} (h:a < 2 ^ n):∀ k∈Zd5 a,k < n:=by
 intro k hk;simp only [Zd5,Zco,List.mem_filter,List.mem_range] at hk;refine Decidable.byContradiction fun hn=>?_;have:=Tbs (Tbc h (Tbr om (by omega:n<=k)));rw [this] at hk;simp at hk
theorem UpOk.downs {n:Nat} {u:List Nat} (hu:UpOk n u):∀ (m:Nat) {l:List Nat},m<=n->UpOk n l->UpOk n (downs u m l)
 | 0,l,_,h=>h
 | m+1,l,hm,h=>(UpOk.downs hu m om h).downIn om (Zmd (hu.get om).2)
theorem UpOk.zeros (n:Nat):UpOk n (List.replicate n 0):=⟨by simp,fun x hx=>by rw [(List.mem_replicate.1 hx).2];exact Nat.two_pow_pos n⟩
theorem Zzw {s:Srt} (h:ZcW s.names.length s.subs):UpOk s.names.length (down s):=UpOk.downs (Zfr h) _ (Tai _) (UpOk.zeros _)
def ZdB (n k:Nat):List Nat:=List.range k++List.replicate (n - k) 0
theorem Zme {n k:Nat} (h:k<=n):(ZdB n k).length=n:=by simp [ZdB];omega
theorem Zvc {n k:Nat} (h:k < n):(ZdB n k).set k k=ZdB n (k+1):=by
 unfold ZdB;rw [List.set_append_right _ _ (by simp),List.length_range,Nat.sub_self,List.range_succ];obtain ⟨m,hm⟩:∃ m,n - k=m+1:=⟨n - k - 1,om⟩;rw [hm,show n - (k+1)=m by omega];simp [List.replicate_succ]
theorem Zvd (n:Nat):ZdB n n=List.range n:=by simp [ZdB]
def kd (s:Srt) (k:Int):Nat:=(Zb0 s).getD k.toNat 0
structure DeclOk (s:Srt) (f d:Dcl):Prop where
 len:d.args.length=f.args.length
 res:0<=d.res∧d.res < s.names.length
 args:∀ k∈d.args,0<=k∧k < s.names.length
 kres:kd s d.res=kd s f.res
 kargs:∀ (i:Nat) (a b:Int),d.args[i]?=some a->f.args[i]?=some b->kd s a=kd s b
structure DeclsOk (s:Srt) (o:Opr):Prop where
 len1:1<=o.decls.length
 len4:o.decls.length<=4
 ar:∀ f,o.decls[0]?=some f->f.args.length<=3
 all:∀ f,o.decls[0]?=some f->∀ d∈o.decls,DeclOk s f d
open Classical in
noncomputable def Zca (s:Srt) (o:Opr):Bool:=decide (DeclsOk s o)
theorem ZeB {s:Srt} {o:Opr} (h:DeclsOk s o):Zca s o=true:=by simp [Zca,h]
theorem ZhT {s:Srt} {o:Opr} (h:¬ DeclsOk s o):Zca s o=false:=by simp [Zca,h]
theorem Zjq {s:Srt} {o:Opr}:Zca s o=true ↔ DeclsOk s o:=by simp [Zca]
structure AxOk (g:Sgn) (o:Opr):Prop where
 lo:0<=o.unit
 hi:o.unit<=g.ops.length
 two:(o.assoc=true∨o.comm=true∨o.unit≠0)->∀ d,o.decls[0]?=some d->d.args.length=2∧∀ a b,d.args[0]?=some a->d.args[1]?=some b->kd g.sorts a=kd g.sorts b∧((o.assoc=true∨o.unit≠0)->kd g.sorts a=kd g.sorts d.res) ∧
  (o.unit≠0->∀ (p:Opr) (u:Dcl),g.ops[o.unit.toNat - 1]?=some p->p.decls[0]?=some u->u.args.length=0∧kd g.sorts u.res=kd g.sorts d.res)
open Classical in
noncomputable def axOk (g:Sgn) (o:Opr):Bool:=decide (AxOk g o)
theorem Zdl {g:Sgn} {o:Opr} (h:AxOk g o):axOk g o=true:=by simp [axOk,h]
theorem ZkG {g:Sgn} {o:Opr} (h:¬ AxOk g o):axOk g o=false:=by simp [axOk,h]
theorem Zn2 {g:Sgn} {o:Opr}:axOk g o=true ↔ AxOk g o:=by simp [axOk]
theorem DeclsOk.first {s:Srt} {o:Opr} (h:DeclsOk s o):∃ d,o.decls[0]?=some d∧DeclOk s d d:=by
 have h1:=h.len1;exact ⟨o.decls[0],Taa om,h.all _ (Taa om) _ (List.getElem_mem _)⟩
theorem Zn3 {l:List Int} (h:l.length=2):∃ a b,l=[a,b]:=len2 h
def Zbt (l:List Opr):List ByteArray:=l.map (·.name)
structure SgnOk (g:Sgn):Prop where
 sorts:SortsOk g.sorts
 len:g.ops.length<=14
 names:∀ (i:Nat) (o:Opr),g.ops[i]?=some o->Za7 o.name=true∧Za6 (Zbt (g.ops.take i)) o.name=false
 decls:∀ o∈g.ops,DeclsOk g.sorts o
 axs:∀ o∈g.ops,AxOk g o
open Classical in
noncomputable def Zbw (g:Sgn):Bool:=decide (SgnOk g)
theorem ZcX {g:Sgn} (h:SgnOk g):Zbw g=true:=by simp [Zbw,h]
theorem Ze1 {g:Sgn} (h:¬ SgnOk g):Zbw g=false:=by simp [Zbw,h]
theorem Zdm {g:Sgn}:Zbw g=true ↔ SgnOk g:=by simp [Zbw]
theorem Zif {l:List Opr} {k:Nat} {o:Opr} (h:l[k]?=some o):Zbt (l.take (k+1))=Zbt (l.take k)++[o.name]:=by
 rw [Zcm h];simp [Zbt]
structure TabOk (z:Int) (n:Nat) (t:List Int):Prop where
 len:t.length=z.toNat ^ n
 all:∀ x∈t,0<=x∧x < z
structure AlgOk (g:Sgn) (a:Alg):Prop where
 sgn:SgnOk g
 lo:1<=a.size
 hi:a.size<=4
 len:a.tables.length=g.ops.length
 tab:∀ (i:Nat) (o:Opr) (d:Dcl) (t:List Int),g.ops[i]?=some o->o.decls[0]?=some d->a.tables[i]?=some t->TabOk a.size d.args.length t
open Classical in
noncomputable def ZcM (g:Sgn) (a:Alg):Bool:=decide (AlgOk g a)
theorem ZeC {g:Sgn} {a:Alg} (h:AlgOk g a):ZcM g a=true:=by simp [ZcM,h]
theorem Zjr {g:Sgn} {a:Alg} (h:¬ AlgOk g a):ZcM g a=false:=by simp [ZcM,h]
theorem Zgg {g:Sgn} {a:Alg}:ZcM g a=true ↔ AlgOk g a:=by simp [ZcM]
theorem Zhj {z j:Nat} (hz:z<=4) (hj:j<=3):z ^ j<=64:=Tbd (Nat.pow_le_pow_left hz j) (Tbd (Tbr om hj) (by decide))
theorem ZfR {s:ByteArray} {k:Nat} {b:UInt8} (h:s[k]?=some b):ZaZ s k=((Zcj (b.toNat:Int) && !(k==0 && decide ((b.toNat:Int)<=57))) && ZaZ s (k+1)):=by
 obtain ⟨hk,rfl⟩:=getElem?_eq_some_iff.1 h;exact ZmY hk
theorem Zn4 (n:Int):Con e0 128 [.one (.lit (.int .u8 n))] [.one (.lit (.bool (Zcj n)))]:=by
 by_cases h1:48<=n <;> by_cases h2:n<=57 <;> by_cases h3:65<=n <;> by_cases h4:n<=90 <;> by_cases h5:97<=n <;> by_cases h6:n<=122 <;> first
  | (exfalso;omega)
  | (have hr : Zcj   n = true := by simp [Zcj  , h1, h2, h3, h4, h5, h6]
     refine gI 5 Tryz.func128 ?_
     (exact fT (aj7 @h1 @h2 @h3 @h4 @h5 @h6 @hr)))
  | (have hr : Zcj   n = false := by simp [Zcj  , h1, h2, h3, h4, h5, h6]
     refine gI 5 Tryz.func128 ?_
     (exact fT (aj7 @h1 @h2 @h3 @h4 @h5 @h6 @hr)))
theorem strL (l:List UInt8):(⟨l.toArray⟩:ByteArray).toList=l:=by
 rw [ByteArray.toList_eq]
section
variable {s:ByteArray}
theorem Zmf (h1:1<=s.size) (h2:s.size<=12) (h3:¬ s.toList=[105,102]) (h4:¬ s.toList=[97,110,100]):Za7 s=ZaZ s 0:=by
 simp [Za7,h1,h2,h3,h4]
theorem ZfS (hs:s.size<=maxLen):Con e0 107 [.one (.lit (.string s))] [.one (.lit (.bool (Za7 s)))]:=by
 have l1:(⟨#[105,102]⟩:ByteArray).toList=[105,102]:=strL [105,102];have l2:(⟨#[97,110,100]⟩:ByteArray).toList=[97,110,100]:=strL [97,110,100];refine gI 1099520540685 Tryz.func107 ?_;by_cases h1:1<=s.size;rotate_left
 ·have hf:=ZcB (s:=s) (.inl om);have z1:=lT s.size 1;exact fT (ai @z1 @hf)
 have z1:=lF s.size 1;by_cases h2:s.size<=12;rotate_left
 ·have hf:=ZcB (s:=s) (.inr (.inl om));have z2:=lT 12 s.size;exact fT (aj3 @z1 @z2 @hf)
 have z2:=lF 12 s.size;by_cases h3:s.toList=[105,102]
 ·have hf:=ZcB (s:=s) (.inr (.inr (.inl h3)));exact fT (aj6 @z1 @z2 @l1 @h3 @beq_self_eq_true.{0} @hf)
 have z3:(s.toList==[105,102])=false:=by simpa using h3
 by_cases h4:s.toList=[97,110,100]
 ·have hf:=ZcB (s:=s) (.inr (.inr (.inr h4)));have z3:(([97,110,100]:List UInt8)==[105,102])=false:=by decide
  exact fT (aj8 @z1 @z2 @l1 @l2 @h4 @z3 @beq_self_eq_true.{0} @hf)
 have z4:(s.toList==[97,110,100])=false:=by simpa using h4
 rw [Zmf h1 h2 h3 h4];refine fG (aj6 @z1 @z2 @l1 @l2 @z3 @z4) ?_;have F:=@e0P;refine gL (ι:=Nat) [2,3,23,40] [] (fun k=>[(3,A.d (.one (.lit (.int .i64 k))))]) (fun k=>[]) (fun k=>k<=s.size∧ZaZ s 0=ZaZ s k) (fun k=>s.size - k) (0) (⟨Taj _,rfl⟩) (fun k hk=>?_);clear F;obtain ⟨hk,he⟩:=hk;rw [he];by_cases hlt:k < s.size;rotate_left
 ·have q1:¬ ((k:Int) < (s.size:Int)):=om;have ht:=Zid (s:=s) (k:=k) om;exact fT (ai @q1 @ht)
 have q1:(k:Int) < (s.size:Int):=om;obtain ⟨b,hb⟩:∃ b,s[k]?=some b:=⟨s[k],getElem?_pos s k hlt⟩;have hw1:=Zap (k:=k) om;have hst:=ZfR hb;refine fB @q1 ?_;refine fC @hb (Zn4 (b.toNat:Int)) ?_
 cases hn:Zcj (b.toNat:Int) with
 | false =>
  have hf:ZaZ s k=false:=by rw [hst,hn];rfl
  refine fR @e0P ?_;exact fT @hf
 | true =>
 by_cases hk0:k=0
 ·have z5:((k:Int)=0)=True:=eq_true om;by_cases h9:(b.toNat:Int)<=57
  ·have z6:((b.toNat:Int)<=57)=True:=eq_true h9;have hf:ZaZ s k=false:=by rw [hst,hn,hk0];simp [h9]
   refine fR (aj3 @z5 @hb @z6) ?_;exact fT @hf
  ·have z6:((b.toNat:Int)<=57)=False:=eq_false h9;have hq:ZaZ s k=ZaZ s (k+1):=by rw [hst,hn];simp [h9]
   refine fR (aj3 @z5 @hb @z6) ?_;have F:=@hw1;refine gG ?_;exact ⟨k+1,⟨hlt,hq⟩,gw,gw,om⟩
 ·have z5:((k:Int)=0)=False:=eq_false om;have hq:ZaZ s k=ZaZ s (k+1):=by rw [hst,hn];simp [hk0]
  refine fR @z5 ?_;have F:=@hw1;refine gG ?_;exact ⟨k+1,⟨hlt,hq⟩,gw,gw,om⟩
theorem ZfT (hs:s.size<=maxLen):Con e0 81 [.one (.lit (.string s))] [.one (.lit (.bool (Za7 s)))]:=by
 have l1:(⟨#[105,102]⟩:ByteArray).toList=[105,102]:=strL [105,102];have l2:(⟨#[97,110,100]⟩:ByteArray).toList=[97,110,100]:=strL [97,110,100];refine gI 2417851639247950047084557 Tryz.func81 ?_;by_cases h3:s.toList=[105,102]
 ·have hf:=ZcB (s:=s) (.inr (.inr (.inl h3)));exact fT (aj4 @l1 @h3 @beq_self_eq_true.{0} @hf)
 have z3:(s.toList==[105,102])=false:=by simpa using h3
 by_cases h4:s.toList=[97,110,100]
 ·have hf:=ZcB (s:=s) (.inr (.inr (.inr h4)));have z3:(([97,110,100]:List UInt8)==[105,102])=false:=by decide
  exact fT (aj6 @l1 @l2 @h4 @z3 @beq_self_eq_true.{0} @hf)
 have z4:(s.toList==[97,110,100])=false:=by simpa using h4
 by_cases h1:1<=s.size;rotate_left
 ·have hf:=ZcB (s:=s) (.inl om);have z1:=lT s.size 1;exact fT (aj6 @l1 @l2 @z3 @z4 @z1 @hf)
 have z1:=lF s.size 1;by_cases h2:s.size<=12;rotate_left
 ·have hf:=ZcB (s:=s) (.inr (.inl om));have z2:=lT 12 s.size;exact fT (aj7 @l1 @l2 @z3 @z4 @z1 @z2 @hf)
 have z2:=lF 12 s.size;obtain ⟨b,hb⟩:∃ b,s[0]?=some b:=⟨s[0],getElem?_pos s 0 h1⟩;have hst:=ZfR hb;rw [Zmf h1 h2 h3 h4];have hb0:0<=(b.toNat:Int):=om;have hlet:∀ c:Bool,((decide (97<=(b.toNat:Int)∧(b.toNat:Int)<=122)) || decide (65<=(b.toNat:Int)∧(b.toNat:Int)<=90))=c->(Zcj (b.toNat:Int) && !((0:Nat)==0 && decide ((b.toNat:Int)<=57)))=c:=fun c hc=>by
  rw [<- hc,Bool.eq_iff_iff];simp [Zcj];omega
 have key:(decide (97<=(b.toNat:Int)∧(b.toNat:Int)<=122) || decide (65<=(b.toNat:Int)∧(b.toNat:Int)<=90))=true∨(decide (97<=(b.toNat:Int)∧(b.toNat:Int)<=122) || decide (65<=(b.toNat:Int)∧(b.toNat:Int)<=90))=false:=by cases (decide (97<=(b.toNat:Int)∧(b.toNat:Int)<=122) || decide (65<=(b.toNat:Int)∧(b.toNat:Int)<=90)) <;> simp
 rcases key with hk | hk
 rotate_left
 ·have hf:ZaZ s 0=false:=by rw [hst,hlet _ hk];rfl
  rw [hf];clear hst hlet hf
  by_cases c1:97<=(b.toNat:Int) <;> by_cases c2:(b.toNat:Int)<=122 <;> by_cases c3:65<=(b.toNat:Int) <;> by_cases c4:(b.toNat:Int)<=90 <;> first
   | (exfalso;omega)
   | (exfalso;simp [c1,c2,c3,c4] at hk;done)
   | (exact fT (aj11 @l1 @l2 @z3 @z4 @z1 @z2 @hb @c1 @c2 @c3 @c4))
 have hl0:65<=(b.toNat:Int):=by simp at hk;omega
 have h01:ZaZ s 0=ZaZ s 1:=by rw [hst,hlet _ hk];rfl
 refine fN 1 @e0P ?_;refine gM (ι:=Unit) [40] [] (fun u=>[(40,A.d (.one (.lit (.bool false))))]) (fun u=>[]) (fun u=>True) ?_ (fun u hu=>Exists.intro _ (ai (Wk.refl _) ?_))
 ·by_cases c1:97<=(b.toNat:Int) <;> by_cases c2:(b.toNat:Int)<=122 <;> by_cases c3:65<=(b.toNat:Int) <;> by_cases c4:(b.toNat:Int)<=90 <;> first
   | (exfalso;omega)
   | (exfalso;simp [c1,c2,c3,c4] at hk;done)
   | (have F:=aj11 @l1 @l2 @z3 @z4 @z1 @z2 @hb @c1 @c2 @c3 @c4;refine gG ?_;exact ⟨(),trivial,gw,gw⟩)
 clear hu hlet hk hst;refine fG @e0P ?_;have F:=@e0P;refine gL (ι:=Nat) [2,3,44,81] [] (fun k=>[(3,A.d (.one (.lit (.int .i64 k))))]) (fun k=>[]) (fun k=>k<=s.size∧ZaZ s 0=ZaZ s k) (fun k=>s.size - k) (0) (⟨Taj _,rfl⟩) (fun k hk=>?_);clear F;obtain ⟨hkl,he⟩:=hk;by_cases hlt:k < s.size;rotate_left
 ·have q1:¬ ((k:Int) < (s.size:Int)):=om;have ht:ZaZ s 0=true:=by rw [he];exact Zid om
  exact fT (ai @q1 @ht)
 have q1:(k:Int) < (s.size:Int):=om;obtain ⟨d,hd⟩:∃ d,s[k]?=some d:=⟨s[k],getElem?_pos s k hlt⟩;have hw1:=Zap (k:=k) om;have hst:=ZfR hd;refine fN 6 @q1 ?_;refine gM (ι:=Unit) [81] [] (fun u=>[(81,A.d (.one (.lit (.bool !(Zcj (d.toNat:Int))))))]) (fun u=>[]) (fun u=>True) ?_ (fun u hu=>Exists.intro _ (ai (Wk.refl _) ?_))
 ·by_cases c1:97<=(d.toNat:Int) <;> by_cases c2:(d.toNat:Int)<=122 <;> by_cases c3:65<=(d.toNat:Int) <;> by_cases c4:(d.toNat:Int)<=90 <;> by_cases c5:48<=(d.toNat:Int) <;> by_cases c6:(d.toNat:Int)<=57 <;> first
   | (exfalso;omega)
   | (have hr : Zcj   (d.toNat : Int) = true := by simp [Zcj  , c1, c2, c3, c4, c5, c6]
      rw [hr]
      (have F:=aj7 @hd @c1 @c2 @c3 @c4 @c5 @c6;refine gG ?_;exact ⟨(),trivial,gw,gw⟩))
   | (have hr : Zcj   (d.toNat : Int) = false := by simp [Zcj  , c1, c2, c3, c4, c5, c6]
      rw [hr]
      (have F:=aj7 @hd @c1 @c2 @c3 @c4 @c5 @c6;refine gG ?_;exact ⟨(),trivial,gw,gw⟩))
 cases hn:Zcj (d.toNat:Int) with
 | false =>
  have hf:ZaZ s 0=false:=by rw [he,hst,hn];rfl
  exact fT @hf
 | true =>
 have hq:ZaZ s 0=ZaZ s (k+1):=by
  by_cases hk0:k=0
  ·subst hk0;exact h01
  ·rw [he,hst,hn];simp [hk0]
 have F:=@hw1;refine gG ?_;exact ⟨k+1,⟨hlt,hq⟩,gw,gw,om⟩
end
section
variable {e:Env} {U:Nat->Prop} {w0:World} {S0:Nat->Prop} {nt:Nat} {ops:Array Oper} {n:Nat} {m:List (Nat × Bk)} {s:List (Nat × A)} {αs:List A} {L:Lay}
theorem Ze2 {J:Array Bool->Act->World->(Nat->Prop)->Prop} (he:e.Ok) (hH:ZbV ops n=true) (hn:n<=ops.size) (hs:∀ i,n<=i->i < ops.size->∀ j,j < n->Region.waitsFor .any ops i j=true)
  (hsz:∀ (i:Nat) (o:Oper) (d:Nat),i < n->ops[i]?=some o->o.dst=some d->d < nt) (hal:αs.length=n) (hch:Zb6 e U w0.heap.size S0 m ops.toList (ops.toList.take n) s αs) {Q:Exit->Act->World->Prop} (hgo:Zh6 e U w0 S0 nt m ops n s αs L J Q)
  (hsk:∀ (listed:Array Bool) (a:Act) (w:World) (S:Nat->Prop) (i:Nat) (o:Oper) (d:Nat),J listed a w S->InvA e U w0 S0 nt m ops n s αs L listed a w S->HeadAt ops n i o d->i < n->i∈Region.ready .any ops listed->d < nt->o.guard≠none->J (listed.setIfInBounds i true) (a.put o.dst undef) w S)
  (hend:∀ listed a w S,InvA e U w0 S0 nt m ops n s αs L listed a w S->J listed a w S->(∀ i,i < n->listed.getD i false=true)->wpAny e.P .any ops Q (ops.size - n) (Zbb ops.size n) a w) :
  ∀ (k:Nat) (listed:Array Bool) (a:Act) (w:World) (S:Nat->Prop),InvA e U w0 S0 nt m ops n s αs L listed a w S->J listed a w S->(List.range n).countP (fun i=>!listed.getD i true)=k->wpAny e.P .any ops Q (k+(ops.size - n)) listed a w
 | 0,listed,a,w,S,hI,hJ,hc=>by
  have hall:∀ i,i < n->listed.getD i true=true:=fun i hi=>by
   have:=List.countP_eq_zero.1 hc i (List.mem_range.2 hi);simpa using this
  have heq:=ZhZ hI.head hn hall;have hE:=hend listed a w S hI hJ (fun i hi=>by
   have hl:i < listed.size:=by rw [hI.head.size];omega
   rw [<- Zbc hl];exact hall i hi)
  rw [Nat.zero_add,heq];exact hE
 | k+1,listed,a,w,S,hI,hJ,hc=>by
  obtain ⟨i0,hi0,hu0⟩:∃ i,i < n∧listed.getD i true=false:=by
   have:0 < (List.range n).countP (fun i=>!listed.getD i true):=om;obtain ⟨i,hi,hp⟩:=List.countP_pos_iff.1 this;exact ⟨i,List.mem_range.1 hi,by simpa using hp⟩
  rw [show k+1+(ops.size - n)=(k+(ops.size - n))+1 by omega];refine ⟨fun h0=>absurd h0 (ZfM hH hI.head hi0 hu0),fun i hr=>?_⟩;obtain ⟨hun,oi,hoi,hall⟩:=mem_ready.1 hr;have hin:i < n:=by
   rcases Nat.lt_or_ge i n with h | h
   ·exact h
   ·have hns:n < ops.size:=Nat.lt_of_le_of_lt h (Tbk.1 hoi).1;obtain ⟨oj,hoj,e1,he1,hb1,hon1⟩:=Region.waitsFor_spec (hs i h (Tbk.1 hoi).1 i0 hi0);rw [hoi] at hoj;injection hoj with hoj
    subst hoj;have h2:=hall e1 he1 hb1;rw [hon1] at h2;have h3:i0 < listed.size:=by rw [hI.head.size];omega
    rw [Zbc h3] at hu0;rw [h2] at hu0
    cases hu0
  obtain ⟨o,d,hA⟩:=ZbV.get hH hin;have hoo:oi=o:=by have:=hA.op;rw [hoi] at this;injection this
  subst hoo;have hls:i < listed.size:=by rw [hI.head.size];exact (Tbk.1 hoi).1
  obtain ⟨α,hα,hst⟩:=hch.get i oi (by rw [List.getElem?_take,if_pos hin];simpa using hoi);have htk:(ops.toList.take n).take i=ops.toList.take i:=by rw [List.take_take,Nat.min_eq_left om]
  rw [htk] at hst;have hdn:=hsz i oi d hin hoi hA.dst;have hcount:(List.range n).countP (fun j=>!(listed.setIfInBounds i true).getD j true)=k:=by
   have h1:(List.range n).countP (fun j=>!(listed.setIfInBounds i true).getD j true)+1=(List.range n).countP (fun j=>!listed.getD j true):=by
    have hperm:=List.perm_cons_erase (List.mem_range.2 hin);rw [hperm.countP_eq,hperm.countP_eq,List.countP_cons,List.countP_cons];have hcong:((List.range n).erase i).countP (fun j=>!(listed.setIfInBounds i true).getD j true)=((List.range n).erase i).countP (fun j=>!listed.getD j true):=by
     refine List.countP_congr fun j hj=>?_;have hne:j≠i:=fun e=>by
      subst e;exact List.Nodup.not_mem_erase (List.nodup_range) hj
     rw [getD_set_ne true (Ne.symm hne)]
    rw [hcong,hun];simp [hls]
   omega
  have hop:∀ x∈oi.op.operands,ARel w S L (evA (after s (ops.toList.take i) (αs.take i)) x) (a.eval x):=fun x hx=>by
   cases x with
   | tmp t =>
    exact hI.operand hH hn hal hA hin hall (fun j p hj hp hpt=>(hA.dep j p hj hp).2 t (List.mem_filterMap.2 ⟨.tmp t,by simpa using hx,rfl⟩) hpt)
   | const v =>
    simp only [evA,Act.eval];unfold Zdr;split
    ·simp only [ARel,DRel,Rep];exact ⟨⟨none,0,0,rfl,rfl,Tai _,by decide,fun h=>absurd h (by decide)⟩,none,0,rfl⟩
    ·rename_i vs;exact ⟨vs.toList,rfl,ZbY _⟩
    ·simp [ARel,DRel,Rep]
   | func f =>
    simp only [evA,Act.eval,ARel,DRel,Rep];exact ⟨[],rfl,by simp [Zad]⟩
   | global g=>trivial
  have go:ZaM e U w0.heap.size S0 m oi (evA (after s (ops.toList.take i) (αs.take i))) α->oi.wp e.P a w (wpAny e.P .any ops Q (k+(ops.size - n)) (listed.setIfInBounds i true)) Q:=fun hG =>
   Oper.wp_mono (fun a' w' ⟨S',hI',hJ'⟩=>Ze2 he hH hn hs hsz hal hch hgo hsk hend k _ _ _ S' hI' hJ' hcount) (hgo listed a w S i oi d α hI hJ hA hin hr hdn hα hop hG)
  unfold wpOp;simp only [hoi];unfold Zed at hst
  cases hg:oi.guard with
  | none =>
   rw [hg] at hst;have hwt:Region.wanted oi (yielded ops a.tmps)=true:=by simp [Region.wanted,hg]
   rw [if_pos hwt];exact .inl (go hst)
  | some jw =>
   obtain ⟨j,want⟩:=jw;rw [hg] at hst;obtain ⟨hjn,hjw⟩:=hA.guard j want hg;have hrelD:∀ dj,((ops[j]?).bind (·.dst))=some dj->ARel w S L (gs (after s (ops.toList.take i) (αs.take i)) dj) (a.tmps.getD dj undef):=fun dj hdj=>hI.operand hH hn hal hA hin hall (t:=dj) (fun j' p hj' hp hpt=>by
    obtain ⟨p0,d0,hP0⟩:=ZbV.get hH hjn;have hd0:d0=dj:=by have:=hdj;rw [hP0.op] at this;simp [hP0.dst] at this;exact this
    by_cases hjj:j'=j
    ·rw [hjj];exact hjw
    ·exact absurd (by rw [hpt,hd0]) ((hP0.dep j' p hj' hp).1 hjj))
   rcases hst with ⟨b,hb1,hb2⟩ | ⟨hb1,hb2⟩
   rotate_left
   ·simp only [Tav] at hb1;obtain ⟨dj,hd1,hd2⟩:=hb1;have hdj:((ops[j]?).bind (·.dst))=some dj:=by simpa using Zdk hd1
    have hrel:=hrelD dj hdj;rw [hd2] at hrel;rw [Zgf hg hdj hrel];subst hb2;simp only [Tam,if_false];exact Ze2 he hH hn hs hsz hal hch hgo hsk hend k _ _ _ S (hI.put hH hA hin hr hdn hα (fun _ h=>h) hI.cls (Kept.refl _ _ _ _) rfl) (hsk listed a w S i oi d hJ hI hA hin hr hdn (by rw [hg];simp)) hcount
   simp only [Tav] at hb1;obtain ⟨dj,hd1,hd2⟩:=hb1;have hdj:((ops[j]?).bind (·.dst))=some dj:=by simpa using Zdk hd1
   have hrel:=hrelD dj hdj;rw [hd2] at hrel;have h4:=Zge hrel.bool;have hwt:Region.wanted oi (yielded ops a.tmps)=decide (b=want):=by
    have h6:yielded ops a.tmps j=some b:=by unfold yielded;rw [hdj];simp only [Option.bind_some,h4]
    simp only [Region.wanted,hg,h6]
    cases b <;> cases want <;> rfl
   rw [hwt];by_cases hbw:b=want
   ·rw [if_pos hbw] at hb2;simp only [hbw,decide_true,if_true];exact .inl (go hb2)
   ·rw [if_neg hbw] at hb2;subst hb2;simp only [hbw,decide_false,Tam,if_false];exact Ze2 he hH hn hs hsz hal hch hgo hsk hend k _ _ _ S (hI.put hH hA hin hr hdn hα (fun _ h=>h) hI.cls (Kept.refl _ _ _ _) rfl) (hsk listed a w S i oi d hJ hI hA hin hr hdn (by rw [hg];simp)) hcount
theorem Zn5 {σ:St} (hH:ZbV ops n=true) (hn:n<=ops.size) (hal:αs.length=n) {listed:Array Bool} {a':Act} {w':World} {S':Nat->Prop} (hI:InvA e U w0 S0 nt σ.m ops n σ.s αs L listed a' w' S') (hall:∀ i,i < n->listed.getD i false=true):Sim e U w0 S0 nt ⟨after σ.s (ops.toList.take n) αs,σ.m⟩ a' w' S' L:=by
 refine ⟨hI.cls,fun t=>?_,hI.size,hI.defers,hI.kept⟩;by_cases hex:∃ (j:Nat) (p:Oper),j < n∧ops[j]?=some p∧p.dst=some t
 ·obtain ⟨j,p,hj,hp,hpt⟩:=hex;obtain ⟨p',d',hP⟩:=ZbV.get hH hj;have hpp:p'=p:=by have:=hP.op;rw [hp] at this;injection this with this;exact this.symm
  subst hpp;have hdt:d'=t:=by have:=hP.dst;rw [hpt] at this;injection this with this;exact this.symm
  subst hdt;obtain ⟨α,hα⟩:∃ α,αs[j]?=some α:=⟨αs[j],Taa om⟩;show ARel w' S' L (gs (after σ.s (ops.toList.take n) αs) d') _;rw [Zc5 (ops.toList.take n) αs σ.s j p' α (by rw [List.getElem?_take,if_pos hj];simpa using hp) hα hpt (fun k q hk hq=>by
   rw [List.getElem?_take] at hq;split at hq
   ·exact (hP.dep k q om (by simpa using hq)).1 hk
   ·cases hq)]
  exact hI.done j p' d' α hj (hall j hj) hp hpt hα
 ·have hno:∀ (j:Nat) (p:Oper),j < n->ops[j]?=some p->p.dst≠some t:=fun j p hj hp hd=>hex ⟨j,p,hj,hp,hd⟩;show ARel w' S' L (gs (after σ.s (ops.toList.take n) αs) t) _;rw [Zb7 _ _ _ (fun p hp=>by
   obtain ⟨j,hj⟩:=List.mem_iff_getElem?.1 hp;rw [List.getElem?_take] at hj;split at hj
   ·exact hno j p om (by simpa using hj)
   ·cases hj)]
  exact hI.out t hno
end
def ZcN (e:Env) (ds:List (Option Nat)) (ops:Array Oper) (K:St->Prop):Nat->Array Bool->St->Prop
 | 0,listed,σ=>Region.ready .any ops listed=[]∧K σ
 | f+1,listed,σ=>(Region.ready .any ops listed=[]->K σ)∧∀ i∈Region.ready .any ops listed,∃ o,ops[i]?=some o∧o.guard=none∧Zbx e o σ (fun σ'=>Runs e ds 0 [] σ' (ZcN e ds ops K f (listed.setIfInBounds i true)))
section
variable {e:Env} {U:Nat->Prop} {w0:World} {S0:Nat->Prop} {nt:Nat}
theorem ZjX (he:e.Ok) {ops:Array Oper} {K:St->Prop} {Q:Exit->Act->World->Prop} (hQ:∀ a w σ',K σ'->SimE e U w0 S0 nt σ' a w->Q .normal a w) (hd:∀ o∈ops.toList,∀ d,o.dst=some d->d < nt) :
  ∀ (f:Nat) (listed:Array Bool) (σ:St) (a:Act) (w:World),SimE e U w0 S0 nt σ a w->ZcN e (ops.toList.map (·.dst)) ops K f listed σ->wpAny e.P .any ops Q f listed a w
 | 0,listed,σ,a,w,hs,h=>⟨h.1,hQ a w σ h.2 hs⟩
 | f+1,listed,σ,a,w,hs,h=>by
  refine ⟨fun h0=>hQ a w σ (h.1 h0) hs,fun i hi=>?_⟩;obtain ⟨o,ho,hg,hst⟩:=h.2 i hi;unfold wpOp;simp only [ho];have hw:Region.wanted o (yielded ops a.tmps)=true:=by simp [Region.wanted,hg]
  rw [if_pos hw];have hmem:o∈ops.toList:=Tac (by simpa using ho);refine .inl (Oper.wp_mono (fun a' w' ⟨σ',hr,hs'⟩=>?_) (hst he U w0 S0 nt a w Q (hd o hmem) hs));exact hr he U w0 S0 nt a' w' ops.toList (fun _ a w=>wpAny e.P .any ops Q f (listed.setIfInBounds i true) a w) rfl (fun o ho=>by simp at ho) (fun a w σ'' hK hs''=>ZjX he hQ hd f _ σ'' a w hs'' hK) hs'
def ZAI (ops:Array Oper) (n:Nat):Bool:=(List.range ops.size).all fun i=>decide (i < n) || (List.range n).all fun j=>Region.waitsFor .any ops i j
def regT (ops:Array Oper) (n:Nat):Bool:=ZbV ops n && decide (n<=ops.size) && ZAI ops n
theorem Zhk (he:e.Ok) {id:Nat} {ops:Array Oper} {n:Nat} (hB:regT ops n=true) {K:St->Prop} {Q:Exit->Act->World->Prop} (hQ:∀ a w σ',K σ'->SimE e U w0 S0 nt σ' a w->Q .normal a w) {σ:St} {a:Act} {w:World}
  (hd:∀ o∈ops.toList,∀ d,o.dst=some d->d < nt) (h:SimE e U w0 S0 nt σ a w) (hp:Runs e (ops.toList.map (·.dst)) (n+1) (ops.toList.take n) σ (ZcN e (ops.toList.map (·.dst)) ops K (ops.size - n) (Zbb ops.size n))):(Code.region id ops true).wp e.P Q a w:=by
 simp only [regT,Tar,decide_eq_true_eq] at hB;obtain ⟨⟨hH,hn⟩,hs0⟩:=hB;have hs:∀ i,n<=i->i < ops.size->∀ j,j < n->Region.waitsFor .any ops i j=true:=fun i h1 h2 j h3=>by
  have k1:=List.all_eq_true.1 hs0 i (List.mem_range.2 h2);simp only [Bool.or_eq_true,decide_eq_true_eq] at k1;rcases k1 with k1 | k1
  ·omega
  ·exact List.all_eq_true.1 k1 j (List.mem_range.2 h3)
 obtain ⟨S,L,h1⟩:=h.drew he;refine wp_region_any he.mixed ?_;have hlen:(ops.toList.take n).length=n:=by simp;omega
 have hp':Runs e (ops.toList.map (·.dst)) ((ops.toList.take n).length+1) (ops.toList.take n++[]) σ (ZcN e (ops.toList.map (·.dst)) ops K (ops.size - n) (Zbb ops.size n)):=by rw [List.append_nil,hlen];exact hp
 obtain ⟨αs,hal,hch,hrest⟩:=ZcS (U:=U) he w0.heap.size S0 ops.toList [] 1 (ops.toList.take n) σ (fun h=>absurd h (by decide)) hp';rw [hlen] at hal;simp only [Runs] at hrest
 have inv0:InvA e U w0 S0 nt σ.m ops n σ.s αs L (Array.replicate ops.size false) a { w with drawn:=w.drawn+1 } S :=
  ⟨⟨by simp,fun j oj _ hl=>(by rw [getD_replicate_false] at hl;cases hl),fun t _ ht=>getD_in (by simpa using ht) (getD_replicate_false _ _)⟩,h1.size,h1.defers,h1.cls,h1.kept,fun t _=>h1.rel t,fun i o d α _ hl=>(by rw [getD_replicate_false] at hl;cases hl)⟩
 have H:=Ze2 (e:=e) (L:=L) (Q:=Q) he hH hn hs (fun i o d hi ho hdd=>hd o (List.mem_iff_getElem?.2 ⟨i,by simpa using ho⟩) d hdd) hal hch (ZgA hH Q) (fun _ _ _ _ _ _ _ _ _ _ _ _ _ _=>trivial) (fun listed a' w' S' hI _ hall=>?_) n _ a _ S inv0 trivial ?_
 ·rw [show n+(ops.size - n)=ops.size by omega] at H;exact H
 ·exact ZjX he hQ hd _ _ _ a' w' ⟨S',L,Zn5 hH hn hal hI hall⟩ hrest
 ·rw [List.countP_eq_length.2]
  ·simp
  ·intro i hi;have hi':=List.mem_range.1 hi;have hsz:i < (Array.replicate ops.size false).size:=by simp;omega
   rw [Zbc hsz,getD_replicate_false];rfl
end
section
variable {e:Env} {U:Nat->Prop} {w0:World} {S0:Nat->Prop} {nt:Nat}
structure AppAt (P:Program) (σ:St) (o:Oper) (d ety sz:Nat) (rows:List (List C)):Prop where
 at':∃ (x y:Operand) (args:Array Operand) (ts:Array TypeId) (t by':Nat) (r1 ys:List (List C)),o.op=.call ⟨.builtin .append,args,ts⟩∧args.toList=[x,y]∧evA σ.s x=.d (.clip r1)∧slA [] (evA σ.s y)=some ys∧ts[0]?=some t∧ts[1]?=some t∧Zbh P t=some (ety,sz,by') ∧
  ZaL sz r1=true∧ZaL sz ys=true∧r1.length+ys.length<=maxApp∧(r1=[]∨ys≠[])∧rows=r1++ys
 dst:o.dst=some d
 guard:o.guard=none
theorem Zw7 {m:List (Nat × Bk)} {y:A} {ys:List (List C)} (h:slA [] y=some ys):slA m y=some ys:=by
 unfold slA at h ⊢;split at h <;> simp_all [gm,bufA]
theorem AppAt.run (he:e.Ok) {σ:St} {o:Oper} {d ety sz:Nat} {rows:List (List C)} (hA:AppAt e.P σ o d ety sz rows) {m:List (Nat × Bk)} {w:World} {S:Nat->Prop} {L:Lay} {ρv:Operand->Value} (hC:Cls e U w0.heap.size S0 m w S L) (hr:∀ x,x∈o.op.operands->ARel w S L (evA σ.s x) (ρv x)) :
  ∃ v' w',(execOp ρv o).run e.P w=.ok (.value v') w'∧ZaR w' S ety sz rows v'∧Kept e.D (fun _=>False) w.heap.size w w'∧∀ g,vblk v'=some g->w.heap.size<=g:=by
 obtain ⟨x,y,args,ts,t,by',r1,ys,ho,hargs,hx,hy,h0,h1,hb,hr1,hys,hle,hne,rfl⟩:=hA.at';have hx':=hr x (by rw [ho];simp [Op.operands,Call.operands,hargs,<- Array.mem_toList_iff]);have hy':=hr y (by rw [ho];simp [Op.operands,Call.operands,hargs,<- Array.mem_toList_iff]);rw [hx] at hx';have hx':DRel w S (.clip r1) (ρv x):=hx';have hyl:=Zeo.1 hys;have hyf:=Zl0 (σ:=⟨[],m⟩) hC (Zw7 hy) hy' hyl;obtain ⟨v',w',hrun,hbuf,τ,hk,hτ,hg⟩:=Zfo (σ:=⟨[],m⟩) (ty:=o.type) he hC h0 h1 hb (.inr ⟨hx',hne⟩) (Zeo.1 hr1) hyl hle hyf
 have hτn:∀ g,τ≠some g:=fun g e1=>by
  obtain ⟨h2,h3⟩:=hτ g e1;obtain ⟨h4,a,n,h5⟩:=hx';rw [h5] at h2 h3 h4;simp only [Rep] at h4;obtain ⟨A,n',cap,h6,h7,_,_,h8⟩:=h4;injection h6 with h6 h9 h10
  subst h6 h9
  cases a with
  | none=>simp [vblk] at h2
  | some q =>
   simp only [vblk] at h2;split at h2
   ·cases h2
   ·rename_i hn0;injection h2 with h2
    obtain ⟨b,off,h11,hS,_⟩:=h8 om;injection h11 with h11
    obtain ⟨_,_,h12⟩:=h3;rcases h12 with ⟨h12,_⟩ | ⟨g',cap',cur,h13,_,_,h14,_⟩
    ·rw [h12] at h7;simp at h7;omega
    ·injection h13 with h13 _ _
     injection h13 with h13
     rw [h13] at h11;injection h11 with h11
     exact h14 (h11 ▸ hS)
 refine ⟨v',w',?_,hbuf,⟨hk.os,hk.tape,hk.output,hk.drawn,hk.size,fun k hk' hn=>hk.block k hk' (fun e1=>hτn k e1)⟩,fun g hg'=>?_⟩
 ·have ha:args.map ρv=#[ρv x,ρv y]:=by apply Array.toList_inj.1;simp [hargs]
  simp [execOp,ho,resolve,invoke,builtin,ha,hrun,Result.andThen]
 ·rcases hg g hg' with e1 | e1
  ·exact (hτn g e1).elim
  ·exact e1
theorem AppAt.gives (he:e.Ok) {σ:St} {o:Oper} {d ety sz:Nat} {rows:List (List C)} (hA:AppAt e.P σ o d ety sz rows) {m:List (Nat × Bk)}:ZaM e U w0.heap.size S0 m o (evA σ.s) .undef:=by
 intro w S L ρv hC hr;obtain ⟨v',w',h1,_,h3,_⟩:=hA.run he hC hr;have hk:Kept e.D e.E w.heap.size w w':=⟨h3.os,h3.tape,h3.output,h3.drawn,h3.size,fun k hk hn=>h3.block k hk id⟩;unfold Go.Proofs.YtmdkimnlbaahbaaGreat.gives;rw [h1];exact ⟨S,⟨fun _ h=>h,fun _ h=>.inl h⟩,hC.later hk (he.keep _ _ h3.size (fun b hE=>h3.block b (Tbc (hC.ein b hE) hC.bsz) id) hC.g) (fun _ h=>h) (fun _ h=>.inl h),hk,trivial⟩
def Znm (base p d ety sz:Nat) (rows:List (List C)) (m:List (Nat × Bk)) (L:Lay) (listed:Array Bool) (a:Act) (w:World) (S:Nat->Prop):Prop :=
 listed.getD p false=true->(∀ g,vblk (a.tmps.getD d undef)=some g->base<=g∧g < w.heap.size∧¬ S g∧∀ k bk,gm m k=some bk->¬ Zau L k bk g)∧ZaR w S ety sz rows (a.tmps.getD d undef)
theorem Zmg {m:List (Nat × Bk)} {base:Nat} {l:List Oper}:∀ (xs ys:List Oper) (s:List (Nat × A)) (us bs:List A),us.length=xs.length->Zb6 e U base S0 m l xs s us->Zb6 e U base S0 m l ys (after s xs us) bs->Zb6 e U base S0 m l (xs++ys) s (us++bs)
 | [],ys,s,[],bs,_,_,h2=>h2
 | x::xs,ys,s,a::us,bs,hl,h1,h2=>⟨h1.1,Zmg xs ys _ us bs (by simpa using hl) h1.2 h2⟩
 | [],_,_,_::_,_,hl,_,_=>by simp at hl
 | _::_,_,_,[],_,hl,_,_=>by simp at hl
theorem Zgh:∀ (xs ys:List Oper) (s:List (Nat × A)) (us bs:List A),us.length=xs.length->after s (xs++ys) (us++bs)=after (after s xs us) ys bs
 | [],ys,s,[],bs,_=>rfl
 | x::xs,ys,s,a::us,bs,hl=>Zgh xs ys _ us bs (by simpa using hl)
 | [],_,_,_::_,_,hl=>by simp at hl
 | _::_,_,_,[],_,hl=>by simp at hl
theorem Zjs (he:e.Ok) (base:Nat) (S0:Nat->Prop) (l:List Oper) {K:St->Prop} {k:Nat} {os:List Oper} {σ:St} (hk:k=os.length+1) (h:Runs e (l.map (·.dst)) k os σ K):∃ αs,αs.length=os.length∧Zb6 e U base S0 σ.m l os σ.s αs∧K ⟨after σ.s os αs,σ.m⟩:=by
 subst hk;have h':Runs e (l.map (·.dst)) (os.length+1) (os++[]) σ K:=by rw [List.append_nil];exact h
 obtain ⟨αs,h1,h2,h3⟩:=ZcS (U:=U) he base S0 l [] 1 os σ (fun h=>absurd h (by decide)) h';simp only [Runs] at h3;exact ⟨αs,h1,h2,h3⟩
theorem Zw8 (he:e.Ok) {id:Nat} {ops:Array Oper} {n p d ety sz:Nat} {rows:List (List C)} {o0:Oper} (hop:ops[p]?=some o0) (hpn:p < n) (hB:regB ops n=true) {K:St->Prop} {Q:Exit->Act->World->Prop} (hQ:∀ a w σ',K σ'->SimE e U w0 S0 nt σ' a w->Q .normal a w) {σ:St} {a:Act} {w:World}
  (hd:∀ o∈ops.toList,∀ d,o.dst=some d->d < nt) (h:SimE e U w0 S0 nt σ a w)
  (hp:Runs e (ops.toList.map (·.dst)) (p+1) (ops.toList.take p) σ (fun σ1=>AppAt e.P σ1 o0 d ety sz rows∧Runs e (ops.toList.map (·.dst)) (n - p) ((ops.toList.take n).drop (p+1)) ⟨(d,.undef)::σ1.s,σ1.m⟩ (fun σ2=>Runs e (ops.toList.map (·.dst)) 0 (ops.toList.drop n) ⟨(d,.buf d)::Zan d σ2.s,(d,.buf none ety sz rows)::remM d σ2.m⟩ K))):(Code.region id ops true).wp e.P Q a w:=by
 simp only [regB,Tar,Bool.or_eq_true,decide_eq_true_eq] at hB;obtain ⟨⟨⟨hH,hn⟩,hs⟩,hsq⟩:=hB;obtain ⟨S,L,h1⟩:=h.drew he;refine wp_region_any he.mixed ?_;have hlen:(ops.toList.take p).length=p:=by simp;omega
 have hlen2:((ops.toList.take n).drop (p+1)).length=n - p - 1:=by simp;omega
 obtain ⟨αs0,hal0,hch0,hrest0⟩:=Zjs (U:=U) he w0.heap.size S0 ops.toList (by rw [hlen]) hp;rw [hlen] at hal0;obtain ⟨hApp,hrest1⟩:=hrest0;obtain ⟨αs1,hal1,hch1,hrest2⟩:=Zjs (U:=U) he w0.heap.size S0 ops.toList (by rw [hlen2];omega) hrest1;rw [hlen2] at hal1;have hpl:ops.toList[p]?=some o0:=by simpa using hop
 have htake:ops.toList.take n=ops.toList.take p++(o0::(ops.toList.take n).drop (p+1)):=by
  have e1:(ops.toList.take n)[p]?=some o0:=by rw [List.getElem?_take,if_pos hpn];exact hpl
  have e2:(ops.toList.take n).drop p=o0::(ops.toList.take n).drop (p+1):=by
   rw [List.drop_eq_getElem_cons (Tad.1 e1).1,(Tad.1 e1).2]
  have e3:(ops.toList.take n).take p=ops.toList.take p:=by rw [List.take_take,Nat.min_eq_left om]
  rw [<- e2,<- e3,Tbl]
 have hal:(αs0++(A.undef::αs1)).length=n:=by simp [hal0,hal1];omega
 have hset:setA (after σ.s (ops.toList.take p) αs0) o0.dst A.undef=(d,A.undef)::after σ.s (ops.toList.take p) αs0:=by rw [hApp.dst];rfl
 have hch:Zb6 e U w0.heap.size S0 σ.m ops.toList (ops.toList.take n) σ.s (αs0++(A.undef::αs1)):=by
  rw [htake];refine Zmg _ _ _ _ _ (by rw [hal0,hlen]) hch0 ⟨?_,?_⟩
  ·unfold Zed;rw [hApp.guard];exact hApp.gives he
  ·rw [hset];exact hch1
 have haf:after σ.s (ops.toList.take n) (αs0++(A.undef::αs1))=after ((d,A.undef)::after σ.s (ops.toList.take p) αs0) ((ops.toList.take n).drop (p+1)) αs1:=by
  conv=>lhs;rw [htake]
  rw [Zgh _ _ _ _ _ (by rw [hal0,hlen])];simp only [after,hset]
 have inv0:InvA e U w0 S0 nt σ.m ops n σ.s (αs0++(A.undef::αs1)) L (Array.replicate ops.size false) a { w with drawn:=w.drawn+1 } S :=
  ⟨⟨by simp,fun j oj _ hl=>(by rw [getD_replicate_false] at hl;cases hl),fun t _ ht=>getD_in (by simpa using ht) (getD_replicate_false _ _)⟩,h1.size,h1.defers,h1.cls,h1.kept,fun t _=>h1.rel t,fun i o d α _ hl=>(by rw [getD_replicate_false] at hl;cases hl)⟩
 have hJ0:Znm w0.heap.size p d ety sz rows σ.m L (Array.replicate ops.size false) a { w with drawn:=w.drawn+1 } S:=fun hl=>by rw [getD_replicate_false] at hl;cases hl
 have hA0:∀ {i':Nat} {o':Oper} {d':Nat},HeadAt ops n i' o' d'->i'≠p->d'≠d:=fun hA hne e'=>by
  have:=(hA.dep p _ hpn hop).1 (Ne.symm hne);exact this (by rw [hApp.dst,e'])
 have hgo:Zh6 e U w0 S0 nt σ.m ops n σ.s (αs0++(A.undef::αs1)) L (Znm w0.heap.size p d ety sz rows σ.m L) Q:=by
  intro listed a w S i' o' d' α hI hJ hA hin hr hdn hα hopd hG';by_cases hip:i'=p
  ·subst hip;have ho':o'=o0:=by have:=hA.op;rw [hop] at this;injection this with this;exact this.symm
   subst ho';have hdd:d'=d:=by have:=hA.dst;rw [hApp.dst] at this;injection this with this;exact this.symm
   subst hdd;have hau:α=A.undef:=by rw [Tbp om,hal0] at hα;simpa using hα.symm
   subst hau;have hC:=hI.cls;have htk:(αs0++(A.undef::αs1)).take i'=αs0:=by rw [<- hal0];exact List.take_left
   rw [htk] at hopd;obtain ⟨v',w',q1,q2,q3,q4⟩:=hApp.run he hC hopd;have hk:Kept e.D e.E w.heap.size w w':=⟨q3.os,q3.tape,q3.output,q3.drawn,q3.size,fun k hk hn=>q3.block k hk (fun h=>h)⟩;have hC':Cls e U w0.heap.size S0 σ.m w' S L:=hC.later hk (he.keep _ _ q3.size (fun b hE=>q3.block b (Tbc (hC.ein b hE) hC.bsz) (fun h=>h)) hC.g) (fun _ h=>h) (fun _ h=>.inl h);unfold Oper.wp;rw [q1,Oper.upon_value]
   have hput:(a.put o'.dst v').tmps.getD d' undef=v':=by
    rw [hA.dst,ZbK (by rw [hI.size];exact hdn)];simp
   refine ⟨S,hI.put hH hA hin hr hdn hα (fun _ h=>h) hC' hk trivial,fun _=>?_⟩;rw [hput];refine ⟨fun g hg=>?_,q2⟩;have hge:=q4 g hg;refine ⟨Tbd hC.bsz hge,?_,fun hs=>by have:=(hC.sin _ hs).1;omega,fun k bk hk hg=>by have:=hC.blk_lt hk hg;omega⟩;exact (Own1.lt (L:=⟨fun _=>0,fun _=>v'⟩) (k:=0) (bk:=.buf none ety sz rows) ⟨by simp,q2⟩ hg).1
  ·refine ZcG (hG' w S L a.eval hI.cls hopd) fun v' w' ⟨S',hS,hC,hk,hv'⟩=>⟨S',hI.put hH hA hin hr hdn hα hS.1 hC hk hv',fun hl=>?_⟩;rw [getD_set_ne false hip] at hl;obtain ⟨q1,q2⟩:=hJ hl;have hput:(a.put o'.dst v').tmps.getD d undef=a.tmps.getD d undef:=by
    rw [hA.dst,ZbK (by rw [hI.size];exact hdn),if_neg (Ne.symm (hA0 hA hip))]
   rw [hput];have hnS:∀ g,vblk (a.tmps.getD d undef)=some g->¬ S' g:=fun g hg hs=>by
    obtain ⟨_,k2,k3,_⟩:=q1 g hg;rcases hS.2 g hs with hs | hs
    ·exact k3 hs
    ·omega
   refine ⟨fun g hg=>⟨(q1 g hg).1,Tbc (q1 g hg).2.1 hk.size,hnS g hg,(q1 g hg).2.2.2⟩,q2.keep hk.size (hI.cls.cell hk) hS.1 fun g hg=>⟨hk.block g (q1 g hg).2.1 (fun hE=>by have:=hI.cls.ein g hE;have:=(q1 g hg).1;omega),hnS g hg⟩⟩
 have hskp:∀ (listed:Array Bool) (a:Act) (w:World) (S:Nat->Prop) (i':Nat) (o':Oper) (d':Nat),Znm w0.heap.size p d ety sz rows σ.m L listed a w S->InvA e U w0 S0 nt σ.m ops n σ.s (αs0++(A.undef::αs1)) L listed a w S->HeadAt ops n i' o' d'->i' < n->i'∈Region.ready .any ops listed->d' < nt->o'.guard≠none->Znm w0.heap.size p d ety sz rows σ.m L (listed.setIfInBounds i' true) (a.put o'.dst undef) w S:=by
  intro listed a w S i' o' d' hJ hI hA hin hr hdn hg hl;have hip:i'≠p:=fun e'=>by
   subst e';have:=hA.op;rw [hop] at this;injection this with this
   rw [<- this] at hg;exact hg hApp.guard
  rw [getD_set_ne false hip] at hl;have hput:(a.put o'.dst undef).tmps.getD d undef=a.tmps.getD d undef:=by
   rw [hA.dst,ZbK (by rw [hI.size];exact hdn),if_neg (Ne.symm (hA0 hA hip))]
  rw [hput];exact hJ hl
 have H:=Zc6 (e:=e) (L:=L) (Q:=Q) he hH hn (fun hlt=>by
   rcases hs with hs | hs
   ·omega
   ·exact hs) hsq (fun i o d hi ho hdd=>hd o (List.mem_iff_getElem?.2 ⟨i,by simpa using ho⟩) d hdd) hal hch hgo hskp (fun listed a' w' S' hI hJ hall=>?_) n _ a _ S inv0 hJ0 ?_
 ·rw [show n+(ops.size - n)=ops.size by omega] at H;exact H
 ·have hsim:=Zn5 hH hn hal hI hall;rw [haf] at hsim;obtain ⟨q1,q2⟩:=hJ (hall p hpn);have hdn:d < nt:=hd _ (List.mem_iff_getElem?.2 ⟨p,hpl⟩) d hApp.dst
  have hsimB:=hsim.bornE (bk:=.buf none ety sz rows) (w':=w') (b':=0) (v':=a'.tmps.getD d undef) (u:=a'.tmps.getD d undef) (τ:=vblk (a'.tmps.getD d undef)) (s1:=after ((d,A.undef)::after σ.s (ops.toList.take p) αs0) ((ops.toList.take n).drop (p+1)) αs1) (m1:=σ.m) (α:=.buf d) (S':=S') hdn (fun _ h=>h) (fun _ h=>.inl h) (fun t=>.inl rfl) (fun k x h=>h)
   (fun g hg=>⟨(q1 g hg).2.2.1,fun hE=>by have:=hI.cls.ein _ hE;have:=(q1 g hg).1;omega,.inl (q1 g hg).1⟩) (fun k x g hkd hx hg hb=>(q1 g hg).2.2.2 k x hx hb)
   (Kept.refl _ _ _ _) hI.cls.g (by
    simp only [Own1,if_true];exact ⟨by simp,q2⟩)
   (fun g hg=>by simp only [Zau,if_true] at hg;exact .inl hg) (by simp [ARel])
  have hsimD:SimE e U w0 S0 nt ⟨(d,.buf d)::Zan d (after ((d,A.undef)::after σ.s (ops.toList.take p) αs0) ((ops.toList.take n).drop (p+1)) αs1),(d,.buf none ety sz rows)::remM d σ.m⟩ a' w':=by
   obtain ⟨S2,L2,k1,k2,k3,k4,k5⟩:=hsimB;refine ⟨S2,L2,k1,fun t=>?_,hI.size,hI.defers,k5⟩;have:=k2 t;rw [ZbK (by rw [hI.size];exact hdn)] at this;by_cases ht:t=d
   ·rw [if_pos ht] at this;rw [ht];rw [ht] at this;exact this
   ·rw [if_neg ht] at this;exact this
  have:=hrest2 he U w0 S0 nt a' w' ops.toList Q rfl (fun o ho=>hd o (List.mem_of_mem_drop ho)) hQ hsimD;simpa using this
 ·rw [List.countP_eq_length.2]
  ·simp
  ·intro i hi;have hi':=List.mem_range.1 hi;have hsz:i < (Array.replicate ops.size false).size:=by simp;omega
   rw [Zbc hsz,getD_replicate_false];rfl
end
section
variable {e:Env} {mask:Nat} {Q:PX->St->Prop} {ds:List (Option Nat)}
theorem ZiZ {nt:Nat} {id:Nat} {ops:Array Oper} {fl:Bool} (hok:Zb4 nt (.region id ops fl)=true):∀ o∈ops.toList,∀ d,o.dst=some d->d < nt:=fun o ho d hd=>by
 simp only [Zb4] at hok;have:=List.all_eq_true.1 hok o ho;rw [hd] at this;simpa using this
theorem Zw9 {id:Nat} {ops:Array Oper} {σ:St} (n:Nat) (hn:regT ops n=true) (hp:Runs e (ops.toList.map (·.dst)) (n+1) (ops.toList.take n) σ (ZcN e (ops.toList.map (·.dst)) ops (Zct mask Q) (ops.size - n) (Zbb ops.size n))):pwp e mask (.region id ops true) σ Q:=fun he U w0 S0 nt a w hok hs =>
 Zhk he hn (fun a w σ' h1 h2=>⟨_,h1,h2.weak (fun t=>Zhc mask t σ'.s) (fun _ _ h=>h)⟩) (ZiZ hok) hs hp
theorem Zxa {id:Nat} {ops:Array Oper} {σ:St} {n p d ety sz:Nat} {rows:List (List C)} {o0:Oper} (hop:ops[p]?=some o0) (hpn:p < n) (hn:regB ops n=true) (hp:Runs e (ops.toList.map (·.dst)) (p+1) (ops.toList.take p) σ (fun σ1=>AppAt e.P σ1 o0 d ety sz rows∧Runs e (ops.toList.map (·.dst)) (n - p) ((ops.toList.take n).drop (p+1)) ⟨(d,.undef)::σ1.s,σ1.m⟩ (fun σ2=>Runs e (ops.toList.map (·.dst)) 0 (ops.toList.drop n) ⟨(d,.buf d)::Zan d σ2.s,(d,.buf none ety sz rows)::remM d σ2.m⟩ (Zct mask Q)))):pwp e mask (.region id ops true) σ Q:=fun he U w0 S0 nt a w hok hs =>
 Zw8 he hop hpn hn (fun a w σ' h1 h2=>⟨_,h1,h2.weak (fun t=>Zhc mask t σ'.s) (fun _ _ h=>h)⟩) (ZiZ hok) hs hp
theorem gA {id:Nat} {l l1 l2 l3:List Oper} {s s1 s2 s3:List (Nat × A)} {m m1 m2 m3:List (Nat × Bk)} {x y:Operand} {t ty d ety sz by':Nat} {pos:String} {aft:Array Edge} {r1 ys:List (List C)} (n p:Nat) (hle:r1.length+ys.length<=maxApp) (hne:r1=[]∨ys≠[]) (hK:Runs e ds 0 l3 ⟨(d,.buf d)::s3,(d,.buf none ety sz (r1++ys))::m3⟩ (Zct mask Q))
  (hop:l[p]?=some ⟨some d,.call ⟨.builtin .append,#[x,y],#[t,t]⟩,ty,pos,aft,none⟩:=by exact rfl) (hB:regB l.toArray n=true:=by decide +kernel) (hpn:p < n:=by decide) (hds:l.map (·.dst)=ds:=by exact rfl) (h1l:l.take p=l1:=by exact rfl) (h2l:(l.take n).drop (p+1)=l2:=by exact rfl) (h3l:l.drop n=l3:=by exact rfl)
  (h1:ZaQ e.P ds (p+1) l1 ⟨s,m⟩=.done ⟨s1,m1⟩:=by exact sfv) (hx:evA s1 x=.d (.clip r1):=by exact sfx) (hy:slA [] (evA s1 y)=some ys:=by exact sfx)
  (hb:Zbh e.P t=some (ety,sz,by'):=by exact sfx) (hr1:ZaL sz r1=true:=by simp only [pz,↓reduceIte,Nat.reduceEqDiff,Nat.reduceAdd,Nat.reduceSub,Nat.reduceMul,Nat.reduceLeDiff,Nat.reduceBEq,Tam,decide_true,decide_false,Int.reduceLE,Int.reduceToNat,Int.reduceLT,Int.reduceEq,eq_self,Nat.reduceShiftRight,Nat.reduceAnd,Nat.reduceBneDiff,F]) (hys:ZaL sz ys=true:=by simp only [pz,↓reduceIte,Nat.reduceEqDiff,Nat.reduceAdd,Nat.reduceSub,Nat.reduceMul,Nat.reduceLeDiff,Nat.reduceBEq,Tam,decide_true,decide_false,Int.reduceLE,Int.reduceToNat,Int.reduceLT,Int.reduceEq,eq_self,Nat.reduceShiftRight,Nat.reduceAnd,Nat.reduceBneDiff,F])
  (h2:ZaQ e.P ds (n - p) l2 ⟨(d,.undef)::s1,m1⟩=.done ⟨s2,m2⟩:=by exact sfv) (hk:Zan d s2=s3:=by exact snv) (hr:remM d m2=m3:=by exact snv):pwp e mask (.region id l.toArray true) ⟨s,m⟩ Q:=by
 subst hds h1l h2l h3l hk hr;exact Zxa (ops:=l.toArray) (by simpa using hop) hpn hB (Zeq h1 ⟨⟨⟨x,y,#[x,y],#[t,t],t,by',r1,ys,rfl,rfl,hx,hy,rfl,rfl,hb,hr1,hys,hle,hne,rfl⟩,rfl,rfl⟩,Zeq h2 hK⟩)
theorem ZAJ {id:Nat} {l l1:List Oper} {s s1:List (Nat × A)} {m m1:List (Nat × Bk)} (n:Nat) (hK:ZcN e ds l.toArray (Zct mask Q) (l.length - n) (Zbb l.length n) ⟨s1,m1⟩) (hB:regT l.toArray n=true:=by decide +kernel) (hds:l.map (·.dst)=ds:=by exact rfl) (h1l:l.take n=l1:=by exact rfl)
  (h1:ZaQ e.P ds (n+1) l1 ⟨s,m⟩=.done ⟨s1,m1⟩:=by exact sfv):pwp e mask (.region id l.toArray true) ⟨s,m⟩ Q:=by
 subst hds h1l;exact Zw9 (ops:=l.toArray) n hB (Zeq h1 hK)
theorem Zhl {K:St->Prop} {o:Oper} {s s1:List (Nat × A)} {m m1:List (Nat × Bk)} (hg:o.guard=none) (hal:∀ t,o.op≠.alloc t) (hrun:ZaQ e.P ds 0 [o] ⟨s,m⟩=.done ⟨s1,m1⟩) (hK:Runs e ds 0 [] ⟨s1,m1⟩ K):Zbx e o ⟨s,m⟩ (fun σ'=>Runs e ds 0 [] σ' K):=by
 have key:∀ σ,ResQ e ds (fun σ'=>Runs e ds 0 [] σ' K) (Res.done σ)->Runs e ds 0 [] σ (fun σ'=>Runs e ds 0 [] σ' K):=fun σ h=>ZbL h;have hr:ZaQ e.P ds 0 [o] ⟨s,m⟩=Zba e.P o.dst o.type 0 0 [] (fun σ=>.done σ) o.op ⟨s,m⟩:=by
  obtain ⟨od,oo,ot,op,oa,og⟩:=o;simp only at hg;subst hg;rfl
 rw [hr] at hrun;have h:=ZeZ (e:=e) (ds:=ds) (os:=[]) (K:=fun σ'=>Runs e ds 0 [] σ' K) (n:=0) (q:=0) (next:=fun σ=>.done σ) key (o:=o) (σ:=⟨s,m⟩) (.inl rfl) (by rw [hrun];exact hK);have h:Zbx e o ⟨s,m⟩ (fun σ'=>Runs e ds 0 [] σ' (fun σ'=>Runs e ds 0 [] σ' K)):=h;intro he U w0 S0 nt a w Q hd hs;refine Oper.wp_mono (fun a' w' ⟨σ',h1,h2⟩=>⟨σ',?_,h2⟩) (h he U w0 S0 nt a w Q hd hs);intro he U w0 S0 nt a w ops Q hds hd hQ hs
 exact h1 he U w0 S0 nt a w ops Q hds hd (fun a w σ2 h3 h4=>h3 he U w0 S0 nt a w ops Q hds hd hQ h4) hs
theorem gT1 {ops:Array Oper} {K:St->Prop} {f:Nat} {listed:Array Bool} {o:Oper} {s s1:List (Nat × A)} {m m1:List (Nat × Bk)} (i:Nat) (hK:Runs e ds 0 [] ⟨s1,m1⟩ (ZcN e ds ops K f (listed.setIfInBounds i true))) (hr:Region.ready .any ops listed=[i]:=by decide +kernel) (ho:ops[i]?=some o:=by simp only [List.getElem?_toArray,Tau,Tat];exact rfl) (hg:o.guard=none:=by exact rfl) (hal:∀ t,o.op≠.alloc t:=by intro t h;cases h)
  (hrun:ZaQ e.P ds 0 [o] ⟨s,m⟩=.done ⟨s1,m1⟩:=by exact sfv):ZcN e ds ops K (f+1) listed ⟨s,m⟩:=by
 refine ⟨fun h=>(by rw [hr] at h;cases h),fun j hj=>?_⟩;rw [hr] at hj;have hji:j=i:=by simpa using hj
 subst hji;exact ⟨o,ho,hg,Zhl hg hal hrun hK⟩
theorem gT2 {ops:Array Oper} {K:St->Prop} {f:Nat} {listed:Array Bool} {o o':Oper} {s s1 s2:List (Nat × A)} {m m1 m2:List (Nat × Bk)} (i j:Nat) (hK:Runs e ds 0 [] ⟨s1,m1⟩ (ZcN e ds ops K f (listed.setIfInBounds i true))) (hK':Runs e ds 0 [] ⟨s2,m2⟩ (ZcN e ds ops K f (listed.setIfInBounds j true))) (hr:Region.ready .any ops listed=[i,j]:=by decide +kernel) (ho:ops[i]?=some o:=by simp only [List.getElem?_toArray,Tau,Tat];exact rfl) (hg:o.guard=none:=by exact rfl) (hal:∀ t,o.op≠.alloc t:=by intro t h;cases h)
  (hrun:ZaQ e.P ds 0 [o] ⟨s,m⟩=.done ⟨s1,m1⟩:=by exact sfv) (ho':ops[j]?=some o':=by simp only [List.getElem?_toArray,Tau,Tat];exact rfl) (hg':o'.guard=none:=by exact rfl) (hal':∀ t,o'.op≠.alloc t:=by intro t h;cases h) (hrun':ZaQ e.P ds 0 [o'] ⟨s,m⟩=.done ⟨s2,m2⟩:=by exact sfv):ZcN e ds ops K (f+1) listed ⟨s,m⟩:=by
 refine ⟨fun h=>(by rw [hr] at h;cases h),fun k hk=>?_⟩;rw [hr] at hk;have hk:k=i∨k=j:=by simpa using hk
 rcases hk with rfl | rfl
 ·exact ⟨o,ho,hg,Zhl hg hal hrun hK⟩
 ·exact ⟨o',ho',hg',Zhl hg' hal' hrun' hK'⟩
theorem gT0 {ops:Array Oper} {listed:Array Bool} {s s':List (Nat × A)} {m:List (Nat × Bk)} (hK:Q .normal ⟨s',m⟩) (hr:Region.ready .any ops listed=[]:=by decide +kernel) (hs:Zda mask s=s':=by exact snv):ZcN e ds ops (Zct mask Q) 0 listed ⟨s,m⟩:=by
 subst hs;exact ⟨hr,hK⟩
end
section
variable {e:Env} {mask:Nat} {Q:PX->St->Prop} {ds:List (Option Nat)}
theorem ZAh {P:Program} {o:Oper} {a:Act} {w:World} {K:Act->World->Prop} {Q0 Q:Exit->Act->World->Prop} (h0:∀ ex a w,ex≠.normal->¬ Q0 ex a w) (hh:o.wp P a w K Q0):o.wp P a w K Q:=by
 have hl:¬ LetsOut Q0:=fun ⟨a,w,h⟩=>h0 _ a w (by simp) h;unfold Oper.wp at *;generalize (execOp a.eval o).run P w=r at *
 cases r with
 | ok n w' =>
  cases n <;> simp only [Oper.upon] at hh ⊢ <;> first
   | exact hh
   | exact Calls.mono hh (fun e w'' he=>by cases e <;> first | exact he | exact absurd he (h0 _ _ _ (by simp)) | exact absurd he hl)
   | exact absurd hh hl
   | exact absurd hh (h0 _ _ _ (by simp))
 | halt x w' =>
  cases x <;> simp only [Oper.upon] at hh ⊢ <;> first
   | exact hh
   | exact absurd hh hl
   | exact absurd hh (h0 _ _ _ (by simp))
theorem ZeO {o:Oper} {σ:St} {K:St->Prop} (hg:o.guard=none) (h:Runs e ds 0 [o] σ K):Zbx e o σ (fun σ'=>Runs e ds 0 [] σ' K):=by
 intro he U w0 S0 nt a w Q hd hs;have h:ZdS e ds [o] σ K:=by simpa only [Runs] using h
 have h1:=h he U w0 S0 nt a w (ds.map fun d=>{ o with dst:=d }) (fun ex a' w'=>ex=.normal∧∃ σ',K σ'∧SimE e U w0 S0 nt σ' a' w') (by rw [List.map_map];exact List.map_id ds) (fun o' ho d hd'=>by simp only [Tbi] at ho;subst ho;exact hd d hd') (fun a w σ' k1 k2=>⟨rfl,σ',k1,k2⟩) hs;unfold wpList at h1;have hw:Region.wanted o (yielded (ds.map fun d=>{ o with dst:=d }).toArray a.tmps)=true:=by simp [Region.wanted,hg]
 rw [if_pos hw] at h1;rcases h1 with h1 | ⟨_,a',w',h1,_⟩
 ·refine ZAh (fun ex a w hne h=>hne h.1) (Oper.wp_mono (fun a' w' hk=>?_) h1);simp only [wpList] at hk;obtain ⟨_,σ',k1,k2⟩:=hk;exact ⟨σ',ZbL k1,k2⟩
 ·cases h1
theorem gO1 {ops:Array Oper} {K:St->Prop} {f:Nat} {listed:Array Bool} {o:Oper} {σ:St} (i:Nat) (hK:Runs e ds 0 [o] σ (ZcN e ds ops K f (listed.setIfInBounds i true))) (hr:Region.ready .any ops listed=[i]:=by decide +kernel) (ho:ops[i]?=some o:=by simp only [List.getElem?_toArray,Tau,Tat];exact rfl) (hg:o.guard=none:=by exact rfl):ZcN e ds ops K (f+1) listed σ:=by
 refine ⟨fun h=>(by rw [hr] at h;cases h),fun j hj=>?_⟩;rw [hr] at hj;have hji:j=i:=by simpa using hj
 subst hji;exact ⟨o,ho,hg,ZeO hg hK⟩
theorem gO3 {K:St->Prop} {o:Oper} {s s1:List (Nat × A)} {m m1:List (Nat × Bk)} (hK:K ⟨s1,m1⟩) (h:ZaQ e.P ds 0 [o] ⟨s,m⟩=.done ⟨s1,m1⟩:=by exact sfv):Runs e ds 0 [o] ⟨s,m⟩ K:=Zeq h hK
theorem Zjt {K:St->Prop} {n:Nat} {os:List Oper} {o:Oper} {σ:St} (hg:o.guard=none) (hal:isAl o=false) (h:Zdu e o σ (fun σ'=>Runs e ds n os σ' K)):Runs e ds (n+1) (o::os) σ K:=by
 simp only [Runs,hg];rw [if_neg (by simp [hal])];exact h
theorem gAq {K:St->Prop} {os:List Oper} {n d ty:Nat} {p:String} {ed:Array Edge} {x:Operand} {y:D} {s:List (Nat × A)} {m:List (Nat × Bk)} (hK:Runs e ds n os ⟨(d,.d y)::s,m⟩ K) (hx:evA s x=.d y:=by exact sfx):Runs e ds (n+1) (⟨some d,.assign x,ty,p,ed,none⟩::os) ⟨s,m⟩ K :=
 Zjt rfl rfl fun he=>⟨.d y,hK,fun U base S0=>Zax fun w S L ρv hC hr=>⟨ρv x,by simp [execOp],by
  have h:=hr x (by simp [Op.operands]);rw [hx] at h;exact h⟩⟩
end
theorem Zve (n:Int):Con e0 134 [.one (.lit (.int .i64 n))] [.one (.lit (.bool (decide (0<=n∧n<=65535))))]:=by
 refine gI 5 Tryz.func134 ?_;by_cases h1:0<=n <;> by_cases h2:n<=65535 <;> (exact fT (ai @h1 @h2))
theorem Zb8:∀ p:Int × Int,ZbM p=[.lit (.int .i64 p.1),.lit (.int .i64 p.2)]:=fun _=>rfl
theorem Zvf {k:Nat} (h:k < 62):IntKind.u64.wrap (k:Int)=(k:Int):=by
 have h2:(k:Int) < 18446744073709551616:=om;simp only [IntKind.wrap,IntKind.signed,IntKind.bits,Tam,if_false];exact Int.emod_eq_of_lt om om
theorem Zvg:Tryz.prog.underlying 3=some (.int .i64):=by kernel_rfl
theorem Zrb:ZeM (Tryz.prog.underlying 140)=some .u64:=by kernel_rfl
theorem Zi0 {k:Nat} (h:k < 62):IntKind.i64.wrap (1 * 2 ^ min k 64)=((2 ^ k:Nat):Int):=by
 rw [Nat.min_eq_left om,Int.one_mul,show (2:Int) ^ k=((2 ^ k:Nat):Int) by rw [Int.natCast_pow];rfl];have:=ZfQ h;generalize 2 ^ k=x at this ⊢;exact IntWalk.i64_in _ om
theorem Zrc (j:Int):Znj j (some (.int .i64)) (some .u64)=some (.d (.one (.lit (.int .u64 (IntKind.u64.wrap j))))):=rfl
theorem Zgi {k:Nat} (hk:k < 62):Con e0 133 [.one (.lit (.int .i64 k))] [.one (.lit (.int .i64 ((2 ^ k:Nat):Int)))]:=by
 have h1:=Zvf hk;have h2:=Zi0 hk;refine gI 5 Tryz.func133 ?_;exact fT (aj6 @Zvg @Zrb @Zrc @h1 @h2 @ZaS)
def tbit (a k:Nat):Bool:=a.testBit k
theorem ZAK {a k:Nat} (ha:a < 4611686018427387904) (h:k < 62):decide (bits .and .i64 ((a:Int).fdiv (2 ^ min k 64)) 1=1)=tbit a k:=by
 rw [tbit];rw [Nat.min_eq_left om,Int.fdiv_eq_ediv_of_nonneg _ (Int.pow_nonneg (by decide)),<- Zpm ha];exact (Bool.beq_eq_decide_eq _ _).symm
theorem Zes {a k:Nat} (ha:a < 4611686018427387904) (hk:k < 16):Con e0 76 [.one (.lit (.int .i64 a)),.one (.lit (.int .i64 k))] [.one (.lit (.bool (tbit a k)))]:=by
 have h1:=Zvf (k:=k) om;have h2:=ZAK (k:=k) ha om;have z1:=lT k 16;have z2:((0:Int)<=(k:Int))=True:=eq_true om;refine gI 19 Tryz.func76 ?_;exact fT (aj8 @Zvg @Zrb @Zrc @h1 @h2 @ZaS @z1 @z2)
theorem Zvh (a b:Nat):Con e0 114 [.one (.lit (.int .i64 a)),.one (.lit (.int .i64 b))] [.one (.lit (.int .i64 ((min a b:Nat):Int)))]:=by
 refine gI 147 Tryz.func114 ?_;by_cases h:a < b
 ·have z1:=lT a b;have e:min a b=a:=Nat.min_eq_left om;exact fT (ai @z1 @e)
 ·have z1:=lF a b;have e:min a b=b:=Nat.min_eq_right om;exact fT (ai @z1 @e)
theorem Zzx (n:Nat):ZdA n 0=List.replicate n 0:=by simp [ZdA,up0]
theorem Zn6 (subs:List (Int × Int)) (l:List Nat):Zds subs 0 l=l:=rfl
theorem ZlH (n:Nat) (z:List C):(List.replicate n z).length=n:=List.length_replicate
def nR (l:List Nat):List (List C):=(ZbW l).map Zat
section
variable {l:List Nat}
theorem Za8:(nR l).length=l.length:=by rw [nR,Tax,Zmc]
theorem Zbe {i x:Nat} (h:l[i]?=some x):(nR l)[i]?=some [.lit (.int .i64 x)]:=by rw [nR,Taz,Zu6 h];rfl
theorem Zdi (i x:Nat):(nR l).set i [.lit (.int .i64 x)]=nR (l.set i x):=by rw [nR,nR,Zu7,List.map_set];rfl
theorem Za0:ZaL 1 (nR l)=true:=Zib _
theorem Zi1 (x:Nat):nR l++[[.lit (.int .i64 x)]]=nR (l++[x]):=by rw [nR,nR,ZrN,Tbu];rfl
end
theorem nR_0 (n:Nat):List.replicate n [C.lit (.int .i64 0)]=nR (List.replicate n 0):=by simp [nR,ZbW,Zat]
theorem Zrd:∀ (l:List Nat) (p:Int × Int),Zdc l p=l.set p.1.toNat (l.getD p.1.toNat 0 ||| l.getD p.2.toNat 0):=fun _ _=>rfl
theorem Zre (subs:List (Int × Int)) (l:List Nat):(subs.take 0).foldl Zdc l=l:=rfl
theorem Zrf (subs:List (Int × Int)) (l:List Nat):Zdo subs 0 l=l:=rfl
theorem Zvi (subs:List (Int × Int)) (l:List Nat):(subs.take 0).foldl kSub l=l:=rfl
theorem Zmh {subs:List (Int × Int)} {i:Nat} {p:Int × Int} (h:subs[i]?=some p) (l:List Nat):(subs.take (i+1)).foldl kSub l=kSub ((subs.take i).foldl kSub l) p:=Zhh h l
theorem Zvj:nR (up0 0)=[]∧nR (List.range 0)=[]∧nR []=[]:=⟨rfl,rfl,rfl⟩
theorem Zzy (a:Nat):nR (Zco a 0)=[]:=rfl
theorem ZkH {subs:List (Int × Int)} {i:Nat} {p:Int × Int} (h:subs[i]?=some p) (l:List Nat):(subs.take (i+1)).foldl Zdc l=Zdc ((subs.take i).foldl Zdc l) p:=Zhh h l
section
variable {s:Srt}
theorem ZhU (h1:1<=s.names.length) (h8:s.names.length<=8) (hm:s.subs.length<=16) (hs:ZcW s.names.length s.subs):Con e0 116 [.agg (Za3 s)] [.one (.sl (nR (up s)))]:=by
 have hmx:((s.names.length:Int)<=(maxApp:Int))=True:=eq_true (by unfold maxApp;omega);rw [Za3];refine gI 2072014943 Tryz.func116 ?_;refine fG (aj3 @hmx @Tbv @ZlH) ?_;rw [nR_0];have F:=@Zzx;refine gL (ι:=Nat) [3,4,13,14] [3] (fun k=>[(13,A.d (.one (.lit (.int .i64 k)))),(3,.buf 3)]) (fun k=>[(3,.buf none 3 1 (nR (ZdA s.names.length k)))]) (fun k=>k<=s.names.length) (fun k=>s.names.length - k) (0) (Taj _) (fun k hk=>?_);clear F
 by_cases hlt:k < s.names.length
 ·have q1:(k:Int) < (s.names.length:Int):=om;have hw:=Zap (k:=k) om;have hsh:=Zi0 (k:=k) om;have l1:=Zu8 (n:=s.names.length) (k:=k) om;have l2:=Za8 (l:=ZdA s.names.length k);have l3:=Za0 (l:=ZdA s.names.length k);have l4:=Zdi (l:=ZdA s.names.length k) k (2 ^ k);rw [Zu9 hlt] at l4;rw [l1] at l2;obtain ⟨x,hx⟩:∃ x,(ZdA s.names.length k)[k]?=some x:=⟨_,Taa om⟩;have l5:=Zbe hx;have F:=aj9 @q1 @hsh @l2 @l3 @l4 @l5 @hlt @hw @ZaS;refine gG ?_;exact ⟨k+1,hlt,gw,gw,om⟩
 obtain rfl:k=s.names.length:=by omega
 have q1:¬ ((s.names.length:Int) < (s.names.length:Int)):=om;rw [Zva];have hU:=UpOk.start s.names.length;have l0:(nR (up0 s.names.length)).length=s.names.length:=by rw [Za8,hU.1]
 refine fG (ai @q1 @l0) ?_;have F:=@Zn6;refine gL (ι:=Nat) [3,6,24,25,27,28,29,30] [3] (fun j=>[(24,A.d (.one (.lit (.int .i64 j)))),(3,.buf 3)]) (fun j=>[(3,.buf none 3 1 (nR (Zds s.subs j (up0 s.names.length))))]) (fun j=>j<=s.names.length) (fun j=>s.names.length - j) (0) (Taj _) (fun j hj=>?_);clear F;by_cases hlj:j < s.names.length;rotate_left
 ·obtain rfl:j=s.names.length:=by omega
  have q2:¬ ((s.names.length:Int) < (s.names.length:Int)):=om;rw [up];refine fG @q2 ?_;have F:=@e0P;refine gG ?_;exact gTz [2]
 have q2:(j:Int) < (s.names.length:Int):=om;have hwj:=Zap (k:=j) om;have hUj:=UpOk.iter hs j hU;have hnx:Zds s.subs (j+1) (up0 s.names.length)=s.subs.foldl Zdc (Zds s.subs j (up0 s.names.length)):=rfl;generalize Zds s.subs j (up0 s.names.length)=u at hUj hnx ⊢;refine fG @q2 ?_;have F:=@Zre;refine gL (ι:=Nat) [3,6,29,30] [3] (fun i=>[(29,A.d (.one (.lit (.int .i64 i)))),(3,.buf 3)]) (fun i=>[(3,.buf none 3 1 (nR ((s.subs.take i).foldl Zdc u)))]) (fun i=>i<=s.subs.length) (fun i=>s.subs.length - i) (0) (Taj _) (fun i hi=>?_);clear F
 by_cases hli:i < s.subs.length;rotate_left
 ·obtain rfl:i=s.subs.length:=by omega
  have q3:¬ ((s.subs.length:Int) < (s.subs.length:Int)):=om;rw [Tap,<- hnx];have F:=ai @q3 @hwj;refine gG ?_;exact ⟨j+1,hlj,gw,gw,om⟩
 have q3:(i:Int) < (s.subs.length:Int):=om;have hwi:=Zap (k:=i) om;obtain ⟨p,hp⟩:∃ p,s.subs[i]?=some p:=⟨_,Taa hli⟩;have hps:=hs p (Tac hp);have hst:=ZkH hp u;have hUi:=UpOk.foldl hUj (hs.take i);generalize (s.subs.take i).foldl Zdc u=v at hUi hst ⊢;obtain ⟨g1,b1⟩:=hUi.get (i:=p.1.toNat) om;obtain ⟨g2,b2⟩:=hUi.get (i:=p.2.toNat) om;have p256:2 ^ s.names.length<=256:=Tbd (Tbr om h8) (by decide);have hor:=Zer (a:=v.getD p.1.toNat 0) (b:=v.getD p.2.toNat 0) om om
 have l1:=Zbe g1;have l2:=Zbe g2;have l3:=Za8 (l:=v);rw [hUi.1] at l3;have l4:=Za0 (l:=v);have l5:=Zdi (l:=v) p.1.toNat (v.getD p.1.toNat 0 ||| v.getD p.2.toNat 0);have i1:0<=p.1:=hps.1;have i2:0<=p.2:=hps.2.2.1;have i3:p.1.toNat < s.names.length:=om;have i4:p.2.toNat < s.names.length:=om;have F:=aj16 @q3 @hp @Zb8 @l1 @l2 @l3 @l4 @l5 @hor @i1 @i2 @i3 @i4 @hwi @hst @Zrd;refine gG ?_;exact ⟨i+1,hli,gw,gw,om⟩
theorem ZfU (h8:s.names.length<=8) (hm:s.subs.length<=16) (hs:ZcW s.names.length s.subs):Con e0 113 [.agg (Za3 s)] [.one (.sl (nR (up s)))]:=by
 rw [Za3];refine gI 2164265087 Tryz.func113 ?_;refine fG @e0P ?_;have F:=@Zvj;refine gL (ι:=Nat) [3,4,12] [3] (fun k=>[(4,A.d (.one (.lit (.int .i64 k)))),(3,.buf 3)]) (fun k=>[(3,.buf none 3 1 (nR (up0 k)))]) (fun k=>k<=s.names.length) (fun k=>s.names.length - k) (0) (Taj _) (fun k hk=>?_);clear F;by_cases hlt:k < s.names.length
 ·have q1:(k:Int) < (s.names.length:Int):=om;have hw:=Zap (k:=k) om;have l2:=Za8 (l:=up0 k);rw [(UpOk.start k).1] at l2;have l3:=Za0 (l:=up0 k);have l4:=Zi1 (l:=up0 k) (2 ^ k);rw [<- Zw6] at l4;have hmx:(k+1<=maxApp)=True:=eq_true (by unfold maxApp;omega);refine fB @q1 ?_;refine fC @e0P (Zgi (k:=k) om) ?_;refine fR (aj4 @l2 @l3 @l4 @hmx) ?_;have F:=@hw;refine gG ?_;exact ⟨k+1,hlt,gw,gw,om⟩
 obtain rfl:k=s.names.length:=by omega
 have q1:¬ ((s.names.length:Int) < (s.names.length:Int)):=om;have hU:=UpOk.start s.names.length;refine fG @q1 ?_;have F:=@Zn6;refine gL (ι:=Nat) [3,5,6,24,31] [3] (fun j=>[(5,A.d (.one (.lit (.int .i64 j)))),(3,.buf 3)]) (fun j=>[(3,.buf none 3 1 (nR (Zds s.subs j (up0 s.names.length))))]) (fun j=>j<=s.names.length) (fun j=>s.names.length - j) (0) (Taj _) (fun j hj=>?_);clear F;by_cases hlj:j < s.names.length
 rotate_left
 ·obtain rfl:j=s.names.length:=by omega
  have q2:¬ ((s.names.length:Int) < (s.names.length:Int)):=om;rw [up];refine fG @q2 ?_;have F:=@e0P;refine gG ?_;exact gTz [2]
 have q2:(j:Int) < (s.names.length:Int):=om;have hwj:=Zap (k:=j) om;have hUj:=UpOk.iter hs j hU;have hnx:Zds s.subs (j+1) (up0 s.names.length)=s.subs.foldl Zdc (Zds s.subs j (up0 s.names.length)):=rfl;generalize Zds s.subs j (up0 s.names.length)=u at hUj hnx ⊢;refine fG @q2 ?_;have F:=@Zre;refine gL (ι:=Nat) [3,6,31] [3] (fun i=>[(6,A.d (.one (.lit (.int .i64 i)))),(3,.buf 3)]) (fun i=>[(3,.buf none 3 1 (nR ((s.subs.take i).foldl Zdc u)))]) (fun i=>i<=s.subs.length) (fun i=>s.subs.length - i) (0) (Taj _) (fun i hi=>?_);clear F
 by_cases hli:i < s.subs.length;rotate_left
 ·obtain rfl:i=s.subs.length:=by omega
  have q3:¬ ((s.subs.length:Int) < (s.subs.length:Int)):=om;rw [Tap,<- hnx];have F:=ai @q3 @hwj;refine gG ?_;exact ⟨j+1,hlj,gw,gw,om⟩
 have q3:(i:Int) < (s.subs.length:Int):=om;have hwi:=Zap (k:=i) om;obtain ⟨p,hp⟩:∃ p,s.subs[i]?=some p:=⟨_,Taa hli⟩;have hps:=hs p (Tac hp);have hst:=ZkH hp u;have hUi:=UpOk.foldl hUj (hs.take i);generalize (s.subs.take i).foldl Zdc u=v at hUi hst ⊢;obtain ⟨g1,b1⟩:=hUi.get (i:=p.1.toNat) om;obtain ⟨g2,b2⟩:=hUi.get (i:=p.2.toNat) om;have p256:2 ^ s.names.length<=256:=Tbd (Tbr om h8) (by decide);have hor:=Zer (a:=v.getD p.1.toNat 0) (b:=v.getD p.2.toNat 0) om om
 have l1:=Zbe g1;have l2:=Zbe g2;have l3:=Za8 (l:=v);rw [hUi.1] at l3;have l4:=Za0 (l:=v);have l5:=Zdi (l:=v) p.1.toNat (v.getD p.1.toNat 0 ||| v.getD p.2.toNat 0);have i1:0<=p.1:=hps.1;have i2:0<=p.2:=hps.2.2.1;have i3:p.1.toNat < s.names.length:=om;have i4:p.2.toNat < s.names.length:=om;have F:=aj16 @q3 @hp @Zb8 @l1 @l2 @l3 @l4 @l5 @hor @i1 @i2 @i3 @i4 @hwi @hst @Zrd;refine gG ?_;exact ⟨i+1,hli,gw,gw,om⟩
theorem Zn7 (h8:s.names.length<=8) (hm:s.subs.length<=16) (hs:ZcW s.names.length s.subs):Con e0 88 [.agg (Za3 s)] [.one (.sl (nR (Zb0 s)))]:=by
 rw [Za3];refine gI 4328555519 Tryz.func88 ?_;refine fG @e0P ?_;have F:=@Zvj;refine gL (ι:=Nat) [3,4,15] [3] (fun k=>[(4,A.d (.one (.lit (.int .i64 k)))),(3,.buf 3)]) (fun k=>[(3,.buf none 3 1 (nR (List.range k)))]) (fun k=>k<=s.names.length) (fun k=>s.names.length - k) (0) (Taj _) (fun k hk=>?_);clear F;by_cases hlt:k < s.names.length
 ·have q1:(k:Int) < (s.names.length:Int):=om;have hw:=Zap (k:=k) om;have l2:=Za8 (l:=List.range k);rw [List.length_range] at l2;have l3:=Za0 (l:=List.range k);have l4:=Zi1 (l:=List.range k) k;rw [<- List.range_succ] at l4;have hmx:(k+1<=maxApp)=True:=eq_true (by unfold maxApp;omega);have F:=aj6 @q1 @l2 @l3 @l4 @hmx @hw;refine gG ?_;exact ⟨k+1,hlt,gw,gw,om⟩
 obtain rfl:k=s.names.length:=by omega
 have q1:¬ ((s.names.length:Int) < (s.names.length:Int)):=om;have hU:=KOk.start s.names.length;refine fG @q1 ?_;have F:=@Zrf;refine gL (ι:=Nat) [3,5,6,7,8,9,25,32] [3] (fun j=>[(5,A.d (.one (.lit (.int .i64 j)))),(3,.buf 3)]) (fun j=>[(3,.buf none 3 1 (nR (Zdo s.subs j (List.range s.names.length))))]) (fun j=>j<=s.names.length) (fun j=>s.names.length - j) (0) (Taj _) (fun j hj=>?_);clear F;have hUj:=KOk.iter hs j hU
 have l0:=Za8 (l:=Zdo s.subs j (List.range s.names.length));rw [hUj.1] at l0;by_cases hlj:j < s.names.length;rotate_left
 ·obtain rfl:j=s.names.length:=by omega
  have q2:¬ ((s.names.length:Int) < (s.names.length:Int)):=om;rw [Zb0];refine fG (ai @l0 @q2) ?_;have F:=@e0P;refine gG ?_;exact gTz [2]
 have q2:(j:Int) < (s.names.length:Int):=om;have hwj:=Zap (k:=j) om;have hnx:Zdo s.subs (j+1) (List.range s.names.length)=s.subs.foldl kSub (Zdo s.subs j (List.range s.names.length)):=rfl;generalize Zdo s.subs j (List.range s.names.length)=u at hUj hnx l0 ⊢;refine fG (ai @l0 @q2) ?_;have F:=@Zvi;refine gL (ι:=Nat) [3,6,7,8,9,32] [3] (fun i=>[(6,A.d (.one (.lit (.int .i64 i)))),(3,.buf 3)]) (fun i=>[(3,.buf none 3 1 (nR ((s.subs.take i).foldl kSub u)))]) (fun i=>i<=s.subs.length) (fun i=>s.subs.length - i) (0) (Taj _) (fun i hi=>?_);clear F
 by_cases hli:i < s.subs.length;rotate_left
 ·obtain rfl:i=s.subs.length:=by omega
  have q3:¬ ((s.subs.length:Int) < (s.subs.length:Int)):=om;rw [Tap,<- hnx];have F:=ai @q3 @hwj;refine gG ?_;exact ⟨j+1,hlj,gw,gw,om⟩
 have q3:(i:Int) < (s.subs.length:Int):=om;have hwi:=Zap (k:=i) om;obtain ⟨p,hp⟩:∃ p,s.subs[i]?=some p:=⟨_,Taa hli⟩;have hps:=hs p (Tac hp);have hst:=Zmh hp u;have hUi:=KOk.foldl hUj (hs.take i);generalize (s.subs.take i).foldl kSub u=v at hUi hst ⊢;obtain ⟨g1,b1⟩:=hUi.get (i:=p.1.toNat) om;obtain ⟨g2,b2⟩:=hUi.get (i:=p.2.toNat) om;have l1:=Zbe g1;have l2:=Zbe g2;have l3:=Za8 (l:=v);rw [hUi.1] at l3
 have l4:=Za0 (l:=v);have l5:=Zdi (l:=v) p.1.toNat (min (v.getD p.1.toNat 0) (v.getD p.2.toNat 0));have l6:=Zdi (l:=v.set p.1.toNat (min (v.getD p.1.toNat 0) (v.getD p.2.toNat 0))) p.2.toNat (min (v.getD p.1.toNat 0) (v.getD p.2.toNat 0));have l7:=Za8 (l:=v.set p.1.toNat (min (v.getD p.1.toNat 0) (v.getD p.2.toNat 0)));rw [Tay,hUi.1] at l7;have l8:=Za0 (l:=v.set p.1.toNat (min (v.getD p.1.toNat 0) (v.getD p.2.toNat 0)))
 obtain ⟨x9,g9⟩:∃ x,(v.set p.1.toNat (min (v.getD p.1.toNat 0) (v.getD p.2.toNat 0)))[p.2.toNat]?=some x:=⟨_,Taa (by rw [Tay,hUi.1];omega)⟩;have l9:=Zbe g9;have i1:0<=p.1:=hps.1;have i2:0<=p.2:=hps.2.2.1;have i3:p.1.toNat < s.names.length:=om;have i4:p.2.toNat < s.names.length:=om;have hst:(s.subs.take (i+1)).foldl kSub u=(v.set p.1.toNat (min (v.getD p.1.toNat 0) (v.getD p.2.toNat 0))).set p.2.toNat (min (v.getD p.1.toNat 0) (v.getD p.2.toNat 0)):=hst
 refine fN 12 @q3 ?_;refine Zak 14 (by decide +kernel) ?_;intro ds hds;simp only [List.map] at hds;subst hds;refine (have F:=ai hp Zb8;gP 12 ?_);refine (have F:=i1;gAq ?_);refine (have F:=i1;gAq ?_);refine fR @i1 ?_;refine fN 13 @e0P ?_;refine gB ?_;refine fC (aj8 @l1 @l2 @l3 @l4 @i1 @i2 @i3 @i4) (Zvh (v.getD p.1.toNat 0) (v.getD p.2.toNat 0)) ?_;refine fR @e0P ?_;have F:=aj15 @l1 @l2 @l3 @l4 @l5 @l6 @l7 @l8 @l9 @i1 @i2 @i3 @i4 @hwi @hst;refine gG ?_;exact ⟨i+1,hli,gw,gw,om⟩
theorem Zdx (hs:SortsOk s):Con e0 88 [.agg (Za3 s)] [.one (.sl ((ZbW (Zb0 s)).map Zat))]:=Zn7 hs.n8 hs.m16 (SortsOk.subsIn hs.subs)
end
theorem ZrP {x k:Nat} (hx:x < 4611686018427387904) (hk:k < 62):decide (bits .and .i64 (x:Int) ((2 ^ k:Nat):Int)=0)=!(tbit x k):=by
 rw [tbit,<- testBit_and,Zhg hx (ZfQ hk)];simp only [bne,Bool.not_not];rw [Bool.eq_iff_iff,decide_eq_true_eq,beq_iff_eq];omega
theorem ZrQ {a:Nat} (ha:a < 65536):Con e0 117 [.one (.lit (.int .i64 a))] [.one (.sl (nR (Zd5 a)))]:=by
 have cS:=Zve (a:Int);have z0:decide (0<=(a:Int)∧(a:Int)<=65535)=true:=decide_eq_true om;rw [z0] at cS;refine gI 264221 Tryz.func117 ?_;refine fG @e0P ?_;have F:=@Zzy;refine gL (ι:=Nat) [3,4,11,18] [3] (fun k=>[(4,A.d (.one (.lit (.int .i64 k)))),(3,.buf 3)]) (fun k=>[(3,.buf none 3 1 (nR (Zco a k)))]) (fun k=>k<=16) (fun k=>16 - k) (0) om (fun k hk=>?_);clear F;by_cases hlt:k < 16;rotate_left
 ·obtain rfl:k=16:=by omega
  have q1:¬ (((16:Nat):Int) < 16):=om;rw [show Zd5 a=Zco a 16 from rfl];refine fG @q1 ?_;have F:=@e0P;refine gG ?_;exact gTz [2]
 have q1:=lT k 16;have hw:=Zap (k:=k) om;have h1:=Zi0 (k:=k) om;have h2:=ZrP (x:=a) (k:=k) om om;refine fN 3 @e0P ?_;refine gB ?_;refine fC @q1 (cS) ?_;refine fR @q1 ?_;have l2:=Za8 (l:=Zco a k);have l3:=Za0 (l:=Zco a k);have l4:=Zi1 (l:=Zco a k) k;have hmx:((Zco a k).length+1<=maxApp)=True:=eq_true (by have:=ZkF a k;unfold maxApp;omega)
 cases hb:tbit a k with
 | false =>
  rw [hb] at h2;rw [<- Zvb hb];have F:=aj5 @q1 @h1 @h2 @ZaS @hw;refine gG ?_;exact ⟨k+1,hlt,gw,gw,om⟩
 | true =>
  rw [hb] at h2;rw [<- ZrO hb] at l4;have F:=aj9 @q1 @h1 @h2 @ZaS @l2 @l3 @l4 @hmx @hw;refine gG ?_;exact ⟨k+1,hlt,gw,gw,om⟩
end Go.Proofs.YtmdkimnlbaahbaaGreat
namespace Go.Proofs.YtmdkimnlbaahbaaGreat
open Go.RowKit Go.MapKept Go.ChangeMaps
def MapL (w:World) (b:Nat) (l:List (ByteArray × Value)):Prop:=∃ (es:Array MapEntry) (clock:Nat),w.heap[b]?=some (.map es clock)∧es.toList.map (fun e=>(e.key,e.val))=l.map (fun p=>(Value.string p.1,p.2))
def ZbP (l:List (ByteArray × Value)) (s:ByteArray):Option Value:=(l.find? fun p=>s.toList==p.1.toList).map (·.2)
def mapB (b:Nat) (l:List (ByteArray × Value)):Bk:=.set (fun g=>g=b) fun w=>MapL w b l
theorem MapL.stable (b:Nat) (l:List (ByteArray × Value)):ZdE (fun g=>g=b) fun w=>MapL w b l:=fun w w' _ hE ⟨es,c,h1,h2⟩=>⟨es,c,by rw [hE b rfl];exact h1,h2⟩
theorem MapL.lt {w:World} {b:Nat} {l:List (ByteArray × Value)} (h:MapL w b l):b < w.heap.size:=by
 obtain ⟨es,clock,h,_⟩:=h;exact (Tbk.1 h).1
theorem ZjY (s:ByteArray):∀ (es:List MapEntry) (l:List (ByteArray × Value)) (i:Nat),es.map (fun e=>(e.key,e.val))=l.map (fun p=>(Value.string p.1,p.2)) ->
  (∀ v,ZbP l s=some v->∃ j,Instr.findNow .string (.string s) es i=some (some (j,v)))∧(ZbP l s=none->Instr.findNow .string (.string s) es i=some none)
 | [],[],i,_=>⟨fun v h=>by simp [ZbP] at h,fun _=>rfl⟩
 | [],_::_,_,h=>by simp at h
 | _::_,[],_,h=>by simp at h
 | e::es,t::ts,i,h=>by
  simp only [Tbt,List.cons.injEq,Prod.mk.injEq] at h;obtain ⟨⟨h1,h2⟩,h3⟩:=h;obtain ⟨ih1,ih2⟩:=ZjY s es ts (i+1) h3;simp only [Instr.findNow,h1,h2,Instr.sameNow,beq_toListBytes,ZbP,List.find?_cons]
  cases he:(s.toList==t.1.toList)
  ·exact ⟨ih1,ih2⟩
  ·exact ⟨fun v hv=>⟨i,by simpa using hv⟩,fun h=>by simp at h⟩
section
variable {P:Program} {w:World} {b:Nat} {l:List (ByteArray × Value)} {t k el:TypeId}
theorem Zxb (h:MapL w b l) (ht:P.underlying t=some (.map k el)) (hk:P.underlying k=some .string) {z:Value} (hz:∀ w,(zeroValue el).run P w=.ok z w) (s:ByteArray) (ok:Bool) :
  (Instr.lookup t (.map (some b)) (.string s) ok).run P w=.ok (if ok then .tuple #[(ZbP l s).getD z,.bool (ZbP l s).isSome] else (ZbP l s).getD z) w:=by
 obtain ⟨es,clock,h1,h2⟩:=h;obtain ⟨f1,f2⟩:=ZjY s es.toList l 0 h2;have hc:∀ em,(Instr.checkKey em 10000 k (.string s)).run P w=.ok () w:=fun em=>MapKept.run_checkKey hk (by simp [MapKept.IsKey]) em 9999;rcases hs:ZbP l s with _ | v
 ·have:=MapKept.run_findKey (w:=w) hk (f2 hs);simp [Instr.lookup,run_underlying ht,MapKept.run_getObj_map h1,hc,this,hs,hz]
 ·obtain ⟨j,hf⟩:=f1 v hs;have:=MapKept.run_findKey (w:=w) hk hf;simp [Instr.lookup,run_underlying ht,MapKept.run_getObj_map h1,hc,this,hs]
theorem Zzz (h:MapL w b l) (ht:P.underlying t=some (.map k el)) (hk:P.underlying k=some .string) {s:ByteArray} (hs:ZbP l s=none) (v:Value) :
  ∃ w',(Instr.mapUpdate t (.map (some b)) (.string s) v).run P w=.ok () w'∧MapL w' b (l++[(s,v)])∧w'.os=w.os∧w'.tape=w.tape∧w'.output=w.output∧w'.drawn=w.drawn∧w'.heap.size=w.heap.size∧∀ x,x≠b->w'.heap[x]?=w.heap[x]?:=by
 obtain ⟨es,clock,h1,h2⟩:=h;obtain ⟨f1,f2⟩:=ZjY s es.toList l 0 h2;have hc:∀ em,(Instr.checkKey em 10000 k (.string s)).run P w=.ok () w:=fun em=>MapKept.run_checkKey hk (by simp [MapKept.IsKey]) em 9999;have:=MapKept.run_findKey (w:=w) hk (f2 hs);refine ⟨setBlock w b (.map (es.push { key:=.string s,val:=v,born:=clock }) (clock+1)),?_,⟨_,_,heap_setBlock_same h1 _,by simp [h2]⟩,rfl,rfl,rfl,rfl,by simp [setBlock],fun x hx=>heap_setBlock_other h1 _ hx⟩
 simp [Instr.mapUpdate,run_underlying ht,MapKept.run_getObj_map h1,hc,this,MapKept.run_setObj_map _ h1,setBlock]
end
section
variable {e:Env} {σ:St} {o:Oper} {K:St->Prop}
theorem Zpq {t:TypeId} (ho:o.op=.makeMap t none) {d:Nat} (hdd:o.dst=some d) (hK:∀ b:Nat,K ⟨(d,.d (.one (.lit (.map (some b)))))::Zan d σ.s,(d,mapB b [])::remM d σ.m⟩):Zbx e o σ K:=by
 intro he U w0 S0 nt a w Q hd ⟨S,L,h1⟩;have hb:Below w.heap.size w (w.alloc (.map #[] 0)):=ZdD w _;have hk:Kept e.D (fun b=>(none:Option Nat)=some b) w.heap.size w (w.alloc (.map #[] 0)):=Kept.of_below hb (fun _=>Tai _);unfold Oper.wp;have hrun:(execOp a.eval o).run e.P w=.ok (.value (.map (some w.heap.size))) (w.alloc (.map #[] 0)):=by
  simp [execOp,ho,Instr.makeMap,newObj,Result.andThen];rfl
 rw [hrun,Oper.upon_value,hdd];refine ⟨_,hK w.heap.size,h1.born he (hd d hdd) (τ:=none) (b':=0) (v':=Go.undef) (S':=S) (fun _ h=>h) (fun _ h=>.inl h) (fun t=>.inl rfl) (fun k x h=>h) (by simp) (by simp) hk ?_ ?_ (by simp [ARel,DRel,Rep])⟩
 ·simp only [Own1,mapB];refine ⟨fun b hb'=>?_,⟨#[],0,heap_alloc_new w _,rfl⟩,MapL.stable _ _⟩;subst hb';exact ⟨by simp,fun hs=>by have:=(h1.cls.sin _ hs).1;omega⟩
 ·intro g hg;simp only [Zau,mapB] at hg;exact .inr om
theorem Zvk {t:TypeId} {x y:Operand} {ok:Bool} (ho:o.op=.lookup t x y ok) {κ b:Nat} {l:List (ByteArray × Value)} {s:ByteArray} {kt el:TypeId} {z:Value} (ht:e.P.underlying t=some (.map kt el)) (hk:e.P.underlying kt=some .string) (hz:∀ w,(zeroValue el).run e.P w=.ok z w)
  (hx:evA σ.s x=.d (.one (.lit (.map (some b))))) (hy:evA σ.s y=.d (.one (.lit (.string s)))) (hm:gm σ.m κ=some (mapB b l)) {α:A} (hα:∀ (w:World) (S:Nat->Prop) (L:Lay),ARel w S L α (if ok then .tuple #[(ZbP l s).getD z,.bool (ZbP l s).isSome] else (ZbP l s).getD z)) (hK:K ⟨setA σ.s o.dst α,σ.m⟩):Zbx e o σ K:=by
 intro he U w0 S0 nt a w Q hd ⟨S,L,h1⟩;have hx':=h1.eval x;have hy':=h1.eval y;rw [hx] at hx';rw [hy] at hy';have hx':a.eval x=.map (some b):=by simpa [ARel,DRel,Rep] using hx'
 have hy':a.eval y=.string s:=by simpa [ARel,DRel,Rep] using hy'
 obtain ⟨_,hM,_⟩:=h1.cls.own κ _ hm;unfold Oper.wp;have hrun:(execOp a.eval o).run e.P w=.ok (.value (if ok then .tuple #[(ZbP l s).getD z,.bool (ZbP l s).isSome] else (ZbP l s).getD z)) w:=by
  simp [execOp,ho,hx',hy',Zxb hM ht hk hz s ok,Result.andThen]
 rw [hrun,Oper.upon_value];exact ⟨_,hK,S,L,h1.put (hα w S L) hd⟩
theorem Zxc {t:TypeId} {x y u:Operand} (ho:o.op=.mapUpdate t x y u) {κ b:Nat} {l:List (ByteArray × Value)} {s:ByteArray} {kt el:TypeId} {v:Value} (hdn:o.dst=none) (ht:e.P.underlying t=some (.map kt el)) (hk:e.P.underlying kt=some .string)
  (hx:evA σ.s x=.d (.one (.lit (.map (some b))))) (hy:evA σ.s y=.d (.one (.lit (.string s)))) (hu:evA σ.s u=.d (.one (.lit v))) (hm:gm σ.m κ=some (mapB b l)) (hs:ZbP l s=none) (hK:K ⟨σ.s,(κ,mapB b (l++[(s,v)]))::remM κ σ.m⟩):Zbx e o σ K:=by
 intro he U w0 S0 nt a w Q hd ⟨S,L,h1⟩;have hx':=h1.eval x;have hy':=h1.eval y;have hu':=h1.eval u;rw [hx] at hx';rw [hy] at hy';rw [hu] at hu';have hx':a.eval x=.map (some b):=by simpa [ARel,DRel,Rep] using hx'
 have hy':a.eval y=.string s:=by simpa [ARel,DRel,Rep] using hy'
 have hu':a.eval u=v:=by simpa [ARel,DRel,Rep] using hu'
 obtain ⟨hbb,hM,_⟩:=h1.cls.own κ _ hm;obtain ⟨w',hrun,hM',o1,o2,o3,o4,o5,o6⟩:=Zzz hM ht hk hs v;unfold Oper.wp;have hrun:(execOp a.eval o).run e.P w=.ok .skip w':=by
  simp [execOp,ho,hx',hy',hu',hrun,Result.andThen]
 rw [hrun,Oper.upon_skip,hdn];have hkc:∀ c,S c->w'.heap[c]?=w.heap[c]?:=fun c hc=>o6 c fun e1=>(hbb b rfl).2 (e1 ▸ hc)
 obtain ⟨t1,t2,t3⟩:=h1.touch he (d:=κ) (bk:=mapB b (l++[(s,v)])) (m':=(κ,mapB b (l++[(s,v)]))::remM κ σ.m) (w':=w') (L':=L) (τ:=some b) (S':=S) (fun _ h=>h) (fun _ h=>.inl h)
  (fun k' x hkd hx=>by simp only [gm,hkd,if_false,ZaH] at hx;exact hx) (by simp [gm]) (fun _ _=>⟨rfl,rfl⟩)
  (fun g hg=>by injection hg with hg;subst hg;exact ⟨(hbb b rfl).2,h1.cls.notE hm rfl,h1.cls.mine κ _ _ hm rfl⟩)
  (fun k' x g hkd hx hg hb=>by
   injection hg with hg;subst hg
   simp only [gm,hkd,if_false,ZaH] at hx;exact hkd (h1.cls.inj k' κ x _ _ hx hm hb rfl))
  ⟨o1,o2,o3,fun _=>Nat.le_of_eq o4.symm,om,fun c hc hE=>o6 c (fun eq=>hE (by rw [eq]))⟩
  ⟨fun c hc=>by have:=hbb c hc;exact ⟨om,this.2⟩,hM',MapL.stable _ _⟩ (fun g hg=>.inl (by simp only [Zau,mapB] at hg;rw [hg]))
 exact ⟨_,hK,S,L,t1,fun t=>t3 _ _ (fun _=>⟨rfl,rfl⟩) (h1.rel t),h1.size,h1.defers,t2⟩
end
section
variable {e:Env} {K:St->Prop} {ds:List (Option Nat)} {os:List Oper} {s:List (Nat × A)} {m:List (Nat × Bk)}
theorem Zhm {o:Oper} {σ:St} (hg:o.guard=none) (h:Zbx e o σ (fun σ'=>Runs e ds 0 os σ' K)):Runs e ds 0 (o::os) σ K:=by
 simp only [Runs] at h ⊢;exact Zcz hg h
theorem gMk {d t ty:Nat} {p:String} {ed:Array Edge} {s2:List (Nat × A)} {m2:List (Nat × Bk)} (hK:∀ b:Nat,Runs e ds 0 os ⟨(d,.d (.one (.lit (.map (some b)))))::s2,(d,mapB b [])::m2⟩ K) (hs:Zan d s=s2:=by exact snv) (hr:remM d m=m2:=by exact snv):Runs e ds 0 (⟨some d,.makeMap t none,ty,p,ed,none⟩::os) ⟨s,m⟩ K :=
 Zhm rfl (Zpq rfl rfl (by simp only [hs,hr];exact hK))
theorem gLk {d t ty:Nat} {p:String} {ed:Array Edge} {x y:Operand} {b:Nat} {l:List (ByteArray × Value)} {k:ByteArray} {kt el:TypeId} {z v:Value} (κ:Nat) (ht:e.P.underlying t=some (.map kt el)) (hk:e.P.underlying kt=some .string) (hz:∀ w,(zeroValue el).run e.P w=.ok z w) (hv:(ZbP l k).getD z=v)
  (hK:Runs e ds 0 os ⟨(d,.d (.one (.lit v)))::s,m⟩ K) (hx:evA s x=.d (.one (.lit (.map (some b)))):=by exact sfx) (hy:evA s y=.d (.one (.lit (.string k))):=by exact sfx) (hm:gm m κ=some (mapB b l):=by exact snx):Runs e ds 0 (⟨some d,.lookup t x y false,ty,p,ed,none⟩::os) ⟨s,m⟩ K :=
 Zhm rfl (Zvk rfl ht hk hz hx hy hm (α:=.d (.one (.lit v))) (fun w S L=>by rw [<- hv];simp [ARel,DRel,Rep]) hK)
theorem gUp {t ty:Nat} {p:String} {ed:Array Edge} {x y u:Operand} {b:Nat} {l:List (ByteArray × Value)} {k:ByteArray} {kt el:TypeId} {v:Value} {m2:List (Nat × Bk)} (κ:Nat) (ht:e.P.underlying t=some (.map kt el)) (hk:e.P.underlying kt=some .string) (hs:ZbP l k=none)
  (hK:Runs e ds 0 os ⟨s,(κ,mapB b (l++[(k,v)]))::m2⟩ K) (hx:evA s x=.d (.one (.lit (.map (some b)))):=by exact sfx) (hy:evA s y=.d (.one (.lit (.string k))):=by exact sfx) (hu:evA s u=.d (.one (.lit v)):=by exact sfx)
  (hm:gm m κ=some (mapB b l):=by exact snx) (hr:remM κ m=m2:=by exact snv):Runs e ds 0 (⟨none,.mapUpdate t x y u,ty,p,ed,none⟩::os) ⟨s,m⟩ K :=
 Zhm rfl (Zxc rfl rfl ht hk hx hy hu hm hs (by simp only [hr];exact hK))
end
end Go.Proofs.YtmdkimnlbaahbaaGreat
namespace Go.Proofs.YtmdkimnlbaahbaaGreat
open Go.RowKit
def Zdd (l:List ByteArray):List (ByteArray × Value):=l.map fun x=>(x,.bool true)
theorem ZkI (l:List ByteArray) (s:ByteArray):ZbP (Zdd l) s=if Za6 l s then some (.bool true) else none:=by
 induction l with
 | nil=>rfl
 | cons x xs ih =>
  simp only [ZbP,Zdd,Za6,Tbt,List.any_cons] at ih ⊢;by_cases h:(s.toList==x.toList)=true
  ·rw [List.find?_cons_of_pos (by exact h)];simp [h]
  ·rw [List.find?_cons_of_neg (by exact h),ih];simp [h]
theorem ZrR {l:List ByteArray} {i:Nat} {x:ByteArray} (h:l[i]?=some x):Zdd (l.take i)++[(x,.bool true)]=Zdd (l.take (i+1)):=by
 rw [List.take_add_one,h,Zdd,Zdd,Tbu];rfl
theorem ZfV:∀ x,Zby x=[.lit (.string x)]:=fun _=>rfl
theorem ZfE:e0.P.underlying 136=some (.map 9 4):=by kernel_rfl
theorem ZgX:e0.P.underlying 9=some .string:=by kernel_rfl
theorem Zi2:∀ w,(zeroValue 4).run e0.P w=.ok (.bool false) w:=fun w=>by kernel_rfl
theorem ZzA:Zdd []=[]∧∀ l:List ByteArray,Zdd (l.take 0)=[]:=⟨rfl,fun _=>rfl⟩
section
variable {s:Srt}
theorem ZhV (hok:ZkB s):Con e0 115 [.agg (Za3 s)] [.one (.lit (.bool (ZbU s)))]:=by
 have hno:¬ SortsOk s->ZbU s=false:=Zfh;have cU:=fun h1 h2 h3 h4=>ZhU (s:=s) h1 h2 h3 h4;have hrs:=Zic s.names;rw [Za3] at cU ⊢;refine gI 41538379337072913235836183427157855 Tryz.func115 ?_;by_cases h1:1<=s.names.length;rotate_left
 ·have hf:=hno fun h=>h1 h.n1;have z1:=lT s.names.length 1;exact fT (ai @z1 @hf)
 have z1:=lF s.names.length 1;by_cases h8:s.names.length<=8;rotate_left
 ·have hf:=hno fun h=>h8 h.n8;have z2:=lT 8 s.names.length;exact fT (aj3 @z1 @z2 @hf)
 have z2:=lF 8 s.names.length;by_cases h16:s.subs.length<=16;rotate_left
 ·have hf:=hno fun h=>h16 h.m16;have z3:=lT 16 s.subs.length;exact fT (aj4 @z1 @z2 @z3 @hf)
 have z3:=lF 16 s.subs.length;refine fN 4 (aj3 @z1 @z2 @z3) ?_;refine gB ?_;refine gMk fun b=>?_;refine fR @e0P ?_;refine fG @e0P ?_;have F:=@ZzA;refine gL (ι:=Nat) [2,6,31,32,42] [27] (fun i=>[(31,A.d (.one (.lit (.int .i64 i))))]) (fun i=>[(27,mapB b (Zdd (s.names.take i)))]) (fun i=>i<=s.names.length∧∀ j,j < i->Zie s.names j) (fun i=>s.names.length - i) (0) (⟨Taj _,fun j h=>absurd h om⟩) (fun i hi=>?_);clear F
 obtain ⟨hil,hall⟩:=hi;by_cases hlt:i < s.names.length
 ·have q1:(i:Int) < (s.names.length:Int):=om;obtain ⟨x,hx⟩:∃ x,s.names[i]?=some x:=⟨_,Taa hlt⟩;have hw:=Zap (k:=i) om;have hfs:=ZkI (s.names.take i) x;have hbad:¬ (Za7 x=true∧Za6 (s.names.take i) x=false)->ZbU s=false:=fun h=>hno fun hs=>h (hs.names i hlt x hx);have cN:=ZfS (hok.1 x (Tac hx));refine fN 8 (aj3 @q1 @hx @ZfV) ?_;refine gB ?_;have F:=@e0P;refine gP 2 ?_;clear F
  cases hh:Za6 (s.names.take i) x with
  | true =>
   rw [hh] at hfs hbad;have hf:=hbad fun h=>by cases h.2
   refine (have F:=e0P;gLk 27 ZfE ZgX Zi2 (v:=.bool true) (by rw [hfs];rfl) ?_);refine fR @e0P ?_;exact fT @hf
  | false =>
  rw [hh] at hfs hbad;refine (have F:=e0P;gLk 27 ZfE ZgX Zi2 (v:=.bool false) (by rw [hfs];rfl) ?_);refine fC @e0P (cN) ?_
  cases hn:Za7 x with
  | false =>
   have hf:=hbad fun h=>by rw [hn] at h;cases h.1
   refine fR @e0P ?_;exact fT @hf
  | true =>
  have hq:i+1<=s.names.length∧∀ j,j < i+1->Zie s.names j:=⟨hlt,fun j hj=>by
   by_cases e:j=i
   ·subst e;intro y hy;rw [hx] at hy;injection hy with hy
    subst hy;exact ⟨hn,hh⟩
   ·exact hall j om⟩
  have hsn:=ZrR hx;refine fR @e0P ?_;refine fN 10 @e0P ?_;refine gB ?_;have F:=@e0P;refine gP 2 ?_;clear F;refine (have F:=e0P;gUp 27 ZfE ZgX (by rw [hfs];rfl) ?_);rw [hsn];refine fR @e0P ?_;have F:=@hw;refine gG ?_;exact ⟨i+1,hq,gw,gw,om⟩
 obtain rfl:i=s.names.length:=by omega
 have q1:¬ ((s.names.length:Int) < (s.names.length:Int)):=om;refine fG @q1 ?_;have F:=@e0P;refine gL (ι:=Nat) [2,8,49,50,79] [] (fun k=>[(49,A.d (.one (.lit (.int .i64 k))))]) (fun k=>[]) (fun k=>k<=s.subs.length∧∀ (j:Nat) p,j < k->s.subs[j]?=some p->Zeg s.names.length p) (fun k=>s.subs.length - k) (0) (⟨Taj _,fun j p h=>absurd h om⟩) (fun k hk=>?_);clear F;obtain ⟨hkl,hsub⟩:=hk;by_cases hlk:k < s.subs.length
 ·have q2:(k:Int) < (s.subs.length:Int):=om;obtain ⟨p,hp⟩:∃ x,s.subs[k]?=some x:=⟨_,Taa hlk⟩;have hw:=Zap (k:=k) om;have hbad:¬ Zeg s.names.length p->ZbU s=false:=fun h=>hno fun hs=>h (hs.subs p (Tac hp));by_cases c1:p.1 < 0
  ·have hf:=hbad fun h=>by have:=h.1;omega
   exact fT (aj5 @q2 @hp @Zb8 @c1 @hf)
  by_cases c2:(s.names.length:Int)<=p.1
  ·have hf:=hbad fun h=>by have:=h.2.1;omega
   exact fT (aj6 @q2 @hp @Zb8 @c1 @c2 @hf)
  by_cases c3:p.2 < 0
  ·have hf:=hbad fun h=>by have:=h.2.2.1;omega
   exact fT (aj7 @q2 @hp @Zb8 @c1 @c2 @c3 @hf)
  by_cases c4:(s.names.length:Int)<=p.2
  ·have hf:=hbad fun h=>by have:=h.2.2.2.1;omega
   exact fT (aj8 @q2 @hp @Zb8 @c1 @c2 @c3 @c4 @hf)
  by_cases c5:p.1=p.2
  ·have hf:=hbad fun h=>h.2.2.2.2 c5;have c5:(p.1=p.2)=True:=eq_true c5;exact fT (aj9 @q2 @hp @Zb8 @c1 @c2 @c3 @c4 @c5 @hf)
  have hq:k+1<=s.subs.length∧∀ (j:Nat) p,j < k+1->s.subs[j]?=some p->Zeg s.names.length p:=⟨hlk,fun j p' hj hp'=>by
   by_cases e:j=k
   ·subst e;rw [hp] at hp';injection hp' with hp'
    subst hp';exact ⟨om,om,om,om,c5⟩
   ·exact hsub j p' om hp'⟩
  have F:=aj9 @q2 @hp @Zb8 @c1 @c2 @c3 @c4 @c5 @hw;refine gG ?_;exact ⟨k+1,hq,gw,gw,om⟩
 obtain rfl:k=s.subs.length:=by omega
 have q2:¬ ((s.subs.length:Int) < (s.subs.length:Int)):=om;have hsubs:∀ p∈s.subs,Zeg s.names.length p:=fun p hp=>by obtain ⟨j,hj⟩:=Tbj hp;exact hsub j p (Tad.1 hj).1 hj
 have hSI:=SortsOk.subsIn hsubs;have hU:=Zfr hSI;have hyes:(∀ i k,i < s.names.length->k < s.names.length->ZcI (up s) i k)->ZbU s=true:=fun h=>ZeA ⟨h1,h8,h16,fun i hi=>hall i hi,hsubs,h⟩;have hno2:∀ i k,i < s.names.length->k < s.names.length->¬ ZcI (up s) i k->ZbU s=false:=fun i k h1 h2 h3=>hno fun h=>h3 (h.pairs i k h1 h2);have lU:=Za8 (l:=up s);rw [hU.1] at lU;have rU:=Za0 (l:=up s);refine fB @q2 ?_
 refine fC @e0P (cU h1 h8 h16 hSI) ?_;refine fR @e0P ?_;generalize up s=u at hU hyes hno2 lU rU ⊢;have hpw:∀ i,i < s.names.length->u[i]?=some (u.getD i 0)∧u.getD i 0 < 4611686018427387904:=fun i hi=>by
  obtain ⟨g1,g2⟩:=hU.get hi;exact ⟨g1,Nat.lt_trans g2 (ZfQ om)⟩
 refine fG @lU ?_;have F:=@e0P;refine gL (ι:=Nat) [2,10,11,85,86,89,90,91,115] [] (fun i=>[(85,A.d (.one (.lit (.int .i64 i))))]) (fun i=>[]) (fun i=>i<=s.names.length∧∀ i' k,i' < i->k < s.names.length->ZcI u i' k) (fun i=>s.names.length - i) (0) (⟨Taj _,fun i' k h=>absurd h om⟩) (fun i hi=>?_);clear F;obtain ⟨hil,hpi⟩:=hi;by_cases hlt:i < s.names.length;rotate_left
 ·have q3:¬ ((i:Int) < (s.names.length:Int)):=om;have ht:=hyes fun i' k h1 h2=>hpi i' k om h2;exact fT (ai @q3 @ht)
 have q3:(i:Int) < (s.names.length:Int):=om;have hwi:=Zap (k:=i) om;obtain ⟨gi,bi⟩:=hpw i hlt;refine fG (ai @q3 @lU) ?_;have F:=@e0P;refine gL (ι:=Nat) [2,11,90,91,115] [] (fun k=>[(90,A.d (.one (.lit (.int .i64 k))))]) (fun k=>[]) (fun k=>k<=s.names.length∧∀ k',k' < k->ZcI u i k') (fun k=>s.names.length - k) (0) (⟨Taj _,fun k h=>absurd h om⟩) (fun k hk=>?_);clear F;obtain ⟨hkl,hpk⟩:=hk;have hwk:=Zap (k:=k) om
 by_cases hlk:k < s.names.length;rotate_left
 ·have q4:¬ ((k:Int) < (s.names.length:Int)):=om;have hq:i+1<=s.names.length∧∀ i' k,i' < i+1->k < s.names.length->ZcI u i' k:=⟨hlt,fun i' k' h h2=>by
   by_cases e:i'=i
   ·subst e;exact hpk k' om
   ·exact hpi i' k' om h2⟩
  have F:=ai @q4 @hwi;refine gG ?_;exact ⟨i+1,hq,gw,gw,om⟩
 have q4:(k:Int) < (s.names.length:Int):=om;obtain ⟨gk,bk⟩:=hpw k hlk;have nx:ZcI u i k->k+1<=s.names.length∧∀ k',k' < k+1->ZcI u i k':=fun h=>⟨hlk,fun k' h2=>by
  by_cases e:k'=k
  ·subst e;exact h
  ·exact hpk k' om⟩
 have si:=Zi0 (k:=i) om;have sk:=Zi0 (k:=k) om;have a1:=ZrP (x:=u.getD i 0) (k:=k) bi om;have a2:=ZrP (x:=u.getD k 0) (k:=i) bk om;have r1:=Zbe gi;have r2:=Zbe gk;by_cases hik:i=k
 ·have z4:((i:Int)=(k:Int))=True:=eq_true om;have hq:=nx fun h=>h.1 hik;have F:=aj3 @q4 @z4 @hwk;refine gG ?_;exact ⟨k+1,hq,gw,gw,om⟩
 have z4:((i:Int)=(k:Int))=False:=eq_false om
 cases b1:tbit (u.getD i 0) k with
 | false =>
  rw [b1] at a1;have hq:=nx fun h=>by have:=h.2.1;rw [show (u.getD i 0).testBit k=false from b1] at this;cases this
  have F:=aj8 @q4 @z4 @sk @a1 @r1 @rU @ZaS @hwk;refine gG ?_;exact ⟨k+1,hq,gw,gw,om⟩
 | true =>
 rw [b1] at a1
 cases b2:tbit (u.getD k 0) i with
 | false =>
  rw [b2] at a2;have hq:=nx fun h=>by have:=h.2.2;rw [show (u.getD k 0).testBit i=false from b2] at this;cases this
  have F:=aj11 @q4 @z4 @sk @si @a1 @a2 @r1 @r2 @rU @ZaS @hwk;refine gG ?_;exact ⟨k+1,hq,gw,gw,om⟩
 | true =>
  rw [b2] at a2;have hf:=hno2 i k hlt hlk fun h=>h ⟨hik,b1,b2⟩;exact fT (aj11 @q4 @z4 @sk @si @a1 @a2 @r1 @r2 @rU @ZaS @hf)
end
theorem Zcw (x lo hi:Int):Con e0 43 [.one (.lit (.int .i64 x)),.one (.lit (.int .i64 lo)),.one (.lit (.int .i64 hi))] [.one (.lit (.bool (decide (lo<=x∧x<=hi))))]:=by
 refine gI 71 Tryz.func43 ?_;by_cases h1:lo<=x
 ·by_cases h2:x<=hi
  ·exact fT (ai @h1 @h2)
  ·exact fT (ai @h1 @h2)
 ·exact fT @h1
theorem Zvl {l:List ByteArray} (s:ByteArray) (hl:l.length<=1048576):Con e0 112 [.one (.sl (l.map Zby)),.one (.lit (.string s))] [.one (.lit (.bool (Za6 l s)))]:=by
 have hr:=Zic l;refine gI 131635 Tryz.func112 ?_;refine fG @e0P ?_;have F:=@e0P;refine gL (ι:=Nat) [4,5,9,17] [] (fun i=>[(5,A.d (.one (.lit (.int .i64 i))))]) (fun i=>[]) (fun i=>i<=l.length∧Za6 l s=Za6 (l.drop i) s) (fun i=>l.length - i) (0) (⟨Taj _,rfl⟩) (fun i hi=>?_);clear F;obtain ⟨hil,he⟩:=hi;rw [he];by_cases hlt:i < l.length;rotate_left
 ·have q1:¬ ((i:Int) < (l.length:Int)):=om;have ht:Za6 (l.drop i) s=false:=by rw [List.drop_eq_nil_of_le om];rfl
  exact fT (ai @q1 @ht)
 have q1:(i:Int) < (l.length:Int):=om;obtain ⟨x,hx⟩:∃ x,l[i]?=some x:=⟨_,Taa hlt⟩;have hw:=Zap (k:=i) om;have hst:=Zpo (s:=s) hx
 cases hb:(x.toList==s.toList) with
 | true =>
  have ht:Za6 (l.drop i) s=true:=by rw [hst,hb];rfl
  exact fT (aj6 @q1 @hr @hx @ZfV @hb @ht)
 | false =>
  have hq:Za6 (l.drop i) s=Za6 (l.drop (i+1)) s:=by rw [hst,hb,Bool.false_or]
  have F:=aj6 @q1 @hr @hx @ZfV @hb @hw;refine gG ?_;exact ⟨i+1,⟨hlt,hq⟩,gw,gw,om⟩
section
variable {s:Srt}
theorem ZmZ (hok:ZkB s):Con e0 80 [.agg (Za3 s)] [.one (.lit (.bool (ZbU s)))]:=by
 have hno:¬ SortsOk s->ZbU s=false:=Zfh;have cU:=fun h2 h3 h4=>ZfU (s:=s) h2 h3 h4;have hrs:=Zic s.names;rw [Za3] at cU ⊢;refine gI 21267982750773439247570160629959360767 Tryz.func80 ?_;by_cases h1:1<=s.names.length;rotate_left
 ·have hf:=hno fun h=>h1 h.n1;have z1:=lT s.names.length 1;exact fT (ai @z1 @hf)
 have z1:=lF s.names.length 1;by_cases h8:s.names.length<=8;rotate_left
 ·have hf:=hno fun h=>h8 h.n8;have z2:=lT 8 s.names.length;exact fT (aj3 @z1 @z2 @hf)
 have z2:=lF 8 s.names.length;by_cases h16:s.subs.length<=16;rotate_left
 ·have hf:=hno fun h=>h16 h.m16;have z3:=lT 16 s.subs.length;exact fT (aj4 @z1 @z2 @z3 @hf)
 have z3:=lF 16 s.subs.length;have hw1n:IntKind.i64.wrap ((s.names.length:Int) - 1)=(s.names.length:Int) - 1:=IntWalk.i64_in _ om;refine fG (aj3 @z1 @z2 @z3) ?_;have F:=@e0P;refine gL (ι:=Nat) [2,3,28,49] [] (fun i=>[(3,A.d (.one (.lit (.int .i64 i))))]) (fun i=>[]) (fun i=>i<=s.names.length∧∀ j,j < i->Zie s.names j) (fun i=>s.names.length - i) (0) (⟨Taj _,fun j h=>absurd h om⟩) (fun i hi=>?_);clear F
 obtain ⟨hil,hall⟩:=hi;by_cases hlt:i < s.names.length
 ·have q1:(i:Int) < (s.names.length:Int):=om;obtain ⟨x,hx⟩:∃ x,s.names[i]?=some x:=⟨_,Taa hlt⟩;have hw:=Zap (k:=i) om;have hbad:¬ (Za7 x=true∧Za6 (s.names.take i) x=false)->ZbU s=false:=fun h=>hno fun hs=>h (hs.names i hlt x hx);have cN:=ZfT (hok.1 x (Tac hx));have cH:=Zvl (l:=s.names.take i) x (by rw [Taw];omega);rw [List.map_take] at cH;have z4:((i:Int)<=(s.names.length:Int))=True:=eq_true om;refine fB @q1 ?_
  refine fC (aj3 @hrs @hx @ZfV) (cN) ?_
  cases hn:Za7 x with
  | false =>
   have hf:=hbad fun h=>by rw [hn] at h;cases h.1
   refine fR @e0P ?_;exact fT @hf
  | true =>
  refine fC (aj5 @hrs @hx @ZfV @z4 @ZaS) (cH) ?_
  cases hh:Za6 (s.names.take i) x with
  | true =>
   have hf:=hbad fun h=>by rw [hh] at h;cases h.2
   refine fR @e0P ?_;exact fT @hf
  | false =>
  have hq:i+1<=s.names.length∧∀ j,j < i+1->Zie s.names j:=⟨hlt,fun j hj=>by
   by_cases e:j=i
   ·subst e;intro y hy;rw [hx] at hy;injection hy with hy
    subst hy;exact ⟨hn,hh⟩
   ·exact hall j om⟩
  refine fR @e0P ?_;have F:=@hw;refine gG ?_;exact ⟨i+1,hq,gw,gw,om⟩
 obtain rfl:i=s.names.length:=by omega
 have q1:¬ ((s.names.length:Int) < (s.names.length:Int)):=om;refine fG @q1 ?_;have F:=@e0P;refine gL (ι:=Nat) [2,4,54,97] [] (fun k=>[(4,A.d (.one (.lit (.int .i64 k))))]) (fun k=>[]) (fun k=>k<=s.subs.length∧∀ (j:Nat) p,j < k->s.subs[j]?=some p->Zeg s.names.length p) (fun k=>s.subs.length - k) (0) (⟨Taj _,fun j p h=>absurd h om⟩) (fun k hk=>?_);clear F;obtain ⟨hkl,hsub⟩:=hk;by_cases hlk:k < s.subs.length
 ·have q2:(k:Int) < (s.subs.length:Int):=om;obtain ⟨p,hp⟩:∃ x,s.subs[k]?=some x:=⟨_,Taa hlk⟩;have hw:=Zap (k:=k) om;have hbad:¬ Zeg s.names.length p->ZbU s=false:=fun h=>hno fun hs=>h (hs.subs p (Tac hp));have hrb:=ZnX s.subs;refine fB @q2 ?_;refine fC (aj4 @hrb @hp @Zb8 @hw1n) (Zcw p.1 0 ((s.names.length:Int) - 1)) ?_;by_cases c1:0<=p.1∧p.1<=(s.names.length:Int) - 1;rotate_left
  ·have hf:=hbad fun h=>c1 ⟨h.1,by have:=h.2.1;omega⟩;have y1:decide (0<=p.1∧p.1<=(s.names.length:Int) - 1)=false:=decide_eq_false c1;refine fR @y1 ?_;exact fT @hf
  have y1:decide (0<=p.1∧p.1<=(s.names.length:Int) - 1)=true:=decide_eq_true c1;refine fC (aj5 @hrb @hp @Zb8 @hw1n @y1) (Zcw p.2 0 ((s.names.length:Int) - 1)) ?_;by_cases c2:0<=p.2∧p.2<=(s.names.length:Int) - 1;rotate_left
  ·have hf:=hbad fun h=>c2 ⟨h.2.2.1,by have:=h.2.2.2.1;omega⟩;have y2:decide (0<=p.2∧p.2<=(s.names.length:Int) - 1)=false:=decide_eq_false c2;refine fR (ai @y1 @y2) ?_;exact fT @hf
  have y2:decide (0<=p.2∧p.2<=(s.names.length:Int) - 1)=true:=decide_eq_true c2;by_cases c5:p.1=p.2
  ·have hf:=hbad fun h=>h.2.2.2.2 c5;have y5:(p.1=p.2)=True:=eq_true c5;refine fR (aj6 @y1 @y2 @hrb @hp @Zb8 @y5) ?_;exact fT @hf
  have y5:(p.1=p.2)=False:=eq_false c5;have hq:k+1<=s.subs.length∧∀ (j:Nat) p,j < k+1->s.subs[j]?=some p->Zeg s.names.length p:=⟨hlk,fun j p' hj hp'=>by
   by_cases e:j=k
   ·subst e;rw [hp] at hp';injection hp' with hp'
    subst hp';exact ⟨om,om,om,om,c5⟩
   ·exact hsub j p' om hp'⟩
  refine fR (aj6 @y1 @y2 @hrb @hp @Zb8 @y5) ?_;have F:=@hw;refine gG ?_;exact ⟨k+1,hq,gw,gw,om⟩
 obtain rfl:k=s.subs.length:=by omega
 have q2:¬ ((s.subs.length:Int) < (s.subs.length:Int)):=om;have hsubs:∀ p∈s.subs,Zeg s.names.length p:=fun p hp=>by obtain ⟨j,hj⟩:=Tbj hp;exact hsub j p (Tad.1 hj).1 hj
 have hSI:=SortsOk.subsIn hsubs;have hU:=Zfr hSI;have hyes:(∀ i k,i < s.names.length->k < i->ZcI (up s) i k)->ZbU s=true:=fun h=>ZeA ⟨h1,h8,h16,fun i hi=>hall i hi,hsubs,fun i k hi hk hb=>by
  rcases Nat.lt_trichotomy i k with h2 | h2 | h2
  ·exact h k i hk h2 ⟨fun e=>hb.1 e.symm,hb.2.2,hb.2.1⟩
  ·exact hb.1 h2
  ·exact h i k hi h2 hb⟩
 have hno2:∀ i k,i < s.names.length->k < s.names.length->¬ ZcI (up s) i k->ZbU s=false:=fun i k h1 h2 h3=>hno fun h=>h3 (h.pairs i k h1 h2);have lU:=Za8 (l:=up s);rw [hU.1] at lU;have rU:=Za0 (l:=up s);refine fB @q2 ?_;refine fC @e0P (cU h8 h16 hSI) ?_;refine fR @e0P ?_;generalize up s=u at hU hyes hno2 lU rU ⊢;have hpw:∀ i,i < s.names.length->u[i]?=some (u.getD i 0)∧u.getD i 0 < 4611686018427387904:=fun i hi=>by
  obtain ⟨g1,g2⟩:=hU.get hi;exact ⟨g1,Nat.lt_trans g2 (ZfQ om)⟩
 refine fG @lU ?_;have F:=@e0P;refine gL (ι:=Nat) [2,6,7,103,108,124] [] (fun i=>[(6,A.d (.one (.lit (.int .i64 i))))]) (fun i=>[]) (fun i=>i<=s.names.length∧∀ i' k,i' < i->k < i'->ZcI u i' k) (fun i=>s.names.length - i) (0) (⟨Taj _,fun i' k h=>absurd h om⟩) (fun i hi=>?_);clear F;obtain ⟨hil,hpi⟩:=hi;by_cases hlt:i < s.names.length;rotate_left
 ·have q3:¬ ((i:Int) < (s.names.length:Int)):=om;have ht:=hyes fun i' k h1 h2=>hpi i' k om h2;exact fT (aj3 @q3 @lU @ht)
 have q3:(i:Int) < (s.names.length:Int):=om;have hwi:=Zap (k:=i) om;obtain ⟨gi,bi⟩:=hpw i hlt;refine fG (ai @q3 @lU) ?_;have F:=@e0P;refine gL (ι:=Nat) [2,7,108,124] [] (fun k=>[(7,A.d (.one (.lit (.int .i64 k))))]) (fun k=>[]) (fun k=>k<=i∧∀ k',k' < k->ZcI u i k') (fun k=>i - k) (0) (⟨Taj _,fun k h=>absurd h om⟩) (fun k hk=>?_);clear F;obtain ⟨hkl,hpk⟩:=hk;have hwk:=Zap (k:=k) om;by_cases hlk:k < i
 rotate_left
 ·have q4:=lF k i;have hq:i+1<=s.names.length∧∀ i' k,i' < i+1->k < i'->ZcI u i' k:=⟨hlt,fun i' k' h h2=>by
   by_cases e:i'=i
   ·subst e;exact hpk k' om
   ·exact hpi i' k' om h2⟩
  have F:=ai @q4 @hwi;refine gG ?_;exact ⟨i+1,hq,gw,gw,om⟩
 have q4:=lT k i;obtain ⟨gk,bk⟩:=hpw k om;have nx:ZcI u i k->k+1<=i∧∀ k',k' < k+1->ZcI u i k':=fun h=>⟨hlk,fun k' h2=>by
  by_cases e:k'=k
  ·subst e;exact h
  ·exact hpk k' om⟩
 have r1:=Zbe gi;have r2:=Zbe gk;refine fB @q4 ?_;refine fC (ai @rU @r1) (Zes (a:=u.getD i 0) (k:=k) bi om) ?_
 cases b1:tbit (u.getD i 0) k with
 | false =>
  have hq:=nx fun h=>by have:=h.2.1;rw [show (u.getD i 0).testBit k=false from b1] at this;cases this
  refine fR @e0P ?_;have F:=@hwk;refine gG ?_;exact ⟨k+1,hq,gw,gw,om⟩
 | true =>
 refine fC (ai @rU @r2) (Zes (a:=u.getD k 0) (k:=i) bk om) ?_
 cases b2:tbit (u.getD k 0) i with
 | false =>
  have hq:=nx fun h=>by have:=h.2.2;rw [show (u.getD k 0).testBit i=false from b2] at this;cases this
  refine fR @e0P ?_;have F:=@hwk;refine gG ?_;exact ⟨k+1,hq,gw,gw,om⟩
 | true =>
  have hf:=hno2 i k hlt om fun h=>h ⟨om,b1,b2⟩;refine fR @e0P ?_;exact fT @hf
end
def ZdK (s:Srt):List C:=[.sl (nR (up s)),.sl (nR (down s)),.sl (nR (Zb0 s))]
theorem Zhn:∀ s,ZdK s=[.sl (nR (up s)),.sl (nR (down s)),.sl (nR (Zb0 s))]:=fun _=>rfl
section
variable {s:Srt}
theorem kdg (hs:SortsOk s) {k:Int} (h:0<=k∧k < s.names.length):(nR (Zb0 s))[k.toNat]?=some [.lit (.int .i64 (kd s k:Nat))]:=by
 have hk:=Zhi (SortsOk.subsIn hs.subs);have hl:k.toNat < (Zb0 s).length:=by rw [hk.1];omega
 rw [Zbe (Taa hl),kd,List.getD_eq_getElem?_getD,Taa hl];rfl
theorem ZAi (hs:SortsOk s):(nR (Zb0 s)).length=s.names.length:=by rw [Za8,(Zhi (SortsOk.subsIn hs.subs)).1]
theorem Zxd (hs:SortsOk s) (k:Int):Con e0 129 [.agg (ZdK s),.one (.lit (.int .i64 k))] [.one (.lit (.bool (decide (0<=k∧k < s.names.length))))]:=by
 have hl:(nR (up s)).length=s.names.length:=by rw [Za8,(Zfr (SortsOk.subsIn hs.subs)).1]
 rw [ZdK];refine gI 23 Tryz.func129 ?_;by_cases h0:0<=k
 ·by_cases h1:k < s.names.length
  ·exact fT (aj3 @h0 @hl @h1)
  ·exact fT (aj3 @h0 @hl @h1)
 ·exact fT @h0
theorem Zvm {l:List Int} {p:Int->Prop} {j:Nat} {c:Int} (hc:l[j]?=some c) (h:∀ (i:Nat) (c:Int),i < j->l[i]?=some c->p c) (hp:p c):∀ (i:Nat) (c:Int),i < j+1->l[i]?=some c->p c:=fun i c' hi hc'=>by
 by_cases hij:i=j
 ·subst hij;rw [hc] at hc';injection hc' with hc';subst hc';exact hp
 ·exact h i c' om hc'
theorem ZkJ {f d:Dcl} {i:Nat} {a:Int} (ha:d.args[i]?=some a) (hall:∀ (i':Nat) a,i' < i->d.args[i']?=some a->(0<=a∧a < s.names.length)∧∀ b,f.args[i']?=some b->kd s a=kd s b) (h1:0<=a∧a < s.names.length) (h2:∀ b,f.args[i]?=some b->kd s a=kd s b) :
  ∀ (i':Nat) a,i' < i+1->d.args[i']?=some a->(0<=a∧a < s.names.length)∧∀ b,f.args[i']?=some b->kd s a=kd s b:=fun i' a' h ha'=>by
 by_cases e:i'=i
 ·subst e;rw [ha] at ha';injection ha' with ha'
  subst ha';exact ⟨h1,h2⟩
 ·exact hall i' a' om ha'
theorem Zmi {f d:Dcl} (h1:d.args.length=f.args.length) (h2:0<=d.res∧d.res < s.names.length) (h3:kd s d.res=kd s f.res) (hall:∀ (i':Nat) a,i' < d.args.length->d.args[i']?=some a->(0<=a∧a < s.names.length)∧∀ b,f.args[i']?=some b->kd s a=kd s b):DeclOk s f d :=
 ⟨h1,h2,fun k hk=>by obtain ⟨i,hi⟩:=Tbj hk;exact (hall i k (Tad.1 hi).1 hi).1,h3,fun i a b ha hb=>(hall i a (Tad.1 ha).1 ha).2 b hb⟩
theorem ZkK {l:List Dcl} {P:Dcl->Prop} {j:Nat} {d:Dcl} (hd:l[j]?=some d) (hall:∀ (j':Nat) d,j' < j->l[j']?=some d->P d) (h:P d):∀ (j':Nat) d,j' < j+1->l[j']?=some d->P d:=fun j' d' hj hd'=>by
 by_cases e:j'=j
 ·subst e;rw [hd] at hd';injection hd' with hd'
  subst hd';exact h
 ·exact hall j' d' om hd'
theorem Zm0 (hs:SortsOk s) (o:Opr):Con e0 108 [.agg (ZdK s),.agg (ZaU o)] [.one (.lit (.bool (Zca s o)))]:=by
 have hno:¬ DeclsOk s o->Zca s o=false:=ZhT;have cH:=Zxd hs;have rK:=Za0 (l:=Zb0 s);rw [ZdK] at cH ⊢;rw [ZaU];refine gI 83076759175850041743779962279694015 Tryz.func108 ?_;by_cases h1:1<=o.decls.length;rotate_left
 ·have hf:=hno fun h=>h1 h.len1;have z1:=lT o.decls.length 1;exact fT (ai @z1 @hf)
 have z1:=lF o.decls.length 1;by_cases h4:o.decls.length<=4;rotate_left
 ·have hf:=hno fun h=>h4 h.len4;have z2:=lT 4 o.decls.length;exact fT (aj3 @z1 @z2 @hf)
 have z2:=lF 4 o.decls.length;obtain ⟨f,hf0⟩:∃ f,o.decls[0]?=some f:=⟨_,Taa om⟩;have hfm:=Tac hf0;by_cases h3:f.args.length<=3;rotate_left
 ·have hf:=hno fun h=>h3 (h.ar f hf0);have z3:=lT 3 f.args.length;exact fT (aj6 @z1 @z2 @hf0 @ZaG @z3 @hf)
 have z3:=lF 3 f.args.length;refine fB (aj5 @z1 @z2 @hf0 @ZaG @z3) ?_;refine fC @e0P (cH f.res) ?_;by_cases hr:0<=f.res∧f.res < (s.names.length:Int);rotate_left
 ·have hf:=hno fun h=>hr (h.all f hf0 f hfm).res;have y1:decide (0<=f.res∧f.res < (s.names.length:Int))=false:=decide_eq_false hr;refine fR @y1 ?_;exact fT @hf
 have y1:decide (0<=f.res∧f.res < (s.names.length:Int))=true:=decide_eq_true hr;have gr:=kdg hs hr;have ir:=hr.1;refine fR @y1 ?_;refine fG @e0P ?_;have F:=@e0P;refine gL (ι:=Nat) [4,7,43,44,50] [] (fun i=>[(43,A.d (.one (.lit (.int .i64 i))))]) (fun i=>[]) (fun i=>i<=f.args.length∧∀ (i':Nat) k,i' < i->f.args[i']?=some k->0<=k∧k < s.names.length) (fun i=>f.args.length - i) (0) (⟨Taj _,fun i' k h=>absurd h om⟩) (fun i hi=>?_);clear F
 obtain ⟨hil,hfa⟩:=hi;by_cases hlt:i < f.args.length
 ·have q1:(i:Int) < (f.args.length:Int):=om;obtain ⟨k,hk⟩:∃ k,f.args[i]?=some k:=⟨_,Taa hlt⟩;have hw:=Zap (k:=i) om;refine fB (aj3 @q1 @hk @Zao) ?_;refine fC @e0P (cH k) ?_;by_cases hkr:0<=k∧k < (s.names.length:Int);rotate_left
  ·have hf:=hno fun h=>hkr ((h.all f hf0 f hfm).args k (Tac hk));have y2:decide (0<=k∧k < (s.names.length:Int))=false:=decide_eq_false hkr;refine fR @y2 ?_;exact fT @hf
  have y2:decide (0<=k∧k < (s.names.length:Int))=true:=decide_eq_true hkr;have hq:i+1<=f.args.length∧_:=⟨hlt,Zvm hk hfa hkr⟩;refine fR @y2 ?_;have F:=@hw;refine gG ?_;exact ⟨i+1,hq,gw,gw,om⟩
 obtain rfl:i=f.args.length:=by omega
 have q1:¬ ((f.args.length:Int) < (f.args.length:Int)):=om;refine fG @q1 ?_;have F:=@e0P;refine gL (ι:=Nat) [4,9,10,11,55,56,87,89,90,91,92,116] [] (fun j=>[(55,A.d (.one (.lit (.int .i64 j))))]) (fun j=>[]) (fun j=>j<=o.decls.length∧∀ (j':Nat) d,j' < j->o.decls[j']?=some d->DeclOk s f d) (fun j=>o.decls.length - j) (0) (⟨Taj _,fun j' d h=>absurd h om⟩) (fun j hj=>?_);clear F;obtain ⟨hjl,hdo⟩:=hj;by_cases hlj:j < o.decls.length
 rotate_left
 ·have q2:¬ ((j:Int) < (o.decls.length:Int)):=om;have ht:=ZeB (s:=s) (o:=o) ⟨h1,h4,fun f' h=>by rw [hf0] at h;injection h with h;subst h;exact h3,fun f' h d hd=>by
   rw [hf0] at h;injection h with h;subst h
   obtain ⟨j',hj'⟩:=Tbj hd;exact hdo j' d (by have:=(Tad.1 hj').1;omega) hj'⟩
  exact fT (ai @q2 @ht)
 have q2:(j:Int) < (o.decls.length:Int):=om;obtain ⟨d,hd⟩:∃ d,o.decls[j]?=some d:=⟨_,Taa hlj⟩;have hdm:=Tac hd;have hwj:=Zap (k:=j) om;have hbad:¬ DeclOk s f d->Zca s o=false:=fun h=>hno fun hD=>h (hD.all f hf0 d hdm);by_cases hdl:d.args.length=f.args.length;rotate_left
 ·have hf:=hbad fun h=>hdl h.len;have y3:((d.args.length:Int)=(f.args.length:Int))=False:=eq_false om;exact fT (aj5 @q2 @hd @ZaG @y3 @hf)
 have y3:((d.args.length:Int)=(f.args.length:Int))=True:=eq_true om;refine fB (aj3 @q2 @hd @ZaG) ?_;refine fC @y3 (cH d.res) ?_;by_cases hdr:0<=d.res∧d.res < (s.names.length:Int);rotate_left
 ·have hf:=hbad fun h=>hdr h.res;have y4:decide (0<=d.res∧d.res < (s.names.length:Int))=false:=decide_eq_false hdr;refine fR (ai @y3 @y4) ?_;exact fT @hf
 have y4:decide (0<=d.res∧d.res < (s.names.length:Int))=true:=decide_eq_true hdr;have gd:=kdg hs hdr;have id':=hdr.1;have jd:=hdr.2;by_cases hkr:kd s d.res=kd s f.res;rotate_left
 ·have hf:=hbad fun h=>hkr h.kres;have y5:((kd s d.res:Int)=(kd s f.res:Int))=False:=eq_false om;refine fR (aj9 @y3 @y4 @gr @gd @ir @id' @jd @rK @y5) ?_;exact fT @hf
 have y5:((kd s d.res:Int)=(kd s f.res:Int))=True:=eq_true om;refine fR (aj9 @y3 @y4 @gr @gd @ir @id' @jd @rK @y5) ?_;refine fG @e0P ?_;have F:=@e0P;refine gL (ι:=Nat) [4,10,11,91,92,116] [] (fun i=>[(91,A.d (.one (.lit (.int .i64 i))))]) (fun i=>[]) (fun i=>i<=d.args.length∧∀ (i':Nat) a,i' < i->d.args[i']?=some a->(0<=a∧a < s.names.length)∧∀ b,f.args[i']?=some b->kd s a=kd s b) (fun i=>d.args.length - i) (0) (⟨Taj _,fun i' a h=>absurd h om⟩) (fun i hi=>?_);clear F
 obtain ⟨hil2,hka⟩:=hi;by_cases hlt:i < d.args.length;rotate_left
 ·obtain rfl:i=d.args.length:=by omega
  have q3:¬ ((d.args.length:Int) < (d.args.length:Int)):=om;have hq:j+1<=o.decls.length∧_:=⟨hlj,ZkK hd hdo (Zmi hdl hdr hkr hka)⟩;have F:=ai @q3 @hwj;refine gG ?_;exact ⟨j+1,hq,gw,gw,om⟩
 have q3:(i:Int) < (d.args.length:Int):=om;obtain ⟨a,ha⟩:∃ k,d.args[i]?=some k:=⟨_,Taa hlt⟩;obtain ⟨b,hb⟩:∃ k,f.args[i]?=some k:=⟨_,Taa om⟩;have hw:=Zap (k:=i) om;have hbr:=hfa i b om hb;have gb:=kdg hs hbr;have ib:=hbr.1;refine fB (aj3 @q3 @ha @Zao) ?_;refine fC @e0P (cH a) ?_;by_cases har:0<=a∧a < (s.names.length:Int);rotate_left
 ·have hf:=hbad fun h=>har (h.args a (Tac ha));have y6:decide (0<=a∧a < (s.names.length:Int))=false:=decide_eq_false har;refine fR @y6 ?_;exact fT @hf
 have y6:decide (0<=a∧a < (s.names.length:Int))=true:=decide_eq_true har;have ga:=kdg hs har;have ia:=har.1;have ja:=har.2;by_cases hkk:kd s a=kd s b;rotate_left
 ·have hf:=hbad fun h=>hkk (h.kargs i a b ha hb);have y7:((kd s a:Int)=(kd s b:Int))=False:=eq_false om;refine fR (aj10 @y6 @ga @gb @ia @ja @ib @hb @Zao @rK @y7) ?_;exact fT @hf
 have y7:((kd s a:Int)=(kd s b:Int))=True:=eq_true om;have hq:i+1<=d.args.length∧_:=⟨hlt,ZkJ (f:=f) ha hka har fun b' hb'=>by rw [hb] at hb';injection hb' with hb';subst hb';exact hkk⟩;refine fR (aj10 @y6 @ga @gb @ia @ja @ib @hb @Zao @rK @y7) ?_;have F:=@hw;refine gG ?_;exact ⟨i+1,hq,gw,gw,om⟩
theorem Zpr {g:Sgn} (hs:SortsOk g.sorts) (o:Opr):Con e0 82 [.agg (Zag g),.agg (ZaU o)] [.one (.lit (.bool (Zca g.sorts o)))]:=by
 have hno:¬ DeclsOk g.sorts o->Zca g.sorts o=false:=ZhT;have cK:=Zdx hs;rw [show (ZbW (Zb0 g.sorts)).map Zat=nR (Zb0 g.sorts) from rfl] at cK;have rK:=Za0 (l:=Zb0 g.sorts);have lK:=ZAi hs;have n1:=hs.n1;have n8:=hs.n8;have hw1n:IntKind.i64.wrap ((g.sorts.names.length:Int) - 1)=(g.sorts.names.length:Int) - 1:=IntWalk.i64_in _ om;rw [Za3] at cK;rw [Zag,ZaU];refine gI 1298708039934125393111688421573631 Tryz.func82 ?_
 by_cases h1:1<=o.decls.length;rotate_left
 ·have hf:=hno fun h=>h1 h.len1;have z1:=lT o.decls.length 1;exact fT (ai @z1 @hf)
 have z1:=lF o.decls.length 1;by_cases h4:o.decls.length<=4;rotate_left
 ·have hf:=hno fun h=>h4 h.len4;have z2:=lT 4 o.decls.length;exact fT (aj3 @z1 @z2 @hf)
 have z2:=lF 4 o.decls.length;obtain ⟨f,hf0⟩:∃ f,o.decls[0]?=some f:=⟨_,Taa om⟩;have hfm:=Tac hf0;by_cases h3:f.args.length<=3;rotate_left
 ·have hf:=hno fun h=>h3 (h.ar f hf0);have z3:=lT 3 f.args.length;exact fT (aj6 @z1 @z2 @hf0 @ZaG @z3 @hf)
 have z3:=lF 3 f.args.length;refine fB (aj5 @z1 @z2 @hf0 @ZaG @z3) ?_;refine fC @e0P (cK) ?_;refine fR @e0P ?_;refine fG (ai @hf0 @ZaG) ?_;have F:=@e0P;refine gL (ι:=Nat) [4,7,8,9,40,63,68,99,110] [] (fun j=>[(7,A.d (.one (.lit (.int .i64 j))))]) (fun j=>[]) (fun j=>j<=o.decls.length∧∀ (j':Nat) d,j' < j->o.decls[j']?=some d->DeclOk g.sorts f d) (fun j=>o.decls.length - j) (0) (⟨Taj _,fun j' d h=>absurd h om⟩) (fun j hj=>?_);clear F
 obtain ⟨hjl,hdo⟩:=hj;by_cases hlj:j < o.decls.length;rotate_left
 ·have q2:¬ ((j:Int) < (o.decls.length:Int)):=om;have ht:=ZeB (s:=g.sorts) (o:=o) ⟨h1,h4,fun f' h=>by rw [hf0] at h;injection h with h;subst h;exact h3,fun f' h d hd=>by
   rw [hf0] at h;injection h with h;subst h
   obtain ⟨j',hj'⟩:=Tbj hd;exact hdo j' d (by have:=(Tad.1 hj').1;omega) hj'⟩
  exact fT (ai @q2 @ht)
 have q2:(j:Int) < (o.decls.length:Int):=om;obtain ⟨d,hd⟩:∃ d,o.decls[j]?=some d:=⟨_,Taa hlj⟩;have hdm:=Tac hd;have hwj:=Zap (k:=j) om;have hbad:¬ DeclOk g.sorts f d->Zca g.sorts o=false:=fun h=>hno fun hD=>h (hD.all f hf0 d hdm);have hj0:d=f∨DeclOk g.sorts f f:=by
  rcases Nat.eq_zero_or_pos j with h | h
  ·subst h;rw [hf0] at hd;injection hd with hd;exact .inl hd.symm
  ·exact .inr (hdo 0 f h hf0)
 by_cases hdl:d.args.length=f.args.length;rotate_left
 ·have hf:=hbad fun h=>hdl h.len;have y3:((d.args.length:Int)=(f.args.length:Int))=False:=eq_false om;exact fT (aj5 @q2 @hd @ZaG @y3 @hf)
 have y3:((d.args.length:Int)=(f.args.length:Int))=True:=eq_true om;refine fB (aj3 @q2 @hd @ZaG) ?_;refine fC (aj3 @y3 @lK @hw1n) (Zcw d.res 0 ((g.sorts.names.length:Int) - 1)) ?_;by_cases hdr:0<=d.res∧d.res < (g.sorts.names.length:Int);rotate_left
 ·have hf:=hbad fun h=>hdr h.res;have y4:decide (0<=d.res∧d.res<=(g.sorts.names.length:Int) - 1)=false:=decide_eq_false om;refine fR (ai @y3 @y4) ?_;exact fT @hf
 have y4:decide (0<=d.res∧d.res<=(g.sorts.names.length:Int) - 1)=true:=decide_eq_true om;have gd:=kdg hs hdr;have id':=hdr.1;have hfr:0<=f.res∧f.res < (g.sorts.names.length:Int):=by
  rcases hj0 with h | h
  ·rw [<- h];exact hdr
  ·exact h.res
 have gr:=kdg hs hfr;have ir:=hfr.1;refine fR (ai @y3 @y4) ?_;refine fG @e0P ?_;have F:=@e0P;refine gL (ι:=Nat) [4,9,68,99] [] (fun i=>[(9,A.d (.one (.lit (.int .i64 i))))]) (fun i=>[]) (fun i=>i<=d.args.length∧∀ (i':Nat) a,i' < i->d.args[i']?=some a->(0<=a∧a < g.sorts.names.length)∧∀ b,f.args[i']?=some b->kd g.sorts a=kd g.sorts b) (fun i=>d.args.length - i) (0) (⟨Taj _,fun i' a h=>absurd h om⟩) (fun i hi=>?_);clear F
 obtain ⟨hil2,hka⟩:=hi;by_cases hlt:i < d.args.length;rotate_left
 ·obtain rfl:i=d.args.length:=by omega
  have q3:¬ ((d.args.length:Int) < (d.args.length:Int)):=om;by_cases hkr:kd g.sorts d.res=kd g.sorts f.res;rotate_left
  ·have hf:=hbad fun h=>hkr h.kres;have y5:((kd g.sorts d.res:Int)=(kd g.sorts f.res:Int))=False:=eq_false om;exact fT (aj8 @q3 @gr @gd @ir @id' @rK @y5 @hf)
  have y5:((kd g.sorts d.res:Int)=(kd g.sorts f.res:Int))=True:=eq_true om;have hq:j+1<=o.decls.length∧_:=⟨hlj,ZkK hd hdo (Zmi hdl hdr hkr hka)⟩;have F:=aj8 @q3 @gr @gd @ir @id' @rK @y5 @hwj;refine gG ?_;exact ⟨j+1,hq,gw,gw,om⟩
 have q3:(i:Int) < (d.args.length:Int):=om;obtain ⟨a,ha⟩:∃ k,d.args[i]?=some k:=⟨_,Taa hlt⟩;obtain ⟨b,hb⟩:∃ k,f.args[i]?=some k:=⟨_,Taa om⟩;have hw:=Zap (k:=i) om;refine fB @q3 ?_;refine fC (aj4 @ha @Zao @lK @hw1n) (Zcw a 0 ((g.sorts.names.length:Int) - 1)) ?_;by_cases har:0<=a∧a < (g.sorts.names.length:Int);rotate_left
 ·have hf:=hbad fun h=>har (h.args a (Tac ha));have y6:decide (0<=a∧a<=(g.sorts.names.length:Int) - 1)=false:=decide_eq_false om;refine fR @y6 ?_;exact fT @hf
 have y6:decide (0<=a∧a<=(g.sorts.names.length:Int) - 1)=true:=decide_eq_true om;have y8:(a<=(g.sorts.names.length:Int) - 1)=True:=eq_true om;have ga:=kdg hs har;have ia:=har.1;have hbr:0<=b∧b < (g.sorts.names.length:Int):=by
  rcases hj0 with h | h
  ·rw [<- h,ha] at hb;injection hb with hb;rw [<- hb];exact har
  ·exact h.args b (Tac hb)
 have gb:=kdg hs hbr;have ib:=hbr.1;by_cases hkk:kd g.sorts a=kd g.sorts b;rotate_left
 ·have hf:=hbad fun h=>hkk (h.kargs i a b ha hb);have y7:((kd g.sorts a:Int)=(kd g.sorts b:Int))=False:=eq_false om;refine fR (aj11 @y6 @y8 @ga @gb @ia @ib @ha @hb @Zao @rK @y7) ?_;exact fT @hf
 have y7:((kd g.sorts a:Int)=(kd g.sorts b:Int))=True:=eq_true om;have hq:i+1<=d.args.length∧_:=⟨hlt,ZkJ (f:=f) ha hka har fun b' hb'=>by rw [hb] at hb';injection hb' with hb';subst hb';exact hkk⟩;refine fR (aj11 @y6 @y8 @ga @gb @ia @ib @ha @hb @Zao @rK @y7) ?_;have F:=@hw;refine gG ?_;exact ⟨i+1,hq,gw,gw,om⟩
end
end Go.Proofs.YtmdkimnlbaahbaaGreat
