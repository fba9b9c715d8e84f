/-
  Part of a proof.
-/
import Derived.Test.YtaenibhihgfehaaGreatDoorBUnifyCard0
import Derived.Test.YtaenibhihgfehaaGreatDoorChecked
import Derived.Test.YtaenibhihgfehaaGreatDoorRows
import Derived.Lib.LaidTab
import Derived.HandedShaped
import Derived.LaidMore
import Derived.LaidLaws
import Derived.ProofKit
import Derived.Stop.Joined
import Derived.Stop.LaidErr
import Derived.Lib.Bytealg
import Derived.Deep.RegionHeld3
import Derived.Deep.QuietTactic
import Derived.BigQuiet
import Derived.MapKept
import Derived.ChangeMaps5
import Derived.Laws.StructEq
set_option linter.unusedSimpArgs false
set_option linter.unusedVariables false
set_option linter.defProp false
set_option maxHeartbeats 400000000
set_option maxRecDepth 100000
namespace Go.Proofs.YtaenibhihgfehaaGreatDoor
open Go.RowKit
variable{G3 G4 G5:Prop}
def m276(h:G3:=by
 refine⟨S',L,hI.Ξ,λt=>?_,hI.size,hI.defers,hI.kept⟩;exact m6):G3:=h
def m262(h:G3:=by
 have:=List.all_eq_true.1 aq o ho;rw[hd]at this;simpa using this):G3:=h
def m258(h:G3:=by
 rw[Tbr om,pf]at G8;simpa using G8.symm):G3:=h
def m171(h:G3:=by
 rcases h2.Ξ.sfr b hb with h|h|h
 ·exact .inl h
 ·exact .inr ⟨h,(h2.Ξ.sin b hb).1⟩
 ·exact h.elim):G3:=h
def EN(h:G3:=by
 injection this with this;exact this.symm):G3:=h
def m65(h:G3:=by
 exact⟨S,⟨λ_=>0,λ_=>Go.undef⟩,⟨hS,λb hb=>.inl hb,hE,λ_ h=>h.elim,Tai _,λk x g hk=>by simp[gm]at hk,λk x hk=>by simp[gm]at hk,λk k' x x' g hk=>by simp[gm]at hk,hG⟩,λt=>Zns d8 t,by simp;omega,rfl,Kept.refl _ _ _ _⟩):G3:=h
def m6(h:G3:=by
 by_cases nv:∃(j:Nat)(p:Oper),j<n/\ops[j]?=some p/\p.dst=some t
 ·obtain⟨j,p,hj,hp,gn⟩:=nv;obtain⟨p',d',hP⟩:=nj.get hH hj;have hpp:p'=p:=by have:=hP.op;rw[hp]at this;injection this with this;exact this.symm
  subst hpp;have hdt:d'=t:=by have:=hP.dst;rw[gn]at this;injection this with this;exact this.symm
  subst hdt;obtain⟨α,G8⟩:∃α,D'[j]?=some α:=⟨D'[j],Taa om⟩;show aw w' S' L (gs (after σ.s (ops.toList.take n) D') d') _;rw[Zd7 (ops.toList.take n) D' σ.s j p' α (by rw[List.getElem?_take,if_pos hj];simpa using hp) G8 gn (λk q hk hq=>by
   rw[List.getElem?_take]at hq;split at hq
   ·exact(hP.dep k q om (by simpa using hq)).1 hk
   ·cases hq)]
  exact hI.done j p' d' α hj (hall j hj) hp gn G8
 ·have bT:∀(j:Nat)(p:Oper),j<n->ops[j]?=some p->p.dst≠some t:=λj p hj hp hd=>nv ⟨j,p,hj,hp,hd⟩;show aw w' S' L (gs (after σ.s (ops.toList.take n) D') t) _;rw[Ck _ _ _ (λp hp=>by
   obtain⟨j,hj⟩:=List.mem_iff_getElem?.1 hp;rw[List.getElem?_take]at hj;split at hj
   ·exact bT j p om (by simpa using hj)
   ·cases hj)]
  exact hI.out t bT):G3:=h
section
variable{e:Env}{U:GO}{w0:World}{S0:GO}{nt:Nat}
def aS.drew{σ:St}{a:Act}{w:World}(he:e.Ok)(h:aS e U w0 S0 nt σ a w):aS e U w0 S0 nt σ a { w with drawn:=w.drawn+1 }:=by
 obtain⟨S,L,h⟩:=h;have hk:Kept e.D e.E w.heap.size w { w with drawn:=w.drawn+1 }:=⟨rfl,rfl,rfl,λ_=>Nat.le_succ _,Tai _,λ_ _ _=>rfl⟩;exact⟨S,L,h.later (h.Ξ.later hk (he.Ε w _ (Tai _) (λ_ _=>rfl) h.Ξ.g) (λ_ h=>h) (λ_ h=>.inl h)) hk (λ_ h=>h)⟩
def ZmS(he:e.Ok){id:Nat}{ops:Array Oper}{n:Nat}(hB:eZ ops n)(Ao:∀o,(ops.toList.take n).getLast?=some o->jO o=false){K:GR}{Q:Exit->Act->World->Prop}(hQ:∀a w y',K y'->aS e U w0 S0 nt y' a w->Q .normal a w){σ:St}{a:Act}{w:World}
  (hd:∀o∈ops.toList,∀d,o.dst=some d->d<nt) (h:aS e U w0 S0 nt σ a w) (hp:an e (ops.toList.map (·.dst)) n ops.toList σ K):(Code.region id ops true).wp e.P Q a w:=by
 simp only[eZ,Tar,Bool.or_eq_true,decide_eq_true_eq]at hB;obtain⟨⟨⟨hH,hn⟩,hs⟩,rY⟩:=hB;obtain⟨S,L,h1⟩:=h.drew he;refine wp_region_any he.mixed ?_;have nU:ops.toList=ops.toList.take n++ops.toList.drop n:=(Tbn n _).symm;have bh:(ops.toList.take n).length=n:=by simp;omega
 have et:an e (ops.toList.map (·.dst)) ((ops.toList.take n).length+0) (ops.toList.take n++ops.toList.drop n) σ K:=by rw[<- nU,bh];exact hp
 obtain⟨D',di,nu,jY⟩:=Cv (U:=U) he w0.heap.size S0 ops.toList (ops.toList.drop n) 0 (ops.toList.take n) σ (λ_=>Ao) et;rw[bh]at di
 have nX:InvA e U w0 S0 nt σ.m ops n σ.s D' L (Array.replicate ops.size false) a { w with drawn:=w.drawn+1 } S :=
  ⟨⟨by simp,λj oj _ hl=>(by rw[getD_replicate_false]at hl;cases hl),λt _ ht=>getD_in (by simpa using ht) (getD_replicate_false _ _)⟩,h1.size,h1.defers,h1.Ξ,h1.kept,λt _=>h1.rel t,λi o d α _ hl=>(by rw[getD_replicate_false]at hl;cases hl)⟩
 have H:=Cm (e:=e) (L:=L) (Q:=Q) he hH hn (λam=>by
   rcases hs with hs|hs
   ·omega
   ·exact hs) rY (λi o d hi ho iX=>hd o (List.mem_iff_getElem?.2 ⟨i,by simpa using ho⟩) d iX) di nu (Zja hH Q) (λ_ _ _ _ _ _ _ _ _ _ _ _ _ _=>trivial) (λaa a' w' S' hI _ hall=>?_) n _ a _ S nX trivial ?_
 ·rw[show n+(ops.size-n)=ops.size by omega]at H;exact H
 ·have eD:aS e U w0 S0 nt ⟨after σ.s (ops.toList.take n) D',σ.m⟩ a' w':=by
   exact m276
  have:=Zmj he ops.toList hQ (ops.toList.drop n) _ a' w' (λo ho=>hd o (List.mem_of_mem_drop ho)) eD jY;simpa using this
 ·rw[List.countP_eq_length.2]
  ·simp
  ·intro i hi;have dR:=List.mem_range.1 hi;have bP:i<(Array.replicate ops.size false).size:=by simp;omega
   rw[nG bP,getD_replicate_false];rfl
def ZjT (ay t:Nat):∀(s:d3),gs (sA ay s) t=gs s t\/gs (sA ay s) t=.undef
 |[]=>.inl rfl
 | (k,a)::r=>by
  have key:∀(s:d3),ay.testBit t=false->gs (sA ay s) t=.undef:=by
   intro s ht
   induction s with
   |nil=>rfl
   | cons p s ih =>
    obtain⟨k,a⟩:=p;simp only[sA];split
    ·rename_i hk;have:t≠k:=λe=>by rw[e,hk]at ht;cases ht
     simp only[gs,this,if_false];exact ih
    ·exact ih
  cases ht:ay.testBit t with
  |false=>exact .inr (key _ ht)
  | true =>
   left;have key2:∀(s:d3),gs (sA ay s) t=gs s t:=by
    intro s
    induction s with
    |nil=>rfl
    |cons p s ih =>
     obtain⟨k,a⟩:=p;simp only[sA];split
     ·simp only[gs,ih]
     ·rename_i hk;have:t≠k:=λe=>hk (by rw[<- e];exact ht);simp only[gs,this,if_false];exact ih
   exact key2 _
def ZjU{s:d3}{t:Nat}:∀{r:d3},pH s r->gs r t=gs s t\/gs r t=.undef
 |[],_=>.inr rfl
 |(k,a)::r,h=>by
  simp only[pH]at h;simp only[gs];split
  ·rename_i e;rw[e];exact .inl h.1.symm
  ·exact ZjU h.2
def ZjV{m:it}{t:Nat}:∀{r:it}{cs:Bk},pI m r->gm r t=some cs->gm m t=some cs
 |[],_,_,h=>by simp[gm]at h
 |(k,a)::r,cs,h,hg=>by
  simp only[pI]at h;simp only[gm]at hg;split at hg
  ·rename_i e;rw[e,h.1];exact hg
  ·exact ZjV h.2 hg
def aS.weak{σ y':St}{a:Act}{w:World}(h:aS e U w0 S0 nt σ a w)(hs:∀t,gs y'.s t=gs σ.s t\/gs y'.s t=.undef)(hm:∀t cs,gm y'.m t=some cs->gm σ.m t=some cs):aS e U w0 S0 nt y' a w:=by
 obtain⟨S,L,h⟩:=h;refine⟨S,L,⟨h.Ξ.sin,h.Ξ.sfr,h.Ξ.ein,h.Ξ.uin,h.Ξ.bsz,λk x g hk=>h.Ξ.mine k x g (hm k x hk),λk x hk=>h.Ξ.own k x (hm k x hk),λk k' x x' g h1 h2=>h.Ξ.inj k k' x x' g (hm _ _ h1) (hm _ _ h2),h.Ξ.g⟩,λt=>?_,h.size,h.defers,h.kept⟩;rcases hs t with h1|h1
 ·rw[h1];exact h.rel t
 ·rw[h1];trivial
def ZuW{m:it}{base:Nat}{ρ:Operand->A}{o:Oper}{t:TypeId}{v:Value}{i:TypeInfo}(he:e.Ok)(ho:o.op=.alloc t)(hi:e.P.info? t=some i)(hv:i.zero=some v):iC e U base S0 m o ρ .undef:=by
 intro w S L C' hC hr;have hb:Below w.heap.size w (w.alloc (.cells v.cells t)):=yF w _;unfold gives;have aF:(execOp C' o).run e.P w=.ok (.value (.pointer (some ⟨w.heap.size,0,none⟩))) (w.alloc (.cells v.cells t)):=by
  exact m208
 rw[aF];have hk:Kept e.D e.E w.heap.size w (w.alloc (.cells v.cells t)):=Kept.of_below hb (λ_=>Tai _);exact⟨S,⟨λ_ h=>h,λ_ h=>.inl h⟩,hC.later hk (he.Ε _ _ hb.size (λb hE=>hb.block b (Tbd (hC.ein b hE) hC.bsz)) hC.g) (λ_ h=>h) (λ_ h=>.inl h),hk,trivial⟩
def Zr4(e:Env)(base p d:Nat)(m:it)(L:Lay)(t:TypeId)(v:Value)(aa:Array Bool)(a:Act)(w:World)(S:GO):Prop :=
 aa.getD p false=true->∃b,a.tmps.getD d undef=.pointer (some ⟨b,0,none⟩)/\base<=b/\b<w.heap.size/\¬S b/\(∀k bk,gm m k=some bk->¬dh L k bk b)/\w.heap[b]?=some (.cells v.cells t)
def Cls.blk_lt{m:it}{base:Nat}{w:World}{S:GO}{L:Lay}(h:Cls e U base S0 m w S L){k:Nat}{bk:Bk}{g:Nat}(hk:gm m k=some bk)(hg:dh L k bk g):g<w.heap.size:=by
 exact(b6.lt (h.own k bk hk) hg).1
def Zh6 (he:e.Ok) {ops:Array Oper} {p:Nat} (pd:CA ops p) (hB:eZ ops (p+1)) {K:GR} {Q:Exit->Act->World->Prop} (hQ:∀a w y',K y'->aS e U w0 S0 nt y' a w->Q .normal a w) {σ:St} {a:Act} {w:World}
  (hd:∀o∈ops.toList,∀d,o.dst=some d->d<nt) (h:aS e U w0 S0 nt σ a w) (hp:an e (ops.toList.map (·.dst)) (p+1) ops.toList σ K):wpAny e.P .any ops Q ops.size (Array.replicate ops.size false) a w:=by
 simp only[eZ,Tar,Bool.or_eq_true,decide_eq_true_eq]at hB;obtain⟨⟨⟨hH,hn⟩,hs⟩,rY⟩:=hB;unfold CA at pd;split at pd;rotate_left
 ·cases pd
 rename_i o0 bE;unfold jO at pd;split at pd;rotate_left
 ·cases pd
 rename_i d t ty i5 af;obtain⟨S,L,h1⟩:=h;have nU:ops.toList=ops.toList.take p++ops.toList.drop p:=(Tbn p _).symm;have bh:(ops.toList.take p).length=p:=by simp;omega
 have et:an e (ops.toList.map (·.dst)) ((ops.toList.take p).length+1) (ops.toList.take p++ops.toList.drop p) σ K:=by rw[<- nU,bh];exact hp
 obtain⟨H0,pf,DD,nT⟩:=Cv (U:=U) he w0.heap.size S0 ops.toList (ops.toList.drop p) 1 (ops.toList.take p) σ (λh=>absurd h (by decide)) et;rw[bh]at pf;have kA:ops.toList[p]?=some ⟨some d,.alloc t,ty,i5,af,none⟩:=by simpa using bE
 have hdrop:ops.toList.drop p=⟨some d,.alloc t,ty,i5,af,none⟩::ops.toList.drop (p+1):=by
  rw[List.drop_eq_getElem_cons (Tad.1 kA).1,(Tad.1 kA).2]
 have r9:ops.toList.take (p+1)=ops.toList.take p++[⟨some d,.alloc t,ty,i5,af,none⟩]:=vF kA;rw[hdrop]at nT;simp only[an,jO,and_self,if_true]at nT;obtain⟨d0,t0,cs,sF,tM,hz,jY⟩:=nT;injection sF with sF
 subst sF;injection tM with tM
 subst tM;unfold jU at hz;simp only[Tav,Option.bind_eq_some_iff]at hz;obtain⟨v,⟨i,hi,hv⟩,gc⟩:=hz;have hG:=λ(ρ:Operand->A)=>ZuW (U:=U) (S0:=S0) (m:=σ.m) (base:=w0.heap.size) (ρ:=ρ) (o:=⟨some d,.alloc t,ty,i5,af,none⟩) he rfl hi hv;have di:(H0++[A.undef]).length=p+1:=by simp[pf]
 have th:∀(os:GL)(s:d3)(D':List A),qn e U w0.heap.size S0 σ.m ops.toList os s D'->qn e U w0.heap.size S0 σ.m ops.toList (os++[⟨some d,.alloc t,ty,i5,af,none⟩]) s (D'++[A.undef]):=by
  intro os
  induction os with
  |nil =>
   intro s D' hc
   cases D' with
   |nil=>exact⟨hG _,trivial⟩
   |cons x xs=>simp[qn]at hc
  |cons o os ih =>
   intro s D' hc
   cases D' with
   |nil=>simp[qn]at hc
   |cons x xs=>exact⟨hc.1,ih _ _ hc.2⟩
 have te:∀(os:GL)(s:d3)(D':List A),D'.length=os.length->after s (os++[⟨some d,.alloc t,ty,i5,af,none⟩]) (D'++[A.undef])=(d,A.undef)::after s os D':=by
  intro os
  induction os with
  |nil =>
   intro s D' hl
   cases D' with
   |nil=>rfl
   |cons x xs=>simp at hl
  |cons o os ih =>
   intro s D' hl
   cases D' with
   |nil=>simp at hl
   |cons x xs=>exact ih _ _ (by simpa using hl)
 have nu:qn e U w0.heap.size S0 σ.m ops.toList (ops.toList.take (p+1)) σ.s (H0++[A.undef]):=by rw[r9];exact th _ _ _ DD
 have haf:after σ.s (ops.toList.take (p+1)) (H0++[A.undef])=(d,A.undef)::after σ.s (ops.toList.take p) H0:=by rw[r9];exact te _ _ _ (by rw[pf,bh])
 have nX:InvA e U w0 S0 nt σ.m ops (p+1) σ.s (H0++[A.undef]) L (Array.replicate ops.size false) a w S :=
  ⟨⟨by simp,λj oj _ hl=>(by rw[getD_replicate_false]at hl;cases hl),λt _ ht=>getD_in (by simpa using ht) (getD_replicate_false _ _)⟩,h1.size,h1.defers,h1.Ξ,h1.kept,λt _=>h1.rel t,λi o d α _ hl=>(by rw[getD_replicate_false]at hl;cases hl)⟩
 have hJ0:Zr4 e w0.heap.size p d σ.m L t v (Array.replicate ops.size false) a w S:=λhl=>by rw[getD_replicate_false]at hl;cases hl
 have Gb:∀{i':Nat}{o':Oper}{d':Nat},HeadAt ops (p+1) i' o' d'->i'≠p->d'≠d:=λhA aP e'=>by
  have:=(hA.dep p _ om bE).1 (Ne.symm aP);exact this (by rw[e'])
 have pR:Zlc e U w0 S0 nt σ.m ops (p+1) σ.s (H0++[A.undef]) L (Zr4 e w0.heap.size p d σ.m L t v) Q:=by
  intro aa a w S i' o' d' α hI hJ hA dD hr ep G8 xC Dq;by_cases wp:i'=p
  ·subst wp;have cr:o'=⟨some d,.alloc t,ty,i5,af,none⟩:=by have:=hA.op;rw[bE]at this;exact EN
   subst cr;have iX:d'=d:=by have:=hA.dst;exact EN
   subst iX;have hau:α=A.undef:=by exact m258
   subst hau;unfold Oper.wp;have aF:(execOp a.eval ⟨some d',.alloc t,ty,i5,af,none⟩).run e.P w=.ok (.value (.pointer (some ⟨w.heap.size,0,none⟩))) (w.alloc (.cells v.cells t)):=by
    simp[execOp,Instr.alloc,zeroValue,typeInfo,hi,hv,newVar,newRow,Result.andThen]
   have hb:Below w.heap.size w (w.alloc (.cells v.cells t)):=yF w _;have hk:Kept e.D e.E w.heap.size w (w.alloc (.cells v.cells t)):=Kept.of_below hb (λ_=>Tai _);have hC:=hI.Ξ;have zY:Cls e U w0.heap.size S0 σ.m (w.alloc (.cells v.cells t)) S L:=hC.later hk (he.Ε _ _ hb.size (λb hE=>hb.block b (Tbd (hC.ein b hE) hC.bsz)) hC.g) (λ_ h=>h) (λ_ h=>.inl h);rw[aF,Oper.upon_value];refine⟨S,hI.put hH hA dD hr ep G8 (λ_ h=>h) zY hk trivial,λ_=>⟨w.heap.size,?_,hC.bsz,by simp,λhs=>by have:=(hC.sin _ hs).1;omega,λk bk hk hg=>by have:=hC.blk_lt hk hg;omega,heap_alloc_new w _⟩⟩
   rw[tY (by rw[hI.size];exact ep)];simp
  ·refine ym (Dq w S L a.eval hI.Ξ xC) λv' w'⟨S',hS,hC,hk,Aw⟩=>⟨S',hI.put hH hA dD hr ep G8 hS.1 hC hk Aw,λhl=>?_⟩;rw[getD_set_ne false wp]at hl;obtain⟨b,q1,q2,q3,q4,q5,q6⟩:=hJ hl;refine⟨b,?_,q2,Tbd q3 hk.size,λhs=>?_,q5,?_⟩
   ·rw[hA.dst,tY (by rw[hI.size];exact ep),if_neg (Ne.symm (Gb hA wp))];exact q1
   ·rcases hS.2 b hs with hs|hs
    ·exact q4 hs
    ·omega
   ·rw[hk.block b q3 (λhE=>by have:=hI.Ξ.ein b hE;omega)];exact q6
 have D3:∀(aa:Array Bool)(a:Act)(w:World)(S:GO)(i':Nat)(o':Oper)(d':Nat),Zr4 e w0.heap.size p d σ.m L t v aa a w S->InvA e U w0 S0 nt σ.m ops (p+1) σ.s (H0++[A.undef]) L aa a w S->HeadAt ops (p+1) i' o' d'->i' < p+1->i'∈Region.ready .any ops aa->d' < nt->o'.guard≠none->Zr4 e w0.heap.size p d σ.m L t v (aa.setIfInBounds i' true) (a.put o'.dst undef) w S:=by
  intro aa a w S i' o' d' hJ hI hA dD hr ep hg hl;have wp:i'≠p:=λe'=>by
   subst e';have:=hA.op;rw[bE]at this;injection this with this
   rw[<- this]at hg;exact hg rfl
  rw[getD_set_ne false wp]at hl;obtain⟨b,q1,q2⟩:=hJ hl;refine⟨b,?_,q2⟩;rw[hA.dst,tY (by rw[hI.size];exact ep),if_neg (Ne.symm (Gb hA wp))];exact q1
 have H:=Cm (e:=e) (L:=L) (Q:=Q) he hH hn (λam=>by
   rcases hs with hs|hs
   ·omega
   ·exact hs) rY (λi o d hi ho iX=>hd o (List.mem_iff_getElem?.2 ⟨i,by simpa using ho⟩) d iX) di nu pR D3 (λaa a' w' S' hI hJ hall=>?_) (p+1) _ a _ S nX hJ0 ?_
 ·rw[show p+1+(ops.size-(p+1))=ops.size by omega]at H;exact H
 ·have eD:Sim e U w0 S0 nt ⟨after σ.s (ops.toList.take (p+1)) (H0++[A.undef]),σ.m⟩ a' w' S' L:=by
   refine⟨hI.Ξ,λt=>?_,hI.size,hI.defers,hI.kept⟩;by_cases nv:∃(j:Nat)(p':Oper),j<p+1/\ops[j]?=some p'/\p'.dst=some t
   ·obtain⟨j,p0,hj,hp,gn⟩:=nv;obtain⟨p',d',hP⟩:=nj.get hH hj;have hpp:p'=p0:=by have:=hP.op;rw[hp]at this;exact EN
    subst hpp;have hdt:d'=t:=by have:=hP.dst;rw[gn]at this;exact EN
    subst hdt;obtain⟨α,G8⟩:∃α,(H0++[A.undef])[j]?=some α:=⟨(H0++[A.undef])[j],Taa om⟩;show aw w' S' L (gs (after σ.s (ops.toList.take (p+1)) (H0++[A.undef])) d') _;rw[Zd7 (ops.toList.take (p+1)) (H0++[A.undef]) σ.s j p' α (by rw[List.getElem?_take,if_pos hj];simpa using hp) G8 gn (λk q hk hq=>by
     rw[List.getElem?_take]at hq;split at hq
     ·exact(hP.dep k q om (by simpa using hq)).1 hk
     ·cases hq)]
    exact hI.done j p' d' α hj (hall j hj) hp gn G8
   ·have bT:∀(j:Nat)(p':Oper),j<p+1->ops[j]?=some p'->p'.dst≠some t:=λj p' hj hp hd=>nv ⟨j,p',hj,hp,hd⟩;show aw w' S' L (gs (after σ.s (ops.toList.take (p+1)) (H0++[A.undef])) t) _;rw[Ck _ _ _ (λp' hp=>by
     obtain⟨j,hj⟩:=List.mem_iff_getElem?.1 hp;rw[List.getElem?_take]at hj;split at hj
     ·exact bT j p' om (by simpa using hj)
     ·cases hj)]
    exact hI.out t bT
  rw[haf]at eD;obtain⟨b,q1,q2,q3,q4,q5,q6⟩:=hJ (hall p om);have ep:d<nt:=hd _ (List.mem_iff_getElem?.2 ⟨p,kA⟩) d rfl;have BQ:=AY (w:=w') (S:=S') v.cells.toList;rw[gc]at BQ
  have xG:=eD.bornE (bk:=.var none cs) (w':=w') (b':=b) (v':=undef) (u:=a'.tmps.getD d undef) (τ:=some b) (s1:=(d,A.undef)::after σ.s (ops.toList.take p) H0) (m1:=σ.m) (α:=.ref d 0) (S':=S') ep (λ_ h=>h) (λ_ h=>.inl h) (λt=>.inl rfl) (λk x h=>h)
   (λg hg=>by injection hg with hg;subst hg;exact⟨q4,λhE=>by have:=hI.Ξ.ein _ hE;omega,.inl q2⟩) (λk x g cl hx hg hb=>by injection hg with hg;subst hg;exact q5 k x hx hb)
   (Kept.refl _ _ _ _) hI.Ξ.g (by
    simp only[b6,if_true];refine⟨by simp,q3,q4,⟨v.cells,t,q6,by have:=BQ.len;simpa using this⟩,?_⟩;exact a8.of_vals cs v.cells.toList 0 BQ (λj u hj=>by
     rw[Nat.zero_add];have mQ:v.cells[j]?=some u:=by simpa using hj
     simp[World.cell?,q6,mQ]))
   (λg hg=>by simp only[dh,if_true]at hg;exact .inl (by rw[hg])) (by simp[aw,q1])
  have xH:aS e U w0 S0 nt ⟨(d,.ref d 0)::bX d ((d,A.undef)::after σ.s (ops.toList.take p) H0),(d,.var none cs)::aA d σ.m⟩ a' w':=by
   obtain⟨S2,L2,k1,k2,k3,k4,k5⟩:=xG;refine⟨S2,L2,k1,λt=>?_,hI.size,hI.defers,k5⟩;have:=k2 t;rw[tY (by rw[hI.size];exact ep)]at this;by_cases ht:t=d
   ·rw[if_pos ht]at this;rw[ht];rw[ht]at this;exact this
   ·rw[if_neg ht]at this;exact this
  have hsimC:aS e U w0 S0 nt ⟨(d,.ref d 0)::bX d (after σ.s (ops.toList.take p) H0),(d,.var none cs)::aA d σ.m⟩ a' w':=aS.weak xH (λt=>.inl (by
   by_cases ht:t=d
   ·simp[gs,ht]
   ·simp[gs,ht,bX])) (λt x hx=>hx)
  have:=jY he U w0 S0 nt a' w' ops.toList Q rfl (λo ho=>hd o (List.mem_of_mem_drop ho)) hQ hsimC;simpa using this
 ·rw[List.countP_eq_length.2]
  ·simp
  ·intro i hi;have dR:=List.mem_range.1 hi;have bP:i<(Array.replicate ops.size false).size:=by simp;omega
   rw[nG bP,getD_replicate_false];rfl
def ZsC(he:e.Ok){id:Nat}{ops:Array Oper}{p:Nat}(pd:CA ops p)(hB:eZ ops (p+1)){K:GR}{Q:Exit->Act->World->Prop}(hQ:∀a w y',K y'->aS e U w0 S0 nt y' a w->Q .normal a w){σ:St}{a:Act}{w:World}
  (hd:∀o∈ops.toList,∀d,o.dst=some d->d<nt) (h:aS e U w0 S0 nt σ a w) (hp:an e (ops.toList.map (·.dst)) (p+1) ops.toList σ K):(Code.region id ops true).wp e.P Q a w:=wp_region_any he.mixed (Zh6 he pd hB hQ hd (h.drew he) hp)
def ZrD {P:Program} {Q:Exit->Act->World->Prop} {c:Code} {ι:Type} (I:ι->Act->World->Prop) (μ:ι->Nat) (i0:ι) {a:Act} {w:World} (h₀:I i0 a w)
  (round:∀i a w,I i a w->c.wp P (Exit.then (λa' w'=>∃j,I j a' w'/\μ j<μ i) Q) a w):(Code.loop c).wp P Q a w:=by
 intro b k cs
 have key:∀n i a w,μ i=n->I i a w ->
   ∃e a' w',Q e a' w'/\Arrives P (lone (b.at a (.code c::.inLoop c::k)) cs w) b k cs e a' w':=by
  intro n
  induction n using Nat.strongRecOn with
  | _ n ih =>
   intro i a w hn hI;obtain⟨e,a₁,w₁,hq,rH⟩:=round i a w hI b (.inLoop c::k) cs
   cases e with
   |normal =>
    obtain⟨j,hI₁,am⟩:=hq;obtain⟨e₂,a₂,w₂,hq₂,harr₂⟩:=ih (μ j) (hn▸am) j a₁ w₁ rfl hI₁;exact⟨e₂,a₂,w₂,hq₂,.of_steps (Steps.trans rH (.one step_inLoop)) harr₂⟩
   |exit id=>exact⟨_,a₁,w₁,hq,.pass (x:=.inLoop c) rfl (λ_ _=>.inl (by simp)) rH⟩
   |goto l=>exact⟨_,a₁,w₁,hq,.pass (x:=.inLoop c) rfl (λ_ _=>.inl (by simp)) rH⟩
   |ret=>exact⟨_,a₁,w₁,hq,.pass (x:=.inLoop c) rfl (λ_ _=>.inl (by simp)) rH⟩
   |panic ch=>exact⟨_,a₁,w₁,hq,.pass (x:=.inLoop c) rfl (λ_ _=>.inl (by simp)) rH⟩
   |outgrown=>exact⟨_,a₁,w₁,hq,.pass (x:=.inLoop c) rfl (λ_ _=>.inl (by simp)) rH⟩
 obtain⟨e,a',w',hq,rH⟩:=key _ i0 a w rfl h₀;exact⟨e,a',w',hq,.of_steps (.one step_loop) rH⟩
def py(nt:Nat):Code->Bool
 |.region _ ops _=>ops.toList.all (λo=>o.dst.all (λd=>decide (d<nt)))
 |.seq a b=>py nt a&&py nt b
 |.cond _ a b=>py nt a&&py nt b
 |.block _ c=>py nt c
 |.loop c=>py nt c
 |_=>true
def Ch(e:Env)(U:GO)(w0:World)(S0:GO)(nt:Nat)(K:GR)(a:Act)(w:World):Prop:=∃σ,K σ/\aS e U w0 S0 nt σ a w
def LQ(e:Env)(U:GO)(w0:World)(S0:GO)(nt:Nat)(Q:PX->St->Prop):Exit->Act->World->Prop
 |.normal,a,w=>Ch e U w0 S0 nt (Q .normal) a w
 |.exit id,a,w=>Ch e U w0 S0 nt (Q (.exit id)) a w
 |.ret,a,w=>Ch e U w0 S0 nt (Q .ret) a w
 |_,_,_=>False
def de(e:Env)(ay:Nat)(c:Code)(σ:St)(Q:PX->St->Prop):Prop:=e.Ok->∀(U:GO)(w0:World)(S0:GO)(nt:Nat)(a:Act)(w:World),py nt c->aS e U w0 S0 nt σ a w->c.wp e.P (LQ e U w0 S0 nt Q) a w
def oP(ay:Nat)(Q:PX->St->Prop)(y':St):Prop:=Q .normal ⟨sA ay y'.s,y'.m⟩
end
section
variable{e:Env}{ay:Nat}{σ:St}{Q:PX->St->Prop}
def LQ.mono{U:GO}{w0:World}{S0:GO}{nt:Nat}{Q Q':PX->St->Prop}(hQ:∀p σ,Q p σ->Q' p σ){ex:Exit}{a:Act}{w:World}(h:LQ e U w0 S0 nt Q ex a w):LQ e U w0 S0 nt Q' ex a w:=by
 cases ex with
 |normal=>exact h.elim λσ h=>⟨σ,hQ _ _ h.1,h.2⟩
 |exit id=>exact h.elim λσ h=>⟨σ,hQ _ _ h.1,h.2⟩
 |ret=>exact h.elim λσ h=>⟨σ,hQ _ _ h.1,h.2⟩
 |goto l=>exact h
 |panic ch=>exact h
 |outgrown=>exact h
def ZEk{Q Q':PX->St->Prop}(hQ:∀p σ,Q p σ->Q' p σ)(c:Code)(σ:St)(h:de e ay c σ Q):de e ay c σ Q':=λhe U w0 S0 nt a w aq hs=>wp_mono (h he U w0 S0 nt a w aq hs) λex a' w' hq=>hq.mono hQ
def rp{P:GR}{c:Code}(hT:kI e σ P)(h:∀y',P y'->de e ay c y' Q):de e ay c σ Q:=λhe U w0 S0 nt a w aq hs=>by
 obtain⟨y',h1,h2⟩:=hT he U w0 S0 nt a w hs;exact h y' h1 he U w0 S0 nt a w aq h2
def ZsD(h:Q .normal σ):de e ay .skip σ Q:=λhe U w0 S0 nt a w aq hs=>wp_skip ⟨σ,h,hs⟩
def ZsE{id:Nat}(h:Q (.exit id) σ):de e ay (.exit id) σ Q:=λhe U w0 S0 nt a w aq hs=>wp_exit ⟨σ,h,hs⟩
def CO(h:Q .ret σ):de e ay .ret σ Q:=λhe U w0 S0 nt a w aq hs=>wp_ret ⟨σ,h,hs⟩
def Zol {id:Nat} {ops:Array Oper} {Db:Bool} (n:Nat) (hn:(if Db then xY ops n else decide (n=0))) (hp:an e (ops.toList.map (·.dst)) n ops.toList σ (oP ay Q)):de e ay (.region id ops Db) σ Q:=λhe U w0 S0 nt a w aq hs=>by
 simp only[py]at aq;have hd:∀o∈ops.toList,∀d,o.dst=some d->d<nt:=λo ho d hd=>by
  exact m262
 have hQ:∀a w y',oP ay Q y'->aS e U w0 S0 nt y' a w->LQ e U w0 S0 nt Q .normal a w:=λa w y' h1 h2 =>
  ⟨_,h1,h2.weak (λt=>ZjT ay t y'.s) (λ_ _ h=>h)⟩
 cases Db with
 |false =>
  have hn:n=0:=by simpa using hn
  subst hn;refine wp_region_list ?_;have:=Zmj he ops.toList hQ ops.toList _ a w hd hs hp;simpa using this
 | true =>
  have hn:eZ ops n:=by simpa[xY]using hn
  cases n with
  |zero=>exact ZmS he hn (by simp) hQ hd hs hp
  | succ p =>
   by_cases hA:CA ops p=true
   ·exact ZsC he hA hn hQ hd hs hp
   ·refine ZmS he hn (λo ho=>?_) hQ hd hs hp;have cw:p+1<=ops.size:=by
     simp only[eZ,Tar,decide_eq_true_eq]at hn;exact hn.1.1.2
    have am:p<ops.size:=om;have e:(ops.toList.take (p+1)).getLast?=ops[p]?:=by
     rw[List.getLast?_eq_getElem?];simp only[Taw,Array.length_toList,Nat.min_eq_left cw,Nat.add_sub_cancel];rw[List.getElem?_take,if_pos om];simp
    rw[e]at ho;unfold CA at hA;rw[ho]at hA;simpa using hA
def Zh7{a b:Code} (h:de e ay a σ (λx y'=>match x with
  |.normal=>∃G7,Wk y' G7/\de e ay b G7 Q
  |x=>Q x y')):de e ay (.seq a b) σ Q:=λhe U w0 S0 nt ac w aq hs=>by
 simp only[py,Tar]at aq;refine wp_seq (wp_mono (h he U w0 S0 nt ac w aq.1 hs) λex a' w' hq=>?_)
 cases ex with
 |normal=>obtain⟨y',⟨G7,hw,h1⟩,h2⟩:=hq;exact h1 he U w0 S0 nt a' w' aq.2 (h2.weak hw.1 hw.2)
 |exit id=>exact hq
 |ret=>exact hq
 |goto l=>exact hq
 |panic ch=>exact hq
 |outgrown=>exact hq
def ZsF{c:Operand}{a b:Code}{t:Bool}(hc:aL σ.s c=GX t)(h1:t->de e ay a σ Q)(h2:t=false->de e ay b σ Q):de e ay (.cond c a b) σ Q:=λhe U w0 S0 nt ac w aq hs=>by
 simp only[py,Tar]at aq;obtain⟨S,L,h'⟩:=id hs;have h3:=h'.eval c;rw[hc]at h3;refine wp_cond h3.bool ?_
 cases t
 ·simp only[Tam,if_false];exact h2 rfl he U w0 S0 nt ac w aq.2 hs
 ·simp only[if_true];exact h1 rfl he U w0 S0 nt ac w aq.1 hs
def Zqu{id:Nat}{c:Code} (h:de e ay c σ (λx y'=>match x with
  |.exit j=>if j=id then Q .normal y' else Q (.exit j) y'
  |x=>Q x y')):de e ay (.block id c) σ Q:=λhe U w0 S0 nt ac w aq hs=>by
 simp only[py]at aq;refine wp_block (wp_mono (h he U w0 S0 nt ac w aq hs) λex a' w' hq=>?_)
 cases ex with
 |normal=>exact hq
 |exit j =>
  obtain⟨y',h1,h2⟩:=hq;simp only[Exit.inBlock];simp only at h1;split
  ·rename_i hj;rw[if_pos hj]at h1;exact⟨y',h1,h2⟩
  ·rename_i hj;rw[if_neg hj]at h1;exact⟨y',h1,h2⟩
 |ret=>exact hq
 |goto l=>exact hq
 |panic ch=>exact hq
 |outgrown=>exact hq
def ZEl{c:Code}{ι:Type}(st:ι->St)(ok:ι->Prop)(μ:ι->Nat)(x0:ι)(h0:ok x0)(gv:pH σ.s (st x0).s)(qY:pI σ.m (st x0).m)
  (hr:∀x,ok x->de e ay c (st x) (λp H2=>match p with
   |.normal=>∃y,ok y/\pH H2.s (st y).s/\pI H2.m (st y).m/\μ y<μ x
   |p=>Q p H2)):de e ay (.loop c) σ Q:=λhe U w0 S0 nt ac w aq hs=>by
 simp only[py]at aq;refine ZrD (ι:=ι) (λx a w=>ok x/\aS e U w0 S0 nt (st x) a w) μ x0 ⟨h0,hs.weak (λt=>ZjU gv) (λt cs=>ZjV qY)⟩ λx1 a1 w1⟨h1,h2⟩=>?_;refine wp_mono (hr x1 h1 he U w0 S0 nt a1 w1 aq h2) λex a' w' hq=>?_
 cases ex with
 |normal =>
  obtain⟨y',⟨y,h5,h3,h4,h6⟩,h7⟩:=hq;exact⟨y,⟨h5,h7.weak (λt=>ZjU h3) (λt cs=>ZjV h4)⟩,h6⟩
 |exit id=>exact hq
 |ret=>exact hq
 |goto l=>exact hq
 |panic ch=>exact hq
 |outgrown=>exact hq
end
def qO:Nat->AS->d3
 |_,[]=>[]
 |k,x::xs=>(k,.d x)::qO (k+1) xs
def ZsG:∀(xs:AS)(k t:Nat),gs (qO k xs) t=if k<=t then match xs[t-k]? with
   |some x=>.d x
   |none=>.undef
  else .undef
 |[],k,t=>by simp[qO,gs]
 | x::xs,k,t=>by
  simp only[qO,gs];by_cases h1:t=k
  ·subst h1;simp
  ·rw[ZsG xs (k+1) t];simp only[h1,if_false];by_cases h2:k+1<=t
   ·rw[if_pos h2,if_pos om,show t-k=(t-(k+1))+1 by omega];simp
   ·rw[if_neg h2];by_cases h3:k<=t
    ·omega
    ·rw[if_neg h3]
inductive RS where
 |slot (t:Nat)
 |cell (t ty:Nat)
def mG:List ResultVar->List RS
 |[]=>[]
 |.tmp t::r=>.slot t::mG r
 |.cell a t::r=>.cell a t::mG r
def na(P:Program)(σ:St):RS->A
 |.slot t=>gs σ.s t
 |.cell t ty=>(vV (rm P ty) (jz σ.m (gs σ.s t))).getD .undef
def oQ(P:Program)(σ:St):List RS->AS->Prop
 |[],[]=>True
 |t::ts,x::xs=>na P σ t=.d x/\oQ P σ ts xs
 |_,_=>False
def vB(P:Program)(sg:List RS)(r:AS):PX->St->Prop
 |.exit _,_=>False
 |_,σ=>∃ks,oQ P (frzs ks σ) sg r
section
variable{e:Env}{U:GO}{w0:World}{S0:GO}{nt:Nat}{σ:St}{a:Act}{w:World}{S:GO}{L:Lay}
def ZEm (h:Sim e U w0 S0 nt σ a w S L) {x:ResultVar} {rs:List RS} {t:RS} (nB:mG [x]=[t]) {y:D} (hy:na e.P σ t=.d y):∃v,(match x with
   |.tmp t=>(pure (a.tmps.getD t undef):Sem Value)
   |.cell b t=>do loadVar t (<- asAddr (a.tmps.getD b undef))).run e.P w=.ok v w/\aX w S y v:=by
 cases x with
 |tmp k =>
  simp only[mG,List.cons.injEq,and_true]at nB;subst nB;have:=h.rel k;simp only[na]at hy;rw[hy]at this;exact⟨_,rfl,this⟩
 | cell b ty =>
  simp only[mG,List.cons.injEq,and_true]at nB;subst nB;simp only[na]at hy
  cases hl:vV (rm e.P ty) (jz σ.m (gs σ.s b))with
  |none=>rw[hl]at hy;simp at hy
  | some α =>
   rw[hl]at hy;simp only[Option.getD_some]at hy;subst hy;unfold vV at hl;split at hl
   ·rename_i k cs hk hp;obtain⟨u,h1,h2⟩:=Zqq h.Ξ hp (h.rel b) hk hl;refine⟨u,?_,h2⟩;have hptr:∃p,a.tmps.getD b undef=.pointer (some p):=by
     have hr:=h.rel b;unfold jz at hp;split at hp
     ·rename_i hx;rw[hx]at hr;simp only[aw,aX,aR]at hr;obtain⟨b',off,hv,_⟩:=hr;exact⟨_,hv⟩
     ·rename_i hx;rw[hx]at hr;exact⟨_,hr⟩
     ·rename_i hx;rw[hx]at hr;obtain⟨g,_,hv⟩:=hr;exact⟨_,hv⟩
     ·cases hp
    obtain⟨p,et⟩:=hptr;rw[et]at h1;show Sem.run e.P (do loadVar ty (<- asAddr (a.tmps.getD b undef))) w=_;rw[et];simpa[Instr.loadAt,Instr.sureAddr,asAddr,Result.andThen]using h1
   ·cases hl
def Zld(h:Sim e U w0 S0 nt σ a w S L):∀{l:List ResultVar}{r:AS},oQ e.P σ (mG l) r->∃vs:GK,(l.mapM (m:=Sem) λ(x:ResultVar)=>match x with
   |.tmp t=>(pure (a.tmps.getD t undef):Sem Value)
   |.cell b t=>do loadVar t (<- asAddr (a.tmps.getD b undef))).run e.P w=.ok vs w/\dt w S r vs
 |[],r,hr=>by
  cases r with
  |nil=>exact⟨[],by simp,trivial⟩
  |cons x xs=>simp[mG,oQ]at hr
 | x::l,r,hr=>by
  have hx:mG (x::l)=(mG [x]).head (by cases x<;>simp[mG])::mG l:=by cases x<;>rfl
  rw[hx]at hr
  cases r with
  |nil=>simp[oQ]at hr
  |cons y ys =>
   simp only[oQ]at hr;obtain⟨v,h1,h2⟩:=ZEm h (x:=x) (rs:=[]) (by cases x<;>rfl) hr.1;obtain⟨vs,h3,h4⟩:=Zld h hr.2;refine⟨v::vs,?_,h2,h4⟩;simp only[List.mapM_cons,Sem.run_bind,Sem.run_pure,Result.andThen_ok];rw[h1];simp only[Result.andThen_ok];rw[h3];simp
end
def Zjb{e:Env}{U:GO}{w0:World}{S0:GO}{nt:Nat}{σ:St}{a:Act}{w:World}{S:GO}{L:Lay}{fn:Func}{r:AS}(h:Sim e U w0 S0 nt σ a w S L)(hr:oQ e.P σ (mG fn.results.toList) r) :
  ∃v,(results fn a.tmps).run e.P w=.ok v w/\aw w S ⟨λ_=>0,λ_=>Go.undef⟩ (aQ r) v:=by
 obtain⟨vs,h1,h2⟩:=Zld h hr
 have aF:(fn.results.mapM (m:=Sem) λ(x:ResultVar)=>match x with
   |.tmp t=>(pure (a.tmps.getD t undef):Sem Value)
   |.cell b t=>do loadVar t (<- asAddr (a.tmps.getD b undef))).run e.P w=.ok vs.toArray w:=by
  rw[Array.mapM_eq_mapM_toList];simp only[Sem.run_map,h1,Result.andThen_ok]
 have aF:(results fn a.tmps).run e.P w=.ok (if h:(vs.toArray).size=1 then(vs.toArray)[0]else .tuple vs.toArray) w:=by
  unfold results;rw[Sem.run_bind];exact congrArg (λ(z:Result (Array Value))=>z.andThen (λa w''=>Sem.run e.P (pure (if h:a.size=1 then a[0]else Value.tuple a)) w'')) aF
 match r,vs,h2,aF with
 |[x],[v],hd,aF=>exact⟨v,by rw[aF];simp,hd.1⟩
 |[],[],hd,aF=>exact⟨.tuple #[],by rw[aF];simp,[],rfl,trivial⟩
 |x::y::r',v::v'::vs',hd,aF=>exact⟨.tuple (v::v'::vs').toArray,by rw[aF];simp,_,rfl,hd⟩
 |[],_::_,hd,_=>simp[dt]at hd
 |_::_,[],hd,_=>simp[dt]at hd
 |[_],_::_::_,hd,_=>simp[dt]at hd
 |_::_::_,[_],hd,_=>simp[dt]at hd
def Zns{w:World}{S:GO}{L:Lay}{args:AS}{vs:GK}{n:Nat}(d8:dt w S args vs)(t:Nat):aw w S L (gs (qO 0 args) t) ((vs.toArray++Array.replicate n undef).getD t undef):=by
 rw[ZsG];simp only[Taj,if_true,Nat.sub_zero]
 cases hx:args[t]? with
 |none=>trivial
 | some x =>
  obtain⟨v,h1,h2⟩:=d8.get hx;have am:t<vs.length:=(Tad.1 h1).1;have e1:(vs.toArray++Array.replicate n undef).getD t undef=v:=by
   rw[Array.getD_eq_getD_getElem?,Array.getElem?_append_left (by simpa using am)];simp[h1]
  simp only[e1];exact h2
def Zx8 {e:Env} (he:e.Ok) {f:FuncId} {fn:Func} {c:Code} {args r:AS} {ts:List RS} (ay:Nat) (hf:e.P.funcs[f]?=some fn) (hb:fn.body=some c) (nQ:(fn.name == "runtime.NumGoroutine")=false)
  (aq:py fn.ntmps c) (di:Nat.ble args.length fn.ntmps) (fK:mG fn.results.toList=ts) (h:de e ay c ⟨qO 0 args,[]⟩ (vB e.P ts r)):aI e f args r:=by
 refine⟨by unfold qN;rw[hf];simp[nQ,hb],λw S vs hS hE hG d8=>?_⟩;have jN:=d8.len;have di:=Nat.le_of_ble_eq_true di;subst fK;refine calls_of_wp hf hb ?_;have eD:aS e (λ_=>False) w S fn.ntmps ⟨qO 0 args,[]⟩ { tmps:=vs.toArray++Array.replicate (fn.ntmps-vs.toArray.size) undef,defers:=[] } w:=by
  exact m65
 refine wp_mono (h he _ _ _ _ _ w aq eD) λex a' w' hq=>?_;have Bw:∀y',(∃ks,oQ e.P (frzs ks y') (mG fn.results.toList) r)->aS e (λ_=>False) w S fn.ntmps y' a' w'->a'.defers=[]/\∃v,(results fn a'.tmps).run e.P w'=.ok v w'/\∃u,Ending.returned v=.returned u/\Kept e.D e.E w.heap.size w w'/\e.G w'/\aw w' (λb=>S b\/(w.heap.size<=b/\b<w'.heap.size)) ⟨λ_=>0,λ_=>Go.undef⟩ (aQ r) u:=by
  intro y' ⟨ks,h1⟩ h2;obtain⟨S',L',h2⟩:=aS.frzs he ks y' h2;obtain⟨v,h3,h4⟩:=Zjb h2 h1;refine⟨h2.defers,v,h3,v,rfl,⟨h2.kept.os,h2.kept.tape,h2.kept.output,h2.kept.drawn,h2.kept.size,λb hb hE=>h2.kept.block b hb (λh=>h.elim hE id)⟩,h2.Ξ.g,h4.Ε (Tai _) (λ_ _ _=>rfl) (λb hb=>?_)⟩;exact m171
 cases ex with
 |normal=>obtain⟨y',h1,h2⟩:=hq;exact Bw y' h1 h2
 |ret=>obtain⟨y',h1,h2⟩:=hq;exact Bw y' h1 h2
 |exit id=>obtain⟨y',h1,h2⟩:=hq;exact h1.elim
 |goto l=>exact hq.elim
 |panic ch=>exact hq.elim
 |outgrown=>exact hq.elim
def FO(P:Program)(sg:List RS)(R:AS->GQ->Prop):PX->St->Prop
 |.exit _,_=>False
 |_,σ=>∃r ks pm,ei σ.m ks=some pm/\ks.Nodup/\pm.all pinned/\R r pm/\oQ P σ sg r
def ZuX {e:Env} (he:e.Ok) {f:FuncId} {fn:Func} {c:Code} {args:AS} {pm:GQ} {R:AS->GQ->Prop} {ts:List RS} (qG:GN) (ay:Nat) (hf:e.P.funcs[f]?=some fn) (hb:fn.body=some c) (nQ:(fn.name == "runtime.NumGoroutine")=false)
  (aq:py fn.ntmps c) (di:Nat.ble args.length fn.ntmps) (fK:mG fn.results.toList=ts) (h:de e ay c ⟨qO 0 args,aM qG pm⟩ (FO e.P ts R)):aT e f args pm R:=by
 refine⟨by unfold qN;rw[hf];simp[nQ,hb],λw S vs hS hE hG gV li d8=>?_⟩;have jN:=d8.len;have di:=Nat.le_of_ble_eq_true di;subst fK;refine calls_of_wp hf hb ?_;have eD:aS e (dP pm) w S fn.ntmps ⟨qO 0 args,aM qG pm⟩ { tmps:=vs.toArray++Array.replicate (fn.ntmps-vs.toArray.size) undef,defers:=[] } w:=by
  have at':∀k x,gm (aM qG pm) k=some x->x∈pm/\b6 w S (gx (aM qG pm) ⟨λ_=>0,λ_=>Go.undef⟩) k x/\∀g,dh (gx (aM qG pm) ⟨λ_=>0,λ_=>Go.undef⟩) k x g↔eE x g:=λk x hx=>by
   have hm:=(A7 hx).2;exact⟨hm,wJ (gV x hm).1 hx⟩
  refine⟨S,gx (aM qG pm) ⟨λ_=>0,λ_=>Go.undef⟩,⟨hS,λb hb=>.inl hb,hE,λb⟨x,hx,hg⟩=>(gV x hx).2 b hg,Tai _,λk x g hx hg=>.inr ⟨x,(at' k x hx).1,((at' k x hx).2.2 g).1 hg⟩,λk x hx=>(at' k x hx).2.1,λk k' x x' g hx aW hg gh=>?_,hG⟩,λt=>Zns d8 t,by simp;omega,rfl,Kept.refl _ _ _ _⟩;exact ZiM li hx aW (((at' k x hx).2.2 g).1 hg) (((at' k' x' aW).2.2 g).1 gh)
 refine wp_mono (h he _ _ _ _ _ w aq eD) λex a' w' hq=>?_
 have Bw:∀y',(∃r ks bj,ei y'.m ks=some bj/\ks.Nodup/\bj.all pinned/\R r bj/\oQ e.P y' (mG fn.results.toList) r)->aS e (dP pm) w S fn.ntmps y' a' w'->a'.defers=[]/\∃v,(results fn a'.tmps).run e.P w'=.ok v w' /\
   ∃u r bj,Ending.returned v=.returned u/\R r bj/\Kept e.D (λb=>e.E b\/dP pm b) w.heap.size w w'/\e.G w' /\
   (∀x∈bj,oT w' (λb=>(S b\/dP pm b\/(w.heap.size<=b/\b<w'.heap.size))/\¬dP bj b) x/\∀g,eE x g->dP pm g\/w.heap.size<=g)/\oO bj /\
   aw w' (λb=>(S b\/dP pm b\/(w.heap.size<=b/\b<w'.heap.size))/\¬dP bj b) ⟨λ_=>0,λ_=>Go.undef⟩ (aQ r) u:=by
  intro y' ⟨r,ks,bj,hg,hn,hp,hR,h1⟩ ⟨S',L',h2⟩;obtain⟨v,h3,h4⟩:=Zjb h2 h1;have hp:∀x∈bj,pinned x:=λx hx=>List.all_eq_true.1 hp x hx;have ky:∀b,S' b->(S b\/dP pm b\/(w.heap.size<=b/\b<w'.heap.size))/\¬dP bj b:=λb hb=>by
   refine⟨?_,λ⟨x,hx,hxg⟩=>?_⟩
   ·rcases h2.Ξ.sfr b hb with q|q|q
    ·exact .inl q
    ·exact .inr (.inr ⟨q,(h2.Ξ.sin b hb).1⟩)
    ·exact .inr (.inl q)
   ·obtain⟨k,hk,jG⟩:=zg hg x hx;exact((h2.Ξ.own k x jG).lt (((yl (h2.Ξ.own k x jG) (hp x hx)).2 b).2 hxg)).2 hb
  refine⟨h2.defers,v,h3,v,r,bj,rfl,hR,h2.kept,h2.Ξ.g,λx hx=>?_,Zgf h2.Ξ.own h2.Ξ.inj hn hg hp,Fn (h4.Ε (Tai _) (λ_ _ _=>rfl) ky)⟩;obtain⟨k,hk,jG⟩:=zg hg x hx;have ho:=h2.Ξ.own k x jG;have hpo:=yl ho (hp x hx);refine⟨(yl (ho.Ε (Tai _) (λ_ _ _=>rfl) ky (λg gh=>⟨rfl,λhs=>hs.2 ⟨x,hx,(hpo.2 g).1 gh⟩⟩)) (hp x hx)).1,λg gh=>?_⟩;rcases h2.Ξ.mine k x g jG ((hpo.2 g).2 gh)with q|q
  ·exact .inr q
  ·exact .inl q
 cases ex with
 |normal=>obtain⟨y',h1,h2⟩:=hq;exact Bw y' h1 h2
 |ret=>obtain⟨y',h1,h2⟩:=hq;exact Bw y' h1 h2
 |exit id=>obtain⟨y',h1,h2⟩:=hq;exact h1.elim
 |goto l=>exact hq.elim
 |panic ch=>exact hq.elim
 |outgrown=>exact hq.elim
def Zr5(P:Program)(sg:List RS)(R:AS->Prop):PX->St->Prop
 |.exit _,_=>False
 |_,σ=>∃ks r,R r/\oQ P (frzs ks σ) sg r
def ZuY {e:Env} (he:e.Ok) {f:FuncId} {fn:Func} {c:Code} {args:AS} {R:AS->Prop} {ts:List RS} (ay:Nat) (hf:e.P.funcs[f]?=some fn) (hb:fn.body=some c) (nQ:(fn.name == "runtime.NumGoroutine")=false)
  (aq:py fn.ntmps c) (di:Nat.ble args.length fn.ntmps) (fK:mG fn.results.toList=ts) (h:de e ay c ⟨qO 0 args,[]⟩ (Zr5 e.P ts R)):fX e f args R:=by
 refine⟨by unfold qN;rw[hf];simp[nQ,hb],λw S vs hS hE hG d8=>?_⟩;have jN:=d8.len;have di:=Nat.le_of_ble_eq_true di;subst fK;refine calls_of_wp hf hb ?_;have eD:aS e (λ_=>False) w S fn.ntmps ⟨qO 0 args,[]⟩ { tmps:=vs.toArray++Array.replicate (fn.ntmps-vs.toArray.size) undef,defers:=[] } w:=by
  exact m65
 refine wp_mono (h he _ _ _ _ _ w aq eD) λex a' w' hq=>?_;have Bw:∀y',(∃ks r,R r/\oQ e.P (frzs ks y') (mG fn.results.toList) r)->aS e (λ_=>False) w S fn.ntmps y' a' w'->a'.defers=[]/\∃v,(results fn a'.tmps).run e.P w'=.ok v w'/\∃u r,Ending.returned v=.returned u/\R r/\Kept e.D e.E w.heap.size w w'/\e.G w'/\aw w' (λb=>S b\/(w.heap.size<=b/\b<w'.heap.size)) ⟨λ_=>0,λ_=>Go.undef⟩ (aQ r) u:=by
  intro y' ⟨ks,r,hr,h1⟩ h2;obtain⟨S',L',h2⟩:=aS.frzs he ks y' h2;obtain⟨v,h3,h4⟩:=Zjb h2 h1;refine⟨h2.defers,v,h3,v,r,rfl,hr,⟨h2.kept.os,h2.kept.tape,h2.kept.output,h2.kept.drawn,h2.kept.size,λb hb hE=>h2.kept.block b hb (λh=>h.elim hE id)⟩,h2.Ξ.g,h4.Ε (Tai _) (λ_ _ _=>rfl) (λb hb=>?_)⟩;exact m171
 cases ex with
 |normal=>obtain⟨y',h1,h2⟩:=hq;exact Bw y' h1 h2
 |ret=>obtain⟨y',h1,h2⟩:=hq;exact Bw y' h1 h2
 |exit id=>obtain⟨y',h1,h2⟩:=hq;exact h1.elim
 |goto l=>exact hq.elim
 |panic ch=>exact hq.elim
 |outgrown=>exact hq.elim
inductive Res where
 |bad
 |done (σ:St)
 |call (q:Bool) (c:Operand) (args:List Operand) (d:GM) (n:Nat) (os:GL) (σ:St)
 |map (q:Bool) (d:GM) (n:Nat) (os:GL) (σ:St)
 |stop (n:Nat) (os:GL) (σ:St)
def ql(x:Option St)(f:St->Res):Res :=
 match x with
 |some σ=>f σ
 |none=>.bad
def FP(d:GM)(next:St->Res)(σ:St):Res:=next ⟨aD σ.s d .no,σ.m⟩
def C8(yes no:St->Res)(σ:St):Bool->Res
 |true=>yes σ
 |false=>no σ
def wU(bN:Bool)(yes no:St->Res)(σ:St):Option A->Res
 |some (.d (.I (.A (.bool b))))=>C8 yes no σ (b==bN)
 |some .no=>no σ
 |_=>.bad
def qB:Nat->Bool
 |0=>false
 |_+1=>true
def gJ(P:Program)(d:GM)(ty:TypeId)(q n:Nat)(os:GL)(next:St->Res):Op->St->Res
 |.alloc t,σ=>ql (if qB q=true then none else oe σ d (jU P t)) next
 |.call ⟨.value c,args,_⟩,σ=>.call (qB n) c args.toList d (n-1) os σ
 |.makeMap _ none,σ=>.map (qB n) d (n-1) os σ
 |op,σ=>ql (yH P (qB n) σ d ty op) next
def ig(P:Program)(ds:By):Nat->GL->St->Res
 |_,[],σ=>.done σ
 |n,⟨d,op,ty,_,_,none⟩::os,σ=>gJ P d ty (n-1) n os (ig P ds (n-1) os) op σ
 |n,⟨d,op,ty,_,_,some (j,bN)⟩::os,σ=>wU bN (gJ P d ty n n os (ig P ds (n-1) os) op) (FP d (ig P ds (n-1) os)) σ ((ds[j]?.join).map (gs σ.s))
def runN(P:Program)(ds:By):Nat->Nat->GL->St->Res
 |0,n,os,σ=>.stop n os σ
 |_+1,_,[],σ=>.done σ
 |j+1,n,⟨d,op,ty,_,_,none⟩::os,σ=>gJ P d ty (n-1) n os (runN P ds j (n-1) os) op σ
 |j+1,n,⟨d,op,ty,_,_,some (i,bN)⟩::os,σ=>wU bN (gJ P d ty n n os (runN P ds j (n-1) os) op) (FP d (runN P ds j (n-1) os)) σ ((ds[i]?.join).map (gs σ.s))
def qd(e:Env)(ds:By)(K:GR):Res->Prop
 |.bad=>False
 |.done σ=>K σ
 |.call q c args d n os σ=>∀(o:Oper)(ts:Array TypeId),o.op=.call ⟨.value c,args.toArray,ts⟩->o.dst=d->Zr3 e q o σ (λy'=>an e ds n os y' K)
 |.map q d n os σ=>q=false/\∀b:Nat,an e ds n os ⟨aD σ.s d (GY (.A (.map (some b)))),σ.m⟩ K
 |.stop n os σ=>an e ds n os σ K
def ZgP {e:Env} {ds:By} {os:GL} {K:GR} {n q:Nat} {next:St->Res} (ih:∀σ,qd e ds K (next σ)->an e ds (n-1) os σ K) {o:Oper} {σ:St} (hq:q=n\/∀t,o.op≠.alloc t) (h:qd e ds K (gJ e.P o.dst o.type q n os next o.op σ)) :
  Zr3 e (qB n) o σ (λy'=>an e ds (n-1) os y' K):=by
 unfold gJ at h;split at h
 ·rename_i t ho;rcases hq with hq|hq
  ·subst hq;unfold ql at h;split at h
   ·rename_i y' G6
    cases hq:qB q with
    |true=>rw[hq]at G6;simp at G6
    |false =>
     rw[hq]at G6;show jW e o _ (λy'=>an e ds (q-1) os y' K);refine ZzE (y':=y') ?_ (ih y' h);simp only[ho,yH];exact G6
   ·exact h.elim
  ·exact(hq t ho).elim
 ·rename_i c args ts ho;exact h o ts (by rw[ho]) rfl
 ·rename_i t ho;obtain⟨h1,h2⟩:=h;rw[h1];exact Zsz ho h2
 ·rename_i op G7 hne0 aP hne2 ho;unfold ql at h;split at h
  ·rename_i y' G6
   cases hq:qB n with
   |true =>
    rw[hq]at G6;show yq e o _ (λy'=>an e ds (n-1) os y' K);exact ZvX G6 (ih y' h)
   |false =>
    rw[hq]at G6;show jW e o _ (λy'=>an e ds (n-1) os y' K);exact ZzE G6 (ih y' h)
  ·exact h.elim
def Zqv {e:Env} {ds:By} {K:GR} {n:Nat} {os:GL} {o:Oper} {σ:St} {next:St->Res} (hg:o.guard=none) (ih:∀σ,qd e ds K (next σ)->an e ds (n-1) os σ K) (h:qd e ds K (gJ e.P o.dst o.type (n-1) n os next o.op σ)):an e ds n (o::os) σ K:=by
 have alloc:∀t,o.op=.alloc t->qB (n-1)=false/\∃d cs,o.dst=some d/\jU e.P t=some cs/\an e ds (n-1) os ⟨(d,.ref d 0)::bX d σ.s,(d,.var none cs)::aA d σ.m⟩ K:=λt ho=>by
  rw[ho]at h;simp only[gJ]at h;unfold ql at h;split at h
  ·rename_i y' G6;split at G6
   ·cases G6
   ·rename_i hq;unfold oe at G6;split at G6
    ·rename_i d cs hd hz;injection G6 with G6
     exact⟨by simpa using hq,d,cs,hd,hz,by rw[G6];exact ih _ h⟩
    ·cases G6
  ·exact h.elim
 cases n with
 |zero =>
  simp only[an];have h1:=ZgP (n:=0) (q:=0) ih (.inl rfl) h;have h1:jW e o σ (λy'=>an e ds 0 os y' K):=h1;simp only[an]at h1;exact vG hg h1
 | succ n =>
  simp only[an,hg];by_cases di:∃t,o.op=.alloc t
  ·obtain⟨t,ho⟩:=di;obtain⟨h1,d,cs,h2,h3,h4⟩:=alloc t ho;have hn:n=0:=by
    cases n with
    |zero=>rfl
    |succ k=>cases h1
   subst hn;have hia:jO o:=by
    obtain⟨od,oo,ot,op,oa,og⟩:=o;simp only at ho h2 hg;subst ho h2 hg;rfl
   simp only[hia,and_self,if_true];simp only[Nat.add_sub_cancel,an]at h4;exact⟨d,t,cs,h2,ho,h3,h4⟩
  ·have Ao:¬(n=0/\jO o):=λ⟨_,h2⟩=>by
    unfold jO at h2;split at h2
    ·exact di ⟨_,rfl⟩
    ·cases h2
   rw[if_neg Ao];exact ZgP ih (.inr λt ht=>di ⟨t,ht⟩) h
def Zx9{e:Env}{ds:By}{K:GR}{n:Nat}{os:GL}{o:Oper}{σ:St}{j:Nat}{bN:Bool}(hg:o.guard=some (j,bN)) (h:match(ds[j]?.join).map (gs σ.s)with
   |some (.d (.I (.A (.bool b))))=>if b=bN then Zr3 e (qB n) o σ (λy'=>an e ds (n-1) os y' K)else an e ds (n-1) os ⟨aD σ.s o.dst .no,σ.m⟩ K
   |some .no=>an e ds (n-1) os ⟨aD σ.s o.dst .no,σ.m⟩ K
   |_=>False):an e ds n (o::os) σ K:=by
 cases n with
 | zero =>
  simp only[an];refine ZuV hg ?_;split at h
  ·rename_i b hb
   try simp only[hb]
   split at h
   ·rename_i jh;rw[if_pos jh];have h:jW e o σ (λy'=>an e ds 0 os y' K):=h;simpa only[an]using h
   ·rename_i jh;rw[if_neg jh];have h:an e ds 0 os ⟨aD σ.s o.dst .no,σ.m⟩ K:=h;simpa only[an]using h
  ·rename_i hb
   try simp only[hb]
   have h:an e ds 0 os ⟨aD σ.s o.dst .no,σ.m⟩ K:=h;simpa only[an]using h
  ·exact h.elim
 |succ n =>
  simp only[an,hg];exact h
def Zle{e:Env}{ds:By}{K:GR}{n:Nat}{os:GL}{d:GM}{op:Op}{ty:TypeId}{i5:String}{ui:Array Edge}{j:Nat}{bN:Bool}{next:St->Res}(ih:∀σ,qd e ds K (next σ)->an e ds (n-1) os σ K){σ:St}
  (h:qd e ds K (wU bN (gJ e.P d ty n n os next op) (FP d next) σ ((ds[j]?.join).map (gs σ.s)))):an e ds n (⟨d,op,ty,i5,ui,some (j,bN)⟩::os) σ K:=by
 refine Zx9 rfl ?_;unfold wU at h;split at h
 ·rename_i b hb;simp only[hb];unfold C8 at h;split at h
  ·rename_i jh;rw[if_pos (by simpa using jh)];exact ZgP (o:=⟨d,op,ty,i5,ui,some (j,bN)⟩) ih (.inl rfl) h
  ·rename_i jh;rw[if_neg (by simpa using jh)];exact ih _ h
 ·rename_i hb;simp only[hb];exact ih _ h
 ·exact h.elim
def sm{e:Env}{ds:By}{K:GR}{n:Nat}{σ:St}(h:K σ):an e ds n [] σ K:=by
 cases n with
 |zero=>simp only[an];exact ZzI h
 |succ n=>exact h
def CP{e:Env}{ds:By}{K:GR}:∀(os:GL)(n:Nat)(σ:St),qd e ds K (ig e.P ds n os σ)->an e ds n os σ K
 |[],n,σ,h=>sm h
 |⟨d,op,ty,i5,ui,none⟩::os,n,σ,h=>Zqv (o:=⟨d,op,ty,i5,ui,none⟩) rfl (CP os (n-1)) h
 |⟨d,op,ty,i5,ui,some (j,bN)⟩::os,n,σ,h=>Zle (CP os (n-1)) h
def ZpN{e:Env}{ds:By}{K:GR}:∀(j:Nat)(os:GL)(n:Nat)(σ:St),qd e ds K (runN e.P ds j n os σ)->an e ds n os σ K
 |0,os,n,σ,h=>h
 |j+1,[],n,σ,h=>sm h
 |j+1,⟨d,op,ty,i5,ui,none⟩::os,n,σ,h=>Zqv (o:=⟨d,op,ty,i5,ui,none⟩) rfl (ZpN j os (n-1)) h
 |j+1,⟨d,op,ty,i5,ui,some (i,bN)⟩::os,n,σ,h=>Zle (ZpN j os (n-1)) h
def Zr6(c:A)(xs:Option (AS))(σ:St):Option (FuncId×AS×St) :=
 match t8 c,xs with
 |some (f,caps),some xs=>some (f,xs++caps.map .I,σ)
 |_,_=>none
def Zr7(c:Operand)(args:List Operand):Option St->Option (FuncId×AS×St)
 |some σ=>Zr6 (aL σ.s c) (mK (args.map (aL σ.s))) σ
 |none=>none
def uK(q:Bool)(c:Operand)(args:List Operand)(σ:St):Option (FuncId×AS×St):=Zr7 c args (eJ q (s9 (args.map (aL σ.s))) σ)
def Zr8(f:Option (FuncId×we))(k:Nat)(xs:Option (AS)):Option Bk->Option (FuncId×Nat×Nat×Nat×sh×AS)
 |some (.Υ _ ty sz rows)=>match f,xs with
  |some (f,caps),some xs=>some (f,k,ty,sz,rows,xs++caps.map .I)
  |_,_=>none
 |_=>none
def Zr9(m:it)(f:Option (FuncId×we))(xs:Option (AS)):A->Option (FuncId×Nat×Nat×Nat×sh×AS)
 |.Υ k=>Zr8 f k xs (gm m k)
 |_=>none
def Zom(c:Operand)(x0:Operand)(rest:List Operand)(σ:St):Option (FuncId×Nat×Nat×Nat×sh×AS):=Zr9 σ.m (t8 (aL σ.s c)) (mK (rest.map (aL σ.s))) (fz σ.m (aL σ.s x0))
section
variable{e:Env}{ay:Nat}{σ:St}{Q:PX->St->Prop}{ds:By}{K:GR}{os gZ:GL}{n n':Nat}{s1 s2 s3:d3}{m1 m2 m3:it}
def Fb{y':St}(h:ig e.P ds n os σ=.done y')(hK:K y'):an e ds n os σ K:=CP os n σ (by rw[h];exact hK)
def ZzJ{ks:GN}{σ y':St}(hf:eJ false ks σ=some y'):frzs ks σ=y':=by
 unfold eJ at hf;split at hf
 ·injection hf with hf
 ·simpa using hf
def Zgh{q:Bool}{c:Operand}{args:List Operand}{f:FuncId}{xs:AS}{y':St}(h1:uK q c args σ=some (f,xs,y')):∃caps ys,eJ q (s9 (args.map (aL σ.s))) σ=some y'/\t8 (aL y'.s c)=some (f,caps)/\mK (args.map (aL y'.s))=some ys/\xs=ys++caps.map .I:=by
 unfold uK Zr7 at h1;split at h1
 ·rename_i G7 hf;unfold Zr6 at h1;split at h1
  ·rename_i f' caps AX kg bJ;simp only[Taq,Prod.mk.injEq]at h1;obtain⟨rfl,rfl,rfl⟩:=h1;exact⟨caps,AX,hf,kg,bJ,rfl⟩
  ·cases h1
 ·cases h1
def ZHk{q:Bool}{c:Operand}{args:List Operand}{f:FuncId}{xs:AS}{d:GM}{r:AS}(h:ig e.P ds n os σ=.call q c args d n' gZ ⟨s1,m1⟩)(h1:uK q c args ⟨s1,m1⟩=some (f,xs,⟨s2,m2⟩))(hc:aI e f xs r)(h2:aD s2 d (aQ r)=s3)(hK:an e ds n' gZ ⟨s3,m2⟩ K):an e ds n os σ K:=by
 refine CP os n σ ?_;rw[h];intro o ts ho hd;obtain⟨caps,ys,hf,kg,bJ,rfl⟩:=Zgh h1;exact ZEf ho hf kg bJ hc (by rw[hd,h2];exact hK)
def ZEn{c:Operand}{args:List Operand}{f:FuncId}{xs:AS}{d:GM}{R:AS->Prop}(h:ig e.P ds n os σ=.call false c args d n' gZ ⟨s1,m1⟩)(h1:uK false c args ⟨s1,m1⟩=some (f,xs,⟨s2,m2⟩))(hc:fX e f xs R)(hK:∀r,R r->an e ds n' gZ ⟨aD s2 d (aQ r),m2⟩ K):an e ds n os σ K:=by
 refine CP os n σ ?_;rw[h];intro o ts ho hd;obtain⟨caps,ys,hf,kg,bJ,rfl⟩:=Zgh h1;exact Zqr (vH _ (ZzJ hf)) (λH2 G6=>by subst G6;exact ZzF ho kg bJ hc (λr hr=>by rw[hd];exact hK r hr))
def ZsH{c:Operand}{args:List Operand}{f:FuncId}{xs:AS}{d:GM}(ks bZ:GN){pm:GQ}{R:AS->GQ->Prop}(h:ig e.P ds n os σ=.call false c args d n' gZ ⟨s1,m1⟩)(h1:uK false c args ⟨s1,m1⟩=some (f,xs,⟨s2,m2⟩))(hc:aT e f xs pm R)(gV:ei m2 ks=some pm)(hpn:pm.all pinned)(hn:ks.Nodup)
  (hk:pC (ks++bZ) s2=s3) (hr:kN (ks++bZ) m2=m3) (hK:∀r bj,R r bj->an e ds n' gZ ⟨aD s3 d (aQ r),aM bZ bj++m3⟩ K):an e ds n os σ K:=by
 refine CP os n σ ?_;rw[h];intro o ts ho hd;obtain⟨caps,ys,hf,kg,bJ,rfl⟩:=Zgh h1;exact Zqr (vH _ (ZzJ hf)) (λH2 G6=>by subst G6;exact ZIi ho ks bZ hn gV hpn kg bJ hc (λr bj hR=>by rw[hd];simp only[hk,hr];exact hK r bj hR))
def Zya{c x0:Operand}{rest:List Operand}{f:FuncId}{k ty sz:Nat}{rows:sh}{xs:AS}(h1:Zom c x0 rest σ=some (f,k,ty,sz,rows,xs)):∃oa caps ys,fz σ.m (aL σ.s x0)=.Υ k/\gm σ.m k=some (.Υ oa ty sz rows)/\t8 (aL σ.s c)=some (f,caps)/\mK (rest.map (aL σ.s))=some ys/\xs=ys++caps.map .I:=by
 unfold Zom Zr9 at h1;split at h1
 ·rename_i k' hk;unfold Zr8 at h1;split at h1
  ·rename_i oa ty' lq rows0 hm;split at h1
   ·rename_i f' caps AX kg bJ;simp only[Taq,Prod.mk.injEq]at h1;obtain⟨rfl,rfl,rfl,rfl,rfl,rfl⟩:=h1;exact⟨oa,caps,AX,hk,hm,kg,bJ,rfl⟩
   ·cases h1
  ·cases h1
 ·cases h1
def ZEo{c x0:Operand}{rest:List Operand}{f:FuncId}{xs:AS}{d:GM}{k ty sz:Nat}{rows rows':sh}{r:AS}{oa:Option (BY×Nat)}(h:ig e.P ds n os σ=.call false c (x0::rest) d n' gZ ⟨s1,m1⟩)(h1:Zom c x0 rest ⟨s1,m1⟩=some (f,k,ty,sz,rows,xs))(hm:gm m1 k=some (.Υ oa ty sz rows))(hc:jH e f ty sz rows xs rows' r)(hl:rows'.length=rows.length)(h2:aD s1 d (aQ r)=s3)(h3:aA k m1=m3)(hK:an e ds n' gZ ⟨s3,(k,.Υ oa ty sz rows')::m3⟩ K):an e ds n os σ K:=by
 refine CP os n σ ?_;rw[h];intro o ts ho hd;obtain⟨oa',caps,ys,hk,hm',kg,bJ,rfl⟩:=Zya h1;exact ZIh ho rfl hk hm kg bJ hc hl (by rw[hd];simp only[h2,h3];exact hK)
def Fc{P:GR}(hT:kI e σ P)(h:∀y',P y'->an e ds 0 os y' K):an e ds 0 os σ K:=by
 simp only[an]at h⊢;exact Zx7 hT h
def FH:Res->Option (Nat×GL×d3×it)
 |.stop n os σ=>some (n,os,σ.s,σ.m)
 |_=>none
def ZzK(j:Nat)(h:FH (runN e.P ds j n os σ)=some (n',gZ,s1,m1))(hK:an e ds n' gZ ⟨s1,m1⟩ K):an e ds n os σ K:=by
 refine ZpN j os n σ ?_
 cases hr:runN e.P ds j n os σ with
 |stop n1 os1 G7 =>
  rw[hr]at h;simp only[FH,Taq,Prod.mk.injEq]at h;obtain⟨rfl,rfl,rfl,rfl⟩:=h;exact hK
 |_=>rw[hr]at h;cases h
def ZuZ{d t ty:Nat}{p:String}{ed:Array Edge}{parts:List (Nat×Operand)}{s:d3}{m:it}{cs iE:we}(hz:qm e.P t=some cs)(aZ:wG e.P t)(aq:cs.all bQ)(hf:sw e.P t cs (parts.map λp=>(p.1,aL s p.2))=some iE)
  (hK:an e ds 0 os ⟨(d,.d (.agg iE))::s,m⟩ K):an e ds 0 (⟨some d,.build t parts.toArray,ty,p,ed,none⟩::os) ⟨s,m⟩ K:=by
 simp only[an]at hK⊢;exact vG rfl (ZuU (o:=⟨some d,.build t parts.toArray,ty,p,ed,none⟩) rfl hz aZ aq hf hK)
def ZsI{id:Nat}{l:GL}{G7:St}(ks:GN)(hf:frzs ks σ=G7)(bJ:l.map (·.dst)=ds)(h:an e ds 0 l G7 (oP ay Q)):de e ay (.region id l.toArray false) σ Q :=
 rp (vH ks hf) (λy' G6=>by subst G6;exact Zol 0 rfl (by subst bJ;exact h))
def ZEp{id:Nat}{l:GL}(bJ:l.map (·.dst)=ds)(h:an e ds 0 l σ (oP ay Q)):de e ay (.region id l.toArray false) σ Q:=ZsI [] rfl bJ h
def ZzL{id:Nat}{l:GL}{G7:St}(n:Nat)(ks:GN)(hf:frzs ks σ=G7)(hr:xY l.toArray n)(bJ:l.map (·.dst)=ds)(h:an e ds n l G7 (oP ay Q)):de e ay (.region id l.toArray true) σ Q :=
 rp (vH ks hf) (λy' G6=>by subst G6;exact Zol n (by simpa using hr) (by subst bJ;exact h))
def ZEq{id:Nat}{l:GL}(n:Nat)(hr:xY l.toArray n)(bJ:l.map (·.dst)=ds)(h:an e ds n l σ (oP ay Q)):de e ay (.region id l.toArray true) σ Q:=ZzL n [] rfl hr bJ h
def Wk.refl(σ:St):Wk σ σ:=⟨λ_=>.inl rfl,λ_ _ h=>h⟩
def ZzM{c:Operand}{a b:Code}(hc:aL σ.s c=GX true)(h:de e ay a σ Q):de e ay (.cond c a b) σ Q:=ZsF hc (λ_=>h) (λh=>by cases h)
def ZzN{c:Operand}{a b:Code}(hc:aL σ.s c=GX false)(h:de e ay b σ Q):de e ay (.cond c a b) σ Q:=ZsF hc (λh=>by cases h) (λ_=>h)
def Zon{P:Program}{ts:List RS}{r:AS}(h:oQ P σ ts r):vB P ts r .ret σ:=⟨[],h⟩
def ZIj{P:Program}{ts:List RS}{r:AS}{G7:St}(ks:GN)(hf:frzs ks σ=G7)(h:oQ P G7 ts r):vB P ts r .ret σ:=⟨ks,by rw[hf];exact h⟩
end
section
variable{P:Program}{d:GM}{ds:By}{os:GL}{q n:Nat}{ty:TypeId}{nx:St->Res}{s:d3}{m:it}{σ:St}
def pJ(nx:St->Res)(s:d3)(m:it)(d:GM):Option A->Res
 |some α=>nx ⟨aD s d α,m⟩
 |none=>.bad
def sn{x:Option A}:ql (sc ⟨s,m⟩ d x) nx=pJ nx s m d x:=by cases x<;>rfl
def ZzO:ig P ds n [] ⟨s,m⟩=.done ⟨s,m⟩:=rfl
def ro_n{op:Op}{t:TypeId}{p:String}{a:Array Edge}:ig P ds n (⟨d,op,t,p,a,none⟩::os) ⟨s,m⟩=gJ P d t (n-1) n os (ig P ds (n-1) os) op ⟨s,m⟩:=rfl
def ro_g{op:Op}{t:TypeId}{p:String}{a:Array Edge}{j:Nat}{w:Bool}:ig P ds n (⟨d,op,t,p,a,some (j,w)⟩::os) ⟨s,m⟩=wU w (gJ P d t n n os (ig P ds (n-1) os) op) (FP d (ig P ds (n-1) os)) ⟨s,m⟩ ((ds[j]?.join).map (gs s)):=rfl
def sk_r:FP d nx ⟨s,m⟩=nx ⟨aD s d .no,m⟩:=rfl
def ZzQ{x:Operand}:gJ P d ty q n os nx (.move x) ⟨s,m⟩=nx ⟨aD s d (aL s x),m⟩:=rfl
def ZzR{c a b:Operand}:gJ P d ty q n os nx (.pick c a b) ⟨s,m⟩=pJ nx s m d (Zr0 (aL s a) (aL s b) (aL s c)):=sn
def ZzS{t:TypeId}{x:Operand}:gJ P d ty q n os nx (.load t x) ⟨s,m⟩=pJ nx s m d (vV (rm P t) (jz m (fz m (aL s x)))):=sn
def ZmT{t:TypeId}{x:Operand}{f:Nat}:gJ P d ty q n os nx (.fieldAddr t x f) ⟨s,m⟩=pJ nx s m d (vN (aL s x) (jQ P t f)):=sn
def ZvY{t:TypeId}{x:Operand}{f:Nat}:gJ P d ty q n os nx (.field t x f) ⟨s,m⟩=pJ nx s m d (FF P (aL s x) (jQ P t f)):=sn
def ZmU{t:TypeId}{x i:Operand}:gJ P d ty q n os nx (.indexAddr t x i) ⟨s,m⟩=pJ nx s m d (yw m (kK P t) (fz m (aL s x)) (aL s i)):=sn
def ZvZ{t:TypeId}{x i:Operand}:gJ P d ty q n os nx (.index t x i) ⟨s,m⟩=pJ nx s m d (FG (P.underlying t) (aL s x) (aL s i)):=sn
def ZFC{op:BinOp}{t t':TypeId}{x y:Operand}:gJ P d ty q n os nx (.binOp op t x y t') ⟨s,m⟩=pJ nx s m d (uP P t op (aL s x) (aL s y)):=sn
def R_un{op:UnOp}{t:TypeId}{x:Operand}:gJ P d ty q n os nx (.unOp op t x) ⟨s,m⟩=pJ nx s m d (GJ op (aL s x)):=sn
def Zqw{x:Operand}{i:Nat}:gJ P d ty q n os nx (.extract x i) ⟨s,m⟩=pJ nx s m d (Fp i (aL s x)):=sn
def ZFD{x:Operand}:gJ P d ty q n os nx (.nilCheck x) ⟨s,m⟩=pJ nx s m d (mZ (aL s x)):=sn
def ZzT{a b:TypeId}{x:Operand}:gJ P d ty q n os nx (.convert a b x) ⟨s,m⟩=pJ nx s m d (FN P a b (aL s x)):=sn
def Zv0{t:TypeId}{x:Operand}{lo hi mx:Option Operand}:gJ P d ty q n os nx (.slice t x lo hi mx) ⟨s,m⟩=pJ nx s m d (Cz P t (aL s x) (lo.map (aL s)) (hi.map (aL s)) (mx.map (aL s))):=sn
def ZFE{args:List Operand}{ts:Array TypeId}:gJ P d ty q n os nx (.call ⟨.builtin .len,args.toArray,ts⟩) ⟨s,m⟩=pJ nx s m d (kp m (n7 P ts) (args.map λx=>fz m (aL s x))):=sn
def ZFF{args:List Operand}{ts:Array TypeId}:gJ P d ty q n os nx (.call ⟨.builtin .max,args.toArray,ts⟩) ⟨s,m⟩=pJ nx s m d (vv (args.map (aL s))):=sn
def ZFG{args:List Operand}{ts:Array TypeId}:gJ P d ty q n os nx (.call ⟨.builtin .min,args.toArray,ts⟩) ⟨s,m⟩=pJ nx s m d (vw (args.map (aL s))):=sn
def ZzU{c:Operand}{args:List Operand}{ts:Array TypeId}:gJ P d ty q n os nx (.call ⟨.value c,args.toArray,ts⟩) ⟨s,m⟩=.call (qB n) c args d (n-1) os ⟨s,m⟩:=rfl
def Zop(nx:St->Res)(d:GM)(f:d3->it->Option A):Option St->Res
 |some σ=>pJ nx σ.s σ.m d (f σ.s σ.m)
 |none=>.bad
def Zv1{f:d3->it->Option A}:Zop nx d f (some ⟨s,m⟩)=pJ nx s m d (f s m):=rfl
def Znt{op:Op}{x:Option St}{f:d3->it->Option A}(h:∀s m,zK P m (aL s) op=f s m):ql (Bs P d op x) nx=Zop nx d f x:=by
 cases x with
 |none=>rfl
 |some σ =>
  obtain⟨s',m'⟩:=σ;show ql (sc ⟨s',m'⟩ d (zK P m' (aL s') op)) nx=_;rw[sn,h];rfl
def Zv2{t:TypeId}{parts:List (Nat×Operand)}:gJ P d ty q n os nx (.build t parts.toArray) ⟨s,m⟩=Zop nx d (λs m=>FC P t (parts.map λp=>(p.1,aL s p.2))) (eJ (qB n) (s9 (parts.map λp=>aL s p.2)) ⟨s,m⟩):=Znt (λ_ _=>rfl)
def Zlg{t:TypeId}{k:Nat}{parts:List (Nat×Operand)}:gJ P d ty q n os nx (.buildSlice t k parts.toArray) ⟨s,m⟩=Zop nx d (λs m=>Fj (jT P t) k (parts.map λp=>(p.1,aL s p.2))) (eJ (qB n) (s9 (parts.map λp=>aL s p.2)) ⟨s,m⟩):=Znt (λ_ _=>rfl)
def Zoq{f:FuncId}{caps:List Operand}:gJ P d ty q n os nx (.makeFunc (.func f) #[] caps.toArray) ⟨s,m⟩=Zop nx d (λs m=>FX f (qt (caps.map (aL s)))) (eJ (qB n) (s9 (caps.map (aL s))) ⟨s,m⟩):=Znt (λ_ _=>rfl)
def Zv3{k:Nat}{ks:GN}:eJ false (k::ks) σ=some (frzs (k::ks) σ):=rfl
def Zv4{k:Nat}{ks:GN}:frzs (k::ks) ⟨s,m⟩=frzs ks (xf k ⟨s,m⟩ (gm m k)):=rfl
def Zv5{k:Nat}{bk:Bk}:xf k ⟨s,m⟩ (some bk)=⟨io k bk s,aA k m⟩:=rfl
def Zv6{k:Nat}:xf k ⟨s,m⟩ none=⟨s,m⟩:=rfl
def ZsJ{k:Nat}{bk:Bk}:im k bk .undef=.undef:=rfl
def ZFH{k:Nat}{bk:Bk}:im k bk .no=.no:=rfl
def fA_d{k:Nat}{bk:Bk}{x:D}:im k bk (.d x)=.d x:=rfl
def ZzY{k:Nat}{bk:Bk}{x:AS}:im k bk (.tup x)=.tup x:=rfl
def ZFJ{k k' off e sz:Nat}{o:Option (BY×Nat)}{rows:sh}:im k (.Υ o e sz rows) (.ref k' off)=if k'=k then .undef else .ref k' off:=rfl
def ZFK{k k':Nat}{o:GM}{cs:we}:im k (.var o cs) (.Υ k')=if k'=k then .undef else .Υ k':=rfl
def ky_d{x:D}:n6 (.d x)=[]:=rfl
def Zz2{k j sz off:Nat}:n6 (.row k j sz off)=[]:=rfl
def Zv9{t:TypeId}:gJ P d ty q n os nx (.alloc t) ⟨s,m⟩=ql (if qB q=true then none else oe ⟨s,m⟩ d (jU P t)) nx:=rfl
def ZFM{t:TypeId}{x:Operand}:gJ P d ty q n os nx (.box t x) ⟨s,m⟩=ql (if qB n=true then none else Zmg d x (eJ (qB n) (n6 (aL s x)) ⟨s,m⟩)) nx:=rfl
def Zwa{t:TypeId}{x y:Operand}:gJ P d ty q n os nx (.store t x y) ⟨s,m⟩=ql (if qB n=true then none else ZiJ P d t x y (eJ (qB n) (n6 (aL s y)) ⟨s,m⟩)) nx:=rfl
def ZsL{x:Operand}:gJ P d ty q n os nx (.assign x) ⟨s,m⟩=ql (if qB n=true then none else wP P ⟨s,m⟩ d ty (aL s x)) nx:=rfl
def ZmV{t:TypeId}{l c:Operand}:gJ P d ty q n os nx (.makeSlice t l c) ⟨s,m⟩=ql (if qB n=true then none else CY P ⟨s,m⟩ d t (aL s l) (aL s c)) nx:=rfl
def ZsM{args:List Operand}{ts:Array TypeId}:gJ P d ty q n os nx (.call ⟨.builtin .append,args.toArray,ts⟩) ⟨s,m⟩=ql (if qB n=true then none else Fr P ⟨s,m⟩ d ts (args.map λx=>fz m (aL s x))) nx:=rfl
def Zz4{k:Nat}{cs:we}:oe ⟨s,m⟩ (some k) (some cs)=some ⟨(k,.ref k 0)::bX k s,(k,.var none cs)::aA k m⟩:=rfl
def Zwb{x:Operand}:Zmg d x (some ⟨s,m⟩)=oe ⟨s,m⟩ d (pG (aL s x)):=rfl
def Zwc{t:TypeId}{x y:Operand}:ZiJ P d t x y (some ⟨s,m⟩)=FD ⟨s,m⟩ d (fz m (aL s x)) (pG (aL s y)) (sR P t):=rfl
def ZFN{k off k2:Nat}{us:we}:FD ⟨s,m⟩ none (.ref k off) (some us) (some k2)=storeVar ⟨s,m⟩ k off k2 us (gm m k):=rfl
def ZFO{k j sz off k2:Nat}{us:we}:FD ⟨s,m⟩ none (.row k j sz off) (some us) (some k2)=storeRow ⟨s,m⟩ k j sz off k2 us (gm m k):=rfl
def ZFP{o:GM}{k off k2:Nat}{us cs:we}:storeVar ⟨s,m⟩ k off k2 us (some (.var o cs))=if us.length=k2/\off+k2<=cs.length then some ⟨s,(k,.var o (cs.take off++us++cs.drop (off+k2)))::aA k m⟩else none:=rfl
def ZsN(s:d3)(m:it)(o:Option (BY×Nat))(k j e sz off k2:Nat)(us:we)(rows:sh):Option (we)->Option St
 |some r=>if us.length=k2/\off+k2<=r.length then some ⟨s,(k,.Υ o e sz (rows.set j (r.take off++us++r.drop (off+k2))))::aA k m⟩else none
 |none=>none
def ZFQ{o:Option (BY×Nat)}{k j sz lq off k2 e:Nat}{us:we}{rows:sh}:storeRow ⟨s,m⟩ k j sz off k2 us (some (.Υ o e lq rows))=if lq=sz then ZsN s m o k j e sz off k2 us rows rows[j]? else none:=by
 simp only[storeRow];split
 ·unfold ZsN;cases rows[j]?<;>rfl
 ·rfl
def ZFR{k:Nat}{c:C}:wP P ⟨s,m⟩ (some k) ty (GY c)=some ⟨(k,GY c)::s,m⟩:=rfl
def ZFS{k:Nat}{c:we}:wP P ⟨s,m⟩ (some k) ty (.d (.agg c))=some ⟨(k,.d (.agg c))::s,m⟩:=rfl
def Zz5{k:Nat}{r:we}{rs:sh}:wP P ⟨s,m⟩ (some k) ty (.d (.Ζ (r::rs)))=some ⟨(k,.d (.Ζ (r::rs)))::s,m⟩:=rfl
def ZFT{k:Nat}:wP P ⟨s,m⟩ (some k) ty (.d (.Ζ []))=xU ⟨s,m⟩ k (jT P ty):=rfl
def ZFU{k:Nat}{x:AS}:wP P ⟨s,m⟩ (some k) ty (.tup x)=some ⟨(k,.tup x)::s,m⟩:=rfl
def ZFV{k k' off:Nat}:wP P ⟨s,m⟩ (some k) ty (.ref k' off)=some ⟨(k,.ref k' off)::s,m⟩:=rfl
def ZFW{k k':Nat}:wP P ⟨s,m⟩ (some k) ty (.Υ k')=Zmf ⟨s,m⟩ k' k (gm m k'):=rfl
def Zwf{o:Option (BY×Nat)}{k k' e sz:Nat}{rows:sh}:Zmf ⟨s,m⟩ k k' (some (.Υ o e sz rows))=if k=k' then some ⟨(k',.Υ k')::s,m⟩else some (ownE ⟨s,m⟩ k k' (.Υ o e sz rows)):=rfl
def Zwg{k e sz b:Nat}:xU ⟨s,m⟩ k (some (e,sz,b))=some ⟨(k,.Υ k)::bX k s,(k,.Υ none e sz [])::aA k m⟩:=rfl
def Zwh{k:Nat}:xU ⟨s,m⟩ k none=some ⟨(k,.d (.Ζ []))::s,m⟩:=rfl
def ZFX{k k':Nat}{bk:Bk}:ownE ⟨s,m⟩ k k' bk=⟨(k',.Υ k')::bX k' (bX k s),(k',bk)::aA k' (aA k m)⟩:=rfl
def kl_d{k t:Nat}{x:D}{r:d3}:bX k ((t,.d x)::r)=(t,.d x)::bX k r:=rfl
def ZAa{k t:Nat}{x:AS}{r:d3}:bX k ((t,.tup x)::r)=(t,.tup x)::bX k r:=rfl
def ZsO{k t:Nat}{r:d3}:bX k ((t,.undef)::r)=(t,.undef)::bX k r:=rfl
def ZFY{k t:Nat}{r:d3}:bX k ((t,.no)::r)=(t,.no)::bX k r:=rfl
def xb(s:d3)(m:it)(k e sz:Nat)(y:A)(ys:sh):A->Option St
 |.Υ k'=>if Zoc k' y=true then none else Zju ⟨s,m⟩ k k' e sz ys (gm m k')
 |.d (.Ζ rows)=>if ZaD sz rows=true/\rows.length+ys.length<=al/\(rows.isEmpty || !ys.isEmpty)=true then some ⟨(k,.Υ k)::bX k s,(k,.Υ none e sz (rows++ys))::aA k m⟩else none
 |_=>none
def zM(s:d3)(m:it)(k:Nat)(x y:A):Option (TypeId×Nat×Nat)->Option (sh)->Option St
 |some (e,sz,_),some ys=>if ZaD sz ys=true then xb s m k e sz y ys x else none
 |_,_=>none
def ZFZ {k:Nat} {t:TypeId} {x y:A}:Fr P ⟨s,m⟩ (some k) #[t,t] [x,y]=zM s m k x y (jT P t) (oI m y):=by
 unfold Fr zM;simp only[List.getElem?_toArray,Tat,Tau,if_true]
 cases jT P t with
 |none=>rfl
 | some b =>
  obtain⟨e,sz,b⟩:=b
  cases oI m y with
  |none=>rfl
  | some ys =>
   simp only;split
   ·cases x with
    |d x=>cases x<;>rfl
    |_=>rfl
   ·rfl
def Zwl{o:Option (BY×Nat)}{k k' e e' sz lq:Nat}{ys rows:sh}:Zju ⟨s,m⟩ k k' e sz ys (some (.Υ o e' lq rows))=if e'=e/\lq=sz/\rows.length+ys.length<=al then some (ownE ⟨s,m⟩ k' k (.Υ none e' sz (rows++ys)))else none:=rfl
def ib_d{k:Nat}{x:D}:Zoc k (.d x)=false:=rfl
def Zsa(s:d3)(m:it)(k e sz:Nat)(a b:Int):Option (we)->Option St
 |some z=>if a=b/\0<=a/\a<=al/\z.all bQ=true then some ⟨(k,.Υ k)::bX k s,(k,.Υ none e sz (List.replicate a.toNat z))::aA k m⟩else none
 |none=>none
def Zyb(P:Program)(s:d3)(m:it)(k:Nat):Option Int->Option Int->Option (TypeId×Nat×Nat)->Option St
 |some a,some b,some (e,sz,_)=>Zsa s m k e sz a b (jU P e)
 |_,_,_=>none
def ZF0 {k:Nat} {t:TypeId} {l c:A}:CY P ⟨s,m⟩ (some k) t l c=Zyb P s m k (ju l) (ju c) (jT P t):=by
 unfold CY Zyb
 cases ju l with
 |none=>rfl
 | some a =>
  cases ju c with
  |none=>rfl
  | some b =>
   cases jT P t with
   |none=>rfl
   |some q =>
    obtain⟨e,sz,q⟩:=q;simp only[Zsa]
    cases jU P e<;>rfl
def ZF2{k:IntKind}{i:Int}:wO (.int k i)=GY (.A (.int k i)):=rfl
def ZAg{b:Bool}:wO (.bool b)=GX b:=rfl
def ZF3{b:ByteArray}:wO (.string b)=GY (.A (.string b)):=rfl
def ZF4{p:BY}:wO (.pointer p)=GY (.A (.pointer p)):=rfl
def ZF5{l:GK}:wO (.agg l.toArray)=.d (.agg (l.map ux)):=rfl
def Zwp{k:IntKind}{i:Int}:ux (.int k i)=.A (.int k i):=rfl
def Zwq{b:ByteArray}:ux (.string b)=.A (.string b):=rfl
def ZsP{b:Bool}:ux (.bool b)=GV b:=rfl
def Zwr{p:BY}:ux (.pointer p)=.A (.pointer p):=rfl
def ZGi{rows:sh}:kp m (some true) [GY (.sl rows)]=some (GU rows.length):=rfl
def ZGj{rows:sh}:kp m (some true) [.d (.Ζ rows)]=some (GU rows.length):=rfl
def ZGk{k:Nat}:kp m (some true) [.Υ k]=vj (rC (gm m k)):=rfl
def ZsQ(sz:Nat)(r:Option (sh)):Option (we)->Option (sh)
 |some cs=>if cs.length=sz then r.map (cs::·)else none
 |none=>none
def ZwD{sz i j:Nat}{x:A}{r:d3}:wM sz i ((j,x)::r)=if i=j then ZsQ sz (wM sz (i+1) r) (pG x)else none:=by
 show(if i=j then _ else _)=_;unfold ZsQ;split
 ·cases pG x<;>rfl
 ·rfl
def ZsR(P:Program)(t:TypeId)(parts:d3):Bool->Option (we)->Option A
 |true,some cs=>if cs.all bQ=true then wY (sw P t cs parts)else none
 |_,_=>none
def ZGq{t:TypeId}{parts:d3}:FC P t parts=ZsR P t parts (wG P t) (jU P t):=by
 unfold FC ZsR
 cases wG P t<;>cases jU P t<;>rfl
def Zyc(P:Program)(t:TypeId)(cs:we)(r:d3):Option (Nat×TypeId)->Option (we)->Option (we)
 |some (off,ft),some us=>if sR P ft=some us.length/\off+us.length<=cs.length then sw P t (cs.take off++us++cs.drop (off+us.length)) r else none
 |_,_=>none
def ZwH{t:TypeId}{cs:we}{f:Nat}{x:A}{r:d3}:sw P t cs ((f,x)::r)=Zyc P t cs r (jQ P t f) (pG x):=by
 conv=>lhs;unfold sw
 unfold Zyc;rcases jQ P t f with _|⟨off,ft⟩<;>cases pG x<;>rfl
def FT(n:Int):Option TypeDesc->Option IntKind->Option A
 |some _,some k=>some (GY (.A (.int k (k.wrap n))))
 |_,_=>none
def ZAw{a b:TypeId}{k:IntKind}{j:Int}:FN P a b (GY (.A (.int k j)))=FT j (P.underlying a) (zm (P.underlying b)):=by
 unfold FN FT
 cases P.underlying a<;>cases zm (P.underlying b)<;>rfl
def Zos(lo hi mx:Option A)(k:Nat):Option (sh)->Option A
 |some rows=>if ZaD k rows=true/\(mx.isNone||hi.isSome)=true then dA (C0 rows (sa lo) (rQ rows.length hi) (mx.map ju))else none
 |none=>none
def Zot(P:Program)(t:TypeId)(x:A)(lo hi mx:Option A):GM->Option A
 |some k=>Zos lo hi mx k (Bj x)
 | none=>if Zn9 (P.underlying t)/\mx=none then match AQ x with
   |some s=>dA (Zmc s (sa lo) (rQ s.size hi))
   |none=>none
  else none
def Zyd{t:TypeId}{x:A}{lo hi mx:Option A}:Cz P t x lo hi mx=Zot P t x lo hi mx (kK P t):=by
 unfold Cz Zot Zos
 cases kK P t with
 |none=>rfl
 |some k=>cases Bj x<;>rfl
def ZAB{k:IntKind}{i:Int}:bQ (.A (.int k i)):=rfl
def ZwU{b:Bool}:bQ (GV b):=rfl
def ZAC{b:ByteArray}:bQ (.A (.string b)):=rfl
def ZAD{b:GM}:bQ (.A (.map b)):=rfl
def ZGr{b:BY}:bQ (.A (.pointer b)):=rfl
def ZAE{a:BY}{n c:Nat}:bQ (.A (.slice a n c)):=rfl
def ZGu{q:Bool}{c:Operand}{args:List Operand}:uK q c args ⟨s,m⟩=Zr7 c args (eJ q (s9 (args.map (aL s))) ⟨s,m⟩):=rfl
def cp_s{c:Operand}{args:List Operand}:Zr7 c args (some ⟨s,m⟩)=Zr6 (aL s c) (mK (args.map (aL s))) ⟨s,m⟩:=rfl
def cp_x{f:FuncId}{caps:we}{xs:AS}:Zr6 (GY (.fn f caps)) (some xs) σ=some (f,xs++caps.map .I,σ):=rfl
def ZGv{c x0:Operand}{rest:List Operand}:Zom c x0 rest ⟨s,m⟩=Zr9 m (t8 (aL s c)) (mK (rest.map (aL s))) (fz m (aL s x0)):=rfl
def ZwW{t:Nat}:na P ⟨s,m⟩ (.slot t)=gs s t:=rfl
def ZwX{t k:Nat}:na P ⟨s,m⟩ (.cell t k)=(vV (rm P k) (jz m (gs s t))).getD .undef:=rfl
def ZGy{x y:D}{r:AS}:aQ (x::y::r)=.tup (x::y::r):=rfl
def r_no:aQ []=.tup []:=rfl
def ZAH{t:TypeId}{a b:Int}:dB P .add t (.int .i64 a) (.int .i64 b)=some (.int .i64 (IntKind.i64.wrap (a+b))):=rfl
def ZAI{t:TypeId}{a b:Int}:dB P .sub t (.int .i64 a) (.int .i64 b)=some (.int .i64 (IntKind.i64.wrap (a-b))):=rfl
def ZAJ{t:TypeId}{a b:Int}:dB P .mul t (.int .i64 a) (.int .i64 b)=some (.int .i64 (IntKind.i64.wrap (a*b))):=rfl
def ZAK{t:TypeId}{a b:Int}:dB P .lss t (.int .i64 a) (.int .i64 b)=some (.bool (decide (a<b))):=rfl
def ZAL{t:TypeId}{a b:Int}:dB P .leq t (.int .i64 a) (.int .i64 b)=some (.bool (decide (a<=b))):=rfl
def ZAM{t:TypeId}{a b:Int}:dB P .gtr t (.int .i64 a) (.int .i64 b)=some (.bool (decide (b<a))):=rfl
def ZAN{t:TypeId}{a b:Int}:dB P .geq t (.int .i64 a) (.int .i64 b)=some (.bool (decide (b<=a))):=rfl
def ZAO{t:TypeId}{a b:Int}:dB P .eql t (.int .i64 a) (.int .i64 b)=some (.bool (decide (a=b))):=rfl
def ZAP{t:TypeId}{a b:Int}:dB P .neq t (.int .i64 a) (.int .i64 b)=some (.bool (!decide (a=b))):=rfl
def ZAQ{t:TypeId}{a b:Int}:dB P .lss t (.int .u8 a) (.int .u8 b)=some (.bool (decide (a<b))):=rfl
def ZAR{t:TypeId}{a b:Int}:dB P .leq t (.int .u8 a) (.int .u8 b)=some (.bool (decide (a<=b))):=rfl
def ZAS{t:TypeId}{a b:Int}:dB P .gtr t (.int .u8 a) (.int .u8 b)=some (.bool (decide (b<a))):=rfl
def ZAT{t:TypeId}{a b:Int}:dB P .geq t (.int .u8 a) (.int .u8 b)=some (.bool (decide (b<=a))):=rfl
def ZAU{t:TypeId}{a b:Int}:dB P .eql t (.int .u8 a) (.int .u8 b)=some (.bool (decide (a=b))):=rfl
def ZAV{t:TypeId}{a b:Int}:dB P .neq t (.int .u8 a) (.int .u8 b)=some (.bool (!decide (a=b))):=rfl
def ZAW{t:TypeId}{a b:ByteArray}:dB P .eql t (.string a) (.string b)=some (.bool (a.toList==b.toList)):=rfl
def ZAX{t:TypeId}{a b:ByteArray}:dB P .neq t (.string a) (.string b)=some (.bool (!(a.toList==b.toList))):=rfl
def ZAY{t:TypeId}{a b:ByteArray}:dB P .lss t (.string a) (.string b)=some (.bool (Go.Op.bytesLess a.toList b.toList)):=rfl
def ZA1{t:TypeId}{a b:Int}:dB P .and t (.int .i64 a) (.int .i64 b)=some (.int .i64 (bits .and .i64 a b)):=rfl
def ZGz{t:TypeId}{a b:Int}:dB P .or t (.int .i64 a) (.int .i64 b)=some (.int .i64 (bits .or .i64 a b)):=rfl
def ZA2{t:TypeId}{a b:Int}:dB P .xor t (.int .i64 a) (.int .i64 b)=some (.int .i64 (bits .xor .i64 a b)):=rfl
def Zqx{t:TypeId}{a b:Int}:dB P .andNot t (.int .i64 a) (.int .i64 b)=some (.int .i64 (bits .andNot .i64 a b)):=rfl
def ZA3{t:TypeId}{k:IntKind}{a b:Int}:dB P .shl t (.int .i64 a) (.int k b)=if 0<=b then some (.int .i64 (IntKind.i64.wrap (a*2 ^ (min b.toNat 64))))else none:=rfl
def ZA4{t:TypeId}{k:IntKind}{a b:Int}:dB P .shr t (.int .i64 a) (.int k b)=if 0<=b then some (.int .i64 (a.fdiv (2 ^ (min b.toNat 64))))else none:=rfl
def ZA5{t:TypeId}{a b:Int}:dB P .quo t (.int .i64 a) (.int .i64 b)=if b=0 then none else some (.int .i64 (IntKind.i64.wrap (a.tdiv b))):=rfl
def ZA6{t:TypeId}{a b:Int}:dB P .rem t (.int .i64 a) (.int .i64 b)=if b=0 then none else some (.int .i64 (a.tmod b)):=rfl
def ZA7{t:TypeId}{a b:ByteArray}:dB P .add t (.string a) (.string b)=if a.size+b.size<=9223372036854775807 then some (.string (a++b))else none:=rfl
def nr_p{cs:we}:fz m (GY (.ptr cs))=GY (.ptr cs):=rfl
def nr_s{rows:sh}:fz m (GY (.sl rows))=GY (.sl rows):=rfl
def nr_c{rows:sh}:fz m (.d (.Ζ rows))=.d (.Ζ rows):=rfl
def nr_i{k:IntKind}{i:Int}:fz m (GY (.A (.int k i)))=GY (.A (.int k i)):=rfl
def ZBb{b:ByteArray}:fz m (GY (.A (.string b)))=GY (.A (.string b)):=rfl
def ZBc{k off:Nat}:fz m (.ref k off)=.ref k off:=rfl
def ZBd{k:Nat}:fz m (.Υ k)=.Υ k:=rfl
def ZBe{k j sz off:Nat}:fz m (.row k j sz off)=.row k j sz off:=rfl
def ZBh{b k:Nat}{cs:we}{r:it}:mi b ((k,.var none cs)::r)=mi b r:=rfl
def ZBi{b k e sz:Nat}{o:Option (BY×Nat)}{rows:sh}{r:it}:mi b ((k,.Υ o e sz rows)::r)=mi b r:=rfl
def ZBj{b k:Nat}{E:GO}{G:World->Prop}{r:it}:mi b ((k,.set E G)::r)=mi b r:=rfl
def ZBm{p:BY}{k cap k' e sz:Nat}{rows:sh}{r:it}:j8 p k cap ((k',.Υ none e sz rows)::r)=j8 p k cap r:=rfl
def ZBn{p:BY}{k cap k':Nat}{o:GM}{cs:we}{r:it}:j8 p k cap ((k',.var o cs)::r)=j8 p k cap r:=rfl
def ZBo{p:BY}{k cap k':Nat}{E:GO}{G:World->Prop}{r:it}:j8 p k cap ((k',.set E G)::r)=j8 p k cap r:=rfl
def rn_0:runN P ds 0 n os ⟨s,m⟩=.stop n os ⟨s,m⟩:=rfl
def rn_n{j:Nat}{op:Op}{t:TypeId}{p:String}{a:Array Edge}:runN P ds (j+1) n (⟨d,op,t,p,a,none⟩::os) ⟨s,m⟩=gJ P d t (n-1) n os (runN P ds j (n-1) os) op ⟨s,m⟩:=rfl
def rn_g{j:Nat}{op:Op}{t:TypeId}{p:String}{a:Array Edge}{i:Nat}{w:Bool}:runN P ds (j+1) n (⟨d,op,t,p,a,some (i,w)⟩::os) ⟨s,m⟩=wU w (gJ P d t n n os (runN P ds j (n-1) os) op) (FP d (runN P ds j (n-1) os)) ⟨s,m⟩ ((ds[i]?.join).map (gs s)):=rfl
def st_o:FH (.stop n os ⟨s,m⟩)=some (n,os,s,m):=rfl
def lv_d{k b:Nat}{x:D}:mY k b (.d x)=.d x:=rfl
def ZBu{k b k':Nat}:mY k b (.Υ k')=.Υ k':=rfl
def ZBv{k b k' j sz off:Nat}:mY k b (.row k' j sz off)=.row k' j sz off:=rfl
def ZBw{k b:Nat}{xs:AS}:mY k b (.tup xs)=.tup xs:=rfl
def ZGC{k b:Nat}:mY k b .no=.no:=rfl
def ZGD{k b:Nat}:mY k b .undef=.undef:=rfl
def lb_d{k k2 cap:Nat}{p:BY}{x:D}:jv k p k2 cap (.d x)=.d x:=rfl
def ZBy{k k2 cap k' off:Nat}{p:BY}:jv k p k2 cap (.ref k' off)=.ref k' off:=rfl
def ZBz{k k2 cap k' j sz off:Nat}{p:BY}:jv k p k2 cap (.row k' j sz off)=.row k' j sz off:=rfl
def ZBA{k k2 cap:Nat}{p:BY}{xs:AS}:jv k p k2 cap (.tup xs)=.tup xs:=rfl
def ZGE{k k2 cap:Nat}{p:BY}:jv k p k2 cap .no=.no:=rfl
def ZGF{k k2 cap:Nat}{p:BY}:jv k p k2 cap .undef=.undef:=rfl
def ZBD{xs:GQ}:aM [] xs=[]:=rfl
def ZGG{ks:GN}:aM ks []=[]:=by cases ks<;>rfl
def Dl:Option Bk->Option (GQ)->Option (GQ)
 |some x,some r=>some (x::r)
 |_,_=>none
def Zw4{k:Nat}{ks:GN}:ei m (k::ks)=Dl (gm m k) (ei m ks):=by
 show(match gm m k,ei m ks with|some x,some r=>some (x::r)|_,_=>none)=_
 cases gm m k<;>cases ei m ks<;>rfl
def ZBI{p:BY}{k cap:Nat}{rows:sh}{kk:IntKind}{i:Int}:iW p k cap rows (.A (.int kk i))=.A (.int kk i):=rfl
def ZBJ{p:BY}{k cap:Nat}{rows:sh}{b:ByteArray}:iW p k cap rows (.A (.string b))=.A (.string b):=rfl
def Zw5{p:BY}{k cap:Nat}{rows:sh}{b:Bool}:iW p k cap rows (GV b)=GV b:=rfl
def ZBK{p:BY}{k cap:Nat}{rows:sh}{q:BY}:iW p k cap rows (.A (.pointer q))=.A (.pointer q):=rfl
def ZBL{p:BY}{k cap:Nat}{rows:sh}{q:GM}:iW p k cap rows (.A (.map q))=.A (.map q):=rfl
def dc_s{p:BY}{k cap:Nat}{rows rs:sh}:iW p k cap rows (.sl rs)=.sl rs:=rfl
def dc_p{p:BY}{k cap:Nat}{rows:sh}{cs:we}:iW p k cap rows (.ptr cs)=.ptr cs:=rfl
def dc_f{p:BY}{k cap:Nat}{rows:sh}{f:FuncId}{cs:we}:iW p k cap rows (.fn f cs)=.fn f cs:=rfl
def ZBO{p:BY}{k cap k' off:Nat}{rows:sh}:rD p k cap rows (.ref k' off)=.ref k' off:=rfl
def unD:A->Option D
 |.d x=>some x
 |_=>none
def Zsb:Option D->Option (AS)->Option (AS)
 |some x,some r=>some (x::r)
 |_,_=>none
def lY(P:Program)(σ:St):List RS->Option (AS)
 |[]=>some []
 |t::ts=>Zsb (unD (na P σ t)) (lY P σ ts)
def ZBS:lY P ⟨s,m⟩ []=some []:=rfl
def Zw8{t:RS}{ts:List RS}:lY P ⟨s,m⟩ (t::ts)=Zsb (unD (na P ⟨s,m⟩ t)) (lY P ⟨s,m⟩ ts):=rfl
end
def CC{P:Program}{σ:St}:∀{ts:List RS}{r:AS},lY P σ ts=some r->oQ P σ ts r
 |[],r,h=>by simp only[lY,Taq]at h;subst h;trivial
 | t::ts,r,h=>by
  simp only[lY]at h;unfold Zsb at h;split at h
  ·rename_i x r' hx hr;injection h with h;subst h
   refine⟨?_,CC hr⟩;unfold unD at hx;split at hx
   ·rename_i y hy;injection hx with hx;subst hx;exact hy
   ·cases hx
  ·cases h
end Go.Proofs.YtaenibhihgfehaaGreatDoor
set_option maxRecDepth 10000
namespace Go.Proofs.YtaenibhihgfehaaGreatDoor
open Go.RowKit
def tI(t:Nat):Prop:=rm Tryz.prog t=some .I/\sR Tryz.prog t=some 1
def tS(t e a b c:Nat):Prop:=tI t/\jU Tryz.prog t=some [.sl []]/\kK Tryz.prog t=some e/\n7 Tryz.prog #[t]=some true/\jT Tryz.prog t=some (a,b,c)
def tA(t n:Nat)(z:we):Prop:=rm Tryz.prog t=some (.agg n)/\sR Tryz.prog t=some n/\jU Tryz.prog t=some z/\wG Tryz.prog t=true
def tO(t j a b:Nat):Prop:=jQ Tryz.prog t j=some (a,b)
def z0:C:=GS 0
def z1:C:=.A (.string ByteArray.empty)
def z2:C:=.sl []
def z3:C:=.A (.slice none 0 0)
def uu_0:tI 2/\(jU Tryz.prog 2=some [z0])/\tI 3/\(jU Tryz.prog 3=some [z0])/\tI 4/\(jU Tryz.prog 4=some [GV false])/\(Tryz.prog.underlying 4=some .bool)/\tI 5/\(jU Tryz.prog 5=some [.A (.int .u8 0)])/\tI 9/\(jU Tryz.prog 9=some [z1])/\(n7 Tryz.prog #[9]=some false)/\(Tryz.prog.underlying 9=some .string)/\tS 22 1 9 1 16/\tS 23 2 155 2 16/\tA 25 2 [z2,z2]/\tO 25 0 0 22/\tO 25 1 1 23/\tI 26/\(jU Tryz.prog 26=some [z2])/\(kK Tryz.prog 26=some 5):=by repeat' (first|refine ai ?_ ?_|kernel_rfl|(unfold tO;kernel_rfl))
def uu_1:(n7 Tryz.prog #[26]=some true)/\(jT Tryz.prog 26=some (96,5,56))/\tA 28 3 [z2,z2,z2]/\tO 28 0 0 25/\tO 28 1 2 26/\tS 29 4 31 4 56/\tA 31 4 [z0,z1,z0,z2]/\tO 31 0 0 3/\tO 31 1 1 9/\tO 31 2 2 3/\tO 31 3 3 29/\tS 34 1 61 1 24/\tS 37 2 153 2 16/\tA 39 2 [z2,z2]/\(qm Tryz.prog 39=some [z3,z3])/\tO 39 0 0 22:=by repeat' (first|refine ai ?_ ?_|kernel_rfl|(unfold tO;kernel_rfl))
def uu_2:tO 39 1 1 37/\tS 40 5 99 5 56/\tA 42 3 [z2,z2,z2]/\(qm Tryz.prog 42=some [z3,z3,z3])/\tO 42 0 0 39/\tO 42 1 2 40/\tS 44 4 46 4 56/\tA 46 4 [z0,z1,z0,z2]/\(qm Tryz.prog 46=some [z0,z1,z0,z3])/\tO 46 0 0 3/\tO 46 1 1 9/\tO 46 2 2 3/\tO 46 3 3 44/\tS 61 8 110 8 112/\tI 66/\tI 71/\(rm Tryz.prog 73=some (.agg 5)):=by repeat' (first|refine ai ?_ ?_|kernel_rfl|(unfold tO;kernel_rfl))
def uu_3:(sR Tryz.prog 73=some 5)/\(jU Tryz.prog 73=some [.A (.pointer none),z2,z0,z2,GV false])/\(wG Tryz.prog 73)/\(qm Tryz.prog 73=some [.A (.pointer none),z3,z0,z3,GV false])/\tO 73 0 0 66/\tO 73 1 1 44/\tO 73 2 2 3/\tO 73 3 3 34/\tO 73 4 4 4/\tA 76 8 [z0,z1,z0,z2,z0,z1,z0,z2]/\(qm Tryz.prog 76=some [z0,z1,z0,z3,z0,z1,z0,z3])/\tO 76 0 0 46/\tO 76 1 4 46/\tS 77 8 76 8 112/\tA 79 3 [z2,z2,z0]/\(qm Tryz.prog 79=some [z3,z3,z0])/\tO 79 0 0 77/\tO 79 1 1 61/\tO 79 2 2 3/\tS 94 2 198 2 32/\tA 96 5 [z1,z2,GV false,GV false,z0]:=by repeat' (first|refine ai ?_ ?_|kernel_rfl|(unfold tO;kernel_rfl))
def uu_4:tO 96 0 0 9/\tO 96 1 1 94/\tO 96 2 2 4/\tO 96 3 3 4/\tO 96 4 4 3/\tS 97 2 163 2 32/\tA 99 5 [z1,z2,GV false,GV false,z0]/\(qm Tryz.prog 99=some [z1,z3,GV false,GV false,z0])/\tO 99 0 0 9/\tO 99 1 1 97/\tO 99 2 2 4/\tO 99 3 3 4/\tO 99 4 4 3/\tA 103 8 [z0,z1,z0,z2,z0,z1,z0,z2]/\(qm Tryz.prog 103=some [z0,z1,z0,z3,z0,z1,z0,z3])/\tO 103 0 0 46/\tO 103 1 4 46/\tS 104 8 103 8 112/\tA 106 3 [z2,z2,z0]/\(qm Tryz.prog 106=some [z3,z3,z0])/\tO 106 0 0 61:=by repeat' (first|refine ai ?_ ?_|kernel_rfl|(unfold tO;kernel_rfl))
def uu_5:tO 106 1 1 104/\tO 106 2 2 3/\tA 110 8 [z0,z1,z0,z2,z0,z1,z0,z2]/\(qm Tryz.prog 110=some [z0,z1,z0,z3,z0,z1,z0,z3])/\tO 110 0 0 46/\tO 110 1 4 46/\tS 114 1 3 1 8/\tA 116 3 [z2,z2,z2]/\(qm Tryz.prog 116=some [z3,z3,z3])/\tO 116 0 0 114/\tO 116 1 1 114/\tO 116 2 2 114/\tI 119/\tA 121 7 [z2,z2,z2,z2,z2,z2,.A (.map none)]/\(qm Tryz.prog 121=some [z3,z3,z3,z3,z3,z3,.A (.map none)])/\tO 121 0 0 116/\tO 121 1 3 42/\tO 121 2 6 119/\tI 130/\(jU Tryz.prog 130=some [.A (.int .u64 0)])/\tI 149/\(jU Tryz.prog 149=some [z2])/\(kK Tryz.prog 149=some 3):=by repeat' (first|refine ai ?_ ?_|kernel_rfl|(unfold tO;kernel_rfl))
def uu_6:(n7 Tryz.prog #[149]=some true)/\(jT Tryz.prog 149=some (106,3,56))/\tA 153 2 [z0,z0]/\tO 153 0 0 3/\tO 153 1 1 3/\tA 155 2 [z0,z0]/\tO 155 0 0 3/\tO 155 1 1 3/\tI 157/\tA 163 2 [z2,z0]/\(qm Tryz.prog 163=some [z3,z0])/\tO 163 0 0 114/\tO 163 1 1 3/\tS 172 3 175 3 56/\tA 175 3 [z2,z2,z0]/\(qm Tryz.prog 175=some [z3,z3,z0])/\tO 175 0 0 61/\tO 175 1 1 61/\tO 175 2 2 3/\tI 195/\(jU Tryz.prog 195=some [z2]):=by repeat' (first|refine ai ?_ ?_|kernel_rfl|(unfold tO;kernel_rfl))
def uu_7:(kK Tryz.prog 195=some 1)/\(n7 Tryz.prog #[195]=some true)/\(jT Tryz.prog 195=some (5,1,1))/\tA 198 2 [z2,z0]/\tO 198 0 0 114/\tO 198 1 1 3/\tI 233/\tS 250 1 114 1 24:=by repeat' (first|refine ai ?_ ?_|kernel_rfl|(unfold tO;kernel_rfl))
def EQ:type_of% (by have h:=uu_0;dsimp only[tI,tS,tA,tO,z0,z1,z2,z3]at h;exact h):=uu_0
def ER:type_of% (by have h:=uu_1;dsimp only[tI,tS,tA,tO,z0,z1,z2,z3]at h;exact h):=uu_1
def tt_2:type_of% (by have h:=uu_2;dsimp only[tI,tS,tA,tO,z0,z1,z2,z3]at h;exact h):=uu_2
def tt_3:type_of% (by have h:=uu_3;dsimp only[tI,tS,tA,tO,z0,z1,z2,z3]at h;exact h):=uu_3
def tt_4:type_of% (by have h:=uu_4;dsimp only[tI,tS,tA,tO,z0,z1,z2,z3]at h;exact h):=uu_4
def tt_5:type_of% (by have h:=uu_5;dsimp only[tI,tS,tA,tO,z0,z1,z2,z3]at h;exact h):=uu_5
def tt_6:type_of% (by have h:=uu_6;dsimp only[tI,tS,tA,tO,z0,z1,z2,z3]at h;exact h):=uu_6
def tt_7:type_of% (by have h:=uu_7;dsimp only[tI,tS,tA,tO,z0,z1,z2,z3]at h;exact h):=uu_7
end Go.Proofs.YtaenibhihgfehaaGreatDoor
namespace Go.Proofs.YtaenibhihgfehaaGreatDoor
open Go.RowKit
variable{G3 G4 G5:Prop}
def pm_0:=aj16 @pJ.eq_1 @ZzO @ro_n @ro_g @wU.eq_1 @C8.eq_1 @C8.eq_2 @sk_r @wU.eq_2 @qB.eq_1 @qB.eq_2 @ZzQ @ZzR @ZzS @ZmT (aj15 @ZvY @ZmU @ZvZ @ZFC @R_un @Zqw @ZFD @ZzT @Zv0 @ZFE @ZFF @ZFG @ZzU @Zv1 (@Zv2))
def pm_1:=aj16 @Zlg @Zoq @eJ.eq_1 @Zv3 @frzs.eq_1 @Zv4 @Zv5 @Zv6 @io.eq_1 @io.eq_2 @ZsJ @ZFH @fA_d @ZzY @im.eq_1 (aj15 @ZFJ @ZFK @im.eq_3 @im.eq_5 @ky_d @n6.eq_1 @n6.eq_2 @Zz2 @s9.eq_1 @s9.eq_2 @Zv9 @ZFM @Zwa @ZsL (@ZmV))
def pm_2:=aj16 @ZsM @ql.eq_1 @Zz4 @Zwb @Zwc @ZFN @ZFO @ZFP @ZFQ @ZsN.eq_1 @vC.eq_1 @AP.eq_1 @ZFR @ZFS @Zz5 (aj15 @ZFT @ZFU @ZFV @ZFW @Zwf @Zwg @Zwh @ZFX @bX.eq_1 @bX.eq_2 @bX.eq_3 @bX.eq_4 @kl_d @ZAa (@ZsO))
def pm_3:=aj16 @ZFY @aA.eq_1 @aA.eq_2 @ZFZ @zM.eq_1 @xb.eq_1 @xb.eq_2 @Zwl @ib_d @Zoc.eq_1 @ZF0 @Zyb.eq_1 @Zsa.eq_1 @ju.eq_1 @aL.eq_1 (aj15 @aL.eq_2 @aL.eq_3 @ZF2 @ZAg @ZF3 @wO.eq_1 @ZF4 @aD.eq_1 @aD.eq_2 @jz.eq_1 @jz.eq_2 @jz.eq_3 @vV.eq_1 @jA.eq_1 (@jA.eq_2))
def pm_4:=aj16 @Zr0.eq_1 @vN.eq_1 @vN.eq_2 @vN.eq_3 @FF.eq_1 @yw.eq_2 @yw.eq_3 @yw.eq_1 @Zoa.eq_1 @uT.eq_1 @FG.eq_1 @Zr1.eq_1 @vk.eq_1 @uP.eq_1 @GJ.eq_1 (aj15 @B8.eq_1 @B8.eq_2 @dA.eq_1 @Fp.eq_1 @mZ.eq_1 @mZ.eq_2 @mZ.eq_3 @ZGi @ZGj @ZGk @kp.eq_1 @kp.eq_3 @vj.eq_1 @oI.eq_1 (@oI.eq_2))
def pm_5:=aj16 @oI.eq_3 @rC.eq_1 @vv.eq_1 @vw.eq_1 @Fj.eq_1 @Zr2.eq_1 @wM.eq_1 @ZwD @ZsQ.eq_1 @ZGq @ZsR.eq_1 @wY.eq_1 @sw.eq_1 @ZwH @Zyc.eq_1 (aj15 @ZAw @FT.eq_1 @zm.eq_1 @FX.eq_1 @qt.eq_1 @qt.eq_2 @Zyd @Zot.eq_1 @Zos.eq_1 @Bj.eq_1 @Bj.eq_2 @sa.eq_1 @sa.eq_2 @rQ.eq_1 (@rQ.eq_2))
def pm_6:=aj16 @C0.eq_1 @C0.eq_2 @pG.eq_1 @pG.eq_2 @pG.eq_3 @ZAB @ZwU @ZAC @ZAD @ZGr @ZAE @bQ.eq_2 @bQ.eq_3 @bQ.eq_4 @mK.eq_1 (aj15 @mK.eq_2 @ZGu @cp_s @cp_x @ZGv @Zr9.eq_1 @Zr8.eq_1 @t8.eq_1 @ZwW @ZwX @aQ.eq_1 @ZGy @r_no @ZAH (@ZAI))
def pm_7:=aj16 @ZAJ @ZAK @ZAL @ZAM @ZAN @ZAO @ZAP @ZAQ @ZAR @ZAS @ZAT @ZAU @ZAV @ZAW @ZAX (aj15 @ZAY @dB.eq_1 @dB.eq_2 @FB.eq_1 @ZA1 @ZGz @ZA2 @Zqx @ZA3 @ZA4 @ZA5 @ZA6 @ZA7 @vN.eq_4 (@mZ.eq_4))
def pm_8:=aj16 @fz.eq_1 @fz.eq_2 @nr_p @nr_s @nr_c @nr_i @ZBb @ZBc @ZBd @ZBe @mi.eq_1 @mi.eq_2 @ZBh @ZBi @ZBj (aj15 @j8.eq_1 @j8.eq_2 @ZBm @ZBn @ZBo @FS.eq_1 @FS.eq_2 @AN.eq_1 @C7.eq_1 @C7.eq_2 @vx.eq_1 @rn_0 @rn_n @rn_g (@st_o))
def pm_9:=aj16 @jx.eq_1 @jx.eq_2 @mY.eq_1 @lv_d @ZBu @ZBv @ZBw @ZGC @ZGD @jv.eq_1 @lb_d @ZBy @ZBz @ZBA @ZGE (aj15 @ZGF @pC.eq_1 @pC.eq_2 @kN.eq_1 @kN.eq_2 @aM.eq_1 @ZBD @ZGG @ei.eq_1 @Zw4 @Dl.eq_1 @pinned.eq_1 @pinned.eq_2 @pinned.eq_3 (@iW.eq_1))
def ZGI:=aj16 @ZBI @ZBJ @Zw5 @ZBK @ZBL @dc_s @dc_p @dc_f @rD.eq_1 @rD.eq_2 @ZBO @datS.eq_1 @datS.eq_2 @datM.eq_1 @datM.eq_2 (aj5 @xe.eq_1 @ZBS @Zw8 @Zsb.eq_1 (@unD.eq_1))
def ZGJ:type_of% (aj6 @ZF5 @Zwp @Zwq @ZsP @ux.eq_1 @Zwr):=(aj6 @ZF5 @Zwp @Zwq @ZsP @ux.eq_1 @Zwr)
def m154(b:G5)(h:Bx G5->G4:=by
 intro B0
 have h1:=this.1;rw[List.elem_cons]at h1;have aP:¬p.1=k:=by intro e;simp[e]at h1
 refine⟨?_,?_⟩
 ·cases hb:(p.1==k)with
  |true=>rw[hb]at h1;cases h1
  |false=>rw[hb]at h1;exact h1
 exact B0.o aP):G4:=h ⟨b⟩
def m139(h:G3:=by
 induction t with
 |nil=>exact trivial
 |cons p r ih=>exact⟨h p Tas,ih λq hq=>h q (Tal _ hq)⟩):G3:=h
def vW:GN->d3->d3
 |_,[]=>[]
 |ds,(k,a)::r=>if ds.elem k then vW ds r else(k,a)::vW (k::ds) r
def vX:GN->it->it
 |_,[]=>[]
 |ds,(k,a)::r=>if ds.elem k then vX ds r else(k,a)::vX (k::ds) r
def ZEr{s t:d3}(h:∀p∈t,gs s p.1=p.2):pH s t:=by
 exact m139
def ZEs{s t:it}(h:∀p∈t,gm s p.1=some p.2):pI s t:=by
 exact m139
def ZBT:∀{s:d3}{ds:GN}{p:Nat×A},p∈vW ds s->ds.elem p.1=false/\gs s p.1=p.2:=by
 intro s
 induction s with
 |nil=>intro ds p h;cases h
 | cons q r ih =>
  intro ds p h;obtain⟨k,a⟩:=q;simp only[vW]at h;by_cases hk:ds.elem k=true
  ·rw[if_pos hk]at h;have:=ih h;refine⟨this.1,?_⟩;rw[gs,if_neg ?_]
   ·exact this.2
   ·intro e;rw[e]at this;rw[hk]at this;cases this.1
  ·rw[if_neg hk]at h;rcases Tbh.1 h with rfl|h
   ·exact⟨by simpa using hk,by simp[gs]⟩
   ·have:=ih h;refine m154 λaP=>?_
    ·rw[gs,if_neg aP];exact this.2
def ZBU:∀{s:it}{ds:GN}{p:Nat×Bk},p∈vX ds s->ds.elem p.1=false/\gm s p.1=some p.2:=by
 intro s
 induction s with
 |nil=>intro ds p h;cases h
 | cons q r ih =>
  intro ds p h;obtain⟨k,a⟩:=q;simp only[vX]at h;by_cases hk:ds.elem k=true
  ·rw[if_pos hk]at h;have:=ih h;refine⟨this.1,?_⟩;rw[gm,if_neg ?_]
   ·exact this.2
   ·intro e;rw[e]at this;rw[hk]at this;cases this.1
  ·rw[if_neg hk]at h;rcases Tbh.1 h with rfl|h
   ·exact⟨by simpa using hk,by simp[gm]⟩
   ·have:=ih h;refine m154 λaP=>?_
    ·rw[gm,if_neg aP];exact this.2
def ZsT{s a b:d3}:pH s (a++b)↔pH s a/\pH s b:=by
 induction a with
 |nil=>simp[pH]
 |cons p r ih=>simp[pH,ih,and_assoc]
def ZsU{s a b:it}:pI s (a++b)↔pI s a/\pI s b:=by
 induction a with
 |nil=>simp[pI]
 |cons p r ih=>simp[pI,ih,and_assoc]
def ZBV{e:Env}{ay:Nat}{Q:PX->St->Prop}{c:Code}{s:d3}{m:it}{ι:Type}(ds dm:GN)(us:ι->d3)(ms:ι->it)(ok:ι->Prop)(μ:ι->Nat)(x0:ι)
  {s0:d3} {m0:it} (gv:vW ds s=s0) (qY:vX dm m=m0) {ss:ι->d3} {mm:ι->it} (kZ:∀x,us x++s0=ss x) (An:∀x,ms x++m0=mm x) (hs:pH s (us x0)) (hm:pI m (ms x0)) (h0:ok x0)
  (hr:∀x,ok x->de e ay c ⟨ss x,mm x⟩ (λp H2=>match p with
   |.normal=>∃y,ok y/\pH H2.s (ss y)/\pI H2.m (mm y)/\μ y<μ x
   |p=>Q p H2)):de e ay (.loop c) ⟨s,m⟩ Q:=by
 refine ZEl (λx=>⟨ss x,mm x⟩) ok μ x0 h0 ?_ ?_ hr
 ·show pH s (ss x0);rw[<- kZ,ZsT,<- gv];exact⟨hs,ZEr λp hp=>(ZBT hp).2⟩
 ·show pI m (mm x0);rw[<- An,ZsU,<- qY];exact⟨hm,ZEs λp hp=>(ZBU hp).2⟩
def ZBW{e:Env}{ay:Nat}{Q:PX->St->Prop}{σ:St}{id:Nat}{l:GL}(h:∀ds,l.map (·.dst)=ds->an e ds 0 l σ (oP ay Q)):de e ay (.region id l.toArray false) σ Q:=ZEp rfl (h _ rfl)
def dJ{e:Env}{ay:Nat}{Q:PX->St->Prop}{σ:St}{id:Nat}{l:GL}(n:Nat)(hr:xY l.toArray n)(h:∀ds,l.map (·.dst)=ds->an e ds n l σ (oP ay Q)):de e ay (.region id l.toArray true) σ Q:=ZEq n hr rfl (h _ rfl)
def ZBX{e:Env}{ay:Nat}{Q:PX->St->Prop}{σ:St}{id:Nat}{l:GL}(ks:GN)(h:∀G7,frzs ks σ=G7->∀ds,l.map (·.dst)=ds->an e ds 0 l G7 (oP ay Q)):de e ay (.region id l.toArray false) σ Q:=ZsI ks rfl rfl (h _ rfl _ rfl)
def ZGK{m n:Nat}:m.testBit n=((1&&&(m>>>n)) != 0):=rfl
def Dc(ay:Nat):Res->Option (d3×it)
 |.done σ=>some (sA ay σ.s,σ.m)
 |_=>none
def ZBY{ay:Nat}{s:d3}{m:it}:Dc ay (.done ⟨s,m⟩)=some (sA ay s,m):=rfl
def reT{e:Env}{ay:Nat}{Q:PX->St->Prop}{ds:By}{n:Nat}{os:GL}{σ:St}{s2:d3}{m2:it}(h:Dc ay (ig e.P ds n os σ)=some (s2,m2))(hQ:Q .normal ⟨s2,m2⟩):an e ds n os σ (oP ay Q):=by
 cases hr:ig e.P ds n os σ with
 |bad=>rw[hr]at h;cases h
 |call q c args d n' gZ y'=>rw[hr]at h;cases h
 |map q d n' gZ y'=>rw[hr]at h;cases h
 |stop n' gZ y'=>rw[hr]at h;cases h
 |done y' =>
  rw[hr]at h;simp only[Dc,Taq,Prod.mk.injEq]at h;obtain⟨h1,h2⟩:=h;refine Fb hr ?_;unfold oP;rw[h1,h2];exact hQ
def ZsV:Res->Option (FuncId×AS×GM×Nat×GL×St)
 |.call q c args d n os σ=>(uK q c args σ).map (λx=>(x.1,x.2.1,d,n,os,x.2.2))
 |_=>none
def rcT{e:Env}{K:GR}{ds:By}{n n':Nat}{os gZ:GL}{σ:St}{f:FuncId}{xs:AS}{d:GM}{r:AS}{s2 s3:d3}{m2:it}(h:ZsV (ig e.P ds n os σ)=some (f,xs,d,n',gZ,⟨s2,m2⟩))(hc:aI e f xs r)(h2:aD s2 d (aQ r)=s3)(hK:an e ds n' gZ ⟨s3,m2⟩ K):an e ds n os σ K:=by
 cases hr:ig e.P ds n os σ with
 |bad=>rw[hr]at h;cases h
 |done y'=>rw[hr]at h;cases h
 |map q d n' gZ y'=>rw[hr]at h;cases h
 |stop n' gZ y'=>rw[hr]at h;cases h
 |call q c args d1 n1 os1 G7 =>
  rw[hr]at h;simp only[ZsV,Tav,Prod.mk.injEq]at h;obtain⟨⟨f',AX,H1⟩,h1,rfl,rfl,rfl,rfl,rfl,h3⟩:=h;simp only at h3;subst h3;exact ZHk hr h1 hc h2 hK
def B9{e:Env}{ay:Nat}{Q:PX->St->Prop}{σ:St}{c:Code}(h:de e ay c σ Q):∃G7,Wk σ G7/\de e ay c G7 Q:=⟨σ,Wk.refl σ,h⟩
def ZI2{σ:St}{P:Program}{ts:List RS}{R:AS->Prop}(ks:GN)(r:AS){G7:St}(hr:R r)(hf:frzs ks σ=G7)(h:oQ P G7 ts r):Zr5 P ts R .ret σ:=⟨ks,r,hr,by rw[hf];exact h⟩
def Wk.trans{a b c:St}(h:Wk a b)(k:Wk b c):Wk a c:=by
 refine⟨λt=>?_,λt x hx=>h.2 t x (k.2 t x hx)⟩;rcases k.1 t with q|q
 ·rcases h.1 t with r|r
  ·exact .inl (q.trans r)
  ·exact .inr (q.trans r)
 ·exact .inr q
def ZBZ{e:Env}{ay:Nat}{Q:PX->St->Prop}{a:Code}{s:d3}{m:it}{ι:Type}(hQ:∀σ G7,Wk σ G7->Q .normal G7->Q .normal σ)(ds dm:GN)(us:ι->d3)(ms:ι->it)(R:ι->Prop)
  {s0:d3} {m0:it} (gv:vW ds s=s0) (qY:vX dm m=m0) {ss:ι->d3} {mm:ι->it} (kZ:∀x,us x++s0=ss x) (An:∀x,ms x++m0=mm x)
  (h:de e ay a ⟨s,m⟩ (λx y'=>match x with
   |.normal=>∃y,R y/\pH y'.s (ss y)/\pI y'.m (mm y)
   |x=>Q x y')) (hb:∀x,R x->Q .normal ⟨ss x,mm x⟩):de e ay a ⟨s,m⟩ Q:=by
 refine ZEk (λp y' hq=>?_) a _ h
 cases p with
 |normal =>
  obtain⟨y,h1,h2,h3⟩:=hq;exact hQ _ _ ⟨λt=>ZjU h2,λt x=>ZjV h3⟩ (hb y h1)
 |exit id=>exact hq
 |ret=>exact hq
def ZiQ{r:we}(h:bd (Zaf .int) r):∃x0:Int,r=[GS x0]/\iT x0:=by
 obtain⟨c0,rfl⟩:=len1 h.len;simp only[Zaf,bd,and_true]at h;have h0:=h;obtain⟨x0,rfl,g0⟩:=vJ h0;exact⟨x0,rfl,g0⟩
def EH(b:G5)(h:Bx G5->G4:=by
 intro B0
 simp only[Zaf,tX,vy,wI,lZ,ZeM,algF,Taf,Tah,redF,bd,and_true]at h;exact B0.o h):G4:=h ⟨b⟩
def Zgi{r:we}(h:bd (Zaf .decl) r):∃(r0:sh)(i1:Int),r=[.sl r0,GS i1]/\bu (Zaf .int) r0/\iT i1:=by
 obtain⟨c0,c1,rfl⟩:=pr h.len;refine EH λh=>?_;obtain⟨h0,h1⟩:=h;obtain⟨r0,rfl,g0⟩:=wL h0;obtain⟨i1,rfl,g1⟩:=vJ h1;exact⟨r0,i1,rfl,g0,g1⟩
def Zh8{r:we}(h:bd (Zaf .op) r):∃(t0:ByteArray)(r1:sh)(p2:Bool)(p3:Bool)(i4:Int),r=[.A (.string t0),.sl r1,GV p2,GV p3,GS i4]/\t0.size<=maxLen/\bu (Zaf .decl) r1/\True/\True/\iT i4:=by
 obtain⟨c0,c1,c2,c3,c4,rfl⟩:=len5 h.len;refine EH λh=>?_;obtain⟨h0,h1,h2,h3,h4⟩:=h;obtain⟨t0,rfl,g0⟩:=Zjq h0;obtain⟨r1,rfl,g1⟩:=wL h1;obtain⟨p2,rfl⟩:=Znn h2;obtain⟨p3,rfl⟩:=Znn h3;obtain⟨i4,rfl,g4⟩:=vJ h4;exact⟨t0,r1,p2,p3,i4,rfl,g0,g1,trivial,trivial,g4⟩
def Ze8{r:we}(h:bd (Zaf .str) r):∃x0:ByteArray,r=[.A (.string x0)]/\x0.size<=maxLen:=by
 obtain⟨c0,rfl⟩:=len1 h.len;simp only[Zaf,bd,and_true]at h;have h0:=h;obtain⟨x0,rfl,g0⟩:=Zjq h0;exact⟨x0,rfl,g0⟩
def ZiR{r:we}(h:bd (Zaf .sub) r):∃(i0:Int)(i1:Int),r=[GS i0,GS i1]/\iT i0/\iT i1:=by
 obtain⟨c0,c1,rfl⟩:=pr h.len;refine EH λh=>?_;obtain⟨h0,h1⟩:=h;obtain⟨i0,rfl,g0⟩:=vJ h0;obtain⟨i1,rfl,g1⟩:=vJ h1;exact⟨i0,i1,rfl,g0,g1⟩
def Ed(b:G5)(h:Bx G5->G4:=by
 intro B0
 simp only[Zaf,tX,vy,wI,lZ,ZeM,algF,Taf,Tah,redF,bd,and_true];exact B0.o):G4:=h ⟨b⟩
def ZgQ{r:we}(h:bd (wI) r):∃(r0:sh)(r1:sh),r=[.sl r0,.sl r1]/\bu (Zaf .str) r0/\bu (Zaf .sub) r1:=by
 obtain⟨c0,c1,rfl⟩:=pr h.len;refine EH λh=>?_;obtain⟨h0,h1⟩:=h;obtain⟨r0,rfl,g0⟩:=wL h0;obtain⟨r1,rfl,g1⟩:=wL h1;exact⟨r0,r1,rfl,g0,g1⟩
def ZgR{r0:sh}{r1:sh}(g0:bu (Zaf .str) r0)(g1:bu (Zaf .sub) r1):bd (wI) [.sl r0,.sl r1]:=by
 refine Ed ?_;exact⟨Br g0,Br g1⟩
def Zd1{r:we}(h:bd (lZ) r):∃(r0:sh)(r1:sh)(r2:sh),r=[.sl r0,.sl r1,.sl r2]/\bu (Zaf .str) r0/\bu (Zaf .sub) r1/\bu (Zaf .op) r2:=by
 obtain⟨c0,c1,c2,rfl⟩:=len3 h.len;refine EH λh=>?_;obtain⟨h0,h1,h2⟩:=h;obtain⟨r0,rfl,g0⟩:=wL h0;obtain⟨r1,rfl,g1⟩:=wL h1;obtain⟨r2,rfl,g2⟩:=wL h2;exact⟨r0,r1,r2,rfl,g0,g1,g2⟩
def uS{α:Type}{fs:List F}{e:α->we}{p:α->Prop}(hd:∀row,bd fs row->∃a,row=e a/\p a):∀{rows:sh},bu fs rows->∃l:List α,rows=l.map e/\∀x∈l,p x
 |[],_=>⟨[],rfl,by simp⟩
 | r::rs,h=>by
  simp only[bu]at h;obtain⟨a,rfl,ha⟩:=hd r h.1;obtain⟨l,rfl,hl⟩:=uS hd h.2;exact⟨a::l,rfl,λx hx=>by
   rcases Tbh.1 hx with rfl|hx
   ·exact ha
   ·exact hl x hx⟩
def okL{α:Type}{fs:List F}{e:α->we}{p:α->Prop}(hk:∀a,p a->bd fs (e a)):∀{l:List α},(∀x∈l,p x)->bu fs (l.map e)
 |[],_=>by simp[bu]
 |a::l,h=>by
  simp only[Tbv,bu];exact⟨hk a (h a (by simp)),okL hk (λx hx=>h x (by simp[hx]))⟩
def ij(n:Int):we:=[GS n]
def vR(s:ByteArray):we:=[.A (.string s)]
def wN(p:Int×Int):we:=[GS p.1,GS p.2]
def ZGL(p:Int×Int):Prop:=iT p.1/\iT p.2
def Zye(s:ByteArray):Prop:=s.size<=maxLen
def ZIl:∀row,bd (Zaf .int) row->∃a,row=ij a/\iT a:=λrow h=>ZiQ h
def ZIm:∀row,bd (Zaf .str) row->∃a,row=vR a/\Zye a:=λrow h=>Ze8 h
def ZIn:∀row,bd (Zaf .sub) row->∃a,row=wN a/\ZGL a:=λrow h=>by
 obtain⟨i0,i1,rfl,h0,h1⟩:=ZiR h;exact⟨(i0,i1),rfl,h0,h1⟩
structure Srt where
 O:List ByteArray
 Ψ:List (Int×Int)
def gt(s:Srt):we:=[.sl (s.O.map vR),.sl (s.Ψ.map wN)]
def Zou(s:Srt):Prop:=(∀x∈s.O,Zye x)/\∀x∈s.Ψ,ZGL x
structure Dcl where
 Y:List Int
 Β:Int
def yx(d:Dcl):we:=[.sl (d.Y.map ij),GS d.Β]
def ZGM(d:Dcl):Prop:=(∀x∈d.Y,iT x)/\iT d.Β
def ZIo:∀row,bd (Zaf .decl) row->∃a,row=yx a/\ZGM a:=λrow h=>by
 obtain⟨r0,i1,rfl,g0,g1⟩:=Zgi h;obtain⟨l0,rfl,k0⟩:=uS ZIl g0;exact⟨⟨l0,i1⟩,rfl,k0,g1⟩
structure Opr where
 name:ByteArray
 Z:List Dcl
 Θ:Bool
 comm:Bool
 Ω:Int
def nH(o:Opr):we:=[.A (.string o.name),.sl (o.Z.map yx),GV o.Θ,GV o.comm,GS o.Ω]
def ZGN(o:Opr):Prop:=Zye o.name/\(∀x∈o.Z,ZGM x)/\iT o.Ω
def ZIp:∀row,bd (Zaf .op) row->∃a,row=nH a/\ZGN a:=λrow h=>by
 obtain⟨t0,r1,p2,p3,i4,rfl,g0,g1,_,_,g4⟩:=Zh8 h;obtain⟨l1,rfl,k1⟩:=uS ZIo g1;exact⟨⟨t0,l1,p2,p3,i4⟩,rfl,g0,k1,g4⟩
structure Sgn where
 V:Srt
 ops:List Opr
def ck(s:Sgn):we:=[.sl (s.V.O.map vR),.sl (s.V.Ψ.map wN),.sl (s.ops.map nH)]
def kL(s:Sgn):Prop:=Zou s.V/\∀x∈s.ops,ZGN x
def ZIq{row:we}(h:bd lZ row):∃s,row=ck s/\kL s:=by
 obtain⟨r0,r1,r2,rfl,g0,g1,g2⟩:=Zd1 h;obtain⟨l0,rfl,k0⟩:=uS ZIm g0;obtain⟨l1,rfl,k1⟩:=uS ZIn g1;obtain⟨l2,rfl,k2⟩:=uS ZIp g2;exact⟨⟨⟨l0,l1⟩,l2⟩,rfl,⟨k0,k1⟩,k2⟩
def aR.at{α:Type}{w:World}{S:GO}{fs:List F}{e:α->we}{p:α->Prop}(hk:∀a,p a->bd fs (e a)){l:List α}(hl:∀x∈l,p x){A:BY}{m cap k:Nat}{a:α}
  (h:aR w S (.sl (l.map e)) (.slice A m cap)) (ha:l[k]?=some a):∃b off,A=some ⟨b,off,none⟩/\S b/\b<w.heap.size/\a8 w S b (off+k*fs.length) (e a):=by
 have jF:k<l.length:=(Tad.1 ha).1;obtain⟨A',m',bF,hf,hm,_,_⟩:=h.Η;injection hf with h1 h2 h3
 subst h1 h2 h3;obtain⟨b,off,r,rfl,hS,yO,tB,hokr,fw⟩:=h.get (okL hk hl) (i:=k) (by rw[<- hm];simpa using jF);refine⟨b,off,rfl,hS,yO,?_⟩;rw[Tba,ha]at tB;simp only[Option.map_some,Taq]at tB;rw[tB];exact fw
def Zxc(l:List Int):we:=[.sl (l.map ij)]
structure Alg where
 size:Int
 tables:List (List Int)
def Zsc:GN:=[0,1,56,2,57,49,28,3,61,58,42,50,38,29,17,4,62,47,59,36,45,43,51,22,53,39,33,30,24,18,12,5,63,55,48,27,60,41,37,16,46,35,44,21,52,32,23,11,54,26,40,15,34,20,31,10,25,14,19,9,13,8,7,6]
def AR:Array Value:=(Zsc.map λ(n:Nat)=>Value.int .u8 (n:Int)).toArray
def qo(w:World):Prop:=w.heap[(2:Nat)]?=some (.cells AR 260 (0,0))
def qo.cell{w:World}(h:qo w):∀j,j<64->w.cell? ⟨2,j,none⟩=some (.int .u8 ((Zsc.getD j 0:Nat):Int)):=λj hj=>by
 unfold qo at h;unfold World.cell?;have hl:j<Zsc.length:=hj;simp only[h];unfold AR;rw[if_neg (by simp),List.getElem?_toArray,Tba,List.getD_eq_getElem?_getD,Taa hl];rfl
noncomputable def e0:Env:=⟨Tryz.prog,λb=>b=2,qo,False⟩
noncomputable def e1:Env:=⟨Tryz.prog,λb=>b=2,qo,True⟩
def ZsX{w w':World}(h:w'.heap[(2:Nat)]?=w.heap[(2:Nat)]?)(k:qo w):qo w':=h.trans k
def e1P:e1.P=Tryz.prog:=rfl
def Zov:e1.Ok:=⟨λ_ _ _ h k=>ZsX (h _ rfl) k,by kernel_rfl⟩
def Zsd{f:FuncId}{args r:AS}(h:aI e1 f args r):aI e0 f args r :=
 ⟨h.1,λw S vs hS hE hG d8=>(h.2 w S vs hS hE hG d8).mono λen w'⟨v,h1,h2,h3,h4⟩=>⟨v,h1,⟨h2.os,h2.tape,h2.output,λd=>d.elim,h2.size,h2.block⟩,h3,h4⟩⟩
def aJ:e0.P=Tryz.prog:=rfl
def Zse:e0.Ok:=⟨λ_ _ _ h k=>ZsX (h _ rfl) k,by kernel_rfl⟩
def uD{α:Type}{e:α->we}{n:Nat}(h:∀a,((e a).length==n&&(e a).all bQ))(l:List α):ZaD n (l.map e):=by
 unfold ZaD;rw[List.all_map];exact List.all_eq_true.2 λa _=>h a
def Zqy{n:Nat}:ZaD n []:=rfl
def ZjW{n:Nat}{r:we}{rs:sh}:ZaD n (r::rs)=(r.length==n&&r.all bQ&&ZaD n rs):=rfl
def Zow(l:List Int):ZaD 1 (l.map ij):=uD (e:=ij) (n:=1) (λ_=>rfl) l
def Zlh(l:List ByteArray):ZaD 1 (l.map vR):=uD (e:=vR) (n:=1) (λ_=>rfl) l
def ZsY(l:List (Int×Int)):ZaD 2 (l.map wN):=uD (e:=wN) (n:=2) (λ_=>rfl) l
def ZB0(l:List Dcl):ZaD 2 (l.map yx):=uD (e:=yx) (n:=2) (λ_=>rfl) l
def ZB1(l:List Opr):ZaD 5 (l.map nH):=uD (e:=nH) (n:=5) (λ_=>rfl) l
def Zxd(l:List (List Int)):ZaD 1 (l.map Zxc):=uD (e:=Zxc) (n:=1) (λ_=>rfl) l
def kJ{a b:Int}(h:a=b)(h1:-9223372036854775808<=b)(h2:b<=9223372036854775807):IntKind.i64.wrap a=b:=by rw[h];exact IntWalk.i64_in _ ⟨h1,h2⟩
def bW{k:Nat}(h:k<9223372036854775807):IntKind.i64.wrap ((k:Int)+1)=((k+1:Nat):Int):=kJ om om om
def bqtt:(true==true):=rfl
def bqtf:(true==false)=false:=rfl
def bqft:(false==true)=false:=rfl
def bqff:(false==false):=rfl
def bw(n:Nat):(n:Int).toNat=n:=Tbz n
def pz:=aj16 @EQ @ER @tt_2 @tt_3 @tt_4 @tt_5 @tt_6 @tt_7 @pm_0 @pm_1 @pm_2 @pm_3 @pm_4 @pm_5 @pm_6 (aj16 @pm_7 @pm_8 @pm_9 @ZGI @ZGJ @aJ @e1P @gs.eq_1 @gs.eq_2 @gm.eq_1 @gm.eq_2 @qO.eq_1 @qO.eq_2 @Zow @Zlh (aj16 @ZsY @ZB0 @ZB1 @Zxd @Zqy @ZjW @bqtt @bqtf @bqft @bqff @Bool.and_self @Bool.or_true @Bool.true_or @Bool.or_false @Bool.false_or (aj16 @Nat.zero_add @Nat.add_zero @and_self @true_and @and_true @Bool.not_true @Bool.not_false @bw @sA.eq_1 @sA.eq_2 @ZGK @ZBY @ZsV.eq_1 @Tca @Int.toNat_zero (aj16 @Int.toNat_one @Tai @List.map_nil.{0,0} @Tat.{0} @Tau.{0} @List.drop_succ_cons.{0} @List.drop_zero.{0} @List.drop_nil.{0} @Tbc.{0} @List.take_zero.{0} @Tag.{0} @Tak.{0} @Tae.{0} @List.all_cons.{0} @List.all_nil.{0} (aj16 @List.isEmpty_cons.{0} @List.isEmpty_nil.{0} @Taf.{0} @Tah.{0} @List.append_nil.{0} @Option.map_some.{0,0} @Option.map_none.{0,0} @Option.join_some.{0} @Option.getD_some.{0} @Option.isNone_none.{0} @Option.isNone_some.{0} @Option.isSome_none.{0} @Option.isSome_some.{0} @Tbv.{0,0} @Tay.{0,0} (@Tba.{0,0}))))))
def iK(h:G3:=by simp only[pz,↓reduceIte,Nat.reduceEqDiff,Nat.reduceAdd,Nat.reduceSub,Nat.reduceMul,Nat.reduceLeDiff,Nat.reduceBEq,Tam,decide_true,decide_false,Int.reduceLE,Int.reduceToNat,Int.reduceLT,Int.reduceEq,eq_self,Nat.reduceShiftRight,Nat.reduceAnd,Nat.reduceBneDiff,F];first|done|exact rfl):G3:=h
def oJ(h:G3:=by simp only[pz,↓reduceIte,Nat.reduceEqDiff,Nat.reduceAdd,Nat.reduceSub,Nat.reduceMul,Nat.reduceLeDiff,Nat.reduceBEq,Tam,decide_true,decide_false,Int.reduceLE,Int.reduceToNat,Int.reduceLT,Int.reduceEq,eq_self,Nat.reduceShiftRight,Nat.reduceAnd,Nat.reduceBneDiff];first|done|exact rfl):G3:=h
def sfy(h:G3:=by exact iK):G3:=h
def j0(h:G3:=by exact oJ):G3:=h
def jZ(h:G3:=by exact iK):G3:=h
def dE(h:G3:=by exact oJ):G3:=h
def iM:∀n,ij n=[GS n]:=λ_=>rfl
def jD:∀d,yx d=[.sl (d.Y.map ij),GS d.Β]:=λ_=>rfl
def cz:∀o,nH o=[.A (.string o.name),.sl (o.Z.map yx),GV o.Θ,GV o.comm,GS o.Ω]:=λ_=>rfl
def sT:∀s,ck s=[.sl (s.V.O.map vR),.sl (s.V.Ψ.map wN),.sl (s.ops.map nH)]:=λ_=>rfl
def yD:∀x,aQ [x]=.d x:=λ_=>rfl
def gB{X Y:Prop}(b:Y) (h:Y->X:=by
 intro b
 first
  |with_reducible refine ZBW ?_
  |(first
   |refine dJ 1 (by decide +kernel) ?_
   |refine dJ 2 (by decide +kernel) ?_
   |refine dJ 3 (by decide +kernel) ?_
   |refine dJ 4 (by decide +kernel) ?_
   |refine dJ 5 (by decide +kernel) ?_
   |refine dJ 6 (by decide +kernel) ?_
   |refine dJ 7 (by decide +kernel) ?_
   |refine dJ 8 (by decide +kernel) ?_
   |refine dJ 9 (by decide +kernel) ?_
   |refine dJ 10 (by decide +kernel) ?_
   |refine dJ 11 (by decide +kernel) ?_
   |refine dJ 12 (by decide +kernel) ?_
   |refine dJ 13 (by decide +kernel) ?_
   |refine dJ 14 (by decide +kernel) ?_
   |refine dJ 15 (by decide +kernel) ?_
   |refine dJ 16 (by decide +kernel) ?_
   |refine dJ 17 (by decide +kernel) ?_
   |refine dJ 18 (by decide +kernel) ?_
   |refine dJ 19 (by decide +kernel) ?_
   |refine dJ 20 (by decide +kernel) ?_
   |refine dJ 21 (by decide +kernel) ?_
   |refine dJ 22 (by decide +kernel) ?_
   |refine dJ 23 (by decide +kernel) ?_
   |refine dJ 24 (by decide +kernel) ?_
   |refine dJ 25 (by decide +kernel) ?_
   |refine dJ 26 (by decide +kernel) ?_
   |refine dJ 27 (by decide +kernel) ?_
   |refine dJ 28 (by decide +kernel) ?_
   |refine dJ 29 (by decide +kernel) ?_
   |refine dJ 30 (by decide +kernel) ?_
   |refine dJ 31 (by decide +kernel) ?_
   |refine dJ 32 (by decide +kernel) ?_
   |refine dJ 33 (by decide +kernel) ?_
   |refine dJ 34 (by decide +kernel) ?_
   |refine dJ 35 (by decide +kernel) ?_
   |refine dJ 36 (by decide +kernel) ?_
   |refine dJ 37 (by decide +kernel) ?_
   |refine dJ 38 (by decide +kernel) ?_
   |refine dJ 39 (by decide +kernel) ?_
   |refine dJ 40 (by decide +kernel) ?_
   |refine dJ 41 (by decide +kernel) ?_
   |refine dJ 42 (by decide +kernel) ?_
   |refine dJ 43 (by decide +kernel) ?_
   |refine dJ 44 (by decide +kernel) ?_
   |refine dJ 45 (by decide +kernel) ?_
   |refine dJ 46 (by decide +kernel) ?_
   |refine dJ 47 (by decide +kernel) ?_
   |refine dJ 48 (by decide +kernel) ?_
   |refine dJ 49 (by decide +kernel) ?_
   |refine dJ 50 (by decide +kernel) ?_
   |refine dJ 51 (by decide +kernel) ?_
   |refine dJ 52 (by decide +kernel) ?_
   |refine dJ 53 (by decide +kernel) ?_
   |refine dJ 54 (by decide +kernel) ?_
   |refine dJ 55 (by decide +kernel) ?_
   |refine dJ 56 (by decide +kernel) ?_
   |refine dJ 57 (by decide +kernel) ?_
   |refine dJ 58 (by decide +kernel) ?_
   |refine dJ 59 (by decide +kernel) ?_
   |refine dJ 60 (by decide +kernel) ?_
   |refine dJ 61 (by decide +kernel) ?_
   |refine dJ 62 (by decide +kernel) ?_
   |refine dJ 63 (by decide +kernel) ?_
   |refine dJ 64 (by decide +kernel) ?_)
 intro ds bJ;simp only[List.map]at bJ;subst bJ;exact b):X:=h b
def gC{X Y Z:Prop}(c:Z)(b:Y) (h:Z->Y->X:=by
 intro c b;refine rcT (by exact jZ) c (by simp only[aD,aQ];exact rfl) ?_;exact b):X:=h c b
def xg{X Y Z:Prop}(c:Z)(b:Y) (h:Z->Y->X:=by
 intro c b;refine ZEn (by exact jZ) (by exact jZ) c ?_;exact b):X:=h c b
def gR{X Y:Prop}(b:Y) (h:Y->X:=by
 intro b;refine reT (by exact jZ) ?_
 first|(change de _ _ _ _ _)|refine B9 ?_|skip
 exact b):X:=h b
def gG{X Y:Prop}(b:Y) (h:Y->X:=by
 intro b
 repeat (first
  |with_reducible refine Zh7 ?_
  |with_reducible refine Zqu ?_
  |((first|with_reducible refine ZsD ?_|with_reducible refine ZsE ?_);try refine B9 ?_)
  |(with_reducible refine ZzM ?_ ?_;· simp only[pz,↓reduceIte,Nat.reduceEqDiff,F])
  |(with_reducible refine ZzN ?_ ?_;· simp only[pz,↓reduceIte,Nat.reduceEqDiff,F])
  |(refine gB ?_;refine reT (by exact jZ) ?_;try refine B9 ?_))
 exact b):X:=h b
def Cj(_:Nat):Prop:=True
def ZIr{n:Nat}(_:Cj n){e:Env}{ay id:Nat}{ops:Array Oper}{fl:Bool}{σ:St}{Q:PX->St->Prop}(h:de e ay (.region id ops fl) σ Q)(_:(id==n)=false:=by decide):de e ay (.region id ops fl) σ Q:=h
def FY{X Y:Prop}(b:Y) (h:Y->X:=by
 intro b
 repeat (first
  |with_reducible refine Zh7 ?_
  |with_reducible refine Zqu ?_
  |((first|with_reducible refine ZsD ?_|with_reducible refine ZsE ?_);try refine B9 ?_)
  |(with_reducible refine ZzM ?_ ?_;· simp only[pz,↓reduceIte,Nat.reduceEqDiff,F])
  |(with_reducible refine ZzN ?_ ?_;· simp only[pz,↓reduceIte,Nat.reduceEqDiff,F])
  |(refine ZIr NN ?_;refine gB ?_;refine reT (by exact jZ) ?_;try refine B9 ?_))
 exact b):X:=h b
def gT{X:Prop} (h:X:=by
 refine CO (Zon ?_);simp[oQ,na,mG,gs,F]):X:=h
def xi{X:Prop}{P:Program}{ts:List RS}{r:AS}{σ G7:St}(ks:GN)(hx:vB P ts r .ret σ->X:=by exactλh=>CO h)(hf:frzs ks σ=G7:=by exact jZ)(h:oQ P G7 ts r:=by simp[oQ,na,mG,gs,F]):X:=hx (ZIj ks hf h)
def gTd{X:Prop}{P:Program}{ts:List RS}{r:AS}{σ:St}(hx:vB P ts r .ret σ->X:=by exactλh=>CO h)(hr:lY P σ ts=some r:=by exact iK):X:=hx (Zon (CC hr))
def gw{X:Prop}(h:X:=by simp[pH,pI,gs,gm,F]):X:=h
def gL{e:Env}{ay:Nat}{Q:PX->St->Prop}{c:Code}{s:d3}{m:it}{ι:Type}(ds dm:GN)(us:ι->d3)(ms:ι->it)(ok:ι->Prop)(μ:ι->Nat)(x0:ι)(h0:ok x0)
  {s0:d3} {m0:it} {ss:ι->d3} {mm:ι->it}
  (hr:∀x,ok x->de e ay c ⟨ss x,mm x⟩ (λp H2=>match p with
   |.normal=>∃y,ok y/\pH H2.s (ss y)/\pI H2.m (mm y)/\μ y<μ x
   |p=>Q p H2))
  (gv:vW ds s=s0:=by simp only[vW,vX,List.elem_cons,List.elem_nil,Nat.reduceBEq,Bool.or_false,Bool.false_or,Bool.or_true,Bool.true_or,Bool.or_self,↓reduceIte,Tam];exact rfl) (qY:vX dm m=m0:=by simp only[vW,vX,List.elem_cons,List.elem_nil,Nat.reduceBEq,Bool.or_false,Bool.false_or,Bool.or_true,Bool.true_or,Bool.or_self,↓reduceIte,Tam];exact rfl) (kZ:∀x,us x++s0=ss x:=by intro x;simp only[Taf,Tah];exact rfl) (An:∀x,ms x++m0=mm x:=by intro x;simp only[Taf,Tah];exact rfl)
  (hs:pH s (us x0):=by simp[pH,gs,F]) (hm:pI m (ms x0):=by simp[pI,gm,F]):de e ay (.loop c) ⟨s,m⟩ Q:=ZBV ds dm us ms ok μ x0 gv qY kZ An hs hm h0 hr
def gM{e:Env}{ay:Nat}{Q:PX->St->Prop}{a:Code}{s:d3}{m:it}{ι:Type}(ds dm:GN)(us:ι->d3)(ms:ι->it)(R:ι->Prop)
  {s0:d3} {m0:it} {ss:ι->d3} {mm:ι->it}
  (h:de e ay a ⟨s,m⟩ (λx y'=>match x with
   |.normal=>∃y,R y/\pH y'.s (ss y)/\pI y'.m (mm y)
   |x=>Q x y')) (hb:∀x,R x->Q .normal ⟨ss x,mm x⟩) 
  (gv:vW ds s=s0:=by simp only[vW,vX,List.elem_cons,List.elem_nil,Nat.reduceBEq,Bool.or_false,Bool.false_or,Bool.or_true,Bool.true_or,Bool.or_self,↓reduceIte,Tam];exact rfl) (qY:vX dm m=m0:=by simp only[vW,vX,List.elem_cons,List.elem_nil,Nat.reduceBEq,Bool.or_false,Bool.false_or,Bool.or_true,Bool.true_or,Bool.or_self,↓reduceIte,Tam];exact rfl) (kZ:∀x,us x++s0=ss x:=by intro x;simp only[Taf,Tah];exact rfl) (An:∀x,ms x++m0=mm x:=by intro x;simp only[Taf,Tah];exact rfl)
  (hQ:∀σ G7,Wk σ G7->Q .normal G7->Q .normal σ:=by exactλ_ _ h p=>Exists.elim p λH1 q=>⟨H1,h.trans q.1,q.2⟩):de e ay a ⟨s,m⟩ Q:=ZBZ hQ ds dm us ms R gv qY kZ An h hb
def gI {e:Env} {f:FuncId} {fn:Func} {c:Code} {args r:AS} {ts:List RS} (ay:Nat) (hf:e.P.funcs[f]?=some fn) (h:de e ay c ⟨qO 0 args,[]⟩ (vB e.P ts r)) (hb:fn.body=some c:=by exact rfl) (nQ:(fn.name == "runtime.NumGoroutine")=false:=by kernel_rfl)
  (aq:py fn.ntmps c:=by kernel_rfl) (di:Nat.ble args.length fn.ntmps:=by exact rfl) (fK:mG fn.results.toList=ts:=by exact rfl) (he:e.Ok:=by first|exact Zse|exact Zov|assumption):aI e f args r:=Zx8 he ay hf hb nQ aq di fK h
def Dg {e:Env} {f:FuncId} {fn:Func} {c:Code} {args:AS} {R:AS->Prop} {ts:List RS} (ay:Nat) (hf:e.P.funcs[f]?=some fn) (h:de e ay c ⟨qO 0 args,[]⟩ (Zr5 e.P ts R)) (hb:fn.body=some c:=by exact rfl) (nQ:(fn.name == "runtime.NumGoroutine")=false:=by kernel_rfl)
  (aq:py fn.ntmps c:=by kernel_rfl) (di:Nat.ble args.length fn.ntmps:=by exact rfl) (fK:mG fn.results.toList=ts:=by exact rfl) (he:e.Ok:=by first|exact Zse|exact Zov|assumption):fX e f args R:=ZuY he ay hf hb nQ aq di fK h
def cQ{e:Env}{K:GR}{ds:By}{n n':Nat}{os gZ:GL}{σ:St}{c:Operand}{args:List Operand}{f:FuncId}{xs:AS}{d:GM}{s1 s2 s3:d3}{m1 m2 m3:it}{pm:GQ}{R:AS->GQ->Prop}(ks bZ:GN)(hc:aT e f xs pm R)
  (hK:∀r bj,R r bj->an e ds n' gZ ⟨aD s3 d (aQ r),aM bZ bj++m3⟩ K) (h:ig e.P ds n os σ=.call false c args d n' gZ ⟨s1,m1⟩:=by exact jZ) (h1:uK false c args ⟨s1,m1⟩=some (f,xs,⟨s2,m2⟩):=by exact jZ)
  (gV:ei m2 ks=some pm:=by exact j0) (hpn:pm.all pinned:=by exact j0) (hn:ks.Nodup:=by decide) (hk:pC (ks++bZ) s2=s3:=by exact dE) (hr:kN (ks++bZ) m2=m3:=by exact dE):an e ds n os σ K:=ZsH ks bZ h h1 hc gV hpn hn hk hr hK
def gCI{e:Env}{K:GR}{ds:By}{n n':Nat}{os gZ:GL}{σ:St}{c x0:Operand}{rest:List Operand}{f:FuncId}{xs:AS}{d:GM}{s1 s3:d3}{m1 m3:it}{k ty sz:Nat}{rows rows':sh}{r:AS}{oa:Option (BY×Nat)}(hc:jH e f ty sz rows xs rows' r)(hl:rows'.length=rows.length)
  (hK:an e ds n' gZ ⟨s3,(k,.Υ oa ty sz rows')::m3⟩ K) (h:ig e.P ds n os σ=.call false c (x0::rest) d n' gZ ⟨s1,m1⟩:=by exact jZ) (h1:Zom c x0 rest ⟨s1,m1⟩=some (f,k,ty,sz,rows,xs):=by exact jZ)
  (hm:gm m1 k=some (.Υ oa ty sz rows):=by exact dE) (h2:aD s1 d (aQ r)=s3:=by simp only[aD,aQ];exact rfl) (h3:aA k m1=m3:=by exact dE):an e ds n os σ K:=ZEo h h1 hm hc hl h2 h3 hK
def gP{e:Env}{K:GR}{ds:By}{n n':Nat}{os gZ:GL}{σ:St}{s1:d3}{m1:it}(j:Nat)(hK:an e ds n' gZ ⟨s1,m1⟩ K)(h:FH (runN e.P ds j n os σ)=some (n',gZ,s1,m1):=by exact jZ):an e ds n os σ K:=ZzK j h hK
def gS{e:Env}{K:GR}{ds:By}{os:GL}{s:d3}{m m2:it}{ety sz:Nat}{rows:sh}{s2:BY->Nat->d3}(k:Nat)(hK:∀a cap,an e ds 0 os ⟨s2 a cap,(k,.Υ (some (a,cap)) ety sz rows)::m2⟩ K)
  (hm:gm m k=some (.Υ none ety sz rows):=by exact dE) (hs:∀a cap,jx (jv k a rows.length cap) s=s2 a cap:=by intro a cap;exact dE) (hr:aA k m=m2:=by exact dE):an e ds 0 os ⟨s,m⟩ K :=
 Fc (Zqs k hm) λy'⟨a,cap,G6⟩=>by subst G6;simp only[hs,hr];exact hK a cap
def gO{e:Env}{K:GR}{ds:By}{os:GL}{s s2:d3}{m m2:it}(t ety sz:Nat)(hK:an e ds 0 os ⟨(t,.Υ t)::s2,(t,.Υ none ety sz [])::m2⟩ K)(h0:0<sz:=by decide)(hm:gs s t=.d (.Ζ []):=by exact j0)
  (hs:bX t s=s2:=by exact dE) (hr:aA t m=m2:=by exact dE):an e ds 0 os ⟨s,m⟩ K :=
 Fc (ZEh t ety sz h0 hm) λy' G6=>by subst G6;simp only[hs,hr];exact hK
def gK{e:Env}{K:GR}{ds:By}{os:GL}{s:d3}{m:it}{x:A}(t:Nat)(hK:an e ds 0 os ⟨(t,x)::s,m⟩ K)(hx:fz m (gs s t)=x:=by exact dE):an e ds 0 os ⟨s,m⟩ K :=
 Fc (ZEg t) λy' G6=>by subst G6;simp only[hx];exact hK
def gD{e:Env}{K:GR}{ds:By}{os:GL}{s s2:d3}{m m2:it}{a:BY}{cap ety sz:Nat}{rows:sh}(k:Nat)(ts ks:GN)(hK:an e ds 0 os ⟨s2,m2⟩ K)(hm:gm m k=some (.Υ (some (a,cap)) ety sz rows):=by exact dE)
  (hs:datS a rows.length cap rows ts (io k (.Υ (some (a,cap)) ety sz rows) s)=s2:=by exact dE) (hr:datM a rows.length cap rows ks (aA k m)=m2:=by exact dE):an e ds 0 os ⟨s,m⟩ K :=
 Fc (ZsB k ts ks hm) λy' G6=>by subst G6;simp only[hs,hr];exact hK
def gX{e:Env}{K:GR}{ds:By}{os:GL}{d t ty:Nat}{p:String}{ed:Array Edge}{parts:List (Nat×Operand)}{s:d3}{m:it}{cs iE:we}(hK:an e ds 0 os ⟨(d,.d (.agg iE))::s,m⟩ K)
  (hz:qm e.P t=some cs:=by exact j0) (aZ:wG e.P t:=by exact j0) (aq:cs.all bQ:=by first|rfl|exact j0) (hf:sw e.P t cs (parts.map λp=>(p.1,aL s p.2))=some iE:=by exact jZ):an e ds 0 (⟨some d,.build t parts.toArray,ty,p,ed,none⟩::os) ⟨s,m⟩ K:=ZuZ hz aZ aq hf hK
def pN{e:Env}{ay:Nat}{Q:PX->St->Prop}{c:Code}{s s2:d3}{m m2:it}(κ ety sz:Nat)(hK:de e ay c ⟨s2,(κ,.Υ (some (none,0)) ety sz [])::m2⟩ Q)(h0:0<sz:=by decide)(hs:bX κ s=s2:=by exact dE)(hr:aA κ m=m2:=by exact dE):de e ay c ⟨s,m⟩ Q :=
 rp (ZEi κ ety sz h0) λy' G6=>by subst G6;simp only[hs,hr];exact hK
def pD{e:Env}{ay:Nat}{Q:PX->St->Prop}{c:Code}{s s2:d3}{m m2:it}{a:BY}{cap ety sz:Nat}{rows:sh}(k:Nat)(ts ks:GN)(hK:de e ay c ⟨s2,m2⟩ Q)(hm:gm m k=some (.Υ (some (a,cap)) ety sz rows):=by exact dE)
  (hs:datS a rows.length cap rows ts (io k (.Υ (some (a,cap)) ety sz rows) s)=s2:=by exact dE) (hr:datM a rows.length cap rows ks (aA k m)=m2:=by exact dE):de e ay c ⟨s,m⟩ Q :=
 rp (ZsB k ts ks hm) λy' G6=>by subst G6;simp only[hs,hr];exact hK
def pV{e:Env}{ay:Nat}{Q:PX->St->Prop}{c:Code}{s:d3}{m m2:it}{cs:we}{s2:Nat->d3}(k:Nat)(hK:∀b,(∀k' b' iE,k'≠k->gm m k'=some (.var (some b') iE)->b≠b')->de e ay c ⟨s2 b,(k,.var (some b) cs)::m2⟩ Q)
  (hm:gm m k=some (.var none cs):=by exact dE) (hs:∀b,jx (mY k b) s=s2 b:=by intro b;exact dE) (hr:aA k m=m2:=by exact dE):de e ay c ⟨s,m⟩ Q :=
 rp (ZzG k hm) λy'⟨b,hb,G6⟩=>by subst G6;simp only[hs,hr];exact hK b hb
def pS{e:Env}{ay:Nat}{Q:PX->St->Prop}{c:Code}{s:d3}{m m2:it}{ety sz:Nat}{rows:sh}{s2:BY->Nat->d3}(k:Nat)(hK:∀a cap,de e ay c ⟨s2 a cap,(k,.Υ (some (a,cap)) ety sz rows)::m2⟩ Q)
  (hm:gm m k=some (.Υ none ety sz rows):=by exact dE) (hs:∀a cap,jx (jv k a rows.length cap) s=s2 a cap:=by intro a cap;exact dE) (hr:aA k m=m2:=by exact dE):de e ay c ⟨s,m⟩ Q :=
 rp (Zqs k hm) λy'⟨a,cap,G6⟩=>by subst G6;simp only[hs,hr];exact hK a cap
def jn(pm bj:GQ):Prop:=∀(w:World)(S:GO),(∀x∈pm,oT w S x)->oO pm->(∀x∈bj,oT w S x)/\oO bj/\∀g,dP bj g->dP pm g
def gE{e:Env}{K:GR}{ds:By}{os:GL}{s s2:d3}{m m2 m3:it}{pm bj:GQ}(ks bZ:GN)(fi:jn pm bj)(hK:an e ds 0 os ⟨s2,m3⟩ K)(gV:ei m ks=some pm:=by exact j0)(hn:ks.Nodup:=by decide)(hp:pm.all pinned:=by exact j0)
  (hs:pC (ks++bZ) s=s2:=by exact dE) (hr:kN (ks++bZ) m=m2:=by exact dE) (h3:aM bZ bj++m2=m3:=by exact dE):an e ds 0 os ⟨s,m⟩ K :=
 Fc (ZpM (Φ:=λx=>x=bj) ks bZ hn gV hp (λw S h1 h2=>⟨bj,rfl,fi w S h1 h2⟩)) λy'⟨q,hq,G6⟩=>by subst hq G6;simp only[hs,hr,h3];exact hK
def pE{e:Env}{ay:Nat}{Q:PX->St->Prop}{c:Code}{s s2:d3}{m m2 m3:it}{pm bj:GQ}(ks bZ:GN)(fi:jn pm bj)(hK:de e ay c ⟨s2,m3⟩ Q)(gV:ei m ks=some pm:=by exact j0)(hn:ks.Nodup:=by decide)(hp:pm.all pinned:=by exact j0)
  (hs:pC (ks++bZ) s=s2:=by exact dE) (hr:kN (ks++bZ) m=m2:=by exact dE) (h3:aM bZ bj++m2=m3:=by exact dE):de e ay c ⟨s,m⟩ Q :=
 rp (ZpM (Φ:=λx=>x=bj) ks bZ hn gV hp (λw S h1 h2=>⟨bj,rfl,fi w S h1 h2⟩)) λy'⟨q,hq,G6⟩=>by subst hq G6;simp only[hs,hr,h3];exact hK
def CZ{ι:Type}(pm:GQ)(Φ:ι->Prop)(f:ι->GQ):Prop:=∀(w:World)(S:GO),(∀x∈pm,oT w S x)->oO pm->∃i,Φ i/\(∀x∈f i,oT w S x)/\oO (f i)/\∀g,dP (f i) g->dP pm g
def vz{e:Env}{ay:Nat}{Q:PX->St->Prop}{c:Code}{s s2:d3}{m m2:it}{pm:GQ}{ι:Type}{Φ:ι->Prop}{f:ι->GQ}{m3:ι->it}(ks bZ:GN)(fi:CZ pm Φ f)(hK:∀i,Φ i->de e ay c ⟨s2,m3 i⟩ Q)(gV:ei m ks=some pm:=by exact j0)(hn:ks.Nodup:=by decide)(hp:pm.all pinned:=by exact j0)
  (hs:pC (ks++bZ) s=s2:=by exact dE) (hr:kN (ks++bZ) m=m2:=by exact dE) (h3:∀i,aM bZ (f i)++m2=m3 i:=by intro i;exact dE):de e ay c ⟨s,m⟩ Q :=
 rp (ZpM (Φ:=λx=>∃i,Φ i/\x=f i) ks bZ hn gV hp (λw S h1 h2=>Exists.elim (fi w S h1 h2) λi hi=>⟨f i,⟨i,hi.1,rfl⟩,hi.2⟩)) λy'⟨q,⟨i,hi,hq⟩,G6⟩=>by subst hq G6;simp only[hs,hr,h3];exact hK i hi
def dX {e:Env} {f:FuncId} {fn:Func} {c:Code} {args:AS} {pm:GQ} {m0:it} {R:AS->GQ->Prop} {ts:List RS} (qG:GN) (ay:Nat) (hf:e.P.funcs[f]?=some fn) (h:de e ay c ⟨qO 0 args,m0⟩ (FO e.P ts R)) (hm:aM qG pm=m0:=by exact dE) (hb:fn.body=some c:=by exact rfl) (nQ:(fn.name == "runtime.NumGoroutine")=false:=by kernel_rfl)
  (aq:py fn.ntmps c:=by kernel_rfl) (di:Nat.ble args.length fn.ntmps:=by exact rfl) (fK:mG fn.results.toList=ts:=by exact rfl) (he:e.Ok:=by first|exact Zse|exact Zov|assumption):aT e f args pm R:=ZuX he qG ay hf hb nQ aq di fK (by rw[hm];exact h)
def ee{X:Prop}{P:Program}{ts:List RS}{R:AS->GQ->Prop}{σ:St}{r:AS}{pm:GQ}(ks:GN)(hR:R r pm)(hx:FO P ts R .ret σ->X:=by exactλh=>CO h)(hr:lY P σ ts=some r:=by exact sfy)(hg:ei σ.m ks=some pm:=by exact j0)(hn:ks.Nodup:=by decide)(hp:pm.all pinned:=by exact j0):X :=
 hx ⟨r,ks,pm,hg,hn,hp,hR,CC hr⟩
def fG{p X Y:Prop}(f:p)(b:Y)(h:p->Y->X:=by intro F b;exact gG b):X:=h f b
def fR{p X Y:Prop}(f:p)(b:Y)(h:p->Y->X:=by intro F b;exact gR b):X:=h f b
def fC{p X Y Z:Prop}(f:p)(c:Z)(b:Y)(h:p->Z->Y->X:=by intro F c b;exact gC c b):X:=h f c b
def fN{p X Y:Prop}(n:Nat)(f:p)(b:Y)(h:Cj n->p->Y->X:=by intro NN F b;exact FY b):X:=h trivial f b
def fT{p X:Prop}(f:p)(h:p->X:=by intro F;refine gG ?_;exact gT):X:=h f
def fD{p X:Prop}(f:p)(h:p->X:=by intro F;refine gG ?_;exact gTd):X:=h f
def fB{p X Y:Prop}(f:p)(b:Y)(h:p->Y->X:=by intro F b;refine gG ?_;exact gB b):X:=h f b
def JAt(_:Nat):Prop:=True
def JAt.go{e:Env}{K:GR}{ds:By}{n n' j:Nat}{os gZ:GL}{σ:St}{s1:d3}{m1:it}(_:JAt j)(hK:an e ds n' gZ ⟨s1,m1⟩ K)(h:FH (runN e.P ds j n os σ)=some (n',gZ,s1,m1):=by exact jZ):an e ds n os σ K:=ZzK j h hK
def eH{p0 p1 Z1 Y X:Prop}(f0:p0)(f1:p1)(c1:Z1)(b:Y)(h:p0->p1->Z1->Y->X:=by intro f0 f1 c1 b;have F:=@f0;refine gG ?_;refine gB ?_;clear F;have F:=@f1;refine gC c1 ?_;clear F;exact b):X:=h f0 f1 c1 b
def ce{p0 p1 p2 Z1 Y X:Prop}(f0:p0)(f1:p1)(c1:Z1)(f2:p2)(b:Y)(h:p0->p1->Z1->p2->Y->X:=by intro f0 f1 c1 f2 b;have F:=@f0;refine gG ?_;refine gB ?_;clear F;have F:=@f1;refine gC c1 ?_;clear F;have F:=@f2;refine gR ?_;clear F;exact b):X:=h f0 f1 c1 f2 b
def oZ{p0 p1 Z0 Y X:Prop}(f0:p0)(c0:Z0)(f1:p1)(b:Y)(h:p0->Z0->p1->Y->X:=by intro f0 c0 f1 b;have F:=@f0;refine gC c0 ?_;clear F;have F:=@f1;refine gR ?_;clear F;exact b):X:=h f0 c0 f1 b
def kQ{p0 Y X:Prop}(n0:Nat)(f0:p0)(b:Y)(h:Cj n0->p0->Y->X:=by intro y9 f0 b;have F:=@f0;have NN:=y9;refine FY ?_;clear F NN;refine gB ?_;exact b):X:=h trivial f0 b
def cg{p0 p2 Z2 Y X:Prop}(n0:Nat)(f0:p0)(f2:p2)(c2:Z2)(b:Y)(h:Cj n0->p0->p2->Z2->Y->X:=by intro y9 f0 f2 c2 b;have F:=@f0;have NN:=y9;refine FY ?_;clear F NN;refine gB ?_;have F:=@f2;refine gC c2 ?_;clear F;exact b):X:=h trivial f0 f2 c2 b
def cq{p0 p2 p3 Z2 Y X:Prop}(n0:Nat)(f0:p0)(f2:p2)(c2:Z2)(f3:p3)(b:Y)(h:Cj n0->p0->p2->Z2->p3->Y->X:=by intro y9 f0 f2 c2 f3 b;have F:=@f0;have NN:=y9;refine FY ?_;clear F NN;refine gB ?_;have F:=@f2;refine gC c2 ?_;clear F;have F:=@f3;refine gR ?_;clear F;exact b):X:=h trivial f0 f2 c2 f3 b
def dC{p0 p2 Y X:Prop}(n0:Nat)(f0:p0)(n2:Nat)(f2:p2)(b:Y)(h:Cj n0->p0->JAt n2->p2->Y->X:=by intro y9 f0 NN2 f2 b;have F:=@f0;have NN:=y9;refine FY ?_;clear F NN;refine gB ?_;have F:=@f2;refine JAt.go NN2 ?_;clear F;exact b):X:=h trivial f0 trivial f2 b
def eQ{p0 p2 Y X:Prop}(n0:Nat)(f0:p0)(f2:p2)(b:Y)(h:Cj n0->p0->p2->Y->X:=by intro y9 f0 f2 b;have F:=@f0;have NN:=y9;refine FY ?_;clear F NN;refine gB ?_;have F:=@f2;refine gR ?_;clear F;exact b):X:=h trivial f0 f2 b
def iF{p0 p1 X:Prop}(f0:p0)(f1:p1)(h:p0->p1->X:=by intro f0 f1;have F:=@f0;refine gR ?_;clear F;have F:=@f1;refine gG ?_;exact gTd):X:=h f0 f1
def ec{p0 p1 Y X:Prop}(f0:p0)(f1:p1)(b:Y)(h:p0->p1->Y->X:=by intro f0 f1 b;have F:=@f0;refine gR ?_;clear F;have F:=@f1;refine gG ?_;clear F;exact b):X:=h f0 f1 b
def dM{p0 p1 X:Prop}(f0:p0)(f1:p1)(h:p0->p1->X:=by intro f0 f1;have F:=@f0;refine gR ?_;clear F;have F:=@f1;refine gG ?_;exact gT):X:=h f0 f1
def ix.cell:∀{f:F}{c:C},ix f c->bQ c=true
 |.int,.A v,h=>by obtain⟨n,rfl,_⟩:=h;rfl
 |.str,.A v,h=>by obtain⟨n,rfl,_⟩:=h;rfl
 |.bool,.A v,h=>by obtain⟨n,rfl⟩:=h;rfl
 |.sl t,.sl rows,h=>rfl
 |.int,.sl _,h=>False.elim h
 |.str,.sl _,h=>False.elim h
 |.bool,.sl _,h=>False.elim h
 |.sl _,.A _,h=>False.elim h
 |f,.ptr _,h=>by cases f<;>exact False.elim h
 |f,.fn _ _,h=>by cases f<;>exact False.elim h
def bd.cells:∀{fs:List F}{cs:we},bd fs cs->cs.all bQ=true
 |[],[],_=>rfl
 |f::fs,c::cs,h=>by
  simp only[bd]at h;rw[List.all_cons,h.1.cell,bd.cells h.2];rfl
 |[],_::_,h=>by simp[bd]at h
 |_::_,[],h=>by simp[bd]at h
def bd.take{fs:List F}{cs:we}(h:bd fs cs){n:Nat}(hn:fs.length=n):cs.length=n/\cs.take n=cs/\cs.drop n=[]:=by
 have:=h.len;refine⟨om,?_,?_⟩
 ·rw[List.take_of_length_le om]
 ·rw[List.drop_eq_nil_of_le om]
def aC.inside'{w:World}{S:GO}:∀{cs:we}{us:GK},aC w S cs us->aC w (λb=>b<w.heap.size) cs us
 |[],[],_=>by simp[aC]
 |c::cs,u::us,h=>by
  simp only[aC]at h⊢;exact⟨(aR.inside c u h.1).mono (λb hb=>hb.2),aC.inside' h.2⟩
 |[],_::_,h=>by simp[aC]at h
 |_::_,[],h=>by simp[aC]at h
def bu.Ι{fs:List F}{rows:sh}(h:bu fs rows):rowsLen fs.length rows:=λr hr=>by
 obtain⟨i,hi⟩:=Tbl hr;exact⟨(h.get hi).len,(h.get hi).cells⟩
def Bc{α:Type}(l:List α):l.drop 0=l:=rfl
section
variable{w:World}{S:GO}{T:Nat}
def ZI3{f:F}{c:C}{z:Int}(h:ix f c)(hr:aR w S c (.int .u8 z)):False:=by
 cases c with
 |A v =>
  simp only[aR]at hr;subst hr
  cases f with
  |int=>obtain⟨n,h,_⟩:=h;cases h
  |str=>obtain⟨n,h,_⟩:=h;cases h
  |bool=>obtain⟨n,h⟩:=h;cases h
  |sl t=>simp only[ix]at h
 |sl rows =>
  simp only[aR]at hr;obtain⟨A,n,cap,hv,_⟩:=hr
  cases hv
 |ptr cs=>cases f<;>simp only[ix]at h
 |fn g cs=>cases f<;>simp only[ix]at h
def ZB2(t:TN):∃f fs,Zaf t=f::fs:=by cases t<;>exact⟨_,_,rfl⟩
def ZEt(hT:∀o u,w.cell? ⟨T,o,none⟩=some u->∃z,u=.int .u8 z){t:TN}{rows:sh}{b off:Nat}(h0:0<rows.length)(aq:bu (Zaf t) rows)(h:ct w S b off rows):b≠T:=by
 rintro rfl
 cases rows with
 |nil=>simp at h0
 | cons r rs =>
  obtain⟨f,fs,e⟩:=ZB2 t;simp only[bu,ct]at aq h;rw[e]at aq
  cases r with
  |nil=>simp only[bd]at aq;exact aq.1.elim
  |cons c cs =>
   simp only[bd,a8]at aq h;obtain⟨⟨u,hu,hr⟩,_⟩:=h.1;obtain⟨z,rfl⟩:=hT off u hu;exact ZI3 aq.1.1 hr
mutual
theorem aR.off(hT:∀o u,w.cell? ⟨T,o,none⟩=some u->∃z,u=.int .u8 z):∀(f:F)(c:C)(v:Value),ix f c->aR w S c v->aR w (λb=>S b/\b≠T) c v
 |_,.A x,v,_,h=>by simpa[aR]using h
 |.sl t,.sl rows,v,aq,h=>by
  simp only[ix]at aq;simp only[aR]at h⊢;obtain⟨A,n,cap,hv,hn,hc,hm,hr⟩:=h;refine⟨A,n,cap,hv,hn,hc,hm,λh0=>?_⟩;obtain⟨b,off,hA,hs,hb,cn⟩:=hr h0;exact⟨b,off,hA,⟨hs,ZEt hT om aq cn⟩,hb,ct.off hT (Zaf t) b off rows aq cn⟩
 |.int,.sl _,_,aq,_=>by simp only[ix]at aq
 |.str,.sl _,_,aq,_=>by simp only[ix]at aq
 |.bool,.sl _,_,aq,_=>by simp only[ix]at aq
 |f,.ptr _,_,aq,_=>by cases f<;>simp only[ix]at aq
 |f,.fn _ _,_,aq,_=>by cases f<;>simp only[ix]at aq
theorem ct.off(hT:∀o u,w.cell? ⟨T,o,none⟩=some u->∃z,u=.int .u8 z):∀(fs:List F)(b off:Nat)(rows:sh),bu fs rows->ct w S b off rows->ct w (λb=>S b/\b≠T) b off rows
 |_,_,_,[],_,_=>by simp[ct]
 |fs,b,off,r::rs,aq,h=>by
  simp only[bu]at aq;simp only[ct]at h⊢;exact⟨a8.off hT fs b off r aq.1 h.1,ct.off hT fs b _ rs aq.2 h.2⟩
theorem a8.off(hT:∀o u,w.cell? ⟨T,o,none⟩=some u->∃z,u=.int .u8 z):∀(fs:List F)(b off:Nat)(cs:we),bd fs cs->a8 w S b off cs->a8 w (λb=>S b/\b≠T) b off cs
 |_,_,_,[],_,_=>by simp[a8]
 |f::fs,b,off,c::cs,aq,h=>by
  simp only[bd]at aq;simp only[a8]at h⊢;obtain⟨⟨u,hu,hr⟩,h2⟩:=h;exact⟨⟨u,hu,aR.off hT f c u aq.1 hr⟩,a8.off hT fs b _ cs aq.2 h2⟩
 |[],_,_,c::cs,aq,_=>by simp only[bd]at aq
end
def aC.off(hT:∀o u,w.cell? ⟨T,o,none⟩=some u->∃z,u=.int .u8 z):∀(fs:List F)(cs:we)(us:GK),bd fs cs->aC w S cs us->aC w (λb=>S b/\b≠T) cs us
 |_,[],[],_,_=>by simp[aC]
 |f::fs,c::cs,u::us,aq,h=>by
  simp only[bd]at aq;simp only[aC]at h⊢;exact⟨aR.off hT f c u aq.1 h.1,aC.off hT fs cs us aq.2 h.2⟩
 |[],c::cs,_,aq,_=>by simp only[bd]at aq
 |_::_,[],_,aq,_=>by simp only[bd]at aq
 |_,[],_::_,_,h=>by simp[aC]at h
 |_,_::_,[],_,h=>by simp[aC]at h
end
def ZsZ{w:World}(h:qo w):∀o u,w.cell? ⟨2,o,none⟩=some u->∃z,u=.int .u8 z:=λo u hu=>by
 unfold qo at h;unfold World.cell? at hu;simp only[h]at hu;unfold AR at hu;rw[if_neg (by simp),List.getElem?_toArray,Tba]at hu;obtain⟨n,_,rfl⟩:=Tav.1 hu;exact⟨_,rfl⟩
def ZIs{w:World}(h:qo w):∀b,e0.E b->b<w.heap.size:=λb hb=>by
 have hb:b=2:=hb;subst hb;unfold qo at h;exact(Tbm.1 h).1
def Kept.belowT{w w':World}(h:Kept e0.D e0.E w.heap.size w w')(h1:qo w)(h2:qo w'):Below w.heap.size w w':=⟨h.os,h.tape,h.output,h.size,λk hk=>by
 by_cases e:k=2
 ·subst e;exact h2.trans h1.symm
 ·exact h.block k hk e⟩
end Go.Proofs.YtaenibhihgfehaaGreatDoor
namespace Go.Proofs.YtaenibhihgfehaaGreatDoor
open Go.ChangeShapes Go.WideShapes Go.ChangeAt Go.RowKit
abbrev Zh9:List (String×DataW Unit):=[("math/bits.deBruijn32tab",Rows.laid_math_bits_deBruijn32tab),("math/bits.deBruijn64tab",Rows.laid_math_bits_deBruijn64tab),("internal/strconv.uint64pow10",Rows.laid_internal_strconv_uint64pow10)]
def ZEu(os:Os)(args:Array Value):laidMetH Tryz.prog Zh9 ((World.doorLaid Tryz.prog 24 os).forCall (λ_ _=>0) ⟨#[],args,[]⟩).memory :=
 laidMetH_of_parts3 (fuel:=8) (laidMet_of_run' 8 (by kernel_rfl) (by kernel_rfl)) (by kernel_rfl) (by kernel_rfl)
def gTab:Tryz.prog.globalNamed "math/bits.deBruijn64tab" = some 2:=by kernel_rfl
def tTab:(Tryz.prog.globals[(2:Nat)]?).map (·.type)=some 260:=by kernel_rfl
def ZHl:∃zero,((begin Tryz.prog (λ_ _=>0) default).world.heap[(2:Nat)]?).bind Obj.row?=some (zero,260):=⟨(List.replicate 64 (Value.int .u8 0)).toArray,by kernel_rfl⟩
def ZEv{W:World}(h:laidMetH Tryz.prog Zh9 W)(hs:W.ShapedOpen Tryz.prog):qo W:=by
 rw[MakeChecks.laidMetH_plain _ _ _ (by kernel_rfl)]at h;have h2:=laidMet.tail h;have h3:laidMet Tryz.prog [("math/bits.deBruijn64tab",Lib.tabData .u8 (Zsc.map fun (n:Nat)=>(n:Int))),("internal/strconv.uint64pow10",Rows.laid_internal_strconv_uint64pow10)] W:=h2;have h4:=Lib.tabIs_of_head gTab tTab (e:=5) (n:=64) (by kernel_rfl) (by kernel_rfl) (by kernel_rfl) (by kernel_rfl) h3;obtain⟨zero,hz⟩:=ZHl
 obtain⟨cs,hh,_⟩:=hs.1 _ zero _ (by decide +kernel) hz;unfold Lib.TabIs World.var? at h4;rw[gTab]at h4;simp only[Option.bind_some,hh,Taq]at h4;unfold qo;rw[hh,h4];unfold AR;rw[List.map_map];rfl
section
variable{H:Type}{enc:TypeId×Value->H}
def Zs0{a:Assume}{C:Checked}{os:Os}{f:FuncId}{fn:Func}{s:ChangeSpec}{xc:List PathCond}{apart fresh un Bu:Bool}{X:World->Array Value->Prop}
  (hX:∀(w w':World)(args:Array Value),w.heap=w'.heap->X w args->X w' args)
  (own:ownKnob C.prog.godebug=none) (ld:os.Started) (EO:C.prog.inits.idxOf? f=none) (Ad:C.prog.funcs[f]?=some fn)
  (AW:∃(w:World)(tape:Tape)(i:Input),w.os=os/\(w.forCall tape i).Shaped C.prog/\i.vars=[]/\Input.okWide C.prog (w.forCall tape i) .any w.heap.size f i /\
   ((s.pre enc C.prog fn xc apart (w.forCall tape i).memory i.args/\X (w.forCall tape i).memory i.args)/\sizedMet enc C.prog fn (OpenSpec.ofChange s) apart (w.forCall tape i).memory i.args)/\a.holds C.prog (lone (Frame.enter C.prog f i.args .normal) [] (w.forCall tape i)))
  (xd:∀(W:World)(base:Nat)(args:Array Value)(ds gs:List (DataW H))(j6:List MemPlace),
   (∀(j:Nat)t v,fn.params[j]?=some t->args[j]?=some v->Value.okWide C.prog W .any base t v) ->
   DataW.Whole enc C.prog fn.params.toList s.vars apart W args.toList ds gs j6 ->
   xc.all (PathCond.test C.prog ⟨fn.params.toList,ds,s.plain.varTypes C.prog,gs⟩)=true ->
   (DataW.weightsEach C.prog (fn.params.toList++s.plain.varTypes C.prog) (ds++gs)).all (·<=reachBytes)=true->X W args->W.ShapedOpen C.prog ->
   a.holds C.prog (lone (Frame.enter C.prog f args .normal) [] W) ->
   Calls C.prog f args W λe W'=>∃v,e=.returned v/\s.post enc C.prog fn apart fresh un Bu W args v W') :
  ReturnsInHanded a C os f .any (λw args=>(s.pre enc C.prog fn xc apart w args/\X w args)/\sizedMet enc C.prog fn (OpenSpec.ofChange s) apart w args) (s.post enc C.prog fn apart fresh un Bu):=by
 refine returnsInHanded_of_calls own ld EO AW ?_;intro w tape i _ wu _ aq mU DH;obtain⟨_,_,_,fn',hfn',_,_,_,_,mW⟩:=aq;obtain rfl:fn'=fn:=Option.some.inj (hfn'.symm.trans Ad);obtain⟨⟨⟨ds,gs,j6,hw,hc⟩,hx⟩,hz⟩:=mU;refine(xd (w.forCall tape i) w.heap.size i.args ds gs j6 mW (DataW.Whole.of_heap (w':=w.forCall tape i) (by rfl) hw) hc (hz.weights hw) (hX _ _ _ (by rfl) hx) wu DH).mono λe W'⟨v,he,hp⟩=>?_
 subst he;exact ChangeSpec.post_blind hp
end
end Go.Proofs.YtaenibhihgfehaaGreatDoor
namespace Go.Proofs.YtaenibhihgfehaaGreatDoor
def Znu(m p:Nat)(a b:Bool):(2*m+a.toNat)&&&(2*p+b.toNat)=2*(m&&&p)+(a&&b).toNat:=by
 apply Nat.eq_of_testBit_eq;intro i;rw[Nat.testBit_and]
 cases i with
 |zero=>simp only[Nat.testBit_zero];cases a<;>cases b<;>simp[Nat.add_mod]
 |succ i =>
  simp only[Nat.testBit_succ];have h:∀(n:Nat)(c:Bool),(2*n+c.toNat) / 2=n:=λn c=>by cases c<;>simp<;> omega
  rw[h,h,h,Nat.testBit_and]
def Zli(n:Nat):∃m,∃a:Bool,n=2*m+a.toNat:=by
 refine⟨n / 2,decide (n % 2=1),?_⟩;rcases Nat.mod_two_eq_zero_or_one n with h|h
 ·rw[h];simp;omega
 ·rw[h];simp;omega
def ZB3{q m:Nat}(h:q&&&m=q):q<=m:=by rw[<- h];exact Nat.and_le_right
open Classical in
noncomputable def db(P:GO):Nat->Nat
 |0=>0
 |n+1=>db P n ||| (if P n then 2 ^ n else 0)
def zu (P:GO):∀(n i:Nat),(db P n).testBit i=true↔i<n/\P i
 |0,i=>by simp[db]
 | n+1,i=>by
  rw[db,Nat.testBit_or,Bool.or_eq_true,zu P n i];by_cases h:P n
  ·rw[if_pos h,Nat.testBit_two_pow];simp only[decide_eq_true_eq];constructor
   ·rintro(⟨h1,h2⟩|rfl)
    ·exact⟨om,h2⟩
    ·exact⟨om,h⟩
   ·rintro⟨h1,h2⟩;by_cases h3:n=i
    ·exact .inr h3
    ·exact .inl ⟨om,h2⟩
  ·rw[if_neg h];simp only[Nat.zero_testBit,Tam,or_false];constructor
   ·rintro⟨h1,h2⟩;exact⟨om,h2⟩
   ·rintro⟨h1,h2⟩;by_cases h3:i=n
    ·subst h3;exact absurd h2 h
    ·exact⟨om,h2⟩
def sx(P:GO)(n:Nat):db P n<2 ^ n:=by
 apply Nat.lt_pow_two_of_testBit;intro i hi
 cases h:(db P n).testBit i with
 |false=>rfl
 |true=>have:=((zu P n i).1 h).1;omega
def Zlj{v n i:Nat}(h:v<2 ^ n)(hb:v.testBit i):i<n:=by
 apply Classical.byContradiction;intro hc;have:v<2 ^ i:=Tbd h (Tbt (by decide) om);rw[Tbu this]at hb
 cases hb
def Zyf{v u:Nat}(h:∀i,v.testBit i=true↔u.testBit i=true):v=u:=by
 apply Nat.eq_of_testBit_eq;intro i;have:=h i
 cases h1:v.testBit i<;>cases h2:u.testBit i<;>simp_all
def FE{P:GO}{n v:Nat}(hv:v<2 ^ n)(h:∀i,i<n->(v.testBit i=true↔P i)):v=db P n:=by
 apply Zyf;intro i;rw[zu];constructor
 ·intro hb;have:=Zlj hv hb;exact⟨this,(h i this).1 hb⟩
 ·rintro⟨h1,h2⟩;exact(h i h1).2 h2
def yj{P Q:GO}{n:Nat}(h:∀i,i<n->(P i↔Q i)):db P n=db Q n :=
 FE (sx P n) λi hi=>by rw[zu,h i hi];exact⟨λx=>x.2,λx=>⟨hi,x⟩⟩
inductive BagB(R:Nat->Nat->Nat->Prop)(sets:GN):Nat->Nat->Prop
 |leaf {i b s:Nat}:sets[i]?=some s->s.testBit b->BagB R sets (2 ^ i) b
 |node {p q a c b:Nat}:p≠0->q≠0->p&&&q=0->BagB R sets p a->BagB R sets q c->R a c b->BagB R sets (p ||| q) b
inductive ChB(R:Nat->Nat->Nat->Prop)(sets:GN):Nat->Nat->Nat->Prop
 |leaf {i b s:Nat}:sets[i]?=some s->s.testBit b->ChB R sets i (i+1) b
 |node {i k j a c b:Nat}:i<k->k<j->ChB R sets i k a->ChB R sets k j c->R a c b->ChB R sets i j b
def Two(R:Nat->Nat->Nat->Prop)(s t b:Nat):Prop:=∃a c,s.testBit a/\t.testBit c/\R a c b
def ZpO(i j:Nat):(2 ^ i).testBit j=true↔i=j:=by rw[Nat.testBit_two_pow];simp
def Znv{p:Nat}(h:p≠0):∃i,p.testBit i:=by
 apply Classical.byContradiction;intro hc;apply h;apply Nat.eq_of_testBit_eq;intro i
 cases hb:p.testBit i with
 |false=>simp
 |true=>exact absurd ⟨i,hb⟩ hc
def ZpP{p q i:Nat}(h:p&&&q=0)(h1:p.testBit i)(h2:q.testBit i):False:=by
 have:=congrArg (λx=>x.testBit i) h;simp[h1,h2]at this
def Zyg{p q i:Nat}(hp:p≠0)(hq:q≠0)(h:p&&&q=0):p ||| q≠2 ^ i:=by
 intro e;obtain⟨a,ha⟩:=Znv hp;obtain⟨c,hc⟩:=Znv hq;have h1:(2 ^ i).testBit a:=by rw[<- e,Nat.testBit_or,ha];rfl
 have h2:(2 ^ i).testBit c:=by rw[<- e,Nat.testBit_or,hc];simp
 rw[ZpO]at h1 h2;subst h1;subst h2;exact ZpP h ha hc
def Zs1{R:Nat->Nat->Nat->Prop}{sets:GN}{i s b:Nat}(hs:sets[i]?=some s):BagB R sets (2 ^ i) b↔s.testBit b=true:=by
 constructor
 ·intro h;generalize hm:2 ^ i=m at h
  cases h with
  |leaf h1 h2 =>
   have:=(Nat.pow_right_inj (by decide)).1 hm;subst this;rw[hs]at h1;injection h1 with h1;subst h1;exact h2
  |node h1 h2 h3 _ _ _=>exact absurd hm.symm (Zyg h1 h2 h3)
 ·exactλh=>.leaf hs h
def ZIt{p q:Nat}(h:p&&&q=0):(p ||| q)^^^p=q:=by
 apply Nat.eq_of_testBit_eq;intro i;rw[Nat.testBit_xor,Nat.testBit_or]
 cases h1:p.testBit i<;>cases h2:q.testBit i<;>simp
 exact absurd h1 (by intro h1;exact ZpP h h1 h2)
def Zxg{p m:Nat}(h:p&&&m=p){i:Nat}(hi:p.testBit i):m.testBit i:=by
 rw[<- h,Nat.testBit_and]at hi;simp at hi;exact hi.2
def ZHm{p m:Nat}(h:p&&&m=p):p&&&(m^^^p)=0/\p ||| (m^^^p)=m:=by
 constructor
 ·apply Nat.eq_of_testBit_eq;intro i;rw[Nat.testBit_and,Nat.testBit_xor]
  cases h1:p.testBit i with
  |false=>simp
  |true=>simp[Zxg h h1]
 ·apply Nat.eq_of_testBit_eq;intro i;rw[Nat.testBit_or,Nat.testBit_xor]
  cases h1:p.testBit i with
  |false=>simp
  |true=>simp[Zxg h h1]
def ZEw{p m:Nat}(h:p≠m):m^^^p≠0:=by
 intro e;apply h;apply Nat.eq_of_testBit_eq;intro i;have:=congrArg (λx=>x.testBit i) e;rw[Nat.testBit_xor]at this
 cases h1:p.testBit i<;>cases h2:m.testBit i<;>simp[h1,h2]at this⊢
def ZEx{R:Nat->Nat->Nat->Prop}{sets:GN}{m b:Nat}(hm:∀i,m≠2 ^ i):BagB R sets m b↔∃p,p≠0/\p≠m/\p&&&m=p/\∃a c,BagB R sets p a/\BagB R sets (m^^^p) c/\R a c b:=by
 constructor
 ·intro h
  cases h with
  |leaf=>exact absurd rfl (hm _)
  |node h1 h2 h3 h4 h5 h6 =>
   rename_i p q a c;refine⟨p,h1,?_,?_,a,c,h4,?_,h6⟩
   ·intro e;obtain⟨i,hi⟩:=Znv h2;exact ZpP h3 (by rw[e,Nat.testBit_or,hi];simp) hi
   ·apply Nat.eq_of_testBit_eq;intro i;rw[Nat.testBit_and,Nat.testBit_or];cases p.testBit i<;>simp
   ·rw[ZIt h3];exact h5
 ·rintro⟨p,h1,h2,h3,a,c,h4,h5,h6⟩;have:=ZHm h3;have h:=BagB.node h1 (ZEw h2) this.1 h4 h5 h6;rw[this.2]at h;exact h
def Zjw{R:Nat->Nat->Nat->Prop}{sets:GN}{i s b:Nat}(hs:sets[i]?=some s):ChB R sets i (i+1) b↔s.testBit b=true:=by
 constructor
 ·intro h;generalize hj:i+1=j at h
  cases h with
  |leaf h1 h2=>rw[hs]at h1;injection h1 with h1;subst h1;exact h2
  |node h1 h2 _ _ _=>omega
 ·exactλh=>.leaf hs h
def ZHn{R:Nat->Nat->Nat->Prop}{sets:GN}{i j b:Nat}(qW:i+1<j):ChB R sets i j b↔∃k,i<k/\k<j/\∃a c,ChB R sets i k a/\ChB R sets k j c/\R a c b:=by
 constructor
 ·intro h
  cases h with
  |leaf=>omega
  |node h1 h2 h3 h4 h5=>exact⟨_,h1,h2,_,_,h3,h4,h5⟩
 ·rintro⟨k,h1,h2,a,c,h3,h4,h5⟩;exact .node h1 h2 h3 h4 h5
def ZIu{R:Nat->Nat->Nat->Prop}{s t b:Nat}:ChB R [s,t] 0 2 b↔Two R s t b:=by
 rw[ZHn om];constructor
 ·rintro⟨k,h1,h2,a,c,h3,h4,h5⟩;obtain rfl:k=1:=by omega
  exact⟨a,c,(Zjw (i:=0) rfl).1 h3,(Zjw (i:=1) rfl).1 h4,h5⟩
 ·rintro⟨a,c,h3,h4,h5⟩;exact⟨1,om,om,a,c,(Zjw (i:=0) rfl).2 h3,(Zjw (i:=1) rfl).2 h4,h5⟩
def ZB4:∀i,3≠2 ^ i
 |0=>by decide
 |1=>by decide
 |i+2=>by rw[Nat.pow_succ];omega
def ZHo{R:Nat->Nat->Nat->Prop}{s t b:Nat}:BagB R [s,t] 3 b↔Two R s t b\/Two R t s b:=by
 rw[ZEx ZB4];have l0:∀x,BagB R [s,t] 1 x↔s.testBit x=true:=λx=>Zs1 (i:=0) rfl;have l1:∀x,BagB R [s,t] 2 x↔t.testBit x=true:=λx=>Zs1 (i:=1) rfl;constructor
 ·rintro⟨p,h1,h2,h3,a,c,h4,h5,h6⟩;have:=ZB3 h3;rcases(by omega:p=1\/p=2)with rfl|rfl
  ·exact .inl ⟨a,c,(l0 a).1 h4,(l1 c).1 h5,h6⟩
  ·exact .inr ⟨a,c,(l1 a).1 h4,(l0 c).1 h5,h6⟩
 ·rintro(⟨a,c,h4,h5,h6⟩|⟨a,c,h4,h5,h6⟩)
  ·exact⟨1,by decide,by decide,by decide,a,c,(l0 a).2 h4,(l1 c).2 h5,h6⟩
  ·exact⟨2,by decide,by decide,by decide,a,c,(l1 a).2 h4,(l0 c).2 h5,h6⟩
end Go.Proofs.YtaenibhihgfehaaGreatDoor
namespace Go.Proofs.YtaenibhihgfehaaGreatDoor
open Go.RowKit
variable{G3 G4 G5:Prop}
def zk{r:we}(h:bd (Zaf .term) r):∃(i0:Int)(t1:ByteArray)(i2:Int)(r3:sh),r=[GS i0,.A (.string t1),GS i2,.sl r3]/\iT i0/\t1.size<=maxLen/\iT i2/\bu (Zaf .term) r3:=by
 obtain⟨c0,c1,c2,c3,rfl⟩:=len4 h.len;refine EH λh=>?_;obtain⟨h0,h1,h2,h3⟩:=h;obtain⟨i0,rfl,g0⟩:=vJ h0;obtain⟨t1,rfl,g1⟩:=Zjq h1;obtain⟨i2,rfl,g2⟩:=vJ h2;obtain⟨r3,rfl,g3⟩:=wL h3;exact⟨i0,t1,i2,r3,rfl,g0,g1,g2,g3⟩
def ZjY{i0:Int}{t1:ByteArray}{i2:Int}{r3:sh}(g0:iT i0)(g1:t1.size<=maxLen)(g2:iT i2)(g3:bu (Zaf .term) r3):bd (Zaf .term) [GS i0,.A (.string t1),GS i2,.sl r3]:=by
 refine Ed ?_;exact⟨CR g0,Zn7 g1,CR g2,Br g3⟩
inductive Tm where
 |mk (op:Int) (name:ByteArray) (sort:Int) (args:List Tm)
abbrev AI:=List Tm
def Tm.Y:Tm->AI|.mk _ _ _ a=>a
def Tm.op:Tm->Int|.mk a _ _ _=>a
def Tm.name:Tm->ByteArray|.mk _ a _ _=>a
def Tm.sort:Tm->Int|.mk _ _ a _=>a
mutual
def ax:Tm->we
 |.mk op nm so args=>[GS op,.A (.string nm),GS so,.sl (az args)]
def az:AI->sh
 |[]=>[]
 |t::ts=>ax t::az ts
end
mutual
def bc:Tm->Prop
 |.mk op nm so args=>iT op/\nm.size<=maxLen/\iT so/\dI args
def dI:AI->Prop
 |[]=>True
 |t::ts=>bc t/\dI ts
end
def oq(ts:AI):az ts=ts.map ax:=by
 induction ts with
 |nil=>simp[az]
 |cons t ts ih=>simp[az,ih]
def cc(ts:AI):(az ts).length=ts.length:=by simp[oq]
def rt(ts:AI)(i:Nat):(az ts)[i]?=ts[i]?.map ax:=by simp[oq]
mutual
theorem ZB5:∀(t:Tm),bc t->bd (Zaf .term) (ax t)
 |.mk op nm so args,h=>by
  simp only[bc]at h;simp only[ax];exact ZjY h.1 h.2.1 h.2.2.1 (Zht args h.2.2.2)
theorem Zht:∀(ts:AI),dI ts->bu (Zaf .term) (az ts)
 |[],_=>by simp[az,bu]
 |t::ts,h=>by
  simp only[dI]at h;simp only[az,bu];exact⟨ZB5 t h.1,Zht ts h.2⟩
end
def ZEy(n:Nat):(∀row,mI row<n->bd (Zaf .term) row->∃t,row=ax t/\bc t)/\(∀rows,sW rows<n->bu (Zaf .term) rows->∃ts,rows=az ts/\dI ts):=by
 induction n with
 |zero=>exact⟨λ_ h=>om,λ_ h=>om⟩
 | succ n ih =>
  have h1:∀row,mI row<n+1->bd (Zaf .term) row->∃t,row=ax t/\bc t:=by
   intro row hn aq;obtain⟨i0,t1,i2,r3,rfl,g0,g1,g2,g3⟩:=zk aq;obtain⟨ts,rfl,ve⟩:=ih.2 r3 (by simp only[mI,vM]at hn;omega) g3;exact⟨.mk i0 t1 i2 ts,by simp[ax],by simp only[bc];exact⟨g0,g1,g2,ve⟩⟩
  refine⟨h1,λrows=>?_⟩
  induction rows with
  |nil=>exactλ_ _=>⟨[],by simp[az],by simp[dI]⟩
  |cons r rs ihr =>
   intro hn aq;simp only[sW]at hn;simp only[bu]at aq;obtain⟨t,rfl,ht⟩:=h1 r om aq.1;obtain⟨ts,rfl,ve⟩:=ihr om aq.2;exact⟨t::ts,by simp[az],by simp only[dI];exact⟨ht,ve⟩⟩
def ZGO{row:we}(h:bd (Zaf .term) row):∃t,row=ax t/\bc t:=(ZEy _).1 row (Tan _) h
def dI.mem:∀{ts:AI}{t:Tm},dI ts->t∈ts->bc t
 |[],_,_,h=>by simp at h
 |x::xs,t,h,ht=>by
  simp only[dI]at h;rcases Tbh.1 ht with rfl|ht
  ·exact h.1
  ·exact dI.mem h.2 ht
def gg(a b:Int):Int:=if a<b then -1 else if b<a then 1 else 0
def oU(a b:ByteArray):Int:=Lib.compareBytes a.data.toList b.data.toList
def fP:List Int->Int
 |[]=>0
 |x::xs=>if x=0 then fP xs else x
mutual
def aU:Tm->Tm->Int
 |.mk o n s a,.mk o' n' s' a'=>fP [gg o o',oU n n',gg s s',fg a a']
def fg:AI->AI->Int
 |[],[]=>0
 |[],_::_=>-1
 |_::_,[]=>1
 |x::xs,y::ys=>fP [aU x y,fg xs ys]
end
def Zhn:∀(l:List UInt8),Lib.compareBytes l l=0
 |[]=>rfl
 |x::xs=>by simp[Lib.compareBytes,Zhn xs]
def Zho:∀{l m:List UInt8},Lib.compareBytes l m=0->l=m
 |[],[],_=>rfl
 |[],_::_,h=>by simp[Lib.compareBytes]at h
 |_::_,[],h=>by simp[Lib.compareBytes]at h
 | x::xs,y::ys,h=>by
  simp only[Lib.compareBytes]at h;split at h
  ·simp at h
  ·split at h
   ·simp at h
   ·rename_i h1 h2;have e:x=y:=UInt8.le_antisymm (UInt8.not_lt.1 h2) (UInt8.not_lt.1 h1);rw[e,Zho h]
def Zhp:∀(l m:List UInt8),Op.bytesLess l m=decide (Lib.compareBytes l m=-1)
 |[],[]=>by simp[Op.bytesLess,Lib.compareBytes]
 |[],_::_=>by simp[Op.bytesLess,Lib.compareBytes]
 |_::_,[]=>by simp[Op.bytesLess,Lib.compareBytes]
 | x::xs,y::ys=>by
  simp only[Op.bytesLess,Lib.compareBytes,(Zhp xs ys)];by_cases h1:x<y
  ·simp[h1]
  ·by_cases h2:y<x
   ·have:¬x=y:=λe=>by subst e;exact h1 h2
    simp[h1,h2,this]
   ·have e:x=y:=UInt8.le_antisymm (UInt8.not_lt.1 h2) (UInt8.not_lt.1 h1);subst e;simp[h1]
def Zg6:∀(l m:List UInt8),Lib.compareBytes l m=-1\/Lib.compareBytes l m=0\/Lib.compareBytes l m=1
 |[],[]=>by simp[Lib.compareBytes]
 |[],_::_=>by simp[Lib.compareBytes]
 |_::_,[]=>by simp[Lib.compareBytes]
 | x::xs,y::ys=>by
  have ih:=Zg6 xs ys;simp only[Lib.compareBytes];split
  ·simp
  ·split
   ·simp
   ·exact ih
def A4{a b:Int}:gg a b=0↔a=b:=by unfold gg;split<;>(try split)<;>simp<;> omega
def ZgS{a b:ByteArray}:oU a b=0↔a=b:=by
 constructor
 ·intro h;have:=Zho h;obtain⟨⟨la⟩⟩:=a;obtain⟨⟨lb⟩⟩:=b;simp at this;rw[this]
 ·rintro rfl;exact Zhn _
def Zs2(a b:ByteArray):oU a b=-1\/oU a b=0\/oU a b=1:=Zg6 _ _
def Zu0:∀{ps qs:AI}{k:Nat}{x y:Tm},ps[k]?=some x->qs[k]?=some y->fg (ps.drop k) (qs.drop k)=fP [aU x y,fg (ps.drop (k+1)) (qs.drop (k+1))]:=by
 intro ps qs k x y h1 h2;have e1:ps.drop k=x::ps.drop (k+1):=by
  obtain⟨hl,hx⟩:=Tad.1 h1;rw[<- hx];exact List.drop_eq_getElem_cons hl
 have e2:qs.drop k=y::qs.drop (k+1):=by
  obtain⟨hl,hx⟩:=Tad.1 h2;rw[<- hx];exact List.drop_eq_getElem_cons hl
 rw[e1,e2,fg]
def Zjx(t:Tm):(ax t).length=4:=by cases t;rfl
def Zxh(t:Tm):(ax t).take 4=ax t:=by cases t;rfl
def Zxi(t:Tm):(ax t).drop 4=[]:=by cases t;rfl
def Zyh(t:Tm):(ax t).all bQ:=by cases t;rfl
def uL(ts:AI):ZaD 4 (az ts):=by
 rw[oq];exact uD (e:=ax) (n:=4) (λt=>by rw[Zjx,Zyh];rfl) ts
def ZGP(t:Tm):jA .I (ax t)=some (GU t.op):=by cases t;rfl
def ZGQ(t:Tm):(ax t).drop 1=[.A (.string t.name),GS t.sort,.sl (az t.Y)]:=by cases t;rfl
def ZGR(t:Tm):(ax t).drop 2=[GS t.sort,.sl (az t.Y)]:=by cases t;rfl
def ZGS(t:Tm):(ax t).drop 3=[.sl (az t.Y)]:=by cases t;rfl
def ae:type_of% (aj12 ZGP ZGQ ZGR ZGS Zjx Zxh Zxi Zyh uL rt cc @Bc):=(aj12 ZGP ZGQ ZGR ZGS Zjx Zxh Zxi Zyh uL rt cc @Bc)
def Eh(h:G3:=by
 go_enter Tryz.func116,Tryz.ntmps116;go_wp2;go_ret;exact⟨rfl,rfl⟩):G3:=h
def Zyi(a b:Int)(w:World):Calls Tryz.prog 116 #[.int .i64 a,.int .i64 b] w λe w'=>e=.returned (.int .i64 (gg a b))/\w=w':=by
 unfold gg;by_cases h1:a<b
 ·rw[if_pos h1]
  exact Eh
 ·by_cases h2:b<a
  ·rw[if_neg h1,if_pos h2]
   exact Eh
  ·rw[if_neg h1,if_neg h2]
   exact Eh
def ZpQ(a b:ByteArray)(w:World):Calls Tryz.prog 173 #[.string a,.string b] w λe w'=>e=.returned (.int .i64 (oU a b))/\w=w':=by
 go_enter Tryz.func173,Tryz.ntmps173
 go_wp2
 rw[run_callFunc_extern Tryz.func205 (by kernel_rfl) (by kernel_rfl) (by kernel_rfl) (e:=Extern.BytealgCompare.compare) (by kernel_rfl),Lib.run_compareString];simp only[Result.andThen];rw[Oper.upon_value]
 go_wp2
 go_ret
 exact⟨rfl,rfl⟩
def ZpR(a b:ByteArray)(w:World):Calls Tryz.prog 117 #[.string a,.string b] w λe w'=>e=.returned (.int .i64 (oU a b))/\w=w':=by
 go_enter Tryz.func117,Tryz.ntmps117
 go_wp2_with fail
 refine(ZpQ _ _ _).mono ?_;rintro e w' ⟨rfl,rfl⟩
 go_wp2
 go_ret
 exact⟨rfl,rfl⟩
def Zs3{l:List Int}{k:Nat}{x:Int}(h:l[k]?=some x):fP (l.drop k)=if x=0 then fP (l.drop (k+1))else x:=by
 obtain⟨hl,hx⟩:=Tad.1 h;rw[List.drop_eq_getElem_cons hl,hx,fP]
def Ev(b:G5)(h:Bx G5->G4:=by
 intro B0
 obtain⟨a,ha⟩:∃n,xs[x]?=some n:=⟨_,Taa am⟩;have q1:=lT x xs.length;exact B0.o a ha q1):G4:=h ⟨b⟩
def Ep(h:G3:=by
 refine gG ?_;exact⟨x+1,⟨am,kT,rfl⟩,gw,gw,om⟩):G3:=h
def vl(b:G5)(h:Bx G5->G4:=by
 intro B0
 have q4:IntKind.i64.wrap ((x:Int)+1)=(x:Int)+1:=IntWalk.i64_in _ om;exact B0.o q4):G4:=h ⟨b⟩
def m44(h:G3:=by
 simp only[ax,mI,vM]at hn;simp only[Tm.Y]at hx;obtain⟨i,hi⟩:=Tbl hx;have h1:=yk (by rw[rt,hi];rfl:(az args)[i]?=some (ax x));omega):G3:=h
def Zs4{e:Env}{f:FuncId}{args:AS}{x:Value}(hb:qN e.P f)(h:∀(w:World)(S:GO)(vs:GK),dt w S args vs->Calls e.P f vs.toArray w λen w'=>en=.returned x/\w=w'):aI e f args [.I (.A x)] :=
 ⟨hb,λw S vs _ _ hG hv=>(h w S vs hv).mono λen w'⟨h1,h2⟩=>by subst h2;exact⟨x,h1,Kept.refl ..,hG,by simp[aQ,aw,aX,aR]⟩⟩
def Zs5{e:Env}{f:FuncId}{args r:AS}{φ:Prop}(hb:qN e.P f)(H6:∀(w:World)(S:GO)(vs:GK),dt w S args vs->φ)(h:φ->aI e f args r):aI e f args r :=
 ⟨hb,λw S vs h1 h2 h3 h4=>(h (H6 w S vs h4)).2 w S vs h1 h2 h3 h4⟩
def Zqz(a b:Int):aI e1 116 [GT a,GT b] [GT (gg a b)]:=by
 refine Zs4 (by kernel_rfl) λw S vs h=>?_
 match vs,h with
 |[x,y],h =>
  obtain⟨hx,hy,_⟩:=h;have hx:x=.int .i64 a:=hx;have hy:y=.int .i64 b:=hy;subst hx hy;exact Zyi a b w
def ZB6(a b:ByteArray):aI e1 117 [.I (.A (.string a)),.I (.A (.string b))] [GT (oU a b)]:=by
 refine Zs4 (by kernel_rfl) λw S vs h=>?_
 match vs,h with
 |[x,y],h =>
  obtain⟨hx,hy,_⟩:=h;have hx:x=.string a:=hx;have hy:y=.string b:=hy;subst hx hy;exact ZpR a b w
def Zox(l:List Int)(hl:l.length<=1048576):aI e1 77 [.Ζ (l.map λn=>[GS n])] [GT (fP l)]:=by
 have rb:ZaD 1 (l.map λn=>[GS n]):=uD (e:=λn=>[GS n]) (n:=1) (λ_=>rfl) l;refine gI (ts:=[.slot 2]) 17389 Tryz.func77 ?_;refine fG @rb ?_;have F:=@rb;refine gL (ι:=Nat) [2,5,8,9,14] [] (λx=>[(8,GU (x:Int))]) (λx=>[]) (λx=>x<=l.length/\fP l=fP (l.drop x)) (λx=>l.length-x) (0) (⟨Taj _,rfl⟩) (λx hx=>?_);obtain⟨hi,hf⟩:=hx
 rw[hf];clear hf;by_cases am:x<l.length
 ·obtain⟨n,hn⟩:∃n,l[x]?=some n:=⟨_,Taa am⟩;have q1:=lT x l.length;refine vl λq4=>?_;rw[Zs3 hn];by_cases h0:n=0
  ·subst h0;rw[if_pos rfl];refine fG (aj3 @q1 @rb @hn) ?_;have F:=@q4;refine gG ?_;exact⟨x+1,⟨am,rfl⟩,gw,gw,om⟩
  ·rw[if_neg h0];exact fD (aj4 @q1 @rb @hn (eq_false h0:(n=0)=False))
 ·obtain rfl:x=l.length:=by omega
  rw[List.drop_length];simp only[fP];exact fD (lF l.length l.length)
def Zu1{b:AI}{k:Nat}{xs:AI}(h:xs.length<=k):fg (xs.drop k) b=if b=[]then 0 else -1:=by
 rw[List.drop_eq_nil_of_le h]
 cases b with
 |nil=>simp[fg]
 |cons x xs=>simp[fg]
def Zu2{a:Tm}{k:Nat}{xs bs:AI}(ha:xs[k]?=some a)(h:bs.length<=k):fg (xs.drop k) (bs.drop k)=1:=by
 obtain⟨hl,hx⟩:=Tad.1 ha;rw[List.drop_eq_nil_of_le h,List.drop_eq_getElem_cons hl];simp[fg]
def Zoy(xs bs:AI)(hla:xs.length<=maxLen)(Gm:bs.length<=maxLen)(h:∀a∈xs,∀b∈bs,aI e1 65 [.agg (ax a),.agg (ax b)] [GT (aU a b)]):aI e1 118 [.I (.sl (az xs)),.I (.sl (az bs)),.I (.fn 65 [])] [GT (fg xs bs)]:=by
 unfold maxLen at hla Gm;refine gI (ts:=[.slot 6]) 277027520455 Tryz.func118 ?_;refine fG @ae ?_;have F:=@ae;refine gL (ι:=Nat) [6,7,8,9,10,13,14,21,31] [] (λx=>[(13,GU (x:Int))]) (λx=>[]) (λx=>x<=xs.length/\x<=bs.length/\fg xs bs=fg (xs.drop x) (bs.drop x)) (λx=>xs.length-x) (0) (⟨Taj _,Taj _,rfl⟩) (λx hx=>?_);obtain⟨hi,hj,hf⟩:=hx;rw[hf];clear hf
 by_cases am:x<xs.length
 ·refine Ev λa ha q1=>?_;by_cases kT:x<bs.length
  ·obtain⟨b,hb⟩:∃n,bs[x]?=some n:=⟨_,Taa kT⟩;refine vl λq4=>?_;rw[Zu0 ha hb];simp only[fP];refine ce (aj5 @q1 (eq_false om:((x:Int)≥bs.length)=False) @ae @ha @hb) @ae (h a (Tac ha) b (Tac hb)) @ae ?_;by_cases h0:aU a b=0
   ·rw[if_pos h0,show(if fg (xs.drop (x+1)) (bs.drop (x+1))=0 then(0:Int)else fg (xs.drop (x+1)) (bs.drop (x+1)))=fg (xs.drop (x+1)) (bs.drop (x+1)) by split<;>simp_all];refine fG (ai @ae (eq_true h0:(aU a b=0)=True)) ?_;have F:=@q4;exact Ep
   ·rw[if_neg h0];exact fD (ai @ae (eq_false h0:(aU a b=0)=False))
  ·rw[Zu2 ha om];exact fD (aj4 @q1 (eq_true om:((x:Int)≥bs.length)=True) @ae @ha)
 ·have q1:=lF x xs.length;rw[Zu1 om];by_cases h2:xs.length<bs.length
  ·have q2:=lT xs.length bs.length;rw[if_neg (by intro e;have:=congrArg List.length e;simp at this;omega)];exact fD (aj3 @q1 @q2 @ae)
  ·rw[if_pos (by apply List.drop_eq_nil_of_le;omega)];exact fD (aj3 @q1 (lF xs.length bs.length) @ae)
def Zmn{w:World}{S:GO}{rows:sh}{v:Value}(h:aR w S (.sl rows) v):rows.length<=maxLen:=by
 simp only[aR]at h;obtain⟨A,n,cap,_,h1,h2,h3,_⟩:=h;omega
def Zs6(xs bs:AI)(h:∀a∈xs,∀b∈bs,aI e1 65 [.agg (ax a),.agg (ax b)] [GT (aU a b)]):aI e1 118 [.I (.sl (az xs)),.I (.sl (az bs)),.I (.fn 65 [])] [GT (fg xs bs)]:=by
 refine Zs5 (φ:=xs.length<=maxLen/\bs.length<=maxLen) (by kernel_rfl) (λw S vs hv=>?_) λH6=>Zoy xs bs H6.1 H6.2 h
 match vs,hv with
 |[x,y,z],hv =>
  have h1:=Zmn hv.1;have h2:=Zmn hv.2.1;rw[cc]at h1 h2;exact⟨h1,h2⟩
def Zu3 (a b:Tm) (h:∀x∈a.Y,∀y∈b.Y,aI e1 65 [.agg (ax x),.agg (ax y)] [GT (aU x y)]):aI e1 65 [.agg (ax a),.agg (ax b)] [GT (aU a b)]:=by
 obtain⟨o,n,s,xs⟩:=a;obtain⟨o',n',s',bs⟩:=b;simp only[Tm.Y]at h;have c1:ax (.mk o n s xs)=[GS o,.A (.string n),GS s,.sl (az xs)]:=by simp only[ax]
 have c2:ax (.mk o' n' s' bs)=[GS o',.A (.string n'),GS s',.sl (az bs)]:=by simp only[ax]
 have e3:aU (.mk o n s xs) (.mk o' n' s' bs)=if fP [gg o o',oU n n',gg s s']=0 then fg xs bs else fP [gg o o',oU n n',gg s s']:=by
  simp only[aU,fP];by_cases h1:gg o o'=0
  ·by_cases h2:oU n n'=0
   ·by_cases h3:gg s s'=0
    ·simp only[h1,h2,h3,if_true];split<;>simp_all
    ·simp only[h1,h2,h3,if_true,if_false]
   ·simp only[h1,h2,if_true,if_false]
  ·simp only[h1,if_false]
 have pn:=Zox [gg o o',oU n n',gg s s'] (by simp);simp only[Tbv,List.map_nil]at pn;rw[e3];refine gI (ts:=[.slot 4]) 16777279 Tryz.func65 ?_;refine eH (ai @c1 @c2) (ai @c1 @c2) (Zqz o o') ?_;refine fC (ai @c1 @c2) (ZB6 n n') ?_;refine fC (ai @c1 @c2) (Zqz s s') ?_;refine oZ (ai @c1 @c2) (pn) (ai @c1 @c2) ?_;by_cases h0:fP [gg o o',oU n n',gg s s']=0
 ·rw[if_pos h0];refine eH (aj3 (eq_true h0:(fP [gg o o',oU n n',gg s s']=0)=True) @c1 @c2) (ai @c1 @c2) (Zs6 xs bs h) ?_;exact iF (ai @c1 @c2) (ai @c1 @c2)
 ·rw[if_neg h0];exact fD (aj3 (eq_false h0:(fP [gg o o',oU n n',gg s s']=0)=False) @c1 @c2)
def Zyj(n:Nat):∀a b:Tm,mI (ax a)<n->aI e1 65 [.agg (ax a),.agg (ax b)] [GT (aU a b)]:=by
 induction n with
 |zero=>exactλ_ _ h=>om
 |succ n ih =>
  intro a b hn;refine Zu3 a b λx hx y hy=>ih x y ?_;obtain⟨op,nm,so,args⟩:=a;exact m44
def Fo(a b:Tm):aI e1 65 [.agg (ax a),.agg (ax b)] [GT (aU a b)]:=Zyj _ a b (Tan _)
def EL(b:G5)(h:Bx G5->G4:=by
 intro B0
 refine gI (ts:=[.slot 4]) 304601861798674884003967 Tryz.func98 ?_;exact B0.o):G4:=h ⟨b⟩
mutual
def ah:Tm->Nat
 |.mk _ _ _ a=>1+au a
def au:AI->Nat
 |[]=>0
 |t::ts=>ah t+au ts
end
def aC.mem{w:World}{S:GO}:∀{cs:we}{us:GK}{c:C},aC w S cs us->c∈cs->∃u,aR w S c u
 |c::cs,u::us,x,h,hx=>by
  simp only[aC]at h;rcases Tbh.1 hx with rfl|hx
  ·exact⟨u,h.1⟩
  ·exact aC.mem h.2 hx
 |[],_,_,_,hx=>by simp at hx
 |_::_,[],_,h,_=>by simp[aC]at h
def ZEz{e:Env}{f:FuncId}{cs:we}{rows:sh}{post r:AS}(hb:qN e.P f)(hc:.sl rows∈cs)(h:rows.length<=maxLen->aI e f (.agg cs::post) r):aI e f (.agg cs::post) r:=⟨hb,λw S vs hS hE hG hv=>by
 match vs,hv with
 |v::vs,⟨h1,h2⟩ =>
  have pL:aX w S (.agg cs) v:=h1;obtain⟨us,_,hu⟩:=pL;obtain⟨u,hr⟩:=hu.mem hc;obtain⟨A,n,cap,_,hn,hl,hm⟩:=hr.Η;exact(h om).2 w S _ hS hE hG ⟨h1,h2⟩⟩
def ZEA{n n':ByteArray}(h:n≠n'):(n.toList==n'.toList)=false:=by
 simp only[beq_eq_false_iff_ne,ne_eq,ByteArray.toList_eq];intro e;apply h;obtain⟨⟨la⟩⟩:=n;obtain⟨⟨lb⟩⟩:=n';simp at e;rw[e]
def Zu4{x y:AI}{i:Nat}{a b:Tm}(ha:x[i]?=some a)(hb:y[i]?=some b):fg (x.drop i) (y.drop i)=if aU a b=0 then fg (x.drop (i+1)) (y.drop (i+1))else aU a b:=by
 obtain⟨h1,rfl⟩:=Tad.1 ha;obtain⟨h2,rfl⟩:=Tad.1 hb;rw[List.drop_eq_getElem_cons h1,List.drop_eq_getElem_cons h2];simp only[fg,fP];split
 ·split<;>simp_all
 ·rfl
def ZpS(a b:Tm)(ha:bc a)(h:∀x∈a.Y,bc x->∀y∈b.Y,aI e0 98 [.agg (ax x),.agg (ax y)] [GT (aU x y)]):aI e0 98 [.agg (ax a),.agg (ax b)] [GT (aU a b)]:=by
 obtain⟨o,n,s,xs⟩:=a;obtain⟨o',n',s',ys⟩:=b;simp only[Tm.Y]at h;simp only[bc]at ha;have c2:ax (.mk o' n' s' ys)=[GS o',.A (.string n'),GS s',.sl (az ys)]:=by simp only[ax]
 rw[(by simp only[ax]:ax (.mk o n s xs)=[GS o,.A (.string n),GS s,.sl (az xs)]),c2];refine ZEz (rows:=az xs) (by kernel_rfl) (by simp) λmw=>?_;unfold maxLen at mw;rw[cc]at mw;by_cases ho:o=o';rotate_left
 ·have q1:(o=o')=False:=eq_false ho;have hz:gg o o'≠0:=λe=>ho (A4.1 e);rw[show aU (.mk o n s xs) (.mk o' n' s' ys)=gg o o' by simp only[aU,fP,if_neg hz]];by_cases hl:o<o'
  ·rw[show gg o o'=-1 by unfold gg;rw[if_pos hl]];refine EL ?_;exact fD (ai @q1 (eq_true hl:(o<o')=True))
  ·rw[show gg o o'=1 by unfold gg;rw[if_neg hl,if_pos om]];refine EL ?_;exact fD (ai @q1 (eq_false hl:(o<o')=False))
 subst ho;have hz0:gg o o=0:=A4.2 rfl;by_cases hn:n=n';rotate_left
 ·have q1:=ZEA hn;have hz:oU n n'≠0:=λe=>hn (ZgS.1 e);have hlq:Op.bytesLess n.toList n'.toList=decide (oU n n'=-1):=by rw[ByteArray.toList_eq,ByteArray.toList_eq];exact Zhp _ _
  rw[show aU (.mk o n s xs) (.mk o n' s' ys)=oU n n' by simp only[aU,fP,if_pos hz0,if_neg hz]];rcases Zs2 n n' with e|e|e
  ·rw[e];refine EL ?_;exact fD (ai @q1 (by rw[hlq,e];rfl:Op.bytesLess n.toList n'.toList))
  ·exact absurd e hz
  ·rw[e];refine EL ?_;exact fD (ai @q1 (by rw[hlq,e];rfl:Op.bytesLess n.toList n'.toList=false))
 subst hn;have tP:oU n n=0:=ZgS.2 rfl;by_cases hs:s=s';rotate_left
 ·have q1:(s=s')=False:=eq_false hs;have hz:gg s s'≠0:=λe=>hs (A4.1 e);rw[show aU (.mk o n s xs) (.mk o n s' ys)=gg s s' by simp only[aU,fP,if_pos hz0,if_pos tP,if_neg hz]];by_cases hl:s<s'
  ·rw[show gg s s'=-1 by unfold gg;rw[if_pos hl]];refine EL ?_;exact fD (aj3 @q1 (eq_true hl:(s<s')=True) @gQ)
  ·rw[show gg s s'=1 by unfold gg;rw[if_neg hl,if_pos om]];refine EL ?_;exact fD (aj3 @q1 (eq_false hl:(s<s')=False) @gQ)
 subst hs;have Gw:gg s s=0:=A4.2 rfl
 rw[show aU (.mk o n s xs) (.mk o n s ys)=fg xs ys by
  simp only[aU,fP,if_pos hz0,if_pos tP,if_pos Gw];split<;>simp_all]
 refine EL ?_;refine fG @gQ ?_;have F:=@aJ;refine gL (ι:=Nat) [4,5,6,48,63] [] (λi=>[(5,GU i)]) (λi=>[]) (λi=>i<=xs.length/\i<=ys.length/\fg xs ys=fg (xs.drop i) (ys.drop i)) (λi=>xs.length-i) (0) (⟨Taj _,Taj _,rfl⟩) (λi hi=>?_);obtain⟨hi1,DI,he⟩:=hi;have l1:=cc xs;have l2:=cc ys
 by_cases h1:i<xs.length;rotate_left
 ·obtain rfl:i=xs.length:=by omega
  have q1:=lF xs.length xs.length;rw[List.drop_length]at he;by_cases h2:xs.length<ys.length
  ·rw[he,List.drop_eq_getElem_cons h2];simp only[fg];exact fD (aj3 @q1 (lT xs.length ys.length) @ae)
  ·rw[he,List.drop_of_length_le om];simp only[fg];exact fD (aj4 @q1 (lF xs.length ys.length) (eq_false om:((xs.length:Int)>ys.length)=False) @ae)
 have q1:=lT i xs.length;by_cases h2:i<ys.length;rotate_left
 ·obtain rfl:i=ys.length:=by omega
  rw[he,List.drop_length,List.drop_eq_getElem_cons h1];simp only[fg];exact fD (aj5 @q1 (lF ys.length ys.length) (lF xs.length ys.length) (eq_true om:((xs.length:Int)>ys.length)=True) @ae)
 have q2:=lT i ys.length;obtain⟨x,hx⟩:∃x,xs[i]?=some x:=⟨_,Taa h1⟩;obtain⟨y,hy⟩:∃y,ys[i]?=some y:=⟨_,Taa h2⟩;have cC:=h x (Tac hx) (dI.mem ha.2.2.2 (Tac hx)) y (Tac hy);rw[Zu4 hx hy]at he;have fV:=bW (k:=i) om;refine cg 16 (aj3 @q1 @q2 @ae) (aj6 @hx @hy @h1 @h2 @bw @ae) (cC) ?_;by_cases h0:aU x y=0
 ·have q5:(aU x y=0)=True:=eq_true h0;rw[if_pos h0]at he;refine fR @aJ ?_;have F:=ai @q5 @fV;refine gG ?_;exact⟨i+1,⟨h1,h2,he⟩,gw,gw,om⟩
 ·have q5:(aU x y=0)=False:=eq_false h0;rw[if_neg h0]at he;rw[he];exact iF @aJ @q5
def ZrE(n:Nat):∀a b:Tm,mI (ax a)<n->bc a->aI e0 98 [.agg (ax a),.agg (ax b)] [GT (aU a b)]:=by
 induction n with
 |zero=>exactλ_ _ h=>absurd h om
 |succ n ih =>
  intro a b hn ha;refine ZpS a b ha λx hx hox y hy=>ih x y ?_ hox;obtain⟨op,nm,so,args⟩:=a;exact m44
def Zu5{a b:Tm}(ha:bc a)(hk:bc b):aI e0 65 [.agg (ax a),.agg (ax b)] [GT (aU a b)]:=Zsd (Fo a b)
def Cn{a b:Tm}(ha:bc a)(hk:bc b):aI e0 98 [.agg (ax a),.agg (ax b)] [GT (aU a b)]:=ZrE _ a b (Tan _) ha
def m98(h:G3:=by
 have hl:i<l.length:=by rw[h.1];exact hi
 have e:l[i]?=some l[i]:=Taa hl;rw[(by simp[List.getD,e]:l.getD i 0=l[i])];exact⟨e,h.2 _ (List.getElem_mem hl)⟩):G3:=h
def Znw{n:Int}(h0:0<=n)(h1:n<9223372036854775808):IntKind.i64.wrap n=n:=by
 simp[IntKind.wrap,IntKind.bits,IntKind.signed];omega
def Zoz{a:Nat}(h:a<18446744073709551616):(BitVec.ofInt 64 (a:Int)).toNat=a:=by
 rw[BitVec.toNat_ofInt];omega
def zp{a b:Nat}(ha:a<4611686018427387904)(hb:b<4611686018427387904):bits .or .i64 (a:Int) (b:Int)=((a ||| b:Nat):Int):=by
 have h:a ||| b<2 ^ 62:=Nat.or_lt_two_pow om om;have e:(BitVec.ofInt IntKind.i64.bits (a:Int) ||| BitVec.ofInt IntKind.i64.bits (b:Int)).toNat=a ||| b:=by
  rw[BitVec.toNat_or];show(BitVec.ofInt 64 (a:Int)).toNat ||| (BitVec.ofInt 64 (b:Int)).toNat=_;rw[Zoz om,Zoz om]
 unfold bits;show IntKind.i64.wrap _=_;rw[e];exact Znw om om
def wK{a b:Nat}(ha:a<4611686018427387904)(hb:b<4611686018427387904):bits .and .i64 (a:Int) (b:Int)=((a&&&b:Nat):Int):=by
 have h:a&&&b<2 ^ 62:=Nat.and_lt_two_pow _ om;have e:(BitVec.ofInt IntKind.i64.bits (a:Int)&&&BitVec.ofInt IntKind.i64.bits (b:Int)).toNat=a&&&b:=by
  rw[BitVec.toNat_and];show(BitVec.ofInt 64 (a:Int)).toNat&&&(BitVec.ofInt 64 (b:Int)).toNat=_;rw[Zoz om,Zoz om]
 unfold bits;show IntKind.i64.wrap _=_;rw[e];exact Znw om om
def Zia{k:Nat}(h:k<62):2 ^ k<4611686018427387904:=Tbd (Nat.pow_lt_pow_right om h) om
def testBit_and(a k:Nat):((a&&&2 ^ k) != 0)=a.testBit k:=by
 cases h:a.testBit k
 ·have:a&&&2 ^ k=0:=by
   apply Nat.eq_of_testBit_eq;intro j;rw[Nat.testBit_and,Nat.testBit_two_pow,Nat.zero_testBit];by_cases hj:k=j
   ·subst hj;simp[h]
   ·simp[hj]
  simp[this]
 ·have:¬(a&&&2 ^ k=0):=by
   intro h0;have h1:(a&&&2 ^ k).testBit k:=by rw[Nat.testBit_and,Nat.testBit_two_pow];simp[h]
   rw[h0,Nat.zero_testBit]at h1;simp at h1
  simp[this]
def Zu6{a k:Nat}(ha:a<4611686018427387904):(bits .and .i64 ((a:Int) / 2 ^ k) 1==1)=a.testBit k:=by
 have h1:a / 2 ^ k<=a:=Nat.div_le_self _ _;have h2:bits .and .i64 ((a / 2 ^ k:Nat):Int) ((1:Nat):Int)=_:=wK om om;rw[(by simp:(a:Int) / 2 ^ k=((a / 2 ^ k:Nat):Int))];rw[show(1:Int)=((1:Nat):Int)from rfl,h2,Nat.testBit,Nat.shiftRight_eq_div_pow,Nat.and_comm];have h3:1&&&a / 2 ^ k<2:=by rw[Nat.one_and_eq_mod_two];omega
 generalize 1&&&a / 2 ^ k=x at h3⊢;have:x=0\/x=1:=om;rcases this with rfl|rfl<;>rfl
def ox(l:GN)(p:Int×Int):GN:=l.set p.1.toNat (l.getD p.1.toNat 0 ||| l.getD p.2.toNat 0)
def ZHp(subs:List (Int×Int))(l:GN):GN:=subs.foldl ox l
def pF(subs:List (Int×Int)):Nat->GN->GN
 |0,l=>l
 |k+1,l=>ZHp subs (pF subs k l)
def iL(n:Nat):GN:=(List.range n).map (2 ^ ·)
def up(s:Srt):GN:=pF s.Ψ s.O.length (iL s.O.length)
def mr(l:GN):List Int:=l.map (λ(n:Nat)=>(n:Int))
def jf(n:Nat)(subs:List (Int×Int)):Prop:=∀p∈subs,0<=p.1/\p.1<n/\0<=p.2/\p.2<n
def bq(n:Nat)(l:GN):Prop:=l.length=n/\∀x∈l,x<2 ^ n
def bq.get{n:Nat}{l:GN}(h:bq n l){i:Nat}(hi:i<n):l[i]?=some (l.getD i 0)/\l.getD i 0<2 ^ n:=by
 exact m98
def bq.sub{n:Nat}{l:GN}(h:bq n l){p:Int×Int}(hp:0<=p.1/\p.1<n/\0<=p.2/\p.2<n):bq n (ox l p):=by
 refine⟨by unfold ox;rw[Taz];exact h.1,λx hx=>?_⟩;unfold ox at hx;rcases List.mem_or_eq_of_mem_set hx with hx|rfl
 ·exact h.2 x hx
 ·exact Nat.or_lt_two_pow (h.get (i:=p.1.toNat) om).2 (h.get (i:=p.2.toNat) om).2
def bq.foldl{n:Nat}:∀{subs:List (Int×Int)}{l:GN},bq n l->jf n subs->bq n (subs.foldl ox l)
 |[],l,h,_=>h
 |p::ps,l,h,hs=>bq.foldl (subs:=ps) (h.sub (hs p (by simp))) (λq hq=>hs q (by simp[hq]))
def bq.iter{n:Nat}{subs:List (Int×Int)}(hs:jf n subs):∀(k:Nat){l:GN},bq n l->bq n (pF subs k l)
 |0,l,h=>h
 |k+1,l,h=>(bq.iter hs k h).foldl hs
def bq.start(n:Nat):bq n (iL n):=by
 refine⟨by simp[iL],λx hx=>?_⟩;simp only[iL,Tbj,List.mem_range]at hx;obtain⟨i,hi,rfl⟩:=hx;exact Nat.pow_lt_pow_right om hi
def rA{s:Srt}(h:jf s.O.length s.Ψ):bq s.O.length (up s):=bq.iter h _ (bq.start _)
def ZjZ{α β:Type}{f:β->α->β}{l:List α}{k:Nat}{a:α}(h:l[k]?=some a)(b:β):(l.take (k+1)).foldl f b=f ((l.take k).foldl f b) a:=by
 rw[vF h,List.foldl_append];rfl
def jf.take{n:Nat}{subs:List (Int×Int)}(h:jf n subs)(k:Nat):jf n (subs.take k):=λp hp=>h p (List.mem_of_mem_take hp)
def ZqA(l:GN):(mr l).length=l.length:=by simp[mr]
def ZqB{l:GN}{i x:Nat}(h:l[i]?=some x):(mr l)[i]?=some (x:Int):=by simp[mr,h]
def ZB7(l:GN)(i x:Nat):mr (l.set i x)=(mr l).set i (x:Int):=by simp[mr,List.map_set]
def Zyk(l:GN)(x:Nat):mr (l++[x])=mr l++[(x:Int)]:=by simp[mr]
def uh(n k:Nat):GN:=iL k++List.replicate (n-k) 0
def ZB8{n k:Nat}(h:k<=n):(uh n k).length=n:=by simp[uh,iL];omega
def ZB9{n k:Nat}(h:k<n):(uh n k).set k (2 ^ k)=uh n (k+1):=by
 unfold uh;have e3:(iL k).length=k:=by simp[iL]
 rw[(om:n-k=(n-(k+1))+1),List.replicate_succ,List.set_append_right _ _ om,e3,Nat.sub_self,List.set_cons_zero,(by simp[iL,List.range_succ]:iL (k+1)=iL k++[2 ^ k]),Tbg];rfl
def ZCa(n:Nat):uh n n=iL n:=by simp[uh]
def ZEB(k:Nat):iL (k+1)=iL k++[2 ^ k]:=by simp[iL,List.range_succ]
def jJ(l:List ByteArray)(s:ByteArray):Bool:=l.any (λt=>s.toList==t.toList)
def ow(n:Int):Bool:=decide (48<=n/\n<=57)||decide (65<=n/\n<=90)||decide (97<=n/\n<=122)
def CU(s:ByteArray)(i:Nat):Int:=if h:i<s.size then(s[i].toNat:Int)else 0
def j5(s:ByteArray)(k:Nat):Bool:=(List.range' k (s.size-k)).all (λi=>ow (CU s i) && !(i==0&&decide (CU s i<=57)))
def jc(s:ByteArray):Bool:=decide (1<=s.size/\s.size<=12) && !(s.toList==[105,102]) && !(s.toList==[97,110,100])&&j5 s 0
def ZkN{s:ByteArray}{k:Nat}(h:k<s.size):j5 s k=((ow (s[k].toNat:Int) && !(k==0&&decide ((s[k].toNat:Int)<=57)))&&j5 s (k+1)):=by
 rw[<- (by unfold CU;rw[dif_pos h]:CU s k=(s[k].toNat:Int))];unfold j5;rw[(om:s.size-k=(s.size-(k+1))+1),List.range'_succ,List.all_cons]
def Zlk{s:ByteArray}{k:Nat}(h:s.size<=k):j5 s k:=by
 unfold j5;rw[(om:s.size-k=0)];rfl
def yo{s:ByteArray}(h:s.size<1\/12<s.size\/s.toList=[105,102]\/s.toList=[97,110,100]):jc s=false:=by
 unfold jc;rcases h with h|h|h|h
 ·have:¬(1<=s.size/\s.size<=12):=om;simp[this]
 ·have:¬(1<=s.size/\s.size<=12):=om;simp[this]
 ·simp[h]
 ·simp[h]
def yJ(n:Nat)(p:Int×Int):Prop:=0<=p.1/\p.1<n/\0<=p.2/\p.2<n/\p.1≠p.2
def Zll(names:List ByteArray)(i:Nat):Prop:=∀x,names[i]?=some x->jc x/\jJ (names.take i) x=false
def sY(u:GN)(i k:Nat):Prop:=¬(i≠k/\(u.getD i 0).testBit k/\(u.getD k 0).testBit i)
structure SortsOk(s:Srt):Prop where
 n1:1<=s.O.length
 n8:s.O.length<=8
 m16:s.Ψ.length<=16
 O:∀i,i<s.O.length->Zll s.O i
 Ψ:∀p∈s.Ψ,yJ s.O.length p
 pairs:∀i k,i<s.O.length->k<s.O.length->sY (up s) i k
open Classical in
noncomputable def qj(s:Srt):Bool:=decide (SortsOk s)
def E7{s:Srt}(h:SortsOk s):qj s:=by unfold qj;simp[h]
def Zhi{s:Srt}(h:¬SortsOk s):qj s=false:=by unfold qj;simp[h]
def Zu7{s:Srt}:qj s=true↔SortsOk s:=by unfold qj;simp
def SortsOk.subsIn{s:Srt}(h:∀p∈s.Ψ,yJ s.O.length p):jf s.O.length s.Ψ:=λp hp=>⟨(h p hp).1,(h p hp).2.1,(h p hp).2.2.1,(h p hp).2.2.2.1⟩
def Zxj{a b:ByteArray}:(a.toList==b.toList)=(b.toList==a.toList):=by
 rw[Bool.eq_iff_iff];simp;exact⟨λh=>h.symm,λh=>h.symm⟩
def Zu8{l:List ByteArray}{s x:ByteArray}{k:Nat}(h:l[k]?=some x):jJ (l.drop k) s=((x.toList==s.toList)||jJ (l.drop (k+1)) s):=by
 obtain⟨hl,hx⟩:=Tad.1 h;rw[List.drop_eq_getElem_cons hl,hx,jJ,List.any_cons,Zxj];rfl
def Zu9(l:List ByteArray)(t s:ByteArray):jJ (l++[t]) s=(jJ l s||(s.toList==t.toList)):=by simp[jJ,List.any_append]
def fd(l:GN)(p:Int×Int):GN:=(l.set p.1.toNat (min (l.getD p.1.toNat 0) (l.getD p.2.toNat 0))).set p.2.toNat (min (l.getD p.1.toNat 0) (l.getD p.2.toNat 0))
def oz(subs:List (Int×Int)):Nat->GN->GN
 |0,l=>l
 |k+1,l=>subs.foldl fd (oz subs k l)
def kinds(s:Srt):GN:=oz s.Ψ s.O.length (List.range s.O.length)
def i9(n:Nat)(l:GN):Prop:=l.length=n/\∀x∈l,x<n
def i9.get{n:Nat}{l:GN}(h:i9 n l){i:Nat}(hi:i<n):l[i]?=some (l.getD i 0)/\l.getD i 0<n:=by
 exact m98
def i9.sub{n:Nat}{l:GN}(h:i9 n l){p:Int×Int}(hp:0<=p.1/\p.1<n/\0<=p.2/\p.2<n):i9 n (fd l p):=by
 refine⟨by unfold fd;rw[Taz,Taz];exact h.1,λx hx=>?_⟩;have hm:min (l.getD p.1.toNat 0) (l.getD p.2.toNat 0)<n:=by
  have:=(h.get (i:=p.1.toNat) om).2;omega
 unfold fd at hx;rcases List.mem_or_eq_of_mem_set hx with hx|rfl
 ·rcases List.mem_or_eq_of_mem_set hx with hx|rfl
  ·exact h.2 x hx
  ·exact hm
 ·exact hm
def i9.foldl{n:Nat}:∀{subs:List (Int×Int)}{l:GN},i9 n l->jf n subs->i9 n (subs.foldl fd l)
 |[],l,h,_=>h
 |p::ps,l,h,hs=>i9.foldl (subs:=ps) (h.sub (hs p (by simp))) (λq hq=>hs q (by simp[hq]))
def i9.iter{n:Nat}{subs:List (Int×Int)}(hs:jf n subs):∀(k:Nat){l:GN},i9 n l->i9 n (oz subs k l)
 |0,l,h=>h
 |k+1,l,h=>(i9.iter hs k h).foldl hs
def i9.start(n:Nat):i9 n (List.range n):=⟨by simp,λx hx=>by simpa using hx⟩
def Zj0{s:Srt}(h:jf s.O.length s.Ψ):i9 s.O.length (kinds s):=i9.iter h _ (i9.start _)
def mo(a k:Nat):GN:=(List.range k).filter (λj=>a.testBit j)
def cj(a:Nat):GN:=mo a 16
def ZoA{a k:Nat}(h:a.testBit k):mo a (k+1)=mo a k++[k]:=by simp[mo,List.range_succ,List.filter_append,h]
def ZqC{a k:Nat}(h:a.testBit k=false):mo a (k+1)=mo a k:=by simp[mo,List.range_succ,List.filter_append,h]
def A6(a k:Nat):(mo a k).length<=k:=by
 have:=List.length_filter_le (λj=>a.testBit j) (List.range k);simpa[mo]using this
def downIn(i:Nat)(l:GN)(ks:GN):GN:=ks.foldl (λl k=>l.set k (l.getD k 0 ||| 2 ^ i)) l
def downs(u:GN):Nat->GN->GN
 |0,l=>l
 |m+1,l=>downIn m (downs u m l) (cj (u.getD m 0))
def down(s:Srt):GN:=downs (up s) s.O.length (List.replicate s.O.length 0)
def bq.or{n:Nat}{l:GN}(h:bq n l){k i:Nat}(hk:k<n)(hi:i<n):bq n (l.set k (l.getD k 0 ||| 2 ^ i)):=by
 refine⟨by rw[Taz];exact h.1,λx hx=>?_⟩;rcases List.mem_or_eq_of_mem_set hx with hx|rfl
 ·exact h.2 x hx
 ·exact Nat.or_lt_two_pow (h.get hk).2 (Nat.pow_lt_pow_right om hi)
def bq.downIn{n i:Nat}(hi:i<n):∀{ks l:GN},bq n l->(∀k∈ks,k<n)->bq n (downIn i l ks)
 |[],l,h,_=>h
 |k::ks,l,h,hk=>bq.downIn (ks:=ks) hi (h.or (hk k (by simp)) hi) (λq hq=>hk q (by simp[hq]))
def Zlm{a n:Nat}(h:a<2 ^ n):∀k∈cj a,k<n:=by
 intro k hk;simp only[cj,mo,List.mem_filter,List.mem_range]at hk;refine Decidable.byContradiction λhn=>?_;have:=Tbu (Tbd h (Tbt om (by omega:n<=k)));rw[this]at hk;simp at hk
def bq.downs{n:Nat}{u:GN}(hu:bq n u):∀(m:Nat){l:GN},m<=n->bq n l->bq n (downs u m l)
 |0,l,_,h=>h
 |m+1,l,hm,h=>(bq.downs hu m om h).downIn om (Zlm (hu.get om).2)
def bq.zeros(n:Nat):bq n (List.replicate n 0):=⟨by simp,λx hx=>by rw[(List.mem_replicate.1 hx).2];exact Nat.two_pow_pos n⟩
def Zjy{s:Srt}(h:jf s.O.length s.Ψ):bq s.O.length (down s):=bq.downs (rA h) _ (Tai _) (bq.zeros _)
def ue(n k:Nat):GN:=List.range k++List.replicate (n-k) 0
def ZqD{n k:Nat}(h:k<=n):(ue n k).length=n:=by simp[ue];omega
def ZCb{n k:Nat}(h:k<n):(ue n k).set k k=ue n (k+1):=by
 unfold ue;rw[List.set_append_right _ _ (by simp),List.length_range,Nat.sub_self,List.range_succ];obtain⟨m,hm⟩:∃m,n-k=m+1:=⟨n-k-1,om⟩;rw[hm,show n-(k+1)=m by omega];simp[List.replicate_succ]
def ZCc(n:Nat):ue n n=List.range n:=by simp[ue]
def kd(s:Srt)(k:Int):Nat:=(kinds s).getD k.toNat 0
structure DeclOk(s:Srt)(f d:Dcl):Prop where
 len:d.Y.length=f.Y.length
 Β:0<=d.Β/\d.Β<s.O.length
 Y:∀k∈d.Y,0<=k/\k<s.O.length
 kres:kd s d.Β=kd s f.Β
 kargs:∀(i:Nat)(a b:Int),d.Y[i]?=some a->f.Y[i]?=some b->kd s a=kd s b
structure DeclsOk(s:Srt)(o:Opr):Prop where
 len1:1<=o.Z.length
 len4:o.Z.length<=4
 ar:∀f,o.Z[0]?=some f->f.Y.length<=3
 all:∀f,o.Z[0]?=some f->∀d∈o.Z,DeclOk s f d
open Classical in
noncomputable def sV(s:Srt)(o:Opr):Bool:=decide (DeclsOk s o)
def Zgj{s:Srt}{o:Opr}(h:DeclsOk s o):sV s o:=by simp[sV,h]
def ZkO{s:Srt}{o:Opr}(h:¬DeclsOk s o):sV s o=false:=by simp[sV,h]
def ZmW{s:Srt}{o:Opr}:sV s o=true↔DeclsOk s o:=by simp[sV]
structure AxOk(g:Sgn)(o:Opr):Prop where
 lo:0<=o.Ω
 hi:o.Ω<=g.ops.length
 two:(o.Θ\/o.comm\/o.Ω≠0)->∀d,o.Z[0]?=some d->d.Y.length=2/\∀a b,d.Y[0]?=some a->d.Y[1]?=some b->kd g.V a=kd g.V b/\((o.Θ\/o.Ω≠0)->kd g.V a=kd g.V d.Β) /\
  (o.Ω≠0->∀(p:Opr)(u:Dcl),g.ops[o.Ω.toNat-1]?=some p->p.Z[0]?=some u->u.Y.length=0/\kd g.V u.Β=kd g.V d.Β)
open Classical in
noncomputable def jL(g:Sgn)(o:Opr):Bool:=decide (AxOk g o)
def Ct{g:Sgn}{o:Opr}(h:AxOk g o):jL g o:=by simp[jL,h]
def ZoB{g:Sgn}{o:Opr}(h:¬AxOk g o):jL g o=false:=by simp[jL,h]
def Zs7{g:Sgn}{o:Opr}:jL g o=true↔AxOk g o:=by simp[jL]
def DeclsOk.first{s:Srt}{o:Opr}(h:DeclsOk s o):∃d,o.Z[0]?=some d/\DeclOk s d d:=by
 have h1:=h.len1;exact⟨o.Z[0],Taa om,h.all _ (Taa om) _ (List.getElem_mem _)⟩
def Zln{l:List Int}(h:l.length=2):∃a b,l=[a,b]:=pr h
def nh(l:List Opr):List ByteArray:=l.map (·.name)
structure SgnOk(g:Sgn):Prop where
 V:SortsOk g.V
 len:g.ops.length<=14
 O:∀(i:Nat)(o:Opr),g.ops[i]?=some o->jc o.name/\jJ (nh (g.ops.take i)) o.name=false
 Z:∀o∈g.ops,DeclsOk g.V o
 axs:∀o∈g.ops,AxOk g o
open Classical in
noncomputable def oS(g:Sgn):Bool:=decide (SgnOk g)
def Zgk{g:Sgn}(h:SgnOk g):oS g:=by simp[oS,h]
def Zjc{g:Sgn}(h:¬SgnOk g):oS g=false:=by simp[oS,h]
def Zlo{g:Sgn}:oS g=true↔SgnOk g:=by simp[oS]
def Zlp{l:List Opr}{k:Nat}{o:Opr}(h:l[k]?=some o):nh (l.take (k+1))=nh (l.take k)++[o.name]:=by
 rw[vF h];simp[nh]
def m248(b:G5)(h:Bx G5->G4:=by
 intro B0
 have l1:(⟨#[105,102]⟩:ByteArray).toList=[105,102]:=strL [105,102];have l2:(⟨#[97,110,100]⟩:ByteArray).toList=[97,110,100]:=strL [97,110,100];exact B0.o l1 l2):G4:=h ⟨b⟩
def Zic{s:ByteArray}{k:Nat}{b:UInt8}(h:s[k]?=some b):j5 s k=((ow (b.toNat:Int) && !(k==0&&decide ((b.toNat:Int)<=57)))&&j5 s (k+1)):=by
 obtain⟨hk,rfl⟩:=getElem?_eq_some_iff.1 h;exact ZkN hk
def Zs8(n:Int):aI e0 161 [.I (.A (.int .u8 n))] [GW (ow n)]:=by
 by_cases h1:48<=n<;>by_cases h2:n<=57<;>by_cases h3:65<=n<;>by_cases h4:n<=90<;>by_cases h5:97<=n<;>by_cases h6:n<=122<;>first
  |(exfalso;omega)
  | (have hr : ow   n = true := by simp[ow  , h1, h2, h3, h4, h5, h6]
     refine gI 5 Tryz.func161 ?_
     (exact fT (aj7 @h1 @h2 @h3 @h4 @h5 @h6 @hr)))
  | (have hr : ow   n = false := by simp[ow  , h1, h2, h3, h4, h5, h6]
     refine gI 5 Tryz.func161 ?_
     (exact fT (aj7 @h1 @h2 @h3 @h4 @h5 @h6 @hr)))
def strL(l:List UInt8):(⟨l.toArray⟩:ByteArray).toList=l:=by
 rw[ByteArray.toList_eq]
section
variable{s:ByteArray}
def ZqE(h1:1<=s.size)(h2:s.size<=12)(h3:¬s.toList=[105,102])(h4:¬s.toList=[97,110,100]):jc s=j5 s 0:=by
 simp[jc,h1,h2,h3,h4]
def Zid(hs:s.size<=maxLen):aI e0 105 [.I (.A (.string s))] [GW (jc s)]:=by
 refine m248 λl1 l2=>?_;refine gI 1099520540685 Tryz.func105 ?_;by_cases h1:1<=s.size;rotate_left
 ·exact fT (ai (lT s.size 1) (yo (s:=s) (.inl om)))
 have z1:=lF s.size 1;by_cases h2:s.size<=12;rotate_left
 ·exact fT (aj3 @z1 (lT 12 s.size) (yo (s:=s) (.inr (.inl om))))
 have z2:=lF 12 s.size;by_cases h3:s.toList=[105,102]
 ·exact fT (aj6 @z1 @z2 @l1 @h3 @gQ (yo (s:=s) (.inr (.inr (.inl h3)))))
 have z3:(s.toList==[105,102])=false:=by simpa using h3
 by_cases h4:s.toList=[97,110,100]
 ·exact fT (aj8 @z1 @z2 @l1 @l2 @h4 (by decide:(([97,110,100]:List UInt8)==[105,102])=false) @gQ (yo (s:=s) (.inr (.inr (.inr h4)))))
 rw[ZqE h1 h2 h3 h4];refine fG (aj6 @z1 @z2 @l1 @l2 @z3 (by simpa using h4:(s.toList==[97,110,100])=false)) ?_;have F:=@aJ;refine gL (ι:=Nat) [2,3,23,40] [] (λk=>[(3,GU k)]) (λk=>[]) (λk=>k<=s.size/\j5 s 0=j5 s k) (λk=>s.size-k) (0) (⟨Taj _,rfl⟩) (λk hk=>?_);obtain⟨hk,he⟩:=hk;rw[he];by_cases am:k<s.size;rotate_left
 ·exact fT (ai (om:¬((k:Int)<s.size)) (Zlk (s:=s) (k:=k) om))
 have q1:(k:Int)<s.size:=om;obtain⟨b,hb⟩:∃b,s[k]?=some b:=⟨s[k],getElem?_pos s k am⟩;have gp:=bW (k:=k) om;have aZ:=Zic hb;refine eH @q1 @hb (Zs8 (b.toNat:Int)) ?_
 cases hn:ow (b.toNat:Int)with
 |false =>
  exact dM @aJ (by rw[aZ,hn];rfl:j5 s k=false)
 |true =>
 by_cases iY:k=0
 ·have z5:((k:Int)=0)=True:=eq_true om;by_cases h9:(b.toNat:Int)<=57
  ·exact dM (aj3 @z5 @hb (eq_true h9:((b.toNat:Int)<=57)=True)) (by rw[aZ,hn,iY];simp[h9]:j5 s k=false)
  ·refine fR (aj3 @z5 @hb (eq_false h9:((b.toNat:Int)<=57)=False)) ?_;have F:=@gp;refine gG ?_;exact⟨k+1,⟨am,(by rw[aZ,hn];simp[h9]:j5 s k=j5 s (k+1))⟩,gw,gw,om⟩
 ·refine fR (eq_false om:((k:Int)=0)=False) ?_;have F:=@gp;refine gG ?_;exact⟨k+1,⟨am,(by rw[aZ,hn];simp[iY]:j5 s k=j5 s (k+1))⟩,gw,gw,om⟩
def Zie(hs:s.size<=maxLen):aI e0 90 [.I (.A (.string s))] [GW (jc s)]:=by
 refine m248 λl1 l2=>?_;refine gI 2417851639247950047084557 Tryz.func90 ?_;by_cases h3:s.toList=[105,102]
 ·exact fT (aj4 @l1 @h3 @gQ (yo (s:=s) (.inr (.inr (.inl h3)))))
 have z3:(s.toList==[105,102])=false:=by simpa using h3
 by_cases h4:s.toList=[97,110,100]
 ·exact fT (aj6 @l1 @l2 @h4 (by decide:(([97,110,100]:List UInt8)==[105,102])=false) @gQ (yo (s:=s) (.inr (.inr (.inr h4)))))
 have z4:(s.toList==[97,110,100])=false:=by simpa using h4
 by_cases h1:1<=s.size;rotate_left
 ·exact fT (aj6 @l1 @l2 @z3 @z4 (lT s.size 1) (yo (s:=s) (.inl om)))
 have z1:=lF s.size 1;by_cases h2:s.size<=12;rotate_left
 ·exact fT (aj7 @l1 @l2 @z3 @z4 @z1 (lT 12 s.size) (yo (s:=s) (.inr (.inl om))))
 have z2:=lF 12 s.size;obtain⟨b,hb⟩:∃b,s[0]?=some b:=⟨s[0],getElem?_pos s 0 h1⟩;have aZ:=Zic hb;rw[ZqE h1 h2 h3 h4];have pO:0<=(b.toNat:Int):=om;have Ai:∀c:Bool,((decide (97<=(b.toNat:Int)/\(b.toNat:Int)<=122))||decide (65<=(b.toNat:Int)/\(b.toNat:Int)<=90))=c->(ow (b.toNat:Int) && !((0:Nat)==0&&decide ((b.toNat:Int)<=57)))=c:=λc hc=>by
  rw[<- hc,Bool.eq_iff_iff];simp[ow];omega
 have key:(decide (97<=(b.toNat:Int)/\(b.toNat:Int)<=122)||decide (65<=(b.toNat:Int)/\(b.toNat:Int)<=90))\/(decide (97<=(b.toNat:Int)/\(b.toNat:Int)<=122)||decide (65<=(b.toNat:Int)/\(b.toNat:Int)<=90))=false:=by cases (decide (97<=(b.toNat:Int)/\(b.toNat:Int)<=122)||decide (65<=(b.toNat:Int)/\(b.toNat:Int)<=90))<;>simp
 rcases key with hk|hk
 rotate_left
 ·have hf:j5 s 0=false:=by rw[aZ,Ai _ hk];rfl
  rw[hf];clear aZ Ai hf
  by_cases c1:97<=(b.toNat:Int)<;>by_cases c2:(b.toNat:Int)<=122<;>by_cases c3:65<=(b.toNat:Int)<;>by_cases c4:(b.toNat:Int)<=90<;>first
   |(exfalso;omega)
   |(exfalso;simp[c1,c2,c3,c4]at hk;done)
   |(exact fT (aj11 @l1 @l2 @z3 @z4 @z1 @z2 @hb @c1 @c2 @c3 @c4))
 have Ag:65<=(b.toNat:Int):=by simp at hk;omega
 have h01:j5 s 0=j5 s 1:=by rw[aZ,Ai _ hk];rfl
 refine fN 1 @aJ ?_;refine gM (ι:=Unit) [40] [] (λu=>[(40,GX false)]) (λu=>[]) (λu=>True) ?_ (λu hu=>Exists.intro _ (ai (Wk.refl _) ?_))
 ·by_cases c1:97<=(b.toNat:Int)<;>by_cases c2:(b.toNat:Int)<=122<;>by_cases c3:65<=(b.toNat:Int)<;>by_cases c4:(b.toNat:Int)<=90<;>first
   |(exfalso;omega)
   |(exfalso;simp[c1,c2,c3,c4]at hk;done)
   |(have F:=aj11 @l1 @l2 @z3 @z4 @z1 @z2 @hb @c1 @c2 @c3 @c4;refine gG ?_;exact⟨(),trivial,gw,gw⟩)
 clear hu Ai hk aZ;refine fG @aJ ?_;have F:=@aJ;refine gL (ι:=Nat) [2,3,44,81] [] (λk=>[(3,GU k)]) (λk=>[]) (λk=>k<=s.size/\j5 s 0=j5 s k) (λk=>s.size-k) (0) (⟨Taj _,rfl⟩) (λk hk=>?_);obtain⟨jF,he⟩:=hk;by_cases am:k<s.size;rotate_left
 ·exact fT (ai (om:¬((k:Int)<s.size)) (by rw[he];exact Zlk om:j5 s 0))
 have q1:(k:Int)<s.size:=om;obtain⟨d,hd⟩:∃d,s[k]?=some d:=⟨s[k],getElem?_pos s k am⟩;have gp:=bW (k:=k) om;have aZ:=Zic hd;refine fN 6 @q1 ?_;refine gM (ι:=Unit) [81] [] (λu=>[(81,GY (.A (.bool !(ow (d.toNat:Int)))))]) (λu=>[]) (λu=>True) ?_ (λu hu=>Exists.intro _ (ai (Wk.refl _) ?_))
 ·by_cases c1:97<=(d.toNat:Int)<;>by_cases c2:(d.toNat:Int)<=122<;>by_cases c3:65<=(d.toNat:Int)<;>by_cases c4:(d.toNat:Int)<=90<;>by_cases c5:48<=(d.toNat:Int)<;>by_cases c6:(d.toNat:Int)<=57<;>first
   |(exfalso;omega)
   | (have hr : ow   (d.toNat : Int) = true := by simp[ow  , c1, c2, c3, c4, c5, c6]
      rw[hr]
      (have F:=aj7 @hd @c1 @c2 @c3 @c4 @c5 @c6;refine gG ?_;exact⟨(),trivial,gw,gw⟩))
   | (have hr : ow   (d.toNat : Int) = false := by simp[ow  , c1, c2, c3, c4, c5, c6]
      rw[hr]
      (have F:=aj7 @hd @c1 @c2 @c3 @c4 @c5 @c6;refine gG ?_;exact⟨(),trivial,gw,gw⟩))
 cases hn:ow (d.toNat:Int)with
 |false =>
  exact fT (by rw[he,aZ,hn];rfl:j5 s 0=false)
 |true =>
 have hq:j5 s 0=j5 s (k+1):=by
  by_cases iY:k=0
  ·subst iY;exact h01
  ·rw[he,aZ,hn];simp[iY]
 have F:=@gp;refine gG ?_;exact⟨k+1,⟨am,hq⟩,gw,gw,om⟩
end
def m213(h:G3:=by
 rw[hA.dst,tY (by rw[hI.size];exact ep),if_neg (Ne.symm (Gb hA wp))]):G3:=h
section
variable{e:Env}{U:GO}{w0:World}{S0:GO}{nt:Nat}{ops:Array Oper}{n:Nat}{m:it}{s:d3}{D':List A}{L:Lay}
def ZgU {J:Array Bool->Act->World->(GO)->Prop} (he:e.Ok) (hH:nj ops n) (hn:n<=ops.size) (hs:∀i,n<=i->i<ops.size->∀j,j<n->Region.waitsFor .any ops i j)
  (bP:∀(i:Nat)(o:Oper)(d:Nat),i<n->ops[i]?=some o->o.dst=some d->d<nt) (di:D'.length=n) (nu:qn e U w0.heap.size S0 m ops.toList (ops.toList.take n) s D') {Q:Exit->Act->World->Prop} (pR:Zlc e U w0 S0 nt m ops n s D' L J Q)
  (xI:∀(aa:Array Bool)(a:Act)(w:World)(S:GO)(i:Nat)(o:Oper)(d:Nat),J aa a w S->InvA e U w0 S0 nt m ops n s D' L aa a w S->HeadAt ops n i o d->i<n->i∈Region.ready .any ops aa->d<nt->o.guard≠none->J (aa.setIfInBounds i true) (a.put o.dst undef) w S)
  (fq:∀aa a w S,InvA e U w0 S0 nt m ops n s D' L aa a w S->J aa a w S->(∀i,i<n->aa.getD i false)->wpAny e.P .any ops Q (ops.size-n) (ni ops.size n) a w) :
  ∀(k:Nat)(aa:Array Bool)(a:Act)(w:World)(S:GO),InvA e U w0 S0 nt m ops n s D' L aa a w S->J aa a w S->(List.range n).countP (λi=>!aa.getD i true)=k->wpAny e.P .any ops Q (k+(ops.size-n)) aa a w
 | 0,aa,a,w,S,hI,hJ,hc=>by
  have hall:∀i,i<n->aa.getD i true:=λi hi=>by
   have:=List.countP_eq_zero.1 hc i (List.mem_range.2 hi);simpa using this
  have heq:=Zk1 hI.head hn hall;have hE:=fq aa a w S hI hJ (λi hi=>by
   have hl:i<aa.size:=by rw[hI.head.size];omega
   rw[<- nG hl];exact hall i hi)
  rw[Nat.zero_add,heq];exact hE
 | k+1,aa,a,w,S,hI,hJ,hc=>by
  obtain⟨i0,sH,jt⟩:∃i,i<n/\aa.getD i true=false:=by
   have:0<(List.range n).countP (λi=>!aa.getD i true):=om;obtain⟨i,hi,hp⟩:=List.countP_pos_iff.1 this;exact⟨i,List.mem_range.1 hi,by simpa using hp⟩
  rw[show k+1+(ops.size-n)=(k+(ops.size-n))+1 by omega];refine⟨λh0=>absurd h0 (Zh5 hH hI.head sH jt),λi hr=>?_⟩;obtain⟨iZ,oi,fU,hall⟩:=mem_ready.1 hr;have dD:i<n:=by
   rcases Nat.lt_or_ge i n with h|h
   ·exact h
   ·have uq:n<ops.size:=Tbf h (Tbm.1 fU).1;obtain⟨oj,hoj,e1,he1,f8,hon1⟩:=Region.waitsFor_spec (hs i h (Tbm.1 fU).1 i0 sH);rw[fU]at hoj;injection hoj with hoj
    subst hoj;have h2:=hall e1 he1 f8;rw[hon1]at h2;have h3:i0<aa.size:=by rw[hI.head.size];omega
    rw[nG h3]at jt;rw[h2]at jt
    cases jt
  obtain⟨o,d,hA⟩:=nj.get hH dD;have hoo:oi=o:=by have:=hA.op;rw[fU]at this;injection this
  subst hoo;have iJ:i<aa.size:=by rw[hI.head.size];exact(Tbm.1 fU).1
  obtain⟨α,G8,aZ⟩:=nu.get i oi (by rw[List.getElem?_take,if_pos dD];simpa using fU);have da:(ops.toList.take n).take i=ops.toList.take i:=by rw[List.take_take,Nat.min_eq_left om]
  rw [da]at aZ;have ep:=bP i oi d dD fU hA.dst;have fH:(List.range n).countP (λj=>!(aa.setIfInBounds i true).getD j true)=k:=by
   have h1:(List.range n).countP (λj=>!(aa.setIfInBounds i true).getD j true)+1=(List.range n).countP (λj=>!aa.getD j true):=by
    have d5:=List.perm_cons_erase (List.mem_range.2 dD);rw[d5.countP_eq,d5.countP_eq,List.countP_cons,List.countP_cons];have jq:((List.range n).erase i).countP (λj=>!(aa.setIfInBounds i true).getD j true)=((List.range n).erase i).countP (λj=>!aa.getD j true):=by
     refine List.countP_congr λj hj=>?_;have aP:j≠i:=λe=>by
      subst e;exact List.Nodup.not_mem_erase (List.nodup_range) hj
     rw[getD_set_ne true (Ne.symm aP)]
    rw[jq,iZ];simp[iJ]
   omega
  have bE:∀x∈oi.op.operands,aw w S L (aL (after s (ops.toList.take i) (D'.take i)) x) (a.eval x):=λx hx=>by
   cases x with
   |tmp t =>
    exact hI.operand hH hn di hA dD hall (λj p hj hp gn=>(hA.dep j p hj hp).2 t (List.mem_filterMap.2 ⟨.tmp t,by simpa using hx,rfl⟩) gn)
   |const v =>
    simp only[aL,Act.eval];unfold wO;split
    ·simp only[aw,aX,aR];exact⟨⟨none,0,0,rfl,rfl,Tai _,by decide,λh=>absurd h (by decide)⟩,none,0,rfl⟩
    ·rename_i vs;exact⟨vs.toList,rfl,AY _⟩
    ·simp[aw,aX,aR]
   |func f =>
    simp only[aL,Act.eval,aw,aX,aR];exact⟨[],rfl,by simp[aC]⟩
   |global g=>trivial
  have go:iC e U w0.heap.size S0 m oi (aL (after s (ops.toList.take i) (D'.take i))) α->oi.wp e.P a w (wpAny e.P .any ops Q (k+(ops.size-n)) (aa.setIfInBounds i true)) Q:=λhG =>
   Oper.wp_mono (λa' w'⟨S',um,hJ'⟩=>ZgU he hH hn hs bP di nu pR xI fq k _ _ _ S' um hJ' fH) (pR aa a w S i oi d α hI hJ hA dD hr ep G8 bE hG)
  unfold wpOp;simp only[fU];unfold yI at aZ
  cases hg:oi.guard with
  |none =>
   rw[hg]at aZ;have qF:Region.wanted oi (yielded ops a.tmps):=by simp[Region.wanted,hg]
   rw[if_pos qF];exact .inl (go aZ)
  | some jw =>
   obtain⟨j,bN⟩:=jw;rw[hg]at aZ;obtain⟨DK,hjw⟩:=hA.guard j bN hg;have my:∀dj,((ops[j]?).bind (·.dst))=some dj->aw w S L (gs (after s (ops.toList.take i) (D'.take i)) dj) (a.tmps.getD dj undef):=λdj iI=>hI.operand hH hn di hA dD hall (t:=dj) (λj' p mQ hp gn=>by
    obtain⟨p0,d0,xj⟩:=nj.get hH DK;have sF:d0=dj:=by have:=iI;rw[xj.op]at this;simp[xj.dst]at this;exact this
    by_cases BK:j'=j
    ·rw[BK];exact hjw
    ·exact absurd (by rw[gn,sF]) ((xj.dep j' p mQ hp).1 BK))
   rcases aZ with⟨b,f8,iG⟩|⟨f8,iG⟩
   rotate_left
   ·simp only[Tav]at f8;obtain⟨dj,qV,lH⟩:=f8;have iI:((ops[j]?).bind (·.dst))=some dj:=by simpa using A8 qV
    have cv:=my dj iI;rw[lH]at cv;rw[ZiP hg iI cv];subst iG;simp only[Tam,if_false];exact ZgU he hH hn hs bP di nu pR xI fq k _ _ _ S (hI.put hH hA dD hr ep G8 (λ_ h=>h) hI.Ξ (Kept.refl _ _ _ _) rfl) (xI aa a w S i oi d hJ hI hA dD hr ep (by rw[hg];simp)) fH
   simp only[Tav]at f8;obtain⟨dj,qV,lH⟩:=f8;have iI:((ops[j]?).bind (·.dst))=some dj:=by simpa using A8 qV
   have cv:=my dj iI;rw[lH]at cv;have h4:=ZiO cv.bool;have qF:Region.wanted oi (yielded ops a.tmps)=decide (b=bN):=by
    have h6:yielded ops a.tmps j=some b:=by unfold yielded;rw[iI];simp only[Option.bind_some,h4]
    simp only[Region.wanted,hg,h6]
    cases b<;>cases bN<;>rfl
   rw[qF];by_cases jh:b=bN
   ·rw[if_pos jh]at iG;simp only[jh,decide_true,if_true];exact .inl (go iG)
   ·rw[if_neg jh]at iG;subst iG;simp only[jh,decide_false,Tam,if_false];exact ZgU he hH hn hs bP di nu pR xI fq k _ _ _ S (hI.put hH hA dD hr ep G8 (λ_ h=>h) hI.Ξ (Kept.refl _ _ _ _) rfl) (xI aa a w S i oi d hJ hI hA dD hr ep (by rw[hg];simp)) fH
def Zs9{σ:St}(hH:nj ops n)(hn:n<=ops.size)(di:D'.length=n){aa:Array Bool}{a':Act}{w':World}{S':GO}(hI:InvA e U w0 S0 nt σ.m ops n σ.s D' L aa a' w' S')(hall:∀i,i<n->aa.getD i false):Sim e U w0 S0 nt ⟨after σ.s (ops.toList.take n) D',σ.m⟩ a' w' S' L:=by
 refine⟨hI.Ξ,λt=>?_,hI.size,hI.defers,hI.kept⟩;exact m6
end
def oV(e:Env)(ds:By)(ops:Array Oper)(K:GR):Nat->Array Bool->St->Prop
 |0,aa,σ=>Region.ready .any ops aa=[]/\K σ
 |f+1,aa,σ=>(Region.ready .any ops aa=[]->K σ)/\∀i∈Region.ready .any ops aa,∃o,ops[i]?=some o/\o.guard=none/\jW e o σ (λy'=>an e ds 0 [] y' (oV e ds ops K f (aa.setIfInBounds i true)))
section
variable{e:Env}{U:GO}{w0:World}{S0:GO}{nt:Nat}
def Znx(he:e.Ok){ops:Array Oper}{K:GR}{Q:Exit->Act->World->Prop}(hQ:∀a w y',K y'->aS e U w0 S0 nt y' a w->Q .normal a w)(hd:∀o∈ops.toList,∀d,o.dst=some d->d<nt) :
  ∀(f:Nat)(aa:Array Bool)(σ:St)(a:Act)(w:World),aS e U w0 S0 nt σ a w->oV e (ops.toList.map (·.dst)) ops K f aa σ->wpAny e.P .any ops Q f aa a w
 |0,aa,σ,a,w,hs,h=>⟨h.1,hQ a w σ h.2 hs⟩
 |f+1,aa,σ,a,w,hs,h=>by
  refine⟨λh0=>hQ a w σ (h.1 h0) hs,λi hi=>?_⟩;obtain⟨o,ho,hg,aZ⟩:=h.2 i hi;unfold wpOp;simp only[ho];rw[if_pos (by simp[Region.wanted,hg]:Region.wanted o (yielded ops a.tmps))];have iR:o∈ops.toList:=Tac (by simpa using ho);refine .inl (Oper.wp_mono (λa' w'⟨y',hr,mz⟩=>?_) (aZ he U w0 S0 nt a w Q (hd o iR) hs));exact hr he U w0 S0 nt a' w' ops.toList (λ_ a w=>wpAny e.P .any ops Q f (aa.setIfInBounds i true) a w) rfl (λo ho=>by simp at ho) (λa w H2 hK hs''=>Znx he hQ hd f _ H2 a w hs'' hK) mz
def ZI4(ops:Array Oper)(n:Nat):Bool:=(List.range ops.size).all λi=>decide (i<n)||(List.range n).all λj=>Region.waitsFor .any ops i j
def sd(ops:Array Oper)(n:Nat):Bool:=nj ops n&&decide (n<=ops.size)&&ZI4 ops n
def Zj1(he:e.Ok){id:Nat}{ops:Array Oper}{n:Nat}(hB:sd ops n){K:GR}{Q:Exit->Act->World->Prop}(hQ:∀a w y',K y'->aS e U w0 S0 nt y' a w->Q .normal a w){σ:St}{a:Act}{w:World}
  (hd:∀o∈ops.toList,∀d,o.dst=some d->d<nt) (h:aS e U w0 S0 nt σ a w) (hp:an e (ops.toList.map (·.dst)) (n+1) (ops.toList.take n) σ (oV e (ops.toList.map (·.dst)) ops K (ops.size-n) (ni ops.size n))):(Code.region id ops true).wp e.P Q a w:=by
 simp only[sd,Tar,decide_eq_true_eq]at hB;obtain⟨⟨hH,hn⟩,gv⟩:=hB;have hs:∀i,n<=i->i<ops.size->∀j,j<n->Region.waitsFor .any ops i j:=λi h1 h2 j h3=>by
  have k1:=List.all_eq_true.1 gv i (List.mem_range.2 h2);simp only[Bool.or_eq_true,decide_eq_true_eq]at k1;rcases k1 with k1|k1
  ·omega
  ·exact List.all_eq_true.1 k1 j (List.mem_range.2 h3)
 obtain⟨S,L,h1⟩:=h.drew he;refine wp_region_any he.mixed ?_;have bh:(ops.toList.take n).length=n:=by simp;omega
 have et:an e (ops.toList.map (·.dst)) ((ops.toList.take n).length+1) (ops.toList.take n++[]) σ (oV e (ops.toList.map (·.dst)) ops K (ops.size-n) (ni ops.size n)):=by rw[List.append_nil,bh];exact hp
 obtain⟨D',di,nu,jY⟩:=Cv (U:=U) he w0.heap.size S0 ops.toList [] 1 (ops.toList.take n) σ (λh=>absurd h (by decide)) et;rw[bh]at di;simp only[an]at jY
 have nX:InvA e U w0 S0 nt σ.m ops n σ.s D' L (Array.replicate ops.size false) a { w with drawn:=w.drawn+1 } S :=
  ⟨⟨by simp,λj oj _ hl=>(by rw[getD_replicate_false]at hl;cases hl),λt _ ht=>getD_in (by simpa using ht) (getD_replicate_false _ _)⟩,h1.size,h1.defers,h1.Ξ,h1.kept,λt _=>h1.rel t,λi o d α _ hl=>(by rw[getD_replicate_false]at hl;cases hl)⟩
 have H:=ZgU (e:=e) (L:=L) (Q:=Q) he hH hn hs (λi o d hi ho iX=>hd o (List.mem_iff_getElem?.2 ⟨i,by simpa using ho⟩) d iX) di nu (Zja hH Q) (λ_ _ _ _ _ _ _ _ _ _ _ _ _ _=>trivial) (λaa a' w' S' hI _ hall=>?_) n _ a _ S nX trivial ?_
 ·rw[show n+(ops.size-n)=ops.size by omega]at H;exact H
 ·exact Znx he hQ hd _ _ _ a' w' ⟨S',L,Zs9 hH hn di hI hall⟩ jY
 ·rw[List.countP_eq_length.2]
  ·simp
  ·intro i hi;have dR:=List.mem_range.1 hi;have bP:i<(Array.replicate ops.size false).size:=by simp;omega
   rw[nG bP,getD_replicate_false];rfl
end
section
variable{e:Env}{U:GO}{w0:World}{S0:GO}{nt:Nat}
structure AppAt(P:Program)(σ:St)(o:Oper)(d ety sz:Nat)(rows:sh):Prop where
 at':∃(x y:Operand)(args:Array Operand)(ts:Array TypeId)(t il:Nat)(r1 ys:sh),o.op=.call ⟨.builtin .append,args,ts⟩/\args.toList=[x,y]/\aL σ.s x=.d (.Ζ r1)/\oI [] (aL σ.s y)=some ys/\ts[0]?=some t/\ts[1]?=some t/\jT P t=some (ety,sz,il) /\
  ZaD sz r1=true/\ZaD sz ys/\r1.length+ys.length<=al/\(r1=[]\/ys≠[])/\rows=r1++ys
 dst:o.dst=some d
 guard:o.guard=none
def ZEC{m:it}{y:A}{ys:sh}(h:oI [] y=some ys):oI m y=some ys:=by
 unfold oI at h⊢;split at h<;>simp_all [gm,rC]
def AppAt.run (he:e.Ok) {σ:St} {o:Oper} {d ety sz:Nat} {rows:sh} (hA:AppAt e.P σ o d ety sz rows) {m:it} {w:World} {S:GO} {L:Lay} {C':Operand->Value} (hC:Cls e U w0.heap.size S0 m w S L) (hr:∀x,x∈o.op.operands->aw w S L (aL σ.s x) (C' x)) :
  ∃v' w',(execOp C' o).run e.P w=.ok (.value v') w'/\eO w' S ety sz rows v'/\Kept e.D (λ_=>False) w.heap.size w w'/\∀g,aO v'=some g->w.heap.size<=g:=by
 obtain⟨x,y,args,ts,t,il,r1,ys,ho,bS,hx,hy,h0,h1,hb,tK,Eb,cw,aP,rfl⟩:=hA.at';have aW:=hr x (by rw[ho];simp[Op.operands,Call.operands,bS,<- Array.mem_toList_iff]);have km:=hr y (by rw[ho];simp[Op.operands,Call.operands,bS,<- Array.mem_toList_iff]);rw[hx]at aW;have aW:aX w S (.Ζ r1) (C' x):=aW;have oH:=ov.1 Eb;have hyf:=Zk8 (σ:=⟨[],m⟩) hC (ZEC hy) km oH;obtain⟨v',w',aF,f9,τ,hk,G9,hg⟩:=Zge (σ:=⟨[],m⟩) (ty:=o.type) he hC h0 h1 hb (.inr ⟨aW,aP⟩) (ov.1 tK) oH cw hyf
 have H':∀g,τ≠some g:=λg e1=>by
  obtain⟨h2,h3⟩:=G9 g e1;obtain⟨h4,a,n,h5⟩:=aW;rw[h5]at h2 h3 h4;simp only[aR]at h4;obtain⟨A,n',cap,h6,h7,_,_,h8⟩:=h4;injection h6 with h6 h9 h10
  subst h6 h9
  cases a with
  |none=>simp[aO]at h2
  | some q =>
   simp only[aO]at h2;split at h2
   ·cases h2
   ·rename_i qA;injection h2 with h2
    obtain⟨b,off,zV,hS,_⟩:=h8 om;injection zV with zV
    obtain⟨_,_,kR⟩:=h3;rcases kR with⟨kR,_⟩|⟨g',bF,bf,h13,_,_,Bz,_⟩
    ·rw[kR]at h7;simp at h7;omega
    ·injection h13 with h13 _ _
     injection h13 with h13
     rw[h13]at zV;injection zV with zV
     exact Bz (zV▸hS)
 refine⟨v',w',?_,f9,⟨hk.os,hk.tape,hk.output,hk.drawn,hk.size,λk dZ hn=>hk.block k dZ (λe1=>H' k e1)⟩,λg gh=>?_⟩
 ·have ha:args.map C'=#[C' x,C' y]:=by apply Array.toList_inj.1;simp[bS]
  simp[execOp,ho,resolve,invoke,builtin,ha,aF,Result.andThen]
 ·rcases hg g gh with e1|e1
  ·exact(H' g e1).elim
  ·exact e1
def AppAt.gives(he:e.Ok){σ:St}{o:Oper}{d ety sz:Nat}{rows:sh}(hA:AppAt e.P σ o d ety sz rows){m:it}:iC e U w0.heap.size S0 m o (aL σ.s) .undef:=by
 intro w S L C' hC hr;obtain⟨v',w',h1,_,h3,_⟩:=hA.run he hC hr;have hk:Kept e.D e.E w.heap.size w w':=⟨h3.os,h3.tape,h3.output,h3.drawn,h3.size,λk hk hn=>h3.block k hk id⟩;unfold Go.Proofs.YtaenibhihgfehaaGreatDoor.gives;rw[h1];exact⟨S,⟨λ_ h=>h,λ_ h=>.inl h⟩,hC.later hk (he.Ε _ _ h3.size (λb hE=>h3.block b (Tbd (hC.ein b hE) hC.bsz) id) hC.g) (λ_ h=>h) (λ_ h=>.inl h),hk,trivial⟩
def Zsf(base p d ety sz:Nat)(rows:sh)(m:it)(L:Lay)(aa:Array Bool)(a:Act)(w:World)(S:GO):Prop :=
 aa.getD p false=true->(∀g,aO (a.tmps.getD d undef)=some g->base<=g/\g<w.heap.size/\¬S g/\∀k bk,gm m k=some bk->¬dh L k bk g)/\eO w S ety sz rows (a.tmps.getD d undef)
def ZqF{m:it}{base:Nat}{l:GL}:∀(xs ys:GL)(s:d3)(us bs:List A),us.length=xs.length->qn e U base S0 m l xs s us->qn e U base S0 m l ys (after s xs us) bs->qn e U base S0 m l (xs++ys) s (us++bs)
 |[],ys,s,[],bs,_,_,h2=>h2
 |x::xs,ys,s,a::us,bs,hl,h1,h2=>⟨h1.1,ZqF xs ys _ us bs (by simpa using hl) h1.2 h2⟩
 |[],_,_,_::_,_,hl,_,_=>by simp at hl
 |_::_,_,_,[],_,hl,_,_=>by simp at hl
def Zlq:∀(xs ys:GL)(s:d3)(us bs:List A),us.length=xs.length->after s (xs++ys) (us++bs)=after (after s xs us) ys bs
 |[],ys,s,[],bs,_=>rfl
 |x::xs,ys,s,a::us,bs,hl=>Zlq xs ys _ us bs (by simpa using hl)
 |[],_,_,_::_,_,hl=>by simp at hl
 |_::_,_,_,[],_,hl=>by simp at hl
def ZmX(he:e.Ok)(base:Nat)(S0:GO)(l:GL){K:GR}{k:Nat}{os:GL}{σ:St}(hk:k=os.length+1)(h:an e (l.map (·.dst)) k os σ K):∃D',D'.length=os.length/\qn e U base S0 σ.m l os σ.s D'/\K ⟨after σ.s os D',σ.m⟩:=by
 subst hk;have h':an e (l.map (·.dst)) (os.length+1) (os++[]) σ K:=by rw[List.append_nil];exact h
 obtain⟨D',h1,h2,h3⟩:=Cv (U:=U) he base S0 l [] 1 os σ (λh=>absurd h (by decide)) h';simp only[an]at h3;exact⟨D',h1,h2,h3⟩
def ZED (he:e.Ok) {id:Nat} {ops:Array Oper} {n p d ety sz:Nat} {rows:sh} {o0:Oper} (bE:ops[p]?=some o0) (hpn:p<n) (hB:eZ ops n) {K:GR} {Q:Exit->Act->World->Prop} (hQ:∀a w y',K y'->aS e U w0 S0 nt y' a w->Q .normal a w) {σ:St} {a:Act} {w:World}
  (hd:∀o∈ops.toList,∀d,o.dst=some d->d<nt) (h:aS e U w0 S0 nt σ a w)
  (hp:an e (ops.toList.map (·.dst)) (p+1) (ops.toList.take p) σ (λG7=>AppAt e.P G7 o0 d ety sz rows/\an e (ops.toList.map (·.dst)) (n-p) ((ops.toList.take n).drop (p+1)) ⟨(d,.undef)::G7.s,G7.m⟩ (λH1=>an e (ops.toList.map (·.dst)) 0 (ops.toList.drop n) ⟨(d,.Υ d)::bX d H1.s,(d,.Υ none ety sz rows)::aA d H1.m⟩ K))):(Code.region id ops true).wp e.P Q a w:=by
 simp only[eZ,Tar,Bool.or_eq_true,decide_eq_true_eq]at hB;obtain⟨⟨⟨hH,hn⟩,hs⟩,rY⟩:=hB;obtain⟨S,L,h1⟩:=h.drew he;refine wp_region_any he.mixed ?_;have bh:(ops.toList.take p).length=p:=by simp;omega
 have BL:((ops.toList.take n).drop (p+1)).length=n-p-1:=by simp;omega
 obtain⟨H0,pf,DD,nT⟩:=ZmX (U:=U) he w0.heap.size S0 ops.toList (by rw[bh]) hp;rw[bh]at pf;obtain⟨rG,DY⟩:=nT;obtain⟨H5,hal1,hch1,DZ⟩:=ZmX (U:=U) he w0.heap.size S0 ops.toList (by rw[BL];omega) DY;rw[BL]at hal1;have kA:ops.toList[p]?=some o0:=by simpa using bE
 have r9:ops.toList.take n=ops.toList.take p++(o0::(ops.toList.take n).drop (p+1)):=by
  have e1:(ops.toList.take n)[p]?=some o0:=by rw[List.getElem?_take,if_pos hpn];exact kA
  have e2:(ops.toList.take n).drop p=o0::(ops.toList.take n).drop (p+1):=by
   rw[List.drop_eq_getElem_cons (Tad.1 e1).1,(Tad.1 e1).2]
  rw[<- e2,<- (by rw[List.take_take,Nat.min_eq_left om]:(ops.toList.take n).take p=ops.toList.take p),Tbn]
 have di:(H0++(A.undef::H5)).length=n:=by simp[pf,hal1];omega
 have pp:aD (after σ.s (ops.toList.take p) H0) o0.dst A.undef=(d,A.undef)::after σ.s (ops.toList.take p) H0:=by rw[rG.dst];rfl
 have nu:qn e U w0.heap.size S0 σ.m ops.toList (ops.toList.take n) σ.s (H0++(A.undef::H5)):=by
  rw[r9];refine ZqF _ _ _ _ _ (by rw[pf,bh]) DD ⟨?_,?_⟩
  ·unfold yI;rw[rG.guard];exact rG.gives he
  ·rw[pp];exact hch1
 have haf:after σ.s (ops.toList.take n) (H0++(A.undef::H5))=after ((d,A.undef)::after σ.s (ops.toList.take p) H0) ((ops.toList.take n).drop (p+1)) H5:=by
  conv=>lhs;rw[r9]
  rw[Zlq _ _ _ _ _ (by rw[pf,bh])];simp only[after,pp]
 have nX:InvA e U w0 S0 nt σ.m ops n σ.s (H0++(A.undef::H5)) L (Array.replicate ops.size false) a { w with drawn:=w.drawn+1 } S :=
  ⟨⟨by simp,λj oj _ hl=>(by rw[getD_replicate_false]at hl;cases hl),λt _ ht=>getD_in (by simpa using ht) (getD_replicate_false _ _)⟩,h1.size,h1.defers,h1.Ξ,h1.kept,λt _=>h1.rel t,λi o d α _ hl=>(by rw[getD_replicate_false]at hl;cases hl)⟩
 have hJ0:Zsf w0.heap.size p d ety sz rows σ.m L (Array.replicate ops.size false) a { w with drawn:=w.drawn+1 } S:=λhl=>by rw[getD_replicate_false]at hl;cases hl
 have Gb:∀{i':Nat}{o':Oper}{d':Nat},HeadAt ops n i' o' d'->i'≠p->d'≠d:=λhA aP e'=>by
  have:=(hA.dep p _ hpn bE).1 (Ne.symm aP);exact this (by rw[rG.dst,e'])
 have pR:Zlc e U w0 S0 nt σ.m ops n σ.s (H0++(A.undef::H5)) L (Zsf w0.heap.size p d ety sz rows σ.m L) Q:=by
  intro aa a w S i' o' d' α hI hJ hA dD hr ep G8 xC Dq;by_cases wp:i'=p
  ·subst wp;have cr:o'=o0:=by have:=hA.op;rw[bE]at this;exact EN
   subst cr;have iX:d'=d:=by have:=hA.dst;rw[rG.dst]at this;exact EN
   subst iX;have hau:α=A.undef:=by exact m258
   subst hau;have hC:=hI.Ξ;have da:(H0++(A.undef::H5)).take i'=H0:=by rw[<- pf];exact List.take_left
   rw[da]at xC;obtain⟨v',w',q1,q2,q3,q4⟩:=rG.run he hC xC;have hk:Kept e.D e.E w.heap.size w w':=⟨q3.os,q3.tape,q3.output,q3.drawn,q3.size,λk hk hn=>q3.block k hk (λh=>h)⟩;have zY:Cls e U w0.heap.size S0 σ.m w' S L:=hC.later hk (he.Ε _ _ q3.size (λb hE=>q3.block b (Tbd (hC.ein b hE) hC.bsz) (λh=>h)) hC.g) (λ_ h=>h) (λ_ h=>.inl h);unfold Oper.wp;rw[q1,Oper.upon_value]
   have bn:(a.put o'.dst v').tmps.getD d' undef=v':=by
    rw[hA.dst,tY (by rw[hI.size];exact ep)];simp
   refine⟨S,hI.put hH hA dD hr ep G8 (λ_ h=>h) zY hk trivial,λ_=>?_⟩;rw[bn];refine⟨λg hg=>?_,q2⟩;have Gk:=q4 g hg;refine⟨Tbe hC.bsz Gk,?_,λhs=>by have:=(hC.sin _ hs).1;omega,λk bk hk hg=>by have:=hC.blk_lt hk hg;omega⟩;exact(b6.lt (L:=⟨λ_=>0,λ_=>v'⟩) (k:=0) (bk:=.Υ none ety sz rows) ⟨by simp,q2⟩ hg).1
  ·refine ym (Dq w S L a.eval hI.Ξ xC) λv' w'⟨S',hS,hC,hk,Aw⟩=>⟨S',hI.put hH hA dD hr ep G8 hS.1 hC hk Aw,λhl=>?_⟩;rw[getD_set_ne false wp]at hl;obtain⟨q1,q2⟩:=hJ hl;have bn:(a.put o'.dst v').tmps.getD d undef=a.tmps.getD d undef:=by
    exact m213
   rw[bn];have hnS:∀g,aO (a.tmps.getD d undef)=some g->¬S' g:=λg hg hs=>by
    obtain⟨_,k2,k3,_⟩:=q1 g hg;rcases hS.2 g hs with hs|hs
    ·exact k3 hs
    ·omega
   refine⟨λg hg=>⟨(q1 g hg).1,Tbd (q1 g hg).2.1 hk.size,hnS g hg,(q1 g hg).2.2.2⟩,q2.Ε hk.size (hI.Ξ.cell hk) hS.1 λg hg=>⟨hk.block g (q1 g hg).2.1 (λhE=>by have:=hI.Ξ.ein g hE;have:=(q1 g hg).1;omega),hnS g hg⟩⟩
 have D3:∀(aa:Array Bool)(a:Act)(w:World)(S:GO)(i':Nat)(o':Oper)(d':Nat),Zsf w0.heap.size p d ety sz rows σ.m L aa a w S->InvA e U w0 S0 nt σ.m ops n σ.s (H0++(A.undef::H5)) L aa a w S->HeadAt ops n i' o' d'->i' < n->i'∈Region.ready .any ops aa->d' < nt->o'.guard≠none->Zsf w0.heap.size p d ety sz rows σ.m L (aa.setIfInBounds i' true) (a.put o'.dst undef) w S:=by
  intro aa a w S i' o' d' hJ hI hA dD hr ep hg hl;have wp:i'≠p:=λe'=>by
   subst e';have:=hA.op;rw[bE]at this;injection this with this
   rw[<- this]at hg;exact hg rG.guard
  rw[getD_set_ne false wp]at hl;have bn:(a.put o'.dst undef).tmps.getD d undef=a.tmps.getD d undef:=by
   exact m213
  rw[bn];exact hJ hl
 have H:=Cm (e:=e) (L:=L) (Q:=Q) he hH hn (λam=>by
   rcases hs with hs|hs
   ·omega
   ·exact hs) rY (λi o d hi ho iX=>hd o (List.mem_iff_getElem?.2 ⟨i,by simpa using ho⟩) d iX) di nu pR D3 (λaa a' w' S' hI hJ hall=>?_) n _ a _ S nX hJ0 ?_
 ·rw[show n+(ops.size-n)=ops.size by omega]at H;exact H
 ·have eD:=Zs9 hH hn di hI hall;rw[haf]at eD;obtain⟨q1,q2⟩:=hJ (hall p hpn);have ep:d<nt:=hd _ (List.mem_iff_getElem?.2 ⟨p,kA⟩) d rG.dst
  have xG:=eD.bornE (bk:=.Υ none ety sz rows) (w':=w') (b':=0) (v':=a'.tmps.getD d undef) (u:=a'.tmps.getD d undef) (τ:=aO (a'.tmps.getD d undef)) (s1:=after ((d,A.undef)::after σ.s (ops.toList.take p) H0) ((ops.toList.take n).drop (p+1)) H5) (m1:=σ.m) (α:=.Υ d) (S':=S') ep (λ_ h=>h) (λ_ h=>.inl h) (λt=>.inl rfl) (λk x h=>h)
   (λg hg=>⟨(q1 g hg).2.2.1,λhE=>by have:=hI.Ξ.ein _ hE;have:=(q1 g hg).1;omega,.inl (q1 g hg).1⟩) (λk x g cl hx hg hb=>(q1 g hg).2.2.2 k x hx hb)
   (Kept.refl _ _ _ _) hI.Ξ.g (by
    simp only[b6,if_true];exact⟨by simp,q2⟩)
   (λg hg=>by simp only[dh,if_true]at hg;exact .inl hg) (by simp[aw])
  have xH:aS e U w0 S0 nt ⟨(d,.Υ d)::bX d (after ((d,A.undef)::after σ.s (ops.toList.take p) H0) ((ops.toList.take n).drop (p+1)) H5),(d,.Υ none ety sz rows)::aA d σ.m⟩ a' w':=by
   obtain⟨S2,L2,k1,k2,k3,k4,k5⟩:=xG;refine⟨S2,L2,k1,λt=>?_,hI.size,hI.defers,k5⟩;have:=k2 t;rw[tY (by rw[hI.size];exact ep)]at this;by_cases ht:t=d
   ·rw[if_pos ht]at this;rw[ht];rw[ht]at this;exact this
   ·rw[if_neg ht]at this;exact this
  have:=DZ he U w0 S0 nt a' w' ops.toList Q rfl (λo ho=>hd o (List.mem_of_mem_drop ho)) hQ xH;simpa using this
 ·rw[List.countP_eq_length.2]
  ·simp
  ·intro i hi;have dR:=List.mem_range.1 hi;have bP:i<(Array.replicate ops.size false).size:=by simp;omega
   rw[nG bP,getD_replicate_false];rfl
end
section
variable{e:Env}{ay:Nat}{Q:PX->St->Prop}{ds:By}
def FQ{nt:Nat}{id:Nat}{ops:Array Oper}{fl:Bool}(aq:py nt (.region id ops fl)):∀o∈ops.toList,∀d,o.dst=some d->d<nt:=λo ho d hd=>by
 simp only[py]at aq;exact m262
def ZEE{id:Nat}{ops:Array Oper}{σ:St}(n:Nat)(hn:sd ops n)(hp:an e (ops.toList.map (·.dst)) (n+1) (ops.toList.take n) σ (oV e (ops.toList.map (·.dst)) ops (oP ay Q) (ops.size-n) (ni ops.size n))):de e ay (.region id ops true) σ Q:=λhe U w0 S0 nt a w aq hs =>
 Zj1 he hn (λa w y' h1 h2=>⟨_,h1,h2.weak (λt=>ZjT ay t y'.s) (λ_ _ h=>h)⟩) (FQ aq) hs hp
def ZEF{id:Nat}{ops:Array Oper}{σ:St}{n p d ety sz:Nat}{rows:sh}{o0:Oper}(bE:ops[p]?=some o0)(hpn:p<n)(hn:eZ ops n)(hp:an e (ops.toList.map (·.dst)) (p+1) (ops.toList.take p) σ (λG7=>AppAt e.P G7 o0 d ety sz rows/\an e (ops.toList.map (·.dst)) (n-p) ((ops.toList.take n).drop (p+1)) ⟨(d,.undef)::G7.s,G7.m⟩ (λH1=>an e (ops.toList.map (·.dst)) 0 (ops.toList.drop n) ⟨(d,.Υ d)::bX d H1.s,(d,.Υ none ety sz rows)::aA d H1.m⟩ (oP ay Q)))):de e ay (.region id ops true) σ Q:=λhe U w0 S0 nt a w aq hs =>
 ZED he bE hpn hn (λa w y' h1 h2=>⟨_,h1,h2.weak (λt=>ZjT ay t y'.s) (λ_ _ h=>h)⟩) (FQ aq) hs hp
def gA{id:Nat}{l l1 l2 l3:GL}{s s1 s2 s3:d3}{m m1 m2 m3:it}{x y:Operand}{t ty d ety sz il:Nat}{i5:String}{ui:Array Edge}{r1 ys:sh}(n p:Nat)(cw:r1.length+ys.length<=al)(aP:r1=[]\/ys≠[])(hK:an e ds 0 l3 ⟨(d,.Υ d)::s3,(d,.Υ none ety sz (r1++ys))::m3⟩ (oP ay Q))
  (bE:l[p]?=some ⟨some d,.call ⟨.builtin .append,#[x,y],#[t,t]⟩,ty,i5,ui,none⟩:=by exact rfl) (hB:eZ l.toArray n:=by decide +kernel) (hpn:p<n:=by decide) (bJ:l.map (·.dst)=ds:=by exact rfl) (h1l:l.take p=l1:=by exact rfl) (h2l:(l.take n).drop (p+1)=l2:=by exact rfl) (h3l:l.drop n=l3:=by exact rfl)
  (h1:ig e.P ds (p+1) l1 ⟨s,m⟩=.done ⟨s1,m1⟩:=by exact jZ) (hx:aL s1 x=.d (.Ζ r1):=by exact iK) (hy:oI [] (aL s1 y)=some ys:=by exact iK)
  (hb:jT e.P t=some (ety,sz,il):=by exact iK) (tK:ZaD sz r1:=by exact iK) (Eb:ZaD sz ys:=by exact iK)
  (h2:ig e.P ds (n-p) l2 ⟨(d,.undef)::s1,m1⟩=.done ⟨s2,m2⟩:=by exact jZ) (hk:bX d s2=s3:=by exact dE) (hr:aA d m2=m3:=by exact dE):de e ay (.region id l.toArray true) ⟨s,m⟩ Q:=by
 subst bJ h1l h2l h3l hk hr;exact ZEF (ops:=l.toArray) (by simpa using bE) hpn hB (Fb h1 ⟨⟨⟨x,y,#[x,y],#[t,t],t,il,r1,ys,rfl,rfl,hx,hy,rfl,rfl,hb,tK,Eb,cw,aP,rfl⟩,rfl,rfl⟩,Fb h2 hK⟩)
def ZI5{id:Nat}{l l1:GL}{s s1:d3}{m m1:it}(n:Nat)(hK:oV e ds l.toArray (oP ay Q) (l.length-n) (ni l.length n) ⟨s1,m1⟩)(hB:sd l.toArray n:=by decide +kernel)(bJ:l.map (·.dst)=ds:=by exact rfl)(h1l:l.take n=l1:=by exact rfl)
  (h1:ig e.P ds (n+1) l1 ⟨s,m⟩=.done ⟨s1,m1⟩:=by exact jZ):de e ay (.region id l.toArray true) ⟨s,m⟩ Q:=by
 subst bJ h1l;exact ZEE (ops:=l.toArray) n hB (Fb h1 hK)
def Zj2{K:GR}{o:Oper}{s s1:d3}{m m1:it}(hg:o.guard=none)(di:∀t,o.op≠.alloc t)(aF:ig e.P ds 0 [o] ⟨s,m⟩=.done ⟨s1,m1⟩)(hK:an e ds 0 [] ⟨s1,m1⟩ K):jW e o ⟨s,m⟩ (λy'=>an e ds 0 [] y' K):=by
 have key:∀σ,qd e ds (λy'=>an e ds 0 [] y' K) (Res.done σ)->an e ds 0 [] σ (λy'=>an e ds 0 [] y' K):=λσ h=>sm h;have hr:ig e.P ds 0 [o] ⟨s,m⟩=gJ e.P o.dst o.type 0 0 [] (λσ=>.done σ) o.op ⟨s,m⟩:=by
  obtain⟨od,oo,ot,op,oa,og⟩:=o;simp only at hg;subst hg;rfl
 rw[hr]at aF;have h:=ZgP (e:=e) (ds:=ds) (os:=[]) (K:=λy'=>an e ds 0 [] y' K) (n:=0) (q:=0) (next:=λσ=>.done σ) key (o:=o) (σ:=⟨s,m⟩) (.inl rfl) (by rw[aF];exact hK);have h:jW e o ⟨s,m⟩ (λy'=>an e ds 0 [] y' (λy'=>an e ds 0 [] y' K)):=h;intro he U w0 S0 nt a w Q hd hs;refine Oper.wp_mono (λa' w'⟨y',h1,h2⟩=>⟨y',?_,h2⟩) (h he U w0 S0 nt a w Q hd hs);intro he U w0 S0 nt a w ops Q bJ hd hQ hs
 exact h1 he U w0 S0 nt a w ops Q bJ hd (λa w H1 h3 h4=>h3 he U w0 S0 nt a w ops Q bJ hd hQ h4) hs
def gT1{ops:Array Oper}{K:GR}{f:Nat}{aa:Array Bool}{o:Oper}{s s1:d3}{m m1:it}(i:Nat)(hK:an e ds 0 [] ⟨s1,m1⟩ (oV e ds ops K f (aa.setIfInBounds i true)))(hr:Region.ready .any ops aa=[i]:=by decide +kernel)(ho:ops[i]?=some o:=by simp only[List.getElem?_toArray,Tau,Tat];exact rfl)(hg:o.guard=none:=by exact rfl)(di:∀t,o.op≠.alloc t:=by intro t h;cases h)
  (aF:ig e.P ds 0 [o] ⟨s,m⟩=.done ⟨s1,m1⟩:=by exact jZ):oV e ds ops K (f+1) aa ⟨s,m⟩:=by
 refine⟨λh=>(by rw[hr]at h;cases h),λj hj=>?_⟩;rw[hr]at hj;have fu:j=i:=by simpa using hj
 subst fu;exact⟨o,ho,hg,Zj2 hg di aF hK⟩
def gT2{ops:Array Oper}{K:GR}{f:Nat}{aa:Array Bool}{o o':Oper}{s s1 s2:d3}{m m1 m2:it}(i j:Nat)(hK:an e ds 0 [] ⟨s1,m1⟩ (oV e ds ops K f (aa.setIfInBounds i true)))(hK':an e ds 0 [] ⟨s2,m2⟩ (oV e ds ops K f (aa.setIfInBounds j true)))(hr:Region.ready .any ops aa=[i,j]:=by decide +kernel)(ho:ops[i]?=some o:=by simp only[List.getElem?_toArray,Tau,Tat];exact rfl)(hg:o.guard=none:=by exact rfl)(di:∀t,o.op≠.alloc t:=by intro t h;cases h)
  (aF:ig e.P ds 0 [o] ⟨s,m⟩=.done ⟨s1,m1⟩:=by exact jZ) (cr:ops[j]?=some o':=by simp only[List.getElem?_toArray,Tau,Tat];exact rfl) (gh:o'.guard=none:=by exact rfl) (hal':∀t,o'.op≠.alloc t:=by intro t h;cases h) (hrun':ig e.P ds 0 [o'] ⟨s,m⟩=.done ⟨s2,m2⟩:=by exact jZ):oV e ds ops K (f+1) aa ⟨s,m⟩:=by
 refine⟨λh=>(by rw[hr]at h;cases h),λk hk=>?_⟩;rw[hr]at hk;have hk:k=i\/k=j:=by simpa using hk
 rcases hk with rfl|rfl
 ·exact⟨o,ho,hg,Zj2 hg di aF hK⟩
 ·exact⟨o',cr,gh,Zj2 gh hal' hrun' hK'⟩
def Dk{ops:Array Oper}{aa:Array Bool}{s s':d3}{m:it}(hK:Q .normal ⟨s',m⟩)(hr:Region.ready .any ops aa=[]:=by decide +kernel)(hs:sA ay s=s':=by exact dE):oV e ds ops (oP ay Q) 0 aa ⟨s,m⟩:=by
 subst hs;exact⟨hr,hK⟩
end
section
variable{e:Env}{ay:Nat}{Q:PX->St->Prop}{ds:By}
def ZIv{P:Program}{o:Oper}{a:Act}{w:World}{K:Act->World->Prop}{Q0 Q:Exit->Act->World->Prop}(h0:∀ex a w,ex≠.normal->¬Q0 ex a w)(hh:o.wp P a w K Q0):o.wp P a w K Q:=by
 have hl:¬LetsOut Q0:=λ⟨a,w,h⟩=>h0 _ a w (by simp) h;unfold Oper.wp at *;generalize (execOp a.eval o).run P w=r at *
 cases r with
 | ok n w' =>
  cases n<;>simp only[Oper.upon]at hh⊢<;>first
   |exact hh
   |exact Calls.mono hh (λe w'' he=>by cases e<;>first|exact he|exact absurd he (h0 _ _ _ (by simp))|exact absurd he hl)
   |exact absurd hh hl
   |exact absurd hh (h0 _ _ _ (by simp))
 | halt x w' =>
  cases x<;>simp only[Oper.upon]at hh⊢<;>first
   |exact hh
   |exact absurd hh hl
   |exact absurd hh (h0 _ _ _ (by simp))
def Zeh{o:Oper}{σ:St}{K:GR}(hg:o.guard=none)(h:an e ds 0 [o] σ K):jW e o σ (λy'=>an e ds 0 [] y' K):=by
 intro he U w0 S0 nt a w Q hd hs;have h:uM e ds [o] σ K:=by simpa only[an]using h
 have h1:=h he U w0 S0 nt a w (ds.map λd=>{ o with dst:=d }) (λex a' w'=>ex=.normal/\∃y',K y'/\aS e U w0 S0 nt y' a' w') (by rw[List.map_map];exact List.map_id ds) (λo' ho d dG=>by simp only[Tbk]at ho;subst ho;exact hd d dG) (λa w y' k1 k2=>⟨rfl,y',k1,k2⟩) hs;unfold wpList at h1;have hw:Region.wanted o (yielded (ds.map λd=>{ o with dst:=d }).toArray a.tmps):=by simp[Region.wanted,hg]
 rw[if_pos hw]at h1;rcases h1 with h1|⟨_,a',w',h1,_⟩
 ·refine ZIv (λex a w aP h=>aP h.1) (Oper.wp_mono (λa' w' hk=>?_) h1);simp only[wpList]at hk;obtain⟨_,y',k1,k2⟩:=hk;exact⟨y',sm k1,k2⟩
 ·cases h1
def mt{ops:Array Oper}{K:GR}{f:Nat}{aa:Array Bool}{o:Oper}{σ:St}(i:Nat)(hK:an e ds 0 [o] σ (oV e ds ops K f (aa.setIfInBounds i true)))(hr:Region.ready .any ops aa=[i]:=by decide +kernel)(ho:ops[i]?=some o:=by simp only[List.getElem?_toArray,Tau,Tat];exact rfl)(hg:o.guard=none:=by exact rfl):oV e ds ops K (f+1) aa σ:=by
 refine⟨λh=>(by rw[hr]at h;cases h),λj hj=>?_⟩;rw[hr]at hj;have fu:j=i:=by simpa using hj
 subst fu;exact⟨o,ho,hg,Zeh hg hK⟩
def gO2{ops:Array Oper}{K:GR}{f:Nat}{aa:Array Bool}{o o':Oper}{σ:St}(i j:Nat)(hK:an e ds 0 [o] σ (oV e ds ops K f (aa.setIfInBounds i true)))(hK':an e ds 0 [o'] σ (oV e ds ops K f (aa.setIfInBounds j true)))(hr:Region.ready .any ops aa=[i,j]:=by decide +kernel)(ho:ops[i]?=some o:=by simp only[List.getElem?_toArray,Tau,Tat];exact rfl)(hg:o.guard=none:=by exact rfl)(cr:ops[j]?=some o':=by simp only[List.getElem?_toArray,Tau,Tat];exact rfl)(gh:o'.guard=none:=by exact rfl):oV e ds ops K (f+1) aa σ:=by
 refine⟨λh=>(by rw[hr]at h;cases h),λk hk=>?_⟩;rw[hr]at hk;have hk:k=i\/k=j:=by simpa using hk
 rcases hk with rfl|rfl
 ·exact⟨o,ho,hg,Zeh hg hK⟩
 ·exact⟨o',cr,gh,Zeh gh hK'⟩
def ip{K:GR}{o:Oper}{s s1:d3}{m m1:it}(hK:K ⟨s1,m1⟩)(h:ig e.P ds 0 [o] ⟨s,m⟩=.done ⟨s1,m1⟩:=by exact jZ):an e ds 0 [o] ⟨s,m⟩ K:=Fb h hK
def Zva{K:GR}{n:Nat}{os:GL}{o:Oper}{σ:St}(hg:o.guard=none)(di:jO o=false)(h:yq e o σ (λy'=>an e ds n os y' K)):an e ds (n+1) (o::os) σ K:=by
 simp only[an,hg];rw[if_neg (by simp[di])];exact h
def De{K:GR}{os:GL}{n d ty:Nat}{p:String}{ed:Array Edge}{x:Operand}{y:D}{s:d3}{m:it}(hK:an e ds n os ⟨(d,.d y)::s,m⟩ K)(hx:aL s x=.d y:=by exact iK):an e ds (n+1) (⟨some d,.assign x,ty,p,ed,none⟩::os) ⟨s,m⟩ K :=
 Zva rfl rfl λhe=>⟨.d y,hK,λU base S0=>oN λw S L C' hC hr=>⟨C' x,by simp[execOp],by
  have h:=hr x (by simp[Op.operands]);rw[hx]at h;exact h⟩⟩
end
def AG(b:G5)(h:Bx G5->G4:=by
 intro B0
 have q2:(j:Int)<s.O.length:=om;have qE:=bW (k:=j) om;exact B0.o q2 qE):G4:=h ⟨b⟩
def m132(b:G5)(h:Bx G5->G4:=by
 intro B0
 refine cq 3 @aJ @q1 (cS) @q1 ?_;have l2:=gH (l:=mo a k);have l3:=iS (l:=mo a k);have l4:=ZhR (l:=mo a k) k;have c8:((mo a k).length+1<=al)=True:=eq_true (by have:=A6 a k;unfold al;omega);exact B0.o l2 l3 l4 c8):G4:=h ⟨b⟩
def m120(h:G3:=by
 obtain rfl:k=16:=by omega
 rw[show cj a=mo a 16 from rfl];refine fG (om:¬(((16:Nat):Int)<16)) ?_;have F:=@aJ;refine gG ?_;exact xi [2]):G3:=h
def m117(h:G3:=by
 obtain rfl:j=s.O.length:=by omega
 rw[up];refine fG (om:¬((s.O.length:Int)<s.O.length)) ?_;have F:=@aJ;refine gG ?_;exact xi [2]):G3:=h
def m104(h:G3:=by
 obtain rfl:i=s.Ψ.length:=by omega
 rw[Tap,<- jk];have F:=ai (om:¬((s.Ψ.length:Int)<s.Ψ.length)) @qE;refine gG ?_;exact⟨j+1,pj,gw,gw,om⟩):G3:=h
def EM(h:G3:=by
 refine gG ?_;exact⟨k+1,am,gw,gw,om⟩):G3:=h
def m12(h:G3:=by
 by_cases BM:i<s.Ψ.length;rotate_left
 ·obtain rfl:i=s.Ψ.length:=by omega
  rw[Tap,<- jk];have F:=ai (om:¬((s.Ψ.length:Int)<s.Ψ.length)) @qE;refine gG ?_;exact⟨j+1,pj,gw,gw,om⟩
 have q3:(i:Int)<s.Ψ.length:=om;have fV:=bW (k:=i) om;obtain⟨p,hp⟩:∃p,s.Ψ[i]?=some p:=⟨_,Taa BM⟩;have yT:=hs p (Tac hp);have aZ:=ZoC hp u;have qR:=bq.foldl BE (hs.take i);generalize (s.Ψ.take i).foldl ox u=v at qR aZ⊢;obtain⟨g1,b1⟩:=qR.get (i:=p.1.toNat) om;obtain⟨g2,b2⟩:=qR.get (i:=p.2.toNat) om;have p256:2 ^ s.O.length<=256:=Tbe (Tbt om h8) (by decide);have pn:=zp (a:=v.getD p.1.toNat 0) (b:=v.getD p.2.toNat 0) om om;have l1:=gN g1;have l2:=gN g2;have l3:=gH (l:=v);rw[qR.1]at l3;have i1:0<=p.1:=yT.1;have i2:0<=p.2:=yT.2.2.1;have i4:p.2.toNat<s.O.length:=om;have F:=aj16 @q3 @hp @uG @l1 @l2 @l3 (iS (l:=v)) (Bi (l:=v) p.1.toNat (v.getD p.1.toNat 0 ||| v.getD p.2.toNat 0)) @pn @i1 @i2 (om:p.1.toNat<s.O.length) @i4 @fV @aZ @Zxl;refine gG ?_;exact⟨i+1,BM,gw,gw,om⟩):G3:=h
def ZCd(n:Int):aI e0 163 [GT n] [GW (decide (0<=n/\n<=65535))]:=by
 refine gI 5 Tryz.func163 ?_;by_cases h1:0<=n<;>by_cases h2:n<=65535<;>(exact fT (ai @h1 @h2))
def uG:∀p:Int×Int,wN p=[GS p.1,GS p.2]:=λ_=>rfl
def ZCe{k:Nat}(h:k<62):IntKind.u64.wrap (k:Int)=k:=by
 have h2:(k:Int)<18446744073709551616:=om;simp only[IntKind.wrap,IntKind.signed,IntKind.bits,Tam,if_false];exact Int.emod_eq_of_lt om om
def Zta:Tryz.prog.underlying 3=some (.int .i64):=by kernel_rfl
def Zxk:zm (Tryz.prog.underlying 130)=some .u64:=by kernel_rfl
def vY{k:Nat}(h:k<62):IntKind.i64.wrap (1*2 ^ min k 64)=((2 ^ k:Nat):Int):=by
 rw[Nat.min_eq_left om,Int.one_mul,show(2:Int) ^ k=((2 ^ k:Nat):Int) by rw[Int.natCast_pow];rfl];have:=Zia h;generalize 2 ^ k=x at this⊢;exact IntWalk.i64_in _ om
def Zmp(j:Int):FT j (some (.int .i64)) (some .u64)=some (GY (.A (.int .u64 (IntKind.u64.wrap j)))):=rfl
def Zg7{k:Nat}(hk:k<62):aI e0 191 [GT k] [GT ((2 ^ k:Nat):Int)]:=by
 refine gI 5 Tryz.func191 ?_;exact fT (aj6 @Zta @Zxk @Zmp (ZCe hk) (vY hk) @bw)
def bG(a k:Nat):Bool:=a.testBit k
def ZI6{a k:Nat}(ha:a<4611686018427387904)(h:k<62):decide (bits .and .i64 ((a:Int).fdiv (2 ^ min k 64)) 1=1)=bG a k:=by
 rw[bG];rw[Nat.min_eq_left om,Int.fdiv_eq_ediv_of_nonneg _ (Int.pow_nonneg (by decide)),<- Zu6 ha];exact(Bool.beq_eq_decide_eq _ _).symm
def uE{a k:Nat}(ha:a<4611686018427387904)(hk:k<16):aI e0 148 [GT a,GT k] [GW (bG a k)]:=by
 have z2:((0:Int)<=k)=True:=eq_true om;refine gI 19 Tryz.func148 ?_;exact fT (aj8 @Zta @Zxk @Zmp (ZCe (k:=k) om) (ZI6 (k:=k) ha om) @bw (lT k 16) @z2)
def ZCf(a b:Nat):aI e0 192 [GT a,GT b] [GT ((min a b:Nat):Int)]:=by
 refine gI 147 Tryz.func192 ?_;by_cases h:a<b
 ·have e:min a b=a:=Nat.min_eq_left om;exact fT (ai (lT a b) @e)
 ·have e:min a b=b:=Nat.min_eq_right om;exact fT (ai (lF a b) @e)
def ZHq(n:Nat):uh n 0=List.replicate n 0:=by simp[uh,iL]
def ZpT(n:Nat)(z:we):(List.replicate n z).length=n:=List.length_replicate
def nR(l:GN):sh:=(mr l).map ij
section
variable{l:GN}
def gH:(nR l).length=l.length:=by rw[nR,Tay,ZqA]
def gN{i x:Nat}(h:l[i]?=some x):(nR l)[i]?=some [GS x]:=by rw[nR,Tba,ZqB h];rfl
def Bi(i x:Nat):(nR l).set i [GS x]=nR (l.set i x):=by rw[nR,nR,ZB7,List.map_set];rfl
def iS:ZaD 1 (nR l):=Zow _
def ZhR(x:Nat):nR l++[[GS x]]=nR (l++[x]):=by rw[nR,nR,Zyk,Tbw];rfl
end
def nR_0(n:Nat):List.replicate n [GS 0]=nR (List.replicate n 0):=by simp[nR,mr,ij]
def Zxl:∀(l:GN)(p:Int×Int),ox l p=l.set p.1.toNat (l.getD p.1.toNat 0 ||| l.getD p.2.toNat 0):=λ_ _=>rfl
def Zxm(subs:List (Int×Int))(l:GN):(subs.take 0).foldl ox l=l:=rfl
def ZCg(subs:List (Int×Int))(l:GN):(subs.take 0).foldl fd l=l:=rfl
def ZqG{subs:List (Int×Int)}{i:Nat}{p:Int×Int}(h:subs[i]?=some p)(l:GN):(subs.take (i+1)).foldl fd l=fd ((subs.take i).foldl fd l) p:=ZjZ h l
def ZCh:nR (iL 0)=[]/\nR (List.range 0)=[]/\nR []=[]:=⟨rfl,rfl,rfl⟩
def Zxo(a:Nat):nR (mo a 0)=[]:=rfl
def ZoC{subs:List (Int×Int)}{i:Nat}{p:Int×Int}(h:subs[i]?=some p)(l:GN):(subs.take (i+1)).foldl ox l=ox ((subs.take i).foldl ox l) p:=ZjZ h l
section
variable{s:Srt}
def ZkP(h1:1<=s.O.length)(h8:s.O.length<=8)(hm:s.Ψ.length<=16)(hs:jf s.O.length s.Ψ):aI e0 109 [.agg (gt s)] [.I (.sl (nR (up s)))]:=by
 rw[gt];refine gI 2072014943 Tryz.func109 ?_;refine fG (aj3 (eq_true (by unfold al;omega):((s.O.length:Int)<=al)=True) @Tbz @ZpT) ?_;rw[nR_0];have F:=@ZHq;refine gL (ι:=Nat) [3,4,13,14] [3] (λk=>[(13,GU k),(3,.Υ 3)]) (λk=>[(3,.Υ none 3 1 (nR (uh s.O.length k)))]) (λk=>k<=s.O.length) (λk=>s.O.length-k) (0) (Taj _) (λk hk=>?_)
 by_cases am:k<s.O.length
 ·have q1:(k:Int)<s.O.length:=om;have hw:=bW (k:=k) om;have wu:=vY (k:=k) om;have l1:=ZB8 (n:=s.O.length) (k:=k) om;have l2:=gH (l:=uh s.O.length k);have l3:=iS (l:=uh s.O.length k);have l4:=Bi (l:=uh s.O.length k) k (2 ^ k);rw[ZB9 am]at l4;rw[l1]at l2;obtain⟨x,hx⟩:∃x,(uh s.O.length k)[k]?=some x:=⟨_,Taa om⟩;have F:=aj9 @q1 @wu @l2 @l3 @l4 (gN hx) @am @hw @bw;exact EM
 obtain rfl:k=s.O.length:=by omega
 rw[ZCa];have hU:=bq.start s.O.length;refine fG (ai (om:¬((s.O.length:Int)<s.O.length)) (by rw[gH,hU.1]:(nR (iL s.O.length)).length=s.O.length)) ?_;have F:=@pF.eq_1;refine gL (ι:=Nat) [3,6,24,25,27,28,29,30] [3] (λj=>[(24,GU j),(3,.Υ 3)]) (λj=>[(3,.Υ none 3 1 (nR (pF s.Ψ j (iL s.O.length))))]) (λj=>j<=s.O.length) (λj=>s.O.length-j) (0) (Taj _) (λj hj=>?_);by_cases pj:j<s.O.length;rotate_left
 ·exact m117
 refine AG λq2 qE=>?_;have BE:=bq.iter hs j hU;have jk:pF s.Ψ (j+1) (iL s.O.length)=s.Ψ.foldl ox (pF s.Ψ j (iL s.O.length)):=rfl;generalize pF s.Ψ j (iL s.O.length)=u at BE jk⊢;refine fG @q2 ?_;have F:=@Zxm;refine gL (ι:=Nat) [3,6,29,30] [3] (λi=>[(29,GU i),(3,.Υ 3)]) (λi=>[(3,.Υ none 3 1 (nR ((s.Ψ.take i).foldl ox u)))]) (λi=>i<=s.Ψ.length) (λi=>s.Ψ.length-i) (0) (Taj _) (λi hi=>?_)
 exact m12
def CD(h8:s.O.length<=8)(hm:s.Ψ.length<=16)(hs:jf s.O.length s.Ψ):aI e0 147 [.agg (gt s)] [.I (.sl (nR (up s)))]:=by
 rw[gt];refine gI 2164265087 Tryz.func147 ?_;refine fG @aJ ?_;have F:=@ZCh;refine gL (ι:=Nat) [3,4,12] [3] (λk=>[(4,GU k),(3,.Υ 3)]) (λk=>[(3,.Υ none 3 1 (nR (iL k)))]) (λk=>k<=s.O.length) (λk=>s.O.length-k) (0) (Taj _) (λk hk=>?_);by_cases am:k<s.O.length
 ·have q1:(k:Int)<s.O.length:=om;have hw:=bW (k:=k) om;have l2:=gH (l:=iL k);rw[(bq.start k).1]at l2;have l3:=iS (l:=iL k);have l4:=ZhR (l:=iL k) (2 ^ k);rw[<- ZEB]at l4;refine ce @q1 @aJ (Zg7 (k:=k) om) (aj4 @l2 @l3 @l4 (eq_true (by unfold al;omega):(k+1<=al)=True)) ?_;have F:=@hw;exact EM
 obtain rfl:k=s.O.length:=by omega
 have hU:=bq.start s.O.length;refine fG (om:¬((s.O.length:Int)<s.O.length)) ?_;have F:=@pF.eq_1;refine gL (ι:=Nat) [3,5,6,24,31] [3] (λj=>[(5,GU j),(3,.Υ 3)]) (λj=>[(3,.Υ none 3 1 (nR (pF s.Ψ j (iL s.O.length))))]) (λj=>j<=s.O.length) (λj=>s.O.length-j) (0) (Taj _) (λj hj=>?_);by_cases pj:j<s.O.length
 rotate_left
 ·exact m117
 refine AG λq2 qE=>?_;have BE:=bq.iter hs j hU;have jk:pF s.Ψ (j+1) (iL s.O.length)=s.Ψ.foldl ox (pF s.Ψ j (iL s.O.length)):=rfl;generalize pF s.Ψ j (iL s.O.length)=u at BE jk⊢;refine fG @q2 ?_;have F:=@Zxm;refine gL (ι:=Nat) [3,6,31] [3] (λi=>[(6,GU i),(3,.Υ 3)]) (λi=>[(3,.Υ none 3 1 (nR ((s.Ψ.take i).foldl ox u)))]) (λi=>i<=s.Ψ.length) (λi=>s.Ψ.length-i) (0) (Taj _) (λi hi=>?_)
 exact m12
def Ztc(h8:s.O.length<=8)(hm:s.Ψ.length<=16)(hs:jf s.O.length s.Ψ):aI e0 149 [.agg (gt s)] [.I (.sl (nR (kinds s)))]:=by
 rw[gt];refine gI 4328555519 Tryz.func149 ?_;refine fG @aJ ?_;have F:=@ZCh;refine gL (ι:=Nat) [3,4,15] [3] (λk=>[(4,GU k),(3,.Υ 3)]) (λk=>[(3,.Υ none 3 1 (nR (List.range k)))]) (λk=>k<=s.O.length) (λk=>s.O.length-k) (0) (Taj _) (λk hk=>?_);by_cases am:k<s.O.length
 ·have q1:(k:Int)<s.O.length:=om;have hw:=bW (k:=k) om;have l2:=gH (l:=List.range k);rw[List.length_range]at l2;have l3:=iS (l:=List.range k);have l4:=ZhR (l:=List.range k) k;rw[<- List.range_succ]at l4;have F:=aj6 @q1 @l2 @l3 @l4 (eq_true (by unfold al;omega):(k+1<=al)=True) @hw;exact EM
 obtain rfl:k=s.O.length:=by omega
 have hU:=i9.start s.O.length;refine fG (om:¬((s.O.length:Int)<s.O.length)) ?_;have F:=@oz.eq_1;refine gL (ι:=Nat) [3,5,6,7,8,9,25,32] [3] (λj=>[(5,GU j),(3,.Υ 3)]) (λj=>[(3,.Υ none 3 1 (nR (oz s.Ψ j (List.range s.O.length))))]) (λj=>j<=s.O.length) (λj=>s.O.length-j) (0) (Taj _) (λj hj=>?_);have BE:=i9.iter hs j hU
 have l0:=gH (l:=oz s.Ψ j (List.range s.O.length));rw[BE.1]at l0;by_cases pj:j<s.O.length;rotate_left
 ·obtain rfl:j=s.O.length:=by omega
  rw[kinds];refine fG (ai @l0 (om:¬((s.O.length:Int)<s.O.length))) ?_;have F:=@aJ;refine gG ?_;exact xi [2]
 refine AG λq2 qE=>?_;have jk:oz s.Ψ (j+1) (List.range s.O.length)=s.Ψ.foldl fd (oz s.Ψ j (List.range s.O.length)):=rfl;generalize oz s.Ψ j (List.range s.O.length)=u at BE jk l0⊢;refine fG (ai @l0 @q2) ?_;have F:=@ZCg;refine gL (ι:=Nat) [3,6,7,8,9,32] [3] (λi=>[(6,GU i),(3,.Υ 3)]) (λi=>[(3,.Υ none 3 1 (nR ((s.Ψ.take i).foldl fd u)))]) (λi=>i<=s.Ψ.length) (λi=>s.Ψ.length-i) (0) (Taj _) (λi hi=>?_)
 by_cases BM:i<s.Ψ.length;rotate_left
 ·exact m104
 have q3:(i:Int)<s.Ψ.length:=om;have fV:=bW (k:=i) om;obtain⟨p,hp⟩:∃p,s.Ψ[i]?=some p:=⟨_,Taa BM⟩;have yT:=hs p (Tac hp);have aZ:=ZqG hp u;have qR:=i9.foldl BE (hs.take i);generalize (s.Ψ.take i).foldl fd u=v at qR aZ⊢;obtain⟨g1,b1⟩:=qR.get (i:=p.1.toNat) om;obtain⟨g2,b2⟩:=qR.get (i:=p.2.toNat) om;have l1:=gN g1;have l2:=gN g2;have l3:=gH (l:=v);rw[qR.1]at l3
 have l4:=iS (l:=v);have l5:=Bi (l:=v) p.1.toNat (min (v.getD p.1.toNat 0) (v.getD p.2.toNat 0));have l6:=Bi (l:=v.set p.1.toNat (min (v.getD p.1.toNat 0) (v.getD p.2.toNat 0))) p.2.toNat (min (v.getD p.1.toNat 0) (v.getD p.2.toNat 0));have l7:=gH (l:=v.set p.1.toNat (min (v.getD p.1.toNat 0) (v.getD p.2.toNat 0)));rw[Taz,qR.1]at l7;have l8:=iS (l:=v.set p.1.toNat (min (v.getD p.1.toNat 0) (v.getD p.2.toNat 0)))
 obtain⟨x9,g9⟩:∃x,(v.set p.1.toNat (min (v.getD p.1.toNat 0) (v.getD p.2.toNat 0)))[p.2.toNat]?=some x:=⟨_,Taa (by rw[Taz,qR.1];omega)⟩;have l9:=gN g9;have i1:0<=p.1:=yT.1;have i2:0<=p.2:=yT.2.2.1;have i3:p.1.toNat<s.O.length:=om;have i4:p.2.toNat<s.O.length:=om;have aZ:(s.Ψ.take (i+1)).foldl fd u=(v.set p.1.toNat (min (v.getD p.1.toNat 0) (v.getD p.2.toNat 0))).set p.2.toNat (min (v.getD p.1.toNat 0) (v.getD p.2.toNat 0)):=aZ
 refine fN 12 @q3 ?_;refine dJ 14 (by decide +kernel) ?_;intro ds bJ;simp only[List.map]at bJ;subst bJ;refine(have F:=ai hp uG;gP 12 ?_);refine(have F:=i1;De ?_);refine(have F:=i1;De ?_);refine fR @i1 ?_;refine cq 13 @aJ (aj8 @l1 @l2 @l3 @l4 @i1 @i2 @i3 @i4) (ZCf (v.getD p.1.toNat 0) (v.getD p.2.toNat 0)) @aJ ?_;have F:=aj15 @l1 @l2 @l3 @l4 @l5 @l6 @l7 @l8 @l9 @i1 @i2 @i3 @i4 @fV @aZ;refine gG ?_;exact⟨i+1,BM,gw,gw,om⟩
def ZfB(hs:SortsOk s):aI e0 149 [.agg (gt s)] [.I (.sl ((mr (kinds s)).map ij))]:=Ztc hs.n8 hs.m16 (SortsOk.subsIn hs.Ψ)
end
def ZoD{x k:Nat}(hx:x<4611686018427387904)(hk:k<62):decide (bits .and .i64 (x:Int) ((2 ^ k:Nat):Int)=0)=!(bG x k):=by
 rw[bG,<- testBit_and,wK hx (Zia hk)];simp only[bne,Bool.not_not];rw[Bool.eq_iff_iff,decide_eq_true_eq,beq_iff_eq];omega
def Zhu{a:Nat}(ha:a<65536):aI e0 110 [GT a] [.I (.sl (nR (cj a)))]:=by
 have cS:=ZCd (a:Int);have z0:decide (0<=(a:Int)/\(a:Int)<=65535):=decide_eq_true om;rw[z0]at cS;refine gI 264221 Tryz.func110 ?_;refine fG @aJ ?_;have F:=@Zxo;refine gL (ι:=Nat) [3,4,11,18] [3] (λk=>[(4,GU k),(3,.Υ 3)]) (λk=>[(3,.Υ none 3 1 (nR (mo a k)))]) (λk=>k<=16) (λk=>16-k) (0) om (λk hk=>?_);by_cases am:k<16;rotate_left
 ·exact m120
 have q1:=lT k 16;have hw:=bW (k:=k) om;have h1:=vY (k:=k) om;have h2:=ZoD (x:=a) (k:=k) om om;refine m132 λl2 l3 l4 c8=>?_
 cases hb:bG a k with
 |false =>
  rw[hb]at h2;rw[<- ZqC hb];have F:=aj5 @q1 @h1 @h2 @bw @hw;exact EM
 |true =>
  rw[hb]at h2;rw[<- ZoA hb]at l4;have F:=aj9 @q1 @h1 @h2 @bw @l2 @l3 @l4 @c8 @hw;exact EM
end Go.Proofs.YtaenibhihgfehaaGreatDoor
namespace Go.Proofs.YtaenibhihgfehaaGreatDoor
open Go.RowKit Go.MapKept Go.ChangeMaps
def kF(w:World)(b:Nat)(l:List (ByteArray×Value)):Prop:=∃(es:Array MapEntry)(pK:Nat),w.heap[b]?=some (.map es pK)/\es.toList.map (λe=>(e.key,e.val))=l.map (λp=>(Value.string p.1,p.2))
def jV(l:List (ByteArray×Value))(s:ByteArray):Option Value:=(l.find? λp=>s.toList==p.1.toList).map (·.2)
def ff(b:Nat)(l:List (ByteArray×Value)):Bk:=.set (λg=>g=b) λw=>kF w b l
def kF.Κ(b:Nat)(l:List (ByteArray×Value)):vO (λg=>g=b) λw=>kF w b l:=λw w' _ hE⟨es,c,h1,h2⟩=>⟨es,c,by rw[hE b rfl];exact h1,h2⟩
def kF.lt{w:World}{b:Nat}{l:List (ByteArray×Value)}(h:kF w b l):b<w.heap.size:=by
 obtain⟨es,pK,h,_⟩:=h;exact(Tbm.1 h).1
def Zny(s:ByteArray):∀(es:List MapEntry)(l:List (ByteArray×Value))(i:Nat),es.map (λe=>(e.key,e.val))=l.map (λp=>(Value.string p.1,p.2)) ->
  (∀v,jV l s=some v->∃j,Instr.findNow .string (.string s) es i=some (some (j,v)))/\(jV l s=none->Instr.findNow .string (.string s) es i=some none)
 |[],[],i,_=>⟨λv h=>by simp[jV]at h,λ_=>rfl⟩
 |[],_::_,_,h=>by simp at h
 |_::_,[],_,h=>by simp at h
 |e::es,t::ts,i,h=>by
  simp only[Tbv,List.cons.injEq,Prod.mk.injEq]at h;obtain⟨⟨h1,h2⟩,h3⟩:=h;obtain⟨ih1,ih2⟩:=Zny s es ts (i+1) h3;simp only[Instr.findNow,h1,h2,Instr.sameNow,beq_toListBytes,jV,List.find?_cons]
  cases he:(s.toList==t.1.toList)
  ·exact⟨ih1,ih2⟩
  ·exact⟨λv hv=>⟨i,by simpa using hv⟩,λh=>by simp at h⟩
section
variable{P:Program}{w:World}{b:Nat}{l:List (ByteArray×Value)}{t k el:TypeId}
def ZEG(h:kF w b l)(ht:P.underlying t=some (.map k el))(hk:P.underlying k=some .string){z:Value}(hz:∀w,(zeroValue el).run P w=.ok z w)(s:ByteArray)(ok:Bool) :
  (Instr.lookup t (.map (some b)) (.string s) ok).run P w=.ok (if ok then .tuple #[(jV l s).getD z,.bool (jV l s).isSome]else(jV l s).getD z) w:=by
 obtain⟨es,pK,h1,h2⟩:=h;obtain⟨f1,f2⟩:=Zny s es.toList l 0 h2;have hc:∀em,(Instr.checkKey em 10000 k (.string s)).run P w=.ok () w:=λem=>MapKept.run_checkKey hk (by simp[MapKept.IsKey]) em 9999;rcases hs:jV l s with _|v
 ·have:=MapKept.run_findKey (w:=w) hk (f2 hs);simp[Instr.lookup,run_underlying ht,MapKept.run_getObj_map h1,hc,this,hs,hz]
 ·obtain⟨j,hf⟩:=f1 v hs;have:=MapKept.run_findKey (w:=w) hk hf;simp[Instr.lookup,run_underlying ht,MapKept.run_getObj_map h1,hc,this,hs]
def ZHr(h:kF w b l)(ht:P.underlying t=some (.map k el))(hk:P.underlying k=some .string){s:ByteArray}(hs:jV l s=none)(v:Value) :
  ∃w',(Instr.mapUpdate t (.map (some b)) (.string s) v).run P w=.ok () w'/\kF w' b (l++[(s,v)])/\w'.os=w.os/\w'.tape=w.tape/\w'.output=w.output/\w'.drawn=w.drawn/\w'.heap.size=w.heap.size/\∀x,x≠b->w'.heap[x]?=w.heap[x]?:=by
 obtain⟨es,pK,h1,h2⟩:=h;obtain⟨f1,f2⟩:=Zny s es.toList l 0 h2;have hc:∀em,(Instr.checkKey em 10000 k (.string s)).run P w=.ok () w:=λem=>MapKept.run_checkKey hk (by simp[MapKept.IsKey]) em 9999;have:=MapKept.run_findKey (w:=w) hk (f2 hs);refine⟨setBlock w b (.map (es.push { key:=.string s,val:=v,born:=pK }) (pK+1)),?_,⟨_,_,heap_setBlock_same h1 _,by simp[h2]⟩,rfl,rfl,rfl,rfl,by simp[setBlock],λx hx=>heap_setBlock_other h1 _ hx⟩
 simp[Instr.mapUpdate,run_underlying ht,MapKept.run_getObj_map h1,hc,this,MapKept.run_setObj_map _ h1,setBlock]
end
section
variable{e:Env}{σ:St}{o:Oper}{K:GR}
def Zvb{t:TypeId}(ho:o.op=.makeMap t none){d:Nat}(iX:o.dst=some d)(hK:∀b:Nat,K ⟨(d,GY (.A (.map (some b))))::bX d σ.s,(d,ff b [])::aA d σ.m⟩):jW e o σ K:=by
 intro he U w0 S0 nt a w Q hd ⟨S,L,h1⟩;have hb:Below w.heap.size w (w.alloc (.map #[] 0)):=yF w _;have hk:Kept e.D (λb=>(none:GM)=some b) w.heap.size w (w.alloc (.map #[] 0)):=Kept.of_below hb (λ_=>Tai _);unfold Oper.wp;refine m205 λaF=>?_
 rw[aF,Oper.upon_value,iX];refine⟨_,hK w.heap.size,h1.born he (hd d iX) (τ:=none) (b':=0) (v':=Go.undef) (S':=S) (λ_ h=>h) (λ_ h=>.inl h) (λt=>.inl rfl) (λk x h=>h) (by simp) (by simp) hk ?_ ?_ (by simp[aw,aX,aR])⟩
 ·simp only[b6,ff];refine⟨λb cu=>?_,⟨#[],0,heap_alloc_new w _,rfl⟩,kF.Κ _ _⟩;subst cu;exact⟨by simp,λhs=>by have:=(h1.Ξ.sin _ hs).1;omega⟩
 ·intro g hg;simp only[dh,ff]at hg;exact .inr om
def ZqH{t:TypeId}{x y:Operand}{ok:Bool}(ho:o.op=.lookup t x y ok){κ b:Nat}{l:List (ByteArray×Value)}{s:ByteArray}{kt el:TypeId}{z:Value}(ht:e.P.underlying t=some (.map kt el))(hk:e.P.underlying kt=some .string)(hz:∀w,(zeroValue el).run e.P w=.ok z w)
  (hx:aL σ.s x=GY (.A (.map (some b)))) (hy:aL σ.s y=GY (.A (.string s))) (hm:gm σ.m κ=some (ff b l)) {α:A} (G8:∀(w:World)(S:GO)(L:Lay),aw w S L α (if ok then .tuple #[(jV l s).getD z,.bool (jV l s).isSome]else(jV l s).getD z)) (hK:K ⟨aD σ.s o.dst α,σ.m⟩):jW e o σ K:=by
 intro he U w0 S0 nt a w Q hd ⟨S,L,h1⟩;have aW:=h1.eval x;have km:=h1.eval y;rw[hx]at aW;rw[hy]at km;have aW:a.eval x=.map (some b):=by simpa[aw,aX,aR]using aW
 have km:a.eval y=.string s:=by simpa[aw,aX,aR]using km
 obtain⟨_,hM,_⟩:=h1.Ξ.own κ _ hm;unfold Oper.wp;have aF:(execOp a.eval o).run e.P w=.ok (.value (if ok then .tuple #[(jV l s).getD z,.bool (jV l s).isSome]else(jV l s).getD z)) w:=by
  simp[execOp,ho,aW,km,ZEG hM ht hk hz s ok,Result.andThen]
 rw[aF,Oper.upon_value];exact⟨_,hK,S,L,h1.put (G8 w S L) hd⟩
def ZEH{t:TypeId}{x y u:Operand}(ho:o.op=.mapUpdate t x y u){κ b:Nat}{l:List (ByteArray×Value)}{s:ByteArray}{kt el:TypeId}{v:Value}(ep:o.dst=none)(ht:e.P.underlying t=some (.map kt el))(hk:e.P.underlying kt=some .string)
  (hx:aL σ.s x=GY (.A (.map (some b)))) (hy:aL σ.s y=GY (.A (.string s))) (hu:aL σ.s u=GY (.A v)) (hm:gm σ.m κ=some (ff b l)) (hs:jV l s=none) (hK:K ⟨σ.s,(κ,ff b (l++[(s,v)]))::aA κ σ.m⟩):jW e o σ K:=by
 intro he U w0 S0 nt a w Q hd ⟨S,L,h1⟩;have aW:=h1.eval x;have km:=h1.eval y;have pY:=h1.eval u;rw[hx]at aW;rw[hy]at km;rw[hu]at pY;have aW:a.eval x=.map (some b):=by simpa[aw,aX,aR]using aW
 have km:a.eval y=.string s:=by simpa[aw,aX,aR]using km
 have pY:a.eval u=v:=by simpa[aw,aX,aR]using pY
 obtain⟨hbb,hM,_⟩:=h1.Ξ.own κ _ hm;obtain⟨w',aF,hM',o1,o2,o3,o4,o5,o6⟩:=ZHr hM ht hk hs v;unfold Oper.wp;have aF:(execOp a.eval o).run e.P w=.ok .skip w':=by
  simp[execOp,ho,aW,km,pY,aF,Result.andThen]
 rw[aF,Oper.upon_skip,ep];have lM:∀c,S c->w'.heap[c]?=w.heap[c]?:=λc hc=>o6 c λe1=>(hbb b rfl).2 (e1▸hc)
 obtain⟨t1,t2,t3⟩:=h1.touch he (d:=κ) (bk:=ff b (l++[(s,v)])) (m':=(κ,ff b (l++[(s,v)]))::aA κ σ.m) (w':=w') (L':=L) (τ:=some b) (S':=S) (λ_ h=>h) (λ_ h=>.inl h)
  (λk' x cl hx=>by simp only[gm,cl,if_false,gq]at hx;exact hx) (by simp[gm]) (λ_ _=>⟨rfl,rfl⟩)
  (λg hg=>by injection hg with hg;subst hg;exact⟨(hbb b rfl).2,h1.Ξ.notE hm rfl,h1.Ξ.mine κ _ _ hm rfl⟩)
  (λk' x g cl hx hg hb=>by
   injection hg with hg;subst hg
   simp only[gm,cl,if_false,gq]at hx;exact cl (h1.Ξ.inj k' κ x _ _ hx hm hb rfl))
  ⟨o1,o2,o3,λ_=>Nat.le_of_eq o4.symm,om,λc hc hE=>o6 c (λeq=>hE (by rw[eq]))⟩
  ⟨λc hc=>by have:=hbb c hc;exact⟨om,this.2⟩,hM',kF.Κ _ _⟩ (λg hg=>.inl (by simp only[dh,ff]at hg;rw[hg]))
 exact⟨_,hK,S,L,t1,λt=>t3 _ _ (λ_=>⟨rfl,rfl⟩) (h1.rel t),h1.size,h1.defers,t2⟩
end
section
variable{e:Env}{K:GR}{ds:By}{os:GL}{s:d3}{m:it}
def Zgm{o:Oper}{σ:St}(hg:o.guard=none)(h:jW e o σ (λy'=>an e ds 0 os y' K)):an e ds 0 (o::os) σ K:=by
 simp only[an]at h⊢;exact vG hg h
def gMk{d t ty:Nat}{p:String}{ed:Array Edge}{s2:d3}{m2:it}(hK:∀b:Nat,an e ds 0 os ⟨(d,GY (.A (.map (some b))))::s2,(d,ff b [])::m2⟩ K)(hs:bX d s=s2:=by exact dE)(hr:aA d m=m2:=by exact dE):an e ds 0 (⟨some d,.makeMap t none,ty,p,ed,none⟩::os) ⟨s,m⟩ K :=
 Zgm rfl (Zvb rfl rfl (by simp only[hs,hr];exact hK))
def gLk{d t ty:Nat}{p:String}{ed:Array Edge}{x y:Operand}{b:Nat}{l:List (ByteArray×Value)}{k:ByteArray}{kt el:TypeId}{z v:Value}(κ:Nat)(ht:e.P.underlying t=some (.map kt el))(hk:e.P.underlying kt=some .string)(hz:∀w,(zeroValue el).run e.P w=.ok z w)(hv:(jV l k).getD z=v)
  (hK:an e ds 0 os ⟨(d,GY (.A v))::s,m⟩ K) (hx:aL s x=GY (.A (.map (some b))):=by exact iK) (hy:aL s y=GY (.A (.string k)):=by exact iK) (hm:gm m κ=some (ff b l):=by exact oJ):an e ds 0 (⟨some d,.lookup t x y false,ty,p,ed,none⟩::os) ⟨s,m⟩ K :=
 Zgm rfl (ZqH rfl ht hk hz hx hy hm (α:=GY (.A v)) (λw S L=>by rw[<- hv];simp[aw,aX,aR]) hK)
def gUp{t ty:Nat}{p:String}{ed:Array Edge}{x y u:Operand}{b:Nat}{l:List (ByteArray×Value)}{k:ByteArray}{kt el:TypeId}{v:Value}{m2:it}(κ:Nat)(ht:e.P.underlying t=some (.map kt el))(hk:e.P.underlying kt=some .string)(hs:jV l k=none)
  (hK:an e ds 0 os ⟨s,(κ,ff b (l++[(k,v)]))::m2⟩ K) (hx:aL s x=GY (.A (.map (some b))):=by exact iK) (hy:aL s y=GY (.A (.string k)):=by exact iK) (hu:aL s u=GY (.A v):=by exact iK)
  (hm:gm m κ=some (ff b l):=by exact oJ) (hr:aA κ m=m2:=by exact dE):an e ds 0 (⟨none,.mapUpdate t x y u,ty,p,ed,none⟩::os) ⟨s,m⟩ K :=
 Zgm rfl (ZEH rfl rfl ht hk hx hy hu hm hs (by simp only[hr];exact hK))
end
end Go.Proofs.YtaenibhihgfehaaGreatDoor
namespace Go.Proofs.YtaenibhihgfehaaGreatDoor
open Go.RowKit
variable{G3 G4 G5:Prop}
def sB(l:List ByteArray):List (ByteArray×Value):=l.map λx=>(x,.bool true)
def ZoE(l:List ByteArray)(s:ByteArray):jV (sB l) s=if jJ l s then some (.bool true)else none:=by
 induction l with
 |nil=>rfl
 |cons x xs ih =>
  simp only[jV,sB,jJ,Tbv,List.any_cons]at ih⊢;by_cases h:(s.toList==x.toList)=true
  ·rw[List.find?_cons_of_pos (by exact h)];simp[h]
  ·rw[List.find?_cons_of_neg (by exact h),ih];simp[h]
def Zyl{l:List ByteArray}{i:Nat}{x:ByteArray}(h:l[i]?=some x):sB (l.take i)++[(x,.bool true)]=sB (l.take (i+1)):=by
 rw[List.take_add_one,h,sB,sB,Tbw];rfl
def Zif:∀x,vR x=[.A (.string x)]:=λ_=>rfl
def Fs:e0.P.underlying 157=some (.map 9 4):=by kernel_rfl
def yy:e0.P.underlying 9=some .string:=by kernel_rfl
def Zmq:∀w,(zeroValue 4).run e0.P w=.ok (.bool false) w:=λw=>by kernel_rfl
def ZHs:sB []=[]/\∀l:List ByteArray,sB (l.take 0)=[]:=⟨rfl,λ_=>rfl⟩
section
variable{s:Srt}
def ZkQ (aq:Zou s):aI e0 108 [.agg (gt s)] [GW (qj s)]:=by
 have bT:¬SortsOk s->qj s=false:=Zhi;have cU:=λh1 h2 h3 h4=>ZkP (s:=s) h1 h2 h3 h4;have nB:=Zlh s.O;rw[gt]at cU⊢;refine gI 41538379337072913235836183427157855 Tryz.func108 ?_;by_cases h1:1<=s.O.length;rotate_left
 ·have hf:=bT λh=>h1 h.n1;have z1:=lT s.O.length 1;exact fT (ai @z1 @hf)
 have z1:=lF s.O.length 1;by_cases h8:s.O.length<=8;rotate_left
 ·have hf:=bT λh=>h8 h.n8;have z2:=lT 8 s.O.length;exact fT (aj3 @z1 @z2 @hf)
 have z2:=lF 8 s.O.length;by_cases Dm:s.Ψ.length<=16;rotate_left
 ·have hf:=bT λh=>Dm h.m16;have z3:=lT 16 s.Ψ.length;exact fT (aj4 @z1 @z2 @z3 @hf)
 have z3:=lF 16 s.Ψ.length;refine fN 4 (aj3 @z1 @z2 @z3) ?_;refine gB ?_;refine gMk λb=>?_;refine fR @aJ ?_;refine fG @aJ ?_;have F:=@ZHs;refine gL (ι:=Nat) [2,6,31,32,42] [27] (λi=>[(31,GU i)]) (λi=>[(27,ff b (sB (s.O.take i)))]) (λi=>i<=s.O.length/\∀j,j<i->Zll s.O j) (λi=>s.O.length-i) (0) (⟨Taj _,λj h=>absurd h om⟩) (λi hi=>?_);clear F
 obtain⟨e7,hall⟩:=hi;by_cases am:i<s.O.length
 ·have q1:(i:Int)<s.O.length:=om;obtain⟨x,hx⟩:∃x,s.O[i]?=some x:=⟨_,Taa am⟩;have hw:=bW (k:=i) om;have jM:=ZoE (s.O.take i) x;have dv:¬(jc x/\jJ (s.O.take i) x=false)->qj s=false:=λh=>bT λhs=>h (hs.O i am x hx);have cN:=Zid (aq.1 x (Tac hx));refine fN 8 (aj3 @q1 @hx @Zif) ?_;refine gB ?_;have F:=@aJ;refine gP 2 ?_;clear F
  cases hh:jJ (s.O.take i) x with
  |true =>
   rw[hh]at jM dv;have hf:=dv λh=>by cases h.2
   refine(have F:=aJ;gLk 27 Fs yy Zmq (v:=.bool true) (by rw[jM];rfl) ?_);refine fR @aJ ?_;exact fT @hf
  |false =>
  rw[hh]at jM dv;refine(have F:=aJ;gLk 27 Fs yy Zmq (v:=.bool false) (by rw[jM];rfl) ?_);refine fC @aJ (cN) ?_
  cases hn:jc x with
  |false =>
   have hf:=dv λh=>by rw[hn]at h;cases h.1
   refine fR @aJ ?_;exact fT @hf
  |true =>
  have hq:i+1<=s.O.length/\∀j,j<i+1->Zll s.O j:=⟨am,λj hj=>by
   by_cases e:j=i
   ·subst e;intro y hy;rw[hx]at hy;injection hy with hy
    subst hy;exact⟨hn,hh⟩
   ·exact hall j om⟩
  have qZ:=Zyl hx;refine fR @aJ ?_;refine fN 10 @aJ ?_;refine gB ?_;have F:=@aJ;refine gP 2 ?_;clear F;refine(have F:=aJ;gUp 27 Fs yy (by rw[jM];rfl) ?_);rw[qZ];refine fR @aJ ?_;have F:=@hw;refine gG ?_;exact⟨i+1,hq,gw,gw,om⟩
 obtain rfl:i=s.O.length:=by omega
 have q1:¬((s.O.length:Int)<s.O.length):=om;refine fG @q1 ?_;have F:=@aJ;refine gL (ι:=Nat) [2,8,49,50,79] [] (λk=>[(49,GU k)]) (λk=>[]) (λk=>k<=s.Ψ.length/\∀(j:Nat)p,j<k->s.Ψ[j]?=some p->yJ s.O.length p) (λk=>s.Ψ.length-k) (0) (⟨Taj _,λj p h=>absurd h om⟩) (λk hk=>?_);clear F;obtain⟨jF,d6⟩:=hk;by_cases mR:k<s.Ψ.length
 ·have q2:(k:Int)<s.Ψ.length:=om;obtain⟨p,hp⟩:∃x,s.Ψ[k]?=some x:=⟨_,Taa mR⟩;have hw:=bW (k:=k) om;have dv:¬yJ s.O.length p->qj s=false:=λh=>bT λhs=>h (hs.Ψ p (Tac hp));by_cases c1:p.1<0
  ·have hf:=dv λh=>by have:=h.1;omega
   exact fT (aj5 @q2 @hp @uG @c1 @hf)
  by_cases c2:(s.O.length:Int)<=p.1
  ·have hf:=dv λh=>by have:=h.2.1;omega
   exact fT (aj6 @q2 @hp @uG @c1 @c2 @hf)
  by_cases c3:p.2<0
  ·have hf:=dv λh=>by have:=h.2.2.1;omega
   exact fT (aj7 @q2 @hp @uG @c1 @c2 @c3 @hf)
  by_cases c4:(s.O.length:Int)<=p.2
  ·have hf:=dv λh=>by have:=h.2.2.2.1;omega
   exact fT (aj8 @q2 @hp @uG @c1 @c2 @c3 @c4 @hf)
  by_cases c5:p.1=p.2
  ·have hf:=dv λh=>h.2.2.2.2 c5;have c5:(p.1=p.2)=True:=eq_true c5;exact fT (aj9 @q2 @hp @uG @c1 @c2 @c3 @c4 @c5 @hf)
  have hq:k+1<=s.Ψ.length/\∀(j:Nat)p,j<k+1->s.Ψ[j]?=some p->yJ s.O.length p:=⟨mR,λj p' hj et=>by
   by_cases e:j=k
   ·subst e;rw[hp]at et;injection et with et
    subst et;exact⟨om,om,om,om,c5⟩
   ·exact d6 j p' om et⟩
  have F:=aj9 @q2 @hp @uG @c1 @c2 @c3 @c4 @c5 @hw;refine gG ?_;exact⟨k+1,hq,gw,gw,om⟩
 obtain rfl:k=s.Ψ.length:=by omega
 have q2:¬((s.Ψ.length:Int)<s.Ψ.length):=om;have r8:∀p∈s.Ψ,yJ s.O.length p:=λp hp=>by obtain⟨j,hj⟩:=Tbl hp;exact d6 j p (Tad.1 hj).1 hj
 have uV:=SortsOk.subsIn r8;have hU:=rA uV;have xK:(∀i k,i<s.O.length->k<s.O.length->sY (up s) i k)->qj s:=λh=>E7 ⟨h1,h8,Dm,λi hi=>hall i hi,r8,h⟩;have xB:∀i k,i<s.O.length->k<s.O.length->¬sY (up s) i k->qj s=false:=λi k h1 h2 h3=>bT λh=>h3 (h.pairs i k h1 h2);have lU:=gH (l:=up s);rw[hU.1]at lU;have rU:=iS (l:=up s);refine fB @q2 ?_
 refine fC @aJ (cU h1 h8 Dm uV) ?_;refine fR @aJ ?_;generalize up s=u at hU xK xB lU rU⊢;have rS:∀i,i<s.O.length->u[i]?=some (u.getD i 0)/\u.getD i 0<4611686018427387904:=λi hi=>by
  obtain⟨g1,g2⟩:=hU.get hi;exact⟨g1,Nat.lt_trans g2 (Zia om)⟩
 refine fG @lU ?_;have F:=@aJ;refine gL (ι:=Nat) [2,10,11,85,86,89,90,91,115] [] (λi=>[(85,GU i)]) (λi=>[]) (λi=>i<=s.O.length/\∀i' k,i' < i->k<s.O.length->sY u i' k) (λi=>s.O.length-i) (0) (⟨Taj _,λi' k h=>absurd h om⟩) (λi hi=>?_);clear F;obtain⟨e7,hpi⟩:=hi;by_cases am:i<s.O.length;rotate_left
 ·have q3:¬((i:Int)<s.O.length):=om;have ht:=xK λi' k h1 h2=>hpi i' k om h2;exact fT (ai @q3 @ht)
 have q3:(i:Int)<s.O.length:=om;have fV:=bW (k:=i) om;obtain⟨gi,bi⟩:=rS i am;refine fG (ai @q3 @lU) ?_;have F:=@aJ;refine gL (ι:=Nat) [2,11,90,91,115] [] (λk=>[(90,GU k)]) (λk=>[]) (λk=>k<=s.O.length/\∀k',k' < k->sY u i k') (λk=>s.O.length-k) (0) (⟨Taj _,λk h=>absurd h om⟩) (λk hk=>?_);clear F;obtain⟨jF,DT⟩:=hk;have BX:=bW (k:=k) om
 by_cases mR:k<s.O.length;rotate_left
 ·have q4:¬((k:Int)<s.O.length):=om;have hq:i+1<=s.O.length/\∀i' k,i' < i+1->k<s.O.length->sY u i' k:=⟨am,λi' k' h h2=>by
   by_cases e:i'=i
   ·subst e;exact DT k' om
   ·exact hpi i' k' om h2⟩
  have F:=ai @q4 @fV;refine gG ?_;exact⟨i+1,hq,gw,gw,om⟩
 have q4:(k:Int)<s.O.length:=om;obtain⟨gk,bk⟩:=rS k mR;have nx:sY u i k->k+1<=s.O.length/\∀k',k' < k+1->sY u i k':=λh=>⟨mR,λk' h2=>by
  by_cases e:k'=k
  ·subst e;exact h
  ·exact DT k' om⟩
 have si:=vY (k:=i) om;have sk:=vY (k:=k) om;have a1:=ZoD (x:=u.getD i 0) (k:=k) bi om;have a2:=ZoD (x:=u.getD k 0) (k:=i) bk om;have r1:=gN gi;have r2:=gN gk;by_cases yR:i=k
 ·have z4:((i:Int)=k)=True:=eq_true om;have hq:=nx λh=>h.1 yR;have F:=aj3 @q4 @z4 @BX;refine gG ?_;exact⟨k+1,hq,gw,gw,om⟩
 have z4:((i:Int)=k)=False:=eq_false om
 cases b1:bG (u.getD i 0) k with
 |false =>
  rw[b1]at a1;have hq:=nx λh=>by have:=h.2.1;rw[show(u.getD i 0).testBit k=false from b1]at this;cases this
  have F:=aj8 @q4 @z4 @sk @a1 @r1 @rU @bw @BX;refine gG ?_;exact⟨k+1,hq,gw,gw,om⟩
 |true =>
 rw[b1]at a1
 cases b2:bG (u.getD k 0) i with
 |false =>
  rw[b2]at a2;have hq:=nx λh=>by have:=h.2.2;rw[show(u.getD k 0).testBit i=false from b2]at this;cases this
  have F:=aj11 @q4 @z4 @sk @si @a1 @a2 @r1 @r2 @rU @bw @BX;refine gG ?_;exact⟨k+1,hq,gw,gw,om⟩
 |true =>
  rw[b2]at a2;have hf:=xB i k am mR λh=>h ⟨yR,b1,b2⟩;exact fT (aj11 @q4 @z4 @sk @si @a1 @a2 @r1 @r2 @rU @bw @hf)
end
def zr(x lo hi:Int):aI e0 146 [GT x,GT lo,GT hi] [GW (decide (lo<=x/\x<=hi))]:=by
 refine gI 71 Tryz.func146 ?_;by_cases h1:lo<=x
 ·by_cases h2:x<=hi
  ·exact fT (ai @h1 @h2)
  ·exact fT (ai @h1 @h2)
 ·exact fT @h1
def ZCi{l:List ByteArray}(s:ByteArray)(hl:l.length<=1048576):aI e0 145 [.I (.sl (l.map vR)),.I (.A (.string s))] [GW (jJ l s)]:=by
 have hr:=Zlh l;refine gI 131635 Tryz.func145 ?_;refine fG @aJ ?_;have F:=@aJ;refine gL (ι:=Nat) [4,5,9,17] [] (λi=>[(5,GU i)]) (λi=>[]) (λi=>i<=l.length/\jJ l s=jJ (l.drop i) s) (λi=>l.length-i) (0) (⟨Taj _,rfl⟩) (λi hi=>?_);obtain⟨e7,he⟩:=hi;rw[he];by_cases am:i<l.length;rotate_left
 ·exact fT (ai (om:¬((i:Int)<l.length)) (by rw[List.drop_eq_nil_of_le om];rfl:jJ (l.drop i) s=false))
 have q1:(i:Int)<l.length:=om;obtain⟨x,hx⟩:∃x,l[i]?=some x:=⟨_,Taa am⟩;have hw:=bW (k:=i) om;have aZ:=Zu8 (s:=s) hx
 cases hb:(x.toList==s.toList)with
 |true =>
  exact fT (aj6 @q1 @hr @hx @Zif @hb (by rw[aZ,hb];rfl:jJ (l.drop i) s))
 |false =>
  have F:=aj6 @q1 @hr @hx @Zif @hb @hw;refine gG ?_;exact⟨i+1,⟨am,(by rw[aZ,hb,Bool.false_or]:jJ (l.drop i) s=jJ (l.drop (i+1)) s)⟩,gw,gw,om⟩
section
variable{s:Srt}
def Zhj (aq:Zou s):aI e0 89 [.agg (gt s)] [GW (qj s)]:=by
 have bT:¬SortsOk s->qj s=false:=Zhi;have cU:=λh2 h3 h4=>CD (s:=s) h2 h3 h4;have nB:=Zlh s.O;rw[gt]at cU⊢;refine gI 21267982750773439247570160629959360767 Tryz.func89 ?_;by_cases h1:1<=s.O.length;rotate_left
 ·have hf:=bT λh=>h1 h.n1;have z1:=lT s.O.length 1;exact fT (ai @z1 @hf)
 have z1:=lF s.O.length 1;by_cases h8:s.O.length<=8;rotate_left
 ·have hf:=bT λh=>h8 h.n8;have z2:=lT 8 s.O.length;exact fT (aj3 @z1 @z2 @hf)
 have z2:=lF 8 s.O.length;by_cases Dm:s.Ψ.length<=16;rotate_left
 ·have hf:=bT λh=>Dm h.m16;have z3:=lT 16 s.Ψ.length;exact fT (aj4 @z1 @z2 @z3 @hf)
 have z3:=lF 16 s.Ψ.length;have xJ:IntKind.i64.wrap ((s.O.length:Int)-1)=(s.O.length:Int)-1:=IntWalk.i64_in _ om;refine fG (aj3 @z1 @z2 @z3) ?_;have F:=@aJ;refine gL (ι:=Nat) [2,3,28,49] [] (λi=>[(3,GU i)]) (λi=>[]) (λi=>i<=s.O.length/\∀j,j<i->Zll s.O j) (λi=>s.O.length-i) (0) (⟨Taj _,λj h=>absurd h om⟩) (λi hi=>?_);clear F
 obtain⟨e7,hall⟩:=hi;by_cases am:i<s.O.length
 ·have q1:(i:Int)<s.O.length:=om;obtain⟨x,hx⟩:∃x,s.O[i]?=some x:=⟨_,Taa am⟩;have hw:=bW (k:=i) om;have dv:¬(jc x/\jJ (s.O.take i) x=false)->qj s=false:=λh=>bT λhs=>h (hs.O i am x hx);have cN:=Zie (aq.1 x (Tac hx));have cH:=ZCi (l:=s.O.take i) x (by rw[Taw];omega);rw[List.map_take]at cH;have z4:((i:Int)<=s.O.length)=True:=eq_true om;refine fB @q1 ?_
  refine fC (aj3 @nB @hx @Zif) (cN) ?_
  cases hn:jc x with
  |false =>
   have hf:=dv λh=>by rw[hn]at h;cases h.1
   refine fR @aJ ?_;exact fT @hf
  |true =>
  refine fC (aj5 @nB @hx @Zif @z4 @bw) (cH) ?_
  cases hh:jJ (s.O.take i) x with
  |true =>
   have hf:=dv λh=>by rw[hh]at h;cases h.2
   refine fR @aJ ?_;exact fT @hf
  |false =>
  have hq:i+1<=s.O.length/\∀j,j<i+1->Zll s.O j:=⟨am,λj hj=>by
   by_cases e:j=i
   ·subst e;intro y hy;rw[hx]at hy;injection hy with hy
    subst hy;exact⟨hn,hh⟩
   ·exact hall j om⟩
  refine fR @aJ ?_;have F:=@hw;refine gG ?_;exact⟨i+1,hq,gw,gw,om⟩
 obtain rfl:i=s.O.length:=by omega
 have q1:¬((s.O.length:Int)<s.O.length):=om;refine fG @q1 ?_;have F:=@aJ;refine gL (ι:=Nat) [2,4,54,97] [] (λk=>[(4,GU k)]) (λk=>[]) (λk=>k<=s.Ψ.length/\∀(j:Nat)p,j<k->s.Ψ[j]?=some p->yJ s.O.length p) (λk=>s.Ψ.length-k) (0) (⟨Taj _,λj p h=>absurd h om⟩) (λk hk=>?_);clear F;obtain⟨jF,d6⟩:=hk;by_cases mR:k<s.Ψ.length
 ·have q2:(k:Int)<s.Ψ.length:=om;obtain⟨p,hp⟩:∃x,s.Ψ[k]?=some x:=⟨_,Taa mR⟩;have hw:=bW (k:=k) om;have dv:¬yJ s.O.length p->qj s=false:=λh=>bT λhs=>h (hs.Ψ p (Tac hp));have ez:=ZsY s.Ψ;refine fB @q2 ?_;refine fC (aj4 @ez @hp @uG @xJ) (zr p.1 0 ((s.O.length:Int)-1)) ?_;by_cases c1:0<=p.1/\p.1<=(s.O.length:Int)-1;rotate_left
  ·have hf:=dv λh=>c1 ⟨h.1,by have:=h.2.1;omega⟩;have y1:decide (0<=p.1/\p.1<=(s.O.length:Int)-1)=false:=decide_eq_false c1;refine fR @y1 ?_;exact fT @hf
  have y1:decide (0<=p.1/\p.1<=(s.O.length:Int)-1):=decide_eq_true c1;refine fC (aj5 @ez @hp @uG @xJ @y1) (zr p.2 0 ((s.O.length:Int)-1)) ?_;by_cases c2:0<=p.2/\p.2<=(s.O.length:Int)-1;rotate_left
  ·have hf:=dv λh=>c2 ⟨h.2.2.1,by have:=h.2.2.2.1;omega⟩;have y2:decide (0<=p.2/\p.2<=(s.O.length:Int)-1)=false:=decide_eq_false c2;refine fR (ai @y1 @y2) ?_;exact fT @hf
  have y2:decide (0<=p.2/\p.2<=(s.O.length:Int)-1):=decide_eq_true c2;by_cases c5:p.1=p.2
  ·have hf:=dv λh=>h.2.2.2.2 c5;have y5:(p.1=p.2)=True:=eq_true c5;refine fR (aj6 @y1 @y2 @ez @hp @uG @y5) ?_;exact fT @hf
  have y5:(p.1=p.2)=False:=eq_false c5;have hq:k+1<=s.Ψ.length/\∀(j:Nat)p,j<k+1->s.Ψ[j]?=some p->yJ s.O.length p:=⟨mR,λj p' hj et=>by
   by_cases e:j=k
   ·subst e;rw[hp]at et;injection et with et
    subst et;exact⟨om,om,om,om,c5⟩
   ·exact d6 j p' om et⟩
  refine fR (aj6 @y1 @y2 @ez @hp @uG @y5) ?_;have F:=@hw;refine gG ?_;exact⟨k+1,hq,gw,gw,om⟩
 obtain rfl:k=s.Ψ.length:=by omega
 have q2:¬((s.Ψ.length:Int)<s.Ψ.length):=om;have r8:∀p∈s.Ψ,yJ s.O.length p:=λp hp=>by obtain⟨j,hj⟩:=Tbl hp;exact d6 j p (Tad.1 hj).1 hj
 have uV:=SortsOk.subsIn r8;have hU:=rA uV;have xK:(∀i k,i<s.O.length->k<i->sY (up s) i k)->qj s:=λh=>E7 ⟨h1,h8,Dm,λi hi=>hall i hi,r8,λi k hi hk hb=>by
  rcases Nat.lt_trichotomy i k with h2|h2|h2
  ·exact h k i hk h2 ⟨λe=>hb.1 e.symm,hb.2.2,hb.2.1⟩
  ·exact hb.1 h2
  ·exact h i k hi h2 hb⟩
 have xB:∀i k,i<s.O.length->k<s.O.length->¬sY (up s) i k->qj s=false:=λi k h1 h2 h3=>bT λh=>h3 (h.pairs i k h1 h2);have lU:=gH (l:=up s);rw[hU.1]at lU;have rU:=iS (l:=up s);refine fB @q2 ?_;refine fC @aJ (cU h8 Dm uV) ?_;refine fR @aJ ?_;generalize up s=u at hU xK xB lU rU⊢;have rS:∀i,i<s.O.length->u[i]?=some (u.getD i 0)/\u.getD i 0<4611686018427387904:=λi hi=>by
  obtain⟨g1,g2⟩:=hU.get hi;exact⟨g1,Nat.lt_trans g2 (Zia om)⟩
 refine fG @lU ?_;have F:=@aJ;refine gL (ι:=Nat) [2,6,7,103,108,124] [] (λi=>[(6,GU i)]) (λi=>[]) (λi=>i<=s.O.length/\∀i' k,i' < i->k<i'->sY u i' k) (λi=>s.O.length-i) (0) (⟨Taj _,λi' k h=>absurd h om⟩) (λi hi=>?_);clear F;obtain⟨e7,hpi⟩:=hi;by_cases am:i<s.O.length;rotate_left
 ·have q3:¬((i:Int)<s.O.length):=om;have ht:=xK λi' k h1 h2=>hpi i' k om h2;exact fT (aj3 @q3 @lU @ht)
 have q3:(i:Int)<s.O.length:=om;have fV:=bW (k:=i) om;obtain⟨gi,bi⟩:=rS i am;refine fG (ai @q3 @lU) ?_;have F:=@aJ;refine gL (ι:=Nat) [2,7,108,124] [] (λk=>[(7,GU k)]) (λk=>[]) (λk=>k<=i/\∀k',k' < k->sY u i k') (λk=>i-k) (0) (⟨Taj _,λk h=>absurd h om⟩) (λk hk=>?_);clear F;obtain⟨jF,DT⟩:=hk;have BX:=bW (k:=k) om;by_cases mR:k<i
 rotate_left
 ·have q4:=lF k i;have hq:i+1<=s.O.length/\∀i' k,i' < i+1->k<i'->sY u i' k:=⟨am,λi' k' h h2=>by
   by_cases e:i'=i
   ·subst e;exact DT k' om
   ·exact hpi i' k' om h2⟩
  have F:=ai @q4 @fV;refine gG ?_;exact⟨i+1,hq,gw,gw,om⟩
 have q4:=lT k i;obtain⟨gk,bk⟩:=rS k om;have nx:sY u i k->k+1<=i/\∀k',k' < k+1->sY u i k':=λh=>⟨mR,λk' h2=>by
  by_cases e:k'=k
  ·subst e;exact h
  ·exact DT k' om⟩
 have r1:=gN gi;have r2:=gN gk;refine fB @q4 ?_;refine fC (ai @rU @r1) (uE (a:=u.getD i 0) (k:=k) bi om) ?_
 cases b1:bG (u.getD i 0) k with
 |false =>
  have hq:=nx λh=>by have:=h.2.1;rw[show(u.getD i 0).testBit k=false from b1]at this;cases this
  refine fR @aJ ?_;have F:=@BX;refine gG ?_;exact⟨k+1,hq,gw,gw,om⟩
 |true =>
 refine fC (ai @rU @r2) (uE (a:=u.getD k 0) (k:=i) bk om) ?_
 cases b2:bG (u.getD k 0) i with
 |false =>
  have hq:=nx λh=>by have:=h.2.2;rw[show(u.getD k 0).testBit i=false from b2]at this;cases this
  refine fR @aJ ?_;have F:=@BX;refine gG ?_;exact⟨k+1,hq,gw,gw,om⟩
 |true =>
  have hf:=xB i k am om λh=>h ⟨om,b1,b2⟩;refine fR @aJ ?_;exact fT @hf
end
def m249(h:G3:=by
 have hf:=bT λh=>h1 h.len1;exact fT (ai (lT o.Z.length 1) @hf)):G3:=h
def m236(b:G5)(h:Bx G5->G4:=by
 intro B0
 have hq:i+1<=d.Y.length/\_:=⟨am,ZoF (f:=f) ha tF qS λb' cu=>by rw[hb]at cu;injection cu with cu;subst cu;exact fv⟩;exact B0.o hq):G4:=h ⟨b⟩
def m234(b:G5)(h:Bx G5->G4:=by
 intro B0
 have q2:(j:Int)<o.Z.length:=om;obtain⟨d,hd⟩:∃d,o.Z[j]?=some d:=⟨_,Taa pj⟩;have pP:=Tac hd;have qE:=bW (k:=j) om;exact B0.o q2 d hd pP qE):G4:=h ⟨b⟩
def m233(h:G3:=by
 have hf:=bT λh=>h4 h.len4;exact fT (aj3 @z1 (lT 4 o.Z.length) @hf)):G3:=h
def m180(h:G3:=by
 have hf:=bT λh=>h3 (h.ar f oD);exact fT (aj6 @z1 @z2 @oD @jD (lT 3 f.Y.length) @hf)):G3:=h
def m156(b:G5)(h:Bx G5->G4:=by
 intro B0
 have q3:(i:Int)<d.Y.length:=om;obtain⟨a,ha⟩:∃k,d.Y[i]?=some k:=⟨_,Taa am⟩;obtain⟨b,hb⟩:∃k,f.Y[i]?=some k:=⟨_,Taa om⟩;have hw:=bW (k:=i) om;exact B0.o q3 a ha b hb hw):G4:=h ⟨b⟩
def m141(h:G3:=by
 have hf:=dv λh=>jX h.len;exact fT (aj5 @q2 @hd @jD (eq_false om:((d.Y.length:Int)=f.Y.length)=False) @hf)):G3:=h
def AK(h:G3:=by
 refine gG ?_;exact⟨i+1,hq,gw,gw,om⟩):G3:=h
def wR(s:Srt):we:=[.sl (nR (up s)),.sl (nR (down s)),.sl (nR (kinds s))]
def Zj3:∀s,wR s=[.sl (nR (up s)),.sl (nR (down s)),.sl (nR (kinds s))]:=λ_=>rfl
section
variable{s:Srt}
def uv(hs:SortsOk s){k:Int}(h:0<=k/\k<s.O.length):(nR (kinds s))[k.toNat]?=some [GS (kd s k:Nat)]:=by
 have hk:=Zj0 (SortsOk.subsIn hs.Ψ);have hl:k.toNat<(kinds s).length:=by rw[hk.1];omega
 rw[gN (Taa hl),kd,List.getD_eq_getElem?_getD,Taa hl];rfl
def ZIw(hs:SortsOk s):(nR (kinds s)).length=s.O.length:=by rw[gH,(Zj0 (SortsOk.subsIn hs.Ψ)).1]
def ZEI(hs:SortsOk s)(k:Int):aI e0 162 [.agg (wR s),GT k] [GW (decide (0<=k/\k<s.O.length))]:=by
 have hl:(nR (up s)).length=s.O.length:=by rw[gH,(rA (SortsOk.subsIn hs.Ψ)).1]
 rw[wR];refine gI 23 Tryz.func162 ?_;by_cases h0:0<=k
 ·by_cases h1:k<s.O.length
  ·exact fT (aj3 @h0 @hl @h1)
  ·exact fT (aj3 @h0 @hl @h1)
 ·exact fT @h0
def ZCj{l:List Int}{p:Int->Prop}{j:Nat}{c:Int}(hc:l[j]?=some c)(h:∀(i:Nat)(c:Int),i<j->l[i]?=some c->p c)(hp:p c):∀(i:Nat)(c:Int),i<j+1->l[i]?=some c->p c:=λi c' hi hc'=>by
 by_cases qW:i=j
 ·subst qW;rw[hc]at hc';injection hc' with hc';subst hc';exact hp
 ·exact h i c' om hc'
def ZoF{f d:Dcl}{i:Nat}{a:Int}(ha:d.Y[i]?=some a)(hall:∀(i':Nat)a,i' < i->d.Y[i']?=some a->(0<=a/\a<s.O.length)/\∀b,f.Y[i']?=some b->kd s a=kd s b)(h1:0<=a/\a<s.O.length)(h2:∀b,f.Y[i]?=some b->kd s a=kd s b) :
  ∀(i':Nat)a,i' < i+1->d.Y[i']?=some a->(0<=a/\a<s.O.length)/\∀b,f.Y[i']?=some b->kd s a=kd s b:=λi' a' h eU=>by
 by_cases e:i'=i
 ·subst e;rw[ha]at eU;injection eU with eU
  subst eU;exact⟨h1,h2⟩
 ·exact hall i' a' om eU
def ZqI{f d:Dcl}(h1:d.Y.length=f.Y.length)(h2:0<=d.Β/\d.Β<s.O.length)(h3:kd s d.Β=kd s f.Β)(hall:∀(i':Nat)a,i' < d.Y.length->d.Y[i']?=some a->(0<=a/\a<s.O.length)/\∀b,f.Y[i']?=some b->kd s a=kd s b):DeclOk s f d :=
 ⟨h1,h2,λk hk=>by obtain⟨i,hi⟩:=Tbl hk;exact(hall i k (Tad.1 hi).1 hi).1,h3,λi a b ha hb=>(hall i a (Tad.1 ha).1 ha).2 b hb⟩
def ZoG{l:List Dcl}{P:Dcl->Prop}{j:Nat}{d:Dcl}(hd:l[j]?=some d)(hall:∀(j':Nat)d,j' < j->l[j']?=some d->P d)(h:P d):∀(j':Nat)d,j' < j+1->l[j']?=some d->P d:=λj' d' hj dG=>by
 by_cases e:j'=j
 ·subst e;rw[hd]at dG;injection dG with dG
  subst dG;exact h
 ·exact hall j' d' om dG
def ZrF(hs:SortsOk s)(o:Opr):aI e0 106 [.agg (wR s),.agg (nH o)] [GW (sV s o)]:=by
 have bT:¬DeclsOk s o->sV s o=false:=ZkO;have cH:=ZEI hs;have rK:=iS (l:=kinds s);rw[wR]at cH⊢;rw[nH];refine gI 83076759175850041743779962279694015 Tryz.func106 ?_;by_cases h1:1<=o.Z.length;rotate_left
 ·exact m249
 have z1:=lF o.Z.length 1;by_cases h4:o.Z.length<=4;rotate_left
 ·exact m233
 have z2:=lF 4 o.Z.length;obtain⟨f,oD⟩:∃f,o.Z[0]?=some f:=⟨_,Taa om⟩;have hfm:=Tac oD;by_cases h3:f.Y.length<=3;rotate_left
 ·exact m180
 refine eH (aj5 @z1 @z2 @oD @jD (lF 3 f.Y.length)) @aJ (cH f.Β) ?_;by_cases hr:0<=f.Β/\f.Β<(s.O.length:Int);rotate_left
 ·have hf:=bT λh=>hr (h.all f oD f hfm).Β;have y1:decide (0<=f.Β/\f.Β<(s.O.length:Int))=false:=decide_eq_false hr;exact dM @y1 @hf
 have y1:decide (0<=f.Β/\f.Β<(s.O.length:Int)):=decide_eq_true hr;have gr:=uv hs hr;have ir:=hr.1;refine ec @y1 @aJ ?_;have F:=@aJ;refine gL (ι:=Nat) [4,7,43,44,50] [] (λi=>[(43,GU i)]) (λi=>[]) (λi=>i<=f.Y.length/\∀(i':Nat)k,i' < i->f.Y[i']?=some k->0<=k/\k<s.O.length) (λi=>f.Y.length-i) (0) (⟨Taj _,λi' k h=>absurd h om⟩) (λi hi=>?_)
 obtain⟨e7,yQ⟩:=hi;by_cases am:i<f.Y.length
 ·have q1:(i:Int)<f.Y.length:=om;obtain⟨k,hk⟩:∃k,f.Y[i]?=some k:=⟨_,Taa am⟩;have hw:=bW (k:=i) om;refine eH (aj3 @q1 @hk @iM) @aJ (cH k) ?_;by_cases ny:0<=k/\k<(s.O.length:Int);rotate_left
  ·have hf:=bT λh=>ny ((h.all f oD f hfm).Y k (Tac hk));have y2:decide (0<=k/\k<(s.O.length:Int))=false:=decide_eq_false ny;exact dM @y2 @hf
  have y2:decide (0<=k/\k<(s.O.length:Int)):=decide_eq_true ny;have hq:i+1<=f.Y.length/\_:=⟨am,ZCj hk yQ ny⟩;refine fR @y2 ?_;have F:=@hw;exact AK
 obtain rfl:i=f.Y.length:=by omega
 refine fG (om:¬((f.Y.length:Int)<f.Y.length)) ?_;have F:=@aJ;refine gL (ι:=Nat) [4,9,10,11,55,56,87,89,90,91,92,116] [] (λj=>[(55,GU j)]) (λj=>[]) (λj=>j<=o.Z.length/\∀(j':Nat)d,j' < j->o.Z[j']?=some d->DeclOk s f d) (λj=>o.Z.length-j) (0) (⟨Taj _,λj' d h=>absurd h om⟩) (λj hj=>?_);obtain⟨lJ,rO⟩:=hj;by_cases pj:j<o.Z.length
 rotate_left
 ·have ht:=Zgj (s:=s) (o:=o) ⟨h1,h4,λf' h=>by rw[oD]at h;injection h with h;subst h;exact h3,λf' h d hd=>by
   rw[oD]at h;injection h with h;subst h
   obtain⟨j',mQ⟩:=Tbl hd;exact rO j' d (by have:=(Tad.1 mQ).1;omega) mQ⟩
  exact fT (ai (om:¬((j:Int)<o.Z.length)) @ht)
 refine m234 λq2 d hd pP qE=>?_;have dv:¬DeclOk s f d->sV s o=false:=λh=>bT λhD=>h (hD.all f oD d pP);by_cases jX:d.Y.length=f.Y.length;rotate_left
 ·exact m141
 have y3:((d.Y.length:Int)=f.Y.length)=True:=eq_true om;refine eH (aj3 @q2 @hd @jD) @y3 (cH d.Β) ?_;by_cases ev:0<=d.Β/\d.Β<(s.O.length:Int);rotate_left
 ·have hf:=dv λh=>ev h.Β;have y4:decide (0<=d.Β/\d.Β<(s.O.length:Int))=false:=decide_eq_false ev;exact dM (ai @y3 @y4) @hf
 have y4:decide (0<=d.Β/\d.Β<(s.O.length:Int)):=decide_eq_true ev;have gd:=uv hs ev;have id':=ev.1;have jd:=ev.2;by_cases ny:kd s d.Β=kd s f.Β;rotate_left
 ·have hf:=dv λh=>ny h.kres;exact dM (aj9 @y3 @y4 @gr @gd @ir @id' @jd @rK (eq_false om:((kd s d.Β:Int)=(kd s f.Β:Int))=False)) @hf
 refine ec (aj9 @y3 @y4 @gr @gd @ir @id' @jd @rK (eq_true om:((kd s d.Β:Int)=(kd s f.Β:Int))=True)) @aJ ?_;have F:=@aJ;refine gL (ι:=Nat) [4,10,11,91,92,116] [] (λi=>[(91,GU i)]) (λi=>[]) (λi=>i<=d.Y.length/\∀(i':Nat)a,i' < i->d.Y[i']?=some a->(0<=a/\a<s.O.length)/\∀b,f.Y[i']?=some b->kd s a=kd s b) (λi=>d.Y.length-i) (0) (⟨Taj _,λi' a h=>absurd h om⟩) (λi hi=>?_)
 obtain⟨hil2,tF⟩:=hi;by_cases am:i<d.Y.length;rotate_left
 ·obtain rfl:i=d.Y.length:=by omega
  have hq:j+1<=o.Z.length/\_:=⟨pj,ZoG hd rO (ZqI jX ev ny tF)⟩;have F:=ai (om:¬((d.Y.length:Int)<d.Y.length)) @qE;refine gG ?_;exact⟨j+1,hq,gw,gw,om⟩
 refine m156 λq3 a ha b hb hw=>?_;have nn:=yQ i b om hb;have gb:=uv hs nn;have ib:=nn.1;refine eH (aj3 @q3 @ha @iM) @aJ (cH a) ?_;by_cases qS:0<=a/\a<(s.O.length:Int);rotate_left
 ·have hf:=dv λh=>qS (h.Y a (Tac ha));have y6:decide (0<=a/\a<(s.O.length:Int))=false:=decide_eq_false qS;exact dM @y6 @hf
 have y6:decide (0<=a/\a<(s.O.length:Int)):=decide_eq_true qS;have ga:=uv hs qS;have ia:=qS.1;have ja:=qS.2;by_cases fv:kd s a=kd s b;rotate_left
 ·have hf:=dv λh=>fv (h.kargs i a b ha hb);exact dM (aj10 @y6 @ga @gb @ia @ja @ib @hb @iM @rK (eq_false om:((kd s a:Int)=(kd s b:Int))=False)) @hf
 refine m236 λhq=>?_;refine fR (aj10 @y6 @ga @gb @ia @ja @ib @hb @iM @rK (eq_true om:((kd s a:Int)=(kd s b:Int))=True)) ?_;have F:=@hw;exact AK
def Zvc{g:Sgn}(hs:SortsOk g.V)(o:Opr):aI e0 91 [.agg (ck g),.agg (nH o)] [GW (sV g.V o)]:=by
 have bT:¬DeclsOk g.V o->sV g.V o=false:=ZkO;have cK:=ZfB hs;rw[show(mr (kinds g.V)).map ij=nR (kinds g.V)from rfl]at cK;have rK:=iS (l:=kinds g.V);have lK:=ZIw hs;have n1:=hs.n1;have n8:=hs.n8;have xJ:IntKind.i64.wrap ((g.V.O.length:Int)-1)=(g.V.O.length:Int)-1:=IntWalk.i64_in _ om;rw[gt]at cK;rw[ck,nH];refine gI 1298708039934125393111688421573631 Tryz.func91 ?_
 by_cases h1:1<=o.Z.length;rotate_left
 ·exact m249
 have z1:=lF o.Z.length 1;by_cases h4:o.Z.length<=4;rotate_left
 ·exact m233
 have z2:=lF 4 o.Z.length;obtain⟨f,oD⟩:∃f,o.Z[0]?=some f:=⟨_,Taa om⟩;have hfm:=Tac oD;by_cases h3:f.Y.length<=3;rotate_left
 ·exact m180
 refine eH (aj5 @z1 @z2 @oD @jD (lF 3 f.Y.length)) @aJ (cK) ?_;refine ec @aJ (ai @oD @jD) ?_;have F:=@aJ;refine gL (ι:=Nat) [4,7,8,9,40,63,68,99,110] [] (λj=>[(7,GU j)]) (λj=>[]) (λj=>j<=o.Z.length/\∀(j':Nat)d,j' < j->o.Z[j']?=some d->DeclOk g.V f d) (λj=>o.Z.length-j) (0) (⟨Taj _,λj' d h=>absurd h om⟩) (λj hj=>?_)
 obtain⟨lJ,rO⟩:=hj;by_cases pj:j<o.Z.length;rotate_left
 ·have ht:=Zgj (s:=g.V) (o:=o) ⟨h1,h4,λf' h=>by rw[oD]at h;injection h with h;subst h;exact h3,λf' h d hd=>by
   rw[oD]at h;injection h with h;subst h
   obtain⟨j',mQ⟩:=Tbl hd;exact rO j' d (by have:=(Tad.1 mQ).1;omega) mQ⟩
  exact fT (ai (om:¬((j:Int)<o.Z.length)) @ht)
 refine m234 λq2 d hd pP qE=>?_;have dv:¬DeclOk g.V f d->sV g.V o=false:=λh=>bT λhD=>h (hD.all f oD d pP);have hj0:d=f\/DeclOk g.V f f:=by
  rcases Nat.eq_zero_or_pos j with h|h
  ·subst h;rw[oD]at hd;injection hd with hd;exact .inl hd.symm
  ·exact .inr (rO 0 f h oD)
 by_cases jX:d.Y.length=f.Y.length;rotate_left
 ·exact m141
 have y3:((d.Y.length:Int)=f.Y.length)=True:=eq_true om;refine eH (aj3 @q2 @hd @jD) (aj3 @y3 @lK @xJ) (zr d.Β 0 ((g.V.O.length:Int)-1)) ?_;by_cases ev:0<=d.Β/\d.Β<(g.V.O.length:Int);rotate_left
 ·have hf:=dv λh=>ev h.Β;have y4:decide (0<=d.Β/\d.Β<=(g.V.O.length:Int)-1)=false:=decide_eq_false om;exact dM (ai @y3 @y4) @hf
 have y4:decide (0<=d.Β/\d.Β<=(g.V.O.length:Int)-1):=decide_eq_true om;have gd:=uv hs ev;have id':=ev.1;have nO:0<=f.Β/\f.Β<(g.V.O.length:Int):=by
  rcases hj0 with h|h
  ·rw[<- h];exact ev
  ·exact h.Β
 have gr:=uv hs nO;have ir:=nO.1;refine ec (ai @y3 @y4) @aJ ?_;have F:=@aJ;refine gL (ι:=Nat) [4,9,68,99] [] (λi=>[(9,GU i)]) (λi=>[]) (λi=>i<=d.Y.length/\∀(i':Nat)a,i' < i->d.Y[i']?=some a->(0<=a/\a<g.V.O.length)/\∀b,f.Y[i']?=some b->kd g.V a=kd g.V b) (λi=>d.Y.length-i) (0) (⟨Taj _,λi' a h=>absurd h om⟩) (λi hi=>?_)
 obtain⟨hil2,tF⟩:=hi;by_cases am:i<d.Y.length;rotate_left
 ·obtain rfl:i=d.Y.length:=by omega
  have q3:¬((d.Y.length:Int)<d.Y.length):=om;by_cases ny:kd g.V d.Β=kd g.V f.Β;rotate_left
  ·have hf:=dv λh=>ny h.kres;exact fT (aj8 @q3 @gr @gd @ir @id' @rK (eq_false om:((kd g.V d.Β:Int)=(kd g.V f.Β:Int))=False) @hf)
  have hq:j+1<=o.Z.length/\_:=⟨pj,ZoG hd rO (ZqI jX ev ny tF)⟩;have F:=aj8 @q3 @gr @gd @ir @id' @rK (eq_true om:((kd g.V d.Β:Int)=(kd g.V f.Β:Int))=True) @qE;refine gG ?_;exact⟨j+1,hq,gw,gw,om⟩
 refine m156 λq3 a ha b hb hw=>?_;refine eH @q3 (aj4 @ha @iM @lK @xJ) (zr a 0 ((g.V.O.length:Int)-1)) ?_;by_cases qS:0<=a/\a<(g.V.O.length:Int);rotate_left
 ·have hf:=dv λh=>qS (h.Y a (Tac ha));have y6:decide (0<=a/\a<=(g.V.O.length:Int)-1)=false:=decide_eq_false om;exact dM @y6 @hf
 have y6:decide (0<=a/\a<=(g.V.O.length:Int)-1):=decide_eq_true om;have y8:(a<=(g.V.O.length:Int)-1)=True:=eq_true om;have ga:=uv hs qS;have ia:=qS.1;have nn:0<=b/\b<(g.V.O.length:Int):=by
  rcases hj0 with h|h
  ·rw[<- h,ha]at hb;injection hb with hb;rw[<- hb];exact qS
  ·exact h.Y b (Tac hb)
 have gb:=uv hs nn;have ib:=nn.1;by_cases fv:kd g.V a=kd g.V b;rotate_left
 ·have hf:=dv λh=>fv (h.kargs i a b ha hb);exact dM (aj11 @y6 @y8 @ga @gb @ia @ib @ha @hb @iM @rK (eq_false om:((kd g.V a:Int)=(kd g.V b:Int))=False)) @hf
 refine m236 λhq=>?_;refine fR (aj11 @y6 @y8 @ga @gb @ia @ib @ha @hb @iM @rK (eq_true om:((kd g.V a:Int)=(kd g.V b:Int))=True)) ?_;have F:=@hw;exact AK
end
end Go.Proofs.YtaenibhihgfehaaGreatDoor
