/-
  Part of a proof.
-/
import Derived.Test.YtjoaefnnnbpflaaBJoinChainsSaid0
import Derived.Test.YtjoaefnnnbpflaaChecked
import Derived.Test.YtjoaefnnnbpflaaRows
import Derived.MapKept
import Derived.ChangeMaps5
import Derived.Laws.StructEq
import Derived.Lib.Bytealg
import Derived.Deep.RegionHeld3
import Derived.Deep.QuietTactic
import Derived.BigQuiet
import Derived.Lib.LazyBuf
set_option linter.unusedSimpArgs false
set_option linter.unusedVariables false
set_option maxHeartbeats 400000000
set_option maxRecDepth 100000
namespace Go.Proofs.Ytjoaefnnnbpflaa
open Go.RowKit
section
variable {e:Env} {U:Nat->Prop} {w0:World} {S0:Nat->Prop} {nt:Nat}
theorem SimE.drew {σ:St} {a:Act} {w:World} (he:e.Ok) (h:SimE e U w0 S0 nt σ a w):SimE e U w0 S0 nt σ a { w with drawn:=w.drawn+1 }:=by
 obtain ⟨S,L,h⟩:=h;have hk:Kept e.D e.E w.heap.size w { w with drawn:=w.drawn+1 }:=⟨rfl,rfl,rfl,fun _=>Nat.le_succ _,Tai _,fun _ _ _=>rfl⟩;exact ⟨S,L,h.later (h.cls.later hk (he.keep w _ (Tai _) (fun _ _=>rfl) h.cls.g) (fun _ h=>h) (fun _ h=>.inl h)) hk (fun _ h=>h)⟩
theorem Zf2 (he:e.Ok) {id:Nat} {ops:Array Oper} {n:Nat} (hB:regB ops n=true) (hna:∀ o,(ops.toList.take n).getLast?=some o->isAl o=false) {K:St->Prop} {Q:Exit->Act->World->Prop} (hQ:∀ a w σ',K σ'->SimE e U w0 S0 nt σ' a w->Q .normal a w) {σ:St} {a:Act} {w:World}
  (hd:∀ o∈ops.toList,∀ d,o.dst=some d->d < nt) (h:SimE e U w0 S0 nt σ a w) (hp:Runs e (ops.toList.map (·.dst)) n ops.toList σ K):(Code.region id ops true).wp e.P Q a w:=by
 simp only [regB,Tar,Bool.or_eq_true,decide_eq_true_eq] at hB;obtain ⟨⟨⟨hH,hn⟩,hs⟩,hsq⟩:=hB;obtain ⟨S,L,h1⟩:=h.drew he;refine wp_region_any he.mixed ?_;have hsplit:ops.toList=ops.toList.take n++ops.toList.drop n:=(List.take_append_drop n _).symm;have hlen:(ops.toList.take n).length=n:=by simp;omega
 have hp':Runs e (ops.toList.map (·.dst)) ((ops.toList.take n).length+0) (ops.toList.take n++ops.toList.drop n) σ K:=by rw [<- hsplit,hlen];exact hp
 obtain ⟨αs,hal,hch,hrest⟩:=ZdN (U:=U) he w0.heap.size S0 ops.toList (ops.toList.drop n) 0 (ops.toList.take n) σ (fun _=>hna) hp';rw [hlen] at hal
 have inv0:InvA e U w0 S0 nt σ.m ops n σ.s αs L (Array.replicate ops.size false) a { w with drawn:=w.drawn+1 } S :=
  ⟨⟨by simp,fun j oj _ hl=>(by rw [getD_replicate_false] at hl;cases hl),fun t _ ht=>getD_in (by simpa using ht) (getD_replicate_false _ _)⟩,h1.size,h1.defers,h1.cls,h1.kept,fun t _=>h1.rel t,fun i o d α _ hl=>(by rw [getD_replicate_false] at hl;cases hl)⟩
 have H:=Zc2 (e:=e) (L:=L) (Q:=Q) he hH hn (fun hlt=>by
   rcases hs with hs | hs
   ·omega
   ·exact hs) hsq (fun i o d hi ho hdd=>hd o (List.mem_iff_getElem?.2 ⟨i,by simpa using ho⟩) d hdd) hal hch (Zf1 hH Q) (fun _ _ _ _ _ _ _ _ _ _ _ _ _ _=>trivial) (fun listed a' w' S' hI _ hall=>?_) n _ a _ S inv0 trivial ?_
 ·rw [show n+(ops.size - n)=ops.size by omega] at H;exact H
 ·have hsim:SimE e U w0 S0 nt ⟨after σ.s (ops.toList.take n) αs,σ.m⟩ a' w':=by
   refine ⟨S',L,hI.cls,fun t=>?_,hI.size,hI.defers,hI.kept⟩;by_cases hex:∃ (j:Nat) (p:Oper),j < n∧ops[j]?=some p∧p.dst=some t
   ·obtain ⟨j,p,hj,hp,hpt⟩:=hex;obtain ⟨p',d',hP⟩:=ZbJ.get hH hj;have hpp:p'=p:=by have:=hP.op;rw [hp] at this;injection this with this;exact this.symm
    subst hpp;have hdt:d'=t:=by have:=hP.dst;rw [hpt] at this;injection this with this;exact this.symm
    subst hdt;obtain ⟨α,hα⟩:∃ α,αs[j]?=some α:=⟨αs[j],Taa om⟩;show ARel w' S' L (gs (after σ.s (ops.toList.take n) αs) d') _;rw [Zc1 (ops.toList.take n) αs σ.s j p' α (by rw [List.getElem?_take,if_pos hj];simpa using hp) hα hpt (fun k q hk hq=>by
     rw [List.getElem?_take] at hq;split at hq
     ·exact (hP.dep k q om (by simpa using hq)).1 hk
     ·cases hq)]
    exact hI.done j p' d' α hj (hall j hj) hp hpt hα
   ·have hno:∀ (j:Nat) (p:Oper),j < n->ops[j]?=some p->p.dst≠some t:=fun j p hj hp hd=>hex ⟨j,p,hj,hp,hd⟩;show ARel w' S' L (gs (after σ.s (ops.toList.take n) αs) t) _;rw [Zch _ _ _ (fun p hp=>by
     obtain ⟨j,hj⟩:=List.mem_iff_getElem?.1 hp;rw [List.getElem?_take] at hj;split at hj
     ·exact hno j p om (by simpa using hj)
     ·cases hj)]
    exact hI.out t hno
  have:=Zj0 he ops.toList hQ (ops.toList.drop n) _ a' w' (fun o ho=>hd o (List.mem_of_mem_drop ho)) hsim hrest;simpa using this
 ·rw [List.countP_eq_length.2]
  ·simp
  ·intro i hi;have hi':=List.mem_range.1 hi;have hsz:i < (Array.replicate ops.size false).size:=by simp;omega
   rw [Zbq hsz,getD_replicate_false];rfl
theorem ZiM (mask t:Nat):∀ (s:List (Nat × A)),gs (Zcn mask s) t=gs s t∨gs (Zcn mask s) t=.undef
 | []=>.inl rfl
 | (k,a)::r=>by
  have key:∀ (s:List (Nat × A)),mask.testBit t=false->gs (Zcn mask s) t=.undef:=by
   intro s ht
   induction s with
   | nil=>rfl
   | cons p s ih =>
    obtain ⟨k,a⟩:=p;simp only [Zcn];split
    ·rename_i hk;have:t≠k:=fun e=>by rw [e,hk] at ht;cases ht
     simp only [gs,this,if_false];exact ih
    ·exact ih
  cases ht:mask.testBit t with
  | false=>exact .inr (key _ ht)
  | true =>
   left;have key2:∀ (s:List (Nat × A)),gs (Zcn mask s) t=gs s t:=by
    intro s
    induction s with
    | nil=>rfl
    | cons p s ih =>
     obtain ⟨k,a⟩:=p;simp only [Zcn];split
     ·simp only [gs,ih]
     ·rename_i hk;have:t≠k:=fun e=>hk (by rw [<- e];exact ht);simp only [gs,this,if_false];exact ih
   exact key2 _
theorem Zgn {s:List (Nat × A)} {t:Nat}:∀ {r:List (Nat × A)},ZbX s r->gs r t=gs s t∨gs r t=.undef
 | [],_=>.inr rfl
 | (k,a)::r,h=>by
  simp only [ZbX] at h;simp only [gs];split
  ·rename_i e;rw [e];exact .inl h.1.symm
  ·exact Zgn h.2
theorem Zgo {m:List (Nat × Bk)} {t:Nat}:∀ {r:List (Nat × Bk)} {cs:Bk},ZbY m r->gm r t=some cs->gm m t=some cs
 | [],_,_,h=>by simp [gm] at h
 | (k,a)::r,cs,h,hg=>by
  simp only [ZbY] at h;simp only [gm] at hg;split at hg
  ·rename_i e;rw [e,h.1];exact hg
  ·exact Zgo h.2 hg
theorem SimE.weak {σ σ':St} {a:Act} {w:World} (h:SimE e U w0 S0 nt σ a w) (hs:∀ t,gs σ'.s t=gs σ.s t∨gs σ'.s t=.undef) (hm:∀ t cs,gm σ'.m t=some cs->gm σ.m t=some cs):SimE e U w0 S0 nt σ' a w:=by
 obtain ⟨S,L,h⟩:=h;refine ⟨S,L,⟨h.cls.sin,h.cls.sfr,h.cls.ein,h.cls.uin,h.cls.bsz,fun k x g hk=>h.cls.mine k x g (hm k x hk),fun k x hk=>h.cls.own k x (hm k x hk),fun k k' x x' g h1 h2=>h.cls.inj k k' x x' g (hm _ _ h1) (hm _ _ h2),h.cls.g⟩,fun t=>?_,h.size,h.defers,h.kept⟩;rcases hs t with h1 | h1
 ·rw [h1];exact h.rel t
 ·rw [h1];trivial
theorem ZjB {m:List (Nat × Bk)} {base:Nat} {ρ:Operand->A} {o:Oper} {t:TypeId} {v:Value} {i:TypeInfo} (he:e.Ok) (ho:o.op=.alloc t) (hi:e.P.info? t=some i) (hv:i.zero=some v):Za0 e U base S0 m o ρ .undef:=by
 intro w S L ρv hC hr;have hb:Below w.heap.size w (w.alloc (.cells v.cells t)):=Zdw w _;unfold gives;have hrun:(execOp ρv o).run e.P w=.ok (.value (.pointer (some ⟨w.heap.size,0,none⟩))) (w.alloc (.cells v.cells t)):=by
  simp [execOp,ho,Instr.alloc,zeroValue,typeInfo,hi,hv,newVar,newRow,Result.andThen]
 rw [hrun];have hk:Kept e.D e.E w.heap.size w (w.alloc (.cells v.cells t)):=Kept.of_below hb (fun _=>Tai _);exact ⟨S,⟨fun _ h=>h,fun _ h=>.inl h⟩,hC.later hk (he.keep _ _ hb.size (fun b hE=>hb.block b (Tba (hC.ein b hE) hC.bsz)) hC.g) (fun _ h=>h) (fun _ h=>.inl h),hk,trivial⟩
def Ziq (e:Env) (base p d:Nat) (m:List (Nat × Bk)) (L:Lay) (t:TypeId) (v:Value) (listed:Array Bool) (a:Act) (w:World) (S:Nat->Prop):Prop :=
 listed.getD p false=true->∃ b,a.tmps.getD d undef=.pointer (some ⟨b,0,none⟩)∧base<=b∧b < w.heap.size∧¬ S b∧(∀ k bk,gm m k=some bk->¬ ZaF L k bk b)∧w.heap[b]?=some (.cells v.cells t)
theorem Cls.blk_lt {m:List (Nat × Bk)} {base:Nat} {w:World} {S:Nat->Prop} {L:Lay} (h:Cls e U base S0 m w S L) {k:Nat} {bk:Bk} {g:Nat} (hk:gm m k=some bk) (hg:ZaF L k bk g):g < w.heap.size:=by
 have ho:=h.own k bk hk;exact (Own1.lt ho hg).1
theorem Zd2 (he:e.Ok) {ops:Array Oper} {p:Nat} (hAl:Zc9 ops p=true) (hB:regB ops (p+1)=true) {K:St->Prop} {Q:Exit->Act->World->Prop} (hQ:∀ a w σ',K σ'->SimE e U w0 S0 nt σ' a w->Q .normal a w) {σ:St} {a:Act} {w:World}
  (hd:∀ o∈ops.toList,∀ d,o.dst=some d->d < nt) (h:SimE e U w0 S0 nt σ a w) (hp:Runs e (ops.toList.map (·.dst)) (p+1) ops.toList σ K):wpAny e.P .any ops Q ops.size (Array.replicate ops.size false) a w:=by
 simp only [regB,Tar,Bool.or_eq_true,decide_eq_true_eq] at hB;obtain ⟨⟨⟨hH,hn⟩,hs⟩,hsq⟩:=hB;unfold Zc9 at hAl;split at hAl;rotate_left
 ·cases hAl
 rename_i o0 hop;unfold isAl at hAl;split at hAl;rotate_left
 ·cases hAl
 rename_i d t ty pos af;obtain ⟨S,L,h1⟩:=h;have hsplit:ops.toList=ops.toList.take p++ops.toList.drop p:=(List.take_append_drop p _).symm;have hlen:(ops.toList.take p).length=p:=by simp;omega
 have hp':Runs e (ops.toList.map (·.dst)) ((ops.toList.take p).length+1) (ops.toList.take p++ops.toList.drop p) σ K:=by rw [<- hsplit,hlen];exact hp
 obtain ⟨αs0,hal0,hch0,hrest0⟩:=ZdN (U:=U) he w0.heap.size S0 ops.toList (ops.toList.drop p) 1 (ops.toList.take p) σ (fun h=>absurd h (by decide)) hp';rw [hlen] at hal0;have hpl:ops.toList[p]?=some ⟨some d,.alloc t,ty,pos,af,none⟩:=by simpa using hop
 have hdrop:ops.toList.drop p=⟨some d,.alloc t,ty,pos,af,none⟩::ops.toList.drop (p+1):=by
  rw [List.drop_eq_getElem_cons (Tad.1 hpl).1,(Tad.1 hpl).2]
 have htake:ops.toList.take (p+1)=ops.toList.take p++[⟨some d,.alloc t,ty,pos,af,none⟩]:=ZhD hpl;rw [hdrop] at hrest0;simp only [Runs,isAl,and_self,if_true] at hrest0;obtain ⟨d0,t0,cs,hd0,ht0,hz,hrest⟩:=hrest0;injection hd0 with hd0
 subst hd0;injection ht0 with ht0
 subst ht0;unfold ZaO at hz;simp only [Tav,Option.bind_eq_some_iff] at hz;obtain ⟨v,⟨i,hi,hv⟩,hcs⟩:=hz;have hG:=fun (ρ:Operand->A)=>ZjB (U:=U) (S0:=S0) (m:=σ.m) (base:=w0.heap.size) (ρ:=ρ) (o:=⟨some d,.alloc t,ty,pos,af,none⟩) he rfl hi hv;have hal:(αs0++[A.undef]).length=p+1:=by simp [hal0]
 have chain_snoc:∀ (os:List Oper) (s:List (Nat × A)) (αs:List A),ZcR e U w0.heap.size S0 σ.m ops.toList os s αs->ZcR e U w0.heap.size S0 σ.m ops.toList (os++[⟨some d,.alloc t,ty,pos,af,none⟩]) s (αs++[A.undef]):=by
  intro os
  induction os with
  | nil =>
   intro s αs hc
   cases αs with
   | nil=>exact ⟨hG _,trivial⟩
   | cons x xs=>simp [ZcR] at hc
  | cons o os ih =>
   intro s αs hc
   cases αs with
   | nil=>simp [ZcR] at hc
   | cons x xs=>exact ⟨hc.1,ih _ _ hc.2⟩
 have after_snoc:∀ (os:List Oper) (s:List (Nat × A)) (αs:List A),αs.length=os.length->after s (os++[⟨some d,.alloc t,ty,pos,af,none⟩]) (αs++[A.undef])=(d,A.undef)::after s os αs:=by
  intro os
  induction os with
  | nil =>
   intro s αs hl
   cases αs with
   | nil=>rfl
   | cons x xs=>simp at hl
  | cons o os ih =>
   intro s αs hl
   cases αs with
   | nil=>simp at hl
   | cons x xs=>exact ih _ _ (by simpa using hl)
 have hch:ZcR e U w0.heap.size S0 σ.m ops.toList (ops.toList.take (p+1)) σ.s (αs0++[A.undef]):=by rw [htake];exact chain_snoc _ _ _ hch0
 have haf:after σ.s (ops.toList.take (p+1)) (αs0++[A.undef])=(d,A.undef)::after σ.s (ops.toList.take p) αs0:=by rw [htake];exact after_snoc _ _ _ (by rw [hal0,hlen])
 have inv0:InvA e U w0 S0 nt σ.m ops (p+1) σ.s (αs0++[A.undef]) L (Array.replicate ops.size false) a w S :=
  ⟨⟨by simp,fun j oj _ hl=>(by rw [getD_replicate_false] at hl;cases hl),fun t _ ht=>getD_in (by simpa using ht) (getD_replicate_false _ _)⟩,h1.size,h1.defers,h1.cls,h1.kept,fun t _=>h1.rel t,fun i o d α _ hl=>(by rw [getD_replicate_false] at hl;cases hl)⟩
 have hJ0:Ziq e w0.heap.size p d σ.m L t v (Array.replicate ops.size false) a w S:=fun hl=>by rw [getD_replicate_false] at hl;cases hl
 have hA0:∀ {i':Nat} {o':Oper} {d':Nat},HeadAt ops (p+1) i' o' d'->i'≠p->d'≠d:=fun hA hne e'=>by
  have:=(hA.dep p _ om hop).1 (Ne.symm hne);exact this (by rw [e'])
 have hgo:ZgK e U w0 S0 nt σ.m ops (p+1) σ.s (αs0++[A.undef]) L (Ziq e w0.heap.size p d σ.m L t v) Q:=by
  intro listed a w S i' o' d' α hI hJ hA hin hr hdn hα hopd hG';by_cases hip:i'=p
  ·subst hip;have ho':o'=⟨some d,.alloc t,ty,pos,af,none⟩:=by have:=hA.op;rw [hop] at this;injection this with this;exact this.symm
   subst ho';have hdd:d'=d:=by have:=hA.dst;injection this with this;exact this.symm
   subst hdd;have hau:α=A.undef:=by rw [Tbj om,hal0] at hα;simpa using hα.symm
   subst hau;unfold Oper.wp;have hrun:(execOp a.eval ⟨some d',.alloc t,ty,pos,af,none⟩).run e.P w=.ok (.value (.pointer (some ⟨w.heap.size,0,none⟩))) (w.alloc (.cells v.cells t)):=by
    simp [execOp,Instr.alloc,zeroValue,typeInfo,hi,hv,newVar,newRow,Result.andThen]
   have hb:Below w.heap.size w (w.alloc (.cells v.cells t)):=Zdw w _;have hk:Kept e.D e.E w.heap.size w (w.alloc (.cells v.cells t)):=Kept.of_below hb (fun _=>Tai _);have hC:=hI.cls;have hC':Cls e U w0.heap.size S0 σ.m (w.alloc (.cells v.cells t)) S L:=hC.later hk (he.keep _ _ hb.size (fun b hE=>hb.block b (Tba (hC.ein b hE) hC.bsz)) hC.g) (fun _ h=>h) (fun _ h=>.inl h);rw [hrun,Oper.upon_value];refine ⟨S,hI.put hH hA hin hr hdn hα (fun _ h=>h) hC' hk trivial,fun _=>⟨w.heap.size,?_,hC.bsz,by simp,fun hs=>by have:=(hC.sin _ hs).1;omega,fun k bk hk hg=>by have:=hC.blk_lt hk hg;omega,heap_alloc_new w _⟩⟩
   rw [Zco (by rw [hI.size];exact hdn)];simp
  ·refine ZeS (hG' w S L a.eval hI.cls hopd) fun v' w' ⟨S',hS,hC,hk,hv'⟩=>⟨S',hI.put hH hA hin hr hdn hα hS.1 hC hk hv',fun hl=>?_⟩;rw [getD_set_ne false hip] at hl;obtain ⟨b,q1,q2,q3,q4,q5,q6⟩:=hJ hl;refine ⟨b,?_,q2,Tba q3 hk.size,fun hs=>?_,q5,?_⟩
   ·rw [hA.dst,Zco (by rw [hI.size];exact hdn),if_neg (Ne.symm (hA0 hA hip))];exact q1
   ·rcases hS.2 b hs with hs | hs
    ·exact q4 hs
    ·omega
   ·rw [hk.block b q3 (fun hE=>by have:=hI.cls.ein b hE;omega)];exact q6
 have hskp:∀ (listed:Array Bool) (a:Act) (w:World) (S:Nat->Prop) (i':Nat) (o':Oper) (d':Nat),Ziq e w0.heap.size p d σ.m L t v listed a w S->InvA e U w0 S0 nt σ.m ops (p+1) σ.s (αs0++[A.undef]) L listed a w S->HeadAt ops (p+1) i' o' d'->i' < p+1->i'∈Region.ready .any ops listed->d' < nt->o'.guard≠none->Ziq e w0.heap.size p d σ.m L t v (listed.setIfInBounds i' true) (a.put o'.dst undef) w S:=by
  intro listed a w S i' o' d' hJ hI hA hin hr hdn hg hl;have hip:i'≠p:=fun e'=>by
   subst e';have:=hA.op;rw [hop] at this;injection this with this
   rw [<- this] at hg;exact hg rfl
  rw [getD_set_ne false hip] at hl;obtain ⟨b,q1,q2⟩:=hJ hl;refine ⟨b,?_,q2⟩;rw [hA.dst,Zco (by rw [hI.size];exact hdn),if_neg (Ne.symm (hA0 hA hip))];exact q1
 have H:=Zc2 (e:=e) (L:=L) (Q:=Q) he hH hn (fun hlt=>by
   rcases hs with hs | hs
   ·omega
   ·exact hs) hsq (fun i o d hi ho hdd=>hd o (List.mem_iff_getElem?.2 ⟨i,by simpa using ho⟩) d hdd) hal hch hgo hskp (fun listed a' w' S' hI hJ hall=>?_) (p+1) _ a _ S inv0 hJ0 ?_
 ·rw [show p+1+(ops.size - (p+1))=ops.size by omega] at H;exact H
 ·have hsim:Sim e U w0 S0 nt ⟨after σ.s (ops.toList.take (p+1)) (αs0++[A.undef]),σ.m⟩ a' w' S' L:=by
   refine ⟨hI.cls,fun t=>?_,hI.size,hI.defers,hI.kept⟩;by_cases hex:∃ (j:Nat) (p':Oper),j < p+1∧ops[j]?=some p'∧p'.dst=some t
   ·obtain ⟨j,p0,hj,hp,hpt⟩:=hex;obtain ⟨p',d',hP⟩:=ZbJ.get hH hj;have hpp:p'=p0:=by have:=hP.op;rw [hp] at this;injection this with this;exact this.symm
    subst hpp;have hdt:d'=t:=by have:=hP.dst;rw [hpt] at this;injection this with this;exact this.symm
    subst hdt;obtain ⟨α,hα⟩:∃ α,(αs0++[A.undef])[j]?=some α:=⟨(αs0++[A.undef])[j],Taa om⟩;show ARel w' S' L (gs (after σ.s (ops.toList.take (p+1)) (αs0++[A.undef])) d') _;rw [Zc1 (ops.toList.take (p+1)) (αs0++[A.undef]) σ.s j p' α (by rw [List.getElem?_take,if_pos hj];simpa using hp) hα hpt (fun k q hk hq=>by
     rw [List.getElem?_take] at hq;split at hq
     ·exact (hP.dep k q om (by simpa using hq)).1 hk
     ·cases hq)]
    exact hI.done j p' d' α hj (hall j hj) hp hpt hα
   ·have hno:∀ (j:Nat) (p':Oper),j < p+1->ops[j]?=some p'->p'.dst≠some t:=fun j p' hj hp hd=>hex ⟨j,p',hj,hp,hd⟩;show ARel w' S' L (gs (after σ.s (ops.toList.take (p+1)) (αs0++[A.undef])) t) _;rw [Zch _ _ _ (fun p' hp=>by
     obtain ⟨j,hj⟩:=List.mem_iff_getElem?.1 hp;rw [List.getElem?_take] at hj;split at hj
     ·exact hno j p' om (by simpa using hj)
     ·cases hj)]
    exact hI.out t hno
  rw [haf] at hsim;obtain ⟨b,q1,q2,q3,q4,q5,q6⟩:=hJ (hall p om);have hdn:d < nt:=hd _ (List.mem_iff_getElem?.2 ⟨p,hpl⟩) d rfl;have hrv:=ZbH (w:=w') (S:=S') v.cells.toList;rw [hcs] at hrv
  have hsimB:=hsim.bornE (bk:=.var none cs) (w':=w') (b':=b) (v':=undef) (u:=a'.tmps.getD d undef) (τ:=some b) (s1:=(d,A.undef)::after σ.s (ops.toList.take p) αs0) (m1:=σ.m) (α:=.ref d 0) (S':=S') hdn (fun _ h=>h) (fun _ h=>.inl h) (fun t=>.inl rfl) (fun k x h=>h)
   (fun g hg=>by injection hg with hg;subst hg;exact ⟨q4,fun hE=>by have:=hI.cls.ein _ hE;omega,.inl q2⟩) (fun k x g hkd hx hg hb=>by injection hg with hg;subst hg;exact q5 k x hx hb)
   (Kept.refl _ _ _ _) hI.cls.g (by
    simp only [Own1,if_true];refine ⟨by simp,q3,q4,⟨v.cells,t,q6,by have:=hrv.len;simpa using this⟩,?_⟩;exact Zam.of_vals cs v.cells.toList 0 hrv (fun j u hj=>by
     rw [Nat.zero_add];have hj':v.cells[j]?=some u:=by simpa using hj
     simp [World.cell?,q6,hj']))
   (fun g hg=>by simp only [ZaF,if_true] at hg;exact .inl (by rw [hg])) (by simp [ARel,q1])
  have hsimD:SimE e U w0 S0 nt ⟨(d,.ref d 0)::Zau d ((d,A.undef)::after σ.s (ops.toList.take p) αs0),(d,.var none cs)::remM d σ.m⟩ a' w':=by
   obtain ⟨S2,L2,k1,k2,k3,k4,k5⟩:=hsimB;refine ⟨S2,L2,k1,fun t=>?_,hI.size,hI.defers,k5⟩;have:=k2 t;rw [Zco (by rw [hI.size];exact hdn)] at this;by_cases ht:t=d
   ·rw [if_pos ht] at this;rw [ht];rw [ht] at this;exact this
   ·rw [if_neg ht] at this;exact this
  have hsimC:SimE e U w0 S0 nt ⟨(d,.ref d 0)::Zau d (after σ.s (ops.toList.take p) αs0),(d,.var none cs)::remM d σ.m⟩ a' w':=SimE.weak hsimD (fun t=>.inl (by
   by_cases ht:t=d
   ·simp [gs,ht]
   ·simp [gs,ht,Zau])) (fun t x hx=>hx)
  have:=hrest he U w0 S0 nt a' w' ops.toList Q rfl (fun o ho=>hd o (List.mem_of_mem_drop ho)) hQ hsimC;simpa using this
 ·rw [List.countP_eq_length.2]
  ·simp
  ·intro i hi;have hi':=List.mem_range.1 hi;have hsz:i < (Array.replicate ops.size false).size:=by simp;omega
   rw [Zbq hsz,getD_replicate_false];rfl
theorem ZiN (he:e.Ok) {id:Nat} {ops:Array Oper} {p:Nat} (hAl:Zc9 ops p=true) (hB:regB ops (p+1)=true) {K:St->Prop} {Q:Exit->Act->World->Prop} (hQ:∀ a w σ',K σ'->SimE e U w0 S0 nt σ' a w->Q .normal a w) {σ:St} {a:Act} {w:World}
  (hd:∀ o∈ops.toList,∀ d,o.dst=some d->d < nt) (h:SimE e U w0 S0 nt σ a w) (hp:Runs e (ops.toList.map (·.dst)) (p+1) ops.toList σ K):(Code.region id ops true).wp e.P Q a w:=wp_region_any he.mixed (Zd2 he hAl hB hQ hd (h.drew he) hp)
theorem Zh9 {P:Program} {Q:Exit->Act->World->Prop} {c:Code} {ι:Type} (I:ι->Act->World->Prop) (μ:ι->Nat) (i0:ι) {a:Act} {w:World} (h₀:I i0 a w)
  (round:∀ i a w,I i a w->c.wp P (Exit.then (fun a' w'=>∃ j,I j a' w'∧μ j < μ i) Q) a w):(Code.loop c).wp P Q a w:=by
 intro b k cs
 have key:∀ n i a w,μ i=n->I i a w ->
   ∃ e a' w',Q e a' w'∧Arrives P (lone (b.at a (.code c::.inLoop c::k)) cs w) b k cs e a' w':=by
  intro n
  induction n using Nat.strongRecOn with
  | _ n ih =>
   intro i a w hn hI;obtain ⟨e,a₁,w₁,hq,harr⟩:=round i a w hI b (.inLoop c::k) cs
   cases e with
   | normal =>
    obtain ⟨j,hI₁,hlt⟩:=hq;obtain ⟨e₂,a₂,w₂,hq₂,harr₂⟩:=ih (μ j) (hn ▸ hlt) j a₁ w₁ rfl hI₁;exact ⟨e₂,a₂,w₂,hq₂,.of_steps (Steps.trans harr (.one step_inLoop)) harr₂⟩
   | exit id=>exact ⟨_,a₁,w₁,hq,.pass (x:=.inLoop c) rfl (fun _ _=>.inl (by simp)) harr⟩
   | goto l=>exact ⟨_,a₁,w₁,hq,.pass (x:=.inLoop c) rfl (fun _ _=>.inl (by simp)) harr⟩
   | ret=>exact ⟨_,a₁,w₁,hq,.pass (x:=.inLoop c) rfl (fun _ _=>.inl (by simp)) harr⟩
   | panic ch=>exact ⟨_,a₁,w₁,hq,.pass (x:=.inLoop c) rfl (fun _ _=>.inl (by simp)) harr⟩
   | outgrown=>exact ⟨_,a₁,w₁,hq,.pass (x:=.inLoop c) rfl (fun _ _=>.inl (by simp)) harr⟩
 obtain ⟨e,a',w',hq,harr⟩:=key _ i0 a w rfl h₀;exact ⟨e,a',w',hq,.of_steps (.one step_loop) harr⟩
def Zbz (nt:Nat):Code->Bool
 | .region _ ops _=>ops.toList.all (fun o=>o.dst.all (fun d=>decide (d < nt)))
 | .seq a b=>Zbz nt a && Zbz nt b
 | .cond _ a b=>Zbz nt a && Zbz nt b
 | .block _ c=>Zbz nt c
 | .loop c=>Zbz nt c
 | _=>true
def Then (e:Env) (U:Nat->Prop) (w0:World) (S0:Nat->Prop) (nt:Nat) (K:St->Prop) (a:Act) (w:World):Prop:=∃ σ,K σ∧SimE e U w0 S0 nt σ a w
def LQ (e:Env) (U:Nat->Prop) (w0:World) (S0:Nat->Prop) (nt:Nat) (Q:PX->St->Prop):Exit->Act->World->Prop
 | .normal,a,w=>Then e U w0 S0 nt (Q .normal) a w
 | .exit id,a,w=>Then e U w0 S0 nt (Q (.exit id)) a w
 | .ret,a,w=>Then e U w0 S0 nt (Q .ret) a w
 | _,_,_=>False
def pwp (e:Env) (mask:Nat) (c:Code) (σ:St) (Q:PX->St->Prop):Prop:=e.Ok->∀ (U:Nat->Prop) (w0:World) (S0:Nat->Prop) (nt:Nat) (a:Act) (w:World),Zbz nt c=true->SimE e U w0 S0 nt σ a w->c.wp e.P (LQ e U w0 S0 nt Q) a w
def Zc7 (mask:Nat) (Q:PX->St->Prop) (σ':St):Prop:=Q .normal ⟨Zcn mask σ'.s,σ'.m⟩
end
section
variable {e:Env} {mask:Nat} {σ:St} {Q:PX->St->Prop}
theorem LQ.mono {U:Nat->Prop} {w0:World} {S0:Nat->Prop} {nt:Nat} {Q Q':PX->St->Prop} (hQ:∀ p σ,Q p σ->Q' p σ) {ex:Exit} {a:Act} {w:World} (h:LQ e U w0 S0 nt Q ex a w):LQ e U w0 S0 nt Q' ex a w:=by
 cases ex with
 | normal=>exact h.elim fun σ h=>⟨σ,hQ _ _ h.1,h.2⟩
 | exit id=>exact h.elim fun σ h=>⟨σ,hQ _ _ h.1,h.2⟩
 | ret=>exact h.elim fun σ h=>⟨σ,hQ _ _ h.1,h.2⟩
 | goto l=>exact h
 | panic ch=>exact h
 | outgrown=>exact h
theorem Zda {P:St->Prop} {c:Code} (hT:Turn e σ P) (h:∀ σ',P σ'->pwp e mask c σ' Q):pwp e mask c σ Q:=fun he U w0 S0 nt a w hok hs=>by
 obtain ⟨σ',h1,h2⟩:=hT he U w0 S0 nt a w hs;exact h σ' h1 he U w0 S0 nt a w hok h2
theorem ZiO (h:Q .normal σ):pwp e mask .skip σ Q:=fun he U w0 S0 nt a w hok hs=>wp_skip ⟨σ,h,hs⟩
theorem ZiP {id:Nat} (h:Q (.exit id) σ):pwp e mask (.exit id) σ Q:=fun he U w0 S0 nt a w hok hs=>wp_exit ⟨σ,h,hs⟩
theorem ZfM (h:Q .ret σ):pwp e mask .ret σ Q:=fun he U w0 S0 nt a w hok hs=>wp_ret ⟨σ,h,hs⟩
theorem ZgL {id:Nat} {ops:Array Oper} {draw:Bool} (n:Nat) (hn:(if draw then regX ops n else decide (n=0))=true) (hp:Runs e (ops.toList.map (·.dst)) n ops.toList σ (Zc7 mask Q)):pwp e mask (.region id ops draw) σ Q:=fun he U w0 S0 nt a w hok hs=>by
 simp only [Zbz] at hok;have hd:∀ o∈ops.toList,∀ d,o.dst=some d->d < nt:=fun o ho d hd=>by
  have:=List.all_eq_true.1 hok o ho;rw [hd] at this;simpa using this
 have hQ:∀ a w σ',Zc7 mask Q σ'->SimE e U w0 S0 nt σ' a w->LQ e U w0 S0 nt Q .normal a w:=fun a w σ' h1 h2 =>
  ⟨_,h1,h2.weak (fun t=>ZiM mask t σ'.s) (fun _ _ h=>h)⟩
 cases draw with
 | false =>
  have hn:n=0:=by simpa using hn
  subst hn;refine wp_region_list ?_;have:=Zj0 he ops.toList hQ ops.toList _ a w hd hs hp;simpa using this
 | true =>
  have hn:regB ops n=true:=by simpa [regX] using hn
  cases n with
  | zero=>exact Zf2 he hn (by simp) hQ hd hs hp
  | succ p =>
   by_cases hA:Zc9 ops p=true
   ·exact ZiN he hA hn hQ hd hs hp
   ·refine Zf2 he hn (fun o ho=>?_) hQ hd hs hp;have hle:p+1<=ops.size:=by
     simp only [regB,Tar,decide_eq_true_eq] at hn;exact hn.1.1.2
    have hlt:p < ops.size:=om;have e:(ops.toList.take (p+1)).getLast?=ops[p]?:=by
     rw [List.getLast?_eq_getElem?];simp only [Taw,Array.length_toList,Nat.min_eq_left hle,Nat.add_sub_cancel];rw [List.getElem?_take,if_pos om];simp
    rw [e] at ho;unfold Zc9 at hA;rw [ho] at hA;simpa using hA
theorem ZiQ {a b:Code} (h:pwp e mask a σ (fun x σ'=>match x with
  | .normal=>∃ σ1,Wk σ' σ1∧pwp e mask b σ1 Q
  | x=>Q x σ')):pwp e mask (.seq a b) σ Q:=fun he U w0 S0 nt ac w hok hs=>by
 simp only [Zbz,Tar] at hok;refine wp_seq (wp_mono (h he U w0 S0 nt ac w hok.1 hs) fun ex a' w' hq=>?_)
 cases ex with
 | normal=>obtain ⟨σ',⟨σ1,hw,h1⟩,h2⟩:=hq;exact h1 he U w0 S0 nt a' w' hok.2 (h2.weak hw.1 hw.2)
 | exit id=>exact hq
 | ret=>exact hq
 | goto l=>exact hq
 | panic ch=>exact hq
 | outgrown=>exact hq
theorem ZiR {c:Operand} {a b:Code} {t:Bool} (hc:evA σ.s c=.d (.one (.lit (.bool t)))) (h1:t=true->pwp e mask a σ Q) (h2:t=false->pwp e mask b σ Q):pwp e mask (.cond c a b) σ Q:=fun he U w0 S0 nt ac w hok hs=>by
 simp only [Zbz,Tar] at hok;obtain ⟨S,L,h'⟩:=id hs;have h3:=h'.eval c;rw [hc] at h3;refine wp_cond h3.bool ?_
 cases t
 ·simp only [Tam,if_false];exact h2 rfl he U w0 S0 nt ac w hok.2 hs
 ·simp only [if_true];exact h1 rfl he U w0 S0 nt ac w hok.1 hs
theorem ZhR {id:Nat} {c:Code} (h:pwp e mask c σ (fun x σ'=>match x with
  | .exit j=>if j=id then Q .normal σ' else Q (.exit j) σ'
  | x=>Q x σ')):pwp e mask (.block id c) σ Q:=fun he U w0 S0 nt ac w hok hs=>by
 simp only [Zbz] at hok;refine wp_block (wp_mono (h he U w0 S0 nt ac w hok hs) fun ex a' w' hq=>?_)
 cases ex with
 | normal=>exact hq
 | exit j =>
  obtain ⟨σ',h1,h2⟩:=hq;simp only [Exit.inBlock];simp only at h1;split
  ·rename_i hj;rw [if_pos hj] at h1;exact ⟨σ',h1,h2⟩
  ·rename_i hj;rw [if_neg hj] at h1;exact ⟨σ',h1,h2⟩
 | ret=>exact hq
 | goto l=>exact hq
 | panic ch=>exact hq
 | outgrown=>exact hq
theorem Zpu {c:Code} {ι:Type} (st:ι->St) (ok:ι->Prop) (μ:ι->Nat) (x0:ι) (h0:ok x0) (hs0:ZbX σ.s (st x0).s) (hm0:ZbY σ.m (st x0).m)
  (hr:∀ x,ok x->pwp e mask c (st x) (fun p σ''=>match p with
   | .normal=>∃ y,ok y∧ZbX σ''.s (st y).s∧ZbY σ''.m (st y).m∧μ y < μ x
   | p=>Q p σ'')):pwp e mask (.loop c) σ Q:=fun he U w0 S0 nt ac w hok hs=>by
 simp only [Zbz] at hok;refine Zh9 (ι:=ι) (fun x a w=>ok x∧SimE e U w0 S0 nt (st x) a w) μ x0 ⟨h0,hs.weak (fun t=>Zgn hs0) (fun t cs=>Zgo hm0)⟩ fun x1 a1 w1 ⟨h1,h2⟩=>?_;refine wp_mono (hr x1 h1 he U w0 S0 nt a1 w1 hok h2) fun ex a' w' hq=>?_
 cases ex with
 | normal =>
  obtain ⟨σ',⟨y,h5,h3,h4,h6⟩,h7⟩:=hq;exact ⟨y,⟨h5,h7.weak (fun t=>Zgn h3) (fun t cs=>Zgo h4)⟩,h6⟩
 | exit id=>exact hq
 | ret=>exact hq
 | goto l=>exact hq
 | panic ch=>exact hq
 | outgrown=>exact hq
end
def ZcI:Nat->List D->List (Nat × A)
 | _,[]=>[]
 | k,x::xs=>(k,.d x)::ZcI (k+1) xs
theorem ZiS:∀ (xs:List D) (k t:Nat),gs (ZcI k xs) t=if k<=t then match xs[t - k]? with
   | some x=>.d x
   | none=>.undef
  else .undef
 | [],k,t=>by simp [ZcI,gs]
 | x::xs,k,t=>by
  simp only [ZcI,gs];by_cases h1:t=k
  ·subst h1;simp
  ·rw [ZiS xs (k+1) t];simp only [h1,if_false];by_cases h2:k+1<=t
   ·rw [if_pos h2,if_pos om,show t - k=(t - (k+1))+1 by omega];simp
   ·rw [if_neg h2];by_cases h3:k<=t
    ·omega
    ·rw [if_neg h3]
inductive RS where
 | slot (t:Nat)
 | cell (t ty:Nat)
def Zbb:List ResultVar->List RS
 | []=>[]
 | .tmp t::r=>.slot t::Zbb r
 | .cell a t::r=>.cell a t::Zbb r
def resA (P:Program) (σ:St):RS->A
 | .slot t=>gs σ.s t
 | .cell t ty=>(Zc6 (ZaP P ty) (ptrA σ.m (gs σ.s t))).getD .undef
def Zcc (P:Program) (σ:St):List RS->List D->Prop
 | [],[]=>True
 | t::ts,x::xs=>resA P σ t=.d x∧Zcc P σ ts xs
 | _,_=>False
def retQ (P:Program) (slots:List RS) (r:List D):PX->St->Prop
 | .exit _,_=>False
 | _,σ=>∃ ks,Zcc P (frzs ks σ) slots r
section
variable {e:Env} {U:Nat->Prop} {w0:World} {S0:Nat->Prop} {nt:Nat} {σ:St} {a:Act} {w:World} {S:Nat->Prop} {L:Lay}
theorem Zpv (h:Sim e U w0 S0 nt σ a w S L) {x:ResultVar} {rs:List RS} {t:RS} (hrs:Zbb [x]=[t]) {y:D} (hy:resA e.P σ t=.d y):∃ v,(match x with
   | .tmp t=>(pure (a.tmps.getD t undef):Sem Value)
   | .cell b t=>do loadVar t (<- asAddr (a.tmps.getD b undef))).run e.P w=.ok v w∧DRel w S y v:=by
 cases x with
 | tmp k =>
  simp only [Zbb,List.cons.injEq,and_true] at hrs;subst hrs;have:=h.rel k;simp only [resA] at hy;rw [hy] at this;exact ⟨_,rfl,this⟩
 | cell b ty =>
  simp only [Zbb,List.cons.injEq,and_true] at hrs;subst hrs;simp only [resA] at hy
  cases hl:Zc6 (ZaP e.P ty) (ptrA σ.m (gs σ.s b)) with
  | none=>rw [hl] at hy;simp at hy
  | some α =>
   rw [hl] at hy;simp only [Option.getD_some] at hy;subst hy;unfold Zc6 at hl;split at hl
   ·rename_i k cs hk hp;obtain ⟨u,h1,h2⟩:=ZhH h.cls hp (h.rel b) hk hl;refine ⟨u,?_,h2⟩;have hptr:∃ p,a.tmps.getD b undef=.pointer (some p):=by
     have hr:=h.rel b;unfold ptrA at hp;split at hp
     ·rename_i hx;rw [hx] at hr;simp only [ARel,DRel,Rep] at hr;obtain ⟨b',off,hv,_⟩:=hr;exact ⟨_,hv⟩
     ·rename_i hx;rw [hx] at hr;exact ⟨_,hr⟩
     ·rename_i hx;rw [hx] at hr;obtain ⟨g,_,hv⟩:=hr;exact ⟨_,hv⟩
     ·cases hp
    obtain ⟨p,hp'⟩:=hptr;rw [hp'] at h1;show Sem.run e.P (do loadVar ty (<- asAddr (a.tmps.getD b undef))) w=_;rw [hp'];simpa [Instr.loadAt,Instr.sureAddr,asAddr,Result.andThen] using h1
   ·cases hl
theorem Zfs (h:Sim e U w0 S0 nt σ a w S L):∀ {l:List ResultVar} {r:List D},Zcc e.P σ (Zbb l) r->∃ vs:List Value,(l.mapM (m:=Sem) fun (x:ResultVar)=>match x with
   | .tmp t=>(pure (a.tmps.getD t undef):Sem Value)
   | .cell b t=>do loadVar t (<- asAddr (a.tmps.getD b undef))).run e.P w=.ok vs w∧ZaE w S r vs
 | [],r,hr=>by
  cases r with
  | nil=>exact ⟨[],by simp,trivial⟩
  | cons x xs=>simp [Zbb,Zcc] at hr
 | x::l,r,hr=>by
  have hx:Zbb (x::l)=(Zbb [x]).head (by cases x <;> simp [Zbb])::Zbb l:=by cases x <;> rfl
  rw [hx] at hr
  cases r with
  | nil=>simp [Zcc] at hr
  | cons y ys =>
   simp only [Zcc] at hr;obtain ⟨v,h1,h2⟩:=Zpv h (x:=x) (rs:=[]) (by cases x <;> rfl) hr.1;obtain ⟨vs,h3,h4⟩:=Zfs h hr.2;refine ⟨v::vs,?_,h2,h4⟩;simp only [List.mapM_cons,Sem.run_bind,Sem.run_pure,Result.andThen_ok];rw [h1];simp only [Result.andThen_ok];rw [h3];simp
end
theorem Zf3 {e:Env} {U:Nat->Prop} {w0:World} {S0:Nat->Prop} {nt:Nat} {σ:St} {a:Act} {w:World} {S:Nat->Prop} {L:Lay} {fn:Func} {r:List D} (h:Sim e U w0 S0 nt σ a w S L) (hr:Zcc e.P σ (Zbb fn.results.toList) r) :
  ∃ v,(results fn a.tmps).run e.P w=.ok v w∧ARel w S ⟨fun _=>0,fun _=>Go.undef⟩ (retA r) v:=by
 obtain ⟨vs,h1,h2⟩:=Zfs h hr
 have hrun:(fn.results.mapM (m:=Sem) fun (x:ResultVar)=>match x with
   | .tmp t=>(pure (a.tmps.getD t undef):Sem Value)
   | .cell b t=>do loadVar t (<- asAddr (a.tmps.getD b undef))).run e.P w=.ok vs.toArray w:=by
  rw [Array.mapM_eq_mapM_toList];simp only [Sem.run_map,h1,Result.andThen_ok]
 have hrun:(results fn a.tmps).run e.P w=.ok (if h:(vs.toArray).size=1 then (vs.toArray)[0] else .tuple vs.toArray) w:=by
  unfold results;rw [Sem.run_bind];exact congrArg (fun (z:Result (Array Value))=>z.andThen (fun a w''=>Sem.run e.P (pure (if h:a.size=1 then a[0] else Value.tuple a)) w'')) hrun
 match r,vs,h2,hrun with
 | [x],[v],hd,hrun=>exact ⟨v,by rw [hrun];simp,hd.1⟩
 | [],[],hd,hrun=>exact ⟨.tuple #[],by rw [hrun];simp,[],rfl,trivial⟩
 | x::y::r',v::v'::vs',hd,hrun=>exact ⟨.tuple (v::v'::vs').toArray,by rw [hrun];simp,_,rfl,hd⟩
 | [],_::_,hd,_=>simp [ZaE] at hd
 | _::_,[],hd,_=>simp [ZaE] at hd
 | [_],_::_::_,hd,_=>simp [ZaE] at hd
 | _::_::_,[_],hd,_=>simp [ZaE] at hd
theorem ZiT {w:World} {S:Nat->Prop} {L:Lay} {args:List D} {vs:List Value} {n:Nat} (hvs:ZaE w S args vs) (t:Nat):ARel w S L (gs (ZcI 0 args) t) ((vs.toArray++Array.replicate n undef).getD t undef):=by
 rw [ZiS];simp only [Taj,if_true,Nat.sub_zero]
 cases hx:args[t]? with
 | none=>trivial
 | some x =>
  obtain ⟨v,h1,h2⟩:=hvs.get hx;have hlt:t < vs.length:=(Tad.1 h1).1;have e1:(vs.toArray++Array.replicate n undef).getD t undef=v:=by
   rw [Array.getD_eq_getD_getElem?,Array.getElem?_append_left (by simpa using hlt)];simp [h1]
  simp only [e1];exact h2
theorem ZlC {e:Env} (he:e.Ok) {f:FuncId} {fn:Func} {c:Code} {args r:List D} {ts:List RS} (mask:Nat) (hf:e.P.funcs[f]?=some fn) (hb:fn.body=some c) (hnm:(fn.name == "runtime.NumGoroutine")=false)
  (hok:Zbz fn.ntmps c=true) (hal:Nat.ble args.length fn.ntmps=true) (hres:Zbb fn.results.toList=ts) (h:pwp e mask c ⟨ZcI 0 args,[]⟩ (retQ e.P ts r)):Con e f args r:=by
 refine ⟨by unfold Zcx;rw [hf];simp [hnm,hb],fun w S vs hS hE hG hvs=>?_⟩;have hvl:=hvs.len;have hal:=Nat.le_of_ble_eq_true hal;subst hres;refine calls_of_wp hf hb ?_;have hsim:SimE e (fun _=>False) w S fn.ntmps ⟨ZcI 0 args,[]⟩ { tmps:=vs.toArray++Array.replicate (fn.ntmps - vs.toArray.size) undef,defers:=[] } w:=by
  exact ⟨S,⟨fun _=>0,fun _=>Go.undef⟩,⟨hS,fun b hb=>.inl hb,hE,fun _ h=>h.elim,Tai _,fun k x g hk=>by simp [gm] at hk,fun k x hk=>by simp [gm] at hk,fun k k' x x' g hk=>by simp [gm] at hk,hG⟩,fun t=>ZiT hvs t,by simp;omega,rfl,Kept.refl _ _ _ _⟩
 refine wp_mono (h he _ _ _ _ _ w hok hsim) fun ex a' w' hq=>?_;have fin:∀ σ',(∃ ks,Zcc e.P (frzs ks σ') (Zbb fn.results.toList) r)->SimE e (fun _=>False) w S fn.ntmps σ' a' w'->a'.defers=[]∧∃ v,(results fn a'.tmps).run e.P w'=.ok v w'∧∃ u,Ending.returned v=.returned u∧Kept e.D e.E w.heap.size w w'∧e.G w'∧ARel w' (fun b=>S b∨(w.heap.size<=b∧b < w'.heap.size)) ⟨fun _=>0,fun _=>Go.undef⟩ (retA r) u:=by
  intro σ' ⟨ks,h1⟩ h2;obtain ⟨S',L',h2⟩:=SimE.frzs he ks σ' h2;obtain ⟨v,h3,h4⟩:=Zf3 h2 h1;refine ⟨h2.defers,v,h3,v,rfl,⟨h2.kept.os,h2.kept.tape,h2.kept.output,h2.kept.drawn,h2.kept.size,fun b hb hE=>h2.kept.block b hb (fun h=>h.elim hE id)⟩,h2.cls.g,h4.keep (Tai _) (fun _ _ _=>rfl) (fun b hb=>?_)⟩;rcases h2.cls.sfr b hb with h | h | h
  ·exact .inl h
  ·exact .inr ⟨h,(h2.cls.sin b hb).1⟩
  ·exact h.elim
 cases ex with
 | normal=>obtain ⟨σ',h1,h2⟩:=hq;exact fin σ' h1 h2
 | ret=>obtain ⟨σ',h1,h2⟩:=hq;exact fin σ' h1 h2
 | exit id=>obtain ⟨σ',h1,h2⟩:=hq;exact h1.elim
 | goto l=>exact hq.elim
 | panic ch=>exact hq.elim
 | outgrown=>exact hq.elim
def ZlD (P:Program) (slots:List RS) (R:List D->List Bk->Prop):PX->St->Prop
 | .exit _,_=>False
 | _,σ=>∃ r ks pm,getM σ.m ks=some pm∧ks.Nodup∧pm.all pinned=true∧R r pm∧Zcc P σ slots r
theorem ZjC {e:Env} (he:e.Ok) {f:FuncId} {fn:Func} {c:Code} {args:List D} {pm:List Bk} {R:List D->List Bk->Prop} {ts:List RS} (keys:List Nat) (mask:Nat) (hf:e.P.funcs[f]?=some fn) (hb:fn.body=some c) (hnm:(fn.name == "runtime.NumGoroutine")=false)
  (hok:Zbz fn.ntmps c=true) (hal:Nat.ble args.length fn.ntmps=true) (hres:Zbb fn.results.toList=ts) (h:pwp e mask c ⟨ZcI 0 args,zipM keys pm⟩ (ZlD e.P ts R)):ConP e f args pm R:=by
 refine ⟨by unfold Zcx;rw [hf];simp [hnm,hb],fun w S vs hS hE hG hpm hap hvs=>?_⟩;have hvl:=hvs.len;have hal:=Nat.le_of_ble_eq_true hal;subst hres;refine calls_of_wp hf hb ?_;have hsim:SimE e (ZaG pm) w S fn.ntmps ⟨ZcI 0 args,zipM keys pm⟩ { tmps:=vs.toArray++Array.replicate (fn.ntmps - vs.toArray.size) undef,defers:=[] } w:=by
  have at':∀ k x,gm (zipM keys pm) k=some x->x∈pm∧Own1 w S (layB (zipM keys pm) ⟨fun _=>0,fun _=>Go.undef⟩) k x∧∀ g,ZaF (layB (zipM keys pm) ⟨fun _=>0,fun _=>Go.undef⟩) k x g ↔ pblk x g:=fun k x hx=>by
   have hm:=(Zdm hx).2;exact ⟨hm,Zcp (hpm x hm).1 hx⟩
  refine ⟨S,layB (zipM keys pm) ⟨fun _=>0,fun _=>Go.undef⟩,⟨hS,fun b hb=>.inl hb,hE,fun b ⟨x,hx,hg⟩=>(hpm x hx).2 b hg,Tai _,fun k x g hx hg=>.inr ⟨x,(at' k x hx).1,((at' k x hx).2.2 g).1 hg⟩,fun k x hx=>(at' k x hx).2.1,fun k k' x x' g hx hx' hg hg'=>?_,hG⟩,fun t=>ZiT hvs t,by simp;omega,rfl,Kept.refl _ _ _ _⟩;exact Zfn hap hx hx' (((at' k x hx).2.2 g).1 hg) (((at' k' x' hx').2.2 g).1 hg')
 refine wp_mono (h he _ _ _ _ _ w hok hsim) fun ex a' w' hq=>?_
 have fin:∀ σ',(∃ r ks pm',getM σ'.m ks=some pm'∧ks.Nodup∧pm'.all pinned=true∧R r pm'∧Zcc e.P σ' (Zbb fn.results.toList) r)->SimE e (ZaG pm) w S fn.ntmps σ' a' w'->a'.defers=[]∧∃ v,(results fn a'.tmps).run e.P w'=.ok v w' ∧
   ∃ u r pm',Ending.returned v=.returned u∧R r pm'∧Kept e.D (fun b=>e.E b∨ZaG pm b) w.heap.size w w'∧e.G w' ∧
   (∀ x∈pm',Zbk w' (fun b=>(S b∨ZaG pm b∨(w.heap.size<=b∧b < w'.heap.size))∧¬ ZaG pm' b) x∧∀ g,pblk x g->ZaG pm g∨w.heap.size<=g)∧ZbD pm' ∧
   ARel w' (fun b=>(S b∨ZaG pm b∨(w.heap.size<=b∧b < w'.heap.size))∧¬ ZaG pm' b) ⟨fun _=>0,fun _=>Go.undef⟩ (retA r) u:=by
  intro σ' ⟨r,ks,pm',hg,hn,hp,hR,h1⟩ ⟨S',L',h2⟩;obtain ⟨v,h3,h4⟩:=Zf3 h2 h1;have hp:∀ x∈pm',pinned x=true:=fun x hx=>List.all_eq_true.1 hp x hx;have hS':∀ b,S' b->(S b∨ZaG pm b∨(w.heap.size<=b∧b < w'.heap.size))∧¬ ZaG pm' b:=fun b hb=>by
   refine ⟨?_,fun ⟨x,hx,hxg⟩=>?_⟩
   ·rcases h2.cls.sfr b hb with q | q | q
    ·exact .inl q
    ·exact .inr (.inr ⟨q,(h2.cls.sin b hb).1⟩)
    ·exact .inr (.inl q)
   ·obtain ⟨k,hk,hkx⟩:=ZcN hg x hx;exact ((h2.cls.own k x hkx).lt (((ZbO (h2.cls.own k x hkx) (hp x hx)).2 b).2 hxg)).2 hb
  refine ⟨h2.defers,v,h3,v,r,pm',rfl,hR,h2.kept,h2.cls.g,fun x hx=>?_,ZdL h2.cls.own h2.cls.inj hn hg hp,ZiI (h4.keep (Tai _) (fun _ _ _=>rfl) hS')⟩;obtain ⟨k,hk,hkx⟩:=ZcN hg x hx;have ho:=h2.cls.own k x hkx;have hpo:=ZbO ho (hp x hx);refine ⟨(ZbO (ho.keep (Tai _) (fun _ _ _=>rfl) hS' (fun g hg'=>⟨rfl,fun hs=>hs.2 ⟨x,hx,(hpo.2 g).1 hg'⟩⟩)) (hp x hx)).1,fun g hg'=>?_⟩;rcases h2.cls.mine k x g hkx ((hpo.2 g).2 hg') with q | q
  ·exact .inr q
  ·exact .inl q
 cases ex with
 | normal=>obtain ⟨σ',h1,h2⟩:=hq;exact fin σ' h1 h2
 | ret=>obtain ⟨σ',h1,h2⟩:=hq;exact fin σ' h1 h2
 | exit id=>obtain ⟨σ',h1,h2⟩:=hq;exact h1.elim
 | goto l=>exact hq.elim
 | panic ch=>exact hq.elim
 | outgrown=>exact hq.elim
inductive Res where
 | bad
 | done (σ:St)
 | call (q:Bool) (c:Operand) (args:List Operand) (d:Option Nat) (n:Nat) (os:List Oper) (σ:St)
 | map (q:Bool) (d:Option Nat) (n:Nat) (os:List Oper) (σ:St)
 | stop (n:Nat) (os:List Oper) (σ:St)
def Zcq (x:Option St) (f:St->Res):Res :=
 match x with
 | some σ=>f σ
 | none=>.bad
def ZfN (d:Option Nat) (next:St->Res) (σ:St):Res:=next ⟨setA σ.s d .no,σ.m⟩
def ZgM (yes no:St->Res) (σ:St):Bool->Res
 | true=>yes σ
 | false=>no σ
def Zdy (want:Bool) (yes no:St->Res) (σ:St):Option A->Res
 | some (.d (.one (.lit (.bool b))))=>ZgM yes no σ (b==want)
 | some .no=>no σ
 | _=>.bad
def qB:Nat->Bool
 | 0=>false
 | _+1=>true
def ZaY (P:Program) (d:Option Nat) (ty:TypeId) (q n:Nat) (os:List Oper) (next:St->Res):Op->St->Res
 | .alloc t,σ=>Zcq (if qB q=true then none else newE σ d (ZaO P t)) next
 | .call ⟨.value c,args,_⟩,σ=>.call (qB n) c args.toList d (n - 1) os σ
 | .makeMap _ none,σ=>.map (qB n) d (n - 1) os σ
 | op,σ=>Zcq (ZeV P (qB n) σ d ty op) next
def Zbt (P:Program) (ds:List (Option Nat)):Nat->List Oper->St->Res
 | _,[],σ=>.done σ
 | n,⟨d,op,ty,_,_,none⟩::os,σ=>ZaY P d ty (n - 1) n os (Zbt P ds (n - 1) os) op σ
 | n,⟨d,op,ty,_,_,some (j,want)⟩::os,σ=>Zdy want (ZaY P d ty n n os (Zbt P ds (n - 1) os) op) (ZfN d (Zbt P ds (n - 1) os)) σ ((ds[j]?.join).map (gs σ.s))
def runN (P:Program) (ds:List (Option Nat)):Nat->Nat->List Oper->St->Res
 | 0,n,os,σ=>.stop n os σ
 | _+1,_,[],σ=>.done σ
 | j+1,n,⟨d,op,ty,_,_,none⟩::os,σ=>ZaY P d ty (n - 1) n os (runN P ds j (n - 1) os) op σ
 | j+1,n,⟨d,op,ty,_,_,some (i,want)⟩::os,σ=>Zdy want (ZaY P d ty n n os (runN P ds j (n - 1) os) op) (ZfN d (runN P ds j (n - 1) os)) σ ((ds[i]?.join).map (gs σ.s))
def ResQ (e:Env) (ds:List (Option Nat)) (K:St->Prop):Res->Prop
 | .bad=>False
 | .done σ=>K σ
 | .call q c args d n os σ=>∀ (o:Oper) (ts:Array TypeId),o.op=.call ⟨.value c,args.toArray,ts⟩->o.dst=d->Zip e q o σ (fun σ'=>Runs e ds n os σ' K)
 | .map q d n os σ=>q=false∧∀ b:Nat,Runs e ds n os ⟨setA σ.s d (.d (.one (.lit (.map (some b))))),σ.m⟩ K
 | .stop n os σ=>Runs e ds n os σ K
theorem Zeq {e:Env} {ds:List (Option Nat)} {os:List Oper} {K:St->Prop} {n q:Nat} {next:St->Res} (ih:∀ σ,ResQ e ds K (next σ)->Runs e ds (n - 1) os σ K) {o:Oper} {σ:St} (hq:q=n∨∀ t,o.op≠.alloc t) (h:ResQ e ds K (ZaY e.P o.dst o.type q n os next o.op σ)) :
  Zip e (qB n) o σ (fun σ'=>Runs e ds (n - 1) os σ' K):=by
 unfold ZaY at h;split at h
 ·rename_i t ho;rcases hq with hq | hq
  ·subst hq;unfold Zcq at h;split at h
   ·rename_i σ' hσ
    cases hq:qB q with
    | true=>rw [hq] at hσ;simp at hσ
    | false =>
     rw [hq] at hσ;show Zby e o _ (fun σ'=>Runs e ds (q - 1) os σ' K);refine Zmj (σ':=σ') ?_ (ih σ' h);simp only [ho,ZeV];exact hσ
   ·exact h.elim
  ·exact (hq t ho).elim
 ·rename_i c args ts ho;exact h o ts (by rw [ho]) rfl
 ·rename_i t ho;obtain ⟨h1,h2⟩:=h;rw [h1];exact ZiJ ho h2
 ·rename_i op σ1 hne0 hne hne2 ho;unfold Zcq at h;split at h
  ·rename_i σ' hσ
   cases hq:qB n with
   | true =>
    rw [hq] at hσ;show ZeD e o _ (fun σ'=>Runs e ds (n - 1) os σ' K);exact Zrt hσ (ih σ' h)
   | false =>
    rw [hq] at hσ;show Zby e o _ (fun σ'=>Runs e ds (n - 1) os σ' K);exact Zmj hσ (ih σ' h)
  ·exact h.elim
theorem ZhS {e:Env} {ds:List (Option Nat)} {K:St->Prop} {n:Nat} {os:List Oper} {o:Oper} {σ:St} {next:St->Res} (hg:o.guard=none) (ih:∀ σ,ResQ e ds K (next σ)->Runs e ds (n - 1) os σ K) (h:ResQ e ds K (ZaY e.P o.dst o.type (n - 1) n os next o.op σ)):Runs e ds n (o::os) σ K:=by
 have alloc:∀ t,o.op=.alloc t->qB (n - 1)=false∧∃ d cs,o.dst=some d∧ZaO e.P t=some cs∧Runs e ds (n - 1) os ⟨(d,.ref d 0)::Zau d σ.s,(d,.var none cs)::remM d σ.m⟩ K:=fun t ho=>by
  rw [ho] at h;simp only [ZaY] at h;unfold Zcq at h;split at h
  ·rename_i σ' hσ;split at hσ
   ·cases hσ
   ·rename_i hq;unfold newE at hσ;split at hσ
    ·rename_i d cs hd hz;injection hσ with hσ
     exact ⟨by simpa using hq,d,cs,hd,hz,by rw [hσ];exact ih _ h⟩
    ·cases hσ
  ·exact h.elim
 cases n with
 | zero =>
  simp only [Runs];have h1:=Zeq (n:=0) (q:=0) ih (.inl rfl) h;have h1:Zby e o σ (fun σ'=>Runs e ds 0 os σ' K):=h1;simp only [Runs] at h1;exact ZdM hg h1
 | succ n =>
  simp only [Runs,hg];by_cases hal:∃ t,o.op=.alloc t
  ·obtain ⟨t,ho⟩:=hal;obtain ⟨h1,d,cs,h2,h3,h4⟩:=alloc t ho;have hn:n=0:=by
    cases n with
    | zero=>rfl
    | succ k=>cases h1
   subst hn;have hia:isAl o=true:=by
    obtain ⟨od,oo,ot,op,oa,og⟩:=o;simp only at ho h2 hg;subst ho h2 hg;rfl
   simp only [hia,and_self,if_true];simp only [Nat.add_sub_cancel,Runs] at h4;exact ⟨d,t,cs,h2,ho,h3,h4⟩
  ·have hna:¬ (n=0∧isAl o=true):=fun ⟨_,h2⟩=>by
    unfold isAl at h2;split at h2
    ·exact hal ⟨_,rfl⟩
    ·cases h2
   rw [if_neg hna];exact Zeq ih (.inr fun t ht=>hal ⟨t,ht⟩) h
theorem ZlE {e:Env} {ds:List (Option Nat)} {K:St->Prop} {n:Nat} {os:List Oper} {o:Oper} {σ:St} {j:Nat} {want:Bool} (hg:o.guard=some (j,want)) (h:match (ds[j]?.join).map (gs σ.s) with
   | some (.d (.one (.lit (.bool b))))=>if b=want then Zip e (qB n) o σ (fun σ'=>Runs e ds (n - 1) os σ' K) else Runs e ds (n - 1) os ⟨setA σ.s o.dst .no,σ.m⟩ K
   | some .no=>Runs e ds (n - 1) os ⟨setA σ.s o.dst .no,σ.m⟩ K
   | _=>False):Runs e ds n (o::os) σ K:=by
 cases n with
 | zero =>
  simp only [Runs];refine ZjA hg ?_;split at h
  ·rename_i b hb
   try simp only [hb]
   split at h
   ·rename_i hbw;rw [if_pos hbw];have h:Zby e o σ (fun σ'=>Runs e ds 0 os σ' K):=h;simpa only [Runs] using h
   ·rename_i hbw;rw [if_neg hbw];have h:Runs e ds 0 os ⟨setA σ.s o.dst .no,σ.m⟩ K:=h;simpa only [Runs] using h
  ·rename_i hb
   try simp only [hb]
   have h:Runs e ds 0 os ⟨setA σ.s o.dst .no,σ.m⟩ K:=h;simpa only [Runs] using h
  ·exact h.elim
 | succ n =>
  simp only [Runs,hg];exact h
theorem Zft {e:Env} {ds:List (Option Nat)} {K:St->Prop} {n:Nat} {os:List Oper} {d:Option Nat} {op:Op} {ty:TypeId} {pos:String} {aft:Array Edge} {j:Nat} {want:Bool} {next:St->Res} (ih:∀ σ,ResQ e ds K (next σ)->Runs e ds (n - 1) os σ K) {σ:St}
  (h:ResQ e ds K (Zdy want (ZaY e.P d ty n n os next op) (ZfN d next) σ ((ds[j]?.join).map (gs σ.s)))):Runs e ds n (⟨d,op,ty,pos,aft,some (j,want)⟩::os) σ K:=by
 refine ZlE rfl ?_;unfold Zdy at h;split at h
 ·rename_i b hb;simp only [hb];unfold ZgM at h;split at h
  ·rename_i hbw;rw [if_pos (by simpa using hbw)];exact Zeq (o:=⟨d,op,ty,pos,aft,some (j,want)⟩) ih (.inl rfl) h
  ·rename_i hbw;rw [if_neg (by simpa using hbw)];exact ih _ h
 ·rename_i hb;simp only [hb];exact ih _ h
 ·exact h.elim
theorem ZaI {e:Env} {ds:List (Option Nat)} {K:St->Prop} {n:Nat} {σ:St} (h:K σ):Runs e ds n [] σ K:=by
 cases n with
 | zero=>simp only [Runs];exact Zmn h
 | succ n=>exact h
theorem ZeE {e:Env} {ds:List (Option Nat)} {K:St->Prop}:∀ (os:List Oper) (n:Nat) (σ:St),ResQ e ds K (Zbt e.P ds n os σ)->Runs e ds n os σ K
 | [],n,σ,h=>ZaI h
 | ⟨d,op,ty,pos,aft,none⟩::os,n,σ,h=>ZhS (o:=⟨d,op,ty,pos,aft,none⟩) rfl (ZeE os (n - 1)) h
 | ⟨d,op,ty,pos,aft,some (j,want)⟩::os,n,σ,h=>Zft (ZeE os (n - 1)) h
theorem Zhm {e:Env} {ds:List (Option Nat)} {K:St->Prop}:∀ (j:Nat) (os:List Oper) (n:Nat) (σ:St),ResQ e ds K (runN e.P ds j n os σ)->Runs e ds n os σ K
 | 0,os,n,σ,h=>h
 | j+1,[],n,σ,h=>ZaI h
 | j+1,⟨d,op,ty,pos,aft,none⟩::os,n,σ,h=>ZhS (o:=⟨d,op,ty,pos,aft,none⟩) rfl (Zhm j os (n - 1)) h
 | j+1,⟨d,op,ty,pos,aft,some (i,want)⟩::os,n,σ,h=>Zft (Zhm j os (n - 1)) h
def Zir (c:A) (xs:Option (List D)) (σ:St):Option (FuncId × List D × St) :=
 match Zcy c,xs with
 | some (f,caps),some xs=>some (f,xs++caps.map .one,σ)
 | _,_=>none
def Zis (c:Operand) (args:List Operand):Option St->Option (FuncId × List D × St)
 | some σ=>Zir (evA σ.s c) (dsA (args.map (evA σ.s))) σ
 | none=>none
def Zek (q:Bool) (c:Operand) (args:List Operand) (σ:St):Option (FuncId × List D × St):=Zis c args (frzQ q (ZcH (args.map (evA σ.s))) σ)
def ZlF (f:Option (FuncId × List C)) (k:Nat) (xs:Option (List D)):Option Bk->Option (FuncId × Nat × Nat × Nat × List (List C) × List D)
 | some (.buf _ ty sz rows)=>match f,xs with
  | some (f,caps),some xs=>some (f,k,ty,sz,rows,xs++caps.map .one)
  | _,_=>none
 | _=>none
def ZlG (m:List (Nat × Bk)) (f:Option (FuncId × List C)) (xs:Option (List D)):A->Option (FuncId × Nat × Nat × Nat × List (List C) × List D)
 | .buf k=>ZlF f k xs (gm m k)
 | _=>none
def ZrZ (c:Operand) (x0:Operand) (rest:List Operand) (σ:St):Option (FuncId × Nat × Nat × Nat × List (List C) × List D):=ZlG σ.m (Zcy (evA σ.s c)) (dsA (rest.map (evA σ.s))) (nrm σ.m (evA σ.s x0))
section
variable {e:Env} {mask:Nat} {σ:St} {Q:PX->St->Prop} {ds:List (Option Nat)} {K:St->Prop} {os os':List Oper} {n n':Nat} {s1 s2 s3:List (Nat × A)} {m1 m2 m3:List (Nat × Bk)}
theorem ZhT {σ':St} (h:Zbt e.P ds n os σ=.done σ') (hK:K σ'):Runs e ds n os σ K:=ZeE os n σ (by rw [h];exact hK)
theorem ZrG {ks:List Nat} {σ σ':St} (hf:frzQ false ks σ=some σ'):frzs ks σ=σ':=by
 unfold frzQ at hf;split at hf
 ·injection hf with hf
 ·simpa using hf
theorem ZgN {q:Bool} {c:Operand} {args:List Operand} {f:FuncId} {xs:List D} {σ':St} (h1:Zek q c args σ=some (f,xs,σ')):∃ caps ys,frzQ q (ZcH (args.map (evA σ.s))) σ=some σ'∧Zcy (evA σ'.s c)=some (f,caps)∧dsA (args.map (evA σ'.s))=some ys∧xs=ys++caps.map .one:=by
 unfold Zek Zis at h1;split at h1
 ·rename_i σ1 hf;unfold Zir at h1;split at h1
  ·rename_i f' caps xs' hcal hds;simp only [Taq,Prod.mk.injEq] at h1;obtain ⟨rfl,rfl,rfl⟩:=h1;exact ⟨caps,xs',hf,hcal,hds,rfl⟩
  ·cases h1
 ·cases h1
theorem Zru {q:Bool} {c:Operand} {args:List Operand} {f:FuncId} {xs:List D} {d:Option Nat} {r:List D} (h:Zbt e.P ds n os σ=.call q c args d n' os' ⟨s1,m1⟩) (h1:Zek q c args ⟨s1,m1⟩=some (f,xs,⟨s2,m2⟩)) (hc:Con e f xs r) (h2:setA s2 d (retA r)=s3) (hK:Runs e ds n' os' ⟨s3,m2⟩ K):Runs e ds n os σ K:=by
 refine ZeE os n σ ?_;rw [h];intro o ts ho hd;obtain ⟨caps,ys,hf,hcal,hds,rfl⟩:=ZgN h1;exact Zpo ho hf hcal hds hc (by rw [hd,h2];exact hK)
theorem Zpw {c:Operand} {args:List Operand} {f:FuncId} {xs:List D} {d:Option Nat} (ks ks':List Nat) {pm:List Bk} {R:List D->List Bk->Prop} (h:Zbt e.P ds n os σ=.call false c args d n' os' ⟨s1,m1⟩) (h1:Zek false c args ⟨s1,m1⟩=some (f,xs,⟨s2,m2⟩)) (hc:ConP e f xs pm R) (hpm:getM m2 ks=some pm) (hpn:pm.all pinned=true) (hn:ks.Nodup)
  (hk:ZbU (ks++ks') s2=s3) (hr:ZbZ (ks++ks') m2=m3) (hK:∀ r pm',R r pm'->Runs e ds n' os' ⟨setA s3 d (retA r),zipM ks' pm'++m3⟩ K):Runs e ds n os σ K:=by
 refine ZeE os n σ ?_;rw [h];intro o ts ho hd;obtain ⟨caps,ys,hf,hcal,hds,rfl⟩:=ZgN h1;exact Zmk (Zei _ (ZrG hf)) (fun σ'' hσ=>by subst hσ;exact ZrF ho ks ks' hn hpm hpn hcal hds hc (fun r pm' hR=>by rw [hd];simp only [hk,hr];exact hK r pm' hR))
theorem Zdz {P:St->Prop} (hT:Turn e σ P) (h:∀ σ',P σ'->Runs e ds 0 os σ' K):Runs e ds 0 os σ K:=by
 simp only [Runs] at h ⊢;exact ZlB hT h
def ZgO:Res->Option (Nat × List Oper × List (Nat × A) × List (Nat × Bk))
 | .stop n os σ=>some (n,os,σ.s,σ.m)
 | _=>none
theorem Zmo (j:Nat) (h:ZgO (runN e.P ds j n os σ)=some (n',os',s1,m1)) (hK:Runs e ds n' os' ⟨s1,m1⟩ K):Runs e ds n os σ K:=by
 refine Zhm j os n σ ?_
 cases hr:runN e.P ds j n os σ with
 | stop n1 os1 σ1 =>
  rw [hr] at h;simp only [ZgO,Taq,Prod.mk.injEq] at h;obtain ⟨rfl,rfl,rfl,rfl⟩:=h;exact hK
 | _=>rw [hr] at h;cases h
theorem ZjD {d t ty:Nat} {p:String} {ed:Array Edge} {parts:List (Nat × Operand)} {s:List (Nat × A)} {m:List (Nat × Bk)} {cs cs':List C} (hz:Zdr e.P t=some cs) (hst:Za2 e.P t=true) (hok:cs.all Zal=true) (hf:Zcb e.P t cs (parts.map fun p=>(p.1,evA s p.2))=some cs')
  (hK:Runs e ds 0 os ⟨(d,.d (.agg cs'))::s,m⟩ K):Runs e ds 0 (⟨some d,.build t parts.toArray,ty,p,ed,none⟩::os) ⟨s,m⟩ K:=by
 simp only [Runs] at hK ⊢;exact ZdM rfl (Zjz (o:=⟨some d,.build t parts.toArray,ty,p,ed,none⟩) rfl hz hst hok hf hK)
theorem Zpx {id:Nat} {l:List Oper} {σ1:St} (ks:List Nat) (hf:frzs ks σ=σ1) (hds:l.map (·.dst)=ds) (h:Runs e ds 0 l σ1 (Zc7 mask Q)):pwp e mask (.region id l.toArray false) σ Q :=
 Zda (Zei ks hf) (fun σ' hσ=>by subst hσ;exact ZgL 0 rfl (by subst hds;exact h))
theorem Zpy {id:Nat} {l:List Oper} (hds:l.map (·.dst)=ds) (h:Runs e ds 0 l σ (Zc7 mask Q)):pwp e mask (.region id l.toArray false) σ Q:=Zpx [] rfl hds h
theorem Zmp {id:Nat} {l:List Oper} {σ1:St} (n:Nat) (ks:List Nat) (hf:frzs ks σ=σ1) (hr:regX l.toArray n=true) (hds:l.map (·.dst)=ds) (h:Runs e ds n l σ1 (Zc7 mask Q)):pwp e mask (.region id l.toArray true) σ Q :=
 Zda (Zei ks hf) (fun σ' hσ=>by subst hσ;exact ZgL n (by simpa using hr) (by subst hds;exact h))
theorem Zpz {id:Nat} {l:List Oper} (n:Nat) (hr:regX l.toArray n=true) (hds:l.map (·.dst)=ds) (h:Runs e ds n l σ (Zc7 mask Q)):pwp e mask (.region id l.toArray true) σ Q:=Zmp n [] rfl hr hds h
theorem Wk.refl (σ:St):Wk σ σ:=⟨fun _=>.inl rfl,fun _ _ h=>h⟩
theorem Zmq {c:Operand} {a b:Code} (hc:evA σ.s c=.d (.one (.lit (.bool true)))) (h:pwp e mask a σ Q):pwp e mask (.cond c a b) σ Q:=ZiR hc (fun _=>h) (fun h=>by cases h)
theorem Zmr {c:Operand} {a b:Code} (hc:evA σ.s c=.d (.one (.lit (.bool false)))) (h:pwp e mask b σ Q):pwp e mask (.cond c a b) σ Q:=ZiR hc (fun h=>by cases h) (fun _=>h)
theorem Zms {P:Program} {ts:List RS} {r:List D} (h:Zcc P σ ts r):retQ P ts r .ret σ:=⟨[],h⟩
theorem ZrH {P:Program} {ts:List RS} {r:List D} {σ1:St} (ks:List Nat) (hf:frzs ks σ=σ1) (h:Zcc P σ1 ts r):retQ P ts r .ret σ:=⟨ks,by rw [hf];exact h⟩
end
section
variable {P:Program} {d:Option Nat} {ds:List (Option Nat)} {os:List Oper} {q n:Nat} {ty:TypeId} {nx:St->Res} {s:List (Nat × A)} {m:List (Nat × Bk)} {σ:St}
def ZbP (nx:St->Res) (s:List (Nat × A)) (m:List (Nat × Bk)) (d:Option Nat):Option A->Res
 | some α=>nx ⟨setA s d α,m⟩
 | none=>.bad
theorem ZgP {α:A}:ZbP nx s m d (some α)=nx ⟨setA s d α,m⟩:=rfl
theorem Za9 {x:Option A}:Zcq (putE ⟨s,m⟩ d x) nx=ZbP nx s m d x:=by cases x <;> rfl
theorem Zmt:Zbt P ds n [] ⟨s,m⟩=.done ⟨s,m⟩:=rfl
theorem ro_n {op:Op} {t:TypeId} {p:String} {a:Array Edge}:Zbt P ds n (⟨d,op,t,p,a,none⟩::os) ⟨s,m⟩=ZaY P d t (n - 1) n os (Zbt P ds (n - 1) os) op ⟨s,m⟩:=rfl
theorem ro_g {op:Op} {t:TypeId} {p:String} {a:Array Edge} {j:Nat} {w:Bool}:Zbt P ds n (⟨d,op,t,p,a,some (j,w)⟩::os) ⟨s,m⟩=Zdy w (ZaY P d t n n os (Zbt P ds (n - 1) os) op) (ZfN d (Zbt P ds (n - 1) os)) ⟨s,m⟩ ((ds[j]?.join).map (gs s)):=rfl
theorem Zmu {y x:St->Res} {b w:Bool}:Zdy w y x σ (some (.d (.one (.lit (.bool b)))))=ZgM y x σ (b==w):=rfl
theorem pk_t {y x:St->Res}:ZgM y x σ true=y σ:=rfl
theorem pk_f {y x:St->Res}:ZgM y x σ false=x σ:=rfl
theorem sk_r:ZfN d nx ⟨s,m⟩=nx ⟨setA s d .no,m⟩:=rfl
theorem g_no {y x:St->Res} {w:Bool}:Zdy w y x σ (some .no)=x σ:=rfl
theorem qB_0:qB 0=false:=rfl
theorem qB_s {k:Nat}:qB (k+1)=true:=rfl
theorem Zmv {x:Operand}:ZaY P d ty q n os nx (.move x) ⟨s,m⟩=nx ⟨setA s d (evA s x),m⟩:=rfl
theorem Zmw {c a b:Operand}:ZaY P d ty q n os nx (.pick c a b) ⟨s,m⟩=ZbP nx s m d (Zim (evA s a) (evA s b) (evA s c)):=Za9
theorem Zmx {t:TypeId} {x:Operand}:ZaY P d ty q n os nx (.load t x) ⟨s,m⟩=ZbP nx s m d (Zc6 (ZaP P t) (ptrA m (nrm m (evA s x)))):=Za9
theorem Zf4 {t:TypeId} {x:Operand} {f:Nat}:ZaY P d ty q n os nx (.fieldAddr t x f) ⟨s,m⟩=ZbP nx s m d (Zb4 (evA s x) (offT P t f)):=Za9
theorem Zj1 {t:TypeId} {x:Operand} {f:Nat}:ZaY P d ty q n os nx (.field t x f) ⟨s,m⟩=ZbP nx s m d (Zfh P (evA s x) (offT P t f)):=Za9
theorem Zf5 {t:TypeId} {x i:Operand}:ZaY P d ty q n os nx (.indexAddr t x i) ⟨s,m⟩=ZbP nx s m d (Zcm m (Zbp P t) (nrm m (evA s x)) (evA s i)):=Za9
theorem Zj2 {t:TypeId} {x i:Operand}:ZaY P d ty q n os nx (.index t x i) ⟨s,m⟩=ZbP nx s m d (Zfi (P.underlying t) (evA s x) (evA s i)):=Za9
theorem ZpT {op:BinOp} {t t':TypeId} {x y:Operand}:ZaY P d ty q n os nx (.binOp op t x y t') ⟨s,m⟩=ZbP nx s m d (binA P t op (evA s x) (evA s y)):=Za9
theorem R_un {op:UnOp} {t:TypeId} {x:Operand}:ZaY P d ty q n os nx (.unOp op t x) ⟨s,m⟩=ZbP nx s m d (unA op (evA s x)):=Za9
theorem ZhU {x:Operand} {i:Nat}:ZaY P d ty q n os nx (.extract x i) ⟨s,m⟩=ZbP nx s m d (ZdZ i (evA s x)):=Za9
theorem ZpU {x:Operand}:ZaY P d ty q n os nx (.nilCheck x) ⟨s,m⟩=ZbP nx s m d (nilA (evA s x)):=Za9
theorem Zmy {a b:TypeId} {x:Operand}:ZaY P d ty q n os nx (.convert a b x) ⟨s,m⟩=ZbP nx s m d (ZfJ P a b (evA s x)):=Za9
theorem Zj3 {t:TypeId} {x:Operand} {lo hi mx:Option Operand}:ZaY P d ty q n os nx (.slice t x lo hi mx) ⟨s,m⟩=ZbP nx s m d (Zdk P t (evA s x) (lo.map (evA s)) (hi.map (evA s)) (mx.map (evA s))):=Za9
theorem ZpV {args:List Operand} {ts:Array TypeId}:ZaY P d ty q n os nx (.call ⟨.builtin .len,args.toArray,ts⟩) ⟨s,m⟩=ZbP nx s m d (lenA m (lenT P ts) (args.map fun x=>nrm m (evA s x))):=Za9
theorem ZpW {args:List Operand} {ts:Array TypeId}:ZaY P d ty q n os nx (.call ⟨.builtin .max,args.toArray,ts⟩) ⟨s,m⟩=ZbP nx s m d (maxA (args.map (evA s))):=Za9
theorem ZpX {args:List Operand} {ts:Array TypeId}:ZaY P d ty q n os nx (.call ⟨.builtin .min,args.toArray,ts⟩) ⟨s,m⟩=ZbP nx s m d (minA (args.map (evA s))):=Za9
theorem Zmz {c:Operand} {args:List Operand} {ts:Array TypeId}:ZaY P d ty q n os nx (.call ⟨.value c,args.toArray,ts⟩) ⟨s,m⟩=.call (qB n) c args d (n - 1) os ⟨s,m⟩:=rfl
def ZgQ (nx:St->Res) (d:Option Nat) (f:List (Nat × A)->List (Nat × Bk)->Option A):Option St->Res
 | some σ=>ZbP nx σ.s σ.m d (f σ.s σ.m)
 | none=>.bad
theorem Zj4 {f:List (Nat × A)->List (Nat × Bk)->Option A}:ZgQ nx d f (some ⟨s,m⟩)=ZbP nx s m d (f s m):=rfl
theorem Zgp {op:Op} {x:Option St} {f:List (Nat × A)->List (Nat × Bk)->Option A} (h:∀ s m,Zef P m (evA s) op=f s m):Zcq (Zeg P d op x) nx=ZgQ nx d f x:=by
 cases x with
 | none=>rfl
 | some σ =>
  obtain ⟨s',m'⟩:=σ;show Zcq (putE ⟨s',m'⟩ d (Zef P m' (evA s') op)) nx=_;rw [Za9,h];rfl
theorem Zj5 {t:TypeId} {parts:List (Nat × Operand)}:ZaY P d ty q n os nx (.build t parts.toArray) ⟨s,m⟩=ZgQ nx d (fun s m=>ZeA P t (parts.map fun p=>(p.1,evA s p.2))) (frzQ (qB n) (ZcH (parts.map fun p=>evA s p.2)) ⟨s,m⟩):=Zgp (fun _ _=>rfl)
theorem Zfu {t:TypeId} {k:Nat} {parts:List (Nat × Operand)}:ZaY P d ty q n os nx (.buildSlice t k parts.toArray) ⟨s,m⟩=ZgQ nx d (fun s m=>ZcY (Za6 P t) k (parts.map fun p=>(p.1,evA s p.2))) (frzQ (qB n) (ZcH (parts.map fun p=>evA s p.2)) ⟨s,m⟩):=Zgp (fun _ _=>rfl)
theorem ZgR {f:FuncId} {caps:List Operand}:ZaY P d ty q n os nx (.makeFunc (.func f) #[] caps.toArray) ⟨s,m⟩=ZgQ nx d (fun s m=>fnA f (csA (caps.map (evA s)))) (frzQ (qB n) (ZcH (caps.map (evA s))) ⟨s,m⟩):=Zgp (fun _ _=>rfl)
theorem ZmA {q:Bool}:frzQ q [] σ=some σ:=rfl
theorem Zj6 {k:Nat} {ks:List Nat}:frzQ false (k::ks) σ=some (frzs (k::ks) σ):=rfl
theorem ZmB:frzs [] σ=σ:=rfl
theorem Zj7 {k:Nat} {ks:List Nat}:frzs (k::ks) ⟨s,m⟩=frzs ks (frzB k ⟨s,m⟩ (gm m k)):=rfl
theorem Zj8 {k:Nat} {bk:Bk}:frzB k ⟨s,m⟩ (some bk)=⟨frzS k bk s,remM k m⟩:=rfl
theorem Zj9 {k:Nat}:frzB k ⟨s,m⟩ none=⟨s,m⟩:=rfl
theorem ZmC {k:Nat} {bk:Bk}:frzS k bk []=[]:=rfl
theorem Zka {k t:Nat} {bk:Bk} {a:A} {r:List (Nat × A)}:frzS k bk ((t,a)::r)=(t,frzA k bk a)::frzS k bk r:=rfl
theorem ZiU {k:Nat} {bk:Bk}:frzA k bk .undef=.undef:=rfl
theorem ZpY {k:Nat} {bk:Bk}:frzA k bk .no=.no:=rfl
theorem fA_d {k:Nat} {bk:Bk} {x:D}:frzA k bk (.d x)=.d x:=rfl
theorem ZmD {k:Nat} {bk:Bk} {x:List D}:frzA k bk (.tup x)=.tup x:=rfl
theorem ZpZ {k k' off:Nat} {o:Option Nat} {cs:List C}:frzA k (.var o cs) (.ref k' off)=if k'=k then .d (.one (.ptr (cs.drop off))) else .ref k' off:=rfl
theorem Zp0 {k k' off e sz:Nat} {o:Option (Option Addr × Nat)} {rows:List (List C)}:frzA k (.buf o e sz rows) (.ref k' off)=if k'=k then .undef else .ref k' off:=rfl
theorem Zp1 {k k':Nat} {o:Option Nat} {cs:List C}:frzA k (.var o cs) (.buf k')=if k'=k then .undef else .buf k':=rfl
theorem Zp2 {k k' e sz:Nat} {o:Option (Option Addr × Nat)} {rows:List (List C)}:frzA k (.buf o e sz rows) (.buf k')=if k'=k then .d (.one (.sl rows)) else .buf k':=rfl
theorem ZmE {k k' j sz off:Nat} {bk:Bk}:frzA k bk (.row k' j sz off)=if k'=k then .undef else .row k' j sz off:=rfl
theorem ky_d {x:D}:keyA (.d x)=[]:=rfl
theorem ZmF {k off:Nat}:keyA (.ref k off)=[k]:=rfl
theorem ZmG {k:Nat}:keyA (.buf k)=[k]:=rfl
theorem ZmH {k j sz off:Nat}:keyA (.row k j sz off)=[]:=rfl
theorem Zkb:ZcH []=[]:=rfl
theorem ZiV {a:A} {r:List A}:ZcH (a::r)=keyA a++ZcH r:=rfl
theorem Zkc {t:TypeId}:ZaY P d ty q n os nx (.alloc t) ⟨s,m⟩=Zcq (if qB q=true then none else newE ⟨s,m⟩ d (ZaO P t)) nx:=rfl
theorem Zp3 {t:TypeId} {x:Operand}:ZaY P d ty q n os nx (.box t x) ⟨s,m⟩=Zcq (if qB n=true then none else ZfL d x (frzQ (qB n) (keyA (evA s x)) ⟨s,m⟩)) nx:=rfl
theorem Zkd {t:TypeId} {x y:Operand}:ZaY P d ty q n os nx (.store t x y) ⟨s,m⟩=Zcq (if qB n=true then none else Zeh P d t x y (frzQ (qB n) (keyA (evA s y)) ⟨s,m⟩)) nx:=rfl
theorem ZiW {x:Operand}:ZaY P d ty q n os nx (.assign x) ⟨s,m⟩=Zcq (if qB n=true then none else Zcg P ⟨s,m⟩ d ty (evA s x)) nx:=rfl
theorem Zf6 {t:TypeId} {l c:Operand}:ZaY P d ty q n os nx (.makeSlice t l c) ⟨s,m⟩=Zcq (if qB n=true then none else ZeU P ⟨s,m⟩ d t (evA s l) (evA s c)) nx:=rfl
theorem ZiX {args:List Operand} {ts:Array TypeId}:ZaY P d ty q n os nx (.call ⟨.builtin .append,args.toArray,ts⟩) ⟨s,m⟩=Zcq (if qB n=true then none else ZdU P ⟨s,m⟩ d ts (args.map fun x=>nrm m (evA s x))) nx:=rfl
theorem ZmI:Zcq (some σ) nx=nx σ:=rfl
theorem ZmJ {k:Nat} {cs:List C}:newE ⟨s,m⟩ (some k) (some cs)=some ⟨(k,.ref k 0)::Zau k s,(k,.var none cs)::remM k m⟩:=rfl
theorem Zke {x:Operand}:ZfL d x (some ⟨s,m⟩)=newE ⟨s,m⟩ d (ZbG (evA s x)):=rfl
theorem Zkf {t:TypeId} {x y:Operand}:Zeh P d t x y (some ⟨s,m⟩)=ZeB ⟨s,m⟩ d (nrm m (evA s x)) (ZbG (evA s y)) (ZaR P t):=rfl
theorem Zp4 {k off k2:Nat} {us:List C}:ZeB ⟨s,m⟩ none (.ref k off) (some us) (some k2)=storeVar ⟨s,m⟩ k off k2 us (gm m k):=rfl
theorem Zp5 {k j sz off k2:Nat} {us:List C}:ZeB ⟨s,m⟩ none (.row k j sz off) (some us) (some k2)=storeRow ⟨s,m⟩ k j sz off k2 us (gm m k):=rfl
theorem Zp6 {o:Option Nat} {k off k2:Nat} {us cs:List C}:storeVar ⟨s,m⟩ k off k2 us (some (.var o cs))=if us.length=k2∧off+k2<=cs.length then some ⟨s,(k,.var o (cs.take off++us++cs.drop (off+k2)))::remM k m⟩ else none:=rfl
def ZiY (s:List (Nat × A)) (m:List (Nat × Bk)) (o:Option (Option Addr × Nat)) (k j e sz off k2:Nat) (us:List C) (rows:List (List C)):Option (List C)->Option St
 | some r=>if us.length=k2∧off+k2<=r.length then some ⟨s,(k,.buf o e sz (rows.set j (r.take off++us++r.drop (off+k2))))::remM k m⟩ else none
 | none=>none
theorem Zp7 {o:Option (Option Addr × Nat)} {k j sz sz' off k2 e:Nat} {us:List C} {rows:List (List C)}:storeRow ⟨s,m⟩ k j sz off k2 us (some (.buf o e sz' rows))=if sz'=sz then ZiY s m o k j e sz off k2 us rows rows[j]? else none:=by
 simp only [storeRow];split
 ·unfold ZiY;cases rows[j]? <;> rfl
 ·rfl
theorem s_bf {o:Option (Option Addr × Nat)} {k j sz off k2 e:Nat} {us r:List C} {rows:List (List C)}:ZiY s m o k j e sz off k2 us rows (some r)=if us.length=k2∧off+k2<=r.length then some ⟨s,(k,.buf o e sz (rows.set j (r.take off++us++r.drop (off+k2))))::remM k m⟩ else none:=rfl
theorem Zkg {o:Option Nat} {cs:List C}:varA (some (.var o cs))=some cs:=rfl
theorem Zkh {o:Option (Option Addr × Nat)} {j sz sz' e:Nat} {rows:List (List C)}:rowA j sz (some (.buf o e sz' rows))=if sz'=sz then rows[j]? else none:=rfl
theorem Zp8 {k:Nat} {c:C}:Zcg P ⟨s,m⟩ (some k) ty (.d (.one c))=some ⟨(k,.d (.one c))::s,m⟩:=rfl
theorem Zp9 {k:Nat} {c:List C}:Zcg P ⟨s,m⟩ (some k) ty (.d (.agg c))=some ⟨(k,.d (.agg c))::s,m⟩:=rfl
theorem ZmK {k:Nat} {r:List C} {rs:List (List C)}:Zcg P ⟨s,m⟩ (some k) ty (.d (.clip (r::rs)))=some ⟨(k,.d (.clip (r::rs)))::s,m⟩:=rfl
theorem Zqa {k:Nat}:Zcg P ⟨s,m⟩ (some k) ty (.d (.clip []))=newB ⟨s,m⟩ k (Za6 P ty):=rfl
theorem Zqb {k:Nat} {x:List D}:Zcg P ⟨s,m⟩ (some k) ty (.tup x)=some ⟨(k,.tup x)::s,m⟩:=rfl
theorem Zqc {k k' off:Nat}:Zcg P ⟨s,m⟩ (some k) ty (.ref k' off)=some ⟨(k,.ref k' off)::s,m⟩:=rfl
theorem Zqd {k k':Nat}:Zcg P ⟨s,m⟩ (some k) ty (.buf k')=ZfK ⟨s,m⟩ k' k (gm m k'):=rfl
theorem Zki {o:Option (Option Addr × Nat)} {k k' e sz:Nat} {rows:List (List C)}:ZfK ⟨s,m⟩ k k' (some (.buf o e sz rows))=if k=k' then some ⟨(k',.buf k')::s,m⟩ else some (ownE ⟨s,m⟩ k k' (.buf o e sz rows)):=rfl
theorem Zkj {k e sz b:Nat}:newB ⟨s,m⟩ k (some (e,sz,b))=some ⟨(k,.buf k)::Zau k s,(k,.buf none e sz [])::remM k m⟩:=rfl
theorem Zkk {k:Nat}:newB ⟨s,m⟩ k none=some ⟨(k,.d (.clip []))::s,m⟩:=rfl
theorem Zqe {k k':Nat} {bk:Bk}:ownE ⟨s,m⟩ k k' bk=⟨(k',.buf k')::Zau k' (Zau k s),(k',bk)::remM k' (remM k m)⟩:=rfl
theorem ZmL {k:Nat}:Zau k []=[]:=rfl
theorem ZmM {k k' off t:Nat} {r:List (Nat × A)}:Zau k ((t,.ref k' off)::r)=(t,if k'=k then .undef else .ref k' off)::Zau k r:=rfl
theorem ZmN {k k' t:Nat} {r:List (Nat × A)}:Zau k ((t,.buf k')::r)=(t,if k'=k then .undef else .buf k')::Zau k r:=rfl
theorem ZmO {k k' j sz off t:Nat} {r:List (Nat × A)}:Zau k ((t,.row k' j sz off)::r)=(t,if k'=k then .undef else .row k' j sz off)::Zau k r:=rfl
theorem kl_d {k t:Nat} {x:D} {r:List (Nat × A)}:Zau k ((t,.d x)::r)=(t,.d x)::Zau k r:=rfl
theorem ZmP {k t:Nat} {x:List D} {r:List (Nat × A)}:Zau k ((t,.tup x)::r)=(t,.tup x)::Zau k r:=rfl
theorem ZiZ {k t:Nat} {r:List (Nat × A)}:Zau k ((t,.undef)::r)=(t,.undef)::Zau k r:=rfl
theorem Zqf {k t:Nat} {r:List (Nat × A)}:Zau k ((t,.no)::r)=(t,.no)::Zau k r:=rfl
theorem ZmQ {k:Nat}:remM k []=[]:=rfl
theorem Zkl {k t:Nat} {a:Bk} {r:List (Nat × Bk)}:remM k ((t,a)::r)=if t=k then remM k r else (t,a)::remM k r:=rfl
def appX (s:List (Nat × A)) (m:List (Nat × Bk)) (k e sz:Nat) (y:A) (ys:List (List C)):A->Option St
 | .buf k'=>if ZgD k' y=true then none else ZeC ⟨s,m⟩ k k' e sz ys (gm m k')
 | .d (.clip rows)=>if ZaC sz rows=true∧rows.length+ys.length<=maxApp∧(rows.isEmpty || !ys.isEmpty)=true then some ⟨(k,.buf k)::Zau k s,(k,.buf none e sz (rows++ys))::remM k m⟩ else none
 | _=>none
def appA (s:List (Nat × A)) (m:List (Nat × Bk)) (k:Nat) (x y:A):Option (TypeId × Nat × Nat)->Option (List (List C))->Option St
 | some (e,sz,_),some ys=>if ZaC sz ys=true then appX s m k e sz y ys x else none
 | _,_=>none
theorem Zqg {k:Nat} {t:TypeId} {x y:A}:ZdU P ⟨s,m⟩ (some k) #[t,t] [x,y]=appA s m k x y (Za6 P t) (slA m y):=by
 unfold ZdU appA;simp only [List.getElem?_toArray,Tat,Tau,if_true]
 cases Za6 P t with
 | none=>rfl
 | some b =>
  obtain ⟨e,sz,b⟩:=b
  cases slA m y with
  | none=>rfl
  | some ys =>
   simp only;split
   ·cases x with
    | d x=>cases x <;> rfl
    | _=>rfl
   ·rfl
theorem Zkm {k e sz b:Nat} {x y:A} {ys:List (List C)}:appA s m k x y (some (e,sz,b)) (some ys)=if ZaC sz ys=true then appX s m k e sz y ys x else none:=rfl
theorem ZmR {k k' e sz:Nat} {y:A} {ys:List (List C)}:appX s m k e sz y ys (.buf k')=if ZgD k' y=true then none else ZeC ⟨s,m⟩ k k' e sz ys (gm m k'):=rfl
theorem Zkn {k e sz:Nat} {y:A} {ys rows:List (List C)}:appX s m k e sz y ys (.d (.clip rows))=if ZaC sz rows=true∧rows.length+ys.length<=maxApp∧(rows.isEmpty || !ys.isEmpty)=true then some ⟨(k,.buf k)::Zau k s,(k,.buf none e sz (rows++ys))::remM k m⟩ else none:=rfl
theorem Zko {o:Option (Option Addr × Nat)} {k k' e e' sz sz':Nat} {ys rows:List (List C)}:ZeC ⟨s,m⟩ k k' e sz ys (some (.buf o e' sz' rows))=if e'=e∧sz'=sz∧rows.length+ys.length<=maxApp then some (ownE ⟨s,m⟩ k' k (.buf none e' sz (rows++ys))) else none:=rfl
theorem ib_d {k:Nat} {x:D}:ZgD k (.d x)=false:=rfl
theorem ZmS {k k':Nat}:ZgD k (.buf k')=(k'==k):=rfl
def Zit (s:List (Nat × A)) (m:List (Nat × Bk)) (k e sz:Nat) (a b:Int):Option (List C)->Option St
 | some z=>if a=b∧0<=a∧a<=maxApp∧z.all Zal=true then some ⟨(k,.buf k)::Zau k s,(k,.buf none e sz (List.replicate a.toNat z))::remM k m⟩ else none
 | none=>none
def ZlH (P:Program) (s:List (Nat × A)) (m:List (Nat × Bk)) (k:Nat):Option Int->Option Int->Option (TypeId × Nat × Nat)->Option St
 | some a,some b,some (e,sz,_)=>Zit s m k e sz a b (ZaO P e)
 | _,_,_=>none
theorem Zqh {k:Nat} {t:TypeId} {l c:A}:ZeU P ⟨s,m⟩ (some k) t l c=ZlH P s m k (intA l) (intA c) (Za6 P t):=by
 unfold ZeU ZlH
 cases intA l with
 | none=>rfl
 | some a =>
  cases intA c with
  | none=>rfl
  | some b =>
   cases Za6 P t with
   | none=>rfl
   | some q =>
    obtain ⟨e,sz,q⟩:=q;simp only [Zit]
    cases ZaO P e <;> rfl
theorem Zkp {k e sz q:Nat} {a b:Int}:ZlH P s m k (some a) (some b) (some (e,sz,q))=Zit s m k e sz a b (ZaO P e):=rfl
theorem Zkq {k e sz:Nat} {a b:Int} {z:List C}:Zit s m k e sz a b (some z)=if a=b∧0<=a∧a<=maxApp∧z.all Zal=true then some ⟨(k,.buf k)::Zau k s,(k,.buf none e sz (List.replicate a.toNat z))::remM k m⟩ else none:=rfl
theorem ZmT {j:Int}:intA (.d (.one (.lit (.int .i64 j))))=some j:=rfl
theorem Zqi {t:Nat}:evA s (.tmp t)=gs s t:=rfl
theorem Zkr {v:Value}:evA s (.const v)=ZcM v:=rfl
theorem ZmU {f:FuncId}:evA s (.func f)=.d (.one (.fn f [])):=rfl
theorem Zqj {k:IntKind} {i:Int}:ZcM (.int k i)=.d (.one (.lit (.int k i))):=rfl
theorem ZmV {b:Bool}:ZcM (.bool b)=.d (.one (.lit (.bool b))):=rfl
theorem Zqk {b:ByteArray}:ZcM (.string b)=.d (.one (.lit (.string b))):=rfl
theorem t_sl:ZcM (.slice none 0 0)=.d (.clip []):=rfl
theorem Zql {p:Option Addr}:ZcM (.pointer p)=.d (.one (.lit (.pointer p))):=rfl
theorem Zqm {l:List Value}:ZcM (.agg l.toArray)=.d (.agg (l.map toC)):=rfl
theorem Zks {k:IntKind} {i:Int}:toC (.int k i)=.lit (.int k i):=rfl
theorem Zkt {b:ByteArray}:toC (.string b)=.lit (.string b):=rfl
theorem Zi0 {b:Bool}:toC (.bool b)=.lit (.bool b):=rfl
theorem ZmW:toC (.slice none 0 0)=.sl []:=rfl
theorem Zku {p:Option Addr}:toC (.pointer p)=.lit (.pointer p):=rfl
theorem Zkv {k:Nat} {a:A}:setA s (some k) a=(k,a)::s:=rfl
theorem Zkw {a:A}:setA s none a=s:=rfl
theorem Zqn {cs:List C}:ptrA m (.d (.one (.ptr cs)))=some cs:=rfl
theorem Zqo {k off:Nat}:ptrA m (.ref k off)=(varA (gm m k)).map (·.drop off):=rfl
theorem Zqp {k j sz off:Nat}:ptrA m (.row k j sz off)=(rowA j sz (gm m k)).map (·.drop off):=rfl
theorem ZmX {k:TK} {cs:List C}:Zc6 (some k) (some cs)=valT k cs:=rfl
theorem Zqq {c:C} {cs:List C}:valT .one (c::cs)=some (.d (.one c)):=rfl
theorem Zqr {k:Nat} {cs:List C}:valT (.agg k) cs=if k<=cs.length then some (.d (.agg (cs.take k))) else none:=rfl
theorem Zkx {a b:A} {t:Bool}:Zim a b (.d (.one (.lit (.bool t))))=some (if t=true then a else b):=rfl
theorem ZmY {cs:List C} {k:Nat} {t:TypeId}:Zb4 (.d (.one (.ptr cs))) (some (k,t))=some (.d (.one (.ptr (cs.drop k)))):=rfl
theorem ZmZ {b off k:Nat} {t:TypeId}:Zb4 (.ref b off) (some (k,t))=some (.ref b (off+k)):=rfl
theorem Zm0 {b j sz off k:Nat} {t:TypeId}:Zb4 (.row b j sz off) (some (k,t))=some (.row b j sz (off+k)):=rfl
theorem Zqs {cs:List C} {k:Nat} {t:TypeId}:Zfh P (.d (.agg cs)) (some (k,t))=Zc6 (ZaP P t) (some (cs.drop k)):=rfl
theorem Zqt {k:Nat} {rows:List (List C)} {kk:IntKind} {j:Int}:Zcm m (some k) (.d (.one (.sl rows))) (.d (.one (.lit (.int kk j))))=if 0<=j then if ZaC k rows=true then eltA rows[j.toNat]? else none else none:=rfl
theorem Zky {k:Nat} {rows:List (List C)} {kk:IntKind} {j:Int}:Zcm m (some k) (.d (.clip rows)) (.d (.one (.lit (.int kk j))))=if 0<=j then if ZaC k rows=true then eltA rows[j.toNat]? else none else none:=rfl
theorem Zm1 {k b:Nat} {kk:IntKind} {j:Int}:Zcm m (some k) (.buf b) (.d (.one (.lit (.int kk j))))=ZgA b k j (gm m b):=rfl
theorem Zm2 {o:Option (Option Addr × Nat)} {k b e sz:Nat} {j:Int} {rows:List (List C)}:ZgA b k j (some (.buf o e sz rows))=if sz=k then if 0<=j then if j.toNat < rows.length then some (.row b j.toNat sz 0) else none else none else none:=rfl
theorem Zkz {r:List C}:eltA (some r)=some (.d (.one (.ptr r))):=rfl
theorem Zqu {b:ByteArray} {kk:IntKind} {j:Int}:Zfi (some .string) (.d (.one (.lit (.string b)))) (.d (.one (.lit (.int kk j))))=if 0<=j then Zin b[j.toNat]? else none:=rfl
theorem ZkA {b:UInt8}:Zin (some b)=some (.d (.one (.lit (.int .u8 b.toNat)))):=rfl
theorem ZkB {v:Value}:litA (some v)=some (.d (.one (.lit v))):=rfl
theorem Zqv {op:BinOp} {t:TypeId} {a b:Value}:binA P t op (.d (.one (.lit a))) (.d (.one (.lit b)))=litA (binT P op t a b):=rfl
theorem Zqw {op:UnOp} {a:Value}:unA op (.d (.one (.lit a)))=litA (unV op a):=rfl
theorem Zm3 {b:Bool}:unV .not (.bool b)=some (.bool (!b)):=rfl
theorem Zm4 {a:Int}:unV .neg (.int .i64 a)=some (.int .i64 (IntKind.i64.wrap (0 - a))):=rfl
theorem ZkC {x:D}:dA (some x)=some (.d x):=rfl
theorem Zqx {i:Nat} {xs:List D}:ZdZ i (.tup xs)=dA xs[i]?:=rfl
theorem Zm5 {cs:List C}:nilA (.d (.one (.ptr cs)))=some (.d (.one (.ptr cs))):=rfl
theorem Zqy {f:FuncId} {cs:List C}:nilA (.d (.one (.fn f cs)))=some (.d (.one (.fn f cs))):=rfl
theorem Zm6 {k off:Nat}:nilA (.ref k off)=some (.ref k off):=rfl
theorem Zqz {rows:List (List C)}:lenA m (some true) [.d (.one (.sl rows))]=some (.d (.one (.lit (.int .i64 rows.length)))):=rfl
theorem ZqA {rows:List (List C)}:lenA m (some true) [.d (.clip rows)]=some (.d (.one (.lit (.int .i64 rows.length)))):=rfl
theorem ZqB {k:Nat}:lenA m (some true) [.buf k]=lenS (bufA (gm m k)):=rfl
theorem ZqC {p:Option Addr} {k cap:Nat}:lenA m (some true) [.d (.one (.lit (.slice p k cap)))]=some (.d (.one (.lit (.int .i64 k)))):=rfl
theorem Zm7 {b:ByteArray}:lenA m (some false) [.d (.one (.lit (.string b)))]=some (.d (.one (.lit (.int .i64 b.size)))):=rfl
theorem ZkD {rows:List (List C)}:lenS (some rows)=some (.d (.one (.lit (.int .i64 rows.length)))):=rfl
theorem ZqD {rows:List (List C)}:slA m (.d (.one (.sl rows)))=some rows:=rfl
theorem ZkE {rows:List (List C)}:slA m (.d (.clip rows))=some rows:=rfl
theorem Zm8 {k:Nat}:slA m (.buf k)=bufA (gm m k):=rfl
theorem ZkF {o:Option (Option Addr × Nat)} {e sz:Nat} {rows:List (List C)}:bufA (some (.buf o e sz rows))=some rows:=rfl
theorem ZqE {x y:Int}:maxA [.d (.one (.lit (.int .i64 x))),.d (.one (.lit (.int .i64 y)))]=some (.d (.one (.lit (.int .i64 (if y > x then y else x))))):=rfl
theorem ZqF {x y:Int}:minA [.d (.one (.lit (.int .i64 x))),.d (.one (.lit (.int .i64 y)))]=some (.d (.one (.lit (.int .i64 (if y < x then y else x))))):=rfl
theorem ZqG {e sz b k:Nat} {parts:List (Nat × A)}:ZcY (some (e,sz,b)) k parts=if parts.length=k∧k * sz<=16777216 then Zio (Zdf sz 0 parts) else none:=rfl
theorem ZkG {rows:List (List C)}:Zio (some rows)=some (.d (.clip rows)):=rfl
theorem Zm9 {sz i:Nat}:Zdf sz i []=some []:=rfl
def Zi1 (sz:Nat) (r:Option (List (List C))):Option (List C)->Option (List (List C))
 | some cs=>if cs.length=sz then r.map (cs::·) else none
 | none=>none
theorem ZkH {sz i j:Nat} {x:A} {r:List (Nat × A)}:Zdf sz i ((j,x)::r)=if i=j then Zi1 sz (Zdf sz (i+1) r) (ZbG x) else none:=by
 show (if i=j then _ else _)=_;unfold Zi1;split
 ·cases ZbG x <;> rfl
 ·rfl
theorem ZkI {sz:Nat} {r:Option (List (List C))} {cs:List C}:Zi1 sz r (some cs)=if cs.length=sz then r.map (cs::·) else none:=rfl
def Zi2 (P:Program) (t:TypeId) (parts:List (Nat × A)):Bool->Option (List C)->Option A
 | true,some cs=>if cs.all Zal=true then aggA (Zcb P t cs parts) else none
 | _,_=>none
theorem ZqH {t:TypeId} {parts:List (Nat × A)}:ZeA P t parts=Zi2 P t parts (Za2 P t) (ZaO P t):=by
 unfold ZeA Zi2
 cases Za2 P t <;> cases ZaO P t <;> rfl
theorem ZkJ {t:TypeId} {parts:List (Nat × A)} {cs:List C}:Zi2 P t parts true (some cs)=if cs.all Zal=true then aggA (Zcb P t cs parts) else none:=rfl
theorem ZkK {cs:List C}:aggA (some cs)=some (.d (.agg cs)):=rfl
theorem Zna {t:TypeId} {cs:List C}:Zcb P t cs []=some cs:=rfl
def ZlI (P:Program) (t:TypeId) (cs:List C) (r:List (Nat × A)):Option (Nat × TypeId)->Option (List C)->Option (List C)
 | some (off,ft),some us=>if ZaR P ft=some us.length∧off+us.length<=cs.length then Zcb P t (cs.take off++us++cs.drop (off+us.length)) r else none
 | _,_=>none
theorem ZkL {t:TypeId} {cs:List C} {f:Nat} {x:A} {r:List (Nat × A)}:Zcb P t cs ((f,x)::r)=ZlI P t cs r (offT P t f) (ZbG x):=by
 conv=>lhs;unfold Zcb
 unfold ZlI;rcases offT P t f with _ | ⟨off,ft⟩ <;> cases ZbG x <;> rfl
theorem ZkM {t ft:TypeId} {cs us:List C} {off:Nat} {r:List (Nat × A)}:ZlI P t cs r (some (off,ft)) (some us)=if ZaR P ft=some us.length∧off+us.length<=cs.length then Zcb P t (cs.take off++us++cs.drop (off+us.length)) r else none:=rfl
def ZlJ (n:Int):Option TypeDesc->Option IntKind->Option A
 | some _,some k=>some (.d (.one (.lit (.int k (k.wrap n)))))
 | _,_=>none
theorem Znb {a b:TypeId} {k:IntKind} {j:Int}:ZfJ P a b (.d (.one (.lit (.int k j))))=ZlJ j (P.underlying a) (ZdY (P.underlying b)):=by
 unfold ZfJ ZlJ
 cases P.underlying a <;> cases ZdY (P.underlying b) <;> rfl
theorem ZkN {t:TypeDesc} {k:IntKind} {j:Int}:ZlJ j (some t) (some k)=some (.d (.one (.lit (.int k (k.wrap j))))):=rfl
theorem ZkO {k:IntKind}:ZdY (some (.int k))=some k:=rfl
theorem ZkP {f:FuncId} {cs:List C}:fnA f (some cs)=some (.d (.one (.fn f cs))):=rfl
theorem Znc:csA []=some []:=rfl
theorem ZkQ {c:C} {r:List A}:csA (.d (.one c)::r)=(csA r).map (c::·):=rfl
def ZgS (lo hi mx:Option A) (k:Nat):Option (List (List C))->Option A
 | some rows=>if ZaC k rows=true∧(mx.isNone || hi.isSome)=true then dA (Zez rows (loA lo) (hiA rows.length hi) (mx.map intA)) else none
 | none=>none
def Zi3 (P:Program) (t:TypeId) (x:A) (lo hi mx:Option A):Option Nat->Option A
 | some k=>ZgS lo hi mx k (ZdX x)
 | none=>if ZiC (P.underlying t)∧mx=none then match strA x with
   | some s=>dA (Zhf s (loA lo) (hiA s.size hi))
   | none=>none
  else none
theorem ZqI {t:TypeId} {x:A} {lo hi mx:Option A}:Zdk P t x lo hi mx=Zi3 P t x lo hi mx (Zbp P t):=by
 unfold Zdk Zi3 ZgS
 cases Zbp P t with
 | none=>rfl
 | some k=>cases ZdX x <;> rfl
theorem ZkR {t:TypeId} {x:A} {lo hi mx:Option A} {k:Nat}:Zi3 P t x lo hi mx (some k)=ZgS lo hi mx k (ZdX x):=rfl
theorem ZkS {lo hi mx:Option A} {k:Nat} {rows:List (List C)}:ZgS lo hi mx k (some rows)=if ZaC k rows=true∧(mx.isNone || hi.isSome)=true then dA (Zez rows (loA lo) (hiA rows.length hi) (mx.map intA)) else none:=rfl
theorem Znd {rows:List (List C)}:ZdX (.d (.one (.sl rows)))=some rows:=rfl
theorem Zi4 {rows:List (List C)}:ZdX (.d (.clip rows))=some rows:=rfl
theorem ZkT:loA none=some 0:=rfl
theorem ZkU {x:A}:loA (some x)=intA x:=rfl
theorem ZkV {k:Nat}:hiA k none=some (k:Int):=rfl
theorem ZkW {k:Nat} {x:A}:hiA k (some x)=intA x:=rfl
theorem sl_2 {rows:List (List C)} {l h:Int}:Zez rows (some l) (some h) none=if 0<=l∧l<=h∧h<=rows.length then some (.one (.sl ((rows.take h.toNat).drop l.toNat))) else none:=rfl
theorem sl_3 {rows:List (List C)} {l h k:Int}:Zez rows (some l) (some h) (some (some k))=if 0<=l∧l<=h∧h<=rows.length∧k=h then some (.clip ((rows.take h.toNat).drop l.toNat)) else none:=rfl
theorem Zne {c:C}:ZbG (.d (.one c))=if Zal c=true then some [c] else none:=rfl
theorem Znf {cs:List C}:ZbG (.d (.agg cs))=if cs.all Zal=true then some cs else none:=rfl
theorem ZkX {rows:List (List C)}:ZbG (.d (.clip rows))=some [.sl rows]:=rfl
theorem Zng {k:IntKind} {i:Int}:Zal (.lit (.int k i))=true:=rfl
theorem ZkY {b:Bool}:Zal (.lit (.bool b))=true:=rfl
theorem Znh {b:ByteArray}:Zal (.lit (.string b))=true:=rfl
theorem Zni {b:Option Nat}:Zal (.lit (.map b))=true:=rfl
theorem ZqJ {b:Option Addr}:Zal (.lit (.pointer b))=true:=rfl
theorem Znj {a:Option Addr} {n c:Nat}:Zal (.lit (.slice a n c))=true:=rfl
theorem ZqK {rows:List (List C)}:Zal (.sl rows)=true:=rfl
theorem Znk {cs:List C}:Zal (.ptr cs)=true:=rfl
theorem ZqL {f:Nat} {cs:List C}:Zal (.fn f cs)=true:=rfl
theorem Znl:dsA []=some []:=rfl
theorem ZkZ {x:D} {r:List A}:dsA (.d x::r)=(dsA r).map (x::·):=rfl
theorem ZqM {q:Bool} {c:Operand} {args:List Operand}:Zek q c args ⟨s,m⟩=Zis c args (frzQ q (ZcH (args.map (evA s))) ⟨s,m⟩):=rfl
theorem cp_s {c:Operand} {args:List Operand}:Zis c args (some ⟨s,m⟩)=Zir (evA s c) (dsA (args.map (evA s))) ⟨s,m⟩:=rfl
theorem cp_x {f:FuncId} {caps:List C} {xs:List D}:Zir (.d (.one (.fn f caps))) (some xs) σ=some (f,xs++caps.map .one,σ):=rfl
theorem ZqN {c x0:Operand} {rest:List Operand}:ZrZ c x0 rest ⟨s,m⟩=ZlG m (Zcy (evA s c)) (dsA (rest.map (evA s))) (nrm m (evA s x0)):=rfl
theorem co_z {f:Option (FuncId × List C)} {xs:Option (List D)} {k:Nat}:ZlG m f xs (.buf k)=ZlF f k xs (gm m k):=rfl
theorem co_y {o:Option (Option Addr × Nat)} {f:FuncId} {caps:List C} {xs:List D} {k ty sz:Nat} {rows:List (List C)}:ZlF (some (f,caps)) k (some xs) (some (.buf o ty sz rows))=some (f,k,ty,sz,rows,xs++caps.map .one):=rfl
theorem ZqO {f:FuncId} {caps:List C}:Zcy (.d (.one (.fn f caps)))=some (f,caps):=rfl
theorem Zk0 {t:Nat}:resA P ⟨s,m⟩ (.slot t)=gs s t:=rfl
theorem Zk1 {t k:Nat}:resA P ⟨s,m⟩ (.cell t k)=(Zc6 (ZaP P k) (ptrA m (gs s t))).getD .undef:=rfl
theorem ZqP {x:D}:retA [x]=.d x:=rfl
theorem ZqQ {x y:D} {r:List D}:retA (x::y::r)=.tup (x::y::r):=rfl
theorem r_no:retA []=.tup []:=rfl
theorem Znm {t:TypeId} {a b:Int}:binT P .add t (.int .i64 a) (.int .i64 b)=some (.int .i64 (IntKind.i64.wrap (a+b))):=rfl
theorem Znn {t:TypeId} {a b:Int}:binT P .sub t (.int .i64 a) (.int .i64 b)=some (.int .i64 (IntKind.i64.wrap (a - b))):=rfl
theorem Zno {t:TypeId} {a b:Int}:binT P .mul t (.int .i64 a) (.int .i64 b)=some (.int .i64 (IntKind.i64.wrap (a * b))):=rfl
theorem Znp {t:TypeId} {a b:Int}:binT P .lss t (.int .i64 a) (.int .i64 b)=some (.bool (decide (a < b))):=rfl
theorem Znq {t:TypeId} {a b:Int}:binT P .leq t (.int .i64 a) (.int .i64 b)=some (.bool (decide (a<=b))):=rfl
theorem Znr {t:TypeId} {a b:Int}:binT P .gtr t (.int .i64 a) (.int .i64 b)=some (.bool (decide (b < a))):=rfl
theorem Zns {t:TypeId} {a b:Int}:binT P .geq t (.int .i64 a) (.int .i64 b)=some (.bool (decide (b<=a))):=rfl
theorem Znt {t:TypeId} {a b:Int}:binT P .eql t (.int .i64 a) (.int .i64 b)=some (.bool (decide (a=b))):=rfl
theorem Znu {t:TypeId} {a b:Int}:binT P .neq t (.int .i64 a) (.int .i64 b)=some (.bool (!decide (a=b))):=rfl
theorem Znv {t:TypeId} {a b:Int}:binT P .lss t (.int .u8 a) (.int .u8 b)=some (.bool (decide (a < b))):=rfl
theorem Znw {t:TypeId} {a b:Int}:binT P .leq t (.int .u8 a) (.int .u8 b)=some (.bool (decide (a<=b))):=rfl
theorem Znx {t:TypeId} {a b:Int}:binT P .gtr t (.int .u8 a) (.int .u8 b)=some (.bool (decide (b < a))):=rfl
theorem Zny {t:TypeId} {a b:Int}:binT P .geq t (.int .u8 a) (.int .u8 b)=some (.bool (decide (b<=a))):=rfl
theorem Znz {t:TypeId} {a b:Int}:binT P .eql t (.int .u8 a) (.int .u8 b)=some (.bool (decide (a=b))):=rfl
theorem ZnA {t:TypeId} {a b:Int}:binT P .neq t (.int .u8 a) (.int .u8 b)=some (.bool (!decide (a=b))):=rfl
theorem ZnB {t:TypeId} {a b:ByteArray}:binT P .eql t (.string a) (.string b)=some (.bool (a.toList==b.toList)):=rfl
theorem ZnC {t:TypeId} {a b:ByteArray}:binT P .neq t (.string a) (.string b)=some (.bool (!(a.toList==b.toList))):=rfl
theorem ZnD {t:TypeId} {a b:ByteArray}:binT P .lss t (.string a) (.string b)=some (.bool (Go.Op.bytesLess a.toList b.toList)):=rfl
theorem ZnE {t:TypeId} {a b:Bool}:binT P .eql t (.bool a) (.bool b)=ZeT (P.underlying t) (a==b):=rfl
theorem ZnF {t:TypeId} {a b:Bool}:binT P .neq t (.bool a) (.bool b)=ZeT (P.underlying t) (!(a==b)):=rfl
theorem bb_t {v:Bool}:ZeT (some .bool) v=some (.bool v):=rfl
theorem ZnG {t:TypeId} {a b:Int}:binT P .and t (.int .i64 a) (.int .i64 b)=some (.int .i64 (bits .and .i64 a b)):=rfl
theorem ZqR {t:TypeId} {a b:Int}:binT P .or t (.int .i64 a) (.int .i64 b)=some (.int .i64 (bits .or .i64 a b)):=rfl
theorem ZnH {t:TypeId} {a b:Int}:binT P .xor t (.int .i64 a) (.int .i64 b)=some (.int .i64 (bits .xor .i64 a b)):=rfl
theorem ZhV {t:TypeId} {a b:Int}:binT P .andNot t (.int .i64 a) (.int .i64 b)=some (.int .i64 (bits .andNot .i64 a b)):=rfl
theorem ZnI {t:TypeId} {k:IntKind} {a b:Int}:binT P .shl t (.int .i64 a) (.int k b)=if 0<=b then some (.int .i64 (IntKind.i64.wrap (a * 2 ^ (min b.toNat 64)))) else none:=rfl
theorem ZnJ {t:TypeId} {k:IntKind} {a b:Int}:binT P .shr t (.int .i64 a) (.int k b)=if 0<=b then some (.int .i64 (a.fdiv (2 ^ (min b.toNat 64)))) else none:=rfl
theorem ZnK {t:TypeId} {a b:Int}:binT P .quo t (.int .i64 a) (.int .i64 b)=if b=0 then none else some (.int .i64 (IntKind.i64.wrap (a.tdiv b))):=rfl
theorem ZnL {t:TypeId} {a b:Int}:binT P .rem t (.int .i64 a) (.int .i64 b)=if b=0 then none else some (.int .i64 (a.tmod b)):=rfl
theorem ZnM {t:TypeId} {a b:ByteArray}:binT P .add t (.string a) (.string b)=if a.size+b.size<=9223372036854775807 then some (.string (a++b)) else none:=rfl
theorem ZnN {b off k:Nat} {t:TypeId}:Zb4 (.d (.one (.lit (.pointer (some ⟨b,off,none⟩))))) (some (k,t))=some (.d (.one (.lit (.pointer (some ⟨b,off+k,none⟩))))):=rfl
theorem ZnO {p:Addr}:nilA (.d (.one (.lit (.pointer (some p)))))=some (.d (.one (.lit (.pointer (some p))))):=rfl
theorem ZnP {b off:Nat}:nrm m (.d (.one (.lit (.pointer (some ⟨b,off,none⟩)))))=ZgB m b off (varK b m):=rfl
theorem ZqS {p:Option Addr} {k cap:Nat}:nrm m (.d (.one (.lit (.slice p k cap))))=ZgC m p k cap (bufK p k cap m):=rfl
theorem nr_p {cs:List C}:nrm m (.d (.one (.ptr cs)))=.d (.one (.ptr cs)):=rfl
theorem nr_s {rows:List (List C)}:nrm m (.d (.one (.sl rows)))=.d (.one (.sl rows)):=rfl
theorem nr_c {rows:List (List C)}:nrm m (.d (.clip rows))=.d (.clip rows):=rfl
theorem nr_i {k:IntKind} {i:Int}:nrm m (.d (.one (.lit (.int k i))))=.d (.one (.lit (.int k i))):=rfl
theorem ZnQ {b:ByteArray}:nrm m (.d (.one (.lit (.string b))))=.d (.one (.lit (.string b))):=rfl
theorem ZnR {k off:Nat}:nrm m (.ref k off)=.ref k off:=rfl
theorem ZnS {k:Nat}:nrm m (.buf k)=.buf k:=rfl
theorem ZnT {k j sz off:Nat}:nrm m (.row k j sz off)=.row k j sz off:=rfl
theorem ZnU {b:Nat}:varK b []=none:=rfl
theorem ZnV {b b' k:Nat} {cs:List C} {r:List (Nat × Bk)}:varK b ((k,.var (some b') cs)::r)=if b=b' then some k else varK b r:=rfl
theorem ZnW {b k:Nat} {cs:List C} {r:List (Nat × Bk)}:varK b ((k,.var none cs)::r)=varK b r:=rfl
theorem ZnX {b k e sz:Nat} {o:Option (Option Addr × Nat)} {rows:List (List C)} {r:List (Nat × Bk)}:varK b ((k,.buf o e sz rows)::r)=varK b r:=rfl
theorem ZnY {b k:Nat} {E:Nat->Prop} {G:World->Prop} {r:List (Nat × Bk)}:varK b ((k,.set E G)::r)=varK b r:=rfl
theorem ZnZ {p:Option Addr} {k cap:Nat}:bufK p k cap []=none:=rfl
theorem Zn0 {p p':Option Addr} {k cap cap' k' e sz:Nat} {rows:List (List C)} {r:List (Nat × Bk)}:bufK p k cap ((k',.buf (some (p',cap')) e sz rows)::r)=if p=p'∧k=rows.length∧cap=cap' then some k' else bufK p k cap r:=rfl
theorem Zn1 {p:Option Addr} {k cap k' e sz:Nat} {rows:List (List C)} {r:List (Nat × Bk)}:bufK p k cap ((k',.buf none e sz rows)::r)=bufK p k cap r:=rfl
theorem Zn2 {p:Option Addr} {k cap k':Nat} {o:Option Nat} {cs:List C} {r:List (Nat × Bk)}:bufK p k cap ((k',.var o cs)::r)=bufK p k cap r:=rfl
theorem Zn3 {p:Option Addr} {k cap k':Nat} {E:Nat->Prop} {G:World->Prop} {r:List (Nat × Bk)}:bufK p k cap ((k',.set E G)::r)=bufK p k cap r:=rfl
theorem Zk2 {b off k:Nat}:ZgB m b off (some k)=nrmV b off k (gm m k):=rfl
theorem Zk3 {b off:Nat}:ZgB m b off none=.d (.one (.lit (.pointer (some ⟨b,off,none⟩)))):=rfl
theorem Zn4 {b off k b':Nat} {cs:List C}:nrmV b off k (some (.var (some b') cs))=if b=b' then .ref k off else .d (.one (.lit (.pointer (some ⟨b,off,none⟩)))):=rfl
theorem Zn5 {p:Option Addr} {k cap k':Nat}:ZgC m p k cap (some k')=nrmB p k cap k' (gm m k'):=rfl
theorem ZqT {p:Option Addr} {k cap:Nat}:ZgC m p k cap none=.d (.one (.lit (.slice p k cap))):=rfl
theorem Zn6 {p p':Option Addr} {k cap cap' k' e sz:Nat} {rows:List (List C)}:nrmB p k cap k' (some (.buf (some (p',cap')) e sz rows))=if p=p'∧k=rows.length∧cap=cap' then .buf k' else .d (.one (.lit (.slice p k cap))):=rfl
theorem rn_0:runN P ds 0 n os ⟨s,m⟩=.stop n os ⟨s,m⟩:=rfl
theorem rn_n {j:Nat} {op:Op} {t:TypeId} {p:String} {a:Array Edge}:runN P ds (j+1) n (⟨d,op,t,p,a,none⟩::os) ⟨s,m⟩=ZaY P d t (n - 1) n os (runN P ds j (n - 1) os) op ⟨s,m⟩:=rfl
theorem rn_g {j:Nat} {op:Op} {t:TypeId} {p:String} {a:Array Edge} {i:Nat} {w:Bool}:runN P ds (j+1) n (⟨d,op,t,p,a,some (i,w)⟩::os) ⟨s,m⟩=Zdy w (ZaY P d t n n os (runN P ds j (n - 1) os) op) (ZfN d (runN P ds j (n - 1) os)) ⟨s,m⟩ ((ds[i]?.join).map (gs s)):=rfl
theorem st_o:ZgO (.stop n os ⟨s,m⟩)=some (n,os,s,m):=rfl
theorem Zn7 {f:A->A}:mapS f []=[]:=rfl
theorem Zk4 {f:A->A} {t:Nat} {a:A} {r:List (Nat × A)}:mapS f ((t,a)::r)=(t,f a)::mapS f r:=rfl
theorem Zn8 {k b k' off:Nat}:litV k b (.ref k' off)=if k'=k then .d (.one (.lit (.pointer (some ⟨b,off,none⟩)))) else .ref k' off:=rfl
theorem lv_d {k b:Nat} {x:D}:litV k b (.d x)=.d x:=rfl
theorem Zn9 {k b k':Nat}:litV k b (.buf k')=.buf k':=rfl
theorem Zoa {k b k' j sz off:Nat}:litV k b (.row k' j sz off)=.row k' j sz off:=rfl
theorem Zob {k b:Nat} {xs:List D}:litV k b (.tup xs)=.tup xs:=rfl
theorem ZqU {k b:Nat}:litV k b .no=.no:=rfl
theorem ZqV {k b:Nat}:litV k b .undef=.undef:=rfl
theorem Zoc {k k2 cap k':Nat} {p:Option Addr}:litB k p k2 cap (.buf k')=if k'=k then .d (.one (.lit (.slice p k2 cap))) else .buf k':=rfl
theorem lb_d {k k2 cap:Nat} {p:Option Addr} {x:D}:litB k p k2 cap (.d x)=.d x:=rfl
theorem Zod {k k2 cap k' off:Nat} {p:Option Addr}:litB k p k2 cap (.ref k' off)=.ref k' off:=rfl
theorem Zoe {k k2 cap k' j sz off:Nat} {p:Option Addr}:litB k p k2 cap (.row k' j sz off)=.row k' j sz off:=rfl
theorem Zof {k k2 cap:Nat} {p:Option Addr} {xs:List D}:litB k p k2 cap (.tup xs)=.tup xs:=rfl
theorem ZqW {k k2 cap:Nat} {p:Option Addr}:litB k p k2 cap .no=.no:=rfl
theorem ZqX {k k2 cap:Nat} {p:Option Addr}:litB k p k2 cap .undef=.undef:=rfl
theorem Zog:ZbU [] s=s:=rfl
theorem Zk5 {k:Nat} {ks:List Nat}:ZbU (k::ks) s=ZbU ks (Zau k s):=rfl
theorem Zoh:ZbZ [] m=m:=rfl
theorem Zk6 {k:Nat} {ks:List Nat}:ZbZ (k::ks) m=ZbZ ks (remM k m):=rfl
theorem Zk7 {k:Nat} {ks:List Nat} {x:Bk} {xs:List Bk}:zipM (k::ks) (x::xs)=(k,x)::zipM ks xs:=rfl
theorem Zoi {xs:List Bk}:zipM [] xs=[]:=rfl
theorem ZqY {ks:List Nat}:zipM ks []=[]:=by cases ks <;> rfl
def getC:Option Bk->Option (List Bk)->Option (List Bk)
 | some x,some r=>some (x::r)
 | _,_=>none
theorem Zoj:getM m []=some []:=rfl
theorem Zk8 {k:Nat} {ks:List Nat}:getM m (k::ks)=getC (gm m k) (getM m ks):=by
 show (match gm m k,getM m ks with | some x,some r=>some (x::r) | _,_=>none)=_
 cases gm m k <;> cases getM m ks <;> rfl
theorem gt_c {x:Bk} {r:List Bk}:getC (some x) (some r)=some (x::r):=rfl
theorem Zok {b:Nat} {cs:List C}:pinned (.var (some b) cs)=true:=rfl
theorem Zol {q:Option Addr × Nat} {e sz:Nat} {rows:List (List C)}:pinned (.buf (some q) e sz rows)=true:=rfl
theorem Zom {E:Nat->Prop} {G:World->Prop}:pinned (.set E G)=true:=rfl
theorem ZqZ {p p':Option Addr} {k cap k' cap':Nat} {rows:List (List C)}:datC p k cap rows (.lit (.slice p' k' cap'))=if p'=p∧k'=k∧cap'=cap then .sl rows else .lit (.slice p' k' cap'):=rfl
theorem Zon {p:Option Addr} {k cap:Nat} {rows:List (List C)} {kk:IntKind} {i:Int}:datC p k cap rows (.lit (.int kk i))=.lit (.int kk i):=rfl
theorem Zoo {p:Option Addr} {k cap:Nat} {rows:List (List C)} {b:ByteArray}:datC p k cap rows (.lit (.string b))=.lit (.string b):=rfl
theorem Zk9 {p:Option Addr} {k cap:Nat} {rows:List (List C)} {b:Bool}:datC p k cap rows (.lit (.bool b))=.lit (.bool b):=rfl
theorem Zop {p:Option Addr} {k cap:Nat} {rows:List (List C)} {q:Option Addr}:datC p k cap rows (.lit (.pointer q))=.lit (.pointer q):=rfl
theorem Zoq {p:Option Addr} {k cap:Nat} {rows:List (List C)} {q:Option Nat}:datC p k cap rows (.lit (.map q))=.lit (.map q):=rfl
theorem dc_s {p:Option Addr} {k cap:Nat} {rows rs:List (List C)}:datC p k cap rows (.sl rs)=.sl rs:=rfl
theorem dc_p {p:Option Addr} {k cap:Nat} {rows:List (List C)} {cs:List C}:datC p k cap rows (.ptr cs)=.ptr cs:=rfl
theorem dc_f {p:Option Addr} {k cap:Nat} {rows:List (List C)} {f:FuncId} {cs:List C}:datC p k cap rows (.fn f cs)=.fn f cs:=rfl
theorem Zor {p:Option Addr} {k cap:Nat} {rows:List (List C)} {c:C}:datA p k cap rows (.d (.one c))=.d (.one (datC p k cap rows c)):=rfl
theorem Zos {p:Option Addr} {k cap:Nat} {rows:List (List C)} {cs:List C}:datA p k cap rows (.d (.agg cs))=.d (.agg (cs.map (datC p k cap rows))):=rfl
theorem Zot {p:Option Addr} {k cap k' off:Nat} {rows:List (List C)}:datA p k cap rows (.ref k' off)=.ref k' off:=rfl
theorem Zou {p:Option Addr} {k cap:Nat} {rows:List (List C)}:datS p k cap rows [] s=s:=rfl
theorem Zla {p:Option Addr} {k cap t:Nat} {rows:List (List C)} {ts:List Nat}:datS p k cap rows (t::ts) s=datS p k cap rows ts ((t,datA p k cap rows (gs s t))::s):=rfl
theorem Zov {p:Option Addr} {k cap:Nat} {rows:List (List C)}:datM p k cap rows [] m=m:=rfl
theorem Zlb {p:Option Addr} {k cap t:Nat} {rows:List (List C)} {ts:List Nat}:datM p k cap rows (t::ts) m=datM p k cap rows ts (datV p k cap rows t m (gm m t)):=rfl
theorem Zow {p:Option Addr} {k cap t:Nat} {rows:List (List C)} {o:Option Nat} {cs:List C}:datV p k cap rows t m (some (.var o cs))=(t,.var o (cs.map (datC p k cap rows)))::remM t m:=rfl
def unD:A->Option D
 | .d x=>some x
 | _=>none
def Ziu:Option D->Option (List D)->Option (List D)
 | some x,some r=>some (x::r)
 | _,_=>none
def resD (P:Program) (σ:St):List RS->Option (List D)
 | []=>some []
 | t::ts=>Ziu (unD (resA P σ t)) (resD P σ ts)
theorem Zox:resD P ⟨s,m⟩ []=some []:=rfl
theorem Zlc {t:RS} {ts:List RS}:resD P ⟨s,m⟩ (t::ts)=Ziu (unD (resA P ⟨s,m⟩ t)) (resD P ⟨s,m⟩ ts):=rfl
theorem Zld {x:D} {r:List D}:Ziu (some x) (some r)=some (x::r):=rfl
theorem ud_d {x:D}:unD (.d x)=some x:=rfl
end
theorem Zgq {P:Program} {σ:St}:∀ {ts:List RS} {r:List D},resD P σ ts=some r->Zcc P σ ts r
 | [],r,h=>by simp only [resD,Taq] at h;subst h;trivial
 | t::ts,r,h=>by
  simp only [resD] at h;unfold Ziu at h;split at h
  ·rename_i x r' hx hr;injection h with h;subst h
   refine ⟨?_,Zgq hr⟩;unfold unD at hx;split at hx
   ·rename_i y hy;injection hx with hx;subst hx;exact hy
   ·cases hx
  ·cases h
end Go.Proofs.Ytjoaefnnnbpflaa
set_option maxRecDepth 10000
namespace Go.Proofs.Ytjoaefnnnbpflaa
open Go.RowKit
theorem tt_0:(ZaP Try.prog 2=some .one)∧(ZaR Try.prog 2=some 1)∧(ZaO Try.prog 2=some [.lit (.int .i64 0)])∧(ZaP Try.prog 3=some .one)∧(ZaR Try.prog 3=some 1)∧(ZaO Try.prog 3=some [.lit (.int .i64 0)])∧(ZaP Try.prog 4=some .one)∧(ZaR Try.prog 4=some 1)∧(ZaO Try.prog 4=some [.lit (.bool false)])∧(Try.prog.underlying 4=some .bool)∧(ZaP Try.prog 5=some .one)∧(ZaR Try.prog 5=some 1)∧(ZaO Try.prog 5=some [.lit (.int .u8 0)])∧(ZaP Try.prog 9=some .one)∧(ZaR Try.prog 9=some 1)∧(ZaO Try.prog 9=some [.lit (.string ByteArray.empty)])∧(lenT Try.prog #[9]=some false)∧(Try.prog.underlying 9=some .string)∧(ZaP Try.prog 22=some .one)∧(ZaR Try.prog 22=some 1)∧(ZaO Try.prog 22=some [.sl []])∧(Zbp Try.prog 22=some 4)∧(lenT Try.prog #[22]=some true)∧(Za6 Try.prog 22=some (24,4,56))∧(ZaP Try.prog 24=some (.agg 4))∧(ZaR Try.prog 24=some 4)∧(ZaO Try.prog 24=some [.lit (.int .i64 0),.lit (.string ByteArray.empty),.lit (.int .i64 0),.sl []])∧(Za2 Try.prog 24=true)∧(offT Try.prog 24 0=some (0,3))∧(offT Try.prog 24 1=some (1,9))∧(offT Try.prog 24 2=some (2,3))∧(offT Try.prog 24 3=some (3,22))∧(ZaP Try.prog 25=some .one)∧(ZaR Try.prog 25=some 1)∧(ZaO Try.prog 25=some [.sl []])∧(Zbp Try.prog 25=some 6)∧(lenT Try.prog #[25]=some true)∧(Za6 Try.prog 25=some (85,6,128))∧(ZaP Try.prog 27=some (.agg 9))∧(ZaR Try.prog 27=some 9):=by repeat' (first | refine ai ?_ ?_ | kernel_rfl)
theorem tt_1:(ZaO Try.prog 27=some [.lit (.int .i64 0),.lit (.string ByteArray.empty),.lit (.int .i64 0),.sl [],.lit (.int .i64 0),.lit (.string ByteArray.empty),.lit (.int .i64 0),.sl [],.sl []])∧(Za2 Try.prog 27=true)∧(offT Try.prog 27 0=some (0,24))∧(offT Try.prog 27 1=some (4,24))∧(offT Try.prog 27 2=some (8,25))∧(ZaP Try.prog 29=some .one)∧(ZaR Try.prog 29=some 1)∧(ZaO Try.prog 29=some [.sl []])∧(Zbp Try.prog 29=some 4)∧(lenT Try.prog #[29]=some true)∧(Za6 Try.prog 29=some (31,4,56))∧(ZaP Try.prog 31=some (.agg 4))∧(ZaR Try.prog 31=some 4)∧(ZaO Try.prog 31=some [.lit (.int .i64 0),.lit (.string ByteArray.empty),.lit (.int .i64 0),.sl []])∧(Za2 Try.prog 31=true)∧(Zdr Try.prog 31=some [.lit (.int .i64 0),.lit (.string ByteArray.empty),.lit (.int .i64 0),.lit (.slice none 0 0)])∧(offT Try.prog 31 0=some (0,3))∧(offT Try.prog 31 1=some (1,9))∧(offT Try.prog 31 2=some (2,3))∧(offT Try.prog 31 3=some (3,29))∧(ZaP Try.prog 32=some .one)∧(ZaR Try.prog 32=some 1)∧(ZaO Try.prog 32=some [.sl []])∧(Zbp Try.prog 32=some 6)∧(lenT Try.prog #[32]=some true)∧(Za6 Try.prog 32=some (89,6,128))∧(ZaP Try.prog 34=some (.agg 9))∧(ZaR Try.prog 34=some 9)∧(ZaO Try.prog 34=some [.lit (.int .i64 0),.lit (.string ByteArray.empty),.lit (.int .i64 0),.sl [],.lit (.int .i64 0),.lit (.string ByteArray.empty),.lit (.int .i64 0),.sl [],.sl []])∧(Za2 Try.prog 34=true)∧(Zdr Try.prog 34=some [.lit (.int .i64 0),.lit (.string ByteArray.empty),.lit (.int .i64 0),.lit (.slice none 0 0),.lit (.int .i64 0),.lit (.string ByteArray.empty),.lit (.int .i64 0),.lit (.slice none 0 0),.lit (.slice none 0 0)])∧(offT Try.prog 34 0=some (0,31))∧(offT Try.prog 34 1=some (4,31))∧(offT Try.prog 34 2=some (8,32))∧(ZaP Try.prog 41=some .one)∧(ZaR Try.prog 41=some 1)∧(ZaO Try.prog 41=some [.sl []])∧(Zbp Try.prog 41=some 9)∧(lenT Try.prog #[41]=some true)∧(Za6 Try.prog 41=some (68,9,160)):=by repeat' (first | refine ai ?_ ?_ | kernel_rfl)
theorem tt_2:(ZaP Try.prog 44=some .one)∧(ZaR Try.prog 44=some 1)∧(ZaO Try.prog 44=some [.sl []])∧(Zbp Try.prog 44=some 9)∧(lenT Try.prog #[44]=some true)∧(Za6 Try.prog 44=some (74,9,160))∧(ZaP Try.prog 63=some .one)∧(ZaR Try.prog 63=some 1)∧(ZaO Try.prog 63=some [.sl []])∧(Zbp Try.prog 63=some 1)∧(lenT Try.prog #[63]=some true)∧(Za6 Try.prog 63=some (3,1,8))∧(ZaP Try.prog 64=some .one)∧(ZaR Try.prog 64=some 1)∧(ZaO Try.prog 64=some [.sl []])∧(Zbp Try.prog 64=some 8)∧(lenT Try.prog #[64]=some true)∧(Za6 Try.prog 64=some (124,8,112))∧(ZaP Try.prog 66=some (.agg 4))∧(ZaR Try.prog 66=some 4)∧(ZaO Try.prog 66=some [.sl [],.sl [],.sl [],.sl []])∧(Za2 Try.prog 66=true)∧(offT Try.prog 66 0=some (0,63))∧(offT Try.prog 66 1=some (1,22))∧(offT Try.prog 66 2=some (2,22))∧(offT Try.prog 66 3=some (3,64))∧(ZaP Try.prog 68=some (.agg 9))∧(ZaR Try.prog 68=some 9)∧(ZaO Try.prog 68=some [.lit (.int .i64 0),.sl [],.sl [],.sl [],.sl [],.lit (.int .i64 0),.lit (.string ByteArray.empty),.lit (.int .i64 0),.sl []])∧(Za2 Try.prog 68=true)∧(offT Try.prog 68 0=some (0,3))∧(offT Try.prog 68 1=some (1,66))∧(offT Try.prog 68 2=some (5,24))∧(ZaP Try.prog 70=some .one)∧(ZaR Try.prog 70=some 1)∧(ZaO Try.prog 70=some [.sl []])∧(Zbp Try.prog 70=some 8)∧(lenT Try.prog #[70]=some true)∧(Za6 Try.prog 70=some (103,8,112))∧(ZaP Try.prog 72=some (.agg 4)):=by repeat' (first | refine ai ?_ ?_ | kernel_rfl)
theorem tt_3:(ZaR Try.prog 72=some 4)∧(ZaO Try.prog 72=some [.sl [],.sl [],.sl [],.sl []])∧(Za2 Try.prog 72=true)∧(Zdr Try.prog 72=some [.lit (.slice none 0 0),.lit (.slice none 0 0),.lit (.slice none 0 0),.lit (.slice none 0 0)])∧(offT Try.prog 72 0=some (0,63))∧(offT Try.prog 72 1=some (1,29))∧(offT Try.prog 72 2=some (2,29))∧(offT Try.prog 72 3=some (3,70))∧(ZaP Try.prog 74=some (.agg 9))∧(ZaR Try.prog 74=some 9)∧(ZaO Try.prog 74=some [.lit (.int .i64 0),.sl [],.sl [],.sl [],.sl [],.lit (.int .i64 0),.lit (.string ByteArray.empty),.lit (.int .i64 0),.sl []])∧(Za2 Try.prog 74=true)∧(Zdr Try.prog 74=some [.lit (.int .i64 0),.lit (.slice none 0 0),.lit (.slice none 0 0),.lit (.slice none 0 0),.lit (.slice none 0 0),.lit (.int .i64 0),.lit (.string ByteArray.empty),.lit (.int .i64 0),.lit (.slice none 0 0)])∧(offT Try.prog 74 0=some (0,3))∧(offT Try.prog 74 1=some (1,72))∧(offT Try.prog 74 2=some (5,31))∧(ZaP Try.prog 83=some .one)∧(ZaR Try.prog 83=some 1)∧(ZaO Try.prog 83=some [.sl []])∧(Zbp Try.prog 83=some 9)∧(lenT Try.prog #[83]=some true)∧(Za6 Try.prog 83=some (27,9,136))∧(ZaP Try.prog 85=some (.agg 6))∧(ZaR Try.prog 85=some 6)∧(ZaO Try.prog 85=some [.lit (.int .i64 0),.sl [],.sl [],.sl [],.sl [],.sl []])∧(Za2 Try.prog 85=true)∧(offT Try.prog 85 0=some (0,3))∧(offT Try.prog 85 1=some (1,66))∧(offT Try.prog 85 2=some (5,83))∧(ZaP Try.prog 87=some .one)∧(ZaR Try.prog 87=some 1)∧(ZaO Try.prog 87=some [.sl []])∧(Zbp Try.prog 87=some 9)∧(lenT Try.prog #[87]=some true)∧(Za6 Try.prog 87=some (34,9,136))∧(ZaP Try.prog 89=some (.agg 6))∧(ZaR Try.prog 89=some 6)∧(ZaO Try.prog 89=some [.lit (.int .i64 0),.sl [],.sl [],.sl [],.sl [],.sl []])∧(Za2 Try.prog 89=true)∧(Zdr Try.prog 89=some [.lit (.int .i64 0),.lit (.slice none 0 0),.lit (.slice none 0 0),.lit (.slice none 0 0),.lit (.slice none 0 0),.lit (.slice none 0 0)]):=by repeat' (first | refine ai ?_ ?_ | kernel_rfl)
theorem tt_4:(offT Try.prog 89 0=some (0,3))∧(offT Try.prog 89 1=some (1,72))∧(offT Try.prog 89 2=some (5,87))∧(ZaP Try.prog 90=some .one)∧(ZaR Try.prog 90=some 1)∧(ZaO Try.prog 90=some [.sl []])∧(Zbp Try.prog 90=some 4)∧(lenT Try.prog #[90]=some true)∧(Za6 Try.prog 90=some (72,4,96))∧(ZaP Try.prog 103=some (.agg 8))∧(ZaR Try.prog 103=some 8)∧(ZaO Try.prog 103=some [.lit (.int .i64 0),.lit (.string ByteArray.empty),.lit (.int .i64 0),.sl [],.lit (.int .i64 0),.lit (.string ByteArray.empty),.lit (.int .i64 0),.sl []])∧(Za2 Try.prog 103=true)∧(Zdr Try.prog 103=some [.lit (.int .i64 0),.lit (.string ByteArray.empty),.lit (.int .i64 0),.lit (.slice none 0 0),.lit (.int .i64 0),.lit (.string ByteArray.empty),.lit (.int .i64 0),.lit (.slice none 0 0)])∧(offT Try.prog 103 0=some (0,31))∧(offT Try.prog 103 1=some (4,31))∧(ZaP Try.prog 104=some .one)∧(ZaR Try.prog 104=some 1)∧(ZaO Try.prog 104=some [.sl []])∧(Zbp Try.prog 104=some 1)∧(lenT Try.prog #[104]=some true)∧(Za6 Try.prog 104=some (5,1,1))∧(ZaP Try.prog 118=some .one)∧(ZaR Try.prog 118=some 1)∧(ZaO Try.prog 118=some [.lit (.int .u64 0)])∧(ZaP Try.prog 124=some (.agg 8))∧(ZaR Try.prog 124=some 8)∧(ZaO Try.prog 124=some [.lit (.int .i64 0),.lit (.string ByteArray.empty),.lit (.int .i64 0),.sl [],.lit (.int .i64 0),.lit (.string ByteArray.empty),.lit (.int .i64 0),.sl []])∧(Za2 Try.prog 124=true)∧(offT Try.prog 124 0=some (0,24))∧(offT Try.prog 124 1=some (4,24)):=by repeat' (first | refine ai ?_ ?_ | kernel_rfl)
end Go.Proofs.Ytjoaefnnnbpflaa
namespace Go.Proofs.Ytjoaefnnnbpflaa
open Go.RowKit
theorem pm_0:type_of% (aj16 @ZgP @Zmt @ro_n @ro_g @Zmu @pk_t @pk_f @sk_r @g_no @qB_0 @qB_s @Zmv @Zmw @Zmx @Zf4 (aj15 @Zj1 @Zf5 @Zj2 @ZpT @R_un @ZhU @ZpU @Zmy @Zj3 @ZpV @ZpW @ZpX @Zmz @Zj4 (@Zj5))):=aj16 @ZgP @Zmt @ro_n @ro_g @Zmu @pk_t @pk_f @sk_r @g_no @qB_0 @qB_s @Zmv @Zmw @Zmx @Zf4 (aj15 @Zj1 @Zf5 @Zj2 @ZpT @R_un @ZhU @ZpU @Zmy @Zj3 @ZpV @ZpW @ZpX @Zmz @Zj4 (@Zj5))
theorem pm_1:type_of% (aj16 @Zfu @ZgR @ZmA @Zj6 @ZmB @Zj7 @Zj8 @Zj9 @ZmC @Zka @ZiU @ZpY @fA_d @ZmD @ZpZ (aj15 @Zp0 @Zp1 @Zp2 @ZmE @ky_d @ZmF @ZmG @ZmH @Zkb @ZiV @Zkc @Zp3 @Zkd @ZiW (@Zf6))):=aj16 @Zfu @ZgR @ZmA @Zj6 @ZmB @Zj7 @Zj8 @Zj9 @ZmC @Zka @ZiU @ZpY @fA_d @ZmD @ZpZ (aj15 @Zp0 @Zp1 @Zp2 @ZmE @ky_d @ZmF @ZmG @ZmH @Zkb @ZiV @Zkc @Zp3 @Zkd @ZiW (@Zf6))
theorem pm_2:type_of% (aj16 @ZiX @ZmI @ZmJ @Zke @Zkf @Zp4 @Zp5 @Zp6 @Zp7 @s_bf @Zkg @Zkh @Zp8 @Zp9 @ZmK (aj15 @Zqa @Zqb @Zqc @Zqd @Zki @Zkj @Zkk @Zqe @ZmL @ZmM @ZmN @ZmO @kl_d @ZmP (@ZiZ))):=aj16 @ZiX @ZmI @ZmJ @Zke @Zkf @Zp4 @Zp5 @Zp6 @Zp7 @s_bf @Zkg @Zkh @Zp8 @Zp9 @ZmK (aj15 @Zqa @Zqb @Zqc @Zqd @Zki @Zkj @Zkk @Zqe @ZmL @ZmM @ZmN @ZmO @kl_d @ZmP (@ZiZ))
theorem pm_3:type_of% (aj16 @Zqf @ZmQ @Zkl @Zqg @Zkm @ZmR @Zkn @Zko @ib_d @ZmS @Zqh @Zkp @Zkq @ZmT @Zqi (aj15 @Zkr @ZmU @Zqj @ZmV @Zqk @t_sl @Zql @Zkv @Zkw @Zqn @Zqo @Zqp @ZmX @Zqq (@Zqr))):=aj16 @Zqf @ZmQ @Zkl @Zqg @Zkm @ZmR @Zkn @Zko @ib_d @ZmS @Zqh @Zkp @Zkq @ZmT @Zqi (aj15 @Zkr @ZmU @Zqj @ZmV @Zqk @t_sl @Zql @Zkv @Zkw @Zqn @Zqo @Zqp @ZmX @Zqq (@Zqr))
theorem pm_4:type_of% (aj16 @Zkx @ZmY @ZmZ @Zm0 @Zqs @Zqt @Zky @Zm1 @Zm2 @Zkz @Zqu @ZkA @ZkB @Zqv @Zqw (aj15 @Zm3 @Zm4 @ZkC @Zqx @Zm5 @Zqy @Zm6 @Zqz @ZqA @ZqB @ZqC @Zm7 @ZkD @ZqD (@ZkE))):=aj16 @Zkx @ZmY @ZmZ @Zm0 @Zqs @Zqt @Zky @Zm1 @Zm2 @Zkz @Zqu @ZkA @ZkB @Zqv @Zqw (aj15 @Zm3 @Zm4 @ZkC @Zqx @Zm5 @Zqy @Zm6 @Zqz @ZqA @ZqB @ZqC @Zm7 @ZkD @ZqD (@ZkE))
theorem pm_5:type_of% (aj16 @Zm8 @ZkF @ZqE @ZqF @ZqG @ZkG @Zm9 @ZkH @ZkI @ZqH @ZkJ @ZkK @Zna @ZkL @ZkM (aj15 @Znb @ZkN @ZkO @ZkP @Znc @ZkQ @ZqI @ZkR @ZkS @Znd @Zi4 @ZkT @ZkU @ZkV (@ZkW))):=aj16 @Zm8 @ZkF @ZqE @ZqF @ZqG @ZkG @Zm9 @ZkH @ZkI @ZqH @ZkJ @ZkK @Zna @ZkL @ZkM (aj15 @Znb @ZkN @ZkO @ZkP @Znc @ZkQ @ZqI @ZkR @ZkS @Znd @Zi4 @ZkT @ZkU @ZkV (@ZkW))
theorem pm_6:type_of% (aj16 @sl_2 @sl_3 @Zne @Znf @ZkX @Zng @ZkY @Znh @Zni @ZqJ @Znj @ZqK @Znk @ZqL @Znl (aj15 @ZkZ @ZqM @cp_s @cp_x @ZqN @co_z @co_y @ZqO @Zk0 @Zk1 @ZqP @ZqQ @r_no @Znm (@Znn))):=aj16 @sl_2 @sl_3 @Zne @Znf @ZkX @Zng @ZkY @Znh @Zni @ZqJ @Znj @ZqK @Znk @ZqL @Znl (aj15 @ZkZ @ZqM @cp_s @cp_x @ZqN @co_z @co_y @ZqO @Zk0 @Zk1 @ZqP @ZqQ @r_no @Znm (@Znn))
theorem pm_7:type_of% (aj16 @Zno @Znp @Znq @Znr @Zns @Znt @Znu @Znv @Znw @Znx @Zny @Znz @ZnA @ZnB @ZnC (aj15 @ZnD @ZnE @ZnF @bb_t @ZnG @ZqR @ZnH @ZhV @ZnI @ZnJ @ZnK @ZnL @ZnM @ZnN (@ZnO))):=aj16 @Zno @Znp @Znq @Znr @Zns @Znt @Znu @Znv @Znw @Znx @Zny @Znz @ZnA @ZnB @ZnC (aj15 @ZnD @ZnE @ZnF @bb_t @ZnG @ZqR @ZnH @ZhV @ZnI @ZnJ @ZnK @ZnL @ZnM @ZnN (@ZnO))
theorem pm_8:type_of% (aj16 @ZnP @ZqS @nr_p @nr_s @nr_c @nr_i @ZnQ @ZnR @ZnS @ZnT @ZnU @ZnV @ZnW @ZnX @ZnY (aj15 @ZnZ @Zn0 @Zn1 @Zn2 @Zn3 @Zk2 @Zk3 @Zn4 @Zn5 @ZqT @Zn6 @rn_0 @rn_n @rn_g (@st_o))):=aj16 @ZnP @ZqS @nr_p @nr_s @nr_c @nr_i @ZnQ @ZnR @ZnS @ZnT @ZnU @ZnV @ZnW @ZnX @ZnY (aj15 @ZnZ @Zn0 @Zn1 @Zn2 @Zn3 @Zk2 @Zk3 @Zn4 @Zn5 @ZqT @Zn6 @rn_0 @rn_n @rn_g (@st_o))
theorem pm_9:type_of% (aj16 @Zn7 @Zk4 @Zn8 @lv_d @Zn9 @Zoa @Zob @ZqU @ZqV @Zoc @lb_d @Zod @Zoe @Zof @ZqW (aj15 @ZqX @Zog @Zk5 @Zoh @Zk6 @Zk7 @Zoi @ZqY @Zoj @Zk8 @gt_c @Zok @Zol @Zom (@ZqZ))):=aj16 @Zn7 @Zk4 @Zn8 @lv_d @Zn9 @Zoa @Zob @ZqU @ZqV @Zoc @lb_d @Zod @Zoe @Zof @ZqW (aj15 @ZqX @Zog @Zk5 @Zoh @Zk6 @Zk7 @Zoi @ZqY @Zoj @Zk8 @gt_c @Zok @Zol @Zom (@ZqZ))
theorem Zq0:type_of% (aj16 @Zon @Zoo @Zk9 @Zop @Zoq @dc_s @dc_p @dc_f @Zor @Zos @Zot @Zou @Zla @Zov @Zlb (aj5 @Zow @Zox @Zlc @Zld (@ud_d))):=aj16 @Zon @Zoo @Zk9 @Zop @Zoq @dc_s @dc_p @dc_f @Zor @Zos @Zot @Zou @Zla @Zov @Zlb (aj5 @Zow @Zox @Zlc @Zld (@ud_d))
theorem Zq1:type_of% (aj6 @Zqm @Zks @Zkt @Zi0 @ZmW @Zku):=(aj6 @Zqm @Zks @Zkt @Zi0 @ZmW @Zku)
def Zel:List Nat->List (Nat × A)->List (Nat × A)
 | _,[]=>[]
 | ds,(k,a)::r=>if ds.elem k then Zel ds r else (k,a)::Zel (k::ds) r
def Zem:List Nat->List (Nat × Bk)->List (Nat × Bk)
 | _,[]=>[]
 | ds,(k,a)::r=>if ds.elem k then Zem ds r else (k,a)::Zem (k::ds) r
theorem ZpA {s t:List (Nat × A)} (h:∀ p∈t,gs s p.1=p.2):ZbX s t:=by
 induction t with
 | nil=>exact trivial
 | cons p r ih=>exact ⟨h p Tas,ih fun q hq=>h q (Tal _ hq)⟩
theorem ZpB {s t:List (Nat × Bk)} (h:∀ p∈t,gm s p.1=some p.2):ZbY s t:=by
 induction t with
 | nil=>exact trivial
 | cons p r ih=>exact ⟨h p Tas,ih fun q hq=>h q (Tal _ hq)⟩
theorem Zoy:∀ {s:List (Nat × A)} {ds:List Nat} {p:Nat × A},p∈Zel ds s->ds.elem p.1=false∧gs s p.1=p.2:=by
 intro s
 induction s with
 | nil=>intro ds p h;cases h
 | cons q r ih =>
  intro ds p h;obtain ⟨k,a⟩:=q;simp only [Zel] at h;by_cases hk:ds.elem k=true
  ·rw [if_pos hk] at h;have:=ih h;refine ⟨this.1,?_⟩;rw [gs,if_neg ?_]
   ·exact this.2
   ·intro e;rw [e] at this;rw [hk] at this;cases this.1
  ·rw [if_neg hk] at h;rcases Tbd.1 h with rfl | h
   ·exact ⟨by simpa using hk,by simp [gs]⟩
   ·have:=ih h;have h1:=this.1;rw [List.elem_cons] at h1;have hne:¬ p.1=k:=by intro e;simp [e] at h1
    refine ⟨?_,?_⟩
    ·cases hb:(p.1==k) with
     | true=>rw [hb] at h1;cases h1
     | false=>rw [hb] at h1;exact h1
    ·rw [gs,if_neg hne];exact this.2
theorem Zoz:∀ {s:List (Nat × Bk)} {ds:List Nat} {p:Nat × Bk},p∈Zem ds s->ds.elem p.1=false∧gm s p.1=some p.2:=by
 intro s
 induction s with
 | nil=>intro ds p h;cases h
 | cons q r ih =>
  intro ds p h;obtain ⟨k,a⟩:=q;simp only [Zem] at h;by_cases hk:ds.elem k=true
  ·rw [if_pos hk] at h;have:=ih h;refine ⟨this.1,?_⟩;rw [gm,if_neg ?_]
   ·exact this.2
   ·intro e;rw [e] at this;rw [hk] at this;cases this.1
  ·rw [if_neg hk] at h;rcases Tbd.1 h with rfl | h
   ·exact ⟨by simpa using hk,by simp [gm]⟩
   ·have:=ih h;have h1:=this.1;rw [List.elem_cons] at h1;have hne:¬ p.1=k:=by intro e;simp [e] at h1
    refine ⟨?_,?_⟩
    ·cases hb:(p.1==k) with
     | true=>rw [hb] at h1;cases h1
     | false=>rw [hb] at h1;exact h1
    ·rw [gm,if_neg hne];exact this.2
theorem Zi5 {s a b:List (Nat × A)}:ZbX s (a++b) ↔ ZbX s a∧ZbX s b:=by
 induction a with
 | nil=>simp [ZbX]
 | cons p r ih=>simp [ZbX,ih,and_assoc]
theorem Zi6 {s a b:List (Nat × Bk)}:ZbY s (a++b) ↔ ZbY s a∧ZbY s b:=by
 induction a with
 | nil=>simp [ZbY]
 | cons p r ih=>simp [ZbY,ih,and_assoc]
theorem ZoA {e:Env} {mask:Nat} {Q:PX->St->Prop} {c:Code} {s:List (Nat × A)} {m:List (Nat × Bk)} {ι:Type} (ds dm:List Nat) (us:ι->List (Nat × A)) (ms:ι->List (Nat × Bk)) (ok:ι->Prop) (μ:ι->Nat) (x0:ι)
  {s0:List (Nat × A)} {m0:List (Nat × Bk)} (hs0:Zel ds s=s0) (hm0:Zem dm m=m0) {ss:ι->List (Nat × A)} {mm:ι->List (Nat × Bk)} (hss:∀ x,us x++s0=ss x) (hmm:∀ x,ms x++m0=mm x) (hs:ZbX s (us x0)) (hm:ZbY m (ms x0)) (h0:ok x0)
  (hr:∀ x,ok x->pwp e mask c ⟨ss x,mm x⟩ (fun p σ''=>match p with
   | .normal=>∃ y,ok y∧ZbX σ''.s (ss y)∧ZbY σ''.m (mm y)∧μ y < μ x
   | p=>Q p σ'')):pwp e mask (.loop c) ⟨s,m⟩ Q:=by
 refine Zpu (fun x=>⟨ss x,mm x⟩) ok μ x0 h0 ?_ ?_ hr
 ·show ZbX s (ss x0);rw [<- hss,Zi5,<- hs0];exact ⟨hs,ZpA fun p hp=>(Zoy hp).2⟩
 ·show ZbY m (mm x0);rw [<- hmm,Zi6,<- hm0];exact ⟨hm,ZpB fun p hp=>(Zoz hp).2⟩
theorem ZoB {e:Env} {mask:Nat} {Q:PX->St->Prop} {σ:St} {id:Nat} {l:List Oper} (h:∀ ds,l.map (·.dst)=ds->Runs e ds 0 l σ (Zc7 mask Q)):pwp e mask (.region id l.toArray false) σ Q:=Zpy rfl (h _ rfl)
theorem Zaq {e:Env} {mask:Nat} {Q:PX->St->Prop} {σ:St} {id:Nat} {l:List Oper} (n:Nat) (hr:regX l.toArray n=true) (h:∀ ds,l.map (·.dst)=ds->Runs e ds n l σ (Zc7 mask Q)):pwp e mask (.region id l.toArray true) σ Q:=Zpz n hr rfl (h _ rfl)
theorem Zle {mask:Nat}:Zcn mask []=[]:=rfl
theorem Zlf {mask k:Nat} {a:A} {r:List (Nat × A)}:Zcn mask ((k,a)::r)=if mask.testBit k=true then (k,a)::Zcn mask r else Zcn mask r:=rfl
theorem Zq2 {m n:Nat}:m.testBit n=((1 &&& (m >>> n)) != 0):=rfl
def endR (mask:Nat):Res->Option (List (Nat × A) × List (Nat × Bk))
 | .done σ=>some (Zcn mask σ.s,σ.m)
 | _=>none
theorem ZoC {mask:Nat} {s:List (Nat × A)} {m:List (Nat × Bk)}:endR mask (.done ⟨s,m⟩)=some (Zcn mask s,m):=rfl
theorem reT {e:Env} {mask:Nat} {Q:PX->St->Prop} {ds:List (Option Nat)} {n:Nat} {os:List Oper} {σ:St} {s2:List (Nat × A)} {m2:List (Nat × Bk)} (h:endR mask (Zbt e.P ds n os σ)=some (s2,m2)) (hQ:Q .normal ⟨s2,m2⟩):Runs e ds n os σ (Zc7 mask Q):=by
 cases hr:Zbt e.P ds n os σ with
 | bad=>rw [hr] at h;cases h
 | call q c args d n' os' σ'=>rw [hr] at h;cases h
 | map q d n' os' σ'=>rw [hr] at h;cases h
 | stop n' os' σ'=>rw [hr] at h;cases h
 | done σ' =>
  rw [hr] at h;simp only [endR,Taq,Prod.mk.injEq] at h;obtain ⟨h1,h2⟩:=h;refine ZhT hr ?_;unfold Zc7;rw [h1,h2];exact hQ
def Zi7:Res->Option (FuncId × List D × Option Nat × Nat × List Oper × St)
 | .call q c args d n os σ=>(Zek q c args σ).map (fun x=>(x.1,x.2.1,d,n,os,x.2.2))
 | _=>none
theorem Zi8 {q:Bool} {c:Operand} {args:List Operand} {d:Option Nat} {n:Nat} {os:List Oper} {σ:St}:Zi7 (.call q c args d n os σ)=(Zek q c args σ).map (fun x=>(x.1,x.2.1,d,n,os,x.2.2)):=rfl
theorem rcT {e:Env} {K:St->Prop} {ds:List (Option Nat)} {n n':Nat} {os os':List Oper} {σ:St} {f:FuncId} {xs:List D} {d:Option Nat} {r:List D} {s2 s3:List (Nat × A)} {m2:List (Nat × Bk)} (h:Zi7 (Zbt e.P ds n os σ)=some (f,xs,d,n',os',⟨s2,m2⟩)) (hc:Con e f xs r) (h2:setA s2 d (retA r)=s3) (hK:Runs e ds n' os' ⟨s3,m2⟩ K):Runs e ds n os σ K:=by
 cases hr:Zbt e.P ds n os σ with
 | bad=>rw [hr] at h;cases h
 | done σ'=>rw [hr] at h;cases h
 | map q d n' os' σ'=>rw [hr] at h;cases h
 | stop n' os' σ'=>rw [hr] at h;cases h
 | call q c args d1 n1 os1 σ1 =>
  rw [hr] at h;simp only [Zi7,Tav,Prod.mk.injEq] at h;obtain ⟨⟨f',xs',σ2⟩,h1,rfl,rfl,rfl,rfl,rfl,h3⟩:=h;simp only at h3;subst h3;exact Zru hr h1 hc h2 hK
theorem wkI {e:Env} {mask:Nat} {Q:PX->St->Prop} {σ:St} {c:Code} (h:pwp e mask c σ Q):∃ σ1,Wk σ σ1∧pwp e mask c σ1 Q:=⟨σ,Wk.refl σ,h⟩
theorem Wk.trans {a b c:St} (h:Wk a b) (k:Wk b c):Wk a c:=by
 refine ⟨fun t=>?_,fun t x hx=>h.2 t x (k.2 t x hx)⟩;rcases k.1 t with q | q
 ·rcases h.1 t with r | r
  ·exact .inl (q.trans r)
  ·exact .inr (q.trans r)
 ·exact .inr q
theorem ZdA {r:List C} (h:Zao (Zac .int) r):∃ x0:Int,r=[.lit (.int .i64 x0)]∧I64 x0:=by
 obtain ⟨c0,rfl⟩:=len1 h.len;simp only [Zac,Zao,and_true] at h;have h0:=h;obtain ⟨x0,rfl,g0⟩:=ZbS h0;exact ⟨x0,rfl,g0⟩
theorem ZoD {x0:Int} (g0:I64 x0):Zao (Zac .int) [.lit (.int .i64 x0)]:=by
 simp only [Zac,Zao,and_true];exact Zcf g0
theorem decL {α:Type} {fs:List F} {e:α->List C} {p:α->Prop} (hd:∀ row,Zao fs row->∃ a,row=e a∧p a):∀ {rows:List (List C)},Zak fs rows->∃ l:List α,rows=l.map e∧∀ x∈l,p x
 | [],_=>⟨[],rfl,by simp⟩
 | r::rs,h=>by
  simp only [Zak] at h;obtain ⟨a,rfl,ha⟩:=hd r h.1;obtain ⟨l,rfl,hl⟩:=decL hd h.2;exact ⟨a::l,rfl,fun x hx=>by
   rcases Tbd.1 hx with rfl | hx
   ·exact ha
   ·exact hl x hx⟩
theorem okL {α:Type} {fs:List F} {e:α->List C} {p:α->Prop} (hk:∀ a,p a->Zao fs (e a)):∀ {l:List α},(∀ x∈l,p x)->Zak fs (l.map e)
 | [],_=>by simp [Zak]
 | a::l,h=>by
  simp only [Tbl,Zak];exact ⟨hk a (h a (by simp)),okL hk (fun x hx=>h x (by simp [hx]))⟩
def ZaA (n:Int):List C:=[.lit (.int .i64 n)]
def ZoE (s:ByteArray):List C:=[.lit (.string s)]
def ZoF (p:Int × Int):List C:=[.lit (.int .i64 p.1),.lit (.int .i64 p.2)]
theorem ZrI:∀ row,Zao (Zac .int) row->∃ a,row=ZaA a∧I64 a:=fun row h=>ZdA h
theorem Zr0:∀ a,I64 a->Zao (Zac .int) (ZaA a):=fun a h=>ZoD h
structure Srt where
 names:List ByteArray
 subs:List (Int × Int)
structure Dcl where
 args:List Int
 res:Int
def Zi9 (d:Dcl):List C:=[.sl (d.args.map ZaA),.lit (.int .i64 d.res)]
structure Opr where
 name:ByteArray
 decls:List Dcl
 assoc:Bool
 comm:Bool
 unit:Int
def ZoG (o:Opr):List C:=[.lit (.string o.name),.sl (o.decls.map Zi9),.lit (.bool o.assoc),.lit (.bool o.comm),.lit (.int .i64 o.unit)]
structure Sgn where
 sorts:Srt
 ops:List Opr
theorem Rep.at {α:Type} {w:World} {S:Nat->Prop} {fs:List F} {e:α->List C} {p:α->Prop} (hk:∀ a,p a->Zao fs (e a)) {l:List α} (hl:∀ x∈l,p x) {A:Option Addr} {m cap k:Nat} {a:α}
  (h:Rep w S (.sl (l.map e)) (.slice A m cap)) (ha:l[k]?=some a):∃ b off,A=some ⟨b,off,none⟩∧S b∧b < w.heap.size∧Zam w S b (off+k * fs.length) (e a):=by
 have hkl:k < l.length:=(Tad.1 ha).1;obtain ⟨A',m',cap',hf,hm,_,_⟩:=h.form;injection hf with h1 h2 h3
 subst h1 h2 h3;obtain ⟨b,off,r,rfl,hS,hbz,hget,hokr,hrow⟩:=h.get (okL hk hl) (i:=k) (by rw [<- hm];simpa using hkl);refine ⟨b,off,rfl,hS,hbz,?_⟩;rw [Tay,ha] at hget;simp only [Option.map_some,Taq] at hget;rw [hget];exact hrow
def Zlg (l:List Int):List C:=[.sl (l.map ZaA)]
structure Alg where
 size:Int
 tables:List (List Int)
noncomputable def e0:Env:=⟨Try.prog,fun _=>False,fun _=>True,False⟩
noncomputable def e1:Env:=⟨Try.prog,fun _=>False,fun _=>True,True⟩
theorem e1P:e1.P=Try.prog:=rfl
theorem Zq3:e1.Ok:=⟨fun _ _ _ _ _=>trivial,by kernel_rfl⟩
theorem Zr1 {f:FuncId} {args r:List D} (h:Con e1 f args r):Con e0 f args r :=
 ⟨h.1,fun w S vs hS hE hG hvs=>(h.2 w S vs hS hE hG hvs).mono fun en w' ⟨v,h1,h2,h3,h4⟩=>⟨v,h1,⟨h2.os,h2.tape,h2.output,fun d=>d.elim,h2.size,h2.block⟩,h3,h4⟩⟩
theorem e0P:e0.P=Try.prog:=rfl
theorem Zq4:e0.Ok:=⟨fun _ _ _ _ _=>trivial,by kernel_rfl⟩
theorem Zbr {α:Type} {e:α->List C} {n:Nat} (h:∀ a,((e a).length==n && (e a).all Zal)=true) (l:List α):ZaC n (l.map e)=true:=by
 unfold ZaC;rw [List.all_map];exact List.all_eq_true.2 fun a _=>h a
theorem ZhW {n:Nat}:ZaC n []=true:=rfl
theorem ZgT {n:Nat} {r:List C} {rs:List (List C)}:ZaC n (r::rs)=(r.length==n && r.all Zal && ZaC n rs):=rfl
theorem ZoH (l:List Int):ZaC 1 (l.map ZaA)=true:=Zbr (e:=ZaA) (n:=1) (fun _=>rfl) l
theorem ZoI (l:List ByteArray):ZaC 1 (l.map ZoE)=true:=Zbr (e:=ZoE) (n:=1) (fun _=>rfl) l
theorem ZoJ (l:List (Int × Int)):ZaC 2 (l.map ZoF)=true:=Zbr (e:=ZoF) (n:=2) (fun _=>rfl) l
theorem ZoK (l:List Dcl):ZaC 2 (l.map Zi9)=true:=Zbr (e:=Zi9) (n:=2) (fun _=>rfl) l
theorem ZoL (l:List Opr):ZaC 5 (l.map ZoG)=true:=Zbr (e:=ZoG) (n:=5) (fun _=>rfl) l
theorem Zlh (l:List (List Int)):ZaC 1 (l.map Zlg)=true:=Zbr (e:=Zlg) (n:=1) (fun _=>rfl) l
theorem ZlK {a b:Int} (h:a=b) (h1:-9223372036854775808<=b) (h2:b<=9223372036854775807):IntKind.i64.wrap a=b:=by rw [h];exact IntWalk.i64_in _ ⟨h1,h2⟩
theorem Zbu {k:Nat} (h:k < 9223372036854775807):IntKind.i64.wrap ((k:Int)+1)=((k+1:Nat):Int):=ZlK om om om
theorem bqtt:(true==true)=true:=rfl
theorem bqtf:(true==false)=false:=rfl
theorem bqft:(false==true)=false:=rfl
theorem bqff:(false==false)=true:=rfl
theorem Zbs (n:Nat):(n:Int).toNat=n:=Tbn n
theorem gs_n {t:Nat}:gs [] t=.undef:=rfl
theorem gs_c {k t:Nat} {a:A} {r:List (Nat × A)}:gs ((k,a)::r) t=if t=k then a else gs r t:=rfl
theorem gm_n {t:Nat}:gm [] t=none:=rfl
theorem gm_c {k t:Nat} {a:Bk} {r:List (Nat × Bk)}:gm ((k,a)::r) t=if t=k then some a else gm r t:=rfl
theorem Zli {k:Nat}:ZcI k []=[]:=rfl
theorem Zlj {k:Nat} {d:D} {r:List D}:ZcI k (d::r)=(k,.d d)::ZcI (k+1) r:=rfl
theorem pz:type_of% (aj16 @tt_0 @tt_1 @tt_2 @tt_3 @tt_4 @pm_0 @pm_1 @pm_2 @pm_3 @pm_4 @pm_5 @pm_6 @pm_7 @pm_8 @pm_9 (aj16 @Zq0 @Zq1 @e0P @e1P @gs_n @gs_c @gm_n @gm_c @Zli @Zlj @ZoH @ZoI @ZoJ @ZoK @ZoL (aj16 @Zlh @ZhW @ZgT @bqtt @bqtf @bqft @bqff @Bool.and_self @Bool.or_true @Bool.true_or @Bool.or_false @Bool.false_or @Nat.zero_add @Nat.add_zero @and_self (aj16 @true_and @and_true @Bool.not_true @Bool.not_false @Zbs @Zle @Zlf @Zq2 @ZoC @Zi8 @Int.natCast_nonneg @Int.toNat_zero @Int.toNat_one @Tai @List.map_nil.{0,0} (aj16 @Tat.{0} @Tau.{0} @List.drop_succ_cons.{0} @List.drop_zero.{0} @List.drop_nil.{0} @Taz.{0} @List.take_zero.{0} @Tag.{0} @Tak.{0} @Tae.{0} @List.all_cons.{0} @List.all_nil.{0} @List.isEmpty_cons.{0} @List.isEmpty_nil.{0} @Taf.{0} (aj13 @Tah.{0} @List.append_nil.{0} @Option.map_some.{0,0} @Option.map_none.{0,0} @Option.join_some.{0} @Option.getD_some.{0} @Option.isNone_none.{0} @Option.isNone_some.{0} @Option.isSome_none.{0} @Option.isSome_some.{0} @Tbl.{0,0} @Tax.{0,0} (@Tay.{0,0}))))))):=aj16 @tt_0 @tt_1 @tt_2 @tt_3 @tt_4 @pm_0 @pm_1 @pm_2 @pm_3 @pm_4 @pm_5 @pm_6 @pm_7 @pm_8 @pm_9 (aj16 @Zq0 @Zq1 @e0P @e1P @gs_n @gs_c @gm_n @gm_c @Zli @Zlj @ZoH @ZoI @ZoJ @ZoK @ZoL (aj16 @Zlh @ZhW @ZgT @bqtt @bqtf @bqft @bqff @Bool.and_self @Bool.or_true @Bool.true_or @Bool.or_false @Bool.false_or @Nat.zero_add @Nat.add_zero @and_self (aj16 @true_and @and_true @Bool.not_true @Bool.not_false @Zbs @Zle @Zlf @Zq2 @ZoC @Zi8 @Int.natCast_nonneg @Int.toNat_zero @Int.toNat_one @Tai @List.map_nil.{0,0} (aj16 @Tat.{0} @Tau.{0} @List.drop_succ_cons.{0} @List.drop_zero.{0} @List.drop_nil.{0} @Taz.{0} @List.take_zero.{0} @Tag.{0} @Tak.{0} @Tae.{0} @List.all_cons.{0} @List.all_nil.{0} @List.isEmpty_cons.{0} @List.isEmpty_nil.{0} @Taf.{0} (aj13 @Tah.{0} @List.append_nil.{0} @Option.map_some.{0,0} @Option.map_none.{0,0} @Option.join_some.{0} @Option.getD_some.{0} @Option.isNone_none.{0} @Option.isNone_some.{0} @Option.isSome_none.{0} @Option.isSome_some.{0} @Tbl.{0,0} @Tax.{0,0} (@Tay.{0,0}))))))
theorem sfx {p:Prop} (h:p:=by simp only [pz,↓reduceIte,Nat.reduceEqDiff,Nat.reduceAdd,Nat.reduceSub,Nat.reduceMul,Nat.reduceLeDiff,Nat.reduceBEq,Tam,decide_true,decide_false,Int.reduceLE,Int.reduceToNat,Int.reduceLT,Int.reduceEq,eq_self,Nat.reduceShiftRight,Nat.reduceAnd,Nat.reduceBneDiff,F];first | done | exact rfl):p:=h
theorem snx {p:Prop} (h:p:=by simp only [pz,↓reduceIte,Nat.reduceEqDiff,Nat.reduceAdd,Nat.reduceSub,Nat.reduceMul,Nat.reduceLeDiff,Nat.reduceBEq,Tam,decide_true,decide_false,Int.reduceLE,Int.reduceToNat,Int.reduceLT,Int.reduceEq,eq_self,Nat.reduceShiftRight,Nat.reduceAnd,Nat.reduceBneDiff];first | done | exact rfl):p:=h
theorem sfy {p:Prop} (h:p:=by simp only [pz,↓reduceIte,Nat.reduceEqDiff,Nat.reduceAdd,Nat.reduceSub,Nat.reduceMul,Nat.reduceLeDiff,Nat.reduceBEq,Tam,decide_true,decide_false,Int.reduceLE,Int.reduceToNat,Int.reduceLT,Int.reduceEq,eq_self,Nat.reduceShiftRight,Nat.reduceAnd,Nat.reduceBneDiff,F];try exact rfl):p:=h
theorem sny {p:Prop} (h:p:=by simp only [pz,↓reduceIte,Nat.reduceEqDiff,Nat.reduceAdd,Nat.reduceSub,Nat.reduceMul,Nat.reduceLeDiff,Nat.reduceBEq,Tam,decide_true,decide_false,Int.reduceLE,Int.reduceToNat,Int.reduceLT,Int.reduceEq,eq_self,Nat.reduceShiftRight,Nat.reduceAnd,Nat.reduceBneDiff];try exact rfl):p:=h
theorem sfv {p:Prop} (h:p:=by simp only [pz,↓reduceIte,Nat.reduceEqDiff,Nat.reduceAdd,Nat.reduceSub,Nat.reduceMul,Nat.reduceLeDiff,Nat.reduceBEq,Tam,decide_true,decide_false,Int.reduceLE,Int.reduceToNat,Int.reduceLT,Int.reduceEq,eq_self,Nat.reduceShiftRight,Nat.reduceAnd,Nat.reduceBneDiff,F];exact rfl):p:=h
theorem snv {p:Prop} (h:p:=by simp only [pz,↓reduceIte,Nat.reduceEqDiff,Nat.reduceAdd,Nat.reduceSub,Nat.reduceMul,Nat.reduceLeDiff,Nat.reduceBEq,Tam,decide_true,decide_false,Int.reduceLE,Int.reduceToNat,Int.reduceLT,Int.reduceEq,eq_self,Nat.reduceShiftRight,Nat.reduceAnd,Nat.reduceBneDiff];exact rfl):p:=h
theorem gB {X Y:Prop} (b:Y) (h:Y->X:=by
 intro b
 first
  | with_reducible refine ZoB ?_
  | (first
   | refine Zaq 1 (by decide +kernel) ?_
   | refine Zaq 2 (by decide +kernel) ?_
   | refine Zaq 3 (by decide +kernel) ?_
   | refine Zaq 4 (by decide +kernel) ?_
   | refine Zaq 5 (by decide +kernel) ?_
   | refine Zaq 6 (by decide +kernel) ?_
   | refine Zaq 7 (by decide +kernel) ?_
   | refine Zaq 8 (by decide +kernel) ?_
   | refine Zaq 9 (by decide +kernel) ?_
   | refine Zaq 10 (by decide +kernel) ?_
   | refine Zaq 11 (by decide +kernel) ?_
   | refine Zaq 12 (by decide +kernel) ?_
   | refine Zaq 13 (by decide +kernel) ?_
   | refine Zaq 14 (by decide +kernel) ?_
   | refine Zaq 15 (by decide +kernel) ?_
   | refine Zaq 16 (by decide +kernel) ?_
   | refine Zaq 17 (by decide +kernel) ?_
   | refine Zaq 18 (by decide +kernel) ?_
   | refine Zaq 19 (by decide +kernel) ?_
   | refine Zaq 20 (by decide +kernel) ?_
   | refine Zaq 21 (by decide +kernel) ?_
   | refine Zaq 22 (by decide +kernel) ?_
   | refine Zaq 23 (by decide +kernel) ?_
   | refine Zaq 24 (by decide +kernel) ?_
   | refine Zaq 25 (by decide +kernel) ?_
   | refine Zaq 26 (by decide +kernel) ?_
   | refine Zaq 27 (by decide +kernel) ?_
   | refine Zaq 28 (by decide +kernel) ?_
   | refine Zaq 29 (by decide +kernel) ?_
   | refine Zaq 30 (by decide +kernel) ?_
   | refine Zaq 31 (by decide +kernel) ?_
   | refine Zaq 32 (by decide +kernel) ?_
   | refine Zaq 33 (by decide +kernel) ?_
   | refine Zaq 34 (by decide +kernel) ?_
   | refine Zaq 35 (by decide +kernel) ?_
   | refine Zaq 36 (by decide +kernel) ?_
   | refine Zaq 37 (by decide +kernel) ?_
   | refine Zaq 38 (by decide +kernel) ?_
   | refine Zaq 39 (by decide +kernel) ?_
   | refine Zaq 40 (by decide +kernel) ?_
   | refine Zaq 41 (by decide +kernel) ?_
   | refine Zaq 42 (by decide +kernel) ?_
   | refine Zaq 43 (by decide +kernel) ?_
   | refine Zaq 44 (by decide +kernel) ?_
   | refine Zaq 45 (by decide +kernel) ?_
   | refine Zaq 46 (by decide +kernel) ?_
   | refine Zaq 47 (by decide +kernel) ?_
   | refine Zaq 48 (by decide +kernel) ?_
   | refine Zaq 49 (by decide +kernel) ?_
   | refine Zaq 50 (by decide +kernel) ?_
   | refine Zaq 51 (by decide +kernel) ?_
   | refine Zaq 52 (by decide +kernel) ?_
   | refine Zaq 53 (by decide +kernel) ?_
   | refine Zaq 54 (by decide +kernel) ?_
   | refine Zaq 55 (by decide +kernel) ?_
   | refine Zaq 56 (by decide +kernel) ?_
   | refine Zaq 57 (by decide +kernel) ?_
   | refine Zaq 58 (by decide +kernel) ?_
   | refine Zaq 59 (by decide +kernel) ?_
   | refine Zaq 60 (by decide +kernel) ?_
   | refine Zaq 61 (by decide +kernel) ?_
   | refine Zaq 62 (by decide +kernel) ?_
   | refine Zaq 63 (by decide +kernel) ?_
   | refine Zaq 64 (by decide +kernel) ?_)
 intro ds hds;simp only [List.map] at hds;subst hds;exact b):X:=h b
theorem gC {X Y Z:Prop} (c:Z) (b:Y) (h:Z->Y->X:=by
 intro c b;refine rcT (by exact sfv) c (by simp only [setA,retA];exact rfl) ?_;exact b):X:=h c b
theorem gR {X Y:Prop} (b:Y) (h:Y->X:=by
 intro b;refine reT (by exact sfv) ?_
 first | (change pwp _ _ _ _ _) | refine wkI ?_ | skip
 exact b):X:=h b
theorem gG {X Y:Prop} (b:Y) (h:Y->X:=by
 intro b
 repeat (first
  | with_reducible refine ZiQ ?_
  | with_reducible refine ZhR ?_
  | ((first | with_reducible refine ZiO ?_ | with_reducible refine ZiP ?_);try refine wkI ?_)
  | (with_reducible refine Zmq ?_ ?_;· simp only [pz,↓reduceIte,Nat.reduceEqDiff,F])
  | (with_reducible refine Zmr ?_ ?_;· simp only [pz,↓reduceIte,Nat.reduceEqDiff,F])
  | (refine gB ?_;refine reT (by exact sfv) ?_;try refine wkI ?_))
 exact b):X:=h b
def Zbf (_:Nat):Prop:=True
theorem ZrJ {n:Nat} (_:Zbf n) {e:Env} {mask id:Nat} {ops:Array Oper} {fl:Bool} {σ:St} {Q:PX->St->Prop} (h:pwp e mask (.region id ops fl) σ Q) (_:(id==n)=false:=by decide):pwp e mask (.region id ops fl) σ Q:=h
theorem gGn {X Y:Prop} (b:Y) (h:Y->X:=by
 intro b
 repeat (first
  | with_reducible refine ZiQ ?_
  | with_reducible refine ZhR ?_
  | ((first | with_reducible refine ZiO ?_ | with_reducible refine ZiP ?_);try refine wkI ?_)
  | (with_reducible refine Zmq ?_ ?_;· simp only [pz,↓reduceIte,Nat.reduceEqDiff,F])
  | (with_reducible refine Zmr ?_ ?_;· simp only [pz,↓reduceIte,Nat.reduceEqDiff,F])
  | (refine ZrJ NN ?_;refine gB ?_;refine reT (by exact sfv) ?_;try refine wkI ?_))
 exact b):X:=h b
theorem gT {X:Prop} (h:X:=by
 refine ZfM (Zms ?_);simp [Zcc,resA,Zbb,gs,F]):X:=h
theorem gTz {X:Prop} {P:Program} {ts:List RS} {r:List D} {σ σ1:St} (ks:List Nat) (hx:retQ P ts r .ret σ->X:=by exact fun h=>ZfM h) (hf:frzs ks σ=σ1:=by exact sfv) (h:Zcc P σ1 ts r:=by simp [Zcc,resA,Zbb,gs,F]):X:=hx (ZrH ks hf h)
theorem gTd {X:Prop} {P:Program} {ts:List RS} {r:List D} {σ:St} (hx:retQ P ts r .ret σ->X:=by exact fun h=>ZfM h) (hr:resD P σ ts=some r:=by exact sfx):X:=hx (Zms (Zgq hr))
theorem gw {X:Prop} (h:X:=by simp [ZbX,ZbY,gs,gm,F]):X:=h
theorem gL {e:Env} {mask:Nat} {Q:PX->St->Prop} {c:Code} {s:List (Nat × A)} {m:List (Nat × Bk)} {ι:Type} (ds dm:List Nat) (us:ι->List (Nat × A)) (ms:ι->List (Nat × Bk)) (ok:ι->Prop) (μ:ι->Nat) (x0:ι) (h0:ok x0)
  {s0:List (Nat × A)} {m0:List (Nat × Bk)} {ss:ι->List (Nat × A)} {mm:ι->List (Nat × Bk)}
  (hr:∀ x,ok x->pwp e mask c ⟨ss x,mm x⟩ (fun p σ''=>match p with
   | .normal=>∃ y,ok y∧ZbX σ''.s (ss y)∧ZbY σ''.m (mm y)∧μ y < μ x
   | p=>Q p σ''))
  (hs0:Zel ds s=s0:=by simp only [Zel,Zem,List.elem_cons,List.elem_nil,Nat.reduceBEq,Bool.or_false,Bool.false_or,Bool.or_true,Bool.true_or,Bool.or_self,↓reduceIte,Tam];exact rfl) (hm0:Zem dm m=m0:=by simp only [Zel,Zem,List.elem_cons,List.elem_nil,Nat.reduceBEq,Bool.or_false,Bool.false_or,Bool.or_true,Bool.true_or,Bool.or_self,↓reduceIte,Tam];exact rfl) (hss:∀ x,us x++s0=ss x:=by intro x;simp only [Taf,Tah];exact rfl) (hmm:∀ x,ms x++m0=mm x:=by intro x;simp only [Taf,Tah];exact rfl)
  (hs:ZbX s (us x0):=by simp [ZbX,gs,F]) (hm:ZbY m (ms x0):=by simp [ZbY,gm,F]):pwp e mask (.loop c) ⟨s,m⟩ Q:=ZoA ds dm us ms ok μ x0 hs0 hm0 hss hmm hs hm h0 hr
theorem gI {e:Env} {f:FuncId} {fn:Func} {c:Code} {args r:List D} {ts:List RS} (mask:Nat) (hf:e.P.funcs[f]?=some fn) (h:pwp e mask c ⟨ZcI 0 args,[]⟩ (retQ e.P ts r)) (hb:fn.body=some c:=by exact rfl) (hnm:(fn.name == "runtime.NumGoroutine")=false:=by kernel_rfl)
  (hok:Zbz fn.ntmps c=true:=by kernel_rfl) (hal:Nat.ble args.length fn.ntmps=true:=by exact rfl) (hres:Zbb fn.results.toList=ts:=by exact rfl) (he:e.Ok:=by first | exact Zq4 | exact Zq3 | assumption):Con e f args r:=ZlC he mask hf hb hnm hok hal hres h
theorem gCP {e:Env} {K:St->Prop} {ds:List (Option Nat)} {n n':Nat} {os os':List Oper} {σ:St} {c:Operand} {args:List Operand} {f:FuncId} {xs:List D} {d:Option Nat} {s1 s2 s3:List (Nat × A)} {m1 m2 m3:List (Nat × Bk)} {pm:List Bk} {R:List D->List Bk->Prop} (ks ks':List Nat) (hc:ConP e f xs pm R)
  (hK:∀ r pm',R r pm'->Runs e ds n' os' ⟨setA s3 d (retA r),zipM ks' pm'++m3⟩ K) (h:Zbt e.P ds n os σ=.call false c args d n' os' ⟨s1,m1⟩:=by exact sfv) (h1:Zek false c args ⟨s1,m1⟩=some (f,xs,⟨s2,m2⟩):=by exact sfv)
  (hpm:getM m2 ks=some pm:=by exact sny) (hpn:pm.all pinned=true:=by exact sny) (hn:ks.Nodup:=by decide) (hk:ZbU (ks++ks') s2=s3:=by exact snv) (hr:ZbZ (ks++ks') m2=m3:=by exact snv):Runs e ds n os σ K:=Zpw ks ks' h h1 hc hpm hpn hn hk hr hK
theorem gP {e:Env} {K:St->Prop} {ds:List (Option Nat)} {n n':Nat} {os os':List Oper} {σ:St} {s1:List (Nat × A)} {m1:List (Nat × Bk)} (j:Nat) (hK:Runs e ds n' os' ⟨s1,m1⟩ K) (h:ZgO (runN e.P ds j n os σ)=some (n',os',s1,m1):=by exact sfv):Runs e ds n os σ K:=Zmo j h hK
theorem gS {e:Env} {K:St->Prop} {ds:List (Option Nat)} {os:List Oper} {s:List (Nat × A)} {m m2:List (Nat × Bk)} {ety sz:Nat} {rows:List (List C)} {s2:Option Addr->Nat->List (Nat × A)} (k:Nat) (hK:∀ a cap,Runs e ds 0 os ⟨s2 a cap,(k,.buf (some (a,cap)) ety sz rows)::m2⟩ K)
  (hm:gm m k=some (.buf none ety sz rows):=by exact snv) (hs:∀ a cap,mapS (litB k a rows.length cap) s=s2 a cap:=by intro a cap;exact snv) (hr:remM k m=m2:=by exact snv):Runs e ds 0 os ⟨s,m⟩ K :=
 Zdz (ZhP k hm) fun σ' ⟨a,cap,hσ⟩=>by subst hσ;simp only [hs,hr];exact hK a cap
theorem gO {e:Env} {K:St->Prop} {ds:List (Option Nat)} {os:List Oper} {s s2:List (Nat × A)} {m m2:List (Nat × Bk)} (t ety sz:Nat) (hK:Runs e ds 0 os ⟨(t,.buf t)::s2,(t,.buf none ety sz [])::m2⟩ K) (h0:0 < sz:=by decide) (hm:gs s t=.d (.clip []):=by exact sny)
  (hs:Zau t s=s2:=by exact snv) (hr:remM t m=m2:=by exact snv):Runs e ds 0 os ⟨s,m⟩ K :=
 Zdz (Zpq t ety sz h0 hm) fun σ' hσ=>by subst hσ;simp only [hs,hr];exact hK
theorem gK {e:Env} {K:St->Prop} {ds:List (Option Nat)} {os:List Oper} {s:List (Nat × A)} {m:List (Nat × Bk)} {x:A} (t:Nat) (hK:Runs e ds 0 os ⟨(t,x)::s,m⟩ K) (hx:nrm m (gs s t)=x:=by exact snv):Runs e ds 0 os ⟨s,m⟩ K :=
 Zdz (Zpp t) fun σ' hσ=>by subst hσ;simp only [hx];exact hK
theorem gX {e:Env} {K:St->Prop} {ds:List (Option Nat)} {os:List Oper} {d t ty:Nat} {p:String} {ed:Array Edge} {parts:List (Nat × Operand)} {s:List (Nat × A)} {m:List (Nat × Bk)} {cs cs':List C} (hK:Runs e ds 0 os ⟨(d,.d (.agg cs'))::s,m⟩ K)
  (hz:Zdr e.P t=some cs:=by exact sny) (hst:Za2 e.P t=true:=by exact sny) (hok:cs.all Zal=true:=by first | rfl | exact sny) (hf:Zcb e.P t cs (parts.map fun p=>(p.1,evA s p.2))=some cs':=by exact sfv):Runs e ds 0 (⟨some d,.build t parts.toArray,ty,p,ed,none⟩::os) ⟨s,m⟩ K:=ZjD hz hst hok hf hK
theorem pN {e:Env} {mask:Nat} {Q:PX->St->Prop} {c:Code} {s s2:List (Nat × A)} {m m2:List (Nat × Bk)} (κ ety sz:Nat) (hK:pwp e mask c ⟨s2,(κ,.buf (some (none,0)) ety sz [])::m2⟩ Q) (h0:0 < sz:=by decide) (hs:Zau κ s=s2:=by exact snv) (hr:remM κ m=m2:=by exact snv):pwp e mask c ⟨s,m⟩ Q :=
 Zda (Zpr κ ety sz h0) fun σ' hσ=>by subst hσ;simp only [hs,hr];exact hK
theorem pD {e:Env} {mask:Nat} {Q:PX->St->Prop} {c:Code} {s s2:List (Nat × A)} {m m2:List (Nat × Bk)} {a:Option Addr} {cap ety sz:Nat} {rows:List (List C)} (k:Nat) (ts ks:List Nat) (hK:pwp e mask c ⟨s2,m2⟩ Q) (hm:gm m k=some (.buf (some (a,cap)) ety sz rows):=by exact snv)
  (hs:datS a rows.length cap rows ts (frzS k (.buf (some (a,cap)) ety sz rows) s)=s2:=by exact snv) (hr:datM a rows.length cap rows ks (remM k m)=m2:=by exact snv):pwp e mask c ⟨s,m⟩ Q :=
 Zda (Zpt k ts ks hm) fun σ' hσ=>by subst hσ;simp only [hs,hr];exact hK
theorem pS {e:Env} {mask:Nat} {Q:PX->St->Prop} {c:Code} {s:List (Nat × A)} {m m2:List (Nat × Bk)} {ety sz:Nat} {rows:List (List C)} {s2:Option Addr->Nat->List (Nat × A)} (k:Nat) (hK:∀ a cap,pwp e mask c ⟨s2 a cap,(k,.buf (some (a,cap)) ety sz rows)::m2⟩ Q)
  (hm:gm m k=some (.buf none ety sz rows):=by exact snv) (hs:∀ a cap,mapS (litB k a rows.length cap) s=s2 a cap:=by intro a cap;exact snv) (hr:remM k m=m2:=by exact snv):pwp e mask c ⟨s,m⟩ Q :=
 Zda (ZhP k hm) fun σ' ⟨a,cap,hσ⟩=>by subst hσ;simp only [hs,hr];exact hK a cap
def Za1 (pm pm':List Bk):Prop:=∀ (w:World) (S:Nat->Prop),(∀ x∈pm,Zbk w S x)->ZbD pm->(∀ x∈pm',Zbk w S x)∧ZbD pm'∧∀ g,ZaG pm' g->ZaG pm g
theorem pE {e:Env} {mask:Nat} {Q:PX->St->Prop} {c:Code} {s s2:List (Nat × A)} {m m2 m3:List (Nat × Bk)} {pm pm':List Bk} (ks ks':List Nat) (hre:Za1 pm pm') (hK:pwp e mask c ⟨s2,m3⟩ Q) (hpm:getM m ks=some pm:=by exact sny) (hn:ks.Nodup:=by decide) (hp:pm.all pinned=true:=by exact sny)
  (hs:ZbU (ks++ks') s=s2:=by exact snv) (hr:ZbZ (ks++ks') m=m2:=by exact snv) (h3:zipM ks' pm'++m2=m3:=by exact snv):pwp e mask c ⟨s,m⟩ Q :=
 Zda (ZjZ (Φ:=fun x=>x=pm') ks ks' hn hpm hp (fun w S h1 h2=>⟨pm',rfl,hre w S h1 h2⟩)) fun σ' ⟨q,hq,hσ⟩=>by subst hq hσ;simp only [hs,hr,h3];exact hK
def ZeY {ι:Type} (pm:List Bk) (Φ:ι->Prop) (f:ι->List Bk):Prop:=∀ (w:World) (S:Nat->Prop),(∀ x∈pm,Zbk w S x)->ZbD pm->∃ i,Φ i∧(∀ x∈f i,Zbk w S x)∧ZbD (f i)∧∀ g,ZaG (f i) g->ZaG pm g
theorem pEx {e:Env} {mask:Nat} {Q:PX->St->Prop} {c:Code} {s s2:List (Nat × A)} {m m2:List (Nat × Bk)} {pm:List Bk} {ι:Type} {Φ:ι->Prop} {f:ι->List Bk} {m3:ι->List (Nat × Bk)} (ks ks':List Nat) (hre:ZeY pm Φ f) (hK:∀ i,Φ i->pwp e mask c ⟨s2,m3 i⟩ Q) (hpm:getM m ks=some pm:=by exact sny) (hn:ks.Nodup:=by decide) (hp:pm.all pinned=true:=by exact sny)
  (hs:ZbU (ks++ks') s=s2:=by exact snv) (hr:ZbZ (ks++ks') m=m2:=by exact snv) (h3:∀ i,zipM ks' (f i)++m2=m3 i:=by intro i;exact snv):pwp e mask c ⟨s,m⟩ Q :=
 Zda (ZjZ (Φ:=fun x=>∃ i,Φ i∧x=f i) ks ks' hn hpm hp (fun w S h1 h2=>Exists.elim (hre w S h1 h2) fun i hi=>⟨f i,⟨i,hi.1,rfl⟩,hi.2⟩)) fun σ' ⟨q,⟨i,hi,hq⟩,hσ⟩=>by subst hq hσ;simp only [hs,hr,h3];exact hK i hi
theorem gIP {e:Env} {f:FuncId} {fn:Func} {c:Code} {args:List D} {pm:List Bk} {m0:List (Nat × Bk)} {R:List D->List Bk->Prop} {ts:List RS} (keys:List Nat) (mask:Nat) (hf:e.P.funcs[f]?=some fn) (h:pwp e mask c ⟨ZcI 0 args,m0⟩ (ZlD e.P ts R)) (hm:zipM keys pm=m0:=by exact snv) (hb:fn.body=some c:=by exact rfl) (hnm:(fn.name == "runtime.NumGoroutine")=false:=by kernel_rfl)
  (hok:Zbz fn.ntmps c=true:=by kernel_rfl) (hal:Nat.ble args.length fn.ntmps=true:=by exact rfl) (hres:Zbb fn.results.toList=ts:=by exact rfl) (he:e.Ok:=by first | exact Zq4 | exact Zq3 | assumption):ConP e f args pm R:=ZjC he keys mask hf hb hnm hok hal hres (by rw [hm];exact h)
theorem gTP {X:Prop} {P:Program} {ts:List RS} {R:List D->List Bk->Prop} {σ:St} {r:List D} {pm:List Bk} (ks:List Nat) (hR:R r pm) (hx:ZlD P ts R .ret σ->X:=by exact fun h=>ZfM h) (hr:resD P σ ts=some r:=by exact sfy) (hg:getM σ.m ks=some pm:=by exact sny) (hn:ks.Nodup:=by decide) (hp:pm.all pinned=true:=by exact sny):X :=
 hx ⟨r,ks,pm,hg,hn,hp,hR,Zgq hr⟩
theorem fG {p X Y:Prop} (f:p) (b:Y) (h:p->Y->X:=by intro F b;exact gG b):X:=h f b
theorem fR {p X Y:Prop} (f:p) (b:Y) (h:p->Y->X:=by intro F b;exact gR b):X:=h f b
theorem fC {p X Y Z:Prop} (f:p) (c:Z) (b:Y) (h:p->Z->Y->X:=by intro F c b;exact gC c b):X:=h f c b
theorem fN {p X Y:Prop} (n:Nat) (f:p) (b:Y) (h:Zbf n->p->Y->X:=by intro NN F b;exact gGn b):X:=h trivial f b
theorem fT {p X:Prop} (f:p) (h:p->X:=by intro F;refine gG ?_;exact gT):X:=h f
theorem fD {p X:Prop} (f:p) (h:p->X:=by intro F;refine gG ?_;exact gTd):X:=h f
theorem fB {p X Y:Prop} (f:p) (b:Y) (h:p->Y->X:=by intro F b;refine gG ?_;exact gB b):X:=h f b
section
variable {e:Env} {U:Nat->Prop} {w0:World} {S0:Nat->Prop} {nt:Nat} {ops:Array Oper} {n:Nat} {m:List (Nat × Bk)} {s:List (Nat × A)} {αs:List A} {L:Lay}
theorem Zds {J:Array Bool->Act->World->(Nat->Prop)->Prop} (he:e.Ok) (hH:ZbJ ops n=true) (hn:n<=ops.size) (hs:∀ i,n<=i->i < ops.size->∀ j,j < n->Region.waitsFor .any ops i j=true)
  (hsz:∀ (i:Nat) (o:Oper) (d:Nat),i < n->ops[i]?=some o->o.dst=some d->d < nt) (hal:αs.length=n) (hch:ZcR e U w0.heap.size S0 m ops.toList (ops.toList.take n) s αs) {Q:Exit->Act->World->Prop} (hgo:ZgK e U w0 S0 nt m ops n s αs L J Q)
  (hsk:∀ (listed:Array Bool) (a:Act) (w:World) (S:Nat->Prop) (i:Nat) (o:Oper) (d:Nat),J listed a w S->InvA e U w0 S0 nt m ops n s αs L listed a w S->HeadAt ops n i o d->i < n->i∈Region.ready .any ops listed->d < nt->o.guard≠none->J (listed.setIfInBounds i true) (a.put o.dst undef) w S)
  (hend:∀ listed a w S,InvA e U w0 S0 nt m ops n s αs L listed a w S->J listed a w S->(∀ i,i < n->listed.getD i false=true)->wpAny e.P .any ops Q (ops.size - n) (ZbC ops.size n) a w) :
  ∀ (k:Nat) (listed:Array Bool) (a:Act) (w:World) (S:Nat->Prop),InvA e U w0 S0 nt m ops n s αs L listed a w S->J listed a w S->(List.range n).countP (fun i=>!listed.getD i true)=k->wpAny e.P .any ops Q (k+(ops.size - n)) listed a w
 | 0,listed,a,w,S,hI,hJ,hc=>by
  have hall:∀ i,i < n->listed.getD i true=true:=fun i hi=>by
   have:=List.countP_eq_zero.1 hc i (List.mem_range.2 hi);simpa using this
  have heq:=ZhG hI.head hn hall;have hE:=hend listed a w S hI hJ (fun i hi=>by
   have hl:i < listed.size:=by rw [hI.head.size];omega
   rw [<- Zbq hl];exact hall i hi)
  rw [Nat.zero_add,heq];exact hE
 | k+1,listed,a,w,S,hI,hJ,hc=>by
  obtain ⟨i0,hi0,hu0⟩:∃ i,i < n∧listed.getD i true=false:=by
   have:0 < (List.range n).countP (fun i=>!listed.getD i true):=om;obtain ⟨i,hi,hp⟩:=List.countP_pos_iff.1 this;exact ⟨i,List.mem_range.1 hi,by simpa using hp⟩
  rw [show k+1+(ops.size - n)=(k+(ops.size - n))+1 by omega];refine ⟨fun h0=>absurd h0 (Zfr hH hI.head hi0 hu0),fun i hr=>?_⟩;obtain ⟨hun,oi,hoi,hall⟩:=mem_ready.1 hr;have hin:i < n:=by
   rcases Nat.lt_or_ge i n with h | h
   ·exact h
   ·have hns:n < ops.size:=Nat.lt_of_le_of_lt h (Tbh.1 hoi).1;obtain ⟨oj,hoj,e1,he1,hb1,hon1⟩:=Region.waitsFor_spec (hs i h (Tbh.1 hoi).1 i0 hi0);rw [hoi] at hoj;injection hoj with hoj
    subst hoj;have h2:=hall e1 he1 hb1;rw [hon1] at h2;have h3:i0 < listed.size:=by rw [hI.head.size];omega
    rw [Zbq h3] at hu0;rw [h2] at hu0
    cases hu0
  obtain ⟨o,d,hA⟩:=ZbJ.get hH hin;have hoo:oi=o:=by have:=hA.op;rw [hoi] at this;injection this
  subst hoo;have hls:i < listed.size:=by rw [hI.head.size];exact (Tbh.1 hoi).1
  obtain ⟨α,hα,hst⟩:=hch.get i oi (by rw [List.getElem?_take,if_pos hin];simpa using hoi);have htk:(ops.toList.take n).take i=ops.toList.take i:=by rw [List.take_take,Nat.min_eq_left om]
  rw [htk] at hst;have hdn:=hsz i oi d hin hoi hA.dst;have hcount:(List.range n).countP (fun j=>!(listed.setIfInBounds i true).getD j true)=k:=by
   have h1:(List.range n).countP (fun j=>!(listed.setIfInBounds i true).getD j true)+1=(List.range n).countP (fun j=>!listed.getD j true):=by
    have hperm:=List.perm_cons_erase (List.mem_range.2 hin);rw [hperm.countP_eq,hperm.countP_eq,List.countP_cons,List.countP_cons];have hcong:((List.range n).erase i).countP (fun j=>!(listed.setIfInBounds i true).getD j true)=((List.range n).erase i).countP (fun j=>!listed.getD j true):=by
     refine List.countP_congr fun j hj=>?_;have hne:j≠i:=fun e=>by
      subst e;exact List.Nodup.not_mem_erase (List.nodup_range) hj
     rw [getD_set_ne true (Ne.symm hne)]
    rw [hcong,hun];simp [hls]
   omega
  have hop:∀ x∈oi.op.operands,ARel w S L (evA (after s (ops.toList.take i) (αs.take i)) x) (a.eval x):=fun x hx=>by
   cases x with
   | tmp t =>
    exact hI.operand hH hn hal hA hin hall (fun j p hj hp hpt=>(hA.dep j p hj hp).2 t (List.mem_filterMap.2 ⟨.tmp t,by simpa using hx,rfl⟩) hpt)
   | const v =>
    simp only [evA,Act.eval];unfold ZcM;split
    ·simp only [ARel,DRel,Rep];exact ⟨⟨none,0,0,rfl,rfl,Tai _,by decide,fun h=>absurd h (by decide)⟩,none,0,rfl⟩
    ·rename_i vs;exact ⟨vs.toList,rfl,ZbH _⟩
    ·simp [ARel,DRel,Rep]
   | func f =>
    simp only [evA,Act.eval,ARel,DRel,Rep];exact ⟨[],rfl,by simp [Zad]⟩
   | global g=>trivial
  have go:Za0 e U w0.heap.size S0 m oi (evA (after s (ops.toList.take i) (αs.take i))) α->oi.wp e.P a w (wpAny e.P .any ops Q (k+(ops.size - n)) (listed.setIfInBounds i true)) Q:=fun hG =>
   Oper.wp_mono (fun a' w' ⟨S',hI',hJ'⟩=>Zds he hH hn hs hsz hal hch hgo hsk hend k _ _ _ S' hI' hJ' hcount) (hgo listed a w S i oi d α hI hJ hA hin hr hdn hα hop hG)
  unfold wpOp;simp only [hoi];unfold Zej at hst
  cases hg:oi.guard with
  | none =>
   rw [hg] at hst;have hwt:Region.wanted oi (yielded ops a.tmps)=true:=by simp [Region.wanted,hg]
   rw [if_pos hwt];exact .inl (go hst)
  | some jw =>
   obtain ⟨j,want⟩:=jw;rw [hg] at hst;obtain ⟨hjn,hjw⟩:=hA.guard j want hg;have hrelD:∀ dj,((ops[j]?).bind (·.dst))=some dj->ARel w S L (gs (after s (ops.toList.take i) (αs.take i)) dj) (a.tmps.getD dj undef):=fun dj hdj=>hI.operand hH hn hal hA hin hall (t:=dj) (fun j' p hj' hp hpt=>by
    obtain ⟨p0,d0,hP0⟩:=ZbJ.get hH hjn;have hd0:d0=dj:=by have:=hdj;rw [hP0.op] at this;simp [hP0.dst] at this;exact this
    by_cases hjj:j'=j
    ·rw [hjj];exact hjw
    ·exact absurd (by rw [hpt,hd0]) ((hP0.dep j' p hj' hp).1 hjj))
   rcases hst with ⟨b,hb1,hb2⟩ | ⟨hb1,hb2⟩
   rotate_left
   ·simp only [Tav] at hb1;obtain ⟨dj,hd1,hd2⟩:=hb1;have hdj:((ops[j]?).bind (·.dst))=some dj:=by simpa using Zdd hd1
    have hrel:=hrelD dj hdj;rw [hd2] at hrel;rw [Zfq hg hdj hrel];subst hb2;simp only [Tam,if_false];exact Zds he hH hn hs hsz hal hch hgo hsk hend k _ _ _ S (hI.put hH hA hin hr hdn hα (fun _ h=>h) hI.cls (Kept.refl _ _ _ _) rfl) (hsk listed a w S i oi d hJ hI hA hin hr hdn (by rw [hg];simp)) hcount
   simp only [Tav] at hb1;obtain ⟨dj,hd1,hd2⟩:=hb1;have hdj:((ops[j]?).bind (·.dst))=some dj:=by simpa using Zdd hd1
   have hrel:=hrelD dj hdj;rw [hd2] at hrel;have h4:=Zfp hrel.bool;have hwt:Region.wanted oi (yielded ops a.tmps)=decide (b=want):=by
    have h6:yielded ops a.tmps j=some b:=by unfold yielded;rw [hdj];simp only [Option.bind_some,h4]
    simp only [Region.wanted,hg,h6]
    cases b <;> cases want <;> rfl
   rw [hwt];by_cases hbw:b=want
   ·rw [if_pos hbw] at hb2;simp only [hbw,decide_true,if_true];exact .inl (go hb2)
   ·rw [if_neg hbw] at hb2;subst hb2;simp only [hbw,decide_false,Tam,if_false];exact Zds he hH hn hs hsz hal hch hgo hsk hend k _ _ _ S (hI.put hH hA hin hr hdn hα (fun _ h=>h) hI.cls (Kept.refl _ _ _ _) rfl) (hsk listed a w S i oi d hJ hI hA hin hr hdn (by rw [hg];simp)) hcount
theorem ZpC {σ:St} (hH:ZbJ ops n=true) (hn:n<=ops.size) (hal:αs.length=n) {listed:Array Bool} {a':Act} {w':World} {S':Nat->Prop} (hI:InvA e U w0 S0 nt σ.m ops n σ.s αs L listed a' w' S') (hall:∀ i,i < n->listed.getD i false=true):Sim e U w0 S0 nt ⟨after σ.s (ops.toList.take n) αs,σ.m⟩ a' w' S' L:=by
 refine ⟨hI.cls,fun t=>?_,hI.size,hI.defers,hI.kept⟩;by_cases hex:∃ (j:Nat) (p:Oper),j < n∧ops[j]?=some p∧p.dst=some t
 ·obtain ⟨j,p,hj,hp,hpt⟩:=hex;obtain ⟨p',d',hP⟩:=ZbJ.get hH hj;have hpp:p'=p:=by have:=hP.op;rw [hp] at this;injection this with this;exact this.symm
  subst hpp;have hdt:d'=t:=by have:=hP.dst;rw [hpt] at this;injection this with this;exact this.symm
  subst hdt;obtain ⟨α,hα⟩:∃ α,αs[j]?=some α:=⟨αs[j],Taa om⟩;show ARel w' S' L (gs (after σ.s (ops.toList.take n) αs) d') _;rw [Zc1 (ops.toList.take n) αs σ.s j p' α (by rw [List.getElem?_take,if_pos hj];simpa using hp) hα hpt (fun k q hk hq=>by
   rw [List.getElem?_take] at hq;split at hq
   ·exact (hP.dep k q om (by simpa using hq)).1 hk
   ·cases hq)]
  exact hI.done j p' d' α hj (hall j hj) hp hpt hα
 ·have hno:∀ (j:Nat) (p:Oper),j < n->ops[j]?=some p->p.dst≠some t:=fun j p hj hp hd=>hex ⟨j,p,hj,hp,hd⟩;show ARel w' S' L (gs (after σ.s (ops.toList.take n) αs) t) _;rw [Zch _ _ _ (fun p hp=>by
   obtain ⟨j,hj⟩:=List.mem_iff_getElem?.1 hp;rw [List.getElem?_take] at hj;split at hj
   ·exact hno j p om (by simpa using hj)
   ·cases hj)]
  exact hI.out t hno
end
def ZgU (e:Env) (ds:List (Option Nat)) (ops:Array Oper) (K:St->Prop):Nat->Array Bool->St->Prop
 | 0,listed,σ=>Region.ready .any ops listed=[]∧K σ
 | f+1,listed,σ=>(Region.ready .any ops listed=[]->K σ)∧∀ i∈Region.ready .any ops listed,∃ o,ops[i]?=some o∧o.guard=none∧Zby e o σ (fun σ'=>Runs e ds 0 [] σ' (ZgU e ds ops K f (listed.setIfInBounds i true)))
section
variable {e:Env} {U:Nat->Prop} {w0:World} {S0:Nat->Prop} {nt:Nat}
theorem Zja (he:e.Ok) {ops:Array Oper} {K:St->Prop} {Q:Exit->Act->World->Prop} (hQ:∀ a w σ',K σ'->SimE e U w0 S0 nt σ' a w->Q .normal a w) (hd:∀ o∈ops.toList,∀ d,o.dst=some d->d < nt) :
  ∀ (f:Nat) (listed:Array Bool) (σ:St) (a:Act) (w:World),SimE e U w0 S0 nt σ a w->ZgU e (ops.toList.map (·.dst)) ops K f listed σ->wpAny e.P .any ops Q f listed a w
 | 0,listed,σ,a,w,hs,h=>⟨h.1,hQ a w σ h.2 hs⟩
 | f+1,listed,σ,a,w,hs,h=>by
  refine ⟨fun h0=>hQ a w σ (h.1 h0) hs,fun i hi=>?_⟩;obtain ⟨o,ho,hg,hst⟩:=h.2 i hi;unfold wpOp;simp only [ho];have hw:Region.wanted o (yielded ops a.tmps)=true:=by simp [Region.wanted,hg]
  rw [if_pos hw];have hmem:o∈ops.toList:=Tac (by simpa using ho);refine .inl (Oper.wp_mono (fun a' w' ⟨σ',hr,hs'⟩=>?_) (hst he U w0 S0 nt a w Q (hd o hmem) hs));exact hr he U w0 S0 nt a' w' ops.toList (fun _ a w=>wpAny e.P .any ops Q f (listed.setIfInBounds i true) a w) rfl (fun o ho=>by simp at ho) (fun a w σ'' hK hs''=>Zja he hQ hd f _ σ'' a w hs'' hK) hs'
def Zr2 (ops:Array Oper) (n:Nat):Bool:=(List.range ops.size).all fun i=>decide (i < n) || (List.range n).all fun j=>Region.waitsFor .any ops i j
def regT (ops:Array Oper) (n:Nat):Bool:=ZbJ ops n && decide (n<=ops.size) && Zr2 ops n
theorem ZpD (he:e.Ok) {id:Nat} {ops:Array Oper} {n:Nat} (hB:regT ops n=true) {K:St->Prop} {Q:Exit->Act->World->Prop} (hQ:∀ a w σ',K σ'->SimE e U w0 S0 nt σ' a w->Q .normal a w) {σ:St} {a:Act} {w:World}
  (hd:∀ o∈ops.toList,∀ d,o.dst=some d->d < nt) (h:SimE e U w0 S0 nt σ a w) (hp:Runs e (ops.toList.map (·.dst)) (n+1) (ops.toList.take n) σ (ZgU e (ops.toList.map (·.dst)) ops K (ops.size - n) (ZbC ops.size n))):(Code.region id ops true).wp e.P Q a w:=by
 simp only [regT,Tar,decide_eq_true_eq] at hB;obtain ⟨⟨hH,hn⟩,hs0⟩:=hB;have hs:∀ i,n<=i->i < ops.size->∀ j,j < n->Region.waitsFor .any ops i j=true:=fun i h1 h2 j h3=>by
  have k1:=List.all_eq_true.1 hs0 i (List.mem_range.2 h2);simp only [Bool.or_eq_true,decide_eq_true_eq] at k1;rcases k1 with k1 | k1
  ·omega
  ·exact List.all_eq_true.1 k1 j (List.mem_range.2 h3)
 obtain ⟨S,L,h1⟩:=h.drew he;refine wp_region_any he.mixed ?_;have hlen:(ops.toList.take n).length=n:=by simp;omega
 have hp':Runs e (ops.toList.map (·.dst)) ((ops.toList.take n).length+1) (ops.toList.take n++[]) σ (ZgU e (ops.toList.map (·.dst)) ops K (ops.size - n) (ZbC ops.size n)):=by rw [List.append_nil,hlen];exact hp
 obtain ⟨αs,hal,hch,hrest⟩:=ZdN (U:=U) he w0.heap.size S0 ops.toList [] 1 (ops.toList.take n) σ (fun h=>absurd h (by decide)) hp';rw [hlen] at hal;simp only [Runs] at hrest
 have inv0:InvA e U w0 S0 nt σ.m ops n σ.s αs L (Array.replicate ops.size false) a { w with drawn:=w.drawn+1 } S :=
  ⟨⟨by simp,fun j oj _ hl=>(by rw [getD_replicate_false] at hl;cases hl),fun t _ ht=>getD_in (by simpa using ht) (getD_replicate_false _ _)⟩,h1.size,h1.defers,h1.cls,h1.kept,fun t _=>h1.rel t,fun i o d α _ hl=>(by rw [getD_replicate_false] at hl;cases hl)⟩
 have H:=Zds (e:=e) (L:=L) (Q:=Q) he hH hn hs (fun i o d hi ho hdd=>hd o (List.mem_iff_getElem?.2 ⟨i,by simpa using ho⟩) d hdd) hal hch (Zf1 hH Q) (fun _ _ _ _ _ _ _ _ _ _ _ _ _ _=>trivial) (fun listed a' w' S' hI _ hall=>?_) n _ a _ S inv0 trivial ?_
 ·rw [show n+(ops.size - n)=ops.size by omega] at H;exact H
 ·exact Zja he hQ hd _ _ _ a' w' ⟨S',L,ZpC hH hn hal hI hall⟩ hrest
 ·rw [List.countP_eq_length.2]
  ·simp
  ·intro i hi;have hi':=List.mem_range.1 hi;have hsz:i < (Array.replicate ops.size false).size:=by simp;omega
   rw [Zbq hsz,getD_replicate_false];rfl
end
section
variable {e:Env} {U:Nat->Prop} {w0:World} {S0:Nat->Prop} {nt:Nat}
structure AppAt (P:Program) (σ:St) (o:Oper) (d ety sz:Nat) (rows:List (List C)):Prop where
 at':∃ (x y:Operand) (args:Array Operand) (ts:Array TypeId) (t by':Nat) (r1 ys:List (List C)),o.op=.call ⟨.builtin .append,args,ts⟩∧args.toList=[x,y]∧evA σ.s x=.d (.clip r1)∧slA [] (evA σ.s y)=some ys∧ts[0]?=some t∧ts[1]?=some t∧Za6 P t=some (ety,sz,by') ∧
  ZaC sz r1=true∧ZaC sz ys=true∧r1.length+ys.length<=maxApp∧(r1=[]∨ys≠[])∧rows=r1++ys
 dst:o.dst=some d
 guard:o.guard=none
theorem ZpE {m:List (Nat × Bk)} {y:A} {ys:List (List C)} (h:slA [] y=some ys):slA m y=some ys:=by
 unfold slA at h ⊢;split at h <;> simp_all [gm,bufA]
theorem AppAt.run (he:e.Ok) {σ:St} {o:Oper} {d ety sz:Nat} {rows:List (List C)} (hA:AppAt e.P σ o d ety sz rows) {m:List (Nat × Bk)} {w:World} {S:Nat->Prop} {L:Lay} {ρv:Operand->Value} (hC:Cls e U w0.heap.size S0 m w S L) (hr:∀ x,x∈o.op.operands->ARel w S L (evA σ.s x) (ρv x)) :
  ∃ v' w',(execOp ρv o).run e.P w=.ok (.value v') w'∧ZaZ w' S ety sz rows v'∧Kept e.D (fun _=>False) w.heap.size w w'∧∀ g,vblk v'=some g->w.heap.size<=g:=by
 obtain ⟨x,y,args,ts,t,by',r1,ys,ho,hargs,hx,hy,h0,h1,hb,hr1,hys,hle,hne,rfl⟩:=hA.at';have hx':=hr x (by rw [ho];simp [Op.operands,Call.operands,hargs,<- Array.mem_toList_iff]);have hy':=hr y (by rw [ho];simp [Op.operands,Call.operands,hargs,<- Array.mem_toList_iff]);rw [hx] at hx';have hx':DRel w S (.clip r1) (ρv x):=hx';have hyl:=ZaW.1 hys;have hyf:=ZhK (σ:=⟨[],m⟩) hC (ZpE hy) hy' hyl;obtain ⟨v',w',hrun,hbuf,τ,hk,hτ,hg⟩:=ZeW (σ:=⟨[],m⟩) (ty:=o.type) he hC h0 h1 hb (.inr ⟨hx',hne⟩) (ZaW.1 hr1) hyl hle hyf
 have hτn:∀ g,τ≠some g:=fun g e1=>by
  obtain ⟨h2,h3⟩:=hτ g e1;obtain ⟨h4,a,n,h5⟩:=hx';rw [h5] at h2 h3 h4;simp only [Rep] at h4;obtain ⟨A,n',cap,h6,h7,_,_,h8⟩:=h4;injection h6 with h6 h9 h10
  subst h6 h9
  cases a with
  | none=>simp [vblk] at h2
  | some q =>
   simp only [vblk] at h2;split at h2
   ·cases h2
   ·rename_i hn0;injection h2 with h2
    obtain ⟨b,off,h11,hS,_⟩:=h8 om;injection h11 with h11
    obtain ⟨_,_,h12⟩:=h3;rcases h12 with ⟨h12,_⟩ | ⟨g',cap',cur,h13,_,_,h14,_⟩
    ·rw [h12] at h7;simp at h7;omega
    ·injection h13 with h13 _ _
     injection h13 with h13
     rw [h13] at h11;injection h11 with h11
     exact h14 (h11 ▸ hS)
 refine ⟨v',w',?_,hbuf,⟨hk.os,hk.tape,hk.output,hk.drawn,hk.size,fun k hk' hn=>hk.block k hk' (fun e1=>hτn k e1)⟩,fun g hg'=>?_⟩
 ·have ha:args.map ρv=#[ρv x,ρv y]:=by apply Array.toList_inj.1;simp [hargs]
  simp [execOp,ho,resolve,invoke,builtin,ha,hrun,Result.andThen]
 ·rcases hg g hg' with e1 | e1
  ·exact (hτn g e1).elim
  ·exact e1
theorem AppAt.gives (he:e.Ok) {σ:St} {o:Oper} {d ety sz:Nat} {rows:List (List C)} (hA:AppAt e.P σ o d ety sz rows) {m:List (Nat × Bk)}:Za0 e U w0.heap.size S0 m o (evA σ.s) .undef:=by
 intro w S L ρv hC hr;obtain ⟨v',w',h1,_,h3,_⟩:=hA.run he hC hr;have hk:Kept e.D e.E w.heap.size w w':=⟨h3.os,h3.tape,h3.output,h3.drawn,h3.size,fun k hk hn=>h3.block k hk id⟩;unfold Go.Proofs.Ytjoaefnnnbpflaa.gives;rw [h1];exact ⟨S,⟨fun _ h=>h,fun _ h=>.inl h⟩,hC.later hk (he.keep _ _ h3.size (fun b hE=>h3.block b (Tba (hC.ein b hE) hC.bsz) id) hC.g) (fun _ h=>h) (fun _ h=>.inl h),hk,trivial⟩
end
section
variable {e:Env} {mask:Nat} {Q:PX->St->Prop} {ds:List (Option Nat)}
theorem Zq5 {nt:Nat} {id:Nat} {ops:Array Oper} {fl:Bool} (hok:Zbz nt (.region id ops fl)=true):∀ o∈ops.toList,∀ d,o.dst=some d->d < nt:=fun o ho d hd=>by
 simp only [Zbz] at hok;have:=List.all_eq_true.1 hok o ho;rw [hd] at this;simpa using this
end
section
variable {e:Env} {mask:Nat} {Q:PX->St->Prop} {ds:List (Option Nat)}
theorem ZrK {P:Program} {o:Oper} {a:Act} {w:World} {K:Act->World->Prop} {Q0 Q:Exit->Act->World->Prop} (h0:∀ ex a w,ex≠.normal->¬ Q0 ex a w) (hh:o.wp P a w K Q0):o.wp P a w K Q:=by
 have hl:¬ LetsOut Q0:=fun ⟨a,w,h⟩=>h0 _ a w (by simp) h;unfold Oper.wp at *;generalize (execOp a.eval o).run P w=r at *
 cases r with
 | ok n w' =>
  cases n <;> simp only [Oper.upon] at hh ⊢ <;> first
   | exact hh
   | exact Calls.mono hh (fun e w'' he=>by cases e <;> first | exact he | exact absurd he (h0 _ _ _ (by simp)) | exact absurd he hl)
   | exact absurd hh hl
   | exact absurd hh (h0 _ _ _ (by simp))
 | halt x w' =>
  cases x <;> simp only [Oper.upon] at hh ⊢ <;> first
   | exact hh
   | exact absurd hh hl
   | exact absurd hh (h0 _ _ _ (by simp))
theorem Zhn {o:Oper} {σ:St} {K:St->Prop} (hg:o.guard=none) (h:Runs e ds 0 [o] σ K):Zby e o σ (fun σ'=>Runs e ds 0 [] σ' K):=by
 intro he U w0 S0 nt a w Q hd hs;have h:ZcQ e ds [o] σ K:=by simpa only [Runs] using h
 have h1:=h he U w0 S0 nt a w (ds.map fun d=>{ o with dst:=d }) (fun ex a' w'=>ex=.normal∧∃ σ',K σ'∧SimE e U w0 S0 nt σ' a' w') (by rw [List.map_map];exact List.map_id ds) (fun o' ho d hd'=>by simp only [List.mem_singleton] at ho;subst ho;exact hd d hd') (fun a w σ' k1 k2=>⟨rfl,σ',k1,k2⟩) hs;unfold wpList at h1;have hw:Region.wanted o (yielded (ds.map fun d=>{ o with dst:=d }).toArray a.tmps)=true:=by simp [Region.wanted,hg]
 rw [if_pos hw] at h1;rcases h1 with h1 | ⟨_,a',w',h1,_⟩
 ·refine ZrK (fun ex a w hne h=>hne h.1) (Oper.wp_mono (fun a' w' hk=>?_) h1);simp only [wpList] at hk;obtain ⟨_,σ',k1,k2⟩:=hk;exact ⟨σ',ZaI k1,k2⟩
 ·cases h1
theorem gO3 {K:St->Prop} {o:Oper} {s s1:List (Nat × A)} {m m1:List (Nat × Bk)} (hK:K ⟨s1,m1⟩) (h:Zbt e.P ds 0 [o] ⟨s,m⟩=.done ⟨s1,m1⟩:=by exact sfv):Runs e ds 0 [o] ⟨s,m⟩ K:=ZhT h hK
end
def Lks (sb:List (Nat × A)) (mb:List (Nat × Bk)) (σ:St):Prop:=(∀ p∈sb,gs σ.s p.1=p.2)∧∀ p∈mb,gm σ.m p.1=some p.2
def keyB (k:Nat):A->Bool
 | .ref k' _=>k'==k
 | .buf k'=>k'==k
 | .row k' _ _ _=>k'==k
 | _=>false
def Zb0 (d:Nat) (sb:List (Nat × A)) (mb:List (Nat × Bk)):Bool:=sb.all (fun p=>p.1 != d && !keyB d p.2) && mb.all (fun p=>p.1 != d)
theorem Zc8 (k t:Nat):∀ (s:List (Nat × A)),keyB k (gs s t)=false->gs (Zau k s) t=gs s t
 | [],_=>rfl
 | (t',x)::r,h=>by
  have ih:=Zc8 k t r;by_cases ht:t=t'
  ·cases x <;> simp_all [Zau,gs,keyB]
  ·have h2:keyB k (gs r t)=false:=by simpa [gs,ht] using h
   have h3:=ih h2;clear h ih
   cases x <;> simp [Zau,gs,ht,h3]
theorem ZoM {d:Nat} {a:Option Addr} {n cap:Nat} {x:A} (h:keyB d x=false):litB d a n cap x=x:=by
 cases x <;> simp_all [litB,keyB]
section
variable {sb sb':List (Nat × A)} {mb mb':List (Nat × Bk)} {s:List (Nat × A)} {m:List (Nat × Bk)} {d:Nat} {α:A} {bk:Bk} {σ:St}
theorem Lks.app (h:Lks sb mb σ) (h':Lks sb' mb' σ):Lks (sb++sb') (mb++mb') σ :=
 ⟨fun p hp=>(Tbe.1 hp).elim (h.1 p) (h'.1 p),fun p hp=>(Tbe.1 hp).elim (h.2 p) (h'.2 p)⟩
theorem Lks.born (h:Lks sb mb ⟨s,m⟩) (hf:Zb0 d sb mb=true):Lks sb mb ⟨(d,α)::Zau d s,(d,bk)::remM d m⟩:=by
 simp only [Zb0,Tar,List.all_eq_true,bne_iff_ne,ne_eq,Bool.not_eq_true'] at hf;refine ⟨fun p hp=>?_,fun p hp=>?_⟩
 ·have h1:=hf.1 p hp;have h2:=h.1 p hp;simp only [gs,h1.1,if_false];rw [Zc8 _ _ _ (by rw [h2];exact h1.2)];exact h2
 ·have h1:=hf.2 p hp;simp only [gm,h1,if_false,Zah];exact h.2 p hp
theorem Lks.pin (h:Lks sb mb ⟨s,m⟩) (hf:Zb0 d sb mb=true) {a:Option Addr} {n cap:Nat}:Lks sb mb ⟨(d,α)::mapS (litB d a n cap) (Zau d s),(d,bk)::remM d (remM d m)⟩:=by
 simp only [Zb0,Tar,List.all_eq_true,bne_iff_ne,ne_eq,Bool.not_eq_true'] at hf;refine ⟨fun p hp=>?_,fun p hp=>?_⟩
 ·have h1:=hf.1 p hp;have h2:=h.1 p hp;simp only [gs,h1.1,if_false];rw [Zhl rfl,Zc8 _ _ _ (by rw [h2];exact h1.2),h2];exact ZoM h1.2
 ·have h1:=hf.2 p hp;simp only [gm,h1,if_false,Zah];exact h.2 p hp
theorem Lks.slot (h:Lks sb mb ⟨s,m⟩) (hf:sb.all (fun p=>p.1 != d)=true):Lks sb mb ⟨(d,α)::s,m⟩:=by
 simp only [List.all_eq_true,bne_iff_ne,ne_eq] at hf;refine ⟨fun p hp=>?_,h.2⟩;simp only [gs,hf p hp,if_false];exact h.1 p hp
theorem Lks.own (h:Lks sb mb ⟨s,m⟩) (hf:mb.all (fun p=>p.1 != d)=true):Lks sb mb ⟨s,(d,bk)::remM d m⟩:=by
 simp only [List.all_eq_true,bne_iff_ne,ne_eq] at hf;refine ⟨h.1,fun p hp=>?_⟩;simp only [gm,hf p hp,if_false,Zah];exact h.2 p hp
theorem ZoN:∀ {sb:List (Nat × A)} (t:Nat),(∀ p∈sb,gs σ.s p.1=p.2)->gs sb t=gs σ.s t∨gs sb t=.undef
 | [],t,_=>.inr rfl
 | (t',x)::r,t,h=>by
  simp only [gs];by_cases ht:t=t'
  ·have:=h (t',x) (by simp);rw [if_pos ht,ht];exact .inl this.symm
  ·rw [if_neg ht];exact ZoN t fun p hp=>h p (by simp [hp])
theorem ZoO:∀ {mb:List (Nat × Bk)} (t:Nat) (bk:Bk),(∀ p∈mb,gm σ.m p.1=some p.2)->gm mb t=some bk->gm σ.m t=some bk
 | [],t,bk,_,h=>by simp [gm] at h
 | (t',x)::r,t,bk,h,hg=>by
  simp only [gm] at hg;by_cases ht:t=t'
  ·rw [if_pos ht] at hg;injection hg with hg
   have:=h (t',x) (by simp);rw [ht,this,hg]
  ·rw [if_neg ht] at hg;exact ZoO t bk (fun p hp=>h p (by simp [hp])) hg
end
section
variable {e:Env} {mask:Nat} {Q:PX->St->Prop} {ds:List (Option Nat)}
theorem ZlL {os:List Oper} {σ:St} {K K':St->Prop} (h:Runs e ds 0 os σ K) (hk:∀ σ',K σ'->K' σ'):Runs e ds 0 os σ K':=by
 simp only [Runs] at h ⊢;exact fun he U w0 S0 nt a w ops Q hds hd hQ hs=>h he U w0 S0 nt a w ops Q hds hd (fun a w σ' k1 k2=>hQ a w σ' (hk σ' k1) k2) hs
def ZlM (l:List Oper):Bool:=(List.range l.length).all fun i=>match l[i]? with
 | none=>true
 | some o=>o.guard.isNone && o.after.toList.all fun e=>!Region.binds .any e || decide (e.on < i)
def Zd3 (o:Oper):List Nat:=(o.after.toList.filter fun e=>Region.binds .any e).map (·.on)
def Zbl (L:List Oper) (j:Nat):List Nat:=match L[j]? with
 | some o=>Zd3 o
 | none=>[]
def ZgV (e:Env) (ds:List (Option Nat)) (L:List Oper) (B:St->Prop) (P:Nat->St->Prop):Nat->List Oper->Prop
 | _,[]=>True
 | i,o::os=>(∀ s m,B ⟨s,m⟩->(∀ j∈Zd3 o,P j ⟨s,m⟩)->Runs e ds 0 [o] ⟨s,m⟩ (fun σ'=>B σ'∧P i σ'∧∀ j,j≠i->i ∉ Zbl L j->P j ⟨s,m⟩->P j σ'))∧ZgV e ds L B P (i+1) os
theorem ZgV.get {L:List Oper} {B:St->Prop} {P:Nat->St->Prop}:∀ {l:List Oper} {k i:Nat} {o:Oper},ZgV e ds L B P k l->l[i]?=some o->∀ s m,B ⟨s,m⟩->(∀ j∈Zd3 o,P j ⟨s,m⟩)->Runs e ds 0 [o] ⟨s,m⟩ (fun σ'=>B σ'∧P (k+i) σ'∧∀ j,j≠k+i->k+i ∉ Zbl L j->P j ⟨s,m⟩->P j σ')
 | [],k,i,o,_,h=>by simp at h
 | x::l,k,0,o,h,ho=>by
  simp only [Tat,Taq] at ho;subst ho;exact h.1
 | x::l,k,i+1,o,h,ho=>by
  have:=ZgV.get (l:=l) (k:=k+1) (i:=i) (o:=o) h.2 (by simpa using ho);rw [show k+1+i=k+(i+1) by omega] at this;exact this
def PG {X:Type} (S:X->Nat->List (Nat × A)) (M:X->Nat->List (Nat × Bk)) (i:Nat) (σ:St):Prop:=∃ x,Lks (S x i) (M x i) σ
section
variable {X:Type} {S:X->Nat->List (Nat × A)} {M:X->Nat->List (Nat × Bk)} {d i:Nat} {L:List Oper} {s:List (Nat × A)} {m:List (Nat × Bk)} {α:A} {bk:Bk}
theorem PG.slot (hf:∀ j,j≠i->i ∉ Zbl L j->∀ x,(S x j).all (fun p=>p.1 != d)=true):∀ j,j≠i->i ∉ Zbl L j->PG S M j ⟨s,m⟩->PG S M j ⟨(d,α)::s,m⟩:=fun j h1 h2 ⟨x,h⟩=>⟨x,h.slot (hf j h1 h2 x)⟩
theorem PG.born (hf:∀ j,j≠i->i ∉ Zbl L j->∀ x,Zb0 d (S x j) (M x j)=true):∀ j,j≠i->i ∉ Zbl L j->PG S M j ⟨s,m⟩->PG S M j ⟨(d,α)::Zau d s,(d,bk)::remM d m⟩:=fun j h1 h2 ⟨x,h⟩=>⟨x,h.born (hf j h1 h2 x)⟩
theorem PG.pin (hf:∀ j,j≠i->i ∉ Zbl L j->∀ x,Zb0 d (S x j) (M x j)=true) {a:Option Addr} {n cap:Nat}:∀ j,j≠i->i ∉ Zbl L j->PG S M j ⟨s,m⟩->PG S M j ⟨(d,α)::mapS (litB d a n cap) (Zau d s),(d,bk)::remM d (remM d m)⟩:=fun j h1 h2 ⟨x,h⟩=>⟨x,h.pin (hf j h1 h2 x)⟩
end
end
section
variable {e:Env} {mask:Nat} {Q:PX->St->Prop} {ds:List (Option Nat)}
def ancN (L:List Oper):Nat->Nat->List Nat
 | 0,_=>[]
 | n+1,j=>Zbl L j++(Zbl L j).flatMap (ancN L n)
theorem ZeZ {L:List Oper} {listed:Array Bool} (h:∀ j,listed.getD j false=true->∀ q∈Zbl L j,listed.getD q false=true):∀ (n j:Nat),(∀ q∈Zbl L j,listed.getD q false=true)->∀ q∈ancN L n j,listed.getD q false=true
 | 0,_,_,q,hq=>by cases hq
 | n+1,j,hj,q,hq=>by
  rcases Tbe.1 hq with hq | hq
  ·exact hj q hq
  ·obtain ⟨r,hr,hq⟩:=List.mem_flatMap.1 hq;exact ZeZ h n r (h r (hj r hr)) q hq
def ZdB (e:Env) (ds:List (Option Nat)) (L:List Oper) (cons:Nat->Option Nat) (ini:List Nat) (B:St->Prop) (P:Nat->St->Prop):Nat->List Oper->Prop
 | _,[]=>True
 | i,o::os=>(∀ s m,B ⟨s,m⟩->(∀ j∈Zbl L i,(cons j=none∨cons j=some i)->P j ⟨s,m⟩)->(∀ j∈ini,cons j=some i->P j ⟨s,m⟩)->(∀ j∈ini,∀ k,cons j=some k->i∈Zbl L k->P j ⟨s,m⟩)->Runs e ds 0 [o] ⟨s,m⟩ (fun σ'=>B σ'∧P i σ'∧∀ j,j≠i->i ∉ ancN L 6 j->cons j≠some i->(∀ k,cons j=some k->k ∉ ancN L 6 i)->P j ⟨s,m⟩->P j σ'))∧ZdB e ds L cons ini B P (i+1) os
theorem ZdB.get {L:List Oper} {cons:Nat->Option Nat} {ini:List Nat} {B:St->Prop} {P:Nat->St->Prop}:∀ {l:List Oper} {k i:Nat} {o:Oper},ZdB e ds L cons ini B P k l->l[i]?=some o->∀ s m,B ⟨s,m⟩->(∀ j∈Zbl L (k+i),(cons j=none∨cons j=some (k+i))->P j ⟨s,m⟩)->(∀ j∈ini,cons j=some (k+i)->P j ⟨s,m⟩)->(∀ j∈ini,∀ k',cons j=some k'->k+i∈Zbl L k'->P j ⟨s,m⟩)->Runs e ds 0 [o] ⟨s,m⟩ (fun σ'=>B σ'∧P (k+i) σ'∧∀ j,j≠k+i->k+i ∉ ancN L 6 j->cons j≠some (k+i)->(∀ k',cons j=some k'->k' ∉ ancN L 6 (k+i))->P j ⟨s,m⟩->P j σ')
 | [],k,i,o,_,h=>by simp at h
 | x::l,k,0,o,h,ho=>by
  simp only [Tat,Taq] at ho;subst ho;exact h.1
 | x::l,k,i+1,o,h,ho=>by
  have:=ZdB.get (l:=l) (k:=k+1) (i:=i) (o:=o) h.2 (by simpa using ho);rw [show k+1+i=k+(i+1) by omega] at this;exact this
theorem ZjE {l:List Oper} {cons:Nat->Option Nat} {ini:List Nat} {K B:St->Prop} {P:Nat->St->Prop} (hb:ZlM l=true) (hini:ini.all (fun j=>decide (l.length<=j))=true) (hstep:ZdB e ds l cons ini B P 0 l) (hK:∀ s m,B ⟨s,m⟩->(∀ i,i < l.length∨i∈ini->(∀ k,cons i=some k->l.length<=k)->P i ⟨s,m⟩)->K ⟨s,m⟩) :
  ∀ (f:Nat) (listed:Array Bool) (σ:St),listed.size=l.length->(List.range l.length).countP (fun i=>!listed.getD i true)=f->B σ->(∀ j,listed.getD j false=true->(P j σ∨∃ k,cons j=some k∧listed.getD k false=true)∧∀ q∈Zbl l j,listed.getD q false=true)->(∀ j∈ini,P j σ∨∃ k,cons j=some k∧listed.getD k false=true)->ZgU e ds l.toArray K f listed σ:=by
 have hback:∀ i o,l[i]?=some o->o.guard=none∧∀ e∈o.after,Region.binds .any e=true->e.on < i:=fun i o ho=>by
  have h1:=List.all_eq_true.1 hb i (List.mem_range.2 (Tad.1 ho).1);rw [ho] at h1;simp only [Tar,Option.isNone_iff_eq_none,List.all_eq_true,Bool.or_eq_true,Bool.not_eq_true',decide_eq_true_eq] at h1;refine ⟨h1.1,fun e he hbe=>?_⟩;rcases h1.2 e (Array.mem_toList_iff.2 he) with h2 | h2
  ·rw [hbe] at h2;cases h2
  ·exact h2
 have hfirst:∀ (listed:Array Bool),listed.size=l.length->Region.ready .any l.toArray listed=[]->∀ i,i < l.length->listed.getD i false=true:=fun listed hsz h0 i=>by
  induction i using Nat.strongRecOn with
  | _ i ih =>
   intro hi;rw [<- Zbq (by omega:i < listed.size)]
   cases hun:listed.getD i true with
   | true=>rfl
   | false =>
   obtain ⟨o,ho⟩:∃ o,l[i]?=some o:=⟨_,Taa hi⟩;have:=(mem_ready (ops:=l.toArray) (md:=.any)).2 ⟨hun,o,by simpa using ho,fun e he hbe=>ih e.on ((hback i o ho).2 e he hbe) (by have:=(hback i o ho).2 e he hbe;omega)⟩;rw [h0] at this
   cases this
 have hlt:∀ (listed:Array Bool) (k:Nat),listed.getD k false=true->k < listed.size:=fun listed k h=>Classical.byContradiction fun hn=>by
  rw [Array.getD_eq_getD_getElem?,Array.getElem?_eq_none om] at h
  cases h
 intro f
 induction f with
 | zero =>
  intro listed σ hsz hc hB hP hI;have hall:∀ i,i < l.length->listed.getD i true=true:=fun i hi=>by
   have:=List.countP_eq_zero.1 hc i (List.mem_range.2 hi);simpa using this
  refine ⟨?_,hK σ.s σ.m hB fun i hio hk=>?_⟩
  ·cases hr:Region.ready .any l.toArray listed with
   | nil=>rfl
   | cons i r =>
    have hi:i∈Region.ready .any l.toArray listed:=by rw [hr];simp
    obtain ⟨hun,oi,hoi,_⟩:=mem_ready.1 hi;have hil:i < l.length:=by
     have:=(Tbh.1 hoi).1;simpa using this
    rw [hall i hil] at hun
    cases hun
  ·have hno:¬ ∃ k,cons i=some k∧listed.getD k false=true:=fun ⟨k,h1,h2⟩=>by
    have:=hlt listed k h2;have:=hk k h1;omega
   rcases hio with hi | hi
   ·exact (hP i (by rw [<- Zbq om];exact hall i hi)).1.resolve_right hno
   ·exact (hI i hi).resolve_right hno
 | succ f ih =>
  intro listed σ hsz hc hB hP hI;refine ⟨fun h0=>hK σ.s σ.m hB fun i hio hk=>?_,fun i hi=>?_⟩
  ·have hno:¬ ∃ k,cons i=some k∧listed.getD k false=true:=fun ⟨k,h1,h2⟩=>by
    have:=hlt listed k h2;have:=hk k h1;omega
   rcases hio with hi | hi
   ·exact (hP i (hfirst listed hsz h0 i hi)).1.resolve_right hno
   ·exact (hI i hi).resolve_right hno
  obtain ⟨hun,o,hoi,hall⟩:=mem_ready.1 hi;have ho:l[i]?=some o:=by simpa using hoi
  have hil:i < l.length:=(Tad.1 ho).1;have hls:i < listed.size:=om;have hda:Zbl l i=Zd3 o:=by unfold Zbl;rw [ho]
  have hunf:listed.getD i false=false:=by rw [<- Zbq hls];exact hun
  have hanc:∀ q∈ancN l 6 i,listed.getD q false=true:=ZeZ (fun j hj=>(hP j hj).2) 6 i fun q hq=>by
   rw [hda] at hq;simp only [Zd3,Tbf,List.mem_filter] at hq;obtain ⟨e,⟨he,hbe⟩,rfl⟩:=hq;exact hall e (Array.mem_toList_iff.1 he) hbe
  refine ⟨o,hoi,(hback i o ho).1,Zhn (hback i o ho).1 ?_⟩;have h1:=ZdB.get hstep ho σ.s σ.m hB (fun j hj hcj=>by
   rw [Nat.zero_add] at hj hcj;have hj':=hj;rw [hda] at hj';simp only [Zd3,Tbf,List.mem_filter] at hj';obtain ⟨e,⟨he,hbe⟩,rfl⟩:=hj';refine (hP e.on (hall e (Array.mem_toList_iff.1 he) hbe)).1.resolve_right ?_;rintro ⟨k,hk1,hk2⟩;rcases hcj with hcj | hcj
   ·rw [hcj] at hk1;cases hk1
   ·rw [hcj] at hk1;injection hk1 with hk1
    subst hk1;rw [hunf] at hk2
    cases hk2) (fun j hj hc=>by
   rw [Nat.zero_add] at hc;refine (hI j hj).resolve_right ?_;rintro ⟨k,hk1,hk2⟩;rw [hc] at hk1;injection hk1 with hk1
   subst hk1;rw [hunf] at hk2
   cases hk2) (fun j hj k' hc hd=>by
   rw [Nat.zero_add] at hd;refine (hI j hj).resolve_right ?_;rintro ⟨k,hk1,hk2⟩;rw [hc] at hk1;injection hk1 with hk1
   subst hk1;have h2:=(hP _ hk2).2 i hd;rw [hunf] at h2
   cases h2)
  rw [Nat.zero_add] at h1;refine ZlL h1 fun σ' ⟨k1,k2,k3⟩=>ih _ σ' (by simpa using hsz) ?_ k1 (fun j hj=>?_) fun j hj=>?_
  ·have h1:(List.range l.length).countP (fun j=>!(listed.setIfInBounds i true).getD j true)+1=(List.range l.length).countP (fun j=>!listed.getD j true):=by
    have hperm:=List.perm_cons_erase (List.mem_range.2 hil);rw [hperm.countP_eq,hperm.countP_eq,List.countP_cons,List.countP_cons];have hcong:((List.range l.length).erase i).countP (fun j=>!(listed.setIfInBounds i true).getD j true)=((List.range l.length).erase i).countP (fun j=>!listed.getD j true):=by
     refine List.countP_congr fun j hj=>?_;have hne:j≠i:=fun e=>by
      subst e;exact List.Nodup.not_mem_erase (List.nodup_range) hj
     rw [getD_set_ne true (Ne.symm hne)]
    rw [hcong,hun];simp [hls]
   omega
  ·by_cases hji:j=i
   ·subst hji;refine ⟨.inl k2,fun q hq=>?_⟩;rw [hda] at hq;simp only [Zd3,Tbf,List.mem_filter] at hq;obtain ⟨e,⟨he,hbe⟩,rfl⟩:=hq;have hlt:=(hback j o ho).2 e (Array.mem_toList_iff.1 he) hbe;rw [getD_set_ne false om];exact hall e (Array.mem_toList_iff.1 he) hbe
   ·rw [getD_set_ne false (Ne.symm hji)] at hj;obtain ⟨p1,p2⟩:=hP j hj;have hni:i ∉ ancN l 6 j:=fun hm=>by
     have h2:=ZeZ (fun j hj=>(hP j hj).2) 6 j p2 i hm;rw [hunf] at h2
     cases h2
    refine ⟨?_,fun q hq=>?_⟩
    ·rcases p1 with p1 | ⟨k,hk1,hk2⟩
     ·by_cases hci:cons j=some i
      ·refine .inr ⟨i,hci,?_⟩;rw [<- Zbq (by simpa using hls)];simp [Array.getD_eq_getD_getElem?,hls]
      ·by_cases hdep:∃ k,cons j=some k∧k∈ancN l 6 i
       ·obtain ⟨k,hk1,hk2⟩:=hdep;refine .inr ⟨k,hk1,?_⟩;have hk3:=hanc k hk2;have hki:i≠k:=fun e=>by subst e;rw [hunf] at hk3;cases hk3
        rw [getD_set_ne false hki];exact hk3
       ·exact .inl (k3 j hji hni hci (fun k hk1 hk2=>hdep ⟨k,hk1,hk2⟩) p1)
     ·refine .inr ⟨k,hk1,?_⟩;by_cases hki:k=i
      ·subst hki;rw [hunf] at hk2;cases hk2
      ·rw [getD_set_ne false (Ne.symm hki)];exact hk2
    ·by_cases hqi:q=i
     ·subst hqi;have h2:=p2 q hq;rw [hunf] at h2
      cases h2
     ·rw [getD_set_ne false (Ne.symm hqi)];exact p2 q hq
  ·have hjl:l.length<=j:=by have:=List.all_eq_true.1 hini j hj;simpa using this
   have hji:j≠i:=om;have hni:i ∉ ancN l 6 j:=fun hm=>by
    have hd:Zbl l j=[]:=by unfold Zbl;rw [List.getElem?_eq_none hjl]
    simp [ancN,hd] at hm
   rcases hI j hj with p1 | ⟨k,hk1,hk2⟩
   ·by_cases hci:cons j=some i
    ·refine .inr ⟨i,hci,?_⟩;rw [<- Zbq (by simpa using hls)];simp [Array.getD_eq_getD_getElem?,hls]
    ·by_cases hdep:∃ k,cons j=some k∧k∈ancN l 6 i
     ·obtain ⟨k,hk1,hk2⟩:=hdep;refine .inr ⟨k,hk1,?_⟩;have hk3:=hanc k hk2;have hki:i≠k:=fun e=>by subst e;rw [hunf] at hk3;cases hk3
      rw [getD_set_ne false hki];exact hk3
     ·exact .inl (k3 j hji hni hci (fun k hk1 hk2=>hdep ⟨k,hk1,hk2⟩) p1)
   ·refine .inr ⟨k,hk1,?_⟩;by_cases hki:k=i
    ·subst hki;rw [hunf] at hk2;cases hk2
    ·rw [getD_set_ne false (Ne.symm hki)];exact hk2
def lkS:List (Nat × A)->List (Nat × A)->Prop
 | [],_=>True
 | (t,x)::r,s=>gs s t=x∧lkS r s
def lkM:List (Nat × Bk)->List (Nat × Bk)->Prop
 | [],_=>True
 | (t,x)::r,m=>gm m t=some x∧lkM r m
theorem Zq6 {s:List (Nat × A)}:∀ {sb:List (Nat × A)},(∀ p∈sb,gs s p.1=p.2) ↔ lkS sb s
 | []=>by simp [lkS]
 | (t,x)::r=>by simp only [List.forall_mem_cons,lkS,Zq6 (sb:=r)]
theorem Zq7 {m:List (Nat × Bk)}:∀ {mb:List (Nat × Bk)},(∀ p∈mb,gm m p.1=some p.2) ↔ lkM mb m
 | []=>by simp [lkM]
 | (t,x)::r=>by simp only [List.forall_mem_cons,lkM,Zq7 (mb:=r)]
theorem Zai {sb:List (Nat × A)} {mb:List (Nat × Bk)} {s:List (Nat × A)} {m:List (Nat × Bk)}:Lks sb mb ⟨s,m⟩ ↔ lkS sb s∧lkM mb m:=and_congr Zq6 Zq7
abbrev Tab:=List (List (Nat × A) × List (Nat × Bk))
def tabP (T:Tab) (i:Nat) (σ:St):Prop:=Lks (T.getD i ([],[])).1 (T.getD i ([],[])).2 σ
theorem ZpF {T:Tab} {i:Nat} {s:List (Nat × A)} {m:List (Nat × Bk)}:tabP T i ⟨s,m⟩ ↔ lkS (T.getD i ([],[])).1 s∧lkM (T.getD i ([],[])).2 m:=Zai
def ZdO (L:List Oper) (cons:Nat->Option Nat) (T:Tab) (i:Nat) (f:List (Nat × A)->List (Nat × Bk)->Bool):Bool:=(List.range T.length).all fun j=>j==i || ((ancN L 6 j).contains i || (cons j==some i || ((match cons j with | some k=>(ancN L 6 i).contains k | none=>false) || f (T.getD j ([],[])).1 (T.getD j ([],[])).2)))
theorem Zrv {L:List Oper} {cons:Nat->Option Nat} {T:Tab} {i:Nat} {f:List (Nat × A)->List (Nat × Bk)->Bool} {σ σ':St} (h:ZdO L cons T i f=true) (hf:∀ sb mb,f sb mb=true->Lks sb mb σ->Lks sb mb σ'):∀ j,j≠i->i ∉ ancN L 6 j->cons j≠some i->(∀ k,cons j=some k->k ∉ ancN L 6 i)->tabP T j σ->tabP T j σ':=fun j h1 h2 h3 h4 hp=>by
 unfold tabP at hp ⊢;by_cases hj:j < T.length
 ·have:=List.all_eq_true.1 h j (List.mem_range.2 hj);simp only [Bool.or_eq_true,beq_iff_eq,List.contains_eq_mem,decide_eq_true_eq] at this;rcases this with q | q | q | q | q
  ·exact absurd q h1
  ·exact absurd q h2
  ·exact absurd q h3
  ·cases hc:cons j with
   | none=>rw [hc] at q;cases q
   | some k=>rw [hc] at q;exact absurd (by simpa using q) (h4 k hc)
  ·exact hf _ _ q hp
 ·have e:T.getD j ([],[])=([],[]):=by rw [List.getD_eq_getElem?_getD,List.getElem?_eq_none om];rfl
  rw [e];exact ⟨fun p hp=>(by cases hp),fun p hp=>by cases hp⟩
section
variable {sb:List (Nat × A)} {mb:List (Nat × Bk)} {s:List (Nat × A)} {m:List (Nat × Bk)} {d k:Nat} {α:A} {bk:Bk}
theorem Lks.kill (h:Lks sb mb ⟨s,m⟩) (hf:sb.all (fun p=>!keyB k p.2)=true):Lks sb mb ⟨Zau k s,m⟩:=⟨fun p hp=>by
 have h1:=List.all_eq_true.1 hf p hp;have h2:=h.1 p hp;show gs (Zau k s) p.1=p.2;rw [Zc8 _ _ _ (by rw [h2];simpa using h1)];exact h2,h.2⟩
theorem Lks.mrem (h:Lks sb mb ⟨s,m⟩) (hf:mb.all (fun p=>p.1 != k)=true):Lks sb mb ⟨s,remM k m⟩:=⟨h.1,fun p hp=>by
 have h1:=List.all_eq_true.1 hf p hp;simp only [bne_iff_ne,ne_eq] at h1;show gm (remM k m) p.1=some p.2;rw [Zah,if_neg h1];exact h.2 p hp⟩
theorem ZoP {x:A} (h:keyB k x=false):frzA k bk x=x:=by
 cases x <;> simp_all [frzA,keyB]
theorem Lks.frz (h:Lks sb mb ⟨s,m⟩) (hf:sb.all (fun p=>!keyB k p.2)=true) (hm:mb.all (fun p=>p.1 != k)=true):Lks sb mb ⟨frzS k bk s,remM k m⟩:=by
 refine Lks.mrem (m:=m) ⟨fun p hp=>?_,h.2⟩ hm;have h1:=List.all_eq_true.1 hf p hp;have h2:=h.1 p hp;show gs (frzS k bk s) p.1=p.2;rw [Zhk,h2];exact ZoP (by simpa using h1)
def ZgW (d:Nat) (sb:List (Nat × A)) (_:List (Nat × Bk)):Bool:=sb.all fun p=>p.1 != d
def Zq8 (d:Nat) (_:List (Nat × A)) (mb:List (Nat × Bk)):Bool:=mb.all fun p=>p.1 != d
def ZdP (d k:Nat) (sb:List (Nat × A)) (mb:List (Nat × Bk)):Bool:=Zb0 d sb mb && Zb0 k sb mb
theorem Lks.ownE (h:Lks sb mb ⟨s,m⟩) (hf:ZdP d k sb mb=true):Lks sb mb ⟨(d,α)::Zau d (Zau k s),(d,bk)::remM d (remM k m)⟩:=by
 simp only [ZdP,Zb0,Tar,List.all_eq_true,bne_iff_ne,ne_eq,Bool.not_eq_true'] at hf;refine Lks.born (Lks.mrem (Lks.kill h ?_) ?_) ?_
 ·simp only [List.all_eq_true,Bool.not_eq_true'];exact fun p hp=>(hf.2.1 p hp).2
 ·simp only [List.all_eq_true,bne_iff_ne,ne_eq];exact fun p hp=>hf.2.2 p hp
 ·simp only [Zb0,Tar,List.all_eq_true,bne_iff_ne,ne_eq,Bool.not_eq_true'];exact hf.1
end
section
variable {L:List Oper} {cons:Nat->Option Nat} {T:Tab} {i:Nat} {sb:List (Nat × A)} {mb:List (Nat × Bk)} {s s2:List (Nat × A)} {m m2:List (Nat × Bk)} {d k:Nat} {α:A} {bk:Bk}
end
theorem gFz {os:List Oper} {K:St->Prop} {s:List (Nat × A)} {m:List (Nat × Bk)} {bk:Bk} (k:Nat) (hK:Runs e ds 0 os ⟨frzS k bk s,remM k m⟩ K) (hm:gm m k=some bk:=by exact snx):Runs e ds 0 os ⟨s,m⟩ K :=
 Zdz (Zei [k] rfl) fun σ' hσ=>by subst hσ;simp only [frzs,frz,hm,frzB];exact hK
end
section
variable {e:Env} {mask:Nat} {Q:PX->St->Prop} {ds:List (Option Nat)} {X:Type}
def tabX (ok:Nat->X->Prop) (T:X->Tab) (j:Nat) (σ:St):Prop:=∃ x,ok j x∧tabP (T x) j σ
abbrev DidX (L:List Oper) (cons:Nat->Option Nat) (ok:Nat->X->Prop) (T:X->Tab) (i:Nat) (sb:List (Nat × A)) (mb:List (Nat × Bk)) (s:List (Nat × A)) (m:List (Nat × Bk)) (σ':St):Prop:=Lks sb mb σ'∧tabX ok T i σ'∧∀ j,j≠i->i ∉ ancN L 6 j->cons j≠some i->(∀ k,cons j=some k->k ∉ ancN L 6 i)->tabX ok T j ⟨s,m⟩->tabX ok T j σ'
section
variable {L:List Oper} {cons:Nat->Option Nat} {ok:Nat->X->Prop} {T:X->Tab} {i:Nat} {sb:List (Nat × A)} {mb:List (Nat × Bk)} {s s2:List (Nat × A)} {m m2:List (Nat × Bk)} {d k:Nat} {α:A} {bk:Bk}
theorem Zdb {f:List (Nat × A)->List (Nat × Bk)->Bool} {σ σ':St} (h:∀ x,ZdO L cons (T x) i f=true) (hf:∀ sb mb,f sb mb=true->Lks sb mb σ->Lks sb mb σ'):∀ j,j≠i->i ∉ ancN L 6 j->cons j≠some i->(∀ k,cons j=some k->k ∉ ancN L 6 i)->tabX ok T j σ->tabX ok T j σ':=fun j h1 h2 h3 h4 ⟨x,hx,hp⟩=>⟨x,hx,Zrv (h x) hf j h1 h2 h3 h4 hp⟩
theorem xS (hB:Lks sb mb ⟨s,m⟩) (hp:tabX ok T i ⟨(d,α)::s,m⟩) (h1:ZgW d sb mb=true:=by rfl) (h2:∀ x,ZdO L cons (T x) i (ZgW d)=true:=by intro x;rfl):DidX L cons ok T i sb mb s m ⟨(d,α)::s,m⟩:=⟨hB.slot h1,hp,Zdb h2 fun _ _ h hl=>hl.slot h⟩
theorem xM (hB:Lks sb mb ⟨s,m⟩) (hp:tabX ok T i ⟨s,(d,bk)::remM d m⟩) (h1:Zq8 d sb mb=true:=by rfl) (h2:∀ x,ZdO L cons (T x) i (Zq8 d)=true:=by intro x;rfl):DidX L cons ok T i sb mb s m ⟨s,(d,bk)::remM d m⟩:=⟨hB.own h1,hp,Zdb h2 fun _ _ h hl=>hl.own h⟩
theorem xB (hB:Lks sb mb ⟨s,m⟩) (hp:tabX ok T i ⟨(d,α)::Zau d s,(d,bk)::remM d m⟩) (h1:Zb0 d sb mb=true:=by rfl) (h2:∀ x,ZdO L cons (T x) i (Zb0 d)=true:=by intro x;rfl):DidX L cons ok T i sb mb s m ⟨(d,α)::Zau d s,(d,bk)::remM d m⟩:=⟨hB.born h1,hp,Zdb h2 fun _ _ h hl=>hl.born h⟩
theorem xE (hB:Lks sb mb ⟨s,m⟩) (hp:tabX ok T i ⟨(d,α)::Zau d (Zau k s),(d,bk)::remM d (remM k m)⟩) (h1:ZdP d k sb mb=true:=by rfl) (h2:∀ x,ZdO L cons (T x) i (ZdP d k)=true:=by intro x;rfl):DidX L cons ok T i sb mb s m ⟨(d,α)::Zau d (Zau k s),(d,bk)::remM d (remM k m)⟩:=⟨hB.ownE h1,hp,Zdb h2 fun _ _ h hl=>hl.ownE h⟩
theorem Lks.bornC {κ:Nat} (h:Lks sb mb ⟨s,m⟩) (hf:(sb.all (fun p=>p.1 != d && !keyB κ p.2) && mb.all (fun p=>p.1 != κ))=true):Lks sb mb ⟨(d,α)::Zau κ s,(κ,bk)::remM κ m⟩:=by
 simp only [Tar,List.all_eq_true,bne_iff_ne,ne_eq,Bool.not_eq_true'] at hf;refine Lks.slot (Lks.own (Lks.kill h ?_) ?_) ?_
 ·simp only [List.all_eq_true,Bool.not_eq_true'];exact fun p hp=>(hf.1 p hp).2
 ·simp only [List.all_eq_true,bne_iff_ne,ne_eq];exact hf.2
 ·simp only [List.all_eq_true,bne_iff_ne,ne_eq];exact fun p hp=>(hf.1 p hp).1
def ZfO (d κ:Nat) (sb:List (Nat × A)) (mb:List (Nat × Bk)):Bool:=sb.all (fun p=>p.1 != d && !keyB κ p.2) && mb.all (fun p=>p.1 != κ)
theorem xP {κ:Nat} (hB:Lks sb mb ⟨s,m⟩) (hp:tabX ok T i ⟨(d,α)::Zau κ s,(κ,bk)::remM κ m⟩) (h1:ZfO d κ sb mb=true:=by rfl) (h2:∀ x,ZdO L cons (T x) i (ZfO d κ)=true:=by intro x;rfl):DidX L cons ok T i sb mb s m ⟨(d,α)::Zau κ s,(κ,bk)::remM κ m⟩:=⟨hB.bornC h1,hp,Zdb h2 fun _ _ h hl=>hl.bornC h⟩
end
theorem gGp {id:Nat} {l:List Oper} {s:List (Nat × A)} {m:List (Nat × Bk)} (sb:List (Nat × A)) (mb:List (Nat × Bk)) (P:Nat->St->Prop) (cons:Nat->Option Nat) (ini:List Nat) (hB:Lks sb mb ⟨s,m⟩) (hI:∀ j∈ini,P j ⟨s,m⟩) (hS:ZdB e (l.map (·.dst)) l cons ini (Lks sb mb) P 0 l) (hK:∀ s' m',Lks sb mb ⟨s',m'⟩->(∀ i,i < l.length∨i∈ini->(∀ k,cons i=some k->l.length<=k)->P i ⟨s',m'⟩)->∃ sf mf,Lks sf mf ⟨s',m'⟩∧Q .normal ⟨sf,mf⟩)
  (hb:ZlM l=true:=by decide +kernel) (hini:ini.all (fun j=>decide (l.length<=j))=true:=by decide +kernel) (hT:regT l.toArray 0=true:=by decide +kernel):pwp e mask (.region id l.toArray true) ⟨s,m⟩ Q:=fun he U w0 S0 nt a w hok hs=>by
 refine ZpD he hT (K:=fun σ'=>∃ sf mf,Lks sf mf σ'∧Q .normal ⟨sf,mf⟩) (fun a w σ' ⟨sf,mf,h1,h2⟩ h3=>⟨⟨sf,mf⟩,h2,h3.weak (fun t=>ZoN t h1.1) (fun t bk=>ZoO t bk h1.2)⟩) (Zq5 hok) hs ?_;simp only [List.take_zero,Runs]
 have:=ZjE (K:=fun σ'=>∃ sf mf,Lks sf mf σ'∧Q .normal ⟨sf,mf⟩) hb hini hS hK l.length (ZbC l.length 0) ⟨s,m⟩ (by simp [ZbC]) (by
  rw [List.countP_eq_length.2]
  ·simp
  ·intro i hi;have hi':=List.mem_range.1 hi;simp [ZbC,hi']) hB (fun j hj=>by
   have h0:(ZbC l.length 0).getD j false=false:=by
    by_cases hjl:j < l.length
    ·simp [ZbC,hjl]
    ·simp [ZbC,hjl]
   rw [h0] at hj
   cases hj) (fun j hj=>.inl (hI j hj))
 simpa using this
theorem gGx {id:Nat} {l:List Oper} {s:List (Nat × A)} {m:List (Nat × Bk)} (sb:List (Nat × A)) (mb:List (Nat × Bk)) (ok:Nat->X->Prop) (T:X->Tab) (cons:Nat->Option Nat) (ini:List Nat) (hB:Lks sb mb ⟨s,m⟩) (hI:∀ j∈ini,tabX ok T j ⟨s,m⟩) (hS:ZdB e (l.map (·.dst)) l cons ini (Lks sb mb) (tabX ok T) 0 l) (hK:∀ s' m',Lks sb mb ⟨s',m'⟩->(∀ i,i < l.length∨i∈ini->(∀ k,cons i=some k->l.length<=k)->tabX ok T i ⟨s',m'⟩)->∃ sf mf,Lks sf mf ⟨s',m'⟩∧Q .normal ⟨sf,mf⟩)
  (hb:ZlM l=true:=by decide +kernel) (hini:ini.all (fun j=>decide (l.length<=j))=true:=by decide +kernel) (hT:regT l.toArray 0=true:=by decide +kernel):pwp e mask (.region id l.toArray true) ⟨s,m⟩ Q:=gGp sb mb (tabX ok T) cons ini hB hI hS hK hb hini hT
theorem Zaa {ok:Nat->X->Prop} {T:X->Tab} {i:Nat} {s:List (Nat × A)} {m:List (Nat × Bk)}:tabX ok T i ⟨s,m⟩ ↔ ∃ x,ok i x∧lkS ((T x).getD i ([],[])).1 s∧lkM ((T x).getD i ([],[])).2 m:=exists_congr fun x=>and_congr_right fun _=>ZpF
end
def Zan (w:World):List (List C)->(Nat->Prop)->List (List Value)->Prop
 | [],_,[]=>True
 | r::rs,S,us::uss=>∃ S1 S2:Nat->Prop,(∀ x,S1 x->S x)∧(∀ x,S2 x->S x)∧(∀ x,S1 x->S2 x->False)∧Zae w r S1 us∧Zan w rs S2 uss
 | _,_,_=>False
def Zaf (us:List Value):List C:=us.map .lit
section
variable {w w':World}
theorem Zan.keep (hz:w.heap.size<=w'.heap.size):∀ (rows:List (List C)) (S S':Nat->Prop) (uss:List (List Value)),(∀ b,S b->w'.heap[b]?=w.heap[b]?)->(∀ b,S b->S' b)->Zan w rows S uss->Zan w' rows S' uss
 | [],_,_,[],_,_,_=>trivial
 | r::rs,S,S',us::uss,hk,hS,h=>by
  obtain ⟨S1,S2,h1,h2,hd,hr,hrs⟩:=h;exact ⟨S1,S2,fun x hx=>hS x (h1 x hx),fun x hx=>hS x (h2 x hx),hd,Zae.keep hz r S1 S1 us (fun x hx=>hk x (h1 x hx)) (fun _ h=>h) hr,Zan.keep hz rs S2 S2 uss (fun x hx=>hk x (h2 x hx)) (fun _ h=>h) hrs⟩
 | [],_,_,_::_,_,_,h=>h.elim
 | _::_,_,_,[],_,_,h=>h.elim
theorem Zan.len:∀ {rows:List (List C)} {S:Nat->Prop} {uss:List (List Value)},Zan w rows S uss->uss.length=rows.length
 | [],_,[],_=>rfl
 | r::rs,S,us::uss,⟨S1,S2,_,_,_,_,h⟩=>by simp [Zan.len h]
theorem Zan.snoc:∀ {rows:List (List C)} {r:List C} {S S1 S2:Nat->Prop} {uss:List (List Value)} {us:List Value},Zan w rows S1 uss->Zae w r S2 us->(∀ x,S1 x->S x)->(∀ x,S2 x->S x)->(∀ x,S1 x->S2 x->False)->Zan w (rows++[r]) S (uss++[us])
 | [],r,S,S1,S2,[],us,_,h2,i1,i2,hd=>⟨S2,fun _=>False,i2,fun _ h=>h.elim,fun _ _ h=>h,h2,trivial⟩
 | q::qs,r,S,S1,S2,vs::vss,us,⟨T1,T2,a1,a2,a3,a4,a5⟩,h2,i1,i2,hd =>
  ⟨T1,fun x=>T2 x∨S2 x,fun x hx=>i1 x (a1 x hx),fun x hx=>hx.elim (fun h=>i1 x (a2 x h)) (i2 x),fun x hx hy=>hy.elim (a3 x hx) (hd x (a1 x hx)),a4,
   Zan.snoc a5 h2 (fun _ h=>.inl h) (fun _ h=>.inr h) (fun x hx hy=>hd x (a2 x hx) hy)⟩
 | [],_,_,_,_,_::_,_,h,_,_,_,_=>h.elim
 | _::_,_,_,_,_,[],_,h,_,_,_,_=>h.elim
theorem Zan.get:∀ {rows:List (List C)} {S:Nat->Prop} {uss:List (List Value)} {i:Nat} {r:List C} {us:List Value},Zan w rows S uss->rows[i]?=some r->uss[i]?=some us->Zae w r S us
 | r::rs,S,us::uss,0,r',us',⟨S1,S2,h1,_,_,h,_⟩,hr,hu=>by
  simp at hr hu;subst hr hu;exact Zae.keep (Tai _) r S1 S us (fun _ _=>rfl) h1 h
 | r::rs,S,us::uss,i+1,r',us',⟨S1,S2,_,h2,_,_,h⟩,hr,hu =>
  Zae.keep (Tai _) r' S2 S us' (fun _ _=>rfl) h2 (Zan.get h (by simpa using hr) (by simpa using hu))
 | [],_,_,_,_,_,_,hr,_=>by simp at hr
 | _::_,_,[],_,_,_,h,_,_=>h.elim
theorem Zan.stable (rows:List (List C)) (E:Nat->Prop) (uss:List (List Value)):Zcl E (fun w=>Zan w rows E uss):=fun w w' hz hk h=>Zan.keep hz rows E E uss hk (fun _ h=>h) h
theorem Zae.stable (r:List C) (E:Nat->Prop) (us:List Value):Zcl E (fun w=>Zae w r E us):=fun w w' hz hk h=>Zae.keep hz r E E us hk (fun _ h=>h) h
theorem Own.stable (c:C) (E:Nat->Prop) (v:Value):Zcl E (fun w=>Own w c E v):=fun w w' hz hk h=>Own.keep hz c E E v hk (fun _ h=>h) h
theorem Zer {S:Nat->Prop}:∀ {us vs:List Value},Zad w S (Zaf us) vs->vs=us
 | [],[],_=>rfl
 | u::us,v::vs,h=>by
  simp only [Zaf,Tbl,Zad,Rep] at h;rw [h.1,Zer h.2]
 | [],_::_,h=>by simp [Zaf,Zad] at h
 | _::_,[],h=>by simp [Zaf,Zad] at h
theorem ZaN.close {b:Nat} {T:Nat->Prop}:∀ {rows:List (List C)} {uss:List (List Value)} {S:Nat->Prop} {off:Nat},Zas w T b off (uss.map Zaf)->Zan w rows S uss->ZaN w b rows S off
 | [],[],_,_,_,_=>by simp [ZaN]
 | r::rs,us::uss,S,off,hr,⟨S1,S2,h1,h2,hd,hv,hvs⟩=>by
  simp only [Tbl,Zas] at hr;simp only [ZaN];obtain ⟨vs,q1,q2⟩:=hr.1.vals;have e:=Zer q1;subst e;have hl:(Zaf vs).length=r.length:=by simp [Zaf,Zae.len hv]
  refine ⟨S1,S2,h1,h2,hd,Zba.of_vals r S1 vs off hv q2,?_⟩;rw [<- hl];exact ZaN.close hr.2 hvs
 | [],_::_,_,_,_,h=>h.elim
 | _::_,[],_,_,_,h=>h.elim
theorem Own.close {T:Nat->Prop} {ety sz:Nat} {rows:List (List C)} {uss:List (List Value)} {E:Nat->Prop} {a:Option Addr} {cap:Nat} (hb:ZaZ w T ety sz (uss.map Zaf) (.slice a uss.length cap)) (hv:Zan w rows E uss) (hd:∀ b,vblk (.slice a uss.length cap)=some b->¬ E b) :
  Own w (.sl rows) (fun b=>vblk (.slice a uss.length cap)=some b∨E b) (.slice a uss.length cap):=by
 have hlen:=hv.len;obtain ⟨h1,h2,h3⟩:=hb;simp only [Own];rcases h3 with ⟨h4,a',h5⟩ | ⟨g,cap',cur,h5,hc,hg,hs,hh,hl,hm,hcs,hr⟩
 ·injection h5 with e1 e2 e3
  subst e1 e3;have hu0:uss=[]:=by simpa using h4
  exact ⟨a,uss.length,0,rfl,hlen.symm,by rw [hu0];exact Tai _,by decide,fun h=>absurd h (by decide)⟩
 ·injection h5 with e1 e2 e3
  subst e1 e3;have hvb:vblk (.slice (some ⟨g,0,none⟩) uss.length cap)=some g:=by simp only [vblk];rw [if_neg om]
  simp only [Tax] at hl;refine ⟨_,uss.length,cap,rfl,hlen.symm,hl,hm,fun h0=>⟨g,0,E,rfl,.inl hvb,hg,⟨fun o=>frozen_of_row w g o cur ety hh,rfl,cur,ety,sz,hh,hcs,h1,fun r hr0=>?_⟩,fun x hx=>⟨.inr hx,fun e=>hd g hvb (e ▸ hx)⟩,ZaN.close hr hv⟩⟩;obtain ⟨i,hi⟩:=Tbg hr0;have hil:=(Tad.1 hi).1;obtain ⟨us,hu⟩:∃ us,uss[i]?=some us:=⟨_,Taa om⟩;have hq:=(h2 (Zaf us) (Tbf.2 ⟨us,Tac hu,rfl⟩)).1;have hq2:=Zae.len (hv.get hi hu)
  simp only [Zaf,Tax] at hq;omega
theorem Zba.open {b:Nat}:∀ {cs:List C} {S:Nat->Prop} {off:Nat},Zba w b cs S off->∃ us,Zae w cs S us∧∀ j u,us[j]?=some u->w.cell? ⟨b,off+j,none⟩=some u
 | [],S,off,_=>⟨[],Zae.nil,fun j u h=>by simp at h⟩
 | c::cs,S,off,h=>by
  simp only [Zba] at h;obtain ⟨S1,S2,u,h1,h2,hd,hu,hc,hcs⟩:=h;obtain ⟨us,k1,k2⟩:=Zba.open hcs;refine ⟨u::us,Zae.cons S1 S2 hc k1 h1 h2 hd,fun j v hj=>?_⟩
  cases j with
  | zero=>simp at hj;subst hj;exact hu
  | succ j=>have:=k2 j v (by simpa using hj);rw [<- this];congr 2;omega
theorem ZaN.open {b:Nat}:∀ {rows:List (List C)} {S:Nat->Prop} {off:Nat},ZaN w b rows S off->∃ uss,Zan w rows S uss∧∀ T:Nat->Prop,Zas w T b off (uss.map Zaf)
 | [],S,off,_=>⟨[],trivial,fun T=>by simp [Zas]⟩
 | r::rs,S,off,h=>by
  simp only [ZaN] at h;obtain ⟨S1,S2,h1,h2,hd,hr,hrs⟩:=h;obtain ⟨us,k1,k2⟩:=Zba.open hr;obtain ⟨uss,k3,k4⟩:=ZaN.open hrs;refine ⟨us::uss,⟨S1,S2,h1,h2,hd,k1,k3⟩,fun T=>?_⟩;simp only [Tbl,Zas];refine ⟨Zam.of_vals _ us off (Zd0 us) k2,?_⟩;rw [show (Zaf us).length=r.length by simp [Zaf,k1.len]];exact k4 T
theorem Zae.cells:∀ {cs:List C} {S:Nat->Prop} {us:List Value},Zae w cs S us->cs.all Zal=true->(Zaf us).all Zal=true
 | [],_,[],_,_=>rfl
 | c::cs,S,u::us,h,hc=>by
  simp only [Zae] at h;obtain ⟨S1,S2,_,_,_,h1,h2⟩:=h;simp only [List.all_cons,Tar] at hc;simp only [Zaf,Tbl,List.all_cons,Tar];exact ⟨ZdI (c:=c) hc.1 (Own.rep c S1 u h1),Zae.cells h2 hc.2⟩
 | [],_,_::_,h,_=>by simp [Zae] at h
 | _::_,_,[],h,_=>by simp [Zae] at h
theorem Own.open {T:Nat->Prop} {rows:List (List C)} {E:Nat->Prop} {a:Option Addr} {n cap sz:Nat} (hT:∀ b,E b->¬ T b) (hne:rows≠[]) (hrl:rowsLen sz rows) (h:Own w (.sl rows) E (.slice a n cap)) :
  ∃ uss ety E',n=uss.length∧ZaZ w T ety sz (uss.map Zaf) (.slice a uss.length cap)∧Zan w rows E' uss∧(∀ b,E' b->E b∧vblk (.slice a uss.length cap)≠some b)∧∀ b,vblk (.slice a uss.length cap)=some b->E b:=by
 simp only [Own] at h;obtain ⟨A,n',cap',hv,hn,hle,hmx,hb⟩:=h;injection hv with e1 e2 e3
 subst e1 e2 e3;have h0:0 < rows.length:=List.length_pos_iff.2 hne;obtain ⟨b,off,S',rfl,hEb,hbl,⟨hfr,rfl,cur,ety,sz',hh,hcs,hz,hrs⟩,hS',hrows⟩:=hb om;obtain ⟨uss,k1,k2⟩:=ZaN.open hrows;have hl:=k1.len;have hsz:sz'=sz:=by
  obtain ⟨r,hr⟩:=List.exists_mem_of_ne_nil _ hne;rw [<- hrs r hr,(hrl r hr).1]
 subst hsz;have hvb:vblk (.slice (some ⟨b,0,none⟩) uss.length cap)=some b:=by simp only [vblk];rw [if_neg om]
 have hrow:rowsLen sz' (uss.map Zaf):=fun x hx=>by
  obtain ⟨us,hus,rfl⟩:=Tbf.1 hx;obtain ⟨i,hi⟩:=Tbg hus;have hil:=(Tad.1 hi).1;obtain ⟨r,hr⟩:∃ r,rows[i]?=some r:=⟨_,Taa om⟩;have hov:=k1.get hr hi;have hrm:=hrl r (Tac hr);exact ⟨by simp only [Zaf,Tax];rw [hov.len];exact hrm.1,hov.cells hrm.2⟩
 refine ⟨uss,ety,S',om,⟨hz,hrow,.inr ⟨b,cap,cur,by simp,om,hbl,hT b hEb,hh,by simp only [Tax];omega,hmx,hcs,k2 T⟩⟩,k1,fun x hx=>⟨(hS' x hx).1,fun e=>?_⟩,fun x hx=>?_⟩
 ·rw [hvb] at e;injection e with e;exact (hS' x hx).2 e.symm
 ·rw [hvb] at hx;injection hx with hx;rw [<- hx];exact hEb
end
theorem Zcz (x:Bk):ZbD [x]:=⟨by simp,trivial⟩
theorem ZbK:Za1 [] [.set (fun _=>False) (fun w=>Zan w [] (fun _=>False) [])]:=fun w S _ _ =>
 ⟨fun x hx=>by simp at hx;subst hx;exact ⟨fun b h=>h.elim,trivial,Zan.stable _ _ _⟩,Zcz _,fun g ⟨x,hx,hg⟩=>by simp at hx;subst hx;exact hg.elim⟩
theorem Zc3 {E E2:Nat->Prop} {G G2 G':World->Prop} (hG:∀ w,G w->G2 w->(∀ b,E b->E2 b->False)->G' w) (hst:Zcl (fun b=>E b∨E2 b) G'):Za1 [.set E G,.set E2 G2] [.set (fun b=>E b∨E2 b) G']:=fun w S h ha=>by
 have h1:=h (.set E G) (by simp);have h2:=h (.set E2 G2) (by simp);refine ⟨fun x hx=>?_,Zcz _,fun g ⟨x,hx,hg⟩=>?_⟩
 ·simp at hx;subst hx;exact ⟨fun b hb=>hb.elim (h1.1 b) (h2.1 b),hG w h1.2.1 h2.2.1 (fun b q1 q2=>ha.1 (.set E2 G2) (by simp) b q1 q2),hst⟩
 ·simp at hx;subst hx;rcases hg with hg | hg
  ·exact ⟨.set E G,by simp,hg⟩
  ·exact ⟨.set E2 G2,by simp,hg⟩
theorem ZrL {E:Nat->Prop} {G G':World->Prop} (hG:∀ w,G w->G' w) (hst:Zcl E G'):Za1 [.set E G] [.set E G']:=fun w S h ha=>by
 have h1:=h (.set E G) (by simp);refine ⟨fun x hx=>?_,Zcz _,fun g ⟨x,hx,hg⟩=>?_⟩
 ·simp at hx;subst hx;exact ⟨h1.1,hG w h1.2.1,hst⟩
 ·simp at hx;subst hx;exact ⟨.set E G,by simp,hg⟩
theorem Zbi {a:Option Addr} {cap ety sz:Nat} {uss:List (List Value)} {rows:List (List C)} {E:Nat->Prop} {G':World->Prop} (hG:∀ w,Own w (.sl rows) (fun b=>vblk (.slice a uss.length cap)=some b∨E b) (.slice a uss.length cap)->G' w) (hst:Zcl (fun b=>vblk (.slice a uss.length cap)=some b∨E b) G') :
  Za1 [.buf (some (a,cap)) ety sz (uss.map Zaf),.set E (fun w=>Zan w rows E uss)] [.set (fun b=>vblk (.slice a uss.length cap)=some b∨E b) G']:=fun w S h ha=>by
 have h1:ZaZ w S ety sz (uss.map Zaf) (.slice a (uss.map Zaf).length cap):=h (.buf (some (a,cap)) ety sz (uss.map Zaf)) (by simp);have h2:=h (.set E (fun w=>Zan w rows E uss)) (by simp);have hd:=ha.1 (.set E (fun w=>Zan w rows E uss)) (by simp);rw [Tax] at h1;simp only [pblk,Tax] at hd;refine ⟨fun x hx=>?_,Zcz _,fun g ⟨x,hx,hg⟩=>?_⟩
 ·simp at hx;subst hx;refine ⟨fun b hb=>?_,hG w (Own.close h1 h2.2.1 hd),hst⟩;rcases hb with hb | hb
  ·exact Own1.lt (L:=⟨fun _=>0,fun _=>.slice a uss.length cap⟩) (k:=0) (bk:=.buf none ety sz (uss.map Zaf)) ⟨by simp,h1⟩ hb
  ·exact h2.1 b hb
 ·simp at hx;subst hx;rcases hg with hg | hg
  ·exact ⟨.buf (some (a,cap)) ety sz (uss.map Zaf),by simp,by simp only [pblk,Tax];exact hg⟩
  ·exact ⟨.set E (fun w=>Zan w rows E uss),by simp,hg⟩
def Zbc (row:List C) (r:List D) (pm:List Bk):Prop:=∃ us E,r=[.agg (Zaf us)]∧us.length=row.length∧(Zaf us).all Zal=true∧pm=[.set E (fun w=>Zae w row E us)]
def Zcu (ety sz:Nat) (rows:List (List C)) (r:List D) (pm:List Bk):Prop:=∃ a cap uss E,r=[.one (.lit (.slice a uss.length cap))]∧uss.length=rows.length∧pm=[.buf (some (a,cap)) ety sz (uss.map Zaf),.set E (fun w=>Zan w rows E uss)]
theorem Zbc.mk {row:List C} {us:List Value} {E:Nat->Prop} (h:us.length=row.length) (hok:(Zaf us).all Zal=true):Zbc row [.agg (Zaf us)] [.set E (fun w=>Zae w row E us)]:=⟨us,E,rfl,h,hok,rfl⟩
theorem Zcu.mk {ety sz:Nat} {rows:List (List C)} {a:Option Addr} {cap:Nat} {uss:List (List Value)} {E:Nat->Prop} (h:uss.length=rows.length):Zcu ety sz rows [.one (.lit (.slice a uss.length cap))] [.buf (some (a,cap)) ety sz (uss.map Zaf),.set E (fun w=>Zan w rows E uss)]:=⟨a,cap,uss,E,rfl,h,rfl⟩
def Za7 (rows:List (List C)) (r:List D) (pm:List Bk):Prop:=∃ v E,r=[.one (.lit v)]∧Zal (.lit v)=true∧pm=[.set E (fun w=>Own w (.sl rows) E v)]
def Zb5:Bk->Bool
 | .set _ _=>true
 | _=>false
def litC:C->Bool
 | .lit _=>true
 | _=>false
def litD:D->Bool
 | .one c=>litC c
 | .agg cs=>cs.all litC
 | _=>false
theorem Zf7 {w:World} {S S':Nat->Prop}:∀ {cs:List C} {vs:List Value},cs.all litC=true->Zad w S cs vs->Zad w S' cs vs
 | [],[],_,_=>trivial
 | .lit x::cs,v::vs,hl,h=>by
  simp only [List.all_cons,Tar] at hl;exact ⟨h.1,Zf7 hl.2 h.2⟩
 | .sl _::_,_::_,hl,_=>by simp [litC] at hl
 | .ptr _::_,_::_,hl,_=>by simp [litC] at hl
 | .fn _ _::_,_::_,hl,_=>by simp [litC] at hl
 | [],_::_,_,h=>h.elim
 | _::_,[],_,h=>h.elim
theorem Zjb {w:World} {S S':Nat->Prop} {x:D} {v:Value} (hl:litD x=true) (h:DRel w S x v):DRel w S' x v:=by
 cases x with
 | one c=>cases c with
  | lit y=>exact h
  | _=>simp [litD,litC] at hl
 | agg cs=>obtain ⟨vs,h1,h2⟩:=h;exact ⟨vs,h1,Zf7 hl h2⟩
 | clip _=>simp [litD] at hl
theorem Zfv {w:World} {S S':Nat->Prop}:∀ {r:List D} {vs:List Value},r.all litD=true->ZaE w S r vs->ZaE w S' r vs
 | [],[],_,_=>trivial
 | x::r,v::vs,hl,h=>by
  simp only [List.all_cons,Tar] at hl;exact ⟨Zjb hl.1 h.1,Zfv hl.2 h.2⟩
 | [],_::_,_,h=>h.elim
 | _::_,[],_,h=>h.elim
theorem Zgr {w:World} {S S':Nat->Prop} {L:Lay}:∀ {r:List D} {v:Value},r.all litD=true->ARel w S L (retA r) v->ARel w S' L (retA r) v
 | [],_,_,h=>by obtain ⟨vs,h1,h2⟩:=h;exact ⟨vs,h1,Zfv rfl h2⟩
 | [x],v,hl,h=>by
  simp only [List.all_cons,List.all_nil,Bool.and_true] at hl;exact Zjb (x:=x) (v:=v) hl h
 | x::y::z,_,hl,h=>by obtain ⟨vs,h1,h2⟩:=h;exact ⟨vs,h1,Zfv hl h2⟩
theorem Zr3 {e:Env} {f:FuncId} {args r:List D} (h:Con e f args r):ConP e f args [] (fun r' pm=>r'=r∧pm=[]):=by
 refine ⟨h.1,fun w S vs hS hE hG hpm ha hv=>(h.2 w S vs hS hE hG hv).mono ?_⟩;rintro en w' ⟨v,h1,h2,h3,h4⟩;refine ⟨v,r,[],h1,⟨rfl,rfl⟩,⟨h2.os,h2.tape,h2.output,h2.drawn,h2.size,fun k hk hn=>h2.block k hk (fun h=>hn (.inl h))⟩,h3,fun x hx=>by simp at hx,trivial,?_⟩;exact ARel.keep (Tai _) (fun _ _ _=>rfl) (fun b hb=>⟨hb.elim .inl (fun h=>.inr (.inr h)),fun ⟨x,hx,_⟩=>by simp at hx⟩) h4
theorem ZoQ {w:World} {S:Nat->Prop} {x:Bk} (hs:Zb5 x=true) (h:Zbk w S x) {g:Nat} (hg:pblk x g):g < w.heap.size∧¬ S g:=by
 cases x with
 | set E G=>exact h.1 g hg
 | _=>simp [Zb5] at hs
theorem Zd4 {w w':World} {S S':Nat->Prop} {x:Bk} (hs:Zb5 x=true) (h:Zbk w S x) (hz:w.heap.size<=w'.heap.size) (hk:∀ b,pblk x b->w'.heap[b]?=w.heap[b]?) (hS:∀ b,pblk x b->¬ S' b):Zbk w' S' x:=by
 cases x with
 | set E G=>exact ⟨fun b hb=>⟨Tba (h.1 b hb).1 hz,hS b hb⟩,h.2.2 w w' hz hk h.2.1,h.2.2⟩
 | _=>simp [Zb5] at hs
theorem ZhX:∀ {a b:List Bk},ZbD a->ZbD b->(∀ x∈a,∀ y∈b,∀ g,pblk x g->¬ pblk y g)->ZbD (a++b)
 | [],_,_,h,_=>h
 | x::a,b,⟨h1,h2⟩,h,hd=>⟨fun y hy g hx hg=>(Tbe.1 hy).elim (fun q=>h1 y q g hx hg) (fun q=>hd x Tas y q g hx hg),ZhX h2 h (fun z hz=>hd z (Tal _ hz))⟩
theorem ZoR {e:Env} {f:FuncId} {data lits:List D} {R:List D->List Bk->Prop} (pm:List Bk) (h:ConP e f data [] R) (hset:pm.all Zb5=true) (hR:∀ r q,R r q->r.all litD=true∧q.all Zb5=true)
  (hx:∀ (w:World) (S:Nat->Prop) (vs:List Value),(∀ x∈pm,Zbk w S x)->ZaE w S lits vs->ZaE w (fun b=>S b∨ZaG pm b) data vs):ConP e f lits pm (fun r q=>∃ q1,R r q1∧q=q1++pm):=by
 refine ⟨h.1,fun w S vs hS hE hG hpm ha hv=>?_⟩;have hset':∀ x∈pm,Zb5 x=true:=fun x hx=>List.all_eq_true.1 hset x hx;have hlt:∀ g,ZaG pm g->g < w.heap.size∧¬ S g∧¬ e.E g:=fun g ⟨x,hxm,hg⟩=>⟨(ZoQ (hset' x hxm) (hpm x hxm).1 hg).1,(ZoQ (hset' x hxm) (hpm x hxm).1 hg).2,(hpm x hxm).2 g hg⟩;refine (h.2 w (fun b=>S b∨ZaG pm b) vs (fun b hb=>hb.elim (hS b) (fun q=>⟨(hlt b q).1,(hlt b q).2.2⟩)) hE hG (fun x hx=>by simp at hx) trivial (hx w S vs (fun x hx=>(hpm x hx).1) hv)).mono ?_
 rintro en w' ⟨v,r,q1,h1,h2,h3,h4,h5,h6,h7⟩;obtain ⟨l1,l2⟩:=hR r q1 h2;have l2':∀ x∈q1,Zb5 x=true:=fun x hx=>List.all_eq_true.1 l2 x hx;have hnew:∀ x∈q1,∀ g,pblk x g->w.heap.size<=g:=fun x hx g hg=>((h5 x hx).2 g hg).elim (fun ⟨y,hy,_⟩=>by simp at hy) id;have hnil:∀ b,¬ ZaG [] b:=fun b ⟨y,hy,_⟩=>by simp at hy
 refine ⟨v,r,q1++pm,h1,⟨q1,h2,rfl⟩,⟨h3.os,h3.tape,h3.output,h3.drawn,h3.size,fun k hk hn=>h3.block k hk (fun q=>q.elim (fun q=>hn (.inl q)) (fun q=>hnil k q))⟩,h4,fun x hxm=>?_,ZhX h6 ha (fun x hx y hy g hg hg2=>?_),Zgr l1 h7⟩
 ·rcases Tbe.1 hxm with hq | hq
  ·refine ⟨Zd4 (l2' x hq) (h5 x hq).1 (Tai _) (fun _ _=>rfl) (fun b hb hn=>hn.2 ⟨x,Tbe.2 (.inl hq),hb⟩),fun g hg=>.inr (hnew x hq g hg)⟩
  ·refine ⟨Zd4 (hset' x hq) (hpm x hq).1 h3.size (fun b hb=>h3.block b (hlt b ⟨x,hq,hb⟩).1 (fun q=>q.elim (hlt b ⟨x,hq,hb⟩).2.2 (hnil b))) (fun b hb hn=>hn.2 ⟨x,Tbe.2 (.inr hq),hb⟩),fun g hg=>.inl ⟨x,hq,hg⟩⟩
 ·have:=hnew x hx g hg;have:=(hlt g ⟨y,hy,hg2⟩).1;omega
structure UU where
 v:Nat->Nat->Value
 E:Nat->Nat->Prop
 s:Nat->List (List Value)
 a:Nat->Option Addr
 c:Nat->Nat
def UU.z:UU:=⟨fun _ _=>.bool true,fun _ _=>False,fun _=>[],fun _=>none,fun _=>0⟩
def UU.ok (x:UU):Prop:=(∀ c k,Zal (.lit (x.v c k))=true)∧∀ c,((x.s c).map Zaf).all (fun r=>r.all Zal)=true
theorem UU.z_ok:UU.z.ok:=⟨fun _ _=>rfl,fun _=>rfl⟩
def UU.two (c:Nat) (a b:UU):UU:=⟨fun d=>if d=c then a.v d else b.v d,fun d=>if d=c then a.E d else b.E d,fun d=>if d=c then a.s d else b.s d,fun d=>if d=c then a.a d else b.a d,fun d=>if d=c then a.c d else b.c d⟩
theorem UU.two_ok {c:Nat} {a b:UU} (ha:a.ok) (hb:b.ok):(UU.two c a b).ok:=⟨fun d k=>by
 simp only [UU.two];split
 ·exact ha.1 d k
 ·exact hb.1 d k,fun d=>by
 simp only [UU.two];split
 ·exact ha.2 d
 ·exact hb.2 d⟩
def UU.vs (us:List Value) (E:Nat->Prop):UU:=⟨fun _ k=>us.getD k (.bool true),fun _=>E,fun _=>[],fun _=>none,fun _=>0⟩
theorem UU.vs_ok {us:List Value} {E:Nat->Prop} (h:(Zaf us).all Zal=true):(UU.vs us E).ok:=⟨fun c k=>by
 show Zal (.lit (us.getD k (.bool true)))=true;rw [List.getD_eq_getElem?_getD]
 cases hk:us[k]? with
 | none=>rfl
 | some u=>exact List.all_eq_true.1 h (.lit u) (Tbf.2 ⟨u,Tac hk,rfl⟩),fun _=>rfl⟩
theorem UU.v_ok {x:UU} (h:x.ok) (c k:Nat):Zal (.lit (x.v c k))=true:=h.1 c k
def UU.sl (uss:List (List Value)) (a:Option Addr) (cap:Nat) (E:Nat->Prop):UU:=⟨fun _ _=>.bool true,fun _=>E,fun _=>uss,fun _=>a,fun _=>cap⟩
theorem UU.sl_ok {uss:List (List Value)} {a:Option Addr} {cap:Nat} {E:Nat->Prop} (h:(uss.map Zaf).all (fun r=>r.all Zal)=true):(UU.sl uss a cap E).ok:=⟨fun _ _=>rfl,fun _=>h⟩
section
variable {X:Type} {L:List Oper} {cons:Nat->Option Nat} {ok:Nat->X->Prop} {T:X->Tab} {i:Nat} {sb:List (Nat × A)} {mb:List (Nat × Bk)} {s:List (Nat × A)} {m:List (Nat × Bk)} {d k:Nat} {α:A} {bk bk2:Bk}
theorem Lks.bornF (h:Lks sb mb ⟨s,m⟩) (hf:Zb0 d sb mb=true):Lks sb mb ⟨frzS d bk ((d,α)::Zau d s),remM d ((d,bk)::remM d m)⟩:=by
 have h1:=Lks.born (α:=α) (bk:=bk) h hf;simp only [Zb0,Tar,List.all_eq_true,bne_iff_ne,ne_eq,Bool.not_eq_true'] at hf;refine Lks.frz h1 ?_ ?_
 ·simp only [List.all_eq_true,Bool.not_eq_true'];exact fun p hp=>(hf.1 p hp).2
 ·simp only [List.all_eq_true,bne_iff_ne,ne_eq];exact fun p hp=>hf.2 p hp
theorem xFB (hB:Lks sb mb ⟨s,m⟩) (hp:tabX ok T i ⟨frzS d bk ((d,α)::Zau d s),remM d ((d,bk)::remM d m)⟩) (h1:Zb0 d sb mb=true:=by rfl) (h2:∀ x,ZdO L cons (T x) i (Zb0 d)=true:=by intro x;rfl):DidX L cons ok T i sb mb s m ⟨frzS d bk ((d,α)::Zau d s),remM d ((d,bk)::remM d m)⟩:=⟨hB.bornF h1,hp,Zdb h2 fun _ _ h hl=>hl.bornF h⟩
theorem xG {f:List (Nat × A)->List (Nat × Bk)->Bool} {σ':St} (hB:Lks sb mb ⟨s,m⟩) (hm:∀ sb mb,f sb mb=true->Lks sb mb ⟨s,m⟩->Lks sb mb σ') (hp:tabX ok T i σ') (h1:f sb mb=true:=by rfl) (h2:∀ x,ZdO L cons (T x) i f=true:=by intro x;rfl):DidX L cons ok T i sb mb s m σ':=⟨hm _ _ h1 hB,hp,Zdb h2 hm⟩
theorem Lks.ownP {a:Option Addr} {n cap:Nat} (h:Lks sb mb ⟨s,m⟩) (hf:ZdP d k sb mb=true):Lks sb mb ⟨(d,α)::mapS (litB d a n cap) (Zau d (Zau k s)),(d,bk)::remM d (remM d (remM k m))⟩:=by
 simp only [ZdP,Zb0,Tar,List.all_eq_true,bne_iff_ne,ne_eq,Bool.not_eq_true'] at hf;refine Lks.pin (Lks.mrem (Lks.kill h ?_) ?_) ?_
 ·simp only [List.all_eq_true,Bool.not_eq_true'];exact fun p hp=>(hf.2.1 p hp).2
 ·simp only [List.all_eq_true,bne_iff_ne,ne_eq];exact fun p hp=>hf.2.2 p hp
 ·simp only [Zb0,Tar,List.all_eq_true,bne_iff_ne,ne_eq,Bool.not_eq_true'];exact hf.1
def ZgX (d κ κ2:Nat) (sb:List (Nat × A)) (mb:List (Nat × Bk)):Bool:=ZfO d κ sb mb && ZfO d κ2 sb mb
theorem Lks.bornCC {κ κ2:Nat} (h:Lks sb mb ⟨s,m⟩) (hf:ZgX d κ κ2 sb mb=true):Lks sb mb ⟨(d,α)::Zau κ2 (Zau κ s),(κ,bk)::(κ2,bk2)::remM κ2 (remM κ m)⟩:=by
 simp only [ZgX,ZfO,Tar,List.all_eq_true,bne_iff_ne,ne_eq,Bool.not_eq_true'] at hf;refine Lks.slot ⟨(Lks.kill (Lks.kill h (k:=κ) ?_) (k:=κ2) ?_).1,fun p hp=>?_⟩ ?_
 ·simp only [List.all_eq_true,Bool.not_eq_true'];exact fun p hp=>(hf.1.1 p hp).2
 ·simp only [List.all_eq_true,Bool.not_eq_true'];exact fun p hp=>(hf.2.1 p hp).2
 ·have h1:=hf.1.2 p hp;have h2:=hf.2.2 p hp;have h3:=h.2 p hp;show gm _ _=_;rw [gm,if_neg h1,gm,if_neg h2,Zah,if_neg h2,Zah,if_neg h1];exact h3
 ·simp only [ZgW,List.all_eq_true,bne_iff_ne,ne_eq];exact fun p hp=>(hf.1.1 p hp).1
end
def UU.okN (n:Nat) (x:UU):Prop:=x.ok∧∀ c,ZaC n ((x.s c).map Zaf)=true∧(x.s c).length<=1048576
theorem UU.z_okN {n:Nat}:UU.z.okN n:=⟨UU.z_ok,fun _=>⟨rfl,Taj _⟩⟩
theorem UU.two_okN {n c:Nat} {a b:UU} (ha:a.okN n) (hb:b.okN n):(UU.two c a b).okN n:=⟨UU.two_ok ha.1 hb.1,fun d=>by
 simp only [UU.two];split
 ·exact ha.2 d
 ·exact hb.2 d⟩
theorem UU.vs_okN {n:Nat} {us:List Value} {E:Nat->Prop} (h:(Zaf us).all Zal=true):(UU.vs us E).okN n:=⟨UU.vs_ok h,fun _=>⟨rfl,Taj _⟩⟩
theorem UU.v_okN {n:Nat} {x:UU} (h:x.okN n) (c k:Nat):Zal (.lit (x.v c k))=true:=h.1.1 c k
theorem UU.sl_okN {n:Nat} {uss:List (List Value)} {a:Option Addr} {cap:Nat} {E:Nat->Prop} (h:ZaC n (uss.map Zaf)=true) (hl:uss.length<=1048576):(UU.sl uss a cap E).okN n:=⟨⟨fun _ _=>rfl,fun _=>by
 refine List.all_eq_true.2 fun r hr=>?_;have:=List.all_eq_true.1 h r hr;simp only [Tar] at this;exact this.2⟩,fun _=>⟨h,hl⟩⟩
theorem UU.app_le {n c d:Nat} {x y:UU} (hx:x.okN n) (hy:y.okN n):(x.s c).length+(y.s d).length<=maxApp:=by
 have h1:=(hx.2 c).2;have h2:=(hy.2 d).2;unfold maxApp;omega
def Zrw (ety sz:Nat) (rows:List (List C)) (r:List D) (pm:List Bk):Prop:=∃ a cap uss E,r=[.one (.lit (.slice a uss.length cap))]∧(uss.length=rows.length∧ZaC sz (uss.map Zaf)=true)∧pm=[.buf (some (a,cap)) ety sz (uss.map Zaf),.set E (fun w=>Zan w rows E uss)]
def Zrx (sz:Nat) (rows:List (List C)) (r:List D) (pm:List Bk):Prop:=∃ uss E,r=[.one (.sl (uss.map Zaf))]∧(uss.length=rows.length∧ZaC sz (uss.map Zaf)=true)∧pm=[.set E (fun w=>Zan w rows E uss)]
theorem ConP.treesB {e:Env} {f:FuncId} {args:List D} {ety sz:Nat} {rows:List (List C)} (h:ConP e f args [] (Zcu ety sz rows)):ConP e f args [] (Zrw ety sz rows):=by
 refine ⟨h.1,fun w S vs hS hE hG hpm hap hvs=>(h.2 w S vs hS hE hG hpm hap hvs).mono fun en w' ⟨v,r,pm,h1,⟨a,cap,uss,E,h2,h3,h4⟩,hk,hg,hp,ha,hv⟩=>?_⟩;subst h2 h4;have hb:ZaZ w' _ ety sz (uss.map Zaf) (.slice a (uss.map Zaf).length cap):=(hp _ Tas).1;exact ⟨v,_,_,h1,⟨a,cap,uss,E,rfl,⟨h3,ZaW.2 hb.2.1⟩,rfl⟩,hk,hg,hp,ha,hv⟩
theorem ConP.treesD {e:Env} {f:FuncId} {args:List D} {ety sz:Nat} {rows:List (List C)} (h:ConP e f args [] (Zcu ety sz rows)):ConP e f args [] (Zrx sz rows):=by
 refine ⟨h.1,fun w S vs hS hE hG hpm hap hvs=>(h.2 w S vs hS hE hG hpm hap hvs).mono fun en w' ⟨v,r,pm,h1,⟨a,cap,uss,E,h2,h3,h4⟩,hk,hg,hp,ha,hv⟩=>?_⟩;subst h2 h4;have hb:ZaZ w' _ ety sz (uss.map Zaf) (.slice a (uss.map Zaf).length cap):=(hp _ Tas).1;have hs:=hp (.set E (fun w=>Zan w rows E uss)) (by simp);have hv:v=.slice a (uss.map Zaf).length cap:=by
  have:v=.slice a uss.length cap:=by simpa [retA,ARel,DRel,Rep] using hv
  rw [this,Tax]
 have hdj:=ha.1 (.set E (fun w=>Zan w rows E uss)) (by simp);refine ⟨v,_,_,h1,⟨uss,E,rfl,⟨h3,ZaW.2 hb.2.1⟩,rfl⟩,hk,hg,fun x hx=>?_,Zcz _,?_⟩
 ·simp only [Tbd,List.not_mem_nil,or_false] at hx;subst hx;exact ⟨Zd4 rfl hs.1 (Tai _) (fun _ _=>rfl) fun b hb hn=>hn.2 ⟨_,Tas,hb⟩,hs.2⟩
 ·subst hv;show DRel _ _ (.one (.sl (uss.map Zaf))) _;have h5:Rep w' _ (.sl (uss.map Zaf)) (.slice a (uss.map Zaf).length cap):=hb.rep;refine Rep.mono h5 fun b hb'=>?_;rcases hb' with q | q
  ·exact ⟨q.1,fun q2=>q.2 (by
    obtain ⟨x,hx,hg⟩:=q2;simp only [Tbd,List.not_mem_nil,or_false] at hx;subst hx;exact ⟨_,Tal _ Tas,hg⟩)⟩
  ·have h6:=(hp _ Tas).2 b q;have h7:b < w'.heap.size:=by
    rcases hb.2.2 with ⟨_,a',h3⟩ | ⟨g',cap',cur,h3,h4,h5,h6,_⟩
    ·rw [h3] at q;cases a' <;> simp [vblk] at q
    ·rw [h3] at q;simp only [vblk] at q;rw [if_neg om] at q;injection q with q
     rw [<- q];exact h5
   refine ⟨.inr (.inr ⟨h6.elim (fun ⟨x,hx,_⟩=>by cases hx) id,h7⟩),fun q2=>?_⟩;obtain ⟨x,hx,hg⟩:=q2;simp only [Tbd,List.not_mem_nil,or_false] at hx;subst hx;exact hdj b q hg
theorem ConP.treesS {f:FuncId} {args:List D} {ety sz:Nat} {rows:List (List C)} (h:ConP e0 f args [] (Zcu ety sz rows)):ConP e0 f args [] (Za7 rows):=by
 have key:∀ r pm,Zcu ety sz rows r pm->∃ pm',Za1 pm pm'∧Za7 rows r pm'∧r.all litD=true∧pm'.all Zb5=true:=fun r pm ⟨a,cap,uss,E,h1,h2,h3⟩=>by
  subst h1 h3;exact ⟨_,Zbi (a:=a) (cap:=cap) (uss:=uss) (G':=fun w=>Own w (.sl rows) (fun b=>vblk (.slice a uss.length cap)=some b∨E b) (.slice a uss.length cap)) (fun w h=>h) (Own.stable _ _ _),⟨_,_,rfl,rfl,rfl⟩,rfl,rfl⟩
 refine ⟨h.1,fun w S vs hS hE hG hpm hap hvs=>(h.2 w S vs hS hE hG hpm hap hvs).mono fun en w' ⟨v,r,pm,h1,hr,hk,hg,hp,ha,hv⟩=>?_⟩;obtain ⟨pm',ht,hr',hl,hs⟩:=key r pm hr;obtain ⟨q1,q2,q3⟩:=ht w' _ (fun x hx=>(hp x hx).1) ha;refine ⟨v,r,pm',h1,hr',hk,hg,fun x hx=>⟨Zd4 (List.all_eq_true.1 hs x hx) (q1 x hx) (Tai _) (fun _ _=>rfl) fun b hb hn=>hn.2 ⟨x,hx,hb⟩,fun g hg=>?_⟩,q2,Zgr hl hv⟩;obtain ⟨y,hy,hg2⟩:=q3 g ⟨x,hx,hg⟩
 exact (hp y hy).2 g hg2
theorem ZlN {e:Env} {σ:St} {a0:Option Addr} {n cap ety sz:Nat} {rows:List (List C)} (t κ:Nat) (hs:gs σ.s t=.d (.one (.lit (.slice a0 n cap)))) (hm:gm σ.m κ=some (.buf (some (a0,cap)) ety sz rows)) (hn:n=rows.length):Turn e σ (fun σ'=>σ'=⟨(t,.buf κ)::σ.s,σ.m⟩):=by
 intro he U w0 S0 nt a w ⟨S,L,h⟩;refine ⟨_,rfl,S,L,h.cls,fun t'=>?_,h.size,h.defers,h.kept⟩;simp only [gs];split
 ·rename_i e;subst e;have hr:=h.rel t';rw [hs] at hr;have hv:a.tmps.getD t' undef=.slice a0 n cap:=by simpa [ARel,DRel,Rep] using hr
  have h2:=(h.cls.own κ _ hm).1 (a0,cap) rfl;show _=_;rw [hv,h2,hn]
 ·exact h.rel t'
theorem gKk {e:Env} {K:St->Prop} {ds:List (Option Nat)} {os:List Oper} {s:List (Nat × A)} {m:List (Nat × Bk)} {a0:Option Addr} {n cap ety sz:Nat} {rows:List (List C)} (t κ:Nat) (hm:gm m κ=some (.buf (some (a0,cap)) ety sz rows)) (hs:gs s t=.d (.one (.lit (.slice a0 n cap)))) (hn:n=rows.length) (hK:Runs e ds 0 os ⟨(t,.buf κ)::s,m⟩ K):Runs e ds 0 os ⟨s,m⟩ K :=
 Zdz (ZlN t κ hs hm hn) fun σ' hσ=>by subst hσ;exact hK
theorem ConP.retell {e:Env} {f:FuncId} {args:List D} {R R':List D->List Bk->Prop} (h:ConP e f args [] R) (hR:∀ r pm,R r pm->∃ pm',Za1 pm pm'∧R' r pm'∧r.all litD=true∧pm'.all Zb5=true):ConP e f args [] R':=by
 refine ⟨h.1,fun w S vs hS hE hG hpm hap hvs=>(h.2 w S vs hS hE hG hpm hap hvs).mono fun en w' ⟨v,r,pm,h1,hr,hk,hg,hp,ha,hv⟩=>?_⟩;obtain ⟨pm',ht,hr',hl,hs⟩:=hR r pm hr;obtain ⟨q1,q2,q3⟩:=ht w' _ (fun x hx=>(hp x hx).1) ha;refine ⟨v,r,pm',h1,hr',hk,hg,fun x hx=>⟨Zd4 (List.all_eq_true.1 hs x hx) (q1 x hx) (Tai _) (fun _ _=>rfl) fun b hb hn=>hn.2 ⟨x,hx,hb⟩,fun g hg=>?_⟩,q2,Zgr hl hv⟩;obtain ⟨y,hy,hg2⟩:=q3 g ⟨x,hx,hg⟩
 exact (hp y hy).2 g hg2
end Go.Proofs.Ytjoaefnnnbpflaa
namespace Go.Proofs.Ytjoaefnnnbpflaa
open Go.RowKit Go.MapKept Go.ChangeMaps
def MapL (w:World) (b:Nat) (l:List (ByteArray × Value)):Prop:=∃ (es:Array MapEntry) (clock:Nat),w.heap[b]?=some (.map es clock)∧es.toList.map (fun e=>(e.key,e.val))=l.map (fun p=>(Value.string p.1,p.2))
theorem MapL.stable (b:Nat) (l:List (ByteArray × Value)):Zcl (fun g=>g=b) fun w=>MapL w b l:=fun w w' _ hE ⟨es,c,h1,h2⟩=>⟨es,c,by rw [hE b rfl];exact h1,h2⟩
theorem MapL.lt {w:World} {b:Nat} {l:List (ByteArray × Value)} (h:MapL w b l):b < w.heap.size:=by
 obtain ⟨es,clock,h,_⟩:=h;exact (Tbh.1 h).1
section
variable {P:Program} {w:World} {b:Nat} {l:List (ByteArray × Value)} {t k el:TypeId}
end
section
variable {e:Env} {σ:St} {o:Oper} {K:St->Prop}
end
section
variable {e:Env} {K:St->Prop} {ds:List (Option Nat)} {os:List Oper} {s:List (Nat × A)} {m:List (Nat × Bk)}
theorem ZlO {o:Oper} {σ:St} (hg:o.guard=none) (h:Zby e o σ (fun σ'=>Runs e ds 0 os σ' K)):Runs e ds 0 (o::os) σ K:=by
 simp only [Runs] at h ⊢;exact ZdM hg h
end
end Go.Proofs.Ytjoaefnnnbpflaa
namespace Go.Proofs.Ytjoaefnnnbpflaa
open Go.RowKit
theorem okC.cell:∀ {f:F} {c:C},okC f c->Zal c=true
 | .int,.lit v,h=>by obtain ⟨n,rfl,_⟩:=h;rfl
 | .str,.lit v,h=>by obtain ⟨n,rfl,_⟩:=h;rfl
 | .bool,.lit v,h=>by obtain ⟨n,rfl⟩:=h;rfl
 | .sl t,.sl rows,h=>rfl
 | .int,.sl _,h=>False.elim h
 | .str,.sl _,h=>False.elim h
 | .bool,.sl _,h=>False.elim h
 | .sl _,.lit _,h=>False.elim h
 | f,.ptr _,h=>by cases f <;> exact False.elim h
 | f,.fn _ _,h=>by cases f <;> exact False.elim h
theorem Zao.cells:∀ {fs:List F} {cs:List C},Zao fs cs->cs.all Zal=true
 | [],[],_=>rfl
 | f::fs,c::cs,h=>by
  simp only [Zao] at h;rw [List.all_cons,h.1.cell,Zao.cells h.2];rfl
 | [],_::_,h=>by simp [Zao] at h
 | _::_,[],h=>by simp [Zao] at h
theorem Zao.take {fs:List F} {cs:List C} (h:Zao fs cs) {n:Nat} (hn:fs.length=n):cs.length=n∧cs.take n=cs∧cs.drop n=[]:=by
 have:=h.len;refine ⟨om,?_,?_⟩
 ·rw [List.take_of_length_le om]
 ·rw [List.drop_eq_nil_of_le om]
theorem Zad.inside' {w:World} {S:Nat->Prop}:∀ {cs:List C} {us:List Value},Zad w S cs us->Zad w (fun b=>b < w.heap.size) cs us
 | [],[],_=>by simp [Zad]
 | c::cs,u::us,h=>by
  simp only [Zad] at h ⊢;exact ⟨(Rep.inside c u h.1).mono (fun b hb=>hb.2),Zad.inside' h.2⟩
 | [],_::_,h=>by simp [Zad] at h
 | _::_,[],h=>by simp [Zad] at h
theorem Zak.rowsLen {fs:List F} {rows:List (List C)} (h:Zak fs rows):rowsLen fs.length rows:=fun r hr=>by
 obtain ⟨i,hi⟩:=Tbg hr;exact ⟨(h.get hi).len,(h.get hi).cells⟩
theorem Zaz {α:Type} (l:List α):l.drop 0=l:=rfl
theorem ZbE {r:List C} (h:Zao (Zac .term) r):∃ (i0:Int) (t1:ByteArray) (i2:Int) (r3:List (List C)),r=[.lit (.int .i64 i0),.lit (.string t1),.lit (.int .i64 i2),.sl r3]∧I64 i0∧t1.size<=maxLen∧I64 i2∧Zak (Zac .term) r3:=by
 obtain ⟨c0,c1,c2,c3,rfl⟩:=len4 h.len;simp only [Zac,Zbj,occF,ZcK,sigF,Zcw,algF,Taf,Tah,redF,Zao,and_true] at h;obtain ⟨h0,h1,h2,h3⟩:=h;obtain ⟨i0,rfl,g0⟩:=ZbS h0;obtain ⟨t1,rfl,g1⟩:=Zex h1;obtain ⟨i2,rfl,g2⟩:=ZbS h2;obtain ⟨r3,rfl,g3⟩:=ZbT h3;exact ⟨i0,t1,i2,r3,rfl,g0,g1,g2,g3⟩
theorem Za5 {i0:Int} {t1:ByteArray} {i2:Int} {r3:List (List C)} (g0:I64 i0) (g1:t1.size<=maxLen) (g2:I64 i2) (g3:Zak (Zac .term) r3):Zao (Zac .term) [.lit (.int .i64 i0),.lit (.string t1),.lit (.int .i64 i2),.sl r3]:=by
 simp only [Zac,Zbj,occF,ZcK,sigF,Zcw,algF,Taf,Tah,redF,Zao,and_true];exact ⟨Zcf g0,Zey g1,Zcf g2,Zb3 g3⟩
inductive Tm where
 | mk (op:Int) (name:ByteArray) (sort:Int) (args:List Tm)
def Tm.args:Tm->List Tm | .mk _ _ _ a=>a
def Tm.op:Tm->Int | .mk a _ _ _=>a
def Tm.name:Tm->ByteArray | .mk _ a _ _=>a
def Tm.sort:Tm->Int | .mk _ _ a _=>a
mutual
def Zab:Tm->List C
 | .mk op nm so args=>[.lit (.int .i64 op),.lit (.string nm),.lit (.int .i64 so),.sl (Zaj args)]
def Zaj:List Tm->List (List C)
 | []=>[]
 | t::ts=>Zab t::Zaj ts
end
mutual
def okTm:Tm->Prop
 | .mk op nm so args=>I64 op∧nm.size<=maxLen∧I64 so∧Zcd args
def Zcd:List Tm->Prop
 | []=>True
 | t::ts=>okTm t∧Zcd ts
end
theorem Zen (ts:List Tm):Zaj ts=ts.map Zab:=by
 induction ts with
 | nil=>simp [Zaj]
 | cons t ts ih=>simp [Zaj,ih]
theorem ZaU (ts:List Tm):(Zaj ts).length=ts.length:=by simp [Zen]
theorem Zbv (ts:List Tm) (i:Nat):(Zaj ts)[i]?=ts[i]?.map Zab:=by simp [Zen]
mutual
theorem ZoS:∀ (t:Tm),okTm t->Zao (Zac .term) (Zab t)
 | .mk op nm so args,h=>by
  simp only [okTm] at h;simp only [Zab];exact Za5 h.1 h.2.1 h.2.2.1 (Zb6 args h.2.2.2)
theorem Zb6:∀ (ts:List Tm),Zcd ts->Zak (Zac .term) (Zaj ts)
 | [],_=>by simp [Zaj,Zak]
 | t::ts,h=>by
  simp only [Zcd] at h;simp only [Zaj,Zak];exact ⟨ZoS t h.1,Zb6 ts h.2⟩
end
theorem ZpG (n:Nat):(∀ row,Zay row < n->Zao (Zac .term) row->∃ t,row=Zab t∧okTm t)∧(∀ rows,Zat rows < n->Zak (Zac .term) rows->∃ ts,rows=Zaj ts∧Zcd ts):=by
 induction n with
 | zero=>exact ⟨fun _ h=>om,fun _ h=>om⟩
 | succ n ih =>
  have h1:∀ row,Zay row < n+1->Zao (Zac .term) row->∃ t,row=Zab t∧okTm t:=by
   intro row hn hok;obtain ⟨i0,t1,i2,r3,rfl,g0,g1,g2,g3⟩:=ZbE hok;obtain ⟨ts,rfl,hts⟩:=ih.2 r3 (by simp only [Zay,Zbg] at hn;omega) g3;exact ⟨.mk i0 t1 i2 ts,by simp [Zab],by simp only [okTm];exact ⟨g0,g1,g2,hts⟩⟩
  refine ⟨h1,fun rows=>?_⟩
  induction rows with
  | nil=>exact fun _ _=>⟨[],by simp [Zaj],by simp [Zcd]⟩
  | cons r rs ihr =>
   intro hn hok;simp only [Zat] at hn;simp only [Zak] at hok;obtain ⟨t,rfl,ht⟩:=h1 r om hok.1;obtain ⟨ts,rfl,hts⟩:=ihr om hok.2;exact ⟨t::ts,by simp [Zaj],by simp only [Zcd];exact ⟨ht,hts⟩⟩
theorem ZeF {rows:List (List C)} (h:Zak (Zac .term) rows):∃ ts,rows=Zaj ts∧Zcd ts:=(ZpG _).2 rows (Tan _) h
theorem Zcd.mem:∀ {ts:List Tm} {t:Tm},Zcd ts->t∈ts->okTm t
 | [],_,_,h=>by simp at h
 | x::xs,t,h,ht=>by
  simp only [Zcd] at h;rcases Tbd.1 ht with rfl | ht
  ·exact h.1
  ·exact Zcd.mem h.2 ht
def ZaM (a b:Int):Int:=if a < b then -1 else if b < a then 1 else 0
def Zbm (a b:ByteArray):Int:=Lib.compareBytes a.data.toList b.data.toList
def ZaL:List Int->Int
 | []=>0
 | x::xs=>if x=0 then ZaL xs else x
mutual
def ZaK:Tm->Tm->Int
 | .mk o n s a,.mk o' n' s' a'=>ZaL [ZaM o o',Zbm n n',ZaM s s',ZaS a a']
def ZaS:List Tm->List Tm->Int
 | [],[]=>0
 | [],_::_=>-1
 | _::_,[]=>1
 | x::xs,y::ys=>ZaL [ZaK x y,ZaS xs ys]
end
theorem ZdF:∀ (l:List UInt8),Lib.compareBytes l l=0
 | []=>rfl
 | x::xs=>by simp [Lib.compareBytes,ZdF xs]
theorem ZdG:∀ {l m:List UInt8},Lib.compareBytes l m=0->l=m
 | [],[],_=>rfl
 | [],_::_,h=>by simp [Lib.compareBytes] at h
 | _::_,[],h=>by simp [Lib.compareBytes] at h
 | x::xs,y::ys,h=>by
  simp only [Lib.compareBytes] at h;split at h
  ·simp at h
  ·split at h
   ·simp at h
   ·rename_i h1 h2;have e:x=y:=UInt8.le_antisymm (UInt8.not_lt.1 h2) (UInt8.not_lt.1 h1);rw [e,ZdG h]
theorem ZdH:∀ (l m:List UInt8),Op.bytesLess l m=decide (Lib.compareBytes l m=-1)
 | [],[]=>by simp [Op.bytesLess,Lib.compareBytes]
 | [],_::_=>by simp [Op.bytesLess,Lib.compareBytes]
 | _::_,[]=>by simp [Op.bytesLess,Lib.compareBytes]
 | x::xs,y::ys=>by
  have ih:=ZdH xs ys;simp only [Op.bytesLess,Lib.compareBytes,ih];by_cases h1:x < y
  ·simp [h1]
  ·by_cases h2:y < x
   ·have:¬ x=y:=fun e=>by subst e;exact h1 h2
    simp [h1,h2,this]
   ·have e:x=y:=UInt8.le_antisymm (UInt8.not_lt.1 h2) (UInt8.not_lt.1 h1);subst e;simp [h1]
theorem ZdC:∀ (l m:List UInt8),Lib.compareBytes l m=-1∨Lib.compareBytes l m=0∨Lib.compareBytes l m=1
 | [],[]=>by simp [Lib.compareBytes]
 | [],_::_=>by simp [Lib.compareBytes]
 | _::_,[]=>by simp [Lib.compareBytes]
 | x::xs,y::ys=>by
  have ih:=ZdC xs ys;simp only [Lib.compareBytes];split
  ·simp
  ·split
   ·simp
   ·exact ih
theorem ZcA {a b:Int}:ZaM a b=0 ↔ a=b:=by unfold ZaM;split <;> (try split) <;> simp <;> omega
theorem Zes {a b:ByteArray}:Zbm a b=0 ↔ a=b:=by
 constructor
 ·intro h;have:=ZdG h;obtain ⟨⟨la⟩⟩:=a;obtain ⟨⟨lb⟩⟩:=b;simp at this;rw [this]
 ·rintro rfl;exact ZdF _
theorem Zjc (a b:ByteArray):Zbm a b=-1∨Zbm a b=0∨Zbm a b=1:=ZdC _ _
theorem ZjF:∀ {ps qs:List Tm} {k:Nat} {x y:Tm},ps[k]?=some x->qs[k]?=some y->ZaS (ps.drop k) (qs.drop k)=ZaL [ZaK x y,ZaS (ps.drop (k+1)) (qs.drop (k+1))]:=by
 intro ps qs k x y h1 h2;have e1:ps.drop k=x::ps.drop (k+1):=by
  obtain ⟨hl,hx⟩:=Tad.1 h1;rw [<- hx];exact List.drop_eq_getElem_cons hl
 have e2:qs.drop k=y::qs.drop (k+1):=by
  obtain ⟨hl,hx⟩:=Tad.1 h2;rw [<- hx];exact List.drop_eq_getElem_cons hl
 rw [e1,e2,ZaS]
theorem Zc4 (t:Tm):(Zab t).length=4:=by cases t;rfl
theorem Zlk (t:Tm):(Zab t).take 4=Zab t:=by cases t;rfl
theorem Zll (t:Tm):(Zab t).drop 4=[]:=by cases t;rfl
theorem ZlP (t:Tm):(Zab t).all Zal=true:=by cases t;rfl
theorem ZlQ (ts:List Tm):ZaC 4 (Zaj ts)=true:=by
 rw [Zen];exact Zbr (e:=Zab) (n:=4) (fun t=>by rw [Zc4,ZlP];rfl) ts
theorem Zq9 (t:Tm):valT .one (Zab t)=some (.d (.one (.lit (.int .i64 t.op)))):=by cases t;rfl
theorem Zra (t:Tm):(Zab t).drop 1=[.lit (.string t.name),.lit (.int .i64 t.sort),.sl (Zaj t.args)]:=by cases t;rfl
theorem Zrb (t:Tm):(Zab t).drop 2=[.lit (.int .i64 t.sort),.sl (Zaj t.args)]:=by cases t;rfl
theorem Zrc (t:Tm):(Zab t).drop 3=[.sl (Zaj t.args)]:=by cases t;rfl
theorem tmz:type_of% (aj12 Zq9 Zra Zrb Zrc Zc4 Zlk Zll ZlP ZlQ Zbv ZaU @Zaz):=(aj12 Zq9 Zra Zrb Zrc Zc4 Zlk Zll ZlP ZlQ Zbv ZaU @Zaz)
theorem ZlR (a b:Int) (w:World):Calls Try.prog 69 #[.int .i64 a,.int .i64 b] w fun e w'=>e=.returned (.int .i64 (ZaM a b))∧w=w':=by
 unfold ZaM;by_cases h1:a < b
 ·rw [if_pos h1]
  go_enter Try.func69,Try.ntmps69
  go_wp2
  go_ret
  exact ⟨rfl,rfl⟩
 ·by_cases h2:b < a
  ·rw [if_neg h1,if_pos h2]
   go_enter Try.func69,Try.ntmps69
   go_wp2
   go_ret
   exact ⟨rfl,rfl⟩
  ·rw [if_neg h1,if_neg h2]
   go_enter Try.func69,Try.ntmps69
   go_wp2
   go_ret
   exact ⟨rfl,rfl⟩
theorem Zho (a b:ByteArray) (w:World):Calls Try.prog 84 #[.string a,.string b] w fun e w'=>e=.returned (.int .i64 (Zbm a b))∧w=w':=by
 go_enter Try.func84,Try.ntmps84
 go_wp2
 rw [run_callFunc_extern Try.func98 (by kernel_rfl) (by kernel_rfl) (by kernel_rfl) (e:=Extern.BytealgCompare.compare) (by kernel_rfl),Lib.run_compareString];simp only [Result.andThen];rw [Oper.upon_value]
 go_wp2
 go_ret
 exact ⟨rfl,rfl⟩
theorem Zhp (a b:ByteArray) (w:World):Calls Try.prog 70 #[.string a,.string b] w fun e w'=>e=.returned (.int .i64 (Zbm a b))∧w=w':=by
 go_enter Try.func70,Try.ntmps70
 go_wp2_with fail
 refine (Zho _ _ _).mono ?_;rintro e w' ⟨rfl,rfl⟩
 go_wp2
 go_ret
 exact ⟨rfl,rfl⟩
theorem Zjd {l:List Int} {k:Nat} {x:Int} (h:l[k]?=some x):ZaL (l.drop k)=if x=0 then ZaL (l.drop (k+1)) else x:=by
 obtain ⟨hl,hx⟩:=Tad.1 h;rw [List.drop_eq_getElem_cons hl,hx,ZaL]
theorem Zje {e:Env} {f:FuncId} {args:List D} {x:Value} (hb:Zcx e.P f=true) (h:∀ (w:World) (S:Nat->Prop) (vs:List Value),ZaE w S args vs->Calls e.P f vs.toArray w fun en w'=>en=.returned x∧w=w'):Con e f args [.one (.lit x)] :=
 ⟨hb,fun w S vs _ _ hG hv=>(h w S vs hv).mono fun en w' ⟨h1,h2⟩=>by subst h2;exact ⟨x,h1,Kept.refl ..,hG,by simp [retA,ARel,DRel,Rep]⟩⟩
theorem ZpH {e:Env} {f:FuncId} {args r:List D} {φ:Prop} (hb:Zcx e.P f=true) (hφ:∀ (w:World) (S:Nat->Prop) (vs:List Value),ZaE w S args vs->φ) (h:φ->Con e f args r):Con e f args r :=
 ⟨hb,fun w S vs h1 h2 h3 h4=>(h (hφ w S vs h4)).2 w S vs h1 h2 h3 h4⟩
theorem ZhY (a b:Int):Con e1 69 [.one (.lit (.int .i64 a)),.one (.lit (.int .i64 b))] [.one (.lit (.int .i64 (ZaM a b)))]:=by
 refine Zje (by kernel_rfl) fun w S vs h=>?_
 match vs,h with
 | [x,y],h =>
  obtain ⟨hx,hy,_⟩:=h;have hx:x=.int .i64 a:=hx;have hy:y=.int .i64 b:=hy;subst hx hy;exact ZlR a b w
theorem ZoT (a b:ByteArray):Con e1 70 [.one (.lit (.string a)),.one (.lit (.string b))] [.one (.lit (.int .i64 (Zbm a b)))]:=by
 refine Zje (by kernel_rfl) fun w S vs h=>?_
 match vs,h with
 | [x,y],h =>
  obtain ⟨hx,hy,_⟩:=h;have hx:x=.string a:=hx;have hy:y=.string b:=hy;subst hx hy;exact Zhp a b w
theorem ZlS (l:List Int) (hl:l.length<=1048576):Con e1 68 [.clip (l.map fun n=>[.lit (.int .i64 n)])] [.one (.lit (.int .i64 (ZaL l)))]:=by
 have rb:ZaC 1 (l.map fun n=>[C.lit (.int .i64 n)])=true:=Zbr (e:=fun n=>[C.lit (.int .i64 n)]) (n:=1) (fun _=>rfl) l;refine gI (ts:=[.slot 2]) 17389 Try.func68 ?_;refine fG @rb ?_;have F:=@rb;refine gL (ι:=Nat) [2,5,8,9,14] [] (fun x=>[(8,.d (.one (.lit (.int .i64 (x:Int)))))]) (fun x=>[]) (fun x=>x<=l.length∧ZaL l=ZaL (l.drop x)) (fun x=>l.length - x) (0) (⟨Taj _,rfl⟩) (fun x hx=>?_);clear F;obtain ⟨hi,hf⟩:=hx
 rw [hf];clear hf;by_cases hlt:x < l.length
 ·obtain ⟨n,hn⟩:∃ n,l[x]?=some n:=⟨_,Taa hlt⟩;have q1:=lT x l.length;have q4:IntKind.i64.wrap ((x:Int)+1)=(x:Int)+1:=IntWalk.i64_in _ om;rw [Zjd hn];by_cases h0:n=0
  ·subst h0;rw [if_pos rfl];refine fG (aj3 @q1 @rb @hn) ?_;have F:=@q4;refine gG ?_;exact ⟨x+1,⟨hlt,rfl⟩,gw,gw,om⟩
  ·have q2:(n=0)=False:=eq_false h0;rw [if_neg h0];exact fD (aj4 @q1 @rb @hn @q2)
 ·obtain rfl:x=l.length:=by omega
  have q1:=lF l.length l.length;rw [List.drop_length];simp only [ZaL];exact fD @q1
theorem ZjG {b:List Tm} {k:Nat} {xs:List Tm} (h:xs.length<=k):ZaS (xs.drop k) b=if b=[] then 0 else -1:=by
 rw [List.drop_eq_nil_of_le h]
 cases b with
 | nil=>simp [ZaS]
 | cons x xs=>simp [ZaS]
theorem ZjH {a:Tm} {k:Nat} {xs bs:List Tm} (ha:xs[k]?=some a) (h:bs.length<=k):ZaS (xs.drop k) (bs.drop k)=1:=by
 obtain ⟨hl,hx⟩:=Tad.1 ha;rw [List.drop_eq_nil_of_le h,List.drop_eq_getElem_cons hl];simp [ZaS]
theorem ZgY (xs bs:List Tm) (hla:xs.length<=maxLen) (hlb:bs.length<=maxLen) (h:∀ a∈xs,∀ b∈bs,Con e1 52 [.agg (Zab a),.agg (Zab b)] [.one (.lit (.int .i64 (ZaK a b)))]):Con e1 71 [.one (.sl (Zaj xs)),.one (.sl (Zaj bs)),.one (.fn 52 [])] [.one (.lit (.int .i64 (ZaS xs bs)))]:=by
 unfold maxLen at hla hlb;refine gI (ts:=[.slot 6]) 277027520455 Try.func71 ?_;refine fG @tmz ?_;have F:=@tmz;refine gL (ι:=Nat) [6,7,8,9,10,13,14,21,31] [] (fun x=>[(13,.d (.one (.lit (.int .i64 (x:Int)))))]) (fun x=>[]) (fun x=>x<=xs.length∧x<=bs.length∧ZaS xs bs=ZaS (xs.drop x) (bs.drop x)) (fun x=>xs.length - x) (0) (⟨Taj _,Taj _,rfl⟩) (fun x hx=>?_);clear F;obtain ⟨hi,hj,hf⟩:=hx;rw [hf];clear hf
 by_cases hlt:x < xs.length
 ·obtain ⟨a,ha⟩:∃ n,xs[x]?=some n:=⟨_,Taa hlt⟩;have q1:=lT x xs.length;by_cases hlt2:x < bs.length
  ·obtain ⟨b,hb⟩:∃ n,bs[x]?=some n:=⟨_,Taa hlt2⟩;have q2:((x:Int) ≥ (bs.length:Int))=False:=eq_false om;have q4:IntKind.i64.wrap ((x:Int)+1)=(x:Int)+1:=IntWalk.i64_in _ om;rw [ZjF ha hb];simp only [ZaL];refine fB (aj5 @q1 @q2 @tmz @ha @hb) ?_;refine fC @tmz (h a (Tac ha) b (Tac hb)) ?_;refine fR @tmz ?_;by_cases h0:ZaK a b=0
   ·have q3:(ZaK a b=0)=True:=eq_true h0;rw [if_pos h0,show (if ZaS (xs.drop (x+1)) (bs.drop (x+1))=0 then (0:Int) else ZaS (xs.drop (x+1)) (bs.drop (x+1)))=ZaS (xs.drop (x+1)) (bs.drop (x+1)) by split <;> simp_all];refine fG (ai @tmz @q3) ?_;have F:=@q4;refine gG ?_;exact ⟨x+1,⟨hlt,hlt2,rfl⟩,gw,gw,om⟩
   ·have q3:(ZaK a b=0)=False:=eq_false h0;rw [if_neg h0];exact fD (ai @tmz @q3)
  ·have q2:((x:Int) ≥ (bs.length:Int))=True:=eq_true om;rw [ZjH ha om];exact fD (aj4 @q1 @q2 @tmz @ha)
 ·have q1:=lF x xs.length;rw [ZjG om];by_cases h2:xs.length < bs.length
  ·have q2:=lT xs.length bs.length;rw [if_neg (by intro e;have:=congrArg List.length e;simp at this;omega)];exact fD (aj3 @q1 @q2 @tmz)
  ·have q2:=lF xs.length bs.length;rw [if_pos (by apply List.drop_eq_nil_of_le;omega)];exact fD (aj3 @q1 @q2 @tmz)
theorem Zlm {w:World} {S:Nat->Prop} {rows:List (List C)} {v:Value} (h:Rep w S (.sl rows) v):rows.length<=maxLen:=by
 simp only [Rep] at h;obtain ⟨A,n,cap,_,h1,h2,h3,_⟩:=h;omega
theorem Zjf (xs bs:List Tm) (h:∀ a∈xs,∀ b∈bs,Con e1 52 [.agg (Zab a),.agg (Zab b)] [.one (.lit (.int .i64 (ZaK a b)))]):Con e1 71 [.one (.sl (Zaj xs)),.one (.sl (Zaj bs)),.one (.fn 52 [])] [.one (.lit (.int .i64 (ZaS xs bs)))]:=by
 refine ZpH (φ:=xs.length<=maxLen∧bs.length<=maxLen) (by kernel_rfl) (fun w S vs hv=>?_) fun hφ=>ZgY xs bs hφ.1 hφ.2 h
 match vs,hv with
 | [x,y,z],hv =>
  have h1:=Zlm hv.1;have h2:=Zlm hv.2.1;rw [ZaU] at h1 h2;exact ⟨h1,h2⟩
theorem ZjI (a b:Tm) (h:∀ x∈a.args,∀ y∈b.args,Con e1 52 [.agg (Zab x),.agg (Zab y)] [.one (.lit (.int .i64 (ZaK x y)))]):Con e1 52 [.agg (Zab a),.agg (Zab b)] [.one (.lit (.int .i64 (ZaK a b)))]:=by
 obtain ⟨o,n,s,xs⟩:=a;obtain ⟨o',n',s',bs⟩:=b;simp only [Tm.args] at h;have c1:Zab (.mk o n s xs)=[.lit (.int .i64 o),.lit (.string n),.lit (.int .i64 s),.sl (Zaj xs)]:=by simp only [Zab]
 have c2:Zab (.mk o' n' s' bs)=[.lit (.int .i64 o'),.lit (.string n'),.lit (.int .i64 s'),.sl (Zaj bs)]:=by simp only [Zab]
 have e3:ZaK (.mk o n s xs) (.mk o' n' s' bs)=if ZaL [ZaM o o',Zbm n n',ZaM s s']=0 then ZaS xs bs else ZaL [ZaM o o',Zbm n n',ZaM s s']:=by
  simp only [ZaK,ZaL];by_cases h1:ZaM o o'=0
  ·by_cases h2:Zbm n n'=0
   ·by_cases h3:ZaM s s'=0
    ·simp only [h1,h2,h3,if_true];split <;> simp_all
    ·simp only [h1,h2,h3,if_true,if_false]
   ·simp only [h1,h2,if_true,if_false]
  ·simp only [h1,if_false]
 have hor:=ZlS [ZaM o o',Zbm n n',ZaM s s'] (by simp);simp only [Tbl,List.map_nil] at hor;rw [e3];refine gI (ts:=[.slot 4]) 16777279 Try.func52 ?_;refine fB (ai @c1 @c2) ?_;refine fC (ai @c1 @c2) (ZhY o o') ?_;refine fC (ai @c1 @c2) (ZoT n n') ?_;refine fC (ai @c1 @c2) (ZhY s s') ?_;refine fC (ai @c1 @c2) (hor) ?_;refine fR (ai @c1 @c2) ?_;by_cases h0:ZaL [ZaM o o',Zbm n n',ZaM s s']=0
 ·have q3:(ZaL [ZaM o o',Zbm n n',ZaM s s']=0)=True:=eq_true h0;rw [if_pos h0];refine fB (aj3 @q3 @c1 @c2) ?_;refine fC (ai @c1 @c2) (Zjf xs bs h) ?_;refine fR (ai @c1 @c2) ?_;exact fD (ai @c1 @c2)
 ·have q3:(ZaL [ZaM o o',Zbm n n',ZaM s s']=0)=False:=eq_false h0;rw [if_neg h0];exact fD (aj3 @q3 @c1 @c2)
theorem ZlT (n:Nat):∀ a b:Tm,Zay (Zab a) < n->Con e1 52 [.agg (Zab a),.agg (Zab b)] [.one (.lit (.int .i64 (ZaK a b)))]:=by
 induction n with
 | zero=>exact fun _ _ h=>om
 | succ n ih =>
  intro a b hn;refine ZjI a b fun x hx y hy=>ih x y ?_;obtain ⟨op,nm,so,args⟩:=a;simp only [Zab,Zay,Zbg] at hn;simp only [Tm.args] at hx;obtain ⟨i,hi⟩:=Tbg hx;have hi':(Zaj args)[i]?=some (Zab x):=by rw [Zbv,hi];rfl
  have h1:=ZaV hi';omega
theorem ZpI (a b:Tm):Con e1 52 [.agg (Zab a),.agg (Zab b)] [.one (.lit (.int .i64 (ZaK a b)))]:=ZlT _ a b (Tan _)
theorem Zad.mem {w:World} {S:Nat->Prop}:∀ {cs:List C} {us:List Value} {c:C},Zad w S cs us->c∈cs->∃ u,Rep w S c u
 | c::cs,u::us,x,h,hx=>by
  simp only [Zad] at h;rcases Tbd.1 hx with rfl | hx
  ·exact ⟨u,h.1⟩
  ·exact Zad.mem h.2 hx
 | [],_,_,_,hx=>by simp at hx
 | _::_,[],_,h,_=>by simp [Zad] at h
theorem ZpJ {e:Env} {f:FuncId} {cs:List C} {rows:List (List C)} {post r:List D} (hb:Zcx e.P f=true) (hc:.sl rows∈cs) (h:rows.length<=maxLen->Con e f (.agg cs::post) r):Con e f (.agg cs::post) r:=⟨hb,fun w S vs hS hE hG hv=>by
 match vs,hv with
 | v::vs,⟨h1,h2⟩ =>
  have h1':DRel w S (.agg cs) v:=h1;obtain ⟨us,_,hu⟩:=h1';obtain ⟨u,hr⟩:=hu.mem hc;obtain ⟨A,n,cap,_,hn,hl,hm⟩:=hr.form;exact (h om).2 w S _ hS hE hG ⟨h1,h2⟩⟩
theorem ZpK {n n':ByteArray} (h:n≠n'):(n.toList==n'.toList)=false:=by
 simp only [beq_eq_false_iff_ne,ne_eq,ByteArray.toList_eq];intro e;apply h;obtain ⟨⟨la⟩⟩:=n;obtain ⟨⟨lb⟩⟩:=n';simp at e;rw [e]
theorem ZjJ {x y:List Tm} {i:Nat} {a b:Tm} (ha:x[i]?=some a) (hb:y[i]?=some b):ZaS (x.drop i) (y.drop i)=if ZaK a b=0 then ZaS (x.drop (i+1)) (y.drop (i+1)) else ZaK a b:=by
 obtain ⟨h1,rfl⟩:=Tad.1 ha;obtain ⟨h2,rfl⟩:=Tad.1 hb;rw [List.drop_eq_getElem_cons h1,List.drop_eq_getElem_cons h2];simp only [ZaS,ZaL];split
 ·split <;> simp_all
 ·rfl
theorem Zhq (a b:Tm) (ha:okTm a) (h:∀ x∈a.args,okTm x->∀ y∈b.args,Con e0 48 [.agg (Zab x),.agg (Zab y)] [.one (.lit (.int .i64 (ZaK x y)))]):Con e0 48 [.agg (Zab a),.agg (Zab b)] [.one (.lit (.int .i64 (ZaK a b)))]:=by
 obtain ⟨o,n,s,xs⟩:=a;obtain ⟨o',n',s',ys⟩:=b;simp only [Tm.args] at h;simp only [okTm] at ha;have c1:Zab (.mk o n s xs)=[.lit (.int .i64 o),.lit (.string n),.lit (.int .i64 s),.sl (Zaj xs)]:=by simp only [Zab]
 have c2:Zab (.mk o' n' s' ys)=[.lit (.int .i64 o'),.lit (.string n'),.lit (.int .i64 s'),.sl (Zaj ys)]:=by simp only [Zab]
 rw [c1,c2];refine ZpJ (rows:=Zaj xs) (by kernel_rfl) (by simp) fun hm1=>?_;unfold maxLen at hm1;rw [ZaU] at hm1;by_cases ho:o=o';rotate_left
 ·have q1:(o=o')=False:=eq_false ho;have hz:ZaM o o'≠0:=fun e=>ho (ZcA.1 e);rw [show ZaK (.mk o n s xs) (.mk o' n' s' ys)=ZaM o o' by simp only [ZaK,ZaL,if_neg hz]];by_cases hl:o < o'
  ·have q2:(o < o')=True:=eq_true hl;rw [show ZaM o o'=-1 by unfold ZaM;rw [if_pos hl]];refine gI (ts:=[.slot 4]) 304601861798674884003967 Try.func48 ?_;exact fD (ai @q1 @q2)
  ·have q2:(o < o')=False:=eq_false hl;rw [show ZaM o o'=1 by unfold ZaM;rw [if_neg hl,if_pos om]];refine gI (ts:=[.slot 4]) 304601861798674884003967 Try.func48 ?_;exact fD (ai @q1 @q2)
 subst ho;have hz0:ZaM o o=0:=ZcA.2 rfl;by_cases hn:n=n';rotate_left
 ·have q1:=ZpK hn;have hz:Zbm n n'≠0:=fun e=>hn (Zes.1 e);have hlq:Op.bytesLess n.toList n'.toList=decide (Zbm n n'=-1):=by rw [ByteArray.toList_eq,ByteArray.toList_eq];exact ZdH _ _
  rw [show ZaK (.mk o n s xs) (.mk o n' s' ys)=Zbm n n' by simp only [ZaK,ZaL,if_pos hz0,if_neg hz]];rcases Zjc n n' with e | e | e
  ·have q2:Op.bytesLess n.toList n'.toList=true:=by rw [hlq,e];rfl
   rw [e];refine gI (ts:=[.slot 4]) 304601861798674884003967 Try.func48 ?_;exact fD (ai @q1 @q2)
  ·exact absurd e hz
  ·have q2:Op.bytesLess n.toList n'.toList=false:=by rw [hlq,e];rfl
   rw [e];refine gI (ts:=[.slot 4]) 304601861798674884003967 Try.func48 ?_;exact fD (ai @q1 @q2)
 subst hn;have hz1:Zbm n n=0:=Zes.2 rfl;by_cases hs:s=s';rotate_left
 ·have q1:(s=s')=False:=eq_false hs;have hz:ZaM s s'≠0:=fun e=>hs (ZcA.1 e);rw [show ZaK (.mk o n s xs) (.mk o n s' ys)=ZaM s s' by simp only [ZaK,ZaL,if_pos hz0,if_pos hz1,if_neg hz]];by_cases hl:s < s'
  ·have q2:(s < s')=True:=eq_true hl;rw [show ZaM s s'=-1 by unfold ZaM;rw [if_pos hl]];refine gI (ts:=[.slot 4]) 304601861798674884003967 Try.func48 ?_;exact fD (aj3 @q1 @q2 @beq_self_eq_true.{0})
  ·have q2:(s < s')=False:=eq_false hl;rw [show ZaM s s'=1 by unfold ZaM;rw [if_neg hl,if_pos om]];refine gI (ts:=[.slot 4]) 304601861798674884003967 Try.func48 ?_;exact fD (aj3 @q1 @q2 @beq_self_eq_true.{0})
 subst hs;have hz2:ZaM s s=0:=ZcA.2 rfl
 rw [show ZaK (.mk o n s xs) (.mk o n s ys)=ZaS xs ys by
  simp only [ZaK,ZaL,if_pos hz0,if_pos hz1,if_pos hz2];split <;> simp_all]
 refine gI (ts:=[.slot 4]) 304601861798674884003967 Try.func48 ?_;refine fG (@beq_self_eq_true.{0}) ?_;have F:=@e0P;refine gL (ι:=Nat) [4,5,6,48,63] [] (fun i=>[(5,A.d (.one (.lit (.int .i64 i))))]) (fun i=>[]) (fun i=>i<=xs.length∧i<=ys.length∧ZaS xs ys=ZaS (xs.drop i) (ys.drop i)) (fun i=>xs.length - i) (0) (⟨Taj _,Taj _,rfl⟩) (fun i hi=>?_);clear F;obtain ⟨hi1,hi2,he⟩:=hi;have l1:=ZaU xs;have l2:=ZaU ys
 by_cases h1:i < xs.length;rotate_left
 ·obtain rfl:i=xs.length:=by omega
  have q1:=lF xs.length xs.length;rw [List.drop_length] at he;by_cases h2:xs.length < ys.length
  ·have q2:=lT xs.length ys.length;rw [he,List.drop_eq_getElem_cons h2];simp only [ZaS];exact fD (aj3 @q1 @q2 @tmz)
  ·have q2:=lF xs.length ys.length;have q3:((xs.length:Int) > (ys.length:Int))=False:=eq_false om;rw [he,List.drop_of_length_le om];simp only [ZaS];exact fD (aj4 @q1 @q2 @q3 @tmz)
 have q1:=lT i xs.length;by_cases h2:i < ys.length;rotate_left
 ·obtain rfl:i=ys.length:=by omega
  have q2:=lF ys.length ys.length;have q3:=lF xs.length ys.length;have q4:((xs.length:Int) > (ys.length:Int))=True:=eq_true om;rw [he,List.drop_length,List.drop_eq_getElem_cons h1];simp only [ZaS];exact fD (aj5 @q1 @q2 @q3 @q4 @tmz)
 have q2:=lT i ys.length;obtain ⟨x,hx⟩:∃ x,xs[i]?=some x:=⟨_,Taa h1⟩;obtain ⟨y,hy⟩:∃ y,ys[i]?=some y:=⟨_,Taa h2⟩;have cC:=h x (Tac hx) (Zcd.mem ha.2.2.2 (Tac hx)) y (Tac hy);rw [ZjJ hx hy] at he;have hwi:=Zbu (k:=i) om;refine fN 16 (aj3 @q1 @q2 @tmz) ?_;refine gB ?_;refine fC (aj6 @hx @hy @h1 @h2 @Zbs @tmz) (cC) ?_;by_cases h0:ZaK x y=0
 ·have q5:(ZaK x y=0)=True:=eq_true h0;rw [if_pos h0] at he;refine fR @e0P ?_;have F:=ai @q5 @hwi;refine gG ?_;exact ⟨i+1,⟨h1,h2,he⟩,gw,gw,om⟩
 ·have q5:(ZaK x y=0)=False:=eq_false h0;rw [if_neg h0] at he;rw [he];refine fR @e0P ?_;exact fD @q5
theorem Zia (n:Nat):∀ a b:Tm,Zay (Zab a) < n->okTm a->Con e0 48 [.agg (Zab a),.agg (Zab b)] [.one (.lit (.int .i64 (ZaK a b)))]:=by
 induction n with
 | zero=>exact fun _ _ h=>absurd h om
 | succ n ih =>
  intro a b hn ha;refine Zhq a b ha fun x hx hox y hy=>ih x y ?_ hox;obtain ⟨op,nm,so,args⟩:=a;simp only [Zab,Zay,Zbg] at hn;simp only [Tm.args] at hx;obtain ⟨i,hi⟩:=Tbg hx;have hi':(Zaj args)[i]?=some (Zab x):=by rw [Zbv,hi];rfl
  have h1:=ZaV hi';omega
theorem ZjK {a b:Tm} (ha:okTm a) (hk:okTm b):Con e0 48 [.agg (Zab a),.agg (Zab b)] [.one (.lit (.int .i64 (ZaK a b)))]:=Zia _ a b (Tan _) ha
def ZgZ (l:List Nat) (p:Int × Int):List Nat:=l.set p.1.toNat (l.getD p.1.toNat 0 ||| l.getD p.2.toNat 0)
def Zry (subs:List (Int × Int)) (l:List Nat):List Nat:=subs.foldl ZgZ l
def ZoU (subs:List (Int × Int)):Nat->List Nat->List Nat
 | 0,l=>l
 | k+1,l=>Zry subs (ZoU subs k l)
def up0 (n:Nat):List Nat:=(List.range n).map (2 ^ ·)
def up (s:Srt):List Nat:=ZoU s.subs s.names.length (up0 s.names.length)
def Zfw (n:Nat) (subs:List (Int × Int)):Prop:=∀ p∈subs,0<=p.1∧p.1 < n∧0<=p.2∧p.2 < n
def UpOk (n:Nat) (l:List Nat):Prop:=l.length=n∧∀ x∈l,x < 2 ^ n
theorem UpOk.get {n:Nat} {l:List Nat} (h:UpOk n l) {i:Nat} (hi:i < n):l[i]?=some (l.getD i 0)∧l.getD i 0 < 2 ^ n:=by
 have hl:i < l.length:=by rw [h.1];exact hi
 have e:l[i]?=some l[i]:=Taa hl;have e2:l.getD i 0=l[i]:=by simp [List.getD,e]
 rw [e2];exact ⟨e,h.2 _ (List.getElem_mem hl)⟩
theorem UpOk.sub {n:Nat} {l:List Nat} (h:UpOk n l) {p:Int × Int} (hp:0<=p.1∧p.1 < n∧0<=p.2∧p.2 < n):UpOk n (ZgZ l p):=by
 refine ⟨by unfold ZgZ;rw [List.length_set];exact h.1,fun x hx=>?_⟩;unfold ZgZ at hx;rcases List.mem_or_eq_of_mem_set hx with hx | rfl
 ·exact h.2 x hx
 ·exact Nat.or_lt_two_pow (h.get (i:=p.1.toNat) om).2 (h.get (i:=p.2.toNat) om).2
theorem UpOk.foldl {n:Nat}:∀ {subs:List (Int × Int)} {l:List Nat},UpOk n l->Zfw n subs->UpOk n (subs.foldl ZgZ l)
 | [],l,h,_=>h
 | p::ps,l,h,hs=>UpOk.foldl (subs:=ps) (h.sub (hs p (by simp))) (fun q hq=>hs q (by simp [hq]))
theorem Zfw.take {n:Nat} {subs:List (Int × Int)} (h:Zfw n subs) (k:Nat):Zfw n (subs.take k):=fun p hp=>h p (List.mem_of_mem_take hp)
def ZoV (l:List ByteArray) (s:ByteArray):Bool:=l.any (fun t=>s.toList==t.toList)
def Zr4 (n:Int):Bool:=decide (48<=n∧n<=57) || decide (65<=n∧n<=90) || decide (97<=n∧n<=122)
def ZoW (s:ByteArray) (i:Nat):Int:=if h:i < s.size then (s[i].toNat:Int) else 0
def ZpL (s:ByteArray) (k:Nat):Bool:=(List.range' k (s.size - k)).all (fun i=>Zr4 (ZoW s i) && !(i==0 && decide (ZoW s i<=57)))
def Zjg (s:ByteArray):Bool:=decide (1<=s.size∧s.size<=12) && !(s.toList==[105,102]) && !(s.toList==[97,110,100]) && ZpL s 0
def Zr5 (n:Nat) (p:Int × Int):Prop:=0<=p.1∧p.1 < n∧0<=p.2∧p.2 < n∧p.1≠p.2
def ZrM (names:List ByteArray) (i:Nat):Prop:=∀ x,names[i]?=some x->Zjg x=true∧ZoV (names.take i) x=false
def ZrN (u:List Nat) (i k:Nat):Prop:=¬ (i≠k∧(u.getD i 0).testBit k=true∧(u.getD k 0).testBit i=true)
structure SortsOk (s:Srt):Prop where
 n1:1<=s.names.length
 n8:s.names.length<=8
 m16:s.subs.length<=16
 names:∀ i,i < s.names.length->ZrM s.names i
 subs:∀ p∈s.subs,Zr5 s.names.length p
 pairs:∀ i k,i < s.names.length->k < s.names.length->ZrN (up s) i k
def kSub (l:List Nat) (p:Int × Int):List Nat:=(l.set p.1.toNat (min (l.getD p.1.toNat 0) (l.getD p.2.toNat 0))).set p.2.toNat (min (l.getD p.1.toNat 0) (l.getD p.2.toNat 0))
def Zrd (subs:List (Int × Int)):Nat->List Nat->List Nat
 | 0,l=>l
 | k+1,l=>subs.foldl kSub (Zrd subs k l)
def Zr6 (s:Srt):List Nat:=Zrd s.subs s.names.length (List.range s.names.length)
def KOk (n:Nat) (l:List Nat):Prop:=l.length=n∧∀ x∈l,x < n
theorem KOk.get {n:Nat} {l:List Nat} (h:KOk n l) {i:Nat} (hi:i < n):l[i]?=some (l.getD i 0)∧l.getD i 0 < n:=by
 have hl:i < l.length:=by rw [h.1];exact hi
 have e:l[i]?=some l[i]:=Taa hl;have e2:l.getD i 0=l[i]:=by simp [List.getD,e]
 rw [e2];exact ⟨e,h.2 _ (List.getElem_mem hl)⟩
theorem KOk.sub {n:Nat} {l:List Nat} (h:KOk n l) {p:Int × Int} (hp:0<=p.1∧p.1 < n∧0<=p.2∧p.2 < n):KOk n (kSub l p):=by
 refine ⟨by unfold kSub;rw [List.length_set,List.length_set];exact h.1,fun x hx=>?_⟩;have hm:min (l.getD p.1.toNat 0) (l.getD p.2.toNat 0) < n:=by
  have:=(h.get (i:=p.1.toNat) om).2;omega
 unfold kSub at hx;rcases List.mem_or_eq_of_mem_set hx with hx | rfl
 ·rcases List.mem_or_eq_of_mem_set hx with hx | rfl
  ·exact h.2 x hx
  ·exact hm
 ·exact hm
theorem KOk.foldl {n:Nat}:∀ {subs:List (Int × Int)} {l:List Nat},KOk n l->Zfw n subs->KOk n (subs.foldl kSub l)
 | [],l,h,_=>h
 | p::ps,l,h,hs=>KOk.foldl (subs:=ps) (h.sub (hs p (by simp))) (fun q hq=>hs q (by simp [hq]))
theorem UpOk.or {n:Nat} {l:List Nat} (h:UpOk n l) {k i:Nat} (hk:k < n) (hi:i < n):UpOk n (l.set k (l.getD k 0 ||| 2 ^ i)):=by
 refine ⟨by rw [List.length_set];exact h.1,fun x hx=>?_⟩;rcases List.mem_or_eq_of_mem_set hx with hx | rfl
 ·exact h.2 x hx
 ·exact Nat.or_lt_two_pow (h.get hk).2 (Nat.pow_lt_pow_right om hi)
def kd (s:Srt) (k:Int):Nat:=(Zr6 s).getD k.toNat 0
structure DeclOk (s:Srt) (f d:Dcl):Prop where
 len:d.args.length=f.args.length
 res:0<=d.res∧d.res < s.names.length
 args:∀ k∈d.args,0<=k∧k < s.names.length
 kres:kd s d.res=kd s f.res
 kargs:∀ (i:Nat) (a b:Int),d.args[i]?=some a->f.args[i]?=some b->kd s a=kd s b
structure DeclsOk (s:Srt) (o:Opr):Prop where
 len1:1<=o.decls.length
 len4:o.decls.length<=4
 ar:∀ f,o.decls[0]?=some f->f.args.length<=3
 all:∀ f,o.decls[0]?=some f->∀ d∈o.decls,DeclOk s f d
structure AxOk (g:Sgn) (o:Opr):Prop where
 lo:0<=o.unit
 hi:o.unit<=g.ops.length
 two:(o.assoc=true∨o.comm=true∨o.unit≠0)->∀ d,o.decls[0]?=some d->d.args.length=2∧∀ a b,d.args[0]?=some a->d.args[1]?=some b->kd g.sorts a=kd g.sorts b∧((o.assoc=true∨o.unit≠0)->kd g.sorts a=kd g.sorts d.res) ∧
  (o.unit≠0->∀ (p:Opr) (u:Dcl),g.ops[o.unit.toNat - 1]?=some p->p.decls[0]?=some u->u.args.length=0∧kd g.sorts u.res=kd g.sorts d.res)
theorem DeclsOk.first {s:Srt} {o:Opr} (h:DeclsOk s o):∃ d,o.decls[0]?=some d∧DeclOk s d d:=by
 have h1:=h.len1;exact ⟨o.decls[0],Taa om,h.all _ (Taa om) _ (List.getElem_mem _)⟩
def Zrz (l:List Opr):List ByteArray:=l.map (·.name)
structure SgnOk (g:Sgn):Prop where
 sorts:SortsOk g.sorts
 len:g.ops.length<=14
 names:∀ (i:Nat) (o:Opr),g.ops[i]?=some o->Zjg o.name=true∧ZoV (Zrz (g.ops.take i)) o.name=false
 decls:∀ o∈g.ops,DeclsOk g.sorts o
 axs:∀ o∈g.ops,AxOk g o
section
variable {s:ByteArray}
end
section
variable {l:List Nat}
end
section
variable {s:Srt}
end
section
variable {s:Srt}
end
section
variable {s:Srt}
end
section
variable {s:Srt}
end
section
variable {g:Sgn} {o:Opr}
end
section
variable {e:Env} {σ:St} {o:Oper} {K:St->Prop}
theorem ZlU {t t' el:TypeId} {x:Operand} (ho:o.op=.binOp .eql t x (.const (.slice none 0 0)) t') (ht:e.P.underlying t=some (.slice el)) {rows:List (List C)} (hx:evA σ.s x=.d (.one (.sl rows))) (hK:∀ b:Bool,(b=true->rows=[])->K ⟨setA σ.s o.dst (.d (.one (.lit (.bool b)))),σ.m⟩):Zby e o σ K:=by
 intro he U w0 S0 nt a w Q hd ⟨S,L,h1⟩;have hx':=h1.eval x;rw [hx] at hx';simp only [ARel,DRel,Rep] at hx';obtain ⟨A,n,cap,hv,hn,_,_,hp⟩:=hx';unfold Oper.wp;have hrun:(execOp a.eval o).run e.P w=.ok (.value (.bool A.isNone)) w:=by
  have hc:a.eval (.const (.slice none 0 0))=.slice none 0 0:=rfl;simp only [execOp,ho,hv,hc,eqGuard];simp [Result.andThen];rw [Lib.run_eql_slice_nil w t el A n cap 0 0 ht]
 rw [hrun,Oper.upon_value];refine ⟨_,hK A.isNone (fun hb=>?_),S,L,h1.put (by simp [ARel,DRel,Rep]) hd⟩;rcases Nat.eq_zero_or_pos n with h0 | h0
 ·exact Tao om
 ·obtain ⟨b,off,rfl,_⟩:=hp h0
  cases hb
end
section
variable {e:Env} {K:St->Prop} {ds:List (Option Nat)} {os:List Oper} {s:List (Nat × A)} {m:List (Nat × Bk)}
theorem gNil {d t t' ty:Nat} {p:String} {ed:Array Edge} {x:Operand} {rows:List (List C)} {el:TypeId} (ht:e.P.underlying t=some (.slice el)) (hK:∀ b:Bool,(b=true->rows=[])->Runs e ds 0 os ⟨(d,.d (.one (.lit (.bool b))))::s,m⟩ K)
  (hx:evA s x=.d (.one (.sl rows)):=by exact sfx):Runs e ds 0 (⟨some d,.binOp .eql t x (.const (.slice none 0 0)) t',ty,p,ed,none⟩::os) ⟨s,m⟩ K :=
 ZlO rfl (ZlU rfl ht hx hK)
end
section
variable {s:Srt}
end
section
variable {g:Sgn}
end
def Zr7 (g:Sgn) (t:Tm):Prop:=t.op=-1∧Zjg t.name=true∧0<=t.sort∧t.sort < g.sorts.names.length∧t.args=[]
structure AppOk (g:Sgn) (t:Tm) (o:Opr) (d:Dcl):Prop where
 lo:0<=t.op
 at':g.ops[t.op.toNat]?=some o
 fst:o.decls[0]?=some d
 nm:t.name=ByteArray.empty
 so:t.sort=0
 asc:o.assoc=true->2<=t.args.length∧t.args.length<=7
 nas:o.assoc=false->t.args.length=d.args.length
def ZoX (g:Sgn) (t:Tm):Prop:=Zr7 g t∨∃ o d,AppOk g t o d
theorem SgnOk.first {g:Sgn} (h:SgnOk g) {i:Nat} {o:Opr} (ho:g.ops[i]?=some o):∃ d,o.decls[0]?=some d∧(0:Int)<=d.res∧d.res < (g.sorts.names.length:Int)∧∀ k:Int,k∈d.args->0<=k∧k < (g.sorts.names.length:Int):=by
 have hm:=Tac ho;obtain ⟨d,hd,hD⟩:=(h.decls o hm).first;exact ⟨d,hd,hD.res.1,hD.res.2,hD.args⟩
theorem AppOk.op {g:Sgn} {t:Tm} {o:Opr} {d:Dcl} (h:AppOk g t o d):t.op≠-1:=by have:=h.lo;omega
section
variable {g:Sgn} {mc:C}
end
theorem ZoX.app {g:Sgn} {t:Tm} (h:ZoX g t) (hop:t.op≠-1):∃ o d,AppOk g t o d:=by
 rcases h with h | h
 ·exact absurd h.1 hop
 ·exact h
section
variable {g:Sgn} {mc:C}
end
mutual
theorem Ze0:∀ (a:Tm),ZaK a a=0
 | .mk o n s x=>by simp only [ZaK,ZaL,ZcA.2 (rfl:o=o),ZcA.2 (rfl:s=s),Zes.2 (rfl:n=n),Zf8 x,if_true]
theorem Zf8:∀ (a:List Tm),ZaS a a=0
 | []=>rfl
 | x::xs=>by simp only [ZaS,ZaL,Ze0 x,Zf8 xs,if_true]
end
theorem ZlV {a b:Tm} (ha:okTm a) (hb:okTm b):Con e0 23 [.agg (Zab a),.agg (Zab b)] [.one (.lit (.bool (decide (ZaK a b=0))))]:=by
 refine gI 31 Try.func23 ?_;refine fB @tmz ?_;refine fC @tmz (ZjK ha hb) ?_;refine fR @tmz ?_;exact fT @tmz
section
variable {g:Sgn}
end
def tw2 (a:Alg) (i:Nat) (x y:Int):Int:=(a.tables.getD i []).getD (x * a.size+y).toNat 0
def Inz (a:Alg) (x:Int):Prop:=0<=x∧x < a.size
structure Tab2 (a:Alg) (i:Nat):Prop where
 lo:1<=a.size
 hi:a.size<=4
 tab:∃ l,a.tables[i]?=some l∧l.length=a.size.toNat * a.size.toNat∧∀ x∈l,Inz a x
theorem Tab2.get {a:Alg} {i:Nat} (h:Tab2 a i) {x y:Int} (hx:Inz a x) (hy:Inz a y):∃ l,a.tables[i]?=some l∧IntKind.i64.wrap (x * a.size)=x * a.size∧IntKind.i64.wrap (x * a.size+y)=x * a.size+y∧0<=x * a.size+y∧l[(x * a.size+y).toNat]?=some (tw2 a i x y)∧Inz a (tw2 a i x y):=by
 obtain ⟨l,h1,h2,h3⟩:=h.tab;have hlo:=h.lo;have hhi:=h.hi;obtain ⟨x0,x1⟩:=hx;obtain ⟨y0,y1⟩:=hy;have m0:0<=x * a.size:=Int.mul_nonneg x0 om;have m1:x * a.size+a.size<=a.size * a.size:=by
  have:(x+1) * a.size<=a.size * a.size:=Int.mul_le_mul_of_nonneg_right om om;rw [Int.add_mul] at this;omega
 have m2:a.size * a.size<=16:=by
  have:=Int.mul_le_mul hhi hhi om om;omega
 have hl:(x * a.size+y).toNat < l.length:=by
  rw [h2];have e:((a.size.toNat * a.size.toNat:Nat):Int)=a.size * a.size:=by rw [Int.natCast_mul,Int.toNat_of_nonneg om]
  omega
 have e1:tw2 a i x y=l[(x * a.size+y).toNat]:=by
  unfold tw2;simp [List.getD_eq_getElem?_getD,h1,Taa hl]
 refine ⟨l,h1,ZlK rfl om om,ZlK rfl om om,om,?_,?_⟩
 ·rw [e1];exact Taa hl
 ·rw [e1];exact h3 _ (List.getElem_mem hl)
theorem Zjh (p q:Int):ZaL [p,q]=if p=0 then q else p:=by
 simp only [ZaL];split
 ·split <;> simp_all
 ·rfl
theorem ZrO (p q r s:Int):ZaL [p,q,r,s]=ZaL [p,ZaL [q,ZaL [r,s]]]:=by
 simp only [Zjh,ZaL];by_cases h1:p=0 <;> by_cases h2:q=0 <;> by_cases h3:r=0 <;> by_cases h4:s=0 <;> simp [h1,h2,h3,h4]
theorem Zc5 (p q:Int):ZaL [-p,-q]=-ZaL [p,q]:=by
 simp only [Zjh];by_cases h:p=0
 ·simp [h]
 ·have:¬ -p=0:=om;simp [h,this]
theorem Ze1 (a b:Int):ZaM b a=-ZaM a b:=by
 unfold ZaM;by_cases h1:a < b <;> by_cases h2:b < a <;> simp only [h1,h2,if_true,if_false] <;> omega
theorem Zf9 (x y:UInt8) (xs ys:List UInt8):Lib.compareBytes (x::xs) (y::ys)=ZaL [ZaM x.toNat y.toNat,Lib.compareBytes xs ys]:=by
 rw [Zjh];simp only [Lib.compareBytes,ZaM,UInt8.lt_iff_toNat_lt];by_cases h1:x.toNat < y.toNat
 ·have:((x.toNat:Int) < y.toNat):=om;simp [h1,this]
 ·have h1':¬ ((x.toNat:Int) < y.toNat):=om;by_cases h2:y.toNat < x.toNat
  ·have:((y.toNat:Int) < x.toNat):=om;simp [h1,h2,h1',this]
  ·have:¬ ((y.toNat:Int) < x.toNat):=om;simp [h1,h2,h1',this]
theorem ZhZ:∀ (a b:List UInt8),Lib.compareBytes b a=-Lib.compareBytes a b
 | [],[]=>rfl
 | [],_::_=>rfl
 | _::_,[]=>rfl
 | x::xs,y::ys=>by rw [Zf9,Zf9,Ze1,ZhZ xs ys,Zc5]
mutual
theorem Zh0:∀ (a b:Tm),ZaK b a=-ZaK a b
 | .mk o n s a,.mk o' n' s' a'=>by
  simp only [ZaK,ZrO];rw [Ze1 o o',Ze1 s s',Zg0 a a',show Zbm n' n=-Zbm n n' from ZhZ _ _,Zc5,Zc5,Zc5]
theorem Zg0:∀ (a b:List Tm),ZaS b a=-ZaS a b
 | [],[]=>by simp [ZaS]
 | [],_::_=>by simp [ZaS]
 | _::_,[]=>by simp [ZaS]
 | x::xs,y::ys=>by
  simp only [ZaS];rw [Zh0 x y,Zg0 xs ys,Zc5]
end
def Asc (l:List Tm):Prop:=l.Pairwise fun a b=>ZaK a b < 0
theorem Asc.ext {l l':List Tm} (h:Asc l) (h':Asc l') (hm:∀ t,t∈l ↔ t∈l'):l=l':=by
 induction l generalizing l' with
 | nil =>
  cases l' with
  | nil=>rfl
  | cons y ys=>exact absurd ((hm y).2 (by simp)) (by simp)
 | cons x xs ih =>
  cases l' with
  | nil=>exact absurd ((hm x).1 (by simp)) (by simp)
  | cons y ys =>
   have h1:=List.pairwise_cons.1 h;have h2:=List.pairwise_cons.1 h';have e:x=y:=by
    rcases Tbd.1 ((hm x).1 (by simp)) with e | hx
    ·exact e
    ·rcases Tbd.1 ((hm y).2 (by simp)) with e | hy
     ·exact e.symm
     ·have a1:=h1.1 y hy;have a2:=h2.1 x hx;rw [Zh0 x y] at a2;omega
   subst e;refine congrArg (x::·) (ih h1.2 h2.2 fun t=>⟨fun ht=>?_,fun ht=>?_⟩)
   ·rcases Tbd.1 ((hm t).1 (Tal _ ht)) with e | h3
    ·subst e;have:=h1.1 t ht;rw [Ze0] at this;omega
    ·exact h3
   ·rcases Tbd.1 ((hm t).2 (Tal _ ht)) with e | h3
    ·subst e;have:=h2.1 t ht;rw [Ze0] at this;omega
    ·exact h3
structure TabN (z:Int) (n:Nat) (ac:Bool) (l:List Int):Prop where
 lo:1<=z
 hi:z<=4
 len:l.length=z.toNat ^ n
 all:∀ x∈l,0<=x∧x < z
 le3:n<=3
 as2:ac=true->n=2
def In0 (z x:Int):Prop:=0<=x∧x < z
theorem ZrA {z:Int} (h:1<=z) (n:Nat):((z.toNat ^ n:Nat):Int)=z ^ n:=by
 rw [Int.natCast_pow,Int.toNat_of_nonneg om]
theorem TabN.get {z:Int} {n:Nat} {ac:Bool} {l:List Int} (h:TabN z n ac l) {k:Int} (h0:0<=k) (h1:k < z ^ n):l[k.toNat]?=some (l.getD k.toNat 0)∧In0 z (l.getD k.toNat 0):=by
 have hl:k.toNat < l.length:=by
  have:=ZrA h.lo n;have e:=h.len;omega
 rw [List.getD_eq_getElem?_getD,Taa hl];exact ⟨rfl,h.all _ (List.getElem_mem hl)⟩
structure Wt where
 const:Int
 coefs:List Int
section
variable {g:Sgn} {ws:List Wt} {vs:List Tm} {t:Tm} {o:Opr} {d:Dcl}
end
section
variable {g:Sgn} {ws:List Wt}
end
section
variable {f g:Tm->Int} {vs:List Tm}
end
section
variable {g:Sgn}
end
section
variable {g:Sgn}
end
section
variable {e:Env} {U:Nat->Prop} {w0:World} {S0:Nat->Prop} {nt:Nat} {σ:St} {a:Act} {w:World} {S:Nat->Prop} {L:Lay}
end
section
variable {e:Env} {σ:St} {o:Oper} {K:St->Prop}
end
theorem Zji (a b:Tm):Con e0 28 [.agg (Zab a),.agg (Zab b)] [.one (.lit (.bool (decide (ZaK a b=0))))]:=by
 refine gI (ts:=[.slot 4]) 31 Try.func28 ?_;refine fB @tmz ?_;refine fC @tmz (Zr1 (ZpI a b)) ?_;refine fR @tmz ?_;exact fD @tmz
def Zhr (P:Program) (s d:TypeId):Bool:=match P.underlying s,P.underlying d with
 | some (.slice e),some .string=>match P.underlying e with
  | some (.int .u8)=>true
  | _=>false
 | _,_=>false
def ZeG (b:Int):ByteArray:=ByteArray.empty.push (UInt8.ofNat b.toNat)
section
variable {e:Env} {σ:St} {o:Oper} {K:St->Prop}
theorem ZoY {s d:TypeId} {x:Operand} {b:Int} (ho:o.op=.convert s d x) (hx:evA σ.s x=.d (.clip [[.lit (.int .u8 b)]])) (ht:Zhr e.P s d=true) (hK:K ⟨setA σ.s o.dst (.d (.one (.lit (.string (ZeG b))))),σ.m⟩):Zby e o σ K:=by
 intro he U w0 S0 nt a w Q hd ⟨S,L,h⟩;refine Oper.wp_mono (fun a' w' hs=>⟨_,hK,hs⟩) (ZdK h hd (ZaD fun w S L ρv hC hr=>?_));have hx':=hr x (by simp [ho,Op.operands]);rw [hx] at hx';obtain ⟨⟨A,n,cap,hv,hn,_,_,hb⟩,_⟩:=hx';simp only [Tag,Tak,Nat.zero_add] at hn;subst hn;obtain ⟨g,off,rfl,_,_,hrow⟩:=hb (by decide);simp only [Zas,Zam,Rep,and_true] at hrow;obtain ⟨u,hc,rfl⟩:=hrow;have hl:=run_loadCells_list (P:=e.P) w ⟨g,off,none⟩ [.int .u8 b] (fun j u hj=>by
  cases j with
  | zero=>simp at hj;subst hj;rw [Addr.add_at];exact hc
  | succ j=>simp at hj)
 unfold Zhr at ht;split at ht
 ·rename_i e1 h1 h2;split at ht
  ·rename_i h3;refine ⟨.string (ZeG b),?_,by simp [ARel,DRel,Rep]⟩;simp only [Tag,Tak,Nat.zero_add] at hl;simp [execOp,ho,hv,convert,underlying,h1,h2,h3,Conv.bytesToString,hl,ZeG,Result.andThen]
  ·cases ht
 ·cases ht
end
theorem gY {e:Env} {K:St->Prop} {ds:List (Option Nat)} {os:List Oper} {d t1 t2 ty:Nat} {p:String} {ed:Array Edge} {x:Operand} {s:List (Nat × A)} {m:List (Nat × Bk)} {b:Int} (hK:Runs e ds 0 os ⟨(d,.d (.one (.lit (.string (ZeG b)))))::s,m⟩ K)
  (hx:evA s x=.d (.clip [[.lit (.int .u8 b)]]):=by exact snx) (ht:Zhr e.P t1 t2=true:=by kernel_rfl):Runs e ds 0 (⟨some d,.convert t1 t2 x,ty,p,ed,none⟩::os) ⟨s,m⟩ K:=by
 simp only [Runs] at hK ⊢;exact ZdM rfl (ZoY (o:=⟨some d,.convert t1 t2 x,ty,p,ed,none⟩) rfl hx ht hK)
def dig (n:Nat):ByteArray:=ZeG (IntKind.u8.wrap (IntKind.i64.wrap (48+(n:Int).tmod 10)))
def txtL (n:Nat) (acc:ByteArray):ByteArray:=if h:n=0 then acc else txtL (n / 10) (dig n++acc)
termination_by n
decreasing_by omega
def txt (k:Int):ByteArray:=if k<=0 then ⟨#[109,48]⟩ else ⟨#[109]⟩++txtL k.toNat ByteArray.empty
theorem ZrP (acc:ByteArray):txtL 0 acc=acc:=by rw [txtL];simp
theorem ZrQ {n:Nat} (h:n≠0) (acc:ByteArray):txtL n acc=txtL (n / 10) (dig n++acc):=by rw [txtL];simp [h]
theorem Zjj (n:Nat):(dig n).size=1:=rfl
theorem Zbn (k:Int) (hk:k<=1000000000) (hk0:0<=k):Con e0 45 [.one (.lit (.int .i64 k))] [.one (.lit (.string (txt k)))]:=by
 by_cases h0:k<=0
 ·have h:txt k=⟨#[109,48]⟩:=by unfold txt;rw [if_pos h0]
  have q1:(k<=0)=True:=eq_true h0;rw [h];refine gI (ts:=[.slot 2]) 173 Try.func45 ?_;exact fD @q1
 ·have h:txt k=⟨#[109]⟩++txtL k.toNat ByteArray.empty:=by unfold txt;rw [if_neg h0]
  have q1:(k<=0)=False:=eq_false h0;rw [h];obtain ⟨n,rfl⟩:∃ n:Nat,k=n:=⟨k.toNat,om⟩;rw [Tbn];refine gI (ts:=[.slot 2]) 173 Try.func45 ?_;refine fG @q1 ?_;have F:=@q1;refine gL (ι:=Nat × ByteArray) [0,3,7] [] (fun x=>[(0,.d (.one (.lit (.int .i64 (x.1:Int))))),(3,.d (.one (.lit (.string x.2))))]) (fun x=>[]) (fun x=>txtL n ByteArray.empty=txtL x.1 x.2∧x.2.size+x.1<=n) (fun x=>x.1) ((n,⟨#[]⟩)) (⟨rfl,by show 0+n<=n;omega⟩) (fun x hx=>?_);clear F
  obtain ⟨j,acc⟩:=x;obtain ⟨h1,h2⟩:=hx;simp only at h1 h2;rw [h1];clear h1;by_cases hj:j=0
  ·subst hj;have q2:(((0:Nat):Int) > 0)=False:=eq_false om;rw [ZrP];have q5:((ByteArray.mk #[109]).size+acc.size<=9223372036854775807)=True:=eq_true (by show 1+acc.size<=_;omega);exact fD (ai @q2 @q5)
  ·have q2:((j:Int) > 0)=True:=eq_true om;rw [ZrQ hj];have q3:IntKind.i64.wrap ((j:Int).tdiv 10)=((j / 10:Nat):Int):=by rw [show (j:Int).tdiv 10=((j / 10:Nat):Int) from by rw [Int.ofNat_tdiv];rfl];exact IntWalk.i64_in _ om
   refine fN 5 @q2 ?_;refine gB ?_;have F:=@q2;refine gP 5 ?_;clear F;refine gY ?_;have q5:((dig j).size+acc.size<=9223372036854775807)=True:=eq_true (by rw [Zjj];omega);change Runs _ _ _ _ ⟨(13,.d (.one (.lit (.string (dig j)))))::_,_⟩ _;refine fR (ai @q2 @q5) ?_;have hd:=Zjj j;have F:=ai @q2 @q3;refine gG ?_;exact ⟨(j / 10,dig j++acc),⟨rfl,by rw [ByteArray.size_append,hd];omega⟩,gw,gw,om⟩
def mkV (k:Int):Value->Value
 | .int i _=>.int i k
 | .string _=>.string (txt k)
 | .bool _=>.bool (k % 3==0)
 | v=>v
mutual
def mkC:Int->C->C
 | k,.lit v=>.lit (mkV k v)
 | k,.sl rows=>.sl (Zap k rows)
 | _,.ptr cs=>.ptr cs
 | _,.fn f cs=>.fn f cs
def ZbL:Int->List C->List C
 | _,[]=>[]
 | k,c::cs=>mkC k c::ZbL (k+cntC c) cs
def Zap:Int->List (List C)->List (List C)
 | _,[]=>[]
 | k,r::rs=>ZbL k r::Zap (k+ZbA r) rs
def cntC:C->Nat
 | .lit _=>1
 | .sl rows=>cntRows rows
 | .ptr _=>0
 | .fn _ _=>0
def ZbA:List C->Nat
 | []=>0
 | c::cs=>cntC c+ZbA cs
def cntRows:List (List C)->Nat
 | []=>0
 | r::rs=>ZbA r+cntRows rs
end
theorem Zh1:∀ (k:Int) (cs:List C),(ZbL k cs).length=cs.length
 | _,[]=>by simp [ZbL]
 | k,c::cs=>by simp [ZbL,Zh1 _ cs]
theorem ZcS:∀ (k:Int) (rs:List (List C)),(Zap k rs).length=rs.length
 | _,[]=>by simp [Zap]
 | k,c::cs=>by simp [Zap,ZcS _ cs]
theorem ZbV:∀ (rs:List (List C)) (r:List C),cntRows (rs++[r])=cntRows rs+ZbA r
 | [],r=>by simp [cntRows]
 | q::rs,r=>by simp [cntRows,ZbV rs r];omega
theorem ZcB:∀ (rs:List (List C)) (r:List C) (k:Int),Zap k (rs++[r])=Zap k rs++[ZbL (k+cntRows rs) r]
 | [],r,k=>by simp [Zap,cntRows]
 | q::rs,r,k=>by simp [Zap,cntRows,ZcB rs r,Int.add_assoc]
theorem Zbx {α:Type} {l:List α} {i:Nat} {x:α} (h:l[i]?=some x):l.take (i+1)=l.take i++[x]:=by simp [List.take_add_one,h]
theorem Zca {α:Type} {l:List α} {i:Nat} {x:α} (h:l[i]?=some x):l.drop i=x::l.drop (i+1):=by
 obtain ⟨h1,rfl⟩:=Tad.1 h;exact List.drop_eq_getElem_cons h1
theorem Zbo:∀ (rs:List (List C)) (i:Nat),cntRows (rs.take i)<=cntRows rs
 | [],i=>by simp [cntRows]
 | r::rs,0=>by simp [cntRows]
 | r::rs,i+1=>by have:=Zbo rs i;simp only [Taz,cntRows];omega
theorem Zln {x y:Bk} (h:∀ g,pblk x g->¬ pblk y g):ZbD [x,y]:=⟨fun z hz g hg=>by simp at hz;subst hz;exact h g hg,Zcz _⟩
theorem Zfx {E:Nat->Prop} {v:Value}:ZeY (ι:=Option Addr × Nat) [.set E (fun w=>Own w (.sl []) E v)] (fun i=>v=.slice i.1 0 i.2) (fun _=>[.set E (fun w=>Own w (.sl []) E v)]):=fun w S h ha=>by
 obtain ⟨h1,h2,h3⟩:_∧Own w (.sl []) E v∧_:=h (.set E (fun w=>Own w (.sl []) E v)) (by simp);simp only [Own] at h2;obtain ⟨A,n,cap,hv,hn,_⟩:=h2;simp at hn;subst hn;exact ⟨(A,cap),hv,h,ha,fun _ h=>h⟩
theorem ZeH {E:Nat->Prop} {v:Value} {rows:List (List C)} {sz:Nat} (hne:rows≠[]) (hrl:rowsLen sz rows):ZeY (ι:=Option Addr × Nat × Nat × List (List Value) × (Nat->Prop)) [.set E (fun w=>Own w (.sl rows) E v)]
  (fun i=>v=.slice i.1 i.2.2.2.1.length i.2.1∧i.2.2.2.1.length=rows.length∧rows.length<=maxLen) (fun i=>[.buf (some (i.1,i.2.1)) i.2.2.1 sz (i.2.2.2.1.map Zaf),.set i.2.2.2.2 (fun w=>Zan w rows i.2.2.2.2 i.2.2.2.1)]):=fun w S h ha=>by
 obtain ⟨h1,h2,h3⟩:(∀ b,E b->b < w.heap.size∧¬ S b)∧Own w (.sl rows) E v∧_:=h (.set E (fun w=>Own w (.sl rows) E v)) (by simp);obtain ⟨A,n,cap,rfl,hn1,hn2,hn3⟩:=(Own.rep _ _ _ h2).form;obtain ⟨uss,ety,E',rfl,k1,k2,k3,k4⟩:=Own.open (T:=S) (fun b hb=>(h1 b hb).2) hne hrl h2;refine ⟨(A,cap,ety,uss,E'),⟨rfl,k2.len,om⟩,fun x hx=>?_,Zln fun g hg hg2=>?_,fun g ⟨x,hx,hg⟩=>⟨_,Tas,?_⟩⟩
 ·simp only [Tbd,List.not_mem_nil,or_false] at hx;rcases hx with rfl | rfl
  ·show ZaZ w S ety sz (uss.map Zaf) (.slice A (uss.map Zaf).length cap);rw [Tax];exact k1
  ·exact ⟨fun b hb=>h1 b (k3 b hb).1,k2,Zan.stable _ _ _⟩
 ·simp only [pblk,Tax] at hg hg2;exact (k3 g hg2).2 hg
 ·simp only [Tbd,List.not_mem_nil,or_false] at hx;rcases hx with rfl | rfl
  ·simp only [pblk,Tax] at hg;exact k4 g hg
  ·exact (k3 g hg).1
def ZaQ:List C->List Value->(Nat->Nat->Prop)->List Bk
 | .sl rows::cs,u::us,Es=>.set (Es 0) (fun w=>Own w (.sl rows) (Es 0) u)::ZaQ cs us (fun k=>Es (k+1))
 | .lit _::cs,_::us,Es=>ZaQ cs us Es
 | _,_,_=>[]
def ZcO:List C->List Value->Prop
 | [],[]=>True
 | .lit x::cs,u::us=>u=x∧ZcO cs us
 | .sl _::cs,_::us=>ZcO cs us
 | _,_=>False
def Zcv:C->Bool
 | .lit _=>true
 | .sl _=>true
 | _=>false
theorem Zd5 {w:World} {S:Nat->Prop}:∀ {cs:List C} {us:List Value} {E:Nat->Prop},cs.all Zcv=true->Zae w cs E us->(∀ b,E b->b < w.heap.size∧¬ S b)->∃ Es,ZcO cs us∧(∀ x∈ZaQ cs us Es,Zbk w S x)∧ZbD (ZaQ cs us Es)∧∀ g,ZaG (ZaQ cs us Es) g->E g
 | [],[],E,_,_,_=>⟨fun _ _=>False,trivial,by simp [ZaQ],trivial,fun g ⟨x,hx,_⟩=>by simp [ZaQ] at hx⟩
 | c::cs,u::us,E,hp,h,hE=>by
  simp only [Zae] at h;obtain ⟨S1,S2,i1,i2,hd,h1,h2⟩:=h;simp only [List.all_cons,Tar] at hp;obtain ⟨Es,k1,k2,k3,k4⟩:=Zd5 hp.2 h2 (fun b hb=>hE b (i2 b hb))
  cases c with
  | lit x =>
   simp only [Own] at h1;exact ⟨Es,⟨h1,k1⟩,k2,k3,fun g hg=>i2 g (k4 g hg)⟩
  | sl rows =>
   refine ⟨fun k=>match k with | 0=>S1 | k+1=>Es k,k1,fun x hx=>?_,⟨fun y hy g hg hg2=>hd g hg (k4 g ⟨y,hy,hg2⟩),k3⟩,fun g ⟨x,hx,hg⟩=>?_⟩
   ·simp only [ZaQ,Tbd] at hx;rcases hx with rfl | hx
    ·exact ⟨fun b hb=>hE b (i1 b hb),h1,Own.stable _ _ _⟩
    ·exact k2 x hx
   ·simp only [ZaQ,Tbd] at hx;rcases hx with rfl | hx
    ·exact i1 g hg
    ·exact i2 g (k4 g ⟨x,hx,hg⟩)
  | ptr _=>simp [Zcv] at hp
  | fn _ _=>simp [Zcv] at hp
 | [],_::_,_,_,h,_=>by simp [Zae] at h
 | _::_,[],_,_,h,_=>by simp [Zae] at h
theorem Zae.of_cells {w:World} {S:Nat->Prop}:∀ {cs:List C} {us:List Value} {Es:Nat->Nat->Prop},cs.all Zcv=true->ZcO cs us->(∀ x∈ZaQ cs us Es,Zbk w S x)->ZbD (ZaQ cs us Es)->Zae w cs (ZaG (ZaQ cs us Es)) us
 | [],[],Es,_,_,_,_=>Zae.nil
 | .lit x::cs,u::us,Es,hp,hl,h,ha=>by
  obtain ⟨rfl,hl⟩:=hl;simp only [List.all_cons,Tar] at hp;simp only [Zae];exact ⟨fun _=>False,_,fun _ h=>h.elim,fun _ h=>h,fun _ h _=>h,by simp [Own],Zae.of_cells (Es:=Es) hp.2 hl h ha⟩
 | .sl rows::cs,u::us,Es,hp,hl,h,ha=>by
  simp only [List.all_cons,Tar] at hp;simp only [Zae];obtain ⟨a1,a2⟩:=ha;have hE:=h (.set (Es 0) (fun w=>Own w (.sl rows) (Es 0) u)) Tas;refine ⟨Es 0,ZaG (ZaQ cs us (fun k=>Es (k+1))),fun b hb=>⟨_,Tas,hb⟩,fun b ⟨x,hx,hb⟩=>⟨x,Tal _ hx,hb⟩,fun b hb ⟨x,hx,hb2⟩=>a1 x hx b hb hb2,hE.2.1,Zae.of_cells hp.2 hl (fun x hx=>h x (Tal _ hx)) a2⟩
 | .ptr _::_,_::_,_,hp,_,_,_=>by simp [Zcv] at hp
 | .fn _ _::_,_::_,_,hp,_,_,_=>by simp [Zcv] at hp
 | [],_::_,_,_,hl,_,_=>by simp [ZcO] at hl
 | .lit _::_,[],_,_,hl,_,_=>by simp [ZcO] at hl
 | .sl _::_,[],_,_,hl,_,_=>by simp [ZcO] at hl
theorem Zdg:∀ {cs:List C} {us:List Value} {Es:Nat->Nat->Prop} (y:Bk),y∈ZaQ cs us Es->∃ E G,y=.set E G
 | .sl rows::cs,u::us,Es,y,h=>by
  rcases Tbd.1 h with rfl | h
  ·exact ⟨_,_,rfl⟩
  ·exact Zdg y h
 | .lit _::cs,_::us,Es,y,h=>Zdg (cs:=cs) (us:=us) y h
 | .ptr _::_,_,_,y,h=>by simp [ZaQ] at h
 | .fn _ _::_,_,_,y,h=>by simp [ZaQ] at h
 | [],_,_,y,h=>by simp [ZaQ] at h
 | .lit _::_,[],_,y,h=>by simp [ZaQ] at h
 | .sl _::_,[],_,y,h=>by simp [ZaQ] at h
theorem ZeI {E:Nat->Prop} {r:List C} {rest:List (List C)} {us:List Value} {urest:List (List Value)} (hp:r.all Zcv=true):ZeY (ι:=Unit) [.set E (fun w=>Zan w (r::rest) E (us::urest))] (fun _=>ZcO r us) (fun _=>[.set E (fun w=>Zan w (r::rest) E (us::urest))]):=fun w S h ha=>by
 obtain ⟨h1,h2,h3⟩:(∀ b,E b->b < w.heap.size∧¬ S b)∧Zan w (r::rest) E (us::urest)∧_:=h (.set E (fun w=>Zan w (r::rest) E (us::urest))) (by simp);obtain ⟨S1,S2,i1,i2,hd,k1,k2⟩:=h2;obtain ⟨Es,hl,_⟩:=Zd5 (S:=S) hp k1 (fun b hb=>h1 b (i1 b hb));exact ⟨(),hl,h,ha,fun _ h=>h⟩
theorem Zfy {E:Nat->Prop} {r:List C} {rest:List (List C)} {us:List Value} {urest:List (List Value)} (hp:r.all Zcv=true):ZeY (ι:=(Nat->Prop) × (Nat->Nat->Prop)) [.set E (fun w=>Zan w (r::rest) E (us::urest))] (fun _=>True) (fun i=>.set i.1 (fun w=>Zan w rest i.1 urest)::ZaQ r us i.2):=fun w S h ha=>by
 obtain ⟨h1,h2,h3⟩:(∀ b,E b->b < w.heap.size∧¬ S b)∧Zan w (r::rest) E (us::urest)∧_:=h (.set E (fun w=>Zan w (r::rest) E (us::urest))) (by simp);obtain ⟨S1,S2,i1,i2,hd,k1,k2⟩:=h2;obtain ⟨Es,hl,q1,q2,q3⟩:=Zd5 (S:=S) hp k1 (fun b hb=>h1 b (i1 b hb));refine ⟨(S2,Es),trivial,fun x hx=>?_,⟨fun y hy g hg hg2=>hd g (q3 g ⟨y,hy,hg2⟩) hg,q2⟩,fun g ⟨x,hx,hg⟩=>⟨_,Tas,?_⟩⟩
 ·rcases Tbd.1 hx with rfl | hx
  ·exact ⟨fun b hb=>h1 b (i2 b hb),k2,Zan.stable _ _ _⟩
  ·exact q1 x hx
 ·rcases Tbd.1 hx with rfl | hx
  ·exact i2 g hg
  ·exact i1 g (q3 g ⟨x,hx,hg⟩)
theorem Zfz {E:Nat->Prop} {done:List (List C)} {ud:List (List Value)} {cs:List C} {us:List Value} {Es:Nat->Nat->Prop} (hp:cs.all Zcv=true) (hl:ZcO cs us):Za1 (.set E (fun w=>Zan w done E ud)::ZaQ cs us Es) [.set (fun b=>E b∨ZaG (ZaQ cs us Es) b) (fun w=>Zan w (done++[cs]) (fun b=>E b∨ZaG (ZaQ cs us Es) b) (ud++[us]))]:=fun w S h ha=>by
 have hE:=h (.set E (fun w=>Zan w done E ud)) Tas;have hv:=Zae.of_cells (w:=w) (S:=S) hp hl (fun x hx=>h x (Tal _ hx)) ha.2;refine ⟨fun x hx=>?_,Zcz _,fun g ⟨x,hx,hg⟩=>?_⟩
 ·simp only [Tbd,List.not_mem_nil,or_false] at hx;subst hx;refine ⟨fun b hb=>?_,Zan.snoc hE.2.1 hv (fun _ h=>.inl h) (fun _ h=>.inr h) (fun b hb ⟨y,hy,hg⟩=>ha.1 y hy b hb hg),Zan.stable _ _ _⟩;rcases hb with hb | ⟨y,hy,hg⟩
  ·exact hE.1 b hb
  ·obtain ⟨E',G',rfl⟩:=Zdg y hy;exact (h _ (Tal _ hy)).1 b hg
 ·simp only [Tbd,List.not_mem_nil,or_false] at hx;subst hx;rcases hg with hg | ⟨y,hy,hg⟩
  ·exact ⟨_,Tas,hg⟩
  ·exact ⟨y,Tal _ hy,hg⟩
def zTm:Tm:=.mk 0 ByteArray.empty 0 []
theorem Ze2:Zaj []=[]:=by simp [Zaj]
theorem okc4 {u0 u1 u2 u3:Value} (h:(Zaf [u0,u1,u2,u3]).all Zal=true):Zal (.lit u0)=true∧Zal (.lit u1)=true∧Zal (.lit u2)=true∧Zal (.lit u3)=true:=by
 simpa [Zaf,Tar,and_assoc] using h
theorem Zet (ts:List Tm) {i:Nat} {t:Tm} (h:ts[i]?=some t):Zaj (ts.take (i+1))=Zaj (ts.take i)++[Zab t]:=by
 simp only [Zen,List.take_add_one,h,Option.toList,Tbm,Tbl,List.map_nil]
theorem ZcC (u0 u1 u2 u3:Value):Zaf [u0,u1,u2,u3]=[.lit u0,.lit u1,.lit u2,.lit u3]:=rfl
theorem Zar (uss:List (List Value)):(uss.map Zaf).length=uss.length:=Tax ..
def tmsB (ts:List Tm):Prop:=ts.length+bulkRows (Zaj ts)<=1048576
theorem Zd6 (ts:List Tm) (hB:tmsB ts) (h:∀ t∈ts,ConP e0 29 [.agg (Zab t)] [] (Zbc (Zab t))):ConP e0 53 [.one (.sl (Zaj ts))] [] (Zcu 31 4 (Zaj ts)):=by
 have hl:ts.length<=1048576:=Tbb (Nat.le_add_right _ _) hB;refine gIP (ts:=[.slot 2]) [] 1005 Try.func53 ?_;refine fG @e0P ?_;refine pE [] [1000] ZbK ?_;have F:=ai @ZaU @Ze2;refine gL (ι:=Nat × List (List Value) × (Nat->Prop)) [3,5,8,9] [3,1000] (fun x=>[(8,.d (.one (.lit (.int .i64 (x.1:Int))))),(3,.buf 3)]) (fun x=>[(3,.buf none 31 4 (x.2.1.map Zaf)),(1000,.set x.2.2 (fun w=>Zan w (Zaj (ts.take x.1)) x.2.2 x.2.1))]) (fun x=>x.1<=ts.length∧x.2.1.length=x.1) (fun x=>ts.length - x.1) ((0,[],fun _=>False)) (⟨Taj _,rfl⟩) (fun x hx=>?_);clear F
 obtain ⟨i,uss,E⟩:=x;obtain ⟨hi,hn⟩:=hx;simp only at hi hn;by_cases hlt:i < ts.length
 ·have hg:ts[i]?=some ts[i]:=Taa hlt;have hc:=h ts[i] (List.getElem_mem hlt);generalize ts[i]=t at hg hc;have q1:=lT i ts.length;refine fB (aj5 @ZaU @Zbv @q1 @hg @tmz) ?_;have F:=@tmz;refine gCP [] [1001] (hc) ?_;clear F;rintro r pm ⟨us,E2,rfl,hu,hok,rfl⟩;rw [Zc4] at hu;obtain ⟨u0,u1,u2,u3,rfl⟩:=len4 hu;obtain ⟨k0,k1,k2,k3⟩:=okc4 hok;have q3:IntKind.i64.wrap ((i:Int)+1)=(i:Int)+1:=IntWalk.i64_in _ om
  have q2:i+1<=maxApp:=by unfold maxApp;omega
  simp only [ZcC,setA,retA,zipM,Taf,Tah];refine fR (aj8 @ZcC @Zar @hn @q2 @k0 @k1 @k2 @k3) ?_;refine pE [1000,1001] [1000] (Zc3 (G':=fun w=>Zan w (Zaj (ts.take (i+1))) (fun b=>E b∨E2 b) (uss++[[u0,u1,u2,u3]])) (fun w h1 h2 hd=>?_) (Zan.stable _ _ _)) ?_
  ·rw [Zet ts hg];exact Zan.snoc h1 h2 (fun _ h=>.inl h) (fun _ h=>.inr h) hd
  have F:=aj4 @ZcC @q3 @ZaU ((@Tbm.{0,0}));refine gG ?_;exact ⟨(i+1,uss++[[u0,u1,u2,u3]],fun b=>E b∨E2 b),⟨hlt,by simp [hn]⟩,gw,gw,om⟩
 ·obtain rfl:i=ts.length:=by omega
  have q1:=lF ts.length ts.length;refine fG (ai @ZaU @q1) ?_;rw [Tap];refine pS 2 fun a cap=>?_;refine gTP [2,1000] (Zcu.mk (by rw [hn,ZaU]))
theorem ZrR {w:World} {op so:Int} {nm:ByteArray} {args:List Tm} {E:Nat->Prop} {v:Value} (h:Own w (.sl (Zaj args)) E v):Zae w (Zab (.mk op nm so args)) E [.int .i64 op,.string nm,.int .i64 so,v]:=by
 simp only [Zab,Zae];refine ⟨fun _=>False,E,fun _ h=>h.elim,fun _ h=>h,fun _ h _=>h,by simp [Own],fun _=>False,E,fun _ h=>h.elim,fun _ h=>h,fun _ h _=>h,by simp [Own],fun _=>False,E,fun _ h=>h.elim,fun _ h=>h,fun _ h _=>h,by simp [Own],E,fun _=>False,fun _ h=>h,fun _ h=>h.elim,fun _ _ h=>h,h,trivial⟩
theorem Zg2 (t:Tm) (h:ConP e0 53 [.one (.sl (Zaj t.args))] [] (Zcu 31 4 (Zaj t.args))):ConP e0 29 [.agg (Zab t)] [] (Zbc (Zab t)):=by
 obtain ⟨op,nm,so,args⟩:=t;have hc:Zab (.mk op nm so args)=[.lit (.int .i64 op),.lit (.string nm),.lit (.int .i64 so),.sl (Zaj args)]:=by simp only [Zab]
 simp only [Tm.args] at h;refine gIP (ts:=[.cell 2 31]) [] 7 Try.func29 ?_;refine fB @hc ?_;have F:=@hc;refine gCP [] [1000,1001] (h) ?_;clear F;rintro r pm ⟨a,cap,uss,E,rfl,hu,rfl⟩;simp only [setA,retA,zipM,Taf,Tah];refine fR @hc ?_;refine fG @hc ?_;refine pE [1000,1001] [1000] (Zbi (G':=fun w=>Zae w (Zab (.mk op nm so args)) (fun b=>vblk (.slice a uss.length cap)=some b∨E b) [.int .i64 op,.string nm,.int .i64 so,.slice a uss.length cap]) (fun w h=>ZrR h) (Zae.stable _ _ _)) ?_
 have hm:=Zbc.mk (row:=Zab (.mk op nm so args)) (us:=[.int .i64 op,.string nm,.int .i64 so,.slice a uss.length cap]) (E:=fun b=>vblk (.slice a uss.length cap)=some b∨E b) (by rw [hc];rfl) rfl;rw [ZcC] at hm;exact (have F:=hc;gTP [1000] hm)
theorem ZpM (n:Nat):(∀ t:Tm,Zay (Zab t) < n->bulkRow (Zab t)<=1048576->ConP e0 29 [.agg (Zab t)] [] (Zbc (Zab t))):=by
 induction n with
 | zero=>exact fun _ h=>om
 | succ n ih =>
  intro t hn hb;obtain ⟨op,nm,so,args⟩:=t;simp only [Zab,Zay,Zbg,bulkRow,ZaT] at hn hb;refine Zg2 _ (Zd6 args (by unfold tmsB;have:=ZaU args;omega) fun a ha=>?_);obtain ⟨i,hi⟩:=Tbg ha;have hi':(Zaj args)[i]?=some (Zab a):=by rw [Zbv,hi];rfl
  have h1:=ZaV hi';have h2:=Za4 hi';exact ih a om om
theorem ZbW (t:Tm) (hb:bulkRow (Zab t)<=1048576):ConP e0 29 [.agg (Zab t)] [] (Zbc (Zab t)):=ZpM _ t (Tan _) hb
theorem ZfP (pm:List Bk):Za1 pm pm:=fun w S h1 h2=>⟨h1,h2,fun _ h=>h⟩
theorem ZpN {ts:List Tm} {i:Nat} (h:i<=ts.length):(Zaj (ts.take i)).length=i:=by rw [ZaU,Taw];omega
theorem Zib (t:Tm) (hB:tmsB t.args) (h:∀ a∈t.args,Con e0 25 [.agg (Zab a)] [.agg (Zab a)]):Con e0 25 [.agg (Zab t)] [.agg (Zab t)]:=by
 obtain ⟨op,nm,so,args⟩:=t;have hc:Zab (.mk op nm so args)=[.lit (.int .i64 op),.lit (.string nm),.lit (.int .i64 so),.sl (Zaj args)]:=by simp only [Zab]
 simp only [Tm.args] at h hB;have hl:args.length<=1048576:=Tbb (Nat.le_add_right _ _) hB;refine gI (ts:=[.cell 2 31]) 65567 Try.func25 ?_;refine fN 1 @hc ?_;refine gB ?_;refine gP 6 ?_;refine gX ?_;refine fR @hc ?_;refine pN 1000 31 4 ?_;refine fG @hc ?_;have F:=ai @hc @Ze2;refine gL (ι:=Nat × Option Addr × Nat) [4,16] [3,1000] (fun x=>[(4,.d (.one (.lit (.int .i64 (x.1:Int)))))]) (fun x=>[(1000,.buf (some (x.2.1,x.2.2)) 31 4 (Zaj (args.take x.1))),(3,.var none [.lit (.int .i64 op),.lit (.string nm),.lit (.int .i64 so),.lit (.slice x.2.1 x.1 x.2.2)])]) (fun x=>x.1<=args.length) (fun x=>args.length - x.1) ((0,none,0)) (Taj _) (fun x hx=>?_);clear F
 obtain ⟨i,p,cap⟩:=x;simp only at hx;by_cases hlt:i < args.length
 ·have hg:args[i]?=some args[i]:=Taa hlt;have hcon:=h args[i] (List.getElem_mem hlt);generalize args[i]=a at hg hcon;have q1:=lT i args.length;have q4:IntKind.i64.wrap ((i:Int)+1)=(i:Int)+1:=IntWalk.i64_in _ om;have q2:i+1<=maxApp:=by unfold maxApp;omega
  have q3:=ZpN hx;have q5:(args.take i).length=i:=by rw [Taw];omega
  refine fB (aj6 @hc @ZaU @Zbv @q1 @hg @tmz) ?_;refine fC (aj3 @tmz @Zbv @hg) (hcon) ?_;have F:=aj4 @tmz @q2 @q3 @q5;refine gP 3 ?_;clear F;refine gS 28 fun p2 cap2=>?_;refine fR (aj3 @tmz @q3 @q5) ?_;refine pE [28] [1000] (ZfP _) ?_;rw [<- Zet args hg];have F:=ai @hc @q4;refine gG ?_;exact ⟨(i+1,p2,cap2),hlt,gw,gw,om⟩
 ·obtain rfl:i=args.length:=by omega
  have q1:=lF args.length args.length;rw [Tap];refine fG (aj3 @hc @ZaU @q1) ?_;refine pD 1000 [] [2] ?_ (hs:=by exact snv);exact fD (ai @hc @ZaU)
theorem ZoZ (n:Nat):(∀ t:Tm,Zay (Zab t) < n->bulkRow (Zab t)<=1048576->Con e0 25 [.agg (Zab t)] [.agg (Zab t)]):=by
 induction n with
 | zero=>exact fun _ h=>om
 | succ n ih =>
  intro t hn hb;obtain ⟨op,nm,so,args⟩:=t;simp only [Zab,Zay,Zbg,bulkRow,ZaT] at hn hb;refine Zib _ (by unfold tmsB;simp only [Tm.args];have:=ZaU args;omega) fun a ha=>?_;simp only [Tm.args] at ha;obtain ⟨i,hi⟩:=Tbg ha;have hi':(Zaj args)[i]?=some (Zab a):=by rw [Zbv,hi];rfl
  have h1:=ZaV hi';have h2:=Za4 hi';exact ih a om om
theorem ZcT (t:Tm) (hb:bulkRow (Zab t)<=1048576):Con e0 25 [.agg (Zab t)] [.agg (Zab t)]:=ZoZ _ t (Tan _) hb
theorem ZlW {ts:List Tm} {i:Nat} {t:Tm} (h:ts[i]?=some t):Zaj (ts.take i)++[Zab t]=Zaj (ts.take (i+1)):=(Zet ts h).symm
theorem ZfA (ts:List Tm) (hB:tmsB ts):Con e0 39 [.one (.sl (Zaj ts))] [.one (.sl (Zaj ts))]:=by
 unfold tmsB at hB;refine gI (ts:=[.slot 2]) 541 Try.func39 ?_;refine fG @tmz ?_;have F:=@Ze2;refine gL (ι:=Nat) [3,4,9] [3] (fun i=>[(4,A.d (.one (.lit (.int .i64 i)))),(3,.buf 3)]) (fun i=>[(3,.buf none 31 4 (Zaj (ts.take i)))]) (fun i=>i<=ts.length) (fun i=>ts.length - i) (0) (Taj _) (fun i hi=>?_);clear F;by_cases hlt:i < ts.length;rotate_left
 ·obtain rfl:i=ts.length:=by omega
  have q2:=lF ts.length ts.length;rw [Tap];refine fG (ai @q2 @tmz) ?_;have F:=@tmz;refine gG ?_;exact gTz [2]
 obtain ⟨t,ht⟩:∃ b,ts[i]?=some b:=⟨_,Taa hlt⟩;have q2:=lT i ts.length;have q4:=Zbu (k:=i) om;have hi':(Zaj ts)[i]?=some (Zab t):=by rw [Zbv,ht];rfl
 have hbt:=Za4 hi';have cc:=ZcT t om;have l1:ZaC 4 (Zaj (ts.take i))=true:=ZlQ _;have l2:((Zaj (ts.take i)).length+1<=maxApp)=True:=eq_true (by rw [ZaU,Taw];unfold maxApp;omega);have l3:((ts.take i).length+1<=maxApp)=True:=eq_true (by rw [Taw];unfold maxApp;omega);have l4:min i ts.length+1<=maxApp:=by unfold maxApp;omega
 have e:=ZlW ht;refine fB (ai @q2 @tmz) ?_;refine fC (aj3 @q2 @ht @tmz) (cc) ?_;refine fR (aj4 @l1 @l2 @l3 @tmz) ?_;have F:=ai @q4 @e;refine gG ?_;exact ⟨i+1,hlt,gw,gw,om⟩
theorem Zb2 {r:List C} (h:Zao (Zac .binding) r):∃ (i0:Int) (t1:ByteArray) (i2:Int) (r3:List (List C)) (i4:Int) (t5:ByteArray) (i6:Int) (r7:List (List C)),r=[.lit (.int .i64 i0),.lit (.string t1),.lit (.int .i64 i2),.sl r3,.lit (.int .i64 i4),.lit (.string t5),.lit (.int .i64 i6),.sl r7]∧I64 i0∧t1.size<=maxLen∧I64 i2∧Zak (Zac .term) r3∧I64 i4∧t5.size<=maxLen∧I64 i6∧Zak (Zac .term) r7:=by
 obtain ⟨c0,c1,c2,c3,c4,c5,c6,c7,rfl⟩:=len8 h.len;simp only [Zac,Zbj,occF,ZcK,sigF,Zcw,algF,Taf,Tah,redF,Zao,and_true] at h;obtain ⟨h0,h1,h2,h3,h4,h5,h6,h7⟩:=h;obtain ⟨i0,rfl,g0⟩:=ZbS h0;obtain ⟨t1,rfl,g1⟩:=Zex h1;obtain ⟨i2,rfl,g2⟩:=ZbS h2;obtain ⟨r3,rfl,g3⟩:=ZbT h3;obtain ⟨i4,rfl,g4⟩:=ZbS h4;obtain ⟨t5,rfl,g5⟩:=Zex h5;obtain ⟨i6,rfl,g6⟩:=ZbS h6;obtain ⟨r7,rfl,g7⟩:=ZbT h7;exact ⟨i0,t1,i2,r3,i4,t5,i6,r7,rfl,g0,g1,g2,g3,g4,g5,g6,g7⟩
theorem Zic {i0:Int} {t1:ByteArray} {i2:Int} {r3:List (List C)} {i4:Int} {t5:ByteArray} {i6:Int} {r7:List (List C)} (g0:I64 i0) (g1:t1.size<=maxLen) (g2:I64 i2) (g3:Zak (Zac .term) r3) (g4:I64 i4) (g5:t5.size<=maxLen) (g6:I64 i6) (g7:Zak (Zac .term) r7):Zao (Zac .binding) [.lit (.int .i64 i0),.lit (.string t1),.lit (.int .i64 i2),.sl r3,.lit (.int .i64 i4),.lit (.string t5),.lit (.int .i64 i6),.sl r7]:=by
 simp only [Zac,Zbj,occF,ZcK,sigF,Zcw,algF,Taf,Tah,redF,Zao,and_true];exact ⟨Zcf g0,Zey g1,Zcf g2,Zb3 g3,Zcf g4,Zey g5,Zcf g6,Zb3 g7⟩
theorem Zcr {r:List C} (h:Zao (Zac .occ) r):∃ (r0:List (List C)) (r1:List (List C)) (r2:List (List C)) (r3:List (List C)),r=[.sl r0,.sl r1,.sl r2,.sl r3]∧Zak (Zac .int) r0∧Zak (Zac .term) r1∧Zak (Zac .term) r2∧Zak (Zac .binding) r3:=by
 obtain ⟨c0,c1,c2,c3,rfl⟩:=len4 h.len;simp only [Zac,Zbj,occF,ZcK,sigF,Zcw,algF,Taf,Tah,redF,Zao,and_true] at h;obtain ⟨h0,h1,h2,h3⟩:=h;obtain ⟨r0,rfl,g0⟩:=ZbT h0;obtain ⟨r1,rfl,g1⟩:=ZbT h1;obtain ⟨r2,rfl,g2⟩:=ZbT h2;obtain ⟨r3,rfl,g3⟩:=ZbT h3;exact ⟨r0,r1,r2,r3,rfl,g0,g1,g2,g3⟩
theorem Zcs {r0:List (List C)} {r1:List (List C)} {r2:List (List C)} {r3:List (List C)} (g0:Zak (Zac .int) r0) (g1:Zak (Zac .term) r1) (g2:Zak (Zac .term) r2) (g3:Zak (Zac .binding) r3):Zao (Zac .occ) [.sl r0,.sl r1,.sl r2,.sl r3]:=by
 simp only [Zac,Zbj,occF,ZcK,sigF,Zcw,algF,Taf,Tah,redF,Zao,and_true];exact ⟨Zb3 g0,Zb3 g1,Zb3 g2,Zb3 g3⟩
structure Bd where
 var:Tm
 to:Tm
def Zav (b:Bd):List C:=Zab b.var++Zab b.to
def okBd (b:Bd):Prop:=okTm b.var∧okTm b.to
theorem Zr8:∀ row,Zao (Zac .binding) row->∃ b,row=Zav b∧okBd b:=fun row h=>by
 obtain ⟨i0,t1,i2,r3,i4,t5,i6,r7,rfl,g0,g1,g2,g3,g4,g5,g6,g7⟩:=Zb2 h;obtain ⟨a,rfl,ha⟩:=ZeF g3;obtain ⟨a',rfl,ha'⟩:=ZeF g7;exact ⟨⟨.mk i0 t1 i2 a,.mk i4 t5 i6 a'⟩,by simp [Zav,Zab],by simp only [okTm];exact ⟨g0,g1,g2,ha⟩,by simp only [okTm];exact ⟨g4,g5,g6,ha'⟩⟩
theorem Zr9:∀ b,okBd b->Zao (Zac .binding) (Zav b):=fun b h=>by
 obtain ⟨⟨o,n,s,a⟩,⟨o',n',s',a'⟩⟩:=b;simp only [okBd,okTm] at h;simp only [Zav,Zab,Taf,Tah];exact Zic h.1.1 h.1.2.1 h.1.2.2.1 (Zb6 a h.1.2.2.2) h.2.1 h.2.2.1 h.2.2.2.1 (Zb6 a' h.2.2.2.2)
structure Occ where
 path:List Int
 left:List Tm
 right:List Tm
 mat:List Bd
def Za8 (o:Occ):List C:=[.sl (o.path.map ZaA),.sl (Zaj o.left),.sl (Zaj o.right),.sl (o.mat.map Zav)]
def Zre (o:Occ):Prop:=(∀ n∈o.path,I64 n)∧Zcd o.left∧Zcd o.right∧∀ b∈o.mat,okBd b
theorem ZrS {row:List C} (h:Zao occF row):∃ o,row=Za8 o∧Zre o:=by
 obtain ⟨r0,r1,r2,r3,rfl,g0,g1,g2,g3⟩:=Zcr h;obtain ⟨p,rfl,hp⟩:=decL ZrI g0;obtain ⟨l,rfl,hl⟩:=ZeF g1;obtain ⟨r,rfl,hr⟩:=ZeF g2;obtain ⟨m,rfl,hm⟩:=decL Zr8 g3;exact ⟨⟨p,l,r,m⟩,rfl,hp,hl,hr,hm⟩
def Zbd (l:List Bd):List (List C):=l.map Zav
theorem Ze3 (l:List Bd):(Zbd l).length=l.length:=by simp [Zbd]
theorem Zg3 (l:List Bd) (i:Nat):(Zbd l)[i]?=l[i]?.map Zav:=by simp [Zbd]
theorem bd_l:∀ (b:Bd),(Zav b).length=8:=fun b=>by simp [Zav,tmz]
theorem Zrf:∀ (b:Bd),(Zav b).take 8=Zav b:=fun b=>List.take_of_length_le (by rw [bd_l];omega)
theorem Zrg:∀ (b:Bd),(Zav b).drop 8=[]:=fun b=>List.drop_eq_nil_of_le (by rw [bd_l];omega)
theorem Zrh:∀ (b:Bd),(Zav b).take 4=Zab b.var:=fun ⟨v,t⟩=>by cases v;simp [Zav,Zab]
theorem Zri:∀ (b:Bd),(Zav b).drop 4=Zab b.to:=fun ⟨v,t⟩=>by cases v;simp [Zav,Zab]
theorem Zrj:∀ (b:Bd),(Zav b).drop 2=.lit (.int .i64 b.var.sort)::.sl (Zaj b.var.args)::Zab b.to:=fun ⟨v,t⟩=>by cases v;simp [Zav,Zab,Tm.sort,Tm.args]
theorem bd_o:∀ (b:Bd),valT TK.one (Zav b)=some (A.d (D.one (C.lit (Value.int IntKind.i64 b.var.op)))):=fun ⟨v,t⟩=>by cases v;simp [Zav,Zab,Tm.op,valT]
theorem bd_k:∀ (b:Bd),(Zav b).all Zal=true:=fun b=>by simp [Zav,List.all_append,tmz]
theorem bdz:type_of% (aj8 bd_l Zrf Zrg Zrh Zri Zrj bd_o bd_k):=aj8 bd_l Zrf Zrg Zrh Zri Zrj bd_o bd_k
theorem bds8 (l:List Bd):ZaC 8 (Zbd l)=true:=by
 refine List.all_eq_true.2 fun r hr=>?_;obtain ⟨y,hy,rfl⟩:=Tbf.1 hr;simp [Zav,List.all_append,tmz]
theorem Zdc {w:World} {S:Nat->Prop}:∀ {us vs:List Value},Zad w S (Zaf us) vs->vs=us
 | [],[],_=>rfl
 | u::us,v::vs,h=>by
  obtain ⟨h1,h2⟩:=h;have h1:v=u:=h1;rw [h1,Zdc h2]
 | [],_::_,h=>h.elim
 | _::_,[],h=>h.elim
theorem Kept.noPin {D:Prop} {E:Nat->Prop} {B:Nat} {w w':World} (h:Kept D (fun b=>E b∨ZaG [] b) B w w'):Kept D E B w w' :=
 ⟨h.os,h.tape,h.output,h.drawn,h.size,fun k hk hn=>h.block k hk fun h=>h.elim hn fun ⟨x,hx,_⟩=>by cases hx⟩
theorem ZpO {e:Env} {f:FuncId} {args:List D} {row:List C} (h:ConP e f args [] (Zbc row)):Con e f args [.agg row]:=by
 refine ⟨h.1,fun w S vs hS hE hG hv=>(h.2 w S vs hS hE hG (fun x hx=>by cases hx) trivial hv).mono ?_⟩;rintro en w' ⟨v,r,pm',h1,⟨us,E,rfl,hl,hok,rfl⟩,h3,h4,h5,h6,h7⟩;obtain ⟨⟨q1,q2,q3⟩,p2⟩:=h5 _ Tas;obtain ⟨us0,hu0,hr⟩:=h7;have e1:=Zdc hr;subst e1;refine ⟨v,h1,h3.noPin,h4,us0,hu0,Zae.rep _ _ _ _ (fun g hg=>.inr ⟨?_,(q1 g hg).1⟩) q2⟩;exact (p2 g hg).elim (fun ⟨x,hx,_⟩=>by cases hx) id
inductive Seg
 | lits (us:List Value)
 | sl (E:Nat->Prop) (rows:List (List C)) (u:Value)
 | st (E:Nat->Prop) (cs:List C) (us:List Value)
def segB:List Seg->List Bk
 | []=>[]
 | .lits _::r=>segB r
 | .sl E rows u::r=>.set E (fun w=>Own w (.sl rows) E u)::segB r
 | .st E cs us::r=>.set E (fun w=>Zae w cs E us)::segB r
def segC:List Seg->List C
 | []=>[]
 | .lits us::r=>Zaf us++segC r
 | .sl _ rows _::r=>.sl rows::segC r
 | .st _ cs _::r=>cs++segC r
def segV:List Seg->List Value
 | []=>[]
 | .lits us::r=>us++segV r
 | .sl _ _ u::r=>u::segV r
 | .st _ _ us::r=>us++segV r
theorem Zae.app {w:World} {S S1 S2:Nat->Prop} {ds:List C} {vs:List Value} (h2:Zae w ds S2 vs) (i2:∀ x,S2 x->S x):∀ {cs:List C} {us:List Value} {S1:Nat->Prop},Zae w cs S1 us->(∀ x,S1 x->S x)->(∀ x,S1 x->S2 x->False)->Zae w (cs++ds) S (us++vs)
 | [],[],_,_,_,_=>Zae.keep (Tai _) ds S2 S vs (fun _ _=>rfl) i2 h2
 | c::cs,u::us,T,h,i1,hd=>by
  simp only [Zae] at h;obtain ⟨T1,T2,a1,a2,a3,a4,a5⟩:=h;have h3:Zae w (cs++ds) (fun x=>T2 x∨S2 x) (us++vs):=Zae.app (S:=fun x=>T2 x∨S2 x) (S1:=T2) h2 (fun _ h=>.inr h) a5 (fun _ h=>.inl h) fun x hx=>hd x (a2 x hx);exact Zae.cons T1 (fun x=>T2 x∨S2 x) a4 h3 (fun x hx=>i1 x (a1 x hx)) (fun x hx=>hx.elim (fun q=>i1 x (a2 x q)) (i2 x)) fun x hx hy=>hy.elim (a3 x hx) (hd x (a1 x hx))
 | [],_::_,_,h,_,_=>by simp [Zae] at h
 | _::_,[],_,h,_,_=>by simp [Zae] at h
theorem Zae.lits {w:World}:∀ {us:List Value},Zae w (Zaf us) (fun _=>False) us
 | []=>Zae.nil
 | u::us=>Zae.lit Zae.lits
theorem Ze4 {w:World} {S:Nat->Prop}:∀ {ss:List Seg},(∀ x∈segB ss,Zbk w S x)->ZbD (segB ss)->Zae w (segC ss) (ZaG (segB ss)) (segV ss)
 | [],_,_=>Zae.nil
 | .lits us::r,h,ha=>Zae.app (S1:=fun _=>False) (Ze4 (ss:=r) h ha) (fun _ q=>q) Zae.lits (fun _ q=>q.elim) fun _ q=>q.elim
 | .sl E rows u::r,h,⟨a1,a2⟩=>Zae.cons E (ZaG (segB r)) (h _ Tas).2.1 (Ze4 (fun x hx=>h x (Tal _ hx)) a2) (fun b q=>⟨_,Tas,q⟩) (fun b ⟨x,hx,q⟩=>⟨x,Tal _ hx,q⟩) fun b q ⟨x,hx,q2⟩=>a1 x hx b q q2
 | .st E cs us::r,h,⟨a1,a2⟩=>Zae.app (S1:=E) (Ze4 (fun x hx=>h x (Tal _ hx)) a2) (fun b ⟨x,hx,q⟩=>⟨x,Tal _ hx,q⟩) (h _ Tas).2.1 (fun b q=>⟨_,Tas,q⟩) fun b q ⟨x,hx,q2⟩=>a1 x hx b q q2
theorem Ze5:∀ {ss:List Seg} {y:Bk},y∈segB ss->∃ E G,y=.set E G
 | .lits _::r,y,h=>Ze5 (ss:=r) h
 | .sl _ _ _::r,y,h=>by
  rcases Tbd.1 h with rfl | h
  ·exact ⟨_,_,rfl⟩
  ·exact Ze5 h
 | .st _ _ _::r,y,h=>by
  rcases Tbd.1 h with rfl | h
  ·exact ⟨_,_,rfl⟩
  ·exact Ze5 h
 | [],_,h=>by cases h
theorem ZcU (ss:List Seg):Za1 (segB ss) [.set (ZaG (segB ss)) (fun w=>Zae w (segC ss) (ZaG (segB ss)) (segV ss))]:=fun w S h ha=>by
 have hv:=Ze4 (w:=w) (S:=S) h ha;refine ⟨fun x hx=>?_,Zcz _,fun g ⟨x,hx,hg⟩=>?_⟩
 ·simp only [Tbd,List.not_mem_nil,or_false] at hx;subst hx;refine ⟨fun b ⟨y,hy,hg⟩=>?_,hv,Zae.stable _ _ _⟩;obtain ⟨E',G',rfl⟩:=Ze5 hy;exact (h _ hy).1 b hg
 ·simp only [Tbd,List.not_mem_nil,or_false] at hx;subst hx;exact hg
theorem ZeK {α:Type} (A:List α) (z x:α) (k:Nat) (i:Nat) (hi:i=A.length):(A++List.replicate (k+1) z).set i x=(A++[x])++List.replicate k z:=by
 subst hi;rw [List.set_append_right _ _ (Tai _),Nat.sub_self,List.replicate_succ,List.set_cons_zero,Tbc];rfl
theorem tks {α:Type} {l:List α} {i:Nat} {x:α} (h:l[i]?=some x):l.take (i+1)=l.take i++[x]:=by simp [List.take_add_one,h]
theorem tk0 (l:List (List C)):l.take 0=[]:=rfl
theorem nla (l:List (List C)):[]++l=l:=rfl
theorem Zsa (u:Value):Zaf [u]=[.lit u]:=rfl
theorem ZcD {e:Env} {f:FuncId} {rows:List (List C)} {post r:List D} (hb:Zcx e.P f=true) (h:rows.length<=maxLen->Con e f (.one (.sl rows)::post) r):Con e f (.one (.sl rows)::post) r:=⟨hb,fun w S vs hS hE hG hv=>by
 match vs,hv with
 | v::vs,⟨h1,h2⟩ =>
  have h1':Rep w S (.sl rows) v:=h1;obtain ⟨A,n,cap,rfl,hn,hc,hm⟩:=h1'.form;exact (h om).2 w S _ hS hE hG ⟨h1,h2⟩⟩
theorem Zd7:bulkRows []=0:=by simp [bulkRows]
def Ziv:F->Bool
 | .int=>true
 | .bool=>true
 | _=>false
theorem ZrT {fs:List F}:∀ {r:List C},fs.all Ziv=true->Zao fs r->bulkRow r=0:=by
 induction fs with
 | nil=>intro r _ h;cases r with
  | nil=>simp [bulkRow]
  | cons _ _=>simp [Zao] at h
 | cons f fs ih =>
  intro r hf h
  cases r with
  | nil=>simp [Zao] at h
  | cons c cs =>
   simp only [Zao] at h;simp only [List.all_cons,Tar] at hf;have h2:=ih hf.2 h.2
   cases f with
   | int=>obtain ⟨n,rfl,_⟩:=ZbS h.1;simp [bulkRow,ZaT,h2]
   | bool=>obtain ⟨n,rfl⟩:=Zpa h.1;simp [bulkRow,ZaT,h2]
   | str=>simp [Ziv] at hf
   | sl t=>simp [Ziv] at hf
theorem Zrk {fs:List F} (hf:fs.all Ziv=true):∀ {rows:List (List C)},Zak fs rows->bulkRows rows=0
 | [],_=>Zd7
 | r::rs,h=>by
  simp only [Zak] at h;simp [bulkRows,ZrT hf h.1,Zrk hf h.2]
theorem ZcV {r:List C} (h:Zao (Zac .link) r):∃ (i0:Int) (r1:List (List C)) (r2:List (List C)) (r3:List (List C)) (r4:List (List C)) (r5:List (List C)),r=[.lit (.int .i64 i0),.sl r1,.sl r2,.sl r3,.sl r4,.sl r5]∧I64 i0∧Zak (Zac .int) r1∧Zak (Zac .term) r2∧Zak (Zac .term) r3∧Zak (Zac .binding) r4∧Zak (Zac .chain) r5:=by
 obtain ⟨c0,c1,c2,c3,c4,c5,rfl⟩:=len6 h.len;simp only [Zac,Zbj,occF,ZcK,sigF,Zcw,algF,Taf,Tah,redF,Zao,and_true] at h;obtain ⟨h0,h1,h2,h3,h4,h5⟩:=h;obtain ⟨i0,rfl,g0⟩:=ZbS h0;obtain ⟨r1,rfl,g1⟩:=ZbT h1;obtain ⟨r2,rfl,g2⟩:=ZbT h2;obtain ⟨r3,rfl,g3⟩:=ZbT h3;obtain ⟨r4,rfl,g4⟩:=ZbT h4;obtain ⟨r5,rfl,g5⟩:=ZbT h5;exact ⟨i0,r1,r2,r3,r4,r5,rfl,g0,g1,g2,g3,g4,g5⟩
theorem ZlX {i0:Int} {r1:List (List C)} {r2:List (List C)} {r3:List (List C)} {r4:List (List C)} {r5:List (List C)} (g0:I64 i0) (g1:Zak (Zac .int) r1) (g2:Zak (Zac .term) r2) (g3:Zak (Zac .term) r3) (g4:Zak (Zac .binding) r4) (g5:Zak (Zac .chain) r5):Zao (Zac .link) [.lit (.int .i64 i0),.sl r1,.sl r2,.sl r3,.sl r4,.sl r5]:=by
 simp only [Zac,Zbj,occF,ZcK,sigF,Zcw,algF,Taf,Tah,redF,Zao,and_true];exact ⟨Zcf g0,Zb3 g1,Zb3 g2,Zb3 g3,Zb3 g4,Zb3 g5⟩
end Go.Proofs.Ytjoaefnnnbpflaa
