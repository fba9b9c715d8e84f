/-
  Part of a proof.
-/
import Derived.Test.YtjoaefnnnbpflaaBResultsOfSaid0
import Derived.Test.YtjoaefnnnbpflaaChecked
import Derived.Test.YtjoaefnnnbpflaaRows
import Derived.Lib.Bytealg
import Derived.Deep.RegionHeld3
import Derived.Deep.QuietTactic
import Derived.BigQuiet
set_option linter.unusedSimpArgs false
set_option linter.unusedVariables false
set_option maxHeartbeats 400000000
set_option maxRecDepth 100000
namespace Go.Proofs.Ytjoaefnnnbpflaa
open Go.RowKit
section
variable {e:Env} {U:Nat->Prop} {w0:World} {S0:Nat->Prop} {nt:Nat}
theorem SimE.drew {σ:St} {a:Act} {w:World} (he:e.Ok) (h:SimE e U w0 S0 nt σ a w):SimE e U w0 S0 nt σ a { w with drawn:=w.drawn+1 }:=by
 obtain ⟨S,L,h⟩:=h;have hk:Kept e.D e.E w.heap.size w { w with drawn:=w.drawn+1 }:=⟨rfl,rfl,rfl,fun _=>Nat.le_succ _,Tah _,fun _ _ _=>rfl⟩;exact ⟨S,L,h.later (h.cls.later hk (he.keep w _ (Tah _) (fun _ _=>rfl) h.cls.g) (fun _ h=>h) (fun _ h=>.inl h)) hk (fun _ h=>h)⟩
theorem Ze8 (he:e.Ok) {id:Nat} {ops:Array Oper} {n:Nat} (hB:regB ops n=true) (hna:∀ o,(ops.toList.take n).getLast?=some o->isAl o=false) {K:St->Prop} {Q:Exit->Act->World->Prop} (hQ:∀ a w σ',K σ'->SimE e U w0 S0 nt σ' a w->Q .normal a w) {σ:St} {a:Act} {w:World}
  (hd:∀ o∈ops.toList,∀ d,o.dst=some d->d < nt) (h:SimE e U w0 S0 nt σ a w) (hp:Runs e (ops.toList.map (·.dst)) n ops.toList σ K):(Code.region id ops true).wp e.P Q a w:=by
 simp only [regB,Taq,Bool.or_eq_true,decide_eq_true_eq] at hB;obtain ⟨⟨⟨hH,hn⟩,hs⟩,hsq⟩:=hB;obtain ⟨S,L,h1⟩:=h.drew he;refine wp_region_any he.mixed ?_;have hsplit:ops.toList=ops.toList.take n++ops.toList.drop n:=(Tbh n _).symm;have hlen:(ops.toList.take n).length=n:=by simp;omega
 have hp':Runs e (ops.toList.map (·.dst)) ((ops.toList.take n).length+0) (ops.toList.take n++ops.toList.drop n) σ K:=by rw [<- hsplit,hlen];exact hp
 obtain ⟨αs,hal,hch,hrest⟩:=Zc9 (U:=U) he w0.heap.size S0 ops.toList (ops.toList.drop n) 0 (ops.toList.take n) σ (fun _=>hna) hp';rw [hlen] at hal
 have inv0:InvA e U w0 S0 nt σ.m ops n σ.s αs L (Array.replicate ops.size false) a { w with drawn:=w.drawn+1 } S :=
  ⟨⟨by simp,fun j oj _ hl=>(by rw [getD_replicate_false] at hl;cases hl),fun t _ ht=>getD_in (by simpa using ht) (getD_replicate_false _ _)⟩,h1.size,h1.defers,h1.cls,h1.kept,fun t _=>h1.rel t,fun i o d α _ hl=>(by rw [getD_replicate_false] at hl;cases hl)⟩
 have H:=Zb0 (e:=e) (L:=L) (Q:=Q) he hH hn (fun hlt=>by
   rcases hs with hs | hs
   ·omega
   ·exact hs) hsq (fun i o d hi ho hdd=>hd o (List.mem_iff_getElem?.2 ⟨i,by simpa using ho⟩) d hdd) hal hch (ZiN hH Q) (fun _ _ _ _ _ _ _ _ _ _ _ _ _ _=>trivial) (fun listed a' w' S' hI _ hall=>?_) n _ a _ S inv0 trivial ?_
 ·rw [show n+(ops.size - n)=ops.size by omega] at H;exact H
 ·have hsim:SimE e U w0 S0 nt ⟨after σ.s (ops.toList.take n) αs,σ.m⟩ a' w':=by
   refine ⟨S',L,hI.cls,fun t=>?_,hI.size,hI.defers,hI.kept⟩;by_cases hex:∃ (j:Nat) (p:Oper),j < n∧ops[j]?=some p∧p.dst=some t
   ·obtain ⟨j,p,hj,hp,hpt⟩:=hex;obtain ⟨p',d',hP⟩:=ZbI.get hH hj;have hpp:p'=p:=by have:=hP.op;rw [hp] at this;injection this with this;exact this.symm
    subst hpp;have hdt:d'=t:=by have:=hP.dst;rw [hpt] at this;injection this with this;exact this.symm
    subst hdt;obtain ⟨α,hα⟩:∃ α,αs[j]?=some α:=⟨αs[j],Taa om⟩;show ARel w' S' L (gs (after σ.s (ops.toList.take n) αs) d') _;rw [Zcj (ops.toList.take n) αs σ.s j p' α (by rw [List.getElem?_take,if_pos hj];simpa using hp) hα hpt (fun k q hk hq=>by
     rw [List.getElem?_take] at hq;split at hq
     ·exact (hP.dep k q om (by simpa using hq)).1 hk
     ·cases hq)]
    exact hI.done j p' d' α hj (hall j hj) hp hpt hα
   ·have hno:∀ (j:Nat) (p:Oper),j < n->ops[j]?=some p->p.dst≠some t:=fun j p hj hp hd=>hex ⟨j,p,hj,hp,hd⟩;show ARel w' S' L (gs (after σ.s (ops.toList.take n) αs) t) _;rw [ZbO _ _ _ (fun p hp=>by
     obtain ⟨j,hj⟩:=List.mem_iff_getElem?.1 hp;rw [List.getElem?_take] at hj;split at hj
     ·exact hno j p om (by simpa using hj)
     ·cases hj)]
    exact hI.out t hno
  have:=Zjc he ops.toList hQ (ops.toList.drop n) _ a' w' (fun o ho=>hd o (List.mem_of_mem_drop ho)) hsim hrest;simpa using this
 ·rw [List.countP_eq_length.2]
  ·simp
  ·intro i hi;have hi':=List.mem_range.1 hi;have hsz:i < (Array.replicate ops.size false).size:=by simp;omega
   rw [ZcH hsz,getD_replicate_false];rfl
theorem ZhT (mask t:Nat):∀ (s:List (Nat × A)),gs (ZbS mask s) t=gs s t∨gs (ZbS mask s) t=.undef
 | []=>.inl rfl
 | (k,a)::r=>by
  have key:∀ (s:List (Nat × A)),mask.testBit t=false->gs (ZbS mask s) t=.undef:=by
   intro s ht
   induction s with
   | nil=>rfl
   | cons p s ih =>
    obtain ⟨k,a⟩:=p;simp only [ZbS];split
    ·rename_i hk;have:t≠k:=fun e=>by rw [e,hk] at ht;cases ht
     simp only [gs,this,if_false];exact ih
    ·exact ih
  cases ht:mask.testBit t with
  | false=>exact .inr (key _ ht)
  | true =>
   left;have key2:∀ (s:List (Nat × A)),gs (ZbS mask s) t=gs s t:=by
    intro s
    induction s with
    | nil=>rfl
    | cons p s ih =>
     obtain ⟨k,a⟩:=p;simp only [ZbS];split
     ·simp only [gs,ih]
     ·rename_i hk;have:t≠k:=fun e=>hk (by rw [<- e];exact ht);simp only [gs,this,if_false];exact ih
   exact key2 _
theorem Zfr {s:List (Nat × A)} {t:Nat}:∀ {r:List (Nat × A)},Zbt s r->gs r t=gs s t∨gs r t=.undef
 | [],_=>.inr rfl
 | (k,a)::r,h=>by
  simp only [Zbt] at h;simp only [gs];split
  ·rename_i e;rw [e];exact .inl h.1.symm
  ·exact Zfr h.2
theorem Zfs {m:List (Nat × Bk)} {t:Nat}:∀ {r:List (Nat × Bk)} {cs:Bk},Zbu m r->gm r t=some cs->gm m t=some cs
 | [],_,_,h=>by simp [gm] at h
 | (k,a)::r,cs,h,hg=>by
  simp only [Zbu] at h;simp only [gm] at hg;split at hg
  ·rename_i e;rw [e,h.1];exact hg
  ·exact Zfs h.2 hg
theorem SimE.weak {σ σ':St} {a:Act} {w:World} (h:SimE e U w0 S0 nt σ a w) (hs:∀ t,gs σ'.s t=gs σ.s t∨gs σ'.s t=.undef) (hm:∀ t cs,gm σ'.m t=some cs->gm σ.m t=some cs):SimE e U w0 S0 nt σ' a w:=by
 obtain ⟨S,L,h⟩:=h;refine ⟨S,L,⟨h.cls.sin,h.cls.sfr,h.cls.ein,h.cls.uin,h.cls.bsz,fun k x g hk=>h.cls.mine k x g (hm k x hk),fun k x hk=>h.cls.own k x (hm k x hk),fun k k' x x' g h1 h2=>h.cls.inj k k' x x' g (hm _ _ h1) (hm _ _ h2),h.cls.g⟩,fun t=>?_,h.size,h.defers,h.kept⟩;rcases hs t with h1 | h1
 ·rw [h1];exact h.rel t
 ·rw [h1];trivial
theorem ZiO {m:List (Nat × Bk)} {base:Nat} {ρ:Operand->A} {o:Oper} {t:TypeId} {v:Value} {i:TypeInfo} (he:e.Ok) (ho:o.op=.alloc t) (hi:e.P.info? t=some i) (hv:i.zero=some v):ZaL e U base S0 m o ρ .undef:=by
 intro w S L ρv hC hr;have hb:Below w.heap.size w (w.alloc (.cells v.cells t)):=ZcX w _;unfold gives;have hrun:(execOp ρv o).run e.P w=.ok (.value (.pointer (some ⟨w.heap.size,0,none⟩))) (w.alloc (.cells v.cells t)):=by
  simp [execOp,ho,Instr.alloc,zeroValue,typeInfo,hi,hv,newVar,newRow,Result.andThen]
 rw [hrun];have hk:Kept e.D e.E w.heap.size w (w.alloc (.cells v.cells t)):=Kept.of_below hb (fun _=>Tah _);exact ⟨S,⟨fun _ h=>h,fun _ h=>.inl h⟩,hC.later hk (he.keep _ _ hb.size (fun b hE=>hb.block b (Taz (hC.ein b hE) hC.bsz)) hC.g) (fun _ h=>h) (fun _ h=>.inl h),hk,trivial⟩
def Zhx (e:Env) (base p d:Nat) (m:List (Nat × Bk)) (L:Lay) (t:TypeId) (v:Value) (listed:Array Bool) (a:Act) (w:World) (S:Nat->Prop):Prop :=
 listed.getD p false=true->∃ b,a.tmps.getD d undef=.pointer (some ⟨b,0,none⟩)∧base<=b∧b < w.heap.size∧¬ S b∧(∀ k bk,gm m k=some bk->¬ Zas L k bk b)∧w.heap[b]?=some (.cells v.cells t)
theorem Cls.blk_lt {m:List (Nat × Bk)} {base:Nat} {w:World} {S:Nat->Prop} {L:Lay} (h:Cls e U base S0 m w S L) {k:Nat} {bk:Bk} {g:Nat} (hk:gm m k=some bk) (hg:Zas L k bk g):g < w.heap.size:=by
 have ho:=h.own k bk hk;exact (Own1.lt ho hg).1
theorem Zft (he:e.Ok) {ops:Array Oper} {p:Nat} (hAl:Zdq ops p=true) (hB:regB ops (p+1)=true) {K:St->Prop} {Q:Exit->Act->World->Prop} (hQ:∀ a w σ',K σ'->SimE e U w0 S0 nt σ' a w->Q .normal a w) {σ:St} {a:Act} {w:World}
  (hd:∀ o∈ops.toList,∀ d,o.dst=some d->d < nt) (h:SimE e U w0 S0 nt σ a w) (hp:Runs e (ops.toList.map (·.dst)) (p+1) ops.toList σ K):wpAny e.P .any ops Q ops.size (Array.replicate ops.size false) a w:=by
 simp only [regB,Taq,Bool.or_eq_true,decide_eq_true_eq] at hB;obtain ⟨⟨⟨hH,hn⟩,hs⟩,hsq⟩:=hB;unfold Zdq at hAl;split at hAl;rotate_left
 ·cases hAl
 rename_i o0 hop;unfold isAl at hAl;split at hAl;rotate_left
 ·cases hAl
 rename_i d t ty pos af;obtain ⟨S,L,h1⟩:=h;have hsplit:ops.toList=ops.toList.take p++ops.toList.drop p:=(Tbh p _).symm;have hlen:(ops.toList.take p).length=p:=by simp;omega
 have hp':Runs e (ops.toList.map (·.dst)) ((ops.toList.take p).length+1) (ops.toList.take p++ops.toList.drop p) σ K:=by rw [<- hsplit,hlen];exact hp
 obtain ⟨αs0,hal0,hch0,hrest0⟩:=Zc9 (U:=U) he w0.heap.size S0 ops.toList (ops.toList.drop p) 1 (ops.toList.take p) σ (fun h=>absurd h (by decide)) hp';rw [hlen] at hal0;have hpl:ops.toList[p]?=some ⟨some d,.alloc t,ty,pos,af,none⟩:=by simpa using hop
 have hdrop:ops.toList.drop p=⟨some d,.alloc t,ty,pos,af,none⟩::ops.toList.drop (p+1):=by
  rw [List.drop_eq_getElem_cons (Tac.1 hpl).1,(Tac.1 hpl).2]
 have htake:ops.toList.take (p+1)=ops.toList.take p++[⟨some d,.alloc t,ty,pos,af,none⟩]:=ZgE hpl;rw [hdrop] at hrest0;simp only [Runs,isAl,and_self,if_true] at hrest0;obtain ⟨d0,t0,cs,hd0,ht0,hz,hrest⟩:=hrest0;injection hd0 with hd0
 subst hd0;injection ht0 with ht0
 subst ht0;unfold ZaD at hz;simp only [Tau,Option.bind_eq_some_iff] at hz;obtain ⟨v,⟨i,hi,hv⟩,hcs⟩:=hz;have hG:=fun (ρ:Operand->A)=>ZiO (U:=U) (S0:=S0) (m:=σ.m) (base:=w0.heap.size) (ρ:=ρ) (o:=⟨some d,.alloc t,ty,pos,af,none⟩) he rfl hi hv;have hal:(αs0++[A.undef]).length=p+1:=by simp [hal0]
 have chain_snoc:∀ (os:List Oper) (s:List (Nat × A)) (αs:List A),ZbA e U w0.heap.size S0 σ.m ops.toList os s αs->ZbA e U w0.heap.size S0 σ.m ops.toList (os++[⟨some d,.alloc t,ty,pos,af,none⟩]) s (αs++[A.undef]):=by
  intro os
  induction os with
  | nil =>
   intro s αs hc
   cases αs with
   | nil=>exact ⟨hG _,trivial⟩
   | cons x xs=>simp [ZbA] at hc
  | cons o os ih =>
   intro s αs hc
   cases αs with
   | nil=>simp [ZbA] at hc
   | cons x xs=>exact ⟨hc.1,ih _ _ hc.2⟩
 have after_snoc:∀ (os:List Oper) (s:List (Nat × A)) (αs:List A),αs.length=os.length->after s (os++[⟨some d,.alloc t,ty,pos,af,none⟩]) (αs++[A.undef])=(d,A.undef)::after s os αs:=by
  intro os
  induction os with
  | nil =>
   intro s αs hl
   cases αs with
   | nil=>rfl
   | cons x xs=>simp at hl
  | cons o os ih =>
   intro s αs hl
   cases αs with
   | nil=>simp at hl
   | cons x xs=>exact ih _ _ (by simpa using hl)
 have hch:ZbA e U w0.heap.size S0 σ.m ops.toList (ops.toList.take (p+1)) σ.s (αs0++[A.undef]):=by rw [htake];exact chain_snoc _ _ _ hch0
 have haf:after σ.s (ops.toList.take (p+1)) (αs0++[A.undef])=(d,A.undef)::after σ.s (ops.toList.take p) αs0:=by rw [htake];exact after_snoc _ _ _ (by rw [hal0,hlen])
 have inv0:InvA e U w0 S0 nt σ.m ops (p+1) σ.s (αs0++[A.undef]) L (Array.replicate ops.size false) a w S :=
  ⟨⟨by simp,fun j oj _ hl=>(by rw [getD_replicate_false] at hl;cases hl),fun t _ ht=>getD_in (by simpa using ht) (getD_replicate_false _ _)⟩,h1.size,h1.defers,h1.cls,h1.kept,fun t _=>h1.rel t,fun i o d α _ hl=>(by rw [getD_replicate_false] at hl;cases hl)⟩
 have hJ0:Zhx e w0.heap.size p d σ.m L t v (Array.replicate ops.size false) a w S:=fun hl=>by rw [getD_replicate_false] at hl;cases hl
 have hA0:∀ {i':Nat} {o':Oper} {d':Nat},HeadAt ops (p+1) i' o' d'->i'≠p->d'≠d:=fun hA hne e'=>by
  have:=(hA.dep p _ om hop).1 (Ne.symm hne);exact this (by rw [e'])
 have hgo:ZfP e U w0 S0 nt σ.m ops (p+1) σ.s (αs0++[A.undef]) L (Zhx e w0.heap.size p d σ.m L t v) Q:=by
  intro listed a w S i' o' d' α hI hJ hA hin hr hdn hα hopd hG';by_cases hip:i'=p
  ·subst hip;have ho':o'=⟨some d,.alloc t,ty,pos,af,none⟩:=by have:=hA.op;rw [hop] at this;injection this with this;exact this.symm
   subst ho';have hdd:d'=d:=by have:=hA.dst;injection this with this;exact this.symm
   subst hdd;have hau:α=A.undef:=by rw [Tbj om,hal0] at hα;simpa using hα.symm
   subst hau;unfold Oper.wp;have hrun:(execOp a.eval ⟨some d',.alloc t,ty,pos,af,none⟩).run e.P w=.ok (.value (.pointer (some ⟨w.heap.size,0,none⟩))) (w.alloc (.cells v.cells t)):=by
    simp [execOp,Instr.alloc,zeroValue,typeInfo,hi,hv,newVar,newRow,Result.andThen]
   have hb:Below w.heap.size w (w.alloc (.cells v.cells t)):=ZcX w _;have hk:Kept e.D e.E w.heap.size w (w.alloc (.cells v.cells t)):=Kept.of_below hb (fun _=>Tah _);have hC:=hI.cls;have hC':Cls e U w0.heap.size S0 σ.m (w.alloc (.cells v.cells t)) S L:=hC.later hk (he.keep _ _ hb.size (fun b hE=>hb.block b (Taz (hC.ein b hE) hC.bsz)) hC.g) (fun _ h=>h) (fun _ h=>.inl h);rw [hrun,Oper.upon_value];refine ⟨S,hI.put hH hA hin hr hdn hα (fun _ h=>h) hC' hk trivial,fun _=>⟨w.heap.size,?_,hC.bsz,by simp,fun hs=>by have:=(hC.sin _ hs).1;omega,fun k bk hk hg=>by have:=hC.blk_lt hk hg;omega,heap_alloc_new w _⟩⟩
   rw [Zbl (by rw [hI.size];exact hdn)];simp
  ·refine Zdl (hG' w S L a.eval hI.cls hopd) fun v' w' ⟨S',hS,hC,hk,hv'⟩=>⟨S',hI.put hH hA hin hr hdn hα hS.1 hC hk hv',fun hl=>?_⟩;rw [getD_set_ne false hip] at hl;obtain ⟨b,q1,q2,q3,q4,q5,q6⟩:=hJ hl;refine ⟨b,?_,q2,Taz q3 hk.size,fun hs=>?_,q5,?_⟩
   ·rw [hA.dst,Zbl (by rw [hI.size];exact hdn),if_neg (Ne.symm (hA0 hA hip))];exact q1
   ·rcases hS.2 b hs with hs | hs
    ·exact q4 hs
    ·omega
   ·rw [hk.block b q3 (fun hE=>by have:=hI.cls.ein b hE;omega)];exact q6
 have hskp:∀ (listed:Array Bool) (a:Act) (w:World) (S:Nat->Prop) (i':Nat) (o':Oper) (d':Nat),Zhx e w0.heap.size p d σ.m L t v listed a w S->InvA e U w0 S0 nt σ.m ops (p+1) σ.s (αs0++[A.undef]) L listed a w S->HeadAt ops (p+1) i' o' d'->i' < p+1->i'∈Region.ready .any ops listed->d' < nt->o'.guard≠none->Zhx e w0.heap.size p d σ.m L t v (listed.setIfInBounds i' true) (a.put o'.dst undef) w S:=by
  intro listed a w S i' o' d' hJ hI hA hin hr hdn hg hl;have hip:i'≠p:=fun e'=>by
   subst e';have:=hA.op;rw [hop] at this;injection this with this
   rw [<- this] at hg;exact hg rfl
  rw [getD_set_ne false hip] at hl;obtain ⟨b,q1,q2⟩:=hJ hl;refine ⟨b,?_,q2⟩;rw [hA.dst,Zbl (by rw [hI.size];exact hdn),if_neg (Ne.symm (hA0 hA hip))];exact q1
 have H:=Zb0 (e:=e) (L:=L) (Q:=Q) he hH hn (fun hlt=>by
   rcases hs with hs | hs
   ·omega
   ·exact hs) hsq (fun i o d hi ho hdd=>hd o (List.mem_iff_getElem?.2 ⟨i,by simpa using ho⟩) d hdd) hal hch hgo hskp (fun listed a' w' S' hI hJ hall=>?_) (p+1) _ a _ S inv0 hJ0 ?_
 ·rw [show p+1+(ops.size - (p+1))=ops.size by omega] at H;exact H
 ·have hsim:Sim e U w0 S0 nt ⟨after σ.s (ops.toList.take (p+1)) (αs0++[A.undef]),σ.m⟩ a' w' S' L:=by
   refine ⟨hI.cls,fun t=>?_,hI.size,hI.defers,hI.kept⟩;by_cases hex:∃ (j:Nat) (p':Oper),j < p+1∧ops[j]?=some p'∧p'.dst=some t
   ·obtain ⟨j,p0,hj,hp,hpt⟩:=hex;obtain ⟨p',d',hP⟩:=ZbI.get hH hj;have hpp:p'=p0:=by have:=hP.op;rw [hp] at this;injection this with this;exact this.symm
    subst hpp;have hdt:d'=t:=by have:=hP.dst;rw [hpt] at this;injection this with this;exact this.symm
    subst hdt;obtain ⟨α,hα⟩:∃ α,(αs0++[A.undef])[j]?=some α:=⟨(αs0++[A.undef])[j],Taa om⟩;show ARel w' S' L (gs (after σ.s (ops.toList.take (p+1)) (αs0++[A.undef])) d') _;rw [Zcj (ops.toList.take (p+1)) (αs0++[A.undef]) σ.s j p' α (by rw [List.getElem?_take,if_pos hj];simpa using hp) hα hpt (fun k q hk hq=>by
     rw [List.getElem?_take] at hq;split at hq
     ·exact (hP.dep k q om (by simpa using hq)).1 hk
     ·cases hq)]
    exact hI.done j p' d' α hj (hall j hj) hp hpt hα
   ·have hno:∀ (j:Nat) (p':Oper),j < p+1->ops[j]?=some p'->p'.dst≠some t:=fun j p' hj hp hd=>hex ⟨j,p',hj,hp,hd⟩;show ARel w' S' L (gs (after σ.s (ops.toList.take (p+1)) (αs0++[A.undef])) t) _;rw [ZbO _ _ _ (fun p' hp=>by
     obtain ⟨j,hj⟩:=List.mem_iff_getElem?.1 hp;rw [List.getElem?_take] at hj;split at hj
     ·exact hno j p' om (by simpa using hj)
     ·cases hj)]
    exact hI.out t hno
  rw [haf] at hsim;obtain ⟨b,q1,q2,q3,q4,q5,q6⟩:=hJ (hall p om);have hdn:d < nt:=hd _ (List.mem_iff_getElem?.2 ⟨p,hpl⟩) d rfl;have hrv:=Zbr (w:=w') (S:=S') v.cells.toList;rw [hcs] at hrv
  have hsimB:=hsim.bornE (bk:=.var none cs) (w':=w') (b':=b) (v':=undef) (u:=a'.tmps.getD d undef) (τ:=some b) (s1:=(d,A.undef)::after σ.s (ops.toList.take p) αs0) (m1:=σ.m) (α:=.ref d 0) (S':=S') hdn (fun _ h=>h) (fun _ h=>.inl h) (fun t=>.inl rfl) (fun k x h=>h)
   (fun g hg=>by injection hg with hg;subst hg;exact ⟨q4,fun hE=>by have:=hI.cls.ein _ hE;omega,.inl q2⟩) (fun k x g hkd hx hg hb=>by injection hg with hg;subst hg;exact q5 k x hx hb)
   (Kept.refl _ _ _ _) hI.cls.g (by
    simp only [Own1,if_true];refine ⟨by simp,q3,q4,⟨v.cells,t,q6,by have:=hrv.len;simpa using this⟩,?_⟩;exact Zaf.of_vals cs v.cells.toList 0 hrv (fun j u hj=>by
     rw [Nat.zero_add];have hj':v.cells[j]?=some u:=by simpa using hj
     simp [World.cell?,q6,hj']))
   (fun g hg=>by simp only [Zas,if_true] at hg;exact .inl (by rw [hg])) (by simp [ARel,q1])
  have hsimD:SimE e U w0 S0 nt ⟨(d,.ref d 0)::Zav d ((d,A.undef)::after σ.s (ops.toList.take p) αs0),(d,.var none cs)::remM d σ.m⟩ a' w':=by
   obtain ⟨S2,L2,k1,k2,k3,k4,k5⟩:=hsimB;refine ⟨S2,L2,k1,fun t=>?_,hI.size,hI.defers,k5⟩;have:=k2 t;rw [Zbl (by rw [hI.size];exact hdn)] at this;by_cases ht:t=d
   ·rw [if_pos ht] at this;rw [ht];rw [ht] at this;exact this
   ·rw [if_neg ht] at this;exact this
  have hsimC:SimE e U w0 S0 nt ⟨(d,.ref d 0)::Zav d (after σ.s (ops.toList.take p) αs0),(d,.var none cs)::remM d σ.m⟩ a' w':=SimE.weak hsimD (fun t=>.inl (by
   by_cases ht:t=d
   ·simp [gs,ht]
   ·simp [gs,ht,Zav])) (fun t x hx=>hx)
  have:=hrest he U w0 S0 nt a' w' ops.toList Q rfl (fun o ho=>hd o (List.mem_of_mem_drop ho)) hQ hsimC;simpa using this
 ·rw [List.countP_eq_length.2]
  ·simp
  ·intro i hi;have hi':=List.mem_range.1 hi;have hsz:i < (Array.replicate ops.size false).size:=by simp;omega
   rw [ZcH hsz,getD_replicate_false];rfl
theorem ZhU (he:e.Ok) {id:Nat} {ops:Array Oper} {p:Nat} (hAl:Zdq ops p=true) (hB:regB ops (p+1)=true) {K:St->Prop} {Q:Exit->Act->World->Prop} (hQ:∀ a w σ',K σ'->SimE e U w0 S0 nt σ' a w->Q .normal a w) {σ:St} {a:Act} {w:World}
  (hd:∀ o∈ops.toList,∀ d,o.dst=some d->d < nt) (h:SimE e U w0 S0 nt σ a w) (hp:Runs e (ops.toList.map (·.dst)) (p+1) ops.toList σ K):(Code.region id ops true).wp e.P Q a w:=wp_region_any he.mixed (Zft he hAl hB hQ hd (h.drew he) hp)
theorem Zhj {P:Program} {Q:Exit->Act->World->Prop} {c:Code} {ι:Type} (I:ι->Act->World->Prop) (μ:ι->Nat) (i0:ι) {a:Act} {w:World} (h₀:I i0 a w)
  (round:∀ i a w,I i a w->c.wp P (Exit.then (fun a' w'=>∃ j,I j a' w'∧μ j < μ i) Q) a w):(Code.loop c).wp P Q a w:=by
 intro b k cs
 have key:∀ n i a w,μ i=n->I i a w ->
   ∃ e a' w',Q e a' w'∧Arrives P (lone (b.at a (.code c::.inLoop c::k)) cs w) b k cs e a' w':=by
  intro n
  induction n using Nat.strongRecOn with
  | _ n ih =>
   intro i a w hn hI;obtain ⟨e,a₁,w₁,hq,harr⟩:=round i a w hI b (.inLoop c::k) cs
   cases e with
   | normal =>
    obtain ⟨j,hI₁,hlt⟩:=hq;obtain ⟨e₂,a₂,w₂,hq₂,harr₂⟩:=ih (μ j) (hn ▸ hlt) j a₁ w₁ rfl hI₁;exact ⟨e₂,a₂,w₂,hq₂,.of_steps (Steps.trans harr (.one step_inLoop)) harr₂⟩
   | exit id=>exact ⟨_,a₁,w₁,hq,.pass (x:=.inLoop c) rfl (fun _ _=>.inl (by simp)) harr⟩
   | goto l=>exact ⟨_,a₁,w₁,hq,.pass (x:=.inLoop c) rfl (fun _ _=>.inl (by simp)) harr⟩
   | ret=>exact ⟨_,a₁,w₁,hq,.pass (x:=.inLoop c) rfl (fun _ _=>.inl (by simp)) harr⟩
   | panic ch=>exact ⟨_,a₁,w₁,hq,.pass (x:=.inLoop c) rfl (fun _ _=>.inl (by simp)) harr⟩
   | outgrown=>exact ⟨_,a₁,w₁,hq,.pass (x:=.inLoop c) rfl (fun _ _=>.inl (by simp)) harr⟩
 obtain ⟨e,a',w',hq,harr⟩:=key _ i0 a w rfl h₀;exact ⟨e,a',w',hq,.of_steps (.one step_loop) harr⟩
def Zbe (nt:Nat):Code->Bool
 | .region _ ops _=>ops.toList.all (fun o=>o.dst.all (fun d=>decide (d < nt)))
 | .seq a b=>Zbe nt a && Zbe nt b
 | .cond _ a b=>Zbe nt a && Zbe nt b
 | .block _ c=>Zbe nt c
 | .loop c=>Zbe nt c
 | _=>true
def Then (e:Env) (U:Nat->Prop) (w0:World) (S0:Nat->Prop) (nt:Nat) (K:St->Prop) (a:Act) (w:World):Prop:=∃ σ,K σ∧SimE e U w0 S0 nt σ a w
def LQ (e:Env) (U:Nat->Prop) (w0:World) (S0:Nat->Prop) (nt:Nat) (Q:PX->St->Prop):Exit->Act->World->Prop
 | .normal,a,w=>Then e U w0 S0 nt (Q .normal) a w
 | .exit id,a,w=>Then e U w0 S0 nt (Q (.exit id)) a w
 | .ret,a,w=>Then e U w0 S0 nt (Q .ret) a w
 | _,_,_=>False
def pwp (e:Env) (mask:Nat) (c:Code) (σ:St) (Q:PX->St->Prop):Prop:=e.Ok->∀ (U:Nat->Prop) (w0:World) (S0:Nat->Prop) (nt:Nat) (a:Act) (w:World),Zbe nt c=true->SimE e U w0 S0 nt σ a w->c.wp e.P (LQ e U w0 S0 nt Q) a w
def Zcp (mask:Nat) (Q:PX->St->Prop) (σ':St):Prop:=Q .normal ⟨ZbS mask σ'.s,σ'.m⟩
end
section
variable {e:Env} {mask:Nat} {σ:St} {Q:PX->St->Prop}
theorem LQ.mono {U:Nat->Prop} {w0:World} {S0:Nat->Prop} {nt:Nat} {Q Q':PX->St->Prop} (hQ:∀ p σ,Q p σ->Q' p σ) {ex:Exit} {a:Act} {w:World} (h:LQ e U w0 S0 nt Q ex a w):LQ e U w0 S0 nt Q' ex a w:=by
 cases ex with
 | normal=>exact h.elim fun σ h=>⟨σ,hQ _ _ h.1,h.2⟩
 | exit id=>exact h.elim fun σ h=>⟨σ,hQ _ _ h.1,h.2⟩
 | ret=>exact h.elim fun σ h=>⟨σ,hQ _ _ h.1,h.2⟩
 | goto l=>exact h
 | panic ch=>exact h
 | outgrown=>exact h
theorem Zca {P:St->Prop} {c:Code} (hT:Turn e σ P) (h:∀ σ',P σ'->pwp e mask c σ' Q):pwp e mask c σ Q:=fun he U w0 S0 nt a w hok hs=>by
 obtain ⟨σ',h1,h2⟩:=hT he U w0 S0 nt a w hs;exact h σ' h1 he U w0 S0 nt a w hok h2
theorem ZhV (h:Q .normal σ):pwp e mask .skip σ Q:=fun he U w0 S0 nt a w hok hs=>wp_skip ⟨σ,h,hs⟩
theorem ZhW {id:Nat} (h:Q (.exit id) σ):pwp e mask (.exit id) σ Q:=fun he U w0 S0 nt a w hok hs=>wp_exit ⟨σ,h,hs⟩
theorem ZeT (h:Q .ret σ):pwp e mask .ret σ Q:=fun he U w0 S0 nt a w hok hs=>wp_ret ⟨σ,h,hs⟩
theorem ZfQ {id:Nat} {ops:Array Oper} {draw:Bool} (n:Nat) (hn:(if draw then regX ops n else decide (n=0))=true) (hp:Runs e (ops.toList.map (·.dst)) n ops.toList σ (Zcp mask Q)):pwp e mask (.region id ops draw) σ Q:=fun he U w0 S0 nt a w hok hs=>by
 simp only [Zbe] at hok;have hd:∀ o∈ops.toList,∀ d,o.dst=some d->d < nt:=fun o ho d hd=>by
  have:=List.all_eq_true.1 hok o ho;rw [hd] at this;simpa using this
 have hQ:∀ a w σ',Zcp mask Q σ'->SimE e U w0 S0 nt σ' a w->LQ e U w0 S0 nt Q .normal a w:=fun a w σ' h1 h2 =>
  ⟨_,h1,h2.weak (fun t=>ZhT mask t σ'.s) (fun _ _ h=>h)⟩
 cases draw with
 | false =>
  have hn:n=0:=by simpa using hn
  subst hn;refine wp_region_list ?_;have:=Zjc he ops.toList hQ ops.toList _ a w hd hs hp;simpa using this
 | true =>
  have hn:regB ops n=true:=by simpa [regX] using hn
  cases n with
  | zero=>exact Ze8 he hn (by simp) hQ hd hs hp
  | succ p =>
   by_cases hA:Zdq ops p=true
   ·exact ZhU he hA hn hQ hd hs hp
   ·refine Ze8 he hn (fun o ho=>?_) hQ hd hs hp;have hle:p+1<=ops.size:=by
     simp only [regB,Taq,decide_eq_true_eq] at hn;exact hn.1.1.2
    have hlt:p < ops.size:=om;have e:(ops.toList.take (p+1)).getLast?=ops[p]?:=by
     rw [List.getLast?_eq_getElem?];simp only [Tav,Array.length_toList,Nat.min_eq_left hle,Nat.add_sub_cancel];rw [List.getElem?_take,if_pos om];simp
    rw [e] at ho;unfold Zdq at hA;rw [ho] at hA;simpa using hA
theorem ZhX {a b:Code} (h:pwp e mask a σ (fun x σ'=>match x with
  | .normal=>∃ σ1,Wk σ' σ1∧pwp e mask b σ1 Q
  | x=>Q x σ')):pwp e mask (.seq a b) σ Q:=fun he U w0 S0 nt ac w hok hs=>by
 simp only [Zbe,Taq] at hok;refine wp_seq (wp_mono (h he U w0 S0 nt ac w hok.1 hs) fun ex a' w' hq=>?_)
 cases ex with
 | normal=>obtain ⟨σ',⟨σ1,hw,h1⟩,h2⟩:=hq;exact h1 he U w0 S0 nt a' w' hok.2 (h2.weak hw.1 hw.2)
 | exit id=>exact hq
 | ret=>exact hq
 | goto l=>exact hq
 | panic ch=>exact hq
 | outgrown=>exact hq
theorem ZhY {c:Operand} {a b:Code} {t:Bool} (hc:evA σ.s c=.d (.one (.lit (.bool t)))) (h1:t=true->pwp e mask a σ Q) (h2:t=false->pwp e mask b σ Q):pwp e mask (.cond c a b) σ Q:=fun he U w0 S0 nt ac w hok hs=>by
 simp only [Zbe,Taq] at hok;obtain ⟨S,L,h'⟩:=id hs;have h3:=h'.eval c;rw [hc] at h3;refine wp_cond h3.bool ?_
 cases t
 ·simp only [Tal,if_false];exact h2 rfl he U w0 S0 nt ac w hok.2 hs
 ·simp only [if_true];exact h1 rfl he U w0 S0 nt ac w hok.1 hs
theorem ZgS {id:Nat} {c:Code} (h:pwp e mask c σ (fun x σ'=>match x with
  | .exit j=>if j=id then Q .normal σ' else Q (.exit j) σ'
  | x=>Q x σ')):pwp e mask (.block id c) σ Q:=fun he U w0 S0 nt ac w hok hs=>by
 simp only [Zbe] at hok;refine wp_block (wp_mono (h he U w0 S0 nt ac w hok hs) fun ex a' w' hq=>?_)
 cases ex with
 | normal=>exact hq
 | exit j =>
  obtain ⟨σ',h1,h2⟩:=hq;simp only [Exit.inBlock];simp only at h1;split
  ·rename_i hj;rw [if_pos hj] at h1;exact ⟨σ',h1,h2⟩
  ·rename_i hj;rw [if_neg hj] at h1;exact ⟨σ',h1,h2⟩
 | ret=>exact hq
 | goto l=>exact hq
 | panic ch=>exact hq
 | outgrown=>exact hq
theorem ZoE {c:Code} {ι:Type} (st:ι->St) (ok:ι->Prop) (μ:ι->Nat) (x0:ι) (h0:ok x0) (hs0:Zbt σ.s (st x0).s) (hm0:Zbu σ.m (st x0).m)
  (hr:∀ x,ok x->pwp e mask c (st x) (fun p σ''=>match p with
   | .normal=>∃ y,ok y∧Zbt σ''.s (st y).s∧Zbu σ''.m (st y).m∧μ y < μ x
   | p=>Q p σ'')):pwp e mask (.loop c) σ Q:=fun he U w0 S0 nt ac w hok hs=>by
 simp only [Zbe] at hok;refine Zhj (ι:=ι) (fun x a w=>ok x∧SimE e U w0 S0 nt (st x) a w) μ x0 ⟨h0,hs.weak (fun t=>Zfr hs0) (fun t cs=>Zfs hm0)⟩ fun x1 a1 w1 ⟨h1,h2⟩=>?_;refine wp_mono (hr x1 h1 he U w0 S0 nt a1 w1 hok h2) fun ex a' w' hq=>?_
 cases ex with
 | normal =>
  obtain ⟨σ',⟨y,h5,h3,h4,h6⟩,h7⟩:=hq;exact ⟨y,⟨h5,h7.weak (fun t=>Zfr h3) (fun t cs=>Zfs h4)⟩,h6⟩
 | exit id=>exact hq
 | ret=>exact hq
 | goto l=>exact hq
 | panic ch=>exact hq
 | outgrown=>exact hq
end
def Zb5:Nat->List D->List (Nat × A)
 | _,[]=>[]
 | k,x::xs=>(k,.d x)::Zb5 (k+1) xs
theorem ZhZ:∀ (xs:List D) (k t:Nat),gs (Zb5 k xs) t=if k<=t then match xs[t - k]? with
   | some x=>.d x
   | none=>.undef
  else .undef
 | [],k,t=>by simp [Zb5,gs]
 | x::xs,k,t=>by
  simp only [Zb5,gs];by_cases h1:t=k
  ·subst h1;simp
  ·rw [ZhZ xs (k+1) t];simp only [h1,if_false];by_cases h2:k+1<=t
   ·rw [if_pos h2,if_pos om,show t - k=(t - (k+1))+1 by omega];simp
   ·rw [if_neg h2];by_cases h3:k<=t
    ·omega
    ·rw [if_neg h3]
inductive RS where
 | slot (t:Nat)
 | cell (t ty:Nat)
def ZaX:List ResultVar->List RS
 | []=>[]
 | .tmp t::r=>.slot t::ZaX r
 | .cell a t::r=>.cell a t::ZaX r
def resA (P:Program) (σ:St):RS->A
 | .slot t=>gs σ.s t
 | .cell t ty=>(Zcn (ZaG P ty) (ptrA σ.m (gs σ.s t))).getD .undef
def ZbJ (P:Program) (σ:St):List RS->List D->Prop
 | [],[]=>True
 | t::ts,x::xs=>resA P σ t=.d x∧ZbJ P σ ts xs
 | _,_=>False
def retQ (P:Program) (slots:List RS) (r:List D):PX->St->Prop
 | .exit _,_=>False
 | _,σ=>∃ ks,ZbJ P (frzs ks σ) slots r
section
variable {e:Env} {U:Nat->Prop} {w0:World} {S0:Nat->Prop} {nt:Nat} {σ:St} {a:Act} {w:World} {S:Nat->Prop} {L:Lay}
theorem ZoF (h:Sim e U w0 S0 nt σ a w S L) {x:ResultVar} {rs:List RS} {t:RS} (hrs:ZaX [x]=[t]) {y:D} (hy:resA e.P σ t=.d y):∃ v,(match x with
   | .tmp t=>(pure (a.tmps.getD t undef):Sem Value)
   | .cell b t=>do loadVar t (<- asAddr (a.tmps.getD b undef))).run e.P w=.ok v w∧DRel w S y v:=by
 cases x with
 | tmp k =>
  simp only [ZaX,List.cons.injEq,and_true] at hrs;subst hrs;have:=h.rel k;simp only [resA] at hy;rw [hy] at this;exact ⟨_,rfl,this⟩
 | cell b ty =>
  simp only [ZaX,List.cons.injEq,and_true] at hrs;subst hrs;simp only [resA] at hy
  cases hl:Zcn (ZaG e.P ty) (ptrA σ.m (gs σ.s b)) with
  | none=>rw [hl] at hy;simp at hy
  | some α =>
   rw [hl] at hy;simp only [Option.getD_some] at hy;subst hy;unfold Zcn at hl;split at hl
   ·rename_i k cs hk hp;obtain ⟨u,h1,h2⟩:=ZgH h.cls hp (h.rel b) hk hl;refine ⟨u,?_,h2⟩;have hptr:∃ p,a.tmps.getD b undef=.pointer (some p):=by
     have hr:=h.rel b;unfold ptrA at hp;split at hp
     ·rename_i hx;rw [hx] at hr;simp only [ARel,DRel,Rep] at hr;obtain ⟨b',off,hv,_⟩:=hr;exact ⟨_,hv⟩
     ·rename_i hx;rw [hx] at hr;exact ⟨_,hr⟩
     ·rename_i hx;rw [hx] at hr;obtain ⟨g,_,hv⟩:=hr;exact ⟨_,hv⟩
     ·cases hp
    obtain ⟨p,hp'⟩:=hptr;rw [hp'] at h1;show Sem.run e.P (do loadVar ty (<- asAddr (a.tmps.getD b undef))) w=_;rw [hp'];simpa [Instr.loadAt,Instr.sureAddr,asAddr,Result.andThen] using h1
   ·cases hl
theorem Zey (h:Sim e U w0 S0 nt σ a w S L):∀ {l:List ResultVar} {r:List D},ZbJ e.P σ (ZaX l) r->∃ vs:List Value,(l.mapM (m:=Sem) fun (x:ResultVar)=>match x with
   | .tmp t=>(pure (a.tmps.getD t undef):Sem Value)
   | .cell b t=>do loadVar t (<- asAddr (a.tmps.getD b undef))).run e.P w=.ok vs w∧Zau w S r vs
 | [],r,hr=>by
  cases r with
  | nil=>exact ⟨[],by simp,trivial⟩
  | cons x xs=>simp [ZaX,ZbJ] at hr
 | x::l,r,hr=>by
  have hx:ZaX (x::l)=(ZaX [x]).head (by cases x <;> simp [ZaX])::ZaX l:=by cases x <;> rfl
  rw [hx] at hr
  cases r with
  | nil=>simp [ZbJ] at hr
  | cons y ys =>
   simp only [ZbJ] at hr;obtain ⟨v,h1,h2⟩:=ZoF h (x:=x) (rs:=[]) (by cases x <;> rfl) hr.1;obtain ⟨vs,h3,h4⟩:=Zey h hr.2;refine ⟨v::vs,?_,h2,h4⟩;simp only [List.mapM_cons,Sem.run_bind,Sem.run_pure,Result.andThen_ok];rw [h1];simp only [Result.andThen_ok];rw [h3];simp
end
theorem Ze9 {e:Env} {U:Nat->Prop} {w0:World} {S0:Nat->Prop} {nt:Nat} {σ:St} {a:Act} {w:World} {S:Nat->Prop} {L:Lay} {fn:Func} {r:List D} (h:Sim e U w0 S0 nt σ a w S L) (hr:ZbJ e.P σ (ZaX fn.results.toList) r) :
  ∃ v,(results fn a.tmps).run e.P w=.ok v w∧ARel w S ⟨fun _=>0,fun _=>Go.undef⟩ (retA r) v:=by
 obtain ⟨vs,h1,h2⟩:=Zey h hr
 have hrun:(fn.results.mapM (m:=Sem) fun (x:ResultVar)=>match x with
   | .tmp t=>(pure (a.tmps.getD t undef):Sem Value)
   | .cell b t=>do loadVar t (<- asAddr (a.tmps.getD b undef))).run e.P w=.ok vs.toArray w:=by
  rw [Array.mapM_eq_mapM_toList];simp only [Sem.run_map,h1,Result.andThen_ok]
 have hrun:(results fn a.tmps).run e.P w=.ok (if h:(vs.toArray).size=1 then (vs.toArray)[0] else .tuple vs.toArray) w:=by
  unfold results;rw [Sem.run_bind];exact congrArg (fun (z:Result (Array Value))=>z.andThen (fun a w''=>Sem.run e.P (pure (if h:a.size=1 then a[0] else Value.tuple a)) w'')) hrun
 match r,vs,h2,hrun with
 | [x],[v],hd,hrun=>exact ⟨v,by rw [hrun];simp,hd.1⟩
 | [],[],hd,hrun=>exact ⟨.tuple #[],by rw [hrun];simp,[],rfl,trivial⟩
 | x::y::r',v::v'::vs',hd,hrun=>exact ⟨.tuple (v::v'::vs').toArray,by rw [hrun];simp,_,rfl,hd⟩
 | [],_::_,hd,_=>simp [Zau] at hd
 | _::_,[],hd,_=>simp [Zau] at hd
 | [_],_::_::_,hd,_=>simp [Zau] at hd
 | _::_::_,[_],hd,_=>simp [Zau] at hd
theorem Zh0 {w:World} {S:Nat->Prop} {L:Lay} {args:List D} {vs:List Value} {n:Nat} (hvs:Zau w S args vs) (t:Nat):ARel w S L (gs (Zb5 0 args) t) ((vs.toArray++Array.replicate n undef).getD t undef):=by
 rw [ZhZ];simp only [Tai,if_true,Nat.sub_zero]
 cases hx:args[t]? with
 | none=>trivial
 | some x =>
  obtain ⟨v,h1,h2⟩:=hvs.get hx;have hlt:t < vs.length:=(Tac.1 h1).1;have e1:(vs.toArray++Array.replicate n undef).getD t undef=v:=by
   rw [Array.getD_eq_getD_getElem?,Array.getElem?_append_left (by simpa using hlt)];simp [h1]
  simp only [e1];exact h2
theorem ZkN {e:Env} (he:e.Ok) {f:FuncId} {fn:Func} {c:Code} {args r:List D} {ts:List RS} (mask:Nat) (hf:e.P.funcs[f]?=some fn) (hb:fn.body=some c) (hnm:(fn.name == "runtime.NumGoroutine")=false)
  (hok:Zbe fn.ntmps c=true) (hal:Nat.ble args.length fn.ntmps=true) (hres:ZaX fn.results.toList=ts) (h:pwp e mask c ⟨Zb5 0 args,[]⟩ (retQ e.P ts r)):Con e f args r:=by
 refine ⟨by unfold ZbM;rw [hf];simp [hnm,hb],fun w S vs hS hE hG hvs=>?_⟩;have hvl:=hvs.len;have hal:=Nat.le_of_ble_eq_true hal;subst hres;refine calls_of_wp hf hb ?_;have hsim:SimE e (fun _=>False) w S fn.ntmps ⟨Zb5 0 args,[]⟩ { tmps:=vs.toArray++Array.replicate (fn.ntmps - vs.toArray.size) undef,defers:=[] } w:=by
  exact ⟨S,⟨fun _=>0,fun _=>Go.undef⟩,⟨hS,fun b hb=>.inl hb,hE,fun _ h=>h.elim,Tah _,fun k x g hk=>by simp [gm] at hk,fun k x hk=>by simp [gm] at hk,fun k k' x x' g hk=>by simp [gm] at hk,hG⟩,fun t=>Zh0 hvs t,by simp;omega,rfl,Kept.refl _ _ _ _⟩
 refine wp_mono (h he _ _ _ _ _ w hok hsim) fun ex a' w' hq=>?_;have fin:∀ σ',(∃ ks,ZbJ e.P (frzs ks σ') (ZaX fn.results.toList) r)->SimE e (fun _=>False) w S fn.ntmps σ' a' w'->a'.defers=[]∧∃ v,(results fn a'.tmps).run e.P w'=.ok v w'∧∃ u,Ending.returned v=.returned u∧Kept e.D e.E w.heap.size w w'∧e.G w'∧ARel w' (fun b=>S b∨(w.heap.size<=b∧b < w'.heap.size)) ⟨fun _=>0,fun _=>Go.undef⟩ (retA r) u:=by
  intro σ' ⟨ks,h1⟩ h2;obtain ⟨S',L',h2⟩:=SimE.frzs he ks σ' h2;obtain ⟨v,h3,h4⟩:=Ze9 h2 h1;refine ⟨h2.defers,v,h3,v,rfl,⟨h2.kept.os,h2.kept.tape,h2.kept.output,h2.kept.drawn,h2.kept.size,fun b hb hE=>h2.kept.block b hb (fun h=>h.elim hE id)⟩,h2.cls.g,h4.keep (Tah _) (fun _ _ _=>rfl) (fun b hb=>?_)⟩;rcases h2.cls.sfr b hb with h | h | h
  ·exact .inl h
  ·exact .inr ⟨h,(h2.cls.sin b hb).1⟩
  ·exact h.elim
 cases ex with
 | normal=>obtain ⟨σ',h1,h2⟩:=hq;exact fin σ' h1 h2
 | ret=>obtain ⟨σ',h1,h2⟩:=hq;exact fin σ' h1 h2
 | exit id=>obtain ⟨σ',h1,h2⟩:=hq;exact h1.elim
 | goto l=>exact hq.elim
 | panic ch=>exact hq.elim
 | outgrown=>exact hq.elim
def ZkO (P:Program) (slots:List RS) (R:List D->List Bk->Prop):PX->St->Prop
 | .exit _,_=>False
 | _,σ=>∃ r ks pm,getM σ.m ks=some pm∧ks.Nodup∧pm.all pinned=true∧R r pm∧ZbJ P σ slots r
theorem ZiP {e:Env} (he:e.Ok) {f:FuncId} {fn:Func} {c:Code} {args:List D} {pm:List Bk} {R:List D->List Bk->Prop} {ts:List RS} (keys:List Nat) (mask:Nat) (hf:e.P.funcs[f]?=some fn) (hb:fn.body=some c) (hnm:(fn.name == "runtime.NumGoroutine")=false)
  (hok:Zbe fn.ntmps c=true) (hal:Nat.ble args.length fn.ntmps=true) (hres:ZaX fn.results.toList=ts) (h:pwp e mask c ⟨Zb5 0 args,zipM keys pm⟩ (ZkO e.P ts R)):ConP e f args pm R:=by
 refine ⟨by unfold ZbM;rw [hf];simp [hnm,hb],fun w S vs hS hE hG hpm hap hvs=>?_⟩;have hvl:=hvs.len;have hal:=Nat.le_of_ble_eq_true hal;subst hres;refine calls_of_wp hf hb ?_;have hsim:SimE e (Zax pm) w S fn.ntmps ⟨Zb5 0 args,zipM keys pm⟩ { tmps:=vs.toArray++Array.replicate (fn.ntmps - vs.toArray.size) undef,defers:=[] } w:=by
  have at':∀ k x,gm (zipM keys pm) k=some x->x∈pm∧Own1 w S (layB (zipM keys pm) ⟨fun _=>0,fun _=>Go.undef⟩) k x∧∀ g,Zas (layB (zipM keys pm) ⟨fun _=>0,fun _=>Go.undef⟩) k x g ↔ pblk x g:=fun k x hx=>by
   have hm:=(ZcL hx).2;exact ⟨hm,ZbT (hpm x hm).1 hx⟩
  refine ⟨S,layB (zipM keys pm) ⟨fun _=>0,fun _=>Go.undef⟩,⟨hS,fun b hb=>.inl hb,hE,fun b ⟨x,hx,hg⟩=>(hpm x hx).2 b hg,Tah _,fun k x g hx hg=>.inr ⟨x,(at' k x hx).1,((at' k x hx).2.2 g).1 hg⟩,fun k x hx=>(at' k x hx).2.1,fun k k' x x' g hx hx' hg hg'=>?_,hG⟩,fun t=>Zh0 hvs t,by simp;omega,rfl,Kept.refl _ _ _ _⟩;exact Zew hap hx hx' (((at' k x hx).2.2 g).1 hg) (((at' k' x' hx').2.2 g).1 hg')
 refine wp_mono (h he _ _ _ _ _ w hok hsim) fun ex a' w' hq=>?_
 have fin:∀ σ',(∃ r ks pm',getM σ'.m ks=some pm'∧ks.Nodup∧pm'.all pinned=true∧R r pm'∧ZbJ e.P σ' (ZaX fn.results.toList) r)->SimE e (Zax pm) w S fn.ntmps σ' a' w'->a'.defers=[]∧∃ v,(results fn a'.tmps).run e.P w'=.ok v w' ∧
   ∃ u r pm',Ending.returned v=.returned u∧R r pm'∧Kept e.D (fun b=>e.E b∨Zax pm b) w.heap.size w w'∧e.G w' ∧
   (∀ x∈pm',Za4 w' (fun b=>(S b∨Zax pm b∨(w.heap.size<=b∧b < w'.heap.size))∧¬ Zax pm' b) x∧∀ g,pblk x g->Zax pm g∨w.heap.size<=g)∧Zbd pm' ∧
   ARel w' (fun b=>(S b∨Zax pm b∨(w.heap.size<=b∧b < w'.heap.size))∧¬ Zax pm' b) ⟨fun _=>0,fun _=>Go.undef⟩ (retA r) u:=by
  intro σ' ⟨r,ks,pm',hg,hn,hp,hR,h1⟩ ⟨S',L',h2⟩;obtain ⟨v,h3,h4⟩:=Ze9 h2 h1;have hp:∀ x∈pm',pinned x=true:=fun x hx=>List.all_eq_true.1 hp x hx;have hS':∀ b,S' b->(S b∨Zax pm b∨(w.heap.size<=b∧b < w'.heap.size))∧¬ Zax pm' b:=fun b hb=>by
   refine ⟨?_,fun ⟨x,hx,hxg⟩=>?_⟩
   ·rcases h2.cls.sfr b hb with q | q | q
    ·exact .inl q
    ·exact .inr (.inr ⟨q,(h2.cls.sin b hb).1⟩)
    ·exact .inr (.inl q)
   ·obtain ⟨k,hk,hkx⟩:=Zb9 hg x hx;exact ((h2.cls.own k x hkx).lt (((Zbm (h2.cls.own k x hkx) (hp x hx)).2 b).2 hxg)).2 hb
  refine ⟨h2.defers,v,h3,v,r,pm',rfl,hR,h2.kept,h2.cls.g,fun x hx=>?_,Zc8 h2.cls.own h2.cls.inj hn hg hp,ZhO (h4.keep (Tah _) (fun _ _ _=>rfl) hS')⟩;obtain ⟨k,hk,hkx⟩:=Zb9 hg x hx;have ho:=h2.cls.own k x hkx;have hpo:=Zbm ho (hp x hx);refine ⟨(Zbm (ho.keep (Tah _) (fun _ _ _=>rfl) hS' (fun g hg'=>⟨rfl,fun hs=>hs.2 ⟨x,hx,(hpo.2 g).1 hg'⟩⟩)) (hp x hx)).1,fun g hg'=>?_⟩;rcases h2.cls.mine k x g hkx ((hpo.2 g).2 hg') with q | q
  ·exact .inr q
  ·exact .inl q
 cases ex with
 | normal=>obtain ⟨σ',h1,h2⟩:=hq;exact fin σ' h1 h2
 | ret=>obtain ⟨σ',h1,h2⟩:=hq;exact fin σ' h1 h2
 | exit id=>obtain ⟨σ',h1,h2⟩:=hq;exact h1.elim
 | goto l=>exact hq.elim
 | panic ch=>exact hq.elim
 | outgrown=>exact hq.elim
inductive Res where
 | bad
 | done (σ:St)
 | call (q:Bool) (c:Operand) (args:List Operand) (d:Option Nat) (n:Nat) (os:List Oper) (σ:St)
 | map (q:Bool) (d:Option Nat) (n:Nat) (os:List Oper) (σ:St)
 | stop (n:Nat) (os:List Oper) (σ:St)
def ZbU (x:Option St) (f:St->Res):Res :=
 match x with
 | some σ=>f σ
 | none=>.bad
def ZeU (d:Option Nat) (next:St->Res) (σ:St):Res:=next ⟨setA σ.s d .no,σ.m⟩
def ZfR (yes no:St->Res) (σ:St):Bool->Res
 | true=>yes σ
 | false=>no σ
def ZcZ (want:Bool) (yes no:St->Res) (σ:St):Option A->Res
 | some (.d (.one (.lit (.bool b))))=>ZfR yes no σ (b==want)
 | some .no=>no σ
 | _=>.bad
def qB:Nat->Bool
 | 0=>false
 | _+1=>true
def ZaM (P:Program) (d:Option Nat) (ty:TypeId) (q n:Nat) (os:List Oper) (next:St->Res):Op->St->Res
 | .alloc t,σ=>ZbU (if qB q=true then none else newE σ d (ZaD P t)) next
 | .call ⟨.value c,args,_⟩,σ=>.call (qB n) c args.toList d (n - 1) os σ
 | .makeMap _ none,σ=>.map (qB n) d (n - 1) os σ
 | op,σ=>ZbU (ZdZ P (qB n) σ d ty op) next
def Za9 (P:Program) (ds:List (Option Nat)):Nat->List Oper->St->Res
 | _,[],σ=>.done σ
 | n,⟨d,op,ty,_,_,none⟩::os,σ=>ZaM P d ty (n - 1) n os (Za9 P ds (n - 1) os) op σ
 | n,⟨d,op,ty,_,_,some (j,want)⟩::os,σ=>ZcZ want (ZaM P d ty n n os (Za9 P ds (n - 1) os) op) (ZeU d (Za9 P ds (n - 1) os)) σ ((ds[j]?.join).map (gs σ.s))
def runN (P:Program) (ds:List (Option Nat)):Nat->Nat->List Oper->St->Res
 | 0,n,os,σ=>.stop n os σ
 | _+1,_,[],σ=>.done σ
 | j+1,n,⟨d,op,ty,_,_,none⟩::os,σ=>ZaM P d ty (n - 1) n os (runN P ds j (n - 1) os) op σ
 | j+1,n,⟨d,op,ty,_,_,some (i,want)⟩::os,σ=>ZcZ want (ZaM P d ty n n os (runN P ds j (n - 1) os) op) (ZeU d (runN P ds j (n - 1) os)) σ ((ds[i]?.join).map (gs σ.s))
def ResQ (e:Env) (ds:List (Option Nat)) (K:St->Prop):Res->Prop
 | .bad=>False
 | .done σ=>K σ
 | .call q c args d n os σ=>∀ (o:Oper) (ts:Array TypeId),o.op=.call ⟨.value c,args.toArray,ts⟩->o.dst=d->Zhw e q o σ (fun σ'=>Runs e ds n os σ' K)
 | .map q d n os σ=>q=false∧∀ b:Nat,Runs e ds n os ⟨setA σ.s d (.d (.one (.lit (.map (some b))))),σ.m⟩ K
 | .stop n os σ=>Runs e ds n os σ K
theorem ZdE {e:Env} {ds:List (Option Nat)} {os:List Oper} {K:St->Prop} {n q:Nat} {next:St->Res} (ih:∀ σ,ResQ e ds K (next σ)->Runs e ds (n - 1) os σ K) {o:Oper} {σ:St} (hq:q=n∨∀ t,o.op≠.alloc t) (h:ResQ e ds K (ZaM e.P o.dst o.type q n os next o.op σ)) :
  Zhw e (qB n) o σ (fun σ'=>Runs e ds (n - 1) os σ' K):=by
 unfold ZaM at h;split at h
 ·rename_i t ho;rcases hq with hq | hq
  ·subst hq;unfold ZbU at h;split at h
   ·rename_i σ' hσ
    cases hq:qB q with
    | true=>rw [hq] at hσ;simp at hσ
    | false =>
     rw [hq] at hσ;show Zbj e o _ (fun σ'=>Runs e ds (q - 1) os σ' K);refine Zlt (σ':=σ') ?_ (ih σ' h);simp only [ho,ZdZ];exact hσ
   ·exact h.elim
  ·exact (hq t ho).elim
 ·rename_i c args ts ho;exact h o ts (by rw [ho]) rfl
 ·rename_i t ho;obtain ⟨h1,h2⟩:=h;rw [h1];exact ZhP ho h2
 ·rename_i op σ1 hne0 hne hne2 ho;unfold ZbU at h;split at h
  ·rename_i σ' hσ
   cases hq:qB n with
   | true =>
    rw [hq] at hσ;show ZcK e o _ (fun σ'=>Runs e ds (n - 1) os σ' K);exact Zqt hσ (ih σ' h)
   | false =>
    rw [hq] at hσ;show Zbj e o _ (fun σ'=>Runs e ds (n - 1) os σ' K);exact Zlt hσ (ih σ' h)
  ·exact h.elim
theorem ZgT {e:Env} {ds:List (Option Nat)} {K:St->Prop} {n:Nat} {os:List Oper} {o:Oper} {σ:St} {next:St->Res} (hg:o.guard=none) (ih:∀ σ,ResQ e ds K (next σ)->Runs e ds (n - 1) os σ K) (h:ResQ e ds K (ZaM e.P o.dst o.type (n - 1) n os next o.op σ)):Runs e ds n (o::os) σ K:=by
 have alloc:∀ t,o.op=.alloc t->qB (n - 1)=false∧∃ d cs,o.dst=some d∧ZaD e.P t=some cs∧Runs e ds (n - 1) os ⟨(d,.ref d 0)::Zav d σ.s,(d,.var none cs)::remM d σ.m⟩ K:=fun t ho=>by
  rw [ho] at h;simp only [ZaM] at h;unfold ZbU at h;split at h
  ·rename_i σ' hσ;split at hσ
   ·cases hσ
   ·rename_i hq;unfold newE at hσ;split at hσ
    ·rename_i d cs hd hz;injection hσ with hσ
     exact ⟨by simpa using hq,d,cs,hd,hz,by rw [hσ];exact ih _ h⟩
    ·cases hσ
  ·exact h.elim
 cases n with
 | zero =>
  simp only [Runs];have h1:=ZdE (n:=0) (q:=0) ih (.inl rfl) h;have h1:Zbj e o σ (fun σ'=>Runs e ds 0 os σ' K):=h1;simp only [Runs] at h1;exact Zce hg h1
 | succ n =>
  simp only [Runs,hg];by_cases hal:∃ t,o.op=.alloc t
  ·obtain ⟨t,ho⟩:=hal;obtain ⟨h1,d,cs,h2,h3,h4⟩:=alloc t ho;have hn:n=0:=by
    cases n with
    | zero=>rfl
    | succ k=>cases h1
   subst hn;have hia:isAl o=true:=by
    obtain ⟨od,oo,ot,op,oa,og⟩:=o;simp only at ho h2 hg;subst ho h2 hg;rfl
   simp only [hia,and_self,if_true];simp only [Nat.add_sub_cancel,Runs] at h4;exact ⟨d,t,cs,h2,ho,h3,h4⟩
  ·have hna:¬ (n=0∧isAl o=true):=fun ⟨_,h2⟩=>by
    unfold isAl at h2;split at h2
    ·exact hal ⟨_,rfl⟩
    ·cases h2
   rw [if_neg hna];exact ZdE ih (.inr fun t ht=>hal ⟨t,ht⟩) h
theorem ZkP {e:Env} {ds:List (Option Nat)} {K:St->Prop} {n:Nat} {os:List Oper} {o:Oper} {σ:St} {j:Nat} {want:Bool} (hg:o.guard=some (j,want)) (h:match (ds[j]?.join).map (gs σ.s) with
   | some (.d (.one (.lit (.bool b))))=>if b=want then Zhw e (qB n) o σ (fun σ'=>Runs e ds (n - 1) os σ' K) else Runs e ds (n - 1) os ⟨setA σ.s o.dst .no,σ.m⟩ K
   | some .no=>Runs e ds (n - 1) os ⟨setA σ.s o.dst .no,σ.m⟩ K
   | _=>False):Runs e ds n (o::os) σ K:=by
 cases n with
 | zero =>
  simp only [Runs];refine ZiM hg ?_;split at h
  ·rename_i b hb
   try simp only [hb]
   split at h
   ·rename_i hbw;rw [if_pos hbw];have h:Zbj e o σ (fun σ'=>Runs e ds 0 os σ' K):=h;simpa only [Runs] using h
   ·rename_i hbw;rw [if_neg hbw];have h:Runs e ds 0 os ⟨setA σ.s o.dst .no,σ.m⟩ K:=h;simpa only [Runs] using h
  ·rename_i hb
   try simp only [hb]
   have h:Runs e ds 0 os ⟨setA σ.s o.dst .no,σ.m⟩ K:=h;simpa only [Runs] using h
  ·exact h.elim
 | succ n =>
  simp only [Runs,hg];exact h
theorem Zez {e:Env} {ds:List (Option Nat)} {K:St->Prop} {n:Nat} {os:List Oper} {d:Option Nat} {op:Op} {ty:TypeId} {pos:String} {aft:Array Edge} {j:Nat} {want:Bool} {next:St->Res} (ih:∀ σ,ResQ e ds K (next σ)->Runs e ds (n - 1) os σ K) {σ:St}
  (h:ResQ e ds K (ZcZ want (ZaM e.P d ty n n os next op) (ZeU d next) σ ((ds[j]?.join).map (gs σ.s)))):Runs e ds n (⟨d,op,ty,pos,aft,some (j,want)⟩::os) σ K:=by
 refine ZkP rfl ?_;unfold ZcZ at h;split at h
 ·rename_i b hb;simp only [hb];unfold ZfR at h;split at h
  ·rename_i hbw;rw [if_pos (by simpa using hbw)];exact ZdE (o:=⟨d,op,ty,pos,aft,some (j,want)⟩) ih (.inl rfl) h
  ·rename_i hbw;rw [if_neg (by simpa using hbw)];exact ih _ h
 ·rename_i hb;simp only [hb];exact ih _ h
 ·exact h.elim
theorem Zh1 {e:Env} {ds:List (Option Nat)} {K:St->Prop} {n:Nat} {σ:St} (h:K σ):Runs e ds n [] σ K:=by
 cases n with
 | zero=>simp only [Runs];exact Zlx h
 | succ n=>exact h
theorem ZdP {e:Env} {ds:List (Option Nat)} {K:St->Prop}:∀ (os:List Oper) (n:Nat) (σ:St),ResQ e ds K (Za9 e.P ds n os σ)->Runs e ds n os σ K
 | [],n,σ,h=>Zh1 h
 | ⟨d,op,ty,pos,aft,none⟩::os,n,σ,h=>ZgT (o:=⟨d,op,ty,pos,aft,none⟩) rfl (ZdP os (n - 1)) h
 | ⟨d,op,ty,pos,aft,some (j,want)⟩::os,n,σ,h=>Zez (ZdP os (n - 1)) h
theorem Zgq {e:Env} {ds:List (Option Nat)} {K:St->Prop}:∀ (j:Nat) (os:List Oper) (n:Nat) (σ:St),ResQ e ds K (runN e.P ds j n os σ)->Runs e ds n os σ K
 | 0,os,n,σ,h=>h
 | j+1,[],n,σ,h=>Zh1 h
 | j+1,⟨d,op,ty,pos,aft,none⟩::os,n,σ,h=>ZgT (o:=⟨d,op,ty,pos,aft,none⟩) rfl (Zgq j os (n - 1)) h
 | j+1,⟨d,op,ty,pos,aft,some (i,want)⟩::os,n,σ,h=>Zez (Zgq j os (n - 1)) h
def Zhy (c:A) (xs:Option (List D)) (σ:St):Option (FuncId × List D × St) :=
 match ZbY c,xs with
 | some (f,caps),some xs=>some (f,xs++caps.map .one,σ)
 | _,_=>none
def Zhz (c:Operand) (args:List Operand):Option St->Option (FuncId × List D × St)
 | some σ=>Zhy (evA σ.s c) (dsA (args.map (evA σ.s))) σ
 | none=>none
def Zdz (q:Bool) (c:Operand) (args:List Operand) (σ:St):Option (FuncId × List D × St):=Zhz c args (frzQ q (Zb4 (args.map (evA σ.s))) σ)
def ZkQ (f:Option (FuncId × List C)) (k:Nat) (xs:Option (List D)):Option Bk->Option (FuncId × Nat × Nat × Nat × List (List C) × List D)
 | some (.buf _ ty sz rows)=>match f,xs with
  | some (f,caps),some xs=>some (f,k,ty,sz,rows,xs++caps.map .one)
  | _,_=>none
 | _=>none
def ZkR (m:List (Nat × Bk)) (f:Option (FuncId × List C)) (xs:Option (List D)):A->Option (FuncId × Nat × Nat × Nat × List (List C) × List D)
 | .buf k=>ZkQ f k xs (gm m k)
 | _=>none
def ZqU (c:Operand) (x0:Operand) (rest:List Operand) (σ:St):Option (FuncId × Nat × Nat × Nat × List (List C) × List D):=ZkR σ.m (ZbY (evA σ.s c)) (dsA (rest.map (evA σ.s))) (nrm σ.m (evA σ.s x0))
section
variable {e:Env} {mask:Nat} {σ:St} {Q:PX->St->Prop} {ds:List (Option Nat)} {K:St->Prop} {os os':List Oper} {n n':Nat} {s1 s2 s3:List (Nat × A)} {m1 m2 m3:List (Nat × Bk)}
theorem ZeA {σ':St} (h:Za9 e.P ds n os σ=.done σ') (hK:K σ'):Runs e ds n os σ K:=ZdP os n σ (by rw [h];exact hK)
theorem ZqF {ks:List Nat} {σ σ':St} (hf:frzQ false ks σ=some σ'):frzs ks σ=σ':=by
 unfold frzQ at hf;split at hf
 ·injection hf with hf
 ·simpa using hf
theorem ZfS {q:Bool} {c:Operand} {args:List Operand} {f:FuncId} {xs:List D} {σ':St} (h1:Zdz q c args σ=some (f,xs,σ')):∃ caps ys,frzQ q (Zb4 (args.map (evA σ.s))) σ=some σ'∧ZbY (evA σ'.s c)=some (f,caps)∧dsA (args.map (evA σ'.s))=some ys∧xs=ys++caps.map .one:=by
 unfold Zdz Zhz at h1;split at h1
 ·rename_i σ1 hf;unfold Zhy at h1;split at h1
  ·rename_i f' caps xs' hcal hds;simp only [Tap,Prod.mk.injEq] at h1;obtain ⟨rfl,rfl,rfl⟩:=h1;exact ⟨caps,xs',hf,hcal,hds,rfl⟩
  ·cases h1
 ·cases h1
theorem Zqu {q:Bool} {c:Operand} {args:List Operand} {f:FuncId} {xs:List D} {d:Option Nat} {r:List D} (h:Za9 e.P ds n os σ=.call q c args d n' os' ⟨s1,m1⟩) (h1:Zdz q c args ⟨s1,m1⟩=some (f,xs,⟨s2,m2⟩)) (hc:Con e f xs r) (h2:setA s2 d (retA r)=s3) (hK:Runs e ds n' os' ⟨s3,m2⟩ K):Runs e ds n os σ K:=by
 refine ZdP os n σ ?_;rw [h];intro o ts ho hd;obtain ⟨caps,ys,hf,hcal,hds,rfl⟩:=ZfS h1;exact ZoA ho hf hcal hds hc (by rw [hd,h2];exact hK)
theorem ZoG {c:Operand} {args:List Operand} {f:FuncId} {xs:List D} {d:Option Nat} (ks ks':List Nat) {pm:List Bk} {R:List D->List Bk->Prop} (h:Za9 e.P ds n os σ=.call false c args d n' os' ⟨s1,m1⟩) (h1:Zdz false c args ⟨s1,m1⟩=some (f,xs,⟨s2,m2⟩)) (hc:ConP e f xs pm R) (hpm:getM m2 ks=some pm) (hpn:pm.all pinned=true) (hn:ks.Nodup)
  (hk:Zbs (ks++ks') s2=s3) (hr:Zbv (ks++ks') m2=m3) (hK:∀ r pm',R r pm'->Runs e ds n' os' ⟨setA s3 d (retA r),zipM ks' pm'++m3⟩ K):Runs e ds n os σ K:=by
 refine ZdP os n σ ?_;rw [h];intro o ts ho hd;obtain ⟨caps,ys,hf,hcal,hds,rfl⟩:=ZfS h1;exact Zlu (Zdw _ (ZqF hf)) (fun σ'' hσ=>by subst hσ;exact ZqE ho ks ks' hn hpm hpn hcal hds hc (fun r pm' hR=>by rw [hd];simp only [hk,hr];exact hK r pm' hR))
theorem Zly {P:St->Prop} (hT:Turn e σ P) (h:∀ σ',P σ'->Runs e ds 0 os σ' K):Runs e ds 0 os σ K:=by
 simp only [Runs] at h ⊢;exact ZkM hT h
def ZfT:Res->Option (Nat × List Oper × List (Nat × A) × List (Nat × Bk))
 | .stop n os σ=>some (n,os,σ.s,σ.m)
 | _=>none
theorem Zlz (j:Nat) (h:ZfT (runN e.P ds j n os σ)=some (n',os',s1,m1)) (hK:Runs e ds n' os' ⟨s1,m1⟩ K):Runs e ds n os σ K:=by
 refine Zgq j os n σ ?_
 cases hr:runN e.P ds j n os σ with
 | stop n1 os1 σ1 =>
  rw [hr] at h;simp only [ZfT,Tap,Prod.mk.injEq] at h;obtain ⟨rfl,rfl,rfl,rfl⟩:=h;exact hK
 | _=>rw [hr] at h;cases h
theorem ZiQ {d t ty:Nat} {p:String} {ed:Array Edge} {parts:List (Nat × Operand)} {s:List (Nat × A)} {m:List (Nat × Bk)} {cs cs':List C} (hz:ZcQ e.P t=some cs) (hst:ZaP e.P t=true) (hok:cs.all Zai=true) (hf:ZbH e.P t cs (parts.map fun p=>(p.1,evA s p.2))=some cs')
  (hK:Runs e ds 0 os ⟨(d,.d (.agg cs'))::s,m⟩ K):Runs e ds 0 (⟨some d,.build t parts.toArray,ty,p,ed,none⟩::os) ⟨s,m⟩ K:=by
 simp only [Runs] at hK ⊢;exact Zce rfl (ZiL (o:=⟨some d,.build t parts.toArray,ty,p,ed,none⟩) rfl hz hst hok hf hK)
theorem ZoH {id:Nat} {l:List Oper} {σ1:St} (ks:List Nat) (hf:frzs ks σ=σ1) (hds:l.map (·.dst)=ds) (h:Runs e ds 0 l σ1 (Zcp mask Q)):pwp e mask (.region id l.toArray false) σ Q :=
 Zca (Zdw ks hf) (fun σ' hσ=>by subst hσ;exact ZfQ 0 rfl (by subst hds;exact h))
theorem ZoI {id:Nat} {l:List Oper} (hds:l.map (·.dst)=ds) (h:Runs e ds 0 l σ (Zcp mask Q)):pwp e mask (.region id l.toArray false) σ Q:=ZoH [] rfl hds h
theorem ZlA {id:Nat} {l:List Oper} {σ1:St} (n:Nat) (ks:List Nat) (hf:frzs ks σ=σ1) (hr:regX l.toArray n=true) (hds:l.map (·.dst)=ds) (h:Runs e ds n l σ1 (Zcp mask Q)):pwp e mask (.region id l.toArray true) σ Q :=
 Zca (Zdw ks hf) (fun σ' hσ=>by subst hσ;exact ZfQ n (by simpa using hr) (by subst hds;exact h))
theorem ZoJ {id:Nat} {l:List Oper} (n:Nat) (hr:regX l.toArray n=true) (hds:l.map (·.dst)=ds) (h:Runs e ds n l σ (Zcp mask Q)):pwp e mask (.region id l.toArray true) σ Q:=ZlA n [] rfl hr hds h
theorem Wk.refl (σ:St):Wk σ σ:=⟨fun _=>.inl rfl,fun _ _ h=>h⟩
theorem ZlB {c:Operand} {a b:Code} (hc:evA σ.s c=.d (.one (.lit (.bool true)))) (h:pwp e mask a σ Q):pwp e mask (.cond c a b) σ Q:=ZhY hc (fun _=>h) (fun h=>by cases h)
theorem ZlC {c:Operand} {a b:Code} (hc:evA σ.s c=.d (.one (.lit (.bool false)))) (h:pwp e mask b σ Q):pwp e mask (.cond c a b) σ Q:=ZhY hc (fun h=>by cases h) (fun _=>h)
theorem ZlD {P:Program} {ts:List RS} {r:List D} (h:ZbJ P σ ts r):retQ P ts r .ret σ:=⟨[],h⟩
theorem ZqG {P:Program} {ts:List RS} {r:List D} {σ1:St} (ks:List Nat) (hf:frzs ks σ=σ1) (h:ZbJ P σ1 ts r):retQ P ts r .ret σ:=⟨ks,by rw [hf];exact h⟩
end
section
variable {P:Program} {d:Option Nat} {ds:List (Option Nat)} {os:List Oper} {q n:Nat} {ty:TypeId} {nx:St->Res} {s:List (Nat × A)} {m:List (Nat × Bk)} {σ:St}
def Zbn (nx:St->Res) (s:List (Nat × A)) (m:List (Nat × Bk)) (d:Option Nat):Option A->Res
 | some α=>nx ⟨setA s d α,m⟩
 | none=>.bad
theorem ZfU {α:A}:Zbn nx s m d (some α)=nx ⟨setA s d α,m⟩:=rfl
theorem ZaU {x:Option A}:ZbU (putE ⟨s,m⟩ d x) nx=Zbn nx s m d x:=by cases x <;> rfl
theorem ZlE:Za9 P ds n [] ⟨s,m⟩=.done ⟨s,m⟩:=rfl
theorem ro_n {op:Op} {t:TypeId} {p:String} {a:Array Edge}:Za9 P ds n (⟨d,op,t,p,a,none⟩::os) ⟨s,m⟩=ZaM P d t (n - 1) n os (Za9 P ds (n - 1) os) op ⟨s,m⟩:=rfl
theorem ro_g {op:Op} {t:TypeId} {p:String} {a:Array Edge} {j:Nat} {w:Bool}:Za9 P ds n (⟨d,op,t,p,a,some (j,w)⟩::os) ⟨s,m⟩=ZcZ w (ZaM P d t n n os (Za9 P ds (n - 1) os) op) (ZeU d (Za9 P ds (n - 1) os)) ⟨s,m⟩ ((ds[j]?.join).map (gs s)):=rfl
theorem ZlF {y x:St->Res} {b w:Bool}:ZcZ w y x σ (some (.d (.one (.lit (.bool b)))))=ZfR y x σ (b==w):=rfl
theorem pk_t {y x:St->Res}:ZfR y x σ true=y σ:=rfl
theorem pk_f {y x:St->Res}:ZfR y x σ false=x σ:=rfl
theorem sk_r:ZeU d nx ⟨s,m⟩=nx ⟨setA s d .no,m⟩:=rfl
theorem g_no {y x:St->Res} {w:Bool}:ZcZ w y x σ (some .no)=x σ:=rfl
theorem qB_0:qB 0=false:=rfl
theorem qB_s {k:Nat}:qB (k+1)=true:=rfl
theorem ZlG {x:Operand}:ZaM P d ty q n os nx (.move x) ⟨s,m⟩=nx ⟨setA s d (evA s x),m⟩:=rfl
theorem ZlH {c a b:Operand}:ZaM P d ty q n os nx (.pick c a b) ⟨s,m⟩=Zbn nx s m d (Zht (evA s a) (evA s b) (evA s c)):=ZaU
theorem ZlI {t:TypeId} {x:Operand}:ZaM P d ty q n os nx (.load t x) ⟨s,m⟩=Zbn nx s m d (Zcn (ZaG P t) (ptrA m (nrm m (evA s x)))):=ZaU
theorem Zfa {t:TypeId} {x:Operand} {f:Nat}:ZaM P d ty q n os nx (.fieldAddr t x f) ⟨s,m⟩=Zbn nx s m d (Zbz (evA s x) (offT P t f)):=ZaU
theorem Zjd {t:TypeId} {x:Operand} {f:Nat}:ZaM P d ty q n os nx (.field t x f) ⟨s,m⟩=Zbn nx s m d (Zep P (evA s x) (offT P t f)):=ZaU
theorem Zfb {t:TypeId} {x i:Operand}:ZaM P d ty q n os nx (.indexAddr t x i) ⟨s,m⟩=Zbn nx s m d (ZbR m (ZaS P t) (nrm m (evA s x)) (evA s i)):=ZaU
theorem Zje {t:TypeId} {x i:Operand}:ZaM P d ty q n os nx (.index t x i) ⟨s,m⟩=Zbn nx s m d (Zeq (P.underlying t) (evA s x) (evA s i)):=ZaU
theorem Zo3 {op:BinOp} {t t':TypeId} {x y:Operand}:ZaM P d ty q n os nx (.binOp op t x y t') ⟨s,m⟩=Zbn nx s m d (binA P t op (evA s x) (evA s y)):=ZaU
theorem R_un {op:UnOp} {t:TypeId} {x:Operand}:ZaM P d ty q n os nx (.unOp op t x) ⟨s,m⟩=Zbn nx s m d (unA op (evA s x)):=ZaU
theorem ZgU {x:Operand} {i:Nat}:ZaM P d ty q n os nx (.extract x i) ⟨s,m⟩=Zbn nx s m d (Zdp i (evA s x)):=ZaU
theorem Zo4 {x:Operand}:ZaM P d ty q n os nx (.nilCheck x) ⟨s,m⟩=Zbn nx s m d (nilA (evA s x)):=ZaU
theorem ZlJ {a b:TypeId} {x:Operand}:ZaM P d ty q n os nx (.convert a b x) ⟨s,m⟩=Zbn nx s m d (ZeP P a b (evA s x)):=ZaU
theorem Zjf {t:TypeId} {x:Operand} {lo hi mx:Option Operand}:ZaM P d ty q n os nx (.slice t x lo hi mx) ⟨s,m⟩=Zbn nx s m d (ZcI P t (evA s x) (lo.map (evA s)) (hi.map (evA s)) (mx.map (evA s))):=ZaU
theorem Zo5 {args:List Operand} {ts:Array TypeId}:ZaM P d ty q n os nx (.call ⟨.builtin .len,args.toArray,ts⟩) ⟨s,m⟩=Zbn nx s m d (lenA m (lenT P ts) (args.map fun x=>nrm m (evA s x))):=ZaU
theorem Zo6 {args:List Operand} {ts:Array TypeId}:ZaM P d ty q n os nx (.call ⟨.builtin .max,args.toArray,ts⟩) ⟨s,m⟩=Zbn nx s m d (maxA (args.map (evA s))):=ZaU
theorem Zo7 {args:List Operand} {ts:Array TypeId}:ZaM P d ty q n os nx (.call ⟨.builtin .min,args.toArray,ts⟩) ⟨s,m⟩=Zbn nx s m d (minA (args.map (evA s))):=ZaU
theorem ZlK {c:Operand} {args:List Operand} {ts:Array TypeId}:ZaM P d ty q n os nx (.call ⟨.value c,args.toArray,ts⟩) ⟨s,m⟩=.call (qB n) c args d (n - 1) os ⟨s,m⟩:=rfl
def ZfV (nx:St->Res) (d:Option Nat) (f:List (Nat × A)->List (Nat × Bk)->Option A):Option St->Res
 | some σ=>Zbn nx σ.s σ.m d (f σ.s σ.m)
 | none=>.bad
theorem Zjg {f:List (Nat × A)->List (Nat × Bk)->Option A}:ZfV nx d f (some ⟨s,m⟩)=Zbn nx s m d (f s m):=rfl
theorem Zfu {op:Op} {x:Option St} {f:List (Nat × A)->List (Nat × Bk)->Option A} (h:∀ s m,Zdt P m (evA s) op=f s m):ZbU (Zdu P d op x) nx=ZfV nx d f x:=by
 cases x with
 | none=>rfl
 | some σ =>
  obtain ⟨s',m'⟩:=σ;show ZbU (putE ⟨s',m'⟩ d (Zdt P m' (evA s') op)) nx=_;rw [ZaU,h];rfl
theorem Zjh {t:TypeId} {parts:List (Nat × Operand)}:ZaM P d ty q n os nx (.build t parts.toArray) ⟨s,m⟩=ZfV nx d (fun s m=>ZdM P t (parts.map fun p=>(p.1,evA s p.2))) (frzQ (qB n) (Zb4 (parts.map fun p=>evA s p.2)) ⟨s,m⟩):=Zfu (fun _ _=>rfl)
theorem ZeB {t:TypeId} {k:Nat} {parts:List (Nat × Operand)}:ZaM P d ty q n os nx (.buildSlice t k parts.toArray) ⟨s,m⟩=ZfV nx d (fun s m=>Zch (ZaN P t) k (parts.map fun p=>(p.1,evA s p.2))) (frzQ (qB n) (Zb4 (parts.map fun p=>evA s p.2)) ⟨s,m⟩):=Zfu (fun _ _=>rfl)
theorem ZfW {f:FuncId} {caps:List Operand}:ZaM P d ty q n os nx (.makeFunc (.func f) #[] caps.toArray) ⟨s,m⟩=ZfV nx d (fun s m=>fnA f (csA (caps.map (evA s)))) (frzQ (qB n) (Zb4 (caps.map (evA s))) ⟨s,m⟩):=Zfu (fun _ _=>rfl)
theorem ZlL {q:Bool}:frzQ q [] σ=some σ:=rfl
theorem Zji {k:Nat} {ks:List Nat}:frzQ false (k::ks) σ=some (frzs (k::ks) σ):=rfl
theorem ZlM:frzs [] σ=σ:=rfl
theorem Zjj {k:Nat} {ks:List Nat}:frzs (k::ks) ⟨s,m⟩=frzs ks (frzB k ⟨s,m⟩ (gm m k)):=rfl
theorem Zjk {k:Nat} {bk:Bk}:frzB k ⟨s,m⟩ (some bk)=⟨frzS k bk s,remM k m⟩:=rfl
theorem Zjl {k:Nat}:frzB k ⟨s,m⟩ none=⟨s,m⟩:=rfl
theorem ZlN {k:Nat} {bk:Bk}:frzS k bk []=[]:=rfl
theorem Zjm {k t:Nat} {bk:Bk} {a:A} {r:List (Nat × A)}:frzS k bk ((t,a)::r)=(t,frzA k bk a)::frzS k bk r:=rfl
theorem Zh2 {k:Nat} {bk:Bk}:frzA k bk .undef=.undef:=rfl
theorem Zo8 {k:Nat} {bk:Bk}:frzA k bk .no=.no:=rfl
theorem fA_d {k:Nat} {bk:Bk} {x:D}:frzA k bk (.d x)=.d x:=rfl
theorem ZlO {k:Nat} {bk:Bk} {x:List D}:frzA k bk (.tup x)=.tup x:=rfl
theorem Zo9 {k k' off:Nat} {o:Option Nat} {cs:List C}:frzA k (.var o cs) (.ref k' off)=if k'=k then .d (.one (.ptr (cs.drop off))) else .ref k' off:=rfl
theorem Zpa {k k' off e sz:Nat} {o:Option (Option Addr × Nat)} {rows:List (List C)}:frzA k (.buf o e sz rows) (.ref k' off)=if k'=k then .undef else .ref k' off:=rfl
theorem Zpb {k k':Nat} {o:Option Nat} {cs:List C}:frzA k (.var o cs) (.buf k')=if k'=k then .undef else .buf k':=rfl
theorem Zpc {k k' e sz:Nat} {o:Option (Option Addr × Nat)} {rows:List (List C)}:frzA k (.buf o e sz rows) (.buf k')=if k'=k then .d (.one (.sl rows)) else .buf k':=rfl
theorem ZlP {k k' j sz off:Nat} {bk:Bk}:frzA k bk (.row k' j sz off)=if k'=k then .undef else .row k' j sz off:=rfl
theorem ky_d {x:D}:keyA (.d x)=[]:=rfl
theorem ZlQ {k off:Nat}:keyA (.ref k off)=[k]:=rfl
theorem ZlR {k:Nat}:keyA (.buf k)=[k]:=rfl
theorem ZlS {k j sz off:Nat}:keyA (.row k j sz off)=[]:=rfl
theorem Zjn:Zb4 []=[]:=rfl
theorem Zh3 {a:A} {r:List A}:Zb4 (a::r)=keyA a++Zb4 r:=rfl
theorem Zjo {t:TypeId}:ZaM P d ty q n os nx (.alloc t) ⟨s,m⟩=ZbU (if qB q=true then none else newE ⟨s,m⟩ d (ZaD P t)) nx:=rfl
theorem Zpd {t:TypeId} {x:Operand}:ZaM P d ty q n os nx (.box t x) ⟨s,m⟩=ZbU (if qB n=true then none else ZeS d x (frzQ (qB n) (keyA (evA s x)) ⟨s,m⟩)) nx:=rfl
theorem Zjp {t:TypeId} {x y:Operand}:ZaM P d ty q n os nx (.store t x y) ⟨s,m⟩=ZbU (if qB n=true then none else Zdv P d t x y (frzQ (qB n) (keyA (evA s y)) ⟨s,m⟩)) nx:=rfl
theorem Zh4 {x:Operand}:ZaM P d ty q n os nx (.assign x) ⟨s,m⟩=ZbU (if qB n=true then none else ZbN P ⟨s,m⟩ d ty (evA s x)) nx:=rfl
theorem Zfc {t:TypeId} {l c:Operand}:ZaM P d ty q n os nx (.makeSlice t l c) ⟨s,m⟩=ZbU (if qB n=true then none else ZdY P ⟨s,m⟩ d t (evA s l) (evA s c)) nx:=rfl
theorem Zh5 {args:List Operand} {ts:Array TypeId}:ZaM P d ty q n os nx (.call ⟨.builtin .append,args.toArray,ts⟩) ⟨s,m⟩=ZbU (if qB n=true then none else Zdi P ⟨s,m⟩ d ts (args.map fun x=>nrm m (evA s x))) nx:=rfl
theorem ZlT:ZbU (some σ) nx=nx σ:=rfl
theorem ZlU {k:Nat} {cs:List C}:newE ⟨s,m⟩ (some k) (some cs)=some ⟨(k,.ref k 0)::Zav k s,(k,.var none cs)::remM k m⟩:=rfl
theorem Zjq {x:Operand}:ZeS d x (some ⟨s,m⟩)=newE ⟨s,m⟩ d (Zbi (evA s x)):=rfl
theorem Zjr {t:TypeId} {x y:Operand}:Zdv P d t x y (some ⟨s,m⟩)=ZdN ⟨s,m⟩ d (nrm m (evA s x)) (Zbi (evA s y)) (ZaH P t):=rfl
theorem Zpe {k off k2:Nat} {us:List C}:ZdN ⟨s,m⟩ none (.ref k off) (some us) (some k2)=storeVar ⟨s,m⟩ k off k2 us (gm m k):=rfl
theorem Zpf {k j sz off k2:Nat} {us:List C}:ZdN ⟨s,m⟩ none (.row k j sz off) (some us) (some k2)=storeRow ⟨s,m⟩ k j sz off k2 us (gm m k):=rfl
theorem Zpg {o:Option Nat} {k off k2:Nat} {us cs:List C}:storeVar ⟨s,m⟩ k off k2 us (some (.var o cs))=if us.length=k2∧off+k2<=cs.length then some ⟨s,(k,.var o (cs.take off++us++cs.drop (off+k2)))::remM k m⟩ else none:=rfl
def Zh6 (s:List (Nat × A)) (m:List (Nat × Bk)) (o:Option (Option Addr × Nat)) (k j e sz off k2:Nat) (us:List C) (rows:List (List C)):Option (List C)->Option St
 | some r=>if us.length=k2∧off+k2<=r.length then some ⟨s,(k,.buf o e sz (rows.set j (r.take off++us++r.drop (off+k2))))::remM k m⟩ else none
 | none=>none
theorem Zph {o:Option (Option Addr × Nat)} {k j sz sz' off k2 e:Nat} {us:List C} {rows:List (List C)}:storeRow ⟨s,m⟩ k j sz off k2 us (some (.buf o e sz' rows))=if sz'=sz then Zh6 s m o k j e sz off k2 us rows rows[j]? else none:=by
 simp only [storeRow];split
 ·unfold Zh6;cases rows[j]? <;> rfl
 ·rfl
theorem s_bf {o:Option (Option Addr × Nat)} {k j sz off k2 e:Nat} {us r:List C} {rows:List (List C)}:Zh6 s m o k j e sz off k2 us rows (some r)=if us.length=k2∧off+k2<=r.length then some ⟨s,(k,.buf o e sz (rows.set j (r.take off++us++r.drop (off+k2))))::remM k m⟩ else none:=rfl
theorem Zjs {o:Option Nat} {cs:List C}:varA (some (.var o cs))=some cs:=rfl
theorem Zjt {o:Option (Option Addr × Nat)} {j sz sz' e:Nat} {rows:List (List C)}:rowA j sz (some (.buf o e sz' rows))=if sz'=sz then rows[j]? else none:=rfl
theorem Zpi {k:Nat} {c:C}:ZbN P ⟨s,m⟩ (some k) ty (.d (.one c))=some ⟨(k,.d (.one c))::s,m⟩:=rfl
theorem Zpj {k:Nat} {c:List C}:ZbN P ⟨s,m⟩ (some k) ty (.d (.agg c))=some ⟨(k,.d (.agg c))::s,m⟩:=rfl
theorem ZlV {k:Nat} {r:List C} {rs:List (List C)}:ZbN P ⟨s,m⟩ (some k) ty (.d (.clip (r::rs)))=some ⟨(k,.d (.clip (r::rs)))::s,m⟩:=rfl
theorem Zpk {k:Nat}:ZbN P ⟨s,m⟩ (some k) ty (.d (.clip []))=newB ⟨s,m⟩ k (ZaN P ty):=rfl
theorem Zpl {k:Nat} {x:List D}:ZbN P ⟨s,m⟩ (some k) ty (.tup x)=some ⟨(k,.tup x)::s,m⟩:=rfl
theorem Zpm {k k' off:Nat}:ZbN P ⟨s,m⟩ (some k) ty (.ref k' off)=some ⟨(k,.ref k' off)::s,m⟩:=rfl
theorem Zpn {k k':Nat}:ZbN P ⟨s,m⟩ (some k) ty (.buf k')=ZeR ⟨s,m⟩ k' k (gm m k'):=rfl
theorem Zju {o:Option (Option Addr × Nat)} {k k' e sz:Nat} {rows:List (List C)}:ZeR ⟨s,m⟩ k k' (some (.buf o e sz rows))=if k=k' then some ⟨(k',.buf k')::s,m⟩ else some (ownE ⟨s,m⟩ k k' (.buf o e sz rows)):=rfl
theorem Zjv {k e sz b:Nat}:newB ⟨s,m⟩ k (some (e,sz,b))=some ⟨(k,.buf k)::Zav k s,(k,.buf none e sz [])::remM k m⟩:=rfl
theorem Zjw {k:Nat}:newB ⟨s,m⟩ k none=some ⟨(k,.d (.clip []))::s,m⟩:=rfl
theorem Zpo {k k':Nat} {bk:Bk}:ownE ⟨s,m⟩ k k' bk=⟨(k',.buf k')::Zav k' (Zav k s),(k',bk)::remM k' (remM k m)⟩:=rfl
theorem ZlW {k:Nat}:Zav k []=[]:=rfl
theorem ZlX {k k' off t:Nat} {r:List (Nat × A)}:Zav k ((t,.ref k' off)::r)=(t,if k'=k then .undef else .ref k' off)::Zav k r:=rfl
theorem ZlY {k k' t:Nat} {r:List (Nat × A)}:Zav k ((t,.buf k')::r)=(t,if k'=k then .undef else .buf k')::Zav k r:=rfl
theorem ZlZ {k k' j sz off t:Nat} {r:List (Nat × A)}:Zav k ((t,.row k' j sz off)::r)=(t,if k'=k then .undef else .row k' j sz off)::Zav k r:=rfl
theorem kl_d {k t:Nat} {x:D} {r:List (Nat × A)}:Zav k ((t,.d x)::r)=(t,.d x)::Zav k r:=rfl
theorem Zl0 {k t:Nat} {x:List D} {r:List (Nat × A)}:Zav k ((t,.tup x)::r)=(t,.tup x)::Zav k r:=rfl
theorem Zh7 {k t:Nat} {r:List (Nat × A)}:Zav k ((t,.undef)::r)=(t,.undef)::Zav k r:=rfl
theorem Zpp {k t:Nat} {r:List (Nat × A)}:Zav k ((t,.no)::r)=(t,.no)::Zav k r:=rfl
theorem Zl1 {k:Nat}:remM k []=[]:=rfl
theorem Zjx {k t:Nat} {a:Bk} {r:List (Nat × Bk)}:remM k ((t,a)::r)=if t=k then remM k r else (t,a)::remM k r:=rfl
def appX (s:List (Nat × A)) (m:List (Nat × Bk)) (k e sz:Nat) (y:A) (ys:List (List C)):A->Option St
 | .buf k'=>if ZfH k' y=true then none else ZdO ⟨s,m⟩ k k' e sz ys (gm m k')
 | .d (.clip rows)=>if Zay sz rows=true∧rows.length+ys.length<=maxApp∧(rows.isEmpty || !ys.isEmpty)=true then some ⟨(k,.buf k)::Zav k s,(k,.buf none e sz (rows++ys))::remM k m⟩ else none
 | _=>none
def appA (s:List (Nat × A)) (m:List (Nat × Bk)) (k:Nat) (x y:A):Option (TypeId × Nat × Nat)->Option (List (List C))->Option St
 | some (e,sz,_),some ys=>if Zay sz ys=true then appX s m k e sz y ys x else none
 | _,_=>none
theorem Zpq {k:Nat} {t:TypeId} {x y:A}:Zdi P ⟨s,m⟩ (some k) #[t,t] [x,y]=appA s m k x y (ZaN P t) (slA m y):=by
 unfold Zdi appA;simp only [List.getElem?_toArray,Tas,Tat,if_true]
 cases ZaN P t with
 | none=>rfl
 | some b =>
  obtain ⟨e,sz,b⟩:=b
  cases slA m y with
  | none=>rfl
  | some ys =>
   simp only;split
   ·cases x with
    | d x=>cases x <;> rfl
    | _=>rfl
   ·rfl
theorem Zjy {k e sz b:Nat} {x y:A} {ys:List (List C)}:appA s m k x y (some (e,sz,b)) (some ys)=if Zay sz ys=true then appX s m k e sz y ys x else none:=rfl
theorem Zl2 {k k' e sz:Nat} {y:A} {ys:List (List C)}:appX s m k e sz y ys (.buf k')=if ZfH k' y=true then none else ZdO ⟨s,m⟩ k k' e sz ys (gm m k'):=rfl
theorem Zjz {k e sz:Nat} {y:A} {ys rows:List (List C)}:appX s m k e sz y ys (.d (.clip rows))=if Zay sz rows=true∧rows.length+ys.length<=maxApp∧(rows.isEmpty || !ys.isEmpty)=true then some ⟨(k,.buf k)::Zav k s,(k,.buf none e sz (rows++ys))::remM k m⟩ else none:=rfl
theorem ZjA {o:Option (Option Addr × Nat)} {k k' e e' sz sz':Nat} {ys rows:List (List C)}:ZdO ⟨s,m⟩ k k' e sz ys (some (.buf o e' sz' rows))=if e'=e∧sz'=sz∧rows.length+ys.length<=maxApp then some (ownE ⟨s,m⟩ k' k (.buf none e' sz (rows++ys))) else none:=rfl
theorem ib_d {k:Nat} {x:D}:ZfH k (.d x)=false:=rfl
theorem Zl3 {k k':Nat}:ZfH k (.buf k')=(k'==k):=rfl
def ZhA (s:List (Nat × A)) (m:List (Nat × Bk)) (k e sz:Nat) (a b:Int):Option (List C)->Option St
 | some z=>if a=b∧0<=a∧a<=maxApp∧z.all Zai=true then some ⟨(k,.buf k)::Zav k s,(k,.buf none e sz (List.replicate a.toNat z))::remM k m⟩ else none
 | none=>none
def ZkS (P:Program) (s:List (Nat × A)) (m:List (Nat × Bk)) (k:Nat):Option Int->Option Int->Option (TypeId × Nat × Nat)->Option St
 | some a,some b,some (e,sz,_)=>ZhA s m k e sz a b (ZaD P e)
 | _,_,_=>none
theorem Zpr {k:Nat} {t:TypeId} {l c:A}:ZdY P ⟨s,m⟩ (some k) t l c=ZkS P s m k (intA l) (intA c) (ZaN P t):=by
 unfold ZdY ZkS
 cases intA l with
 | none=>rfl
 | some a =>
  cases intA c with
  | none=>rfl
  | some b =>
   cases ZaN P t with
   | none=>rfl
   | some q =>
    obtain ⟨e,sz,q⟩:=q;simp only [ZhA]
    cases ZaD P e <;> rfl
theorem ZjB {k e sz q:Nat} {a b:Int}:ZkS P s m k (some a) (some b) (some (e,sz,q))=ZhA s m k e sz a b (ZaD P e):=rfl
theorem ZjC {k e sz:Nat} {a b:Int} {z:List C}:ZhA s m k e sz a b (some z)=if a=b∧0<=a∧a<=maxApp∧z.all Zai=true then some ⟨(k,.buf k)::Zav k s,(k,.buf none e sz (List.replicate a.toNat z))::remM k m⟩ else none:=rfl
theorem Zl4 {j:Int}:intA (.d (.one (.lit (.int .i64 j))))=some j:=rfl
theorem Zps {t:Nat}:evA s (.tmp t)=gs s t:=rfl
theorem ZjD {v:Value}:evA s (.const v)=Zcg v:=rfl
theorem Zl5 {f:FuncId}:evA s (.func f)=.d (.one (.fn f [])):=rfl
theorem Zpt {k:IntKind} {i:Int}:Zcg (.int k i)=.d (.one (.lit (.int k i))):=rfl
theorem Zl6 {b:Bool}:Zcg (.bool b)=.d (.one (.lit (.bool b))):=rfl
theorem Zpu {b:ByteArray}:Zcg (.string b)=.d (.one (.lit (.string b))):=rfl
theorem t_sl:Zcg (.slice none 0 0)=.d (.clip []):=rfl
theorem Zpv {p:Option Addr}:Zcg (.pointer p)=.d (.one (.lit (.pointer p))):=rfl
theorem Zpw {l:List Value}:Zcg (.agg l.toArray)=.d (.agg (l.map toC)):=rfl
theorem ZjE {k:IntKind} {i:Int}:toC (.int k i)=.lit (.int k i):=rfl
theorem ZjF {b:ByteArray}:toC (.string b)=.lit (.string b):=rfl
theorem Zh8 {b:Bool}:toC (.bool b)=.lit (.bool b):=rfl
theorem Zl7:toC (.slice none 0 0)=.sl []:=rfl
theorem ZjG {p:Option Addr}:toC (.pointer p)=.lit (.pointer p):=rfl
theorem ZjH {k:Nat} {a:A}:setA s (some k) a=(k,a)::s:=rfl
theorem ZjI {a:A}:setA s none a=s:=rfl
theorem Zpx {cs:List C}:ptrA m (.d (.one (.ptr cs)))=some cs:=rfl
theorem Zpy {k off:Nat}:ptrA m (.ref k off)=(varA (gm m k)).map (·.drop off):=rfl
theorem Zpz {k j sz off:Nat}:ptrA m (.row k j sz off)=(rowA j sz (gm m k)).map (·.drop off):=rfl
theorem Zl8 {k:TK} {cs:List C}:Zcn (some k) (some cs)=valT k cs:=rfl
theorem ZpA {c:C} {cs:List C}:valT .one (c::cs)=some (.d (.one c)):=rfl
theorem ZpB {k:Nat} {cs:List C}:valT (.agg k) cs=if k<=cs.length then some (.d (.agg (cs.take k))) else none:=rfl
theorem ZjJ {a b:A} {t:Bool}:Zht a b (.d (.one (.lit (.bool t))))=some (if t=true then a else b):=rfl
theorem Zl9 {cs:List C} {k:Nat} {t:TypeId}:Zbz (.d (.one (.ptr cs))) (some (k,t))=some (.d (.one (.ptr (cs.drop k)))):=rfl
theorem Zma {b off k:Nat} {t:TypeId}:Zbz (.ref b off) (some (k,t))=some (.ref b (off+k)):=rfl
theorem Zmb {b j sz off k:Nat} {t:TypeId}:Zbz (.row b j sz off) (some (k,t))=some (.row b j sz (off+k)):=rfl
theorem ZpC {cs:List C} {k:Nat} {t:TypeId}:Zep P (.d (.agg cs)) (some (k,t))=Zcn (ZaG P t) (some (cs.drop k)):=rfl
theorem ZpD {k:Nat} {rows:List (List C)} {kk:IntKind} {j:Int}:ZbR m (some k) (.d (.one (.sl rows))) (.d (.one (.lit (.int kk j))))=if 0<=j then if Zay k rows=true then eltA rows[j.toNat]? else none else none:=rfl
theorem ZjK {k:Nat} {rows:List (List C)} {kk:IntKind} {j:Int}:ZbR m (some k) (.d (.clip rows)) (.d (.one (.lit (.int kk j))))=if 0<=j then if Zay k rows=true then eltA rows[j.toNat]? else none else none:=rfl
theorem Zmc {k b:Nat} {kk:IntKind} {j:Int}:ZbR m (some k) (.buf b) (.d (.one (.lit (.int kk j))))=ZfF b k j (gm m b):=rfl
theorem Zmd {o:Option (Option Addr × Nat)} {k b e sz:Nat} {j:Int} {rows:List (List C)}:ZfF b k j (some (.buf o e sz rows))=if sz=k then if 0<=j then if j.toNat < rows.length then some (.row b j.toNat sz 0) else none else none else none:=rfl
theorem ZjL {r:List C}:eltA (some r)=some (.d (.one (.ptr r))):=rfl
theorem ZpE {b:ByteArray} {kk:IntKind} {j:Int}:Zeq (some .string) (.d (.one (.lit (.string b)))) (.d (.one (.lit (.int kk j))))=if 0<=j then Zhu b[j.toNat]? else none:=rfl
theorem ZjM {b:UInt8}:Zhu (some b)=some (.d (.one (.lit (.int .u8 b.toNat)))):=rfl
theorem ZjN {v:Value}:litA (some v)=some (.d (.one (.lit v))):=rfl
theorem ZpF {op:BinOp} {t:TypeId} {a b:Value}:binA P t op (.d (.one (.lit a))) (.d (.one (.lit b)))=litA (binT P op t a b):=rfl
theorem ZpG {op:UnOp} {a:Value}:unA op (.d (.one (.lit a)))=litA (unV op a):=rfl
theorem Zme {b:Bool}:unV .not (.bool b)=some (.bool (!b)):=rfl
theorem Zmf {a:Int}:unV .neg (.int .i64 a)=some (.int .i64 (IntKind.i64.wrap (0 - a))):=rfl
theorem ZjO {x:D}:dA (some x)=some (.d x):=rfl
theorem ZpH {i:Nat} {xs:List D}:Zdp i (.tup xs)=dA xs[i]?:=rfl
theorem Zmg {cs:List C}:nilA (.d (.one (.ptr cs)))=some (.d (.one (.ptr cs))):=rfl
theorem ZpI {f:FuncId} {cs:List C}:nilA (.d (.one (.fn f cs)))=some (.d (.one (.fn f cs))):=rfl
theorem Zmh {k off:Nat}:nilA (.ref k off)=some (.ref k off):=rfl
theorem ZpJ {rows:List (List C)}:lenA m (some true) [.d (.one (.sl rows))]=some (.d (.one (.lit (.int .i64 rows.length)))):=rfl
theorem ZpK {rows:List (List C)}:lenA m (some true) [.d (.clip rows)]=some (.d (.one (.lit (.int .i64 rows.length)))):=rfl
theorem ZpL {k:Nat}:lenA m (some true) [.buf k]=lenS (bufA (gm m k)):=rfl
theorem ZpM {p:Option Addr} {k cap:Nat}:lenA m (some true) [.d (.one (.lit (.slice p k cap)))]=some (.d (.one (.lit (.int .i64 k)))):=rfl
theorem Zmi {b:ByteArray}:lenA m (some false) [.d (.one (.lit (.string b)))]=some (.d (.one (.lit (.int .i64 b.size)))):=rfl
theorem ZjP {rows:List (List C)}:lenS (some rows)=some (.d (.one (.lit (.int .i64 rows.length)))):=rfl
theorem ZpN {rows:List (List C)}:slA m (.d (.one (.sl rows)))=some rows:=rfl
theorem ZjQ {rows:List (List C)}:slA m (.d (.clip rows))=some rows:=rfl
theorem Zmj {k:Nat}:slA m (.buf k)=bufA (gm m k):=rfl
theorem ZjR {o:Option (Option Addr × Nat)} {e sz:Nat} {rows:List (List C)}:bufA (some (.buf o e sz rows))=some rows:=rfl
theorem ZpO {x y:Int}:maxA [.d (.one (.lit (.int .i64 x))),.d (.one (.lit (.int .i64 y)))]=some (.d (.one (.lit (.int .i64 (if y > x then y else x))))):=rfl
theorem ZpP {x y:Int}:minA [.d (.one (.lit (.int .i64 x))),.d (.one (.lit (.int .i64 y)))]=some (.d (.one (.lit (.int .i64 (if y < x then y else x))))):=rfl
theorem ZpQ {e sz b k:Nat} {parts:List (Nat × A)}:Zch (some (e,sz,b)) k parts=if parts.length=k∧k * sz<=16777216 then Zhv (Zcx sz 0 parts) else none:=rfl
theorem ZjS {rows:List (List C)}:Zhv (some rows)=some (.d (.clip rows)):=rfl
theorem Zmk {sz i:Nat}:Zcx sz i []=some []:=rfl
def Zh9 (sz:Nat) (r:Option (List (List C))):Option (List C)->Option (List (List C))
 | some cs=>if cs.length=sz then r.map (cs::·) else none
 | none=>none
theorem ZjT {sz i j:Nat} {x:A} {r:List (Nat × A)}:Zcx sz i ((j,x)::r)=if i=j then Zh9 sz (Zcx sz (i+1) r) (Zbi x) else none:=by
 show (if i=j then _ else _)=_;unfold Zh9;split
 ·cases Zbi x <;> rfl
 ·rfl
theorem ZjU {sz:Nat} {r:Option (List (List C))} {cs:List C}:Zh9 sz r (some cs)=if cs.length=sz then r.map (cs::·) else none:=rfl
def Zia (P:Program) (t:TypeId) (parts:List (Nat × A)):Bool->Option (List C)->Option A
 | true,some cs=>if cs.all Zai=true then aggA (ZbH P t cs parts) else none
 | _,_=>none
theorem ZpR {t:TypeId} {parts:List (Nat × A)}:ZdM P t parts=Zia P t parts (ZaP P t) (ZaD P t):=by
 unfold ZdM Zia
 cases ZaP P t <;> cases ZaD P t <;> rfl
theorem ZjV {t:TypeId} {parts:List (Nat × A)} {cs:List C}:Zia P t parts true (some cs)=if cs.all Zai=true then aggA (ZbH P t cs parts) else none:=rfl
theorem ZjW {cs:List C}:aggA (some cs)=some (.d (.agg cs)):=rfl
theorem Zml {t:TypeId} {cs:List C}:ZbH P t cs []=some cs:=rfl
def ZkT (P:Program) (t:TypeId) (cs:List C) (r:List (Nat × A)):Option (Nat × TypeId)->Option (List C)->Option (List C)
 | some (off,ft),some us=>if ZaH P ft=some us.length∧off+us.length<=cs.length then ZbH P t (cs.take off++us++cs.drop (off+us.length)) r else none
 | _,_=>none
theorem ZjX {t:TypeId} {cs:List C} {f:Nat} {x:A} {r:List (Nat × A)}:ZbH P t cs ((f,x)::r)=ZkT P t cs r (offT P t f) (Zbi x):=by
 conv=>lhs;unfold ZbH
 unfold ZkT;rcases offT P t f with _ | ⟨off,ft⟩ <;> cases Zbi x <;> rfl
theorem ZjY {t ft:TypeId} {cs us:List C} {off:Nat} {r:List (Nat × A)}:ZkT P t cs r (some (off,ft)) (some us)=if ZaH P ft=some us.length∧off+us.length<=cs.length then ZbH P t (cs.take off++us++cs.drop (off+us.length)) r else none:=rfl
def ZkU (n:Int):Option TypeDesc->Option IntKind->Option A
 | some _,some k=>some (.d (.one (.lit (.int k (k.wrap n)))))
 | _,_=>none
theorem Zmm {a b:TypeId} {k:IntKind} {j:Int}:ZeP P a b (.d (.one (.lit (.int k j))))=ZkU j (P.underlying a) (Zdo (P.underlying b)):=by
 unfold ZeP ZkU
 cases P.underlying a <;> cases Zdo (P.underlying b) <;> rfl
theorem ZjZ {t:TypeDesc} {k:IntKind} {j:Int}:ZkU j (some t) (some k)=some (.d (.one (.lit (.int k (k.wrap j))))):=rfl
theorem Zj0 {k:IntKind}:Zdo (some (.int k))=some k:=rfl
theorem Zj1 {f:FuncId} {cs:List C}:fnA f (some cs)=some (.d (.one (.fn f cs))):=rfl
theorem Zmn:csA []=some []:=rfl
theorem Zj2 {c:C} {r:List A}:csA (.d (.one c)::r)=(csA r).map (c::·):=rfl
def ZfX (lo hi mx:Option A) (k:Nat):Option (List (List C))->Option A
 | some rows=>if Zay k rows=true∧(mx.isNone || hi.isSome)=true then dA (ZdL rows (loA lo) (hiA rows.length hi) (mx.map intA)) else none
 | none=>none
def Zib (P:Program) (t:TypeId) (x:A) (lo hi mx:Option A):Option Nat->Option A
 | some k=>ZfX lo hi mx k (Zdn x)
 | none=>if ZhK (P.underlying t)∧mx=none then match strA x with
   | some s=>dA (Zgk s (loA lo) (hiA s.size hi))
   | none=>none
  else none
theorem ZpS {t:TypeId} {x:A} {lo hi mx:Option A}:ZcI P t x lo hi mx=Zib P t x lo hi mx (ZaS P t):=by
 unfold ZcI Zib ZfX
 cases ZaS P t with
 | none=>rfl
 | some k=>cases Zdn x <;> rfl
theorem Zj3 {t:TypeId} {x:A} {lo hi mx:Option A} {k:Nat}:Zib P t x lo hi mx (some k)=ZfX lo hi mx k (Zdn x):=rfl
theorem Zj4 {lo hi mx:Option A} {k:Nat} {rows:List (List C)}:ZfX lo hi mx k (some rows)=if Zay k rows=true∧(mx.isNone || hi.isSome)=true then dA (ZdL rows (loA lo) (hiA rows.length hi) (mx.map intA)) else none:=rfl
theorem Zmo {rows:List (List C)}:Zdn (.d (.one (.sl rows)))=some rows:=rfl
theorem Zic {rows:List (List C)}:Zdn (.d (.clip rows))=some rows:=rfl
theorem Zj5:loA none=some 0:=rfl
theorem Zj6 {x:A}:loA (some x)=intA x:=rfl
theorem Zj7 {k:Nat}:hiA k none=some (k:Int):=rfl
theorem Zj8 {k:Nat} {x:A}:hiA k (some x)=intA x:=rfl
theorem sl_2 {rows:List (List C)} {l h:Int}:ZdL rows (some l) (some h) none=if 0<=l∧l<=h∧h<=rows.length then some (.one (.sl ((rows.take h.toNat).drop l.toNat))) else none:=rfl
theorem sl_3 {rows:List (List C)} {l h k:Int}:ZdL rows (some l) (some h) (some (some k))=if 0<=l∧l<=h∧h<=rows.length∧k=h then some (.clip ((rows.take h.toNat).drop l.toNat)) else none:=rfl
theorem Zmp {c:C}:Zbi (.d (.one c))=if Zai c=true then some [c] else none:=rfl
theorem Zmq {cs:List C}:Zbi (.d (.agg cs))=if cs.all Zai=true then some cs else none:=rfl
theorem Zj9 {rows:List (List C)}:Zbi (.d (.clip rows))=some [.sl rows]:=rfl
theorem Zmr {k:IntKind} {i:Int}:Zai (.lit (.int k i))=true:=rfl
theorem Zka {b:Bool}:Zai (.lit (.bool b))=true:=rfl
theorem Zms {b:ByteArray}:Zai (.lit (.string b))=true:=rfl
theorem Zmt {b:Option Nat}:Zai (.lit (.map b))=true:=rfl
theorem ZpT {b:Option Addr}:Zai (.lit (.pointer b))=true:=rfl
theorem Zmu {a:Option Addr} {n c:Nat}:Zai (.lit (.slice a n c))=true:=rfl
theorem ZpU {rows:List (List C)}:Zai (.sl rows)=true:=rfl
theorem Zmv {cs:List C}:Zai (.ptr cs)=true:=rfl
theorem ZpV {f:Nat} {cs:List C}:Zai (.fn f cs)=true:=rfl
theorem Zmw:dsA []=some []:=rfl
theorem Zkb {x:D} {r:List A}:dsA (.d x::r)=(dsA r).map (x::·):=rfl
theorem ZpW {q:Bool} {c:Operand} {args:List Operand}:Zdz q c args ⟨s,m⟩=Zhz c args (frzQ q (Zb4 (args.map (evA s))) ⟨s,m⟩):=rfl
theorem cp_s {c:Operand} {args:List Operand}:Zhz c args (some ⟨s,m⟩)=Zhy (evA s c) (dsA (args.map (evA s))) ⟨s,m⟩:=rfl
theorem cp_x {f:FuncId} {caps:List C} {xs:List D}:Zhy (.d (.one (.fn f caps))) (some xs) σ=some (f,xs++caps.map .one,σ):=rfl
theorem ZpX {c x0:Operand} {rest:List Operand}:ZqU c x0 rest ⟨s,m⟩=ZkR m (ZbY (evA s c)) (dsA (rest.map (evA s))) (nrm m (evA s x0)):=rfl
theorem co_z {f:Option (FuncId × List C)} {xs:Option (List D)} {k:Nat}:ZkR m f xs (.buf k)=ZkQ f k xs (gm m k):=rfl
theorem co_y {o:Option (Option Addr × Nat)} {f:FuncId} {caps:List C} {xs:List D} {k ty sz:Nat} {rows:List (List C)}:ZkQ (some (f,caps)) k (some xs) (some (.buf o ty sz rows))=some (f,k,ty,sz,rows,xs++caps.map .one):=rfl
theorem ZpY {f:FuncId} {caps:List C}:ZbY (.d (.one (.fn f caps)))=some (f,caps):=rfl
theorem Zkc {t:Nat}:resA P ⟨s,m⟩ (.slot t)=gs s t:=rfl
theorem Zkd {t k:Nat}:resA P ⟨s,m⟩ (.cell t k)=(Zcn (ZaG P k) (ptrA m (gs s t))).getD .undef:=rfl
theorem ZpZ {x:D}:retA [x]=.d x:=rfl
theorem Zp0 {x y:D} {r:List D}:retA (x::y::r)=.tup (x::y::r):=rfl
theorem r_no:retA []=.tup []:=rfl
theorem Zmx {t:TypeId} {a b:Int}:binT P .add t (.int .i64 a) (.int .i64 b)=some (.int .i64 (IntKind.i64.wrap (a+b))):=rfl
theorem Zmy {t:TypeId} {a b:Int}:binT P .sub t (.int .i64 a) (.int .i64 b)=some (.int .i64 (IntKind.i64.wrap (a - b))):=rfl
theorem Zmz {t:TypeId} {a b:Int}:binT P .mul t (.int .i64 a) (.int .i64 b)=some (.int .i64 (IntKind.i64.wrap (a * b))):=rfl
theorem ZmA {t:TypeId} {a b:Int}:binT P .lss t (.int .i64 a) (.int .i64 b)=some (.bool (decide (a < b))):=rfl
theorem ZmB {t:TypeId} {a b:Int}:binT P .leq t (.int .i64 a) (.int .i64 b)=some (.bool (decide (a<=b))):=rfl
theorem ZmC {t:TypeId} {a b:Int}:binT P .gtr t (.int .i64 a) (.int .i64 b)=some (.bool (decide (b < a))):=rfl
theorem ZmD {t:TypeId} {a b:Int}:binT P .geq t (.int .i64 a) (.int .i64 b)=some (.bool (decide (b<=a))):=rfl
theorem ZmE {t:TypeId} {a b:Int}:binT P .eql t (.int .i64 a) (.int .i64 b)=some (.bool (decide (a=b))):=rfl
theorem ZmF {t:TypeId} {a b:Int}:binT P .neq t (.int .i64 a) (.int .i64 b)=some (.bool (!decide (a=b))):=rfl
theorem ZmG {t:TypeId} {a b:Int}:binT P .lss t (.int .u8 a) (.int .u8 b)=some (.bool (decide (a < b))):=rfl
theorem ZmH {t:TypeId} {a b:Int}:binT P .leq t (.int .u8 a) (.int .u8 b)=some (.bool (decide (a<=b))):=rfl
theorem ZmI {t:TypeId} {a b:Int}:binT P .gtr t (.int .u8 a) (.int .u8 b)=some (.bool (decide (b < a))):=rfl
theorem ZmJ {t:TypeId} {a b:Int}:binT P .geq t (.int .u8 a) (.int .u8 b)=some (.bool (decide (b<=a))):=rfl
theorem ZmK {t:TypeId} {a b:Int}:binT P .eql t (.int .u8 a) (.int .u8 b)=some (.bool (decide (a=b))):=rfl
theorem ZmL {t:TypeId} {a b:Int}:binT P .neq t (.int .u8 a) (.int .u8 b)=some (.bool (!decide (a=b))):=rfl
theorem ZmM {t:TypeId} {a b:ByteArray}:binT P .eql t (.string a) (.string b)=some (.bool (a.toList==b.toList)):=rfl
theorem ZmN {t:TypeId} {a b:ByteArray}:binT P .neq t (.string a) (.string b)=some (.bool (!(a.toList==b.toList))):=rfl
theorem ZmO {t:TypeId} {a b:ByteArray}:binT P .lss t (.string a) (.string b)=some (.bool (Go.Op.bytesLess a.toList b.toList)):=rfl
theorem ZmP {t:TypeId} {a b:Bool}:binT P .eql t (.bool a) (.bool b)=ZdX (P.underlying t) (a==b):=rfl
theorem ZmQ {t:TypeId} {a b:Bool}:binT P .neq t (.bool a) (.bool b)=ZdX (P.underlying t) (!(a==b)):=rfl
theorem bb_t {v:Bool}:ZdX (some .bool) v=some (.bool v):=rfl
theorem ZmR {t:TypeId} {a b:Int}:binT P .and t (.int .i64 a) (.int .i64 b)=some (.int .i64 (bits .and .i64 a b)):=rfl
theorem Zp1 {t:TypeId} {a b:Int}:binT P .or t (.int .i64 a) (.int .i64 b)=some (.int .i64 (bits .or .i64 a b)):=rfl
theorem ZmS {t:TypeId} {a b:Int}:binT P .xor t (.int .i64 a) (.int .i64 b)=some (.int .i64 (bits .xor .i64 a b)):=rfl
theorem ZgV {t:TypeId} {a b:Int}:binT P .andNot t (.int .i64 a) (.int .i64 b)=some (.int .i64 (bits .andNot .i64 a b)):=rfl
theorem ZmT {t:TypeId} {k:IntKind} {a b:Int}:binT P .shl t (.int .i64 a) (.int k b)=if 0<=b then some (.int .i64 (IntKind.i64.wrap (a * 2 ^ (min b.toNat 64)))) else none:=rfl
theorem ZmU {t:TypeId} {k:IntKind} {a b:Int}:binT P .shr t (.int .i64 a) (.int k b)=if 0<=b then some (.int .i64 (a.fdiv (2 ^ (min b.toNat 64)))) else none:=rfl
theorem ZmV {t:TypeId} {a b:Int}:binT P .quo t (.int .i64 a) (.int .i64 b)=if b=0 then none else some (.int .i64 (IntKind.i64.wrap (a.tdiv b))):=rfl
theorem ZmW {t:TypeId} {a b:Int}:binT P .rem t (.int .i64 a) (.int .i64 b)=if b=0 then none else some (.int .i64 (a.tmod b)):=rfl
theorem ZmX {t:TypeId} {a b:ByteArray}:binT P .add t (.string a) (.string b)=if a.size+b.size<=9223372036854775807 then some (.string (a++b)) else none:=rfl
theorem ZmY {b off k:Nat} {t:TypeId}:Zbz (.d (.one (.lit (.pointer (some ⟨b,off,none⟩))))) (some (k,t))=some (.d (.one (.lit (.pointer (some ⟨b,off+k,none⟩))))):=rfl
theorem ZmZ {p:Addr}:nilA (.d (.one (.lit (.pointer (some p)))))=some (.d (.one (.lit (.pointer (some p))))):=rfl
theorem Zm0 {b off:Nat}:nrm m (.d (.one (.lit (.pointer (some ⟨b,off,none⟩)))))=ZfG m b off (varK b m):=rfl
theorem Zp2 {p:Option Addr} {k cap:Nat}:nrm m (.d (.one (.lit (.slice p k cap))))=ZeQ m p k cap (bufK p k cap m):=rfl
theorem nr_p {cs:List C}:nrm m (.d (.one (.ptr cs)))=.d (.one (.ptr cs)):=rfl
theorem nr_s {rows:List (List C)}:nrm m (.d (.one (.sl rows)))=.d (.one (.sl rows)):=rfl
theorem nr_c {rows:List (List C)}:nrm m (.d (.clip rows))=.d (.clip rows):=rfl
theorem nr_i {k:IntKind} {i:Int}:nrm m (.d (.one (.lit (.int k i))))=.d (.one (.lit (.int k i))):=rfl
theorem Zm1 {b:ByteArray}:nrm m (.d (.one (.lit (.string b))))=.d (.one (.lit (.string b))):=rfl
theorem Zm2 {k off:Nat}:nrm m (.ref k off)=.ref k off:=rfl
theorem Zm3 {k:Nat}:nrm m (.buf k)=.buf k:=rfl
theorem Zm4 {k j sz off:Nat}:nrm m (.row k j sz off)=.row k j sz off:=rfl
theorem Zm5 {b:Nat}:varK b []=none:=rfl
theorem Zm6 {b b' k:Nat} {cs:List C} {r:List (Nat × Bk)}:varK b ((k,.var (some b') cs)::r)=if b=b' then some k else varK b r:=rfl
theorem Zm7 {b k:Nat} {cs:List C} {r:List (Nat × Bk)}:varK b ((k,.var none cs)::r)=varK b r:=rfl
theorem Zm8 {b k e sz:Nat} {o:Option (Option Addr × Nat)} {rows:List (List C)} {r:List (Nat × Bk)}:varK b ((k,.buf o e sz rows)::r)=varK b r:=rfl
theorem Zm9 {b k:Nat} {E:Nat->Prop} {G:World->Prop} {r:List (Nat × Bk)}:varK b ((k,.set E G)::r)=varK b r:=rfl
theorem Zna {p:Option Addr} {k cap:Nat}:bufK p k cap []=none:=rfl
theorem Znb {p p':Option Addr} {k cap cap' k' e sz:Nat} {rows:List (List C)} {r:List (Nat × Bk)}:bufK p k cap ((k',.buf (some (p',cap')) e sz rows)::r)=if p=p'∧k=rows.length∧cap=cap' then some k' else bufK p k cap r:=rfl
theorem Znc {p:Option Addr} {k cap k' e sz:Nat} {rows:List (List C)} {r:List (Nat × Bk)}:bufK p k cap ((k',.buf none e sz rows)::r)=bufK p k cap r:=rfl
theorem Znd {p:Option Addr} {k cap k':Nat} {o:Option Nat} {cs:List C} {r:List (Nat × Bk)}:bufK p k cap ((k',.var o cs)::r)=bufK p k cap r:=rfl
theorem Zne {p:Option Addr} {k cap k':Nat} {E:Nat->Prop} {G:World->Prop} {r:List (Nat × Bk)}:bufK p k cap ((k',.set E G)::r)=bufK p k cap r:=rfl
theorem Zke {b off k:Nat}:ZfG m b off (some k)=nrmV b off k (gm m k):=rfl
theorem Zkf {b off:Nat}:ZfG m b off none=.d (.one (.lit (.pointer (some ⟨b,off,none⟩)))):=rfl
theorem Znf {b off k b':Nat} {cs:List C}:nrmV b off k (some (.var (some b') cs))=if b=b' then .ref k off else .d (.one (.lit (.pointer (some ⟨b,off,none⟩)))):=rfl
theorem Zng {p:Option Addr} {k cap k':Nat}:ZeQ m p k cap (some k')=nrmB p k cap k' (gm m k'):=rfl
theorem Zp3 {p:Option Addr} {k cap:Nat}:ZeQ m p k cap none=.d (.one (.lit (.slice p k cap))):=rfl
theorem Znh {p p':Option Addr} {k cap cap' k' e sz:Nat} {rows:List (List C)}:nrmB p k cap k' (some (.buf (some (p',cap')) e sz rows))=if p=p'∧k=rows.length∧cap=cap' then .buf k' else .d (.one (.lit (.slice p k cap))):=rfl
theorem rn_0:runN P ds 0 n os ⟨s,m⟩=.stop n os ⟨s,m⟩:=rfl
theorem rn_n {j:Nat} {op:Op} {t:TypeId} {p:String} {a:Array Edge}:runN P ds (j+1) n (⟨d,op,t,p,a,none⟩::os) ⟨s,m⟩=ZaM P d t (n - 1) n os (runN P ds j (n - 1) os) op ⟨s,m⟩:=rfl
theorem rn_g {j:Nat} {op:Op} {t:TypeId} {p:String} {a:Array Edge} {i:Nat} {w:Bool}:runN P ds (j+1) n (⟨d,op,t,p,a,some (i,w)⟩::os) ⟨s,m⟩=ZcZ w (ZaM P d t n n os (runN P ds j (n - 1) os) op) (ZeU d (runN P ds j (n - 1) os)) ⟨s,m⟩ ((ds[i]?.join).map (gs s)):=rfl
theorem st_o:ZfT (.stop n os ⟨s,m⟩)=some (n,os,s,m):=rfl
theorem Zni {f:A->A}:mapS f []=[]:=rfl
theorem Zkg {f:A->A} {t:Nat} {a:A} {r:List (Nat × A)}:mapS f ((t,a)::r)=(t,f a)::mapS f r:=rfl
theorem Znj {k b k' off:Nat}:litV k b (.ref k' off)=if k'=k then .d (.one (.lit (.pointer (some ⟨b,off,none⟩)))) else .ref k' off:=rfl
theorem lv_d {k b:Nat} {x:D}:litV k b (.d x)=.d x:=rfl
theorem Znk {k b k':Nat}:litV k b (.buf k')=.buf k':=rfl
theorem Znl {k b k' j sz off:Nat}:litV k b (.row k' j sz off)=.row k' j sz off:=rfl
theorem Znm {k b:Nat} {xs:List D}:litV k b (.tup xs)=.tup xs:=rfl
theorem Zp4 {k b:Nat}:litV k b .no=.no:=rfl
theorem Zp5 {k b:Nat}:litV k b .undef=.undef:=rfl
theorem Znn {k k2 cap k':Nat} {p:Option Addr}:litB k p k2 cap (.buf k')=if k'=k then .d (.one (.lit (.slice p k2 cap))) else .buf k':=rfl
theorem lb_d {k k2 cap:Nat} {p:Option Addr} {x:D}:litB k p k2 cap (.d x)=.d x:=rfl
theorem Zno {k k2 cap k' off:Nat} {p:Option Addr}:litB k p k2 cap (.ref k' off)=.ref k' off:=rfl
theorem Znp {k k2 cap k' j sz off:Nat} {p:Option Addr}:litB k p k2 cap (.row k' j sz off)=.row k' j sz off:=rfl
theorem Znq {k k2 cap:Nat} {p:Option Addr} {xs:List D}:litB k p k2 cap (.tup xs)=.tup xs:=rfl
theorem Zp6 {k k2 cap:Nat} {p:Option Addr}:litB k p k2 cap .no=.no:=rfl
theorem Zp7 {k k2 cap:Nat} {p:Option Addr}:litB k p k2 cap .undef=.undef:=rfl
theorem Znr:Zbs [] s=s:=rfl
theorem Zkh {k:Nat} {ks:List Nat}:Zbs (k::ks) s=Zbs ks (Zav k s):=rfl
theorem Zns:Zbv [] m=m:=rfl
theorem Zki {k:Nat} {ks:List Nat}:Zbv (k::ks) m=Zbv ks (remM k m):=rfl
theorem Zkj {k:Nat} {ks:List Nat} {x:Bk} {xs:List Bk}:zipM (k::ks) (x::xs)=(k,x)::zipM ks xs:=rfl
theorem Znt {xs:List Bk}:zipM [] xs=[]:=rfl
theorem Zp8 {ks:List Nat}:zipM ks []=[]:=by cases ks <;> rfl
def getC:Option Bk->Option (List Bk)->Option (List Bk)
 | some x,some r=>some (x::r)
 | _,_=>none
theorem Znu:getM m []=some []:=rfl
theorem Zkk {k:Nat} {ks:List Nat}:getM m (k::ks)=getC (gm m k) (getM m ks):=by
 show (match gm m k,getM m ks with | some x,some r=>some (x::r) | _,_=>none)=_
 cases gm m k <;> cases getM m ks <;> rfl
theorem gt_c {x:Bk} {r:List Bk}:getC (some x) (some r)=some (x::r):=rfl
theorem Znv {b:Nat} {cs:List C}:pinned (.var (some b) cs)=true:=rfl
theorem Znw {q:Option Addr × Nat} {e sz:Nat} {rows:List (List C)}:pinned (.buf (some q) e sz rows)=true:=rfl
theorem Znx {E:Nat->Prop} {G:World->Prop}:pinned (.set E G)=true:=rfl
theorem Zp9 {p p':Option Addr} {k cap k' cap':Nat} {rows:List (List C)}:datC p k cap rows (.lit (.slice p' k' cap'))=if p'=p∧k'=k∧cap'=cap then .sl rows else .lit (.slice p' k' cap'):=rfl
theorem Zny {p:Option Addr} {k cap:Nat} {rows:List (List C)} {kk:IntKind} {i:Int}:datC p k cap rows (.lit (.int kk i))=.lit (.int kk i):=rfl
theorem Znz {p:Option Addr} {k cap:Nat} {rows:List (List C)} {b:ByteArray}:datC p k cap rows (.lit (.string b))=.lit (.string b):=rfl
theorem Zkl {p:Option Addr} {k cap:Nat} {rows:List (List C)} {b:Bool}:datC p k cap rows (.lit (.bool b))=.lit (.bool b):=rfl
theorem ZnA {p:Option Addr} {k cap:Nat} {rows:List (List C)} {q:Option Addr}:datC p k cap rows (.lit (.pointer q))=.lit (.pointer q):=rfl
theorem ZnB {p:Option Addr} {k cap:Nat} {rows:List (List C)} {q:Option Nat}:datC p k cap rows (.lit (.map q))=.lit (.map q):=rfl
theorem dc_s {p:Option Addr} {k cap:Nat} {rows rs:List (List C)}:datC p k cap rows (.sl rs)=.sl rs:=rfl
theorem dc_p {p:Option Addr} {k cap:Nat} {rows:List (List C)} {cs:List C}:datC p k cap rows (.ptr cs)=.ptr cs:=rfl
theorem dc_f {p:Option Addr} {k cap:Nat} {rows:List (List C)} {f:FuncId} {cs:List C}:datC p k cap rows (.fn f cs)=.fn f cs:=rfl
theorem ZnC {p:Option Addr} {k cap:Nat} {rows:List (List C)} {c:C}:datA p k cap rows (.d (.one c))=.d (.one (datC p k cap rows c)):=rfl
theorem ZnD {p:Option Addr} {k cap:Nat} {rows:List (List C)} {cs:List C}:datA p k cap rows (.d (.agg cs))=.d (.agg (cs.map (datC p k cap rows))):=rfl
theorem ZnE {p:Option Addr} {k cap k' off:Nat} {rows:List (List C)}:datA p k cap rows (.ref k' off)=.ref k' off:=rfl
theorem ZnF {p:Option Addr} {k cap:Nat} {rows:List (List C)}:datS p k cap rows [] s=s:=rfl
theorem Zkm {p:Option Addr} {k cap t:Nat} {rows:List (List C)} {ts:List Nat}:datS p k cap rows (t::ts) s=datS p k cap rows ts ((t,datA p k cap rows (gs s t))::s):=rfl
theorem ZnG {p:Option Addr} {k cap:Nat} {rows:List (List C)}:datM p k cap rows [] m=m:=rfl
theorem Zkn {p:Option Addr} {k cap t:Nat} {rows:List (List C)} {ts:List Nat}:datM p k cap rows (t::ts) m=datM p k cap rows ts (datV p k cap rows t m (gm m t)):=rfl
theorem ZnH {p:Option Addr} {k cap t:Nat} {rows:List (List C)} {o:Option Nat} {cs:List C}:datV p k cap rows t m (some (.var o cs))=(t,.var o (cs.map (datC p k cap rows)))::remM t m:=rfl
def unD:A->Option D
 | .d x=>some x
 | _=>none
def ZhB:Option D->Option (List D)->Option (List D)
 | some x,some r=>some (x::r)
 | _,_=>none
def resD (P:Program) (σ:St):List RS->Option (List D)
 | []=>some []
 | t::ts=>ZhB (unD (resA P σ t)) (resD P σ ts)
theorem ZnI:resD P ⟨s,m⟩ []=some []:=rfl
theorem Zko {t:RS} {ts:List RS}:resD P ⟨s,m⟩ (t::ts)=ZhB (unD (resA P ⟨s,m⟩ t)) (resD P ⟨s,m⟩ ts):=rfl
theorem Zkp {x:D} {r:List D}:ZhB (some x) (some r)=some (x::r):=rfl
theorem ud_d {x:D}:unD (.d x)=some x:=rfl
end
theorem Zfv {P:Program} {σ:St}:∀ {ts:List RS} {r:List D},resD P σ ts=some r->ZbJ P σ ts r
 | [],r,h=>by simp only [resD,Tap] at h;subst h;trivial
 | t::ts,r,h=>by
  simp only [resD] at h;unfold ZhB at h;split at h
  ·rename_i x r' hx hr;injection h with h;subst h
   refine ⟨?_,Zfv hr⟩;unfold unD at hx;split at hx
   ·rename_i y hy;injection hx with hx;subst hx;exact hy
   ·cases hx
  ·cases h
end Go.Proofs.Ytjoaefnnnbpflaa
set_option maxRecDepth 10000
namespace Go.Proofs.Ytjoaefnnnbpflaa
open Go.RowKit
theorem tt_0:(ZaG Try.prog 2=some .one)∧(ZaH Try.prog 2=some 1)∧(ZaD Try.prog 2=some [.lit (.int .i64 0)])∧(ZaG Try.prog 3=some .one)∧(ZaH Try.prog 3=some 1)∧(ZaD Try.prog 3=some [.lit (.int .i64 0)])∧(ZaG Try.prog 4=some .one)∧(ZaH Try.prog 4=some 1)∧(ZaD Try.prog 4=some [.lit (.bool false)])∧(Try.prog.underlying 4=some .bool)∧(ZaG Try.prog 5=some .one)∧(ZaH Try.prog 5=some 1)∧(ZaD Try.prog 5=some [.lit (.int .u8 0)])∧(ZaG Try.prog 9=some .one)∧(ZaH Try.prog 9=some 1)∧(ZaD Try.prog 9=some [.lit (.string ByteArray.empty)])∧(lenT Try.prog #[9]=some false)∧(Try.prog.underlying 9=some .string)∧(ZaG Try.prog 22=some .one)∧(ZaH Try.prog 22=some 1)∧(ZaD Try.prog 22=some [.sl []])∧(ZaS Try.prog 22=some 4)∧(lenT Try.prog #[22]=some true)∧(ZaN Try.prog 22=some (24,4,56))∧(ZaG Try.prog 24=some (.agg 4))∧(ZaH Try.prog 24=some 4)∧(ZaD Try.prog 24=some [.lit (.int .i64 0),.lit (.string ByteArray.empty),.lit (.int .i64 0),.sl []])∧(ZaP Try.prog 24=true)∧(offT Try.prog 24 0=some (0,3))∧(offT Try.prog 24 1=some (1,9))∧(offT Try.prog 24 2=some (2,3))∧(offT Try.prog 24 3=some (3,22))∧(ZaG Try.prog 25=some .one)∧(ZaH Try.prog 25=some 1)∧(ZaD Try.prog 25=some [.sl []])∧(ZaS Try.prog 25=some 6)∧(lenT Try.prog #[25]=some true)∧(ZaN Try.prog 25=some (85,6,128))∧(ZaG Try.prog 27=some (.agg 9))∧(ZaH Try.prog 27=some 9):=by repeat' (first | refine ai ?_ ?_ | kernel_rfl)
theorem tt_1:(ZaD Try.prog 27=some [.lit (.int .i64 0),.lit (.string ByteArray.empty),.lit (.int .i64 0),.sl [],.lit (.int .i64 0),.lit (.string ByteArray.empty),.lit (.int .i64 0),.sl [],.sl []])∧(ZaP Try.prog 27=true)∧(offT Try.prog 27 0=some (0,24))∧(offT Try.prog 27 1=some (4,24))∧(offT Try.prog 27 2=some (8,25))∧(ZaG Try.prog 29=some .one)∧(ZaH Try.prog 29=some 1)∧(ZaD Try.prog 29=some [.sl []])∧(ZaS Try.prog 29=some 4)∧(lenT Try.prog #[29]=some true)∧(ZaN Try.prog 29=some (31,4,56))∧(ZaG Try.prog 31=some (.agg 4))∧(ZaH Try.prog 31=some 4)∧(ZaD Try.prog 31=some [.lit (.int .i64 0),.lit (.string ByteArray.empty),.lit (.int .i64 0),.sl []])∧(ZaP Try.prog 31=true)∧(ZcQ Try.prog 31=some [.lit (.int .i64 0),.lit (.string ByteArray.empty),.lit (.int .i64 0),.lit (.slice none 0 0)])∧(offT Try.prog 31 0=some (0,3))∧(offT Try.prog 31 1=some (1,9))∧(offT Try.prog 31 2=some (2,3))∧(offT Try.prog 31 3=some (3,29))∧(ZaG Try.prog 32=some .one)∧(ZaH Try.prog 32=some 1)∧(ZaD Try.prog 32=some [.sl []])∧(ZaS Try.prog 32=some 6)∧(lenT Try.prog #[32]=some true)∧(ZaN Try.prog 32=some (89,6,128))∧(ZaG Try.prog 34=some (.agg 9))∧(ZaH Try.prog 34=some 9)∧(ZaD Try.prog 34=some [.lit (.int .i64 0),.lit (.string ByteArray.empty),.lit (.int .i64 0),.sl [],.lit (.int .i64 0),.lit (.string ByteArray.empty),.lit (.int .i64 0),.sl [],.sl []])∧(ZaP Try.prog 34=true)∧(ZcQ Try.prog 34=some [.lit (.int .i64 0),.lit (.string ByteArray.empty),.lit (.int .i64 0),.lit (.slice none 0 0),.lit (.int .i64 0),.lit (.string ByteArray.empty),.lit (.int .i64 0),.lit (.slice none 0 0),.lit (.slice none 0 0)])∧(offT Try.prog 34 0=some (0,31))∧(offT Try.prog 34 1=some (4,31))∧(offT Try.prog 34 2=some (8,32))∧(ZaG Try.prog 41=some .one)∧(ZaH Try.prog 41=some 1)∧(ZaD Try.prog 41=some [.sl []])∧(ZaS Try.prog 41=some 9)∧(lenT Try.prog #[41]=some true)∧(ZaN Try.prog 41=some (68,9,160)):=by repeat' (first | refine ai ?_ ?_ | kernel_rfl)
theorem tt_2:(ZaG Try.prog 44=some .one)∧(ZaH Try.prog 44=some 1)∧(ZaD Try.prog 44=some [.sl []])∧(ZaS Try.prog 44=some 9)∧(lenT Try.prog #[44]=some true)∧(ZaN Try.prog 44=some (74,9,160))∧(ZaG Try.prog 63=some .one)∧(ZaH Try.prog 63=some 1)∧(ZaD Try.prog 63=some [.sl []])∧(ZaS Try.prog 63=some 1)∧(lenT Try.prog #[63]=some true)∧(ZaN Try.prog 63=some (3,1,8))∧(ZaG Try.prog 64=some .one)∧(ZaH Try.prog 64=some 1)∧(ZaD Try.prog 64=some [.sl []])∧(ZaS Try.prog 64=some 8)∧(lenT Try.prog #[64]=some true)∧(ZaN Try.prog 64=some (124,8,112))∧(ZaG Try.prog 66=some (.agg 4))∧(ZaH Try.prog 66=some 4)∧(ZaD Try.prog 66=some [.sl [],.sl [],.sl [],.sl []])∧(ZaP Try.prog 66=true)∧(offT Try.prog 66 0=some (0,63))∧(offT Try.prog 66 1=some (1,22))∧(offT Try.prog 66 2=some (2,22))∧(offT Try.prog 66 3=some (3,64))∧(ZaG Try.prog 68=some (.agg 9))∧(ZaH Try.prog 68=some 9)∧(ZaD Try.prog 68=some [.lit (.int .i64 0),.sl [],.sl [],.sl [],.sl [],.lit (.int .i64 0),.lit (.string ByteArray.empty),.lit (.int .i64 0),.sl []])∧(ZaP Try.prog 68=true)∧(offT Try.prog 68 0=some (0,3))∧(offT Try.prog 68 1=some (1,66))∧(offT Try.prog 68 2=some (5,24))∧(ZaG Try.prog 70=some .one)∧(ZaH Try.prog 70=some 1)∧(ZaD Try.prog 70=some [.sl []])∧(ZaS Try.prog 70=some 8)∧(lenT Try.prog #[70]=some true)∧(ZaN Try.prog 70=some (103,8,112))∧(ZaG Try.prog 72=some (.agg 4)):=by repeat' (first | refine ai ?_ ?_ | kernel_rfl)
theorem tt_3:(ZaH Try.prog 72=some 4)∧(ZaD Try.prog 72=some [.sl [],.sl [],.sl [],.sl []])∧(ZaP Try.prog 72=true)∧(ZcQ Try.prog 72=some [.lit (.slice none 0 0),.lit (.slice none 0 0),.lit (.slice none 0 0),.lit (.slice none 0 0)])∧(offT Try.prog 72 0=some (0,63))∧(offT Try.prog 72 1=some (1,29))∧(offT Try.prog 72 2=some (2,29))∧(offT Try.prog 72 3=some (3,70))∧(ZaG Try.prog 74=some (.agg 9))∧(ZaH Try.prog 74=some 9)∧(ZaD Try.prog 74=some [.lit (.int .i64 0),.sl [],.sl [],.sl [],.sl [],.lit (.int .i64 0),.lit (.string ByteArray.empty),.lit (.int .i64 0),.sl []])∧(ZaP Try.prog 74=true)∧(ZcQ Try.prog 74=some [.lit (.int .i64 0),.lit (.slice none 0 0),.lit (.slice none 0 0),.lit (.slice none 0 0),.lit (.slice none 0 0),.lit (.int .i64 0),.lit (.string ByteArray.empty),.lit (.int .i64 0),.lit (.slice none 0 0)])∧(offT Try.prog 74 0=some (0,3))∧(offT Try.prog 74 1=some (1,72))∧(offT Try.prog 74 2=some (5,31))∧(ZaG Try.prog 83=some .one)∧(ZaH Try.prog 83=some 1)∧(ZaD Try.prog 83=some [.sl []])∧(ZaS Try.prog 83=some 9)∧(lenT Try.prog #[83]=some true)∧(ZaN Try.prog 83=some (27,9,136))∧(ZaG Try.prog 85=some (.agg 6))∧(ZaH Try.prog 85=some 6)∧(ZaD Try.prog 85=some [.lit (.int .i64 0),.sl [],.sl [],.sl [],.sl [],.sl []])∧(ZaP Try.prog 85=true)∧(offT Try.prog 85 0=some (0,3))∧(offT Try.prog 85 1=some (1,66))∧(offT Try.prog 85 2=some (5,83))∧(ZaG Try.prog 87=some .one)∧(ZaH Try.prog 87=some 1)∧(ZaD Try.prog 87=some [.sl []])∧(ZaS Try.prog 87=some 9)∧(lenT Try.prog #[87]=some true)∧(ZaN Try.prog 87=some (34,9,136))∧(ZaG Try.prog 89=some (.agg 6))∧(ZaH Try.prog 89=some 6)∧(ZaD Try.prog 89=some [.lit (.int .i64 0),.sl [],.sl [],.sl [],.sl [],.sl []])∧(ZaP Try.prog 89=true)∧(ZcQ Try.prog 89=some [.lit (.int .i64 0),.lit (.slice none 0 0),.lit (.slice none 0 0),.lit (.slice none 0 0),.lit (.slice none 0 0),.lit (.slice none 0 0)]):=by repeat' (first | refine ai ?_ ?_ | kernel_rfl)
theorem tt_4:(offT Try.prog 89 0=some (0,3))∧(offT Try.prog 89 1=some (1,72))∧(offT Try.prog 89 2=some (5,87))∧(ZaG Try.prog 90=some .one)∧(ZaH Try.prog 90=some 1)∧(ZaD Try.prog 90=some [.sl []])∧(ZaS Try.prog 90=some 4)∧(lenT Try.prog #[90]=some true)∧(ZaN Try.prog 90=some (72,4,96))∧(ZaG Try.prog 103=some (.agg 8))∧(ZaH Try.prog 103=some 8)∧(ZaD Try.prog 103=some [.lit (.int .i64 0),.lit (.string ByteArray.empty),.lit (.int .i64 0),.sl [],.lit (.int .i64 0),.lit (.string ByteArray.empty),.lit (.int .i64 0),.sl []])∧(ZaP Try.prog 103=true)∧(ZcQ Try.prog 103=some [.lit (.int .i64 0),.lit (.string ByteArray.empty),.lit (.int .i64 0),.lit (.slice none 0 0),.lit (.int .i64 0),.lit (.string ByteArray.empty),.lit (.int .i64 0),.lit (.slice none 0 0)])∧(offT Try.prog 103 0=some (0,31))∧(offT Try.prog 103 1=some (4,31))∧(ZaG Try.prog 104=some .one)∧(ZaH Try.prog 104=some 1)∧(ZaD Try.prog 104=some [.sl []])∧(ZaS Try.prog 104=some 1)∧(lenT Try.prog #[104]=some true)∧(ZaN Try.prog 104=some (5,1,1))∧(ZaG Try.prog 118=some .one)∧(ZaH Try.prog 118=some 1)∧(ZaD Try.prog 118=some [.lit (.int .u64 0)])∧(ZaG Try.prog 124=some (.agg 8))∧(ZaH Try.prog 124=some 8)∧(ZaD Try.prog 124=some [.lit (.int .i64 0),.lit (.string ByteArray.empty),.lit (.int .i64 0),.sl [],.lit (.int .i64 0),.lit (.string ByteArray.empty),.lit (.int .i64 0),.sl []])∧(ZaP Try.prog 124=true)∧(offT Try.prog 124 0=some (0,24))∧(offT Try.prog 124 1=some (4,24)):=by repeat' (first | refine ai ?_ ?_ | kernel_rfl)
end Go.Proofs.Ytjoaefnnnbpflaa
namespace Go.Proofs.Ytjoaefnnnbpflaa
open Go.RowKit
theorem pm_0:type_of% (aj16 @ZfU @ZlE @ro_n @ro_g @ZlF @pk_t @pk_f @sk_r @g_no @qB_0 @qB_s @ZlG @ZlH @ZlI @Zfa (aj15 @Zjd @Zfb @Zje @Zo3 @R_un @ZgU @Zo4 @ZlJ @Zjf @Zo5 @Zo6 @Zo7 @ZlK @Zjg (@Zjh))):=aj16 @ZfU @ZlE @ro_n @ro_g @ZlF @pk_t @pk_f @sk_r @g_no @qB_0 @qB_s @ZlG @ZlH @ZlI @Zfa (aj15 @Zjd @Zfb @Zje @Zo3 @R_un @ZgU @Zo4 @ZlJ @Zjf @Zo5 @Zo6 @Zo7 @ZlK @Zjg (@Zjh))
theorem pm_1:type_of% (aj16 @ZeB @ZfW @ZlL @Zji @ZlM @Zjj @Zjk @Zjl @ZlN @Zjm @Zh2 @Zo8 @fA_d @ZlO @Zo9 (aj15 @Zpa @Zpb @Zpc @ZlP @ky_d @ZlQ @ZlR @ZlS @Zjn @Zh3 @Zjo @Zpd @Zjp @Zh4 (@Zfc))):=aj16 @ZeB @ZfW @ZlL @Zji @ZlM @Zjj @Zjk @Zjl @ZlN @Zjm @Zh2 @Zo8 @fA_d @ZlO @Zo9 (aj15 @Zpa @Zpb @Zpc @ZlP @ky_d @ZlQ @ZlR @ZlS @Zjn @Zh3 @Zjo @Zpd @Zjp @Zh4 (@Zfc))
theorem pm_2:type_of% (aj16 @Zh5 @ZlT @ZlU @Zjq @Zjr @Zpe @Zpf @Zpg @Zph @s_bf @Zjs @Zjt @Zpi @Zpj @ZlV (aj15 @Zpk @Zpl @Zpm @Zpn @Zju @Zjv @Zjw @Zpo @ZlW @ZlX @ZlY @ZlZ @kl_d @Zl0 (@Zh7))):=aj16 @Zh5 @ZlT @ZlU @Zjq @Zjr @Zpe @Zpf @Zpg @Zph @s_bf @Zjs @Zjt @Zpi @Zpj @ZlV (aj15 @Zpk @Zpl @Zpm @Zpn @Zju @Zjv @Zjw @Zpo @ZlW @ZlX @ZlY @ZlZ @kl_d @Zl0 (@Zh7))
theorem pm_3:type_of% (aj16 @Zpp @Zl1 @Zjx @Zpq @Zjy @Zl2 @Zjz @ZjA @ib_d @Zl3 @Zpr @ZjB @ZjC @Zl4 @Zps (aj15 @ZjD @Zl5 @Zpt @Zl6 @Zpu @t_sl @Zpv @ZjH @ZjI @Zpx @Zpy @Zpz @Zl8 @ZpA (@ZpB))):=aj16 @Zpp @Zl1 @Zjx @Zpq @Zjy @Zl2 @Zjz @ZjA @ib_d @Zl3 @Zpr @ZjB @ZjC @Zl4 @Zps (aj15 @ZjD @Zl5 @Zpt @Zl6 @Zpu @t_sl @Zpv @ZjH @ZjI @Zpx @Zpy @Zpz @Zl8 @ZpA (@ZpB))
theorem pm_4:type_of% (aj16 @ZjJ @Zl9 @Zma @Zmb @ZpC @ZpD @ZjK @Zmc @Zmd @ZjL @ZpE @ZjM @ZjN @ZpF @ZpG (aj15 @Zme @Zmf @ZjO @ZpH @Zmg @ZpI @Zmh @ZpJ @ZpK @ZpL @ZpM @Zmi @ZjP @ZpN (@ZjQ))):=aj16 @ZjJ @Zl9 @Zma @Zmb @ZpC @ZpD @ZjK @Zmc @Zmd @ZjL @ZpE @ZjM @ZjN @ZpF @ZpG (aj15 @Zme @Zmf @ZjO @ZpH @Zmg @ZpI @Zmh @ZpJ @ZpK @ZpL @ZpM @Zmi @ZjP @ZpN (@ZjQ))
theorem pm_5:type_of% (aj16 @Zmj @ZjR @ZpO @ZpP @ZpQ @ZjS @Zmk @ZjT @ZjU @ZpR @ZjV @ZjW @Zml @ZjX @ZjY (aj15 @Zmm @ZjZ @Zj0 @Zj1 @Zmn @Zj2 @ZpS @Zj3 @Zj4 @Zmo @Zic @Zj5 @Zj6 @Zj7 (@Zj8))):=aj16 @Zmj @ZjR @ZpO @ZpP @ZpQ @ZjS @Zmk @ZjT @ZjU @ZpR @ZjV @ZjW @Zml @ZjX @ZjY (aj15 @Zmm @ZjZ @Zj0 @Zj1 @Zmn @Zj2 @ZpS @Zj3 @Zj4 @Zmo @Zic @Zj5 @Zj6 @Zj7 (@Zj8))
theorem pm_6:type_of% (aj16 @sl_2 @sl_3 @Zmp @Zmq @Zj9 @Zmr @Zka @Zms @Zmt @ZpT @Zmu @ZpU @Zmv @ZpV @Zmw (aj15 @Zkb @ZpW @cp_s @cp_x @ZpX @co_z @co_y @ZpY @Zkc @Zkd @ZpZ @Zp0 @r_no @Zmx (@Zmy))):=aj16 @sl_2 @sl_3 @Zmp @Zmq @Zj9 @Zmr @Zka @Zms @Zmt @ZpT @Zmu @ZpU @Zmv @ZpV @Zmw (aj15 @Zkb @ZpW @cp_s @cp_x @ZpX @co_z @co_y @ZpY @Zkc @Zkd @ZpZ @Zp0 @r_no @Zmx (@Zmy))
theorem pm_7:type_of% (aj16 @Zmz @ZmA @ZmB @ZmC @ZmD @ZmE @ZmF @ZmG @ZmH @ZmI @ZmJ @ZmK @ZmL @ZmM @ZmN (aj15 @ZmO @ZmP @ZmQ @bb_t @ZmR @Zp1 @ZmS @ZgV @ZmT @ZmU @ZmV @ZmW @ZmX @ZmY (@ZmZ))):=aj16 @Zmz @ZmA @ZmB @ZmC @ZmD @ZmE @ZmF @ZmG @ZmH @ZmI @ZmJ @ZmK @ZmL @ZmM @ZmN (aj15 @ZmO @ZmP @ZmQ @bb_t @ZmR @Zp1 @ZmS @ZgV @ZmT @ZmU @ZmV @ZmW @ZmX @ZmY (@ZmZ))
theorem pm_8:type_of% (aj16 @Zm0 @Zp2 @nr_p @nr_s @nr_c @nr_i @Zm1 @Zm2 @Zm3 @Zm4 @Zm5 @Zm6 @Zm7 @Zm8 @Zm9 (aj15 @Zna @Znb @Znc @Znd @Zne @Zke @Zkf @Znf @Zng @Zp3 @Znh @rn_0 @rn_n @rn_g (@st_o))):=aj16 @Zm0 @Zp2 @nr_p @nr_s @nr_c @nr_i @Zm1 @Zm2 @Zm3 @Zm4 @Zm5 @Zm6 @Zm7 @Zm8 @Zm9 (aj15 @Zna @Znb @Znc @Znd @Zne @Zke @Zkf @Znf @Zng @Zp3 @Znh @rn_0 @rn_n @rn_g (@st_o))
theorem pm_9:type_of% (aj16 @Zni @Zkg @Znj @lv_d @Znk @Znl @Znm @Zp4 @Zp5 @Znn @lb_d @Zno @Znp @Znq @Zp6 (aj15 @Zp7 @Znr @Zkh @Zns @Zki @Zkj @Znt @Zp8 @Znu @Zkk @gt_c @Znv @Znw @Znx (@Zp9))):=aj16 @Zni @Zkg @Znj @lv_d @Znk @Znl @Znm @Zp4 @Zp5 @Znn @lb_d @Zno @Znp @Znq @Zp6 (aj15 @Zp7 @Znr @Zkh @Zns @Zki @Zkj @Znt @Zp8 @Znu @Zkk @gt_c @Znv @Znw @Znx (@Zp9))
theorem Zqa:type_of% (aj16 @Zny @Znz @Zkl @ZnA @ZnB @dc_s @dc_p @dc_f @ZnC @ZnD @ZnE @ZnF @Zkm @ZnG @Zkn (aj5 @ZnH @ZnI @Zko @Zkp (@ud_d))):=aj16 @Zny @Znz @Zkl @ZnA @ZnB @dc_s @dc_p @dc_f @ZnC @ZnD @ZnE @ZnF @Zkm @ZnG @Zkn (aj5 @ZnH @ZnI @Zko @Zkp (@ud_d))
theorem Zqb:type_of% (aj6 @Zpw @ZjE @ZjF @Zh8 @Zl7 @ZjG):=(aj6 @Zpw @ZjE @ZjF @Zh8 @Zl7 @ZjG)
def ZdA:List Nat->List (Nat × A)->List (Nat × A)
 | _,[]=>[]
 | ds,(k,a)::r=>if ds.elem k then ZdA ds r else (k,a)::ZdA (k::ds) r
def ZdB:List Nat->List (Nat × Bk)->List (Nat × Bk)
 | _,[]=>[]
 | ds,(k,a)::r=>if ds.elem k then ZdB ds r else (k,a)::ZdB (k::ds) r
theorem ZoK {s t:List (Nat × A)} (h:∀ p∈t,gs s p.1=p.2):Zbt s t:=by
 induction t with
 | nil=>exact trivial
 | cons p r ih=>exact ⟨h p Tar,ih fun q hq=>h q (Tak _ hq)⟩
theorem ZoL {s t:List (Nat × Bk)} (h:∀ p∈t,gm s p.1=some p.2):Zbu s t:=by
 induction t with
 | nil=>exact trivial
 | cons p r ih=>exact ⟨h p Tar,ih fun q hq=>h q (Tak _ hq)⟩
theorem ZnJ:∀ {s:List (Nat × A)} {ds:List Nat} {p:Nat × A},p∈ZdA ds s->ds.elem p.1=false∧gs s p.1=p.2:=by
 intro s
 induction s with
 | nil=>intro ds p h;cases h
 | cons q r ih =>
  intro ds p h;obtain ⟨k,a⟩:=q;simp only [ZdA] at h;by_cases hk:ds.elem k=true
  ·rw [if_pos hk] at h;have:=ih h;refine ⟨this.1,?_⟩;rw [gs,if_neg ?_]
   ·exact this.2
   ·intro e;rw [e] at this;rw [hk] at this;cases this.1
  ·rw [if_neg hk] at h;rcases Tbc.1 h with rfl | h
   ·exact ⟨by simpa using hk,by simp [gs]⟩
   ·have:=ih h;have h1:=this.1;rw [List.elem_cons] at h1;have hne:¬ p.1=k:=by intro e;simp [e] at h1
    refine ⟨?_,?_⟩
    ·cases hb:(p.1==k) with
     | true=>rw [hb] at h1;cases h1
     | false=>rw [hb] at h1;exact h1
    ·rw [gs,if_neg hne];exact this.2
theorem ZnK:∀ {s:List (Nat × Bk)} {ds:List Nat} {p:Nat × Bk},p∈ZdB ds s->ds.elem p.1=false∧gm s p.1=some p.2:=by
 intro s
 induction s with
 | nil=>intro ds p h;cases h
 | cons q r ih =>
  intro ds p h;obtain ⟨k,a⟩:=q;simp only [ZdB] at h;by_cases hk:ds.elem k=true
  ·rw [if_pos hk] at h;have:=ih h;refine ⟨this.1,?_⟩;rw [gm,if_neg ?_]
   ·exact this.2
   ·intro e;rw [e] at this;rw [hk] at this;cases this.1
  ·rw [if_neg hk] at h;rcases Tbc.1 h with rfl | h
   ·exact ⟨by simpa using hk,by simp [gm]⟩
   ·have:=ih h;have h1:=this.1;rw [List.elem_cons] at h1;have hne:¬ p.1=k:=by intro e;simp [e] at h1
    refine ⟨?_,?_⟩
    ·cases hb:(p.1==k) with
     | true=>rw [hb] at h1;cases h1
     | false=>rw [hb] at h1;exact h1
    ·rw [gm,if_neg hne];exact this.2
theorem Zid {s a b:List (Nat × A)}:Zbt s (a++b) ↔ Zbt s a∧Zbt s b:=by
 induction a with
 | nil=>simp [Zbt]
 | cons p r ih=>simp [Zbt,ih,and_assoc]
theorem Zie {s a b:List (Nat × Bk)}:Zbu s (a++b) ↔ Zbu s a∧Zbu s b:=by
 induction a with
 | nil=>simp [Zbu]
 | cons p r ih=>simp [Zbu,ih,and_assoc]
theorem ZnL {e:Env} {mask:Nat} {Q:PX->St->Prop} {c:Code} {s:List (Nat × A)} {m:List (Nat × Bk)} {ι:Type} (ds dm:List Nat) (us:ι->List (Nat × A)) (ms:ι->List (Nat × Bk)) (ok:ι->Prop) (μ:ι->Nat) (x0:ι)
  {s0:List (Nat × A)} {m0:List (Nat × Bk)} (hs0:ZdA ds s=s0) (hm0:ZdB dm m=m0) {ss:ι->List (Nat × A)} {mm:ι->List (Nat × Bk)} (hss:∀ x,us x++s0=ss x) (hmm:∀ x,ms x++m0=mm x) (hs:Zbt s (us x0)) (hm:Zbu m (ms x0)) (h0:ok x0)
  (hr:∀ x,ok x->pwp e mask c ⟨ss x,mm x⟩ (fun p σ''=>match p with
   | .normal=>∃ y,ok y∧Zbt σ''.s (ss y)∧Zbu σ''.m (mm y)∧μ y < μ x
   | p=>Q p σ'')):pwp e mask (.loop c) ⟨s,m⟩ Q:=by
 refine ZoE (fun x=>⟨ss x,mm x⟩) ok μ x0 h0 ?_ ?_ hr
 ·show Zbt s (ss x0);rw [<- hss,Zid,<- hs0];exact ⟨hs,ZoK fun p hp=>(ZnJ hp).2⟩
 ·show Zbu m (mm x0);rw [<- hmm,Zie,<- hm0];exact ⟨hm,ZoL fun p hp=>(ZnK hp).2⟩
theorem ZnM {e:Env} {mask:Nat} {Q:PX->St->Prop} {σ:St} {id:Nat} {l:List Oper} (h:∀ ds,l.map (·.dst)=ds->Runs e ds 0 l σ (Zcp mask Q)):pwp e mask (.region id l.toArray false) σ Q:=ZoI rfl (h _ rfl)
theorem Zaj {e:Env} {mask:Nat} {Q:PX->St->Prop} {σ:St} {id:Nat} {l:List Oper} (n:Nat) (hr:regX l.toArray n=true) (h:∀ ds,l.map (·.dst)=ds->Runs e ds n l σ (Zcp mask Q)):pwp e mask (.region id l.toArray true) σ Q:=ZoJ n hr rfl (h _ rfl)
theorem Zkq {mask:Nat}:ZbS mask []=[]:=rfl
theorem Zkr {mask k:Nat} {a:A} {r:List (Nat × A)}:ZbS mask ((k,a)::r)=if mask.testBit k=true then (k,a)::ZbS mask r else ZbS mask r:=rfl
theorem Zqc {m n:Nat}:m.testBit n=((1 &&& (m >>> n)) != 0):=rfl
def endR (mask:Nat):Res->Option (List (Nat × A) × List (Nat × Bk))
 | .done σ=>some (ZbS mask σ.s,σ.m)
 | _=>none
theorem ZnN {mask:Nat} {s:List (Nat × A)} {m:List (Nat × Bk)}:endR mask (.done ⟨s,m⟩)=some (ZbS mask s,m):=rfl
theorem reT {e:Env} {mask:Nat} {Q:PX->St->Prop} {ds:List (Option Nat)} {n:Nat} {os:List Oper} {σ:St} {s2:List (Nat × A)} {m2:List (Nat × Bk)} (h:endR mask (Za9 e.P ds n os σ)=some (s2,m2)) (hQ:Q .normal ⟨s2,m2⟩):Runs e ds n os σ (Zcp mask Q):=by
 cases hr:Za9 e.P ds n os σ with
 | bad=>rw [hr] at h;cases h
 | call q c args d n' os' σ'=>rw [hr] at h;cases h
 | map q d n' os' σ'=>rw [hr] at h;cases h
 | stop n' os' σ'=>rw [hr] at h;cases h
 | done σ' =>
  rw [hr] at h;simp only [endR,Tap,Prod.mk.injEq] at h;obtain ⟨h1,h2⟩:=h;refine ZeA hr ?_;unfold Zcp;rw [h1,h2];exact hQ
def Zif:Res->Option (FuncId × List D × Option Nat × Nat × List Oper × St)
 | .call q c args d n os σ=>(Zdz q c args σ).map (fun x=>(x.1,x.2.1,d,n,os,x.2.2))
 | _=>none
theorem Zig {q:Bool} {c:Operand} {args:List Operand} {d:Option Nat} {n:Nat} {os:List Oper} {σ:St}:Zif (.call q c args d n os σ)=(Zdz q c args σ).map (fun x=>(x.1,x.2.1,d,n,os,x.2.2)):=rfl
theorem rcT {e:Env} {K:St->Prop} {ds:List (Option Nat)} {n n':Nat} {os os':List Oper} {σ:St} {f:FuncId} {xs:List D} {d:Option Nat} {r:List D} {s2 s3:List (Nat × A)} {m2:List (Nat × Bk)} (h:Zif (Za9 e.P ds n os σ)=some (f,xs,d,n',os',⟨s2,m2⟩)) (hc:Con e f xs r) (h2:setA s2 d (retA r)=s3) (hK:Runs e ds n' os' ⟨s3,m2⟩ K):Runs e ds n os σ K:=by
 cases hr:Za9 e.P ds n os σ with
 | bad=>rw [hr] at h;cases h
 | done σ'=>rw [hr] at h;cases h
 | map q d n' os' σ'=>rw [hr] at h;cases h
 | stop n' os' σ'=>rw [hr] at h;cases h
 | call q c args d1 n1 os1 σ1 =>
  rw [hr] at h;simp only [Zif,Tau,Prod.mk.injEq] at h;obtain ⟨⟨f',xs',σ2⟩,h1,rfl,rfl,rfl,rfl,rfl,h3⟩:=h;simp only at h3;subst h3;exact Zqu hr h1 hc h2 hK
theorem wkI {e:Env} {mask:Nat} {Q:PX->St->Prop} {σ:St} {c:Code} (h:pwp e mask c σ Q):∃ σ1,Wk σ σ1∧pwp e mask c σ1 Q:=⟨σ,Wk.refl σ,h⟩
theorem Wk.trans {a b c:St} (h:Wk a b) (k:Wk b c):Wk a c:=by
 refine ⟨fun t=>?_,fun t x hx=>h.2 t x (k.2 t x hx)⟩;rcases k.1 t with q | q
 ·rcases h.1 t with r | r
  ·exact .inl (q.trans r)
  ·exact .inr (q.trans r)
 ·exact .inr q
theorem ZeC {r:List C} (h:Zam (Zab .int) r):∃ x0:Int,r=[.lit (.int .i64 x0)]∧I64 x0:=by
 obtain ⟨c0,rfl⟩:=len1 h.len;simp only [Zab,Zam,and_true] at h;have h0:=h;obtain ⟨x0,rfl,g0⟩:=ZbK h0;exact ⟨x0,rfl,g0⟩
theorem okL {α:Type} {fs:List F} {e:α->List C} {p:α->Prop} (hk:∀ a,p a->Zam fs (e a)):∀ {l:List α},(∀ x∈l,p x)->Zah fs (l.map e)
 | [],_=>by simp [Zah]
 | a::l,h=>by
  simp only [Tbl,Zah];exact ⟨hk a (h a (by simp)),okL hk (fun x hx=>h x (by simp [hx]))⟩
def ZfY (n:Int):List C:=[.lit (.int .i64 n)]
def ZnO (s:ByteArray):List C:=[.lit (.string s)]
def ZnP (p:Int × Int):List C:=[.lit (.int .i64 p.1),.lit (.int .i64 p.2)]
structure Dcl where
 args:List Int
 res:Int
def Zih (d:Dcl):List C:=[.sl (d.args.map ZfY),.lit (.int .i64 d.res)]
structure Opr where
 name:ByteArray
 decls:List Dcl
 assoc:Bool
 comm:Bool
 unit:Int
def ZnQ (o:Opr):List C:=[.lit (.string o.name),.sl (o.decls.map Zih),.lit (.bool o.assoc),.lit (.bool o.comm),.lit (.int .i64 o.unit)]
theorem Rep.at {α:Type} {w:World} {S:Nat->Prop} {fs:List F} {e:α->List C} {p:α->Prop} (hk:∀ a,p a->Zam fs (e a)) {l:List α} (hl:∀ x∈l,p x) {A:Option Addr} {m cap k:Nat} {a:α}
  (h:Rep w S (.sl (l.map e)) (.slice A m cap)) (ha:l[k]?=some a):∃ b off,A=some ⟨b,off,none⟩∧S b∧b < w.heap.size∧Zaf w S b (off+k * fs.length) (e a):=by
 have hkl:k < l.length:=(Tac.1 ha).1;obtain ⟨A',m',cap',hf,hm,_,_⟩:=h.form;injection hf with h1 h2 h3
 subst h1 h2 h3;obtain ⟨b,off,r,rfl,hS,hbz,hget,hokr,hrow⟩:=h.get (okL hk hl) (i:=k) (by rw [<- hm];simpa using hkl);refine ⟨b,off,rfl,hS,hbz,?_⟩;rw [Tax,ha] at hget;simp only [Option.map_some,Tap] at hget;rw [hget];exact hrow
def Zks (l:List Int):List C:=[.sl (l.map ZfY)]
noncomputable def e0:Env:=⟨Try.prog,fun _=>False,fun _=>True,False⟩
noncomputable def e1:Env:=⟨Try.prog,fun _=>False,fun _=>True,True⟩
theorem e1P:e1.P=Try.prog:=rfl
theorem ZkV:e1.Ok:=⟨fun _ _ _ _ _=>trivial,by kernel_rfl⟩
theorem ZqV {f:FuncId} {args r:List D} (h:Con e1 f args r):Con e0 f args r :=
 ⟨h.1,fun w S vs hS hE hG hvs=>(h.2 w S vs hS hE hG hvs).mono fun en w' ⟨v,h1,h2,h3,h4⟩=>⟨v,h1,⟨h2.os,h2.tape,h2.output,fun d=>d.elim,h2.size,h2.block⟩,h3,h4⟩⟩
theorem e0P:e0.P=Try.prog:=rfl
theorem Zqd:e0.Ok:=⟨fun _ _ _ _ _=>trivial,by kernel_rfl⟩
theorem ZbB {α:Type} {e:α->List C} {n:Nat} (h:∀ a,((e a).length==n && (e a).all Zai)=true) (l:List α):Zay n (l.map e)=true:=by
 unfold Zay;rw [List.all_map];exact List.all_eq_true.2 fun a _=>h a
theorem ZgW {n:Nat}:Zay n []=true:=rfl
theorem ZfZ {n:Nat} {r:List C} {rs:List (List C)}:Zay n (r::rs)=(r.length==n && r.all Zai && Zay n rs):=rfl
theorem ZnR (l:List Int):Zay 1 (l.map ZfY)=true:=ZbB (e:=ZfY) (n:=1) (fun _=>rfl) l
theorem ZnS (l:List ByteArray):Zay 1 (l.map ZnO)=true:=ZbB (e:=ZnO) (n:=1) (fun _=>rfl) l
theorem ZnT (l:List (Int × Int)):Zay 2 (l.map ZnP)=true:=ZbB (e:=ZnP) (n:=2) (fun _=>rfl) l
theorem ZnU (l:List Dcl):Zay 2 (l.map Zih)=true:=ZbB (e:=Zih) (n:=2) (fun _=>rfl) l
theorem ZnV (l:List Opr):Zay 5 (l.map ZnQ)=true:=ZbB (e:=ZnQ) (n:=5) (fun _=>rfl) l
theorem Zkt (l:List (List Int)):Zay 1 (l.map Zks)=true:=ZbB (e:=Zks) (n:=1) (fun _=>rfl) l
theorem ZeV {a b:Int} (h:a=b) (h1:-9223372036854775808<=b) (h2:b<=9223372036854775807):IntKind.i64.wrap a=b:=by rw [h];exact IntWalk.i64_in _ ⟨h1,h2⟩
theorem Zb6 {k:Nat} (h:k < 9223372036854775807):IntKind.i64.wrap ((k:Int)+1)=((k+1:Nat):Int):=ZeV om om om
theorem bqtt:(true==true)=true:=rfl
theorem bqtf:(true==false)=false:=rfl
theorem bqft:(false==true)=false:=rfl
theorem bqff:(false==false)=true:=rfl
theorem ZbC (n:Nat):(n:Int).toNat=n:=Tbo n
theorem gs_n {t:Nat}:gs [] t=.undef:=rfl
theorem gs_c {k t:Nat} {a:A} {r:List (Nat × A)}:gs ((k,a)::r) t=if t=k then a else gs r t:=rfl
theorem gm_n {t:Nat}:gm [] t=none:=rfl
theorem gm_c {k t:Nat} {a:Bk} {r:List (Nat × Bk)}:gm ((k,a)::r) t=if t=k then some a else gm r t:=rfl
theorem Zku {k:Nat}:Zb5 k []=[]:=rfl
theorem Zkv {k:Nat} {d:D} {r:List D}:Zb5 k (d::r)=(k,.d d)::Zb5 (k+1) r:=rfl
theorem pz:type_of% (aj16 @tt_0 @tt_1 @tt_2 @tt_3 @tt_4 @pm_0 @pm_1 @pm_2 @pm_3 @pm_4 @pm_5 @pm_6 @pm_7 @pm_8 @pm_9 (aj16 @Zqa @Zqb @e0P @e1P @gs_n @gs_c @gm_n @gm_c @Zku @Zkv @ZnR @ZnS @ZnT @ZnU @ZnV (aj16 @Zkt @ZgW @ZfZ @bqtt @bqtf @bqft @bqff @Bool.and_self @Bool.or_true @Bool.true_or @Bool.or_false @Bool.false_or @Nat.zero_add @Nat.add_zero @and_self (aj16 @true_and @and_true @Bool.not_true @Bool.not_false @ZbC @Zkq @Zkr @Zqc @ZnN @Zig @Int.natCast_nonneg @Int.toNat_zero @Int.toNat_one @Tah @List.map_nil.{0,0} (aj16 @Tas.{0} @Tat.{0} @List.drop_succ_cons.{0} @List.drop_zero.{0} @List.drop_nil.{0} @Tay.{0} @List.take_zero.{0} @Taf.{0} @Taj.{0} @Tad.{0} @List.all_cons.{0} @List.all_nil.{0} @List.isEmpty_cons.{0} @List.isEmpty_nil.{0} @Tae.{0} (aj13 @Tag.{0} @List.append_nil.{0} @Option.map_some.{0,0} @Option.map_none.{0,0} @Option.join_some.{0} @Option.getD_some.{0} @Option.isNone_none.{0} @Option.isNone_some.{0} @Option.isSome_none.{0} @Option.isSome_some.{0} @Tbl.{0,0} @Taw.{0,0} (@Tax.{0,0}))))))):=aj16 @tt_0 @tt_1 @tt_2 @tt_3 @tt_4 @pm_0 @pm_1 @pm_2 @pm_3 @pm_4 @pm_5 @pm_6 @pm_7 @pm_8 @pm_9 (aj16 @Zqa @Zqb @e0P @e1P @gs_n @gs_c @gm_n @gm_c @Zku @Zkv @ZnR @ZnS @ZnT @ZnU @ZnV (aj16 @Zkt @ZgW @ZfZ @bqtt @bqtf @bqft @bqff @Bool.and_self @Bool.or_true @Bool.true_or @Bool.or_false @Bool.false_or @Nat.zero_add @Nat.add_zero @and_self (aj16 @true_and @and_true @Bool.not_true @Bool.not_false @ZbC @Zkq @Zkr @Zqc @ZnN @Zig @Int.natCast_nonneg @Int.toNat_zero @Int.toNat_one @Tah @List.map_nil.{0,0} (aj16 @Tas.{0} @Tat.{0} @List.drop_succ_cons.{0} @List.drop_zero.{0} @List.drop_nil.{0} @Tay.{0} @List.take_zero.{0} @Taf.{0} @Taj.{0} @Tad.{0} @List.all_cons.{0} @List.all_nil.{0} @List.isEmpty_cons.{0} @List.isEmpty_nil.{0} @Tae.{0} (aj13 @Tag.{0} @List.append_nil.{0} @Option.map_some.{0,0} @Option.map_none.{0,0} @Option.join_some.{0} @Option.getD_some.{0} @Option.isNone_none.{0} @Option.isNone_some.{0} @Option.isSome_none.{0} @Option.isSome_some.{0} @Tbl.{0,0} @Taw.{0,0} (@Tax.{0,0}))))))
theorem sfx {p:Prop} (h:p:=by simp only [pz,↓reduceIte,Nat.reduceEqDiff,Nat.reduceAdd,Nat.reduceSub,Nat.reduceMul,Nat.reduceLeDiff,Nat.reduceBEq,Tal,decide_true,decide_false,Int.reduceLE,Int.reduceToNat,Int.reduceLT,Int.reduceEq,eq_self,Nat.reduceShiftRight,Nat.reduceAnd,Nat.reduceBneDiff,F];first | done | exact rfl):p:=h
theorem snx {p:Prop} (h:p:=by simp only [pz,↓reduceIte,Nat.reduceEqDiff,Nat.reduceAdd,Nat.reduceSub,Nat.reduceMul,Nat.reduceLeDiff,Nat.reduceBEq,Tal,decide_true,decide_false,Int.reduceLE,Int.reduceToNat,Int.reduceLT,Int.reduceEq,eq_self,Nat.reduceShiftRight,Nat.reduceAnd,Nat.reduceBneDiff];first | done | exact rfl):p:=h
theorem sfy {p:Prop} (h:p:=by simp only [pz,↓reduceIte,Nat.reduceEqDiff,Nat.reduceAdd,Nat.reduceSub,Nat.reduceMul,Nat.reduceLeDiff,Nat.reduceBEq,Tal,decide_true,decide_false,Int.reduceLE,Int.reduceToNat,Int.reduceLT,Int.reduceEq,eq_self,Nat.reduceShiftRight,Nat.reduceAnd,Nat.reduceBneDiff,F];try exact rfl):p:=h
theorem sny {p:Prop} (h:p:=by simp only [pz,↓reduceIte,Nat.reduceEqDiff,Nat.reduceAdd,Nat.reduceSub,Nat.reduceMul,Nat.reduceLeDiff,Nat.reduceBEq,Tal,decide_true,decide_false,Int.reduceLE,Int.reduceToNat,Int.reduceLT,Int.reduceEq,eq_self,Nat.reduceShiftRight,Nat.reduceAnd,Nat.reduceBneDiff];try exact rfl):p:=h
theorem sfv {p:Prop} (h:p:=by simp only [pz,↓reduceIte,Nat.reduceEqDiff,Nat.reduceAdd,Nat.reduceSub,Nat.reduceMul,Nat.reduceLeDiff,Nat.reduceBEq,Tal,decide_true,decide_false,Int.reduceLE,Int.reduceToNat,Int.reduceLT,Int.reduceEq,eq_self,Nat.reduceShiftRight,Nat.reduceAnd,Nat.reduceBneDiff,F];exact rfl):p:=h
theorem snv {p:Prop} (h:p:=by simp only [pz,↓reduceIte,Nat.reduceEqDiff,Nat.reduceAdd,Nat.reduceSub,Nat.reduceMul,Nat.reduceLeDiff,Nat.reduceBEq,Tal,decide_true,decide_false,Int.reduceLE,Int.reduceToNat,Int.reduceLT,Int.reduceEq,eq_self,Nat.reduceShiftRight,Nat.reduceAnd,Nat.reduceBneDiff];exact rfl):p:=h
theorem gB {X Y:Prop} (b:Y) (h:Y->X:=by
 intro b
 first
  | with_reducible refine ZnM ?_
  | (first
   | refine Zaj 1 (by decide +kernel) ?_
   | refine Zaj 2 (by decide +kernel) ?_
   | refine Zaj 3 (by decide +kernel) ?_
   | refine Zaj 4 (by decide +kernel) ?_
   | refine Zaj 5 (by decide +kernel) ?_
   | refine Zaj 6 (by decide +kernel) ?_
   | refine Zaj 7 (by decide +kernel) ?_
   | refine Zaj 8 (by decide +kernel) ?_
   | refine Zaj 9 (by decide +kernel) ?_
   | refine Zaj 10 (by decide +kernel) ?_
   | refine Zaj 11 (by decide +kernel) ?_
   | refine Zaj 12 (by decide +kernel) ?_
   | refine Zaj 13 (by decide +kernel) ?_
   | refine Zaj 14 (by decide +kernel) ?_
   | refine Zaj 15 (by decide +kernel) ?_
   | refine Zaj 16 (by decide +kernel) ?_
   | refine Zaj 17 (by decide +kernel) ?_
   | refine Zaj 18 (by decide +kernel) ?_
   | refine Zaj 19 (by decide +kernel) ?_
   | refine Zaj 20 (by decide +kernel) ?_
   | refine Zaj 21 (by decide +kernel) ?_
   | refine Zaj 22 (by decide +kernel) ?_
   | refine Zaj 23 (by decide +kernel) ?_
   | refine Zaj 24 (by decide +kernel) ?_
   | refine Zaj 25 (by decide +kernel) ?_
   | refine Zaj 26 (by decide +kernel) ?_
   | refine Zaj 27 (by decide +kernel) ?_
   | refine Zaj 28 (by decide +kernel) ?_
   | refine Zaj 29 (by decide +kernel) ?_
   | refine Zaj 30 (by decide +kernel) ?_
   | refine Zaj 31 (by decide +kernel) ?_
   | refine Zaj 32 (by decide +kernel) ?_
   | refine Zaj 33 (by decide +kernel) ?_
   | refine Zaj 34 (by decide +kernel) ?_
   | refine Zaj 35 (by decide +kernel) ?_
   | refine Zaj 36 (by decide +kernel) ?_
   | refine Zaj 37 (by decide +kernel) ?_
   | refine Zaj 38 (by decide +kernel) ?_
   | refine Zaj 39 (by decide +kernel) ?_
   | refine Zaj 40 (by decide +kernel) ?_
   | refine Zaj 41 (by decide +kernel) ?_
   | refine Zaj 42 (by decide +kernel) ?_
   | refine Zaj 43 (by decide +kernel) ?_
   | refine Zaj 44 (by decide +kernel) ?_
   | refine Zaj 45 (by decide +kernel) ?_
   | refine Zaj 46 (by decide +kernel) ?_
   | refine Zaj 47 (by decide +kernel) ?_
   | refine Zaj 48 (by decide +kernel) ?_
   | refine Zaj 49 (by decide +kernel) ?_
   | refine Zaj 50 (by decide +kernel) ?_
   | refine Zaj 51 (by decide +kernel) ?_
   | refine Zaj 52 (by decide +kernel) ?_
   | refine Zaj 53 (by decide +kernel) ?_
   | refine Zaj 54 (by decide +kernel) ?_
   | refine Zaj 55 (by decide +kernel) ?_
   | refine Zaj 56 (by decide +kernel) ?_
   | refine Zaj 57 (by decide +kernel) ?_
   | refine Zaj 58 (by decide +kernel) ?_
   | refine Zaj 59 (by decide +kernel) ?_
   | refine Zaj 60 (by decide +kernel) ?_
   | refine Zaj 61 (by decide +kernel) ?_
   | refine Zaj 62 (by decide +kernel) ?_
   | refine Zaj 63 (by decide +kernel) ?_
   | refine Zaj 64 (by decide +kernel) ?_)
 intro ds hds;simp only [List.map] at hds;subst hds;exact b):X:=h b
theorem gC {X Y Z:Prop} (c:Z) (b:Y) (h:Z->Y->X:=by
 intro c b;refine rcT (by exact sfv) c (by simp only [setA,retA];exact rfl) ?_;exact b):X:=h c b
theorem gR {X Y:Prop} (b:Y) (h:Y->X:=by
 intro b;refine reT (by exact sfv) ?_
 first | (change pwp _ _ _ _ _) | refine wkI ?_ | skip
 exact b):X:=h b
theorem gG {X Y:Prop} (b:Y) (h:Y->X:=by
 intro b
 repeat (first
  | with_reducible refine ZhX ?_
  | with_reducible refine ZgS ?_
  | ((first | with_reducible refine ZhV ?_ | with_reducible refine ZhW ?_);try refine wkI ?_)
  | (with_reducible refine ZlB ?_ ?_;· simp only [pz,↓reduceIte,Nat.reduceEqDiff,F])
  | (with_reducible refine ZlC ?_ ?_;· simp only [pz,↓reduceIte,Nat.reduceEqDiff,F])
  | (refine gB ?_;refine reT (by exact sfv) ?_;try refine wkI ?_))
 exact b):X:=h b
def ZbX (_:Nat):Prop:=True
theorem ZqH {n:Nat} (_:ZbX n) {e:Env} {mask id:Nat} {ops:Array Oper} {fl:Bool} {σ:St} {Q:PX->St->Prop} (h:pwp e mask (.region id ops fl) σ Q) (_:(id==n)=false:=by decide):pwp e mask (.region id ops fl) σ Q:=h
theorem gGn {X Y:Prop} (b:Y) (h:Y->X:=by
 intro b
 repeat (first
  | with_reducible refine ZhX ?_
  | with_reducible refine ZgS ?_
  | ((first | with_reducible refine ZhV ?_ | with_reducible refine ZhW ?_);try refine wkI ?_)
  | (with_reducible refine ZlB ?_ ?_;· simp only [pz,↓reduceIte,Nat.reduceEqDiff,F])
  | (with_reducible refine ZlC ?_ ?_;· simp only [pz,↓reduceIte,Nat.reduceEqDiff,F])
  | (refine ZqH NN ?_;refine gB ?_;refine reT (by exact sfv) ?_;try refine wkI ?_))
 exact b):X:=h b
theorem gT {X:Prop} (h:X:=by
 refine ZeT (ZlD ?_);simp [ZbJ,resA,ZaX,gs,F]):X:=h
theorem gTz {X:Prop} {P:Program} {ts:List RS} {r:List D} {σ σ1:St} (ks:List Nat) (hx:retQ P ts r .ret σ->X:=by exact fun h=>ZeT h) (hf:frzs ks σ=σ1:=by exact sfv) (h:ZbJ P σ1 ts r:=by simp [ZbJ,resA,ZaX,gs,F]):X:=hx (ZqG ks hf h)
theorem gTd {X:Prop} {P:Program} {ts:List RS} {r:List D} {σ:St} (hx:retQ P ts r .ret σ->X:=by exact fun h=>ZeT h) (hr:resD P σ ts=some r:=by exact sfx):X:=hx (ZlD (Zfv hr))
theorem gw {X:Prop} (h:X:=by simp [Zbt,Zbu,gs,gm,F]):X:=h
theorem gL {e:Env} {mask:Nat} {Q:PX->St->Prop} {c:Code} {s:List (Nat × A)} {m:List (Nat × Bk)} {ι:Type} (ds dm:List Nat) (us:ι->List (Nat × A)) (ms:ι->List (Nat × Bk)) (ok:ι->Prop) (μ:ι->Nat) (x0:ι) (h0:ok x0)
  {s0:List (Nat × A)} {m0:List (Nat × Bk)} {ss:ι->List (Nat × A)} {mm:ι->List (Nat × Bk)}
  (hr:∀ x,ok x->pwp e mask c ⟨ss x,mm x⟩ (fun p σ''=>match p with
   | .normal=>∃ y,ok y∧Zbt σ''.s (ss y)∧Zbu σ''.m (mm y)∧μ y < μ x
   | p=>Q p σ''))
  (hs0:ZdA ds s=s0:=by simp only [ZdA,ZdB,List.elem_cons,List.elem_nil,Nat.reduceBEq,Bool.or_false,Bool.false_or,Bool.or_true,Bool.true_or,Bool.or_self,↓reduceIte,Tal];exact rfl) (hm0:ZdB dm m=m0:=by simp only [ZdA,ZdB,List.elem_cons,List.elem_nil,Nat.reduceBEq,Bool.or_false,Bool.false_or,Bool.or_true,Bool.true_or,Bool.or_self,↓reduceIte,Tal];exact rfl) (hss:∀ x,us x++s0=ss x:=by intro x;simp only [Tae,Tag];exact rfl) (hmm:∀ x,ms x++m0=mm x:=by intro x;simp only [Tae,Tag];exact rfl)
  (hs:Zbt s (us x0):=by simp [Zbt,gs,F]) (hm:Zbu m (ms x0):=by simp [Zbu,gm,F]):pwp e mask (.loop c) ⟨s,m⟩ Q:=ZnL ds dm us ms ok μ x0 hs0 hm0 hss hmm hs hm h0 hr
theorem gI {e:Env} {f:FuncId} {fn:Func} {c:Code} {args r:List D} {ts:List RS} (mask:Nat) (hf:e.P.funcs[f]?=some fn) (h:pwp e mask c ⟨Zb5 0 args,[]⟩ (retQ e.P ts r)) (hb:fn.body=some c:=by exact rfl) (hnm:(fn.name == "runtime.NumGoroutine")=false:=by kernel_rfl)
  (hok:Zbe fn.ntmps c=true:=by kernel_rfl) (hal:Nat.ble args.length fn.ntmps=true:=by exact rfl) (hres:ZaX fn.results.toList=ts:=by exact rfl) (he:e.Ok:=by first | exact Zqd | exact ZkV | assumption):Con e f args r:=ZkN he mask hf hb hnm hok hal hres h
theorem gCP {e:Env} {K:St->Prop} {ds:List (Option Nat)} {n n':Nat} {os os':List Oper} {σ:St} {c:Operand} {args:List Operand} {f:FuncId} {xs:List D} {d:Option Nat} {s1 s2 s3:List (Nat × A)} {m1 m2 m3:List (Nat × Bk)} {pm:List Bk} {R:List D->List Bk->Prop} (ks ks':List Nat) (hc:ConP e f xs pm R)
  (hK:∀ r pm',R r pm'->Runs e ds n' os' ⟨setA s3 d (retA r),zipM ks' pm'++m3⟩ K) (h:Za9 e.P ds n os σ=.call false c args d n' os' ⟨s1,m1⟩:=by exact sfv) (h1:Zdz false c args ⟨s1,m1⟩=some (f,xs,⟨s2,m2⟩):=by exact sfv)
  (hpm:getM m2 ks=some pm:=by exact sny) (hpn:pm.all pinned=true:=by exact sny) (hn:ks.Nodup:=by decide) (hk:Zbs (ks++ks') s2=s3:=by exact snv) (hr:Zbv (ks++ks') m2=m3:=by exact snv):Runs e ds n os σ K:=ZoG ks ks' h h1 hc hpm hpn hn hk hr hK
theorem gP {e:Env} {K:St->Prop} {ds:List (Option Nat)} {n n':Nat} {os os':List Oper} {σ:St} {s1:List (Nat × A)} {m1:List (Nat × Bk)} (j:Nat) (hK:Runs e ds n' os' ⟨s1,m1⟩ K) (h:ZfT (runN e.P ds j n os σ)=some (n',os',s1,m1):=by exact sfv):Runs e ds n os σ K:=Zlz j h hK
theorem gS {e:Env} {K:St->Prop} {ds:List (Option Nat)} {os:List Oper} {s:List (Nat × A)} {m m2:List (Nat × Bk)} {ety sz:Nat} {rows:List (List C)} {s2:Option Addr->Nat->List (Nat × A)} (k:Nat) (hK:∀ a cap,Runs e ds 0 os ⟨s2 a cap,(k,.buf (some (a,cap)) ety sz rows)::m2⟩ K)
  (hm:gm m k=some (.buf none ety sz rows):=by exact snv) (hs:∀ a cap,mapS (litB k a rows.length cap) s=s2 a cap:=by intro a cap;exact snv) (hr:remM k m=m2:=by exact snv):Runs e ds 0 os ⟨s,m⟩ K :=
 Zly (ZgO k hm) fun σ' ⟨a,cap,hσ⟩=>by subst hσ;simp only [hs,hr];exact hK a cap
theorem gX {e:Env} {K:St->Prop} {ds:List (Option Nat)} {os:List Oper} {d t ty:Nat} {p:String} {ed:Array Edge} {parts:List (Nat × Operand)} {s:List (Nat × A)} {m:List (Nat × Bk)} {cs cs':List C} (hK:Runs e ds 0 os ⟨(d,.d (.agg cs'))::s,m⟩ K)
  (hz:ZcQ e.P t=some cs:=by exact sny) (hst:ZaP e.P t=true:=by exact sny) (hok:cs.all Zai=true:=by first | rfl | exact sny) (hf:ZbH e.P t cs (parts.map fun p=>(p.1,evA s p.2))=some cs':=by exact sfv):Runs e ds 0 (⟨some d,.build t parts.toArray,ty,p,ed,none⟩::os) ⟨s,m⟩ K:=ZiQ hz hst hok hf hK
theorem pN {e:Env} {mask:Nat} {Q:PX->St->Prop} {c:Code} {s s2:List (Nat × A)} {m m2:List (Nat × Bk)} (κ ety sz:Nat) (hK:pwp e mask c ⟨s2,(κ,.buf (some (none,0)) ety sz [])::m2⟩ Q) (h0:0 < sz:=by decide) (hs:Zav κ s=s2:=by exact snv) (hr:remM κ m=m2:=by exact snv):pwp e mask c ⟨s,m⟩ Q :=
 Zca (ZoB κ ety sz h0) fun σ' hσ=>by subst hσ;simp only [hs,hr];exact hK
theorem pD {e:Env} {mask:Nat} {Q:PX->St->Prop} {c:Code} {s s2:List (Nat × A)} {m m2:List (Nat × Bk)} {a:Option Addr} {cap ety sz:Nat} {rows:List (List C)} (k:Nat) (ts ks:List Nat) (hK:pwp e mask c ⟨s2,m2⟩ Q) (hm:gm m k=some (.buf (some (a,cap)) ety sz rows):=by exact snv)
  (hs:datS a rows.length cap rows ts (frzS k (.buf (some (a,cap)) ety sz rows) s)=s2:=by exact snv) (hr:datM a rows.length cap rows ks (remM k m)=m2:=by exact snv):pwp e mask c ⟨s,m⟩ Q :=
 Zca (ZoD k ts ks hm) fun σ' hσ=>by subst hσ;simp only [hs,hr];exact hK
theorem pS {e:Env} {mask:Nat} {Q:PX->St->Prop} {c:Code} {s:List (Nat × A)} {m m2:List (Nat × Bk)} {ety sz:Nat} {rows:List (List C)} {s2:Option Addr->Nat->List (Nat × A)} (k:Nat) (hK:∀ a cap,pwp e mask c ⟨s2 a cap,(k,.buf (some (a,cap)) ety sz rows)::m2⟩ Q)
  (hm:gm m k=some (.buf none ety sz rows):=by exact snv) (hs:∀ a cap,mapS (litB k a rows.length cap) s=s2 a cap:=by intro a cap;exact snv) (hr:remM k m=m2:=by exact snv):pwp e mask c ⟨s,m⟩ Q :=
 Zca (ZgO k hm) fun σ' ⟨a,cap,hσ⟩=>by subst hσ;simp only [hs,hr];exact hK a cap
def Za5 (pm pm':List Bk):Prop:=∀ (w:World) (S:Nat->Prop),(∀ x∈pm,Za4 w S x)->Zbd pm->(∀ x∈pm',Za4 w S x)∧Zbd pm'∧∀ g,Zax pm' g->Zax pm g
theorem pE {e:Env} {mask:Nat} {Q:PX->St->Prop} {c:Code} {s s2:List (Nat × A)} {m m2 m3:List (Nat × Bk)} {pm pm':List Bk} (ks ks':List Nat) (hre:Za5 pm pm') (hK:pwp e mask c ⟨s2,m3⟩ Q) (hpm:getM m ks=some pm:=by exact sny) (hn:ks.Nodup:=by decide) (hp:pm.all pinned=true:=by exact sny)
  (hs:Zbs (ks++ks') s=s2:=by exact snv) (hr:Zbv (ks++ks') m=m2:=by exact snv) (h3:zipM ks' pm'++m2=m3:=by exact snv):pwp e mask c ⟨s,m⟩ Q :=
 Zca (Zjb (Φ:=fun x=>x=pm') ks ks' hn hpm hp (fun w S h1 h2=>⟨pm',rfl,hre w S h1 h2⟩)) fun σ' ⟨q,hq,hσ⟩=>by subst hq hσ;simp only [hs,hr,h3];exact hK
def Zf0 {ι:Type} (pm:List Bk) (Φ:ι->Prop) (f:ι->List Bk):Prop:=∀ (w:World) (S:Nat->Prop),(∀ x∈pm,Za4 w S x)->Zbd pm->∃ i,Φ i∧(∀ x∈f i,Za4 w S x)∧Zbd (f i)∧∀ g,Zax (f i) g->Zax pm g
theorem pEx {e:Env} {mask:Nat} {Q:PX->St->Prop} {c:Code} {s s2:List (Nat × A)} {m m2:List (Nat × Bk)} {pm:List Bk} {ι:Type} {Φ:ι->Prop} {f:ι->List Bk} {m3:ι->List (Nat × Bk)} (ks ks':List Nat) (hre:Zf0 pm Φ f) (hK:∀ i,Φ i->pwp e mask c ⟨s2,m3 i⟩ Q) (hpm:getM m ks=some pm:=by exact sny) (hn:ks.Nodup:=by decide) (hp:pm.all pinned=true:=by exact sny)
  (hs:Zbs (ks++ks') s=s2:=by exact snv) (hr:Zbv (ks++ks') m=m2:=by exact snv) (h3:∀ i,zipM ks' (f i)++m2=m3 i:=by intro i;exact snv):pwp e mask c ⟨s,m⟩ Q :=
 Zca (Zjb (Φ:=fun x=>∃ i,Φ i∧x=f i) ks ks' hn hpm hp (fun w S h1 h2=>Exists.elim (hre w S h1 h2) fun i hi=>⟨f i,⟨i,hi.1,rfl⟩,hi.2⟩)) fun σ' ⟨q,⟨i,hi,hq⟩,hσ⟩=>by subst hq hσ;simp only [hs,hr,h3];exact hK i hi
theorem gIP {e:Env} {f:FuncId} {fn:Func} {c:Code} {args:List D} {pm:List Bk} {m0:List (Nat × Bk)} {R:List D->List Bk->Prop} {ts:List RS} (keys:List Nat) (mask:Nat) (hf:e.P.funcs[f]?=some fn) (h:pwp e mask c ⟨Zb5 0 args,m0⟩ (ZkO e.P ts R)) (hm:zipM keys pm=m0:=by exact snv) (hb:fn.body=some c:=by exact rfl) (hnm:(fn.name == "runtime.NumGoroutine")=false:=by kernel_rfl)
  (hok:Zbe fn.ntmps c=true:=by kernel_rfl) (hal:Nat.ble args.length fn.ntmps=true:=by exact rfl) (hres:ZaX fn.results.toList=ts:=by exact rfl) (he:e.Ok:=by first | exact Zqd | exact ZkV | assumption):ConP e f args pm R:=ZiP he keys mask hf hb hnm hok hal hres (by rw [hm];exact h)
theorem gTP {X:Prop} {P:Program} {ts:List RS} {R:List D->List Bk->Prop} {σ:St} {r:List D} {pm:List Bk} (ks:List Nat) (hR:R r pm) (hx:ZkO P ts R .ret σ->X:=by exact fun h=>ZeT h) (hr:resD P σ ts=some r:=by exact sfy) (hg:getM σ.m ks=some pm:=by exact sny) (hn:ks.Nodup:=by decide) (hp:pm.all pinned=true:=by exact sny):X :=
 hx ⟨r,ks,pm,hg,hn,hp,hR,Zfv hr⟩
theorem fG {p X Y:Prop} (f:p) (b:Y) (h:p->Y->X:=by intro F b;exact gG b):X:=h f b
theorem fR {p X Y:Prop} (f:p) (b:Y) (h:p->Y->X:=by intro F b;exact gR b):X:=h f b
theorem fC {p X Y Z:Prop} (f:p) (c:Z) (b:Y) (h:p->Z->Y->X:=by intro F c b;exact gC c b):X:=h f c b
theorem fN {p X Y:Prop} (n:Nat) (f:p) (b:Y) (h:ZbX n->p->Y->X:=by intro NN F b;exact gGn b):X:=h trivial f b
theorem fT {p X:Prop} (f:p) (h:p->X:=by intro F;refine gG ?_;exact gT):X:=h f
theorem fD {p X:Prop} (f:p) (h:p->X:=by intro F;refine gG ?_;exact gTd):X:=h f
theorem fB {p X Y:Prop} (f:p) (b:Y) (h:p->Y->X:=by intro F b;refine gG ?_;exact gB b):X:=h f b
theorem Kept.all1 {D:Prop} {B:Nat} {w w':World} (h:Kept D e1.E B w w') (h1:e1.G w) (h2:e1.G w'):Kept D (fun _=>False) B w w':=h
def Zag (w:World):List (List C)->(Nat->Prop)->List (List Value)->Prop
 | [],_,[]=>True
 | r::rs,S,us::uss=>∃ S1 S2:Nat->Prop,(∀ x,S1 x->S x)∧(∀ x,S2 x->S x)∧(∀ x,S1 x->S2 x->False)∧Zac w r S1 us∧Zag w rs S2 uss
 | _,_,_=>False
def Zae (us:List Value):List C:=us.map .lit
section
variable {w w':World}
theorem Zag.keep (hz:w.heap.size<=w'.heap.size):∀ (rows:List (List C)) (S S':Nat->Prop) (uss:List (List Value)),(∀ b,S b->w'.heap[b]?=w.heap[b]?)->(∀ b,S b->S' b)->Zag w rows S uss->Zag w' rows S' uss
 | [],_,_,[],_,_,_=>trivial
 | r::rs,S,S',us::uss,hk,hS,h=>by
  obtain ⟨S1,S2,h1,h2,hd,hr,hrs⟩:=h;exact ⟨S1,S2,fun x hx=>hS x (h1 x hx),fun x hx=>hS x (h2 x hx),hd,Zac.keep hz r S1 S1 us (fun x hx=>hk x (h1 x hx)) (fun _ h=>h) hr,Zag.keep hz rs S2 S2 uss (fun x hx=>hk x (h2 x hx)) (fun _ h=>h) hrs⟩
 | [],_,_,_::_,_,_,h=>h.elim
 | _::_,_,_,[],_,_,h=>h.elim
theorem Zag.len:∀ {rows:List (List C)} {S:Nat->Prop} {uss:List (List Value)},Zag w rows S uss->uss.length=rows.length
 | [],_,[],_=>rfl
 | r::rs,S,us::uss,⟨S1,S2,_,_,_,_,h⟩=>by simp [Zag.len h]
theorem Zag.snoc:∀ {rows:List (List C)} {r:List C} {S S1 S2:Nat->Prop} {uss:List (List Value)} {us:List Value},Zag w rows S1 uss->Zac w r S2 us->(∀ x,S1 x->S x)->(∀ x,S2 x->S x)->(∀ x,S1 x->S2 x->False)->Zag w (rows++[r]) S (uss++[us])
 | [],r,S,S1,S2,[],us,_,h2,i1,i2,hd=>⟨S2,fun _=>False,i2,fun _ h=>h.elim,fun _ _ h=>h,h2,trivial⟩
 | q::qs,r,S,S1,S2,vs::vss,us,⟨T1,T2,a1,a2,a3,a4,a5⟩,h2,i1,i2,hd =>
  ⟨T1,fun x=>T2 x∨S2 x,fun x hx=>i1 x (a1 x hx),fun x hx=>hx.elim (fun h=>i1 x (a2 x h)) (i2 x),fun x hx hy=>hy.elim (a3 x hx) (hd x (a1 x hx)),a4,
   Zag.snoc a5 h2 (fun _ h=>.inl h) (fun _ h=>.inr h) (fun x hx hy=>hd x (a2 x hx) hy)⟩
 | [],_,_,_,_,_::_,_,h,_,_,_,_=>h.elim
 | _::_,_,_,_,_,[],_,h,_,_,_,_=>h.elim
theorem Zag.get:∀ {rows:List (List C)} {S:Nat->Prop} {uss:List (List Value)} {i:Nat} {r:List C} {us:List Value},Zag w rows S uss->rows[i]?=some r->uss[i]?=some us->Zac w r S us
 | r::rs,S,us::uss,0,r',us',⟨S1,S2,h1,_,_,h,_⟩,hr,hu=>by
  simp at hr hu;subst hr hu;exact Zac.keep (Tah _) r S1 S us (fun _ _=>rfl) h1 h
 | r::rs,S,us::uss,i+1,r',us',⟨S1,S2,_,h2,_,_,h⟩,hr,hu =>
  Zac.keep (Tah _) r' S2 S us' (fun _ _=>rfl) h2 (Zag.get h (by simpa using hr) (by simpa using hu))
 | [],_,_,_,_,_,_,hr,_=>by simp at hr
 | _::_,_,[],_,_,_,h,_,_=>h.elim
theorem Zag.stable (rows:List (List C)) (E:Nat->Prop) (uss:List (List Value)):Zb8 E (fun w=>Zag w rows E uss):=fun w w' hz hk h=>Zag.keep hz rows E E uss hk (fun _ h=>h) h
theorem Zac.stable (r:List C) (E:Nat->Prop) (us:List Value):Zb8 E (fun w=>Zac w r E us):=fun w w' hz hk h=>Zac.keep hz r E E us hk (fun _ h=>h) h
theorem Own.stable (c:C) (E:Nat->Prop) (v:Value):Zb8 E (fun w=>Own w c E v):=fun w w' hz hk h=>Own.keep hz c E E v hk (fun _ h=>h) h
theorem Zck {S:Nat->Prop}:∀ {us vs:List Value},Zaa w S (Zae us) vs->vs=us
 | [],[],_=>rfl
 | u::us,v::vs,h=>by
  simp only [Zae,Tbl,Zaa,Rep] at h;rw [h.1,Zck h.2]
 | [],_::_,h=>by simp [Zae,Zaa] at h
 | _::_,[],h=>by simp [Zae,Zaa] at h
theorem ZaE.close {b:Nat} {T:Nat->Prop}:∀ {rows:List (List C)} {uss:List (List Value)} {S:Nat->Prop} {off:Nat},Zal w T b off (uss.map Zae)->Zag w rows S uss->ZaE w b rows S off
 | [],[],_,_,_,_=>by simp [ZaE]
 | r::rs,us::uss,S,off,hr,⟨S1,S2,h1,h2,hd,hv,hvs⟩=>by
  simp only [Tbl,Zal] at hr;simp only [ZaE];obtain ⟨vs,q1,q2⟩:=hr.1.vals;have e:=Zck q1;subst e;have hl:(Zae vs).length=r.length:=by simp [Zae,Zac.len hv]
  refine ⟨S1,S2,h1,h2,hd,ZaV.of_vals r S1 vs off hv q2,?_⟩;rw [<- hl];exact ZaE.close hr.2 hvs
 | [],_::_,_,_,_,h=>h.elim
 | _::_,[],_,_,_,h=>h.elim
theorem Own.close {T:Nat->Prop} {ety sz:Nat} {rows:List (List C)} {uss:List (List Value)} {E:Nat->Prop} {a:Option Addr} {cap:Nat} (hb:ZaK w T ety sz (uss.map Zae) (.slice a uss.length cap)) (hv:Zag w rows E uss) (hd:∀ b,vblk (.slice a uss.length cap)=some b->¬ E b) :
  Own w (.sl rows) (fun b=>vblk (.slice a uss.length cap)=some b∨E b) (.slice a uss.length cap):=by
 have hlen:=hv.len;obtain ⟨h1,h2,h3⟩:=hb;simp only [Own];rcases h3 with ⟨h4,a',h5⟩ | ⟨g,cap',cur,h5,hc,hg,hs,hh,hl,hm,hcs,hr⟩
 ·injection h5 with e1 e2 e3
  subst e1 e3;have hu0:uss=[]:=by simpa using h4
  exact ⟨a,uss.length,0,rfl,hlen.symm,by rw [hu0];exact Tah _,by decide,fun h=>absurd h (by decide)⟩
 ·injection h5 with e1 e2 e3
  subst e1 e3;have hvb:vblk (.slice (some ⟨g,0,none⟩) uss.length cap)=some g:=by simp only [vblk];rw [if_neg om]
  simp only [Taw] at hl;refine ⟨_,uss.length,cap,rfl,hlen.symm,hl,hm,fun h0=>⟨g,0,E,rfl,.inl hvb,hg,⟨fun o=>frozen_of_row w g o cur ety hh,rfl,cur,ety,sz,hh,hcs,h1,fun r hr0=>?_⟩,fun x hx=>⟨.inr hx,fun e=>hd g hvb (e ▸ hx)⟩,ZaE.close hr hv⟩⟩;obtain ⟨i,hi⟩:=Tbf hr0;have hil:=(Tac.1 hi).1;obtain ⟨us,hu⟩:∃ us,uss[i]?=some us:=⟨_,Taa om⟩;have hq:=(h2 (Zae us) (Tbe.2 ⟨us,Tab hu,rfl⟩)).1;have hq2:=Zac.len (hv.get hi hu)
  simp only [Zae,Taw] at hq;omega
theorem ZaV.open {b:Nat}:∀ {cs:List C} {S:Nat->Prop} {off:Nat},ZaV w b cs S off->∃ us,Zac w cs S us∧∀ j u,us[j]?=some u->w.cell? ⟨b,off+j,none⟩=some u
 | [],S,off,_=>⟨[],Zac.nil,fun j u h=>by simp at h⟩
 | c::cs,S,off,h=>by
  simp only [ZaV] at h;obtain ⟨S1,S2,u,h1,h2,hd,hu,hc,hcs⟩:=h;obtain ⟨us,k1,k2⟩:=ZaV.open hcs;refine ⟨u::us,Zac.cons S1 S2 hc k1 h1 h2 hd,fun j v hj=>?_⟩
  cases j with
  | zero=>simp at hj;subst hj;exact hu
  | succ j=>have:=k2 j v (by simpa using hj);rw [<- this];congr 2;omega
theorem ZaE.open {b:Nat}:∀ {rows:List (List C)} {S:Nat->Prop} {off:Nat},ZaE w b rows S off->∃ uss,Zag w rows S uss∧∀ T:Nat->Prop,Zal w T b off (uss.map Zae)
 | [],S,off,_=>⟨[],trivial,fun T=>by simp [Zal]⟩
 | r::rs,S,off,h=>by
  simp only [ZaE] at h;obtain ⟨S1,S2,h1,h2,hd,hr,hrs⟩:=h;obtain ⟨us,k1,k2⟩:=ZaV.open hr;obtain ⟨uss,k3,k4⟩:=ZaE.open hrs;refine ⟨us::uss,⟨S1,S2,h1,h2,hd,k1,k3⟩,fun T=>?_⟩;simp only [Tbl,Zal];refine ⟨Zaf.of_vals _ us off (Zcz us) k2,?_⟩;rw [show (Zae us).length=r.length by simp [Zae,k1.len]];exact k4 T
theorem Zac.cells:∀ {cs:List C} {S:Nat->Prop} {us:List Value},Zac w cs S us->cs.all Zai=true->(Zae us).all Zai=true
 | [],_,[],_,_=>rfl
 | c::cs,S,u::us,h,hc=>by
  simp only [Zac] at h;obtain ⟨S1,S2,_,_,_,h1,h2⟩:=h;simp only [List.all_cons,Taq] at hc;simp only [Zae,Tbl,List.all_cons,Taq];exact ⟨Zc7 (c:=c) hc.1 (Own.rep c S1 u h1),Zac.cells h2 hc.2⟩
 | [],_,_::_,h,_=>by simp [Zac] at h
 | _::_,_,[],h,_=>by simp [Zac] at h
theorem Own.open {T:Nat->Prop} {rows:List (List C)} {E:Nat->Prop} {a:Option Addr} {n cap sz:Nat} (hT:∀ b,E b->¬ T b) (hne:rows≠[]) (hrl:rowsLen sz rows) (h:Own w (.sl rows) E (.slice a n cap)) :
  ∃ uss ety E',n=uss.length∧ZaK w T ety sz (uss.map Zae) (.slice a uss.length cap)∧Zag w rows E' uss∧(∀ b,E' b->E b∧vblk (.slice a uss.length cap)≠some b)∧∀ b,vblk (.slice a uss.length cap)=some b->E b:=by
 simp only [Own] at h;obtain ⟨A,n',cap',hv,hn,hle,hmx,hb⟩:=h;injection hv with e1 e2 e3
 subst e1 e2 e3;have h0:0 < rows.length:=List.length_pos_iff.2 hne;obtain ⟨b,off,S',rfl,hEb,hbl,⟨hfr,rfl,cur,ety,sz',hh,hcs,hz,hrs⟩,hS',hrows⟩:=hb om;obtain ⟨uss,k1,k2⟩:=ZaE.open hrows;have hl:=k1.len;have hsz:sz'=sz:=by
  obtain ⟨r,hr⟩:=List.exists_mem_of_ne_nil _ hne;rw [<- hrs r hr,(hrl r hr).1]
 subst hsz;have hvb:vblk (.slice (some ⟨b,0,none⟩) uss.length cap)=some b:=by simp only [vblk];rw [if_neg om]
 have hrow:rowsLen sz' (uss.map Zae):=fun x hx=>by
  obtain ⟨us,hus,rfl⟩:=Tbe.1 hx;obtain ⟨i,hi⟩:=Tbf hus;have hil:=(Tac.1 hi).1;obtain ⟨r,hr⟩:∃ r,rows[i]?=some r:=⟨_,Taa om⟩;have hov:=k1.get hr hi;have hrm:=hrl r (Tab hr);exact ⟨by simp only [Zae,Taw];rw [hov.len];exact hrm.1,hov.cells hrm.2⟩
 refine ⟨uss,ety,S',om,⟨hz,hrow,.inr ⟨b,cap,cur,by simp,om,hbl,hT b hEb,hh,by simp only [Taw];omega,hmx,hcs,k2 T⟩⟩,k1,fun x hx=>⟨(hS' x hx).1,fun e=>?_⟩,fun x hx=>?_⟩
 ·rw [hvb] at e;injection e with e;exact (hS' x hx).2 e.symm
 ·rw [hvb] at hx;injection hx with hx;rw [<- hx];exact hEb
end
theorem Zcf (x:Bk):Zbd [x]:=⟨by simp,trivial⟩
theorem Zb1:Za5 [] [.set (fun _=>False) (fun w=>Zag w [] (fun _=>False) [])]:=fun w S _ _ =>
 ⟨fun x hx=>by simp at hx;subst hx;exact ⟨fun b h=>h.elim,trivial,Zag.stable _ _ _⟩,Zcf _,fun g ⟨x,hx,hg⟩=>by simp at hx;subst hx;exact hg.elim⟩
theorem ZeD {E E2:Nat->Prop} {G G2 G':World->Prop} (hG:∀ w,G w->G2 w->(∀ b,E b->E2 b->False)->G' w) (hst:Zb8 (fun b=>E b∨E2 b) G'):Za5 [.set E G,.set E2 G2] [.set (fun b=>E b∨E2 b) G']:=fun w S h ha=>by
 have h1:=h (.set E G) (by simp);have h2:=h (.set E2 G2) (by simp);refine ⟨fun x hx=>?_,Zcf _,fun g ⟨x,hx,hg⟩=>?_⟩
 ·simp at hx;subst hx;exact ⟨fun b hb=>hb.elim (h1.1 b) (h2.1 b),hG w h1.2.1 h2.2.1 (fun b q1 q2=>ha.1 (.set E2 G2) (by simp) b q1 q2),hst⟩
 ·simp at hx;subst hx;rcases hg with hg | hg
  ·exact ⟨.set E G,by simp,hg⟩
  ·exact ⟨.set E2 G2,by simp,hg⟩
theorem ZnY {E:Nat->Prop} {G G':World->Prop} (hG:∀ w,G w->G' w) (hst:Zb8 E G'):Za5 [.set E G] [.set E G']:=fun w S h ha=>by
 have h1:=h (.set E G) (by simp);refine ⟨fun x hx=>?_,Zcf _,fun g ⟨x,hx,hg⟩=>?_⟩
 ·simp at hx;subst hx;exact ⟨h1.1,hG w h1.2.1,hst⟩
 ·simp at hx;subst hx;exact ⟨.set E G,by simp,hg⟩
theorem ZbE {a:Option Addr} {cap ety sz:Nat} {uss:List (List Value)} {rows:List (List C)} {E:Nat->Prop} {G':World->Prop} (hG:∀ w,Own w (.sl rows) (fun b=>vblk (.slice a uss.length cap)=some b∨E b) (.slice a uss.length cap)->G' w) (hst:Zb8 (fun b=>vblk (.slice a uss.length cap)=some b∨E b) G') :
  Za5 [.buf (some (a,cap)) ety sz (uss.map Zae),.set E (fun w=>Zag w rows E uss)] [.set (fun b=>vblk (.slice a uss.length cap)=some b∨E b) G']:=fun w S h ha=>by
 have h1:ZaK w S ety sz (uss.map Zae) (.slice a (uss.map Zae).length cap):=h (.buf (some (a,cap)) ety sz (uss.map Zae)) (by simp);have h2:=h (.set E (fun w=>Zag w rows E uss)) (by simp);have hd:=ha.1 (.set E (fun w=>Zag w rows E uss)) (by simp);rw [Taw] at h1;simp only [pblk,Taw] at hd;refine ⟨fun x hx=>?_,Zcf _,fun g ⟨x,hx,hg⟩=>?_⟩
 ·simp at hx;subst hx;refine ⟨fun b hb=>?_,hG w (Own.close h1 h2.2.1 hd),hst⟩;rcases hb with hb | hb
  ·exact Own1.lt (L:=⟨fun _=>0,fun _=>.slice a uss.length cap⟩) (k:=0) (bk:=.buf none ety sz (uss.map Zae)) ⟨by simp,h1⟩ hb
  ·exact h2.1 b hb
 ·simp at hx;subst hx;rcases hg with hg | hg
  ·exact ⟨.buf (some (a,cap)) ety sz (uss.map Zae),by simp,by simp only [pblk,Taw];exact hg⟩
  ·exact ⟨.set E (fun w=>Zag w rows E uss),by simp,hg⟩
def Zbb (row:List C) (r:List D) (pm:List Bk):Prop:=∃ us E,r=[.agg (Zae us)]∧us.length=row.length∧(Zae us).all Zai=true∧pm=[.set E (fun w=>Zac w row E us)]
def ZeE (ety sz:Nat) (rows:List (List C)) (r:List D) (pm:List Bk):Prop:=∃ a cap uss E,r=[.one (.lit (.slice a uss.length cap))]∧uss.length=rows.length∧pm=[.buf (some (a,cap)) ety sz (uss.map Zae),.set E (fun w=>Zag w rows E uss)]
theorem Zbb.mk {row:List C} {us:List Value} {E:Nat->Prop} (h:us.length=row.length) (hok:(Zae us).all Zai=true):Zbb row [.agg (Zae us)] [.set E (fun w=>Zac w row E us)]:=⟨us,E,rfl,h,hok,rfl⟩
theorem ZeE.mk {ety sz:Nat} {rows:List (List C)} {a:Option Addr} {cap:Nat} {uss:List (List Value)} {E:Nat->Prop} (h:uss.length=rows.length):ZeE ety sz rows [.one (.lit (.slice a uss.length cap))] [.buf (some (a,cap)) ety sz (uss.map Zae),.set E (fun w=>Zag w rows E uss)]:=⟨a,cap,uss,E,rfl,h,rfl⟩
def Zbf (rows:List (List C)) (r:List D) (pm:List Bk):Prop:=∃ v E,r=[.one (.lit v)]∧Zai (.lit v)=true∧pm=[.set E (fun w=>Own w (.sl rows) E v)]
def ZbV:Bk->Bool
 | .set _ _=>true
 | _=>false
def litC:C->Bool
 | .lit _=>true
 | _=>false
def litD:D->Bool
 | .one c=>litC c
 | .agg cs=>cs.all litC
 | _=>false
theorem Zfd {w:World} {S S':Nat->Prop}:∀ {cs:List C} {vs:List Value},cs.all litC=true->Zaa w S cs vs->Zaa w S' cs vs
 | [],[],_,_=>trivial
 | .lit x::cs,v::vs,hl,h=>by
  simp only [List.all_cons,Taq] at hl;exact ⟨h.1,Zfd hl.2 h.2⟩
 | .sl _::_,_::_,hl,_=>by simp [litC] at hl
 | .ptr _::_,_::_,hl,_=>by simp [litC] at hl
 | .fn _ _::_,_::_,hl,_=>by simp [litC] at hl
 | [],_::_,_,h=>h.elim
 | _::_,[],_,h=>h.elim
theorem Zij {w:World} {S S':Nat->Prop} {x:D} {v:Value} (hl:litD x=true) (h:DRel w S x v):DRel w S' x v:=by
 cases x with
 | one c=>cases c with
  | lit y=>exact h
  | _=>simp [litD,litC] at hl
 | agg cs=>obtain ⟨vs,h1,h2⟩:=h;exact ⟨vs,h1,Zfd hl h2⟩
 | clip _=>simp [litD] at hl
theorem ZeF {w:World} {S S':Nat->Prop}:∀ {r:List D} {vs:List Value},r.all litD=true->Zau w S r vs->Zau w S' r vs
 | [],[],_,_=>trivial
 | x::r,v::vs,hl,h=>by
  simp only [List.all_cons,Taq] at hl;exact ⟨Zij hl.1 h.1,ZeF hl.2 h.2⟩
 | [],_::_,_,h=>h.elim
 | _::_,[],_,h=>h.elim
theorem ZoN {w:World} {S S':Nat->Prop} {L:Lay}:∀ {r:List D} {v:Value},r.all litD=true->ARel w S L (retA r) v->ARel w S' L (retA r) v
 | [],_,_,h=>by obtain ⟨vs,h1,h2⟩:=h;exact ⟨vs,h1,ZeF rfl h2⟩
 | [x],v,hl,h=>by
  simp only [List.all_cons,List.all_nil,Bool.and_true] at hl;exact Zij (x:=x) (v:=v) hl h
 | x::y::z,_,hl,h=>by obtain ⟨vs,h1,h2⟩:=h;exact ⟨vs,h1,ZeF hl h2⟩
theorem Zqe {e:Env} {f:FuncId} {args r:List D} (h:Con e f args r):ConP e f args [] (fun r' pm=>r'=r∧pm=[]):=by
 refine ⟨h.1,fun w S vs hS hE hG hpm ha hv=>(h.2 w S vs hS hE hG hv).mono ?_⟩;rintro en w' ⟨v,h1,h2,h3,h4⟩;refine ⟨v,r,[],h1,⟨rfl,rfl⟩,⟨h2.os,h2.tape,h2.output,h2.drawn,h2.size,fun k hk hn=>h2.block k hk (fun h=>hn (.inl h))⟩,h3,fun x hx=>by simp at hx,trivial,?_⟩;exact ARel.keep (Tah _) (fun _ _ _=>rfl) (fun b hb=>⟨hb.elim .inl (fun h=>.inr (.inr h)),fun ⟨x,hx,_⟩=>by simp at hx⟩) h4
theorem ZnZ {w:World} {S:Nat->Prop} {x:Bk} (hs:ZbV x=true) (h:Za4 w S x) {g:Nat} (hg:pblk x g):g < w.heap.size∧¬ S g:=by
 cases x with
 | set E G=>exact h.1 g hg
 | _=>simp [ZbV] at hs
theorem Zik {w w':World} {S S':Nat->Prop} {x:Bk} (hs:ZbV x=true) (h:Za4 w S x) (hz:w.heap.size<=w'.heap.size) (hk:∀ b,pblk x b->w'.heap[b]?=w.heap[b]?) (hS:∀ b,pblk x b->¬ S' b):Za4 w' S' x:=by
 cases x with
 | set E G=>exact ⟨fun b hb=>⟨Taz (h.1 b hb).1 hz,hS b hb⟩,h.2.2 w w' hz hk h.2.1,h.2.2⟩
 | _=>simp [ZbV] at hs
theorem ZgX:∀ {a b:List Bk},Zbd a->Zbd b->(∀ x∈a,∀ y∈b,∀ g,pblk x g->¬ pblk y g)->Zbd (a++b)
 | [],_,_,h,_=>h
 | x::a,b,⟨h1,h2⟩,h,hd=>⟨fun y hy g hx hg=>(Tbd.1 hy).elim (fun q=>h1 y q g hx hg) (fun q=>hd x Tar y q g hx hg),ZgX h2 h (fun z hz=>hd z (Tak _ hz))⟩
theorem ZgY {e:Env} {f:FuncId} {data lits:List D} {R:List D->List Bk->Prop} (pm:List Bk) (h:ConP e f data [] R) (hset:pm.all ZbV=true) (hR:∀ r q,R r q->r.all litD=true∧q.all ZbV=true)
  (hx:∀ (w:World) (S:Nat->Prop) (vs:List Value),(∀ x∈pm,Za4 w S x)->Zau w S lits vs->Zau w (fun b=>S b∨Zax pm b) data vs):ConP e f lits pm (fun r q=>∃ q1,R r q1∧q=q1++pm):=by
 refine ⟨h.1,fun w S vs hS hE hG hpm ha hv=>?_⟩;have hset':∀ x∈pm,ZbV x=true:=fun x hx=>List.all_eq_true.1 hset x hx;have hlt:∀ g,Zax pm g->g < w.heap.size∧¬ S g∧¬ e.E g:=fun g ⟨x,hxm,hg⟩=>⟨(ZnZ (hset' x hxm) (hpm x hxm).1 hg).1,(ZnZ (hset' x hxm) (hpm x hxm).1 hg).2,(hpm x hxm).2 g hg⟩;refine (h.2 w (fun b=>S b∨Zax pm b) vs (fun b hb=>hb.elim (hS b) (fun q=>⟨(hlt b q).1,(hlt b q).2.2⟩)) hE hG (fun x hx=>by simp at hx) trivial (hx w S vs (fun x hx=>(hpm x hx).1) hv)).mono ?_
 rintro en w' ⟨v,r,q1,h1,h2,h3,h4,h5,h6,h7⟩;obtain ⟨l1,l2⟩:=hR r q1 h2;have l2':∀ x∈q1,ZbV x=true:=fun x hx=>List.all_eq_true.1 l2 x hx;have hnew:∀ x∈q1,∀ g,pblk x g->w.heap.size<=g:=fun x hx g hg=>((h5 x hx).2 g hg).elim (fun ⟨y,hy,_⟩=>by simp at hy) id;have hnil:∀ b,¬ Zax [] b:=fun b ⟨y,hy,_⟩=>by simp at hy
 refine ⟨v,r,q1++pm,h1,⟨q1,h2,rfl⟩,⟨h3.os,h3.tape,h3.output,h3.drawn,h3.size,fun k hk hn=>h3.block k hk (fun q=>q.elim (fun q=>hn (.inl q)) (fun q=>hnil k q))⟩,h4,fun x hxm=>?_,ZgX h6 ha (fun x hx y hy g hg hg2=>?_),ZoN l1 h7⟩
 ·rcases Tbd.1 hxm with hq | hq
  ·refine ⟨Zik (l2' x hq) (h5 x hq).1 (Tah _) (fun _ _=>rfl) (fun b hb hn=>hn.2 ⟨x,Tbd.2 (.inl hq),hb⟩),fun g hg=>.inr (hnew x hq g hg)⟩
  ·refine ⟨Zik (hset' x hq) (hpm x hq).1 h3.size (fun b hb=>h3.block b (hlt b ⟨x,hq,hb⟩).1 (fun q=>q.elim (hlt b ⟨x,hq,hb⟩).2.2 (hnil b))) (fun b hb hn=>hn.2 ⟨x,Tbd.2 (.inr hq),hb⟩),fun g hg=>.inl ⟨x,hq,hg⟩⟩
 ·have:=hnew x hx g hg;have:=(hlt g ⟨y,hy,hg2⟩).1;omega
theorem Zg0 {n:Nat}:∀ {rows:List (List C)} (l:Nat),rowsLen n rows->(rows.take l).flatten=rows.flatten.take (l * n)
 | [],l,_=>by simp
 | r::rs,0,_=>by simp
 | r::rs,l+1,h=>by
  have h1:=(h r Tar).1;have h2:=Zg0 (n:=n) l (fun x hx=>h x (Tak _ hx):rowsLen n rs);simp only [Tay,List.flatten_cons,h2];rw [show (l+1) * n=r.length+l * n by rw [h1,Nat.succ_mul,Nat.add_comm],List.take_length_add_append]
theorem Zg1 {n:Nat}:∀ {rows:List (List C)} (l:Nat),rowsLen n rows->(rows.drop l).flatten=rows.flatten.drop (l * n)
 | [],l,_=>by simp
 | r::rs,0,_=>by simp
 | r::rs,l+1,h=>by
  have h1:=(h r Tar).1;have h2:=Zg1 (n:=n) l (fun x hx=>h x (Tak _ hx):rowsLen n rs);simp only [List.drop_succ_cons,List.flatten_cons,h2];rw [show (l+1) * n=r.length+l * n by rw [h1,Nat.succ_mul,Nat.add_comm],List.drop_length_add_append]
section
variable {e:Env} {U:Nat->Prop} {w0:World} {S0:Nat->Prop} {nt:Nat} {σ:St} {a:Act} {w:World} {S:Nat->Prop} {L:Lay}
theorem Sim.storeRows (h:Sim e U w0 S0 nt σ a w S L) (he:e.Ok) {o:Option (Option Addr × Nat)} {k l g ety sz:Nat} {rows news:List (List C)} {vs:List Value} (hm:gm σ.m k=some (.buf o ety sz rows)) (hg:vblk (L.v k)=some g) (hl:l+news.length<=rows.length) (hn:rowsLen sz news) (hu:Zaa w S news.flatten vs) :
  ∃ w',(storeCells ⟨g,l * sz,none⟩ vs).run e.P w=.ok () w'∧SimE e U w0 S0 nt ⟨σ.s,(k,.buf o ety sz (rows.take l++news++rows.drop (l+news.length)))::remM k σ.m⟩ a w':=by
 obtain ⟨hb0,hs0,hrl,h3⟩:=h.cls.own k _ hm;have hvl:=hu.len;have h1:=Zgl hn;rw [Zbg hn] at hvl;rcases h3 with ⟨h3,p,h4⟩ | ⟨g',cap,cur,hv,hcp,hg1,hg2,hheap0,hlen,hcap,hcs,hrows⟩
 ·rw [h4] at hg;cases p <;> simp [vblk] at hg
 ·have hgg:g'=g:=by rw [hv] at hg;simp only [vblk] at hg;rw [if_neg om] at hg;injection hg
  subst hgg;have hfl:=Zbg hrl;have hin:l * sz+vs.length<=rows.length * sz:=by
   have:=Nat.mul_le_mul_right sz hl;rw [Nat.add_mul] at this;omega
  have hin2:rows.length * sz<=cap * sz:=Nat.mul_le_mul_right sz hlen;have hst:=run_storeCells_at e.P g' (l * sz) ety vs 0 cur w hheap0 (by rw [hcs];omega) (Zcy h1 hu);simp only [Nat.add_zero] at hst;have hput:=Zc6 w g' (l * sz) ety vs cur hheap0 (by rw [hcs];omega);refine ⟨_,hst,?_⟩;have hheap:=setRow_heap w g' cur (cur.toList.take (l * sz)++vs++cur.toList.drop (l * sz+vs.length)).toArray ety _ hheap0
  have hdr:(w.setRow g' (cur.toList.take (l * sz)++vs++cur.toList.drop (l * sz+vs.length)).toArray).drawn=w.drawn:=ZcA _ _ _;generalize hW:w.setRow g' (cur.toList.take (l * sz)++vs++cur.toList.drop (l * sz+vs.length)).toArray=W at hput hheap hdr ⊢;have hsz:W.heap.size=w.heap.size:=hput.size;have hkc:∀ b o,S b->W.cell? ⟨b,o,none⟩=w.cell? ⟨b,o,none⟩:=fun b o hs=>ZaW (hput.other b (fun e=>hg2 (e ▸ hs))) o
  have hbk:Zas L k (.buf o ety sz rows) g':=hg;have hln:(rows.take l++news++rows.drop (l+news.length)).length=rows.length:=by simp;omega
  have hown:Own1 W S L k (.buf o ety sz (rows.take l++news++rows.drop (l+news.length))):=by
   simp only [Own1];refine ⟨fun a ha=>by rw [hb0 a ha,hln],hs0,fun x hx=>?_,.inr ⟨g',cap,_,by rw [hv,hln],hcp,om,hg2,hheap,by rw [hln];exact hlen,hcap,by simp;omega,?_⟩⟩
   ·rcases Tbd.1 hx with hx | hx
    ·rcases Tbd.1 hx with hx | hx
     ·exact hrl x (List.mem_of_mem_take hx)
     ·exact hn x hx
    ·exact hrl x (List.mem_of_mem_drop hx)
   ·apply Zal.of_flat;rw [List.flatten_append,List.flatten_append,Zg0 l hrl,Zg1 _ hrl];have hz:w.heap.size<=W.heap.size:=om;have hf:=hrows.flat;have r1:=Zaf.keepAt (S':=S) hz hkc (fun _ h=>h) g' 0 (rows.flatten.take (l * sz)) (fun i hi=>hput.old _ (.inl (by simp at hi;omega))) (hf.take (l * sz));have r3:Zaf W S g' (l * sz) news.flatten:=Zaf.of_vals _ vs _ (Zaa.keep2 hz hkc (fun _ h=>h) hu) hput.new
    have r5:=Zaf.keepAt (S':=S) hz hkc (fun _ h=>h) g' _ (rows.flatten.drop ((l+news.length) * sz)) (fun i hi=>hput.old _ (.inr (by rw [hvl];rw [Nat.add_mul];omega))) (hf.drop ((l+news.length) * sz));have l1:(rows.flatten.take (l * sz)).length=l * sz:=by rw [Tav,hfl];omega
    refine Zaf.append _ _ 0 (Zaf.append _ _ 0 r1 ?_) ?_
    ·rw [l1,Nat.zero_add];exact r3
    ·rw [Tad,l1,Zbg hn,<- Nat.add_mul];exact r5
  obtain ⟨t1,t2,t3⟩:=h.touch he (d:=k) (bk:=.buf o ety sz (rows.take l++news++rows.drop (l+news.length))) (m':=(k,.buf o ety sz (rows.take l++news++rows.drop (l+news.length)))::remM k σ.m) (w':=W) (L':=L) (τ:=some g') (fun _ h=>h) (fun _ h=>.inl h)
   (fun k' x hkd hx=>by simp only [gm,hkd,if_false,Za3] at hx;exact hx) (by simp [gm]) (fun _ _=>⟨rfl,rfl⟩)
   (fun q hq=>by injection hq with hq;subst hq;exact ⟨hg2,h.cls.notE hm hbk,h.cls.mine k _ _ hm hbk⟩)
   (fun k' x q hkd hx hq hb=>by
    injection hq with hq;subst hq
    simp only [gm,hkd,if_false,Za3] at hx;exact hkd (h.cls.inj k' k x _ _ hx hm hb hbk))
   ⟨hput.os,hput.tape,hput.output,fun _=>Nat.le_of_eq hdr.symm,om,fun b hb hE=>hput.other b (fun eq=>hE (by rw [eq]))⟩ hown (fun q hq=>.inl (by rw [<- hq];exact hg.symm))
  exact ⟨S,L,t1,fun t=>t3 _ _ (fun _=>⟨rfl,rfl⟩) (h.rel t),h.size,h.defers,t2⟩
end
section
variable {e:Env} {σ:St} {o:Oper} {K:St->Prop}
theorem Zn0 {U:Nat->Prop} {base:Nat} {S0:Nat->Prop} {t:TypeId} {x:Operand} {lo hi:Option Operand} (ho:o.op=.slice t x lo hi none) {k cap ety sz:Nat} {a:Option Addr} {rows:List (List C)} {l h:Int} (hx:nrm σ.m (evA σ.s x)=.buf k) (hm:gm σ.m k=some (.buf (some (a,cap)) ety sz rows)) (ht:ZaS e.P t=some sz)
  (hlo:loA (lo.map (evA σ.s))=some l) (hhi:hiA rows.length (hi.map (evA σ.s))=some h) (hb:0<=l∧l<=h∧h<=rows.length):ZaL e U base S0 σ.m o (evA σ.s) (.d (.one (.lit (sliced a l.toNat h.toNat cap sz)))):=by
 refine Zaq fun w S L ρv hC hr=>?_;have hx':=Zbw hC (hr x (by simp [ho,Op.operands]));rw [hx] at hx';have hx':ρv x=L.v k:=hx';obtain ⟨hpl,_,_,hbuf⟩:=hC.own k _ hm;have hv:L.v k=.slice a rows.length cap:=hpl (a,cap) rfl;have hcap:rows.length<=cap:=by
  rcases hbuf with ⟨h4,_⟩ | ⟨g,cap',cur,h4,_,_,_,_,h5,_⟩
  ·rw [h4];exact Tai _
  ·rw [hv] at h4;injection h4 with _ _ h4;rw [h4];exact h5
 have hel:∃ ety i,e.P.underlying t=some (.slice ety)∧e.P.info? ety=some i∧i.size=sz:=by
  unfold ZaS at ht;split at ht
  ·rename_i ety hu;simp only [Tau] at ht;obtain ⟨i,hi,hs⟩:=ht;exact ⟨ety,i,hu,hi,hs⟩
  ·cases ht
 obtain ⟨el,i,hu,hi',hsz⟩:=hel;have hlo:=Zfo (w:=w) (S:=S) (L:=L) (ρv:=ρv) hlo (fun y hy=>hr y (by simp [ho,Op.operands,hy]));have hhi:=Zfp (w:=w) (S:=S) (L:=L) (ρv:=ρv) hhi (fun y hy=>hr y (by simp [ho,Op.operands,hy]));refine ⟨sliced a l.toNat h.toNat cap sz,?_,by simp [ARel,DRel,Rep]⟩;have hbnd:(Instr.sliceBounds true rows.length cap (lo.map ρv) (hi.map ρv) none).run e.P w=.ok (l.toNat,h.toNat,cap) w:=by
  have eh:(h.toNat:Int)=h:=Int.toNat_of_nonneg om;have b1:0<=h:=om;have b2:h<=(cap:Int):=om;have b3:0<=l:=hb.1;have b4:l<=h:=hb.2.1;rcases hlo with ⟨rfl,rfl⟩ | e1 <;> rcases hhi with ⟨rfl,e2⟩ | e2
  ·simp [Instr.sliceBounds,e2,Result.andThen]
  ·simp [Instr.sliceBounds,e2,Result.andThen,run_sliceBound,b1,b2]
  ·have b5:l<=(rows.length:Int):=om;simp [Instr.sliceBounds,e1,e2,Result.andThen,run_sliceBound,b3,b5]
  ·simp [Instr.sliceBounds,e1,e2,Result.andThen,run_sliceBound,b1,b2,b3,b4,eh]
 simp only [execOp,ho,Sem.run_bind,hx',hv,Instr.sliceAt,Instr.slice,underlying,run_program,Result.andThen_ok,hu,Sem.run_pure,Option.map_none,hbnd,sizeOf,typeInfo,hi',hsz,sliced]
theorem ZoO {t:TypeId} {x:Operand} {lo hi:Option Operand} (ho:o.op=.slice t x lo hi none) {k cap ety sz:Nat} {a:Option Addr} {rows:List (List C)} {l h:Int} (hx:nrm σ.m (evA σ.s x)=.buf k) (hm:gm σ.m k=some (.buf (some (a,cap)) ety sz rows)) (ht:ZaS e.P t=some sz)
  (hlo:loA (lo.map (evA σ.s))=some l) (hhi:hiA rows.length (hi.map (evA σ.s))=some h) (hb:0<=l∧l<=h∧h<=rows.length) (hK:K ⟨setA σ.s o.dst (.d (.one (.lit (sliced a l.toNat h.toNat cap sz)))),σ.m⟩):Zbj e o σ K:=by
 intro he U w0 S0 nt ac w Q hd ⟨S,L,h1⟩;exact Oper.wp_mono (fun a' w' hs=>⟨_,hK,hs⟩) (Zcd h1 hd (Zn0 ho hx hm ht hlo hhi hb))
theorem Zek {U:Nat->Prop} {base:Nat} {S0:Nat->Prop} {t:TypeId} {x i:Operand} (ho:o.op=.indexAddr t x i) {k cap ety sz l h:Nat} {a:Option Addr} {rows:List (List C)} {j:Int} (hx:evA σ.s x=.d (.one (.lit (sliced a l h cap sz)))) (hi:evA σ.s i=.d (.one (.lit (.int .i64 j)))) (hm:gm σ.m k=some (.buf (some (a,cap)) ety sz rows)) (ht:ZaS e.P t=some sz)
  (hb:0<=j∧l+j < h∧h<=rows.length):ZaL e U base S0 σ.m o (evA σ.s) (.row k (l+j.toNat) sz 0):=by
 refine Zaq fun w S L ρv hC hr=>?_;have hx':=hr x (by simp [ho,Op.operands]);have hi':=hr i (by simp [ho,Op.operands]);rw [hx] at hx';rw [hi] at hi';have hx':=ZaR hx';have hi':=ZaR hi';obtain ⟨hpl,_,_,hbuf⟩:=hC.own k _ hm;have hv:L.v k=.slice a rows.length cap:=hpl (a,cap) rfl;rcases hbuf with ⟨h4,_⟩ | ⟨g,cap',cur,h4,h6,_,_,_,h5,_⟩
 ·rw [h4] at hb;simp at hb;omega
 ·rw [hv] at h4;injection h4 with h7 _ h8
  subst h7 h8;have hlc:¬ cap=l:=om;have hval:sliced (some ⟨g,0,none⟩) l h cap sz=.slice (some ⟨g,l * sz,none⟩) (h - l) (cap - l):=by
   simp only [sliced,hlc,if_false,Option.map_some,Addr.add_at,Nat.zero_add]
  refine ⟨.pointer (some ⟨g,(l+j.toNat) * sz+0,none⟩),?_,g,?_,rfl⟩
  ·unfold ZaS at ht;split at ht
   ·rename_i el hu;simp only [Tau] at ht;obtain ⟨ii,hii,hn⟩:=ht;have hlt:j < ((h - l:Nat):Int):=om;have hj:=hb.1;have e2:l * sz+j.toNat * sz=(l+j.toNat) * sz+0:=by rw [Nat.add_mul];rfl
    simp [execOp,ho,hi',hx',hval,Instr.indexAt,asIntOf,underlying,hu,sizeOf,typeInfo,hii,hn,Addr.add_at,hj,hlt,Result.andThen,e2]
   ·cases ht
  ·rw [hv];simp only [vblk];rw [if_neg om]
theorem Zil {t:TypeId} {x i:Operand} (ho:o.op=.indexAddr t x i) {k cap ety sz l h:Nat} {a:Option Addr} {rows:List (List C)} {j:Int} (hx:evA σ.s x=.d (.one (.lit (sliced a l h cap sz)))) (hi:evA σ.s i=.d (.one (.lit (.int .i64 j)))) (hm:gm σ.m k=some (.buf (some (a,cap)) ety sz rows)) (ht:ZaS e.P t=some sz)
  (hb:0<=j∧l+j < h∧h<=rows.length) (hK:K ⟨setA σ.s o.dst (.row k (l+j.toNat) sz 0),σ.m⟩):Zbj e o σ K:=by
 intro he U w0 S0 nt ac w Q hd ⟨S,L,h1⟩;exact Oper.wp_mono (fun a' w' hs=>⟨_,hK,hs⟩) (Zcd h1 hd (Zek ho hx hi hm ht hb))
theorem Zhk {t:TypeId} {x i:Operand} (ho:o.op=.indexAddr t x i) {k cap ety sz l h:Nat} {a:Option Addr} {rows:List (List C)} {j:Int} (hx:evA σ.s x=.d (.one (.lit (sliced a l h cap sz)))) (hi:evA σ.s i=.d (.one (.lit (.int .i64 j)))) (hm:gm σ.m k=some (.buf (some (a,cap)) ety sz rows)) (ht:ZaS e.P t=some sz)
  (hb:0<=j∧l+j < h∧h<=rows.length) (hK:K ⟨setA σ.s o.dst (.row k (l+j.toNat) sz 0),σ.m⟩):ZcK e o σ K:=fun he=>⟨_,hK,fun U base S0=>Zek ho hx hi hm ht hb⟩
theorem ZkX {x:Operand} {t:TypeId} (ho:o.op=.call ⟨.builtin .clear,#[x],#[t]⟩) {k cap ety sz by' l:Nat} {a:Option Addr} {rows:List (List C)} {z:List C} (hx:evA σ.s x=.d (.one (.lit (sliced a l rows.length cap sz)))) (hm:gm σ.m k=some (.buf (some (a,cap)) ety sz rows)) (ht:ZaN e.P t=some (ety,sz,by')) (hz:ZaD e.P ety=some z) (hzok:z.all Zai=true) (hl:l < rows.length)
  (hK:K ⟨setA σ.s o.dst (.tup []),(k,.buf (some (a,cap)) ety sz (rows.take l++List.replicate (rows.length - l) z))::remM k σ.m⟩):Zbj e o σ K:=by
 intro he U w0 S0 nt ac w Q hd ⟨S,L,h1⟩;have hx':=h1.eval x;rw [hx] at hx';have hx':=ZaR hx';obtain ⟨hpl,hs0,_,hbuf⟩:=h1.cls.own k _ hm;have hv:L.v k=.slice a rows.length cap:=hpl (a,cap) rfl;obtain ⟨i,zv,hu,hi,hzz,hsz,hby,hzs,hs0,hb4⟩:=ZbZ ht;have hzc:z=zv.cells.toList.map toC:=by
  unfold ZaD at hz;simp only [hi,Option.bind_some,hzz,Option.map_some,Tap] at hz;exact hz.symm
 rcases hbuf with ⟨h4,_⟩ | ⟨g,cap',cur,h4,h6,_,_,_,h5,_⟩
 ·rw [h4] at hl;simp at hl
 ·rw [hv] at h4;injection h4 with h7 _ h8
  subst h7 h8;have hlc:¬ cap=l:=om;have hval:sliced (some ⟨g,0,none⟩) l rows.length cap sz=.slice (some ⟨g,l * sz,none⟩) (rows.length - l) (cap - l):=by
   simp only [sliced,hlc,if_false,Option.map_some,Addr.add_at,Nat.zero_add]
  have hn:rowsLen sz (List.replicate (rows.length - l) z):=fun r hr=>by
   rw [List.eq_of_mem_replicate hr];exact ⟨by rw [hzc];simp [hzs],hzok⟩
  have hu':Zaa w S (List.replicate (rows.length - l) z).flatten ((List.replicate (rows.length - l) zv).flatMap fun v=>v.cells.toList):=by rw [hzc];exact Zeu _
  obtain ⟨w',hst,hsim⟩:=h1.storeRows he (l:=l) (g:=g) hm (by rw [hv];simp only [vblk];rw [if_neg om]) (by simp;omega) hn hu';rw [List.length_replicate,show l+(rows.length - l)=rows.length by omega,List.drop_length,List.append_nil] at hsim;obtain ⟨S',L',hsim⟩:=hsim;have hzc2:(Builtin.zeroCells zv.cells (rows.length - l)).toList=(List.replicate (rows.length - l) zv).flatMap fun v=>v.cells.toList:=by
   have:=ZfO zv sz hs0 hzs (rows.length - l);rw [<- this];simp [Builtin.zeroCells,madeCells,hzs]
  have hrun:(execOp ac.eval o).run e.P w=.ok (.value (.tuple #[])) w':=by
   have hne:¬ (rows.length - l=0):=om;obtain ⟨q,hq⟩:∃ q,rows.length - l=q+1:=⟨rows.length - l - 1,om⟩;rw [hq] at hst hzc2;simp [execOp,ho,resolve,invoke,builtin,Builtin.clear_,hx',hval,hq,underlying,hu,zeroValue,hi,hzz,typeInfo,Result.andThen,hzc2,hst]
  unfold Oper.wp;rw [hrun,Oper.upon_value];refine ⟨_,hK,S',L',hsim.put (α:=.tup []) (v:=.tuple #[]) ⟨[],rfl,trivial⟩ hd⟩
end
theorem ZqI {a:Option Addr} {cap ety sz:Nat} {rows:List (List C)} (m:Nat) (hm:m<=rows.length):Za5 [.buf (some (a,cap)) ety sz rows] [.buf (some (a,cap)) ety sz (rows.take m)]:=fun w S h ha=>by
 have hl:(rows.take m).length=m:=by rw [Tav];omega
 obtain ⟨h0,hrl,hc⟩:ZaK w S ety sz rows (.slice a rows.length cap):=h (.buf (some (a,cap)) ety sz rows) (by simp);have hb:∀ b,vblk (.slice a m cap)=some b ↔ vblk (.slice a rows.length cap)=some b:=fun b=>by cases a <;> simp [vblk]
 refine ⟨fun x hx=>?_,Zcf _,fun g ⟨x,hx,hg⟩=>?_⟩
 ·simp only [Tbc,List.not_mem_nil,or_false] at hx;subst hx;show ZaK w S ety sz (rows.take m) (.slice a (rows.take m).length cap);rw [hl];refine ⟨h0,fun r hr=>hrl r (List.mem_of_mem_take hr),?_⟩;rcases hc with ⟨h4,p,h5⟩ | ⟨g,cap',cur,h4,h5,h6,h7,h8,h9,h10,h11,h12⟩
  ·subst h4;simp only [Taj,Nat.le_zero_eq] at hm;subst hm;exact .inl ⟨by simp,p,by simpa using h5⟩
  ·injection h4 with e1 e2 e3
   subst e1 e3;refine .inr ⟨g,cap,cur,by rw [hl],h5,h6,h7,h8,by rw [hl];omega,h10,h11,?_⟩;have:=Zal.sub hrl h12 0 m;simpa using this
 ·simp only [Tbc,List.not_mem_nil,or_false] at hx;subst hx;refine ⟨.buf (some (a,cap)) ety sz rows,by simp,?_⟩;simp only [pblk,hl] at hg ⊢;exact (hb g).1 hg
theorem gSub {e:Env} {K:St->Prop} {ds:List (Option Nat)} {os:List Oper} {d t ty cap ety sz:Nat} {p:String} {ed:Array Edge} {x:Operand} {lo hi:Option Operand} {s:List (Nat × A)} {m:List (Nat × Bk)} {a:Option Addr} {rows:List (List C)} (k l h:Nat) (hb:l<=h∧h<=rows.length) (hK:Runs e ds 0 os ⟨(d,.d (.one (.lit (sliced a l h cap sz))))::s,m⟩ K)
  (hx:nrm m (evA s x)=.buf k:=by exact sfx) (hm:gm m k=some (.buf (some (a,cap)) ety sz rows):=by exact snv) (ht:ZaS e.P t=some sz:=by exact snx)
  (hlo:loA (lo.map (evA s))=some (l:Int):=by exact sfx) (hhi:hiA rows.length (hi.map (evA s))=some (h:Int):=by exact sfx):Runs e ds 0 (⟨some d,.slice t x lo hi none,ty,p,ed,none⟩::os) ⟨s,m⟩ K:=by
 simp only [Runs] at hK ⊢;exact Zce rfl (ZoO (o:=⟨some d,.slice t x lo hi none,ty,p,ed,none⟩) rfl hx hm ht hlo hhi ⟨om,om,om⟩ (by simpa only [Tbo,setA] using hK))
theorem ZqW {e:Env} {K:St->Prop} {ds:List (Option Nat)} {os:List Oper} {d t ty cap ety sz l h:Nat} {p:String} {ed:Array Edge} {x i:Operand} {s:List (Nat × A)} {m:List (Nat × Bk)} {a:Option Addr} {rows:List (List C)} (k j:Nat) (hb:l+j < h∧h<=rows.length) (hK:Runs e ds 0 os ⟨(d,.row k (l+j) sz 0)::s,m⟩ K)
  (hx:evA s x=.d (.one (.lit (sliced a l h cap sz))):=by exact snx) (hi:evA s i=.d (.one (.lit (.int .i64 (j:Int)))):=by exact sfx) (hm:gm m k=some (.buf (some (a,cap)) ety sz rows):=by exact snv) (ht:ZaS e.P t=some sz:=by exact snx):Runs e ds 0 (⟨some d,.indexAddr t x i,ty,p,ed,none⟩::os) ⟨s,m⟩ K:=by
 simp only [Runs] at hK ⊢;exact Zce rfl (Zil (o:=⟨some d,.indexAddr t x i,ty,p,ed,none⟩) rfl hx hi hm ht ⟨om,om,om⟩ (by simpa only [Tbo,setA] using hK))
theorem ZkY {e:Env} {ds:List (Option Nat)} {K:St->Prop} {n:Nat} {os:List Oper} {o:Oper} {σ:St} (hg:o.guard=none) (hal:isAl o=false) (h:ZcK e o σ (fun σ'=>Runs e ds n os σ' K)):Runs e ds (n+1) (o::os) σ K:=by
 simp only [Runs,hg];rw [if_neg (by simp [hal])];exact h
theorem Zn1 {e:Env} {K:St->Prop} {ds:List (Option Nat)} {os:List Oper} {n d t ty cap ety sz l h:Nat} {p:String} {ed:Array Edge} {x i:Operand} {s:List (Nat × A)} {m:List (Nat × Bk)} {a:Option Addr} {rows:List (List C)} (k j:Nat) (hb:l+j < h∧h<=rows.length) (hK:Runs e ds n os ⟨(d,.row k (l+j) sz 0)::s,m⟩ K)
  (hx:evA s x=.d (.one (.lit (sliced a l h cap sz))):=by exact snx) (hi:evA s i=.d (.one (.lit (.int .i64 (j:Int)))):=by exact sfx) (hm:gm m k=some (.buf (some (a,cap)) ety sz rows):=by exact snv) (ht:ZaS e.P t=some sz:=by exact snx):Runs e ds (n+1) (⟨some d,.indexAddr t x i,ty,p,ed,none⟩::os) ⟨s,m⟩ K :=
 ZkY rfl rfl (Zhk (o:=⟨some d,.indexAddr t x i,ty,p,ed,none⟩) rfl hx hi hm ht ⟨om,om,om⟩ (by simpa only [Tbo,setA] using hK))
theorem ZqJ {e:Env} {K:St->Prop} {ds:List (Option Nat)} {os:List Oper} {t ty cap ety sz by' l:Nat} {dd:Option Nat} {p:String} {ed:Array Edge} {x:Operand} {s s':List (Nat × A)} {m m':List (Nat × Bk)} {a:Option Addr} {rows:List (List C)} {z:List C} (k:Nat) (hl:l < rows.length) (hK:Runs e ds 0 os ⟨s',(k,.buf (some (a,cap)) ety sz (rows.take l++List.replicate (rows.length - l) z))::m'⟩ K)
  (hx:evA s x=.d (.one (.lit (sliced a l rows.length cap sz))):=by exact snv) (hm:gm m k=some (.buf (some (a,cap)) ety sz rows):=by exact snv) (ht:ZaN e.P t=some (ety,sz,by'):=by exact snx) (hz:ZaD e.P ety=some z:=by exact snx) (hzok:z.all Zai=true:=by first | rfl | exact sny)
  (hs:setA s dd (.tup [])=s':=by simp only [setA];exact rfl) (hr:remM k m=m':=by exact snv):Runs e ds 0 (⟨dd,.call ⟨.builtin .clear,#[x],#[t]⟩,ty,p,ed,none⟩::os) ⟨s,m⟩ K:=by
 subst hs hr;simp only [Runs] at hK ⊢;exact Zce rfl (ZkX (o:=⟨dd,.call ⟨.builtin .clear,#[x],#[t]⟩,ty,p,ed,none⟩) rfl hx hm ht hz hzok hl hK)
theorem ZiR (a:Option Addr) (k cap sz:Nat):sliced a 0 k cap sz=.slice a k cap:=by
 cases a with
 | none=>simp [sliced]
 | some p =>
  have:p.add 0=p:=by cases p;simp [Addr.add]
  simp [sliced,this]
theorem ZbD {r:List C} (h:Zam (Zab .term) r):∃ (i0:Int) (t1:ByteArray) (i2:Int) (r3:List (List C)),r=[.lit (.int .i64 i0),.lit (.string t1),.lit (.int .i64 i2),.sl r3]∧I64 i0∧t1.size<=maxLen∧I64 i2∧Zah (Zab .term) r3:=by
 obtain ⟨c0,c1,c2,c3,rfl⟩:=len4 h.len;simp only [Zab,Zba,occF,Zdj,sigF,Zde,algF,Tae,Tag,redF,Zam,and_true] at h;obtain ⟨h0,h1,h2,h3⟩:=h;obtain ⟨i0,rfl,g0⟩:=ZbK h0;obtain ⟨t1,rfl,g1⟩:=ZeO h1;obtain ⟨i2,rfl,g2⟩:=ZbK h2;obtain ⟨r3,rfl,g3⟩:=ZbL h3;exact ⟨i0,t1,i2,r3,rfl,g0,g1,g2,g3⟩
theorem Zbc {i0:Int} {t1:ByteArray} {i2:Int} {r3:List (List C)} (g0:I64 i0) (g1:t1.size<=maxLen) (g2:I64 i2) (g3:Zah (Zab .term) r3):Zam (Zab .term) [.lit (.int .i64 i0),.lit (.string t1),.lit (.int .i64 i2),.sl r3]:=by
 simp only [Zab,Zba,occF,Zdj,sigF,Zde,algF,Tae,Tag,redF,Zam,and_true];exact ⟨ZhG g0,Zlg g1,ZhG g2,ZdW g3⟩
inductive Tm where
 | mk (op:Int) (name:ByteArray) (sort:Int) (args:List Tm)
def Tm.args:Tm->List Tm | .mk _ _ _ a=>a
def Tm.op:Tm->Int | .mk a _ _ _=>a
def Tm.name:Tm->ByteArray | .mk _ a _ _=>a
def Tm.sort:Tm->Int | .mk _ _ a _=>a
mutual
def Zak:Tm->List C
 | .mk op nm so args=>[.lit (.int .i64 op),.lit (.string nm),.lit (.int .i64 so),.sl (Zad args)]
def Zad:List Tm->List (List C)
 | []=>[]
 | t::ts=>Zak t::Zad ts
end
mutual
def okTm:Tm->Prop
 | .mk op nm so args=>I64 op∧nm.size<=maxLen∧I64 so∧Za0 args
def Za0:List Tm->Prop
 | []=>True
 | t::ts=>okTm t∧Za0 ts
end
theorem Za2 (ts:List Tm):Zad ts=ts.map Zak:=by
 induction ts with
 | nil=>simp [Zad]
 | cons t ts ih=>simp [Zad,ih]
theorem Zar (ts:List Tm):(Zad ts).length=ts.length:=by simp [Za2]
theorem Za7 (ts:List Tm) (i:Nat):(Zad ts)[i]?=ts[i]?.map Zak:=by simp [Za2]
mutual
theorem Zn2:∀ (t:Tm),okTm t->Zam (Zab .term) (Zak t)
 | .mk op nm so args,h=>by
  simp only [okTm] at h;simp only [Zak];exact Zbc h.1 h.2.1 h.2.2.1 (Zd3 args h.2.2.2)
theorem Zd3:∀ (ts:List Tm),Za0 ts->Zah (Zab .term) (Zad ts)
 | [],_=>by simp [Zad,Zah]
 | t::ts,h=>by
  simp only [Za0] at h;simp only [Zad,Zah];exact ⟨Zn2 t h.1,Zd3 ts h.2⟩
end
theorem ZoP (n:Nat):(∀ row,ZaQ row < n->Zam (Zab .term) row->∃ t,row=Zak t∧okTm t)∧(∀ rows,Za1 rows < n->Zah (Zab .term) rows->∃ ts,rows=Zad ts∧Za0 ts):=by
 induction n with
 | zero=>exact ⟨fun _ h=>om,fun _ h=>om⟩
 | succ n ih =>
  have h1:∀ row,ZaQ row < n+1->Zam (Zab .term) row->∃ t,row=Zak t∧okTm t:=by
   intro row hn hok;obtain ⟨i0,t1,i2,r3,rfl,g0,g1,g2,g3⟩:=ZbD hok;obtain ⟨ts,rfl,hts⟩:=ih.2 r3 (by simp only [ZaQ,Zb7] at hn;omega) g3;exact ⟨.mk i0 t1 i2 ts,by simp [Zak],by simp only [okTm];exact ⟨g0,g1,g2,hts⟩⟩
  refine ⟨h1,fun rows=>?_⟩
  induction rows with
  | nil=>exact fun _ _=>⟨[],by simp [Zad],by simp [Za0]⟩
  | cons r rs ihr =>
   intro hn hok;simp only [Za1] at hn;simp only [Zah] at hok;obtain ⟨t,rfl,ht⟩:=h1 r om hok.1;obtain ⟨ts,rfl,hts⟩:=ihr om hok.2;exact ⟨t::ts,by simp [Zad],by simp only [Za0];exact ⟨ht,hts⟩⟩
theorem ZqX {row:List C} (h:Zam (Zab .term) row):∃ t,row=Zak t∧okTm t:=(ZoP _).1 row (Tam _) h
theorem Za0.mem:∀ {ts:List Tm} {t:Tm},Za0 ts->t∈ts->okTm t
 | [],_,_,h=>by simp at h
 | x::xs,t,h,ht=>by
  simp only [Za0] at h;rcases Tbc.1 ht with rfl | ht
  ·exact h.1
  ·exact Za0.mem h.2 ht
def ZaC (a b:Int):Int:=if a < b then -1 else if b < a then 1 else 0
def Za6 (a b:ByteArray):Int:=Lib.compareBytes a.data.toList b.data.toList
def Zaw:List Int->Int
 | []=>0
 | x::xs=>if x=0 then Zaw xs else x
mutual
def Zao:Tm->Tm->Int
 | .mk o n s a,.mk o' n' s' a'=>Zaw [ZaC o o',Za6 n n',ZaC s s',Zat a a']
def Zat:List Tm->List Tm->Int
 | [],[]=>0
 | [],_::_=>-1
 | _::_,[]=>1
 | x::xs,y::ys=>Zaw [Zao x y,Zat xs ys]
end
theorem Zc3:∀ (l:List UInt8),Lib.compareBytes l l=0
 | []=>rfl
 | x::xs=>by simp [Lib.compareBytes,Zc3 xs]
theorem Zc4:∀ {l m:List UInt8},Lib.compareBytes l m=0->l=m
 | [],[],_=>rfl
 | [],_::_,h=>by simp [Lib.compareBytes] at h
 | _::_,[],h=>by simp [Lib.compareBytes] at h
 | x::xs,y::ys,h=>by
  simp only [Lib.compareBytes] at h;split at h
  ·simp at h
  ·split at h
   ·simp at h
   ·rename_i h1 h2;have e:x=y:=UInt8.le_antisymm (UInt8.not_lt.1 h2) (UInt8.not_lt.1 h1);rw [e,Zc4 h]
theorem Zc5:∀ (l m:List UInt8),Op.bytesLess l m=decide (Lib.compareBytes l m=-1)
 | [],[]=>by simp [Op.bytesLess,Lib.compareBytes]
 | [],_::_=>by simp [Op.bytesLess,Lib.compareBytes]
 | _::_,[]=>by simp [Op.bytesLess,Lib.compareBytes]
 | x::xs,y::ys=>by
  have ih:=Zc5 xs ys;simp only [Op.bytesLess,Lib.compareBytes,ih];by_cases h1:x < y
  ·simp [h1]
  ·by_cases h2:y < x
   ·have:¬ x=y:=fun e=>by subst e;exact h1 h2
    simp [h1,h2,this]
   ·have e:x=y:=UInt8.le_antisymm (UInt8.not_lt.1 h2) (UInt8.not_lt.1 h1);subst e;simp [h1]
theorem Zc0:∀ (l m:List UInt8),Lib.compareBytes l m=-1∨Lib.compareBytes l m=0∨Lib.compareBytes l m=1
 | [],[]=>by simp [Lib.compareBytes]
 | [],_::_=>by simp [Lib.compareBytes]
 | _::_,[]=>by simp [Lib.compareBytes]
 | x::xs,y::ys=>by
  have ih:=Zc0 xs ys;simp only [Lib.compareBytes];split
  ·simp
  ·split
   ·simp
   ·exact ih
theorem Zbp {a b:Int}:ZaC a b=0 ↔ a=b:=by unfold ZaC;split <;> (try split) <;> simp <;> omega
theorem ZcR {a b:ByteArray}:Za6 a b=0 ↔ a=b:=by
 constructor
 ·intro h;have:=Zc4 h;obtain ⟨⟨la⟩⟩:=a;obtain ⟨⟨lb⟩⟩:=b;simp at this;rw [this]
 ·rintro rfl;exact Zc3 _
theorem Zim (a b:ByteArray):Za6 a b=-1∨Za6 a b=0∨Za6 a b=1:=Zc0 _ _
theorem ZiS:∀ {ps qs:List Tm} {k:Nat} {x y:Tm},ps[k]?=some x->qs[k]?=some y->Zat (ps.drop k) (qs.drop k)=Zaw [Zao x y,Zat (ps.drop (k+1)) (qs.drop (k+1))]:=by
 intro ps qs k x y h1 h2;have e1:ps.drop k=x::ps.drop (k+1):=by
  obtain ⟨hl,hx⟩:=Tac.1 h1;rw [<- hx];exact List.drop_eq_getElem_cons hl
 have e2:qs.drop k=y::qs.drop (k+1):=by
  obtain ⟨hl,hx⟩:=Tac.1 h2;rw [<- hx];exact List.drop_eq_getElem_cons hl
 rw [e1,e2,Zat]
theorem ZkZ (a b:Int) (w:World):Calls Try.prog 69 #[.int .i64 a,.int .i64 b] w fun e w'=>e=.returned (.int .i64 (ZaC a b))∧w=w':=by
 unfold ZaC;by_cases h1:a < b
 ·rw [if_pos h1]
  go_enter Try.func69,Try.ntmps69
  go_wp2
  go_ret
  exact ⟨rfl,rfl⟩
 ·by_cases h2:b < a
  ·rw [if_neg h1,if_pos h2]
   go_enter Try.func69,Try.ntmps69
   go_wp2
   go_ret
   exact ⟨rfl,rfl⟩
  ·rw [if_neg h1,if_neg h2]
   go_enter Try.func69,Try.ntmps69
   go_wp2
   go_ret
   exact ⟨rfl,rfl⟩
theorem Zgr (a b:ByteArray) (w:World):Calls Try.prog 84 #[.string a,.string b] w fun e w'=>e=.returned (.int .i64 (Za6 a b))∧w=w':=by
 go_enter Try.func84,Try.ntmps84
 go_wp2
 rw [run_callFunc_extern Try.func98 (by kernel_rfl) (by kernel_rfl) (by kernel_rfl) (e:=Extern.BytealgCompare.compare) (by kernel_rfl),Lib.run_compareString];simp only [Result.andThen];rw [Oper.upon_value]
 go_wp2
 go_ret
 exact ⟨rfl,rfl⟩
theorem Zgs (a b:ByteArray) (w:World):Calls Try.prog 70 #[.string a,.string b] w fun e w'=>e=.returned (.int .i64 (Za6 a b))∧w=w':=by
 go_enter Try.func70,Try.ntmps70
 go_wp2_with fail
 refine (Zgr _ _ _).mono ?_;rintro e w' ⟨rfl,rfl⟩
 go_wp2
 go_ret
 exact ⟨rfl,rfl⟩
theorem Zin {l:List Int} {k:Nat} {x:Int} (h:l[k]?=some x):Zaw (l.drop k)=if x=0 then Zaw (l.drop (k+1)) else x:=by
 obtain ⟨hl,hx⟩:=Tac.1 h;rw [List.drop_eq_getElem_cons hl,hx,Zaw]
theorem okC.cell:∀ {f:F} {c:C},okC f c->Zai c=true
 | .int,.lit v,h=>by obtain ⟨n,rfl,_⟩:=h;rfl
 | .str,.lit v,h=>by obtain ⟨n,rfl,_⟩:=h;rfl
 | .bool,.lit v,h=>by obtain ⟨n,rfl⟩:=h;rfl
 | .sl t,.sl rows,h=>rfl
 | .int,.sl _,h=>False.elim h
 | .str,.sl _,h=>False.elim h
 | .bool,.sl _,h=>False.elim h
 | .sl _,.lit _,h=>False.elim h
 | f,.ptr _,h=>by cases f <;> exact False.elim h
 | f,.fn _ _,h=>by cases f <;> exact False.elim h
theorem Zam.cells:∀ {fs:List F} {cs:List C},Zam fs cs->cs.all Zai=true
 | [],[],_=>rfl
 | f::fs,c::cs,h=>by
  simp only [Zam] at h;rw [List.all_cons,h.1.cell,Zam.cells h.2];rfl
 | [],_::_,h=>by simp [Zam] at h
 | _::_,[],h=>by simp [Zam] at h
theorem Zam.take {fs:List F} {cs:List C} (h:Zam fs cs) {n:Nat} (hn:fs.length=n):cs.length=n∧cs.take n=cs∧cs.drop n=[]:=by
 have:=h.len;refine ⟨om,?_,?_⟩
 ·rw [List.take_of_length_le om]
 ·rw [List.drop_eq_nil_of_le om]
theorem Zah.rowsLen {fs:List F} {rows:List (List C)} (h:Zah fs rows):rowsLen fs.length rows:=fun r hr=>by
 obtain ⟨i,hi⟩:=Tbf hr;exact ⟨(h.get hi).len,(h.get hi).cells⟩
theorem Zaz {α:Type} (l:List α):l.drop 0=l:=rfl
theorem ZeG (t:Tm):(Zak t).length=4:=by cases t;rfl
theorem Zkw (t:Tm):(Zak t).take 4=Zak t:=by cases t;rfl
theorem Zkx (t:Tm):(Zak t).drop 4=[]:=by cases t;rfl
theorem ZhC (t:Tm):(Zak t).all Zai=true:=by cases t;rfl
theorem Zd4 (ts:List Tm):Zay 4 (Zad ts)=true:=by
 rw [Za2];exact ZbB (e:=Zak) (n:=4) (fun t=>by rw [ZeG,ZhC];rfl) ts
theorem Zqf (t:Tm):valT .one (Zak t)=some (.d (.one (.lit (.int .i64 t.op)))):=by cases t;rfl
theorem Zqg (t:Tm):(Zak t).drop 1=[.lit (.string t.name),.lit (.int .i64 t.sort),.sl (Zad t.args)]:=by cases t;rfl
theorem Zqh (t:Tm):(Zak t).drop 2=[.lit (.int .i64 t.sort),.sl (Zad t.args)]:=by cases t;rfl
theorem Zqi (t:Tm):(Zak t).drop 3=[.sl (Zad t.args)]:=by cases t;rfl
theorem tmz:type_of% (aj12 Zqf Zqg Zqh Zqi ZeG Zkw Zkx ZhC Zd4 Za7 Zar @Zaz):=(aj12 Zqf Zqg Zqh Zqi ZeG Zkw Zkx ZhC Zd4 Za7 Zar @Zaz)
theorem Zio {e:Env} {f:FuncId} {args:List D} {x:Value} (hb:ZbM e.P f=true) (h:∀ (w:World) (S:Nat->Prop) (vs:List Value),Zau w S args vs->Calls e.P f vs.toArray w fun en w'=>en=.returned x∧w=w'):Con e f args [.one (.lit x)] :=
 ⟨hb,fun w S vs _ _ hG hv=>(h w S vs hv).mono fun en w' ⟨h1,h2⟩=>by subst h2;exact ⟨x,h1,Kept.refl ..,hG,by simp [retA,ARel,DRel,Rep]⟩⟩
theorem ZoQ {e:Env} {f:FuncId} {args r:List D} {φ:Prop} (hb:ZbM e.P f=true) (hφ:∀ (w:World) (S:Nat->Prop) (vs:List Value),Zau w S args vs->φ) (h:φ->Con e f args r):Con e f args r :=
 ⟨hb,fun w S vs h1 h2 h3 h4=>(h (hφ w S vs h4)).2 w S vs h1 h2 h3 h4⟩
theorem Zg2 (a b:Int):Con e1 69 [.one (.lit (.int .i64 a)),.one (.lit (.int .i64 b))] [.one (.lit (.int .i64 (ZaC a b)))]:=by
 refine Zio (by kernel_rfl) fun w S vs h=>?_
 match vs,h with
 | [x,y],h =>
  obtain ⟨hx,hy,_⟩:=h;have hx:x=.int .i64 a:=hx;have hy:y=.int .i64 b:=hy;subst hx hy;exact ZkZ a b w
theorem Zn3 (a b:ByteArray):Con e1 70 [.one (.lit (.string a)),.one (.lit (.string b))] [.one (.lit (.int .i64 (Za6 a b)))]:=by
 refine Zio (by kernel_rfl) fun w S vs h=>?_
 match vs,h with
 | [x,y],h =>
  obtain ⟨hx,hy,_⟩:=h;have hx:x=.string a:=hx;have hy:y=.string b:=hy;subst hx hy;exact Zgs a b w
theorem Zk0 (l:List Int) (hl:l.length<=1048576):Con e1 68 [.clip (l.map fun n=>[.lit (.int .i64 n)])] [.one (.lit (.int .i64 (Zaw l)))]:=by
 have rb:Zay 1 (l.map fun n=>[C.lit (.int .i64 n)])=true:=ZbB (e:=fun n=>[C.lit (.int .i64 n)]) (n:=1) (fun _=>rfl) l;refine gI (ts:=[.slot 2]) 17389 Try.func68 ?_;refine fG @rb ?_;have F:=@rb;refine gL (ι:=Nat) [2,5,8,9,14] [] (fun x=>[(8,.d (.one (.lit (.int .i64 (x:Int)))))]) (fun x=>[]) (fun x=>x<=l.length∧Zaw l=Zaw (l.drop x)) (fun x=>l.length - x) (0) (⟨Tai _,rfl⟩) (fun x hx=>?_);clear F;obtain ⟨hi,hf⟩:=hx
 rw [hf];clear hf;by_cases hlt:x < l.length
 ·obtain ⟨n,hn⟩:∃ n,l[x]?=some n:=⟨_,Taa hlt⟩;have q1:=lT x l.length;have q4:IntKind.i64.wrap ((x:Int)+1)=(x:Int)+1:=IntWalk.i64_in _ om;rw [Zin hn];by_cases h0:n=0
  ·subst h0;rw [if_pos rfl];refine fG (aj3 @q1 @rb @hn) ?_;have F:=@q4;refine gG ?_;exact ⟨x+1,⟨hlt,rfl⟩,gw,gw,om⟩
  ·have q2:(n=0)=False:=eq_false h0;rw [if_neg h0];exact fD (aj4 @q1 @rb @hn @q2)
 ·obtain rfl:x=l.length:=by omega
  have q1:=lF l.length l.length;rw [List.drop_length];simp only [Zaw];exact fD @q1
theorem ZiT {b:List Tm} {k:Nat} {xs:List Tm} (h:xs.length<=k):Zat (xs.drop k) b=if b=[] then 0 else -1:=by
 rw [List.drop_eq_nil_of_le h]
 cases b with
 | nil=>simp [Zat]
 | cons x xs=>simp [Zat]
theorem ZiU {a:Tm} {k:Nat} {xs bs:List Tm} (ha:xs[k]?=some a) (h:bs.length<=k):Zat (xs.drop k) (bs.drop k)=1:=by
 obtain ⟨hl,hx⟩:=Tac.1 ha;rw [List.drop_eq_nil_of_le h,List.drop_eq_getElem_cons hl];simp [Zat]
theorem Zf1 (xs bs:List Tm) (hla:xs.length<=maxLen) (hlb:bs.length<=maxLen) (h:∀ a∈xs,∀ b∈bs,Con e1 52 [.agg (Zak a),.agg (Zak b)] [.one (.lit (.int .i64 (Zao a b)))]):Con e1 71 [.one (.sl (Zad xs)),.one (.sl (Zad bs)),.one (.fn 52 [])] [.one (.lit (.int .i64 (Zat xs bs)))]:=by
 unfold maxLen at hla hlb;refine gI (ts:=[.slot 6]) 277027520455 Try.func71 ?_;refine fG @tmz ?_;have F:=@tmz;refine gL (ι:=Nat) [6,7,8,9,10,13,14,21,31] [] (fun x=>[(13,.d (.one (.lit (.int .i64 (x:Int)))))]) (fun x=>[]) (fun x=>x<=xs.length∧x<=bs.length∧Zat xs bs=Zat (xs.drop x) (bs.drop x)) (fun x=>xs.length - x) (0) (⟨Tai _,Tai _,rfl⟩) (fun x hx=>?_);clear F;obtain ⟨hi,hj,hf⟩:=hx;rw [hf];clear hf
 by_cases hlt:x < xs.length
 ·obtain ⟨a,ha⟩:∃ n,xs[x]?=some n:=⟨_,Taa hlt⟩;have q1:=lT x xs.length;by_cases hlt2:x < bs.length
  ·obtain ⟨b,hb⟩:∃ n,bs[x]?=some n:=⟨_,Taa hlt2⟩;have q2:((x:Int) ≥ (bs.length:Int))=False:=eq_false om;have q4:IntKind.i64.wrap ((x:Int)+1)=(x:Int)+1:=IntWalk.i64_in _ om;rw [ZiS ha hb];simp only [Zaw];refine fB (aj5 @q1 @q2 @tmz @ha @hb) ?_;refine fC @tmz (h a (Tab ha) b (Tab hb)) ?_;refine fR @tmz ?_;by_cases h0:Zao a b=0
   ·have q3:(Zao a b=0)=True:=eq_true h0;rw [if_pos h0,show (if Zat (xs.drop (x+1)) (bs.drop (x+1))=0 then (0:Int) else Zat (xs.drop (x+1)) (bs.drop (x+1)))=Zat (xs.drop (x+1)) (bs.drop (x+1)) by split <;> simp_all];refine fG (ai @tmz @q3) ?_;have F:=@q4;refine gG ?_;exact ⟨x+1,⟨hlt,hlt2,rfl⟩,gw,gw,om⟩
   ·have q3:(Zao a b=0)=False:=eq_false h0;rw [if_neg h0];exact fD (ai @tmz @q3)
  ·have q2:((x:Int) ≥ (bs.length:Int))=True:=eq_true om;rw [ZiU ha om];exact fD (aj4 @q1 @q2 @tmz @ha)
 ·have q1:=lF x xs.length;rw [ZiT om];by_cases h2:xs.length < bs.length
  ·have q2:=lT xs.length bs.length;rw [if_neg (by intro e;have:=congrArg List.length e;simp at this;omega)];exact fD (aj3 @q1 @q2 @tmz)
  ·have q2:=lF xs.length bs.length;rw [if_pos (by apply List.drop_eq_nil_of_le;omega)];exact fD (aj3 @q1 @q2 @tmz)
theorem Zky {w:World} {S:Nat->Prop} {rows:List (List C)} {v:Value} (h:Rep w S (.sl rows) v):rows.length<=maxLen:=by
 simp only [Rep] at h;obtain ⟨A,n,cap,_,h1,h2,h3,_⟩:=h;omega
theorem Zip (xs bs:List Tm) (h:∀ a∈xs,∀ b∈bs,Con e1 52 [.agg (Zak a),.agg (Zak b)] [.one (.lit (.int .i64 (Zao a b)))]):Con e1 71 [.one (.sl (Zad xs)),.one (.sl (Zad bs)),.one (.fn 52 [])] [.one (.lit (.int .i64 (Zat xs bs)))]:=by
 refine ZoQ (φ:=xs.length<=maxLen∧bs.length<=maxLen) (by kernel_rfl) (fun w S vs hv=>?_) fun hφ=>Zf1 xs bs hφ.1 hφ.2 h
 match vs,hv with
 | [x,y,z],hv =>
  have h1:=Zky hv.1;have h2:=Zky hv.2.1;rw [Zar] at h1 h2;exact ⟨h1,h2⟩
theorem ZiV (a b:Tm) (h:∀ x∈a.args,∀ y∈b.args,Con e1 52 [.agg (Zak x),.agg (Zak y)] [.one (.lit (.int .i64 (Zao x y)))]):Con e1 52 [.agg (Zak a),.agg (Zak b)] [.one (.lit (.int .i64 (Zao a b)))]:=by
 obtain ⟨o,n,s,xs⟩:=a;obtain ⟨o',n',s',bs⟩:=b;simp only [Tm.args] at h;have c1:Zak (.mk o n s xs)=[.lit (.int .i64 o),.lit (.string n),.lit (.int .i64 s),.sl (Zad xs)]:=by simp only [Zak]
 have c2:Zak (.mk o' n' s' bs)=[.lit (.int .i64 o'),.lit (.string n'),.lit (.int .i64 s'),.sl (Zad bs)]:=by simp only [Zak]
 have e3:Zao (.mk o n s xs) (.mk o' n' s' bs)=if Zaw [ZaC o o',Za6 n n',ZaC s s']=0 then Zat xs bs else Zaw [ZaC o o',Za6 n n',ZaC s s']:=by
  simp only [Zao,Zaw];by_cases h1:ZaC o o'=0
  ·by_cases h2:Za6 n n'=0
   ·by_cases h3:ZaC s s'=0
    ·simp only [h1,h2,h3,if_true];split <;> simp_all
    ·simp only [h1,h2,h3,if_true,if_false]
   ·simp only [h1,h2,if_true,if_false]
  ·simp only [h1,if_false]
 have hor:=Zk0 [ZaC o o',Za6 n n',ZaC s s'] (by simp);simp only [Tbl,List.map_nil] at hor;rw [e3];refine gI (ts:=[.slot 4]) 16777279 Try.func52 ?_;refine fB (ai @c1 @c2) ?_;refine fC (ai @c1 @c2) (Zg2 o o') ?_;refine fC (ai @c1 @c2) (Zn3 n n') ?_;refine fC (ai @c1 @c2) (Zg2 s s') ?_;refine fC (ai @c1 @c2) (hor) ?_;refine fR (ai @c1 @c2) ?_;by_cases h0:Zaw [ZaC o o',Za6 n n',ZaC s s']=0
 ·have q3:(Zaw [ZaC o o',Za6 n n',ZaC s s']=0)=True:=eq_true h0;rw [if_pos h0];refine fB (aj3 @q3 @c1 @c2) ?_;refine fC (ai @c1 @c2) (Zip xs bs h) ?_;refine fR (ai @c1 @c2) ?_;exact fD (ai @c1 @c2)
 ·have q3:(Zaw [ZaC o o',Za6 n n',ZaC s s']=0)=False:=eq_false h0;rw [if_neg h0];exact fD (aj3 @q3 @c1 @c2)
theorem Zk1 (n:Nat):∀ a b:Tm,ZaQ (Zak a) < n->Con e1 52 [.agg (Zak a),.agg (Zak b)] [.one (.lit (.int .i64 (Zao a b)))]:=by
 induction n with
 | zero=>exact fun _ _ h=>om
 | succ n ih =>
  intro a b hn;refine ZiV a b fun x hx y hy=>ih x y ?_;obtain ⟨op,nm,so,args⟩:=a;simp only [Zak,ZaQ,Zb7] at hn;simp only [Tm.args] at hx;obtain ⟨i,hi⟩:=Tbf hx;have hi':(Zad args)[i]?=some (Zak x):=by rw [Za7,hi];rfl
  have h1:=Zbo hi';omega
theorem Ziq (a b:Tm):Con e1 52 [.agg (Zak a),.agg (Zak b)] [.one (.lit (.int .i64 (Zao a b)))]:=Zk1 _ a b (Tam _)
theorem Zaa.mem {w:World} {S:Nat->Prop}:∀ {cs:List C} {us:List Value} {c:C},Zaa w S cs us->c∈cs->∃ u,Rep w S c u
 | c::cs,u::us,x,h,hx=>by
  simp only [Zaa] at h;rcases Tbc.1 hx with rfl | hx
  ·exact ⟨u,h.1⟩
  ·exact Zaa.mem h.2 hx
 | [],_,_,_,hx=>by simp at hx
 | _::_,[],_,h,_=>by simp [Zaa] at h
theorem ZoR {e:Env} {f:FuncId} {cs:List C} {rows:List (List C)} {post r:List D} (hb:ZbM e.P f=true) (hc:.sl rows∈cs) (h:rows.length<=maxLen->Con e f (.agg cs::post) r):Con e f (.agg cs::post) r:=⟨hb,fun w S vs hS hE hG hv=>by
 match vs,hv with
 | v::vs,⟨h1,h2⟩ =>
  have h1':DRel w S (.agg cs) v:=h1;obtain ⟨us,_,hu⟩:=h1';obtain ⟨u,hr⟩:=hu.mem hc;obtain ⟨A,n,cap,_,hn,hl,hm⟩:=hr.form;exact (h om).2 w S _ hS hE hG ⟨h1,h2⟩⟩
theorem ZoS {n n':ByteArray} (h:n≠n'):(n.toList==n'.toList)=false:=by
 simp only [beq_eq_false_iff_ne,ne_eq,ByteArray.toList_eq];intro e;apply h;obtain ⟨⟨la⟩⟩:=n;obtain ⟨⟨lb⟩⟩:=n';simp at e;rw [e]
theorem ZiW {x y:List Tm} {i:Nat} {a b:Tm} (ha:x[i]?=some a) (hb:y[i]?=some b):Zat (x.drop i) (y.drop i)=if Zao a b=0 then Zat (x.drop (i+1)) (y.drop (i+1)) else Zao a b:=by
 obtain ⟨h1,rfl⟩:=Tac.1 ha;obtain ⟨h2,rfl⟩:=Tac.1 hb;rw [List.drop_eq_getElem_cons h1,List.drop_eq_getElem_cons h2];simp only [Zat,Zaw];split
 ·split <;> simp_all
 ·rfl
theorem Zgt (a b:Tm) (ha:okTm a) (h:∀ x∈a.args,okTm x->∀ y∈b.args,Con e0 48 [.agg (Zak x),.agg (Zak y)] [.one (.lit (.int .i64 (Zao x y)))]):Con e0 48 [.agg (Zak a),.agg (Zak b)] [.one (.lit (.int .i64 (Zao a b)))]:=by
 obtain ⟨o,n,s,xs⟩:=a;obtain ⟨o',n',s',ys⟩:=b;simp only [Tm.args] at h;simp only [okTm] at ha;have c1:Zak (.mk o n s xs)=[.lit (.int .i64 o),.lit (.string n),.lit (.int .i64 s),.sl (Zad xs)]:=by simp only [Zak]
 have c2:Zak (.mk o' n' s' ys)=[.lit (.int .i64 o'),.lit (.string n'),.lit (.int .i64 s'),.sl (Zad ys)]:=by simp only [Zak]
 rw [c1,c2];refine ZoR (rows:=Zad xs) (by kernel_rfl) (by simp) fun hm1=>?_;unfold maxLen at hm1;rw [Zar] at hm1;by_cases ho:o=o';rotate_left
 ·have q1:(o=o')=False:=eq_false ho;have hz:ZaC o o'≠0:=fun e=>ho (Zbp.1 e);rw [show Zao (.mk o n s xs) (.mk o' n' s' ys)=ZaC o o' by simp only [Zao,Zaw,if_neg hz]];by_cases hl:o < o'
  ·have q2:(o < o')=True:=eq_true hl;rw [show ZaC o o'=-1 by unfold ZaC;rw [if_pos hl]];refine gI (ts:=[.slot 4]) 304601861798674884003967 Try.func48 ?_;exact fD (ai @q1 @q2)
  ·have q2:(o < o')=False:=eq_false hl;rw [show ZaC o o'=1 by unfold ZaC;rw [if_neg hl,if_pos om]];refine gI (ts:=[.slot 4]) 304601861798674884003967 Try.func48 ?_;exact fD (ai @q1 @q2)
 subst ho;have hz0:ZaC o o=0:=Zbp.2 rfl;by_cases hn:n=n';rotate_left
 ·have q1:=ZoS hn;have hz:Za6 n n'≠0:=fun e=>hn (ZcR.1 e);have hlq:Op.bytesLess n.toList n'.toList=decide (Za6 n n'=-1):=by rw [ByteArray.toList_eq,ByteArray.toList_eq];exact Zc5 _ _
  rw [show Zao (.mk o n s xs) (.mk o n' s' ys)=Za6 n n' by simp only [Zao,Zaw,if_pos hz0,if_neg hz]];rcases Zim n n' with e | e | e
  ·have q2:Op.bytesLess n.toList n'.toList=true:=by rw [hlq,e];rfl
   rw [e];refine gI (ts:=[.slot 4]) 304601861798674884003967 Try.func48 ?_;exact fD (ai @q1 @q2)
  ·exact absurd e hz
  ·have q2:Op.bytesLess n.toList n'.toList=false:=by rw [hlq,e];rfl
   rw [e];refine gI (ts:=[.slot 4]) 304601861798674884003967 Try.func48 ?_;exact fD (ai @q1 @q2)
 subst hn;have hz1:Za6 n n=0:=ZcR.2 rfl;by_cases hs:s=s';rotate_left
 ·have q1:(s=s')=False:=eq_false hs;have hz:ZaC s s'≠0:=fun e=>hs (Zbp.1 e);rw [show Zao (.mk o n s xs) (.mk o n s' ys)=ZaC s s' by simp only [Zao,Zaw,if_pos hz0,if_pos hz1,if_neg hz]];by_cases hl:s < s'
  ·have q2:(s < s')=True:=eq_true hl;rw [show ZaC s s'=-1 by unfold ZaC;rw [if_pos hl]];refine gI (ts:=[.slot 4]) 304601861798674884003967 Try.func48 ?_;exact fD (aj3 @q1 @q2 @beq_self_eq_true.{0})
  ·have q2:(s < s')=False:=eq_false hl;rw [show ZaC s s'=1 by unfold ZaC;rw [if_neg hl,if_pos om]];refine gI (ts:=[.slot 4]) 304601861798674884003967 Try.func48 ?_;exact fD (aj3 @q1 @q2 @beq_self_eq_true.{0})
 subst hs;have hz2:ZaC s s=0:=Zbp.2 rfl
 rw [show Zao (.mk o n s xs) (.mk o n s ys)=Zat xs ys by
  simp only [Zao,Zaw,if_pos hz0,if_pos hz1,if_pos hz2];split <;> simp_all]
 refine gI (ts:=[.slot 4]) 304601861798674884003967 Try.func48 ?_;refine fG (@beq_self_eq_true.{0}) ?_;have F:=@e0P;refine gL (ι:=Nat) [4,5,6,48,63] [] (fun i=>[(5,A.d (.one (.lit (.int .i64 i))))]) (fun i=>[]) (fun i=>i<=xs.length∧i<=ys.length∧Zat xs ys=Zat (xs.drop i) (ys.drop i)) (fun i=>xs.length - i) (0) (⟨Tai _,Tai _,rfl⟩) (fun i hi=>?_);clear F;obtain ⟨hi1,hi2,he⟩:=hi;have l1:=Zar xs;have l2:=Zar ys
 by_cases h1:i < xs.length;rotate_left
 ·obtain rfl:i=xs.length:=by omega
  have q1:=lF xs.length xs.length;rw [List.drop_length] at he;by_cases h2:xs.length < ys.length
  ·have q2:=lT xs.length ys.length;rw [he,List.drop_eq_getElem_cons h2];simp only [Zat];exact fD (aj3 @q1 @q2 @tmz)
  ·have q2:=lF xs.length ys.length;have q3:((xs.length:Int) > (ys.length:Int))=False:=eq_false om;rw [he,List.drop_of_length_le om];simp only [Zat];exact fD (aj4 @q1 @q2 @q3 @tmz)
 have q1:=lT i xs.length;by_cases h2:i < ys.length;rotate_left
 ·obtain rfl:i=ys.length:=by omega
  have q2:=lF ys.length ys.length;have q3:=lF xs.length ys.length;have q4:((xs.length:Int) > (ys.length:Int))=True:=eq_true om;rw [he,List.drop_length,List.drop_eq_getElem_cons h1];simp only [Zat];exact fD (aj5 @q1 @q2 @q3 @q4 @tmz)
 have q2:=lT i ys.length;obtain ⟨x,hx⟩:∃ x,xs[i]?=some x:=⟨_,Taa h1⟩;obtain ⟨y,hy⟩:∃ y,ys[i]?=some y:=⟨_,Taa h2⟩;have cC:=h x (Tab hx) (Za0.mem ha.2.2.2 (Tab hx)) y (Tab hy);rw [ZiW hx hy] at he;have hwi:=Zb6 (k:=i) om;refine fN 16 (aj3 @q1 @q2 @tmz) ?_;refine gB ?_;refine fC (aj6 @hx @hy @h1 @h2 @ZbC @tmz) (cC) ?_;by_cases h0:Zao x y=0
 ·have q5:(Zao x y=0)=True:=eq_true h0;rw [if_pos h0] at he;refine fR @e0P ?_;have F:=ai @q5 @hwi;refine gG ?_;exact ⟨i+1,⟨h1,h2,he⟩,gw,gw,om⟩
 ·have q5:(Zao x y=0)=False:=eq_false h0;rw [if_neg h0] at he;rw [he];refine fR @e0P ?_;exact fD @q5
theorem Zhl (n:Nat):∀ a b:Tm,ZaQ (Zak a) < n->okTm a->Con e0 48 [.agg (Zak a),.agg (Zak b)] [.one (.lit (.int .i64 (Zao a b)))]:=by
 induction n with
 | zero=>exact fun _ _ h=>absurd h om
 | succ n ih =>
  intro a b hn ha;refine Zgt a b ha fun x hx hox y hy=>ih x y ?_ hox;obtain ⟨op,nm,so,args⟩:=a;simp only [Zak,ZaQ,Zb7] at hn;simp only [Tm.args] at hx;obtain ⟨i,hi⟩:=Tbf hx;have hi':(Zad args)[i]?=some (Zak x):=by rw [Za7,hi];rfl
  have h1:=Zbo hi';omega
theorem Zff {a b:Tm} (ha:okTm a) (hk:okTm b):Con e0 48 [.agg (Zak a),.agg (Zak b)] [.one (.lit (.int .i64 (Zao a b)))]:=Zhl _ a b (Tam _) ha
mutual
theorem Zda:∀ {a b:Tm},Zao a b=0->a=b
 | .mk o n s x,.mk o' n' s' x',h=>by
  simp only [Zao,Zaw] at h;split at h
  ·rename_i h1;split at h
   ·rename_i h2;split at h
    ·rename_i h3;split at h
     ·rename_i h4;rw [Zbp.1 h1,ZcR.1 h2,Zbp.1 h3,Zfg h4]
     ·contradiction
    ·contradiction
   ·contradiction
  ·contradiction
theorem Zfg:∀ {a b:List Tm},Zat a b=0->a=b
 | [],[],_=>rfl
 | [],_::_,h=>by simp [Zat] at h
 | _::_,[],h=>by simp [Zat] at h
 | x::xs,y::ys,h=>by
  simp only [Zat,Zaw] at h;split at h
  ·rename_i h1;split at h
   ·rename_i h2;rw [Zda h1,Zfg h2]
   ·contradiction
  ·contradiction
end
mutual
theorem Zdb:∀ (a:Tm),Zao a a=0
 | .mk o n s x=>by simp only [Zao,Zaw,Zbp.2 (rfl:o=o),Zbp.2 (rfl:s=s),ZcR.2 (rfl:n=n),Zfh x,if_true]
theorem Zfh:∀ (a:List Tm),Zat a a=0
 | []=>rfl
 | x::xs=>by simp only [Zat,Zaw,Zdb x,Zfh xs,if_true]
end
theorem Zk2 {a b:Tm} (ha:okTm a) (hb:okTm b):Con e0 23 [.agg (Zak a),.agg (Zak b)] [.one (.lit (.bool (decide (Zao a b=0))))]:=by
 refine gI 31 Try.func23 ?_;refine fB @tmz ?_;refine fC @tmz (Zff ha hb) ?_;refine fR @tmz ?_;exact fT @tmz
def Tri (a b c:Int):Prop:=((a<=0->b<=0->c<=0)∧(a < 0->b<=0->c < 0)∧(a<=0->b < 0->c < 0))∧((0<=a->0<=b->0<=c)∧(0 < a->0<=b->0 < c)∧(0<=a->0 < b->0 < c))
theorem Zf2 (p q:Int):Zaw [p,q]=if p=0 then q else p:=by
 simp only [Zaw];split
 ·split <;> simp_all
 ·rfl
theorem Zn4 (p q r s:Int):Zaw [p,q,r,s]=Zaw [p,Zaw [q,Zaw [r,s]]]:=by
 simp only [Zf2,Zaw];by_cases h1:p=0 <;> by_cases h2:q=0 <;> by_cases h3:r=0 <;> by_cases h4:s=0 <;> simp [h1,h2,h3,h4]
theorem Tri.lex {a b c a' b' c':Int} (h:Tri a b c) (h':Tri a' b' c'):Tri (Zaw [a,a']) (Zaw [b,b']) (Zaw [c,c']):=by
 simp only [Zf2];unfold Tri at *;by_cases h1:a=0
 ·by_cases h2:b=0
  ·by_cases h3:c=0
   ·simp only [h1,h2,h3,if_true];exact h'
   ·omega
  ·by_cases h3:c=0
   ·omega
   ·simp only [h1,h2,h3,if_true,if_false];omega
 ·by_cases h2:b=0
  ·by_cases h3:c=0
   ·omega
   ·simp only [h1,h2,h3,if_true,if_false];omega
  ·by_cases h3:c=0
   ·simp only [h1,h2,h3,if_true,if_false];omega
   ·simp only [h1,h2,h3,if_false];omega
theorem Zcl (p q:Int):Zaw [-p,-q]=-Zaw [p,q]:=by
 simp only [Zf2];by_cases h:p=0
 ·simp [h]
 ·have:¬ -p=0:=om;simp [h,this]
theorem Zd5 (a b c:Int):Tri (ZaC a b) (ZaC b c) (ZaC a c):=by
 unfold Tri ZaC;by_cases h1:a < b <;> by_cases h2:b < c <;> by_cases h3:a < c <;> by_cases h4:b < a <;> by_cases h5:c < b <;> by_cases h6:c < a <;> simp only [h1,h2,h3,h4,h5,h6,if_true,if_false] <;> omega
theorem Zd6 (a b:Int):ZaC b a=-ZaC a b:=by
 unfold ZaC;by_cases h1:a < b <;> by_cases h2:b < a <;> simp only [h1,h2,if_true,if_false] <;> omega
theorem ZdF (x y:UInt8) (xs ys:List UInt8):Lib.compareBytes (x::xs) (y::ys)=Zaw [ZaC x.toNat y.toNat,Lib.compareBytes xs ys]:=by
 rw [Zf2];simp only [Lib.compareBytes,ZaC,UInt8.lt_iff_toNat_lt];by_cases h1:x.toNat < y.toNat
 ·have:((x.toNat:Int) < y.toNat):=om;simp [h1,this]
 ·have h1':¬ ((x.toNat:Int) < y.toNat):=om;by_cases h2:y.toNat < x.toNat
  ·have:((y.toNat:Int) < x.toNat):=om;simp [h1,h2,h1',this]
  ·have:¬ ((y.toNat:Int) < x.toNat):=om;simp [h1,h2,h1',this]
theorem Zg3:∀ (a b c:List UInt8),Tri (Lib.compareBytes a b) (Lib.compareBytes b c) (Lib.compareBytes a c)
 | [],[],[]=>by simp [Lib.compareBytes,Tri]
 | [],[],_::_=>by simp [Lib.compareBytes,Tri]
 | [],_::_,[]=>by simp [Lib.compareBytes,Tri]
 | [],y::ys,z::zs=>by
  have:Lib.compareBytes [] (y::ys)=-1:=rfl;have h2:Lib.compareBytes [] (z::zs)=-1:=rfl;rw [this,h2];unfold Tri;omega
 | _::_,[],[]=>by simp [Lib.compareBytes,Tri]
 | x::xs,[],z::zs=>by
  have:Lib.compareBytes (x::xs) []=1:=rfl;have h2:Lib.compareBytes [] (z::zs)=-1:=rfl;rw [this,h2];unfold Tri;omega
 | x::xs,y::ys,[]=>by
  have:Lib.compareBytes (x::xs) []=1:=rfl;have h2:Lib.compareBytes (y::ys) []=1:=rfl;rw [this,h2];unfold Tri;omega
 | x::xs,y::ys,z::zs=>by
  simp only [ZdF];exact (Zd5 _ _ _).lex (Zg3 xs ys zs)
theorem Zg4:∀ (a b:List UInt8),Lib.compareBytes b a=-Lib.compareBytes a b
 | [],[]=>rfl
 | [],_::_=>rfl
 | _::_,[]=>rfl
 | x::xs,y::ys=>by rw [ZdF,ZdF,Zd6,Zg4 xs ys,Zcl]
mutual
theorem Zbq:∀ (a b:Tm),Zao b a=-Zao a b
 | .mk o n s a,.mk o' n' s' a'=>by
  simp only [Zao,Zn4];rw [Zd6 o o',Zd6 s s',Zf3 a a',show Za6 n' n=-Za6 n n' from Zg4 _ _,Zcl,Zcl,Zcl]
theorem Zf3:∀ (a b:List Tm),Zat b a=-Zat a b
 | [],[]=>by simp [Zat]
 | [],_::_=>by simp [Zat]
 | _::_,[]=>by simp [Zat]
 | x::xs,y::ys=>by
  simp only [Zat];rw [Zbq x y,Zf3 xs ys,Zcl]
end
mutual
theorem ZeH:∀ (a b c:Tm),Tri (Zao a b) (Zao b c) (Zao a c)
 | .mk o n s a,.mk o' n' s' a',.mk o'' n'' s'' a''=>by
  simp only [Zao,Zn4];exact (Zd5 _ _ _).lex ((Zg3 _ _ _).lex ((Zd5 _ _ _).lex (Zf4 a a' a'')))
theorem Zf4:∀ (a b c:List Tm),Tri (Zat a b) (Zat b c) (Zat a c)
 | [],[],[]=>by simp [Zat,Tri]
 | [],[],_::_=>by simp [Zat,Tri]
 | [],_::_,[]=>by simp [Zat,Tri]
 | [],_::_,_::_=>by simp only [Zat];unfold Tri;omega
 | _::_,[],[]=>by simp [Zat,Tri]
 | _::_,[],_::_=>by simp only [Zat];unfold Tri;omega
 | _::_,_::_,[]=>by simp only [Zat];unfold Tri;omega
 | x::xs,y::ys,z::zs=>by
  simp only [Zat];exact (ZeH x y z).lex (Zf4 xs ys zs)
end
theorem ZcM {a b c:Tm} (h1:Zao a b < 0) (h2:Zao b c < 0):Zao a c < 0:=(ZeH a b c).1.2.1 h1 om
theorem ZdQ {a b c:Tm} (h1:Zao a b<=0) (h2:Zao b c<=0):Zao a c<=0:=(ZeH a b c).1.1 h1 h2
def Asc (l:List Tm):Prop:=l.Pairwise fun a b=>Zao a b < 0
theorem Asc.ext {l l':List Tm} (h:Asc l) (h':Asc l') (hm:∀ t,t∈l ↔ t∈l'):l=l':=by
 induction l generalizing l' with
 | nil =>
  cases l' with
  | nil=>rfl
  | cons y ys=>exact absurd ((hm y).2 (by simp)) (by simp)
 | cons x xs ih =>
  cases l' with
  | nil=>exact absurd ((hm x).1 (by simp)) (by simp)
  | cons y ys =>
   have h1:=List.pairwise_cons.1 h;have h2:=List.pairwise_cons.1 h';have e:x=y:=by
    rcases Tbc.1 ((hm x).1 (by simp)) with e | hx
    ·exact e
    ·rcases Tbc.1 ((hm y).2 (by simp)) with e | hy
     ·exact e.symm
     ·have a1:=h1.1 y hy;have a2:=h2.1 x hx;rw [Zbq x y] at a2;omega
   subst e;refine congrArg (x::·) (ih h1.2 h2.2 fun t=>⟨fun ht=>?_,fun ht=>?_⟩)
   ·rcases Tbc.1 ((hm t).1 (Tak _ ht)) with e | h3
    ·subst e;have:=h1.1 t ht;rw [Zdb] at this;omega
    ·exact h3
   ·rcases Tbc.1 ((hm t).2 (Tak _ ht)) with e | h3
    ·subst e;have:=h2.1 t ht;rw [Zdb] at this;omega
    ·exact h3
def ZaF (t:Tm):List Tm->List Tm
 | []=>[t]
 | x::xs=>if Zao x t < 0 then x::ZaF t xs else if Zao x t=0 then x::xs else t::x::xs
theorem ZeI {t u:Tm}:∀ {l:List Tm},u∈ZaF t l ↔ u=t∨u∈l
 | []=>by simp [ZaF]
 | x::xs=>by
  simp only [ZaF];split
  ·simp only [Tbc,ZeI (l:=xs)];constructor
   ·rintro (h | h | h) <;> simp [h]
   ·rintro (h | h | h) <;> simp [h]
  ·split
   ·rename_i h0;have e:=Zda h0;simp only [Tbc];constructor
    ·exact fun h=>.inr h
    ·rintro (h | h)
     ·exact .inl (by rw [h,e])
     ·exact h
   ·simp only [Tbc]
theorem Asc.ins {t:Tm}:∀ {l:List Tm},Asc l->Asc (ZaF t l)
 | [],_=>by simp [ZaF,Asc]
 | x::xs,h=>by
  have h1:=List.pairwise_cons.1 h;simp only [ZaF];split
  ·rename_i hx;refine List.pairwise_cons.2 ⟨fun u hu=>?_,Asc.ins h1.2⟩;rcases ZeI.1 hu with e | hu
   ·rw [e];exact hx
   ·exact h1.1 u hu
  ·split
   ·exact h
   ·rename_i h2 h3;have h4:Zao t x < 0:=by rw [Zbq x t];omega
    refine List.pairwise_cons.2 ⟨fun u hu=>?_,h⟩;rcases Tbc.1 hu with e | hu
    ·rw [e];exact h4
    ·exact ZcM h4 (h1.1 u hu)
def ZaY (l:List Tm):List Tm:=l.foldl (fun r t=>ZaF t r) []
theorem Zg5 {l r:List Tm} (h:Asc r):Asc (l.foldl (fun r t=>ZaF t r) r)∧∀ u,u∈l.foldl (fun r t=>ZaF t r) r ↔ u∈l∨u∈r:=by
 induction l generalizing r with
 | nil=>exact ⟨h,fun u=>by simp⟩
 | cons x xs ih =>
  have:=ih (r:=ZaF x r) h.ins;refine ⟨this.1,fun u=>?_⟩;rw [List.foldl_cons,this.2,ZeI,Tbc];constructor
  ·rintro (h | h | h)
   ·exact .inl (.inr h)
   ·exact .inl (.inl h)
   ·exact .inr h
  ·rintro ((h | h) | h)
   ·exact .inr (.inl h)
   ·exact .inl h
   ·exact .inr (.inr h)
theorem Zd7 (l:List Tm):Asc (ZaY l):=(Zg5 List.Pairwise.nil).1
theorem Zd8 {l:List Tm} {u:Tm}:u∈ZaY l ↔ u∈l:=by
 have:=(Zg5 (l:=l) (r:=[]) List.Pairwise.nil).2 u;simpa [ZaY] using this
theorem Zn5 {l l':List Tm} (h:Asc l') (hm:∀ t,t∈l' ↔ t∈l):ZaY l=l':=(Zd7 l).ext h fun t=>Zd8.trans (hm t).symm
def zTm0:Tm:=.mk 0 ByteArray.empty 0 []
def ddT:Option Tm->List Tm->List Tm
 | _,[]=>[]
 | none,x::xs=>x::ddT (some x) xs
 | some y,x::xs=>if Zao x y=0 then ddT (some x) xs else x::ddT (some x) xs
def Up (l:List Tm):Prop:=l.Pairwise fun a b=>Zao a b<=0
theorem Zn6:∀ (l:List Tm) (y:Tm),Up l->(∀ x∈l,Zao y x<=0)->Asc (ddT (some y) l)∧(∀ z∈ddT (some y) l,Zao y z < 0)∧∀ z,(z=y∨z∈ddT (some y) l) ↔ (z=y∨z∈l)
 | [],y,_,_=>⟨List.Pairwise.nil,fun z h=>by simp [ddT] at h,fun z=>by simp [ddT]⟩
 | x::xs,y,hu,hy=>by
  have h1:=List.pairwise_cons.1 hu;have hyx:=hy x Tar;obtain ⟨k1,k2,k3⟩:=Zn6 xs x h1.2 h1.1;simp only [ddT];by_cases h0:Zao x y=0
  ·rw [if_pos h0];have e:=Zda h0;subst e;exact ⟨k1,k2,fun z=>by rw [k3 z];simp⟩
  ·rw [if_neg h0];have hlt:Zao y x < 0:=by rw [Zbq x y] at hyx ⊢;omega
   refine ⟨List.pairwise_cons.2 ⟨k2,k1⟩,fun z hz=>?_,fun z=>?_⟩
   ·rcases Tbc.1 hz with rfl | hz
    ·exact hlt
    ·exact ZcM hlt (k2 z hz)
   ·have:=k3 z;simp only [Tbc];rw [this]
theorem ZoT {l:List Tm} (h:Up l):ddT none l=ZaY l:=by
 cases l with
 | nil=>rfl
 | cons x xs =>
  have h1:=List.pairwise_cons.1 h;obtain ⟨k1,k2,k3⟩:=Zn6 xs x h1.2 h1.1;simp only [ddT];refine (Zn5 (List.pairwise_cons.2 ⟨k2,k1⟩) fun t=>?_).symm;simp only [Tbc];exact k3 t
def Zc1 (l:List Tm):List Tm:=l.mergeSort fun a b=>decide (Zao a b<=0)
theorem ZdG (l:List Tm):(Zc1 l).Perm l:=List.mergeSort_perm l _
theorem Zg6 (l:List Tm):Up (Zc1 l):=by
 have h:=List.pairwise_mergeSort (le:=fun a b=>decide (Zao a b<=0)) (fun a b c h1 h2=>by simp only [decide_eq_true_eq] at *;exact ZdQ h1 h2) (fun a b=>by
  simp only [Bool.or_eq_true,decide_eq_true_eq];have:=Zbq a b;omega) l
 exact h.imp fun h=>by simpa using h
theorem Zkz:∀ {l l':List Tm},Up l->Up l'->l.Perm l'->l=l'
 | [],l',_,_,h=>by have:=h.length_eq;cases l' with | nil=>rfl | cons _ _=>simp at this
 | x::xs,[],_,_,h=>by have:=h.length_eq;simp at this
 | x::xs,y::ys,h1,h2,h=>by
  have p1:=List.pairwise_cons.1 h1;have p2:=List.pairwise_cons.1 h2;have hx:x∈y::ys:=h.mem_iff.1 Tar;have hy:y∈x::xs:=h.mem_iff.2 Tar;have e:x=y:=by
   rcases Tbc.1 hx with e | hx
   ·exact e
   ·rcases Tbc.1 hy with e | hy
    ·exact e.symm
    ·have a1:=p2.1 x hx;have a2:=p1.1 y hy;refine Zda ?_;rw [Zbq x y] at a1;omega
  subst e;rw [Zkz p1.2 p2.2 h.cons_inv]
theorem ZiX {l l':List Tm} (h:l.Perm l'):ZaY l=ZaY l':=(Zd7 l).ext (Zd7 l') fun t=>by rw [Zd8,Zd8,h.mem_iff]
mutual
theorem Zg7:∀ {a b:Tm},Zak a=Zak b->a=b
 | .mk o n s a,.mk o' n' s' a',h=>by
  simp only [Zak,List.cons.injEq,C.lit.injEq,C.sl.injEq,Value.int.injEq,Value.string.injEq,true_and,and_true] at h;obtain ⟨rfl,rfl,rfl,h⟩:=h;rw [Zf5 h]
theorem Zf5:∀ {a b:List Tm},Zad a=Zad b->a=b
 | [],[],_=>rfl
 | [],_::_,h=>by simp [Zad] at h
 | _::_,[],h=>by simp [Zad] at h
 | x::xs,y::ys,h=>by
  simp only [Zad,List.cons.injEq] at h;rw [Zg7 h.1,Zf5 h.2]
end
open Classical in
noncomputable def unT (r:List C):Tm:=if h:∃ t,r=Zak t then h.choose else zTm0
theorem Zgu (t:Tm):unT (Zak t)=t:=by
 have h:∃ t',Zak t=Zak t':=⟨t,rfl⟩;unfold unT;rw [dif_pos h];exact (Zg7 h.choose_spec).symm
theorem Zqw (l:List Tm):(Zad l).map unT=l:=by
 rw [Za2,List.map_map]
 conv=>rhs;rw [<- List.map_id l]
 exact List.map_congr_left fun t _=>Zgu t
theorem ZcS (l:List Tm) (k:Nat):(Zad l).take k=Zad (l.take k):=by rw [Za2,Za2,List.map_take]
theorem ZcT (l:List Tm) (k:Nat):(Zad l).drop k=Zad (l.drop k):=by rw [Za2,Za2,List.map_drop]
theorem Zdc (a b:List Tm):Zad (a++b)=Zad a++Zad b:=by rw [Za2,Za2,Za2,Tbm]
theorem Zf6 (t:Tm):Zad [t]=[Zak t]:=by simp [Zad]
theorem Zir (a b:Tm):Con e0 28 [.agg (Zak a),.agg (Zak b)] [.one (.lit (.bool (decide (Zao a b=0))))]:=by
 refine gI (ts:=[.slot 4]) 31 Try.func28 ?_;refine fB @tmz ?_;refine fC @tmz (ZqV (Ziq a b)) ?_;refine fR @tmz ?_;exact fD @tmz
section
variable {e:Env} {U:Nat->Prop} {w0:World} {S0:Nat->Prop} {nt:Nat} {ops:Array Oper} {n:Nat} {m:List (Nat × Bk)} {s:List (Nat × A)} {αs:List A} {L:Lay}
theorem ZoU {σ:St} (hH:ZbI ops n=true) (hn:n<=ops.size) (hal:αs.length=n) {listed:Array Bool} {a':Act} {w':World} {S':Nat->Prop} (hI:InvA e U w0 S0 nt σ.m ops n σ.s αs L listed a' w' S') (hall:∀ i,i < n->listed.getD i false=true):Sim e U w0 S0 nt ⟨after σ.s (ops.toList.take n) αs,σ.m⟩ a' w' S' L:=by
 refine ⟨hI.cls,fun t=>?_,hI.size,hI.defers,hI.kept⟩;by_cases hex:∃ (j:Nat) (p:Oper),j < n∧ops[j]?=some p∧p.dst=some t
 ·obtain ⟨j,p,hj,hp,hpt⟩:=hex;obtain ⟨p',d',hP⟩:=ZbI.get hH hj;have hpp:p'=p:=by have:=hP.op;rw [hp] at this;injection this with this;exact this.symm
  subst hpp;have hdt:d'=t:=by have:=hP.dst;rw [hpt] at this;injection this with this;exact this.symm
  subst hdt;obtain ⟨α,hα⟩:∃ α,αs[j]?=some α:=⟨αs[j],Taa om⟩;show ARel w' S' L (gs (after σ.s (ops.toList.take n) αs) d') _;rw [Zcj (ops.toList.take n) αs σ.s j p' α (by rw [List.getElem?_take,if_pos hj];simpa using hp) hα hpt (fun k q hk hq=>by
   rw [List.getElem?_take] at hq;split at hq
   ·exact (hP.dep k q om (by simpa using hq)).1 hk
   ·cases hq)]
  exact hI.done j p' d' α hj (hall j hj) hp hpt hα
 ·have hno:∀ (j:Nat) (p:Oper),j < n->ops[j]?=some p->p.dst≠some t:=fun j p hj hp hd=>hex ⟨j,p,hj,hp,hd⟩;show ARel w' S' L (gs (after σ.s (ops.toList.take n) αs) t) _;rw [ZbO _ _ _ (fun p hp=>by
   obtain ⟨j,hj⟩:=List.mem_iff_getElem?.1 hp;rw [List.getElem?_take] at hj;split at hj
   ·exact hno j p om (by simpa using hj)
   ·cases hj)]
  exact hI.out t hno
end
section
variable {e:Env} {U:Nat->Prop} {w0:World} {S0:Nat->Prop} {nt:Nat}
end
section
variable {e:Env} {U:Nat->Prop} {w0:World} {S0:Nat->Prop} {nt:Nat}
structure AppAt (P:Program) (σ:St) (o:Oper) (d ety sz:Nat) (rows:List (List C)):Prop where
 at':∃ (x y:Operand) (args:Array Operand) (ts:Array TypeId) (t by':Nat) (r1 ys:List (List C)),o.op=.call ⟨.builtin .append,args,ts⟩∧args.toList=[x,y]∧evA σ.s x=.d (.clip r1)∧slA [] (evA σ.s y)=some ys∧ts[0]?=some t∧ts[1]?=some t∧ZaN P t=some (ety,sz,by') ∧
  Zay sz r1=true∧Zay sz ys=true∧r1.length+ys.length<=maxApp∧(r1=[]∨ys≠[])∧rows=r1++ys
 dst:o.dst=some d
 guard:o.guard=none
theorem ZoV {m:List (Nat × Bk)} {y:A} {ys:List (List C)} (h:slA [] y=some ys):slA m y=some ys:=by
 unfold slA at h ⊢;split at h <;> simp_all [gm,bufA]
theorem AppAt.run (he:e.Ok) {σ:St} {o:Oper} {d ety sz:Nat} {rows:List (List C)} (hA:AppAt e.P σ o d ety sz rows) {m:List (Nat × Bk)} {w:World} {S:Nat->Prop} {L:Lay} {ρv:Operand->Value} (hC:Cls e U w0.heap.size S0 m w S L) (hr:∀ x,x∈o.op.operands->ARel w S L (evA σ.s x) (ρv x)) :
  ∃ v' w',(execOp ρv o).run e.P w=.ok (.value v') w'∧ZaK w' S ety sz rows v'∧Kept e.D (fun _=>False) w.heap.size w w'∧∀ g,vblk v'=some g->w.heap.size<=g:=by
 obtain ⟨x,y,args,ts,t,by',r1,ys,ho,hargs,hx,hy,h0,h1,hb,hr1,hys,hle,hne,rfl⟩:=hA.at';have hx':=hr x (by rw [ho];simp [Op.operands,Call.operands,hargs,<- Array.mem_toList_iff]);have hy':=hr y (by rw [ho];simp [Op.operands,Call.operands,hargs,<- Array.mem_toList_iff]);rw [hx] at hx';have hx':DRel w S (.clip r1) (ρv x):=hx';have hyl:=ZaT.1 hys;have hyf:=ZgK (σ:=⟨[],m⟩) hC (ZoV hy) hy' hyl;obtain ⟨v',w',hrun,hbuf,τ,hk,hτ,hg⟩:=Zd0 (σ:=⟨[],m⟩) (ty:=o.type) he hC h0 h1 hb (.inr ⟨hx',hne⟩) (ZaT.1 hr1) hyl hle hyf
 have hτn:∀ g,τ≠some g:=fun g e1=>by
  obtain ⟨h2,h3⟩:=hτ g e1;obtain ⟨h4,a,n,h5⟩:=hx';rw [h5] at h2 h3 h4;simp only [Rep] at h4;obtain ⟨A,n',cap,h6,h7,_,_,h8⟩:=h4;injection h6 with h6 h9 h10
  subst h6 h9
  cases a with
  | none=>simp [vblk] at h2
  | some q =>
   simp only [vblk] at h2;split at h2
   ·cases h2
   ·rename_i hn0;injection h2 with h2
    obtain ⟨b,off,h11,hS,_⟩:=h8 om;injection h11 with h11
    obtain ⟨_,_,h12⟩:=h3;rcases h12 with ⟨h12,_⟩ | ⟨g',cap',cur,h13,_,_,h14,_⟩
    ·rw [h12] at h7;simp at h7;omega
    ·injection h13 with h13 _ _
     injection h13 with h13
     rw [h13] at h11;injection h11 with h11
     exact h14 (h11 ▸ hS)
 refine ⟨v',w',?_,hbuf,⟨hk.os,hk.tape,hk.output,hk.drawn,hk.size,fun k hk' hn=>hk.block k hk' (fun e1=>hτn k e1)⟩,fun g hg'=>?_⟩
 ·have ha:args.map ρv=#[ρv x,ρv y]:=by apply Array.toList_inj.1;simp [hargs]
  simp [execOp,ho,resolve,invoke,builtin,ha,hrun,Result.andThen]
 ·rcases hg g hg' with e1 | e1
  ·exact (hτn g e1).elim
  ·exact e1
theorem AppAt.gives (he:e.Ok) {σ:St} {o:Oper} {d ety sz:Nat} {rows:List (List C)} (hA:AppAt e.P σ o d ety sz rows) {m:List (Nat × Bk)}:ZaL e U w0.heap.size S0 m o (evA σ.s) .undef:=by
 intro w S L ρv hC hr;obtain ⟨v',w',h1,_,h3,_⟩:=hA.run he hC hr;have hk:Kept e.D e.E w.heap.size w w':=⟨h3.os,h3.tape,h3.output,h3.drawn,h3.size,fun k hk hn=>h3.block k hk id⟩;unfold Go.Proofs.Ytjoaefnnnbpflaa.gives;rw [h1];exact ⟨S,⟨fun _ h=>h,fun _ h=>.inl h⟩,hC.later hk (he.keep _ _ h3.size (fun b hE=>h3.block b (Taz (hC.ein b hE) hC.bsz) id) hC.g) (fun _ h=>h) (fun _ h=>.inl h),hk,trivial⟩
def ZhD (base p d ety sz:Nat) (rows:List (List C)) (m:List (Nat × Bk)) (L:Lay) (listed:Array Bool) (a:Act) (w:World) (S:Nat->Prop):Prop :=
 listed.getD p false=true->(∀ g,vblk (a.tmps.getD d undef)=some g->base<=g∧g < w.heap.size∧¬ S g∧∀ k bk,gm m k=some bk->¬ Zas L k bk g)∧ZaK w S ety sz rows (a.tmps.getD d undef)
theorem Zg8 {m:List (Nat × Bk)} {base:Nat} {l:List Oper}:∀ (xs ys:List Oper) (s:List (Nat × A)) (us bs:List A),us.length=xs.length->ZbA e U base S0 m l xs s us->ZbA e U base S0 m l ys (after s xs us) bs->ZbA e U base S0 m l (xs++ys) s (us++bs)
 | [],ys,s,[],bs,_,_,h2=>h2
 | x::xs,ys,s,a::us,bs,hl,h1,h2=>⟨h1.1,Zg8 xs ys _ us bs (by simpa using hl) h1.2 h2⟩
 | [],_,_,_::_,_,hl,_,_=>by simp at hl
 | _::_,_,_,[],_,hl,_,_=>by simp at hl
theorem Zg9:∀ (xs ys:List Oper) (s:List (Nat × A)) (us bs:List A),us.length=xs.length->after s (xs++ys) (us++bs)=after (after s xs us) ys bs
 | [],ys,s,[],bs,_=>rfl
 | x::xs,ys,s,a::us,bs,hl=>Zg9 xs ys _ us bs (by simpa using hl)
 | [],_,_,_::_,_,hl=>by simp at hl
 | _::_,_,_,[],_,hl=>by simp at hl
theorem Zfi (he:e.Ok) (base:Nat) (S0:Nat->Prop) (l:List Oper) {K:St->Prop} {k:Nat} {os:List Oper} {σ:St} (hk:k=os.length+1) (h:Runs e (l.map (·.dst)) k os σ K):∃ αs,αs.length=os.length∧ZbA e U base S0 σ.m l os σ.s αs∧K ⟨after σ.s os αs,σ.m⟩:=by
 subst hk;have h':Runs e (l.map (·.dst)) (os.length+1) (os++[]) σ K:=by rw [List.append_nil];exact h
 obtain ⟨αs,h1,h2,h3⟩:=Zc9 (U:=U) he base S0 l [] 1 os σ (fun h=>absurd h (by decide)) h';simp only [Runs] at h3;exact ⟨αs,h1,h2,h3⟩
theorem ZoW (he:e.Ok) {id:Nat} {ops:Array Oper} {n p d ety sz:Nat} {rows:List (List C)} {o0:Oper} (hop:ops[p]?=some o0) (hpn:p < n) (hB:regB ops n=true) {K:St->Prop} {Q:Exit->Act->World->Prop} (hQ:∀ a w σ',K σ'->SimE e U w0 S0 nt σ' a w->Q .normal a w) {σ:St} {a:Act} {w:World}
  (hd:∀ o∈ops.toList,∀ d,o.dst=some d->d < nt) (h:SimE e U w0 S0 nt σ a w)
  (hp:Runs e (ops.toList.map (·.dst)) (p+1) (ops.toList.take p) σ (fun σ1=>AppAt e.P σ1 o0 d ety sz rows∧Runs e (ops.toList.map (·.dst)) (n - p) ((ops.toList.take n).drop (p+1)) ⟨(d,.undef)::σ1.s,σ1.m⟩ (fun σ2=>Runs e (ops.toList.map (·.dst)) 0 (ops.toList.drop n) ⟨(d,.buf d)::Zav d σ2.s,(d,.buf none ety sz rows)::remM d σ2.m⟩ K))):(Code.region id ops true).wp e.P Q a w:=by
 simp only [regB,Taq,Bool.or_eq_true,decide_eq_true_eq] at hB;obtain ⟨⟨⟨hH,hn⟩,hs⟩,hsq⟩:=hB;obtain ⟨S,L,h1⟩:=h.drew he;refine wp_region_any he.mixed ?_;have hlen:(ops.toList.take p).length=p:=by simp;omega
 have hlen2:((ops.toList.take n).drop (p+1)).length=n - p - 1:=by simp;omega
 obtain ⟨αs0,hal0,hch0,hrest0⟩:=Zfi (U:=U) he w0.heap.size S0 ops.toList (by rw [hlen]) hp;rw [hlen] at hal0;obtain ⟨hApp,hrest1⟩:=hrest0;obtain ⟨αs1,hal1,hch1,hrest2⟩:=Zfi (U:=U) he w0.heap.size S0 ops.toList (by rw [hlen2];omega) hrest1;rw [hlen2] at hal1;have hpl:ops.toList[p]?=some o0:=by simpa using hop
 have htake:ops.toList.take n=ops.toList.take p++(o0::(ops.toList.take n).drop (p+1)):=by
  have e1:(ops.toList.take n)[p]?=some o0:=by rw [List.getElem?_take,if_pos hpn];exact hpl
  have e2:(ops.toList.take n).drop p=o0::(ops.toList.take n).drop (p+1):=by
   rw [List.drop_eq_getElem_cons (Tac.1 e1).1,(Tac.1 e1).2]
  have e3:(ops.toList.take n).take p=ops.toList.take p:=by rw [List.take_take,Nat.min_eq_left om]
  rw [<- e2,<- e3,Tbh]
 have hal:(αs0++(A.undef::αs1)).length=n:=by simp [hal0,hal1];omega
 have hset:setA (after σ.s (ops.toList.take p) αs0) o0.dst A.undef=(d,A.undef)::after σ.s (ops.toList.take p) αs0:=by rw [hApp.dst];rfl
 have hch:ZbA e U w0.heap.size S0 σ.m ops.toList (ops.toList.take n) σ.s (αs0++(A.undef::αs1)):=by
  rw [htake];refine Zg8 _ _ _ _ _ (by rw [hal0,hlen]) hch0 ⟨?_,?_⟩
  ·unfold Zdy;rw [hApp.guard];exact hApp.gives he
  ·rw [hset];exact hch1
 have haf:after σ.s (ops.toList.take n) (αs0++(A.undef::αs1))=after ((d,A.undef)::after σ.s (ops.toList.take p) αs0) ((ops.toList.take n).drop (p+1)) αs1:=by
  conv=>lhs;rw [htake]
  rw [Zg9 _ _ _ _ _ (by rw [hal0,hlen])];simp only [after,hset]
 have inv0:InvA e U w0 S0 nt σ.m ops n σ.s (αs0++(A.undef::αs1)) L (Array.replicate ops.size false) a { w with drawn:=w.drawn+1 } S :=
  ⟨⟨by simp,fun j oj _ hl=>(by rw [getD_replicate_false] at hl;cases hl),fun t _ ht=>getD_in (by simpa using ht) (getD_replicate_false _ _)⟩,h1.size,h1.defers,h1.cls,h1.kept,fun t _=>h1.rel t,fun i o d α _ hl=>(by rw [getD_replicate_false] at hl;cases hl)⟩
 have hJ0:ZhD w0.heap.size p d ety sz rows σ.m L (Array.replicate ops.size false) a { w with drawn:=w.drawn+1 } S:=fun hl=>by rw [getD_replicate_false] at hl;cases hl
 have hA0:∀ {i':Nat} {o':Oper} {d':Nat},HeadAt ops n i' o' d'->i'≠p->d'≠d:=fun hA hne e'=>by
  have:=(hA.dep p _ hpn hop).1 (Ne.symm hne);exact this (by rw [hApp.dst,e'])
 have hgo:ZfP e U w0 S0 nt σ.m ops n σ.s (αs0++(A.undef::αs1)) L (ZhD w0.heap.size p d ety sz rows σ.m L) Q:=by
  intro listed a w S i' o' d' α hI hJ hA hin hr hdn hα hopd hG';by_cases hip:i'=p
  ·subst hip;have ho':o'=o0:=by have:=hA.op;rw [hop] at this;injection this with this;exact this.symm
   subst ho';have hdd:d'=d:=by have:=hA.dst;rw [hApp.dst] at this;injection this with this;exact this.symm
   subst hdd;have hau:α=A.undef:=by rw [Tbj om,hal0] at hα;simpa using hα.symm
   subst hau;have hC:=hI.cls;have htk:(αs0++(A.undef::αs1)).take i'=αs0:=by rw [<- hal0];exact List.take_left
   rw [htk] at hopd;obtain ⟨v',w',q1,q2,q3,q4⟩:=hApp.run he hC hopd;have hk:Kept e.D e.E w.heap.size w w':=⟨q3.os,q3.tape,q3.output,q3.drawn,q3.size,fun k hk hn=>q3.block k hk (fun h=>h)⟩;have hC':Cls e U w0.heap.size S0 σ.m w' S L:=hC.later hk (he.keep _ _ q3.size (fun b hE=>q3.block b (Taz (hC.ein b hE) hC.bsz) (fun h=>h)) hC.g) (fun _ h=>h) (fun _ h=>.inl h);unfold Oper.wp;rw [q1,Oper.upon_value]
   have hput:(a.put o'.dst v').tmps.getD d' undef=v':=by
    rw [hA.dst,Zbl (by rw [hI.size];exact hdn)];simp
   refine ⟨S,hI.put hH hA hin hr hdn hα (fun _ h=>h) hC' hk trivial,fun _=>?_⟩;rw [hput];refine ⟨fun g hg=>?_,q2⟩;have hge:=q4 g hg;refine ⟨Tba hC.bsz hge,?_,fun hs=>by have:=(hC.sin _ hs).1;omega,fun k bk hk hg=>by have:=hC.blk_lt hk hg;omega⟩;exact (Own1.lt (L:=⟨fun _=>0,fun _=>v'⟩) (k:=0) (bk:=.buf none ety sz rows) ⟨by simp,q2⟩ hg).1
  ·refine Zdl (hG' w S L a.eval hI.cls hopd) fun v' w' ⟨S',hS,hC,hk,hv'⟩=>⟨S',hI.put hH hA hin hr hdn hα hS.1 hC hk hv',fun hl=>?_⟩;rw [getD_set_ne false hip] at hl;obtain ⟨q1,q2⟩:=hJ hl;have hput:(a.put o'.dst v').tmps.getD d undef=a.tmps.getD d undef:=by
    rw [hA.dst,Zbl (by rw [hI.size];exact hdn),if_neg (Ne.symm (hA0 hA hip))]
   rw [hput];have hnS:∀ g,vblk (a.tmps.getD d undef)=some g->¬ S' g:=fun g hg hs=>by
    obtain ⟨_,k2,k3,_⟩:=q1 g hg;rcases hS.2 g hs with hs | hs
    ·exact k3 hs
    ·omega
   refine ⟨fun g hg=>⟨(q1 g hg).1,Taz (q1 g hg).2.1 hk.size,hnS g hg,(q1 g hg).2.2.2⟩,q2.keep hk.size (hI.cls.cell hk) hS.1 fun g hg=>⟨hk.block g (q1 g hg).2.1 (fun hE=>by have:=hI.cls.ein g hE;have:=(q1 g hg).1;omega),hnS g hg⟩⟩
 have hskp:∀ (listed:Array Bool) (a:Act) (w:World) (S:Nat->Prop) (i':Nat) (o':Oper) (d':Nat),ZhD w0.heap.size p d ety sz rows σ.m L listed a w S->InvA e U w0 S0 nt σ.m ops n σ.s (αs0++(A.undef::αs1)) L listed a w S->HeadAt ops n i' o' d'->i' < n->i'∈Region.ready .any ops listed->d' < nt->o'.guard≠none->ZhD w0.heap.size p d ety sz rows σ.m L (listed.setIfInBounds i' true) (a.put o'.dst undef) w S:=by
  intro listed a w S i' o' d' hJ hI hA hin hr hdn hg hl;have hip:i'≠p:=fun e'=>by
   subst e';have:=hA.op;rw [hop] at this;injection this with this
   rw [<- this] at hg;exact hg hApp.guard
  rw [getD_set_ne false hip] at hl;have hput:(a.put o'.dst undef).tmps.getD d undef=a.tmps.getD d undef:=by
   rw [hA.dst,Zbl (by rw [hI.size];exact hdn),if_neg (Ne.symm (hA0 hA hip))]
  rw [hput];exact hJ hl
 have H:=Zb0 (e:=e) (L:=L) (Q:=Q) he hH hn (fun hlt=>by
   rcases hs with hs | hs
   ·omega
   ·exact hs) hsq (fun i o d hi ho hdd=>hd o (List.mem_iff_getElem?.2 ⟨i,by simpa using ho⟩) d hdd) hal hch hgo hskp (fun listed a' w' S' hI hJ hall=>?_) n _ a _ S inv0 hJ0 ?_
 ·rw [show n+(ops.size - n)=ops.size by omega] at H;exact H
 ·have hsim:=ZoU hH hn hal hI hall;rw [haf] at hsim;obtain ⟨q1,q2⟩:=hJ (hall p hpn);have hdn:d < nt:=hd _ (List.mem_iff_getElem?.2 ⟨p,hpl⟩) d hApp.dst
  have hsimB:=hsim.bornE (bk:=.buf none ety sz rows) (w':=w') (b':=0) (v':=a'.tmps.getD d undef) (u:=a'.tmps.getD d undef) (τ:=vblk (a'.tmps.getD d undef)) (s1:=after ((d,A.undef)::after σ.s (ops.toList.take p) αs0) ((ops.toList.take n).drop (p+1)) αs1) (m1:=σ.m) (α:=.buf d) (S':=S') hdn (fun _ h=>h) (fun _ h=>.inl h) (fun t=>.inl rfl) (fun k x h=>h)
   (fun g hg=>⟨(q1 g hg).2.2.1,fun hE=>by have:=hI.cls.ein _ hE;have:=(q1 g hg).1;omega,.inl (q1 g hg).1⟩) (fun k x g hkd hx hg hb=>(q1 g hg).2.2.2 k x hx hb)
   (Kept.refl _ _ _ _) hI.cls.g (by
    simp only [Own1,if_true];exact ⟨by simp,q2⟩)
   (fun g hg=>by simp only [Zas,if_true] at hg;exact .inl hg) (by simp [ARel])
  have hsimD:SimE e U w0 S0 nt ⟨(d,.buf d)::Zav d (after ((d,A.undef)::after σ.s (ops.toList.take p) αs0) ((ops.toList.take n).drop (p+1)) αs1),(d,.buf none ety sz rows)::remM d σ.m⟩ a' w':=by
   obtain ⟨S2,L2,k1,k2,k3,k4,k5⟩:=hsimB;refine ⟨S2,L2,k1,fun t=>?_,hI.size,hI.defers,k5⟩;have:=k2 t;rw [Zbl (by rw [hI.size];exact hdn)] at this;by_cases ht:t=d
   ·rw [if_pos ht] at this;rw [ht];rw [ht] at this;exact this
   ·rw [if_neg ht] at this;exact this
  have:=hrest2 he U w0 S0 nt a' w' ops.toList Q rfl (fun o ho=>hd o (List.mem_of_mem_drop ho)) hQ hsimD;simpa using this
 ·rw [List.countP_eq_length.2]
  ·simp
  ·intro i hi;have hi':=List.mem_range.1 hi;have hsz:i < (Array.replicate ops.size false).size:=by simp;omega
   rw [ZcH hsz,getD_replicate_false];rfl
end
section
variable {e:Env} {mask:Nat} {Q:PX->St->Prop} {ds:List (Option Nat)}
theorem ZqZ {nt:Nat} {id:Nat} {ops:Array Oper} {fl:Bool} (hok:Zbe nt (.region id ops fl)=true):∀ o∈ops.toList,∀ d,o.dst=some d->d < nt:=fun o ho d hd=>by
 simp only [Zbe] at hok;have:=List.all_eq_true.1 hok o ho;rw [hd] at this;simpa using this
theorem ZoX {id:Nat} {ops:Array Oper} {σ:St} {n p d ety sz:Nat} {rows:List (List C)} {o0:Oper} (hop:ops[p]?=some o0) (hpn:p < n) (hn:regB ops n=true) (hp:Runs e (ops.toList.map (·.dst)) (p+1) (ops.toList.take p) σ (fun σ1=>AppAt e.P σ1 o0 d ety sz rows∧Runs e (ops.toList.map (·.dst)) (n - p) ((ops.toList.take n).drop (p+1)) ⟨(d,.undef)::σ1.s,σ1.m⟩ (fun σ2=>Runs e (ops.toList.map (·.dst)) 0 (ops.toList.drop n) ⟨(d,.buf d)::Zav d σ2.s,(d,.buf none ety sz rows)::remM d σ2.m⟩ (Zcp mask Q)))):pwp e mask (.region id ops true) σ Q:=fun he U w0 S0 nt a w hok hs =>
 ZoW he hop hpn hn (fun a w σ' h1 h2=>⟨_,h1,h2.weak (fun t=>ZhT mask t σ'.s) (fun _ _ h=>h)⟩) (ZqZ hok) hs hp
theorem gA {id:Nat} {l l1 l2 l3:List Oper} {s s1 s2 s3:List (Nat × A)} {m m1 m2 m3:List (Nat × Bk)} {x y:Operand} {t ty d ety sz by':Nat} {pos:String} {aft:Array Edge} {r1 ys:List (List C)} (n p:Nat) (hle:r1.length+ys.length<=maxApp) (hne:r1=[]∨ys≠[]) (hK:Runs e ds 0 l3 ⟨(d,.buf d)::s3,(d,.buf none ety sz (r1++ys))::m3⟩ (Zcp mask Q))
  (hop:l[p]?=some ⟨some d,.call ⟨.builtin .append,#[x,y],#[t,t]⟩,ty,pos,aft,none⟩:=by exact rfl) (hB:regB l.toArray n=true:=by decide +kernel) (hpn:p < n:=by decide) (hds:l.map (·.dst)=ds:=by exact rfl) (h1l:l.take p=l1:=by exact rfl) (h2l:(l.take n).drop (p+1)=l2:=by exact rfl) (h3l:l.drop n=l3:=by exact rfl)
  (h1:Za9 e.P ds (p+1) l1 ⟨s,m⟩=.done ⟨s1,m1⟩:=by exact sfv) (hx:evA s1 x=.d (.clip r1):=by exact sfx) (hy:slA [] (evA s1 y)=some ys:=by exact sfx)
  (hb:ZaN e.P t=some (ety,sz,by'):=by exact sfx) (hr1:Zay sz r1=true:=by simp only [pz,↓reduceIte,Nat.reduceEqDiff,Nat.reduceAdd,Nat.reduceSub,Nat.reduceMul,Nat.reduceLeDiff,Nat.reduceBEq,Tal,decide_true,decide_false,Int.reduceLE,Int.reduceToNat,Int.reduceLT,Int.reduceEq,eq_self,Nat.reduceShiftRight,Nat.reduceAnd,Nat.reduceBneDiff,F]) (hys:Zay sz ys=true:=by simp only [pz,↓reduceIte,Nat.reduceEqDiff,Nat.reduceAdd,Nat.reduceSub,Nat.reduceMul,Nat.reduceLeDiff,Nat.reduceBEq,Tal,decide_true,decide_false,Int.reduceLE,Int.reduceToNat,Int.reduceLT,Int.reduceEq,eq_self,Nat.reduceShiftRight,Nat.reduceAnd,Nat.reduceBneDiff,F])
  (h2:Za9 e.P ds (n - p) l2 ⟨(d,.undef)::s1,m1⟩=.done ⟨s2,m2⟩:=by exact sfv) (hk:Zav d s2=s3:=by exact snv) (hr:remM d m2=m3:=by exact snv):pwp e mask (.region id l.toArray true) ⟨s,m⟩ Q:=by
 subst hds h1l h2l h3l hk hr;exact ZoX (ops:=l.toArray) (by simpa using hop) hpn hB (ZeA h1 ⟨⟨⟨x,y,#[x,y],#[t,t],t,by',r1,ys,rfl,rfl,hx,hy,rfl,rfl,hb,hr1,hys,hle,hne,rfl⟩,rfl,rfl⟩,ZeA h2 hK⟩)
end
theorem ZcB:Zad []=[]:=by simp [Zad]
theorem okc4 {u0 u1 u2 u3:Value} (h:(Zae [u0,u1,u2,u3]).all Zai=true):Zai (.lit u0)=true∧Zai (.lit u1)=true∧Zai (.lit u2)=true∧Zai (.lit u3)=true:=by
 simpa [Zae,Taq,and_assoc] using h
theorem ZcU (ts:List Tm) {i:Nat} {t:Tm} (h:ts[i]?=some t):Zad (ts.take (i+1))=Zad (ts.take i)++[Zak t]:=by
 simp only [Za2,List.take_add_one,h,Option.toList,Tbm,Tbl,List.map_nil]
theorem Zbx (u0 u1 u2 u3:Value):Zae [u0,u1,u2,u3]=[.lit u0,.lit u1,.lit u2,.lit u3]:=rfl
theorem Zap (uss:List (List Value)):(uss.map Zae).length=uss.length:=Taw ..
def tmsB (ts:List Tm):Prop:=ts.length+bulkRows (Zad ts)<=1048576
theorem Zfx (ts:List Tm) (hB:tmsB ts) (h:∀ t∈ts,ConP e0 29 [.agg (Zak t)] [] (Zbb (Zak t))):ConP e0 53 [.one (.sl (Zad ts))] [] (ZeE 31 4 (Zad ts)):=by
 have hl:ts.length<=1048576:=Tba (Nat.le_add_right _ _) hB;refine gIP (ts:=[.slot 2]) [] 1005 Try.func53 ?_;refine fG @e0P ?_;refine pE [] [1000] Zb1 ?_;have F:=ai @Zar @ZcB;refine gL (ι:=Nat × List (List Value) × (Nat->Prop)) [3,5,8,9] [3,1000] (fun x=>[(8,.d (.one (.lit (.int .i64 (x.1:Int))))),(3,.buf 3)]) (fun x=>[(3,.buf none 31 4 (x.2.1.map Zae)),(1000,.set x.2.2 (fun w=>Zag w (Zad (ts.take x.1)) x.2.2 x.2.1))]) (fun x=>x.1<=ts.length∧x.2.1.length=x.1) (fun x=>ts.length - x.1) ((0,[],fun _=>False)) (⟨Tai _,rfl⟩) (fun x hx=>?_);clear F
 obtain ⟨i,uss,E⟩:=x;obtain ⟨hi,hn⟩:=hx;simp only at hi hn;by_cases hlt:i < ts.length
 ·have hg:ts[i]?=some ts[i]:=Taa hlt;have hc:=h ts[i] (List.getElem_mem hlt);generalize ts[i]=t at hg hc;have q1:=lT i ts.length;refine fB (aj5 @Zar @Za7 @q1 @hg @tmz) ?_;have F:=@tmz;refine gCP [] [1001] (hc) ?_;clear F;rintro r pm ⟨us,E2,rfl,hu,hok,rfl⟩;rw [ZeG] at hu;obtain ⟨u0,u1,u2,u3,rfl⟩:=len4 hu;obtain ⟨k0,k1,k2,k3⟩:=okc4 hok;have q3:IntKind.i64.wrap ((i:Int)+1)=(i:Int)+1:=IntWalk.i64_in _ om
  have q2:i+1<=maxApp:=by unfold maxApp;omega
  simp only [Zbx,setA,retA,zipM,Tae,Tag];refine fR (aj8 @Zbx @Zap @hn @q2 @k0 @k1 @k2 @k3) ?_;refine pE [1000,1001] [1000] (ZeD (G':=fun w=>Zag w (Zad (ts.take (i+1))) (fun b=>E b∨E2 b) (uss++[[u0,u1,u2,u3]])) (fun w h1 h2 hd=>?_) (Zag.stable _ _ _)) ?_
  ·rw [ZcU ts hg];exact Zag.snoc h1 h2 (fun _ h=>.inl h) (fun _ h=>.inr h) hd
  have F:=aj4 @Zbx @q3 @Zar ((@Tbm.{0,0}));refine gG ?_;exact ⟨(i+1,uss++[[u0,u1,u2,u3]],fun b=>E b∨E2 b),⟨hlt,by simp [hn]⟩,gw,gw,om⟩
 ·obtain rfl:i=ts.length:=by omega
  have q1:=lF ts.length ts.length;refine fG (ai @Zar @q1) ?_;rw [Tao];refine pS 2 fun a cap=>?_;refine gTP [2,1000] (ZeE.mk (by rw [hn,Zar]))
theorem ZqN {w:World} {op so:Int} {nm:ByteArray} {args:List Tm} {E:Nat->Prop} {v:Value} (h:Own w (.sl (Zad args)) E v):Zac w (Zak (.mk op nm so args)) E [.int .i64 op,.string nm,.int .i64 so,v]:=by
 simp only [Zak,Zac];refine ⟨fun _=>False,E,fun _ h=>h.elim,fun _ h=>h,fun _ h _=>h,by simp [Own],fun _=>False,E,fun _ h=>h.elim,fun _ h=>h,fun _ h _=>h,by simp [Own],fun _=>False,E,fun _ h=>h.elim,fun _ h=>h,fun _ h _=>h,by simp [Own],E,fun _=>False,fun _ h=>h,fun _ h=>h.elim,fun _ _ h=>h,h,trivial⟩
theorem Zf8 (t:Tm) (h:ConP e0 53 [.one (.sl (Zad t.args))] [] (ZeE 31 4 (Zad t.args))):ConP e0 29 [.agg (Zak t)] [] (Zbb (Zak t)):=by
 obtain ⟨op,nm,so,args⟩:=t;have hc:Zak (.mk op nm so args)=[.lit (.int .i64 op),.lit (.string nm),.lit (.int .i64 so),.sl (Zad args)]:=by simp only [Zak]
 simp only [Tm.args] at h;refine gIP (ts:=[.cell 2 31]) [] 7 Try.func29 ?_;refine fB @hc ?_;have F:=@hc;refine gCP [] [1000,1001] (h) ?_;clear F;rintro r pm ⟨a,cap,uss,E,rfl,hu,rfl⟩;simp only [setA,retA,zipM,Tae,Tag];refine fR @hc ?_;refine fG @hc ?_;refine pE [1000,1001] [1000] (ZbE (G':=fun w=>Zac w (Zak (.mk op nm so args)) (fun b=>vblk (.slice a uss.length cap)=some b∨E b) [.int .i64 op,.string nm,.int .i64 so,.slice a uss.length cap]) (fun w h=>ZqN h) (Zac.stable _ _ _)) ?_
 have hm:=Zbb.mk (row:=Zak (.mk op nm so args)) (us:=[.int .i64 op,.string nm,.int .i64 so,.slice a uss.length cap]) (E:=fun b=>vblk (.slice a uss.length cap)=some b∨E b) (by rw [hc];rfl) rfl;rw [Zbx] at hm;exact (have F:=hc;gTP [1000] hm)
theorem ZoZ (n:Nat):(∀ t:Tm,ZaQ (Zak t) < n->bulkRow (Zak t)<=1048576->ConP e0 29 [.agg (Zak t)] [] (Zbb (Zak t))):=by
 induction n with
 | zero=>exact fun _ h=>om
 | succ n ih =>
  intro t hn hb;obtain ⟨op,nm,so,args⟩:=t;simp only [Zak,ZaQ,Zb7,bulkRow,Zbh] at hn hb;refine Zf8 _ (Zfx args (by unfold tmsB;have:=Zar args;omega) fun a ha=>?_);obtain ⟨i,hi⟩:=Tbf ha;have hi':(Zad args)[i]?=some (Zak a):=by rw [Za7,hi];rfl
  have h1:=Zbo hi';have h2:=ZbQ hi';exact ih a om om
theorem Zix (t:Tm) (hb:bulkRow (Zak t)<=1048576):ConP e0 29 [.agg (Zak t)] [] (Zbb (Zak t)):=ZoZ _ t (Tam _) hb
theorem Zqz (pm:List Bk):Za5 pm pm:=fun w S h1 h2=>⟨h1,h2,fun _ h=>h⟩
theorem Zo0 {ts:List Tm} {i:Nat} (h:i<=ts.length):(Zad (ts.take i)).length=i:=by rw [Zar,Tav];omega
theorem Zhn (t:Tm) (hB:tmsB t.args) (h:∀ a∈t.args,Con e0 25 [.agg (Zak a)] [.agg (Zak a)]):Con e0 25 [.agg (Zak t)] [.agg (Zak t)]:=by
 obtain ⟨op,nm,so,args⟩:=t;have hc:Zak (.mk op nm so args)=[.lit (.int .i64 op),.lit (.string nm),.lit (.int .i64 so),.sl (Zad args)]:=by simp only [Zak]
 simp only [Tm.args] at h hB;have hl:args.length<=1048576:=Tba (Nat.le_add_right _ _) hB;refine gI (ts:=[.cell 2 31]) 65567 Try.func25 ?_;refine fN 1 @hc ?_;refine gB ?_;refine gP 6 ?_;refine gX ?_;refine fR @hc ?_;refine pN 1000 31 4 ?_;refine fG @hc ?_;have F:=ai @hc @ZcB;refine gL (ι:=Nat × Option Addr × Nat) [4,16] [3,1000] (fun x=>[(4,.d (.one (.lit (.int .i64 (x.1:Int)))))]) (fun x=>[(1000,.buf (some (x.2.1,x.2.2)) 31 4 (Zad (args.take x.1))),(3,.var none [.lit (.int .i64 op),.lit (.string nm),.lit (.int .i64 so),.lit (.slice x.2.1 x.1 x.2.2)])]) (fun x=>x.1<=args.length) (fun x=>args.length - x.1) ((0,none,0)) (Tai _) (fun x hx=>?_);clear F
 obtain ⟨i,p,cap⟩:=x;simp only at hx;by_cases hlt:i < args.length
 ·have hg:args[i]?=some args[i]:=Taa hlt;have hcon:=h args[i] (List.getElem_mem hlt);generalize args[i]=a at hg hcon;have q1:=lT i args.length;have q4:IntKind.i64.wrap ((i:Int)+1)=(i:Int)+1:=IntWalk.i64_in _ om;have q2:i+1<=maxApp:=by unfold maxApp;omega
  have q3:=Zo0 hx;have q5:(args.take i).length=i:=by rw [Tav];omega
  refine fB (aj6 @hc @Zar @Za7 @q1 @hg @tmz) ?_;refine fC (aj3 @tmz @Za7 @hg) (hcon) ?_;have F:=aj4 @tmz @q2 @q3 @q5;refine gP 3 ?_;clear F;refine gS 28 fun p2 cap2=>?_;refine fR (aj3 @tmz @q3 @q5) ?_;refine pE [28] [1000] (Zqz _) ?_;rw [<- ZcU args hg];have F:=ai @hc @q4;refine gG ?_;exact ⟨(i+1,p2,cap2),hlt,gw,gw,om⟩
 ·obtain rfl:i=args.length:=by omega
  have q1:=lF args.length args.length;rw [Tao];refine fG (aj3 @hc @Zar @q1) ?_;refine pD 1000 [] [2] ?_ (hs:=by exact snv);exact fD (ai @hc @Zar)
theorem Zoe (n:Nat):(∀ t:Tm,ZaQ (Zak t) < n->bulkRow (Zak t)<=1048576->Con e0 25 [.agg (Zak t)] [.agg (Zak t)]):=by
 induction n with
 | zero=>exact fun _ h=>om
 | succ n ih =>
  intro t hn hb;obtain ⟨op,nm,so,args⟩:=t;simp only [Zak,ZaQ,Zb7,bulkRow,Zbh] at hn hb;refine Zhn _ (by unfold tmsB;simp only [Tm.args];have:=Zar args;omega) fun a ha=>?_;simp only [Tm.args] at ha;obtain ⟨i,hi⟩:=Tbf ha;have hi':(Zad args)[i]?=some (Zak a):=by rw [Za7,hi];rfl
  have h1:=Zbo hi';have h2:=ZbQ hi';exact ih a om om
theorem Zk8 (t:Tm) (hb:bulkRow (Zak t)<=1048576):Con e0 25 [.agg (Zak t)] [.agg (Zak t)]:=Zoe _ t (Tam _) hb
theorem Zk9 {ts:List Tm} {i:Nat} {t:Tm} (h:ts[i]?=some t):Zad (ts.take i)++[Zak t]=Zad (ts.take (i+1)):=(ZcU ts h).symm
theorem Ziy (ts:List Tm) (hB:tmsB ts):Con e0 39 [.one (.sl (Zad ts))] [.one (.sl (Zad ts))]:=by
 unfold tmsB at hB;refine gI (ts:=[.slot 2]) 541 Try.func39 ?_;refine fG @tmz ?_;have F:=@ZcB;refine gL (ι:=Nat) [3,4,9] [3] (fun i=>[(4,A.d (.one (.lit (.int .i64 i)))),(3,.buf 3)]) (fun i=>[(3,.buf none 31 4 (Zad (ts.take i)))]) (fun i=>i<=ts.length) (fun i=>ts.length - i) (0) (Tai _) (fun i hi=>?_);clear F;by_cases hlt:i < ts.length;rotate_left
 ·obtain rfl:i=ts.length:=by omega
  have q2:=lF ts.length ts.length;rw [Tao];refine fG (ai @q2 @tmz) ?_;have F:=@tmz;refine gG ?_;exact gTz [2]
 obtain ⟨t,ht⟩:∃ b,ts[i]?=some b:=⟨_,Taa hlt⟩;have q2:=lT i ts.length;have q4:=Zb6 (k:=i) om;have hi':(Zad ts)[i]?=some (Zak t):=by rw [Za7,ht];rfl
 have hbt:=ZbQ hi';have cc:=Zk8 t om;have l1:Zay 4 (Zad (ts.take i))=true:=Zd4 _;have l2:((Zad (ts.take i)).length+1<=maxApp)=True:=eq_true (by rw [Zar,Tav];unfold maxApp;omega);have l3:((ts.take i).length+1<=maxApp)=True:=eq_true (by rw [Tav];unfold maxApp;omega);have l4:min i ts.length+1<=maxApp:=by unfold maxApp;omega
 have e:=Zk9 ht;refine fB (ai @q2 @tmz) ?_;refine fC (aj3 @q2 @ht @tmz) (cc) ?_;refine fR (aj4 @l1 @l2 @l3 @tmz) ?_;have F:=ai @q4 @e;refine gG ?_;exact ⟨i+1,hlt,gw,gw,om⟩
theorem Zcq {r:List C} (h:Zam (Zab .binding) r):∃ (i0:Int) (t1:ByteArray) (i2:Int) (r3:List (List C)) (i4:Int) (t5:ByteArray) (i6:Int) (r7:List (List C)),r=[.lit (.int .i64 i0),.lit (.string t1),.lit (.int .i64 i2),.sl r3,.lit (.int .i64 i4),.lit (.string t5),.lit (.int .i64 i6),.sl r7]∧I64 i0∧t1.size<=maxLen∧I64 i2∧Zah (Zab .term) r3∧I64 i4∧t5.size<=maxLen∧I64 i6∧Zah (Zab .term) r7:=by
 obtain ⟨c0,c1,c2,c3,c4,c5,c6,c7,rfl⟩:=len8 h.len;simp only [Zab,Zba,occF,Zdj,sigF,Zde,algF,Tae,Tag,redF,Zam,and_true] at h;obtain ⟨h0,h1,h2,h3,h4,h5,h6,h7⟩:=h;obtain ⟨i0,rfl,g0⟩:=ZbK h0;obtain ⟨t1,rfl,g1⟩:=ZeO h1;obtain ⟨i2,rfl,g2⟩:=ZbK h2;obtain ⟨r3,rfl,g3⟩:=ZbL h3;obtain ⟨i4,rfl,g4⟩:=ZbK h4;obtain ⟨t5,rfl,g5⟩:=ZeO h5;obtain ⟨i6,rfl,g6⟩:=ZbK h6;obtain ⟨r7,rfl,g7⟩:=ZbL h7;exact ⟨i0,t1,i2,r3,i4,t5,i6,r7,rfl,g0,g1,g2,g3,g4,g5,g6,g7⟩
theorem Zcr {r:List C} (h:Zam (Zab .occ) r):∃ (r0:List (List C)) (r1:List (List C)) (r2:List (List C)) (r3:List (List C)),r=[.sl r0,.sl r1,.sl r2,.sl r3]∧Zah (Zab .int) r0∧Zah (Zab .term) r1∧Zah (Zab .term) r2∧Zah (Zab .binding) r3:=by
 obtain ⟨c0,c1,c2,c3,rfl⟩:=len4 h.len;simp only [Zab,Zba,occF,Zdj,sigF,Zde,algF,Tae,Tag,redF,Zam,and_true] at h;obtain ⟨h0,h1,h2,h3⟩:=h;obtain ⟨r0,rfl,g0⟩:=ZbL h0;obtain ⟨r1,rfl,g1⟩:=ZbL h1;obtain ⟨r2,rfl,g2⟩:=ZbL h2;obtain ⟨r3,rfl,g3⟩:=ZbL h3;exact ⟨r0,r1,r2,r3,rfl,g0,g1,g2,g3⟩
theorem Zcs {r0:List (List C)} {r1:List (List C)} {r2:List (List C)} {r3:List (List C)} (g0:Zah (Zab .int) r0) (g1:Zah (Zab .term) r1) (g2:Zah (Zab .term) r2) (g3:Zah (Zab .binding) r3):Zam (Zab .occ) [.sl r0,.sl r1,.sl r2,.sl r3]:=by
 simp only [Zab,Zba,occF,Zdj,sigF,Zde,algF,Tae,Tag,redF,Zam,and_true];exact ⟨ZdW g0,ZdW g1,ZdW g2,ZdW g3⟩
theorem ZcC {r:List C} (h:Zam (Zab .step) r):∃ (i0:Int) (r1:List (List C)) (r2:List (List C)) (r3:List (List C)) (r4:List (List C)) (i5:Int) (t6:ByteArray) (i7:Int) (r8:List (List C)),r=[.lit (.int .i64 i0),.sl r1,.sl r2,.sl r3,.sl r4,.lit (.int .i64 i5),.lit (.string t6),.lit (.int .i64 i7),.sl r8]∧I64 i0∧Zah (Zab .int) r1∧Zah (Zab .term) r2∧Zah (Zab .term) r3∧Zah (Zab .binding) r4∧I64 i5∧t6.size<=maxLen∧I64 i7∧Zah (Zab .term) r8:=by
 obtain ⟨c0,c1,c2,c3,c4,c5,c6,c7,c8,rfl⟩:=len9 h.len;simp only [Zab,Zba,occF,Zdj,sigF,Zde,algF,Tae,Tag,redF,Zam,and_true] at h;obtain ⟨h0,h1,h2,h3,h4,h5,h6,h7,h8⟩:=h;obtain ⟨i0,rfl,g0⟩:=ZbK h0;obtain ⟨r1,rfl,g1⟩:=ZbL h1;obtain ⟨r2,rfl,g2⟩:=ZbL h2;obtain ⟨r3,rfl,g3⟩:=ZbL h3;obtain ⟨r4,rfl,g4⟩:=ZbL h4;obtain ⟨i5,rfl,g5⟩:=ZbK h5;obtain ⟨t6,rfl,g6⟩:=ZeO h6;obtain ⟨i7,rfl,g7⟩:=ZbK h7;obtain ⟨r8,rfl,g8⟩:=ZbL h8
 exact ⟨i0,r1,r2,r3,r4,i5,t6,i7,r8,rfl,g0,g1,g2,g3,g4,g5,g6,g7,g8⟩
def Zgx (P:Program) (s d:TypeId):Bool:=match P.underlying s,P.underlying d with
 | some (.slice e),some .string=>match P.underlying e with
  | some (.int .u8)=>true
  | _=>false
 | _,_=>false
def ZdR (b:Int):ByteArray:=ByteArray.empty.push (UInt8.ofNat b.toNat)
section
variable {e:Env} {σ:St} {o:Oper} {K:St->Prop}
theorem Zog {s d:TypeId} {x:Operand} {b:Int} (ho:o.op=.convert s d x) (hx:evA σ.s x=.d (.clip [[.lit (.int .u8 b)]])) (ht:Zgx e.P s d=true) (hK:K ⟨setA σ.s o.dst (.d (.one (.lit (.string (ZdR b))))),σ.m⟩):Zbj e o σ K:=by
 intro he U w0 S0 nt a w Q hd ⟨S,L,h⟩;refine Oper.wp_mono (fun a' w' hs=>⟨_,hK,hs⟩) (Zcd h hd (Zaq fun w S L ρv hC hr=>?_));have hx':=hr x (by simp [ho,Op.operands]);rw [hx] at hx';obtain ⟨⟨A,n,cap,hv,hn,_,_,hb⟩,_⟩:=hx';simp only [Taf,Taj,Nat.zero_add] at hn;subst hn;obtain ⟨g,off,rfl,_,_,hrow⟩:=hb (by decide);simp only [Zal,Zaf,Rep,and_true] at hrow;obtain ⟨u,hc,rfl⟩:=hrow;have hl:=run_loadCells_list (P:=e.P) w ⟨g,off,none⟩ [.int .u8 b] (fun j u hj=>by
  cases j with
  | zero=>simp at hj;subst hj;rw [Addr.add_at];exact hc
  | succ j=>simp at hj)
 unfold Zgx at ht;split at ht
 ·rename_i e1 h1 h2;split at ht
  ·rename_i h3;refine ⟨.string (ZdR b),?_,by simp [ARel,DRel,Rep]⟩;simp only [Taf,Taj,Nat.zero_add] at hl;simp [execOp,ho,hv,convert,underlying,h1,h2,h3,Conv.bytesToString,hl,ZdR,Result.andThen]
  ·cases ht
 ·cases ht
end
theorem gY {e:Env} {K:St->Prop} {ds:List (Option Nat)} {os:List Oper} {d t1 t2 ty:Nat} {p:String} {ed:Array Edge} {x:Operand} {s:List (Nat × A)} {m:List (Nat × Bk)} {b:Int} (hK:Runs e ds 0 os ⟨(d,.d (.one (.lit (.string (ZdR b)))))::s,m⟩ K)
  (hx:evA s x=.d (.clip [[.lit (.int .u8 b)]]):=by exact snx) (ht:Zgx e.P t1 t2=true:=by kernel_rfl):Runs e ds 0 (⟨some d,.convert t1 t2 x,ty,p,ed,none⟩::os) ⟨s,m⟩ K:=by
 simp only [Runs] at hK ⊢;exact Zce rfl (Zog (o:=⟨some d,.convert t1 t2 x,ty,p,ed,none⟩) rfl hx ht hK)
def dig (n:Nat):ByteArray:=ZdR (IntKind.u8.wrap (IntKind.i64.wrap (48+(n:Int).tmod 10)))
def txtL (n:Nat) (acc:ByteArray):ByteArray:=if h:n=0 then acc else txtL (n / 10) (dig n++acc)
termination_by n
decreasing_by omega
def txt (k:Int):ByteArray:=if k<=0 then ⟨#[109,48]⟩ else ⟨#[109]⟩++txtL k.toNat ByteArray.empty
theorem ZqP (acc:ByteArray):txtL 0 acc=acc:=by rw [txtL];simp
theorem ZqQ {n:Nat} (h:n≠0) (acc:ByteArray):txtL n acc=txtL (n / 10) (dig n++acc):=by rw [txtL];simp [h]
theorem ZiD (n:Nat):(dig n).size=1:=rfl
theorem Zcb (k:Int) (hk:k<=1000000000) (hk0:0<=k):Con e0 45 [.one (.lit (.int .i64 k))] [.one (.lit (.string (txt k)))]:=by
 by_cases h0:k<=0
 ·have h:txt k=⟨#[109,48]⟩:=by unfold txt;rw [if_pos h0]
  have q1:(k<=0)=True:=eq_true h0;rw [h];refine gI (ts:=[.slot 2]) 173 Try.func45 ?_;exact fD @q1
 ·have h:txt k=⟨#[109]⟩++txtL k.toNat ByteArray.empty:=by unfold txt;rw [if_neg h0]
  have q1:(k<=0)=False:=eq_false h0;rw [h];obtain ⟨n,rfl⟩:∃ n:Nat,k=n:=⟨k.toNat,om⟩;rw [Tbo];refine gI (ts:=[.slot 2]) 173 Try.func45 ?_;refine fG @q1 ?_;have F:=@q1;refine gL (ι:=Nat × ByteArray) [0,3,7] [] (fun x=>[(0,.d (.one (.lit (.int .i64 (x.1:Int))))),(3,.d (.one (.lit (.string x.2))))]) (fun x=>[]) (fun x=>txtL n ByteArray.empty=txtL x.1 x.2∧x.2.size+x.1<=n) (fun x=>x.1) ((n,⟨#[]⟩)) (⟨rfl,by show 0+n<=n;omega⟩) (fun x hx=>?_);clear F
  obtain ⟨j,acc⟩:=x;obtain ⟨h1,h2⟩:=hx;simp only at h1 h2;rw [h1];clear h1;by_cases hj:j=0
  ·subst hj;have q2:(((0:Nat):Int) > 0)=False:=eq_false om;rw [ZqP];have q5:((ByteArray.mk #[109]).size+acc.size<=9223372036854775807)=True:=eq_true (by show 1+acc.size<=_;omega);exact fD (ai @q2 @q5)
  ·have q2:((j:Int) > 0)=True:=eq_true om;rw [ZqQ hj];have q3:IntKind.i64.wrap ((j:Int).tdiv 10)=((j / 10:Nat):Int):=by rw [show (j:Int).tdiv 10=((j / 10:Nat):Int) from by rw [Int.ofNat_tdiv];rfl];exact IntWalk.i64_in _ om
   refine fN 5 @q2 ?_;refine gB ?_;have F:=@q2;refine gP 5 ?_;clear F;refine gY ?_;have q5:((dig j).size+acc.size<=9223372036854775807)=True:=eq_true (by rw [ZiD];omega);change Runs _ _ _ _ ⟨(13,.d (.one (.lit (.string (dig j)))))::_,_⟩ _;refine fR (ai @q2 @q5) ?_;have hd:=ZiD j;have F:=ai @q2 @q3;refine gG ?_;exact ⟨(j / 10,dig j++acc),⟨rfl,by rw [ByteArray.size_append,hd];omega⟩,gw,gw,om⟩
def mkV (k:Int):Value->Value
 | .int i _=>.int i k
 | .string _=>.string (txt k)
 | .bool _=>.bool (k % 3==0)
 | v=>v
mutual
def mkC:Int->C->C
 | k,.lit v=>.lit (mkV k v)
 | k,.sl rows=>.sl (Zan k rows)
 | _,.ptr cs=>.ptr cs
 | _,.fn f cs=>.fn f cs
def ZbW:Int->List C->List C
 | _,[]=>[]
 | k,c::cs=>mkC k c::ZbW (k+cntC c) cs
def Zan:Int->List (List C)->List (List C)
 | _,[]=>[]
 | k,r::rs=>ZbW k r::Zan (k+ZbP r) rs
def cntC:C->Nat
 | .lit _=>1
 | .sl rows=>cntRows rows
 | .ptr _=>0
 | .fn _ _=>0
def ZbP:List C->Nat
 | []=>0
 | c::cs=>cntC c+ZbP cs
def cntRows:List (List C)->Nat
 | []=>0
 | r::rs=>ZbP r+cntRows rs
end
theorem Zhd:∀ (k:Int) (cs:List C),(ZbW k cs).length=cs.length
 | _,[]=>by simp [ZbW]
 | k,c::cs=>by simp [ZbW,Zhd _ cs]
theorem Zf9:∀ (k:Int) (rs:List (List C)),(Zan k rs).length=rs.length
 | _,[]=>by simp [Zan]
 | k,c::cs=>by simp [Zan,Zf9 _ cs]
theorem ZcN:∀ (rs:List (List C)) (r:List C),cntRows (rs++[r])=cntRows rs+ZbP r
 | [],r=>by simp [cntRows]
 | q::rs,r=>by simp [cntRows,ZcN rs r];omega
theorem Zcm:∀ (rs:List (List C)) (r:List C) (k:Int),Zan k (rs++[r])=Zan k rs++[ZbW (k+cntRows rs) r]
 | [],r,k=>by simp [Zan,cntRows]
 | q::rs,r,k=>by simp [Zan,cntRows,Zcm rs r,Int.add_assoc]
theorem Zb2 {α:Type} {l:List α} {i:Nat} {x:α} (h:l[i]?=some x):l.take (i+1)=l.take i++[x]:=by simp [List.take_add_one,h]
theorem Zcc {α:Type} {l:List α} {i:Nat} {x:α} (h:l[i]?=some x):l.drop i=x::l.drop (i+1):=by
 obtain ⟨h1,rfl⟩:=Tac.1 h;exact List.drop_eq_getElem_cons h1
theorem Zb3:∀ (rs:List (List C)) (i:Nat),cntRows (rs.take i)<=cntRows rs
 | [],i=>by simp [cntRows]
 | r::rs,0=>by simp [cntRows]
 | r::rs,i+1=>by have:=Zb3 rs i;simp only [Tay,cntRows];omega
theorem ZqB {x y:Bk} (h:∀ g,pblk x g->¬ pblk y g):Zbd [x,y]:=⟨fun z hz g hg=>by simp at hz;subst hz;exact h g hg,Zcf _⟩
theorem Zga {E:Nat->Prop} {v:Value}:Zf0 (ι:=Option Addr × Nat) [.set E (fun w=>Own w (.sl []) E v)] (fun i=>v=.slice i.1 0 i.2) (fun _=>[.set E (fun w=>Own w (.sl []) E v)]):=fun w S h ha=>by
 obtain ⟨h1,h2,h3⟩:_∧Own w (.sl []) E v∧_:=h (.set E (fun w=>Own w (.sl []) E v)) (by simp);simp only [Own] at h2;obtain ⟨A,n,cap,hv,hn,_⟩:=h2;simp at hn;subst hn;exact ⟨(A,cap),hv,h,ha,fun _ h=>h⟩
theorem ZeY {E:Nat->Prop} {v:Value} {rows:List (List C)} {sz:Nat} (hne:rows≠[]) (hrl:rowsLen sz rows):Zf0 (ι:=Option Addr × Nat × Nat × List (List Value) × (Nat->Prop)) [.set E (fun w=>Own w (.sl rows) E v)]
  (fun i=>v=.slice i.1 i.2.2.2.1.length i.2.1∧i.2.2.2.1.length=rows.length∧rows.length<=maxLen) (fun i=>[.buf (some (i.1,i.2.1)) i.2.2.1 sz (i.2.2.2.1.map Zae),.set i.2.2.2.2 (fun w=>Zag w rows i.2.2.2.2 i.2.2.2.1)]):=fun w S h ha=>by
 obtain ⟨h1,h2,h3⟩:(∀ b,E b->b < w.heap.size∧¬ S b)∧Own w (.sl rows) E v∧_:=h (.set E (fun w=>Own w (.sl rows) E v)) (by simp);obtain ⟨A,n,cap,rfl,hn1,hn2,hn3⟩:=(Own.rep _ _ _ h2).form;obtain ⟨uss,ety,E',rfl,k1,k2,k3,k4⟩:=Own.open (T:=S) (fun b hb=>(h1 b hb).2) hne hrl h2;refine ⟨(A,cap,ety,uss,E'),⟨rfl,k2.len,om⟩,fun x hx=>?_,ZqB fun g hg hg2=>?_,fun g ⟨x,hx,hg⟩=>⟨_,Tar,?_⟩⟩
 ·simp only [Tbc,List.not_mem_nil,or_false] at hx;rcases hx with rfl | rfl
  ·show ZaK w S ety sz (uss.map Zae) (.slice A (uss.map Zae).length cap);rw [Taw];exact k1
  ·exact ⟨fun b hb=>h1 b (k3 b hb).1,k2,Zag.stable _ _ _⟩
 ·simp only [pblk,Taw] at hg hg2;exact (k3 g hg2).2 hg
 ·simp only [Tbc,List.not_mem_nil,or_false] at hx;rcases hx with rfl | rfl
  ·simp only [pblk,Taw] at hg;exact k4 g hg
  ·exact (k3 g hg).1
def ZaO:List C->List Value->(Nat->Nat->Prop)->List Bk
 | .sl rows::cs,u::us,Es=>.set (Es 0) (fun w=>Own w (.sl rows) (Es 0) u)::ZaO cs us (fun k=>Es (k+1))
 | .lit _::cs,_::us,Es=>ZaO cs us Es
 | _,_,_=>[]
def ZcD:List C->List Value->Prop
 | [],[]=>True
 | .lit x::cs,u::us=>u=x∧ZcD cs us
 | .sl _::cs,_::us=>ZcD cs us
 | _,_=>False
def ZcE:C->Bool
 | .lit _=>true
 | .sl _=>true
 | _=>false
theorem Zfy {w:World} {S:Nat->Prop}:∀ {cs:List C} {us:List Value} {E:Nat->Prop},cs.all ZcE=true->Zac w cs E us->(∀ b,E b->b < w.heap.size∧¬ S b)->∃ Es,ZcD cs us∧(∀ x∈ZaO cs us Es,Za4 w S x)∧Zbd (ZaO cs us Es)∧∀ g,Zax (ZaO cs us Es) g->E g
 | [],[],E,_,_,_=>⟨fun _ _=>False,trivial,by simp [ZaO],trivial,fun g ⟨x,hx,_⟩=>by simp [ZaO] at hx⟩
 | c::cs,u::us,E,hp,h,hE=>by
  simp only [Zac] at h;obtain ⟨S1,S2,i1,i2,hd,h1,h2⟩:=h;simp only [List.all_cons,Taq] at hp;obtain ⟨Es,k1,k2,k3,k4⟩:=Zfy hp.2 h2 (fun b hb=>hE b (i2 b hb))
  cases c with
  | lit x =>
   simp only [Own] at h1;exact ⟨Es,⟨h1,k1⟩,k2,k3,fun g hg=>i2 g (k4 g hg)⟩
  | sl rows =>
   refine ⟨fun k=>match k with | 0=>S1 | k+1=>Es k,k1,fun x hx=>?_,⟨fun y hy g hg hg2=>hd g hg (k4 g ⟨y,hy,hg2⟩),k3⟩,fun g ⟨x,hx,hg⟩=>?_⟩
   ·simp only [ZaO,Tbc] at hx;rcases hx with rfl | hx
    ·exact ⟨fun b hb=>hE b (i1 b hb),h1,Own.stable _ _ _⟩
    ·exact k2 x hx
   ·simp only [ZaO,Tbc] at hx;rcases hx with rfl | hx
    ·exact i1 g hg
    ·exact i2 g (k4 g ⟨x,hx,hg⟩)
  | ptr _=>simp [ZcE] at hp
  | fn _ _=>simp [ZcE] at hp
 | [],_::_,_,_,h,_=>by simp [Zac] at h
 | _::_,[],_,_,h,_=>by simp [Zac] at h
theorem Zac.of_cells {w:World} {S:Nat->Prop}:∀ {cs:List C} {us:List Value} {Es:Nat->Nat->Prop},cs.all ZcE=true->ZcD cs us->(∀ x∈ZaO cs us Es,Za4 w S x)->Zbd (ZaO cs us Es)->Zac w cs (Zax (ZaO cs us Es)) us
 | [],[],Es,_,_,_,_=>Zac.nil
 | .lit x::cs,u::us,Es,hp,hl,h,ha=>by
  obtain ⟨rfl,hl⟩:=hl;simp only [List.all_cons,Taq] at hp;simp only [Zac];exact ⟨fun _=>False,_,fun _ h=>h.elim,fun _ h=>h,fun _ h _=>h,by simp [Own],Zac.of_cells (Es:=Es) hp.2 hl h ha⟩
 | .sl rows::cs,u::us,Es,hp,hl,h,ha=>by
  simp only [List.all_cons,Taq] at hp;simp only [Zac];obtain ⟨a1,a2⟩:=ha;have hE:=h (.set (Es 0) (fun w=>Own w (.sl rows) (Es 0) u)) Tar;refine ⟨Es 0,Zax (ZaO cs us (fun k=>Es (k+1))),fun b hb=>⟨_,Tar,hb⟩,fun b ⟨x,hx,hb⟩=>⟨x,Tak _ hx,hb⟩,fun b hb ⟨x,hx,hb2⟩=>a1 x hx b hb hb2,hE.2.1,Zac.of_cells hp.2 hl (fun x hx=>h x (Tak _ hx)) a2⟩
 | .ptr _::_,_::_,_,hp,_,_,_=>by simp [ZcE] at hp
 | .fn _ _::_,_::_,_,hp,_,_,_=>by simp [ZcE] at hp
 | [],_::_,_,_,hl,_,_=>by simp [ZcD] at hl
 | .lit _::_,[],_,_,hl,_,_=>by simp [ZcD] at hl
 | .sl _::_,[],_,_,hl,_,_=>by simp [ZcD] at hl
theorem Zdr:∀ {cs:List C} {us:List Value} {Es:Nat->Nat->Prop} (y:Bk),y∈ZaO cs us Es->∃ E G,y=.set E G
 | .sl rows::cs,u::us,Es,y,h=>by
  rcases Tbc.1 h with rfl | h
  ·exact ⟨_,_,rfl⟩
  ·exact Zdr y h
 | .lit _::cs,_::us,Es,y,h=>Zdr (cs:=cs) (us:=us) y h
 | .ptr _::_,_,_,y,h=>by simp [ZaO] at h
 | .fn _ _::_,_,_,y,h=>by simp [ZaO] at h
 | [],_,_,y,h=>by simp [ZaO] at h
 | .lit _::_,[],_,y,h=>by simp [ZaO] at h
 | .sl _::_,[],_,y,h=>by simp [ZaO] at h
theorem ZeZ {E:Nat->Prop} {r:List C} {rest:List (List C)} {us:List Value} {urest:List (List Value)} (hp:r.all ZcE=true):Zf0 (ι:=Unit) [.set E (fun w=>Zag w (r::rest) E (us::urest))] (fun _=>ZcD r us) (fun _=>[.set E (fun w=>Zag w (r::rest) E (us::urest))]):=fun w S h ha=>by
 obtain ⟨h1,h2,h3⟩:(∀ b,E b->b < w.heap.size∧¬ S b)∧Zag w (r::rest) E (us::urest)∧_:=h (.set E (fun w=>Zag w (r::rest) E (us::urest))) (by simp);obtain ⟨S1,S2,i1,i2,hd,k1,k2⟩:=h2;obtain ⟨Es,hl,_⟩:=Zfy (S:=S) hp k1 (fun b hb=>h1 b (i1 b hb));exact ⟨(),hl,h,ha,fun _ h=>h⟩
theorem Zgb {E:Nat->Prop} {r:List C} {rest:List (List C)} {us:List Value} {urest:List (List Value)} (hp:r.all ZcE=true):Zf0 (ι:=(Nat->Prop) × (Nat->Nat->Prop)) [.set E (fun w=>Zag w (r::rest) E (us::urest))] (fun _=>True) (fun i=>.set i.1 (fun w=>Zag w rest i.1 urest)::ZaO r us i.2):=fun w S h ha=>by
 obtain ⟨h1,h2,h3⟩:(∀ b,E b->b < w.heap.size∧¬ S b)∧Zag w (r::rest) E (us::urest)∧_:=h (.set E (fun w=>Zag w (r::rest) E (us::urest))) (by simp);obtain ⟨S1,S2,i1,i2,hd,k1,k2⟩:=h2;obtain ⟨Es,hl,q1,q2,q3⟩:=Zfy (S:=S) hp k1 (fun b hb=>h1 b (i1 b hb));refine ⟨(S2,Es),trivial,fun x hx=>?_,⟨fun y hy g hg hg2=>hd g (q3 g ⟨y,hy,hg2⟩) hg,q2⟩,fun g ⟨x,hx,hg⟩=>⟨_,Tar,?_⟩⟩
 ·rcases Tbc.1 hx with rfl | hx
  ·exact ⟨fun b hb=>h1 b (i2 b hb),k2,Zag.stable _ _ _⟩
  ·exact q1 x hx
 ·rcases Tbc.1 hx with rfl | hx
  ·exact i2 g hg
  ·exact i1 g (q3 g ⟨x,hx,hg⟩)
theorem Zgc {E:Nat->Prop} {done:List (List C)} {ud:List (List Value)} {cs:List C} {us:List Value} {Es:Nat->Nat->Prop} (hp:cs.all ZcE=true) (hl:ZcD cs us):Za5 (.set E (fun w=>Zag w done E ud)::ZaO cs us Es) [.set (fun b=>E b∨Zax (ZaO cs us Es) b) (fun w=>Zag w (done++[cs]) (fun b=>E b∨Zax (ZaO cs us Es) b) (ud++[us]))]:=fun w S h ha=>by
 have hE:=h (.set E (fun w=>Zag w done E ud)) Tar;have hv:=Zac.of_cells (w:=w) (S:=S) hp hl (fun x hx=>h x (Tak _ hx)) ha.2;refine ⟨fun x hx=>?_,Zcf _,fun g ⟨x,hx,hg⟩=>?_⟩
 ·simp only [Tbc,List.not_mem_nil,or_false] at hx;subst hx;refine ⟨fun b hb=>?_,Zag.snoc hE.2.1 hv (fun _ h=>.inl h) (fun _ h=>.inr h) (fun b hb ⟨y,hy,hg⟩=>ha.1 y hy b hb hg),Zag.stable _ _ _⟩;rcases hb with hb | ⟨y,hy,hg⟩
  ·exact hE.1 b hb
  ·obtain ⟨E',G',rfl⟩:=Zdr y hy;exact (h _ (Tak _ hy)).1 b hg
 ·simp only [Tbc,List.not_mem_nil,or_false] at hx;subst hx;rcases hg with hg | ⟨y,hy,hg⟩
  ·exact ⟨_,Tar,hg⟩
  ·exact ⟨y,Tak _ hy,hg⟩
def ZcV (f:FuncId) (rows:List (List C)):Prop:=∀ (k:Int) (E:Nat->Prop) (v:Value),0<=k->k+cntRows rows<=1000000000->ConP e0 f [.one (.lit v),.one (.lit (.int .i64 k))] [.set E (fun w=>Own w (.sl rows) E v)] (fun r pm=>∃ E',r=[.one (.lit (.int .i64 (k+cntRows rows)))]∧pm=[.set E' (fun w=>Own w (.sl (Zan k rows)) E' v)])
theorem ZcF (k:Int):Zan k []=[]:=by simp only [Zan]
theorem ZdS:cntRows []=0:=by simp only [cntRows]
theorem Zgy {α:Type} {l:List α} {i:Nat} (h:i < l.length) (x:α):(l.set i x)[i]?=some x:=by simp [h]
theorem ZaA {α:Type} (l:List α) (i:Nat) (x:α):(l.set i x).length=l.length:=List.length_set
theorem ZaB {α:Type} (l:List α) (i:Nat) (x y:α):(l.set i x).set i y=l.set i y:=List.set_set ..
theorem Zeb {α:Type} {l:List α} {i:Nat} {x:α} (h:i < l.length):(l.set i x).take (i+1)=l.take i++[x]:=by
 rw [Zb2 (x:=x) (by simp [h]),List.take_set_of_le (Tah _)]
theorem Zec {α:Type} (l:List α) (i:Nat) (x:α):(l.set i x).drop (i+1)=l.drop (i+1):=List.drop_set_of_lt om
theorem Zla (rows:List (List C)) (hok:Zah (Zab .term) rows) (h:∀ r∈rows,∀ i0 t1 i2 r3,r=[.lit (.int .i64 i0),.lit (.string t1),.lit (.int .i64 i2),.sl r3]->ZcV 19 r3):ZcV 19 rows:=by
 intro k E v hk hb;refine gIP (ts:=[.slot 4]) [1000] 563 Try.func19 ?_;refine fG @e0P ?_;by_cases hne:rows=[]
 ·subst hne;refine pEx [1000] [1000] Zga ?_;rintro ⟨a,cap⟩ rfl;have F:=@hk;refine gL (ι:=Unit) [1,5,9] [] (fun x=>[(5,.d (.one (.lit (.int .i64 0)))),(1,.d (.one (.lit (.int .i64 k))))]) (fun x=>[]) (fun x=>True) (fun x=>0) (()) (trivial) (fun x hx=>?_);clear F;have q1:((0:Int) < 0)=False:=eq_false (by decide);have q2:((0:Int) < ((0:Nat):Int))=False:=eq_false (by decide);refine fG (ai @q1 @q2) ?_;have F:=hk
  refine gTP (R:=fun r pm=>∃ E',r=[.one (.lit (.int .i64 (k+(cntRows []:Nat))))]∧pm=[.set E' (fun w=>Own w (.sl (Zan k [])) E' (.slice a 0 cap))]) [1000] ⟨E,by simp only [cntRows,Int.natCast_zero,Int.add_zero];rfl,by simp only [Zan];rfl⟩
 ·have hrl:rowsLen 4 rows:=Zah.rowsLen hok;refine pEx [1000] [1000,1001] (ZeY hne hrl) ?_;rintro ⟨a,cap,ety,uss,E1⟩ ⟨rfl,hl,hmx⟩;simp only at hl ⊢;unfold maxLen at hmx;refine pE [] [1002] Zb1 ?_;have F:=aj4 @ZcF @ZdS @Int.add_zero @Int.natCast_zero;refine gL (ι:=Nat × List (List Value) × (Nat->Prop) × (Nat->Prop)) [1,5,9] [1000,1001,1002] (fun x=>[(5,.d (.one (.lit (.int .i64 (x.1:Int))))),(1,.d (.one (.lit (.int .i64 (k+(cntRows (rows.take x.1):Nat))))))]) (fun x=>[(1000,.buf (some (a,cap)) ety 4 (x.2.1.map Zae)),(1001,.set x.2.2.1 (fun w=>Zag w (rows.drop x.1) x.2.2.1 (x.2.1.drop x.1))),(1002,.set x.2.2.2 (fun w=>Zag w (Zan k (rows.take x.1)) x.2.2.2 (x.2.1.take x.1)))]) (fun x=>x.1<=rows.length∧x.2.1.length=rows.length) (fun x=>rows.length - x.1) ((0,uss,E1,fun _=>False)) (⟨Tai _,hl⟩) (fun x hx=>?_);clear F
  obtain ⟨i,us,E2,E3⟩:=x;obtain ⟨hi,hn⟩:=hx;simp only at hi hn;dsimp only;by_cases hlt:i < rows.length
  ·obtain ⟨r,hr⟩:∃ r,rows[i]?=some r:=⟨_,Taa hlt⟩;obtain ⟨u,hu⟩:∃ u,us[i]?=some u:=⟨_,Taa om⟩;obtain ⟨i0,t1,i2,r3,rfl,_,_,_,g3⟩:=ZbD (hok.get hr);have hm:=h _ (Tab hr) i0 t1 i2 r3 rfl;have hc1:cntRows (rows.take (i+1))=cntRows (rows.take i)+(3+cntRows r3):=by
    rw [Zb2 hr,ZcN];simp only [ZbP,cntC];omega
   have hc2:=Zb3 rows (i+1);rw [Zcc hr,Zcc hu];refine pEx [1001] [1001] (ZeZ rfl) ?_;rintro ⟨⟩ hlit;obtain ⟨u3,rfl⟩:∃ u3,u=[.int .i64 i0,.string t1,.int .i64 i2,u3]:=by
    match u,hlit with
    | [_,_,_,u3],⟨rfl,rfl,rfl,_⟩=>exact ⟨u3,rfl⟩
   refine pEx (f:=fun (x:(Nat->Prop) × (Nat->Nat->Prop))=>[.set x.1 (fun w=>Zag w (rows.drop (i+1)) x.1 (us.drop (i+1))),.set (x.2 0) (fun w=>Own w (.sl r3) (x.2 0) u3)]) [1001] [1001,1003] (Zgb rfl) ?_;rintro ⟨E4,Es⟩ -;dsimp only;generalize hkk:k+(cntRows (rows.take i):Int)=kk;have q1:=lT i rows.length;have q2:i < rows.length:=hlt;have hs:∀ X:List C,((us.map Zae).set i X)[i]?=some X:=fun X=>Zgy (by rw [Zap,hn];omega) X
   have w1:IntKind.i64.wrap (kk+1)=kk+1:=IntWalk.i64_in _ om;have w2:IntKind.i64.wrap (kk+1+1)=kk+1+1:=IntWalk.i64_in _ om;have w3:IntKind.i64.wrap (kk+1+1+1)=kk+1+1+1:=IntWalk.i64_in _ om;have w4:IntKind.i64.wrap ((i:Int)+1)=(i:Int)+1:=IntWalk.i64_in _ om;refine fB (aj13 @q1 @hl @hn @hu @Zbx @Zap @ZaA @hs @w1 @w2 @w3 @q2 @ZaB) ?_;refine fC @q1 (Zcb (kk+1) om om) ?_;refine fR (aj9 @hl @hn @hu @Zbx @Zap @ZaA @hs @q2 @ZaB) ?_
   refine fB (aj13 @q1 @hl @hn @hu @Zbx @Zap @ZaA @hs @w1 @w2 @w3 @q2 @ZaB) ?_;have F:=aj13 @q1 @hl @hn @hu @Zbx @Zap @ZaA @hs @w1 @w2 @w3 @q2 @ZaB;refine gCP [1003] [1003] (hm (kk+1+1+1) (Es 0) u3 om om) ?_;clear F;rintro r pm ⟨E5,rfl,rfl⟩;simp only [setA,retA,zipM,Tae,Tag];refine fR @q1 ?_;obtain ⟨E6,hre⟩:∃ E6,Za5 [.set E3 (fun w=>Zag w (Zan k (rows.take i)) E3 (us.take i)),.set E5 (fun w=>Own w (.sl (Zan (kk+1+1+1) r3)) E5 u3)] [.set E6 (fun w=>Zag w (Zan k (rows.take (i+1))) E6 ((us.set i [.int .i64 kk,.string (txt (kk+1)),.int .i64 (kk+1+1),u3]).take (i+1)))]:=by
    have hz:=Zgc (E:=E3) (done:=Zan k (rows.take i)) (ud:=us.take i) (cs:=[.lit (.int .i64 kk),.lit (.string (txt (kk+1))),.lit (.int .i64 (kk+1+1)),.sl (Zan (kk+1+1+1) r3)]) (us:=[.int .i64 kk,.string (txt (kk+1)),.int .i64 (kk+1+1),u3]) (Es:=fun _=>E5) rfl ⟨rfl,rfl,rfl,trivial⟩;rw [Zb2 hr,Zcm,hkk,Zeb om];simp only [ZbW,mkC,mkV,cntC,Int.natCast_one];exact ⟨_,hz⟩
   refine pE [1002,1003] [1002] hre ?_;have e1:((us.set i [.int .i64 kk,.string (txt (kk+1)),.int .i64 (kk+1+1),u3]).map Zae)=(us.map Zae).set i [.lit (.int .i64 kk),.lit (.string (txt (kk+1))),.lit (.int .i64 (kk+1+1)),.lit u3]:=by rw [List.map_set,Zbx]
   have e2:=Zec us i [.int .i64 kk,.string (txt (kk+1)),.int .i64 (kk+1+1),u3];have e5:k+(cntRows (rows.take (i+1)):Int)=kk+1+1+1+(cntRows r3:Int):=by rw [hc1];omega
   have hn2:(us.set i [.int .i64 kk,.string (txt (kk+1)),.int .i64 (kk+1+1),u3]).length=rows.length:=by rw [ZaA,hn]
   generalize us.set i [.int .i64 kk,.string (txt (kk+1)),.int .i64 (kk+1+1),u3]=us2 at e1 e2 hn2 ⊢;rw [<- e1,<- e2];have F:=aj3 @w4 @e5 @hl;refine gG ?_;exact ⟨(i+1,us2,E4,E6),⟨hlt,hn2⟩,gw,gw,om⟩
  ·obtain rfl:i=rows.length:=by omega
   have q1:=lF rows.length rows.length;rw [Tao,List.take_of_length_le (Nat.le_of_eq hn)];refine fG (aj3 @q1 @hl @hn) ?_;obtain ⟨E6,hre⟩:∃ E6,Za5 [.buf (some (a,cap)) ety 4 (us.map Zae),.set E3 (fun w=>Zag w (Zan k rows) E3 us)] [.set E6 (fun w=>Own w (.sl (Zan k rows)) E6 (.slice a uss.length cap))]:=by
    rw [hl,<- hn];exact ⟨_,ZbE (fun w h=>h) (Own.stable _ _ _)⟩
   refine pE [1000,1002] [1000] hre ?_;have F:=hk;exact gTP (R:=fun r pm=>∃ E',r=[.one (.lit (.int .i64 (k+(cntRows rows:Nat))))]∧pm=[.set E' (fun w=>Own w (.sl (Zan k rows)) E' (.slice a uss.length cap))]) [1000] ⟨E6,rfl,rfl⟩
theorem Zi1 (n:Nat):∀ rows,Za1 rows < n->Zah (Zab .term) rows->ZcV 19 rows:=by
 induction n with
 | zero=>exact fun _ h=>om
 | succ n ih =>
  intro rows hn hok;refine Zla rows hok fun r hr i0 t1 i2 r3 he=>?_;subst he;obtain ⟨i,hi⟩:=Tbf hr;have h1:=Zbo hi;obtain ⟨_,_,_,_,he,_,_,_,g3⟩:=ZbD (hok.get hi);injection he with _ he;injection he with _ he;injection he with _ he;injection he with he _;injection he with he;subst he
  simp only [ZaQ,Zb7] at h1;exact ih _ om g3
theorem Zby {rows:List (List C)} (hok:Zah (Zab .term) rows):ZcV 19 rows:=Zi1 _ rows (Tam _) hok
def ZhE (f:FuncId) (rows:List (List C)):Prop:=∀ (k:Int),0<=k->k+cntRows rows<=1000000000->Con e0 f [.one (.sl (Zan k rows)),.one (.lit (.int .i64 k))] [.one (.lit (.int .i64 (k+cntRows rows)))]
theorem Zgd:∀ {rows:List (List C)} {i:Nat} {r:List C} (k:Int),rows[i]?=some r->(Zan k rows)[i]?=some (ZbW (k+cntRows (rows.take i)) r)
 | q::rows,0,r,k,h=>by simp at h;subst h;simp [Zan,cntRows]
 | q::rows,i+1,r,k,h=>by
  simp only [Tat] at h;simp only [Zan,Tat,Tay,cntRows];rw [Zgd _ h];congr 2;omega
 | [],_,_,_,h=>by simp at h
theorem ZqR {v:Value} {k:Int} (h:Zai (.lit v)=true):Zai (.lit (mkV k v))=true:=by
 cases v <;> first | rfl | exact h
theorem Zfj:∀ (cs:List C) (k:Int),cs.all Zai=true->(ZbW k cs).all Zai=true
 | [],_,_=>by simp [ZbW]
 | c::cs,k,h=>by
  simp only [List.all_cons,Taq] at h;simp only [ZbW,List.all_cons,Taq];refine ⟨?_,Zfj cs _ h.2⟩
  cases c with
  | lit v=>simp only [mkC];exact ZqR h.1
  | _=>simp [mkC,Zai]
theorem Zqk {n:Nat}:∀ {rows:List (List C)} (k:Int),rowsLen n rows->Zay n (Zan k rows)=true
 | [],k,_=>by simp [Zan,Zay]
 | r::rows,k,h=>by
  have h1:=h r Tar;have h2:=Zqk (k+ZbP r) (fun x hx=>h x (Tak _ hx):rowsLen n rows);unfold Zay at h2 ⊢;simp only [Zan,List.all_cons,Taq];exact ⟨⟨by rw [Zhd,h1.1];exact beq_self_eq_true n,Zfj _ _ h1.2⟩,h2⟩
theorem Zlb (rows:List (List C)) (hok:Zah (Zab .term) rows) (hmx:rows.length<=1048576) (h:∀ r∈rows,∀ i0 t1 i2 r3,r=[.lit (.int .i64 i0),.lit (.string t1),.lit (.int .i64 i2),.sl r3]->ZhE 20 r3):ZhE 20 rows:=by
 intro k hk hb;have hrb:Zay 4 (Zan k rows)=true:=Zqk k hok.rowsLen;have hml:=Zf9 k rows;refine gI (ts:=[.slot 4]) 281612684362291 Try.func20 ?_;refine fG @e0P ?_;have F:=aj4 @ZcF @ZdS @Int.add_zero @Int.natCast_zero;refine gL (ι:=Nat) [1,4,5,9,18,28,37,48] [] (fun x=>[(5,.d (.one (.lit (.int .i64 (x:Int))))),(1,.d (.one (.lit (.int .i64 (k+(cntRows (rows.take x):Nat))))))]) (fun x=>[]) (fun x=>x<=rows.length) (fun x=>rows.length - x) (0) (Tai _) (fun x hx=>?_);clear F
 by_cases hlt:x < rows.length
 ·obtain ⟨r,hr⟩:∃ r,rows[x]?=some r:=⟨_,Taa hlt⟩;obtain ⟨i0,t1,i2,r3,rfl,_,_,_,g3⟩:=ZbD (hok.get hr);have hm:=h _ (Tab hr) i0 t1 i2 r3 rfl;have hc1:cntRows (rows.take (x+1))=cntRows (rows.take x)+(3+cntRows r3):=by
   rw [Zb2 hr,ZcN];simp only [ZbP,cntC];omega
  have hc2:=Zb3 rows (x+1);have hg:=Zgd k hr;simp only [ZbW,mkC,mkV,cntC,Int.natCast_one] at hg;have e5:k+(cntRows (rows.take (x+1)):Int)=k+(cntRows (rows.take x):Int)+1+1+1+(cntRows r3:Int):=by rw [hc1];omega
  have b1:k+(cntRows (rows.take x):Int)+3+cntRows r3<=1000000000:=om;have b0:0<=k+(cntRows (rows.take x):Int):=om;generalize k+(cntRows (rows.take x):Int)=kk at hg e5 b1 b0 ⊢;have q1:=lT x rows.length;have w1:IntKind.i64.wrap (kk+1)=kk+1:=IntWalk.i64_in _ om;have w2:IntKind.i64.wrap (kk+1+1)=kk+1+1:=IntWalk.i64_in _ om;have w3:IntKind.i64.wrap (kk+1+1+1)=kk+1+1+1:=IntWalk.i64_in _ om;have w4:IntKind.i64.wrap ((x:Int)+1)=(x:Int)+1:=IntWalk.i64_in _ om
  refine fB (aj6 @q1 @hml @hrb @hg @beq_self_eq_true.{0} @w1) ?_;refine fC (aj4 @q1 @hml @hrb @hg) (Zcb (kk+1) om om) ?_;refine fR (aj5 @q1 @hml @hrb @hg @beq_self_eq_true.{0}) ?_;refine fB (aj8 @q1 @hml @hrb @hg @beq_self_eq_true.{0} @w1 @w2 @w3) ?_;refine fC (aj4 @q1 @hml @hrb @hg) (hm (kk+1+1+1) om om) ?_;refine fR @q1 ?_;have q5:(kk+1+1+1+(cntRows r3:Int) < 0)=False:=eq_false om;have F:=aj3 @q5 @w4 @e5;refine gG ?_;exact ⟨x+1,hlt,gw,gw,om⟩
 ·obtain rfl:x=rows.length:=by omega
  have q1:=lF rows.length rows.length;rw [Tao];exact fD (ai @q1 @hml)
theorem Zi2 (n:Nat):∀ rows,Za1 rows < n->Zah (Zab .term) rows->rows.length+bulkRows rows<=1048576->ZhE 20 rows:=by
 induction n with
 | zero=>exact fun _ h=>om
 | succ n ih =>
  intro rows hn hok hB;refine Zlb rows hok om fun r hr i0 t1 i2 r3 he=>?_;subst he;obtain ⟨i,hi⟩:=Tbf hr;have h1:=Zbo hi;have h2:=ZbQ hi;obtain ⟨_,_,_,_,he,_,_,_,g3⟩:=ZbD (hok.get hi);injection he with _ he;injection he with _ he;injection he with _ he;injection he with he _;injection he with he;subst he
  simp only [ZaQ,Zb7] at h1;simp only [bulkRow,Zbh] at h2;exact ih _ om g3 om
theorem Zho {rows:List (List C)} (hok:Zah (Zab .term) rows) (hB:rows.length+bulkRows rows<=1048576):ZhE 20 rows:=Zi2 _ rows (Tam _) hok hB
theorem Zfz {rows:List (List C)} (hok:Zah (Zab .binding) rows):ZcV 44 rows:=by
 intro k E v hk hb;refine gIP (ts:=[.slot 4]) [1000] 563 Try.func44 ?_;refine fG @e0P ?_;by_cases hne:rows=[]
 ·subst hne;refine pEx [1000] [1000] Zga ?_;rintro ⟨a,cap⟩ rfl;have F:=@hk;refine gL (ι:=Unit) [1,5,9] [] (fun x=>[(5,.d (.one (.lit (.int .i64 0)))),(1,.d (.one (.lit (.int .i64 k))))]) (fun x=>[]) (fun x=>True) (fun x=>0) (()) (trivial) (fun x hx=>?_);clear F;have q1:((0:Int) < 0)=False:=eq_false (by decide);have q2:((0:Int) < ((0:Nat):Int))=False:=eq_false (by decide);refine fG (ai @q1 @q2) ?_;have F:=hk
  refine gTP (R:=fun r pm=>∃ E',r=[.one (.lit (.int .i64 (k+(cntRows []:Nat))))]∧pm=[.set E' (fun w=>Own w (.sl (Zan k [])) E' (.slice a 0 cap))]) [1000] ⟨E,by simp only [cntRows,Int.natCast_zero,Int.add_zero];rfl,by simp only [Zan];rfl⟩
 ·have hrl:rowsLen 8 rows:=Zah.rowsLen hok;refine pEx [1000] [1000,1001] (ZeY hne hrl) ?_;rintro ⟨a,cap,ety,uss,E1⟩ ⟨rfl,hl,hmx⟩;simp only at hl ⊢;unfold maxLen at hmx;refine pE [] [1002] Zb1 ?_;have F:=aj4 @ZcF @ZdS @Int.add_zero @Int.natCast_zero;refine gL (ι:=Nat × List (List Value) × (Nat->Prop) × (Nat->Prop)) [1,5,9] [1000,1001,1002] (fun x=>[(5,.d (.one (.lit (.int .i64 (x.1:Int))))),(1,.d (.one (.lit (.int .i64 (k+(cntRows (rows.take x.1):Nat))))))]) (fun x=>[(1000,.buf (some (a,cap)) ety 8 (x.2.1.map Zae)),(1001,.set x.2.2.1 (fun w=>Zag w (rows.drop x.1) x.2.2.1 (x.2.1.drop x.1))),(1002,.set x.2.2.2 (fun w=>Zag w (Zan k (rows.take x.1)) x.2.2.2 (x.2.1.take x.1)))]) (fun x=>x.1<=rows.length∧x.2.1.length=rows.length) (fun x=>rows.length - x.1) ((0,uss,E1,fun _=>False)) (⟨Tai _,hl⟩) (fun x hx=>?_);clear F
  obtain ⟨i,us,E2,E3⟩:=x;obtain ⟨hi,hn⟩:=hx;simp only at hi hn;dsimp only;by_cases hlt:i < rows.length
  ·obtain ⟨r,hr⟩:∃ r,rows[i]?=some r:=⟨_,Taa hlt⟩;obtain ⟨u,hu⟩:∃ u,us[i]?=some u:=⟨_,Taa om⟩;obtain ⟨i0,t1,i2,r3,i4,t5,i6,r7,rfl,g0,g1,g2,g3,g4,g5,g6,g7⟩:=Zcq (hok.get hr);have hm3:=Zby g3;have hm7:=Zby g7;have hc1:cntRows (rows.take (i+1))=cntRows (rows.take i)+(6+cntRows r3+cntRows r7):=by
    rw [Zb2 hr,ZcN];simp only [ZbP,cntC];try omega
   have hc2:=Zb3 rows (i+1);rw [Zcc hr,Zcc hu];refine pEx [1001] [1001] (ZeZ rfl) ?_;rintro ⟨⟩ hlit;obtain ⟨u3,u7,rfl⟩:∃ u3 u7,u=[.int .i64 i0,.string t1,.int .i64 i2,u3,.int .i64 i4,.string t5,.int .i64 i6,u7]:=by
    match u,hlit with
    | [_,_,_,u3,_,_,_,u7],⟨rfl,rfl,rfl,rfl,rfl,rfl,_⟩=>exact ⟨u3,u7,rfl⟩
   refine pEx (f:=fun (x:(Nat->Prop) × (Nat->Nat->Prop))=>[.set x.1 (fun w=>Zag w (rows.drop (i+1)) x.1 (us.drop (i+1))),.set (x.2 0) (fun w=>Own w (.sl r3) (x.2 0) u3),.set (x.2 1) (fun w=>Own w (.sl r7) (x.2 1) u7)]) [1001] [1001,1003,1004] (Zgb rfl) ?_;rintro ⟨E4,Es⟩ -;dsimp only;have hkk0:0<=k+(cntRows (rows.take i):Int):=om;have hkk1:k+(cntRows (rows.take i):Int)+((6+cntRows r3+cntRows r7:Nat):Int)<=1000000000:=om
   generalize hkk:k+(cntRows (rows.take i):Int)=kk at hkk0 hkk1 ⊢;have q1:=lT i rows.length;have q2:i < rows.length:=hlt;have hs:∀ X:List C,((us.map Zae).set i X)[i]?=some X:=fun X=>Zgy (by rw [Zap,hn];omega) X;have lr:Zae [.int .i64 i0,.string t1,.int .i64 i2,u3,.int .i64 i4,.string t5,.int .i64 i6,u7]=[.lit (.int .i64 i0),.lit (.string t1),.lit (.int .i64 i2),.lit (u3),.lit (.int .i64 i4),.lit (.string t5),.lit (.int .i64 i6),.lit (u7)]:=rfl
   have w0:IntKind.i64.wrap (kk+1)=kk+1:=IntWalk.i64_in _ om;have w1:IntKind.i64.wrap (kk+1+1)=kk+1+1:=IntWalk.i64_in _ om;have w2:IntKind.i64.wrap (kk+1+1+1)=kk+1+1+1:=IntWalk.i64_in _ om;have w4:IntKind.i64.wrap (kk+1+1+1+(cntRows r3:Int)+1)=kk+1+1+1+(cntRows r3:Int)+1:=IntWalk.i64_in _ om;have w5:IntKind.i64.wrap (kk+1+1+1+(cntRows r3:Int)+1+1)=kk+1+1+1+(cntRows r3:Int)+1+1:=IntWalk.i64_in _ om
   have w6:IntKind.i64.wrap (kk+1+1+1+(cntRows r3:Int)+1+1+1)=kk+1+1+1+(cntRows r3:Int)+1+1+1:=IntWalk.i64_in _ om;have wi:IntKind.i64.wrap ((i:Int)+1)=(i:Int)+1:=IntWalk.i64_in _ om;refine fB (aj16 @q1 @hl @hn @hu @lr @Zap @ZaA @hs @w0 @w1 @w2 @w4 @w5 @w6 @q2 @ZaB) ?_;refine fC (aj16 @q1 @hl @hn @hu @lr @Zap @ZaA @hs @w0 @w1 @w2 @w4 @w5 @w6 @q2 @ZaB) (Zcb (kk+1) om om) ?_;refine fR (aj16 @q1 @hl @hn @hu @lr @Zap @ZaA @hs @w0 @w1 @w2 @w4 @w5 @w6 @q2 @ZaB) ?_
   refine fB (aj16 @q1 @hl @hn @hu @lr @Zap @ZaA @hs @w0 @w1 @w2 @w4 @w5 @w6 @q2 @ZaB) ?_;have F:=aj16 @q1 @hl @hn @hu @lr @Zap @ZaA @hs @w0 @w1 @w2 @w4 @w5 @w6 @q2 @ZaB;refine gCP [1003] [1003] (hm3 (kk+1+1+1) (Es 0) u3 om om) ?_;clear F;rintro r pm ⟨F3,rfl,rfl⟩;simp only [setA,retA,zipM,Tae,Tag];refine fR (aj16 @q1 @hl @hn @hu @lr @Zap @ZaA @hs @w0 @w1 @w2 @w4 @w5 @w6 @q2 @ZaB) ?_;refine fB (aj16 @q1 @hl @hn @hu @lr @Zap @ZaA @hs @w0 @w1 @w2 @w4 @w5 @w6 @q2 @ZaB) ?_
   refine fC (aj16 @q1 @hl @hn @hu @lr @Zap @ZaA @hs @w0 @w1 @w2 @w4 @w5 @w6 @q2 @ZaB) (Zcb (kk+1+1+1+(cntRows r3:Int)+1) om om) ?_;refine fR (aj16 @q1 @hl @hn @hu @lr @Zap @ZaA @hs @w0 @w1 @w2 @w4 @w5 @w6 @q2 @ZaB) ?_;refine fB (aj16 @q1 @hl @hn @hu @lr @Zap @ZaA @hs @w0 @w1 @w2 @w4 @w5 @w6 @q2 @ZaB) ?_;have F:=aj16 @q1 @hl @hn @hu @lr @Zap @ZaA @hs @w0 @w1 @w2 @w4 @w5 @w6 @q2 @ZaB;refine gCP [1004] [1004] (hm7 (kk+1+1+1+(cntRows r3:Int)+1+1+1) (Es 1) u7 om om) ?_;clear F
   rintro r pm ⟨F7,rfl,rfl⟩;simp only [setA,retA,zipM,Tae,Tag];refine fR (aj16 @q1 @hl @hn @hu @lr @Zap @ZaA @hs @w0 @w1 @w2 @w4 @w5 @w6 @q2 @ZaB) ?_;obtain ⟨E6,hre⟩:∃ E6,Za5 [.set E3 (fun w=>Zag w (Zan k (rows.take i)) E3 (us.take i)),.set F3 (fun w=>Own w (.sl (Zan (kk+1+1+1) r3)) F3 u3),.set F7 (fun w=>Own w (.sl (Zan (kk+1+1+1+(cntRows r3:Int)+1+1+1) r7)) F7 u7)] [.set E6 (fun w=>Zag w (Zan k (rows.take (i+1))) E6 ((us.set i [.int .i64 (kk),.string (txt (kk+1)),.int .i64 (kk+1+1),u3,.int .i64 (kk+1+1+1+(cntRows r3:Int)),.string (txt (kk+1+1+1+(cntRows r3:Int)+1)),.int .i64 (kk+1+1+1+(cntRows r3:Int)+1+1),u7]).take (i+1)))]:=by
    have hz:=Zgc (E:=E3) (done:=Zan k (rows.take i)) (ud:=us.take i) (cs:=[.lit (.int .i64 (kk)),.lit (.string (txt (kk+1))),.lit (.int .i64 (kk+1+1)),.sl (Zan (kk+1+1+1) r3),.lit (.int .i64 (kk+1+1+1+(cntRows r3:Int))),.lit (.string (txt (kk+1+1+1+(cntRows r3:Int)+1))),.lit (.int .i64 (kk+1+1+1+(cntRows r3:Int)+1+1)),.sl (Zan (kk+1+1+1+(cntRows r3:Int)+1+1+1) r7)]) (us:=[.int .i64 (kk),.string (txt (kk+1)),.int .i64 (kk+1+1),u3,.int .i64 (kk+1+1+1+(cntRows r3:Int)),.string (txt (kk+1+1+1+(cntRows r3:Int)+1)),.int .i64 (kk+1+1+1+(cntRows r3:Int)+1+1),u7]) (Es:=fun k=>match k with | 0=>F3 | _=>F7) rfl ⟨rfl,rfl,rfl,rfl,rfl,rfl,trivial⟩
    rw [Zb2 hr,Zcm,hkk,Zeb om];simp only [ZbW,mkC,mkV,cntC,Int.natCast_one];exact ⟨_,hz⟩
   refine pE [1002,1003,1004] [1002] hre ?_;have e1:((us.set i [.int .i64 (kk),.string (txt (kk+1)),.int .i64 (kk+1+1),u3,.int .i64 (kk+1+1+1+(cntRows r3:Int)),.string (txt (kk+1+1+1+(cntRows r3:Int)+1)),.int .i64 (kk+1+1+1+(cntRows r3:Int)+1+1),u7]).map Zae)=(us.map Zae).set i [.lit (.int .i64 (kk)),.lit (.string (txt (kk+1))),.lit (.int .i64 (kk+1+1)),.lit (u3),.lit (.int .i64 (kk+1+1+1+(cntRows r3:Int))),.lit (.string (txt (kk+1+1+1+(cntRows r3:Int)+1))),.lit (.int .i64 (kk+1+1+1+(cntRows r3:Int)+1+1)),.lit (u7)]:=by rw [List.map_set];rfl
   have e2:=Zec us i [.int .i64 (kk),.string (txt (kk+1)),.int .i64 (kk+1+1),u3,.int .i64 (kk+1+1+1+(cntRows r3:Int)),.string (txt (kk+1+1+1+(cntRows r3:Int)+1)),.int .i64 (kk+1+1+1+(cntRows r3:Int)+1+1),u7];have e5:k+(cntRows (rows.take (i+1)):Int)=kk+1+1+1+(cntRows r3:Int)+1+1+1+(cntRows r7:Int):=by rw [hc1];omega
   have hn2:(us.set i [.int .i64 (kk),.string (txt (kk+1)),.int .i64 (kk+1+1),u3,.int .i64 (kk+1+1+1+(cntRows r3:Int)),.string (txt (kk+1+1+1+(cntRows r3:Int)+1)),.int .i64 (kk+1+1+1+(cntRows r3:Int)+1+1),u7]).length=rows.length:=by rw [ZaA,hn]
   generalize us.set i [.int .i64 (kk),.string (txt (kk+1)),.int .i64 (kk+1+1),u3,.int .i64 (kk+1+1+1+(cntRows r3:Int)),.string (txt (kk+1+1+1+(cntRows r3:Int)+1)),.int .i64 (kk+1+1+1+(cntRows r3:Int)+1+1),u7]=us2 at e1 e2 hn2 ⊢;rw [<- e1,<- e2];have F:=aj10 @wi @e5 @hl @w0 @w1 @w2 @w4 @w5 @w6 @hn;refine gG ?_;exact ⟨(i+1,us2,E4,E6),⟨hlt,hn2⟩,gw,gw,om⟩
  ·obtain rfl:i=rows.length:=by omega
   have q1:=lF rows.length rows.length;rw [Tao,List.take_of_length_le (Nat.le_of_eq hn)];refine fG (aj3 @q1 @hl @hn) ?_;obtain ⟨E6,hre⟩:∃ E6,Za5 [.buf (some (a,cap)) ety 8 (us.map Zae),.set E3 (fun w=>Zag w (Zan k rows) E3 us)] [.set E6 (fun w=>Own w (.sl (Zan k rows)) E6 (.slice a uss.length cap))]:=by
    rw [hl,<- hn];exact ⟨_,ZbE (fun w h=>h) (Own.stable _ _ _)⟩
   refine pE [1000,1002] [1000] hre ?_;have F:=hk;exact gTP (R:=fun r pm=>∃ E',r=[.one (.lit (.int .i64 (k+(cntRows rows:Nat))))]∧pm=[.set E' (fun w=>Own w (.sl (Zan k rows)) E' (.slice a uss.length cap))]) [1000] ⟨E6,rfl,rfl⟩
theorem ZfA {rows:List (List C)} (hok:Zah (Zab .binding) rows):ZcV 44 rows:=Zfz hok
theorem ZkD (u0:Value):Zae [u0]=[.lit u0]:=rfl
theorem Zoh {rows:List (List C)} (hok:Zah (Zab .int) rows):ZcV 43 rows:=by
 intro k E v hk hb;refine gIP (ts:=[.slot 4]) [1000] 563 Try.func43 ?_;refine fG @e0P ?_;by_cases hne:rows=[]
 ·subst hne;refine pEx [1000] [1000] Zga ?_;rintro ⟨a,cap⟩ rfl;have F:=@hk;refine gL (ι:=Unit) [1,5,9] [] (fun x=>[(5,.d (.one (.lit (.int .i64 0)))),(1,.d (.one (.lit (.int .i64 k))))]) (fun x=>[]) (fun x=>True) (fun x=>0) (()) (trivial) (fun x hx=>?_);clear F;have q1:((0:Int) < 0)=False:=eq_false (by decide);have q2:((0:Int) < ((0:Nat):Int))=False:=eq_false (by decide);refine fG (ai @q1 @q2) ?_;have F:=hk
  refine gTP (R:=fun r pm=>∃ E',r=[.one (.lit (.int .i64 (k+(cntRows []:Nat))))]∧pm=[.set E' (fun w=>Own w (.sl (Zan k [])) E' (.slice a 0 cap))]) [1000] ⟨E,by simp only [cntRows,Int.natCast_zero,Int.add_zero];rfl,by simp only [Zan];rfl⟩
 ·have hrl:rowsLen 1 rows:=Zah.rowsLen hok;refine pEx [1000] [1000,1001] (ZeY hne hrl) ?_;rintro ⟨a,cap,ety,uss,E1⟩ ⟨rfl,hl,hmx⟩;simp only at hl ⊢;unfold maxLen at hmx;refine pE [] [1002] Zb1 ?_;have F:=aj4 @ZcF @ZdS @Int.add_zero @Int.natCast_zero;refine gL (ι:=Nat × List (List Value) × (Nat->Prop) × (Nat->Prop)) [1,5,9] [1000,1001,1002] (fun x=>[(5,.d (.one (.lit (.int .i64 (x.1:Int))))),(1,.d (.one (.lit (.int .i64 (k+(cntRows (rows.take x.1):Nat))))))]) (fun x=>[(1000,.buf (some (a,cap)) ety 1 (x.2.1.map Zae)),(1001,.set x.2.2.1 (fun w=>Zag w (rows.drop x.1) x.2.2.1 (x.2.1.drop x.1))),(1002,.set x.2.2.2 (fun w=>Zag w (Zan k (rows.take x.1)) x.2.2.2 (x.2.1.take x.1)))]) (fun x=>x.1<=rows.length∧x.2.1.length=rows.length) (fun x=>rows.length - x.1) ((0,uss,E1,fun _=>False)) (⟨Tai _,hl⟩) (fun x hx=>?_);clear F
  obtain ⟨i,us,E2,E3⟩:=x;obtain ⟨hi,hn⟩:=hx;simp only at hi hn;dsimp only;by_cases hlt:i < rows.length
  ·obtain ⟨r,hr⟩:∃ r,rows[i]?=some r:=⟨_,Taa hlt⟩;obtain ⟨u,hu⟩:∃ u,us[i]?=some u:=⟨_,Taa om⟩;obtain ⟨i0,rfl,_⟩:=ZeC (hok.get hr);have hc1:cntRows (rows.take (i+1))=cntRows (rows.take i)+1:=by
    rw [Zb2 hr,ZcN];simp only [ZbP,cntC]
   have hc2:=Zb3 rows (i+1);rw [Zcc hr,Zcc hu];refine pEx [1001] [1001] (ZeZ rfl) ?_;rintro ⟨⟩ hlit;obtain rfl:u=[.int .i64 i0]:=by
    match u,hlit with
    | [_],⟨rfl,_⟩=>rfl
   refine pEx (f:=fun (x:(Nat->Prop) × (Nat->Nat->Prop))=>[.set x.1 (fun w=>Zag w (rows.drop (i+1)) x.1 (us.drop (i+1)))]) [1001] [1001] (Zgb rfl) ?_;rintro ⟨E4,Es⟩ -;dsimp only;generalize hkk:k+(cntRows (rows.take i):Int)=kk;have q1:=lT i rows.length;have q2:i < rows.length:=hlt;have w1:IntKind.i64.wrap (kk+1)=kk+1:=IntWalk.i64_in _ om;have w4:IntKind.i64.wrap ((i:Int)+1)=(i:Int)+1:=IntWalk.i64_in _ om
   refine fN 3 (aj9 @q1 @hl @hn @hu @ZkD @Zap @ZaA @w1 @q2) ?_;obtain ⟨E6,hre⟩:∃ E6,Za5 [.set E3 (fun w=>Zag w (Zan k (rows.take i)) E3 (us.take i))] [.set E6 (fun w=>Zag w (Zan k (rows.take (i+1))) E6 ((us.set i [.int .i64 kk]).take (i+1)))]:=by
    have hz:=Zgc (E:=E3) (done:=Zan k (rows.take i)) (ud:=us.take i) (cs:=[.lit (.int .i64 kk)]) (us:=[.int .i64 kk]) (Es:=fun _ _=>False) rfl ⟨rfl,trivial⟩;rw [Zb2 hr,Zcm,hkk,Zeb om];simp only [ZbW,mkC,mkV];exact ⟨_,hz⟩
   refine pE [1002] [1002] hre ?_;have e1:((us.set i [.int .i64 kk]).map Zae)=(us.map Zae).set i [.lit (.int .i64 kk)]:=by rw [List.map_set,ZkD]
   have e2:=Zec us i [.int .i64 kk];have e5:k+(cntRows (rows.take (i+1)):Int)=kk+1:=by rw [hc1];omega
   have hn2:(us.set i [.int .i64 kk]).length=rows.length:=by rw [ZaA,hn]
   generalize us.set i [.int .i64 kk]=us2 at e1 e2 hn2 ⊢;rw [<- e1,<- e2];have F:=aj3 @w4 @e5 @hl;refine gG ?_;exact ⟨(i+1,us2,E4,E6),⟨hlt,hn2⟩,gw,gw,om⟩
  ·obtain rfl:i=rows.length:=by omega
   have q1:=lF rows.length rows.length;rw [Tao,List.take_of_length_le (Nat.le_of_eq hn)];refine fG (aj3 @q1 @hl @hn) ?_;obtain ⟨E6,hre⟩:∃ E6,Za5 [.buf (some (a,cap)) ety 1 (us.map Zae),.set E3 (fun w=>Zag w (Zan k rows) E3 us)] [.set E6 (fun w=>Own w (.sl (Zan k rows)) E6 (.slice a uss.length cap))]:=by
    rw [hl,<- hn];exact ⟨_,ZbE (fun w h=>h) (Own.stable _ _ _)⟩
   refine pE [1000,1002] [1000] hre ?_;have F:=hk;exact gTP (R:=fun r pm=>∃ E',r=[.one (.lit (.int .i64 (k+(cntRows rows:Nat))))]∧pm=[.set E' (fun w=>Own w (.sl (Zan k rows)) E' (.slice a uss.length cap))]) [1000] ⟨E6,rfl,rfl⟩
theorem ZiE {rows:List (List C)} (hok:Zah (Zab .int) rows):ZcV 43 rows:=Zoh hok
theorem Zhp {rows:List (List C)} (hok:Zah (Zab .step) rows):ZcV 18 rows:=by
 intro k E v hk hb;refine gIP (ts:=[.slot 4]) [1000] 563 Try.func18 ?_;refine fG @e0P ?_;by_cases hne:rows=[]
 ·subst hne;refine pEx [1000] [1000] Zga ?_;rintro ⟨a,cap⟩ rfl;have F:=@hk;refine gL (ι:=Unit) [1,5,9] [] (fun x=>[(5,.d (.one (.lit (.int .i64 0)))),(1,.d (.one (.lit (.int .i64 k))))]) (fun x=>[]) (fun x=>True) (fun x=>0) (()) (trivial) (fun x hx=>?_);clear F;have q1:((0:Int) < 0)=False:=eq_false (by decide);have q2:((0:Int) < ((0:Nat):Int))=False:=eq_false (by decide);refine fG (ai @q1 @q2) ?_;have F:=hk
  refine gTP (R:=fun r pm=>∃ E',r=[.one (.lit (.int .i64 (k+(cntRows []:Nat))))]∧pm=[.set E' (fun w=>Own w (.sl (Zan k [])) E' (.slice a 0 cap))]) [1000] ⟨E,by simp only [cntRows,Int.natCast_zero,Int.add_zero];rfl,by simp only [Zan];rfl⟩
 ·have hrl:rowsLen 9 rows:=Zah.rowsLen hok;refine pEx [1000] [1000,1001] (ZeY hne hrl) ?_;rintro ⟨a,cap,ety,uss,E1⟩ ⟨rfl,hl,hmx⟩;simp only at hl ⊢;unfold maxLen at hmx;refine pE [] [1002] Zb1 ?_;have F:=aj4 @ZcF @ZdS @Int.add_zero @Int.natCast_zero;refine gL (ι:=Nat × List (List Value) × (Nat->Prop) × (Nat->Prop)) [1,5,9] [1000,1001,1002] (fun x=>[(5,.d (.one (.lit (.int .i64 (x.1:Int))))),(1,.d (.one (.lit (.int .i64 (k+(cntRows (rows.take x.1):Nat))))))]) (fun x=>[(1000,.buf (some (a,cap)) ety 9 (x.2.1.map Zae)),(1001,.set x.2.2.1 (fun w=>Zag w (rows.drop x.1) x.2.2.1 (x.2.1.drop x.1))),(1002,.set x.2.2.2 (fun w=>Zag w (Zan k (rows.take x.1)) x.2.2.2 (x.2.1.take x.1)))]) (fun x=>x.1<=rows.length∧x.2.1.length=rows.length) (fun x=>rows.length - x.1) ((0,uss,E1,fun _=>False)) (⟨Tai _,hl⟩) (fun x hx=>?_);clear F
  obtain ⟨i,us,E2,E3⟩:=x;obtain ⟨hi,hn⟩:=hx;simp only at hi hn;dsimp only;by_cases hlt:i < rows.length
  ·obtain ⟨r,hr⟩:∃ r,rows[i]?=some r:=⟨_,Taa hlt⟩;obtain ⟨u,hu⟩:∃ u,us[i]?=some u:=⟨_,Taa om⟩;obtain ⟨i0,r1,r2,r3,r4,i5,t6,i7,r8,rfl,g0,g1,g2,g3,g4,g5,g6,g7,g8⟩:=ZcC (hok.get hr);have hm1:=ZiE g1;have hm2:=Zby g2;have hm3:=Zby g3;have hm4:=ZfA g4;have hm8:=Zby g8;have hc1:cntRows (rows.take (i+1))=cntRows (rows.take i)+(4+cntRows r1+cntRows r2+cntRows r3+cntRows r4+cntRows r8):=by
    rw [Zb2 hr,ZcN];simp only [ZbP,cntC];try omega
   have hc2:=Zb3 rows (i+1);rw [Zcc hr,Zcc hu];refine pEx [1001] [1001] (ZeZ rfl) ?_;rintro ⟨⟩ hlit;obtain ⟨u1,u2,u3,u4,u8,rfl⟩:∃ u1 u2 u3 u4 u8,u=[.int .i64 i0,u1,u2,u3,u4,.int .i64 i5,.string t6,.int .i64 i7,u8]:=by
    match u,hlit with
    | [_,u1,u2,u3,u4,_,_,_,u8],⟨rfl,rfl,rfl,rfl,_⟩=>exact ⟨u1,u2,u3,u4,u8,rfl⟩
   refine pEx (f:=fun (x:(Nat->Prop) × (Nat->Nat->Prop))=>[.set x.1 (fun w=>Zag w (rows.drop (i+1)) x.1 (us.drop (i+1))),.set (x.2 0) (fun w=>Own w (.sl r1) (x.2 0) u1),.set (x.2 1) (fun w=>Own w (.sl r2) (x.2 1) u2),.set (x.2 2) (fun w=>Own w (.sl r3) (x.2 2) u3),.set (x.2 3) (fun w=>Own w (.sl r4) (x.2 3) u4),.set (x.2 4) (fun w=>Own w (.sl r8) (x.2 4) u8)]) [1001] [1001,1003,1004,1005,1006,1007] (Zgb rfl) ?_
   rintro ⟨E4,Es⟩ -;dsimp only;have hkk0:0<=k+(cntRows (rows.take i):Int):=om;have hkk1:k+(cntRows (rows.take i):Int)+((4+cntRows r1+cntRows r2+cntRows r3+cntRows r4+cntRows r8:Nat):Int)<=1000000000:=om;generalize hkk:k+(cntRows (rows.take i):Int)=kk at hkk0 hkk1 ⊢;have q1:=lT i rows.length;have q2:i < rows.length:=hlt;have hs:∀ X:List C,((us.map Zae).set i X)[i]?=some X:=fun X=>Zgy (by rw [Zap,hn];omega) X
   have lr:Zae [.int .i64 i0,u1,u2,u3,u4,.int .i64 i5,.string t6,.int .i64 i7,u8]=[.lit (.int .i64 i0),.lit (u1),.lit (u2),.lit (u3),.lit (u4),.lit (.int .i64 i5),.lit (.string t6),.lit (.int .i64 i7),.lit (u8)]:=rfl;have w0:IntKind.i64.wrap (kk+1)=kk+1:=IntWalk.i64_in _ om;have w5:IntKind.i64.wrap (kk+1+(cntRows r1:Int)+(cntRows r2:Int)+(cntRows r3:Int)+(cntRows r4:Int)+1)=kk+1+(cntRows r1:Int)+(cntRows r2:Int)+(cntRows r3:Int)+(cntRows r4:Int)+1:=IntWalk.i64_in _ om
   have w6:IntKind.i64.wrap (kk+1+(cntRows r1:Int)+(cntRows r2:Int)+(cntRows r3:Int)+(cntRows r4:Int)+1+1)=kk+1+(cntRows r1:Int)+(cntRows r2:Int)+(cntRows r3:Int)+(cntRows r4:Int)+1+1:=IntWalk.i64_in _ om;have w7:IntKind.i64.wrap (kk+1+(cntRows r1:Int)+(cntRows r2:Int)+(cntRows r3:Int)+(cntRows r4:Int)+1+1+1)=kk+1+(cntRows r1:Int)+(cntRows r2:Int)+(cntRows r3:Int)+(cntRows r4:Int)+1+1+1:=IntWalk.i64_in _ om
   have wi:IntKind.i64.wrap ((i:Int)+1)=(i:Int)+1:=IntWalk.i64_in _ om;refine fB (aj14 @q1 @hl @hn @hu @lr @Zap @ZaA @hs @w0 @w5 @w6 @w7 @q2 @ZaB) ?_;have F:=aj14 @q1 @hl @hn @hu @lr @Zap @ZaA @hs @w0 @w5 @w6 @w7 @q2 @ZaB;refine gCP [1003] [1003] (hm1 (kk+1) (Es 0) u1 om om) ?_;clear F;rintro r pm ⟨F1,rfl,rfl⟩;simp only [setA,retA,zipM,Tae,Tag];refine fR (aj14 @q1 @hl @hn @hu @lr @Zap @ZaA @hs @w0 @w5 @w6 @w7 @q2 @ZaB) ?_
   refine fB (aj14 @q1 @hl @hn @hu @lr @Zap @ZaA @hs @w0 @w5 @w6 @w7 @q2 @ZaB) ?_;have F:=aj14 @q1 @hl @hn @hu @lr @Zap @ZaA @hs @w0 @w5 @w6 @w7 @q2 @ZaB;refine gCP [1004] [1004] (hm2 (kk+1+(cntRows r1:Int)) (Es 1) u2 om om) ?_;clear F;rintro r pm ⟨F2,rfl,rfl⟩;simp only [setA,retA,zipM,Tae,Tag];refine fR (aj14 @q1 @hl @hn @hu @lr @Zap @ZaA @hs @w0 @w5 @w6 @w7 @q2 @ZaB) ?_;refine fB (aj14 @q1 @hl @hn @hu @lr @Zap @ZaA @hs @w0 @w5 @w6 @w7 @q2 @ZaB) ?_
   have F:=aj14 @q1 @hl @hn @hu @lr @Zap @ZaA @hs @w0 @w5 @w6 @w7 @q2 @ZaB;refine gCP [1005] [1005] (hm3 (kk+1+(cntRows r1:Int)+(cntRows r2:Int)) (Es 2) u3 om om) ?_;clear F;rintro r pm ⟨F3,rfl,rfl⟩;simp only [setA,retA,zipM,Tae,Tag];refine fR (aj14 @q1 @hl @hn @hu @lr @Zap @ZaA @hs @w0 @w5 @w6 @w7 @q2 @ZaB) ?_;refine fB (aj14 @q1 @hl @hn @hu @lr @Zap @ZaA @hs @w0 @w5 @w6 @w7 @q2 @ZaB) ?_;have F:=aj14 @q1 @hl @hn @hu @lr @Zap @ZaA @hs @w0 @w5 @w6 @w7 @q2 @ZaB;refine gCP [1006] [1006] (hm4 (kk+1+(cntRows r1:Int)+(cntRows r2:Int)+(cntRows r3:Int)) (Es 3) u4 om om) ?_;clear F
   rintro r pm ⟨F4,rfl,rfl⟩;simp only [setA,retA,zipM,Tae,Tag];refine fR (aj14 @q1 @hl @hn @hu @lr @Zap @ZaA @hs @w0 @w5 @w6 @w7 @q2 @ZaB) ?_;refine fB (aj14 @q1 @hl @hn @hu @lr @Zap @ZaA @hs @w0 @w5 @w6 @w7 @q2 @ZaB) ?_;refine fC (aj14 @q1 @hl @hn @hu @lr @Zap @ZaA @hs @w0 @w5 @w6 @w7 @q2 @ZaB) (Zcb (kk+1+(cntRows r1:Int)+(cntRows r2:Int)+(cntRows r3:Int)+(cntRows r4:Int)+1) om om) ?_;refine fR (aj14 @q1 @hl @hn @hu @lr @Zap @ZaA @hs @w0 @w5 @w6 @w7 @q2 @ZaB) ?_
   refine fB (aj14 @q1 @hl @hn @hu @lr @Zap @ZaA @hs @w0 @w5 @w6 @w7 @q2 @ZaB) ?_;have F:=aj14 @q1 @hl @hn @hu @lr @Zap @ZaA @hs @w0 @w5 @w6 @w7 @q2 @ZaB;refine gCP [1007] [1007] (hm8 (kk+1+(cntRows r1:Int)+(cntRows r2:Int)+(cntRows r3:Int)+(cntRows r4:Int)+1+1+1) (Es 4) u8 om om) ?_;clear F;rintro r pm ⟨F8,rfl,rfl⟩;simp only [setA,retA,zipM,Tae,Tag];refine fR (aj14 @q1 @hl @hn @hu @lr @Zap @ZaA @hs @w0 @w5 @w6 @w7 @q2 @ZaB) ?_
   obtain ⟨E6,hre⟩:∃ E6,Za5 [.set E3 (fun w=>Zag w (Zan k (rows.take i)) E3 (us.take i)),.set F1 (fun w=>Own w (.sl (Zan (kk+1) r1)) F1 u1),.set F2 (fun w=>Own w (.sl (Zan (kk+1+(cntRows r1:Int)) r2)) F2 u2),.set F3 (fun w=>Own w (.sl (Zan (kk+1+(cntRows r1:Int)+(cntRows r2:Int)) r3)) F3 u3),.set F4 (fun w=>Own w (.sl (Zan (kk+1+(cntRows r1:Int)+(cntRows r2:Int)+(cntRows r3:Int)) r4)) F4 u4),.set F8 (fun w=>Own w (.sl (Zan (kk+1+(cntRows r1:Int)+(cntRows r2:Int)+(cntRows r3:Int)+(cntRows r4:Int)+1+1+1) r8)) F8 u8)] [.set E6 (fun w=>Zag w (Zan k (rows.take (i+1))) E6 ((us.set i [.int .i64 (kk),u1,u2,u3,u4,.int .i64 (kk+1+(cntRows r1:Int)+(cntRows r2:Int)+(cntRows r3:Int)+(cntRows r4:Int)),.string (txt (kk+1+(cntRows r1:Int)+(cntRows r2:Int)+(cntRows r3:Int)+(cntRows r4:Int)+1)),.int .i64 (kk+1+(cntRows r1:Int)+(cntRows r2:Int)+(cntRows r3:Int)+(cntRows r4:Int)+1+1),u8]).take (i+1)))]:=by
    have hz:=Zgc (E:=E3) (done:=Zan k (rows.take i)) (ud:=us.take i) (cs:=[.lit (.int .i64 (kk)),.sl (Zan (kk+1) r1),.sl (Zan (kk+1+(cntRows r1:Int)) r2),.sl (Zan (kk+1+(cntRows r1:Int)+(cntRows r2:Int)) r3),.sl (Zan (kk+1+(cntRows r1:Int)+(cntRows r2:Int)+(cntRows r3:Int)) r4),.lit (.int .i64 (kk+1+(cntRows r1:Int)+(cntRows r2:Int)+(cntRows r3:Int)+(cntRows r4:Int))),.lit (.string (txt (kk+1+(cntRows r1:Int)+(cntRows r2:Int)+(cntRows r3:Int)+(cntRows r4:Int)+1))),.lit (.int .i64 (kk+1+(cntRows r1:Int)+(cntRows r2:Int)+(cntRows r3:Int)+(cntRows r4:Int)+1+1)),.sl (Zan (kk+1+(cntRows r1:Int)+(cntRows r2:Int)+(cntRows r3:Int)+(cntRows r4:Int)+1+1+1) r8)]) (us:=[.int .i64 (kk),u1,u2,u3,u4,.int .i64 (kk+1+(cntRows r1:Int)+(cntRows r2:Int)+(cntRows r3:Int)+(cntRows r4:Int)),.string (txt (kk+1+(cntRows r1:Int)+(cntRows r2:Int)+(cntRows r3:Int)+(cntRows r4:Int)+1)),.int .i64 (kk+1+(cntRows r1:Int)+(cntRows r2:Int)+(cntRows r3:Int)+(cntRows r4:Int)+1+1),u8]) (Es:=fun k=>match k with | 0=>F1 | 1=>F2 | 2=>F3 | 3=>F4 | _=>F8) rfl ⟨rfl,rfl,rfl,rfl,trivial⟩
    rw [Zb2 hr,Zcm,hkk,Zeb om];simp only [ZbW,mkC,mkV,cntC,Int.natCast_one];exact ⟨_,hz⟩
   refine pE [1002,1003,1004,1005,1006,1007] [1002] hre ?_;have e1:((us.set i [.int .i64 (kk),u1,u2,u3,u4,.int .i64 (kk+1+(cntRows r1:Int)+(cntRows r2:Int)+(cntRows r3:Int)+(cntRows r4:Int)),.string (txt (kk+1+(cntRows r1:Int)+(cntRows r2:Int)+(cntRows r3:Int)+(cntRows r4:Int)+1)),.int .i64 (kk+1+(cntRows r1:Int)+(cntRows r2:Int)+(cntRows r3:Int)+(cntRows r4:Int)+1+1),u8]).map Zae)=(us.map Zae).set i [.lit (.int .i64 (kk)),.lit (u1),.lit (u2),.lit (u3),.lit (u4),.lit (.int .i64 (kk+1+(cntRows r1:Int)+(cntRows r2:Int)+(cntRows r3:Int)+(cntRows r4:Int))),.lit (.string (txt (kk+1+(cntRows r1:Int)+(cntRows r2:Int)+(cntRows r3:Int)+(cntRows r4:Int)+1))),.lit (.int .i64 (kk+1+(cntRows r1:Int)+(cntRows r2:Int)+(cntRows r3:Int)+(cntRows r4:Int)+1+1)),.lit (u8)]:=by rw [List.map_set];rfl
   have e2:=Zec us i [.int .i64 (kk),u1,u2,u3,u4,.int .i64 (kk+1+(cntRows r1:Int)+(cntRows r2:Int)+(cntRows r3:Int)+(cntRows r4:Int)),.string (txt (kk+1+(cntRows r1:Int)+(cntRows r2:Int)+(cntRows r3:Int)+(cntRows r4:Int)+1)),.int .i64 (kk+1+(cntRows r1:Int)+(cntRows r2:Int)+(cntRows r3:Int)+(cntRows r4:Int)+1+1),u8];have e5:k+(cntRows (rows.take (i+1)):Int)=kk+1+(cntRows r1:Int)+(cntRows r2:Int)+(cntRows r3:Int)+(cntRows r4:Int)+1+1+1+(cntRows r8:Int):=by rw [hc1];omega
   have hn2:(us.set i [.int .i64 (kk),u1,u2,u3,u4,.int .i64 (kk+1+(cntRows r1:Int)+(cntRows r2:Int)+(cntRows r3:Int)+(cntRows r4:Int)),.string (txt (kk+1+(cntRows r1:Int)+(cntRows r2:Int)+(cntRows r3:Int)+(cntRows r4:Int)+1)),.int .i64 (kk+1+(cntRows r1:Int)+(cntRows r2:Int)+(cntRows r3:Int)+(cntRows r4:Int)+1+1),u8]).length=rows.length:=by rw [ZaA,hn]
   generalize us.set i [.int .i64 (kk),u1,u2,u3,u4,.int .i64 (kk+1+(cntRows r1:Int)+(cntRows r2:Int)+(cntRows r3:Int)+(cntRows r4:Int)),.string (txt (kk+1+(cntRows r1:Int)+(cntRows r2:Int)+(cntRows r3:Int)+(cntRows r4:Int)+1)),.int .i64 (kk+1+(cntRows r1:Int)+(cntRows r2:Int)+(cntRows r3:Int)+(cntRows r4:Int)+1+1),u8]=us2 at e1 e2 hn2 ⊢;rw [<- e1,<- e2];have F:=aj8 @wi @e5 @hl @w0 @w5 @w6 @w7 @hn;refine gG ?_;exact ⟨(i+1,us2,E4,E6),⟨hlt,hn2⟩,gw,gw,om⟩
  ·obtain rfl:i=rows.length:=by omega
   have q1:=lF rows.length rows.length;rw [Tao,List.take_of_length_le (Nat.le_of_eq hn)];refine fG (aj3 @q1 @hl @hn) ?_;obtain ⟨E6,hre⟩:∃ E6,Za5 [.buf (some (a,cap)) ety 9 (us.map Zae),.set E3 (fun w=>Zag w (Zan k rows) E3 us)] [.set E6 (fun w=>Own w (.sl (Zan k rows)) E6 (.slice a uss.length cap))]:=by
    rw [hl,<- hn];exact ⟨_,ZbE (fun w h=>h) (Own.stable _ _ _)⟩
   refine pE [1000,1002] [1000] hre ?_;have F:=hk;exact gTP (R:=fun r pm=>∃ E',r=[.one (.lit (.int .i64 (k+(cntRows rows:Nat))))]∧pm=[.set E' (fun w=>Own w (.sl (Zan k rows)) E' (.slice a uss.length cap))]) [1000] ⟨E6,rfl,rfl⟩
theorem Zhq {rows:List (List C)} (hok:Zah (Zab .step) rows):ZcV 18 rows:=Zhp hok
end Go.Proofs.Ytjoaefnnnbpflaa
