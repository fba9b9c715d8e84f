/-
  Part of a proof.
-/
import Derived.Test.YtcgacanpeaiabaaGreatDoorBCheckChainCard0
import Derived.Test.YtcgacanpeaiabaaGreatDoorChecked
import Derived.Test.YtcgacanpeaiabaaGreatDoorRows
import Derived.Lib.LaidTab
import Derived.HandedShaped
import Derived.LaidMore
import Derived.LaidLaws
import Derived.ProofKit
import Derived.Stop.Joined
import Derived.Stop.LaidErr
import Derived.Lib.Bytealg
import Derived.Deep.RegionHeld3
import Derived.Deep.QuietTactic
import Derived.BigQuiet
set_option linter.unusedSimpArgs false
set_option linter.unusedVariables false
set_option maxHeartbeats 400000000
set_option maxRecDepth 100000
namespace Go.Proofs.YtcgacanpeaiabaaGreatDoor
open Go.RowKit
section
variable {e:Env} {U:Nat->Prop} {w0:World} {S0:Nat->Prop} {nt:Nat}
theorem SimE.drew {σ:St} {a:Act} {w:World} (he:e.Ok) (h:SimE e U w0 S0 nt σ a w):SimE e U w0 S0 nt σ a { w with drawn:=w.drawn+1 }:=by
 obtain ⟨S,L,h⟩:=h;have hk:Kept e.D e.E w.heap.size w { w with drawn:=w.drawn+1 }:=⟨rfl,rfl,rfl,fun _=>Nat.le_succ _,Tai _,fun _ _ _=>rfl⟩;exact ⟨S,L,h.later (h.cls.later hk (he.keep w _ (Tai _) (fun _ _=>rfl) h.cls.g) (fun _ h=>h) (fun _ h=>.inl h)) hk (fun _ h=>h)⟩
theorem Zle (he:e.Ok) {id:Nat} {ops:Array Oper} {n:Nat} (hB:regB ops n=true) (hna:∀ o,(ops.toList.take n).getLast?=some o->isAl o=false) {K:St->Prop} {Q:Exit->Act->World->Prop} (hQ:∀ a w σ',K σ'->SimE e U w0 S0 nt σ' a w->Q .normal a w) {σ:St} {a:Act} {w:World}
  (hd:∀ o∈ops.toList,∀ d,o.dst=some d->d < nt) (h:SimE e U w0 S0 nt σ a w) (hp:Runs e (ops.toList.map (·.dst)) n ops.toList σ K):(Code.region id ops true).wp e.P Q a w:=by
 simp only [regB,Tar,Bool.or_eq_true,decide_eq_true_eq] at hB;obtain ⟨⟨⟨hH,hn⟩,hs⟩,hsq⟩:=hB;obtain ⟨S,L,h1⟩:=h.drew he;refine wp_region_any he.mixed ?_;have hsplit:ops.toList=ops.toList.take n++ops.toList.drop n:=(Tbm n _).symm;have hlen:(ops.toList.take n).length=n:=by simp;omega
 have hp':Runs e (ops.toList.map (·.dst)) ((ops.toList.take n).length+0) (ops.toList.take n++ops.toList.drop n) σ K:=by rw [<- hsplit,hlen];exact hp
 obtain ⟨αs,hal,hch,hrest⟩:=ZeQ (U:=U) he w0.heap.size S0 ops.toList (ops.toList.drop n) 0 (ops.toList.take n) σ (fun _=>hna) hp';rw [hlen] at hal
 have inv0:InvA e U w0 S0 nt σ.m ops n σ.s αs L (Array.replicate ops.size false) a { w with drawn:=w.drawn+1 } S :=
  ⟨⟨by simp,fun j oj _ hl=>(by rw [getD_replicate_false] at hl;cases hl),fun t _ ht=>getD_in (by simpa using ht) (getD_replicate_false _ _)⟩,h1.size,h1.defers,h1.cls,h1.kept,fun t _=>h1.rel t,fun i o d α _ hl=>(by rw [getD_replicate_false] at hl;cases hl)⟩
 have H:=ZdT (e:=e) (L:=L) (Q:=Q) he hH hn (fun hlt=>by
   rcases hs with hs | hs
   ·omega
   ·exact hs) hsq (fun i o d hi ho hdd=>hd o (List.mem_iff_getElem?.2 ⟨i,by simpa using ho⟩) d hdd) hal hch (Zh2 hH Q) (fun _ _ _ _ _ _ _ _ _ _ _ _ _ _=>trivial) (fun listed a' w' S' hI _ hall=>?_) n _ a _ S inv0 trivial ?_
 ·rw [show n+(ops.size - n)=ops.size by omega] at H;exact H
 ·have hsim:SimE e U w0 S0 nt ⟨after σ.s (ops.toList.take n) αs,σ.m⟩ a' w':=by
   refine ⟨S',L,hI.cls,fun t=>?_,hI.size,hI.defers,hI.kept⟩;by_cases hex:∃ (j:Nat) (p:Oper),j < n∧ops[j]?=some p∧p.dst=some t
   ·obtain ⟨j,p,hj,hp,hpt⟩:=hex;obtain ⟨p',d',hP⟩:=ZcR.get hH hj;have hpp:p'=p:=by have:=hP.op;rw [hp] at this;injection this with this;exact this.symm
    subst hpp;have hdt:d'=t:=by have:=hP.dst;rw [hpt] at this;injection this with this;exact this.symm
    subst hdt;obtain ⟨α,hα⟩:∃ α,αs[j]?=some α:=⟨αs[j],Taa om⟩;show ARel w' S' L (gs (after σ.s (ops.toList.take n) αs) d') _;rw [Zeo (ops.toList.take n) αs σ.s j p' α (by rw [List.getElem?_take,if_pos hj];simpa using hp) hα hpt (fun k q hk hq=>by
     rw [List.getElem?_take] at hq;split at hq
     ·exact (hP.dep k q om (by simpa using hq)).1 hk
     ·cases hq)]
    exact hI.done j p' d' α hj (hall j hj) hp hpt hα
   ·have hno:∀ (j:Nat) (p:Oper),j < n->ops[j]?=some p->p.dst≠some t:=fun j p hj hp hd=>hex ⟨j,p,hj,hp,hd⟩;show ARel w' S' L (gs (after σ.s (ops.toList.take n) αs) t) _;rw [Zdx _ _ _ (fun p hp=>by
     obtain ⟨j,hj⟩:=List.mem_iff_getElem?.1 hp;rw [List.getElem?_take] at hj;split at hj
     ·exact hno j p om (by simpa using hj)
     ·cases hj)]
    exact hI.out t hno
  have:=Zn6 he ops.toList hQ (ops.toList.drop n) _ a' w' (fun o ho=>hd o (List.mem_of_mem_drop ho)) hsim hrest;simpa using this
 ·rw [List.countP_eq_length.2]
  ·simp
  ·intro i hi;have hi':=List.mem_range.1 hi;have hsz:i < (Array.replicate ops.size false).size:=by simp;omega
   rw [ZbP hsz,getD_replicate_false];rfl
theorem ZiQ (mask t:Nat):∀ (s:List (Nat × A)),gs (ZdY mask s) t=gs s t∨gs (ZdY mask s) t=.undef
 | []=>.inl rfl
 | (k,a)::r=>by
  have key:∀ (s:List (Nat × A)),mask.testBit t=false->gs (ZdY mask s) t=.undef:=by
   intro s ht
   induction s with
   | nil=>rfl
   | cons p s ih =>
    obtain ⟨k,a⟩:=p;simp only [ZdY];split
    ·rename_i hk;have:t≠k:=fun e=>by rw [e,hk] at ht;cases ht
     simp only [gs,this,if_false];exact ih
    ·exact ih
  cases ht:mask.testBit t with
  | false=>exact .inr (key _ ht)
  | true =>
   left;have key2:∀ (s:List (Nat × A)),gs (ZdY mask s) t=gs s t:=by
    intro s
    induction s with
    | nil=>rfl
    | cons p s ih =>
     obtain ⟨k,a⟩:=p;simp only [ZdY];split
     ·simp only [gs,ih]
     ·rename_i hk;have:t≠k:=fun e=>hk (by rw [<- e];exact ht);simp only [gs,this,if_false];exact ih
   exact key2 _
theorem ZiR {s:List (Nat × A)} {t:Nat}:∀ {r:List (Nat × A)},Zc4 s r->gs r t=gs s t∨gs r t=.undef
 | [],_=>.inr rfl
 | (k,a)::r,h=>by
  simp only [Zc4] at h;simp only [gs];split
  ·rename_i e;rw [e];exact .inl h.1.symm
  ·exact ZiR h.2
theorem ZiS {m:List (Nat × Bk)} {t:Nat}:∀ {r:List (Nat × Bk)} {cs:Bk},Zc5 m r->gm r t=some cs->gm m t=some cs
 | [],_,_,h=>by simp [gm] at h
 | (k,a)::r,cs,h,hg=>by
  simp only [Zc5] at h;simp only [gm] at hg;split at hg
  ·rename_i e;rw [e,h.1];exact hg
  ·exact ZiS h.2 hg
theorem SimE.weak {σ σ':St} {a:Act} {w:World} (h:SimE e U w0 S0 nt σ a w) (hs:∀ t,gs σ'.s t=gs σ.s t∨gs σ'.s t=.undef) (hm:∀ t cs,gm σ'.m t=some cs->gm σ.m t=some cs):SimE e U w0 S0 nt σ' a w:=by
 obtain ⟨S,L,h⟩:=h;refine ⟨S,L,⟨h.cls.sin,h.cls.sfr,h.cls.ein,h.cls.uin,h.cls.bsz,fun k x g hk=>h.cls.mine k x g (hm k x hk),fun k x hk=>h.cls.own k x (hm k x hk),fun k k' x x' g h1 h2=>h.cls.inj k k' x x' g (hm _ _ h1) (hm _ _ h2),h.cls.g⟩,fun t=>?_,h.size,h.defers,h.kept⟩;rcases hs t with h1 | h1
 ·rw [h1];exact h.rel t
 ·rw [h1];trivial
theorem ZsN {m:List (Nat × Bk)} {base:Nat} {ρ:Operand->A} {o:Oper} {t:TypeId} {v:Value} {i:TypeInfo} (he:e.Ok) (ho:o.op=.alloc t) (hi:e.P.info? t=some i) (hv:i.zero=some v):Zbq e U base S0 m o ρ .undef:=by
 intro w S L ρv hC hr;have hb:Below w.heap.size w (w.alloc (.cells v.cells t)):=Zfw w _;unfold gives;have hrun:(execOp ρv o).run e.P w=.ok (.value (.pointer (some ⟨w.heap.size,0,none⟩))) (w.alloc (.cells v.cells t)):=by
  simp [execOp,ho,Instr.alloc,zeroValue,typeInfo,hi,hv,newVar,newRow,Result.andThen]
 rw [hrun];have hk:Kept e.D e.E w.heap.size w (w.alloc (.cells v.cells t)):=Kept.of_below hb (fun _=>Tai _);exact ⟨S,⟨fun _ h=>h,fun _ h=>.inl h⟩,hC.later hk (he.keep _ _ hb.size (fun b hE=>hb.block b (Tbd (hC.ein b hE) hC.bsz)) hC.g) (fun _ h=>h) (fun _ h=>.inl h),hk,trivial⟩
def Zqf (e:Env) (base p d:Nat) (m:List (Nat × Bk)) (L:Lay) (t:TypeId) (v:Value) (listed:Array Bool) (a:Act) (w:World) (S:Nat->Prop):Prop :=
 listed.getD p false=true->∃ b,a.tmps.getD d undef=.pointer (some ⟨b,0,none⟩)∧base<=b∧b < w.heap.size∧¬ S b∧(∀ k bk,gm m k=some bk->¬ ZaJ L k bk b)∧w.heap[b]?=some (.cells v.cells t)
theorem Cls.blk_lt {m:List (Nat × Bk)} {base:Nat} {w:World} {S:Nat->Prop} {L:Lay} (h:Cls e U base S0 m w S L) {k:Nat} {bk:Bk} {g:Nat} (hk:gm m k=some bk) (hg:ZaJ L k bk g):g < w.heap.size:=by
 have ho:=h.own k bk hk;exact (Own1.lt ho hg).1
theorem Zhc (he:e.Ok) {ops:Array Oper} {p:Nat} (hAl:Zfn ops p=true) (hB:regB ops (p+1)=true) {K:St->Prop} {Q:Exit->Act->World->Prop} (hQ:∀ a w σ',K σ'->SimE e U w0 S0 nt σ' a w->Q .normal a w) {σ:St} {a:Act} {w:World}
  (hd:∀ o∈ops.toList,∀ d,o.dst=some d->d < nt) (h:SimE e U w0 S0 nt σ a w) (hp:Runs e (ops.toList.map (·.dst)) (p+1) ops.toList σ K):wpAny e.P .any ops Q ops.size (Array.replicate ops.size false) a w:=by
 simp only [regB,Tar,Bool.or_eq_true,decide_eq_true_eq] at hB;obtain ⟨⟨⟨hH,hn⟩,hs⟩,hsq⟩:=hB;unfold Zfn at hAl;split at hAl;rotate_left
 ·cases hAl
 rename_i o0 hop;unfold isAl at hAl;split at hAl;rotate_left
 ·cases hAl
 rename_i d t ty pos af;obtain ⟨S,L,h1⟩:=h;have hsplit:ops.toList=ops.toList.take p++ops.toList.drop p:=(Tbm p _).symm;have hlen:(ops.toList.take p).length=p:=by simp;omega
 have hp':Runs e (ops.toList.map (·.dst)) ((ops.toList.take p).length+1) (ops.toList.take p++ops.toList.drop p) σ K:=by rw [<- hsplit,hlen];exact hp
 obtain ⟨αs0,hal0,hch0,hrest0⟩:=ZeQ (U:=U) he w0.heap.size S0 ops.toList (ops.toList.drop p) 1 (ops.toList.take p) σ (fun h=>absurd h (by decide)) hp';rw [hlen] at hal0;have hpl:ops.toList[p]?=some ⟨some d,.alloc t,ty,pos,af,none⟩:=by simpa using hop
 have hdrop:ops.toList.drop p=⟨some d,.alloc t,ty,pos,af,none⟩::ops.toList.drop (p+1):=by
  rw [List.drop_eq_getElem_cons (Tad.1 hpl).1,(Tad.1 hpl).2]
 have htake:ops.toList.take (p+1)=ops.toList.take p++[⟨some d,.alloc t,ty,pos,af,none⟩]:=ZcV hpl;rw [hdrop] at hrest0;simp only [Runs,isAl,and_self,if_true] at hrest0;obtain ⟨d0,t0,cs,hd0,ht0,hz,hrest⟩:=hrest0;injection hd0 with hd0
 subst hd0;injection ht0 with ht0
 subst ht0;unfold ZaD at hz;simp only [Tav,Option.bind_eq_some_iff] at hz;obtain ⟨v,⟨i,hi,hv⟩,hcs⟩:=hz;have hG:=fun (ρ:Operand->A)=>ZsN (U:=U) (S0:=S0) (m:=σ.m) (base:=w0.heap.size) (ρ:=ρ) (o:=⟨some d,.alloc t,ty,pos,af,none⟩) he rfl hi hv;have hal:(αs0++[A.undef]).length=p+1:=by simp [hal0]
 have chain_snoc:∀ (os:List Oper) (s:List (Nat × A)) (αs:List A),ZdA e U w0.heap.size S0 σ.m ops.toList os s αs->ZdA e U w0.heap.size S0 σ.m ops.toList (os++[⟨some d,.alloc t,ty,pos,af,none⟩]) s (αs++[A.undef]):=by
  intro os
  induction os with
  | nil =>
   intro s αs hc
   cases αs with
   | nil=>exact ⟨hG _,trivial⟩
   | cons x xs=>simp [ZdA] at hc
  | cons o os ih =>
   intro s αs hc
   cases αs with
   | nil=>simp [ZdA] at hc
   | cons x xs=>exact ⟨hc.1,ih _ _ hc.2⟩
 have after_snoc:∀ (os:List Oper) (s:List (Nat × A)) (αs:List A),αs.length=os.length->after s (os++[⟨some d,.alloc t,ty,pos,af,none⟩]) (αs++[A.undef])=(d,A.undef)::after s os αs:=by
  intro os
  induction os with
  | nil =>
   intro s αs hl
   cases αs with
   | nil=>rfl
   | cons x xs=>simp at hl
  | cons o os ih =>
   intro s αs hl
   cases αs with
   | nil=>simp at hl
   | cons x xs=>exact ih _ _ (by simpa using hl)
 have hch:ZdA e U w0.heap.size S0 σ.m ops.toList (ops.toList.take (p+1)) σ.s (αs0++[A.undef]):=by rw [htake];exact chain_snoc _ _ _ hch0
 have haf:after σ.s (ops.toList.take (p+1)) (αs0++[A.undef])=(d,A.undef)::after σ.s (ops.toList.take p) αs0:=by rw [htake];exact after_snoc _ _ _ (by rw [hal0,hlen])
 have inv0:InvA e U w0 S0 nt σ.m ops (p+1) σ.s (αs0++[A.undef]) L (Array.replicate ops.size false) a w S :=
  ⟨⟨by simp,fun j oj _ hl=>(by rw [getD_replicate_false] at hl;cases hl),fun t _ ht=>getD_in (by simpa using ht) (getD_replicate_false _ _)⟩,h1.size,h1.defers,h1.cls,h1.kept,fun t _=>h1.rel t,fun i o d α _ hl=>(by rw [getD_replicate_false] at hl;cases hl)⟩
 have hJ0:Zqf e w0.heap.size p d σ.m L t v (Array.replicate ops.size false) a w S:=fun hl=>by rw [getD_replicate_false] at hl;cases hl
 have hA0:∀ {i':Nat} {o':Oper} {d':Nat},HeadAt ops (p+1) i' o' d'->i'≠p->d'≠d:=fun hA hne e'=>by
  have:=(hA.dep p _ om hop).1 (Ne.symm hne);exact this (by rw [e'])
 have hgo:ZjS e U w0 S0 nt σ.m ops (p+1) σ.s (αs0++[A.undef]) L (Zqf e w0.heap.size p d σ.m L t v) Q:=by
  intro listed a w S i' o' d' α hI hJ hA hin hr hdn hα hopd hG';by_cases hip:i'=p
  ·subst hip;have ho':o'=⟨some d,.alloc t,ty,pos,af,none⟩:=by have:=hA.op;rw [hop] at this;injection this with this;exact this.symm
   subst ho';have hdd:d'=d:=by have:=hA.dst;injection this with this;exact this.symm
   subst hdd;have hau:α=A.undef:=by rw [Tbq om,hal0] at hα;simpa using hα.symm
   subst hau;unfold Oper.wp;have hrun:(execOp a.eval ⟨some d',.alloc t,ty,pos,af,none⟩).run e.P w=.ok (.value (.pointer (some ⟨w.heap.size,0,none⟩))) (w.alloc (.cells v.cells t)):=by
    simp [execOp,Instr.alloc,zeroValue,typeInfo,hi,hv,newVar,newRow,Result.andThen]
   have hb:Below w.heap.size w (w.alloc (.cells v.cells t)):=Zfw w _;have hk:Kept e.D e.E w.heap.size w (w.alloc (.cells v.cells t)):=Kept.of_below hb (fun _=>Tai _);have hC:=hI.cls;have hC':Cls e U w0.heap.size S0 σ.m (w.alloc (.cells v.cells t)) S L:=hC.later hk (he.keep _ _ hb.size (fun b hE=>hb.block b (Tbd (hC.ein b hE) hC.bsz)) hC.g) (fun _ h=>h) (fun _ h=>.inl h);rw [hrun,Oper.upon_value];refine ⟨S,hI.put hH hA hin hr hdn hα (fun _ h=>h) hC' hk trivial,fun _=>⟨w.heap.size,?_,hC.bsz,by simp,fun hs=>by have:=(hC.sin _ hs).1;omega,fun k bk hk hg=>by have:=hC.blk_lt hk hg;omega,heap_alloc_new w _⟩⟩
   rw [ZcP (by rw [hI.size];exact hdn)];simp
  ·refine ZeB (hG' w S L a.eval hI.cls hopd) fun v' w' ⟨S',hS,hC,hk,hv'⟩=>⟨S',hI.put hH hA hin hr hdn hα hS.1 hC hk hv',fun hl=>?_⟩;rw [getD_set_ne false hip] at hl;obtain ⟨b,q1,q2,q3,q4,q5,q6⟩:=hJ hl;refine ⟨b,?_,q2,Tbd q3 hk.size,fun hs=>?_,q5,?_⟩
   ·rw [hA.dst,ZcP (by rw [hI.size];exact hdn),if_neg (Ne.symm (hA0 hA hip))];exact q1
   ·rcases hS.2 b hs with hs | hs
    ·exact q4 hs
    ·omega
   ·rw [hk.block b q3 (fun hE=>by have:=hI.cls.ein b hE;omega)];exact q6
 have hskp:∀ (listed:Array Bool) (a:Act) (w:World) (S:Nat->Prop) (i':Nat) (o':Oper) (d':Nat),Zqf e w0.heap.size p d σ.m L t v listed a w S->InvA e U w0 S0 nt σ.m ops (p+1) σ.s (αs0++[A.undef]) L listed a w S->HeadAt ops (p+1) i' o' d'->i' < p+1->i'∈Region.ready .any ops listed->d' < nt->o'.guard≠none->Zqf e w0.heap.size p d σ.m L t v (listed.setIfInBounds i' true) (a.put o'.dst undef) w S:=by
  intro listed a w S i' o' d' hJ hI hA hin hr hdn hg hl;have hip:i'≠p:=fun e'=>by
   subst e';have:=hA.op;rw [hop] at this;injection this with this
   rw [<- this] at hg;exact hg rfl
  rw [getD_set_ne false hip] at hl;obtain ⟨b,q1,q2⟩:=hJ hl;refine ⟨b,?_,q2⟩;rw [hA.dst,ZcP (by rw [hI.size];exact hdn),if_neg (Ne.symm (hA0 hA hip))];exact q1
 have H:=ZdT (e:=e) (L:=L) (Q:=Q) he hH hn (fun hlt=>by
   rcases hs with hs | hs
   ·omega
   ·exact hs) hsq (fun i o d hi ho hdd=>hd o (List.mem_iff_getElem?.2 ⟨i,by simpa using ho⟩) d hdd) hal hch hgo hskp (fun listed a' w' S' hI hJ hall=>?_) (p+1) _ a _ S inv0 hJ0 ?_
 ·rw [show p+1+(ops.size - (p+1))=ops.size by omega] at H;exact H
 ·have hsim:Sim e U w0 S0 nt ⟨after σ.s (ops.toList.take (p+1)) (αs0++[A.undef]),σ.m⟩ a' w' S' L:=by
   refine ⟨hI.cls,fun t=>?_,hI.size,hI.defers,hI.kept⟩;by_cases hex:∃ (j:Nat) (p':Oper),j < p+1∧ops[j]?=some p'∧p'.dst=some t
   ·obtain ⟨j,p0,hj,hp,hpt⟩:=hex;obtain ⟨p',d',hP⟩:=ZcR.get hH hj;have hpp:p'=p0:=by have:=hP.op;rw [hp] at this;injection this with this;exact this.symm
    subst hpp;have hdt:d'=t:=by have:=hP.dst;rw [hpt] at this;injection this with this;exact this.symm
    subst hdt;obtain ⟨α,hα⟩:∃ α,(αs0++[A.undef])[j]?=some α:=⟨(αs0++[A.undef])[j],Taa om⟩;show ARel w' S' L (gs (after σ.s (ops.toList.take (p+1)) (αs0++[A.undef])) d') _;rw [Zeo (ops.toList.take (p+1)) (αs0++[A.undef]) σ.s j p' α (by rw [List.getElem?_take,if_pos hj];simpa using hp) hα hpt (fun k q hk hq=>by
     rw [List.getElem?_take] at hq;split at hq
     ·exact (hP.dep k q om (by simpa using hq)).1 hk
     ·cases hq)]
    exact hI.done j p' d' α hj (hall j hj) hp hpt hα
   ·have hno:∀ (j:Nat) (p':Oper),j < p+1->ops[j]?=some p'->p'.dst≠some t:=fun j p' hj hp hd=>hex ⟨j,p',hj,hp,hd⟩;show ARel w' S' L (gs (after σ.s (ops.toList.take (p+1)) (αs0++[A.undef])) t) _;rw [Zdx _ _ _ (fun p' hp=>by
     obtain ⟨j,hj⟩:=List.mem_iff_getElem?.1 hp;rw [List.getElem?_take] at hj;split at hj
     ·exact hno j p' om (by simpa using hj)
     ·cases hj)]
    exact hI.out t hno
  rw [haf] at hsim;obtain ⟨b,q1,q2,q3,q4,q5,q6⟩:=hJ (hall p om);have hdn:d < nt:=hd _ (List.mem_iff_getElem?.2 ⟨p,hpl⟩) d rfl;have hrv:=ZcX (w:=w') (S:=S') v.cells.toList;rw [hcs] at hrv
  have hsimB:=hsim.bornE (bk:=.var none cs) (w':=w') (b':=b) (v':=undef) (u:=a'.tmps.getD d undef) (τ:=some b) (s1:=(d,A.undef)::after σ.s (ops.toList.take p) αs0) (m1:=σ.m) (α:=.ref d 0) (S':=S') hdn (fun _ h=>h) (fun _ h=>.inl h) (fun t=>.inl rfl) (fun k x h=>h)
   (fun g hg=>by injection hg with hg;subst hg;exact ⟨q4,fun hE=>by have:=hI.cls.ein _ hE;omega,.inl q2⟩) (fun k x g hkd hx hg hb=>by injection hg with hg;subst hg;exact q5 k x hx hb)
   (Kept.refl _ _ _ _) hI.cls.g (by
    simp only [Own1,if_true];refine ⟨by simp,q3,q4,⟨v.cells,t,q6,by have:=hrv.len;simpa using this⟩,?_⟩;exact Zak.of_vals cs v.cells.toList 0 hrv (fun j u hj=>by
     rw [Nat.zero_add];have hj':v.cells[j]?=some u:=by simpa using hj
     simp [World.cell?,q6,hj']))
   (fun g hg=>by simp only [ZaJ,if_true] at hg;exact .inl (by rw [hg])) (by simp [ARel,q1])
  have hsimD:SimE e U w0 S0 nt ⟨(d,.ref d 0)::Zau d ((d,A.undef)::after σ.s (ops.toList.take p) αs0),(d,.var none cs)::remM d σ.m⟩ a' w':=by
   obtain ⟨S2,L2,k1,k2,k3,k4,k5⟩:=hsimB;refine ⟨S2,L2,k1,fun t=>?_,hI.size,hI.defers,k5⟩;have:=k2 t;rw [ZcP (by rw [hI.size];exact hdn)] at this;by_cases ht:t=d
   ·rw [if_pos ht] at this;rw [ht];rw [ht] at this;exact this
   ·rw [if_neg ht] at this;exact this
  have hsimC:SimE e U w0 S0 nt ⟨(d,.ref d 0)::Zau d (after σ.s (ops.toList.take p) αs0),(d,.var none cs)::remM d σ.m⟩ a' w':=SimE.weak hsimD (fun t=>.inl (by
   by_cases ht:t=d
   ·simp [gs,ht]
   ·simp [gs,ht,Zau])) (fun t x hx=>hx)
  have:=hrest he U w0 S0 nt a' w' ops.toList Q rfl (fun o ho=>hd o (List.mem_of_mem_drop ho)) hQ hsimC;simpa using this
 ·rw [List.countP_eq_length.2]
  ·simp
  ·intro i hi;have hi':=List.mem_range.1 hi;have hsz:i < (Array.replicate ops.size false).size:=by simp;omega
   rw [ZbP hsz,getD_replicate_false];rfl
theorem ZqP (he:e.Ok) {id:Nat} {ops:Array Oper} {p:Nat} (hAl:Zfn ops p=true) (hB:regB ops (p+1)=true) {K:St->Prop} {Q:Exit->Act->World->Prop} (hQ:∀ a w σ',K σ'->SimE e U w0 S0 nt σ' a w->Q .normal a w) {σ:St} {a:Act} {w:World}
  (hd:∀ o∈ops.toList,∀ d,o.dst=some d->d < nt) (h:SimE e U w0 S0 nt σ a w) (hp:Runs e (ops.toList.map (·.dst)) (p+1) ops.toList σ K):(Code.region id ops true).wp e.P Q a w:=wp_region_any he.mixed (Zhc he hAl hB hQ hd (h.drew he) hp)
theorem ZpL {P:Program} {Q:Exit->Act->World->Prop} {c:Code} {ι:Type} (I:ι->Act->World->Prop) (μ:ι->Nat) (i0:ι) {a:Act} {w:World} (h₀:I i0 a w)
  (round:∀ i a w,I i a w->c.wp P (Exit.then (fun a' w'=>∃ j,I j a' w'∧μ j < μ i) Q) a w):(Code.loop c).wp P Q a w:=by
 intro b k cs
 have key:∀ n i a w,μ i=n->I i a w ->
   ∃ e a' w',Q e a' w'∧Arrives P (lone (b.at a (.code c::.inLoop c::k)) cs w) b k cs e a' w':=by
  intro n
  induction n using Nat.strongRecOn with
  | _ n ih =>
   intro i a w hn hI;obtain ⟨e,a₁,w₁,hq,harr⟩:=round i a w hI b (.inLoop c::k) cs
   cases e with
   | normal =>
    obtain ⟨j,hI₁,hlt⟩:=hq;obtain ⟨e₂,a₂,w₂,hq₂,harr₂⟩:=ih (μ j) (hn ▸ hlt) j a₁ w₁ rfl hI₁;exact ⟨e₂,a₂,w₂,hq₂,.of_steps (Steps.trans harr (.one step_inLoop)) harr₂⟩
   | exit id=>exact ⟨_,a₁,w₁,hq,.pass (x:=.inLoop c) rfl (fun _ _=>.inl (by simp)) harr⟩
   | goto l=>exact ⟨_,a₁,w₁,hq,.pass (x:=.inLoop c) rfl (fun _ _=>.inl (by simp)) harr⟩
   | ret=>exact ⟨_,a₁,w₁,hq,.pass (x:=.inLoop c) rfl (fun _ _=>.inl (by simp)) harr⟩
   | panic ch=>exact ⟨_,a₁,w₁,hq,.pass (x:=.inLoop c) rfl (fun _ _=>.inl (by simp)) harr⟩
   | outgrown=>exact ⟨_,a₁,w₁,hq,.pass (x:=.inLoop c) rfl (fun _ _=>.inl (by simp)) harr⟩
 obtain ⟨e,a',w',hq,harr⟩:=key _ i0 a w rfl h₀;exact ⟨e,a',w',hq,.of_steps (.one step_loop) harr⟩
def ZcF (nt:Nat):Code->Bool
 | .region _ ops _=>ops.toList.all (fun o=>o.dst.all (fun d=>decide (d < nt)))
 | .seq a b=>ZcF nt a && ZcF nt b
 | .cond _ a b=>ZcF nt a && ZcF nt b
 | .block _ c=>ZcF nt c
 | .loop c=>ZcF nt c
 | _=>true
def Then (e:Env) (U:Nat->Prop) (w0:World) (S0:Nat->Prop) (nt:Nat) (K:St->Prop) (a:Act) (w:World):Prop:=∃ σ,K σ∧SimE e U w0 S0 nt σ a w
def LQ (e:Env) (U:Nat->Prop) (w0:World) (S0:Nat->Prop) (nt:Nat) (Q:PX->St->Prop):Exit->Act->World->Prop
 | .normal,a,w=>Then e U w0 S0 nt (Q .normal) a w
 | .exit id,a,w=>Then e U w0 S0 nt (Q (.exit id)) a w
 | .ret,a,w=>Then e U w0 S0 nt (Q .ret) a w
 | _,_,_=>False
def pwp (e:Env) (mask:Nat) (c:Code) (σ:St) (Q:PX->St->Prop):Prop:=e.Ok->∀ (U:Nat->Prop) (w0:World) (S0:Nat->Prop) (nt:Nat) (a:Act) (w:World),ZcF nt c=true->SimE e U w0 S0 nt σ a w->c.wp e.P (LQ e U w0 S0 nt Q) a w
def Zdf (mask:Nat) (Q:PX->St->Prop) (σ':St):Prop:=Q .normal ⟨ZdY mask σ'.s,σ'.m⟩
end
section
variable {e:Env} {mask:Nat} {σ:St} {Q:PX->St->Prop}
theorem LQ.mono {U:Nat->Prop} {w0:World} {S0:Nat->Prop} {nt:Nat} {Q Q':PX->St->Prop} (hQ:∀ p σ,Q p σ->Q' p σ) {ex:Exit} {a:Act} {w:World} (h:LQ e U w0 S0 nt Q ex a w):LQ e U w0 S0 nt Q' ex a w:=by
 cases ex with
 | normal=>exact h.elim fun σ h=>⟨σ,hQ _ _ h.1,h.2⟩
 | exit id=>exact h.elim fun σ h=>⟨σ,hQ _ _ h.1,h.2⟩
 | ret=>exact h.elim fun σ h=>⟨σ,hQ _ _ h.1,h.2⟩
 | goto l=>exact h
 | panic ch=>exact h
 | outgrown=>exact h
theorem ZBu {Q Q':PX->St->Prop} (hQ:∀ p σ,Q p σ->Q' p σ) (c:Code) (σ:St) (h:pwp e mask c σ Q):pwp e mask c σ Q':=fun he U w0 S0 nt a w hok hs=>wp_mono (h he U w0 S0 nt a w hok hs) fun ex a' w' hq=>hq.mono hQ
theorem Zda {P:St->Prop} {c:Code} (hT:Turn e σ P) (h:∀ σ',P σ'->pwp e mask c σ' Q):pwp e mask c σ Q:=fun he U w0 S0 nt a w hok hs=>by
 obtain ⟨σ',h1,h2⟩:=hT he U w0 S0 nt a w hs;exact h σ' h1 he U w0 S0 nt a w hok h2
theorem ZqQ (h:Q .normal σ):pwp e mask .skip σ Q:=fun he U w0 S0 nt a w hok hs=>wp_skip ⟨σ,h,hs⟩
theorem ZqR {id:Nat} (h:Q (.exit id) σ):pwp e mask (.exit id) σ Q:=fun he U w0 S0 nt a w hok hs=>wp_exit ⟨σ,h,hs⟩
theorem ZfR (h:Q .ret σ):pwp e mask .ret σ Q:=fun he U w0 S0 nt a w hok hs=>wp_ret ⟨σ,h,hs⟩
theorem ZmG {id:Nat} {ops:Array Oper} {draw:Bool} (n:Nat) (hn:(if draw then regX ops n else decide (n=0))=true) (hp:Runs e (ops.toList.map (·.dst)) n ops.toList σ (Zdf mask Q)):pwp e mask (.region id ops draw) σ Q:=fun he U w0 S0 nt a w hok hs=>by
 simp only [ZcF] at hok;have hd:∀ o∈ops.toList,∀ d,o.dst=some d->d < nt:=fun o ho d hd=>by
  have:=List.all_eq_true.1 hok o ho;rw [hd] at this;simpa using this
 have hQ:∀ a w σ',Zdf mask Q σ'->SimE e U w0 S0 nt σ' a w->LQ e U w0 S0 nt Q .normal a w:=fun a w σ' h1 h2 =>
  ⟨_,h1,h2.weak (fun t=>ZiQ mask t σ'.s) (fun _ _ h=>h)⟩
 cases draw with
 | false =>
  have hn:n=0:=by simpa using hn
  subst hn;refine wp_region_list ?_;have:=Zn6 he ops.toList hQ ops.toList _ a w hd hs hp;simpa using this
 | true =>
  have hn:regB ops n=true:=by simpa [regX] using hn
  cases n with
  | zero=>exact Zle he hn (by simp) hQ hd hs hp
  | succ p =>
   by_cases hA:Zfn ops p=true
   ·exact ZqP he hA hn hQ hd hs hp
   ·refine Zle he hn (fun o ho=>?_) hQ hd hs hp;have hle:p+1<=ops.size:=by
     simp only [regB,Tar,decide_eq_true_eq] at hn;exact hn.1.1.2
    have hlt:p < ops.size:=om;have e:(ops.toList.take (p+1)).getLast?=ops[p]?:=by
     rw [List.getLast?_eq_getElem?];simp only [Taw,Array.length_toList,Nat.min_eq_left hle,Nat.add_sub_cancel];rw [List.getElem?_take,if_pos om];simp
    rw [e] at ho;unfold Zfn at hA;rw [ho] at hA;simpa using hA
theorem ZdU {a b:Code} (h:pwp e mask a σ (fun x σ'=>match x with
  | .normal=>∃ σ1,Wk σ' σ1∧pwp e mask b σ1 Q
  | x=>Q x σ')):pwp e mask (.seq a b) σ Q:=fun he U w0 S0 nt ac w hok hs=>by
 simp only [ZcF,Tar] at hok;refine wp_seq (wp_mono (h he U w0 S0 nt ac w hok.1 hs) fun ex a' w' hq=>?_)
 cases ex with
 | normal=>obtain ⟨σ',⟨σ1,hw,h1⟩,h2⟩:=hq;exact h1 he U w0 S0 nt a' w' hok.2 (h2.weak hw.1 hw.2)
 | exit id=>exact hq
 | ret=>exact hq
 | goto l=>exact hq
 | panic ch=>exact hq
 | outgrown=>exact hq
theorem ZqS {c:Operand} {a b:Code} {t:Bool} (hc:evA σ.s c=.d (.one (.lit (.bool t)))) (h1:t=true->pwp e mask a σ Q) (h2:t=false->pwp e mask b σ Q):pwp e mask (.cond c a b) σ Q:=fun he U w0 S0 nt ac w hok hs=>by
 simp only [ZcF,Tar] at hok;obtain ⟨S,L,h'⟩:=id hs;have h3:=h'.eval c;rw [hc] at h3;refine wp_cond h3.bool ?_
 cases t
 ·simp only [Tam,if_false];exact h2 rfl he U w0 S0 nt ac w hok.2 hs
 ·simp only [if_true];exact h1 rfl he U w0 S0 nt ac w hok.1 hs
theorem ZoN {id:Nat} {c:Code} (h:pwp e mask c σ (fun x σ'=>match x with
  | .exit j=>if j=id then Q .normal σ' else Q (.exit j) σ'
  | x=>Q x σ')):pwp e mask (.block id c) σ Q:=fun he U w0 S0 nt ac w hok hs=>by
 simp only [ZcF] at hok;refine wp_block (wp_mono (h he U w0 S0 nt ac w hok hs) fun ex a' w' hq=>?_)
 cases ex with
 | normal=>exact hq
 | exit j =>
  obtain ⟨σ',h1,h2⟩:=hq;simp only [Exit.inBlock];simp only at h1;split
  ·rename_i hj;rw [if_pos hj] at h1;exact ⟨σ',h1,h2⟩
  ·rename_i hj;rw [if_neg hj] at h1;exact ⟨σ',h1,h2⟩
 | ret=>exact hq
 | goto l=>exact hq
 | panic ch=>exact hq
 | outgrown=>exact hq
theorem ZBv {c:Code} {ι:Type} (st:ι->St) (ok:ι->Prop) (μ:ι->Nat) (x0:ι) (h0:ok x0) (hs0:Zc4 σ.s (st x0).s) (hm0:Zc5 σ.m (st x0).m)
  (hr:∀ x,ok x->pwp e mask c (st x) (fun p σ''=>match p with
   | .normal=>∃ y,ok y∧Zc4 σ''.s (st y).s∧Zc5 σ''.m (st y).m∧μ y < μ x
   | p=>Q p σ'')):pwp e mask (.loop c) σ Q:=fun he U w0 S0 nt ac w hok hs=>by
 simp only [ZcF] at hok;refine ZpL (ι:=ι) (fun x a w=>ok x∧SimE e U w0 S0 nt (st x) a w) μ x0 ⟨h0,hs.weak (fun t=>ZiR hs0) (fun t cs=>ZiS hm0)⟩ fun x1 a1 w1 ⟨h1,h2⟩=>?_;refine wp_mono (hr x1 h1 he U w0 S0 nt a1 w1 hok h2) fun ex a' w' hq=>?_
 cases ex with
 | normal =>
  obtain ⟨σ',⟨y,h5,h3,h4,h6⟩,h7⟩:=hq;exact ⟨y,⟨h5,h7.weak (fun t=>ZiR h3) (fun t cs=>ZiS h4)⟩,h6⟩
 | exit id=>exact hq
 | ret=>exact hq
 | goto l=>exact hq
 | panic ch=>exact hq
 | outgrown=>exact hq
end
def ZdG:Nat->List D->List (Nat × A)
 | _,[]=>[]
 | k,x::xs=>(k,.d x)::ZdG (k+1) xs
theorem ZqT:∀ (xs:List D) (k t:Nat),gs (ZdG k xs) t=if k<=t then match xs[t - k]? with
   | some x=>.d x
   | none=>.undef
  else .undef
 | [],k,t=>by simp [ZdG,gs]
 | x::xs,k,t=>by
  simp only [ZdG,gs];by_cases h1:t=k
  ·subst h1;simp
  ·rw [ZqT xs (k+1) t];simp only [h1,if_false];by_cases h2:k+1<=t
   ·rw [if_pos h2,if_pos om,show t - k=(t - (k+1))+1 by omega];simp
   ·rw [if_neg h2];by_cases h3:k<=t
    ·omega
    ·rw [if_neg h3]
inductive RS where
 | slot (t:Nat)
 | cell (t ty:Nat)
def Zbn:List ResultVar->List RS
 | []=>[]
 | .tmp t::r=>.slot t::Zbn r
 | .cell a t::r=>.cell a t::Zbn r
def resA (P:Program) (σ:St):RS->A
 | .slot t=>gs σ.s t
 | .cell t ty=>(Zfg (ZaG P ty) (ptrA σ.m (gs σ.s t))).getD .undef
def ZcO (P:Program) (σ:St):List RS->List D->Prop
 | [],[]=>True
 | t::ts,x::xs=>resA P σ t=.d x∧ZcO P σ ts xs
 | _,_=>False
def retQ (P:Program) (slots:List RS) (r:List D):PX->St->Prop
 | .exit _,_=>False
 | _,σ=>∃ ks,ZcO P (frzs ks σ) slots r
section
variable {e:Env} {U:Nat->Prop} {w0:World} {S0:Nat->Prop} {nt:Nat} {σ:St} {a:Act} {w:World} {S:Nat->Prop} {L:Lay}
theorem ZBw (h:Sim e U w0 S0 nt σ a w S L) {x:ResultVar} {rs:List RS} {t:RS} (hrs:Zbn [x]=[t]) {y:D} (hy:resA e.P σ t=.d y):∃ v,(match x with
   | .tmp t=>(pure (a.tmps.getD t undef):Sem Value)
   | .cell b t=>do loadVar t (<- asAddr (a.tmps.getD b undef))).run e.P w=.ok v w∧DRel w S y v:=by
 cases x with
 | tmp k =>
  simp only [Zbn,List.cons.injEq,and_true] at hrs;subst hrs;have:=h.rel k;simp only [resA] at hy;rw [hy] at this;exact ⟨_,rfl,this⟩
 | cell b ty =>
  simp only [Zbn,List.cons.injEq,and_true] at hrs;subst hrs;simp only [resA] at hy
  cases hl:Zfg (ZaG e.P ty) (ptrA σ.m (gs σ.s b)) with
  | none=>rw [hl] at hy;simp at hy
  | some α =>
   rw [hl] at hy;simp only [Option.getD_some] at hy;subst hy;unfold Zfg at hl;split at hl
   ·rename_i k cs hk hp;obtain ⟨u,h1,h2⟩:=ZoI h.cls hp (h.rel b) hk hl;refine ⟨u,?_,h2⟩;have hptr:∃ p,a.tmps.getD b undef=.pointer (some p):=by
     have hr:=h.rel b;unfold ptrA at hp;split at hp
     ·rename_i hx;rw [hx] at hr;simp only [ARel,DRel,Rep] at hr;obtain ⟨b',off,hv,_⟩:=hr;exact ⟨_,hv⟩
     ·rename_i hx;rw [hx] at hr;exact ⟨_,hr⟩
     ·rename_i hx;rw [hx] at hr;obtain ⟨g,_,hv⟩:=hr;exact ⟨_,hv⟩
     ·cases hp
    obtain ⟨p,hp'⟩:=hptr;rw [hp'] at h1;show Sem.run e.P (do loadVar ty (<- asAddr (a.tmps.getD b undef))) w=_;rw [hp'];simpa [Instr.loadAt,Instr.sureAddr,asAddr,Result.andThen] using h1
   ·cases hl
theorem ZjT (h:Sim e U w0 S0 nt σ a w S L):∀ {l:List ResultVar} {r:List D},ZcO e.P σ (Zbn l) r->∃ vs:List Value,(l.mapM (m:=Sem) fun (x:ResultVar)=>match x with
   | .tmp t=>(pure (a.tmps.getD t undef):Sem Value)
   | .cell b t=>do loadVar t (<- asAddr (a.tmps.getD b undef))).run e.P w=.ok vs w∧ZaL w S r vs
 | [],r,hr=>by
  cases r with
  | nil=>exact ⟨[],by simp,trivial⟩
  | cons x xs=>simp [Zbn,ZcO] at hr
 | x::l,r,hr=>by
  have hx:Zbn (x::l)=(Zbn [x]).head (by cases x <;> simp [Zbn])::Zbn l:=by cases x <;> rfl
  rw [hx] at hr
  cases r with
  | nil=>simp [ZcO] at hr
  | cons y ys =>
   simp only [ZcO] at hr;obtain ⟨v,h1,h2⟩:=ZBw h (x:=x) (rs:=[]) (by cases x <;> rfl) hr.1;obtain ⟨vs,h3,h4⟩:=ZjT h hr.2;refine ⟨v::vs,?_,h2,h4⟩;simp only [List.mapM_cons,Sem.run_bind,Sem.run_pure,Result.andThen_ok];rw [h1];simp only [Result.andThen_ok];rw [h3];simp
end
theorem Zh3 {e:Env} {U:Nat->Prop} {w0:World} {S0:Nat->Prop} {nt:Nat} {σ:St} {a:Act} {w:World} {S:Nat->Prop} {L:Lay} {fn:Func} {r:List D} (h:Sim e U w0 S0 nt σ a w S L) (hr:ZcO e.P σ (Zbn fn.results.toList) r) :
  ∃ v,(results fn a.tmps).run e.P w=.ok v w∧ARel w S ⟨fun _=>0,fun _=>Go.undef⟩ (retA r) v:=by
 obtain ⟨vs,h1,h2⟩:=ZjT h hr
 have hrun:(fn.results.mapM (m:=Sem) fun (x:ResultVar)=>match x with
   | .tmp t=>(pure (a.tmps.getD t undef):Sem Value)
   | .cell b t=>do loadVar t (<- asAddr (a.tmps.getD b undef))).run e.P w=.ok vs.toArray w:=by
  rw [Array.mapM_eq_mapM_toList];simp only [Sem.run_map,h1,Result.andThen_ok]
 have hrun:(results fn a.tmps).run e.P w=.ok (if h:(vs.toArray).size=1 then (vs.toArray)[0] else .tuple vs.toArray) w:=by
  unfold results;rw [Sem.run_bind];exact congrArg (fun (z:Result (Array Value))=>z.andThen (fun a w''=>Sem.run e.P (pure (if h:a.size=1 then a[0] else Value.tuple a)) w'')) hrun
 match r,vs,h2,hrun with
 | [x],[v],hd,hrun=>exact ⟨v,by rw [hrun];simp,hd.1⟩
 | [],[],hd,hrun=>exact ⟨.tuple #[],by rw [hrun];simp,[],rfl,trivial⟩
 | x::y::r',v::v'::vs',hd,hrun=>exact ⟨.tuple (v::v'::vs').toArray,by rw [hrun];simp,_,rfl,hd⟩
 | [],_::_,hd,_=>simp [ZaL] at hd
 | _::_,[],hd,_=>simp [ZaL] at hd
 | [_],_::_::_,hd,_=>simp [ZaL] at hd
 | _::_::_,[_],hd,_=>simp [ZaL] at hd
theorem ZlQ {w:World} {S:Nat->Prop} {L:Lay} {args:List D} {vs:List Value} {n:Nat} (hvs:ZaL w S args vs) (t:Nat):ARel w S L (gs (ZdG 0 args) t) ((vs.toArray++Array.replicate n undef).getD t undef):=by
 rw [ZqT];simp only [Taj,if_true,Nat.sub_zero]
 cases hx:args[t]? with
 | none=>trivial
 | some x =>
  obtain ⟨v,h1,h2⟩:=hvs.get hx;have hlt:t < vs.length:=(Tad.1 h1).1;have e1:(vs.toArray++Array.replicate n undef).getD t undef=v:=by
   rw [Array.getD_eq_getD_getElem?,Array.getElem?_append_left (by simpa using hlt)];simp [h1]
  simp only [e1];exact h2
theorem ZvY {e:Env} (he:e.Ok) {f:FuncId} {fn:Func} {c:Code} {args r:List D} {ts:List RS} (mask:Nat) (hf:e.P.funcs[f]?=some fn) (hb:fn.body=some c) (hnm:(fn.name == "runtime.NumGoroutine")=false)
  (hok:ZcF fn.ntmps c=true) (hal:Nat.ble args.length fn.ntmps=true) (hres:Zbn fn.results.toList=ts) (h:pwp e mask c ⟨ZdG 0 args,[]⟩ (retQ e.P ts r)):Con e f args r:=by
 refine ⟨by unfold Zcs;rw [hf];simp [hnm,hb],fun w S vs hS hE hG hvs=>?_⟩;have hvl:=hvs.len;have hal:=Nat.le_of_ble_eq_true hal;subst hres;refine calls_of_wp hf hb ?_;have hsim:SimE e (fun _=>False) w S fn.ntmps ⟨ZdG 0 args,[]⟩ { tmps:=vs.toArray++Array.replicate (fn.ntmps - vs.toArray.size) undef,defers:=[] } w:=by
  exact ⟨S,⟨fun _=>0,fun _=>Go.undef⟩,⟨hS,fun b hb=>.inl hb,hE,fun _ h=>h.elim,Tai _,fun k x g hk=>by simp [gm] at hk,fun k x hk=>by simp [gm] at hk,fun k k' x x' g hk=>by simp [gm] at hk,hG⟩,fun t=>ZlQ hvs t,by simp;omega,rfl,Kept.refl _ _ _ _⟩
 refine wp_mono (h he _ _ _ _ _ w hok hsim) fun ex a' w' hq=>?_;have fin:∀ σ',(∃ ks,ZcO e.P (frzs ks σ') (Zbn fn.results.toList) r)->SimE e (fun _=>False) w S fn.ntmps σ' a' w'->a'.defers=[]∧∃ v,(results fn a'.tmps).run e.P w'=.ok v w'∧∃ u,Ending.returned v=.returned u∧Kept e.D e.E w.heap.size w w'∧e.G w'∧ARel w' (fun b=>S b∨(w.heap.size<=b∧b < w'.heap.size)) ⟨fun _=>0,fun _=>Go.undef⟩ (retA r) u:=by
  intro σ' ⟨ks,h1⟩ h2;obtain ⟨S',L',h2⟩:=SimE.frzs he ks σ' h2;obtain ⟨v,h3,h4⟩:=Zh3 h2 h1;refine ⟨h2.defers,v,h3,v,rfl,⟨h2.kept.os,h2.kept.tape,h2.kept.output,h2.kept.drawn,h2.kept.size,fun b hb hE=>h2.kept.block b hb (fun h=>h.elim hE id)⟩,h2.cls.g,h4.keep (Tai _) (fun _ _ _=>rfl) (fun b hb=>?_)⟩;rcases h2.cls.sfr b hb with h | h | h
  ·exact .inl h
  ·exact .inr ⟨h,(h2.cls.sin b hb).1⟩
  ·exact h.elim
 cases ex with
 | normal=>obtain ⟨σ',h1,h2⟩:=hq;exact fin σ' h1 h2
 | ret=>obtain ⟨σ',h1,h2⟩:=hq;exact fin σ' h1 h2
 | exit id=>obtain ⟨σ',h1,h2⟩:=hq;exact h1.elim
 | goto l=>exact hq.elim
 | panic ch=>exact hq.elim
 | outgrown=>exact hq.elim
def ZkO (P:Program) (slots:List RS) (R:List D->List Bk->Prop):PX->St->Prop
 | .exit _,_=>False
 | _,σ=>∃ r ks pm,getM σ.m ks=some pm∧ks.Nodup∧pm.all pinned=true∧R r pm∧ZcO P σ slots r
theorem ZsO {e:Env} (he:e.Ok) {f:FuncId} {fn:Func} {c:Code} {args:List D} {pm:List Bk} {R:List D->List Bk->Prop} {ts:List RS} (keys:List Nat) (mask:Nat) (hf:e.P.funcs[f]?=some fn) (hb:fn.body=some c) (hnm:(fn.name == "runtime.NumGoroutine")=false)
  (hok:ZcF fn.ntmps c=true) (hal:Nat.ble args.length fn.ntmps=true) (hres:Zbn fn.results.toList=ts) (h:pwp e mask c ⟨ZdG 0 args,zipM keys pm⟩ (ZkO e.P ts R)):ConP e f args pm R:=by
 refine ⟨by unfold Zcs;rw [hf];simp [hnm,hb],fun w S vs hS hE hG hpm hap hvs=>?_⟩;have hvl:=hvs.len;have hal:=Nat.le_of_ble_eq_true hal;subst hres;refine calls_of_wp hf hb ?_;have hsim:SimE e (Zbp pm) w S fn.ntmps ⟨ZdG 0 args,zipM keys pm⟩ { tmps:=vs.toArray++Array.replicate (fn.ntmps - vs.toArray.size) undef,defers:=[] } w:=by
  have at':∀ k x,gm (zipM keys pm) k=some x->x∈pm∧Own1 w S (layB (zipM keys pm) ⟨fun _=>0,fun _=>Go.undef⟩) k x∧∀ g,ZaJ (layB (zipM keys pm) ⟨fun _=>0,fun _=>Go.undef⟩) k x g ↔ pblk x g:=fun k x hx=>by
   have hm:=(ZfQ hx).2;exact ⟨hm,Zd9 (hpm x hm).1 hx⟩
  refine ⟨S,layB (zipM keys pm) ⟨fun _=>0,fun _=>Go.undef⟩,⟨hS,fun b hb=>.inl hb,hE,fun b ⟨x,hx,hg⟩=>(hpm x hx).2 b hg,Tai _,fun k x g hx hg=>.inr ⟨x,(at' k x hx).1,((at' k x hx).2.2 g).1 hg⟩,fun k x hx=>(at' k x hx).2.1,fun k k' x x' g hx hx' hg hg'=>?_,hG⟩,fun t=>ZlQ hvs t,by simp;omega,rfl,Kept.refl _ _ _ _⟩;exact ZjN hap hx hx' (((at' k x hx).2.2 g).1 hg) (((at' k' x' hx').2.2 g).1 hg')
 refine wp_mono (h he _ _ _ _ _ w hok hsim) fun ex a' w' hq=>?_
 have fin:∀ σ',(∃ r ks pm',getM σ'.m ks=some pm'∧ks.Nodup∧pm'.all pinned=true∧R r pm'∧ZcO e.P σ' (Zbn fn.results.toList) r)->SimE e (Zbp pm) w S fn.ntmps σ' a' w'->a'.defers=[]∧∃ v,(results fn a'.tmps).run e.P w'=.ok v w' ∧
   ∃ u r pm',Ending.returned v=.returned u∧R r pm'∧Kept e.D (fun b=>e.E b∨Zbp pm b) w.heap.size w w'∧e.G w' ∧
   (∀ x∈pm',ZdD w' (fun b=>(S b∨Zbp pm b∨(w.heap.size<=b∧b < w'.heap.size))∧¬ Zbp pm' b) x∧∀ g,pblk x g->Zbp pm g∨w.heap.size<=g)∧ZeN pm' ∧
   ARel w' (fun b=>(S b∨Zbp pm b∨(w.heap.size<=b∧b < w'.heap.size))∧¬ Zbp pm' b) ⟨fun _=>0,fun _=>Go.undef⟩ (retA r) u:=by
  intro σ' ⟨r,ks,pm',hg,hn,hp,hR,h1⟩ ⟨S',L',h2⟩;obtain ⟨v,h3,h4⟩:=Zh3 h2 h1;have hp:∀ x∈pm',pinned x=true:=fun x hx=>List.all_eq_true.1 hp x hx;have hS':∀ b,S' b->(S b∨Zbp pm b∨(w.heap.size<=b∧b < w'.heap.size))∧¬ Zbp pm' b:=fun b hb=>by
   refine ⟨?_,fun ⟨x,hx,hxg⟩=>?_⟩
   ·rcases h2.cls.sfr b hb with q | q | q
    ·exact .inl q
    ·exact .inr (.inr ⟨q,(h2.cls.sin b hb).1⟩)
    ·exact .inr (.inl q)
   ·obtain ⟨k,hk,hkx⟩:=ZeG hg x hx;exact ((h2.cls.own k x hkx).lt (((Zdd (h2.cls.own k x hkx) (hp x hx)).2 b).2 hxg)).2 hb
  refine ⟨h2.defers,v,h3,v,r,pm',rfl,hR,h2.kept,h2.cls.g,fun x hx=>?_,ZgJ h2.cls.own h2.cls.inj hn hg hp,ZiP (h4.keep (Tai _) (fun _ _ _=>rfl) hS')⟩;obtain ⟨k,hk,hkx⟩:=ZeG hg x hx;have ho:=h2.cls.own k x hkx;have hpo:=Zdd ho (hp x hx);refine ⟨(Zdd (ho.keep (Tai _) (fun _ _ _=>rfl) hS' (fun g hg'=>⟨rfl,fun hs=>hs.2 ⟨x,hx,(hpo.2 g).1 hg'⟩⟩)) (hp x hx)).1,fun g hg'=>?_⟩;rcases h2.cls.mine k x g hkx ((hpo.2 g).2 hg') with q | q
  ·exact .inr q
  ·exact .inl q
 cases ex with
 | normal=>obtain ⟨σ',h1,h2⟩:=hq;exact fin σ' h1 h2
 | ret=>obtain ⟨σ',h1,h2⟩:=hq;exact fin σ' h1 h2
 | exit id=>obtain ⟨σ',h1,h2⟩:=hq;exact h1.elim
 | goto l=>exact hq.elim
 | panic ch=>exact hq.elim
 | outgrown=>exact hq.elim
def ZvZ (P:Program) (slots:List RS) (R:List D->Prop):PX->St->Prop
 | .exit _,_=>False
 | _,σ=>∃ ks r,R r∧ZcO P (frzs ks σ) slots r
theorem ZsP {e:Env} (he:e.Ok) {f:FuncId} {fn:Func} {c:Code} {args:List D} {R:List D->Prop} {ts:List RS} (mask:Nat) (hf:e.P.funcs[f]?=some fn) (hb:fn.body=some c) (hnm:(fn.name == "runtime.NumGoroutine")=false)
  (hok:ZcF fn.ntmps c=true) (hal:Nat.ble args.length fn.ntmps=true) (hres:Zbn fn.results.toList=ts) (h:pwp e mask c ⟨ZdG 0 args,[]⟩ (ZvZ e.P ts R)):ConE e f args R:=by
 refine ⟨by unfold Zcs;rw [hf];simp [hnm,hb],fun w S vs hS hE hG hvs=>?_⟩;have hvl:=hvs.len;have hal:=Nat.le_of_ble_eq_true hal;subst hres;refine calls_of_wp hf hb ?_;have hsim:SimE e (fun _=>False) w S fn.ntmps ⟨ZdG 0 args,[]⟩ { tmps:=vs.toArray++Array.replicate (fn.ntmps - vs.toArray.size) undef,defers:=[] } w:=by
  exact ⟨S,⟨fun _=>0,fun _=>Go.undef⟩,⟨hS,fun b hb=>.inl hb,hE,fun _ h=>h.elim,Tai _,fun k x g hk=>by simp [gm] at hk,fun k x hk=>by simp [gm] at hk,fun k k' x x' g hk=>by simp [gm] at hk,hG⟩,fun t=>ZlQ hvs t,by simp;omega,rfl,Kept.refl _ _ _ _⟩
 refine wp_mono (h he _ _ _ _ _ w hok hsim) fun ex a' w' hq=>?_;have fin:∀ σ',(∃ ks r,R r∧ZcO e.P (frzs ks σ') (Zbn fn.results.toList) r)->SimE e (fun _=>False) w S fn.ntmps σ' a' w'->a'.defers=[]∧∃ v,(results fn a'.tmps).run e.P w'=.ok v w'∧∃ u r,Ending.returned v=.returned u∧R r∧Kept e.D e.E w.heap.size w w'∧e.G w'∧ARel w' (fun b=>S b∨(w.heap.size<=b∧b < w'.heap.size)) ⟨fun _=>0,fun _=>Go.undef⟩ (retA r) u:=by
  intro σ' ⟨ks,r,hr,h1⟩ h2;obtain ⟨S',L',h2⟩:=SimE.frzs he ks σ' h2;obtain ⟨v,h3,h4⟩:=Zh3 h2 h1;refine ⟨h2.defers,v,h3,v,r,rfl,hr,⟨h2.kept.os,h2.kept.tape,h2.kept.output,h2.kept.drawn,h2.kept.size,fun b hb hE=>h2.kept.block b hb (fun h=>h.elim hE id)⟩,h2.cls.g,h4.keep (Tai _) (fun _ _ _=>rfl) (fun b hb=>?_)⟩;rcases h2.cls.sfr b hb with h | h | h
  ·exact .inl h
  ·exact .inr ⟨h,(h2.cls.sin b hb).1⟩
  ·exact h.elim
 cases ex with
 | normal=>obtain ⟨σ',h1,h2⟩:=hq;exact fin σ' h1 h2
 | ret=>obtain ⟨σ',h1,h2⟩:=hq;exact fin σ' h1 h2
 | exit id=>obtain ⟨σ',h1,h2⟩:=hq;exact h1.elim
 | goto l=>exact hq.elim
 | panic ch=>exact hq.elim
 | outgrown=>exact hq.elim
inductive Res where
 | bad
 | done (σ:St)
 | call (q:Bool) (c:Operand) (args:List Operand) (d:Option Nat) (n:Nat) (os:List Oper) (σ:St)
 | map (q:Bool) (d:Option Nat) (n:Nat) (os:List Oper) (σ:St)
 | stop (n:Nat) (os:List Oper) (σ:St)
def Zea (x:Option St) (f:St->Res):Res :=
 match x with
 | some σ=>f σ
 | none=>.bad
def ZkP (d:Option Nat) (next:St->Res) (σ:St):Res:=next ⟨setA σ.s d .no,σ.m⟩
def ZmH (yes no:St->Res) (σ:St):Bool->Res
 | true=>yes σ
 | false=>no σ
def Zgo (want:Bool) (yes no:St->Res) (σ:St):Option A->Res
 | some (.d (.one (.lit (.bool b))))=>ZmH yes no σ (b==want)
 | some .no=>no σ
 | _=>.bad
def qB:Nat->Bool
 | 0=>false
 | _+1=>true
def Zbs (P:Program) (d:Option Nat) (ty:TypeId) (q n:Nat) (os:List Oper) (next:St->Res):Op->St->Res
 | .alloc t,σ=>Zea (if qB q=true then none else newE σ d (ZaD P t)) next
 | .call ⟨.value c,args,_⟩,σ=>.call (qB n) c args.toList d (n - 1) os σ
 | .makeMap _ none,σ=>.map (qB n) d (n - 1) os σ
 | op,σ=>Zea (ZiL P (qB n) σ d ty op) next
def ZbB (P:Program) (ds:List (Option Nat)):Nat->List Oper->St->Res
 | _,[],σ=>.done σ
 | n,⟨d,op,ty,_,_,none⟩::os,σ=>Zbs P d ty (n - 1) n os (ZbB P ds (n - 1) os) op σ
 | n,⟨d,op,ty,_,_,some (j,want)⟩::os,σ=>Zgo want (Zbs P d ty n n os (ZbB P ds (n - 1) os) op) (ZkP d (ZbB P ds (n - 1) os)) σ ((ds[j]?.join).map (gs σ.s))
def runN (P:Program) (ds:List (Option Nat)):Nat->Nat->List Oper->St->Res
 | 0,n,os,σ=>.stop n os σ
 | _+1,_,[],σ=>.done σ
 | j+1,n,⟨d,op,ty,_,_,none⟩::os,σ=>Zbs P d ty (n - 1) n os (runN P ds j (n - 1) os) op σ
 | j+1,n,⟨d,op,ty,_,_,some (i,want)⟩::os,σ=>Zgo want (Zbs P d ty n n os (runN P ds j (n - 1) os) op) (ZkP d (runN P ds j (n - 1) os)) σ ((ds[i]?.join).map (gs σ.s))
def ResQ (e:Env) (ds:List (Option Nat)) (K:St->Prop):Res->Prop
 | .bad=>False
 | .done σ=>K σ
 | .call q c args d n os σ=>∀ (o:Oper) (ts:Array TypeId),o.op=.call ⟨.value c,args.toArray,ts⟩->o.dst=d->Zqe e q o σ (fun σ'=>Runs e ds n os σ' K)
 | .map q d n os σ=>q=false∧∀ b:Nat,Runs e ds n os ⟨setA σ.s d (.d (.one (.lit (.map (some b))))),σ.m⟩ K
 | .stop n os σ=>Runs e ds n os σ K
theorem Zf2 {e:Env} {ds:List (Option Nat)} {os:List Oper} {K:St->Prop} {n q:Nat} {next:St->Res} (ih:∀ σ,ResQ e ds K (next σ)->Runs e ds (n - 1) os σ K) {o:Oper} {σ:St} (hq:q=n∨∀ t,o.op≠.alloc t) (h:ResQ e ds K (Zbs e.P o.dst o.type q n os next o.op σ)) :
  Zqe e (qB n) o σ (fun σ'=>Runs e ds (n - 1) os σ' K):=by
 unfold Zbs at h;split at h
 ·rename_i t ho;rcases hq with hq | hq
  ·subst hq;unfold Zea at h;split at h
   ·rename_i σ' hσ
    cases hq:qB q with
    | true=>rw [hq] at hσ;simp at hσ
    | false =>
     rw [hq] at hσ;show ZbG e o _ (fun σ'=>Runs e ds (q - 1) os σ' K);refine Zxn (σ':=σ') ?_ (ih σ' h);simp only [ho,ZiL];exact hσ
   ·exact h.elim
  ·exact (hq t ho).elim
 ·rename_i c args ts ho;exact h o ts (by rw [ho]) rfl
 ·rename_i t ho;obtain ⟨h1,h2⟩:=h;rw [h1];exact ZqM ho h2
 ·rename_i op σ1 hne0 hne hne2 ho;unfold Zea at h;split at h
  ·rename_i σ' hσ
   cases hq:qB n with
   | true =>
    rw [hq] at hσ;show Zfq e o _ (fun σ'=>Runs e ds (n - 1) os σ' K);exact ZEh hσ (ih σ' h)
   | false =>
    rw [hq] at hσ;show ZbG e o _ (fun σ'=>Runs e ds (n - 1) os σ' K);exact Zxn hσ (ih σ' h)
  ·exact h.elim
theorem ZoO {e:Env} {ds:List (Option Nat)} {K:St->Prop} {n:Nat} {os:List Oper} {o:Oper} {σ:St} {next:St->Res} (hg:o.guard=none) (ih:∀ σ,ResQ e ds K (next σ)->Runs e ds (n - 1) os σ K) (h:ResQ e ds K (Zbs e.P o.dst o.type (n - 1) n os next o.op σ)):Runs e ds n (o::os) σ K:=by
 have alloc:∀ t,o.op=.alloc t->qB (n - 1)=false∧∃ d cs,o.dst=some d∧ZaD e.P t=some cs∧Runs e ds (n - 1) os ⟨(d,.ref d 0)::Zau d σ.s,(d,.var none cs)::remM d σ.m⟩ K:=fun t ho=>by
  rw [ho] at h;simp only [Zbs] at h;unfold Zea at h;split at h
  ·rename_i σ' hσ;split at hσ
   ·cases hσ
   ·rename_i hq;unfold newE at hσ;split at hσ
    ·rename_i d cs hd hz;injection hσ with hσ
     exact ⟨by simpa using hq,d,cs,hd,hz,by rw [hσ];exact ih _ h⟩
    ·cases hσ
  ·exact h.elim
 cases n with
 | zero =>
  simp only [Runs];have h1:=Zf2 (n:=0) (q:=0) ih (.inl rfl) h;have h1:ZbG e o σ (fun σ'=>Runs e ds 0 os σ' K):=h1;simp only [Runs] at h1;exact Zde hg h1
 | succ n =>
  simp only [Runs,hg];by_cases hal:∃ t,o.op=.alloc t
  ·obtain ⟨t,ho⟩:=hal;obtain ⟨h1,d,cs,h2,h3,h4⟩:=alloc t ho;have hn:n=0:=by
    cases n with
    | zero=>rfl
    | succ k=>cases h1
   subst hn;have hia:isAl o=true:=by
    obtain ⟨od,oo,ot,op,oa,og⟩:=o;simp only at ho h2 hg;subst ho h2 hg;rfl
   simp only [hia,and_self,if_true];simp only [Nat.add_sub_cancel,Runs] at h4;exact ⟨d,t,cs,h2,ho,h3,h4⟩
  ·have hna:¬ (n=0∧isAl o=true):=fun ⟨_,h2⟩=>by
    unfold isAl at h2;split at h2
    ·exact hal ⟨_,rfl⟩
    ·cases h2
   rw [if_neg hna];exact Zf2 ih (.inr fun t ht=>hal ⟨t,ht⟩) h
theorem Zv0 {e:Env} {ds:List (Option Nat)} {K:St->Prop} {n:Nat} {os:List Oper} {o:Oper} {σ:St} {j:Nat} {want:Bool} (hg:o.guard=some (j,want)) (h:match (ds[j]?.join).map (gs σ.s) with
   | some (.d (.one (.lit (.bool b))))=>if b=want then Zqe e (qB n) o σ (fun σ'=>Runs e ds (n - 1) os σ' K) else Runs e ds (n - 1) os ⟨setA σ.s o.dst .no,σ.m⟩ K
   | some .no=>Runs e ds (n - 1) os ⟨setA σ.s o.dst .no,σ.m⟩ K
   | _=>False):Runs e ds n (o::os) σ K:=by
 cases n with
 | zero =>
  simp only [Runs];refine ZsM hg ?_;split at h
  ·rename_i b hb
   try simp only [hb]
   split at h
   ·rename_i hbw;rw [if_pos hbw];have h:ZbG e o σ (fun σ'=>Runs e ds 0 os σ' K):=h;simpa only [Runs] using h
   ·rename_i hbw;rw [if_neg hbw];have h:Runs e ds 0 os ⟨setA σ.s o.dst .no,σ.m⟩ K:=h;simpa only [Runs] using h
  ·rename_i hb
   try simp only [hb]
   have h:Runs e ds 0 os ⟨setA σ.s o.dst .no,σ.m⟩ K:=h;simpa only [Runs] using h
  ·exact h.elim
 | succ n =>
  simp only [Runs,hg];exact h
theorem ZjU {e:Env} {ds:List (Option Nat)} {K:St->Prop} {n:Nat} {os:List Oper} {d:Option Nat} {op:Op} {ty:TypeId} {pos:String} {aft:Array Edge} {j:Nat} {want:Bool} {next:St->Res} (ih:∀ σ,ResQ e ds K (next σ)->Runs e ds (n - 1) os σ K) {σ:St}
  (h:ResQ e ds K (Zgo want (Zbs e.P d ty n n os next op) (ZkP d next) σ ((ds[j]?.join).map (gs σ.s)))):Runs e ds n (⟨d,op,ty,pos,aft,some (j,want)⟩::os) σ K:=by
 refine Zv0 rfl ?_;unfold Zgo at h;split at h
 ·rename_i b hb;simp only [hb];unfold ZmH at h;split at h
  ·rename_i hbw;rw [if_pos (by simpa using hbw)];exact Zf2 (o:=⟨d,op,ty,pos,aft,some (j,want)⟩) ih (.inl rfl) h
  ·rename_i hbw;rw [if_neg (by simpa using hbw)];exact ih _ h
 ·rename_i hb;simp only [hb];exact ih _ h
 ·exact h.elim
theorem ZaT {e:Env} {ds:List (Option Nat)} {K:St->Prop} {n:Nat} {σ:St} (h:K σ):Runs e ds n [] σ K:=by
 cases n with
 | zero=>simp only [Runs];exact Zxs h
 | succ n=>exact h
theorem ZeR {e:Env} {ds:List (Option Nat)} {K:St->Prop}:∀ (os:List Oper) (n:Nat) (σ:St),ResQ e ds K (ZbB e.P ds n os σ)->Runs e ds n os σ K
 | [],n,σ,h=>ZaT h
 | ⟨d,op,ty,pos,aft,none⟩::os,n,σ,h=>ZoO (o:=⟨d,op,ty,pos,aft,none⟩) rfl (ZeR os (n - 1)) h
 | ⟨d,op,ty,pos,aft,some (j,want)⟩::os,n,σ,h=>ZjU (ZeR os (n - 1)) h
theorem Zn7 {e:Env} {ds:List (Option Nat)} {K:St->Prop}:∀ (j:Nat) (os:List Oper) (n:Nat) (σ:St),ResQ e ds K (runN e.P ds j n os σ)->Runs e ds n os σ K
 | 0,os,n,σ,h=>h
 | j+1,[],n,σ,h=>ZaT h
 | j+1,⟨d,op,ty,pos,aft,none⟩::os,n,σ,h=>ZoO (o:=⟨d,op,ty,pos,aft,none⟩) rfl (Zn7 j os (n - 1)) h
 | j+1,⟨d,op,ty,pos,aft,some (i,want)⟩::os,n,σ,h=>ZjU (Zn7 j os (n - 1)) h
def Zqg (c:A) (xs:Option (List D)) (σ:St):Option (FuncId × List D × St) :=
 match Zc3 c,xs with
 | some (f,caps),some xs=>some (f,xs++caps.map .one,σ)
 | _,_=>none
def Zqh (c:Operand) (args:List Operand):Option St->Option (FuncId × List D × St)
 | some σ=>Zqg (evA σ.s c) (dsA (args.map (evA σ.s))) σ
 | none=>none
def Zfz (q:Bool) (c:Operand) (args:List Operand) (σ:St):Option (FuncId × List D × St):=Zqh c args (frzQ q (Zev (args.map (evA σ.s))) σ)
def Zqi (f:Option (FuncId × List C)) (k:Nat) (xs:Option (List D)):Option Bk->Option (FuncId × Nat × Nat × Nat × List (List C) × List D)
 | some (.buf _ ty sz rows)=>match f,xs with
  | some (f,caps),some xs=>some (f,k,ty,sz,rows,xs++caps.map .one)
  | _,_=>none
 | _=>none
def Zqj (m:List (Nat × Bk)) (f:Option (FuncId × List C)) (xs:Option (List D)):A->Option (FuncId × Nat × Nat × Nat × List (List C) × List D)
 | .buf k=>Zqi f k xs (gm m k)
 | _=>none
def ZmI (c:Operand) (x0:Operand) (rest:List Operand) (σ:St):Option (FuncId × Nat × Nat × Nat × List (List C) × List D):=Zqj σ.m (Zc3 (evA σ.s c)) (dsA (rest.map (evA σ.s))) (nrm σ.m (evA σ.s x0))
section
variable {e:Env} {mask:Nat} {σ:St} {Q:PX->St->Prop} {ds:List (Option Nat)} {K:St->Prop} {os os':List Oper} {n n':Nat} {s1 s2 s3:List (Nat × A)} {m1 m2 m3:List (Nat × Bk)}
theorem Zgp {σ':St} (h:ZbB e.P ds n os σ=.done σ') (hK:K σ'):Runs e ds n os σ K:=ZeR os n σ (by rw [h];exact hK)
theorem ZqU {ks:List Nat} {σ σ':St} (hf:frzQ false ks σ=some σ'):frzs ks σ=σ':=by
 unfold frzQ at hf;split at hf
 ·injection hf with hf
 ·simpa using hf
theorem ZgL {q:Bool} {c:Operand} {args:List Operand} {f:FuncId} {xs:List D} {σ':St} (h1:Zfz q c args σ=some (f,xs,σ')):∃ caps ys,frzQ q (Zev (args.map (evA σ.s))) σ=some σ'∧Zc3 (evA σ'.s c)=some (f,caps)∧dsA (args.map (evA σ'.s))=some ys∧xs=ys++caps.map .one:=by
 unfold Zfz Zqh at h1;split at h1
 ·rename_i σ1 hf;unfold Zqg at h1;split at h1
  ·rename_i f' caps xs' hcal hds;simp only [Taq,Prod.mk.injEq] at h1;obtain ⟨rfl,rfl,rfl⟩:=h1;exact ⟨caps,xs',hf,hcal,hds,rfl⟩
  ·cases h1
 ·cases h1
theorem ZEi {q:Bool} {c:Operand} {args:List Operand} {f:FuncId} {xs:List D} {d:Option Nat} {r:List D} (h:ZbB e.P ds n os σ=.call q c args d n' os' ⟨s1,m1⟩) (h1:Zfz q c args ⟨s1,m1⟩=some (f,xs,⟨s2,m2⟩)) (hc:Con e f xs r) (h2:setA s2 d (retA r)=s3) (hK:Runs e ds n' os' ⟨s3,m2⟩ K):Runs e ds n os σ K:=by
 refine ZeR os n σ ?_;rw [h];intro o ts ho hd;obtain ⟨caps,ys,hf,hcal,hds,rfl⟩:=ZgL h1;exact ZBp ho hf hcal hds hc (by rw [hd,h2];exact hK)
theorem ZBx {c:Operand} {args:List Operand} {f:FuncId} {xs:List D} {d ty sz:Nat} {rows:List (List C)} (h:ZbB e.P ds n os σ=.call false c args (some d) n' os' ⟨s1,m1⟩) (h1:Zfz false c args ⟨s1,m1⟩=some (f,xs,⟨s2,m2⟩)) (hc:ConR e f xs ty sz rows) (h2:Zau d s2=s3) (h3:remM d m2=m3) (hK:Runs e ds n' os' ⟨(d,.buf d)::s3,(d,.buf none ty sz rows)::m3⟩ K):Runs e ds n os σ K:=by
 refine ZeR os n σ ?_;rw [h];intro o ts ho hd;obtain ⟨caps,ys,hf,hcal,hds,rfl⟩:=ZgL h1;exact ZjM (ZdF _ (ZqU hf)) (fun σ'' hσ=>by subst hσ;exact ZE4 ho hd hcal hds hc (by simp only [h2,h3];exact hK))
theorem ZBy {d:Option Nat} (h:ZbB e.P ds n os σ=.map false d n' os' ⟨s1,m1⟩) (hK:∀ b:Nat,Runs e ds n' os' ⟨setA s1 d (.d (.one (.lit (.map (some b))))),m1⟩ K):Runs e ds n os σ K:=by
 refine ZeR os n σ ?_;rw [h];exact ⟨rfl,hK⟩
theorem Zxt {P:Program} {d:Option Nat} {ty:TypeId} {n:Nat} {os:List Oper} {nx:St->Res} {q:Nat} {t:TypeId} {s:List (Nat × A)} {m:List (Nat × Bk)}:Zbs P d ty q n os nx (.makeMap t none) ⟨s,m⟩=.map (qB n) d (n - 1) os ⟨s,m⟩:=rfl
theorem ZBz {c:Operand} {args:List Operand} {f:FuncId} {xs:List D} {d:Option Nat} {R:List D->Prop} (h:ZbB e.P ds n os σ=.call false c args d n' os' ⟨s1,m1⟩) (h1:Zfz false c args ⟨s1,m1⟩=some (f,xs,⟨s2,m2⟩)) (hc:ConE e f xs R) (hK:∀ r,R r->Runs e ds n' os' ⟨setA s2 d (retA r),m2⟩ K):Runs e ds n os σ K:=by
 refine ZeR os n σ ?_;rw [h];intro o ts ho hd;obtain ⟨caps,ys,hf,hcal,hds,rfl⟩:=ZgL h1;exact ZjM (ZdF _ (ZqU hf)) (fun σ'' hσ=>by subst hσ;exact Zxo ho hcal hds hc (fun r hr=>by rw [hd];exact hK r hr))
theorem ZBA {c:Operand} {args:List Operand} {f:FuncId} {xs:List D} {d:Option Nat} (ks ks':List Nat) {pm:List Bk} {R:List D->List Bk->Prop} (h:ZbB e.P ds n os σ=.call false c args d n' os' ⟨s1,m1⟩) (h1:Zfz false c args ⟨s1,m1⟩=some (f,xs,⟨s2,m2⟩)) (hc:ConP e f xs pm R) (hpm:getM m2 ks=some pm) (hpn:pm.all pinned=true) (hn:ks.Nodup)
  (hk:Zdw (ks++ks') s2=s3) (hr:Zdz (ks++ks') m2=m3) (hK:∀ r pm',R r pm'->Runs e ds n' os' ⟨setA s3 d (retA r),zipM ks' pm'++m3⟩ K):Runs e ds n os σ K:=by
 refine ZeR os n σ ?_;rw [h];intro o ts ho hd;obtain ⟨caps,ys,hf,hcal,hds,rfl⟩:=ZgL h1;exact ZjM (ZdF _ (ZqU hf)) (fun σ'' hσ=>by subst hσ;exact ZE6 ho ks ks' hn hpm hpn hcal hds hc (fun r pm' hR=>by rw [hd];simp only [hk,hr];exact hK r pm' hR))
theorem Zv1 {c x0:Operand} {rest:List Operand} {f:FuncId} {k ty sz:Nat} {rows:List (List C)} {xs:List D} (h1:ZmI c x0 rest σ=some (f,k,ty,sz,rows,xs)):∃ oa caps ys,nrm σ.m (evA σ.s x0)=.buf k∧gm σ.m k=some (.buf oa ty sz rows)∧Zc3 (evA σ.s c)=some (f,caps)∧dsA (rest.map (evA σ.s))=some ys∧xs=ys++caps.map .one:=by
 unfold ZmI Zqj at h1;split at h1
 ·rename_i k' hk;unfold Zqi at h1;split at h1
  ·rename_i oa ty' sz' rows0 hm;split at h1
   ·rename_i f' caps xs' hcal hds;simp only [Taq,Prod.mk.injEq] at h1;obtain ⟨rfl,rfl,rfl,rfl,rfl,rfl⟩:=h1;exact ⟨oa,caps,xs',hk,hm,hcal,hds,rfl⟩
   ·cases h1
  ·cases h1
 ·cases h1
theorem ZBB {c x0:Operand} {rest:List Operand} {f:FuncId} {xs:List D} {d:Option Nat} {k ty sz:Nat} {rows rows':List (List C)} {r:List D} {oa:Option (Option Addr × Nat)} (h:ZbB e.P ds n os σ=.call false c (x0::rest) d n' os' ⟨s1,m1⟩) (h1:ZmI c x0 rest ⟨s1,m1⟩=some (f,k,ty,sz,rows,xs)) (hm:gm m1 k=some (.buf oa ty sz rows)) (hc:ConI e f ty sz rows xs rows' r) (hl:rows'.length=rows.length) (h2:setA s1 d (retA r)=s3) (h3:remM k m1=m3) (hK:Runs e ds n' os' ⟨s3,(k,.buf oa ty sz rows')::m3⟩ K):Runs e ds n os σ K:=by
 refine ZeR os n σ ?_;rw [h];intro o ts ho hd;obtain ⟨oa',caps,ys,hk,hm',hcal,hds,rfl⟩:=Zv1 h1;exact ZE5 ho rfl hk hm hcal hds hc hl (by rw [hd];simp only [h2,h3];exact hK)
theorem Zfs {P:St->Prop} (hT:Turn e σ P) (h:∀ σ',P σ'->Runs e ds 0 os σ' K):Runs e ds 0 os σ K:=by
 simp only [Runs] at h ⊢;exact ZvX hT h
def ZmJ:Res->Option (Nat × List Oper × List (Nat × A) × List (Nat × Bk))
 | .stop n os σ=>some (n,os,σ.s,σ.m)
 | _=>none
theorem Zxu (j:Nat) (h:ZmJ (runN e.P ds j n os σ)=some (n',os',s1,m1)) (hK:Runs e ds n' os' ⟨s1,m1⟩ K):Runs e ds n os σ K:=by
 refine Zn7 j os n σ ?_
 cases hr:runN e.P ds j n os σ with
 | stop n1 os1 σ1 =>
  rw [hr] at h;simp only [ZmJ,Taq,Prod.mk.injEq] at h;obtain ⟨rfl,rfl,rfl,rfl⟩:=h;exact hK
 | _=>rw [hr] at h;cases h
theorem ZsQ {d t ty:Nat} {p:String} {ed:Array Edge} {parts:List (Nat × Operand)} {s:List (Nat × A)} {m:List (Nat × Bk)} {cs cs':List C} (hz:Zdc e.P t=some cs) (hst:ZaN e.P t=true) (hok:cs.all ZaB=true) (hf:ZdX e.P t cs (parts.map fun p=>(p.1,evA s p.2))=some cs')
  (hK:Runs e ds 0 os ⟨(d,.d (.agg cs'))::s,m⟩ K):Runs e ds 0 (⟨some d,.build t parts.toArray,ty,p,ed,none⟩::os) ⟨s,m⟩ K:=by
 simp only [Runs] at hK ⊢;exact Zde rfl (ZsL (o:=⟨some d,.build t parts.toArray,ty,p,ed,none⟩) rfl hz hst hok hf hK)
theorem ZBC {id:Nat} {l:List Oper} {σ1:St} (ks:List Nat) (hf:frzs ks σ=σ1) (hds:l.map (·.dst)=ds) (h:Runs e ds 0 l σ1 (Zdf mask Q)):pwp e mask (.region id l.toArray false) σ Q :=
 Zda (ZdF ks hf) (fun σ' hσ=>by subst hσ;exact ZmG 0 rfl (by subst hds;exact h))
theorem ZBD {id:Nat} {l:List Oper} (hds:l.map (·.dst)=ds) (h:Runs e ds 0 l σ (Zdf mask Q)):pwp e mask (.region id l.toArray false) σ Q:=ZBC [] rfl hds h
theorem Zxv {id:Nat} {l:List Oper} {σ1:St} (n:Nat) (ks:List Nat) (hf:frzs ks σ=σ1) (hr:regX l.toArray n=true) (hds:l.map (·.dst)=ds) (h:Runs e ds n l σ1 (Zdf mask Q)):pwp e mask (.region id l.toArray true) σ Q :=
 Zda (ZdF ks hf) (fun σ' hσ=>by subst hσ;exact ZmG n (by simpa using hr) (by subst hds;exact h))
theorem ZBE {id:Nat} {l:List Oper} (n:Nat) (hr:regX l.toArray n=true) (hds:l.map (·.dst)=ds) (h:Runs e ds n l σ (Zdf mask Q)):pwp e mask (.region id l.toArray true) σ Q:=Zxv n [] rfl hr hds h
theorem Wk.refl (σ:St):Wk σ σ:=⟨fun _=>.inl rfl,fun _ _ h=>h⟩
theorem Zxw {c:Operand} {a b:Code} (hc:evA σ.s c=.d (.one (.lit (.bool true)))) (h:pwp e mask a σ Q):pwp e mask (.cond c a b) σ Q:=ZqS hc (fun _=>h) (fun h=>by cases h)
theorem Zxx {c:Operand} {a b:Code} (hc:evA σ.s c=.d (.one (.lit (.bool false)))) (h:pwp e mask b σ Q):pwp e mask (.cond c a b) σ Q:=ZqS hc (fun h=>by cases h) (fun _=>h)
theorem ZmK {P:Program} {ts:List RS} {r:List D} (h:ZcO P σ ts r):retQ P ts r .ret σ:=⟨[],h⟩
theorem ZE7 {P:Program} {ts:List RS} {r:List D} {σ1:St} (ks:List Nat) (hf:frzs ks σ=σ1) (h:ZcO P σ1 ts r):retQ P ts r .ret σ:=⟨ks,by rw [hf];exact h⟩
end
section
variable {P:Program} {d:Option Nat} {ds:List (Option Nat)} {os:List Oper} {q n:Nat} {ty:TypeId} {nx:St->Res} {s:List (Nat × A)} {m:List (Nat × Bk)} {σ:St}
def Zdg (nx:St->Res) (s:List (Nat × A)) (m:List (Nat × Bk)) (d:Option Nat):Option A->Res
 | some α=>nx ⟨setA s d α,m⟩
 | none=>.bad
theorem ZmL {α:A}:Zdg nx s m d (some α)=nx ⟨setA s d α,m⟩:=rfl
theorem Zb0 {x:Option A}:Zea (putE ⟨s,m⟩ d x) nx=Zdg nx s m d x:=by cases x <;> rfl
theorem Zxy:ZbB P ds n [] ⟨s,m⟩=.done ⟨s,m⟩:=rfl
theorem ro_n {op:Op} {t:TypeId} {p:String} {a:Array Edge}:ZbB P ds n (⟨d,op,t,p,a,none⟩::os) ⟨s,m⟩=Zbs P d t (n - 1) n os (ZbB P ds (n - 1) os) op ⟨s,m⟩:=rfl
theorem ro_g {op:Op} {t:TypeId} {p:String} {a:Array Edge} {j:Nat} {w:Bool}:ZbB P ds n (⟨d,op,t,p,a,some (j,w)⟩::os) ⟨s,m⟩=Zgo w (Zbs P d t n n os (ZbB P ds (n - 1) os) op) (ZkP d (ZbB P ds (n - 1) os)) ⟨s,m⟩ ((ds[j]?.join).map (gs s)):=rfl
theorem Zxz {y x:St->Res} {b w:Bool}:Zgo w y x σ (some (.d (.one (.lit (.bool b)))))=ZmH y x σ (b==w):=rfl
theorem pk_t {y x:St->Res}:ZmH y x σ true=y σ:=rfl
theorem pk_f {y x:St->Res}:ZmH y x σ false=x σ:=rfl
theorem sk_r:ZkP d nx ⟨s,m⟩=nx ⟨setA s d .no,m⟩:=rfl
theorem g_no {y x:St->Res} {w:Bool}:Zgo w y x σ (some .no)=x σ:=rfl
theorem qB_0:qB 0=false:=rfl
theorem qB_s {k:Nat}:qB (k+1)=true:=rfl
theorem ZxA {x:Operand}:Zbs P d ty q n os nx (.move x) ⟨s,m⟩=nx ⟨setA s d (evA s x),m⟩:=rfl
theorem ZxB {c a b:Operand}:Zbs P d ty q n os nx (.pick c a b) ⟨s,m⟩=Zdg nx s m d (Zqb (evA s a) (evA s b) (evA s c)):=Zb0
theorem ZxC {t:TypeId} {x:Operand}:Zbs P d ty q n os nx (.load t x) ⟨s,m⟩=Zdg nx s m d (Zfg (ZaG P t) (ptrA m (nrm m (evA s x)))):=Zb0
theorem Zlf {t:TypeId} {x:Operand} {f:Nat}:Zbs P d ty q n os nx (.fieldAddr t x f) ⟨s,m⟩=Zdg nx s m d (ZdE (evA s x) (offT P t f)):=Zb0
theorem ZtV {t:TypeId} {x:Operand} {f:Nat}:Zbs P d ty q n os nx (.field t x f) ⟨s,m⟩=Zdg nx s m d (ZjE P (evA s x) (offT P t f)):=Zb0
theorem Zlg {t:TypeId} {x i:Operand}:Zbs P d ty q n os nx (.indexAddr t x i) ⟨s,m⟩=Zdg nx s m d (Zd8 m (Zbc P t) (nrm m (evA s x)) (evA s i)):=Zb0
theorem ZtW {t:TypeId} {x i:Operand}:Zbs P d ty q n os nx (.index t x i) ⟨s,m⟩=Zdg nx s m d (ZjF (P.underlying t) (evA s x) (evA s i)):=Zb0
theorem ZCD {op:BinOp} {t t':TypeId} {x y:Operand}:Zbs P d ty q n os nx (.binOp op t x y t') ⟨s,m⟩=Zdg nx s m d (binA P t op (evA s x) (evA s y)):=Zb0
theorem R_un {op:UnOp} {t:TypeId} {x:Operand}:Zbs P d ty q n os nx (.unOp op t x) ⟨s,m⟩=Zdg nx s m d (unA op (evA s x)):=Zb0
theorem ZoP {x:Operand} {i:Nat}:Zbs P d ty q n os nx (.extract x i) ⟨s,m⟩=Zdg nx s m d (Zha i (evA s x)):=Zb0
theorem ZCE {x:Operand}:Zbs P d ty q n os nx (.nilCheck x) ⟨s,m⟩=Zdg nx s m d (nilA (evA s x)):=Zb0
theorem ZxD {a b:TypeId} {x:Operand}:Zbs P d ty q n os nx (.convert a b x) ⟨s,m⟩=Zdg nx s m d (ZkI P a b (evA s x)):=Zb0
theorem ZtX {t:TypeId} {x:Operand} {lo hi mx:Option Operand}:Zbs P d ty q n os nx (.slice t x lo hi mx) ⟨s,m⟩=Zdg nx s m d (ZfO P t (evA s x) (lo.map (evA s)) (hi.map (evA s)) (mx.map (evA s))):=Zb0
theorem ZCF {args:List Operand} {ts:Array TypeId}:Zbs P d ty q n os nx (.call ⟨.builtin .len,args.toArray,ts⟩) ⟨s,m⟩=Zdg nx s m d (lenA m (lenT P ts) (args.map fun x=>nrm m (evA s x))):=Zb0
theorem ZCG {args:List Operand} {ts:Array TypeId}:Zbs P d ty q n os nx (.call ⟨.builtin .max,args.toArray,ts⟩) ⟨s,m⟩=Zdg nx s m d (maxA (args.map (evA s))):=Zb0
theorem ZCH {args:List Operand} {ts:Array TypeId}:Zbs P d ty q n os nx (.call ⟨.builtin .min,args.toArray,ts⟩) ⟨s,m⟩=Zdg nx s m d (minA (args.map (evA s))):=Zb0
theorem ZxE {c:Operand} {args:List Operand} {ts:Array TypeId}:Zbs P d ty q n os nx (.call ⟨.value c,args.toArray,ts⟩) ⟨s,m⟩=.call (qB n) c args d (n - 1) os ⟨s,m⟩:=rfl
def ZmM (nx:St->Res) (d:Option Nat) (f:List (Nat × A)->List (Nat × Bk)->Option A):Option St->Res
 | some σ=>Zdg nx σ.s σ.m d (f σ.s σ.m)
 | none=>.bad
theorem ZtY {f:List (Nat × A)->List (Nat × Bk)->Option A}:ZmM nx d f (some ⟨s,m⟩)=Zdg nx s m d (f s m):=rfl
theorem ZlR {op:Op} {x:Option St} {f:List (Nat × A)->List (Nat × Bk)->Option A} (h:∀ s m,ZhK P m (evA s) op=f s m):Zea (ZhL P d op x) nx=ZmM nx d f x:=by
 cases x with
 | none=>rfl
 | some σ =>
  obtain ⟨s',m'⟩:=σ;show Zea (putE ⟨s',m'⟩ d (ZhK P m' (evA s') op)) nx=_;rw [Zb0,h];rfl
theorem ZtZ {t:TypeId} {parts:List (Nat × Operand)}:Zbs P d ty q n os nx (.build t parts.toArray) ⟨s,m⟩=ZmM nx d (fun s m=>Zik P t (parts.map fun p=>(p.1,evA s p.2))) (frzQ (qB n) (Zev (parts.map fun p=>evA s p.2)) ⟨s,m⟩):=ZlR (fun _ _=>rfl)
theorem ZjV {t:TypeId} {k:Nat} {parts:List (Nat × Operand)}:Zbs P d ty q n os nx (.buildSlice t k parts.toArray) ⟨s,m⟩=ZmM nx d (fun s m=>Ze3 (Za2 P t) k (parts.map fun p=>(p.1,evA s p.2))) (frzQ (qB n) (Zev (parts.map fun p=>evA s p.2)) ⟨s,m⟩):=ZlR (fun _ _=>rfl)
theorem ZmN {f:FuncId} {caps:List Operand}:Zbs P d ty q n os nx (.makeFunc (.func f) #[] caps.toArray) ⟨s,m⟩=ZmM nx d (fun s m=>fnA f (csA (caps.map (evA s)))) (frzQ (qB n) (Zev (caps.map (evA s))) ⟨s,m⟩):=ZlR (fun _ _=>rfl)
theorem ZxF {q:Bool}:frzQ q [] σ=some σ:=rfl
theorem Zt0 {k:Nat} {ks:List Nat}:frzQ false (k::ks) σ=some (frzs (k::ks) σ):=rfl
theorem ZxG:frzs [] σ=σ:=rfl
theorem Zt1 {k:Nat} {ks:List Nat}:frzs (k::ks) ⟨s,m⟩=frzs ks (frzB k ⟨s,m⟩ (gm m k)):=rfl
theorem Zt2 {k:Nat} {bk:Bk}:frzB k ⟨s,m⟩ (some bk)=⟨frzS k bk s,remM k m⟩:=rfl
theorem Zt3 {k:Nat}:frzB k ⟨s,m⟩ none=⟨s,m⟩:=rfl
theorem ZxH {k:Nat} {bk:Bk}:frzS k bk []=[]:=rfl
theorem Zt4 {k t:Nat} {bk:Bk} {a:A} {r:List (Nat × A)}:frzS k bk ((t,a)::r)=(t,frzA k bk a)::frzS k bk r:=rfl
theorem ZqV {k:Nat} {bk:Bk}:frzA k bk .undef=.undef:=rfl
theorem ZCI {k:Nat} {bk:Bk}:frzA k bk .no=.no:=rfl
theorem fA_d {k:Nat} {bk:Bk} {x:D}:frzA k bk (.d x)=.d x:=rfl
theorem ZxI {k:Nat} {bk:Bk} {x:List D}:frzA k bk (.tup x)=.tup x:=rfl
theorem ZCJ {k k' off:Nat} {o:Option Nat} {cs:List C}:frzA k (.var o cs) (.ref k' off)=if k'=k then .d (.one (.ptr (cs.drop off))) else .ref k' off:=rfl
theorem ZCK {k k' off e sz:Nat} {o:Option (Option Addr × Nat)} {rows:List (List C)}:frzA k (.buf o e sz rows) (.ref k' off)=if k'=k then .undef else .ref k' off:=rfl
theorem ZCL {k k':Nat} {o:Option Nat} {cs:List C}:frzA k (.var o cs) (.buf k')=if k'=k then .undef else .buf k':=rfl
theorem ZCM {k k' e sz:Nat} {o:Option (Option Addr × Nat)} {rows:List (List C)}:frzA k (.buf o e sz rows) (.buf k')=if k'=k then .d (.one (.sl rows)) else .buf k':=rfl
theorem ZxJ {k k' j sz off:Nat} {bk:Bk}:frzA k bk (.row k' j sz off)=if k'=k then .undef else .row k' j sz off:=rfl
theorem ky_d {x:D}:keyA (.d x)=[]:=rfl
theorem ZxK {k off:Nat}:keyA (.ref k off)=[k]:=rfl
theorem ZxL {k:Nat}:keyA (.buf k)=[k]:=rfl
theorem ZxM {k j sz off:Nat}:keyA (.row k j sz off)=[]:=rfl
theorem Zt5:Zev []=[]:=rfl
theorem ZqW {a:A} {r:List A}:Zev (a::r)=keyA a++Zev r:=rfl
theorem Zt6 {t:TypeId}:Zbs P d ty q n os nx (.alloc t) ⟨s,m⟩=Zea (if qB q=true then none else newE ⟨s,m⟩ d (ZaD P t)) nx:=rfl
theorem ZCN {t:TypeId} {x:Operand}:Zbs P d ty q n os nx (.box t x) ⟨s,m⟩=Zea (if qB n=true then none else ZkL d x (frzQ (qB n) (keyA (evA s x)) ⟨s,m⟩)) nx:=rfl
theorem Zt7 {t:TypeId} {x y:Operand}:Zbs P d ty q n os nx (.store t x y) ⟨s,m⟩=Zea (if qB n=true then none else ZhM P d t x y (frzQ (qB n) (keyA (evA s y)) ⟨s,m⟩)) nx:=rfl
theorem ZqX {x:Operand}:Zbs P d ty q n os nx (.assign x) ⟨s,m⟩=Zea (if qB n=true then none else Zd2 P ⟨s,m⟩ d ty (evA s x)) nx:=rfl
theorem Zlh {t:TypeId} {l c:Operand}:Zbs P d ty q n os nx (.makeSlice t l c) ⟨s,m⟩=Zea (if qB n=true then none else ZiK P ⟨s,m⟩ d t (evA s l) (evA s c)) nx:=rfl
theorem ZqY {args:List Operand} {ts:Array TypeId}:Zbs P d ty q n os nx (.call ⟨.builtin .append,args.toArray,ts⟩) ⟨s,m⟩=Zea (if qB n=true then none else Zg1 P ⟨s,m⟩ d ts (args.map fun x=>nrm m (evA s x))) nx:=rfl
theorem ZxN:Zea (some σ) nx=nx σ:=rfl
theorem ZxO {k:Nat} {cs:List C}:newE ⟨s,m⟩ (some k) (some cs)=some ⟨(k,.ref k 0)::Zau k s,(k,.var none cs)::remM k m⟩:=rfl
theorem Zt8 {x:Operand}:ZkL d x (some ⟨s,m⟩)=newE ⟨s,m⟩ d (ZcW (evA s x)):=rfl
theorem Zt9 {t:TypeId} {x y:Operand}:ZhM P d t x y (some ⟨s,m⟩)=Zil ⟨s,m⟩ d (nrm m (evA s x)) (ZcW (evA s y)) (ZaH P t):=rfl
theorem ZCO {k off k2:Nat} {us:List C}:Zil ⟨s,m⟩ none (.ref k off) (some us) (some k2)=storeVar ⟨s,m⟩ k off k2 us (gm m k):=rfl
theorem ZCP {k j sz off k2:Nat} {us:List C}:Zil ⟨s,m⟩ none (.row k j sz off) (some us) (some k2)=storeRow ⟨s,m⟩ k j sz off k2 us (gm m k):=rfl
theorem ZCQ {o:Option Nat} {k off k2:Nat} {us cs:List C}:storeVar ⟨s,m⟩ k off k2 us (some (.var o cs))=if us.length=k2∧off+k2<=cs.length then some ⟨s,(k,.var o (cs.take off++us++cs.drop (off+k2)))::remM k m⟩ else none:=rfl
def ZqZ (s:List (Nat × A)) (m:List (Nat × Bk)) (o:Option (Option Addr × Nat)) (k j e sz off k2:Nat) (us:List C) (rows:List (List C)):Option (List C)->Option St
 | some r=>if us.length=k2∧off+k2<=r.length then some ⟨s,(k,.buf o e sz (rows.set j (r.take off++us++r.drop (off+k2))))::remM k m⟩ else none
 | none=>none
theorem ZCR {o:Option (Option Addr × Nat)} {k j sz sz' off k2 e:Nat} {us:List C} {rows:List (List C)}:storeRow ⟨s,m⟩ k j sz off k2 us (some (.buf o e sz' rows))=if sz'=sz then ZqZ s m o k j e sz off k2 us rows rows[j]? else none:=by
 simp only [storeRow];split
 ·unfold ZqZ;cases rows[j]? <;> rfl
 ·rfl
theorem s_bf {o:Option (Option Addr × Nat)} {k j sz off k2 e:Nat} {us r:List C} {rows:List (List C)}:ZqZ s m o k j e sz off k2 us rows (some r)=if us.length=k2∧off+k2<=r.length then some ⟨s,(k,.buf o e sz (rows.set j (r.take off++us++r.drop (off+k2))))::remM k m⟩ else none:=rfl
theorem Zua {o:Option Nat} {cs:List C}:varA (some (.var o cs))=some cs:=rfl
theorem Zub {o:Option (Option Addr × Nat)} {j sz sz' e:Nat} {rows:List (List C)}:rowA j sz (some (.buf o e sz' rows))=if sz'=sz then rows[j]? else none:=rfl
theorem ZCS {k:Nat} {c:C}:Zd2 P ⟨s,m⟩ (some k) ty (.d (.one c))=some ⟨(k,.d (.one c))::s,m⟩:=rfl
theorem ZCT {k:Nat} {c:List C}:Zd2 P ⟨s,m⟩ (some k) ty (.d (.agg c))=some ⟨(k,.d (.agg c))::s,m⟩:=rfl
theorem ZxP {k:Nat} {r:List C} {rs:List (List C)}:Zd2 P ⟨s,m⟩ (some k) ty (.d (.clip (r::rs)))=some ⟨(k,.d (.clip (r::rs)))::s,m⟩:=rfl
theorem ZCU {k:Nat}:Zd2 P ⟨s,m⟩ (some k) ty (.d (.clip []))=newB ⟨s,m⟩ k (Za2 P ty):=rfl
theorem ZCV {k:Nat} {x:List D}:Zd2 P ⟨s,m⟩ (some k) ty (.tup x)=some ⟨(k,.tup x)::s,m⟩:=rfl
theorem ZCW {k k' off:Nat}:Zd2 P ⟨s,m⟩ (some k) ty (.ref k' off)=some ⟨(k,.ref k' off)::s,m⟩:=rfl
theorem ZCX {k k':Nat}:Zd2 P ⟨s,m⟩ (some k) ty (.buf k')=ZkK ⟨s,m⟩ k' k (gm m k'):=rfl
theorem Zuc {o:Option (Option Addr × Nat)} {k k' e sz:Nat} {rows:List (List C)}:ZkK ⟨s,m⟩ k k' (some (.buf o e sz rows))=if k=k' then some ⟨(k',.buf k')::s,m⟩ else some (ownE ⟨s,m⟩ k k' (.buf o e sz rows)):=rfl
theorem Zud {k e sz b:Nat}:newB ⟨s,m⟩ k (some (e,sz,b))=some ⟨(k,.buf k)::Zau k s,(k,.buf none e sz [])::remM k m⟩:=rfl
theorem Zue {k:Nat}:newB ⟨s,m⟩ k none=some ⟨(k,.d (.clip []))::s,m⟩:=rfl
theorem ZCY {k k':Nat} {bk:Bk}:ownE ⟨s,m⟩ k k' bk=⟨(k',.buf k')::Zau k' (Zau k s),(k',bk)::remM k' (remM k m)⟩:=rfl
theorem ZxQ {k:Nat}:Zau k []=[]:=rfl
theorem ZxR {k k' off t:Nat} {r:List (Nat × A)}:Zau k ((t,.ref k' off)::r)=(t,if k'=k then .undef else .ref k' off)::Zau k r:=rfl
theorem ZxS {k k' t:Nat} {r:List (Nat × A)}:Zau k ((t,.buf k')::r)=(t,if k'=k then .undef else .buf k')::Zau k r:=rfl
theorem ZxT {k k' j sz off t:Nat} {r:List (Nat × A)}:Zau k ((t,.row k' j sz off)::r)=(t,if k'=k then .undef else .row k' j sz off)::Zau k r:=rfl
theorem kl_d {k t:Nat} {x:D} {r:List (Nat × A)}:Zau k ((t,.d x)::r)=(t,.d x)::Zau k r:=rfl
theorem ZxU {k t:Nat} {x:List D} {r:List (Nat × A)}:Zau k ((t,.tup x)::r)=(t,.tup x)::Zau k r:=rfl
theorem Zq0 {k t:Nat} {r:List (Nat × A)}:Zau k ((t,.undef)::r)=(t,.undef)::Zau k r:=rfl
theorem ZCZ {k t:Nat} {r:List (Nat × A)}:Zau k ((t,.no)::r)=(t,.no)::Zau k r:=rfl
theorem ZxV {k:Nat}:remM k []=[]:=rfl
theorem Zuf {k t:Nat} {a:Bk} {r:List (Nat × Bk)}:remM k ((t,a)::r)=if t=k then remM k r else (t,a)::remM k r:=rfl
def appX (s:List (Nat × A)) (m:List (Nat × Bk)) (k e sz:Nat) (y:A) (ys:List (List C)):A->Option St
 | .buf k'=>if Zmy k' y=true then none else Zim ⟨s,m⟩ k k' e sz ys (gm m k')
 | .d (.clip rows)=>if Zav sz rows=true∧rows.length+ys.length<=maxApp∧(rows.isEmpty || !ys.isEmpty)=true then some ⟨(k,.buf k)::Zau k s,(k,.buf none e sz (rows++ys))::remM k m⟩ else none
 | _=>none
def appA (s:List (Nat × A)) (m:List (Nat × Bk)) (k:Nat) (x y:A):Option (TypeId × Nat × Nat)->Option (List (List C))->Option St
 | some (e,sz,_),some ys=>if Zav sz ys=true then appX s m k e sz y ys x else none
 | _,_=>none
theorem ZC0 {k:Nat} {t:TypeId} {x y:A}:Zg1 P ⟨s,m⟩ (some k) #[t,t] [x,y]=appA s m k x y (Za2 P t) (slA m y):=by
 unfold Zg1 appA;simp only [List.getElem?_toArray,Tat,Tau,if_true]
 cases Za2 P t with
 | none=>rfl
 | some b =>
  obtain ⟨e,sz,b⟩:=b
  cases slA m y with
  | none=>rfl
  | some ys =>
   simp only;split
   ·cases x with
    | d x=>cases x <;> rfl
    | _=>rfl
   ·rfl
theorem Zug {k e sz b:Nat} {x y:A} {ys:List (List C)}:appA s m k x y (some (e,sz,b)) (some ys)=if Zav sz ys=true then appX s m k e sz y ys x else none:=rfl
theorem ZxW {k k' e sz:Nat} {y:A} {ys:List (List C)}:appX s m k e sz y ys (.buf k')=if Zmy k' y=true then none else Zim ⟨s,m⟩ k k' e sz ys (gm m k'):=rfl
theorem Zuh {k e sz:Nat} {y:A} {ys rows:List (List C)}:appX s m k e sz y ys (.d (.clip rows))=if Zav sz rows=true∧rows.length+ys.length<=maxApp∧(rows.isEmpty || !ys.isEmpty)=true then some ⟨(k,.buf k)::Zau k s,(k,.buf none e sz (rows++ys))::remM k m⟩ else none:=rfl
theorem Zui {o:Option (Option Addr × Nat)} {k k' e e' sz sz':Nat} {ys rows:List (List C)}:Zim ⟨s,m⟩ k k' e sz ys (some (.buf o e' sz' rows))=if e'=e∧sz'=sz∧rows.length+ys.length<=maxApp then some (ownE ⟨s,m⟩ k' k (.buf none e' sz (rows++ys))) else none:=rfl
theorem ib_d {k:Nat} {x:D}:Zmy k (.d x)=false:=rfl
theorem ZxX {k k':Nat}:Zmy k (.buf k')=(k'==k):=rfl
def Zqk (s:List (Nat × A)) (m:List (Nat × Bk)) (k e sz:Nat) (a b:Int):Option (List C)->Option St
 | some z=>if a=b∧0<=a∧a<=maxApp∧z.all ZaB=true then some ⟨(k,.buf k)::Zau k s,(k,.buf none e sz (List.replicate a.toNat z))::remM k m⟩ else none
 | none=>none
def Zv2 (P:Program) (s:List (Nat × A)) (m:List (Nat × Bk)) (k:Nat):Option Int->Option Int->Option (TypeId × Nat × Nat)->Option St
 | some a,some b,some (e,sz,_)=>Zqk s m k e sz a b (ZaD P e)
 | _,_,_=>none
theorem ZC1 {k:Nat} {t:TypeId} {l c:A}:ZiK P ⟨s,m⟩ (some k) t l c=Zv2 P s m k (intA l) (intA c) (Za2 P t):=by
 unfold ZiK Zv2
 cases intA l with
 | none=>rfl
 | some a =>
  cases intA c with
  | none=>rfl
  | some b =>
   cases Za2 P t with
   | none=>rfl
   | some q =>
    obtain ⟨e,sz,q⟩:=q;simp only [Zqk]
    cases ZaD P e <;> rfl
theorem Zuj {k e sz q:Nat} {a b:Int}:Zv2 P s m k (some a) (some b) (some (e,sz,q))=Zqk s m k e sz a b (ZaD P e):=rfl
theorem Zuk {k e sz:Nat} {a b:Int} {z:List C}:Zqk s m k e sz a b (some z)=if a=b∧0<=a∧a<=maxApp∧z.all ZaB=true then some ⟨(k,.buf k)::Zau k s,(k,.buf none e sz (List.replicate a.toNat z))::remM k m⟩ else none:=rfl
theorem ZxY {j:Int}:intA (.d (.one (.lit (.int .i64 j))))=some j:=rfl
theorem ZC2 {t:Nat}:evA s (.tmp t)=gs s t:=rfl
theorem Zul {v:Value}:evA s (.const v)=ZeC v:=rfl
theorem ZxZ {f:FuncId}:evA s (.func f)=.d (.one (.fn f [])):=rfl
theorem ZC3 {k:IntKind} {i:Int}:ZeC (.int k i)=.d (.one (.lit (.int k i))):=rfl
theorem Zx0 {b:Bool}:ZeC (.bool b)=.d (.one (.lit (.bool b))):=rfl
theorem ZC4 {b:ByteArray}:ZeC (.string b)=.d (.one (.lit (.string b))):=rfl
theorem t_sl:ZeC (.slice none 0 0)=.d (.clip []):=rfl
theorem ZC5 {p:Option Addr}:ZeC (.pointer p)=.d (.one (.lit (.pointer p))):=rfl
theorem ZC6 {l:List Value}:ZeC (.agg l.toArray)=.d (.agg (l.map toC)):=rfl
theorem Zum {k:IntKind} {i:Int}:toC (.int k i)=.lit (.int k i):=rfl
theorem Zun {b:ByteArray}:toC (.string b)=.lit (.string b):=rfl
theorem Zq1 {b:Bool}:toC (.bool b)=.lit (.bool b):=rfl
theorem Zx1:toC (.slice none 0 0)=.sl []:=rfl
theorem Zuo {p:Option Addr}:toC (.pointer p)=.lit (.pointer p):=rfl
theorem ZkQ {k:Nat} {a:A}:setA s (some k) a=(k,a)::s:=rfl
theorem Zup {a:A}:setA s none a=s:=rfl
theorem ZC7 {cs:List C}:ptrA m (.d (.one (.ptr cs)))=some cs:=rfl
theorem ZC8 {k off:Nat}:ptrA m (.ref k off)=(varA (gm m k)).map (·.drop off):=rfl
theorem ZC9 {k j sz off:Nat}:ptrA m (.row k j sz off)=(rowA j sz (gm m k)).map (·.drop off):=rfl
theorem Zx2 {k:TK} {cs:List C}:Zfg (some k) (some cs)=valT k cs:=rfl
theorem ZDa {c:C} {cs:List C}:valT .one (c::cs)=some (.d (.one c)):=rfl
theorem ZDb {k:Nat} {cs:List C}:valT (.agg k) cs=if k<=cs.length then some (.d (.agg (cs.take k))) else none:=rfl
theorem Zuq {a b:A} {t:Bool}:Zqb a b (.d (.one (.lit (.bool t))))=some (if t=true then a else b):=rfl
theorem Zx3 {cs:List C} {k:Nat} {t:TypeId}:ZdE (.d (.one (.ptr cs))) (some (k,t))=some (.d (.one (.ptr (cs.drop k)))):=rfl
theorem Zx4 {b off k:Nat} {t:TypeId}:ZdE (.ref b off) (some (k,t))=some (.ref b (off+k)):=rfl
theorem Zx5 {b j sz off k:Nat} {t:TypeId}:ZdE (.row b j sz off) (some (k,t))=some (.row b j sz (off+k)):=rfl
theorem ZDc {cs:List C} {k:Nat} {t:TypeId}:ZjE P (.d (.agg cs)) (some (k,t))=Zfg (ZaG P t) (some (cs.drop k)):=rfl
theorem ZDd {k:Nat} {rows:List (List C)} {kk:IntKind} {j:Int}:Zd8 m (some k) (.d (.one (.sl rows))) (.d (.one (.lit (.int kk j))))=if 0<=j then if Zav k rows=true then eltA rows[j.toNat]? else none else none:=rfl
theorem Zur {k:Nat} {rows:List (List C)} {kk:IntKind} {j:Int}:Zd8 m (some k) (.d (.clip rows)) (.d (.one (.lit (.int kk j))))=if 0<=j then if Zav k rows=true then eltA rows[j.toNat]? else none else none:=rfl
theorem Zx6 {k b:Nat} {kk:IntKind} {j:Int}:Zd8 m (some k) (.buf b) (.d (.one (.lit (.int kk j))))=Zmw b k j (gm m b):=rfl
theorem Zx7 {o:Option (Option Addr × Nat)} {k b e sz:Nat} {j:Int} {rows:List (List C)}:Zmw b k j (some (.buf o e sz rows))=if sz=k then if 0<=j then if j.toNat < rows.length then some (.row b j.toNat sz 0) else none else none else none:=rfl
theorem Zus {r:List C}:eltA (some r)=some (.d (.one (.ptr r))):=rfl
theorem ZDe {b:ByteArray} {kk:IntKind} {j:Int}:ZjF (some .string) (.d (.one (.lit (.string b)))) (.d (.one (.lit (.int kk j))))=if 0<=j then Zqc b[j.toNat]? else none:=rfl
theorem Zut {b:UInt8}:Zqc (some b)=some (.d (.one (.lit (.int .u8 b.toNat)))):=rfl
theorem Zuu {v:Value}:litA (some v)=some (.d (.one (.lit v))):=rfl
theorem ZDf {op:BinOp} {t:TypeId} {a b:Value}:binA P t op (.d (.one (.lit a))) (.d (.one (.lit b)))=litA (binT P op t a b):=rfl
theorem ZDg {op:UnOp} {a:Value}:unA op (.d (.one (.lit a)))=litA (unV op a):=rfl
theorem Zx8 {b:Bool}:unV .not (.bool b)=some (.bool (!b)):=rfl
theorem Zx9 {a:Int}:unV .neg (.int .i64 a)=some (.int .i64 (IntKind.i64.wrap (0 - a))):=rfl
theorem Zuv {x:D}:dA (some x)=some (.d x):=rfl
theorem ZDh {i:Nat} {xs:List D}:Zha i (.tup xs)=dA xs[i]?:=rfl
theorem Zya {cs:List C}:nilA (.d (.one (.ptr cs)))=some (.d (.one (.ptr cs))):=rfl
theorem ZDi {f:FuncId} {cs:List C}:nilA (.d (.one (.fn f cs)))=some (.d (.one (.fn f cs))):=rfl
theorem Zyb {k off:Nat}:nilA (.ref k off)=some (.ref k off):=rfl
theorem ZDj {rows:List (List C)}:lenA m (some true) [.d (.one (.sl rows))]=some (.d (.one (.lit (.int .i64 rows.length)))):=rfl
theorem ZDk {rows:List (List C)}:lenA m (some true) [.d (.clip rows)]=some (.d (.one (.lit (.int .i64 rows.length)))):=rfl
theorem ZDl {k:Nat}:lenA m (some true) [.buf k]=lenS (bufA (gm m k)):=rfl
theorem ZDm {p:Option Addr} {k cap:Nat}:lenA m (some true) [.d (.one (.lit (.slice p k cap)))]=some (.d (.one (.lit (.int .i64 k)))):=rfl
theorem Zyc {b:ByteArray}:lenA m (some false) [.d (.one (.lit (.string b)))]=some (.d (.one (.lit (.int .i64 b.size)))):=rfl
theorem Zuw {rows:List (List C)}:lenS (some rows)=some (.d (.one (.lit (.int .i64 rows.length)))):=rfl
theorem ZDn {rows:List (List C)}:slA m (.d (.one (.sl rows)))=some rows:=rfl
theorem Zux {rows:List (List C)}:slA m (.d (.clip rows))=some rows:=rfl
theorem Zyd {k:Nat}:slA m (.buf k)=bufA (gm m k):=rfl
theorem Zuy {o:Option (Option Addr × Nat)} {e sz:Nat} {rows:List (List C)}:bufA (some (.buf o e sz rows))=some rows:=rfl
theorem ZDo {x y:Int}:maxA [.d (.one (.lit (.int .i64 x))),.d (.one (.lit (.int .i64 y)))]=some (.d (.one (.lit (.int .i64 (if y > x then y else x))))):=rfl
theorem ZDp {x y:Int}:minA [.d (.one (.lit (.int .i64 x))),.d (.one (.lit (.int .i64 y)))]=some (.d (.one (.lit (.int .i64 (if y < x then y else x))))):=rfl
theorem ZDq {e sz b k:Nat} {parts:List (Nat × A)}:Ze3 (some (e,sz,b)) k parts=if parts.length=k∧k * sz<=16777216 then Zqd (Zfx sz 0 parts) else none:=rfl
theorem Zuz {rows:List (List C)}:Zqd (some rows)=some (.d (.clip rows)):=rfl
theorem Zye {sz i:Nat}:Zfx sz i []=some []:=rfl
def Zq2 (sz:Nat) (r:Option (List (List C))):Option (List C)->Option (List (List C))
 | some cs=>if cs.length=sz then r.map (cs::·) else none
 | none=>none
theorem ZuA {sz i j:Nat} {x:A} {r:List (Nat × A)}:Zfx sz i ((j,x)::r)=if i=j then Zq2 sz (Zfx sz (i+1) r) (ZcW x) else none:=by
 show (if i=j then _ else _)=_;unfold Zq2;split
 ·cases ZcW x <;> rfl
 ·rfl
theorem ZuB {sz:Nat} {r:Option (List (List C))} {cs:List C}:Zq2 sz r (some cs)=if cs.length=sz then r.map (cs::·) else none:=rfl
def Zq3 (P:Program) (t:TypeId) (parts:List (Nat × A)):Bool->Option (List C)->Option A
 | true,some cs=>if cs.all ZaB=true then aggA (ZdX P t cs parts) else none
 | _,_=>none
theorem ZDr {t:TypeId} {parts:List (Nat × A)}:Zik P t parts=Zq3 P t parts (ZaN P t) (ZaD P t):=by
 unfold Zik Zq3
 cases ZaN P t <;> cases ZaD P t <;> rfl
theorem ZuC {t:TypeId} {parts:List (Nat × A)} {cs:List C}:Zq3 P t parts true (some cs)=if cs.all ZaB=true then aggA (ZdX P t cs parts) else none:=rfl
theorem ZuD {cs:List C}:aggA (some cs)=some (.d (.agg cs)):=rfl
theorem Zyf {t:TypeId} {cs:List C}:ZdX P t cs []=some cs:=rfl
def Zv3 (P:Program) (t:TypeId) (cs:List C) (r:List (Nat × A)):Option (Nat × TypeId)->Option (List C)->Option (List C)
 | some (off,ft),some us=>if ZaH P ft=some us.length∧off+us.length<=cs.length then ZdX P t (cs.take off++us++cs.drop (off+us.length)) r else none
 | _,_=>none
theorem ZuE {t:TypeId} {cs:List C} {f:Nat} {x:A} {r:List (Nat × A)}:ZdX P t cs ((f,x)::r)=Zv3 P t cs r (offT P t f) (ZcW x):=by
 conv=>lhs;unfold ZdX
 unfold Zv3;rcases offT P t f with _ | ⟨off,ft⟩ <;> cases ZcW x <;> rfl
theorem ZuF {t ft:TypeId} {cs us:List C} {off:Nat} {r:List (Nat × A)}:Zv3 P t cs r (some (off,ft)) (some us)=if ZaH P ft=some us.length∧off+us.length<=cs.length then ZdX P t (cs.take off++us++cs.drop (off+us.length)) r else none:=rfl
def ZmO (n:Int):Option TypeDesc->Option IntKind->Option A
 | some _,some k=>some (.d (.one (.lit (.int k (k.wrap n)))))
 | _,_=>none
theorem Zyg {a b:TypeId} {k:IntKind} {j:Int}:ZkI P a b (.d (.one (.lit (.int k j))))=ZmO j (P.underlying a) (Zd7 (P.underlying b)):=by
 unfold ZkI ZmO
 cases P.underlying a <;> cases Zd7 (P.underlying b) <;> rfl
theorem ZuG {t:TypeDesc} {k:IntKind} {j:Int}:ZmO j (some t) (some k)=some (.d (.one (.lit (.int k (k.wrap j))))):=rfl
theorem ZuH {k:IntKind}:Zd7 (some (.int k))=some k:=rfl
theorem ZuI {f:FuncId} {cs:List C}:fnA f (some cs)=some (.d (.one (.fn f cs))):=rfl
theorem Zyh:csA []=some []:=rfl
theorem ZuJ {c:C} {r:List A}:csA (.d (.one c)::r)=(csA r).map (c::·):=rfl
def ZmP (lo hi mx:Option A) (k:Nat):Option (List (List C))->Option A
 | some rows=>if Zav k rows=true∧(mx.isNone || hi.isSome)=true then dA (Zij rows (loA lo) (hiA rows.length hi) (mx.map intA)) else none
 | none=>none
def Zq4 (P:Program) (t:TypeId) (x:A) (lo hi mx:Option A):Option Nat->Option A
 | some k=>ZmP lo hi mx k (Zg9 x)
 | none=>if ZqI (P.underlying t)∧mx=none then match strA x with
   | some s=>dA (Zn0 s (loA lo) (hiA s.size hi))
   | none=>none
  else none
theorem ZDs {t:TypeId} {x:A} {lo hi mx:Option A}:ZfO P t x lo hi mx=Zq4 P t x lo hi mx (Zbc P t):=by
 unfold ZfO Zq4 ZmP
 cases Zbc P t with
 | none=>rfl
 | some k=>cases Zg9 x <;> rfl
theorem ZuK {t:TypeId} {x:A} {lo hi mx:Option A} {k:Nat}:Zq4 P t x lo hi mx (some k)=ZmP lo hi mx k (Zg9 x):=rfl
theorem ZuL {lo hi mx:Option A} {k:Nat} {rows:List (List C)}:ZmP lo hi mx k (some rows)=if Zav k rows=true∧(mx.isNone || hi.isSome)=true then dA (Zij rows (loA lo) (hiA rows.length hi) (mx.map intA)) else none:=rfl
theorem Zyi {rows:List (List C)}:Zg9 (.d (.one (.sl rows)))=some rows:=rfl
theorem Zq5 {rows:List (List C)}:Zg9 (.d (.clip rows))=some rows:=rfl
theorem ZuM:loA none=some 0:=rfl
theorem ZuN {x:A}:loA (some x)=intA x:=rfl
theorem ZuO {k:Nat}:hiA k none=some (k:Int):=rfl
theorem ZuP {k:Nat} {x:A}:hiA k (some x)=intA x:=rfl
theorem sl_2 {rows:List (List C)} {l h:Int}:Zij rows (some l) (some h) none=if 0<=l∧l<=h∧h<=rows.length then some (.one (.sl ((rows.take h.toNat).drop l.toNat))) else none:=rfl
theorem sl_3 {rows:List (List C)} {l h k:Int}:Zij rows (some l) (some h) (some (some k))=if 0<=l∧l<=h∧h<=rows.length∧k=h then some (.clip ((rows.take h.toNat).drop l.toNat)) else none:=rfl
theorem Zyj {c:C}:ZcW (.d (.one c))=if ZaB c=true then some [c] else none:=rfl
theorem Zyk {cs:List C}:ZcW (.d (.agg cs))=if cs.all ZaB=true then some cs else none:=rfl
theorem ZuQ {rows:List (List C)}:ZcW (.d (.clip rows))=some [.sl rows]:=rfl
theorem Zyl {k:IntKind} {i:Int}:ZaB (.lit (.int k i))=true:=rfl
theorem ZuR {b:Bool}:ZaB (.lit (.bool b))=true:=rfl
theorem Zym {b:ByteArray}:ZaB (.lit (.string b))=true:=rfl
theorem Zyn {b:Option Nat}:ZaB (.lit (.map b))=true:=rfl
theorem ZDt {b:Option Addr}:ZaB (.lit (.pointer b))=true:=rfl
theorem Zyo {a:Option Addr} {n c:Nat}:ZaB (.lit (.slice a n c))=true:=rfl
theorem ZDu {rows:List (List C)}:ZaB (.sl rows)=true:=rfl
theorem Zyp {cs:List C}:ZaB (.ptr cs)=true:=rfl
theorem ZDv {f:Nat} {cs:List C}:ZaB (.fn f cs)=true:=rfl
theorem Zyq:dsA []=some []:=rfl
theorem ZuS {x:D} {r:List A}:dsA (.d x::r)=(dsA r).map (x::·):=rfl
theorem ZDw {q:Bool} {c:Operand} {args:List Operand}:Zfz q c args ⟨s,m⟩=Zqh c args (frzQ q (Zev (args.map (evA s))) ⟨s,m⟩):=rfl
theorem cp_s {c:Operand} {args:List Operand}:Zqh c args (some ⟨s,m⟩)=Zqg (evA s c) (dsA (args.map (evA s))) ⟨s,m⟩:=rfl
theorem cp_x {f:FuncId} {caps:List C} {xs:List D}:Zqg (.d (.one (.fn f caps))) (some xs) σ=some (f,xs++caps.map .one,σ):=rfl
theorem ZDx {c x0:Operand} {rest:List Operand}:ZmI c x0 rest ⟨s,m⟩=Zqj m (Zc3 (evA s c)) (dsA (rest.map (evA s))) (nrm m (evA s x0)):=rfl
theorem co_z {f:Option (FuncId × List C)} {xs:Option (List D)} {k:Nat}:Zqj m f xs (.buf k)=Zqi f k xs (gm m k):=rfl
theorem co_y {o:Option (Option Addr × Nat)} {f:FuncId} {caps:List C} {xs:List D} {k ty sz:Nat} {rows:List (List C)}:Zqi (some (f,caps)) k (some xs) (some (.buf o ty sz rows))=some (f,k,ty,sz,rows,xs++caps.map .one):=rfl
theorem ZDy {f:FuncId} {caps:List C}:Zc3 (.d (.one (.fn f caps)))=some (f,caps):=rfl
theorem ZuT {t:Nat}:resA P ⟨s,m⟩ (.slot t)=gs s t:=rfl
theorem ZuU {t k:Nat}:resA P ⟨s,m⟩ (.cell t k)=(Zfg (ZaG P k) (ptrA m (gs s t))).getD .undef:=rfl
theorem ZDz {x:D}:retA [x]=.d x:=rfl
theorem ZDA {x y:D} {r:List D}:retA (x::y::r)=.tup (x::y::r):=rfl
theorem r_no:retA []=.tup []:=rfl
theorem Zyr {t:TypeId} {a b:Int}:binT P .add t (.int .i64 a) (.int .i64 b)=some (.int .i64 (IntKind.i64.wrap (a+b))):=rfl
theorem Zys {t:TypeId} {a b:Int}:binT P .sub t (.int .i64 a) (.int .i64 b)=some (.int .i64 (IntKind.i64.wrap (a - b))):=rfl
theorem Zyt {t:TypeId} {a b:Int}:binT P .mul t (.int .i64 a) (.int .i64 b)=some (.int .i64 (IntKind.i64.wrap (a * b))):=rfl
theorem Zyu {t:TypeId} {a b:Int}:binT P .lss t (.int .i64 a) (.int .i64 b)=some (.bool (decide (a < b))):=rfl
theorem Zyv {t:TypeId} {a b:Int}:binT P .leq t (.int .i64 a) (.int .i64 b)=some (.bool (decide (a<=b))):=rfl
theorem Zyw {t:TypeId} {a b:Int}:binT P .gtr t (.int .i64 a) (.int .i64 b)=some (.bool (decide (b < a))):=rfl
theorem Zyx {t:TypeId} {a b:Int}:binT P .geq t (.int .i64 a) (.int .i64 b)=some (.bool (decide (b<=a))):=rfl
theorem Zyy {t:TypeId} {a b:Int}:binT P .eql t (.int .i64 a) (.int .i64 b)=some (.bool (decide (a=b))):=rfl
theorem Zyz {t:TypeId} {a b:Int}:binT P .neq t (.int .i64 a) (.int .i64 b)=some (.bool (!decide (a=b))):=rfl
theorem ZyA {t:TypeId} {a b:Int}:binT P .lss t (.int .u8 a) (.int .u8 b)=some (.bool (decide (a < b))):=rfl
theorem ZyB {t:TypeId} {a b:Int}:binT P .leq t (.int .u8 a) (.int .u8 b)=some (.bool (decide (a<=b))):=rfl
theorem ZyC {t:TypeId} {a b:Int}:binT P .gtr t (.int .u8 a) (.int .u8 b)=some (.bool (decide (b < a))):=rfl
theorem ZyD {t:TypeId} {a b:Int}:binT P .geq t (.int .u8 a) (.int .u8 b)=some (.bool (decide (b<=a))):=rfl
theorem ZyE {t:TypeId} {a b:Int}:binT P .eql t (.int .u8 a) (.int .u8 b)=some (.bool (decide (a=b))):=rfl
theorem ZyF {t:TypeId} {a b:Int}:binT P .neq t (.int .u8 a) (.int .u8 b)=some (.bool (!decide (a=b))):=rfl
theorem ZyG {t:TypeId} {a b:ByteArray}:binT P .eql t (.string a) (.string b)=some (.bool (a.toList==b.toList)):=rfl
theorem ZyH {t:TypeId} {a b:ByteArray}:binT P .neq t (.string a) (.string b)=some (.bool (!(a.toList==b.toList))):=rfl
theorem ZyI {t:TypeId} {a b:ByteArray}:binT P .lss t (.string a) (.string b)=some (.bool (Go.Op.bytesLess a.toList b.toList)):=rfl
theorem ZyJ {t:TypeId} {a b:Bool}:binT P .eql t (.bool a) (.bool b)=ZiJ (P.underlying t) (a==b):=rfl
theorem ZyK {t:TypeId} {a b:Bool}:binT P .neq t (.bool a) (.bool b)=ZiJ (P.underlying t) (!(a==b)):=rfl
theorem bb_t {v:Bool}:ZiJ (some .bool) v=some (.bool v):=rfl
theorem ZyL {t:TypeId} {a b:Int}:binT P .and t (.int .i64 a) (.int .i64 b)=some (.int .i64 (bits .and .i64 a b)):=rfl
theorem ZDB {t:TypeId} {a b:Int}:binT P .or t (.int .i64 a) (.int .i64 b)=some (.int .i64 (bits .or .i64 a b)):=rfl
theorem ZyM {t:TypeId} {a b:Int}:binT P .xor t (.int .i64 a) (.int .i64 b)=some (.int .i64 (bits .xor .i64 a b)):=rfl
theorem ZoQ {t:TypeId} {a b:Int}:binT P .andNot t (.int .i64 a) (.int .i64 b)=some (.int .i64 (bits .andNot .i64 a b)):=rfl
theorem ZyN {t:TypeId} {k:IntKind} {a b:Int}:binT P .shl t (.int .i64 a) (.int k b)=if 0<=b then some (.int .i64 (IntKind.i64.wrap (a * 2 ^ (min b.toNat 64)))) else none:=rfl
theorem ZyO {t:TypeId} {k:IntKind} {a b:Int}:binT P .shr t (.int .i64 a) (.int k b)=if 0<=b then some (.int .i64 (a.fdiv (2 ^ (min b.toNat 64)))) else none:=rfl
theorem ZmQ {t:TypeId} {k:IntKind} {a b:Int}:binT P .shr t (.int .u64 a) (.int k b)=if 0<=b then some (.int .u64 (a.fdiv (2 ^ (min b.toNat 64)))) else none:=rfl
theorem ZE8 {a:Int}:unV .neg (.int .u64 a)=some (.int .u64 (IntKind.u64.wrap (0 - a))):=rfl
theorem ZyP {t:TypeId} {a b:Int}:binT P .quo t (.int .i64 a) (.int .i64 b)=if b=0 then none else some (.int .i64 (IntKind.i64.wrap (a.tdiv b))):=rfl
theorem ZyQ {t:TypeId} {a b:Int}:binT P .rem t (.int .i64 a) (.int .i64 b)=if b=0 then none else some (.int .i64 (a.tmod b)):=rfl
theorem ZyR {t:TypeId} {a b:ByteArray}:binT P .add t (.string a) (.string b)=if a.size+b.size<=9223372036854775807 then some (.string (a++b)) else none:=rfl
theorem ZyS {b off k:Nat} {t:TypeId}:ZdE (.d (.one (.lit (.pointer (some ⟨b,off,none⟩))))) (some (k,t))=some (.d (.one (.lit (.pointer (some ⟨b,off+k,none⟩))))):=rfl
theorem ZyT {p:Addr}:nilA (.d (.one (.lit (.pointer (some p)))))=some (.d (.one (.lit (.pointer (some p))))):=rfl
theorem ZyU {b off:Nat}:nrm m (.d (.one (.lit (.pointer (some ⟨b,off,none⟩)))))=Zmx m b off (varK b m):=rfl
theorem ZDC {p:Option Addr} {k cap:Nat}:nrm m (.d (.one (.lit (.slice p k cap))))=ZkJ m p k cap (bufK p k cap m):=rfl
theorem nr_p {cs:List C}:nrm m (.d (.one (.ptr cs)))=.d (.one (.ptr cs)):=rfl
theorem nr_s {rows:List (List C)}:nrm m (.d (.one (.sl rows)))=.d (.one (.sl rows)):=rfl
theorem nr_c {rows:List (List C)}:nrm m (.d (.clip rows))=.d (.clip rows):=rfl
theorem nr_i {k:IntKind} {i:Int}:nrm m (.d (.one (.lit (.int k i))))=.d (.one (.lit (.int k i))):=rfl
theorem ZyV {b:ByteArray}:nrm m (.d (.one (.lit (.string b))))=.d (.one (.lit (.string b))):=rfl
theorem ZyW {k off:Nat}:nrm m (.ref k off)=.ref k off:=rfl
theorem ZyX {k:Nat}:nrm m (.buf k)=.buf k:=rfl
theorem ZyY {k j sz off:Nat}:nrm m (.row k j sz off)=.row k j sz off:=rfl
theorem ZyZ {b:Nat}:varK b []=none:=rfl
theorem Zy0 {b b' k:Nat} {cs:List C} {r:List (Nat × Bk)}:varK b ((k,.var (some b') cs)::r)=if b=b' then some k else varK b r:=rfl
theorem Zy1 {b k:Nat} {cs:List C} {r:List (Nat × Bk)}:varK b ((k,.var none cs)::r)=varK b r:=rfl
theorem Zy2 {b k e sz:Nat} {o:Option (Option Addr × Nat)} {rows:List (List C)} {r:List (Nat × Bk)}:varK b ((k,.buf o e sz rows)::r)=varK b r:=rfl
theorem Zy3 {b k:Nat} {E:Nat->Prop} {G:World->Prop} {r:List (Nat × Bk)}:varK b ((k,.set E G)::r)=varK b r:=rfl
theorem Zy4 {p:Option Addr} {k cap:Nat}:bufK p k cap []=none:=rfl
theorem Zy5 {p p':Option Addr} {k cap cap' k' e sz:Nat} {rows:List (List C)} {r:List (Nat × Bk)}:bufK p k cap ((k',.buf (some (p',cap')) e sz rows)::r)=if p=p'∧k=rows.length∧cap=cap' then some k' else bufK p k cap r:=rfl
theorem Zy6 {p:Option Addr} {k cap k' e sz:Nat} {rows:List (List C)} {r:List (Nat × Bk)}:bufK p k cap ((k',.buf none e sz rows)::r)=bufK p k cap r:=rfl
theorem Zy7 {p:Option Addr} {k cap k':Nat} {o:Option Nat} {cs:List C} {r:List (Nat × Bk)}:bufK p k cap ((k',.var o cs)::r)=bufK p k cap r:=rfl
theorem Zy8 {p:Option Addr} {k cap k':Nat} {E:Nat->Prop} {G:World->Prop} {r:List (Nat × Bk)}:bufK p k cap ((k',.set E G)::r)=bufK p k cap r:=rfl
theorem ZuV {b off k:Nat}:Zmx m b off (some k)=nrmV b off k (gm m k):=rfl
theorem ZuW {b off:Nat}:Zmx m b off none=.d (.one (.lit (.pointer (some ⟨b,off,none⟩)))):=rfl
theorem Zy9 {b off k b':Nat} {cs:List C}:nrmV b off k (some (.var (some b') cs))=if b=b' then .ref k off else .d (.one (.lit (.pointer (some ⟨b,off,none⟩)))):=rfl
theorem Zza {p:Option Addr} {k cap k':Nat}:ZkJ m p k cap (some k')=nrmB p k cap k' (gm m k'):=rfl
theorem ZDD {p:Option Addr} {k cap:Nat}:ZkJ m p k cap none=.d (.one (.lit (.slice p k cap))):=rfl
theorem Zzb {p p':Option Addr} {k cap cap' k' e sz:Nat} {rows:List (List C)}:nrmB p k cap k' (some (.buf (some (p',cap')) e sz rows))=if p=p'∧k=rows.length∧cap=cap' then .buf k' else .d (.one (.lit (.slice p k cap))):=rfl
theorem rn_0:runN P ds 0 n os ⟨s,m⟩=.stop n os ⟨s,m⟩:=rfl
theorem rn_n {j:Nat} {op:Op} {t:TypeId} {p:String} {a:Array Edge}:runN P ds (j+1) n (⟨d,op,t,p,a,none⟩::os) ⟨s,m⟩=Zbs P d t (n - 1) n os (runN P ds j (n - 1) os) op ⟨s,m⟩:=rfl
theorem rn_g {j:Nat} {op:Op} {t:TypeId} {p:String} {a:Array Edge} {i:Nat} {w:Bool}:runN P ds (j+1) n (⟨d,op,t,p,a,some (i,w)⟩::os) ⟨s,m⟩=Zgo w (Zbs P d t n n os (runN P ds j (n - 1) os) op) (ZkP d (runN P ds j (n - 1) os)) ⟨s,m⟩ ((ds[i]?.join).map (gs s)):=rfl
theorem st_o:ZmJ (.stop n os ⟨s,m⟩)=some (n,os,s,m):=rfl
theorem Zzc {f:A->A}:mapS f []=[]:=rfl
theorem ZuX {f:A->A} {t:Nat} {a:A} {r:List (Nat × A)}:mapS f ((t,a)::r)=(t,f a)::mapS f r:=rfl
theorem Zzd {k b k' off:Nat}:litV k b (.ref k' off)=if k'=k then .d (.one (.lit (.pointer (some ⟨b,off,none⟩)))) else .ref k' off:=rfl
theorem lv_d {k b:Nat} {x:D}:litV k b (.d x)=.d x:=rfl
theorem Zze {k b k':Nat}:litV k b (.buf k')=.buf k':=rfl
theorem Zzf {k b k' j sz off:Nat}:litV k b (.row k' j sz off)=.row k' j sz off:=rfl
theorem Zzg {k b:Nat} {xs:List D}:litV k b (.tup xs)=.tup xs:=rfl
theorem ZDE {k b:Nat}:litV k b .no=.no:=rfl
theorem ZDF {k b:Nat}:litV k b .undef=.undef:=rfl
theorem Zzh {k k2 cap k':Nat} {p:Option Addr}:litB k p k2 cap (.buf k')=if k'=k then .d (.one (.lit (.slice p k2 cap))) else .buf k':=rfl
theorem lb_d {k k2 cap:Nat} {p:Option Addr} {x:D}:litB k p k2 cap (.d x)=.d x:=rfl
theorem Zzi {k k2 cap k' off:Nat} {p:Option Addr}:litB k p k2 cap (.ref k' off)=.ref k' off:=rfl
theorem Zzj {k k2 cap k' j sz off:Nat} {p:Option Addr}:litB k p k2 cap (.row k' j sz off)=.row k' j sz off:=rfl
theorem Zzk {k k2 cap:Nat} {p:Option Addr} {xs:List D}:litB k p k2 cap (.tup xs)=.tup xs:=rfl
theorem ZDG {k k2 cap:Nat} {p:Option Addr}:litB k p k2 cap .no=.no:=rfl
theorem ZDH {k k2 cap:Nat} {p:Option Addr}:litB k p k2 cap .undef=.undef:=rfl
theorem Zzl:Zdw [] s=s:=rfl
theorem ZuY {k:Nat} {ks:List Nat}:Zdw (k::ks) s=Zdw ks (Zau k s):=rfl
theorem Zzm:Zdz [] m=m:=rfl
theorem ZuZ {k:Nat} {ks:List Nat}:Zdz (k::ks) m=Zdz ks (remM k m):=rfl
theorem Zu0 {k:Nat} {ks:List Nat} {x:Bk} {xs:List Bk}:zipM (k::ks) (x::xs)=(k,x)::zipM ks xs:=rfl
theorem Zzn {xs:List Bk}:zipM [] xs=[]:=rfl
theorem ZDI {ks:List Nat}:zipM ks []=[]:=by cases ks <;> rfl
def getC:Option Bk->Option (List Bk)->Option (List Bk)
 | some x,some r=>some (x::r)
 | _,_=>none
theorem Zzo:getM m []=some []:=rfl
theorem Zu1 {k:Nat} {ks:List Nat}:getM m (k::ks)=getC (gm m k) (getM m ks):=by
 show (match gm m k,getM m ks with | some x,some r=>some (x::r) | _,_=>none)=_
 cases gm m k <;> cases getM m ks <;> rfl
theorem gt_c {x:Bk} {r:List Bk}:getC (some x) (some r)=some (x::r):=rfl
theorem Zzp {b:Nat} {cs:List C}:pinned (.var (some b) cs)=true:=rfl
theorem Zzq {q:Option Addr × Nat} {e sz:Nat} {rows:List (List C)}:pinned (.buf (some q) e sz rows)=true:=rfl
theorem Zzr {E:Nat->Prop} {G:World->Prop}:pinned (.set E G)=true:=rfl
theorem ZDJ {p p':Option Addr} {k cap k' cap':Nat} {rows:List (List C)}:datC p k cap rows (.lit (.slice p' k' cap'))=if p'=p∧k'=k∧cap'=cap then .sl rows else .lit (.slice p' k' cap'):=rfl
theorem Zzs {p:Option Addr} {k cap:Nat} {rows:List (List C)} {kk:IntKind} {i:Int}:datC p k cap rows (.lit (.int kk i))=.lit (.int kk i):=rfl
theorem Zzt {p:Option Addr} {k cap:Nat} {rows:List (List C)} {b:ByteArray}:datC p k cap rows (.lit (.string b))=.lit (.string b):=rfl
theorem Zu2 {p:Option Addr} {k cap:Nat} {rows:List (List C)} {b:Bool}:datC p k cap rows (.lit (.bool b))=.lit (.bool b):=rfl
theorem Zzu {p:Option Addr} {k cap:Nat} {rows:List (List C)} {q:Option Addr}:datC p k cap rows (.lit (.pointer q))=.lit (.pointer q):=rfl
theorem Zzv {p:Option Addr} {k cap:Nat} {rows:List (List C)} {q:Option Nat}:datC p k cap rows (.lit (.map q))=.lit (.map q):=rfl
theorem dc_s {p:Option Addr} {k cap:Nat} {rows rs:List (List C)}:datC p k cap rows (.sl rs)=.sl rs:=rfl
theorem dc_p {p:Option Addr} {k cap:Nat} {rows:List (List C)} {cs:List C}:datC p k cap rows (.ptr cs)=.ptr cs:=rfl
theorem dc_f {p:Option Addr} {k cap:Nat} {rows:List (List C)} {f:FuncId} {cs:List C}:datC p k cap rows (.fn f cs)=.fn f cs:=rfl
theorem Zzw {p:Option Addr} {k cap:Nat} {rows:List (List C)} {c:C}:datA p k cap rows (.d (.one c))=.d (.one (datC p k cap rows c)):=rfl
theorem Zzx {p:Option Addr} {k cap:Nat} {rows:List (List C)} {cs:List C}:datA p k cap rows (.d (.agg cs))=.d (.agg (cs.map (datC p k cap rows))):=rfl
theorem Zzy {p:Option Addr} {k cap k' off:Nat} {rows:List (List C)}:datA p k cap rows (.ref k' off)=.ref k' off:=rfl
theorem Zzz {p:Option Addr} {k cap:Nat} {rows:List (List C)}:datS p k cap rows [] s=s:=rfl
theorem Zu3 {p:Option Addr} {k cap t:Nat} {rows:List (List C)} {ts:List Nat}:datS p k cap rows (t::ts) s=datS p k cap rows ts ((t,datA p k cap rows (gs s t))::s):=rfl
theorem ZzA {p:Option Addr} {k cap:Nat} {rows:List (List C)}:datM p k cap rows [] m=m:=rfl
theorem Zu4 {p:Option Addr} {k cap t:Nat} {rows:List (List C)} {ts:List Nat}:datM p k cap rows (t::ts) m=datM p k cap rows ts (datV p k cap rows t m (gm m t)):=rfl
theorem ZzB {p:Option Addr} {k cap t:Nat} {rows:List (List C)} {o:Option Nat} {cs:List C}:datV p k cap rows t m (some (.var o cs))=(t,.var o (cs.map (datC p k cap rows)))::remM t m:=rfl
def unD:A->Option D
 | .d x=>some x
 | _=>none
def Zql:Option D->Option (List D)->Option (List D)
 | some x,some r=>some (x::r)
 | _,_=>none
def resD (P:Program) (σ:St):List RS->Option (List D)
 | []=>some []
 | t::ts=>Zql (unD (resA P σ t)) (resD P σ ts)
theorem ZzC:resD P ⟨s,m⟩ []=some []:=rfl
theorem Zu5 {t:RS} {ts:List RS}:resD P ⟨s,m⟩ (t::ts)=Zql (unD (resA P ⟨s,m⟩ t)) (resD P ⟨s,m⟩ ts):=rfl
theorem Zu6 {x:D} {r:List D}:Zql (some x) (some r)=some (x::r):=rfl
theorem ud_d {x:D}:unD (.d x)=some x:=rfl
end
theorem ZfS {P:Program} {σ:St}:∀ {ts:List RS} {r:List D},resD P σ ts=some r->ZcO P σ ts r
 | [],r,h=>by simp only [resD,Taq] at h;subst h;trivial
 | t::ts,r,h=>by
  simp only [resD] at h;unfold Zql at h;split at h
  ·rename_i x r' hx hr;injection h with h;subst h
   refine ⟨?_,ZfS hr⟩;unfold unD at hx;split at hx
   ·rename_i y hy;injection hx with hx;subst hx;exact hy
   ·cases hx
  ·cases h
end Go.Proofs.YtcgacanpeaiabaaGreatDoor
set_option maxRecDepth 10000
namespace Go.Proofs.YtcgacanpeaiabaaGreatDoor
open Go.RowKit
theorem tt_0:(ZaG Tryz.prog 2=some .one)∧(ZaH Tryz.prog 2=some 1)∧(ZaD Tryz.prog 2=some [.lit (.int .i64 0)])∧(ZaG Tryz.prog 3=some .one)∧(ZaH Tryz.prog 3=some 1)∧(ZaD Tryz.prog 3=some [.lit (.int .i64 0)])∧(ZaG Tryz.prog 4=some .one)∧(ZaH Tryz.prog 4=some 1)∧(ZaD Tryz.prog 4=some [.lit (.bool false)])∧(Tryz.prog.underlying 4=some .bool)∧(ZaG Tryz.prog 5=some .one)∧(ZaH Tryz.prog 5=some 1)∧(ZaD Tryz.prog 5=some [.lit (.int .u8 0)])∧(ZaG Tryz.prog 9=some .one)∧(ZaH Tryz.prog 9=some 1)∧(ZaD Tryz.prog 9=some [.lit (.string ByteArray.empty)])∧(lenT Tryz.prog #[9]=some false)∧(Tryz.prog.underlying 9=some .string)∧(ZaG Tryz.prog 22=some .one)∧(ZaH Tryz.prog 22=some 1)∧(ZaD Tryz.prog 22=some [.sl []])∧(Zbc Tryz.prog 22=some 1)∧(lenT Tryz.prog #[22]=some true)∧(Za2 Tryz.prog 22=some (9,1,16))∧(ZaG Tryz.prog 23=some .one)∧(ZaH Tryz.prog 23=some 1)∧(ZaD Tryz.prog 23=some [.sl []])∧(Zbc Tryz.prog 23=some 2)∧(lenT Tryz.prog #[23]=some true)∧(Za2 Tryz.prog 23=some (254,2,16))∧(ZaG Tryz.prog 25=some (.agg 2))∧(ZaH Tryz.prog 25=some 2)∧(ZaD Tryz.prog 25=some [.sl [],.sl []])∧(ZaN Tryz.prog 25=true)∧(offT Tryz.prog 25 0=some (0,22))∧(offT Tryz.prog 25 1=some (1,23))∧(ZaG Tryz.prog 26=some .one)∧(ZaH Tryz.prog 26=some 1)∧(ZaD Tryz.prog 26=some [.sl []])∧(Zbc Tryz.prog 26=some 5):=by repeat' (first | refine ai ?_ ?_ | kernel_rfl)
theorem tt_1:(lenT Tryz.prog #[26]=some true)∧(Za2 Tryz.prog 26=some (169,5,56))∧(ZaG Tryz.prog 28=some (.agg 3))∧(ZaH Tryz.prog 28=some 3)∧(ZaD Tryz.prog 28=some [.sl [],.sl [],.sl []])∧(ZaN Tryz.prog 28=true)∧(offT Tryz.prog 28 0=some (0,25))∧(offT Tryz.prog 28 1=some (2,26))∧(ZaG Tryz.prog 29=some .one)∧(ZaH Tryz.prog 29=some 1)∧(ZaD Tryz.prog 29=some [.sl []])∧(Zbc Tryz.prog 29=some 1)∧(lenT Tryz.prog #[29]=some true)∧(Za2 Tryz.prog 29=some (3,1,8))∧(ZaG Tryz.prog 30=some .one)∧(ZaH Tryz.prog 30=some 1)∧(ZaD Tryz.prog 30=some [.sl []])∧(Zbc Tryz.prog 30=some 4)∧(lenT Tryz.prog #[30]=some true)∧(Za2 Tryz.prog 30=some (32,4,56))∧(ZaG Tryz.prog 32=some (.agg 4))∧(ZaH Tryz.prog 32=some 4)∧(ZaD Tryz.prog 32=some [.lit (.int .i64 0),.lit (.string ByteArray.empty),.lit (.int .i64 0),.sl []])∧(ZaN Tryz.prog 32=true)∧(offT Tryz.prog 32 0=some (0,3))∧(offT Tryz.prog 32 1=some (1,9))∧(offT Tryz.prog 32 2=some (2,3))∧(offT Tryz.prog 32 3=some (3,30))∧(ZaG Tryz.prog 36=some .one)∧(ZaH Tryz.prog 36=some 1)∧(ZaD Tryz.prog 36=some [.sl []])∧(Zbc Tryz.prog 36=some 2)∧(lenT Tryz.prog #[36]=some true)∧(Za2 Tryz.prog 36=some (252,2,16))∧(ZaG Tryz.prog 38=some (.agg 2))∧(ZaH Tryz.prog 38=some 2)∧(ZaD Tryz.prog 38=some [.sl [],.sl []])∧(ZaN Tryz.prog 38=true)∧(Zdc Tryz.prog 38=some [.lit (.slice none 0 0),.lit (.slice none 0 0)])∧(offT Tryz.prog 38 0=some (0,22)):=by repeat' (first | refine ai ?_ ?_ | kernel_rfl)
theorem tt_2:(offT Tryz.prog 38 1=some (1,36))∧(ZaG Tryz.prog 39=some .one)∧(ZaH Tryz.prog 39=some 1)∧(ZaD Tryz.prog 39=some [.sl []])∧(Zbc Tryz.prog 39=some 5)∧(lenT Tryz.prog #[39]=some true)∧(Za2 Tryz.prog 39=some (172,5,56))∧(ZaG Tryz.prog 41=some (.agg 3))∧(ZaH Tryz.prog 41=some 3)∧(ZaD Tryz.prog 41=some [.sl [],.sl [],.sl []])∧(ZaN Tryz.prog 41=true)∧(Zdc Tryz.prog 41=some [.lit (.slice none 0 0),.lit (.slice none 0 0),.lit (.slice none 0 0)])∧(offT Tryz.prog 41 0=some (0,38))∧(offT Tryz.prog 41 1=some (2,39))∧(ZaG Tryz.prog 44=some .one)∧(ZaH Tryz.prog 44=some 1)∧(ZaD Tryz.prog 44=some [.sl []])∧(Zbc Tryz.prog 44=some 4)∧(lenT Tryz.prog #[44]=some true)∧(Za2 Tryz.prog 44=some (46,4,56))∧(ZaG Tryz.prog 46=some (.agg 4))∧(ZaH Tryz.prog 46=some 4)∧(ZaD Tryz.prog 46=some [.lit (.int .i64 0),.lit (.string ByteArray.empty),.lit (.int .i64 0),.sl []])∧(ZaN Tryz.prog 46=true)∧(Zdc Tryz.prog 46=some [.lit (.int .i64 0),.lit (.string ByteArray.empty),.lit (.int .i64 0),.lit (.slice none 0 0)])∧(offT Tryz.prog 46 0=some (0,3))∧(offT Tryz.prog 46 1=some (1,9))∧(offT Tryz.prog 46 2=some (2,3))∧(offT Tryz.prog 46 3=some (3,44))∧(ZaG Tryz.prog 52=some .one)∧(ZaH Tryz.prog 52=some 1)∧(ZaD Tryz.prog 52=some [.sl []])∧(Zbc Tryz.prog 52=some 8)∧(lenT Tryz.prog #[52]=some true)∧(Za2 Tryz.prog 52=some (192,8,112))∧(ZaG Tryz.prog 54=some (.agg 9))∧(ZaH Tryz.prog 54=some 9)∧(ZaD Tryz.prog 54=some [.lit (.int .i64 0),.lit (.string ByteArray.empty),.lit (.int .i64 0),.sl [],.lit (.int .i64 0),.lit (.string ByteArray.empty),.lit (.int .i64 0),.sl [],.sl []])∧(ZaN Tryz.prog 54=true)∧(offT Tryz.prog 54 0=some (0,32)):=by repeat' (first | refine ai ?_ ?_ | kernel_rfl)
theorem tt_3:(offT Tryz.prog 54 1=some (4,32))∧(offT Tryz.prog 54 2=some (8,52))∧(ZaG Tryz.prog 56=some .one)∧(ZaH Tryz.prog 56=some 1)∧(ZaD Tryz.prog 56=some [.sl []])∧(Zbc Tryz.prog 56=some 8)∧(lenT Tryz.prog #[56]=some true)∧(Za2 Tryz.prog 56=some (196,8,112))∧(ZaG Tryz.prog 58=some (.agg 9))∧(ZaH Tryz.prog 58=some 9)∧(ZaD Tryz.prog 58=some [.lit (.int .i64 0),.lit (.string ByteArray.empty),.lit (.int .i64 0),.sl [],.lit (.int .i64 0),.lit (.string ByteArray.empty),.lit (.int .i64 0),.sl [],.sl []])∧(ZaN Tryz.prog 58=true)∧(Zdc Tryz.prog 58=some [.lit (.int .i64 0),.lit (.string ByteArray.empty),.lit (.int .i64 0),.lit (.slice none 0 0),.lit (.int .i64 0),.lit (.string ByteArray.empty),.lit (.int .i64 0),.lit (.slice none 0 0),.lit (.slice none 0 0)])∧(offT Tryz.prog 58 0=some (0,46))∧(offT Tryz.prog 58 1=some (4,46))∧(offT Tryz.prog 58 2=some (8,56))∧(ZaG Tryz.prog 66=some .one)∧(ZaH Tryz.prog 66=some 1)∧(ZaD Tryz.prog 66=some [.sl []])∧(Zbc Tryz.prog 66=some 9)∧(lenT Tryz.prog #[66]=some true)∧(Za2 Tryz.prog 66=some (54,9,136))∧(ZaG Tryz.prog 68=some (.agg 5))∧(ZaH Tryz.prog 68=some 5)∧(ZaD Tryz.prog 68=some [.sl [],.sl [],.sl [],.sl [],.sl []])∧(ZaN Tryz.prog 68=true)∧(offT Tryz.prog 68 0=some (0,28))∧(offT Tryz.prog 68 1=some (3,66))∧(offT Tryz.prog 68 2=some (4,66))∧(ZaG Tryz.prog 69=some .one)∧(ZaH Tryz.prog 69=some 1)∧(ZaD Tryz.prog 69=some [.sl []])∧(Zbc Tryz.prog 69=some 6)∧(lenT Tryz.prog #[69]=some true)∧(Za2 Tryz.prog 69=some (215,6,128))∧(ZaG Tryz.prog 71=some (.agg 9))∧(ZaH Tryz.prog 71=some 9)∧(ZaD Tryz.prog 71=some [.lit (.int .i64 0),.lit (.string ByteArray.empty),.lit (.int .i64 0),.sl [],.lit (.int .i64 0),.lit (.string ByteArray.empty),.lit (.int .i64 0),.sl [],.sl []])∧(ZaN Tryz.prog 71=true)∧(offT Tryz.prog 71 0=some (0,32)):=by repeat' (first | refine ai ?_ ?_ | kernel_rfl)
theorem tt_4:(offT Tryz.prog 71 1=some (4,32))∧(offT Tryz.prog 71 2=some (8,69))∧(ZaG Tryz.prog 75=some .one)∧(ZaH Tryz.prog 75=some 1)∧(ZaD Tryz.prog 75=some [.sl []])∧(Zbc Tryz.prog 75=some 9)∧(lenT Tryz.prog #[75]=some true)∧(Za2 Tryz.prog 75=some (58,9,136))∧(ZaG Tryz.prog 77=some (.agg 5))∧(ZaH Tryz.prog 77=some 5)∧(ZaD Tryz.prog 77=some [.sl [],.sl [],.sl [],.sl [],.sl []])∧(ZaN Tryz.prog 77=true)∧(Zdc Tryz.prog 77=some [.lit (.slice none 0 0),.lit (.slice none 0 0),.lit (.slice none 0 0),.lit (.slice none 0 0),.lit (.slice none 0 0)])∧(offT Tryz.prog 77 0=some (0,41))∧(offT Tryz.prog 77 1=some (3,75))∧(offT Tryz.prog 77 2=some (4,75))∧(ZaG Tryz.prog 79=some .one)∧(ZaH Tryz.prog 79=some 1)∧(ZaD Tryz.prog 79=some [.sl []])∧(Zbc Tryz.prog 79=some 6)∧(lenT Tryz.prog #[79]=some true)∧(Za2 Tryz.prog 79=some (145,6,128))∧(ZaG Tryz.prog 81=some (.agg 9))∧(ZaH Tryz.prog 81=some 9)∧(ZaD Tryz.prog 81=some [.lit (.int .i64 0),.lit (.string ByteArray.empty),.lit (.int .i64 0),.sl [],.lit (.int .i64 0),.lit (.string ByteArray.empty),.lit (.int .i64 0),.sl [],.sl []])∧(ZaN Tryz.prog 81=true)∧(Zdc Tryz.prog 81=some [.lit (.int .i64 0),.lit (.string ByteArray.empty),.lit (.int .i64 0),.lit (.slice none 0 0),.lit (.int .i64 0),.lit (.string ByteArray.empty),.lit (.int .i64 0),.lit (.slice none 0 0),.lit (.slice none 0 0)])∧(offT Tryz.prog 81 0=some (0,46))∧(offT Tryz.prog 81 1=some (4,46))∧(offT Tryz.prog 81 2=some (8,79))∧(ZaG Tryz.prog 91=some .one)∧(ZaH Tryz.prog 91=some 1)∧(ZaD Tryz.prog 91=some [.sl []])∧(Zbc Tryz.prog 91=some 1)∧(lenT Tryz.prog #[91]=some true)∧(Za2 Tryz.prog 91=some (140,1,24))∧(ZaG Tryz.prog 106=some .one)∧(ZaH Tryz.prog 106=some 1)∧(ZaG Tryz.prog 110=some .one)∧(ZaH Tryz.prog 110=some 1):=by repeat' (first | refine ai ?_ ?_ | kernel_rfl)
theorem tt_5:(ZaG Tryz.prog 112=some (.agg 3))∧(ZaH Tryz.prog 112=some 3)∧(ZaD Tryz.prog 112=some [.lit (.pointer none),.sl [],.lit (.map none)])∧(ZaN Tryz.prog 112=true)∧(Zdc Tryz.prog 112=some [.lit (.pointer none),.lit (.slice none 0 0),.lit (.map none)])∧(offT Tryz.prog 112 0=some (0,106))∧(offT Tryz.prog 112 1=some (1,29))∧(offT Tryz.prog 112 2=some (2,110))∧(ZaG Tryz.prog 132=some .one)∧(ZaH Tryz.prog 132=some 1)∧(ZaG Tryz.prog 140=some .one)∧(ZaH Tryz.prog 140=some 1)∧(ZaD Tryz.prog 140=some [.sl []])∧(Zbc Tryz.prog 140=some 8)∧(lenT Tryz.prog #[140]=some true)∧(Za2 Tryz.prog 140=some (156,8,112))∧(ZaG Tryz.prog 142=some (.agg 4))∧(ZaH Tryz.prog 142=some 4)∧(ZaD Tryz.prog 142=some [.sl [],.sl [],.sl [],.sl []])∧(ZaN Tryz.prog 142=true)∧(Zdc Tryz.prog 142=some [.lit (.slice none 0 0),.lit (.slice none 0 0),.lit (.slice none 0 0),.lit (.slice none 0 0)])∧(offT Tryz.prog 142 0=some (0,29))∧(offT Tryz.prog 142 1=some (1,44))∧(offT Tryz.prog 142 2=some (2,44))∧(offT Tryz.prog 142 3=some (3,140))∧(ZaG Tryz.prog 143=some .one)∧(ZaH Tryz.prog 143=some 1)∧(ZaD Tryz.prog 143=some [.sl []])∧(Zbc Tryz.prog 143=some 9)∧(lenT Tryz.prog #[143]=some true)∧(Za2 Tryz.prog 143=some (81,9,136))∧(ZaG Tryz.prog 145=some (.agg 6))∧(ZaH Tryz.prog 145=some 6)∧(ZaD Tryz.prog 145=some [.lit (.int .i64 0),.sl [],.sl [],.sl [],.sl [],.sl []])∧(ZaN Tryz.prog 145=true)∧(Zdc Tryz.prog 145=some [.lit (.int .i64 0),.lit (.slice none 0 0),.lit (.slice none 0 0),.lit (.slice none 0 0),.lit (.slice none 0 0),.lit (.slice none 0 0)])∧(offT Tryz.prog 145 0=some (0,3))∧(offT Tryz.prog 145 1=some (1,142))∧(offT Tryz.prog 145 2=some (5,143))∧(ZaG Tryz.prog 156=some (.agg 8)):=by repeat' (first | refine ai ?_ ?_ | kernel_rfl)
theorem tt_6:(ZaH Tryz.prog 156=some 8)∧(ZaD Tryz.prog 156=some [.lit (.int .i64 0),.lit (.string ByteArray.empty),.lit (.int .i64 0),.sl [],.lit (.int .i64 0),.lit (.string ByteArray.empty),.lit (.int .i64 0),.sl []])∧(ZaN Tryz.prog 156=true)∧(Zdc Tryz.prog 156=some [.lit (.int .i64 0),.lit (.string ByteArray.empty),.lit (.int .i64 0),.lit (.slice none 0 0),.lit (.int .i64 0),.lit (.string ByteArray.empty),.lit (.int .i64 0),.lit (.slice none 0 0)])∧(offT Tryz.prog 156 0=some (0,46))∧(offT Tryz.prog 156 1=some (4,46))∧(ZaG Tryz.prog 167=some .one)∧(ZaH Tryz.prog 167=some 1)∧(ZaD Tryz.prog 167=some [.sl []])∧(Zbc Tryz.prog 167=some 2)∧(lenT Tryz.prog #[167]=some true)∧(Za2 Tryz.prog 167=some (306,2,32))∧(ZaG Tryz.prog 169=some (.agg 5))∧(ZaH Tryz.prog 169=some 5)∧(ZaD Tryz.prog 169=some [.lit (.string ByteArray.empty),.sl [],.lit (.bool false),.lit (.bool false),.lit (.int .i64 0)])∧(ZaN Tryz.prog 169=true)∧(offT Tryz.prog 169 0=some (0,9))∧(offT Tryz.prog 169 1=some (1,167))∧(offT Tryz.prog 169 2=some (2,4))∧(offT Tryz.prog 169 3=some (3,4))∧(offT Tryz.prog 169 4=some (4,3))∧(ZaG Tryz.prog 170=some .one)∧(ZaH Tryz.prog 170=some 1)∧(ZaD Tryz.prog 170=some [.sl []])∧(Zbc Tryz.prog 170=some 2)∧(lenT Tryz.prog #[170]=some true)∧(Za2 Tryz.prog 170=some (261,2,32))∧(ZaG Tryz.prog 172=some (.agg 5))∧(ZaH Tryz.prog 172=some 5)∧(ZaD Tryz.prog 172=some [.lit (.string ByteArray.empty),.sl [],.lit (.bool false),.lit (.bool false),.lit (.int .i64 0)])∧(ZaN Tryz.prog 172=true)∧(Zdc Tryz.prog 172=some [.lit (.string ByteArray.empty),.lit (.slice none 0 0),.lit (.bool false),.lit (.bool false),.lit (.int .i64 0)])∧(offT Tryz.prog 172 0=some (0,9))∧(offT Tryz.prog 172 1=some (1,170))∧(offT Tryz.prog 172 2=some (2,4))∧(offT Tryz.prog 172 3=some (3,4))∧(offT Tryz.prog 172 4=some (4,3))∧(ZaG Tryz.prog 178=some (.agg 3))∧(ZaH Tryz.prog 178=some 3)∧(ZaD Tryz.prog 178=some [.sl [],.sl [],.sl []]):=by repeat' (first | refine ai ?_ ?_ | kernel_rfl)
theorem tt_7:(ZaN Tryz.prog 178=true)∧(Zdc Tryz.prog 178=some [.lit (.slice none 0 0),.lit (.slice none 0 0),.lit (.slice none 0 0)])∧(offT Tryz.prog 178 0=some (0,29))∧(offT Tryz.prog 178 1=some (1,29))∧(offT Tryz.prog 178 2=some (2,29))∧(ZaG Tryz.prog 181=some .one)∧(ZaH Tryz.prog 181=some 1)∧(ZaG Tryz.prog 183=some (.agg 7))∧(ZaH Tryz.prog 183=some 7)∧(ZaD Tryz.prog 183=some [.sl [],.sl [],.sl [],.sl [],.sl [],.sl [],.lit (.map none)])∧(ZaN Tryz.prog 183=true)∧(Zdc Tryz.prog 183=some [.lit (.slice none 0 0),.lit (.slice none 0 0),.lit (.slice none 0 0),.lit (.slice none 0 0),.lit (.slice none 0 0),.lit (.slice none 0 0),.lit (.map none)])∧(offT Tryz.prog 183 0=some (0,178))∧(offT Tryz.prog 183 1=some (3,41))∧(offT Tryz.prog 183 2=some (6,181))∧(ZaG Tryz.prog 192=some (.agg 8))∧(ZaH Tryz.prog 192=some 8)∧(ZaD Tryz.prog 192=some [.lit (.int .i64 0),.lit (.string ByteArray.empty),.lit (.int .i64 0),.sl [],.lit (.int .i64 0),.lit (.string ByteArray.empty),.lit (.int .i64 0),.sl []])∧(ZaN Tryz.prog 192=true)∧(offT Tryz.prog 192 0=some (0,32))∧(offT Tryz.prog 192 1=some (4,32))∧(ZaG Tryz.prog 196=some (.agg 8))∧(ZaH Tryz.prog 196=some 8)∧(ZaD Tryz.prog 196=some [.lit (.int .i64 0),.lit (.string ByteArray.empty),.lit (.int .i64 0),.sl [],.lit (.int .i64 0),.lit (.string ByteArray.empty),.lit (.int .i64 0),.sl []])∧(ZaN Tryz.prog 196=true)∧(Zdc Tryz.prog 196=some [.lit (.int .i64 0),.lit (.string ByteArray.empty),.lit (.int .i64 0),.lit (.slice none 0 0),.lit (.int .i64 0),.lit (.string ByteArray.empty),.lit (.int .i64 0),.lit (.slice none 0 0)])∧(offT Tryz.prog 196 0=some (0,46))∧(offT Tryz.prog 196 1=some (4,46))∧(ZaG Tryz.prog 210=some .one)∧(ZaH Tryz.prog 210=some 1)∧(ZaD Tryz.prog 210=some [.sl []])∧(Zbc Tryz.prog 210=some 8)∧(lenT Tryz.prog #[210]=some true)∧(Za2 Tryz.prog 210=some (331,8,112))∧(ZaG Tryz.prog 212=some (.agg 4))∧(ZaH Tryz.prog 212=some 4)∧(ZaD Tryz.prog 212=some [.sl [],.sl [],.sl [],.sl []])∧(ZaN Tryz.prog 212=true)∧(offT Tryz.prog 212 0=some (0,29))∧(offT Tryz.prog 212 1=some (1,30)):=by repeat' (first | refine ai ?_ ?_ | kernel_rfl)
theorem tt_8:(offT Tryz.prog 212 2=some (2,30))∧(offT Tryz.prog 212 3=some (3,210))∧(ZaG Tryz.prog 213=some .one)∧(ZaH Tryz.prog 213=some 1)∧(ZaD Tryz.prog 213=some [.sl []])∧(Zbc Tryz.prog 213=some 9)∧(lenT Tryz.prog #[213]=some true)∧(Za2 Tryz.prog 213=some (71,9,136))∧(ZaG Tryz.prog 215=some (.agg 6))∧(ZaH Tryz.prog 215=some 6)∧(ZaD Tryz.prog 215=some [.lit (.int .i64 0),.sl [],.sl [],.sl [],.sl [],.sl []])∧(ZaN Tryz.prog 215=true)∧(offT Tryz.prog 215 0=some (0,3))∧(offT Tryz.prog 215 1=some (1,212))∧(offT Tryz.prog 215 2=some (5,213))∧(ZaG Tryz.prog 227=some .one)∧(ZaH Tryz.prog 227=some 1)∧(ZaD Tryz.prog 227=some [.sl []])∧(Zbc Tryz.prog 227=some 1)∧(lenT Tryz.prog #[227]=some true)∧(Za2 Tryz.prog 227=some (5,1,1))∧(ZaG Tryz.prog 241=some .one)∧(ZaH Tryz.prog 241=some 1)∧(ZaD Tryz.prog 241=some [.lit (.int .u64 0)])∧(ZaG Tryz.prog 252=some (.agg 2))∧(ZaH Tryz.prog 252=some 2)∧(ZaD Tryz.prog 252=some [.lit (.int .i64 0),.lit (.int .i64 0)])∧(ZaN Tryz.prog 252=true)∧(offT Tryz.prog 252 0=some (0,3))∧(offT Tryz.prog 252 1=some (1,3))∧(ZaG Tryz.prog 254=some (.agg 2))∧(ZaH Tryz.prog 254=some 2)∧(ZaD Tryz.prog 254=some [.lit (.int .i64 0),.lit (.int .i64 0)])∧(ZaN Tryz.prog 254=true)∧(offT Tryz.prog 254 0=some (0,3))∧(offT Tryz.prog 254 1=some (1,3))∧(ZaG Tryz.prog 261=some (.agg 2))∧(ZaH Tryz.prog 261=some 2)∧(ZaD Tryz.prog 261=some [.sl [],.lit (.int .i64 0)])∧(ZaN Tryz.prog 261=true):=by repeat' (first | refine ai ?_ ?_ | kernel_rfl)
theorem tt_9:(Zdc Tryz.prog 261=some [.lit (.slice none 0 0),.lit (.int .i64 0)])∧(offT Tryz.prog 261 0=some (0,29))∧(offT Tryz.prog 261 1=some (1,3))∧(ZaG Tryz.prog 273=some .one)∧(ZaH Tryz.prog 273=some 1)∧(ZaD Tryz.prog 273=some [.sl []])∧(Zbc Tryz.prog 273=some 1)∧(lenT Tryz.prog #[273]=some true)∧(Za2 Tryz.prog 273=some (75,1,24))∧(ZaG Tryz.prog 306=some (.agg 2))∧(ZaH Tryz.prog 306=some 2)∧(ZaD Tryz.prog 306=some [.sl [],.lit (.int .i64 0)])∧(ZaN Tryz.prog 306=true)∧(offT Tryz.prog 306 0=some (0,29))∧(offT Tryz.prog 306 1=some (1,3))∧(ZaG Tryz.prog 321=some .one)∧(ZaH Tryz.prog 321=some 1)∧(ZaD Tryz.prog 321=some [.sl []])∧(Zbc Tryz.prog 321=some 1)∧(lenT Tryz.prog #[321]=some true)∧(Za2 Tryz.prog 321=some (29,1,24))∧(ZaG Tryz.prog 331=some (.agg 8))∧(ZaH Tryz.prog 331=some 8)∧(ZaD Tryz.prog 331=some [.lit (.int .i64 0),.lit (.string ByteArray.empty),.lit (.int .i64 0),.sl [],.lit (.int .i64 0),.lit (.string ByteArray.empty),.lit (.int .i64 0),.sl []])∧(ZaN Tryz.prog 331=true)∧(offT Tryz.prog 331 0=some (0,32))∧(offT Tryz.prog 331 1=some (4,32)):=by repeat' (first | refine ai ?_ ?_ | kernel_rfl)
end Go.Proofs.YtcgacanpeaiabaaGreatDoor
namespace Go.Proofs.YtcgacanpeaiabaaGreatDoor
open Go.RowKit
theorem pm_0:type_of% (aj16 @ZmL @Zxy @ro_n @ro_g @Zxz @pk_t @pk_f @sk_r @g_no @qB_0 @qB_s @ZxA @ZxB @ZxC @Zlf (aj15 @ZtV @Zlg @ZtW @ZCD @R_un @ZoP @ZCE @ZxD @ZtX @ZCF @ZCG @ZCH @ZxE @ZtY (@ZtZ))):=aj16 @ZmL @Zxy @ro_n @ro_g @Zxz @pk_t @pk_f @sk_r @g_no @qB_0 @qB_s @ZxA @ZxB @ZxC @Zlf (aj15 @ZtV @Zlg @ZtW @ZCD @R_un @ZoP @ZCE @ZxD @ZtX @ZCF @ZCG @ZCH @ZxE @ZtY (@ZtZ))
theorem pm_1:type_of% (aj16 @ZjV @ZmN @ZxF @Zt0 @ZxG @Zt1 @Zt2 @Zt3 @ZxH @Zt4 @ZqV @ZCI @fA_d @ZxI @ZCJ (aj15 @ZCK @ZCL @ZCM @ZxJ @ky_d @ZxK @ZxL @ZxM @Zt5 @ZqW @Zt6 @ZCN @Zt7 @ZqX (@Zlh))):=aj16 @ZjV @ZmN @ZxF @Zt0 @ZxG @Zt1 @Zt2 @Zt3 @ZxH @Zt4 @ZqV @ZCI @fA_d @ZxI @ZCJ (aj15 @ZCK @ZCL @ZCM @ZxJ @ky_d @ZxK @ZxL @ZxM @Zt5 @ZqW @Zt6 @ZCN @Zt7 @ZqX (@Zlh))
theorem pm_2:type_of% (aj16 @ZqY @ZxN @ZxO @Zt8 @Zt9 @ZCO @ZCP @ZCQ @ZCR @s_bf @Zua @Zub @ZCS @ZCT @ZxP (aj15 @ZCU @ZCV @ZCW @ZCX @Zuc @Zud @Zue @ZCY @ZxQ @ZxR @ZxS @ZxT @kl_d @ZxU (@Zq0))):=aj16 @ZqY @ZxN @ZxO @Zt8 @Zt9 @ZCO @ZCP @ZCQ @ZCR @s_bf @Zua @Zub @ZCS @ZCT @ZxP (aj15 @ZCU @ZCV @ZCW @ZCX @Zuc @Zud @Zue @ZCY @ZxQ @ZxR @ZxS @ZxT @kl_d @ZxU (@Zq0))
theorem pm_3:type_of% (aj16 @ZCZ @ZxV @Zuf @ZC0 @Zug @ZxW @Zuh @Zui @ib_d @ZxX @ZC1 @Zuj @Zuk @ZxY @ZC2 (aj15 @Zul @ZxZ @ZC3 @Zx0 @ZC4 @t_sl @ZC5 @ZkQ @Zup @ZC7 @ZC8 @ZC9 @Zx2 @ZDa (@ZDb))):=aj16 @ZCZ @ZxV @Zuf @ZC0 @Zug @ZxW @Zuh @Zui @ib_d @ZxX @ZC1 @Zuj @Zuk @ZxY @ZC2 (aj15 @Zul @ZxZ @ZC3 @Zx0 @ZC4 @t_sl @ZC5 @ZkQ @Zup @ZC7 @ZC8 @ZC9 @Zx2 @ZDa (@ZDb))
theorem pm_4:type_of% (aj16 @Zuq @Zx3 @Zx4 @Zx5 @ZDc @ZDd @Zur @Zx6 @Zx7 @Zus @ZDe @Zut @Zuu @ZDf @ZDg (aj15 @Zx8 @Zx9 @Zuv @ZDh @Zya @ZDi @Zyb @ZDj @ZDk @ZDl @ZDm @Zyc @Zuw @ZDn (@Zux))):=aj16 @Zuq @Zx3 @Zx4 @Zx5 @ZDc @ZDd @Zur @Zx6 @Zx7 @Zus @ZDe @Zut @Zuu @ZDf @ZDg (aj15 @Zx8 @Zx9 @Zuv @ZDh @Zya @ZDi @Zyb @ZDj @ZDk @ZDl @ZDm @Zyc @Zuw @ZDn (@Zux))
theorem pm_5:type_of% (aj16 @Zyd @Zuy @ZDo @ZDp @ZDq @Zuz @Zye @ZuA @ZuB @ZDr @ZuC @ZuD @Zyf @ZuE @ZuF (aj15 @Zyg @ZuG @ZuH @ZuI @Zyh @ZuJ @ZDs @ZuK @ZuL @Zyi @Zq5 @ZuM @ZuN @ZuO (@ZuP))):=aj16 @Zyd @Zuy @ZDo @ZDp @ZDq @Zuz @Zye @ZuA @ZuB @ZDr @ZuC @ZuD @Zyf @ZuE @ZuF (aj15 @Zyg @ZuG @ZuH @ZuI @Zyh @ZuJ @ZDs @ZuK @ZuL @Zyi @Zq5 @ZuM @ZuN @ZuO (@ZuP))
theorem pm_6:type_of% (aj16 @sl_2 @sl_3 @Zyj @Zyk @ZuQ @Zyl @ZuR @Zym @Zyn @ZDt @Zyo @ZDu @Zyp @ZDv @Zyq (aj15 @ZuS @ZDw @cp_s @cp_x @ZDx @co_z @co_y @ZDy @ZuT @ZuU @ZDz @ZDA @r_no @Zyr (@Zys))):=aj16 @sl_2 @sl_3 @Zyj @Zyk @ZuQ @Zyl @ZuR @Zym @Zyn @ZDt @Zyo @ZDu @Zyp @ZDv @Zyq (aj15 @ZuS @ZDw @cp_s @cp_x @ZDx @co_z @co_y @ZDy @ZuT @ZuU @ZDz @ZDA @r_no @Zyr (@Zys))
theorem pm_7:type_of% (aj16 @Zyt @Zyu @Zyv @Zyw @Zyx @Zyy @Zyz @ZyA @ZyB @ZyC @ZyD @ZyE @ZyF @ZyG @ZyH (aj15 @ZyI @ZyJ @ZyK @bb_t @ZyL @ZDB @ZyM @ZoQ @ZyN @ZyO @ZyP @ZyQ @ZyR @ZyS (@ZyT))):=aj16 @Zyt @Zyu @Zyv @Zyw @Zyx @Zyy @Zyz @ZyA @ZyB @ZyC @ZyD @ZyE @ZyF @ZyG @ZyH (aj15 @ZyI @ZyJ @ZyK @bb_t @ZyL @ZDB @ZyM @ZoQ @ZyN @ZyO @ZyP @ZyQ @ZyR @ZyS (@ZyT))
theorem pm_8:type_of% (aj16 @ZyU @ZDC @nr_p @nr_s @nr_c @nr_i @ZyV @ZyW @ZyX @ZyY @ZyZ @Zy0 @Zy1 @Zy2 @Zy3 (aj15 @Zy4 @Zy5 @Zy6 @Zy7 @Zy8 @ZuV @ZuW @Zy9 @Zza @ZDD @Zzb @rn_0 @rn_n @rn_g (@st_o))):=aj16 @ZyU @ZDC @nr_p @nr_s @nr_c @nr_i @ZyV @ZyW @ZyX @ZyY @ZyZ @Zy0 @Zy1 @Zy2 @Zy3 (aj15 @Zy4 @Zy5 @Zy6 @Zy7 @Zy8 @ZuV @ZuW @Zy9 @Zza @ZDD @Zzb @rn_0 @rn_n @rn_g (@st_o))
theorem pm_9:type_of% (aj16 @Zzc @ZuX @Zzd @lv_d @Zze @Zzf @Zzg @ZDE @ZDF @Zzh @lb_d @Zzi @Zzj @Zzk @ZDG (aj15 @ZDH @Zzl @ZuY @Zzm @ZuZ @Zu0 @Zzn @ZDI @Zzo @Zu1 @gt_c @Zzp @Zzq @Zzr (@ZDJ))):=aj16 @Zzc @ZuX @Zzd @lv_d @Zze @Zzf @Zzg @ZDE @ZDF @Zzh @lb_d @Zzi @Zzj @Zzk @ZDG (aj15 @ZDH @Zzl @ZuY @Zzm @ZuZ @Zu0 @Zzn @ZDI @Zzo @Zu1 @gt_c @Zzp @Zzq @Zzr (@ZDJ))
theorem ZDK:type_of% (aj16 @Zzs @Zzt @Zu2 @Zzu @Zzv @dc_s @dc_p @dc_f @Zzw @Zzx @Zzy @Zzz @Zu3 @ZzA @Zu4 (aj5 @ZzB @ZzC @Zu5 @Zu6 (@ud_d))):=aj16 @Zzs @Zzt @Zu2 @Zzu @Zzv @dc_s @dc_p @dc_f @Zzw @Zzx @Zzy @Zzz @Zu3 @ZzA @Zu4 (aj5 @ZzB @ZzC @Zu5 @Zu6 (@ud_d))
theorem ZDL:type_of% (aj6 @ZC6 @Zum @Zun @Zq1 @Zx1 @Zuo):=(aj6 @ZC6 @Zum @Zun @Zq1 @Zx1 @Zuo)
def Zfh:List Nat->List (Nat × A)->List (Nat × A)
 | _,[]=>[]
 | ds,(k,a)::r=>if ds.elem k then Zfh ds r else (k,a)::Zfh (k::ds) r
def Zfi:List Nat->List (Nat × Bk)->List (Nat × Bk)
 | _,[]=>[]
 | ds,(k,a)::r=>if ds.elem k then Zfi ds r else (k,a)::Zfi (k::ds) r
theorem ZBF {s t:List (Nat × A)} (h:∀ p∈t,gs s p.1=p.2):Zc4 s t:=by
 induction t with
 | nil=>exact trivial
 | cons p r ih=>exact ⟨h p Tas,ih fun q hq=>h q (Tal _ hq)⟩
theorem ZBG {s t:List (Nat × Bk)} (h:∀ p∈t,gm s p.1=some p.2):Zc5 s t:=by
 induction t with
 | nil=>exact trivial
 | cons p r ih=>exact ⟨h p Tas,ih fun q hq=>h q (Tal _ hq)⟩
theorem ZzD:∀ {s:List (Nat × A)} {ds:List Nat} {p:Nat × A},p∈Zfh ds s->ds.elem p.1=false∧gs s p.1=p.2:=by
 intro s
 induction s with
 | nil=>intro ds p h;cases h
 | cons q r ih =>
  intro ds p h;obtain ⟨k,a⟩:=q;simp only [Zfh] at h;by_cases hk:ds.elem k=true
  ·rw [if_pos hk] at h;have:=ih h;refine ⟨this.1,?_⟩;rw [gs,if_neg ?_]
   ·exact this.2
   ·intro e;rw [e] at this;rw [hk] at this;cases this.1
  ·rw [if_neg hk] at h;rcases Tbg.1 h with rfl | h
   ·exact ⟨by simpa using hk,by simp [gs]⟩
   ·have:=ih h;have h1:=this.1;rw [List.elem_cons] at h1;have hne:¬ p.1=k:=by intro e;simp [e] at h1
    refine ⟨?_,?_⟩
    ·cases hb:(p.1==k) with
     | true=>rw [hb] at h1;cases h1
     | false=>rw [hb] at h1;exact h1
    ·rw [gs,if_neg hne];exact this.2
theorem ZzE:∀ {s:List (Nat × Bk)} {ds:List Nat} {p:Nat × Bk},p∈Zfi ds s->ds.elem p.1=false∧gm s p.1=some p.2:=by
 intro s
 induction s with
 | nil=>intro ds p h;cases h
 | cons q r ih =>
  intro ds p h;obtain ⟨k,a⟩:=q;simp only [Zfi] at h;by_cases hk:ds.elem k=true
  ·rw [if_pos hk] at h;have:=ih h;refine ⟨this.1,?_⟩;rw [gm,if_neg ?_]
   ·exact this.2
   ·intro e;rw [e] at this;rw [hk] at this;cases this.1
  ·rw [if_neg hk] at h;rcases Tbg.1 h with rfl | h
   ·exact ⟨by simpa using hk,by simp [gm]⟩
   ·have:=ih h;have h1:=this.1;rw [List.elem_cons] at h1;have hne:¬ p.1=k:=by intro e;simp [e] at h1
    refine ⟨?_,?_⟩
    ·cases hb:(p.1==k) with
     | true=>rw [hb] at h1;cases h1
     | false=>rw [hb] at h1;exact h1
    ·rw [gm,if_neg hne];exact this.2
theorem Zq6 {s a b:List (Nat × A)}:Zc4 s (a++b) ↔ Zc4 s a∧Zc4 s b:=by
 induction a with
 | nil=>simp [Zc4]
 | cons p r ih=>simp [Zc4,ih,and_assoc]
theorem Zq7 {s a b:List (Nat × Bk)}:Zc5 s (a++b) ↔ Zc5 s a∧Zc5 s b:=by
 induction a with
 | nil=>simp [Zc5]
 | cons p r ih=>simp [Zc5,ih,and_assoc]
theorem ZzF {e:Env} {mask:Nat} {Q:PX->St->Prop} {c:Code} {s:List (Nat × A)} {m:List (Nat × Bk)} {ι:Type} (ds dm:List Nat) (us:ι->List (Nat × A)) (ms:ι->List (Nat × Bk)) (ok:ι->Prop) (μ:ι->Nat) (x0:ι)
  {s0:List (Nat × A)} {m0:List (Nat × Bk)} (hs0:Zfh ds s=s0) (hm0:Zfi dm m=m0) {ss:ι->List (Nat × A)} {mm:ι->List (Nat × Bk)} (hss:∀ x,us x++s0=ss x) (hmm:∀ x,ms x++m0=mm x) (hs:Zc4 s (us x0)) (hm:Zc5 m (ms x0)) (h0:ok x0)
  (hr:∀ x,ok x->pwp e mask c ⟨ss x,mm x⟩ (fun p σ''=>match p with
   | .normal=>∃ y,ok y∧Zc4 σ''.s (ss y)∧Zc5 σ''.m (mm y)∧μ y < μ x
   | p=>Q p σ'')):pwp e mask (.loop c) ⟨s,m⟩ Q:=by
 refine ZBv (fun x=>⟨ss x,mm x⟩) ok μ x0 h0 ?_ ?_ hr
 ·show Zc4 s (ss x0);rw [<- hss,Zq6,<- hs0];exact ⟨hs,ZBF fun p hp=>(ZzD hp).2⟩
 ·show Zc5 m (mm x0);rw [<- hmm,Zq7,<- hm0];exact ⟨hm,ZBG fun p hp=>(ZzE hp).2⟩
theorem ZzG {e:Env} {mask:Nat} {Q:PX->St->Prop} {σ:St} {id:Nat} {l:List Oper} (h:∀ ds,l.map (·.dst)=ds->Runs e ds 0 l σ (Zdf mask Q)):pwp e mask (.region id l.toArray false) σ Q:=ZBD rfl (h _ rfl)
theorem Zaq {e:Env} {mask:Nat} {Q:PX->St->Prop} {σ:St} {id:Nat} {l:List Oper} (n:Nat) (hr:regX l.toArray n=true) (h:∀ ds,l.map (·.dst)=ds->Runs e ds n l σ (Zdf mask Q)):pwp e mask (.region id l.toArray true) σ Q:=ZBE n hr rfl (h _ rfl)
theorem Zu7 {mask:Nat}:ZdY mask []=[]:=rfl
theorem Zu8 {mask k:Nat} {a:A} {r:List (Nat × A)}:ZdY mask ((k,a)::r)=if mask.testBit k=true then (k,a)::ZdY mask r else ZdY mask r:=rfl
theorem ZDM {m n:Nat}:m.testBit n=((1 &&& (m >>> n)) != 0):=rfl
def endR (mask:Nat):Res->Option (List (Nat × A) × List (Nat × Bk))
 | .done σ=>some (ZdY mask σ.s,σ.m)
 | _=>none
theorem ZzH {mask:Nat} {s:List (Nat × A)} {m:List (Nat × Bk)}:endR mask (.done ⟨s,m⟩)=some (ZdY mask s,m):=rfl
theorem reT {e:Env} {mask:Nat} {Q:PX->St->Prop} {ds:List (Option Nat)} {n:Nat} {os:List Oper} {σ:St} {s2:List (Nat × A)} {m2:List (Nat × Bk)} (h:endR mask (ZbB e.P ds n os σ)=some (s2,m2)) (hQ:Q .normal ⟨s2,m2⟩):Runs e ds n os σ (Zdf mask Q):=by
 cases hr:ZbB e.P ds n os σ with
 | bad=>rw [hr] at h;cases h
 | call q c args d n' os' σ'=>rw [hr] at h;cases h
 | map q d n' os' σ'=>rw [hr] at h;cases h
 | stop n' os' σ'=>rw [hr] at h;cases h
 | done σ' =>
  rw [hr] at h;simp only [endR,Taq,Prod.mk.injEq] at h;obtain ⟨h1,h2⟩:=h;refine Zgp hr ?_;unfold Zdf;rw [h1,h2];exact hQ
def Zq8:Res->Option (FuncId × List D × Option Nat × Nat × List Oper × St)
 | .call q c args d n os σ=>(Zfz q c args σ).map (fun x=>(x.1,x.2.1,d,n,os,x.2.2))
 | _=>none
theorem Zq9 {q:Bool} {c:Operand} {args:List Operand} {d:Option Nat} {n:Nat} {os:List Oper} {σ:St}:Zq8 (.call q c args d n os σ)=(Zfz q c args σ).map (fun x=>(x.1,x.2.1,d,n,os,x.2.2)):=rfl
theorem rcT {e:Env} {K:St->Prop} {ds:List (Option Nat)} {n n':Nat} {os os':List Oper} {σ:St} {f:FuncId} {xs:List D} {d:Option Nat} {r:List D} {s2 s3:List (Nat × A)} {m2:List (Nat × Bk)} (h:Zq8 (ZbB e.P ds n os σ)=some (f,xs,d,n',os',⟨s2,m2⟩)) (hc:Con e f xs r) (h2:setA s2 d (retA r)=s3) (hK:Runs e ds n' os' ⟨s3,m2⟩ K):Runs e ds n os σ K:=by
 cases hr:ZbB e.P ds n os σ with
 | bad=>rw [hr] at h;cases h
 | done σ'=>rw [hr] at h;cases h
 | map q d n' os' σ'=>rw [hr] at h;cases h
 | stop n' os' σ'=>rw [hr] at h;cases h
 | call q c args d1 n1 os1 σ1 =>
  rw [hr] at h;simp only [Zq8,Tav,Prod.mk.injEq] at h;obtain ⟨⟨f',xs',σ2⟩,h1,rfl,rfl,rfl,rfl,rfl,h3⟩:=h;simp only at h3;subst h3;exact ZEi hr h1 hc h2 hK
theorem wkI {e:Env} {mask:Nat} {Q:PX->St->Prop} {σ:St} {c:Code} (h:pwp e mask c σ Q):∃ σ1,Wk σ σ1∧pwp e mask c σ1 Q:=⟨σ,Wk.refl σ,h⟩
theorem ZFR {σ:St} {P:Program} {ts:List RS} {R:List D->Prop} (ks:List Nat) (r:List D) {σ1:St} (hr:R r) (hf:frzs ks σ=σ1) (h:ZcO P σ1 ts r):ZvZ P ts R .ret σ:=⟨ks,r,hr,by rw [hf];exact h⟩
theorem Wk.trans {a b c:St} (h:Wk a b) (k:Wk b c):Wk a c:=by
 refine ⟨fun t=>?_,fun t x hx=>h.2 t x (k.2 t x hx)⟩;rcases k.1 t with q | q
 ·rcases h.1 t with r | r
  ·exact .inl (q.trans r)
  ·exact .inr (q.trans r)
 ·exact .inr q
theorem ZzI {e:Env} {mask:Nat} {Q:PX->St->Prop} {a:Code} {s:List (Nat × A)} {m:List (Nat × Bk)} {ι:Type} (hQ:∀ σ σ1,Wk σ σ1->Q .normal σ1->Q .normal σ) (ds dm:List Nat) (us:ι->List (Nat × A)) (ms:ι->List (Nat × Bk)) (R:ι->Prop)
  {s0:List (Nat × A)} {m0:List (Nat × Bk)} (hs0:Zfh ds s=s0) (hm0:Zfi dm m=m0) {ss:ι->List (Nat × A)} {mm:ι->List (Nat × Bk)} (hss:∀ x,us x++s0=ss x) (hmm:∀ x,ms x++m0=mm x)
  (h:pwp e mask a ⟨s,m⟩ (fun x σ'=>match x with
   | .normal=>∃ y,R y∧Zc4 σ'.s (ss y)∧Zc5 σ'.m (mm y)
   | x=>Q x σ')) (hb:∀ x,R x->Q .normal ⟨ss x,mm x⟩):pwp e mask a ⟨s,m⟩ Q:=by
 refine ZBu (fun p σ' hq=>?_) a _ h
 cases p with
 | normal =>
  obtain ⟨y,h1,h2,h3⟩:=hq;exact hQ _ _ ⟨fun t=>ZiR h2,fun t x=>ZiS h3⟩ (hb y h1)
 | exit id=>exact hq
 | ret=>exact hq
theorem ZjW {r:List C} (h:Zaj (Zac .int) r):∃ x0:Int,r=[.lit (.int .i64 x0)]∧I64 x0:=by
 obtain ⟨c0,rfl⟩:=len1 h.len;simp only [Zac,Zaj,and_true] at h;have h0:=h;obtain ⟨x0,rfl,g0⟩:=ZbR h0;exact ⟨x0,rfl,g0⟩
theorem ZgM {r:List C} (h:Zaj (Zac .decl) r):∃ (r0:List (List C)) (i1:Int),r=[.sl r0,.lit (.int .i64 i1)]∧Zai (Zac .int) r0∧I64 i1:=by
 obtain ⟨c0,c1,rfl⟩:=len2 h.len;simp only [Zac,ZbI,occF,Zca,sigF,ZbQ,algF,Taf,Tah,redF,Zaj,and_true] at h;obtain ⟨h0,h1⟩:=h;obtain ⟨r0,rfl,g0⟩:=ZbD h0;obtain ⟨i1,rfl,g1⟩:=ZbR h1;exact ⟨r0,i1,rfl,g0,g1⟩
theorem ZiT {r:List C} (h:Zaj (Zac .op) r):∃ (t0:ByteArray) (r1:List (List C)) (p2:Bool) (p3:Bool) (i4:Int),r=[.lit (.string t0),.sl r1,.lit (.bool p2),.lit (.bool p3),.lit (.int .i64 i4)]∧t0.size<=maxLen∧Zai (Zac .decl) r1∧True∧True∧I64 i4:=by
 obtain ⟨c0,c1,c2,c3,c4,rfl⟩:=len5 h.len;simp only [Zac,ZbI,occF,Zca,sigF,ZbQ,algF,Taf,Tah,redF,Zaj,and_true] at h;obtain ⟨h0,h1,h2,h3,h4⟩:=h;obtain ⟨t0,rfl,g0⟩:=Zd1 h0;obtain ⟨r1,rfl,g1⟩:=ZbD h1;obtain ⟨p2,rfl⟩:=ZlL h2;obtain ⟨p3,rfl⟩:=ZlL h3;obtain ⟨i4,rfl,g4⟩:=ZbR h4;exact ⟨t0,r1,p2,p3,i4,rfl,g0,g1,trivial,trivial,g4⟩
theorem ZfA {r:List C} (h:Zaj (Zac .str) r):∃ x0:ByteArray,r=[.lit (.string x0)]∧x0.size<=maxLen:=by
 obtain ⟨c0,rfl⟩:=len1 h.len;simp only [Zac,Zaj,and_true] at h;have h0:=h;obtain ⟨x0,rfl,g0⟩:=Zd1 h0;exact ⟨x0,rfl,g0⟩
theorem ZjX {r:List C} (h:Zaj (Zac .sub) r):∃ (i0:Int) (i1:Int),r=[.lit (.int .i64 i0),.lit (.int .i64 i1)]∧I64 i0∧I64 i1:=by
 obtain ⟨c0,c1,rfl⟩:=len2 h.len;simp only [Zac,ZbI,occF,Zca,sigF,ZbQ,algF,Taf,Tah,redF,Zaj,and_true] at h;obtain ⟨h0,h1⟩:=h;obtain ⟨i0,rfl,g0⟩:=ZbR h0;obtain ⟨i1,rfl,g1⟩:=ZbR h1;exact ⟨i0,i1,rfl,g0,g1⟩
theorem Zh4 {r:List C} (h:Zaj (Zca) r):∃ (r0:List (List C)) (r1:List (List C)),r=[.sl r0,.sl r1]∧Zai (Zac .str) r0∧Zai (Zac .sub) r1:=by
 obtain ⟨c0,c1,rfl⟩:=len2 h.len;simp only [Zac,ZbI,occF,Zca,sigF,ZbQ,algF,Taf,Tah,redF,Zaj,and_true] at h;obtain ⟨h0,h1⟩:=h;obtain ⟨r0,rfl,g0⟩:=ZbD h0;obtain ⟨r1,rfl,g1⟩:=ZbD h1;exact ⟨r0,r1,rfl,g0,g1⟩
theorem Zh5 {r0:List (List C)} {r1:List (List C)} (g0:Zai (Zac .str) r0) (g1:Zai (Zac .sub) r1):Zaj (Zca) [.sl r0,.sl r1]:=by
 simp only [Zac,ZbI,occF,Zca,sigF,ZbQ,algF,Taf,Tah,redF,Zaj,and_true];exact ⟨Zff g0,Zff g1⟩
theorem Zew {r:List C} (h:Zaj (sigF) r):∃ (r0:List (List C)) (r1:List (List C)) (r2:List (List C)),r=[.sl r0,.sl r1,.sl r2]∧Zai (Zac .str) r0∧Zai (Zac .sub) r1∧Zai (Zac .op) r2:=by
 obtain ⟨c0,c1,c2,rfl⟩:=len3 h.len;simp only [Zac,ZbI,occF,Zca,sigF,ZbQ,algF,Taf,Tah,redF,Zaj,and_true] at h;obtain ⟨h0,h1,h2⟩:=h;obtain ⟨r0,rfl,g0⟩:=ZbD h0;obtain ⟨r1,rfl,g1⟩:=ZbD h1;obtain ⟨r2,rfl,g2⟩:=ZbD h2;exact ⟨r0,r1,r2,rfl,g0,g1,g2⟩
theorem Zex {r0:List (List C)} {r1:List (List C)} {r2:List (List C)} (g0:Zai (Zac .str) r0) (g1:Zai (Zac .sub) r1) (g2:Zai (Zac .op) r2):Zaj (sigF) [.sl r0,.sl r1,.sl r2]:=by
 simp only [Zac,ZbI,occF,Zca,sigF,ZbQ,algF,Taf,Tah,redF,Zaj,and_true];exact ⟨Zff g0,Zff g1,Zff g2⟩
theorem decL {α:Type} {fs:List F} {e:α->List C} {p:α->Prop} (hd:∀ row,Zaj fs row->∃ a,row=e a∧p a):∀ {rows:List (List C)},Zai fs rows->∃ l:List α,rows=l.map e∧∀ x∈l,p x
 | [],_=>⟨[],rfl,by simp⟩
 | r::rs,h=>by
  simp only [Zai] at h;obtain ⟨a,rfl,ha⟩:=hd r h.1;obtain ⟨l,rfl,hl⟩:=decL hd h.2;exact ⟨a::l,rfl,fun x hx=>by
   rcases Tbg.1 hx with rfl | hx
   ·exact ha
   ·exact hl x hx⟩
theorem okL {α:Type} {fs:List F} {e:α->List C} {p:α->Prop} (hk:∀ a,p a->Zaj fs (e a)):∀ {l:List α},(∀ x∈l,p x)->Zai fs (l.map e)
 | [],_=>by simp [Zai]
 | a::l,h=>by
  simp only [Tbu,Zai];exact ⟨hk a (h a (by simp)),okL hk (fun x hx=>h x (by simp [hx]))⟩
def ZaK (n:Int):List C:=[.lit (.int .i64 n)]
def ZbY (s:ByteArray):List C:=[.lit (.string s)]
def Zb4 (p:Int × Int):List C:=[.lit (.int .i64 p.1),.lit (.int .i64 p.2)]
def ZDN (p:Int × Int):Prop:=I64 p.1∧I64 p.2
def Zv4 (s:ByteArray):Prop:=s.size<=maxLen
theorem ZzJ:∀ row,Zaj (Zac .int) row->∃ a,row=ZaK a∧I64 a:=fun row h=>ZjW h
theorem ZE9:∀ row,Zaj (Zac .str) row->∃ a,row=ZbY a∧Zv4 a:=fun row h=>ZfA h
theorem ZFa:∀ row,Zaj (Zac .sub) row->∃ a,row=Zb4 a∧ZDN a:=fun row h=>by
 obtain ⟨i0,i1,rfl,h0,h1⟩:=ZjX h;exact ⟨(i0,i1),rfl,h0,h1⟩
structure Srt where
 names:List ByteArray
 subs:List (Int × Int)
def Zbh (s:Srt):List C:=[.sl (s.names.map ZbY),.sl (s.subs.map Zb4)]
def ZmR (s:Srt):Prop:=(∀ x∈s.names,Zv4 x)∧∀ x∈s.subs,ZDN x
structure Dcl where
 args:List Int
 res:Int
def Zhd (d:Dcl):List C:=[.sl (d.args.map ZaK),.lit (.int .i64 d.res)]
def ZDO (d:Dcl):Prop:=(∀ x∈d.args,I64 x)∧I64 d.res
theorem ZFb:∀ row,Zaj (Zac .decl) row->∃ a,row=Zhd a∧ZDO a:=fun row h=>by
 obtain ⟨r0,i1,rfl,g0,g1⟩:=ZgM h;obtain ⟨l0,rfl,k0⟩:=decL ZzJ g0;exact ⟨⟨l0,i1⟩,rfl,k0,g1⟩
structure Opr where
 name:ByteArray
 decls:List Dcl
 assoc:Bool
 comm:Bool
 unit:Int
def Zbf (o:Opr):List C:=[.lit (.string o.name),.sl (o.decls.map Zhd),.lit (.bool o.assoc),.lit (.bool o.comm),.lit (.int .i64 o.unit)]
def ZDP (o:Opr):Prop:=Zv4 o.name∧(∀ x∈o.decls,ZDO x)∧I64 o.unit
theorem ZFc:∀ row,Zaj (Zac .op) row->∃ a,row=Zbf a∧ZDP a:=fun row h=>by
 obtain ⟨t0,r1,p2,p3,i4,rfl,g0,g1,_,_,g4⟩:=ZiT h;obtain ⟨l1,rfl,k1⟩:=decL ZFb g1;exact ⟨⟨t0,l1,p2,p3,i4⟩,rfl,g0,k1,g4⟩
structure Sgn where
 sorts:Srt
 ops:List Opr
def Zas (s:Sgn):List C:=[.sl (s.sorts.names.map ZbY),.sl (s.sorts.subs.map Zb4),.sl (s.ops.map Zbf)]
def Zcg (s:Sgn):Prop:=ZmR s.sorts∧∀ x∈s.ops,ZDP x
theorem ZFd {row:List C} (h:Zaj sigF row):∃ s,row=Zas s∧Zcg s:=by
 obtain ⟨r0,r1,r2,rfl,g0,g1,g2⟩:=Zew h;obtain ⟨l0,rfl,k0⟩:=decL ZE9 g0;obtain ⟨l1,rfl,k1⟩:=decL ZFa g1;obtain ⟨l2,rfl,k2⟩:=decL ZFc g2;exact ⟨⟨⟨l0,l1⟩,l2⟩,rfl,⟨k0,k1⟩,k2⟩
theorem Rep.at {α:Type} {w:World} {S:Nat->Prop} {fs:List F} {e:α->List C} {p:α->Prop} (hk:∀ a,p a->Zaj fs (e a)) {l:List α} (hl:∀ x∈l,p x) {A:Option Addr} {m cap k:Nat} {a:α}
  (h:Rep w S (.sl (l.map e)) (.slice A m cap)) (ha:l[k]?=some a):∃ b off,A=some ⟨b,off,none⟩∧S b∧b < w.heap.size∧Zak w S b (off+k * fs.length) (e a):=by
 have hkl:k < l.length:=(Tad.1 ha).1;obtain ⟨A',m',cap',hf,hm,_,_⟩:=h.form;injection hf with h1 h2 h3
 subst h1 h2 h3;obtain ⟨b,off,r,rfl,hS,hbz,hget,hokr,hrow⟩:=h.get (okL hk hl) (i:=k) (by rw [<- hm];simpa using hkl);refine ⟨b,off,rfl,hS,hbz,?_⟩;rw [Tba,ha] at hget;simp only [Option.map_some,Taq] at hget;rw [hget];exact hrow
def Zu9 (l:List Int):List C:=[.sl (l.map ZaK)]
def Zqm:List Nat:=[0,1,56,2,57,49,28,3,61,58,42,50,38,29,17,4,62,47,59,36,45,43,51,22,53,39,33,30,24,18,12,5,63,55,48,27,60,41,37,16,46,35,44,21,52,32,23,11,54,26,40,15,34,20,31,10,25,14,19,9,13,8,7,6]
def tabA:Array Value:=(Zqm.map fun (n:Nat)=>Value.int .u8 (n:Int)).toArray
def Zc6 (w:World):Prop:=w.heap[(2:Nat)]?=some (.cells tabA 349 (0,0))
theorem Zc6.cell {w:World} (h:Zc6 w):∀ j,j < 64->w.cell? ⟨2,j,none⟩=some (.int .u8 ((Zqm.getD j 0:Nat):Int)):=fun j hj=>by
 unfold Zc6 at h;unfold World.cell?;have hl:j < Zqm.length:=hj;simp only [h];unfold tabA;rw [if_neg (by simp),List.getElem?_toArray,Tba,List.getD_eq_getElem?_getD,Taa hl];rfl
noncomputable def e0:Env:=⟨Tryz.prog,fun b=>b=2,Zc6,False⟩
noncomputable def e1:Env:=⟨Tryz.prog,fun b=>b=2,Zc6,True⟩
theorem Zra {w w':World} (h:w'.heap[(2:Nat)]?=w.heap[(2:Nat)]?) (k:Zc6 w):Zc6 w':=h.trans k
theorem e1P:e1.P=Tryz.prog:=rfl
theorem Zqn:e1.Ok:=⟨fun _ _ _ h k=>Zra (h _ rfl) k,by kernel_rfl⟩
theorem ZkR {f:FuncId} {args r:List D} (h:Con e1 f args r):Con e0 f args r :=
 ⟨h.1,fun w S vs hS hE hG hvs=>(h.2 w S vs hS hE hG hvs).mono fun en w' ⟨v,h1,h2,h3,h4⟩=>⟨v,h1,⟨h2.os,h2.tape,h2.output,fun d=>d.elim,h2.size,h2.block⟩,h3,h4⟩⟩
theorem e0P:e0.P=Tryz.prog:=rfl
theorem ZmS:e0.Ok:=⟨fun _ _ _ h k=>Zra (h _ rfl) k,by kernel_rfl⟩
theorem ZdH {α:Type} {e:α->List C} {n:Nat} (h:∀ a,((e a).length==n && (e a).all ZaB)=true) (l:List α):Zav n (l.map e)=true:=by
 unfold Zav;rw [List.all_map];exact List.all_eq_true.2 fun a _=>h a
theorem ZoR {n:Nat}:Zav n []=true:=rfl
theorem ZdI {n:Nat} {r:List C} {rs:List (List C)}:Zav n (r::rs)=(r.length==n && r.all ZaB && Zav n rs):=rfl
theorem ZjY (l:List Int):Zav 1 (l.map ZaK)=true:=ZdH (e:=ZaK) (n:=1) (fun _=>rfl) l
theorem ZjZ (l:List ByteArray):Zav 1 (l.map ZbY)=true:=ZdH (e:=ZbY) (n:=1) (fun _=>rfl) l
theorem Zrb (l:List (Int × Int)):Zav 2 (l.map Zb4)=true:=ZdH (e:=Zb4) (n:=2) (fun _=>rfl) l
theorem ZzK (l:List Dcl):Zav 2 (l.map Zhd)=true:=ZdH (e:=Zhd) (n:=2) (fun _=>rfl) l
theorem ZzL (l:List Opr):Zav 5 (l.map Zbf)=true:=ZdH (e:=Zbf) (n:=5) (fun _=>rfl) l
theorem Zva (l:List (List Int)):Zav 1 (l.map Zu9)=true:=ZdH (e:=Zu9) (n:=1) (fun _=>rfl) l
theorem ZaM {a b:Int} (h:a=b) (h1:-9223372036854775808<=b) (h2:b<=9223372036854775807):IntKind.i64.wrap a=b:=by rw [h];exact IntWalk.i64_in _ ⟨h1,h2⟩
theorem Zan {k:Nat} (h:k < 9223372036854775807):IntKind.i64.wrap ((k:Int)+1)=((k+1:Nat):Int):=ZaM om om om
theorem bqtt:(true==true)=true:=rfl
theorem bqtf:(true==false)=false:=rfl
theorem bqft:(false==true)=false:=rfl
theorem bqff:(false==false)=true:=rfl
theorem Zal (n:Nat):(n:Int).toNat=n:=Tbx n
theorem gs_n {t:Nat}:gs [] t=.undef:=rfl
theorem gs_c {k t:Nat} {a:A} {r:List (Nat × A)}:gs ((k,a)::r) t=if t=k then a else gs r t:=rfl
theorem gm_n {t:Nat}:gm [] t=none:=rfl
theorem gm_c {k t:Nat} {a:Bk} {r:List (Nat × Bk)}:gm ((k,a)::r) t=if t=k then some a else gm r t:=rfl
theorem Zvb {k:Nat}:ZdG k []=[]:=rfl
theorem Zvc {k:Nat} {d:D} {r:List D}:ZdG k (d::r)=(k,.d d)::ZdG (k+1) r:=rfl
theorem pz:type_of% (aj16 @tt_0 @tt_1 @tt_2 @tt_3 @tt_4 @tt_5 @tt_6 @tt_7 @tt_8 @tt_9 @pm_0 @pm_1 @pm_2 @pm_3 @pm_4 (aj16 @pm_5 @pm_6 @pm_7 @pm_8 @pm_9 @ZDK @ZDL @e0P @e1P @gs_n @gs_c @gm_n @gm_c @Zvb @Zvc (aj16 @ZjY @ZjZ @Zrb @ZzK @ZzL @Zva @ZoR @ZdI @bqtt @bqtf @bqft @bqff @Bool.and_self @Bool.or_true @Bool.true_or (aj16 @Bool.or_false @Bool.false_or @Nat.zero_add @Nat.add_zero @and_self @true_and @and_true @Bool.not_true @Bool.not_false @Zal @Zu7 @Zu8 @ZDM @ZzH @Zq9 (aj16 @Int.natCast_nonneg @Int.toNat_zero @Int.toNat_one @Tai @List.map_nil.{0,0} @Tat.{0} @Tau.{0} @List.drop_succ_cons.{0} @List.drop_zero.{0} @List.drop_nil.{0} @Tbc.{0} @List.take_zero.{0} @Tag.{0} @Tak.{0} @Tae.{0} (aj16 @List.all_cons.{0} @List.all_nil.{0} @List.isEmpty_cons.{0} @List.isEmpty_nil.{0} @Taf.{0} @Tah.{0} @List.append_nil.{0} @Option.map_some.{0,0} @Option.map_none.{0,0} @Option.join_some.{0} @Option.getD_some.{0} @Option.isNone_none.{0} @Option.isNone_some.{0} @Option.isSome_none.{0} @Option.isSome_some.{0} (aj3 @Tbu.{0,0} @Tay.{0,0} (@Tba.{0,0})))))))):=aj16 @tt_0 @tt_1 @tt_2 @tt_3 @tt_4 @tt_5 @tt_6 @tt_7 @tt_8 @tt_9 @pm_0 @pm_1 @pm_2 @pm_3 @pm_4 (aj16 @pm_5 @pm_6 @pm_7 @pm_8 @pm_9 @ZDK @ZDL @e0P @e1P @gs_n @gs_c @gm_n @gm_c @Zvb @Zvc (aj16 @ZjY @ZjZ @Zrb @ZzK @ZzL @Zva @ZoR @ZdI @bqtt @bqtf @bqft @bqff @Bool.and_self @Bool.or_true @Bool.true_or (aj16 @Bool.or_false @Bool.false_or @Nat.zero_add @Nat.add_zero @and_self @true_and @and_true @Bool.not_true @Bool.not_false @Zal @Zu7 @Zu8 @ZDM @ZzH @Zq9 (aj16 @Int.natCast_nonneg @Int.toNat_zero @Int.toNat_one @Tai @List.map_nil.{0,0} @Tat.{0} @Tau.{0} @List.drop_succ_cons.{0} @List.drop_zero.{0} @List.drop_nil.{0} @Tbc.{0} @List.take_zero.{0} @Tag.{0} @Tak.{0} @Tae.{0} (aj16 @List.all_cons.{0} @List.all_nil.{0} @List.isEmpty_cons.{0} @List.isEmpty_nil.{0} @Taf.{0} @Tah.{0} @List.append_nil.{0} @Option.map_some.{0,0} @Option.map_none.{0,0} @Option.join_some.{0} @Option.getD_some.{0} @Option.isNone_none.{0} @Option.isNone_some.{0} @Option.isSome_none.{0} @Option.isSome_some.{0} (aj3 @Tbu.{0,0} @Tay.{0,0} (@Tba.{0,0})))))))
theorem sfx {p:Prop} (h:p:=by simp only [pz,↓reduceIte,Nat.reduceEqDiff,Nat.reduceAdd,Nat.reduceSub,Nat.reduceMul,Nat.reduceLeDiff,Nat.reduceBEq,Tam,decide_true,decide_false,Int.reduceLE,Int.reduceToNat,Int.reduceLT,Int.reduceEq,eq_self,Nat.reduceShiftRight,Nat.reduceAnd,Nat.reduceBneDiff,F];first | done | exact rfl):p:=h
theorem snx {p:Prop} (h:p:=by simp only [pz,↓reduceIte,Nat.reduceEqDiff,Nat.reduceAdd,Nat.reduceSub,Nat.reduceMul,Nat.reduceLeDiff,Nat.reduceBEq,Tam,decide_true,decide_false,Int.reduceLE,Int.reduceToNat,Int.reduceLT,Int.reduceEq,eq_self,Nat.reduceShiftRight,Nat.reduceAnd,Nat.reduceBneDiff];first | done | exact rfl):p:=h
theorem sfy {p:Prop} (h:p:=by simp only [pz,↓reduceIte,Nat.reduceEqDiff,Nat.reduceAdd,Nat.reduceSub,Nat.reduceMul,Nat.reduceLeDiff,Nat.reduceBEq,Tam,decide_true,decide_false,Int.reduceLE,Int.reduceToNat,Int.reduceLT,Int.reduceEq,eq_self,Nat.reduceShiftRight,Nat.reduceAnd,Nat.reduceBneDiff,F];try exact rfl):p:=h
theorem sny {p:Prop} (h:p:=by simp only [pz,↓reduceIte,Nat.reduceEqDiff,Nat.reduceAdd,Nat.reduceSub,Nat.reduceMul,Nat.reduceLeDiff,Nat.reduceBEq,Tam,decide_true,decide_false,Int.reduceLE,Int.reduceToNat,Int.reduceLT,Int.reduceEq,eq_self,Nat.reduceShiftRight,Nat.reduceAnd,Nat.reduceBneDiff];try exact rfl):p:=h
theorem sfv {p:Prop} (h:p:=by simp only [pz,↓reduceIte,Nat.reduceEqDiff,Nat.reduceAdd,Nat.reduceSub,Nat.reduceMul,Nat.reduceLeDiff,Nat.reduceBEq,Tam,decide_true,decide_false,Int.reduceLE,Int.reduceToNat,Int.reduceLT,Int.reduceEq,eq_self,Nat.reduceShiftRight,Nat.reduceAnd,Nat.reduceBneDiff,F];exact rfl):p:=h
theorem snv {p:Prop} (h:p:=by simp only [pz,↓reduceIte,Nat.reduceEqDiff,Nat.reduceAdd,Nat.reduceSub,Nat.reduceMul,Nat.reduceLeDiff,Nat.reduceBEq,Tam,decide_true,decide_false,Int.reduceLE,Int.reduceToNat,Int.reduceLT,Int.reduceEq,eq_self,Nat.reduceShiftRight,Nat.reduceAnd,Nat.reduceBneDiff];exact rfl):p:=h
theorem ZaU:∀ n,ZaK n=[.lit (.int .i64 n)]:=fun _=>rfl
theorem Za1:∀ d,Zhd d=[.sl (d.args.map ZaK),.lit (.int .i64 d.res)]:=fun _=>rfl
theorem Zah:∀ o,Zbf o=[.lit (.string o.name),.sl (o.decls.map Zhd),.lit (.bool o.assoc),.lit (.bool o.comm),.lit (.int .i64 o.unit)]:=fun _=>rfl
theorem Zat:∀ s,Zas s=[.sl (s.sorts.names.map ZbY),.sl (s.sorts.subs.map Zb4),.sl (s.ops.map Zbf)]:=fun _=>rfl
theorem ZFe:∀ x,retA [x]=.d x:=fun _=>rfl
theorem gB {X Y:Prop} (b:Y) (h:Y->X:=by
 intro b
 first
  | with_reducible refine ZzG ?_
  | (first
   | refine Zaq 1 (by decide +kernel) ?_
   | refine Zaq 2 (by decide +kernel) ?_
   | refine Zaq 3 (by decide +kernel) ?_
   | refine Zaq 4 (by decide +kernel) ?_
   | refine Zaq 5 (by decide +kernel) ?_
   | refine Zaq 6 (by decide +kernel) ?_
   | refine Zaq 7 (by decide +kernel) ?_
   | refine Zaq 8 (by decide +kernel) ?_
   | refine Zaq 9 (by decide +kernel) ?_
   | refine Zaq 10 (by decide +kernel) ?_
   | refine Zaq 11 (by decide +kernel) ?_
   | refine Zaq 12 (by decide +kernel) ?_
   | refine Zaq 13 (by decide +kernel) ?_
   | refine Zaq 14 (by decide +kernel) ?_
   | refine Zaq 15 (by decide +kernel) ?_
   | refine Zaq 16 (by decide +kernel) ?_
   | refine Zaq 17 (by decide +kernel) ?_
   | refine Zaq 18 (by decide +kernel) ?_
   | refine Zaq 19 (by decide +kernel) ?_
   | refine Zaq 20 (by decide +kernel) ?_
   | refine Zaq 21 (by decide +kernel) ?_
   | refine Zaq 22 (by decide +kernel) ?_
   | refine Zaq 23 (by decide +kernel) ?_
   | refine Zaq 24 (by decide +kernel) ?_
   | refine Zaq 25 (by decide +kernel) ?_
   | refine Zaq 26 (by decide +kernel) ?_
   | refine Zaq 27 (by decide +kernel) ?_
   | refine Zaq 28 (by decide +kernel) ?_
   | refine Zaq 29 (by decide +kernel) ?_
   | refine Zaq 30 (by decide +kernel) ?_
   | refine Zaq 31 (by decide +kernel) ?_
   | refine Zaq 32 (by decide +kernel) ?_
   | refine Zaq 33 (by decide +kernel) ?_
   | refine Zaq 34 (by decide +kernel) ?_
   | refine Zaq 35 (by decide +kernel) ?_
   | refine Zaq 36 (by decide +kernel) ?_
   | refine Zaq 37 (by decide +kernel) ?_
   | refine Zaq 38 (by decide +kernel) ?_
   | refine Zaq 39 (by decide +kernel) ?_
   | refine Zaq 40 (by decide +kernel) ?_
   | refine Zaq 41 (by decide +kernel) ?_
   | refine Zaq 42 (by decide +kernel) ?_
   | refine Zaq 43 (by decide +kernel) ?_
   | refine Zaq 44 (by decide +kernel) ?_
   | refine Zaq 45 (by decide +kernel) ?_
   | refine Zaq 46 (by decide +kernel) ?_
   | refine Zaq 47 (by decide +kernel) ?_
   | refine Zaq 48 (by decide +kernel) ?_
   | refine Zaq 49 (by decide +kernel) ?_
   | refine Zaq 50 (by decide +kernel) ?_
   | refine Zaq 51 (by decide +kernel) ?_
   | refine Zaq 52 (by decide +kernel) ?_
   | refine Zaq 53 (by decide +kernel) ?_
   | refine Zaq 54 (by decide +kernel) ?_
   | refine Zaq 55 (by decide +kernel) ?_
   | refine Zaq 56 (by decide +kernel) ?_
   | refine Zaq 57 (by decide +kernel) ?_
   | refine Zaq 58 (by decide +kernel) ?_
   | refine Zaq 59 (by decide +kernel) ?_
   | refine Zaq 60 (by decide +kernel) ?_
   | refine Zaq 61 (by decide +kernel) ?_
   | refine Zaq 62 (by decide +kernel) ?_
   | refine Zaq 63 (by decide +kernel) ?_
   | refine Zaq 64 (by decide +kernel) ?_)
 intro ds hds;simp only [List.map] at hds;subst hds;exact b):X:=h b
theorem gC {X Y Z:Prop} (c:Z) (b:Y) (h:Z->Y->X:=by
 intro c b;refine rcT (by exact sfv) c (by simp only [setA,retA];exact rfl) ?_;exact b):X:=h c b
theorem gCE {X Y Z:Prop} (c:Z) (b:Y) (h:Z->Y->X:=by
 intro c b;refine ZBz (by exact sfv) (by exact sfv) c ?_;exact b):X:=h c b
theorem gR {X Y:Prop} (b:Y) (h:Y->X:=by
 intro b;refine reT (by exact sfv) ?_
 first | (change pwp _ _ _ _ _) | refine wkI ?_ | skip
 exact b):X:=h b
theorem gG {X Y:Prop} (b:Y) (h:Y->X:=by
 intro b
 repeat (first
  | with_reducible refine ZdU ?_
  | with_reducible refine ZoN ?_
  | ((first | with_reducible refine ZqQ ?_ | with_reducible refine ZqR ?_);try refine wkI ?_)
  | (with_reducible refine Zxw ?_ ?_;· simp only [pz,↓reduceIte,Nat.reduceEqDiff,F])
  | (with_reducible refine Zxx ?_ ?_;· simp only [pz,↓reduceIte,Nat.reduceEqDiff,F])
  | (refine gB ?_;refine reT (by exact sfv) ?_;try refine wkI ?_))
 exact b):X:=h b
def Zaf (_:Nat):Prop:=True
theorem ZFf {n:Nat} (_:Zaf n) {e:Env} {mask id:Nat} {ops:Array Oper} {fl:Bool} {σ:St} {Q:PX->St->Prop} (h:pwp e mask (.region id ops fl) σ Q) (_:(id==n)=false:=by decide):pwp e mask (.region id ops fl) σ Q:=h
theorem gGn {X Y:Prop} (b:Y) (h:Y->X:=by
 intro b
 repeat (first
  | with_reducible refine ZdU ?_
  | with_reducible refine ZoN ?_
  | ((first | with_reducible refine ZqQ ?_ | with_reducible refine ZqR ?_);try refine wkI ?_)
  | (with_reducible refine Zxw ?_ ?_;· simp only [pz,↓reduceIte,Nat.reduceEqDiff,F])
  | (with_reducible refine Zxx ?_ ?_;· simp only [pz,↓reduceIte,Nat.reduceEqDiff,F])
  | (refine ZFf NN ?_;refine gB ?_;refine reT (by exact sfv) ?_;try refine wkI ?_))
 exact b):X:=h b
theorem gT {X:Prop} (h:X:=by
 refine ZfR (ZmK ?_);simp [ZcO,resA,Zbn,gs,F]):X:=h
theorem gTz {X:Prop} {P:Program} {ts:List RS} {r:List D} {σ σ1:St} (ks:List Nat) (hx:retQ P ts r .ret σ->X:=by exact fun h=>ZfR h) (hf:frzs ks σ=σ1:=by exact sfv) (h:ZcO P σ1 ts r:=by simp [ZcO,resA,Zbn,gs,F]):X:=hx (ZE7 ks hf h)
theorem gTd {X:Prop} {P:Program} {ts:List RS} {r:List D} {σ:St} (hx:retQ P ts r .ret σ->X:=by exact fun h=>ZfR h) (hr:resD P σ ts=some r:=by exact sfx):X:=hx (ZmK (ZfS hr))
theorem gw {X:Prop} (h:X:=by simp [Zc4,Zc5,gs,gm,F]):X:=h
theorem gL {e:Env} {mask:Nat} {Q:PX->St->Prop} {c:Code} {s:List (Nat × A)} {m:List (Nat × Bk)} {ι:Type} (ds dm:List Nat) (us:ι->List (Nat × A)) (ms:ι->List (Nat × Bk)) (ok:ι->Prop) (μ:ι->Nat) (x0:ι) (h0:ok x0)
  {s0:List (Nat × A)} {m0:List (Nat × Bk)} {ss:ι->List (Nat × A)} {mm:ι->List (Nat × Bk)}
  (hr:∀ x,ok x->pwp e mask c ⟨ss x,mm x⟩ (fun p σ''=>match p with
   | .normal=>∃ y,ok y∧Zc4 σ''.s (ss y)∧Zc5 σ''.m (mm y)∧μ y < μ x
   | p=>Q p σ''))
  (hs0:Zfh ds s=s0:=by simp only [Zfh,Zfi,List.elem_cons,List.elem_nil,Nat.reduceBEq,Bool.or_false,Bool.false_or,Bool.or_true,Bool.true_or,Bool.or_self,↓reduceIte,Tam];exact rfl) (hm0:Zfi dm m=m0:=by simp only [Zfh,Zfi,List.elem_cons,List.elem_nil,Nat.reduceBEq,Bool.or_false,Bool.false_or,Bool.or_true,Bool.true_or,Bool.or_self,↓reduceIte,Tam];exact rfl) (hss:∀ x,us x++s0=ss x:=by intro x;simp only [Taf,Tah];exact rfl) (hmm:∀ x,ms x++m0=mm x:=by intro x;simp only [Taf,Tah];exact rfl)
  (hs:Zc4 s (us x0):=by simp [Zc4,gs,F]) (hm:Zc5 m (ms x0):=by simp [Zc5,gm,F]):pwp e mask (.loop c) ⟨s,m⟩ Q:=ZzF ds dm us ms ok μ x0 hs0 hm0 hss hmm hs hm h0 hr
theorem gM {e:Env} {mask:Nat} {Q:PX->St->Prop} {a:Code} {s:List (Nat × A)} {m:List (Nat × Bk)} {ι:Type} (ds dm:List Nat) (us:ι->List (Nat × A)) (ms:ι->List (Nat × Bk)) (R:ι->Prop)
  {s0:List (Nat × A)} {m0:List (Nat × Bk)} {ss:ι->List (Nat × A)} {mm:ι->List (Nat × Bk)}
  (h:pwp e mask a ⟨s,m⟩ (fun x σ'=>match x with
   | .normal=>∃ y,R y∧Zc4 σ'.s (ss y)∧Zc5 σ'.m (mm y)
   | x=>Q x σ')) (hb:∀ x,R x->Q .normal ⟨ss x,mm x⟩) 
  (hs0:Zfh ds s=s0:=by simp only [Zfh,Zfi,List.elem_cons,List.elem_nil,Nat.reduceBEq,Bool.or_false,Bool.false_or,Bool.or_true,Bool.true_or,Bool.or_self,↓reduceIte,Tam];exact rfl) (hm0:Zfi dm m=m0:=by simp only [Zfh,Zfi,List.elem_cons,List.elem_nil,Nat.reduceBEq,Bool.or_false,Bool.false_or,Bool.or_true,Bool.true_or,Bool.or_self,↓reduceIte,Tam];exact rfl) (hss:∀ x,us x++s0=ss x:=by intro x;simp only [Taf,Tah];exact rfl) (hmm:∀ x,ms x++m0=mm x:=by intro x;simp only [Taf,Tah];exact rfl)
  (hQ:∀ σ σ1,Wk σ σ1->Q .normal σ1->Q .normal σ:=by exact fun _ _ h p=>Exists.elim p fun σ2 q=>⟨σ2,h.trans q.1,q.2⟩):pwp e mask a ⟨s,m⟩ Q:=ZzI hQ ds dm us ms R hs0 hm0 hss hmm h hb
theorem gI {e:Env} {f:FuncId} {fn:Func} {c:Code} {args r:List D} {ts:List RS} (mask:Nat) (hf:e.P.funcs[f]?=some fn) (h:pwp e mask c ⟨ZdG 0 args,[]⟩ (retQ e.P ts r)) (hb:fn.body=some c:=by exact rfl) (hnm:(fn.name == "runtime.NumGoroutine")=false:=by kernel_rfl)
  (hok:ZcF fn.ntmps c=true:=by kernel_rfl) (hal:Nat.ble args.length fn.ntmps=true:=by exact rfl) (hres:Zbn fn.results.toList=ts:=by exact rfl) (he:e.Ok:=by first | exact ZmS | exact Zqn | assumption):Con e f args r:=ZvY he mask hf hb hnm hok hal hres h
theorem gIE {e:Env} {f:FuncId} {fn:Func} {c:Code} {args:List D} {R:List D->Prop} {ts:List RS} (mask:Nat) (hf:e.P.funcs[f]?=some fn) (h:pwp e mask c ⟨ZdG 0 args,[]⟩ (ZvZ e.P ts R)) (hb:fn.body=some c:=by exact rfl) (hnm:(fn.name == "runtime.NumGoroutine")=false:=by kernel_rfl)
  (hok:ZcF fn.ntmps c=true:=by kernel_rfl) (hal:Nat.ble args.length fn.ntmps=true:=by exact rfl) (hres:Zbn fn.results.toList=ts:=by exact rfl) (he:e.Ok:=by first | exact ZmS | exact Zqn | assumption):ConE e f args R:=ZsP he mask hf hb hnm hok hal hres h
theorem gCP {e:Env} {K:St->Prop} {ds:List (Option Nat)} {n n':Nat} {os os':List Oper} {σ:St} {c:Operand} {args:List Operand} {f:FuncId} {xs:List D} {d:Option Nat} {s1 s2 s3:List (Nat × A)} {m1 m2 m3:List (Nat × Bk)} {pm:List Bk} {R:List D->List Bk->Prop} (ks ks':List Nat) (hc:ConP e f xs pm R)
  (hK:∀ r pm',R r pm'->Runs e ds n' os' ⟨setA s3 d (retA r),zipM ks' pm'++m3⟩ K) (h:ZbB e.P ds n os σ=.call false c args d n' os' ⟨s1,m1⟩:=by exact sfv) (h1:Zfz false c args ⟨s1,m1⟩=some (f,xs,⟨s2,m2⟩):=by exact sfv)
  (hpm:getM m2 ks=some pm:=by exact sny) (hpn:pm.all pinned=true:=by exact sny) (hn:ks.Nodup:=by decide) (hk:Zdw (ks++ks') s2=s3:=by exact snv) (hr:Zdz (ks++ks') m2=m3:=by exact snv):Runs e ds n os σ K:=ZBA ks ks' h h1 hc hpm hpn hn hk hr hK
theorem gCI {e:Env} {K:St->Prop} {ds:List (Option Nat)} {n n':Nat} {os os':List Oper} {σ:St} {c x0:Operand} {rest:List Operand} {f:FuncId} {xs:List D} {d:Option Nat} {s1 s3:List (Nat × A)} {m1 m3:List (Nat × Bk)} {k ty sz:Nat} {rows rows':List (List C)} {r:List D} {oa:Option (Option Addr × Nat)} (hc:ConI e f ty sz rows xs rows' r) (hl:rows'.length=rows.length)
  (hK:Runs e ds n' os' ⟨s3,(k,.buf oa ty sz rows')::m3⟩ K) (h:ZbB e.P ds n os σ=.call false c (x0::rest) d n' os' ⟨s1,m1⟩:=by exact sfv) (h1:ZmI c x0 rest ⟨s1,m1⟩=some (f,k,ty,sz,rows,xs):=by exact sfv)
  (hm:gm m1 k=some (.buf oa ty sz rows):=by exact snv) (h2:setA s1 d (retA r)=s3:=by simp only [setA,retA];exact rfl) (h3:remM k m1=m3:=by exact snv):Runs e ds n os σ K:=ZBB h h1 hm hc hl h2 h3 hK
theorem gCR {e:Env} {K:St->Prop} {ds:List (Option Nat)} {n n':Nat} {os os':List Oper} {σ:St} {c:Operand} {args:List Operand} {f:FuncId} {xs:List D} {d ty sz:Nat} {s1 s2 s3:List (Nat × A)} {m1 m2 m3:List (Nat × Bk)} {rows:List (List C)} (hc:ConR e f xs ty sz rows) (hK:Runs e ds n' os' ⟨(d,.buf d)::s3,(d,.buf none ty sz rows)::m3⟩ K)
  (h:ZbB e.P ds n os σ=.call false c args (some d) n' os' ⟨s1,m1⟩:=by exact sfv) (h1:Zfz false c args ⟨s1,m1⟩=some (f,xs,⟨s2,m2⟩):=by exact sfv) (h2:Zau d s2=s3:=by exact snv) (h3:remM d m2=m3:=by exact snv):Runs e ds n os σ K:=ZBx h h1 hc h2 h3 hK
theorem gP {e:Env} {K:St->Prop} {ds:List (Option Nat)} {n n':Nat} {os os':List Oper} {σ:St} {s1:List (Nat × A)} {m1:List (Nat × Bk)} (j:Nat) (hK:Runs e ds n' os' ⟨s1,m1⟩ K) (h:ZmJ (runN e.P ds j n os σ)=some (n',os',s1,m1):=by exact sfv):Runs e ds n os σ K:=Zxu j h hK
theorem gS {e:Env} {K:St->Prop} {ds:List (Option Nat)} {os:List Oper} {s:List (Nat × A)} {m m2:List (Nat × Bk)} {ety sz:Nat} {rows:List (List C)} {s2:Option Addr->Nat->List (Nat × A)} (k:Nat) (hK:∀ a cap,Runs e ds 0 os ⟨s2 a cap,(k,.buf (some (a,cap)) ety sz rows)::m2⟩ K)
  (hm:gm m k=some (.buf none ety sz rows):=by exact snv) (hs:∀ a cap,mapS (litB k a rows.length cap) s=s2 a cap:=by intro a cap;exact snv) (hr:remM k m=m2:=by exact snv):Runs e ds 0 os ⟨s,m⟩ K :=
 Zfs (ZoL k hm) fun σ' ⟨a,cap,hσ⟩=>by subst hσ;simp only [hs,hr];exact hK a cap
theorem gO {e:Env} {K:St->Prop} {ds:List (Option Nat)} {os:List Oper} {s s2:List (Nat × A)} {m m2:List (Nat × Bk)} (t ety sz:Nat) (hK:Runs e ds 0 os ⟨(t,.buf t)::s2,(t,.buf none ety sz [])::m2⟩ K) (h0:0 < sz:=by decide) (hm:gs s t=.d (.clip []):=by exact sny)
  (hs:Zau t s=s2:=by exact snv) (hr:remM t m=m2:=by exact snv):Runs e ds 0 os ⟨s,m⟩ K :=
 Zfs (ZBr t ety sz h0 hm) fun σ' hσ=>by subst hσ;simp only [hs,hr];exact hK
theorem gK {e:Env} {K:St->Prop} {ds:List (Option Nat)} {os:List Oper} {s:List (Nat × A)} {m:List (Nat × Bk)} {x:A} (t:Nat) (hK:Runs e ds 0 os ⟨(t,x)::s,m⟩ K) (hx:nrm m (gs s t)=x:=by exact snv):Runs e ds 0 os ⟨s,m⟩ K :=
 Zfs (ZBq t) fun σ' hσ=>by subst hσ;simp only [hx];exact hK
theorem gD {e:Env} {K:St->Prop} {ds:List (Option Nat)} {os:List Oper} {s s2:List (Nat × A)} {m m2:List (Nat × Bk)} {a:Option Addr} {cap ety sz:Nat} {rows:List (List C)} (k:Nat) (ts ks:List Nat) (hK:Runs e ds 0 os ⟨s2,m2⟩ K) (hm:gm m k=some (.buf (some (a,cap)) ety sz rows):=by exact snv)
  (hs:datS a rows.length cap rows ts (frzS k (.buf (some (a,cap)) ety sz rows) s)=s2:=by exact snv) (hr:datM a rows.length cap rows ks (remM k m)=m2:=by exact snv):Runs e ds 0 os ⟨s,m⟩ K :=
 Zfs (ZqO k ts ks hm) fun σ' hσ=>by subst hσ;simp only [hs,hr];exact hK
theorem gX {e:Env} {K:St->Prop} {ds:List (Option Nat)} {os:List Oper} {d t ty:Nat} {p:String} {ed:Array Edge} {parts:List (Nat × Operand)} {s:List (Nat × A)} {m:List (Nat × Bk)} {cs cs':List C} (hK:Runs e ds 0 os ⟨(d,.d (.agg cs'))::s,m⟩ K)
  (hz:Zdc e.P t=some cs:=by exact sny) (hst:ZaN e.P t=true:=by exact sny) (hok:cs.all ZaB=true:=by first | rfl | exact sny) (hf:ZdX e.P t cs (parts.map fun p=>(p.1,evA s p.2))=some cs':=by exact sfv):Runs e ds 0 (⟨some d,.build t parts.toArray,ty,p,ed,none⟩::os) ⟨s,m⟩ K:=ZsQ hz hst hok hf hK
theorem pN {e:Env} {mask:Nat} {Q:PX->St->Prop} {c:Code} {s s2:List (Nat × A)} {m m2:List (Nat × Bk)} (κ ety sz:Nat) (hK:pwp e mask c ⟨s2,(κ,.buf (some (none,0)) ety sz [])::m2⟩ Q) (h0:0 < sz:=by decide) (hs:Zau κ s=s2:=by exact snv) (hr:remM κ m=m2:=by exact snv):pwp e mask c ⟨s,m⟩ Q :=
 Zda (ZBs κ ety sz h0) fun σ' hσ=>by subst hσ;simp only [hs,hr];exact hK
theorem pD {e:Env} {mask:Nat} {Q:PX->St->Prop} {c:Code} {s s2:List (Nat × A)} {m m2:List (Nat × Bk)} {a:Option Addr} {cap ety sz:Nat} {rows:List (List C)} (k:Nat) (ts ks:List Nat) (hK:pwp e mask c ⟨s2,m2⟩ Q) (hm:gm m k=some (.buf (some (a,cap)) ety sz rows):=by exact snv)
  (hs:datS a rows.length cap rows ts (frzS k (.buf (some (a,cap)) ety sz rows) s)=s2:=by exact snv) (hr:datM a rows.length cap rows ks (remM k m)=m2:=by exact snv):pwp e mask c ⟨s,m⟩ Q :=
 Zda (ZqO k ts ks hm) fun σ' hσ=>by subst hσ;simp only [hs,hr];exact hK
theorem pV {e:Env} {mask:Nat} {Q:PX->St->Prop} {c:Code} {s:List (Nat × A)} {m m2:List (Nat × Bk)} {cs:List C} {s2:Nat->List (Nat × A)} (k:Nat) (hK:∀ b,(∀ k' b' cs',k'≠k->gm m k'=some (.var (some b') cs')->b≠b')->pwp e mask c ⟨s2 b,(k,.var (some b) cs)::m2⟩ Q)
  (hm:gm m k=some (.var none cs):=by exact snv) (hs:∀ b,mapS (litV k b) s=s2 b:=by intro b;exact snv) (hr:remM k m=m2:=by exact snv):pwp e mask c ⟨s,m⟩ Q :=
 Zda (Zxq k hm) fun σ' ⟨b,hb,hσ⟩=>by subst hσ;simp only [hs,hr];exact hK b hb
theorem pS {e:Env} {mask:Nat} {Q:PX->St->Prop} {c:Code} {s:List (Nat × A)} {m m2:List (Nat × Bk)} {ety sz:Nat} {rows:List (List C)} {s2:Option Addr->Nat->List (Nat × A)} (k:Nat) (hK:∀ a cap,pwp e mask c ⟨s2 a cap,(k,.buf (some (a,cap)) ety sz rows)::m2⟩ Q)
  (hm:gm m k=some (.buf none ety sz rows):=by exact snv) (hs:∀ a cap,mapS (litB k a rows.length cap) s=s2 a cap:=by intro a cap;exact snv) (hr:remM k m=m2:=by exact snv):pwp e mask c ⟨s,m⟩ Q :=
 Zda (ZoL k hm) fun σ' ⟨a,cap,hσ⟩=>by subst hσ;simp only [hs,hr];exact hK a cap
def Zgq (pm pm':List Bk):Prop:=∀ (w:World) (S:Nat->Prop),(∀ x∈pm,ZdD w S x)->ZeN pm->(∀ x∈pm',ZdD w S x)∧ZeN pm'∧∀ g,Zbp pm' g->Zbp pm g
theorem gE {e:Env} {K:St->Prop} {ds:List (Option Nat)} {os:List Oper} {s s2:List (Nat × A)} {m m2 m3:List (Nat × Bk)} {pm pm':List Bk} (ks ks':List Nat) (hre:Zgq pm pm') (hK:Runs e ds 0 os ⟨s2,m3⟩ K) (hpm:getM m ks=some pm:=by exact sny) (hn:ks.Nodup:=by decide) (hp:pm.all pinned=true:=by exact sny)
  (hs:Zdw (ks++ks') s=s2:=by exact snv) (hr:Zdz (ks++ks') m=m2:=by exact snv) (h3:zipM ks' pm'++m2=m3:=by exact snv):Runs e ds 0 os ⟨s,m⟩ K :=
 Zfs (ZtU (Φ:=fun x=>x=pm') ks ks' hn hpm hp (fun w S h1 h2=>⟨pm',rfl,hre w S h1 h2⟩)) fun σ' ⟨q,hq,hσ⟩=>by subst hq hσ;simp only [hs,hr,h3];exact hK
theorem pE {e:Env} {mask:Nat} {Q:PX->St->Prop} {c:Code} {s s2:List (Nat × A)} {m m2 m3:List (Nat × Bk)} {pm pm':List Bk} (ks ks':List Nat) (hre:Zgq pm pm') (hK:pwp e mask c ⟨s2,m3⟩ Q) (hpm:getM m ks=some pm:=by exact sny) (hn:ks.Nodup:=by decide) (hp:pm.all pinned=true:=by exact sny)
  (hs:Zdw (ks++ks') s=s2:=by exact snv) (hr:Zdz (ks++ks') m=m2:=by exact snv) (h3:zipM ks' pm'++m2=m3:=by exact snv):pwp e mask c ⟨s,m⟩ Q :=
 Zda (ZtU (Φ:=fun x=>x=pm') ks ks' hn hpm hp (fun w S h1 h2=>⟨pm',rfl,hre w S h1 h2⟩)) fun σ' ⟨q,hq,hσ⟩=>by subst hq hσ;simp only [hs,hr,h3];exact hK
theorem gIP {e:Env} {f:FuncId} {fn:Func} {c:Code} {args:List D} {pm:List Bk} {m0:List (Nat × Bk)} {R:List D->List Bk->Prop} {ts:List RS} (keys:List Nat) (mask:Nat) (hf:e.P.funcs[f]?=some fn) (h:pwp e mask c ⟨ZdG 0 args,m0⟩ (ZkO e.P ts R)) (hm:zipM keys pm=m0:=by exact snv) (hb:fn.body=some c:=by exact rfl) (hnm:(fn.name == "runtime.NumGoroutine")=false:=by kernel_rfl)
  (hok:ZcF fn.ntmps c=true:=by kernel_rfl) (hal:Nat.ble args.length fn.ntmps=true:=by exact rfl) (hres:Zbn fn.results.toList=ts:=by exact rfl) (he:e.Ok:=by first | exact ZmS | exact Zqn | assumption):ConP e f args pm R:=ZsO he keys mask hf hb hnm hok hal hres (by rw [hm];exact h)
theorem gTP {X:Prop} {P:Program} {ts:List RS} {R:List D->List Bk->Prop} {σ:St} {r:List D} {pm:List Bk} (ks:List Nat) (hR:R r pm) (hx:ZkO P ts R .ret σ->X:=by exact fun h=>ZfR h) (hr:resD P σ ts=some r:=by exact sfy) (hg:getM σ.m ks=some pm:=by exact sny) (hn:ks.Nodup:=by decide) (hp:pm.all pinned=true:=by exact sny):X :=
 hx ⟨r,ks,pm,hg,hn,hp,hR,ZfS hr⟩
theorem fG {p X Y:Prop} (f:p) (b:Y) (h:p->Y->X:=by intro F b;exact gG b):X:=h f b
theorem fR {p X Y:Prop} (f:p) (b:Y) (h:p->Y->X:=by intro F b;exact gR b):X:=h f b
theorem fC {p X Y Z:Prop} (f:p) (c:Z) (b:Y) (h:p->Z->Y->X:=by intro F c b;exact gC c b):X:=h f c b
theorem fN {p X Y:Prop} (n:Nat) (f:p) (b:Y) (h:Zaf n->p->Y->X:=by intro NN F b;exact gGn b):X:=h trivial f b
theorem fT {p X:Prop} (f:p) (h:p->X:=by intro F;refine gG ?_;exact gT):X:=h f
theorem fD {p X:Prop} (f:p) (h:p->X:=by intro F;refine gG ?_;exact gTd):X:=h f
theorem fB {p X Y:Prop} (f:p) (b:Y) (h:p->Y->X:=by intro F b;refine gG ?_;exact gB b):X:=h f b
theorem okC.cell:∀ {f:F} {c:C},okC f c->ZaB c=true
 | .int,.lit v,h=>by obtain ⟨n,rfl,_⟩:=h;rfl
 | .str,.lit v,h=>by obtain ⟨n,rfl,_⟩:=h;rfl
 | .bool,.lit v,h=>by obtain ⟨n,rfl⟩:=h;rfl
 | .sl t,.sl rows,h=>rfl
 | .int,.sl _,h=>False.elim h
 | .str,.sl _,h=>False.elim h
 | .bool,.sl _,h=>False.elim h
 | .sl _,.lit _,h=>False.elim h
 | f,.ptr _,h=>by cases f <;> exact False.elim h
 | f,.fn _ _,h=>by cases f <;> exact False.elim h
theorem Zaj.cells:∀ {fs:List F} {cs:List C},Zaj fs cs->cs.all ZaB=true
 | [],[],_=>rfl
 | f::fs,c::cs,h=>by
  simp only [Zaj] at h;rw [List.all_cons,h.1.cell,Zaj.cells h.2];rfl
 | [],_::_,h=>by simp [Zaj] at h
 | _::_,[],h=>by simp [Zaj] at h
theorem Zaj.take {fs:List F} {cs:List C} (h:Zaj fs cs) {n:Nat} (hn:fs.length=n):cs.length=n∧cs.take n=cs∧cs.drop n=[]:=by
 have:=h.len;refine ⟨om,?_,?_⟩
 ·rw [List.take_of_length_le om]
 ·rw [List.drop_eq_nil_of_le om]
theorem Zad.inside' {w:World} {S:Nat->Prop}:∀ {cs:List C} {us:List Value},Zad w S cs us->Zad w (fun b=>b < w.heap.size) cs us
 | [],[],_=>by simp [Zad]
 | c::cs,u::us,h=>by
  simp only [Zad] at h ⊢;exact ⟨(Rep.inside c u h.1).mono (fun b hb=>hb.2),Zad.inside' h.2⟩
 | [],_::_,h=>by simp [Zad] at h
 | _::_,[],h=>by simp [Zad] at h
theorem Zai.rowsLen {fs:List F} {rows:List (List C)} (h:Zai fs rows):rowsLen fs.length rows:=fun r hr=>by
 obtain ⟨i,hi⟩:=Tbk hr;exact ⟨(h.get hi).len,(h.get hi).cells⟩
theorem Za3 {α:Type} (l:List α):l.drop 0=l:=rfl
section
variable {w:World} {S:Nat->Prop} {T:Nat}
theorem ZFS {f:F} {c:C} {z:Int} (h:okC f c) (hr:Rep w S c (.int .u8 z)):False:=by
 cases c with
 | lit v =>
  simp only [Rep] at hr;subst hr
  cases f with
  | int=>obtain ⟨n,h,_⟩:=h;cases h
  | str=>obtain ⟨n,h,_⟩:=h;cases h
  | bool=>obtain ⟨n,h⟩:=h;cases h
  | sl t=>simp only [okC] at h
 | sl rows =>
  simp only [Rep] at hr;obtain ⟨A,n,cap,hv,_⟩:=hr
  cases hv
 | ptr cs=>cases f <;> simp only [okC] at h
 | fn g cs=>cases f <;> simp only [okC] at h
theorem ZzM (t:TN):∃ f fs,Zac t=f::fs:=by cases t <;> exact ⟨_,_,rfl⟩
theorem ZBH (hT:∀ o u,w.cell? ⟨T,o,none⟩=some u->∃ z,u=.int .u8 z) {t:TN} {rows:List (List C)} {b off:Nat} (h0:0 < rows.length) (hok:Zai (Zac t) rows) (h:Zap w S b off rows):b≠T:=by
 rintro rfl
 cases rows with
 | nil=>simp at h0
 | cons r rs =>
  obtain ⟨f,fs,e⟩:=ZzM t;simp only [Zai,Zap] at hok h;rw [e] at hok
  cases r with
  | nil=>simp only [Zaj] at hok;exact hok.1.elim
  | cons c cs =>
   simp only [Zaj,Zak] at hok h;obtain ⟨⟨u,hu,hr⟩,_⟩:=h.1;obtain ⟨z,rfl⟩:=hT off u hu;exact ZFS hok.1.1 hr
mutual
theorem Rep.off (hT:∀ o u,w.cell? ⟨T,o,none⟩=some u->∃ z,u=.int .u8 z):∀ (f:F) (c:C) (v:Value),okC f c->Rep w S c v->Rep w (fun b=>S b∧b≠T) c v
 | _,.lit x,v,_,h=>by simpa [Rep] using h
 | .sl t,.sl rows,v,hok,h=>by
  simp only [okC] at hok;simp only [Rep] at h ⊢;obtain ⟨A,n,cap,hv,hn,hc,hm,hr⟩:=h;refine ⟨A,n,cap,hv,hn,hc,hm,fun h0=>?_⟩;obtain ⟨b,off,hA,hs,hb,hrows⟩:=hr h0;exact ⟨b,off,hA,⟨hs,ZBH hT om hok hrows⟩,hb,Zap.off hT (Zac t) b off rows hok hrows⟩
 | .int,.sl _,_,hok,_=>by simp only [okC] at hok
 | .str,.sl _,_,hok,_=>by simp only [okC] at hok
 | .bool,.sl _,_,hok,_=>by simp only [okC] at hok
 | f,.ptr _,_,hok,_=>by cases f <;> simp only [okC] at hok
 | f,.fn _ _,_,hok,_=>by cases f <;> simp only [okC] at hok
theorem Zap.off (hT:∀ o u,w.cell? ⟨T,o,none⟩=some u->∃ z,u=.int .u8 z):∀ (fs:List F) (b off:Nat) (rows:List (List C)),Zai fs rows->Zap w S b off rows->Zap w (fun b=>S b∧b≠T) b off rows
 | _,_,_,[],_,_=>by simp [Zap]
 | fs,b,off,r::rs,hok,h=>by
  simp only [Zai] at hok;simp only [Zap] at h ⊢;exact ⟨Zak.off hT fs b off r hok.1 h.1,Zap.off hT fs b _ rs hok.2 h.2⟩
theorem Zak.off (hT:∀ o u,w.cell? ⟨T,o,none⟩=some u->∃ z,u=.int .u8 z):∀ (fs:List F) (b off:Nat) (cs:List C),Zaj fs cs->Zak w S b off cs->Zak w (fun b=>S b∧b≠T) b off cs
 | _,_,_,[],_,_=>by simp [Zak]
 | f::fs,b,off,c::cs,hok,h=>by
  simp only [Zaj] at hok;simp only [Zak] at h ⊢;obtain ⟨⟨u,hu,hr⟩,h2⟩:=h;exact ⟨⟨u,hu,Rep.off hT f c u hok.1 hr⟩,Zak.off hT fs b _ cs hok.2 h2⟩
 | [],_,_,c::cs,hok,_=>by simp only [Zaj] at hok
end
theorem Zad.off (hT:∀ o u,w.cell? ⟨T,o,none⟩=some u->∃ z,u=.int .u8 z):∀ (fs:List F) (cs:List C) (us:List Value),Zaj fs cs->Zad w S cs us->Zad w (fun b=>S b∧b≠T) cs us
 | _,[],[],_,_=>by simp [Zad]
 | f::fs,c::cs,u::us,hok,h=>by
  simp only [Zaj] at hok;simp only [Zad] at h ⊢;exact ⟨Rep.off hT f c u hok.1 h.1,Zad.off hT fs cs us hok.2 h.2⟩
 | [],c::cs,_,hok,_=>by simp only [Zaj] at hok
 | _::_,[],_,hok,_=>by simp only [Zaj] at hok
 | _,[],_::_,_,h=>by simp [Zad] at h
 | _,_::_,[],_,h=>by simp [Zad] at h
end
theorem ZzN {w:World} (h:Zc6 w):∀ o u,w.cell? ⟨2,o,none⟩=some u->∃ z,u=.int .u8 z:=fun o u hu=>by
 unfold Zc6 at h;unfold World.cell? at hu;simp only [h] at hu;unfold tabA at hu;rw [if_neg (by simp),List.getElem?_toArray,Tba] at hu;obtain ⟨n,_,rfl⟩:=Tav.1 hu;exact ⟨_,rfl⟩
theorem ZFg {w:World} (h:Zc6 w):∀ b,e0.E b->b < w.heap.size:=fun b hb=>by
 have hb:b=2:=hb;subst hb;unfold Zc6 at h;exact (Tbl.1 h).1
theorem Kept.belowT {w w':World} (h:Kept e0.D e0.E w.heap.size w w') (h1:Zc6 w) (h2:Zc6 w'):Below w.heap.size w w':=⟨h.os,h.tape,h.output,h.size,fun k hk=>by
 by_cases e:k=2
 ·subst e;exact h2.trans h1.symm
 ·exact h.block k hk e⟩
end Go.Proofs.YtcgacanpeaiabaaGreatDoor
namespace Go.Proofs.YtcgacanpeaiabaaGreatDoor
open Go.ChangeShapes Go.WideShapes Go.ChangeAt Go.RowKit
abbrev Zhe:List (String × DataW Unit):=[("math/bits.deBruijn32tab",Rows.laid_math_bits_deBruijn32tab),("math/bits.deBruijn64tab",Rows.laid_math_bits_deBruijn64tab),("internal/strconv.uint64pow10",Rows.laid_internal_strconv_uint64pow10)]
theorem ZBI (os:Os) (args:Array Value):laidMetH Tryz.prog Zhe ((World.doorLaid Tryz.prog 24 os).forCall (fun _ _=>0) ⟨#[],args,[]⟩).memory :=
 laidMetH_of_parts3 (fuel:=8) (laidMet_of_run' 8 (by kernel_rfl) (by kernel_rfl)) (by kernel_rfl) (by kernel_rfl)
theorem gTab:Tryz.prog.globalNamed "math/bits.deBruijn64tab" = some 2:=by kernel_rfl
theorem tTab:(Tryz.prog.globals[(2:Nat)]?).map (·.type)=some 349:=by kernel_rfl
theorem ZEj:∃ zero,((begin Tryz.prog (fun _ _=>0) default).world.heap[(2:Nat)]?).bind Obj.row?=some (zero,349):=⟨(List.replicate 64 (Value.int .u8 0)).toArray,by kernel_rfl⟩
theorem ZBJ {W:World} (h:laidMetH Tryz.prog Zhe W) (hs:W.ShapedOpen Tryz.prog):Zc6 W:=by
 rw [MakeChecks.laidMetH_plain _ _ _ (by kernel_rfl)] at h;have h2:=laidMet.tail h;have h3:laidMet Tryz.prog [("math/bits.deBruijn64tab",Lib.tabData .u8 (Zqm.map fun (n:Nat)=>(n:Int))),("internal/strconv.uint64pow10",Rows.laid_internal_strconv_uint64pow10)] W:=h2;have h4:=Lib.tabIs_of_head gTab tTab (e:=5) (n:=64) (by kernel_rfl) (by kernel_rfl) (by kernel_rfl) (by kernel_rfl) h3;obtain ⟨zero,hz⟩:=ZEj
 obtain ⟨cs,hh,_⟩:=hs.1 _ zero _ (by decide +kernel) hz;unfold Lib.TabIs World.var? at h4;rw [gTab] at h4;simp only [Option.bind_some,hh,Taq] at h4;unfold Zc6;rw [hh,h4];unfold tabA;rw [List.map_map];rfl
section
variable {H:Type} {enc:TypeId × Value->H}
theorem Zrc {a:Assume} {C:Checked} {os:Os} {f:FuncId} {fn:Func} {s:ChangeSpec} {conds:List PathCond} {apart fresh handsOn again:Bool} {X:World->Array Value->Prop}
  (hX:∀ (w w':World) (args:Array Value),w.heap=w'.heap->X w args->X w' args)
  (own:ownKnob C.prog.godebug=none) (started:os.Started) (noInit:C.prog.inits.idxOf? f=none) (hfn:C.prog.funcs[f]?=some fn)
  (witness:∃ (w:World) (tape:Tape) (i:Input),w.os=os∧(w.forCall tape i).Shaped C.prog∧i.vars=[]∧Input.okWide C.prog (w.forCall tape i) .any w.heap.size f i ∧
   ((s.pre enc C.prog fn conds apart (w.forCall tape i).memory i.args∧X (w.forCall tape i).memory i.args)∧sizedMet enc C.prog fn (OpenSpec.ofChange s) apart (w.forCall tape i).memory i.args)∧a.holds C.prog (lone (Frame.enter C.prog f i.args .normal) [] (w.forCall tape i)))
  (contract:∀ (W:World) (base:Nat) (args:Array Value) (ds gs:List (DataW H)) (before:List MemPlace),
   (∀ (j:Nat) t v,fn.params[j]?=some t->args[j]?=some v->Value.okWide C.prog W .any base t v) ->
   DataW.Whole enc C.prog fn.params.toList s.vars apart W args.toList ds gs before ->
   conds.all (PathCond.test C.prog ⟨fn.params.toList,ds,s.plain.varTypes C.prog,gs⟩)=true ->
   (DataW.weightsEach C.prog (fn.params.toList++s.plain.varTypes C.prog) (ds++gs)).all (·<=reachBytes)=true->X W args->W.ShapedOpen C.prog ->
   a.holds C.prog (lone (Frame.enter C.prog f args .normal) [] W) ->
   Calls C.prog f args W fun e W'=>∃ v,e=.returned v∧s.post enc C.prog fn apart fresh handsOn again W args v W') :
  ReturnsInHanded a C os f .any (fun w args=>(s.pre enc C.prog fn conds apart w args∧X w args)∧sizedMet enc C.prog fn (OpenSpec.ofChange s) apart w args) (s.post enc C.prog fn apart fresh handsOn again):=by
 refine returnsInHanded_of_calls own started noInit witness ?_;intro w tape i _ hsh _ hok hpre hholds;obtain ⟨_,_,_,fn',hfn',_,_,_,_,hval⟩:=hok;obtain rfl:fn'=fn:=Option.some.inj (hfn'.symm.trans hfn);obtain ⟨⟨⟨ds,gs,before,hw,hc⟩,hx⟩,hz⟩:=hpre;refine (contract (w.forCall tape i) w.heap.size i.args ds gs before hval (DataW.Whole.of_heap (w':=w.forCall tape i) (by rfl) hw) hc (hz.weights hw) (hX _ _ _ (by rfl) hx) hsh hholds).mono fun e W' ⟨v,he,hp⟩=>?_
 subst he;exact ChangeSpec.post_blind hp
end
end Go.Proofs.YtcgacanpeaiabaaGreatDoor
namespace Go.Proofs.YtcgacanpeaiabaaGreatDoor
open Go.RowKit
theorem ZgN {r:List C} (h:Zaj (Zac .term) r):∃ (i0:Int) (t1:ByteArray) (i2:Int) (r3:List (List C)),r=[.lit (.int .i64 i0),.lit (.string t1),.lit (.int .i64 i2),.sl r3]∧I64 i0∧t1.size<=maxLen∧I64 i2∧Zai (Zac .term) r3:=by
 obtain ⟨c0,c1,c2,c3,rfl⟩:=len4 h.len;simp only [Zac,ZbI,occF,Zca,sigF,ZbQ,algF,Taf,Tah,redF,Zaj,and_true] at h;obtain ⟨h0,h1,h2,h3⟩:=h;obtain ⟨i0,rfl,g0⟩:=ZbR h0;obtain ⟨t1,rfl,g1⟩:=Zd1 h1;obtain ⟨i2,rfl,g2⟩:=ZbR h2;obtain ⟨r3,rfl,g3⟩:=ZbD h3;exact ⟨i0,t1,i2,r3,rfl,g0,g1,g2,g3⟩
theorem Zbd {i0:Int} {t1:ByteArray} {i2:Int} {r3:List (List C)} (g0:I64 i0) (g1:t1.size<=maxLen) (g2:I64 i2) (g3:Zai (Zac .term) r3):Zaj (Zac .term) [.lit (.int .i64 i0),.lit (.string t1),.lit (.int .i64 i2),.sl r3]:=by
 simp only [Zac,ZbI,occF,Zca,sigF,ZbQ,algF,Taf,Tah,redF,Zaj,and_true];exact ⟨Zqz g0,Zw9 g1,Zqz g2,Zff g3⟩
inductive Tm where
 | mk (op:Int) (name:ByteArray) (sort:Int) (args:List Tm)
def Tm.args:Tm->List Tm | .mk _ _ _ a=>a
def Tm.op:Tm->Int | .mk a _ _ _=>a
def Tm.name:Tm->ByteArray | .mk _ a _ _=>a
def Tm.sort:Tm->Int | .mk _ _ a _=>a
mutual
def Zab:Tm->List C
 | .mk op nm so args=>[.lit (.int .i64 op),.lit (.string nm),.lit (.int .i64 so),.sl (Zaa args)]
def Zaa:List Tm->List (List C)
 | []=>[]
 | t::ts=>Zab t::Zaa ts
end
mutual
def okTm:Tm->Prop
 | .mk op nm so args=>I64 op∧nm.size<=maxLen∧I64 so∧Zay args
def Zay:List Tm->Prop
 | []=>True
 | t::ts=>okTm t∧Zay ts
end
theorem Zby (ts:List Tm):Zaa ts=ts.map Zab:=by
 induction ts with
 | nil=>simp [Zaa]
 | cons t ts ih=>simp [Zaa,ih]
theorem Zae (ts:List Tm):(Zaa ts).length=ts.length:=by simp [Zby]
theorem Zb1 (ts:List Tm) (i:Nat):(Zaa ts)[i]?=ts[i]?.map Zab:=by simp [Zby]
theorem ZBK (n:Nat):(∀ row,ZaC row < n->Zaj (Zac .term) row->∃ t,row=Zab t∧okTm t)∧(∀ rows,Za6 rows < n->Zai (Zac .term) rows->∃ ts,rows=Zaa ts∧Zay ts):=by
 induction n with
 | zero=>exact ⟨fun _ h=>om,fun _ h=>om⟩
 | succ n ih =>
  have h1:∀ row,ZaC row < n+1->Zaj (Zac .term) row->∃ t,row=Zab t∧okTm t:=by
   intro row hn hok;obtain ⟨i0,t1,i2,r3,rfl,g0,g1,g2,g3⟩:=ZgN hok;obtain ⟨ts,rfl,hts⟩:=ih.2 r3 (by simp only [ZaC,Zcz] at hn;omega) g3;exact ⟨.mk i0 t1 i2 ts,by simp [Zab],by simp only [okTm];exact ⟨g0,g1,g2,hts⟩⟩
  refine ⟨h1,fun rows=>?_⟩
  induction rows with
  | nil=>exact fun _ _=>⟨[],by simp [Zaa],by simp [Zay]⟩
  | cons r rs ihr =>
   intro hn hok;simp only [Za6] at hn;simp only [Zai] at hok;obtain ⟨t,rfl,ht⟩:=h1 r om hok.1;obtain ⟨ts,rfl,hts⟩:=ihr om hok.2;exact ⟨t::ts,by simp [Zaa],by simp only [Zay];exact ⟨ht,hts⟩⟩
theorem Ze6 {rows:List (List C)} (h:Zai (Zac .term) rows):∃ ts,rows=Zaa ts∧Zay ts:=(ZBK _).2 rows (Tan _) h
theorem Zay.mem:∀ {ts:List Tm} {t:Tm},Zay ts->t∈ts->okTm t
 | [],_,_,h=>by simp at h
 | x::xs,t,h,ht=>by
  simp only [Zay] at h;rcases Tbg.1 ht with rfl | ht
  ·exact h.1
  ·exact Zay.mem h.2 ht
def Za7 (a b:Int):Int:=if a < b then -1 else if b < a then 1 else 0
def ZcA (a b:ByteArray):Int:=Lib.compareBytes a.data.toList b.data.toList
def Za4:List Int->Int
 | []=>0
 | x::xs=>if x=0 then Za4 xs else x
mutual
def Zag:Tm->Tm->Int
 | .mk o n s a,.mk o' n' s' a'=>Za4 [Za7 o o',ZcA n n',Za7 s s',ZaY a a']
def ZaY:List Tm->List Tm->Int
 | [],[]=>0
 | [],_::_=>-1
 | _::_,[]=>1
 | x::xs,y::ys=>Za4 [Zag x y,ZaY xs ys]
end
theorem ZgE:∀ (l:List UInt8),Lib.compareBytes l l=0
 | []=>rfl
 | x::xs=>by simp [Lib.compareBytes,ZgE xs]
theorem ZgF:∀ {l m:List UInt8},Lib.compareBytes l m=0->l=m
 | [],[],_=>rfl
 | [],_::_,h=>by simp [Lib.compareBytes] at h
 | _::_,[],h=>by simp [Lib.compareBytes] at h
 | x::xs,y::ys,h=>by
  simp only [Lib.compareBytes] at h;split at h
  ·simp at h
  ·split at h
   ·simp at h
   ·rename_i h1 h2;have e:x=y:=UInt8.le_antisymm (UInt8.not_lt.1 h2) (UInt8.not_lt.1 h1);rw [e,ZgF h]
theorem ZgG:∀ (l m:List UInt8),Op.bytesLess l m=decide (Lib.compareBytes l m=-1)
 | [],[]=>by simp [Op.bytesLess,Lib.compareBytes]
 | [],_::_=>by simp [Op.bytesLess,Lib.compareBytes]
 | _::_,[]=>by simp [Op.bytesLess,Lib.compareBytes]
 | x::xs,y::ys=>by
  have ih:=ZgG xs ys;simp only [Op.bytesLess,Lib.compareBytes,ih];by_cases h1:x < y
  ·simp [h1]
  ·by_cases h2:y < x
   ·have:¬ x=y:=fun e=>by subst e;exact h1 h2
    simp [h1,h2,this]
   ·have e:x=y:=UInt8.le_antisymm (UInt8.not_lt.1 h2) (UInt8.not_lt.1 h1);subst e;simp [h1]
theorem Zgr:∀ (l m:List UInt8),Lib.compareBytes l m=-1∨Lib.compareBytes l m=0∨Lib.compareBytes l m=1
 | [],[]=>by simp [Lib.compareBytes]
 | [],_::_=>by simp [Lib.compareBytes]
 | _::_,[]=>by simp [Lib.compareBytes]
 | x::xs,y::ys=>by
  have ih:=Zgr xs ys;simp only [Lib.compareBytes];split
  ·simp
  ·split
   ·simp
   ·exact ih
theorem Zdq {a b:Int}:Za7 a b=0 ↔ a=b:=by unfold Za7;split <;> (try split) <;> simp <;> omega
theorem Zf3 {a b:ByteArray}:ZcA a b=0 ↔ a=b:=by
 constructor
 ·intro h;have:=ZgF h;obtain ⟨⟨la⟩⟩:=a;obtain ⟨⟨lb⟩⟩:=b;simp at this;rw [this]
 ·rintro rfl;exact ZgE _
theorem Zrd (a b:ByteArray):ZcA a b=-1∨ZcA a b=0∨ZcA a b=1:=Zgr _ _
theorem ZsR:∀ {ps qs:List Tm} {k:Nat} {x y:Tm},ps[k]?=some x->qs[k]?=some y->ZaY (ps.drop k) (qs.drop k)=Za4 [Zag x y,ZaY (ps.drop (k+1)) (qs.drop (k+1))]:=by
 intro ps qs k x y h1 h2;have e1:ps.drop k=x::ps.drop (k+1):=by
  obtain ⟨hl,hx⟩:=Tad.1 h1;rw [<- hx];exact List.drop_eq_getElem_cons hl
 have e2:qs.drop k=y::qs.drop (k+1):=by
  obtain ⟨hl,hx⟩:=Tad.1 h2;rw [<- hx];exact List.drop_eq_getElem_cons hl
 rw [e1,e2,ZaY]
theorem Zfj {r:List C} (h:Zaj (Zac .binding) r):∃ (i0:Int) (t1:ByteArray) (i2:Int) (r3:List (List C)) (i4:Int) (t5:ByteArray) (i6:Int) (r7:List (List C)),r=[.lit (.int .i64 i0),.lit (.string t1),.lit (.int .i64 i2),.sl r3,.lit (.int .i64 i4),.lit (.string t5),.lit (.int .i64 i6),.sl r7]∧I64 i0∧t1.size<=maxLen∧I64 i2∧Zai (Zac .term) r3∧I64 i4∧t5.size<=maxLen∧I64 i6∧Zai (Zac .term) r7:=by
 obtain ⟨c0,c1,c2,c3,c4,c5,c6,c7,rfl⟩:=len8 h.len;simp only [Zac,ZbI,occF,Zca,sigF,ZbQ,algF,Taf,Tah,redF,Zaj,and_true] at h;obtain ⟨h0,h1,h2,h3,h4,h5,h6,h7⟩:=h;obtain ⟨i0,rfl,g0⟩:=ZbR h0;obtain ⟨t1,rfl,g1⟩:=Zd1 h1;obtain ⟨i2,rfl,g2⟩:=ZbR h2;obtain ⟨r3,rfl,g3⟩:=ZbD h3;obtain ⟨i4,rfl,g4⟩:=ZbR h4;obtain ⟨t5,rfl,g5⟩:=Zd1 h5;obtain ⟨i6,rfl,g6⟩:=ZbR h6;obtain ⟨r7,rfl,g7⟩:=ZbD h7;exact ⟨i0,t1,i2,r3,i4,t5,i6,r7,rfl,g0,g1,g2,g3,g4,g5,g6,g7⟩
theorem Zeb {r:List C} (h:Zaj (Zac .occ) r):∃ (r0:List (List C)) (r1:List (List C)) (r2:List (List C)) (r3:List (List C)),r=[.sl r0,.sl r1,.sl r2,.sl r3]∧Zai (Zac .int) r0∧Zai (Zac .term) r1∧Zai (Zac .term) r2∧Zai (Zac .binding) r3:=by
 obtain ⟨c0,c1,c2,c3,rfl⟩:=len4 h.len;simp only [Zac,ZbI,occF,Zca,sigF,ZbQ,algF,Taf,Tah,redF,Zaj,and_true] at h;obtain ⟨h0,h1,h2,h3⟩:=h;obtain ⟨r0,rfl,g0⟩:=ZbD h0;obtain ⟨r1,rfl,g1⟩:=ZbD h1;obtain ⟨r2,rfl,g2⟩:=ZbD h2;obtain ⟨r3,rfl,g3⟩:=ZbD h3;exact ⟨r0,r1,r2,r3,rfl,g0,g1,g2,g3⟩
theorem Zec {r0:List (List C)} {r1:List (List C)} {r2:List (List C)} {r3:List (List C)} (g0:Zai (Zac .int) r0) (g1:Zai (Zac .term) r1) (g2:Zai (Zac .term) r2) (g3:Zai (Zac .binding) r3):Zaj (Zac .occ) [.sl r0,.sl r1,.sl r2,.sl r3]:=by
 simp only [Zac,ZbI,occF,Zca,sigF,ZbQ,algF,Taf,Tah,redF,Zaj,and_true];exact ⟨Zff g0,Zff g1,Zff g2,Zff g3⟩
structure Bd where
 var:Tm
 to:Tm
def Zbt (b:Bd):List C:=Zab b.var++Zab b.to
def okBd (b:Bd):Prop:=okTm b.var∧okTm b.to
theorem ZFT:∀ row,Zaj (Zac .binding) row->∃ b,row=Zbt b∧okBd b:=fun row h=>by
 obtain ⟨i0,t1,i2,r3,i4,t5,i6,r7,rfl,g0,g1,g2,g3,g4,g5,g6,g7⟩:=Zfj h;obtain ⟨a,rfl,ha⟩:=Ze6 g3;obtain ⟨a',rfl,ha'⟩:=Ze6 g7;exact ⟨⟨.mk i0 t1 i2 a,.mk i4 t5 i6 a'⟩,by simp [Zbt,Zab],by simp only [okTm];exact ⟨g0,g1,g2,ha⟩,by simp only [okTm];exact ⟨g4,g5,g6,ha'⟩⟩
structure Occ where
 path:List Int
 left:List Tm
 right:List Tm
 mat:List Bd
def Zcb (o:Occ):List C:=[.sl (o.path.map ZaK),.sl (Zaa o.left),.sl (Zaa o.right),.sl (o.mat.map Zbt)]
def ZmT (o:Occ):Prop:=(∀ n∈o.path,I64 n)∧Zay o.left∧Zay o.right∧∀ b∈o.mat,okBd b
theorem ZFh {row:List C} (h:Zaj occF row):∃ o,row=Zcb o∧ZmT o:=by
 obtain ⟨r0,r1,r2,r3,rfl,g0,g1,g2,g3⟩:=Zeb h;obtain ⟨p,rfl,hp⟩:=decL ZzJ g0;obtain ⟨l,rfl,hl⟩:=Ze6 g1;obtain ⟨r,rfl,hr⟩:=Ze6 g2;obtain ⟨m,rfl,hm⟩:=decL ZFT g3;exact ⟨⟨p,l,r,m⟩,rfl,hp,hl,hr,hm⟩
theorem ZgO {r:List C} (h:Zaj (Zac .link) r):∃ (i0:Int) (r1:List (List C)) (r2:List (List C)) (r3:List (List C)) (r4:List (List C)) (r5:List (List C)),r=[.lit (.int .i64 i0),.sl r1,.sl r2,.sl r3,.sl r4,.sl r5]∧I64 i0∧Zai (Zac .int) r1∧Zai (Zac .term) r2∧Zai (Zac .term) r3∧Zai (Zac .binding) r4∧Zai (Zac .chain) r5:=by
 obtain ⟨c0,c1,c2,c3,c4,c5,rfl⟩:=len6 h.len;simp only [Zac,ZbI,occF,Zca,sigF,ZbQ,algF,Taf,Tah,redF,Zaj,and_true] at h;obtain ⟨h0,h1,h2,h3,h4,h5⟩:=h;obtain ⟨i0,rfl,g0⟩:=ZbR h0;obtain ⟨r1,rfl,g1⟩:=ZbD h1;obtain ⟨r2,rfl,g2⟩:=ZbD h2;obtain ⟨r3,rfl,g3⟩:=ZbD h3;obtain ⟨r4,rfl,g4⟩:=ZbD h4;obtain ⟨r5,rfl,g5⟩:=ZbD h5;exact ⟨i0,r1,r2,r3,r4,r5,rfl,g0,g1,g2,g3,g4,g5⟩
theorem Zf4 {r:List C} (h:Zaj (Zac .chain) r):∃ (i0:Int) (t1:ByteArray) (i2:Int) (r3:List (List C)) (i4:Int) (t5:ByteArray) (i6:Int) (r7:List (List C)) (r8:List (List C)),r=[.lit (.int .i64 i0),.lit (.string t1),.lit (.int .i64 i2),.sl r3,.lit (.int .i64 i4),.lit (.string t5),.lit (.int .i64 i6),.sl r7,.sl r8]∧I64 i0∧t1.size<=maxLen∧I64 i2∧Zai (Zac .term) r3∧I64 i4∧t5.size<=maxLen∧I64 i6∧Zai (Zac .term) r7∧Zai (Zac .link) r8:=by
 obtain ⟨c0,c1,c2,c3,c4,c5,c6,c7,c8,rfl⟩:=len9 h.len;simp only [Zac,ZbI,occF,Zca,sigF,ZbQ,algF,Taf,Tah,redF,Zaj,and_true] at h;obtain ⟨h0,h1,h2,h3,h4,h5,h6,h7,h8⟩:=h;obtain ⟨i0,rfl,g0⟩:=ZbR h0;obtain ⟨t1,rfl,g1⟩:=Zd1 h1;obtain ⟨i2,rfl,g2⟩:=ZbR h2;obtain ⟨r3,rfl,g3⟩:=ZbD h3;obtain ⟨i4,rfl,g4⟩:=ZbR h4;obtain ⟨t5,rfl,g5⟩:=Zd1 h5;obtain ⟨i6,rfl,g6⟩:=ZbR h6;obtain ⟨r7,rfl,g7⟩:=ZbD h7;obtain ⟨r8,rfl,g8⟩:=ZbD h8
 exact ⟨i0,t1,i2,r3,i4,t5,i6,r7,r8,rfl,g0,g1,g2,g3,g4,g5,g6,g7,g8⟩
mutual
inductive Chn
 | mk (frm to:Tm) (links:List Lnk)
inductive Lnk
 | mk (idx:Int) (occ:Occ) (conds:List Chn)
end
mutual
def ZaI:Chn->List C
 | .mk a b ls=>Zab a++(Zab b++[.sl (Zch ls)])
def Zcp:Lnk->List C
 | .mk i o cs=>.lit (.int .i64 i)::(Zcb o++[.sl (Zbu cs)])
def Zbu:List Chn->List (List C)
 | []=>[]
 | c::cs=>ZaI c::Zbu cs
def Zch:List Lnk->List (List C)
 | []=>[]
 | l::ls=>Zcp l::Zch ls
end
mutual
def Zed:Chn->Prop
 | .mk a b ls=>okTm a∧okTm b∧Zgt ls
def Zf5:Lnk->Prop
 | .mk i o cs=>I64 i∧ZmT o∧Zgs cs
def Zgs:List Chn->Prop
 | []=>True
 | c::cs=>Zed c∧Zgs cs
def Zgt:List Lnk->Prop
 | []=>True
 | l::ls=>Zf5 l∧Zgt ls
end
def Chn.frm:Chn->Tm | .mk a _ _=>a
def Chn.to:Chn->Tm | .mk _ b _=>b
def Chn.links:Chn->List Lnk | .mk _ _ l=>l
def Lnk.idx:Lnk->Int | .mk i _ _=>i
def Lnk.occ:Lnk->Occ | .mk _ o _=>o
def Lnk.conds:Lnk->List Chn | .mk _ _ c=>c
theorem ZgP:∀ l,Zbu l=l.map ZaI
 | []=>by simp only [Zbu,List.map_nil]
 | c::cs=>by simp only [Zbu,Tbu,ZgP cs]
theorem ZgQ:∀ l,Zch l=l.map Zcp
 | []=>by simp only [Zch,List.map_nil]
 | c::cs=>by simp only [Zch,Tbu,ZgQ cs]
theorem Ze7 (l:List Chn):(Zbu l).length=l.length:=by rw [ZgP,Tay]
theorem Zh6 (l:List Lnk):(Zch l).length=l.length:=by rw [ZgQ,Tay]
theorem Zh7 (l:List Chn) (i:Nat):(Zbu l)[i]?=l[i]?.map ZaI:=by rw [ZgP,Tba]
theorem Zh8 (l:List Lnk) (i:Nat):(Zch l)[i]?=l[i]?.map Zcp:=by rw [ZgQ,Tba]
theorem ZmU:∀ {l},Zgs l ↔ ∀ c∈l,Zed c
 | []=>by simp [Zgs]
 | c::cs=>by simp [Zgs,ZmU (l:=cs)]
theorem ZmV:∀ {l},Zgt l ↔ ∀ c∈l,Zf5 c
 | []=>by simp [Zgt]
 | c::cs=>by simp [Zgt,ZmV (l:=cs)]
theorem ZEk (n:Nat):(∀ row,ZaC row < n->Zaj (Zac .chain) row->∃ c,row=ZaI c∧Zed c)∧(∀ rows,Za6 rows < n->Zai (Zac .chain) rows->∃ cs,rows=Zbu cs∧Zgs cs)∧(∀ row,ZaC row < n->Zaj (Zac .link) row->∃ c,row=Zcp c∧Zf5 c)∧(∀ rows,Za6 rows < n->Zai (Zac .link) rows->∃ cs,rows=Zch cs∧Zgt cs):=by
 induction n with
 | zero=>exact ⟨fun _ h=>absurd h om,fun _ h=>absurd h om,fun _ h=>absurd h om,fun _ h=>absurd h om⟩
 | succ n ih =>
  obtain ⟨ih1,ih2,ih3,ih4⟩:=ih;have h1:∀ row,ZaC row < n+1->Zaj (Zac .chain) row->∃ c,row=ZaI c∧Zed c:=fun row hn hok=>by
   obtain ⟨i0,t1,i2,r3,i4,t5,i6,r7,r8,rfl,g0,g1,g2,g3,g4,g5,g6,g7,g8⟩:=Zf4 hok;simp only [ZaC,Zcz] at hn;obtain ⟨a,rfl,ha⟩:=Ze6 g3;obtain ⟨b,rfl,hb⟩:=Ze6 g7;obtain ⟨ls,rfl,hl⟩:=ih4 _ om g8;exact ⟨.mk (.mk i0 t1 i2 a) (.mk i4 t5 i6 b) ls,by simp [ZaI,Zab],by simp only [Zed,okTm];exact ⟨⟨g0,g1,g2,ha⟩,⟨g4,g5,g6,hb⟩,hl⟩⟩
  have h3:∀ row,ZaC row < n+1->Zaj (Zac .link) row->∃ c,row=Zcp c∧Zf5 c:=fun row hn hok=>by
   obtain ⟨i0,r1,r2,r3,r4,r5,rfl,g0,g1,g2,g3,g4,g5⟩:=ZgO hok;simp only [ZaC,Zcz] at hn;obtain ⟨o,ho,hoo⟩:=ZFh (Zec g1 g2 g3 g4);obtain ⟨cs,rfl,hc⟩:=ih2 _ om g5;refine ⟨.mk i0 o cs,?_,by simp only [Zf5];exact ⟨g0,hoo,hc⟩⟩;simp only [Zcp,<- ho,Taf,Tah]
  refine ⟨h1,?_,h3,?_⟩
  ·intro rows
   induction rows with
   | nil=>exact fun _ _=>⟨[],by simp only [Zbu],by simp only [Zgs]⟩
   | cons r rs ihr =>
    intro hn hok;simp only [Zai] at hok;simp only [Za6] at hn;obtain ⟨c,rfl,hc⟩:=h1 r om hok.1;obtain ⟨cs,rfl,hcs⟩:=ihr om hok.2;exact ⟨c::cs,by simp only [Zbu],by simp only [Zgs];exact ⟨hc,hcs⟩⟩
  ·intro rows
   induction rows with
   | nil=>exact fun _ _=>⟨[],by simp only [Zch],by simp only [Zgt]⟩
   | cons r rs ihr =>
    intro hn hok;simp only [Zai] at hok;simp only [Za6] at hn;obtain ⟨c,rfl,hc⟩:=h3 r om hok.1;obtain ⟨cs,rfl,hcs⟩:=ihr om hok.2;exact ⟨c::cs,by simp only [Zch],by simp only [Zgt];exact ⟨hc,hcs⟩⟩
theorem ZFi {row:List C} (h:Zaj (Zac .chain) row):∃ c,row=ZaI c∧Zed c:=(ZEk _).1 row (Tan _) h
theorem Zv5 (a b:Int) (w:World):Calls Tryz.prog 251 #[.int .i64 a,.int .i64 b] w fun e w'=>e=.returned (.int .i64 (Za7 a b))∧w=w':=by
 unfold Za7;by_cases h1:a < b
 ·rw [if_pos h1]
  go_enter Tryz.func251,Tryz.ntmps251
  go_wp2
  go_ret
  exact ⟨rfl,rfl⟩
 ·by_cases h2:b < a
  ·rw [if_neg h1,if_pos h2]
   go_enter Tryz.func251,Tryz.ntmps251
   go_wp2
   go_ret
   exact ⟨rfl,rfl⟩
  ·rw [if_neg h1,if_neg h2]
   go_enter Tryz.func251,Tryz.ntmps251
   go_wp2
   go_ret
   exact ⟨rfl,rfl⟩
theorem Zn8 (a b:ByteArray) (w:World):Calls Tryz.prog 296 #[.string a,.string b] w fun e w'=>e=.returned (.int .i64 (ZcA a b))∧w=w':=by
 go_enter Tryz.func296,Tryz.ntmps296
 go_wp2
 rw [run_callFunc_extern Tryz.func318 (by kernel_rfl) (by kernel_rfl) (by kernel_rfl) (e:=Extern.BytealgCompare.compare) (by kernel_rfl),Lib.run_compareString];simp only [Result.andThen];rw [Oper.upon_value]
 go_wp2
 go_ret
 exact ⟨rfl,rfl⟩
theorem Zn9 (a b:ByteArray) (w:World):Calls Tryz.prog 252 #[.string a,.string b] w fun e w'=>e=.returned (.int .i64 (ZcA a b))∧w=w':=by
 go_enter Tryz.func252,Tryz.ntmps252
 go_wp2_with fail
 refine (Zn8 _ _ _).mono ?_;rintro e w' ⟨rfl,rfl⟩
 go_wp2
 go_ret
 exact ⟨rfl,rfl⟩
theorem Zre {l:List Int} {k:Nat} {x:Int} (h:l[k]?=some x):Za4 (l.drop k)=if x=0 then Za4 (l.drop (k+1)) else x:=by
 obtain ⟨hl,hx⟩:=Tad.1 h;rw [List.drop_eq_getElem_cons hl,hx,Za4]
theorem Zj0 (t:Tm):(Zab t).length=4:=by cases t;rfl
theorem Zvd (t:Tm):(Zab t).take 4=Zab t:=by cases t;rfl
theorem Zve (t:Tm):(Zab t).drop 4=[]:=by cases t;rfl
theorem Zv6 (t:Tm):(Zab t).all ZaB=true:=by cases t;rfl
theorem Zc7 (ts:List Tm):Zav 4 (Zaa ts)=true:=by
 rw [Zby];exact ZdH (e:=Zab) (n:=4) (fun t=>by rw [Zj0,Zv6];rfl) ts
theorem ZDQ (t:Tm):valT .one (Zab t)=some (.d (.one (.lit (.int .i64 t.op)))):=by cases t;rfl
theorem ZDR (t:Tm):(Zab t).drop 1=[.lit (.string t.name),.lit (.int .i64 t.sort),.sl (Zaa t.args)]:=by cases t;rfl
theorem ZDS (t:Tm):(Zab t).drop 2=[.lit (.int .i64 t.sort),.sl (Zaa t.args)]:=by cases t;rfl
theorem ZDT (t:Tm):(Zab t).drop 3=[.sl (Zaa t.args)]:=by cases t;rfl
theorem tmz:type_of% (aj12 ZDQ ZDR ZDS ZDT Zj0 Zvd Zve Zv6 Zc7 Zb1 Zae @Za3):=(aj12 ZDQ ZDR ZDS ZDT Zj0 Zvd Zve Zv6 Zc7 Zb1 Zae @Za3)
theorem Zrf {e:Env} {f:FuncId} {args:List D} {x:Value} (hb:Zcs e.P f=true) (h:∀ (w:World) (S:Nat->Prop) (vs:List Value),ZaL w S args vs->Calls e.P f vs.toArray w fun en w'=>en=.returned x∧w=w'):Con e f args [.one (.lit x)] :=
 ⟨hb,fun w S vs _ _ hG hv=>(h w S vs hv).mono fun en w' ⟨h1,h2⟩=>by subst h2;exact ⟨x,h1,Kept.refl ..,hG,by simp [retA,ARel,DRel,Rep]⟩⟩
theorem ZBL {e:Env} {f:FuncId} {args r:List D} {φ:Prop} (hb:Zcs e.P f=true) (hφ:∀ (w:World) (S:Nat->Prop) (vs:List Value),ZaL w S args vs->φ) (h:φ->Con e f args r):Con e f args r :=
 ⟨hb,fun w S vs h1 h2 h3 h4=>(h (hφ w S vs h4)).2 w S vs h1 h2 h3 h4⟩
theorem ZoS (a b:Int):Con e1 251 [.one (.lit (.int .i64 a)),.one (.lit (.int .i64 b))] [.one (.lit (.int .i64 (Za7 a b)))]:=by
 refine Zrf (by kernel_rfl) fun w S vs h=>?_
 match vs,h with
 | [x,y],h =>
  obtain ⟨hx,hy,_⟩:=h;have hx:x=.int .i64 a:=hx;have hy:y=.int .i64 b:=hy;subst hx hy;exact Zv5 a b w
theorem ZzO (a b:ByteArray):Con e1 252 [.one (.lit (.string a)),.one (.lit (.string b))] [.one (.lit (.int .i64 (ZcA a b)))]:=by
 refine Zrf (by kernel_rfl) fun w S vs h=>?_
 match vs,h with
 | [x,y],h =>
  obtain ⟨hx,hy,_⟩:=h;have hx:x=.string a:=hx;have hy:y=.string b:=hy;subst hx hy;exact Zn9 a b w
theorem Zv7 (l:List Int) (hl:l.length<=1048576):Con e1 189 [.clip (l.map fun n=>[.lit (.int .i64 n)])] [.one (.lit (.int .i64 (Za4 l)))]:=by
 have rb:Zav 1 (l.map fun n=>[C.lit (.int .i64 n)])=true:=ZdH (e:=fun n=>[C.lit (.int .i64 n)]) (n:=1) (fun _=>rfl) l;refine gI (ts:=[.slot 2]) 17389 Tryz.func189 ?_;refine fG @rb ?_;have F:=@rb;refine gL (ι:=Nat) [2,5,8,9,14] [] (fun x=>[(8,.d (.one (.lit (.int .i64 (x:Int)))))]) (fun x=>[]) (fun x=>x<=l.length∧Za4 l=Za4 (l.drop x)) (fun x=>l.length - x) (0) (⟨Taj _,rfl⟩) (fun x hx=>?_);clear F;obtain ⟨hi,hf⟩:=hx
 rw [hf];clear hf;by_cases hlt:x < l.length
 ·obtain ⟨n,hn⟩:∃ n,l[x]?=some n:=⟨_,Taa hlt⟩;have q1:=lT x l.length;have q4:IntKind.i64.wrap ((x:Int)+1)=(x:Int)+1:=IntWalk.i64_in _ om;rw [Zre hn];by_cases h0:n=0
  ·subst h0;rw [if_pos rfl];refine fG (aj3 @q1 @rb @hn) ?_;have F:=@q4;refine gG ?_;exact ⟨x+1,⟨hlt,rfl⟩,gw,gw,om⟩
  ·have q2:(n=0)=False:=eq_false h0;rw [if_neg h0];exact fD (aj4 @q1 @rb @hn @q2)
 ·obtain rfl:x=l.length:=by omega
  have q1:=lF l.length l.length;rw [List.drop_length];simp only [Za4];exact fD @q1
theorem ZsS {b:List Tm} {k:Nat} {xs:List Tm} (h:xs.length<=k):ZaY (xs.drop k) b=if b=[] then 0 else -1:=by
 rw [List.drop_eq_nil_of_le h]
 cases b with
 | nil=>simp [ZaY]
 | cons x xs=>simp [ZaY]
theorem ZsT {a:Tm} {k:Nat} {xs bs:List Tm} (ha:xs[k]?=some a) (h:bs.length<=k):ZaY (xs.drop k) (bs.drop k)=1:=by
 obtain ⟨hl,hx⟩:=Tad.1 ha;rw [List.drop_eq_nil_of_le h,List.drop_eq_getElem_cons hl];simp [ZaY]
theorem ZmW (xs bs:List Tm) (hla:xs.length<=maxLen) (hlb:bs.length<=maxLen) (h:∀ a∈xs,∀ b∈bs,Con e1 182 [.agg (Zab a),.agg (Zab b)] [.one (.lit (.int .i64 (Zag a b)))]):Con e1 253 [.one (.sl (Zaa xs)),.one (.sl (Zaa bs)),.one (.fn 182 [])] [.one (.lit (.int .i64 (ZaY xs bs)))]:=by
 unfold maxLen at hla hlb;refine gI (ts:=[.slot 6]) 277027520455 Tryz.func253 ?_;refine fG @tmz ?_;have F:=@tmz;refine gL (ι:=Nat) [6,7,8,9,10,13,14,21,31] [] (fun x=>[(13,.d (.one (.lit (.int .i64 (x:Int)))))]) (fun x=>[]) (fun x=>x<=xs.length∧x<=bs.length∧ZaY xs bs=ZaY (xs.drop x) (bs.drop x)) (fun x=>xs.length - x) (0) (⟨Taj _,Taj _,rfl⟩) (fun x hx=>?_);clear F;obtain ⟨hi,hj,hf⟩:=hx;rw [hf];clear hf
 by_cases hlt:x < xs.length
 ·obtain ⟨a,ha⟩:∃ n,xs[x]?=some n:=⟨_,Taa hlt⟩;have q1:=lT x xs.length;by_cases hlt2:x < bs.length
  ·obtain ⟨b,hb⟩:∃ n,bs[x]?=some n:=⟨_,Taa hlt2⟩;have q2:((x:Int) ≥ (bs.length:Int))=False:=eq_false om;have q4:IntKind.i64.wrap ((x:Int)+1)=(x:Int)+1:=IntWalk.i64_in _ om;rw [ZsR ha hb];simp only [Za4];refine fB (aj5 @q1 @q2 @tmz @ha @hb) ?_;refine fC @tmz (h a (Tac ha) b (Tac hb)) ?_;refine fR @tmz ?_;by_cases h0:Zag a b=0
   ·have q3:(Zag a b=0)=True:=eq_true h0;rw [if_pos h0,show (if ZaY (xs.drop (x+1)) (bs.drop (x+1))=0 then (0:Int) else ZaY (xs.drop (x+1)) (bs.drop (x+1)))=ZaY (xs.drop (x+1)) (bs.drop (x+1)) by split <;> simp_all];refine fG (ai @tmz @q3) ?_;have F:=@q4;refine gG ?_;exact ⟨x+1,⟨hlt,hlt2,rfl⟩,gw,gw,om⟩
   ·have q3:(Zag a b=0)=False:=eq_false h0;rw [if_neg h0];exact fD (ai @tmz @q3)
  ·have q2:((x:Int) ≥ (bs.length:Int))=True:=eq_true om;rw [ZsT ha om];exact fD (aj4 @q1 @q2 @tmz @ha)
 ·have q1:=lF x xs.length;rw [ZsS om];by_cases h2:xs.length < bs.length
  ·have q2:=lT xs.length bs.length;rw [if_neg (by intro e;have:=congrArg List.length e;simp at this;omega)];exact fD (aj3 @q1 @q2 @tmz)
  ·have q2:=lF xs.length bs.length;rw [if_pos (by apply List.drop_eq_nil_of_le;omega)];exact fD (aj3 @q1 @q2 @tmz)
theorem Zvf {w:World} {S:Nat->Prop} {rows:List (List C)} {v:Value} (h:Rep w S (.sl rows) v):rows.length<=maxLen:=by
 simp only [Rep] at h;obtain ⟨A,n,cap,_,h1,h2,h3,_⟩:=h;omega
theorem Zrg (xs bs:List Tm) (h:∀ a∈xs,∀ b∈bs,Con e1 182 [.agg (Zab a),.agg (Zab b)] [.one (.lit (.int .i64 (Zag a b)))]):Con e1 253 [.one (.sl (Zaa xs)),.one (.sl (Zaa bs)),.one (.fn 182 [])] [.one (.lit (.int .i64 (ZaY xs bs)))]:=by
 refine ZBL (φ:=xs.length<=maxLen∧bs.length<=maxLen) (by kernel_rfl) (fun w S vs hv=>?_) fun hφ=>ZmW xs bs hφ.1 hφ.2 h
 match vs,hv with
 | [x,y,z],hv =>
  have h1:=Zvf hv.1;have h2:=Zvf hv.2.1;rw [Zae] at h1 h2;exact ⟨h1,h2⟩
theorem ZsU (a b:Tm) (h:∀ x∈a.args,∀ y∈b.args,Con e1 182 [.agg (Zab x),.agg (Zab y)] [.one (.lit (.int .i64 (Zag x y)))]):Con e1 182 [.agg (Zab a),.agg (Zab b)] [.one (.lit (.int .i64 (Zag a b)))]:=by
 obtain ⟨o,n,s,xs⟩:=a;obtain ⟨o',n',s',bs⟩:=b;simp only [Tm.args] at h;have c1:Zab (.mk o n s xs)=[.lit (.int .i64 o),.lit (.string n),.lit (.int .i64 s),.sl (Zaa xs)]:=by simp only [Zab]
 have c2:Zab (.mk o' n' s' bs)=[.lit (.int .i64 o'),.lit (.string n'),.lit (.int .i64 s'),.sl (Zaa bs)]:=by simp only [Zab]
 have e3:Zag (.mk o n s xs) (.mk o' n' s' bs)=if Za4 [Za7 o o',ZcA n n',Za7 s s']=0 then ZaY xs bs else Za4 [Za7 o o',ZcA n n',Za7 s s']:=by
  simp only [Zag,Za4];by_cases h1:Za7 o o'=0
  ·by_cases h2:ZcA n n'=0
   ·by_cases h3:Za7 s s'=0
    ·simp only [h1,h2,h3,if_true];split <;> simp_all
    ·simp only [h1,h2,h3,if_true,if_false]
   ·simp only [h1,h2,if_true,if_false]
  ·simp only [h1,if_false]
 have hor:=Zv7 [Za7 o o',ZcA n n',Za7 s s'] (by simp);simp only [Tbu,List.map_nil] at hor;rw [e3];refine gI (ts:=[.slot 4]) 16777279 Tryz.func182 ?_;refine fB (ai @c1 @c2) ?_;refine fC (ai @c1 @c2) (ZoS o o') ?_;refine fC (ai @c1 @c2) (ZzO n n') ?_;refine fC (ai @c1 @c2) (ZoS s s') ?_;refine fC (ai @c1 @c2) (hor) ?_;refine fR (ai @c1 @c2) ?_;by_cases h0:Za4 [Za7 o o',ZcA n n',Za7 s s']=0
 ·have q3:(Za4 [Za7 o o',ZcA n n',Za7 s s']=0)=True:=eq_true h0;rw [if_pos h0];refine fB (aj3 @q3 @c1 @c2) ?_;refine fC (ai @c1 @c2) (Zrg xs bs h) ?_;refine fR (ai @c1 @c2) ?_;exact fD (ai @c1 @c2)
 ·have q3:(Za4 [Za7 o o',ZcA n n',Za7 s s']=0)=False:=eq_false h0;rw [if_neg h0];exact fD (aj3 @q3 @c1 @c2)
theorem Zv8 (n:Nat):∀ a b:Tm,ZaC (Zab a) < n->Con e1 182 [.agg (Zab a),.agg (Zab b)] [.one (.lit (.int .i64 (Zag a b)))]:=by
 induction n with
 | zero=>exact fun _ _ h=>om
 | succ n ih =>
  intro a b hn;refine ZsU a b fun x hx y hy=>ih x y ?_;obtain ⟨op,nm,so,args⟩:=a;simp only [Zab,ZaC,Zcz] at hn;simp only [Tm.args] at hx;obtain ⟨i,hi⟩:=Tbk hx;have hi':(Zaa args)[i]?=some (Zab x):=by rw [Zb1,hi];rfl
  have h1:=ZbZ hi';omega
theorem Zfo (a b:Tm):Con e1 182 [.agg (Zab a),.agg (Zab b)] [.one (.lit (.int .i64 (Zag a b)))]:=Zv8 _ a b (Tan _)
mutual
def sizeTm:Tm->Nat
 | .mk _ _ _ a=>1+sizeTms a
def sizeTms:List Tm->Nat
 | []=>0
 | t::ts=>sizeTm t+sizeTms ts
end
theorem Zad.mem {w:World} {S:Nat->Prop}:∀ {cs:List C} {us:List Value} {c:C},Zad w S cs us->c∈cs->∃ u,Rep w S c u
 | c::cs,u::us,x,h,hx=>by
  simp only [Zad] at h;rcases Tbg.1 hx with rfl | hx
  ·exact ⟨u,h.1⟩
  ·exact Zad.mem h.2 hx
 | [],_,_,_,hx=>by simp at hx
 | _::_,[],_,h,_=>by simp [Zad] at h
theorem ZBM {e:Env} {f:FuncId} {cs:List C} {rows:List (List C)} {post r:List D} (hb:Zcs e.P f=true) (hc:.sl rows∈cs) (h:rows.length<=maxLen->Con e f (.agg cs::post) r):Con e f (.agg cs::post) r:=⟨hb,fun w S vs hS hE hG hv=>by
 match vs,hv with
 | v::vs,⟨h1,h2⟩ =>
  have h1':DRel w S (.agg cs) v:=h1;obtain ⟨us,_,hu⟩:=h1';obtain ⟨u,hr⟩:=hu.mem hc;obtain ⟨A,n,cap,_,hn,hl,hm⟩:=hr.form;exact (h om).2 w S _ hS hE hG ⟨h1,h2⟩⟩
theorem ZBN {n n':ByteArray} (h:n≠n'):(n.toList==n'.toList)=false:=by
 simp only [beq_eq_false_iff_ne,ne_eq,ByteArray.toList_eq];intro e;apply h;obtain ⟨⟨la⟩⟩:=n;obtain ⟨⟨lb⟩⟩:=n';simp at e;rw [e]
theorem ZsV {x y:List Tm} {i:Nat} {a b:Tm} (ha:x[i]?=some a) (hb:y[i]?=some b):ZaY (x.drop i) (y.drop i)=if Zag a b=0 then ZaY (x.drop (i+1)) (y.drop (i+1)) else Zag a b:=by
 obtain ⟨h1,rfl⟩:=Tad.1 ha;obtain ⟨h2,rfl⟩:=Tad.1 hb;rw [List.drop_eq_getElem_cons h1,List.drop_eq_getElem_cons h2];simp only [ZaY,Za4];split
 ·split <;> simp_all
 ·rfl
theorem Zoa (a b:Tm) (ha:okTm a) (h:∀ x∈a.args,okTm x->∀ y∈b.args,Con e0 200 [.agg (Zab x),.agg (Zab y)] [.one (.lit (.int .i64 (Zag x y)))]):Con e0 200 [.agg (Zab a),.agg (Zab b)] [.one (.lit (.int .i64 (Zag a b)))]:=by
 obtain ⟨o,n,s,xs⟩:=a;obtain ⟨o',n',s',ys⟩:=b;simp only [Tm.args] at h;simp only [okTm] at ha;have c1:Zab (.mk o n s xs)=[.lit (.int .i64 o),.lit (.string n),.lit (.int .i64 s),.sl (Zaa xs)]:=by simp only [Zab]
 have c2:Zab (.mk o' n' s' ys)=[.lit (.int .i64 o'),.lit (.string n'),.lit (.int .i64 s'),.sl (Zaa ys)]:=by simp only [Zab]
 rw [c1,c2];refine ZBM (rows:=Zaa xs) (by kernel_rfl) (by simp) fun hm1=>?_;unfold maxLen at hm1;rw [Zae] at hm1;by_cases ho:o=o';rotate_left
 ·have q1:(o=o')=False:=eq_false ho;have hz:Za7 o o'≠0:=fun e=>ho (Zdq.1 e);rw [show Zag (.mk o n s xs) (.mk o' n' s' ys)=Za7 o o' by simp only [Zag,Za4,if_neg hz]];by_cases hl:o < o'
  ·have q2:(o < o')=True:=eq_true hl;rw [show Za7 o o'=-1 by unfold Za7;rw [if_pos hl]];refine gI (ts:=[.slot 4]) 304601861798674884003967 Tryz.func200 ?_;exact fD (ai @q1 @q2)
  ·have q2:(o < o')=False:=eq_false hl;rw [show Za7 o o'=1 by unfold Za7;rw [if_neg hl,if_pos om]];refine gI (ts:=[.slot 4]) 304601861798674884003967 Tryz.func200 ?_;exact fD (ai @q1 @q2)
 subst ho;have hz0:Za7 o o=0:=Zdq.2 rfl;by_cases hn:n=n';rotate_left
 ·have q1:=ZBN hn;have hz:ZcA n n'≠0:=fun e=>hn (Zf3.1 e);have hlq:Op.bytesLess n.toList n'.toList=decide (ZcA n n'=-1):=by rw [ByteArray.toList_eq,ByteArray.toList_eq];exact ZgG _ _
  rw [show Zag (.mk o n s xs) (.mk o n' s' ys)=ZcA n n' by simp only [Zag,Za4,if_pos hz0,if_neg hz]];rcases Zrd n n' with e | e | e
  ·have q2:Op.bytesLess n.toList n'.toList=true:=by rw [hlq,e];rfl
   rw [e];refine gI (ts:=[.slot 4]) 304601861798674884003967 Tryz.func200 ?_;exact fD (ai @q1 @q2)
  ·exact absurd e hz
  ·have q2:Op.bytesLess n.toList n'.toList=false:=by rw [hlq,e];rfl
   rw [e];refine gI (ts:=[.slot 4]) 304601861798674884003967 Tryz.func200 ?_;exact fD (ai @q1 @q2)
 subst hn;have hz1:ZcA n n=0:=Zf3.2 rfl;by_cases hs:s=s';rotate_left
 ·have q1:(s=s')=False:=eq_false hs;have hz:Za7 s s'≠0:=fun e=>hs (Zdq.1 e);rw [show Zag (.mk o n s xs) (.mk o n s' ys)=Za7 s s' by simp only [Zag,Za4,if_pos hz0,if_pos hz1,if_neg hz]];by_cases hl:s < s'
  ·have q2:(s < s')=True:=eq_true hl;rw [show Za7 s s'=-1 by unfold Za7;rw [if_pos hl]];refine gI (ts:=[.slot 4]) 304601861798674884003967 Tryz.func200 ?_;exact fD (aj3 @q1 @q2 @beq_self_eq_true.{0})
  ·have q2:(s < s')=False:=eq_false hl;rw [show Za7 s s'=1 by unfold Za7;rw [if_neg hl,if_pos om]];refine gI (ts:=[.slot 4]) 304601861798674884003967 Tryz.func200 ?_;exact fD (aj3 @q1 @q2 @beq_self_eq_true.{0})
 subst hs;have hz2:Za7 s s=0:=Zdq.2 rfl
 rw [show Zag (.mk o n s xs) (.mk o n s ys)=ZaY xs ys by
  simp only [Zag,Za4,if_pos hz0,if_pos hz1,if_pos hz2];split <;> simp_all]
 refine gI (ts:=[.slot 4]) 304601861798674884003967 Tryz.func200 ?_;refine fG (@beq_self_eq_true.{0}) ?_;have F:=@e0P;refine gL (ι:=Nat) [4,5,6,48,63] [] (fun i=>[(5,A.d (.one (.lit (.int .i64 i))))]) (fun i=>[]) (fun i=>i<=xs.length∧i<=ys.length∧ZaY xs ys=ZaY (xs.drop i) (ys.drop i)) (fun i=>xs.length - i) (0) (⟨Taj _,Taj _,rfl⟩) (fun i hi=>?_);clear F;obtain ⟨hi1,hi2,he⟩:=hi;have l1:=Zae xs;have l2:=Zae ys
 by_cases h1:i < xs.length;rotate_left
 ·obtain rfl:i=xs.length:=by omega
  have q1:=lF xs.length xs.length;rw [List.drop_length] at he;by_cases h2:xs.length < ys.length
  ·have q2:=lT xs.length ys.length;rw [he,List.drop_eq_getElem_cons h2];simp only [ZaY];exact fD (aj3 @q1 @q2 @tmz)
  ·have q2:=lF xs.length ys.length;have q3:((xs.length:Int) > (ys.length:Int))=False:=eq_false om;rw [he,List.drop_of_length_le om];simp only [ZaY];exact fD (aj4 @q1 @q2 @q3 @tmz)
 have q1:=lT i xs.length;by_cases h2:i < ys.length;rotate_left
 ·obtain rfl:i=ys.length:=by omega
  have q2:=lF ys.length ys.length;have q3:=lF xs.length ys.length;have q4:((xs.length:Int) > (ys.length:Int))=True:=eq_true om;rw [he,List.drop_length,List.drop_eq_getElem_cons h1];simp only [ZaY];exact fD (aj5 @q1 @q2 @q3 @q4 @tmz)
 have q2:=lT i ys.length;obtain ⟨x,hx⟩:∃ x,xs[i]?=some x:=⟨_,Taa h1⟩;obtain ⟨y,hy⟩:∃ y,ys[i]?=some y:=⟨_,Taa h2⟩;have cC:=h x (Tac hx) (Zay.mem ha.2.2.2 (Tac hx)) y (Tac hy);rw [ZsV hx hy] at he;have hwi:=Zan (k:=i) om;refine fN 16 (aj3 @q1 @q2 @tmz) ?_;refine gB ?_;refine fC (aj6 @hx @hy @h1 @h2 @Zal @tmz) (cC) ?_;by_cases h0:Zag x y=0
 ·have q5:(Zag x y=0)=True:=eq_true h0;rw [if_pos h0] at he;refine fR @e0P ?_;have F:=ai @q5 @hwi;refine gG ?_;exact ⟨i+1,⟨h1,h2,he⟩,gw,gw,om⟩
 ·have q5:(Zag x y=0)=False:=eq_false h0;rw [if_neg h0] at he;rw [he];refine fR @e0P ?_;exact fD @q5
theorem ZpM (n:Nat):∀ a b:Tm,ZaC (Zab a) < n->okTm a->Con e0 200 [.agg (Zab a),.agg (Zab b)] [.one (.lit (.int .i64 (Zag a b)))]:=by
 induction n with
 | zero=>exact fun _ _ h=>absurd h om
 | succ n ih =>
  intro a b hn ha;refine Zoa a b ha fun x hx hox y hy=>ih x y ?_ hox;obtain ⟨op,nm,so,args⟩:=a;simp only [Zab,ZaC,Zcz] at hn;simp only [Tm.args] at hx;obtain ⟨i,hi⟩:=Tbk hx;have hi':(Zaa args)[i]?=some (Zab x):=by rw [Zb1,hi];rfl
  have h1:=ZbZ hi';omega
theorem Zli {a b:Tm} (ha:okTm a) (hk:okTm b):Con e0 182 [.agg (Zab a),.agg (Zab b)] [.one (.lit (.int .i64 (Zag a b)))]:=ZkR (Zfo a b)
theorem Zep {a b:Tm} (ha:okTm a) (hk:okTm b):Con e0 200 [.agg (Zab a),.agg (Zab b)] [.one (.lit (.int .i64 (Zag a b)))]:=ZpM _ a b (Tan _) ha
theorem ZlS {n:Int} (h0:0<=n) (h1:n < 9223372036854775808):IntKind.i64.wrap n=n:=by
 simp [IntKind.wrap,IntKind.bits,IntKind.signed];omega
theorem Zin {a:Nat} (h:a < 18446744073709551616):(BitVec.ofInt 64 (a:Int)).toNat=a:=by
 rw [BitVec.toNat_ofInt];omega
theorem Zd3 {a b:Nat} (ha:a < 4611686018427387904) (hb:b < 4611686018427387904):bits .or .i64 (a:Int) (b:Int)=((a ||| b:Nat):Int):=by
 have h:a ||| b < 2 ^ 62:=Nat.or_lt_two_pow om om;have e:(BitVec.ofInt IntKind.i64.bits (a:Int) ||| BitVec.ofInt IntKind.i64.bits (b:Int)).toNat=a ||| b:=by
  rw [BitVec.toNat_or];show (BitVec.ofInt 64 (a:Int)).toNat ||| (BitVec.ofInt 64 (b:Int)).toNat=_;rw [Zin om,Zin om]
 unfold bits;show IntKind.i64.wrap _=_;rw [e];exact ZlS om om
theorem Zee {a b:Nat} (ha:a < 4611686018427387904) (hb:b < 4611686018427387904):bits .and .i64 (a:Int) (b:Int)=((a &&& b:Nat):Int):=by
 have h:a &&& b < 2 ^ 62:=Nat.and_lt_two_pow _ om;have e:(BitVec.ofInt IntKind.i64.bits (a:Int) &&& BitVec.ofInt IntKind.i64.bits (b:Int)).toNat=a &&& b:=by
  rw [BitVec.toNat_and];show (BitVec.ofInt 64 (a:Int)).toNat &&& (BitVec.ofInt 64 (b:Int)).toNat=_;rw [Zin om,Zin om]
 unfold bits;show IntKind.i64.wrap _=_;rw [e];exact ZlS om om
theorem Zhf {k:Nat} (h:k < 62):2 ^ k < 4611686018427387904:=Tbd (Nat.pow_lt_pow_right om h) om
theorem testBit_and (a k:Nat):((a &&& 2 ^ k) != 0)=a.testBit k:=by
 cases h:a.testBit k
 ·have:a &&& 2 ^ k=0:=by
   apply Nat.eq_of_testBit_eq;intro j;rw [Nat.testBit_and,Nat.testBit_two_pow,Nat.zero_testBit];by_cases hj:k=j
   ·subst hj;simp [h]
   ·simp [hj]
  simp [this]
 ·have:¬ (a &&& 2 ^ k=0):=by
   intro h0;have h1:(a &&& 2 ^ k).testBit k=true:=by rw [Nat.testBit_and,Nat.testBit_two_pow];simp [h]
   rw [h0,Nat.zero_testBit] at h1;simp at h1
  simp [this]
theorem ZsW {a k:Nat} (ha:a < 4611686018427387904):(bits .and .i64 ((a:Int) / 2 ^ k) 1==1)=a.testBit k:=by
 have e:(a:Int) / 2 ^ k=((a / 2 ^ k:Nat):Int):=by simp
 have h1:a / 2 ^ k<=a:=Nat.div_le_self _ _;have h2:bits .and .i64 ((a / 2 ^ k:Nat):Int) ((1:Nat):Int)=_:=Zee om om;rw [e];rw [show (1:Int)=((1:Nat):Int) from rfl,h2,Nat.testBit,Nat.shiftRight_eq_div_pow,Nat.and_comm];have h3:1 &&& a / 2 ^ k < 2:=by rw [Nat.one_and_eq_mod_two];omega
 generalize 1 &&& a / 2 ^ k=x at h3 ⊢;have:x=0∨x=1:=om;rcases this with rfl | rfl <;> rfl
def ZdZ (l:List Nat) (p:Int × Int):List Nat:=l.set p.1.toNat (l.getD p.1.toNat 0 ||| l.getD p.2.toNat 0)
def ZEl (subs:List (Int × Int)) (l:List Nat):List Nat:=subs.foldl ZdZ l
def Zel (subs:List (Int × Int)):Nat->List Nat->List Nat
 | 0,l=>l
 | k+1,l=>ZEl subs (Zel subs k l)
def up0 (n:Nat):List Nat:=(List.range n).map (2 ^ ·)
def up (s:Srt):List Nat:=Zel s.subs s.names.length (up0 s.names.length)
def Zcw (l:List Nat):List Int:=l.map (fun (n:Nat)=>(n:Int))
def ZdJ (n:Nat) (subs:List (Int × Int)):Prop:=∀ p∈subs,0<=p.1∧p.1 < n∧0<=p.2∧p.2 < n
def UpOk (n:Nat) (l:List Nat):Prop:=l.length=n∧∀ x∈l,x < 2 ^ n
theorem UpOk.get {n:Nat} {l:List Nat} (h:UpOk n l) {i:Nat} (hi:i < n):l[i]?=some (l.getD i 0)∧l.getD i 0 < 2 ^ n:=by
 have hl:i < l.length:=by rw [h.1];exact hi
 have e:l[i]?=some l[i]:=Taa hl;have e2:l.getD i 0=l[i]:=by simp [List.getD,e]
 rw [e2];exact ⟨e,h.2 _ (List.getElem_mem hl)⟩
theorem UpOk.sub {n:Nat} {l:List Nat} (h:UpOk n l) {p:Int × Int} (hp:0<=p.1∧p.1 < n∧0<=p.2∧p.2 < n):UpOk n (ZdZ l p):=by
 refine ⟨by unfold ZdZ;rw [Taz];exact h.1,fun x hx=>?_⟩;unfold ZdZ at hx;rcases List.mem_or_eq_of_mem_set hx with hx | rfl
 ·exact h.2 x hx
 ·exact Nat.or_lt_two_pow (h.get (i:=p.1.toNat) om).2 (h.get (i:=p.2.toNat) om).2
theorem UpOk.foldl {n:Nat}:∀ {subs:List (Int × Int)} {l:List Nat},UpOk n l->ZdJ n subs->UpOk n (subs.foldl ZdZ l)
 | [],l,h,_=>h
 | p::ps,l,h,hs=>UpOk.foldl (subs:=ps) (h.sub (hs p (by simp))) (fun q hq=>hs q (by simp [hq]))
theorem UpOk.iter {n:Nat} {subs:List (Int × Int)} (hs:ZdJ n subs):∀ (k:Nat) {l:List Nat},UpOk n l->UpOk n (Zel subs k l)
 | 0,l,h=>h
 | k+1,l,h=>(UpOk.iter hs k h).foldl hs
theorem UpOk.start (n:Nat):UpOk n (up0 n):=by
 refine ⟨by simp [up0],fun x hx=>?_⟩;simp only [up0,Tbi,List.mem_range] at hx;obtain ⟨i,hi,rfl⟩:=hx;exact Nat.pow_lt_pow_right om hi
theorem Zf6 {s:Srt} (h:ZdJ s.names.length s.subs):UpOk s.names.length (up s):=UpOk.iter h _ (UpOk.start _)
theorem ZiU {α β:Type} {f:β->α->β} {l:List α} {k:Nat} {a:α} (h:l[k]?=some a) (b:β):(l.take (k+1)).foldl f b=f ((l.take k).foldl f b) a:=by
 rw [ZcV h,List.foldl_append];rfl
theorem ZdJ.take {n:Nat} {subs:List (Int × Int)} (h:ZdJ n subs) (k:Nat):ZdJ n (subs.take k):=fun p hp=>h p (List.mem_of_mem_take hp)
theorem ZoT (l:List Nat):(Zcw l).length=l.length:=by simp [Zcw]
theorem ZoU {l:List Nat} {i x:Nat} (h:l[i]?=some x):(Zcw l)[i]?=some (x:Int):=by simp [Zcw,h]
theorem ZzP (l:List Nat) (i x:Nat):Zcw (l.set i x)=(Zcw l).set i (x:Int):=by simp [Zcw,List.map_set]
theorem Zv9 (l:List Nat) (x:Nat):Zcw (l++[x])=Zcw l++[(x:Int)]:=by simp [Zcw]
def Zey (n k:Nat):List Nat:=up0 k++List.replicate (n - k) 0
theorem ZzQ {n k:Nat} (h:k<=n):(Zey n k).length=n:=by simp [Zey,up0];omega
theorem ZzR {n k:Nat} (h:k < n):(Zey n k).set k (2 ^ k)=Zey n (k+1):=by
 unfold Zey;have e:n - k=(n - (k+1))+1:=om;have e2:up0 (k+1)=up0 k++[2 ^ k]:=by simp [up0,List.range_succ]
 have e3:(up0 k).length=k:=by simp [up0]
 rw [e,List.replicate_succ,List.set_append_right _ _ om,e3,Nat.sub_self,List.set_cons_zero,e2,Tbf];rfl
theorem ZzS (n:Nat):Zey n n=up0 n:=by simp [Zey]
theorem ZBO (k:Nat):up0 (k+1)=up0 k++[2 ^ k]:=by simp [up0,List.range_succ]
def Zbv (l:List ByteArray) (s:ByteArray):Bool:=l.any (fun t=>s.toList==t.toList)
def Zdh (n:Int):Bool:=decide (48<=n∧n<=57) || decide (65<=n∧n<=90) || decide (97<=n∧n<=122)
def Zj1 (s:ByteArray) (i:Nat):Int:=if h:i < s.size then (s[i].toNat:Int) else 0
def Zbj (s:ByteArray) (k:Nat):Bool:=(List.range' k (s.size - k)).all (fun i=>Zdh (Zj1 s i) && !(i==0 && decide (Zj1 s i<=57)))
def Zbw (s:ByteArray):Bool:=decide (1<=s.size∧s.size<=12) && !(s.toList==[105,102]) && !(s.toList==[97,110,100]) && Zbj s 0
theorem ZpN {s:ByteArray} {k:Nat} (h:k < s.size):Zbj s k=((Zdh (s[k].toNat:Int) && !(k==0 && decide ((s[k].toNat:Int)<=57))) && Zbj s (k+1)):=by
 have eb:Zj1 s k=(s[k].toNat:Int):=by unfold Zj1;rw [dif_pos h]
 rw [<- eb];unfold Zbj;have e:s.size - k=(s.size - (k+1))+1:=om;rw [e,List.range'_succ,List.all_cons]
theorem Zj2 {s:ByteArray} {k:Nat} (h:s.size<=k):Zbj s k=true:=by
 unfold Zbj;have e:s.size - k=0:=om;rw [e];rfl
theorem ZcS {s:ByteArray} (h:s.size < 1∨12 < s.size∨s.toList=[105,102]∨s.toList=[97,110,100]):Zbw s=false:=by
 unfold Zbw;rcases h with h | h | h | h
 ·have:¬ (1<=s.size∧s.size<=12):=om;simp [this]
 ·have:¬ (1<=s.size∧s.size<=12):=om;simp [this]
 ·simp [h]
 ·simp [h]
def Zf7 (n:Nat) (p:Int × Int):Prop:=0<=p.1∧p.1 < n∧0<=p.2∧p.2 < n∧p.1≠p.2
def Zj3 (names:List ByteArray) (i:Nat):Prop:=∀ x,names[i]?=some x->Zbw x=true∧Zbv (names.take i) x=false
def Zdy (u:List Nat) (i k:Nat):Prop:=¬ (i≠k∧(u.getD i 0).testBit k=true∧(u.getD k 0).testBit i=true)
structure SortsOk (s:Srt):Prop where
 n1:1<=s.names.length
 n8:s.names.length<=8
 m16:s.subs.length<=16
 names:∀ i,i < s.names.length->Zj3 s.names i
 subs:∀ p∈s.subs,Zf7 s.names.length p
 pairs:∀ i k,i < s.names.length->k < s.names.length->Zdy (up s) i k
open Classical in
noncomputable def Zct (s:Srt):Bool:=decide (SortsOk s)
theorem ZfB {s:Srt} (h:SortsOk s):Zct s=true:=by unfold Zct;simp [h]
theorem ZgC {s:Srt} (h:¬ SortsOk s):Zct s=false:=by unfold Zct;simp [h]
theorem ZsX {s:Srt}:Zct s=true ↔ SortsOk s:=by unfold Zct;simp
theorem SortsOk.subsIn {s:Srt} (h:∀ p∈s.subs,Zf7 s.names.length p):ZdJ s.names.length s.subs:=fun p hp=>⟨(h p hp).1,(h p hp).2.1,(h p hp).2.2.1,(h p hp).2.2.2.1⟩
theorem Zvg {a b:ByteArray}:(a.toList==b.toList)=(b.toList==a.toList):=by
 rw [Bool.eq_iff_iff];simp;exact ⟨fun h=>h.symm,fun h=>h.symm⟩
theorem ZsY {l:List ByteArray} {s x:ByteArray} {k:Nat} (h:l[k]?=some x):Zbv (l.drop k) s=((x.toList==s.toList) || Zbv (l.drop (k+1)) s):=by
 obtain ⟨hl,hx⟩:=Tad.1 h;rw [List.drop_eq_getElem_cons hl,hx,Zbv,List.any_cons,Zvg];rfl
theorem ZsZ (l:List ByteArray) (t s:ByteArray):Zbv (l++[t]) s=(Zbv l s || (s.toList==t.toList)):=by simp [Zbv,List.any_append]
def kSub (l:List Nat) (p:Int × Int):List Nat:=(l.set p.1.toNat (min (l.getD p.1.toNat 0) (l.getD p.2.toNat 0))).set p.2.toNat (min (l.getD p.1.toNat 0) (l.getD p.2.toNat 0))
def Zef (subs:List (Int × Int)):Nat->List Nat->List Nat
 | 0,l=>l
 | k+1,l=>subs.foldl kSub (Zef subs k l)
def kinds (s:Srt):List Nat:=Zef s.subs s.names.length (List.range s.names.length)
def KOk (n:Nat) (l:List Nat):Prop:=l.length=n∧∀ x∈l,x < n
theorem KOk.get {n:Nat} {l:List Nat} (h:KOk n l) {i:Nat} (hi:i < n):l[i]?=some (l.getD i 0)∧l.getD i 0 < n:=by
 have hl:i < l.length:=by rw [h.1];exact hi
 have e:l[i]?=some l[i]:=Taa hl;have e2:l.getD i 0=l[i]:=by simp [List.getD,e]
 rw [e2];exact ⟨e,h.2 _ (List.getElem_mem hl)⟩
theorem KOk.sub {n:Nat} {l:List Nat} (h:KOk n l) {p:Int × Int} (hp:0<=p.1∧p.1 < n∧0<=p.2∧p.2 < n):KOk n (kSub l p):=by
 refine ⟨by unfold kSub;rw [Taz,Taz];exact h.1,fun x hx=>?_⟩;have hm:min (l.getD p.1.toNat 0) (l.getD p.2.toNat 0) < n:=by
  have:=(h.get (i:=p.1.toNat) om).2;omega
 unfold kSub at hx;rcases List.mem_or_eq_of_mem_set hx with hx | rfl
 ·rcases List.mem_or_eq_of_mem_set hx with hx | rfl
  ·exact h.2 x hx
  ·exact hm
 ·exact hm
theorem KOk.foldl {n:Nat}:∀ {subs:List (Int × Int)} {l:List Nat},KOk n l->ZdJ n subs->KOk n (subs.foldl kSub l)
 | [],l,h,_=>h
 | p::ps,l,h,hs=>KOk.foldl (subs:=ps) (h.sub (hs p (by simp))) (fun q hq=>hs q (by simp [hq]))
theorem KOk.iter {n:Nat} {subs:List (Int × Int)} (hs:ZdJ n subs):∀ (k:Nat) {l:List Nat},KOk n l->KOk n (Zef subs k l)
 | 0,l,h=>h
 | k+1,l,h=>(KOk.iter hs k h).foldl hs
theorem KOk.start (n:Nat):KOk n (List.range n):=⟨by simp,fun x hx=>by simpa using hx⟩
theorem ZiV {s:Srt} (h:ZdJ s.names.length s.subs):KOk s.names.length (kinds s):=KOk.iter h _ (KOk.start _)
def ZcY (a k:Nat):List Nat:=(List.range k).filter (fun j=>a.testBit j)
def Ze8 (a:Nat):List Nat:=ZcY a 16
theorem Zwa {a k:Nat} (h:a.testBit k=true):ZcY a (k+1)=ZcY a k++[k]:=by simp [ZcY,List.range_succ,List.filter_append,h]
theorem ZzT {a k:Nat} (h:a.testBit k=false):ZcY a (k+1)=ZcY a k:=by simp [ZcY,List.range_succ,List.filter_append,h]
theorem ZmX (a k:Nat):(ZcY a k).length<=k:=by
 have:=List.length_filter_le (fun j=>a.testBit j) (List.range k);simpa [ZcY] using this
def downIn (i:Nat) (l:List Nat) (ks:List Nat):List Nat:=ks.foldl (fun l k=>l.set k (l.getD k 0 ||| 2 ^ i)) l
def downs (u:List Nat):Nat->List Nat->List Nat
 | 0,l=>l
 | m+1,l=>downIn m (downs u m l) (Ze8 (u.getD m 0))
def down (s:Srt):List Nat:=downs (up s) s.names.length (List.replicate s.names.length 0)
theorem UpOk.or {n:Nat} {l:List Nat} (h:UpOk n l) {k i:Nat} (hk:k < n) (hi:i < n):UpOk n (l.set k (l.getD k 0 ||| 2 ^ i)):=by
 refine ⟨by rw [Taz];exact h.1,fun x hx=>?_⟩;rcases List.mem_or_eq_of_mem_set hx with hx | rfl
 ·exact h.2 x hx
 ·exact Nat.or_lt_two_pow (h.get hk).2 (Nat.pow_lt_pow_right om hi)
theorem UpOk.downIn {n i:Nat} (hi:i < n):∀ {ks l:List Nat},UpOk n l->(∀ k∈ks,k < n)->UpOk n (downIn i l ks)
 | [],l,h,_=>h
 | k::ks,l,h,hk=>UpOk.downIn (ks:=ks) hi (h.or (hk k (by simp)) hi) (fun q hq=>hk q (by simp [hq]))
theorem ZoV {a n:Nat} (h:a < 2 ^ n):∀ k∈Ze8 a,k < n:=by
 intro k hk;simp only [Ze8,ZcY,List.mem_filter,List.mem_range] at hk;refine Decidable.byContradiction fun hn=>?_;have:=Tbt (Tbd h (Tbs om (by omega:n<=k)));rw [this] at hk;simp at hk
theorem UpOk.downs {n:Nat} {u:List Nat} (hu:UpOk n u):∀ (m:Nat) {l:List Nat},m<=n->UpOk n l->UpOk n (downs u m l)
 | 0,l,_,h=>h
 | m+1,l,hm,h=>(UpOk.downs hu m om h).downIn om (ZoV (hu.get om).2)
theorem UpOk.zeros (n:Nat):UpOk n (List.replicate n 0):=⟨by simp,fun x hx=>by rw [(List.mem_replicate.1 hx).2];exact Nat.two_pow_pos n⟩
theorem ZEm {s:Srt} (h:ZdJ s.names.length s.subs):UpOk s.names.length (down s):=UpOk.downs (Zf6 h) _ (Tai _) (UpOk.zeros _)
def Zez (n k:Nat):List Nat:=List.range k++List.replicate (n - k) 0
theorem ZoW {n k:Nat} (h:k<=n):(Zez n k).length=n:=by simp [Zez];omega
theorem ZzU {n k:Nat} (h:k < n):(Zez n k).set k k=Zez n (k+1):=by
 unfold Zez;rw [List.set_append_right _ _ (by simp),List.length_range,Nat.sub_self,List.range_succ];obtain ⟨m,hm⟩:∃ m,n - k=m+1:=⟨n - k - 1,om⟩;rw [hm,show n - (k+1)=m by omega];simp [List.replicate_succ]
theorem ZzV (n:Nat):Zez n n=List.range n:=by simp [Zez]
def kd (s:Srt) (k:Int):Nat:=(kinds s).getD k.toNat 0
structure DeclOk (s:Srt) (f d:Dcl):Prop where
 len:d.args.length=f.args.length
 res:0<=d.res∧d.res < s.names.length
 args:∀ k∈d.args,0<=k∧k < s.names.length
 kres:kd s d.res=kd s f.res
 kargs:∀ (i:Nat) (a b:Int),d.args[i]?=some a->f.args[i]?=some b->kd s a=kd s b
structure DeclsOk (s:Srt) (o:Opr):Prop where
 len1:1<=o.decls.length
 len4:o.decls.length<=4
 ar:∀ f,o.decls[0]?=some f->f.args.length<=3
 all:∀ f,o.decls[0]?=some f->∀ d∈o.decls,DeclOk s f d
open Classical in
noncomputable def ZcM (s:Srt) (o:Opr):Bool:=decide (DeclsOk s o)
theorem ZfC {s:Srt} {o:Opr} (h:DeclsOk s o):ZcM s o=true:=by simp [ZcM,h]
theorem Zjs {s:Srt} {o:Opr} (h:¬ DeclsOk s o):ZcM s o=false:=by simp [ZcM,h]
theorem Zlj {s:Srt} {o:Opr}:ZcM s o=true ↔ DeclsOk s o:=by simp [ZcM]
structure AxOk (g:Sgn) (o:Opr):Prop where
 lo:0<=o.unit
 hi:o.unit<=g.ops.length
 two:(o.assoc=true∨o.comm=true∨o.unit≠0)->∀ d,o.decls[0]?=some d->d.args.length=2∧∀ a b,d.args[0]?=some a->d.args[1]?=some b->kd g.sorts a=kd g.sorts b∧((o.assoc=true∨o.unit≠0)->kd g.sorts a=kd g.sorts d.res) ∧
  (o.unit≠0->∀ (p:Opr) (u:Dcl),g.ops[o.unit.toNat - 1]?=some p->p.decls[0]?=some u->u.args.length=0∧kd g.sorts u.res=kd g.sorts d.res)
open Classical in
noncomputable def axOk (g:Sgn) (o:Opr):Bool:=decide (AxOk g o)
theorem Zd5 {g:Sgn} {o:Opr} (h:AxOk g o):axOk g o=true:=by simp [axOk,h]
theorem ZmY {g:Sgn} {o:Opr} (h:¬ AxOk g o):axOk g o=false:=by simp [axOk,h]
theorem Zrh {g:Sgn} {o:Opr}:axOk g o=true ↔ AxOk g o:=by simp [axOk]
theorem DeclsOk.first {s:Srt} {o:Opr} (h:DeclsOk s o):∃ d,o.decls[0]?=some d∧DeclOk s d d:=by
 have h1:=h.len1;exact ⟨o.decls[0],Taa om,h.all _ (Taa om) _ (List.getElem_mem _)⟩
theorem Zri {l:List Int} (h:l.length=2):∃ a b,l=[a,b]:=len2 h
def ZbS (l:List Opr):List ByteArray:=l.map (·.name)
structure SgnOk (g:Sgn):Prop where
 sorts:SortsOk g.sorts
 len:g.ops.length<=14
 names:∀ (i:Nat) (o:Opr),g.ops[i]?=some o->Zbw o.name=true∧Zbv (ZbS (g.ops.take i)) o.name=false
 decls:∀ o∈g.ops,DeclsOk g.sorts o
 axs:∀ o∈g.ops,AxOk g o
open Classical in
noncomputable def Zbl (g:Sgn):Bool:=decide (SgnOk g)
theorem ZcH {g:Sgn} (h:SgnOk g):Zbl g=true:=by simp [Zbl,h]
theorem Zeq {g:Sgn} (h:¬ SgnOk g):Zbl g=false:=by simp [Zbl,h]
theorem ZdK {g:Sgn}:Zbl g=true ↔ SgnOk g:=by simp [Zbl]
theorem Zj4 {l:List Opr} {k:Nat} {o:Opr} (h:l[k]?=some o):ZbS (l.take (k+1))=ZbS (l.take k)++[o.name]:=by
 rw [ZcV h];simp [ZbS]
theorem Zhg {s:ByteArray} {k:Nat} {b:UInt8} (h:s[k]?=some b):Zbj s k=((Zdh (b.toNat:Int) && !(k==0 && decide ((b.toNat:Int)<=57))) && Zbj s (k+1)):=by
 obtain ⟨hk,rfl⟩:=getElem?_eq_some_iff.1 h;exact ZpN hk
theorem Zrj (n:Int):Con e0 147 [.one (.lit (.int .u8 n))] [.one (.lit (.bool (Zdh n)))]:=by
 by_cases h1:48<=n <;> by_cases h2:n<=57 <;> by_cases h3:65<=n <;> by_cases h4:n<=90 <;> by_cases h5:97<=n <;> by_cases h6:n<=122 <;> first
  | (exfalso;omega)
  | (have hr : Zdh   n = true := by simp [Zdh  , h1, h2, h3, h4, h5, h6]
     refine gI 5 Tryz.func147 ?_
     (exact fT (aj7 @h1 @h2 @h3 @h4 @h5 @h6 @hr)))
  | (have hr : Zdh   n = false := by simp [Zdh  , h1, h2, h3, h4, h5, h6]
     refine gI 5 Tryz.func147 ?_
     (exact fT (aj7 @h1 @h2 @h3 @h4 @h5 @h6 @hr)))
theorem strL (l:List UInt8):(⟨l.toArray⟩:ByteArray).toList=l:=by
 rw [ByteArray.toList_eq]
section
variable {s:ByteArray}
theorem ZoX (h1:1<=s.size) (h2:s.size<=12) (h3:¬ s.toList=[105,102]) (h4:¬ s.toList=[97,110,100]):Zbw s=Zbj s 0:=by
 simp [Zbw,h1,h2,h3,h4]
theorem Zhh (hs:s.size<=maxLen):Con e0 70 [.one (.lit (.string s))] [.one (.lit (.bool (Zbw s)))]:=by
 have l1:(⟨#[105,102]⟩:ByteArray).toList=[105,102]:=strL [105,102];have l2:(⟨#[97,110,100]⟩:ByteArray).toList=[97,110,100]:=strL [97,110,100];refine gI 1099520540685 Tryz.func70 ?_;by_cases h1:1<=s.size;rotate_left
 ·have hf:=ZcS (s:=s) (.inl om);have z1:=lT s.size 1;exact fT (ai @z1 @hf)
 have z1:=lF s.size 1;by_cases h2:s.size<=12;rotate_left
 ·have hf:=ZcS (s:=s) (.inr (.inl om));have z2:=lT 12 s.size;exact fT (aj3 @z1 @z2 @hf)
 have z2:=lF 12 s.size;by_cases h3:s.toList=[105,102]
 ·have hf:=ZcS (s:=s) (.inr (.inr (.inl h3)));exact fT (aj6 @z1 @z2 @l1 @h3 @beq_self_eq_true.{0} @hf)
 have z3:(s.toList==[105,102])=false:=by simpa using h3
 by_cases h4:s.toList=[97,110,100]
 ·have hf:=ZcS (s:=s) (.inr (.inr (.inr h4)));have z3:(([97,110,100]:List UInt8)==[105,102])=false:=by decide
  exact fT (aj8 @z1 @z2 @l1 @l2 @h4 @z3 @beq_self_eq_true.{0} @hf)
 have z4:(s.toList==[97,110,100])=false:=by simpa using h4
 rw [ZoX h1 h2 h3 h4];refine fG (aj6 @z1 @z2 @l1 @l2 @z3 @z4) ?_;have F:=@e0P;refine gL (ι:=Nat) [2,3,23,40] [] (fun k=>[(3,A.d (.one (.lit (.int .i64 k))))]) (fun k=>[]) (fun k=>k<=s.size∧Zbj s 0=Zbj s k) (fun k=>s.size - k) (0) (⟨Taj _,rfl⟩) (fun k hk=>?_);clear F;obtain ⟨hk,he⟩:=hk;rw [he];by_cases hlt:k < s.size;rotate_left
 ·have q1:¬ ((k:Int) < (s.size:Int)):=om;have ht:=Zj2 (s:=s) (k:=k) om;exact fT (ai @q1 @ht)
 have q1:(k:Int) < (s.size:Int):=om;obtain ⟨b,hb⟩:∃ b,s[k]?=some b:=⟨s[k],getElem?_pos s k hlt⟩;have hw1:=Zan (k:=k) om;have hst:=Zhg hb;refine fB @q1 ?_;refine fC @hb (Zrj (b.toNat:Int)) ?_
 cases hn:Zdh (b.toNat:Int) with
 | false =>
  have hf:Zbj s k=false:=by rw [hst,hn];rfl
  refine fR @e0P ?_;exact fT @hf
 | true =>
 by_cases hk0:k=0
 ·have z5:((k:Int)=0)=True:=eq_true om;by_cases h9:(b.toNat:Int)<=57
  ·have z6:((b.toNat:Int)<=57)=True:=eq_true h9;have hf:Zbj s k=false:=by rw [hst,hn,hk0];simp [h9]
   refine fR (aj3 @z5 @hb @z6) ?_;exact fT @hf
  ·have z6:((b.toNat:Int)<=57)=False:=eq_false h9;have hq:Zbj s k=Zbj s (k+1):=by rw [hst,hn];simp [h9]
   refine fR (aj3 @z5 @hb @z6) ?_;have F:=@hw1;refine gG ?_;exact ⟨k+1,⟨hlt,hq⟩,gw,gw,om⟩
 ·have z5:((k:Int)=0)=False:=eq_false om;have hq:Zbj s k=Zbj s (k+1):=by rw [hst,hn];simp [hk0]
  refine fR @z5 ?_;have F:=@hw1;refine gG ?_;exact ⟨k+1,⟨hlt,hq⟩,gw,gw,om⟩
theorem Zhi (hs:s.size<=maxLen):Con e0 65 [.one (.lit (.string s))] [.one (.lit (.bool (Zbw s)))]:=by
 have l1:(⟨#[105,102]⟩:ByteArray).toList=[105,102]:=strL [105,102];have l2:(⟨#[97,110,100]⟩:ByteArray).toList=[97,110,100]:=strL [97,110,100];refine gI 2417851639247950047084557 Tryz.func65 ?_;by_cases h3:s.toList=[105,102]
 ·have hf:=ZcS (s:=s) (.inr (.inr (.inl h3)));exact fT (aj4 @l1 @h3 @beq_self_eq_true.{0} @hf)
 have z3:(s.toList==[105,102])=false:=by simpa using h3
 by_cases h4:s.toList=[97,110,100]
 ·have hf:=ZcS (s:=s) (.inr (.inr (.inr h4)));have z3:(([97,110,100]:List UInt8)==[105,102])=false:=by decide
  exact fT (aj6 @l1 @l2 @h4 @z3 @beq_self_eq_true.{0} @hf)
 have z4:(s.toList==[97,110,100])=false:=by simpa using h4
 by_cases h1:1<=s.size;rotate_left
 ·have hf:=ZcS (s:=s) (.inl om);have z1:=lT s.size 1;exact fT (aj6 @l1 @l2 @z3 @z4 @z1 @hf)
 have z1:=lF s.size 1;by_cases h2:s.size<=12;rotate_left
 ·have hf:=ZcS (s:=s) (.inr (.inl om));have z2:=lT 12 s.size;exact fT (aj7 @l1 @l2 @z3 @z4 @z1 @z2 @hf)
 have z2:=lF 12 s.size;obtain ⟨b,hb⟩:∃ b,s[0]?=some b:=⟨s[0],getElem?_pos s 0 h1⟩;have hst:=Zhg hb;rw [ZoX h1 h2 h3 h4];have hb0:0<=(b.toNat:Int):=om;have hlet:∀ c:Bool,((decide (97<=(b.toNat:Int)∧(b.toNat:Int)<=122)) || decide (65<=(b.toNat:Int)∧(b.toNat:Int)<=90))=c->(Zdh (b.toNat:Int) && !((0:Nat)==0 && decide ((b.toNat:Int)<=57)))=c:=fun c hc=>by
  rw [<- hc,Bool.eq_iff_iff];simp [Zdh];omega
 have key:(decide (97<=(b.toNat:Int)∧(b.toNat:Int)<=122) || decide (65<=(b.toNat:Int)∧(b.toNat:Int)<=90))=true∨(decide (97<=(b.toNat:Int)∧(b.toNat:Int)<=122) || decide (65<=(b.toNat:Int)∧(b.toNat:Int)<=90))=false:=by cases (decide (97<=(b.toNat:Int)∧(b.toNat:Int)<=122) || decide (65<=(b.toNat:Int)∧(b.toNat:Int)<=90)) <;> simp
 rcases key with hk | hk
 rotate_left
 ·have hf:Zbj s 0=false:=by rw [hst,hlet _ hk];rfl
  rw [hf];clear hst hlet hf
  by_cases c1:97<=(b.toNat:Int) <;> by_cases c2:(b.toNat:Int)<=122 <;> by_cases c3:65<=(b.toNat:Int) <;> by_cases c4:(b.toNat:Int)<=90 <;> first
   | (exfalso;omega)
   | (exfalso;simp [c1,c2,c3,c4] at hk;done)
   | (exact fT (aj11 @l1 @l2 @z3 @z4 @z1 @z2 @hb @c1 @c2 @c3 @c4))
 have hl0:65<=(b.toNat:Int):=by simp at hk;omega
 have h01:Zbj s 0=Zbj s 1:=by rw [hst,hlet _ hk];rfl
 refine fN 1 @e0P ?_;refine gM (ι:=Unit) [40] [] (fun u=>[(40,A.d (.one (.lit (.bool false))))]) (fun u=>[]) (fun u=>True) ?_ (fun u hu=>Exists.intro _ (ai (Wk.refl _) ?_))
 ·by_cases c1:97<=(b.toNat:Int) <;> by_cases c2:(b.toNat:Int)<=122 <;> by_cases c3:65<=(b.toNat:Int) <;> by_cases c4:(b.toNat:Int)<=90 <;> first
   | (exfalso;omega)
   | (exfalso;simp [c1,c2,c3,c4] at hk;done)
   | (have F:=aj11 @l1 @l2 @z3 @z4 @z1 @z2 @hb @c1 @c2 @c3 @c4;refine gG ?_;exact ⟨(),trivial,gw,gw⟩)
 clear hu hlet hk hst;refine fG @e0P ?_;have F:=@e0P;refine gL (ι:=Nat) [2,3,44,81] [] (fun k=>[(3,A.d (.one (.lit (.int .i64 k))))]) (fun k=>[]) (fun k=>k<=s.size∧Zbj s 0=Zbj s k) (fun k=>s.size - k) (0) (⟨Taj _,rfl⟩) (fun k hk=>?_);clear F;obtain ⟨hkl,he⟩:=hk;by_cases hlt:k < s.size;rotate_left
 ·have q1:¬ ((k:Int) < (s.size:Int)):=om;have ht:Zbj s 0=true:=by rw [he];exact Zj2 om
  exact fT (ai @q1 @ht)
 have q1:(k:Int) < (s.size:Int):=om;obtain ⟨d,hd⟩:∃ d,s[k]?=some d:=⟨s[k],getElem?_pos s k hlt⟩;have hw1:=Zan (k:=k) om;have hst:=Zhg hd;refine fN 6 @q1 ?_;refine gM (ι:=Unit) [81] [] (fun u=>[(81,A.d (.one (.lit (.bool !(Zdh (d.toNat:Int))))))]) (fun u=>[]) (fun u=>True) ?_ (fun u hu=>Exists.intro _ (ai (Wk.refl _) ?_))
 ·by_cases c1:97<=(d.toNat:Int) <;> by_cases c2:(d.toNat:Int)<=122 <;> by_cases c3:65<=(d.toNat:Int) <;> by_cases c4:(d.toNat:Int)<=90 <;> by_cases c5:48<=(d.toNat:Int) <;> by_cases c6:(d.toNat:Int)<=57 <;> first
   | (exfalso;omega)
   | (have hr : Zdh   (d.toNat : Int) = true := by simp [Zdh  , c1, c2, c3, c4, c5, c6]
      rw [hr]
      (have F:=aj7 @hd @c1 @c2 @c3 @c4 @c5 @c6;refine gG ?_;exact ⟨(),trivial,gw,gw⟩))
   | (have hr : Zdh   (d.toNat : Int) = false := by simp [Zdh  , c1, c2, c3, c4, c5, c6]
      rw [hr]
      (have F:=aj7 @hd @c1 @c2 @c3 @c4 @c5 @c6;refine gG ?_;exact ⟨(),trivial,gw,gw⟩))
 cases hn:Zdh (d.toNat:Int) with
 | false =>
  have hf:Zbj s 0=false:=by rw [he,hst,hn];rfl
  exact fT @hf
 | true =>
 have hq:Zbj s 0=Zbj s (k+1):=by
  by_cases hk0:k=0
  ·subst hk0;exact h01
  ·rw [he,hst,hn];simp [hk0]
 have F:=@hw1;refine gG ?_;exact ⟨k+1,⟨hlt,hq⟩,gw,gw,om⟩
end
section
variable {e:Env} {U:Nat->Prop} {w0:World} {S0:Nat->Prop} {nt:Nat} {ops:Array Oper} {n:Nat} {m:List (Nat × Bk)} {s:List (Nat × A)} {αs:List A} {L:Lay}
theorem Zf8 {J:Array Bool->Act->World->(Nat->Prop)->Prop} (he:e.Ok) (hH:ZcR ops n=true) (hn:n<=ops.size) (hs:∀ i,n<=i->i < ops.size->∀ j,j < n->Region.waitsFor .any ops i j=true)
  (hsz:∀ (i:Nat) (o:Oper) (d:Nat),i < n->ops[i]?=some o->o.dst=some d->d < nt) (hal:αs.length=n) (hch:ZdA e U w0.heap.size S0 m ops.toList (ops.toList.take n) s αs) {Q:Exit->Act->World->Prop} (hgo:ZjS e U w0 S0 nt m ops n s αs L J Q)
  (hsk:∀ (listed:Array Bool) (a:Act) (w:World) (S:Nat->Prop) (i:Nat) (o:Oper) (d:Nat),J listed a w S->InvA e U w0 S0 nt m ops n s αs L listed a w S->HeadAt ops n i o d->i < n->i∈Region.ready .any ops listed->d < nt->o.guard≠none->J (listed.setIfInBounds i true) (a.put o.dst undef) w S)
  (hend:∀ listed a w S,InvA e U w0 S0 nt m ops n s αs L listed a w S->J listed a w S->(∀ i,i < n->listed.getD i false=true)->wpAny e.P .any ops Q (ops.size - n) (Zb3 ops.size n) a w) :
  ∀ (k:Nat) (listed:Array Bool) (a:Act) (w:World) (S:Nat->Prop),InvA e U w0 S0 nt m ops n s αs L listed a w S->J listed a w S->(List.range n).countP (fun i=>!listed.getD i true)=k->wpAny e.P .any ops Q (k+(ops.size - n)) listed a w
 | 0,listed,a,w,S,hI,hJ,hc=>by
  have hall:∀ i,i < n->listed.getD i true=true:=fun i hi=>by
   have:=List.countP_eq_zero.1 hc i (List.mem_range.2 hi);simpa using this
  have heq:=ZoH hI.head hn hall;have hE:=hend listed a w S hI hJ (fun i hi=>by
   have hl:i < listed.size:=by rw [hI.head.size];omega
   rw [<- ZbP hl];exact hall i hi)
  rw [Nat.zero_add,heq];exact hE
 | k+1,listed,a,w,S,hI,hJ,hc=>by
  obtain ⟨i0,hi0,hu0⟩:∃ i,i < n∧listed.getD i true=false:=by
   have:0 < (List.range n).countP (fun i=>!listed.getD i true):=om;obtain ⟨i,hi,hp⟩:=List.countP_pos_iff.1 this;exact ⟨i,List.mem_range.1 hi,by simpa using hp⟩
  rw [show k+1+(ops.size - n)=(k+(ops.size - n))+1 by omega];refine ⟨fun h0=>absurd h0 (ZjR hH hI.head hi0 hu0),fun i hr=>?_⟩;obtain ⟨hun,oi,hoi,hall⟩:=mem_ready.1 hr;have hin:i < n:=by
   rcases Nat.lt_or_ge i n with h | h
   ·exact h
   ·have hns:n < ops.size:=Nat.lt_of_le_of_lt h (Tbl.1 hoi).1;obtain ⟨oj,hoj,e1,he1,hb1,hon1⟩:=Region.waitsFor_spec (hs i h (Tbl.1 hoi).1 i0 hi0);rw [hoi] at hoj;injection hoj with hoj
    subst hoj;have h2:=hall e1 he1 hb1;rw [hon1] at h2;have h3:i0 < listed.size:=by rw [hI.head.size];omega
    rw [ZbP h3] at hu0;rw [h2] at hu0
    cases hu0
  obtain ⟨o,d,hA⟩:=ZcR.get hH hin;have hoo:oi=o:=by have:=hA.op;rw [hoi] at this;injection this
  subst hoo;have hls:i < listed.size:=by rw [hI.head.size];exact (Tbl.1 hoi).1
  obtain ⟨α,hα,hst⟩:=hch.get i oi (by rw [List.getElem?_take,if_pos hin];simpa using hoi);have htk:(ops.toList.take n).take i=ops.toList.take i:=by rw [List.take_take,Nat.min_eq_left om]
  rw [htk] at hst;have hdn:=hsz i oi d hin hoi hA.dst;have hcount:(List.range n).countP (fun j=>!(listed.setIfInBounds i true).getD j true)=k:=by
   have h1:(List.range n).countP (fun j=>!(listed.setIfInBounds i true).getD j true)+1=(List.range n).countP (fun j=>!listed.getD j true):=by
    have hperm:=List.perm_cons_erase (List.mem_range.2 hin);rw [hperm.countP_eq,hperm.countP_eq,List.countP_cons,List.countP_cons];have hcong:((List.range n).erase i).countP (fun j=>!(listed.setIfInBounds i true).getD j true)=((List.range n).erase i).countP (fun j=>!listed.getD j true):=by
     refine List.countP_congr fun j hj=>?_;have hne:j≠i:=fun e=>by
      subst e;exact List.Nodup.not_mem_erase (List.nodup_range) hj
     rw [getD_set_ne true (Ne.symm hne)]
    rw [hcong,hun];simp [hls]
   omega
  have hop:∀ x∈oi.op.operands,ARel w S L (evA (after s (ops.toList.take i) (αs.take i)) x) (a.eval x):=fun x hx=>by
   cases x with
   | tmp t =>
    exact hI.operand hH hn hal hA hin hall (fun j p hj hp hpt=>(hA.dep j p hj hp).2 t (List.mem_filterMap.2 ⟨.tmp t,by simpa using hx,rfl⟩) hpt)
   | const v =>
    simp only [evA,Act.eval];unfold ZeC;split
    ·simp only [ARel,DRel,Rep];exact ⟨⟨none,0,0,rfl,rfl,Tai _,by decide,fun h=>absurd h (by decide)⟩,none,0,rfl⟩
    ·rename_i vs;exact ⟨vs.toList,rfl,ZcX _⟩
    ·simp [ARel,DRel,Rep]
   | func f =>
    simp only [evA,Act.eval,ARel,DRel,Rep];exact ⟨[],rfl,by simp [Zad]⟩
   | global g=>trivial
  have go:Zbq e U w0.heap.size S0 m oi (evA (after s (ops.toList.take i) (αs.take i))) α->oi.wp e.P a w (wpAny e.P .any ops Q (k+(ops.size - n)) (listed.setIfInBounds i true)) Q:=fun hG =>
   Oper.wp_mono (fun a' w' ⟨S',hI',hJ'⟩=>Zf8 he hH hn hs hsz hal hch hgo hsk hend k _ _ _ S' hI' hJ' hcount) (hgo listed a w S i oi d α hI hJ hA hin hr hdn hα hop hG)
  unfold wpOp;simp only [hoi];unfold ZgK at hst
  cases hg:oi.guard with
  | none =>
   rw [hg] at hst;have hwt:Region.wanted oi (yielded ops a.tmps)=true:=by simp [Region.wanted,hg]
   rw [if_pos hwt];exact .inl (go hst)
  | some jw =>
   obtain ⟨j,want⟩:=jw;rw [hg] at hst;obtain ⟨hjn,hjw⟩:=hA.guard j want hg;have hrelD:∀ dj,((ops[j]?).bind (·.dst))=some dj->ARel w S L (gs (after s (ops.toList.take i) (αs.take i)) dj) (a.tmps.getD dj undef):=fun dj hdj=>hI.operand hH hn hal hA hin hall (t:=dj) (fun j' p hj' hp hpt=>by
    obtain ⟨p0,d0,hP0⟩:=ZcR.get hH hjn;have hd0:d0=dj:=by have:=hdj;rw [hP0.op] at this;simp [hP0.dst] at this;exact this
    by_cases hjj:j'=j
    ·rw [hjj];exact hjw
    ·exact absurd (by rw [hpt,hd0]) ((hP0.dep j' p hj' hp).1 hjj))
   rcases hst with ⟨b,hb1,hb2⟩ | ⟨hb1,hb2⟩
   rotate_left
   ·simp only [Tav] at hb1;obtain ⟨dj,hd1,hd2⟩:=hb1;have hdj:((ops[j]?).bind (·.dst))=some dj:=by simpa using Zfr hd1
    have hrel:=hrelD dj hdj;rw [hd2] at hrel;rw [ZjQ hg hdj hrel];subst hb2;simp only [Tam,if_false];exact Zf8 he hH hn hs hsz hal hch hgo hsk hend k _ _ _ S (hI.put hH hA hin hr hdn hα (fun _ h=>h) hI.cls (Kept.refl _ _ _ _) rfl) (hsk listed a w S i oi d hJ hI hA hin hr hdn (by rw [hg];simp)) hcount
   simp only [Tav] at hb1;obtain ⟨dj,hd1,hd2⟩:=hb1;have hdj:((ops[j]?).bind (·.dst))=some dj:=by simpa using Zfr hd1
   have hrel:=hrelD dj hdj;rw [hd2] at hrel;have h4:=ZjP hrel.bool;have hwt:Region.wanted oi (yielded ops a.tmps)=decide (b=want):=by
    have h6:yielded ops a.tmps j=some b:=by unfold yielded;rw [hdj];simp only [Option.bind_some,h4]
    simp only [Region.wanted,hg,h6]
    cases b <;> cases want <;> rfl
   rw [hwt];by_cases hbw:b=want
   ·rw [if_pos hbw] at hb2;simp only [hbw,decide_true,if_true];exact .inl (go hb2)
   ·rw [if_neg hbw] at hb2;subst hb2;simp only [hbw,decide_false,Tam,if_false];exact Zf8 he hH hn hs hsz hal hch hgo hsk hend k _ _ _ S (hI.put hH hA hin hr hdn hα (fun _ h=>h) hI.cls (Kept.refl _ _ _ _) rfl) (hsk listed a w S i oi d hJ hI hA hin hr hdn (by rw [hg];simp)) hcount
theorem Zrk {σ:St} (hH:ZcR ops n=true) (hn:n<=ops.size) (hal:αs.length=n) {listed:Array Bool} {a':Act} {w':World} {S':Nat->Prop} (hI:InvA e U w0 S0 nt σ.m ops n σ.s αs L listed a' w' S') (hall:∀ i,i < n->listed.getD i false=true):Sim e U w0 S0 nt ⟨after σ.s (ops.toList.take n) αs,σ.m⟩ a' w' S' L:=by
 refine ⟨hI.cls,fun t=>?_,hI.size,hI.defers,hI.kept⟩;by_cases hex:∃ (j:Nat) (p:Oper),j < n∧ops[j]?=some p∧p.dst=some t
 ·obtain ⟨j,p,hj,hp,hpt⟩:=hex;obtain ⟨p',d',hP⟩:=ZcR.get hH hj;have hpp:p'=p:=by have:=hP.op;rw [hp] at this;injection this with this;exact this.symm
  subst hpp;have hdt:d'=t:=by have:=hP.dst;rw [hpt] at this;injection this with this;exact this.symm
  subst hdt;obtain ⟨α,hα⟩:∃ α,αs[j]?=some α:=⟨αs[j],Taa om⟩;show ARel w' S' L (gs (after σ.s (ops.toList.take n) αs) d') _;rw [Zeo (ops.toList.take n) αs σ.s j p' α (by rw [List.getElem?_take,if_pos hj];simpa using hp) hα hpt (fun k q hk hq=>by
   rw [List.getElem?_take] at hq;split at hq
   ·exact (hP.dep k q om (by simpa using hq)).1 hk
   ·cases hq)]
  exact hI.done j p' d' α hj (hall j hj) hp hpt hα
 ·have hno:∀ (j:Nat) (p:Oper),j < n->ops[j]?=some p->p.dst≠some t:=fun j p hj hp hd=>hex ⟨j,p,hj,hp,hd⟩;show ARel w' S' L (gs (after σ.s (ops.toList.take n) αs) t) _;rw [Zdx _ _ _ (fun p hp=>by
   obtain ⟨j,hj⟩:=List.mem_iff_getElem?.1 hp;rw [List.getElem?_take] at hj;split at hj
   ·exact hno j p om (by simpa using hj)
   ·cases hj)]
  exact hI.out t hno
end
def ZcT (e:Env) (ds:List (Option Nat)) (ops:Array Oper) (K:St->Prop):Nat->Array Bool->St->Prop
 | 0,listed,σ=>Region.ready .any ops listed=[]∧K σ
 | f+1,listed,σ=>(Region.ready .any ops listed=[]->K σ)∧∀ i∈Region.ready .any ops listed,∃ o,ops[i]?=some o∧o.guard=none∧ZbG e o σ (fun σ'=>Runs e ds 0 [] σ' (ZcT e ds ops K f (listed.setIfInBounds i true)))
section
variable {e:Env} {U:Nat->Prop} {w0:World} {S0:Nat->Prop} {nt:Nat}
theorem ZlT (he:e.Ok) {ops:Array Oper} {K:St->Prop} {Q:Exit->Act->World->Prop} (hQ:∀ a w σ',K σ'->SimE e U w0 S0 nt σ' a w->Q .normal a w) (hd:∀ o∈ops.toList,∀ d,o.dst=some d->d < nt) :
  ∀ (f:Nat) (listed:Array Bool) (σ:St) (a:Act) (w:World),SimE e U w0 S0 nt σ a w->ZcT e (ops.toList.map (·.dst)) ops K f listed σ->wpAny e.P .any ops Q f listed a w
 | 0,listed,σ,a,w,hs,h=>⟨h.1,hQ a w σ h.2 hs⟩
 | f+1,listed,σ,a,w,hs,h=>by
  refine ⟨fun h0=>hQ a w σ (h.1 h0) hs,fun i hi=>?_⟩;obtain ⟨o,ho,hg,hst⟩:=h.2 i hi;unfold wpOp;simp only [ho];have hw:Region.wanted o (yielded ops a.tmps)=true:=by simp [Region.wanted,hg]
  rw [if_pos hw];have hmem:o∈ops.toList:=Tac (by simpa using ho);refine .inl (Oper.wp_mono (fun a' w' ⟨σ',hr,hs'⟩=>?_) (hst he U w0 S0 nt a w Q (hd o hmem) hs));exact hr he U w0 S0 nt a' w' ops.toList (fun _ a w=>wpAny e.P .any ops Q f (listed.setIfInBounds i true) a w) rfl (fun o ho=>by simp at ho) (fun a w σ'' hK hs''=>ZlT he hQ hd f _ σ'' a w hs'' hK) hs'
def ZFU (ops:Array Oper) (n:Nat):Bool:=(List.range ops.size).all fun i=>decide (i < n) || (List.range n).all fun j=>Region.waitsFor .any ops i j
def regT (ops:Array Oper) (n:Nat):Bool:=ZcR ops n && decide (n<=ops.size) && ZFU ops n
theorem ZlU (he:e.Ok) {id:Nat} {ops:Array Oper} {n:Nat} (hB:regT ops n=true) {K:St->Prop} {Q:Exit->Act->World->Prop} (hQ:∀ a w σ',K σ'->SimE e U w0 S0 nt σ' a w->Q .normal a w) {σ:St} {a:Act} {w:World}
  (hd:∀ o∈ops.toList,∀ d,o.dst=some d->d < nt) (h:SimE e U w0 S0 nt σ a w) (hp:Runs e (ops.toList.map (·.dst)) (n+1) (ops.toList.take n) σ (ZcT e (ops.toList.map (·.dst)) ops K (ops.size - n) (Zb3 ops.size n))):(Code.region id ops true).wp e.P Q a w:=by
 simp only [regT,Tar,decide_eq_true_eq] at hB;obtain ⟨⟨hH,hn⟩,hs0⟩:=hB;have hs:∀ i,n<=i->i < ops.size->∀ j,j < n->Region.waitsFor .any ops i j=true:=fun i h1 h2 j h3=>by
  have k1:=List.all_eq_true.1 hs0 i (List.mem_range.2 h2);simp only [Bool.or_eq_true,decide_eq_true_eq] at k1;rcases k1 with k1 | k1
  ·omega
  ·exact List.all_eq_true.1 k1 j (List.mem_range.2 h3)
 obtain ⟨S,L,h1⟩:=h.drew he;refine wp_region_any he.mixed ?_;have hlen:(ops.toList.take n).length=n:=by simp;omega
 have hp':Runs e (ops.toList.map (·.dst)) ((ops.toList.take n).length+1) (ops.toList.take n++[]) σ (ZcT e (ops.toList.map (·.dst)) ops K (ops.size - n) (Zb3 ops.size n)):=by rw [List.append_nil,hlen];exact hp
 obtain ⟨αs,hal,hch,hrest⟩:=ZeQ (U:=U) he w0.heap.size S0 ops.toList [] 1 (ops.toList.take n) σ (fun h=>absurd h (by decide)) hp';rw [hlen] at hal;simp only [Runs] at hrest
 have inv0:InvA e U w0 S0 nt σ.m ops n σ.s αs L (Array.replicate ops.size false) a { w with drawn:=w.drawn+1 } S :=
  ⟨⟨by simp,fun j oj _ hl=>(by rw [getD_replicate_false] at hl;cases hl),fun t _ ht=>getD_in (by simpa using ht) (getD_replicate_false _ _)⟩,h1.size,h1.defers,h1.cls,h1.kept,fun t _=>h1.rel t,fun i o d α _ hl=>(by rw [getD_replicate_false] at hl;cases hl)⟩
 have H:=Zf8 (e:=e) (L:=L) (Q:=Q) he hH hn hs (fun i o d hi ho hdd=>hd o (List.mem_iff_getElem?.2 ⟨i,by simpa using ho⟩) d hdd) hal hch (Zh2 hH Q) (fun _ _ _ _ _ _ _ _ _ _ _ _ _ _=>trivial) (fun listed a' w' S' hI _ hall=>?_) n _ a _ S inv0 trivial ?_
 ·rw [show n+(ops.size - n)=ops.size by omega] at H;exact H
 ·exact ZlT he hQ hd _ _ _ a' w' ⟨S',L,Zrk hH hn hal hI hall⟩ hrest
 ·rw [List.countP_eq_length.2]
  ·simp
  ·intro i hi;have hi':=List.mem_range.1 hi;have hsz:i < (Array.replicate ops.size false).size:=by simp;omega
   rw [ZbP hsz,getD_replicate_false];rfl
end
section
variable {e:Env} {U:Nat->Prop} {w0:World} {S0:Nat->Prop} {nt:Nat}
structure AppAt (P:Program) (σ:St) (o:Oper) (d ety sz:Nat) (rows:List (List C)):Prop where
 at':∃ (x y:Operand) (args:Array Operand) (ts:Array TypeId) (t by':Nat) (r1 ys:List (List C)),o.op=.call ⟨.builtin .append,args,ts⟩∧args.toList=[x,y]∧evA σ.s x=.d (.clip r1)∧slA [] (evA σ.s y)=some ys∧ts[0]?=some t∧ts[1]?=some t∧Za2 P t=some (ety,sz,by') ∧
  Zav sz r1=true∧Zav sz ys=true∧r1.length+ys.length<=maxApp∧(r1=[]∨ys≠[])∧rows=r1++ys
 dst:o.dst=some d
 guard:o.guard=none
theorem ZBP {m:List (Nat × Bk)} {y:A} {ys:List (List C)} (h:slA [] y=some ys):slA m y=some ys:=by
 unfold slA at h ⊢;split at h <;> simp_all [gm,bufA]
theorem AppAt.run (he:e.Ok) {σ:St} {o:Oper} {d ety sz:Nat} {rows:List (List C)} (hA:AppAt e.P σ o d ety sz rows) {m:List (Nat × Bk)} {w:World} {S:Nat->Prop} {L:Lay} {ρv:Operand->Value} (hC:Cls e U w0.heap.size S0 m w S L) (hr:∀ x,x∈o.op.operands->ARel w S L (evA σ.s x) (ρv x)) :
  ∃ v' w',(execOp ρv o).run e.P w=.ok (.value v') w'∧ZaV w' S ety sz rows v'∧Kept e.D (fun _=>False) w.heap.size w w'∧∀ g,vblk v'=some g->w.heap.size<=g:=by
 obtain ⟨x,y,args,ts,t,by',r1,ys,ho,hargs,hx,hy,h0,h1,hb,hr1,hys,hle,hne,rfl⟩:=hA.at';have hx':=hr x (by rw [ho];simp [Op.operands,Call.operands,hargs,<- Array.mem_toList_iff]);have hy':=hr y (by rw [ho];simp [Op.operands,Call.operands,hargs,<- Array.mem_toList_iff]);rw [hx] at hx';have hx':DRel w S (.clip r1) (ρv x):=hx';have hyl:=ZaO.1 hys;have hyf:=ZoK (σ:=⟨[],m⟩) hC (ZBP hy) hy' hyl;obtain ⟨v',w',hrun,hbuf,τ,hk,hτ,hg⟩:=ZgI (σ:=⟨[],m⟩) (ty:=o.type) he hC h0 h1 hb (.inr ⟨hx',hne⟩) (ZaO.1 hr1) hyl hle hyf
 have hτn:∀ g,τ≠some g:=fun g e1=>by
  obtain ⟨h2,h3⟩:=hτ g e1;obtain ⟨h4,a,n,h5⟩:=hx';rw [h5] at h2 h3 h4;simp only [Rep] at h4;obtain ⟨A,n',cap,h6,h7,_,_,h8⟩:=h4;injection h6 with h6 h9 h10
  subst h6 h9
  cases a with
  | none=>simp [vblk] at h2
  | some q =>
   simp only [vblk] at h2;split at h2
   ·cases h2
   ·rename_i hn0;injection h2 with h2
    obtain ⟨b,off,h11,hS,_⟩:=h8 om;injection h11 with h11
    obtain ⟨_,_,h12⟩:=h3;rcases h12 with ⟨h12,_⟩ | ⟨g',cap',cur,h13,_,_,h14,_⟩
    ·rw [h12] at h7;simp at h7;omega
    ·injection h13 with h13 _ _
     injection h13 with h13
     rw [h13] at h11;injection h11 with h11
     exact h14 (h11 ▸ hS)
 refine ⟨v',w',?_,hbuf,⟨hk.os,hk.tape,hk.output,hk.drawn,hk.size,fun k hk' hn=>hk.block k hk' (fun e1=>hτn k e1)⟩,fun g hg'=>?_⟩
 ·have ha:args.map ρv=#[ρv x,ρv y]:=by apply Array.toList_inj.1;simp [hargs]
  simp [execOp,ho,resolve,invoke,builtin,ha,hrun,Result.andThen]
 ·rcases hg g hg' with e1 | e1
  ·exact (hτn g e1).elim
  ·exact e1
theorem AppAt.gives (he:e.Ok) {σ:St} {o:Oper} {d ety sz:Nat} {rows:List (List C)} (hA:AppAt e.P σ o d ety sz rows) {m:List (Nat × Bk)}:Zbq e U w0.heap.size S0 m o (evA σ.s) .undef:=by
 intro w S L ρv hC hr;obtain ⟨v',w',h1,_,h3,_⟩:=hA.run he hC hr;have hk:Kept e.D e.E w.heap.size w w':=⟨h3.os,h3.tape,h3.output,h3.drawn,h3.size,fun k hk hn=>h3.block k hk id⟩;unfold Go.Proofs.YtcgacanpeaiabaaGreatDoor.gives;rw [h1];exact ⟨S,⟨fun _ h=>h,fun _ h=>.inl h⟩,hC.later hk (he.keep _ _ h3.size (fun b hE=>h3.block b (Tbd (hC.ein b hE) hC.bsz) id) hC.g) (fun _ h=>h) (fun _ h=>.inl h),hk,trivial⟩
def Zqo (base p d ety sz:Nat) (rows:List (List C)) (m:List (Nat × Bk)) (L:Lay) (listed:Array Bool) (a:Act) (w:World) (S:Nat->Prop):Prop :=
 listed.getD p false=true->(∀ g,vblk (a.tmps.getD d undef)=some g->base<=g∧g < w.heap.size∧¬ S g∧∀ k bk,gm m k=some bk->¬ ZaJ L k bk g)∧ZaV w S ety sz rows (a.tmps.getD d undef)
theorem ZoY {m:List (Nat × Bk)} {base:Nat} {l:List Oper}:∀ (xs ys:List Oper) (s:List (Nat × A)) (us bs:List A),us.length=xs.length->ZdA e U base S0 m l xs s us->ZdA e U base S0 m l ys (after s xs us) bs->ZdA e U base S0 m l (xs++ys) s (us++bs)
 | [],ys,s,[],bs,_,_,h2=>h2
 | x::xs,ys,s,a::us,bs,hl,h1,h2=>⟨h1.1,ZoY xs ys _ us bs (by simpa using hl) h1.2 h2⟩
 | [],_,_,_::_,_,hl,_,_=>by simp at hl
 | _::_,_,_,[],_,hl,_,_=>by simp at hl
theorem ZoZ:∀ (xs ys:List Oper) (s:List (Nat × A)) (us bs:List A),us.length=xs.length->after s (xs++ys) (us++bs)=after (after s xs us) ys bs
 | [],ys,s,[],bs,_=>rfl
 | x::xs,ys,s,a::us,bs,hl=>ZoZ xs ys _ us bs (by simpa using hl)
 | [],_,_,_::_,_,hl=>by simp at hl
 | _::_,_,_,[],_,hl=>by simp at hl
theorem Zlk (he:e.Ok) (base:Nat) (S0:Nat->Prop) (l:List Oper) {K:St->Prop} {k:Nat} {os:List Oper} {σ:St} (hk:k=os.length+1) (h:Runs e (l.map (·.dst)) k os σ K):∃ αs,αs.length=os.length∧ZdA e U base S0 σ.m l os σ.s αs∧K ⟨after σ.s os αs,σ.m⟩:=by
 subst hk;have h':Runs e (l.map (·.dst)) (os.length+1) (os++[]) σ K:=by rw [List.append_nil];exact h
 obtain ⟨αs,h1,h2,h3⟩:=ZeQ (U:=U) he base S0 l [] 1 os σ (fun h=>absurd h (by decide)) h';simp only [Runs] at h3;exact ⟨αs,h1,h2,h3⟩
theorem ZBQ (he:e.Ok) {id:Nat} {ops:Array Oper} {n p d ety sz:Nat} {rows:List (List C)} {o0:Oper} (hop:ops[p]?=some o0) (hpn:p < n) (hB:regB ops n=true) {K:St->Prop} {Q:Exit->Act->World->Prop} (hQ:∀ a w σ',K σ'->SimE e U w0 S0 nt σ' a w->Q .normal a w) {σ:St} {a:Act} {w:World}
  (hd:∀ o∈ops.toList,∀ d,o.dst=some d->d < nt) (h:SimE e U w0 S0 nt σ a w)
  (hp:Runs e (ops.toList.map (·.dst)) (p+1) (ops.toList.take p) σ (fun σ1=>AppAt e.P σ1 o0 d ety sz rows∧Runs e (ops.toList.map (·.dst)) (n - p) ((ops.toList.take n).drop (p+1)) ⟨(d,.undef)::σ1.s,σ1.m⟩ (fun σ2=>Runs e (ops.toList.map (·.dst)) 0 (ops.toList.drop n) ⟨(d,.buf d)::Zau d σ2.s,(d,.buf none ety sz rows)::remM d σ2.m⟩ K))):(Code.region id ops true).wp e.P Q a w:=by
 simp only [regB,Tar,Bool.or_eq_true,decide_eq_true_eq] at hB;obtain ⟨⟨⟨hH,hn⟩,hs⟩,hsq⟩:=hB;obtain ⟨S,L,h1⟩:=h.drew he;refine wp_region_any he.mixed ?_;have hlen:(ops.toList.take p).length=p:=by simp;omega
 have hlen2:((ops.toList.take n).drop (p+1)).length=n - p - 1:=by simp;omega
 obtain ⟨αs0,hal0,hch0,hrest0⟩:=Zlk (U:=U) he w0.heap.size S0 ops.toList (by rw [hlen]) hp;rw [hlen] at hal0;obtain ⟨hApp,hrest1⟩:=hrest0;obtain ⟨αs1,hal1,hch1,hrest2⟩:=Zlk (U:=U) he w0.heap.size S0 ops.toList (by rw [hlen2];omega) hrest1;rw [hlen2] at hal1;have hpl:ops.toList[p]?=some o0:=by simpa using hop
 have htake:ops.toList.take n=ops.toList.take p++(o0::(ops.toList.take n).drop (p+1)):=by
  have e1:(ops.toList.take n)[p]?=some o0:=by rw [List.getElem?_take,if_pos hpn];exact hpl
  have e2:(ops.toList.take n).drop p=o0::(ops.toList.take n).drop (p+1):=by
   rw [List.drop_eq_getElem_cons (Tad.1 e1).1,(Tad.1 e1).2]
  have e3:(ops.toList.take n).take p=ops.toList.take p:=by rw [List.take_take,Nat.min_eq_left om]
  rw [<- e2,<- e3,Tbm]
 have hal:(αs0++(A.undef::αs1)).length=n:=by simp [hal0,hal1];omega
 have hset:setA (after σ.s (ops.toList.take p) αs0) o0.dst A.undef=(d,A.undef)::after σ.s (ops.toList.take p) αs0:=by rw [hApp.dst];rfl
 have hch:ZdA e U w0.heap.size S0 σ.m ops.toList (ops.toList.take n) σ.s (αs0++(A.undef::αs1)):=by
  rw [htake];refine ZoY _ _ _ _ _ (by rw [hal0,hlen]) hch0 ⟨?_,?_⟩
  ·unfold ZgK;rw [hApp.guard];exact hApp.gives he
  ·rw [hset];exact hch1
 have haf:after σ.s (ops.toList.take n) (αs0++(A.undef::αs1))=after ((d,A.undef)::after σ.s (ops.toList.take p) αs0) ((ops.toList.take n).drop (p+1)) αs1:=by
  conv=>lhs;rw [htake]
  rw [ZoZ _ _ _ _ _ (by rw [hal0,hlen])];simp only [after,hset]
 have inv0:InvA e U w0 S0 nt σ.m ops n σ.s (αs0++(A.undef::αs1)) L (Array.replicate ops.size false) a { w with drawn:=w.drawn+1 } S :=
  ⟨⟨by simp,fun j oj _ hl=>(by rw [getD_replicate_false] at hl;cases hl),fun t _ ht=>getD_in (by simpa using ht) (getD_replicate_false _ _)⟩,h1.size,h1.defers,h1.cls,h1.kept,fun t _=>h1.rel t,fun i o d α _ hl=>(by rw [getD_replicate_false] at hl;cases hl)⟩
 have hJ0:Zqo w0.heap.size p d ety sz rows σ.m L (Array.replicate ops.size false) a { w with drawn:=w.drawn+1 } S:=fun hl=>by rw [getD_replicate_false] at hl;cases hl
 have hA0:∀ {i':Nat} {o':Oper} {d':Nat},HeadAt ops n i' o' d'->i'≠p->d'≠d:=fun hA hne e'=>by
  have:=(hA.dep p _ hpn hop).1 (Ne.symm hne);exact this (by rw [hApp.dst,e'])
 have hgo:ZjS e U w0 S0 nt σ.m ops n σ.s (αs0++(A.undef::αs1)) L (Zqo w0.heap.size p d ety sz rows σ.m L) Q:=by
  intro listed a w S i' o' d' α hI hJ hA hin hr hdn hα hopd hG';by_cases hip:i'=p
  ·subst hip;have ho':o'=o0:=by have:=hA.op;rw [hop] at this;injection this with this;exact this.symm
   subst ho';have hdd:d'=d:=by have:=hA.dst;rw [hApp.dst] at this;injection this with this;exact this.symm
   subst hdd;have hau:α=A.undef:=by rw [Tbq om,hal0] at hα;simpa using hα.symm
   subst hau;have hC:=hI.cls;have htk:(αs0++(A.undef::αs1)).take i'=αs0:=by rw [<- hal0];exact List.take_left
   rw [htk] at hopd;obtain ⟨v',w',q1,q2,q3,q4⟩:=hApp.run he hC hopd;have hk:Kept e.D e.E w.heap.size w w':=⟨q3.os,q3.tape,q3.output,q3.drawn,q3.size,fun k hk hn=>q3.block k hk (fun h=>h)⟩;have hC':Cls e U w0.heap.size S0 σ.m w' S L:=hC.later hk (he.keep _ _ q3.size (fun b hE=>q3.block b (Tbd (hC.ein b hE) hC.bsz) (fun h=>h)) hC.g) (fun _ h=>h) (fun _ h=>.inl h);unfold Oper.wp;rw [q1,Oper.upon_value]
   have hput:(a.put o'.dst v').tmps.getD d' undef=v':=by
    rw [hA.dst,ZcP (by rw [hI.size];exact hdn)];simp
   refine ⟨S,hI.put hH hA hin hr hdn hα (fun _ h=>h) hC' hk trivial,fun _=>?_⟩;rw [hput];refine ⟨fun g hg=>?_,q2⟩;have hge:=q4 g hg;refine ⟨Tbe hC.bsz hge,?_,fun hs=>by have:=(hC.sin _ hs).1;omega,fun k bk hk hg=>by have:=hC.blk_lt hk hg;omega⟩;exact (Own1.lt (L:=⟨fun _=>0,fun _=>v'⟩) (k:=0) (bk:=.buf none ety sz rows) ⟨by simp,q2⟩ hg).1
  ·refine ZeB (hG' w S L a.eval hI.cls hopd) fun v' w' ⟨S',hS,hC,hk,hv'⟩=>⟨S',hI.put hH hA hin hr hdn hα hS.1 hC hk hv',fun hl=>?_⟩;rw [getD_set_ne false hip] at hl;obtain ⟨q1,q2⟩:=hJ hl;have hput:(a.put o'.dst v').tmps.getD d undef=a.tmps.getD d undef:=by
    rw [hA.dst,ZcP (by rw [hI.size];exact hdn),if_neg (Ne.symm (hA0 hA hip))]
   rw [hput];have hnS:∀ g,vblk (a.tmps.getD d undef)=some g->¬ S' g:=fun g hg hs=>by
    obtain ⟨_,k2,k3,_⟩:=q1 g hg;rcases hS.2 g hs with hs | hs
    ·exact k3 hs
    ·omega
   refine ⟨fun g hg=>⟨(q1 g hg).1,Tbd (q1 g hg).2.1 hk.size,hnS g hg,(q1 g hg).2.2.2⟩,q2.keep hk.size (hI.cls.cell hk) hS.1 fun g hg=>⟨hk.block g (q1 g hg).2.1 (fun hE=>by have:=hI.cls.ein g hE;have:=(q1 g hg).1;omega),hnS g hg⟩⟩
 have hskp:∀ (listed:Array Bool) (a:Act) (w:World) (S:Nat->Prop) (i':Nat) (o':Oper) (d':Nat),Zqo w0.heap.size p d ety sz rows σ.m L listed a w S->InvA e U w0 S0 nt σ.m ops n σ.s (αs0++(A.undef::αs1)) L listed a w S->HeadAt ops n i' o' d'->i' < n->i'∈Region.ready .any ops listed->d' < nt->o'.guard≠none->Zqo w0.heap.size p d ety sz rows σ.m L (listed.setIfInBounds i' true) (a.put o'.dst undef) w S:=by
  intro listed a w S i' o' d' hJ hI hA hin hr hdn hg hl;have hip:i'≠p:=fun e'=>by
   subst e';have:=hA.op;rw [hop] at this;injection this with this
   rw [<- this] at hg;exact hg hApp.guard
  rw [getD_set_ne false hip] at hl;have hput:(a.put o'.dst undef).tmps.getD d undef=a.tmps.getD d undef:=by
   rw [hA.dst,ZcP (by rw [hI.size];exact hdn),if_neg (Ne.symm (hA0 hA hip))]
  rw [hput];exact hJ hl
 have H:=ZdT (e:=e) (L:=L) (Q:=Q) he hH hn (fun hlt=>by
   rcases hs with hs | hs
   ·omega
   ·exact hs) hsq (fun i o d hi ho hdd=>hd o (List.mem_iff_getElem?.2 ⟨i,by simpa using ho⟩) d hdd) hal hch hgo hskp (fun listed a' w' S' hI hJ hall=>?_) n _ a _ S inv0 hJ0 ?_
 ·rw [show n+(ops.size - n)=ops.size by omega] at H;exact H
 ·have hsim:=Zrk hH hn hal hI hall;rw [haf] at hsim;obtain ⟨q1,q2⟩:=hJ (hall p hpn);have hdn:d < nt:=hd _ (List.mem_iff_getElem?.2 ⟨p,hpl⟩) d hApp.dst
  have hsimB:=hsim.bornE (bk:=.buf none ety sz rows) (w':=w') (b':=0) (v':=a'.tmps.getD d undef) (u:=a'.tmps.getD d undef) (τ:=vblk (a'.tmps.getD d undef)) (s1:=after ((d,A.undef)::after σ.s (ops.toList.take p) αs0) ((ops.toList.take n).drop (p+1)) αs1) (m1:=σ.m) (α:=.buf d) (S':=S') hdn (fun _ h=>h) (fun _ h=>.inl h) (fun t=>.inl rfl) (fun k x h=>h)
   (fun g hg=>⟨(q1 g hg).2.2.1,fun hE=>by have:=hI.cls.ein _ hE;have:=(q1 g hg).1;omega,.inl (q1 g hg).1⟩) (fun k x g hkd hx hg hb=>(q1 g hg).2.2.2 k x hx hb)
   (Kept.refl _ _ _ _) hI.cls.g (by
    simp only [Own1,if_true];exact ⟨by simp,q2⟩)
   (fun g hg=>by simp only [ZaJ,if_true] at hg;exact .inl hg) (by simp [ARel])
  have hsimD:SimE e U w0 S0 nt ⟨(d,.buf d)::Zau d (after ((d,A.undef)::after σ.s (ops.toList.take p) αs0) ((ops.toList.take n).drop (p+1)) αs1),(d,.buf none ety sz rows)::remM d σ.m⟩ a' w':=by
   obtain ⟨S2,L2,k1,k2,k3,k4,k5⟩:=hsimB;refine ⟨S2,L2,k1,fun t=>?_,hI.size,hI.defers,k5⟩;have:=k2 t;rw [ZcP (by rw [hI.size];exact hdn)] at this;by_cases ht:t=d
   ·rw [if_pos ht] at this;rw [ht];rw [ht] at this;exact this
   ·rw [if_neg ht] at this;exact this
  have:=hrest2 he U w0 S0 nt a' w' ops.toList Q rfl (fun o ho=>hd o (List.mem_of_mem_drop ho)) hQ hsimD;simpa using this
 ·rw [List.countP_eq_length.2]
  ·simp
  ·intro i hi;have hi':=List.mem_range.1 hi;have hsz:i < (Array.replicate ops.size false).size:=by simp;omega
   rw [ZbP hsz,getD_replicate_false];rfl
end
section
variable {e:Env} {mask:Nat} {Q:PX->St->Prop} {ds:List (Option Nat)}
theorem ZmZ {nt:Nat} {id:Nat} {ops:Array Oper} {fl:Bool} (hok:ZcF nt (.region id ops fl)=true):∀ o∈ops.toList,∀ d,o.dst=some d->d < nt:=fun o ho d hd=>by
 simp only [ZcF] at hok;have:=List.all_eq_true.1 hok o ho;rw [hd] at this;simpa using this
theorem ZBR {id:Nat} {ops:Array Oper} {σ:St} (n:Nat) (hn:regT ops n=true) (hp:Runs e (ops.toList.map (·.dst)) (n+1) (ops.toList.take n) σ (ZcT e (ops.toList.map (·.dst)) ops (Zdf mask Q) (ops.size - n) (Zb3 ops.size n))):pwp e mask (.region id ops true) σ Q:=fun he U w0 S0 nt a w hok hs =>
 ZlU he hn (fun a w σ' h1 h2=>⟨_,h1,h2.weak (fun t=>ZiQ mask t σ'.s) (fun _ _ h=>h)⟩) (ZmZ hok) hs hp
theorem ZBS {id:Nat} {ops:Array Oper} {σ:St} {n p d ety sz:Nat} {rows:List (List C)} {o0:Oper} (hop:ops[p]?=some o0) (hpn:p < n) (hn:regB ops n=true) (hp:Runs e (ops.toList.map (·.dst)) (p+1) (ops.toList.take p) σ (fun σ1=>AppAt e.P σ1 o0 d ety sz rows∧Runs e (ops.toList.map (·.dst)) (n - p) ((ops.toList.take n).drop (p+1)) ⟨(d,.undef)::σ1.s,σ1.m⟩ (fun σ2=>Runs e (ops.toList.map (·.dst)) 0 (ops.toList.drop n) ⟨(d,.buf d)::Zau d σ2.s,(d,.buf none ety sz rows)::remM d σ2.m⟩ (Zdf mask Q)))):pwp e mask (.region id ops true) σ Q:=fun he U w0 S0 nt a w hok hs =>
 ZBQ he hop hpn hn (fun a w σ' h1 h2=>⟨_,h1,h2.weak (fun t=>ZiQ mask t σ'.s) (fun _ _ h=>h)⟩) (ZmZ hok) hs hp
theorem gA {id:Nat} {l l1 l2 l3:List Oper} {s s1 s2 s3:List (Nat × A)} {m m1 m2 m3:List (Nat × Bk)} {x y:Operand} {t ty d ety sz by':Nat} {pos:String} {aft:Array Edge} {r1 ys:List (List C)} (n p:Nat) (hle:r1.length+ys.length<=maxApp) (hne:r1=[]∨ys≠[]) (hK:Runs e ds 0 l3 ⟨(d,.buf d)::s3,(d,.buf none ety sz (r1++ys))::m3⟩ (Zdf mask Q))
  (hop:l[p]?=some ⟨some d,.call ⟨.builtin .append,#[x,y],#[t,t]⟩,ty,pos,aft,none⟩:=by exact rfl) (hB:regB l.toArray n=true:=by decide +kernel) (hpn:p < n:=by decide) (hds:l.map (·.dst)=ds:=by exact rfl) (h1l:l.take p=l1:=by exact rfl) (h2l:(l.take n).drop (p+1)=l2:=by exact rfl) (h3l:l.drop n=l3:=by exact rfl)
  (h1:ZbB e.P ds (p+1) l1 ⟨s,m⟩=.done ⟨s1,m1⟩:=by exact sfv) (hx:evA s1 x=.d (.clip r1):=by exact sfx) (hy:slA [] (evA s1 y)=some ys:=by exact sfx)
  (hb:Za2 e.P t=some (ety,sz,by'):=by exact sfx) (hr1:Zav sz r1=true:=by simp only [pz,↓reduceIte,Nat.reduceEqDiff,Nat.reduceAdd,Nat.reduceSub,Nat.reduceMul,Nat.reduceLeDiff,Nat.reduceBEq,Tam,decide_true,decide_false,Int.reduceLE,Int.reduceToNat,Int.reduceLT,Int.reduceEq,eq_self,Nat.reduceShiftRight,Nat.reduceAnd,Nat.reduceBneDiff,F]) (hys:Zav sz ys=true:=by simp only [pz,↓reduceIte,Nat.reduceEqDiff,Nat.reduceAdd,Nat.reduceSub,Nat.reduceMul,Nat.reduceLeDiff,Nat.reduceBEq,Tam,decide_true,decide_false,Int.reduceLE,Int.reduceToNat,Int.reduceLT,Int.reduceEq,eq_self,Nat.reduceShiftRight,Nat.reduceAnd,Nat.reduceBneDiff,F])
  (h2:ZbB e.P ds (n - p) l2 ⟨(d,.undef)::s1,m1⟩=.done ⟨s2,m2⟩:=by exact sfv) (hk:Zau d s2=s3:=by exact snv) (hr:remM d m2=m3:=by exact snv):pwp e mask (.region id l.toArray true) ⟨s,m⟩ Q:=by
 subst hds h1l h2l h3l hk hr;exact ZBS (ops:=l.toArray) (by simpa using hop) hpn hB (Zgp h1 ⟨⟨⟨x,y,#[x,y],#[t,t],t,by',r1,ys,rfl,rfl,hx,hy,rfl,rfl,hb,hr1,hys,hle,hne,rfl⟩,rfl,rfl⟩,Zgp h2 hK⟩)
theorem ZFV {id:Nat} {l l1:List Oper} {s s1:List (Nat × A)} {m m1:List (Nat × Bk)} (n:Nat) (hK:ZcT e ds l.toArray (Zdf mask Q) (l.length - n) (Zb3 l.length n) ⟨s1,m1⟩) (hB:regT l.toArray n=true:=by decide +kernel) (hds:l.map (·.dst)=ds:=by exact rfl) (h1l:l.take n=l1:=by exact rfl)
  (h1:ZbB e.P ds (n+1) l1 ⟨s,m⟩=.done ⟨s1,m1⟩:=by exact sfv):pwp e mask (.region id l.toArray true) ⟨s,m⟩ Q:=by
 subst hds h1l;exact ZBR (ops:=l.toArray) n hB (Zgp h1 hK)
theorem ZiW {K:St->Prop} {o:Oper} {s s1:List (Nat × A)} {m m1:List (Nat × Bk)} (hg:o.guard=none) (hal:∀ t,o.op≠.alloc t) (hrun:ZbB e.P ds 0 [o] ⟨s,m⟩=.done ⟨s1,m1⟩) (hK:Runs e ds 0 [] ⟨s1,m1⟩ K):ZbG e o ⟨s,m⟩ (fun σ'=>Runs e ds 0 [] σ' K):=by
 have key:∀ σ,ResQ e ds (fun σ'=>Runs e ds 0 [] σ' K) (Res.done σ)->Runs e ds 0 [] σ (fun σ'=>Runs e ds 0 [] σ' K):=fun σ h=>ZaT h;have hr:ZbB e.P ds 0 [o] ⟨s,m⟩=Zbs e.P o.dst o.type 0 0 [] (fun σ=>.done σ) o.op ⟨s,m⟩:=by
  obtain ⟨od,oo,ot,op,oa,og⟩:=o;simp only at hg;subst hg;rfl
 rw [hr] at hrun;have h:=Zf2 (e:=e) (ds:=ds) (os:=[]) (K:=fun σ'=>Runs e ds 0 [] σ' K) (n:=0) (q:=0) (next:=fun σ=>.done σ) key (o:=o) (σ:=⟨s,m⟩) (.inl rfl) (by rw [hrun];exact hK);have h:ZbG e o ⟨s,m⟩ (fun σ'=>Runs e ds 0 [] σ' (fun σ'=>Runs e ds 0 [] σ' K)):=h;intro he U w0 S0 nt a w Q hd hs;refine Oper.wp_mono (fun a' w' ⟨σ',h1,h2⟩=>⟨σ',?_,h2⟩) (h he U w0 S0 nt a w Q hd hs);intro he U w0 S0 nt a w ops Q hds hd hQ hs
 exact h1 he U w0 S0 nt a w ops Q hds hd (fun a w σ2 h3 h4=>h3 he U w0 S0 nt a w ops Q hds hd hQ h4) hs
theorem gT1 {ops:Array Oper} {K:St->Prop} {f:Nat} {listed:Array Bool} {o:Oper} {s s1:List (Nat × A)} {m m1:List (Nat × Bk)} (i:Nat) (hK:Runs e ds 0 [] ⟨s1,m1⟩ (ZcT e ds ops K f (listed.setIfInBounds i true))) (hr:Region.ready .any ops listed=[i]:=by decide +kernel) (ho:ops[i]?=some o:=by simp only [List.getElem?_toArray,Tau,Tat];exact rfl) (hg:o.guard=none:=by exact rfl) (hal:∀ t,o.op≠.alloc t:=by intro t h;cases h)
  (hrun:ZbB e.P ds 0 [o] ⟨s,m⟩=.done ⟨s1,m1⟩:=by exact sfv):ZcT e ds ops K (f+1) listed ⟨s,m⟩:=by
 refine ⟨fun h=>(by rw [hr] at h;cases h),fun j hj=>?_⟩;rw [hr] at hj;have hji:j=i:=by simpa using hj
 subst hji;exact ⟨o,ho,hg,ZiW hg hal hrun hK⟩
theorem gT2 {ops:Array Oper} {K:St->Prop} {f:Nat} {listed:Array Bool} {o o':Oper} {s s1 s2:List (Nat × A)} {m m1 m2:List (Nat × Bk)} (i j:Nat) (hK:Runs e ds 0 [] ⟨s1,m1⟩ (ZcT e ds ops K f (listed.setIfInBounds i true))) (hK':Runs e ds 0 [] ⟨s2,m2⟩ (ZcT e ds ops K f (listed.setIfInBounds j true))) (hr:Region.ready .any ops listed=[i,j]:=by decide +kernel) (ho:ops[i]?=some o:=by simp only [List.getElem?_toArray,Tau,Tat];exact rfl) (hg:o.guard=none:=by exact rfl) (hal:∀ t,o.op≠.alloc t:=by intro t h;cases h)
  (hrun:ZbB e.P ds 0 [o] ⟨s,m⟩=.done ⟨s1,m1⟩:=by exact sfv) (ho':ops[j]?=some o':=by simp only [List.getElem?_toArray,Tau,Tat];exact rfl) (hg':o'.guard=none:=by exact rfl) (hal':∀ t,o'.op≠.alloc t:=by intro t h;cases h) (hrun':ZbB e.P ds 0 [o'] ⟨s,m⟩=.done ⟨s2,m2⟩:=by exact sfv):ZcT e ds ops K (f+1) listed ⟨s,m⟩:=by
 refine ⟨fun h=>(by rw [hr] at h;cases h),fun k hk=>?_⟩;rw [hr] at hk;have hk:k=i∨k=j:=by simpa using hk
 rcases hk with rfl | rfl
 ·exact ⟨o,ho,hg,ZiW hg hal hrun hK⟩
 ·exact ⟨o',ho',hg',ZiW hg' hal' hrun' hK'⟩
theorem gT0 {ops:Array Oper} {listed:Array Bool} {s s':List (Nat × A)} {m:List (Nat × Bk)} (hK:Q .normal ⟨s',m⟩) (hr:Region.ready .any ops listed=[]:=by decide +kernel) (hs:ZdY mask s=s':=by exact snv):ZcT e ds ops (Zdf mask Q) 0 listed ⟨s,m⟩:=by
 subst hs;exact ⟨hr,hK⟩
end
section
variable {e:Env} {mask:Nat} {Q:PX->St->Prop} {ds:List (Option Nat)}
theorem ZFj {P:Program} {o:Oper} {a:Act} {w:World} {K:Act->World->Prop} {Q0 Q:Exit->Act->World->Prop} (h0:∀ ex a w,ex≠.normal->¬ Q0 ex a w) (hh:o.wp P a w K Q0):o.wp P a w K Q:=by
 have hl:¬ LetsOut Q0:=fun ⟨a,w,h⟩=>h0 _ a w (by simp) h;unfold Oper.wp at *;generalize (execOp a.eval o).run P w=r at *
 cases r with
 | ok n w' =>
  cases n <;> simp only [Oper.upon] at hh ⊢ <;> first
   | exact hh
   | exact Calls.mono hh (fun e w'' he=>by cases e <;> first | exact he | exact absurd he (h0 _ _ _ (by simp)) | exact absurd he hl)
   | exact absurd hh hl
   | exact absurd hh (h0 _ _ _ (by simp))
 | halt x w' =>
  cases x <;> simp only [Oper.upon] at hh ⊢ <;> first
   | exact hh
   | exact absurd hh hl
   | exact absurd hh (h0 _ _ _ (by simp))
theorem Zdt {o:Oper} {σ:St} {K:St->Prop} (hg:o.guard=none) (h:Runs e ds 0 [o] σ K):ZbG e o σ (fun σ'=>Runs e ds 0 [] σ' K):=by
 intro he U w0 S0 nt a w Q hd hs;have h:ZeP e ds [o] σ K:=by simpa only [Runs] using h
 have h1:=h he U w0 S0 nt a w (ds.map fun d=>{ o with dst:=d }) (fun ex a' w'=>ex=.normal∧∃ σ',K σ'∧SimE e U w0 S0 nt σ' a' w') (by rw [List.map_map];exact List.map_id ds) (fun o' ho d hd'=>by simp only [Tbj] at ho;subst ho;exact hd d hd') (fun a w σ' k1 k2=>⟨rfl,σ',k1,k2⟩) hs;unfold wpList at h1;have hw:Region.wanted o (yielded (ds.map fun d=>{ o with dst:=d }).toArray a.tmps)=true:=by simp [Region.wanted,hg]
 rw [if_pos hw] at h1;rcases h1 with h1 | ⟨_,a',w',h1,_⟩
 ·refine ZFj (fun ex a w hne h=>hne h.1) (Oper.wp_mono (fun a' w' hk=>?_) h1);simp only [wpList] at hk;obtain ⟨_,σ',k1,k2⟩:=hk;exact ⟨σ',ZaT k1,k2⟩
 ·cases h1
theorem gO1 {ops:Array Oper} {K:St->Prop} {f:Nat} {listed:Array Bool} {o:Oper} {σ:St} (i:Nat) (hK:Runs e ds 0 [o] σ (ZcT e ds ops K f (listed.setIfInBounds i true))) (hr:Region.ready .any ops listed=[i]:=by decide +kernel) (ho:ops[i]?=some o:=by simp only [List.getElem?_toArray,Tau,Tat];exact rfl) (hg:o.guard=none:=by exact rfl):ZcT e ds ops K (f+1) listed σ:=by
 refine ⟨fun h=>(by rw [hr] at h;cases h),fun j hj=>?_⟩;rw [hr] at hj;have hji:j=i:=by simpa using hj
 subst hji;exact ⟨o,ho,hg,Zdt hg hK⟩
theorem gO2 {ops:Array Oper} {K:St->Prop} {f:Nat} {listed:Array Bool} {o o':Oper} {σ:St} (i j:Nat) (hK:Runs e ds 0 [o] σ (ZcT e ds ops K f (listed.setIfInBounds i true))) (hK':Runs e ds 0 [o'] σ (ZcT e ds ops K f (listed.setIfInBounds j true))) (hr:Region.ready .any ops listed=[i,j]:=by decide +kernel) (ho:ops[i]?=some o:=by simp only [List.getElem?_toArray,Tau,Tat];exact rfl) (hg:o.guard=none:=by exact rfl) (ho':ops[j]?=some o':=by simp only [List.getElem?_toArray,Tau,Tat];exact rfl) (hg':o'.guard=none:=by exact rfl):ZcT e ds ops K (f+1) listed σ:=by
 refine ⟨fun h=>(by rw [hr] at h;cases h),fun k hk=>?_⟩;rw [hr] at hk;have hk:k=i∨k=j:=by simpa using hk
 rcases hk with rfl | rfl
 ·exact ⟨o,ho,hg,Zdt hg hK⟩
 ·exact ⟨o',ho',hg',Zdt hg' hK'⟩
theorem gO3 {K:St->Prop} {o:Oper} {s s1:List (Nat × A)} {m m1:List (Nat × Bk)} (hK:K ⟨s1,m1⟩) (h:ZbB e.P ds 0 [o] ⟨s,m⟩=.done ⟨s1,m1⟩:=by exact sfv):Runs e ds 0 [o] ⟨s,m⟩ K:=Zgp h hK
theorem Zs0 {K:St->Prop} {n:Nat} {os:List Oper} {o:Oper} {σ:St} (hg:o.guard=none) (hal:isAl o=false) (h:Zfq e o σ (fun σ'=>Runs e ds n os σ' K)):Runs e ds (n+1) (o::os) σ K:=by
 simp only [Runs,hg];rw [if_neg (by simp [hal])];exact h
theorem gAq {K:St->Prop} {os:List Oper} {n d ty:Nat} {p:String} {ed:Array Edge} {x:Operand} {y:D} {s:List (Nat × A)} {m:List (Nat × Bk)} (hK:Runs e ds n os ⟨(d,.d y)::s,m⟩ K) (hx:evA s x=.d y:=by exact sfx):Runs e ds (n+1) (⟨some d,.assign x,ty,p,ed,none⟩::os) ⟨s,m⟩ K :=
 Zs0 rfl rfl fun he=>⟨.d y,hK,fun U base S0=>ZaR fun w S L ρv hC hr=>⟨ρv x,by simp [execOp],by
  have h:=hr x (by simp [Op.operands]);rw [hx] at h;exact h⟩⟩
end
theorem ZzW (n:Int):Con e0 275 [.one (.lit (.int .i64 n))] [.one (.lit (.bool (decide (0<=n∧n<=65535))))]:=by
 refine gI 5 Tryz.func275 ?_;by_cases h1:0<=n <;> by_cases h2:n<=65535 <;> (exact fT (ai @h1 @h2))
theorem ZcI:∀ p:Int × Int,Zb4 p=[.lit (.int .i64 p.1),.lit (.int .i64 p.2)]:=fun _=>rfl
theorem ZzX {k:Nat} (h:k < 62):IntKind.u64.wrap (k:Int)=(k:Int):=by
 have h2:(k:Int) < 18446744073709551616:=om;simp only [IntKind.wrap,IntKind.signed,IntKind.bits,Tam,if_false];exact Int.emod_eq_of_lt om om
theorem Zgu:Tryz.prog.underlying 3=some (.int .i64):=by kernel_rfl
theorem ZfT:Zd7 (Tryz.prog.underlying 241)=some .u64:=by kernel_rfl
theorem ZgR {k:Nat} (h:k < 62):IntKind.i64.wrap (1 * 2 ^ min k 64)=((2 ^ k:Nat):Int):=by
 rw [Nat.min_eq_left om,Int.one_mul,show (2:Int) ^ k=((2 ^ k:Nat):Int) by rw [Int.natCast_pow];rfl];have:=Zhf h;generalize 2 ^ k=x at this ⊢;exact IntWalk.i64_in _ om
theorem ZeS (j:Int):ZmO j (some (.int .i64)) (some .u64)=some (.d (.one (.lit (.int .u64 (IntKind.u64.wrap j))))):=rfl
theorem ZhP {k:Nat} (hk:k < 62):Con e0 241 [.one (.lit (.int .i64 k))] [.one (.lit (.int .i64 ((2 ^ k:Nat):Int)))]:=by
 have h1:=ZzX hk;have h2:=ZgR hk;refine gI 5 Tryz.func241 ?_;exact fT (aj6 @Zgu @ZfT @ZeS @h1 @h2 @Zal)
def tbit (a k:Nat):Bool:=a.testBit k
theorem ZFW {a k:Nat} (ha:a < 4611686018427387904) (h:k < 62):decide (bits .and .i64 ((a:Int).fdiv (2 ^ min k 64)) 1=1)=tbit a k:=by
 rw [tbit];rw [Nat.min_eq_left om,Int.fdiv_eq_ediv_of_nonneg _ (Int.pow_nonneg (by decide)),<- ZsW ha];exact (Bool.beq_eq_decide_eq _ _).symm
theorem Zgv {a k:Nat} (ha:a < 4611686018427387904) (hk:k < 16):Con e0 173 [.one (.lit (.int .i64 a)),.one (.lit (.int .i64 k))] [.one (.lit (.bool (tbit a k)))]:=by
 have h1:=ZzX (k:=k) om;have h2:=ZFW (k:=k) ha om;have z1:=lT k 16;have z2:((0:Int)<=(k:Int))=True:=eq_true om;refine gI 19 Tryz.func173 ?_;exact fT (aj8 @Zgu @ZfT @ZeS @h1 @h2 @Zal @z1 @z2)
theorem ZzY (a b:Nat):Con e0 303 [.one (.lit (.int .i64 a)),.one (.lit (.int .i64 b))] [.one (.lit (.int .i64 ((min a b:Nat):Int)))]:=by
 refine gI 147 Tryz.func303 ?_;by_cases h:a < b
 ·have z1:=lT a b;have e:min a b=a:=Nat.min_eq_left om;exact fT (ai @z1 @e)
 ·have z1:=lF a b;have e:min a b=b:=Nat.min_eq_right om;exact fT (ai @z1 @e)
theorem ZEn (n:Nat):Zey n 0=List.replicate n 0:=by simp [Zey,up0]
theorem Zrl (subs:List (Int × Int)) (l:List Nat):Zel subs 0 l=l:=rfl
theorem Zob (n:Nat) (z:List C):(List.replicate n z).length=n:=List.length_replicate
def nR (l:List Nat):List (List C):=(Zcw l).map ZaK
section
variable {l:List Nat}
theorem Za0:(nR l).length=l.length:=by rw [nR,Tay,ZoT]
theorem ZaZ {i x:Nat} (h:l[i]?=some x):(nR l)[i]?=some [.lit (.int .i64 x)]:=by rw [nR,Tba,ZoU h];rfl
theorem ZcZ (i x:Nat):(nR l).set i [.lit (.int .i64 x)]=nR (l.set i x):=by rw [nR,nR,ZzP,List.map_set];rfl
theorem ZaX:Zav 1 (nR l)=true:=ZjY _
theorem Zio (x:Nat):nR l++[[.lit (.int .i64 x)]]=nR (l++[x]):=by rw [nR,nR,Zv9,Tbv];rfl
end
theorem nR_0 (n:Nat):List.replicate n [C.lit (.int .i64 0)]=nR (List.replicate n 0):=by simp [nR,Zcw,ZaK]
theorem Zvh:∀ (l:List Nat) (p:Int × Int),ZdZ l p=l.set p.1.toNat (l.getD p.1.toNat 0 ||| l.getD p.2.toNat 0):=fun _ _=>rfl
theorem Zvi (subs:List (Int × Int)) (l:List Nat):(subs.take 0).foldl ZdZ l=l:=rfl
theorem Zvj (subs:List (Int × Int)) (l:List Nat):Zef subs 0 l=l:=rfl
theorem ZzZ (subs:List (Int × Int)) (l:List Nat):(subs.take 0).foldl kSub l=l:=rfl
theorem Zo0 {subs:List (Int × Int)} {i:Nat} {p:Int × Int} (h:subs[i]?=some p) (l:List Nat):(subs.take (i+1)).foldl kSub l=kSub ((subs.take i).foldl kSub l) p:=ZiU h l
theorem Zz0:nR (up0 0)=[]∧nR (List.range 0)=[]∧nR []=[]:=⟨rfl,rfl,rfl⟩
theorem ZEo (a:Nat):nR (ZcY a 0)=[]:=rfl
theorem Zm0 {subs:List (Int × Int)} {i:Nat} {p:Int × Int} (h:subs[i]?=some p) (l:List Nat):(subs.take (i+1)).foldl ZdZ l=ZdZ ((subs.take i).foldl ZdZ l) p:=ZiU h l
section
variable {s:Srt}
theorem Zjt (h1:1<=s.names.length) (h8:s.names.length<=8) (hm:s.subs.length<=16) (hs:ZdJ s.names.length s.subs):Con e0 207 [.agg (Zbh s)] [.one (.sl (nR (up s)))]:=by
 have hmx:((s.names.length:Int)<=(maxApp:Int))=True:=eq_true (by unfold maxApp;omega);rw [Zbh];refine gI 2072014943 Tryz.func207 ?_;refine fG (aj3 @hmx @Tbx @Zob) ?_;rw [nR_0];have F:=@ZEn;refine gL (ι:=Nat) [3,4,13,14] [3] (fun k=>[(13,A.d (.one (.lit (.int .i64 k)))),(3,.buf 3)]) (fun k=>[(3,.buf none 3 1 (nR (Zey s.names.length k)))]) (fun k=>k<=s.names.length) (fun k=>s.names.length - k) (0) (Taj _) (fun k hk=>?_);clear F
 by_cases hlt:k < s.names.length
 ·have q1:(k:Int) < (s.names.length:Int):=om;have hw:=Zan (k:=k) om;have hsh:=ZgR (k:=k) om;have l1:=ZzQ (n:=s.names.length) (k:=k) om;have l2:=Za0 (l:=Zey s.names.length k);have l3:=ZaX (l:=Zey s.names.length k);have l4:=ZcZ (l:=Zey s.names.length k) k (2 ^ k);rw [ZzR hlt] at l4;rw [l1] at l2;obtain ⟨x,hx⟩:∃ x,(Zey s.names.length k)[k]?=some x:=⟨_,Taa om⟩;have l5:=ZaZ hx;have F:=aj9 @q1 @hsh @l2 @l3 @l4 @l5 @hlt @hw @Zal;refine gG ?_;exact ⟨k+1,hlt,gw,gw,om⟩
 obtain rfl:k=s.names.length:=by omega
 have q1:¬ ((s.names.length:Int) < (s.names.length:Int)):=om;rw [ZzS];have hU:=UpOk.start s.names.length;have l0:(nR (up0 s.names.length)).length=s.names.length:=by rw [Za0,hU.1]
 refine fG (ai @q1 @l0) ?_;have F:=@Zrl;refine gL (ι:=Nat) [3,6,24,25,27,28,29,30] [3] (fun j=>[(24,A.d (.one (.lit (.int .i64 j)))),(3,.buf 3)]) (fun j=>[(3,.buf none 3 1 (nR (Zel s.subs j (up0 s.names.length))))]) (fun j=>j<=s.names.length) (fun j=>s.names.length - j) (0) (Taj _) (fun j hj=>?_);clear F;by_cases hlj:j < s.names.length;rotate_left
 ·obtain rfl:j=s.names.length:=by omega
  have q2:¬ ((s.names.length:Int) < (s.names.length:Int)):=om;rw [up];refine fG @q2 ?_;have F:=@e0P;refine gG ?_;exact gTz [2]
 have q2:(j:Int) < (s.names.length:Int):=om;have hwj:=Zan (k:=j) om;have hUj:=UpOk.iter hs j hU;have hnx:Zel s.subs (j+1) (up0 s.names.length)=s.subs.foldl ZdZ (Zel s.subs j (up0 s.names.length)):=rfl;generalize Zel s.subs j (up0 s.names.length)=u at hUj hnx ⊢;refine fG @q2 ?_;have F:=@Zvi;refine gL (ι:=Nat) [3,6,29,30] [3] (fun i=>[(29,A.d (.one (.lit (.int .i64 i)))),(3,.buf 3)]) (fun i=>[(3,.buf none 3 1 (nR ((s.subs.take i).foldl ZdZ u)))]) (fun i=>i<=s.subs.length) (fun i=>s.subs.length - i) (0) (Taj _) (fun i hi=>?_);clear F
 by_cases hli:i < s.subs.length;rotate_left
 ·obtain rfl:i=s.subs.length:=by omega
  have q3:¬ ((s.subs.length:Int) < (s.subs.length:Int)):=om;rw [Tap,<- hnx];have F:=ai @q3 @hwj;refine gG ?_;exact ⟨j+1,hlj,gw,gw,om⟩
 have q3:(i:Int) < (s.subs.length:Int):=om;have hwi:=Zan (k:=i) om;obtain ⟨p,hp⟩:∃ p,s.subs[i]?=some p:=⟨_,Taa hli⟩;have hps:=hs p (Tac hp);have hst:=Zm0 hp u;have hUi:=UpOk.foldl hUj (hs.take i);generalize (s.subs.take i).foldl ZdZ u=v at hUi hst ⊢;obtain ⟨g1,b1⟩:=hUi.get (i:=p.1.toNat) om;obtain ⟨g2,b2⟩:=hUi.get (i:=p.2.toNat) om;have p256:2 ^ s.names.length<=256:=Tbe (Tbs om h8) (by decide);have hor:=Zd3 (a:=v.getD p.1.toNat 0) (b:=v.getD p.2.toNat 0) om om
 have l1:=ZaZ g1;have l2:=ZaZ g2;have l3:=Za0 (l:=v);rw [hUi.1] at l3;have l4:=ZaX (l:=v);have l5:=ZcZ (l:=v) p.1.toNat (v.getD p.1.toNat 0 ||| v.getD p.2.toNat 0);have i1:0<=p.1:=hps.1;have i2:0<=p.2:=hps.2.2.1;have i3:p.1.toNat < s.names.length:=om;have i4:p.2.toNat < s.names.length:=om;have F:=aj16 @q3 @hp @ZcI @l1 @l2 @l3 @l4 @l5 @hor @i1 @i2 @i3 @i4 @hwi @hst @Zvh;refine gG ?_;exact ⟨i+1,hli,gw,gw,om⟩
theorem Zhj (h8:s.names.length<=8) (hm:s.subs.length<=16) (hs:ZdJ s.names.length s.subs):Con e0 243 [.agg (Zbh s)] [.one (.sl (nR (up s)))]:=by
 rw [Zbh];refine gI 2164265087 Tryz.func243 ?_;refine fG @e0P ?_;have F:=@Zz0;refine gL (ι:=Nat) [3,4,12] [3] (fun k=>[(4,A.d (.one (.lit (.int .i64 k)))),(3,.buf 3)]) (fun k=>[(3,.buf none 3 1 (nR (up0 k)))]) (fun k=>k<=s.names.length) (fun k=>s.names.length - k) (0) (Taj _) (fun k hk=>?_);clear F;by_cases hlt:k < s.names.length
 ·have q1:(k:Int) < (s.names.length:Int):=om;have hw:=Zan (k:=k) om;have l2:=Za0 (l:=up0 k);rw [(UpOk.start k).1] at l2;have l3:=ZaX (l:=up0 k);have l4:=Zio (l:=up0 k) (2 ^ k);rw [<- ZBO] at l4;have hmx:(k+1<=maxApp)=True:=eq_true (by unfold maxApp;omega);refine fB @q1 ?_;refine fC @e0P (ZhP (k:=k) om) ?_;refine fR (aj4 @l2 @l3 @l4 @hmx) ?_;have F:=@hw;refine gG ?_;exact ⟨k+1,hlt,gw,gw,om⟩
 obtain rfl:k=s.names.length:=by omega
 have q1:¬ ((s.names.length:Int) < (s.names.length:Int)):=om;have hU:=UpOk.start s.names.length;refine fG @q1 ?_;have F:=@Zrl;refine gL (ι:=Nat) [3,5,6,24,31] [3] (fun j=>[(5,A.d (.one (.lit (.int .i64 j)))),(3,.buf 3)]) (fun j=>[(3,.buf none 3 1 (nR (Zel s.subs j (up0 s.names.length))))]) (fun j=>j<=s.names.length) (fun j=>s.names.length - j) (0) (Taj _) (fun j hj=>?_);clear F;by_cases hlj:j < s.names.length
 rotate_left
 ·obtain rfl:j=s.names.length:=by omega
  have q2:¬ ((s.names.length:Int) < (s.names.length:Int)):=om;rw [up];refine fG @q2 ?_;have F:=@e0P;refine gG ?_;exact gTz [2]
 have q2:(j:Int) < (s.names.length:Int):=om;have hwj:=Zan (k:=j) om;have hUj:=UpOk.iter hs j hU;have hnx:Zel s.subs (j+1) (up0 s.names.length)=s.subs.foldl ZdZ (Zel s.subs j (up0 s.names.length)):=rfl;generalize Zel s.subs j (up0 s.names.length)=u at hUj hnx ⊢;refine fG @q2 ?_;have F:=@Zvi;refine gL (ι:=Nat) [3,6,31] [3] (fun i=>[(6,A.d (.one (.lit (.int .i64 i)))),(3,.buf 3)]) (fun i=>[(3,.buf none 3 1 (nR ((s.subs.take i).foldl ZdZ u)))]) (fun i=>i<=s.subs.length) (fun i=>s.subs.length - i) (0) (Taj _) (fun i hi=>?_);clear F
 by_cases hli:i < s.subs.length;rotate_left
 ·obtain rfl:i=s.subs.length:=by omega
  have q3:¬ ((s.subs.length:Int) < (s.subs.length:Int)):=om;rw [Tap,<- hnx];have F:=ai @q3 @hwj;refine gG ?_;exact ⟨j+1,hlj,gw,gw,om⟩
 have q3:(i:Int) < (s.subs.length:Int):=om;have hwi:=Zan (k:=i) om;obtain ⟨p,hp⟩:∃ p,s.subs[i]?=some p:=⟨_,Taa hli⟩;have hps:=hs p (Tac hp);have hst:=Zm0 hp u;have hUi:=UpOk.foldl hUj (hs.take i);generalize (s.subs.take i).foldl ZdZ u=v at hUi hst ⊢;obtain ⟨g1,b1⟩:=hUi.get (i:=p.1.toNat) om;obtain ⟨g2,b2⟩:=hUi.get (i:=p.2.toNat) om;have p256:2 ^ s.names.length<=256:=Tbe (Tbs om h8) (by decide);have hor:=Zd3 (a:=v.getD p.1.toNat 0) (b:=v.getD p.2.toNat 0) om om
 have l1:=ZaZ g1;have l2:=ZaZ g2;have l3:=Za0 (l:=v);rw [hUi.1] at l3;have l4:=ZaX (l:=v);have l5:=ZcZ (l:=v) p.1.toNat (v.getD p.1.toNat 0 ||| v.getD p.2.toNat 0);have i1:0<=p.1:=hps.1;have i2:0<=p.2:=hps.2.2.1;have i3:p.1.toNat < s.names.length:=om;have i4:p.2.toNat < s.names.length:=om;have F:=aj16 @q3 @hp @ZcI @l1 @l2 @l3 @l4 @l5 @hor @i1 @i2 @i3 @i4 @hwi @hst @Zvh;refine gG ?_;exact ⟨i+1,hli,gw,gw,om⟩
theorem Zrm (h8:s.names.length<=8) (hm:s.subs.length<=16) (hs:ZdJ s.names.length s.subs):Con e0 270 [.agg (Zbh s)] [.one (.sl (nR (kinds s)))]:=by
 rw [Zbh];refine gI 4328555519 Tryz.func270 ?_;refine fG @e0P ?_;have F:=@Zz0;refine gL (ι:=Nat) [3,4,15] [3] (fun k=>[(4,A.d (.one (.lit (.int .i64 k)))),(3,.buf 3)]) (fun k=>[(3,.buf none 3 1 (nR (List.range k)))]) (fun k=>k<=s.names.length) (fun k=>s.names.length - k) (0) (Taj _) (fun k hk=>?_);clear F;by_cases hlt:k < s.names.length
 ·have q1:(k:Int) < (s.names.length:Int):=om;have hw:=Zan (k:=k) om;have l2:=Za0 (l:=List.range k);rw [List.length_range] at l2;have l3:=ZaX (l:=List.range k);have l4:=Zio (l:=List.range k) k;rw [<- List.range_succ] at l4;have hmx:(k+1<=maxApp)=True:=eq_true (by unfold maxApp;omega);have F:=aj6 @q1 @l2 @l3 @l4 @hmx @hw;refine gG ?_;exact ⟨k+1,hlt,gw,gw,om⟩
 obtain rfl:k=s.names.length:=by omega
 have q1:¬ ((s.names.length:Int) < (s.names.length:Int)):=om;have hU:=KOk.start s.names.length;refine fG @q1 ?_;have F:=@Zvj;refine gL (ι:=Nat) [3,5,6,7,8,9,25,32] [3] (fun j=>[(5,A.d (.one (.lit (.int .i64 j)))),(3,.buf 3)]) (fun j=>[(3,.buf none 3 1 (nR (Zef s.subs j (List.range s.names.length))))]) (fun j=>j<=s.names.length) (fun j=>s.names.length - j) (0) (Taj _) (fun j hj=>?_);clear F;have hUj:=KOk.iter hs j hU
 have l0:=Za0 (l:=Zef s.subs j (List.range s.names.length));rw [hUj.1] at l0;by_cases hlj:j < s.names.length;rotate_left
 ·obtain rfl:j=s.names.length:=by omega
  have q2:¬ ((s.names.length:Int) < (s.names.length:Int)):=om;rw [kinds];refine fG (ai @l0 @q2) ?_;have F:=@e0P;refine gG ?_;exact gTz [2]
 have q2:(j:Int) < (s.names.length:Int):=om;have hwj:=Zan (k:=j) om;have hnx:Zef s.subs (j+1) (List.range s.names.length)=s.subs.foldl kSub (Zef s.subs j (List.range s.names.length)):=rfl;generalize Zef s.subs j (List.range s.names.length)=u at hUj hnx l0 ⊢;refine fG (ai @l0 @q2) ?_;have F:=@ZzZ;refine gL (ι:=Nat) [3,6,7,8,9,32] [3] (fun i=>[(6,A.d (.one (.lit (.int .i64 i)))),(3,.buf 3)]) (fun i=>[(3,.buf none 3 1 (nR ((s.subs.take i).foldl kSub u)))]) (fun i=>i<=s.subs.length) (fun i=>s.subs.length - i) (0) (Taj _) (fun i hi=>?_);clear F
 by_cases hli:i < s.subs.length;rotate_left
 ·obtain rfl:i=s.subs.length:=by omega
  have q3:¬ ((s.subs.length:Int) < (s.subs.length:Int)):=om;rw [Tap,<- hnx];have F:=ai @q3 @hwj;refine gG ?_;exact ⟨j+1,hlj,gw,gw,om⟩
 have q3:(i:Int) < (s.subs.length:Int):=om;have hwi:=Zan (k:=i) om;obtain ⟨p,hp⟩:∃ p,s.subs[i]?=some p:=⟨_,Taa hli⟩;have hps:=hs p (Tac hp);have hst:=Zo0 hp u;have hUi:=KOk.foldl hUj (hs.take i);generalize (s.subs.take i).foldl kSub u=v at hUi hst ⊢;obtain ⟨g1,b1⟩:=hUi.get (i:=p.1.toNat) om;obtain ⟨g2,b2⟩:=hUi.get (i:=p.2.toNat) om;have l1:=ZaZ g1;have l2:=ZaZ g2;have l3:=Za0 (l:=v);rw [hUi.1] at l3
 have l4:=ZaX (l:=v);have l5:=ZcZ (l:=v) p.1.toNat (min (v.getD p.1.toNat 0) (v.getD p.2.toNat 0));have l6:=ZcZ (l:=v.set p.1.toNat (min (v.getD p.1.toNat 0) (v.getD p.2.toNat 0))) p.2.toNat (min (v.getD p.1.toNat 0) (v.getD p.2.toNat 0));have l7:=Za0 (l:=v.set p.1.toNat (min (v.getD p.1.toNat 0) (v.getD p.2.toNat 0)));rw [Taz,hUi.1] at l7;have l8:=ZaX (l:=v.set p.1.toNat (min (v.getD p.1.toNat 0) (v.getD p.2.toNat 0)))
 obtain ⟨x9,g9⟩:∃ x,(v.set p.1.toNat (min (v.getD p.1.toNat 0) (v.getD p.2.toNat 0)))[p.2.toNat]?=some x:=⟨_,Taa (by rw [Taz,hUi.1];omega)⟩;have l9:=ZaZ g9;have i1:0<=p.1:=hps.1;have i2:0<=p.2:=hps.2.2.1;have i3:p.1.toNat < s.names.length:=om;have i4:p.2.toNat < s.names.length:=om;have hst:(s.subs.take (i+1)).foldl kSub u=(v.set p.1.toNat (min (v.getD p.1.toNat 0) (v.getD p.2.toNat 0))).set p.2.toNat (min (v.getD p.1.toNat 0) (v.getD p.2.toNat 0)):=hst
 refine fN 12 @q3 ?_;refine Zaq 14 (by decide +kernel) ?_;intro ds hds;simp only [List.map] at hds;subst hds;refine (have F:=ai hp ZcI;gP 12 ?_);refine (have F:=i1;gAq ?_);refine (have F:=i1;gAq ?_);refine fR @i1 ?_;refine fN 13 @e0P ?_;refine gB ?_;refine fC (aj8 @l1 @l2 @l3 @l4 @i1 @i2 @i3 @i4) (ZzY (v.getD p.1.toNat 0) (v.getD p.2.toNat 0)) ?_;refine fR @e0P ?_;have F:=aj15 @l1 @l2 @l3 @l4 @l5 @l6 @l7 @l8 @l9 @i1 @i2 @i3 @i4 @hwi @hst;refine gG ?_;exact ⟨i+1,hli,gw,gw,om⟩
theorem Ze9 (hs:SortsOk s):Con e0 270 [.agg (Zbh s)] [.one (.sl ((Zcw (kinds s)).map ZaK))]:=Zrm hs.n8 hs.m16 (SortsOk.subsIn hs.subs)
end
theorem Zm1 {x k:Nat} (hx:x < 4611686018427387904) (hk:k < 62):decide (bits .and .i64 (x:Int) ((2 ^ k:Nat):Int)=0)=!(tbit x k):=by
 rw [tbit,<- testBit_and,Zee hx (Zhf hk)];simp only [bne,Bool.not_not];rw [Bool.eq_iff_iff,decide_eq_true_eq,beq_iff_eq];omega
theorem Zwb {a:Nat} (ha:a < 65536):Con e0 208 [.one (.lit (.int .i64 a))] [.one (.sl (nR (Ze8 a)))]:=by
 have cS:=ZzW (a:Int);have z0:decide (0<=(a:Int)∧(a:Int)<=65535)=true:=decide_eq_true om;rw [z0] at cS;refine gI 264221 Tryz.func208 ?_;refine fG @e0P ?_;have F:=@ZEo;refine gL (ι:=Nat) [3,4,11,18] [3] (fun k=>[(4,A.d (.one (.lit (.int .i64 k)))),(3,.buf 3)]) (fun k=>[(3,.buf none 3 1 (nR (ZcY a k)))]) (fun k=>k<=16) (fun k=>16 - k) (0) om (fun k hk=>?_);clear F;by_cases hlt:k < 16;rotate_left
 ·obtain rfl:k=16:=by omega
  have q1:¬ (((16:Nat):Int) < 16):=om;rw [show Ze8 a=ZcY a 16 from rfl];refine fG @q1 ?_;have F:=@e0P;refine gG ?_;exact gTz [2]
 have q1:=lT k 16;have hw:=Zan (k:=k) om;have h1:=ZgR (k:=k) om;have h2:=Zm1 (x:=a) (k:=k) om om;refine fN 3 @e0P ?_;refine gB ?_;refine fC @q1 (cS) ?_;refine fR @q1 ?_;have l2:=Za0 (l:=ZcY a k);have l3:=ZaX (l:=ZcY a k);have l4:=Zio (l:=ZcY a k) k;have hmx:((ZcY a k).length+1<=maxApp)=True:=eq_true (by have:=ZmX a k;unfold maxApp;omega)
 cases hb:tbit a k with
 | false =>
  rw [hb] at h2;rw [<- ZzT hb];have F:=aj5 @q1 @h1 @h2 @Zal @hw;refine gG ?_;exact ⟨k+1,hlt,gw,gw,om⟩
 | true =>
  rw [hb] at h2;rw [<- Zwa hb] at l4;have F:=aj9 @q1 @h1 @h2 @Zal @l2 @l3 @l4 @hmx @hw;refine gG ?_;exact ⟨k+1,hlt,gw,gw,om⟩
end Go.Proofs.YtcgacanpeaiabaaGreatDoor
