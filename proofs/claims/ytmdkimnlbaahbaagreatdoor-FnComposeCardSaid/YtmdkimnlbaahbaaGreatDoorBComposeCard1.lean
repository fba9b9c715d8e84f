/-
  Part of a proof.
-/
import Derived.Test.YtmdkimnlbaahbaaGreatDoorBComposeCard0
import Derived.Test.YtmdkimnlbaahbaaGreatDoorChecked
import Derived.Test.YtmdkimnlbaahbaaGreatDoorRows
import Derived.Lib.LaidTab
import Derived.HandedShaped
import Derived.LaidMore
import Derived.LaidLaws
import Derived.ProofKit
import Derived.Stop.Joined
import Derived.Stop.LaidErr
import Derived.Lib.Bytealg
import Derived.Deep.RegionHeld3
import Derived.Deep.QuietTactic
import Derived.BigQuiet
import Derived.MapKept
import Derived.ChangeMaps5
import Derived.Laws.StructEq
set_option linter.unusedSimpArgs false
set_option linter.unusedVariables false
set_option maxHeartbeats 400000000
set_option maxRecDepth 100000
namespace Go.Proofs.YtmdkimnlbaahbaaGreatDoor
open Go.RowKit
section
variable {e:Env} {U:Nat->Prop} {w0:World} {S0:Nat->Prop} {nt:Nat}
theorem SimE.drew {σ:St} {a:Act} {w:World} (he:e.Ok) (h:SimE e U w0 S0 nt σ a w):SimE e U w0 S0 nt σ a { w with drawn:=w.drawn+1 }:=by
 obtain ⟨S,L,h⟩:=h;have hk:Kept e.D e.E w.heap.size w { w with drawn:=w.drawn+1 }:=⟨rfl,rfl,rfl,fun _=>Nat.le_succ _,Tai _,fun _ _ _=>rfl⟩;exact ⟨S,L,h.later (h.cls.later hk (he.keep w _ (Tai _) (fun _ _=>rfl) h.cls.g) (fun _ h=>h) (fun _ h=>.inl h)) hk (fun _ h=>h)⟩
theorem ZjQ (he:e.Ok) {id:Nat} {ops:Array Oper} {n:Nat} (hB:regB ops n=true) (hna:∀ o,(ops.toList.take n).getLast?=some o->isAl o=false) {K:St->Prop} {Q:Exit->Act->World->Prop} (hQ:∀ a w σ',K σ'->SimE e U w0 S0 nt σ' a w->Q .normal a w) {σ:St} {a:Act} {w:World}
  (hd:∀ o∈ops.toList,∀ d,o.dst=some d->d < nt) (h:SimE e U w0 S0 nt σ a w) (hp:Runs e (ops.toList.map (·.dst)) n ops.toList σ K):(Code.region id ops true).wp e.P Q a w:=by
 simp only [regB,Tar,Bool.or_eq_true,decide_eq_true_eq] at hB;obtain ⟨⟨⟨hH,hn⟩,hs⟩,hsq⟩:=hB;obtain ⟨S,L,h1⟩:=h.drew he;refine wp_region_any he.mixed ?_;have hsplit:ops.toList=ops.toList.take n++ops.toList.drop n:=(Tbm n _).symm;have hlen:(ops.toList.take n).length=n:=by simp;omega
 have hp':Runs e (ops.toList.map (·.dst)) ((ops.toList.take n).length+0) (ops.toList.take n++ops.toList.drop n) σ K:=by rw [<- hsplit,hlen];exact hp
 obtain ⟨αs,hal,hch,hrest⟩:=Zda (U:=U) he w0.heap.size S0 ops.toList (ops.toList.drop n) 0 (ops.toList.take n) σ (fun _=>hna) hp';rw [hlen] at hal
 have inv0:InvA e U w0 S0 nt σ.m ops n σ.s αs L (Array.replicate ops.size false) a { w with drawn:=w.drawn+1 } S :=
  ⟨⟨by simp,fun j oj _ hl=>(by rw [getD_replicate_false] at hl;cases hl),fun t _ ht=>getD_in (by simpa using ht) (getD_replicate_false _ _)⟩,h1.size,h1.defers,h1.cls,h1.kept,fun t _=>h1.rel t,fun i o d α _ hl=>(by rw [getD_replicate_false] at hl;cases hl)⟩
 have H:=Zdj (e:=e) (L:=L) (Q:=Q) he hH hn (fun hlt=>by
   rcases hs with hs | hs
   ·omega
   ·exact hs) hsq (fun i o d hi ho hdd=>hd o (List.mem_iff_getElem?.2 ⟨i,by simpa using ho⟩) d hdd) hal hch (Zha hH Q) (fun _ _ _ _ _ _ _ _ _ _ _ _ _ _=>trivial) (fun listed a' w' S' hI _ hall=>?_) n _ a _ S inv0 trivial ?_
 ·rw [show n+(ops.size - n)=ops.size by omega] at H;exact H
 ·have hsim:SimE e U w0 S0 nt ⟨after σ.s (ops.toList.take n) αs,σ.m⟩ a' w':=by
   refine ⟨S',L,hI.cls,fun t=>?_,hI.size,hI.defers,hI.kept⟩;by_cases hex:∃ (j:Nat) (p:Oper),j < n∧ops[j]?=some p∧p.dst=some t
   ·obtain ⟨j,p,hj,hp,hpt⟩:=hex;obtain ⟨p',d',hP⟩:=Zb7.get hH hj;have hpp:p'=p:=by have:=hP.op;rw [hp] at this;injection this with this;exact this.symm
    subst hpp;have hdt:d'=t:=by have:=hP.dst;rw [hpt] at this;injection this with this;exact this.symm
    subst hdt;obtain ⟨α,hα⟩:∃ α,αs[j]?=some α:=⟨αs[j],Taa om⟩;show ARel w' S' L (gs (after σ.s (ops.toList.take n) αs) d') _;rw [Zdi (ops.toList.take n) αs σ.s j p' α (by rw [List.getElem?_take,if_pos hj];simpa using hp) hα hpt (fun k q hk hq=>by
     rw [List.getElem?_take] at hq;split at hq
     ·exact (hP.dep k q om (by simpa using hq)).1 hk
     ·cases hq)]
    exact hI.done j p' d' α hj (hall j hj) hp hpt hα
   ·have hno:∀ (j:Nat) (p:Oper),j < n->ops[j]?=some p->p.dst≠some t:=fun j p hj hp hd=>hex ⟨j,p,hj,hp,hd⟩;show ARel w' S' L (gs (after σ.s (ops.toList.take n) αs) t) _;rw [Zcj _ _ _ (fun p hp=>by
     obtain ⟨j,hj⟩:=List.mem_iff_getElem?.1 hp;rw [List.getElem?_take] at hj;split at hj
     ·exact hno j p om (by simpa using hj)
     ·cases hj)]
    exact hI.out t hno
  have:=Zhz he ops.toList hQ (ops.toList.drop n) _ a' w' (fun o ho=>hd o (List.mem_of_mem_drop ho)) hsim hrest;simpa using this
 ·rw [List.countP_eq_length.2]
  ·simp
  ·intro i hi;have hi':=List.mem_range.1 hi;have hsz:i < (Array.replicate ops.size false).size:=by simp;omega
   rw [Zbf hsz,getD_replicate_false];rfl
theorem Zkm (mask t:Nat):∀ (s:List (Nat × A)),gs (Zdn mask s) t=gs s t∨gs (Zdn mask s) t=.undef
 | []=>.inl rfl
 | (k,a)::r=>by
  have key:∀ (s:List (Nat × A)),mask.testBit t=false->gs (Zdn mask s) t=.undef:=by
   intro s ht
   induction s with
   | nil=>rfl
   | cons p s ih =>
    obtain ⟨k,a⟩:=p;simp only [Zdn];split
    ·rename_i hk;have:t≠k:=fun e=>by rw [e,hk] at ht;cases ht
     simp only [gs,this,if_false];exact ih
    ·exact ih
  cases ht:mask.testBit t with
  | false=>exact .inr (key _ ht)
  | true =>
   left;have key2:∀ (s:List (Nat × A)),gs (Zdn mask s) t=gs s t:=by
    intro s
    induction s with
    | nil=>rfl
    | cons p s ih =>
     obtain ⟨k,a⟩:=p;simp only [Zdn];split
     ·simp only [gs,ih]
     ·rename_i hk;have:t≠k:=fun e=>hk (by rw [<- e];exact ht);simp only [gs,this,if_false];exact ih
   exact key2 _
theorem ZhY {s:List (Nat × A)} {t:Nat}:∀ {r:List (Nat × A)},ZcK s r->gs r t=gs s t∨gs r t=.undef
 | [],_=>.inr rfl
 | (k,a)::r,h=>by
  simp only [ZcK] at h;simp only [gs];split
  ·rename_i e;rw [e];exact .inl h.1.symm
  ·exact ZhY h.2
theorem ZhZ {m:List (Nat × Bk)} {t:Nat}:∀ {r:List (Nat × Bk)} {cs:Bk},ZcL m r->gm r t=some cs->gm m t=some cs
 | [],_,_,h=>by simp [gm] at h
 | (k,a)::r,cs,h,hg=>by
  simp only [ZcL] at h;simp only [gm] at hg;split at hg
  ·rename_i e;rw [e,h.1];exact hg
  ·exact ZhZ h.2 hg
theorem SimE.weak {σ σ':St} {a:Act} {w:World} (h:SimE e U w0 S0 nt σ a w) (hs:∀ t,gs σ'.s t=gs σ.s t∨gs σ'.s t=.undef) (hm:∀ t cs,gm σ'.m t=some cs->gm σ.m t=some cs):SimE e U w0 S0 nt σ' a w:=by
 obtain ⟨S,L,h⟩:=h;refine ⟨S,L,⟨h.cls.sin,h.cls.sfr,h.cls.ein,h.cls.uin,h.cls.bsz,fun k x g hk=>h.cls.mine k x g (hm k x hk),fun k x hk=>h.cls.own k x (hm k x hk),fun k k' x x' g h1 h2=>h.cls.inj k k' x x' g (hm _ _ h1) (hm _ _ h2),h.cls.g⟩,fun t=>?_,h.size,h.defers,h.kept⟩;rcases hs t with h1 | h1
 ·rw [h1];exact h.rel t
 ·rw [h1];trivial
theorem ZjR {m:List (Nat × Bk)} {base:Nat} {ρ:Operand->A} {o:Oper} {t:TypeId} {v:Value} {i:TypeInfo} (he:e.Ok) (ho:o.op=.alloc t) (hi:e.P.info? t=some i) (hv:i.zero=some v):ZaW e U base S0 m o ρ .undef:=by
 intro w S L ρv hC hr;have hb:Below w.heap.size w (w.alloc (.cells v.cells t)):=ZdW w _;unfold gives;have hrun:(execOp ρv o).run e.P w=.ok (.value (.pointer (some ⟨w.heap.size,0,none⟩))) (w.alloc (.cells v.cells t)):=by
  simp [execOp,ho,Instr.alloc,zeroValue,typeInfo,hi,hv,newVar,newRow,Result.andThen]
 rw [hrun];have hk:Kept e.D e.E w.heap.size w (w.alloc (.cells v.cells t)):=Kept.of_below hb (fun _=>Tai _);exact ⟨S,⟨fun _ h=>h,fun _ h=>.inl h⟩,hC.later hk (he.keep _ _ hb.size (fun b hE=>hb.block b (Tbd (hC.ein b hE) hC.bsz)) hC.g) (fun _ h=>h) (fun _ h=>.inl h),hk,trivial⟩
def Zf5 (e:Env) (base p d:Nat) (m:List (Nat × Bk)) (L:Lay) (t:TypeId) (v:Value) (listed:Array Bool) (a:Act) (w:World) (S:Nat->Prop):Prop :=
 listed.getD p false=true->∃ b,a.tmps.getD d undef=.pointer (some ⟨b,0,none⟩)∧base<=b∧b < w.heap.size∧¬ S b∧(∀ k bk,gm m k=some bk->¬ Zay L k bk b)∧w.heap[b]?=some (.cells v.cells t)
theorem Cls.blk_lt {m:List (Nat × Bk)} {base:Nat} {w:World} {S:Nat->Prop} {L:Lay} (h:Cls e U base S0 m w S L) {k:Nat} {bk:Bk} {g:Nat} (hk:gm m k=some bk) (hg:Zay L k bk g):g < w.heap.size:=by
 have ho:=h.own k bk hk;exact (Own1.lt ho hg).1
theorem Zgr (he:e.Ok) {ops:Array Oper} {p:Nat} (hAl:ZeE ops p=true) (hB:regB ops (p+1)=true) {K:St->Prop} {Q:Exit->Act->World->Prop} (hQ:∀ a w σ',K σ'->SimE e U w0 S0 nt σ' a w->Q .normal a w) {σ:St} {a:Act} {w:World}
  (hd:∀ o∈ops.toList,∀ d,o.dst=some d->d < nt) (h:SimE e U w0 S0 nt σ a w) (hp:Runs e (ops.toList.map (·.dst)) (p+1) ops.toList σ K):wpAny e.P .any ops Q ops.size (Array.replicate ops.size false) a w:=by
 simp only [regB,Tar,Bool.or_eq_true,decide_eq_true_eq] at hB;obtain ⟨⟨⟨hH,hn⟩,hs⟩,hsq⟩:=hB;unfold ZeE at hAl;split at hAl;rotate_left
 ·cases hAl
 rename_i o0 hop;unfold isAl at hAl;split at hAl;rotate_left
 ·cases hAl
 rename_i d t ty pos af;obtain ⟨S,L,h1⟩:=h;have hsplit:ops.toList=ops.toList.take p++ops.toList.drop p:=(Tbm p _).symm;have hlen:(ops.toList.take p).length=p:=by simp;omega
 have hp':Runs e (ops.toList.map (·.dst)) ((ops.toList.take p).length+1) (ops.toList.take p++ops.toList.drop p) σ K:=by rw [<- hsplit,hlen];exact hp
 obtain ⟨αs0,hal0,hch0,hrest0⟩:=Zda (U:=U) he w0.heap.size S0 ops.toList (ops.toList.drop p) 1 (ops.toList.take p) σ (fun h=>absurd h (by decide)) hp';rw [hlen] at hal0;have hpl:ops.toList[p]?=some ⟨some d,.alloc t,ty,pos,af,none⟩:=by simpa using hop
 have hdrop:ops.toList.drop p=⟨some d,.alloc t,ty,pos,af,none⟩::ops.toList.drop (p+1):=by
  rw [List.drop_eq_getElem_cons (Tad.1 hpl).1,(Tad.1 hpl).2]
 have htake:ops.toList.take (p+1)=ops.toList.take p++[⟨some d,.alloc t,ty,pos,af,none⟩]:=ZcC hpl;rw [hdrop] at hrest0;simp only [Runs,isAl,and_self,if_true] at hrest0;obtain ⟨d0,t0,cs,hd0,ht0,hz,hrest⟩:=hrest0;injection hd0 with hd0
 subst hd0;injection ht0 with ht0
 subst ht0;unfold Za3 at hz;simp only [Tav,Option.bind_eq_some_iff] at hz;obtain ⟨v,⟨i,hi,hv⟩,hcs⟩:=hz;have hG:=fun (ρ:Operand->A)=>ZjR (U:=U) (S0:=S0) (m:=σ.m) (base:=w0.heap.size) (ρ:=ρ) (o:=⟨some d,.alloc t,ty,pos,af,none⟩) he rfl hi hv;have hal:(αs0++[A.undef]).length=p+1:=by simp [hal0]
 have chain_snoc:∀ (os:List Oper) (s:List (Nat × A)) (αs:List A),Zci e U w0.heap.size S0 σ.m ops.toList os s αs->Zci e U w0.heap.size S0 σ.m ops.toList (os++[⟨some d,.alloc t,ty,pos,af,none⟩]) s (αs++[A.undef]):=by
  intro os
  induction os with
  | nil =>
   intro s αs hc
   cases αs with
   | nil=>exact ⟨hG _,trivial⟩
   | cons x xs=>simp [Zci] at hc
  | cons o os ih =>
   intro s αs hc
   cases αs with
   | nil=>simp [Zci] at hc
   | cons x xs=>exact ⟨hc.1,ih _ _ hc.2⟩
 have after_snoc:∀ (os:List Oper) (s:List (Nat × A)) (αs:List A),αs.length=os.length->after s (os++[⟨some d,.alloc t,ty,pos,af,none⟩]) (αs++[A.undef])=(d,A.undef)::after s os αs:=by
  intro os
  induction os with
  | nil =>
   intro s αs hl
   cases αs with
   | nil=>rfl
   | cons x xs=>simp at hl
  | cons o os ih =>
   intro s αs hl
   cases αs with
   | nil=>simp at hl
   | cons x xs=>exact ih _ _ (by simpa using hl)
 have hch:Zci e U w0.heap.size S0 σ.m ops.toList (ops.toList.take (p+1)) σ.s (αs0++[A.undef]):=by rw [htake];exact chain_snoc _ _ _ hch0
 have haf:after σ.s (ops.toList.take (p+1)) (αs0++[A.undef])=(d,A.undef)::after σ.s (ops.toList.take p) αs0:=by rw [htake];exact after_snoc _ _ _ (by rw [hal0,hlen])
 have inv0:InvA e U w0 S0 nt σ.m ops (p+1) σ.s (αs0++[A.undef]) L (Array.replicate ops.size false) a w S :=
  ⟨⟨by simp,fun j oj _ hl=>(by rw [getD_replicate_false] at hl;cases hl),fun t _ ht=>getD_in (by simpa using ht) (getD_replicate_false _ _)⟩,h1.size,h1.defers,h1.cls,h1.kept,fun t _=>h1.rel t,fun i o d α _ hl=>(by rw [getD_replicate_false] at hl;cases hl)⟩
 have hJ0:Zf5 e w0.heap.size p d σ.m L t v (Array.replicate ops.size false) a w S:=fun hl=>by rw [getD_replicate_false] at hl;cases hl
 have hA0:∀ {i':Nat} {o':Oper} {d':Nat},HeadAt ops (p+1) i' o' d'->i'≠p->d'≠d:=fun hA hne e'=>by
  have:=(hA.dep p _ om hop).1 (Ne.symm hne);exact this (by rw [e'])
 have hgo:ZiF e U w0 S0 nt σ.m ops (p+1) σ.s (αs0++[A.undef]) L (Zf5 e w0.heap.size p d σ.m L t v) Q:=by
  intro listed a w S i' o' d' α hI hJ hA hin hr hdn hα hopd hG';by_cases hip:i'=p
  ·subst hip;have ho':o'=⟨some d,.alloc t,ty,pos,af,none⟩:=by have:=hA.op;rw [hop] at this;injection this with this;exact this.symm
   subst ho';have hdd:d'=d:=by have:=hA.dst;injection this with this;exact this.symm
   subst hdd;have hau:α=A.undef:=by rw [Tbq om,hal0] at hα;simpa using hα.symm
   subst hau;unfold Oper.wp;have hrun:(execOp a.eval ⟨some d',.alloc t,ty,pos,af,none⟩).run e.P w=.ok (.value (.pointer (some ⟨w.heap.size,0,none⟩))) (w.alloc (.cells v.cells t)):=by
    simp [execOp,Instr.alloc,zeroValue,typeInfo,hi,hv,newVar,newRow,Result.andThen]
   have hb:Below w.heap.size w (w.alloc (.cells v.cells t)):=ZdW w _;have hk:Kept e.D e.E w.heap.size w (w.alloc (.cells v.cells t)):=Kept.of_below hb (fun _=>Tai _);have hC:=hI.cls;have hC':Cls e U w0.heap.size S0 σ.m (w.alloc (.cells v.cells t)) S L:=hC.later hk (he.keep _ _ hb.size (fun b hE=>hb.block b (Tbd (hC.ein b hE) hC.bsz)) hC.g) (fun _ h=>h) (fun _ h=>.inl h);rw [hrun,Oper.upon_value];refine ⟨S,hI.put hH hA hin hr hdn hα (fun _ h=>h) hC' hk trivial,fun _=>⟨w.heap.size,?_,hC.bsz,by simp,fun hs=>by have:=(hC.sin _ hs).1;omega,fun k bk hk hg=>by have:=hC.blk_lt hk hg;omega,heap_alloc_new w _⟩⟩
   rw [ZbW (by rw [hI.size];exact hdn)];simp
  ·refine Zc0 (hG' w S L a.eval hI.cls hopd) fun v' w' ⟨S',hS,hC,hk,hv'⟩=>⟨S',hI.put hH hA hin hr hdn hα hS.1 hC hk hv',fun hl=>?_⟩;rw [getD_set_ne false hip] at hl;obtain ⟨b,q1,q2,q3,q4,q5,q6⟩:=hJ hl;refine ⟨b,?_,q2,Tbd q3 hk.size,fun hs=>?_,q5,?_⟩
   ·rw [hA.dst,ZbW (by rw [hI.size];exact hdn),if_neg (Ne.symm (hA0 hA hip))];exact q1
   ·rcases hS.2 b hs with hs | hs
    ·exact q4 hs
    ·omega
   ·rw [hk.block b q3 (fun hE=>by have:=hI.cls.ein b hE;omega)];exact q6
 have hskp:∀ (listed:Array Bool) (a:Act) (w:World) (S:Nat->Prop) (i':Nat) (o':Oper) (d':Nat),Zf5 e w0.heap.size p d σ.m L t v listed a w S->InvA e U w0 S0 nt σ.m ops (p+1) σ.s (αs0++[A.undef]) L listed a w S->HeadAt ops (p+1) i' o' d'->i' < p+1->i'∈Region.ready .any ops listed->d' < nt->o'.guard≠none->Zf5 e w0.heap.size p d σ.m L t v (listed.setIfInBounds i' true) (a.put o'.dst undef) w S:=by
  intro listed a w S i' o' d' hJ hI hA hin hr hdn hg hl;have hip:i'≠p:=fun e'=>by
   subst e';have:=hA.op;rw [hop] at this;injection this with this
   rw [<- this] at hg;exact hg rfl
  rw [getD_set_ne false hip] at hl;obtain ⟨b,q1,q2⟩:=hJ hl;refine ⟨b,?_,q2⟩;rw [hA.dst,ZbW (by rw [hI.size];exact hdn),if_neg (Ne.symm (hA0 hA hip))];exact q1
 have H:=Zdj (e:=e) (L:=L) (Q:=Q) he hH hn (fun hlt=>by
   rcases hs with hs | hs
   ·omega
   ·exact hs) hsq (fun i o d hi ho hdd=>hd o (List.mem_iff_getElem?.2 ⟨i,by simpa using ho⟩) d hdd) hal hch hgo hskp (fun listed a' w' S' hI hJ hall=>?_) (p+1) _ a _ S inv0 hJ0 ?_
 ·rw [show p+1+(ops.size - (p+1))=ops.size by omega] at H;exact H
 ·have hsim:Sim e U w0 S0 nt ⟨after σ.s (ops.toList.take (p+1)) (αs0++[A.undef]),σ.m⟩ a' w' S' L:=by
   refine ⟨hI.cls,fun t=>?_,hI.size,hI.defers,hI.kept⟩;by_cases hex:∃ (j:Nat) (p':Oper),j < p+1∧ops[j]?=some p'∧p'.dst=some t
   ·obtain ⟨j,p0,hj,hp,hpt⟩:=hex;obtain ⟨p',d',hP⟩:=Zb7.get hH hj;have hpp:p'=p0:=by have:=hP.op;rw [hp] at this;injection this with this;exact this.symm
    subst hpp;have hdt:d'=t:=by have:=hP.dst;rw [hpt] at this;injection this with this;exact this.symm
    subst hdt;obtain ⟨α,hα⟩:∃ α,(αs0++[A.undef])[j]?=some α:=⟨(αs0++[A.undef])[j],Taa om⟩;show ARel w' S' L (gs (after σ.s (ops.toList.take (p+1)) (αs0++[A.undef])) d') _;rw [Zdi (ops.toList.take (p+1)) (αs0++[A.undef]) σ.s j p' α (by rw [List.getElem?_take,if_pos hj];simpa using hp) hα hpt (fun k q hk hq=>by
     rw [List.getElem?_take] at hq;split at hq
     ·exact (hP.dep k q om (by simpa using hq)).1 hk
     ·cases hq)]
    exact hI.done j p' d' α hj (hall j hj) hp hpt hα
   ·have hno:∀ (j:Nat) (p':Oper),j < p+1->ops[j]?=some p'->p'.dst≠some t:=fun j p' hj hp hd=>hex ⟨j,p',hj,hp,hd⟩;show ARel w' S' L (gs (after σ.s (ops.toList.take (p+1)) (αs0++[A.undef])) t) _;rw [Zcj _ _ _ (fun p' hp=>by
     obtain ⟨j,hj⟩:=List.mem_iff_getElem?.1 hp;rw [List.getElem?_take] at hj;split at hj
     ·exact hno j p' om (by simpa using hj)
     ·cases hj)]
    exact hI.out t hno
  rw [haf] at hsim;obtain ⟨b,q1,q2,q3,q4,q5,q6⟩:=hJ (hall p om);have hdn:d < nt:=hd _ (List.mem_iff_getElem?.2 ⟨p,hpl⟩) d rfl;have hrv:=Zb9 (w:=w') (S:=S') v.cells.toList;rw [hcs] at hrv
  have hsimB:=hsim.bornE (bk:=.var none cs) (w':=w') (b':=b) (v':=undef) (u:=a'.tmps.getD d undef) (τ:=some b) (s1:=(d,A.undef)::after σ.s (ops.toList.take p) αs0) (m1:=σ.m) (α:=.ref d 0) (S':=S') hdn (fun _ h=>h) (fun _ h=>.inl h) (fun t=>.inl rfl) (fun k x h=>h)
   (fun g hg=>by injection hg with hg;subst hg;exact ⟨q4,fun hE=>by have:=hI.cls.ein _ hE;omega,.inl q2⟩) (fun k x g hkd hx hg hb=>by injection hg with hg;subst hg;exact q5 k x hx hb)
   (Kept.refl _ _ _ _) hI.cls.g (by
    simp only [Own1,if_true];refine ⟨by simp,q3,q4,⟨v.cells,t,q6,by have:=hrv.len;simpa using this⟩,?_⟩;exact Zaj.of_vals cs v.cells.toList 0 hrv (fun j u hj=>by
     rw [Nat.zero_add];have hj':v.cells[j]?=some u:=by simpa using hj
     simp [World.cell?,q6,hj']))
   (fun g hg=>by simp only [Zay,if_true] at hg;exact .inl (by rw [hg])) (by simp [ARel,q1])
  have hsimD:SimE e U w0 S0 nt ⟨(d,.ref d 0)::Zaq d ((d,A.undef)::after σ.s (ops.toList.take p) αs0),(d,.var none cs)::remM d σ.m⟩ a' w':=by
   obtain ⟨S2,L2,k1,k2,k3,k4,k5⟩:=hsimB;refine ⟨S2,L2,k1,fun t=>?_,hI.size,hI.defers,k5⟩;have:=k2 t;rw [ZbW (by rw [hI.size];exact hdn)] at this;by_cases ht:t=d
   ·rw [if_pos ht] at this;rw [ht];rw [ht] at this;exact this
   ·rw [if_neg ht] at this;exact this
  have hsimC:SimE e U w0 S0 nt ⟨(d,.ref d 0)::Zaq d (after σ.s (ops.toList.take p) αs0),(d,.var none cs)::remM d σ.m⟩ a' w':=SimE.weak hsimD (fun t=>.inl (by
   by_cases ht:t=d
   ·simp [gs,ht]
   ·simp [gs,ht,Zaq])) (fun t x hx=>hx)
  have:=hrest he U w0 S0 nt a' w' ops.toList Q rfl (fun o ho=>hd o (List.mem_of_mem_drop ho)) hQ hsimC;simpa using this
 ·rw [List.countP_eq_length.2]
  ·simp
  ·intro i hi;have hi':=List.mem_range.1 hi;have hsz:i < (Array.replicate ops.size false).size:=by simp;omega
   rw [Zbf hsz,getD_replicate_false];rfl
theorem Zoi (he:e.Ok) {id:Nat} {ops:Array Oper} {p:Nat} (hAl:ZeE ops p=true) (hB:regB ops (p+1)=true) {K:St->Prop} {Q:Exit->Act->World->Prop} (hQ:∀ a w σ',K σ'->SimE e U w0 S0 nt σ' a w->Q .normal a w) {σ:St} {a:Act} {w:World}
  (hd:∀ o∈ops.toList,∀ d,o.dst=some d->d < nt) (h:SimE e U w0 S0 nt σ a w) (hp:Runs e (ops.toList.map (·.dst)) (p+1) ops.toList σ K):(Code.region id ops true).wp e.P Q a w:=wp_region_any he.mixed (Zgr he hAl hB hQ hd (h.drew he) hp)
theorem ZnE {P:Program} {Q:Exit->Act->World->Prop} {c:Code} {ι:Type} (I:ι->Act->World->Prop) (μ:ι->Nat) (i0:ι) {a:Act} {w:World} (h₀:I i0 a w)
  (round:∀ i a w,I i a w->c.wp P (Exit.then (fun a' w'=>∃ j,I j a' w'∧μ j < μ i) Q) a w):(Code.loop c).wp P Q a w:=by
 intro b k cs
 have key:∀ n i a w,μ i=n->I i a w ->
   ∃ e a' w',Q e a' w'∧Arrives P (lone (b.at a (.code c::.inLoop c::k)) cs w) b k cs e a' w':=by
  intro n
  induction n using Nat.strongRecOn with
  | _ n ih =>
   intro i a w hn hI;obtain ⟨e,a₁,w₁,hq,harr⟩:=round i a w hI b (.inLoop c::k) cs
   cases e with
   | normal =>
    obtain ⟨j,hI₁,hlt⟩:=hq;obtain ⟨e₂,a₂,w₂,hq₂,harr₂⟩:=ih (μ j) (hn ▸ hlt) j a₁ w₁ rfl hI₁;exact ⟨e₂,a₂,w₂,hq₂,.of_steps (Steps.trans harr (.one step_inLoop)) harr₂⟩
   | exit id=>exact ⟨_,a₁,w₁,hq,.pass (x:=.inLoop c) rfl (fun _ _=>.inl (by simp)) harr⟩
   | goto l=>exact ⟨_,a₁,w₁,hq,.pass (x:=.inLoop c) rfl (fun _ _=>.inl (by simp)) harr⟩
   | ret=>exact ⟨_,a₁,w₁,hq,.pass (x:=.inLoop c) rfl (fun _ _=>.inl (by simp)) harr⟩
   | panic ch=>exact ⟨_,a₁,w₁,hq,.pass (x:=.inLoop c) rfl (fun _ _=>.inl (by simp)) harr⟩
   | outgrown=>exact ⟨_,a₁,w₁,hq,.pass (x:=.inLoop c) rfl (fun _ _=>.inl (by simp)) harr⟩
 obtain ⟨e,a',w',hq,harr⟩:=key _ i0 a w rfl h₀;exact ⟨e,a',w',hq,.of_steps (.one step_loop) harr⟩
def Zcf (nt:Nat):Code->Bool
 | .region _ ops _=>ops.toList.all (fun o=>o.dst.all (fun d=>decide (d < nt)))
 | .seq a b=>Zcf nt a && Zcf nt b
 | .cond _ a b=>Zcf nt a && Zcf nt b
 | .block _ c=>Zcf nt c
 | .loop c=>Zcf nt c
 | _=>true
def Then (e:Env) (U:Nat->Prop) (w0:World) (S0:Nat->Prop) (nt:Nat) (K:St->Prop) (a:Act) (w:World):Prop:=∃ σ,K σ∧SimE e U w0 S0 nt σ a w
def LQ (e:Env) (U:Nat->Prop) (w0:World) (S0:Nat->Prop) (nt:Nat) (Q:PX->St->Prop):Exit->Act->World->Prop
 | .normal,a,w=>Then e U w0 S0 nt (Q .normal) a w
 | .exit id,a,w=>Then e U w0 S0 nt (Q (.exit id)) a w
 | .ret,a,w=>Then e U w0 S0 nt (Q .ret) a w
 | _,_,_=>False
def pwp (e:Env) (mask:Nat) (c:Code) (σ:St) (Q:PX->St->Prop):Prop:=e.Ok->∀ (U:Nat->Prop) (w0:World) (S0:Nat->Prop) (nt:Nat) (a:Act) (w:World),Zcf nt c=true->SimE e U w0 S0 nt σ a w->c.wp e.P (LQ e U w0 S0 nt Q) a w
def Zc5 (mask:Nat) (Q:PX->St->Prop) (σ':St):Prop:=Q .normal ⟨Zdn mask σ'.s,σ'.m⟩
end
section
variable {e:Env} {mask:Nat} {σ:St} {Q:PX->St->Prop}
theorem LQ.mono {U:Nat->Prop} {w0:World} {S0:Nat->Prop} {nt:Nat} {Q Q':PX->St->Prop} (hQ:∀ p σ,Q p σ->Q' p σ) {ex:Exit} {a:Act} {w:World} (h:LQ e U w0 S0 nt Q ex a w):LQ e U w0 S0 nt Q' ex a w:=by
 cases ex with
 | normal=>exact h.elim fun σ h=>⟨σ,hQ _ _ h.1,h.2⟩
 | exit id=>exact h.elim fun σ h=>⟨σ,hQ _ _ h.1,h.2⟩
 | ret=>exact h.elim fun σ h=>⟨σ,hQ _ _ h.1,h.2⟩
 | goto l=>exact h
 | panic ch=>exact h
 | outgrown=>exact h
theorem ZxP {Q Q':PX->St->Prop} (hQ:∀ p σ,Q p σ->Q' p σ) (c:Code) (σ:St) (h:pwp e mask c σ Q):pwp e mask c σ Q':=fun he U w0 S0 nt a w hok hs=>wp_mono (h he U w0 S0 nt a w hok hs) fun ex a' w' hq=>hq.mono hQ
theorem Zcc {P:St->Prop} {c:Code} (hT:Turn e σ P) (h:∀ σ',P σ'->pwp e mask c σ' Q):pwp e mask c σ Q:=fun he U w0 S0 nt a w hok hs=>by
 obtain ⟨σ',h1,h2⟩:=hT he U w0 S0 nt a w hs;exact h σ' h1 he U w0 S0 nt a w hok h2
theorem Zoj (h:Q .normal σ):pwp e mask .skip σ Q:=fun he U w0 S0 nt a w hok hs=>wp_skip ⟨σ,h,hs⟩
theorem Zok {id:Nat} (h:Q (.exit id) σ):pwp e mask (.exit id) σ Q:=fun he U w0 S0 nt a w hok hs=>wp_exit ⟨σ,h,hs⟩
theorem Zfc (h:Q .ret σ):pwp e mask .ret σ Q:=fun he U w0 S0 nt a w hok hs=>wp_ret ⟨σ,h,hs⟩
theorem ZkW {id:Nat} {ops:Array Oper} {draw:Bool} (n:Nat) (hn:(if draw then regX ops n else decide (n=0))=true) (hp:Runs e (ops.toList.map (·.dst)) n ops.toList σ (Zc5 mask Q)):pwp e mask (.region id ops draw) σ Q:=fun he U w0 S0 nt a w hok hs=>by
 simp only [Zcf] at hok;have hd:∀ o∈ops.toList,∀ d,o.dst=some d->d < nt:=fun o ho d hd=>by
  have:=List.all_eq_true.1 hok o ho;rw [hd] at this;simpa using this
 have hQ:∀ a w σ',Zc5 mask Q σ'->SimE e U w0 S0 nt σ' a w->LQ e U w0 S0 nt Q .normal a w:=fun a w σ' h1 h2 =>
  ⟨_,h1,h2.weak (fun t=>Zkm mask t σ'.s) (fun _ _ h=>h)⟩
 cases draw with
 | false =>
  have hn:n=0:=by simpa using hn
  subst hn;refine wp_region_list ?_;have:=Zhz he ops.toList hQ ops.toList _ a w hd hs hp;simpa using this
 | true =>
  have hn:regB ops n=true:=by simpa [regX] using hn
  cases n with
  | zero=>exact ZjQ he hn (by simp) hQ hd hs hp
  | succ p =>
   by_cases hA:ZeE ops p=true
   ·exact Zoi he hA hn hQ hd hs hp
   ·refine ZjQ he hn (fun o ho=>?_) hQ hd hs hp;have hle:p+1<=ops.size:=by
     simp only [regB,Tar,decide_eq_true_eq] at hn;exact hn.1.1.2
    have hlt:p < ops.size:=om;have e:(ops.toList.take (p+1)).getLast?=ops[p]?:=by
     rw [List.getLast?_eq_getElem?];simp only [Taw,Array.length_toList,Nat.min_eq_left hle,Nat.add_sub_cancel];rw [List.getElem?_take,if_pos om];simp
    rw [e] at ho;unfold ZeE at hA;rw [ho] at hA;simpa using hA
theorem ZdE {a b:Code} (h:pwp e mask a σ (fun x σ'=>match x with
  | .normal=>∃ σ1,Wk σ' σ1∧pwp e mask b σ1 Q
  | x=>Q x σ')):pwp e mask (.seq a b) σ Q:=fun he U w0 S0 nt ac w hok hs=>by
 simp only [Zcf,Tar] at hok;refine wp_seq (wp_mono (h he U w0 S0 nt ac w hok.1 hs) fun ex a' w' hq=>?_)
 cases ex with
 | normal=>obtain ⟨σ',⟨σ1,hw,h1⟩,h2⟩:=hq;exact h1 he U w0 S0 nt a' w' hok.2 (h2.weak hw.1 hw.2)
 | exit id=>exact hq
 | ret=>exact hq
 | goto l=>exact hq
 | panic ch=>exact hq
 | outgrown=>exact hq
theorem Zol {c:Operand} {a b:Code} {t:Bool} (hc:evA σ.s c=.d (.one (.lit (.bool t)))) (h1:t=true->pwp e mask a σ Q) (h2:t=false->pwp e mask b σ Q):pwp e mask (.cond c a b) σ Q:=fun he U w0 S0 nt ac w hok hs=>by
 simp only [Zcf,Tar] at hok;obtain ⟨S,L,h'⟩:=id hs;have h3:=h'.eval c;rw [hc] at h3;refine wp_cond h3.bool ?_
 cases t
 ·simp only [Tam,if_false];exact h2 rfl he U w0 S0 nt ac w hok.2 hs
 ·simp only [if_true];exact h1 rfl he U w0 S0 nt ac w hok.1 hs
theorem ZmF {id:Nat} {c:Code} (h:pwp e mask c σ (fun x σ'=>match x with
  | .exit j=>if j=id then Q .normal σ' else Q (.exit j) σ'
  | x=>Q x σ')):pwp e mask (.block id c) σ Q:=fun he U w0 S0 nt ac w hok hs=>by
 simp only [Zcf] at hok;refine wp_block (wp_mono (h he U w0 S0 nt ac w hok hs) fun ex a' w' hq=>?_)
 cases ex with
 | normal=>exact hq
 | exit j =>
  obtain ⟨σ',h1,h2⟩:=hq;simp only [Exit.inBlock];simp only at h1;split
  ·rename_i hj;rw [if_pos hj] at h1;exact ⟨σ',h1,h2⟩
  ·rename_i hj;rw [if_neg hj] at h1;exact ⟨σ',h1,h2⟩
 | ret=>exact hq
 | goto l=>exact hq
 | panic ch=>exact hq
 | outgrown=>exact hq
theorem ZxQ {c:Code} {ι:Type} (st:ι->St) (ok:ι->Prop) (μ:ι->Nat) (x0:ι) (h0:ok x0) (hs0:ZcK σ.s (st x0).s) (hm0:ZcL σ.m (st x0).m)
  (hr:∀ x,ok x->pwp e mask c (st x) (fun p σ''=>match p with
   | .normal=>∃ y,ok y∧ZcK σ''.s (st y).s∧ZcL σ''.m (st y).m∧μ y < μ x
   | p=>Q p σ'')):pwp e mask (.loop c) σ Q:=fun he U w0 S0 nt ac w hok hs=>by
 simp only [Zcf] at hok;refine ZnE (ι:=ι) (fun x a w=>ok x∧SimE e U w0 S0 nt (st x) a w) μ x0 ⟨h0,hs.weak (fun t=>ZhY hs0) (fun t cs=>ZhZ hm0)⟩ fun x1 a1 w1 ⟨h1,h2⟩=>?_;refine wp_mono (hr x1 h1 he U w0 S0 nt a1 w1 hok h2) fun ex a' w' hq=>?_
 cases ex with
 | normal =>
  obtain ⟨σ',⟨y,h5,h3,h4,h6⟩,h7⟩:=hq;exact ⟨y,⟨h5,h7.weak (fun t=>ZhY h3) (fun t cs=>ZhZ h4)⟩,h6⟩
 | exit id=>exact hq
 | ret=>exact hq
 | goto l=>exact hq
 | panic ch=>exact hq
 | outgrown=>exact hq
end
def Zdb:Nat->List D->List (Nat × A)
 | _,[]=>[]
 | k,x::xs=>(k,.d x)::Zdb (k+1) xs
theorem Zom:∀ (xs:List D) (k t:Nat),gs (Zdb k xs) t=if k<=t then match xs[t - k]? with
   | some x=>.d x
   | none=>.undef
  else .undef
 | [],k,t=>by simp [Zdb,gs]
 | x::xs,k,t=>by
  simp only [Zdb,gs];by_cases h1:t=k
  ·subst h1;simp
  ·rw [Zom xs (k+1) t];simp only [h1,if_false];by_cases h2:k+1<=t
   ·rw [if_pos h2,if_pos om,show t - k=(t - (k+1))+1 by omega];simp
   ·rw [if_neg h2];by_cases h3:k<=t
    ·omega
    ·rw [if_neg h3]
inductive RS where
 | slot (t:Nat)
 | cell (t ty:Nat)
def Zbm:List ResultVar->List RS
 | []=>[]
 | .tmp t::r=>.slot t::Zbm r
 | .cell a t::r=>.cell a t::Zbm r
def resA (P:Program) (σ:St):RS->A
 | .slot t=>gs σ.s t
 | .cell t ty=>(Zev (Za8 P ty) (ptrA σ.m (gs σ.s t))).getD .undef
def Zcx (P:Program) (σ:St):List RS->List D->Prop
 | [],[]=>True
 | t::ts,x::xs=>resA P σ t=.d x∧Zcx P σ ts xs
 | _,_=>False
def retQ (P:Program) (slots:List RS) (r:List D):PX->St->Prop
 | .exit _,_=>False
 | _,σ=>∃ ks,Zcx P (frzs ks σ) slots r
section
variable {e:Env} {U:Nat->Prop} {w0:World} {S0:Nat->Prop} {nt:Nat} {σ:St} {a:Act} {w:World} {S:Nat->Prop} {L:Lay}
theorem ZxR (h:Sim e U w0 S0 nt σ a w S L) {x:ResultVar} {rs:List RS} {t:RS} (hrs:Zbm [x]=[t]) {y:D} (hy:resA e.P σ t=.d y):∃ v,(match x with
   | .tmp t=>(pure (a.tmps.getD t undef):Sem Value)
   | .cell b t=>do loadVar t (<- asAddr (a.tmps.getD b undef))).run e.P w=.ok v w∧DRel w S y v:=by
 cases x with
 | tmp k =>
  simp only [Zbm,List.cons.injEq,and_true] at hrs;subst hrs;have:=h.rel k;simp only [resA] at hy;rw [hy] at this;exact ⟨_,rfl,this⟩
 | cell b ty =>
  simp only [Zbm,List.cons.injEq,and_true] at hrs;subst hrs;simp only [resA] at hy
  cases hl:Zev (Za8 e.P ty) (ptrA σ.m (gs σ.s b)) with
  | none=>rw [hl] at hy;simp at hy
  | some α =>
   rw [hl] at hy;simp only [Option.getD_some] at hy;subst hy;unfold Zev at hl;split at hl
   ·rename_i k cs hk hp;obtain ⟨u,h1,h2⟩:=Zmz h.cls hp (h.rel b) hk hl;refine ⟨u,?_,h2⟩;have hptr:∃ p,a.tmps.getD b undef=.pointer (some p):=by
     have hr:=h.rel b;unfold ptrA at hp;split at hp
     ·rename_i hx;rw [hx] at hr;simp only [ARel,DRel,Rep] at hr;obtain ⟨b',off,hv,_⟩:=hr;exact ⟨_,hv⟩
     ·rename_i hx;rw [hx] at hr;exact ⟨_,hr⟩
     ·rename_i hx;rw [hx] at hr;obtain ⟨g,_,hv⟩:=hr;exact ⟨_,hv⟩
     ·cases hp
    obtain ⟨p,hp'⟩:=hptr;rw [hp'] at h1;show Sem.run e.P (do loadVar ty (<- asAddr (a.tmps.getD b undef))) w=_;rw [hp'];simpa [Instr.loadAt,Instr.sureAddr,asAddr,Result.andThen] using h1
   ·cases hl
theorem ZiG (h:Sim e U w0 S0 nt σ a w S L):∀ {l:List ResultVar} {r:List D},Zcx e.P σ (Zbm l) r->∃ vs:List Value,(l.mapM (m:=Sem) fun (x:ResultVar)=>match x with
   | .tmp t=>(pure (a.tmps.getD t undef):Sem Value)
   | .cell b t=>do loadVar t (<- asAddr (a.tmps.getD b undef))).run e.P w=.ok vs w∧Zav w S r vs
 | [],r,hr=>by
  cases r with
  | nil=>exact ⟨[],by simp,trivial⟩
  | cons x xs=>simp [Zbm,Zcx] at hr
 | x::l,r,hr=>by
  have hx:Zbm (x::l)=(Zbm [x]).head (by cases x <;> simp [Zbm])::Zbm l:=by cases x <;> rfl
  rw [hx] at hr
  cases r with
  | nil=>simp [Zcx] at hr
  | cons y ys =>
   simp only [Zcx] at hr;obtain ⟨v,h1,h2⟩:=ZxR h (x:=x) (rs:=[]) (by cases x <;> rfl) hr.1;obtain ⟨vs,h3,h4⟩:=ZiG h hr.2;refine ⟨v::vs,?_,h2,h4⟩;simp only [List.mapM_cons,Sem.run_bind,Sem.run_pure,Result.andThen_ok];rw [h1];simp only [Result.andThen_ok];rw [h3];simp
end
theorem Zhb {e:Env} {U:Nat->Prop} {w0:World} {S0:Nat->Prop} {nt:Nat} {σ:St} {a:Act} {w:World} {S:Nat->Prop} {L:Lay} {fn:Func} {r:List D} (h:Sim e U w0 S0 nt σ a w S L) (hr:Zcx e.P σ (Zbm fn.results.toList) r) :
  ∃ v,(results fn a.tmps).run e.P w=.ok v w∧ARel w S ⟨fun _=>0,fun _=>Go.undef⟩ (retA r) v:=by
 obtain ⟨vs,h1,h2⟩:=ZiG h hr
 have hrun:(fn.results.mapM (m:=Sem) fun (x:ResultVar)=>match x with
   | .tmp t=>(pure (a.tmps.getD t undef):Sem Value)
   | .cell b t=>do loadVar t (<- asAddr (a.tmps.getD b undef))).run e.P w=.ok vs.toArray w:=by
  rw [Array.mapM_eq_mapM_toList];simp only [Sem.run_map,h1,Result.andThen_ok]
 have hrun:(results fn a.tmps).run e.P w=.ok (if h:(vs.toArray).size=1 then (vs.toArray)[0] else .tuple vs.toArray) w:=by
  unfold results;rw [Sem.run_bind];exact congrArg (fun (z:Result (Array Value))=>z.andThen (fun a w''=>Sem.run e.P (pure (if h:a.size=1 then a[0] else Value.tuple a)) w'')) hrun
 match r,vs,h2,hrun with
 | [x],[v],hd,hrun=>exact ⟨v,by rw [hrun];simp,hd.1⟩
 | [],[],hd,hrun=>exact ⟨.tuple #[],by rw [hrun];simp,[],rfl,trivial⟩
 | x::y::r',v::v'::vs',hd,hrun=>exact ⟨.tuple (v::v'::vs').toArray,by rw [hrun];simp,_,rfl,hd⟩
 | [],_::_,hd,_=>simp [Zav] at hd
 | _::_,[],hd,_=>simp [Zav] at hd
 | [_],_::_::_,hd,_=>simp [Zav] at hd
 | _::_::_,[_],hd,_=>simp [Zav] at hd
theorem Zkn {w:World} {S:Nat->Prop} {L:Lay} {args:List D} {vs:List Value} {n:Nat} (hvs:Zav w S args vs) (t:Nat):ARel w S L (gs (Zdb 0 args) t) ((vs.toArray++Array.replicate n undef).getD t undef):=by
 rw [Zom];simp only [Taj,if_true,Nat.sub_zero]
 cases hx:args[t]? with
 | none=>trivial
 | some x =>
  obtain ⟨v,h1,h2⟩:=hvs.get hx;have hlt:t < vs.length:=(Tad.1 h1).1;have e1:(vs.toArray++Array.replicate n undef).getD t undef=v:=by
   rw [Array.getD_eq_getD_getElem?,Array.getElem?_append_left (by simpa using hlt)];simp [h1]
  simp only [e1];exact h2
theorem ZsP {e:Env} (he:e.Ok) {f:FuncId} {fn:Func} {c:Code} {args r:List D} {ts:List RS} (mask:Nat) (hf:e.P.funcs[f]?=some fn) (hb:fn.body=some c) (hnm:(fn.name == "runtime.NumGoroutine")=false)
  (hok:Zcf fn.ntmps c=true) (hal:Nat.ble args.length fn.ntmps=true) (hres:Zbm fn.results.toList=ts) (h:pwp e mask c ⟨Zdb 0 args,[]⟩ (retQ e.P ts r)):Con e f args r:=by
 refine ⟨by unfold Zco;rw [hf];simp [hnm,hb],fun w S vs hS hE hG hvs=>?_⟩;have hvl:=hvs.len;have hal:=Nat.le_of_ble_eq_true hal;subst hres;refine calls_of_wp hf hb ?_;have hsim:SimE e (fun _=>False) w S fn.ntmps ⟨Zdb 0 args,[]⟩ { tmps:=vs.toArray++Array.replicate (fn.ntmps - vs.toArray.size) undef,defers:=[] } w:=by
  exact ⟨S,⟨fun _=>0,fun _=>Go.undef⟩,⟨hS,fun b hb=>.inl hb,hE,fun _ h=>h.elim,Tai _,fun k x g hk=>by simp [gm] at hk,fun k x hk=>by simp [gm] at hk,fun k k' x x' g hk=>by simp [gm] at hk,hG⟩,fun t=>Zkn hvs t,by simp;omega,rfl,Kept.refl _ _ _ _⟩
 refine wp_mono (h he _ _ _ _ _ w hok hsim) fun ex a' w' hq=>?_;have fin:∀ σ',(∃ ks,Zcx e.P (frzs ks σ') (Zbm fn.results.toList) r)->SimE e (fun _=>False) w S fn.ntmps σ' a' w'->a'.defers=[]∧∃ v,(results fn a'.tmps).run e.P w'=.ok v w'∧∃ u,Ending.returned v=.returned u∧Kept e.D e.E w.heap.size w w'∧e.G w'∧ARel w' (fun b=>S b∨(w.heap.size<=b∧b < w'.heap.size)) ⟨fun _=>0,fun _=>Go.undef⟩ (retA r) u:=by
  intro σ' ⟨ks,h1⟩ h2;obtain ⟨S',L',h2⟩:=SimE.frzs he ks σ' h2;obtain ⟨v,h3,h4⟩:=Zhb h2 h1;refine ⟨h2.defers,v,h3,v,rfl,⟨h2.kept.os,h2.kept.tape,h2.kept.output,h2.kept.drawn,h2.kept.size,fun b hb hE=>h2.kept.block b hb (fun h=>h.elim hE id)⟩,h2.cls.g,h4.keep (Tai _) (fun _ _ _=>rfl) (fun b hb=>?_)⟩;rcases h2.cls.sfr b hb with h | h | h
  ·exact .inl h
  ·exact .inr ⟨h,(h2.cls.sin b hb).1⟩
  ·exact h.elim
 cases ex with
 | normal=>obtain ⟨σ',h1,h2⟩:=hq;exact fin σ' h1 h2
 | ret=>obtain ⟨σ',h1,h2⟩:=hq;exact fin σ' h1 h2
 | exit id=>obtain ⟨σ',h1,h2⟩:=hq;exact h1.elim
 | goto l=>exact hq.elim
 | panic ch=>exact hq.elim
 | outgrown=>exact hq.elim
def ZkX (P:Program) (slots:List RS) (R:List D->List Bk->Prop):PX->St->Prop
 | .exit _,_=>False
 | _,σ=>∃ r ks pm,getM σ.m ks=some pm∧ks.Nodup∧pm.all pinned=true∧R r pm∧Zcx P σ slots r
theorem Zp2 {e:Env} (he:e.Ok) {f:FuncId} {fn:Func} {c:Code} {args:List D} {pm:List Bk} {R:List D->List Bk->Prop} {ts:List RS} (keys:List Nat) (mask:Nat) (hf:e.P.funcs[f]?=some fn) (hb:fn.body=some c) (hnm:(fn.name == "runtime.NumGoroutine")=false)
  (hok:Zcf fn.ntmps c=true) (hal:Nat.ble args.length fn.ntmps=true) (hres:Zbm fn.results.toList=ts) (h:pwp e mask c ⟨Zdb 0 args,zipM keys pm⟩ (ZkX e.P ts R)):ConP e f args pm R:=by
 refine ⟨by unfold Zco;rw [hf];simp [hnm,hb],fun w S vs hS hE hG hpm hap hvs=>?_⟩;have hvl:=hvs.len;have hal:=Nat.le_of_ble_eq_true hal;subst hres;refine calls_of_wp hf hb ?_;have hsim:SimE e (Za7 pm) w S fn.ntmps ⟨Zdb 0 args,zipM keys pm⟩ { tmps:=vs.toArray++Array.replicate (fn.ntmps - vs.toArray.size) undef,defers:=[] } w:=by
  have at':∀ k x,gm (zipM keys pm) k=some x->x∈pm∧Own1 w S (layB (zipM keys pm) ⟨fun _=>0,fun _=>Go.undef⟩) k x∧∀ g,Zay (layB (zipM keys pm) ⟨fun _=>0,fun _=>Go.undef⟩) k x g ↔ pblk x g:=fun k x hx=>by
   have hm:=(ZdO hx).2;exact ⟨hm,Zch (hpm x hm).1 hx⟩
  refine ⟨S,layB (zipM keys pm) ⟨fun _=>0,fun _=>Go.undef⟩,⟨hS,fun b hb=>.inl hb,hE,fun b ⟨x,hx,hg⟩=>(hpm x hx).2 b hg,Tai _,fun k x g hx hg=>.inr ⟨x,(at' k x hx).1,((at' k x hx).2.2 g).1 hg⟩,fun k x hx=>(at' k x hx).2.1,fun k k' x x' g hx hx' hg hg'=>?_,hG⟩,fun t=>Zkn hvs t,by simp;omega,rfl,Kept.refl _ _ _ _⟩;exact ZgV hap hx hx' (((at' k x hx).2.2 g).1 hg) (((at' k' x' hx').2.2 g).1 hg')
 refine wp_mono (h he _ _ _ _ _ w hok hsim) fun ex a' w' hq=>?_
 have fin:∀ σ',(∃ r ks pm',getM σ'.m ks=some pm'∧ks.Nodup∧pm'.all pinned=true∧R r pm'∧Zcx e.P σ' (Zbm fn.results.toList) r)->SimE e (Za7 pm) w S fn.ntmps σ' a' w'->a'.defers=[]∧∃ v,(results fn a'.tmps).run e.P w'=.ok v w' ∧
   ∃ u r pm',Ending.returned v=.returned u∧R r pm'∧Kept e.D (fun b=>e.E b∨Za7 pm b) w.heap.size w w'∧e.G w' ∧
   (∀ x∈pm',Zdq w' (fun b=>(S b∨Za7 pm b∨(w.heap.size<=b∧b < w'.heap.size))∧¬ Za7 pm' b) x∧∀ g,pblk x g->Za7 pm g∨w.heap.size<=g)∧Zeu pm' ∧
   ARel w' (fun b=>(S b∨Za7 pm b∨(w.heap.size<=b∧b < w'.heap.size))∧¬ Za7 pm' b) ⟨fun _=>0,fun _=>Go.undef⟩ (retA r) u:=by
  intro σ' ⟨r,ks,pm',hg,hn,hp,hR,h1⟩ ⟨S',L',h2⟩;obtain ⟨v,h3,h4⟩:=Zhb h2 h1;have hp:∀ x∈pm',pinned x=true:=fun x hx=>List.all_eq_true.1 hp x hx;have hS':∀ b,S' b->(S b∨Za7 pm b∨(w.heap.size<=b∧b < w'.heap.size))∧¬ Za7 pm' b:=fun b hb=>by
   refine ⟨?_,fun ⟨x,hx,hxg⟩=>?_⟩
   ·rcases h2.cls.sfr b hb with q | q | q
    ·exact .inl q
    ·exact .inr (.inr ⟨q,(h2.cls.sin b hb).1⟩)
    ·exact .inr (.inl q)
   ·obtain ⟨k,hk,hkx⟩:=Zd3 hg x hx;exact ((h2.cls.own k x hkx).lt (((ZcO (h2.cls.own k x hkx) (hp x hx)).2 b).2 hxg)).2 hb
  refine ⟨h2.defers,v,h3,v,r,pm',rfl,hR,h2.kept,h2.cls.g,fun x hx=>?_,Zf4 h2.cls.own h2.cls.inj hn hg hp,ZeF (h4.keep (Tai _) (fun _ _ _=>rfl) hS')⟩;obtain ⟨k,hk,hkx⟩:=Zd3 hg x hx;have ho:=h2.cls.own k x hkx;have hpo:=ZcO ho (hp x hx);refine ⟨(ZcO (ho.keep (Tai _) (fun _ _ _=>rfl) hS' (fun g hg'=>⟨rfl,fun hs=>hs.2 ⟨x,hx,(hpo.2 g).1 hg'⟩⟩)) (hp x hx)).1,fun g hg'=>?_⟩;rcases h2.cls.mine k x g hkx ((hpo.2 g).2 hg') with q | q
  ·exact .inr q
  ·exact .inl q
 cases ex with
 | normal=>obtain ⟨σ',h1,h2⟩:=hq;exact fin σ' h1 h2
 | ret=>obtain ⟨σ',h1,h2⟩:=hq;exact fin σ' h1 h2
 | exit id=>obtain ⟨σ',h1,h2⟩:=hq;exact h1.elim
 | goto l=>exact hq.elim
 | panic ch=>exact hq.elim
 | outgrown=>exact hq.elim
def ZnW (P:Program) (slots:List RS) (R:List D->Prop):PX->St->Prop
 | .exit _,_=>False
 | _,σ=>∃ ks r,R r∧Zcx P (frzs ks σ) slots r
theorem Zp3 {e:Env} (he:e.Ok) {f:FuncId} {fn:Func} {c:Code} {args:List D} {R:List D->Prop} {ts:List RS} (mask:Nat) (hf:e.P.funcs[f]?=some fn) (hb:fn.body=some c) (hnm:(fn.name == "runtime.NumGoroutine")=false)
  (hok:Zcf fn.ntmps c=true) (hal:Nat.ble args.length fn.ntmps=true) (hres:Zbm fn.results.toList=ts) (h:pwp e mask c ⟨Zdb 0 args,[]⟩ (ZnW e.P ts R)):ConE e f args R:=by
 refine ⟨by unfold Zco;rw [hf];simp [hnm,hb],fun w S vs hS hE hG hvs=>?_⟩;have hvl:=hvs.len;have hal:=Nat.le_of_ble_eq_true hal;subst hres;refine calls_of_wp hf hb ?_;have hsim:SimE e (fun _=>False) w S fn.ntmps ⟨Zdb 0 args,[]⟩ { tmps:=vs.toArray++Array.replicate (fn.ntmps - vs.toArray.size) undef,defers:=[] } w:=by
  exact ⟨S,⟨fun _=>0,fun _=>Go.undef⟩,⟨hS,fun b hb=>.inl hb,hE,fun _ h=>h.elim,Tai _,fun k x g hk=>by simp [gm] at hk,fun k x hk=>by simp [gm] at hk,fun k k' x x' g hk=>by simp [gm] at hk,hG⟩,fun t=>Zkn hvs t,by simp;omega,rfl,Kept.refl _ _ _ _⟩
 refine wp_mono (h he _ _ _ _ _ w hok hsim) fun ex a' w' hq=>?_;have fin:∀ σ',(∃ ks r,R r∧Zcx e.P (frzs ks σ') (Zbm fn.results.toList) r)->SimE e (fun _=>False) w S fn.ntmps σ' a' w'->a'.defers=[]∧∃ v,(results fn a'.tmps).run e.P w'=.ok v w'∧∃ u r,Ending.returned v=.returned u∧R r∧Kept e.D e.E w.heap.size w w'∧e.G w'∧ARel w' (fun b=>S b∨(w.heap.size<=b∧b < w'.heap.size)) ⟨fun _=>0,fun _=>Go.undef⟩ (retA r) u:=by
  intro σ' ⟨ks,r,hr,h1⟩ h2;obtain ⟨S',L',h2⟩:=SimE.frzs he ks σ' h2;obtain ⟨v,h3,h4⟩:=Zhb h2 h1;refine ⟨h2.defers,v,h3,v,r,rfl,hr,⟨h2.kept.os,h2.kept.tape,h2.kept.output,h2.kept.drawn,h2.kept.size,fun b hb hE=>h2.kept.block b hb (fun h=>h.elim hE id)⟩,h2.cls.g,h4.keep (Tai _) (fun _ _ _=>rfl) (fun b hb=>?_)⟩;rcases h2.cls.sfr b hb with h | h | h
  ·exact .inl h
  ·exact .inr ⟨h,(h2.cls.sin b hb).1⟩
  ·exact h.elim
 cases ex with
 | normal=>obtain ⟨σ',h1,h2⟩:=hq;exact fin σ' h1 h2
 | ret=>obtain ⟨σ',h1,h2⟩:=hq;exact fin σ' h1 h2
 | exit id=>obtain ⟨σ',h1,h2⟩:=hq;exact h1.elim
 | goto l=>exact hq.elim
 | panic ch=>exact hq.elim
 | outgrown=>exact hq.elim
inductive Res where
 | bad
 | done (σ:St)
 | call (q:Bool) (c:Operand) (args:List Operand) (d:Option Nat) (n:Nat) (os:List Oper) (σ:St)
 | map (q:Bool) (d:Option Nat) (n:Nat) (os:List Oper) (σ:St)
 | stop (n:Nat) (os:List Oper) (σ:St)
def Zdc (x:Option St) (f:St->Res):Res :=
 match x with
 | some σ=>f σ
 | none=>.bad
def Zjp (d:Option Nat) (next:St->Res) (σ:St):Res:=next ⟨setA σ.s d .no,σ.m⟩
def Zjq (yes no:St->Res) (σ:St):Bool->Res
 | true=>yes σ
 | false=>no σ
def ZeV (want:Bool) (yes no:St->Res) (σ:St):Option A->Res
 | some (.d (.one (.lit (.bool b))))=>Zjq yes no σ (b==want)
 | some .no=>no σ
 | _=>.bad
def qB:Nat->Bool
 | 0=>false
 | _+1=>true
def Zbl (P:Program) (d:Option Nat) (ty:TypeId) (q n:Nat) (os:List Oper) (next:St->Res):Op->St->Res
 | .alloc t,σ=>Zdc (if qB q=true then none else newE σ d (Za3 P t)) next
 | .call ⟨.value c,args,_⟩,σ=>.call (qB n) c args.toList d (n - 1) os σ
 | .makeMap _ none,σ=>.map (qB n) d (n - 1) os σ
 | op,σ=>Zdc (ZhT P (qB n) σ d ty op) next
def Zbh (P:Program) (ds:List (Option Nat)):Nat->List Oper->St->Res
 | _,[],σ=>.done σ
 | n,⟨d,op,ty,_,_,none⟩::os,σ=>Zbl P d ty (n - 1) n os (Zbh P ds (n - 1) os) op σ
 | n,⟨d,op,ty,_,_,some (j,want)⟩::os,σ=>ZeV want (Zbl P d ty n n os (Zbh P ds (n - 1) os) op) (Zjp d (Zbh P ds (n - 1) os)) σ ((ds[j]?.join).map (gs σ.s))
def runN (P:Program) (ds:List (Option Nat)):Nat->Nat->List Oper->St->Res
 | 0,n,os,σ=>.stop n os σ
 | _+1,_,[],σ=>.done σ
 | j+1,n,⟨d,op,ty,_,_,none⟩::os,σ=>Zbl P d ty (n - 1) n os (runN P ds j (n - 1) os) op σ
 | j+1,n,⟨d,op,ty,_,_,some (i,want)⟩::os,σ=>ZeV want (Zbl P d ty n n os (runN P ds j (n - 1) os) op) (Zjp d (runN P ds j (n - 1) os)) σ ((ds[i]?.join).map (gs σ.s))
def ResQ (e:Env) (ds:List (Option Nat)) (K:St->Prop):Res->Prop
 | .bad=>False
 | .done σ=>K σ
 | .call q c args d n os σ=>∀ (o:Oper) (ts:Array TypeId),o.op=.call ⟨.value c,args.toArray,ts⟩->o.dst=d->ZkU e q o σ (fun σ'=>Runs e ds n os σ' K)
 | .map q d n os σ=>q=false∧∀ b:Nat,Runs e ds n os ⟨setA σ.s d (.d (.one (.lit (.map (some b))))),σ.m⟩ K
 | .stop n os σ=>Runs e ds n os σ K
theorem Zhc {e:Env} {ds:List (Option Nat)} {os:List Oper} {K:St->Prop} {n q:Nat} {next:St->Res} (ih:∀ σ,ResQ e ds K (next σ)->Runs e ds (n - 1) os σ K) {o:Oper} {σ:St} (hq:q=n∨∀ t,o.op≠.alloc t) (h:ResQ e ds K (Zbl e.P o.dst o.type q n os next o.op σ)) :
  ZkU e (qB n) o σ (fun σ'=>Runs e ds (n - 1) os σ' K):=by
 unfold Zbl at h;split at h
 ·rename_i t ho;rcases hq with hq | hq
  ·subst hq;unfold Zdc at h;split at h
   ·rename_i σ' hσ
    cases hq:qB q with
    | true=>rw [hq] at hσ;simp at hσ
    | false =>
     rw [hq] at hσ;show ZbN e o _ (fun σ'=>Runs e ds (q - 1) os σ' K);refine ZtX (σ':=σ') ?_ (ih σ' h);simp only [ho,ZhT];exact hσ
   ·exact h.elim
  ·exact (hq t ho).elim
 ·rename_i c args ts ho;exact h o ts (by rw [ho]) rfl
 ·rename_i t ho;obtain ⟨h1,h2⟩:=h;rw [h1];exact Zog ho h2
 ·rename_i op σ1 hne0 hne hne2 ho;unfold Zdc at h;split at h
  ·rename_i σ' hσ
   cases hq:qB n with
   | true =>
    rw [hq] at hσ;show ZeN e o _ (fun σ'=>Runs e ds (n - 1) os σ' K);exact ZqM hσ (ih σ' h)
   | false =>
    rw [hq] at hσ;show ZbN e o _ (fun σ'=>Runs e ds (n - 1) os σ' K);exact ZtX hσ (ih σ' h)
  ·exact h.elim
theorem ZmG {e:Env} {ds:List (Option Nat)} {K:St->Prop} {n:Nat} {os:List Oper} {o:Oper} {σ:St} {next:St->Res} (hg:o.guard=none) (ih:∀ σ,ResQ e ds K (next σ)->Runs e ds (n - 1) os σ K) (h:ResQ e ds K (Zbl e.P o.dst o.type (n - 1) n os next o.op σ)):Runs e ds n (o::os) σ K:=by
 have alloc:∀ t,o.op=.alloc t->qB (n - 1)=false∧∃ d cs,o.dst=some d∧Za3 e.P t=some cs∧Runs e ds (n - 1) os ⟨(d,.ref d 0)::Zaq d σ.s,(d,.var none cs)::remM d σ.m⟩ K:=fun t ho=>by
  rw [ho] at h;simp only [Zbl] at h;unfold Zdc at h;split at h
  ·rename_i σ' hσ;split at hσ
   ·cases hσ
   ·rename_i hq;unfold newE at hσ;split at hσ
    ·rename_i d cs hd hz;injection hσ with hσ
     exact ⟨by simpa using hq,d,cs,hd,hz,by rw [hσ];exact ih _ h⟩
    ·cases hσ
  ·exact h.elim
 cases n with
 | zero =>
  simp only [Runs];have h1:=Zhc (n:=0) (q:=0) ih (.inl rfl) h;have h1:ZbN e o σ (fun σ'=>Runs e ds 0 os σ' K):=h1;simp only [Runs] at h1;exact ZcP hg h1
 | succ n =>
  simp only [Runs,hg];by_cases hal:∃ t,o.op=.alloc t
  ·obtain ⟨t,ho⟩:=hal;obtain ⟨h1,d,cs,h2,h3,h4⟩:=alloc t ho;have hn:n=0:=by
    cases n with
    | zero=>rfl
    | succ k=>cases h1
   subst hn;have hia:isAl o=true:=by
    obtain ⟨od,oo,ot,op,oa,og⟩:=o;simp only at ho h2 hg;subst ho h2 hg;rfl
   simp only [hia,and_self,if_true];simp only [Nat.add_sub_cancel,Runs] at h4;exact ⟨d,t,cs,h2,ho,h3,h4⟩
  ·have hna:¬ (n=0∧isAl o=true):=fun ⟨_,h2⟩=>by
    unfold isAl at h2;split at h2
    ·exact hal ⟨_,rfl⟩
    ·cases h2
   rw [if_neg hna];exact Zhc ih (.inr fun t ht=>hal ⟨t,ht⟩) h
theorem ZsQ {e:Env} {ds:List (Option Nat)} {K:St->Prop} {n:Nat} {os:List Oper} {o:Oper} {σ:St} {j:Nat} {want:Bool} (hg:o.guard=some (j,want)) (h:match (ds[j]?.join).map (gs σ.s) with
   | some (.d (.one (.lit (.bool b))))=>if b=want then ZkU e (qB n) o σ (fun σ'=>Runs e ds (n - 1) os σ' K) else Runs e ds (n - 1) os ⟨setA σ.s o.dst .no,σ.m⟩ K
   | some .no=>Runs e ds (n - 1) os ⟨setA σ.s o.dst .no,σ.m⟩ K
   | _=>False):Runs e ds n (o::os) σ K:=by
 cases n with
 | zero =>
  simp only [Runs];refine Zp1 hg ?_;split at h
  ·rename_i b hb
   try simp only [hb]
   split at h
   ·rename_i hbw;rw [if_pos hbw];have h:ZbN e o σ (fun σ'=>Runs e ds 0 os σ' K):=h;simpa only [Runs] using h
   ·rename_i hbw;rw [if_neg hbw];have h:Runs e ds 0 os ⟨setA σ.s o.dst .no,σ.m⟩ K:=h;simpa only [Runs] using h
  ·rename_i hb
   try simp only [hb]
   have h:Runs e ds 0 os ⟨setA σ.s o.dst .no,σ.m⟩ K:=h;simpa only [Runs] using h
  ·exact h.elim
 | succ n =>
  simp only [Runs,hg];exact h
theorem ZiH {e:Env} {ds:List (Option Nat)} {K:St->Prop} {n:Nat} {os:List Oper} {d:Option Nat} {op:Op} {ty:TypeId} {pos:String} {aft:Array Edge} {j:Nat} {want:Bool} {next:St->Res} (ih:∀ σ,ResQ e ds K (next σ)->Runs e ds (n - 1) os σ K) {σ:St}
  (h:ResQ e ds K (ZeV want (Zbl e.P d ty n n os next op) (Zjp d next) σ ((ds[j]?.join).map (gs σ.s)))):Runs e ds n (⟨d,op,ty,pos,aft,some (j,want)⟩::os) σ K:=by
 refine ZsQ rfl ?_;unfold ZeV at h;split at h
 ·rename_i b hb;simp only [hb];unfold Zjq at h;split at h
  ·rename_i hbw;rw [if_pos (by simpa using hbw)];exact Zhc (o:=⟨d,op,ty,pos,aft,some (j,want)⟩) ih (.inl rfl) h
  ·rename_i hbw;rw [if_neg (by simpa using hbw)];exact ih _ h
 ·rename_i hb;simp only [hb];exact ih _ h
 ·exact h.elim
theorem Zdk {e:Env} {ds:List (Option Nat)} {K:St->Prop} {n:Nat} {σ:St} (h:K σ):Runs e ds n [] σ K:=by
 cases n with
 | zero=>simp only [Runs];exact Zt1 h
 | succ n=>exact h
theorem ZeO {e:Env} {ds:List (Option Nat)} {K:St->Prop}:∀ (os:List Oper) (n:Nat) (σ:St),ResQ e ds K (Zbh e.P ds n os σ)->Runs e ds n os σ K
 | [],n,σ,h=>Zdk h
 | ⟨d,op,ty,pos,aft,none⟩::os,n,σ,h=>ZmG (o:=⟨d,op,ty,pos,aft,none⟩) rfl (ZeO os (n - 1)) h
 | ⟨d,op,ty,pos,aft,some (j,want)⟩::os,n,σ,h=>ZiH (ZeO os (n - 1)) h
theorem Zmd {e:Env} {ds:List (Option Nat)} {K:St->Prop}:∀ (j:Nat) (os:List Oper) (n:Nat) (σ:St),ResQ e ds K (runN e.P ds j n os σ)->Runs e ds n os σ K
 | 0,os,n,σ,h=>h
 | j+1,[],n,σ,h=>Zdk h
 | j+1,⟨d,op,ty,pos,aft,none⟩::os,n,σ,h=>ZmG (o:=⟨d,op,ty,pos,aft,none⟩) rfl (Zmd j os (n - 1)) h
 | j+1,⟨d,op,ty,pos,aft,some (i,want)⟩::os,n,σ,h=>ZiH (Zmd j os (n - 1)) h
def ZkY (c:A) (xs:Option (List D)) (σ:St):Option (FuncId × List D × St) :=
 match Zcu c,xs with
 | some (f,caps),some xs=>some (f,xs++caps.map .one,σ)
 | _,_=>none
def Zjr (c:Operand) (args:List Operand):Option St->Option (FuncId × List D × St)
 | some σ=>ZkY (evA σ.s c) (dsA (args.map (evA σ.s))) σ
 | none=>none
def Zec (q:Bool) (c:Operand) (args:List Operand) (σ:St):Option (FuncId × List D × St):=Zjr c args (frzQ q (ZdS (args.map (evA σ.s))) σ)
def ZnX (f:Option (FuncId × List C)) (k:Nat) (xs:Option (List D)):Option Bk->Option (FuncId × Nat × Nat × Nat × List (List C) × List D)
 | some (.buf _ ty sz rows)=>match f,xs with
  | some (f,caps),some xs=>some (f,k,ty,sz,rows,xs++caps.map .one)
  | _,_=>none
 | _=>none
def ZnY (m:List (Nat × Bk)) (f:Option (FuncId × List C)) (xs:Option (List D)):A->Option (FuncId × Nat × Nat × Nat × List (List C) × List D)
 | .buf k=>ZnX f k xs (gm m k)
 | _=>none
def ZkZ (c:Operand) (x0:Operand) (rest:List Operand) (σ:St):Option (FuncId × Nat × Nat × Nat × List (List C) × List D):=ZnY σ.m (Zcu (evA σ.s c)) (dsA (rest.map (evA σ.s))) (nrm σ.m (evA σ.s x0))
section
variable {e:Env} {mask:Nat} {σ:St} {Q:PX->St->Prop} {ds:List (Option Nat)} {K:St->Prop} {os os':List Oper} {n n':Nat} {s1 s2 s3:List (Nat × A)} {m1 m2 m3:List (Nat × Bk)}
theorem ZfG {σ':St} (h:Zbh e.P ds n os σ=.done σ') (hK:K σ'):Runs e ds n os σ K:=ZeO os n σ (by rw [h];exact hK)
theorem Zt2 {ks:List Nat} {σ σ':St} (hf:frzQ false ks σ=some σ'):frzs ks σ=σ':=by
 unfold frzQ at hf;split at hf
 ·injection hf with hf
 ·simpa using hf
theorem ZeW {q:Bool} {c:Operand} {args:List Operand} {f:FuncId} {xs:List D} {σ':St} (h1:Zec q c args σ=some (f,xs,σ')):∃ caps ys,frzQ q (ZdS (args.map (evA σ.s))) σ=some σ'∧Zcu (evA σ'.s c)=some (f,caps)∧dsA (args.map (evA σ'.s))=some ys∧xs=ys++caps.map .one:=by
 unfold Zec Zjr at h1;split at h1
 ·rename_i σ1 hf;unfold ZkY at h1;split at h1
  ·rename_i f' caps xs' hcal hds;simp only [Taq,Prod.mk.injEq] at h1;obtain ⟨rfl,rfl,rfl⟩:=h1;exact ⟨caps,xs',hf,hcal,hds,rfl⟩
  ·cases h1
 ·cases h1
theorem ZAt {q:Bool} {c:Operand} {args:List Operand} {f:FuncId} {xs:List D} {d:Option Nat} {r:List D} (h:Zbh e.P ds n os σ=.call q c args d n' os' ⟨s1,m1⟩) (h1:Zec q c args ⟨s1,m1⟩=some (f,xs,⟨s2,m2⟩)) (hc:Con e f xs r) (h2:setA s2 d (retA r)=s3) (hK:Runs e ds n' os' ⟨s3,m2⟩ K):Runs e ds n os σ K:=by
 refine ZeO os n σ ?_;rw [h];intro o ts ho hd;obtain ⟨caps,ys,hf,hcal,hds,rfl⟩:=ZeW h1;exact ZxK ho hf hcal hds hc (by rw [hd,h2];exact hK)
theorem ZxS {c:Operand} {args:List Operand} {f:FuncId} {xs:List D} {d:Option Nat} {R:List D->Prop} (h:Zbh e.P ds n os σ=.call false c args d n' os' ⟨s1,m1⟩) (h1:Zec false c args ⟨s1,m1⟩=some (f,xs,⟨s2,m2⟩)) (hc:ConE e f xs R) (hK:∀ r,R r->Runs e ds n' os' ⟨setA s2 d (retA r),m2⟩ K):Runs e ds n os σ K:=by
 refine ZeO os n σ ?_;rw [h];intro o ts ho hd;obtain ⟨caps,ys,hf,hcal,hds,rfl⟩:=ZeW h1;exact ZmC (Zd2 _ (Zt2 hf)) (fun σ'' hσ=>by subst hσ;exact ZtY ho hcal hds hc (fun r hr=>by rw [hd];exact hK r hr))
theorem ZxT {c:Operand} {args:List Operand} {f:FuncId} {xs:List D} {d:Option Nat} (ks ks':List Nat) {pm:List Bk} {R:List D->List Bk->Prop} (h:Zbh e.P ds n os σ=.call false c args d n' os' ⟨s1,m1⟩) (h1:Zec false c args ⟨s1,m1⟩=some (f,xs,⟨s2,m2⟩)) (hc:ConP e f xs pm R) (hpm:getM m2 ks=some pm) (hpn:pm.all pinned=true) (hn:ks.Nodup)
  (hk:Zcs (ks++ks') s2=s3) (hr:Zcw (ks++ks') m2=m3) (hK:∀ r pm',R r pm'->Runs e ds n' os' ⟨setA s3 d (retA r),zipM ks' pm'++m3⟩ K):Runs e ds n os σ K:=by
 refine ZeO os n σ ?_;rw [h];intro o ts ho hd;obtain ⟨caps,ys,hf,hcal,hds,rfl⟩:=ZeW h1;exact ZmC (Zd2 _ (Zt2 hf)) (fun σ'' hσ=>by subst hσ;exact ZBe ho ks ks' hn hpm hpn hcal hds hc (fun r pm' hR=>by rw [hd];simp only [hk,hr];exact hK r pm' hR))
theorem ZsR {c x0:Operand} {rest:List Operand} {f:FuncId} {k ty sz:Nat} {rows:List (List C)} {xs:List D} (h1:ZkZ c x0 rest σ=some (f,k,ty,sz,rows,xs)):∃ oa caps ys,nrm σ.m (evA σ.s x0)=.buf k∧gm σ.m k=some (.buf oa ty sz rows)∧Zcu (evA σ.s c)=some (f,caps)∧dsA (rest.map (evA σ.s))=some ys∧xs=ys++caps.map .one:=by
 unfold ZkZ ZnY at h1;split at h1
 ·rename_i k' hk;unfold ZnX at h1;split at h1
  ·rename_i oa ty' sz' rows0 hm;split at h1
   ·rename_i f' caps xs' hcal hds;simp only [Taq,Prod.mk.injEq] at h1;obtain ⟨rfl,rfl,rfl,rfl,rfl,rfl⟩:=h1;exact ⟨oa,caps,xs',hk,hm,hcal,hds,rfl⟩
   ·cases h1
  ·cases h1
 ·cases h1
theorem ZxU {c x0:Operand} {rest:List Operand} {f:FuncId} {xs:List D} {d:Option Nat} {k ty sz:Nat} {rows rows':List (List C)} {r:List D} {oa:Option (Option Addr × Nat)} (h:Zbh e.P ds n os σ=.call false c (x0::rest) d n' os' ⟨s1,m1⟩) (h1:ZkZ c x0 rest ⟨s1,m1⟩=some (f,k,ty,sz,rows,xs)) (hm:gm m1 k=some (.buf oa ty sz rows)) (hc:ConI e f ty sz rows xs rows' r) (hl:rows'.length=rows.length) (h2:setA s1 d (retA r)=s3) (h3:remM k m1=m3) (hK:Runs e ds n' os' ⟨s3,(k,.buf oa ty sz rows')::m3⟩ K):Runs e ds n os σ K:=by
 refine ZeO os n σ ?_;rw [h];intro o ts ho hd;obtain ⟨oa',caps,ys,hk,hm',hcal,hds,rfl⟩:=ZsR h1;exact ZBd ho rfl hk hm hcal hds hc hl (by rw [hd];simp only [h2,h3];exact hK)
theorem Zdx {P:St->Prop} (hT:Turn e σ P) (h:∀ σ',P σ'->Runs e ds 0 os σ' K):Runs e ds 0 os σ K:=by
 simp only [Runs] at h ⊢;exact ZsO hT h
def Zk0:Res->Option (Nat × List Oper × List (Nat × A) × List (Nat × Bk))
 | .stop n os σ=>some (n,os,σ.s,σ.m)
 | _=>none
theorem Zt3 (j:Nat) (h:Zk0 (runN e.P ds j n os σ)=some (n',os',s1,m1)) (hK:Runs e ds n' os' ⟨s1,m1⟩ K):Runs e ds n os σ K:=by
 refine Zmd j os n σ ?_
 cases hr:runN e.P ds j n os σ with
 | stop n1 os1 σ1 =>
  rw [hr] at h;simp only [Zk0,Taq,Prod.mk.injEq] at h;obtain ⟨rfl,rfl,rfl,rfl⟩:=h;exact hK
 | _=>rw [hr] at h;cases h
theorem Zp4 {d t ty:Nat} {p:String} {ed:Array Edge} {parts:List (Nat × Operand)} {s:List (Nat × A)} {m:List (Nat × Bk)} {cs cs':List C} (hz:ZdD e.P t=some cs) (hst:Zbv e.P t=true) (hok:cs.all Zau=true) (hf:Zc4 e.P t cs (parts.map fun p=>(p.1,evA s p.2))=some cs')
  (hK:Runs e ds 0 os ⟨(d,.d (.agg cs'))::s,m⟩ K):Runs e ds 0 (⟨some d,.build t parts.toArray,ty,p,ed,none⟩::os) ⟨s,m⟩ K:=by
 simp only [Runs] at hK ⊢;exact ZcP rfl (Zp0 (o:=⟨some d,.build t parts.toArray,ty,p,ed,none⟩) rfl hz hst hok hf hK)
theorem ZxV {id:Nat} {l:List Oper} {σ1:St} (ks:List Nat) (hf:frzs ks σ=σ1) (hds:l.map (·.dst)=ds) (h:Runs e ds 0 l σ1 (Zc5 mask Q)):pwp e mask (.region id l.toArray false) σ Q :=
 Zcc (Zd2 ks hf) (fun σ' hσ=>by subst hσ;exact ZkW 0 rfl (by subst hds;exact h))
theorem ZxW {id:Nat} {l:List Oper} (hds:l.map (·.dst)=ds) (h:Runs e ds 0 l σ (Zc5 mask Q)):pwp e mask (.region id l.toArray false) σ Q:=ZxV [] rfl hds h
theorem Zt4 {id:Nat} {l:List Oper} {σ1:St} (n:Nat) (ks:List Nat) (hf:frzs ks σ=σ1) (hr:regX l.toArray n=true) (hds:l.map (·.dst)=ds) (h:Runs e ds n l σ1 (Zc5 mask Q)):pwp e mask (.region id l.toArray true) σ Q :=
 Zcc (Zd2 ks hf) (fun σ' hσ=>by subst hσ;exact ZkW n (by simpa using hr) (by subst hds;exact h))
theorem ZxX {id:Nat} {l:List Oper} (n:Nat) (hr:regX l.toArray n=true) (hds:l.map (·.dst)=ds) (h:Runs e ds n l σ (Zc5 mask Q)):pwp e mask (.region id l.toArray true) σ Q:=Zt4 n [] rfl hr hds h
theorem Wk.refl (σ:St):Wk σ σ:=⟨fun _=>.inl rfl,fun _ _ h=>h⟩
theorem Zt5 {c:Operand} {a b:Code} (hc:evA σ.s c=.d (.one (.lit (.bool true)))) (h:pwp e mask a σ Q):pwp e mask (.cond c a b) σ Q:=Zol hc (fun _=>h) (fun h=>by cases h)
theorem Zt6 {c:Operand} {a b:Code} (hc:evA σ.s c=.d (.one (.lit (.bool false)))) (h:pwp e mask b σ Q):pwp e mask (.cond c a b) σ Q:=Zol hc (fun h=>by cases h) (fun _=>h)
theorem Zk1 {P:Program} {ts:List RS} {r:List D} (h:Zcx P σ ts r):retQ P ts r .ret σ:=⟨[],h⟩
theorem ZBf {P:Program} {ts:List RS} {r:List D} {σ1:St} (ks:List Nat) (hf:frzs ks σ=σ1) (h:Zcx P σ1 ts r):retQ P ts r .ret σ:=⟨ks,by rw [hf];exact h⟩
end
section
variable {P:Program} {d:Option Nat} {ds:List (Option Nat)} {os:List Oper} {q n:Nat} {ty:TypeId} {nx:St->Res} {s:List (Nat × A)} {m:List (Nat × Bk)} {σ:St}
def ZcQ (nx:St->Res) (s:List (Nat × A)) (m:List (Nat × Bk)) (d:Option Nat):Option A->Res
 | some α=>nx ⟨setA s d α,m⟩
 | none=>.bad
theorem Zk2 {α:A}:ZcQ nx s m d (some α)=nx ⟨setA s d α,m⟩:=rfl
theorem ZbG {x:Option A}:Zdc (putE ⟨s,m⟩ d x) nx=ZcQ nx s m d x:=by cases x <;> rfl
theorem Zt7:Zbh P ds n [] ⟨s,m⟩=.done ⟨s,m⟩:=rfl
theorem ro_n {op:Op} {t:TypeId} {p:String} {a:Array Edge}:Zbh P ds n (⟨d,op,t,p,a,none⟩::os) ⟨s,m⟩=Zbl P d t (n - 1) n os (Zbh P ds (n - 1) os) op ⟨s,m⟩:=rfl
theorem ro_g {op:Op} {t:TypeId} {p:String} {a:Array Edge} {j:Nat} {w:Bool}:Zbh P ds n (⟨d,op,t,p,a,some (j,w)⟩::os) ⟨s,m⟩=ZeV w (Zbl P d t n n os (Zbh P ds (n - 1) os) op) (Zjp d (Zbh P ds (n - 1) os)) ⟨s,m⟩ ((ds[j]?.join).map (gs s)):=rfl
theorem Zt8 {y x:St->Res} {b w:Bool}:ZeV w y x σ (some (.d (.one (.lit (.bool b)))))=Zjq y x σ (b==w):=rfl
theorem pk_t {y x:St->Res}:Zjq y x σ true=y σ:=rfl
theorem pk_f {y x:St->Res}:Zjq y x σ false=x σ:=rfl
theorem sk_r:Zjp d nx ⟨s,m⟩=nx ⟨setA s d .no,m⟩:=rfl
theorem g_no {y x:St->Res} {w:Bool}:ZeV w y x σ (some .no)=x σ:=rfl
theorem qB_0:qB 0=false:=rfl
theorem qB_s {k:Nat}:qB (k+1)=true:=rfl
theorem Zt9 {x:Operand}:Zbl P d ty q n os nx (.move x) ⟨s,m⟩=nx ⟨setA s d (evA s x),m⟩:=rfl
theorem Zua {c a b:Operand}:Zbl P d ty q n os nx (.pick c a b) ⟨s,m⟩=ZcQ nx s m d (ZnT (evA s a) (evA s b) (evA s c)):=ZbG
theorem Zub {t:TypeId} {x:Operand}:Zbl P d ty q n os nx (.load t x) ⟨s,m⟩=ZcQ nx s m d (Zev (Za8 P t) (ptrA m (nrm m (evA s x)))):=ZbG
theorem ZjS {t:TypeId} {x:Operand} {f:Nat}:Zbl P d ty q n os nx (.fieldAddr t x f) ⟨s,m⟩=ZcQ nx s m d (Zc9 (evA s x) (offT P t f)):=ZbG
theorem ZqO {t:TypeId} {x:Operand} {f:Nat}:Zbl P d ty q n os nx (.field t x f) ⟨s,m⟩=ZcQ nx s m d (Zix P (evA s x) (offT P t f)):=ZbG
theorem ZjT {t:TypeId} {x i:Operand}:Zbl P d ty q n os nx (.indexAddr t x i) ⟨s,m⟩=ZcQ nx s m d (ZdC m (ZbL P t) (nrm m (evA s x)) (evA s i)):=ZbG
theorem ZqP {t:TypeId} {x i:Operand}:Zbl P d ty q n os nx (.index t x i) ⟨s,m⟩=ZcQ nx s m d (Ziy (P.underlying t) (evA s x) (evA s i)):=ZbG
theorem ZyW {op:BinOp} {t t':TypeId} {x y:Operand}:Zbl P d ty q n os nx (.binOp op t x y t') ⟨s,m⟩=ZcQ nx s m d (binA P t op (evA s x) (evA s y)):=ZbG
theorem R_un {op:UnOp} {t:TypeId} {x:Operand}:Zbl P d ty q n os nx (.unOp op t x) ⟨s,m⟩=ZcQ nx s m d (unA op (evA s x)):=ZbG
theorem ZmH {x:Operand} {i:Nat}:Zbl P d ty q n os nx (.extract x i) ⟨s,m⟩=ZcQ nx s m d (Zgo i (evA s x)):=ZbG
theorem ZyX {x:Operand}:Zbl P d ty q n os nx (.nilCheck x) ⟨s,m⟩=ZcQ nx s m d (nilA (evA s x)):=ZbG
theorem Zuc {a b:TypeId} {x:Operand}:Zbl P d ty q n os nx (.convert a b x) ⟨s,m⟩=ZcQ nx s m d (Zjk P a b (evA s x)):=ZbG
theorem ZqQ {t:TypeId} {x:Operand} {lo hi mx:Option Operand}:Zbl P d ty q n os nx (.slice t x lo hi mx) ⟨s,m⟩=ZcQ nx s m d (Zfb P t (evA s x) (lo.map (evA s)) (hi.map (evA s)) (mx.map (evA s))):=ZbG
theorem ZyY {args:List Operand} {ts:Array TypeId}:Zbl P d ty q n os nx (.call ⟨.builtin .len,args.toArray,ts⟩) ⟨s,m⟩=ZcQ nx s m d (lenA m (lenT P ts) (args.map fun x=>nrm m (evA s x))):=ZbG
theorem ZyZ {args:List Operand} {ts:Array TypeId}:Zbl P d ty q n os nx (.call ⟨.builtin .max,args.toArray,ts⟩) ⟨s,m⟩=ZcQ nx s m d (maxA (args.map (evA s))):=ZbG
theorem Zy0 {args:List Operand} {ts:Array TypeId}:Zbl P d ty q n os nx (.call ⟨.builtin .min,args.toArray,ts⟩) ⟨s,m⟩=ZcQ nx s m d (minA (args.map (evA s))):=ZbG
theorem Zud {c:Operand} {args:List Operand} {ts:Array TypeId}:Zbl P d ty q n os nx (.call ⟨.value c,args.toArray,ts⟩) ⟨s,m⟩=.call (qB n) c args d (n - 1) os ⟨s,m⟩:=rfl
def Zk3 (nx:St->Res) (d:Option Nat) (f:List (Nat × A)->List (Nat × Bk)->Option A):Option St->Res
 | some σ=>ZcQ nx σ.s σ.m d (f σ.s σ.m)
 | none=>.bad
theorem ZqR {f:List (Nat × A)->List (Nat × Bk)->Option A}:Zk3 nx d f (some ⟨s,m⟩)=ZcQ nx s m d (f s m):=rfl
theorem Zko {op:Op} {x:Option St} {f:List (Nat × A)->List (Nat × Bk)->Option A} (h:∀ s m,ZgR P m (evA s) op=f s m):Zdc (ZgS P d op x) nx=Zk3 nx d f x:=by
 cases x with
 | none=>rfl
 | some σ =>
  obtain ⟨s',m'⟩:=σ;show Zdc (putE ⟨s',m'⟩ d (ZgR P m' (evA s') op)) nx=_;rw [ZbG,h];rfl
theorem ZqS {t:TypeId} {parts:List (Nat × Operand)}:Zbl P d ty q n os nx (.build t parts.toArray) ⟨s,m⟩=Zk3 nx d (fun s m=>Zhw P t (parts.map fun p=>(p.1,evA s p.2))) (frzQ (qB n) (ZdS (parts.map fun p=>evA s p.2)) ⟨s,m⟩):=Zko (fun _ _=>rfl)
theorem ZiI {t:TypeId} {k:Nat} {parts:List (Nat × Operand)}:Zbl P d ty q n os nx (.buildSlice t k parts.toArray) ⟨s,m⟩=Zk3 nx d (fun s m=>Zel (Zbj P t) k (parts.map fun p=>(p.1,evA s p.2))) (frzQ (qB n) (ZdS (parts.map fun p=>evA s p.2)) ⟨s,m⟩):=Zko (fun _ _=>rfl)
theorem Zk4 {f:FuncId} {caps:List Operand}:Zbl P d ty q n os nx (.makeFunc (.func f) #[] caps.toArray) ⟨s,m⟩=Zk3 nx d (fun s m=>fnA f (csA (caps.map (evA s)))) (frzQ (qB n) (ZdS (caps.map (evA s))) ⟨s,m⟩):=Zko (fun _ _=>rfl)
theorem Zue {q:Bool}:frzQ q [] σ=some σ:=rfl
theorem ZqT {k:Nat} {ks:List Nat}:frzQ false (k::ks) σ=some (frzs (k::ks) σ):=rfl
theorem Zuf:frzs [] σ=σ:=rfl
theorem ZqU {k:Nat} {ks:List Nat}:frzs (k::ks) ⟨s,m⟩=frzs ks (frzB k ⟨s,m⟩ (gm m k)):=rfl
theorem ZqV {k:Nat} {bk:Bk}:frzB k ⟨s,m⟩ (some bk)=⟨frzS k bk s,remM k m⟩:=rfl
theorem ZqW {k:Nat}:frzB k ⟨s,m⟩ none=⟨s,m⟩:=rfl
theorem Zug {k:Nat} {bk:Bk}:frzS k bk []=[]:=rfl
theorem ZqX {k t:Nat} {bk:Bk} {a:A} {r:List (Nat × A)}:frzS k bk ((t,a)::r)=(t,frzA k bk a)::frzS k bk r:=rfl
theorem Zon {k:Nat} {bk:Bk}:frzA k bk .undef=.undef:=rfl
theorem Zy1 {k:Nat} {bk:Bk}:frzA k bk .no=.no:=rfl
theorem fA_d {k:Nat} {bk:Bk} {x:D}:frzA k bk (.d x)=.d x:=rfl
theorem Zuh {k:Nat} {bk:Bk} {x:List D}:frzA k bk (.tup x)=.tup x:=rfl
theorem Zy2 {k k' off:Nat} {o:Option Nat} {cs:List C}:frzA k (.var o cs) (.ref k' off)=if k'=k then .d (.one (.ptr (cs.drop off))) else .ref k' off:=rfl
theorem Zy3 {k k' off e sz:Nat} {o:Option (Option Addr × Nat)} {rows:List (List C)}:frzA k (.buf o e sz rows) (.ref k' off)=if k'=k then .undef else .ref k' off:=rfl
theorem Zy4 {k k':Nat} {o:Option Nat} {cs:List C}:frzA k (.var o cs) (.buf k')=if k'=k then .undef else .buf k':=rfl
theorem Zy5 {k k' e sz:Nat} {o:Option (Option Addr × Nat)} {rows:List (List C)}:frzA k (.buf o e sz rows) (.buf k')=if k'=k then .d (.one (.sl rows)) else .buf k':=rfl
theorem Zui {k k' j sz off:Nat} {bk:Bk}:frzA k bk (.row k' j sz off)=if k'=k then .undef else .row k' j sz off:=rfl
theorem ky_d {x:D}:keyA (.d x)=[]:=rfl
theorem Zuj {k off:Nat}:keyA (.ref k off)=[k]:=rfl
theorem Zuk {k:Nat}:keyA (.buf k)=[k]:=rfl
theorem Zul {k j sz off:Nat}:keyA (.row k j sz off)=[]:=rfl
theorem ZqY:ZdS []=[]:=rfl
theorem Zoo {a:A} {r:List A}:ZdS (a::r)=keyA a++ZdS r:=rfl
theorem ZqZ {t:TypeId}:Zbl P d ty q n os nx (.alloc t) ⟨s,m⟩=Zdc (if qB q=true then none else newE ⟨s,m⟩ d (Za3 P t)) nx:=rfl
theorem Zy6 {t:TypeId} {x:Operand}:Zbl P d ty q n os nx (.box t x) ⟨s,m⟩=Zdc (if qB n=true then none else Zjm d x (frzQ (qB n) (keyA (evA s x)) ⟨s,m⟩)) nx:=rfl
theorem Zq0 {t:TypeId} {x y:Operand}:Zbl P d ty q n os nx (.store t x y) ⟨s,m⟩=Zdc (if qB n=true then none else ZgT P d t x y (frzQ (qB n) (keyA (evA s y)) ⟨s,m⟩)) nx:=rfl
theorem Zop {x:Operand}:Zbl P d ty q n os nx (.assign x) ⟨s,m⟩=Zdc (if qB n=true then none else Zdr P ⟨s,m⟩ d ty (evA s x)) nx:=rfl
theorem ZjU {t:TypeId} {l c:Operand}:Zbl P d ty q n os nx (.makeSlice t l c) ⟨s,m⟩=Zdc (if qB n=true then none else ZhS P ⟨s,m⟩ d t (evA s l) (evA s c)) nx:=rfl
theorem Zoq {args:List Operand} {ts:Array TypeId}:Zbl P d ty q n os nx (.call ⟨.builtin .append,args.toArray,ts⟩) ⟨s,m⟩=Zdc (if qB n=true then none else Zge P ⟨s,m⟩ d ts (args.map fun x=>nrm m (evA s x))) nx:=rfl
theorem Zum:Zdc (some σ) nx=nx σ:=rfl
theorem Zun {k:Nat} {cs:List C}:newE ⟨s,m⟩ (some k) (some cs)=some ⟨(k,.ref k 0)::Zaq k s,(k,.var none cs)::remM k m⟩:=rfl
theorem Zq1 {x:Operand}:Zjm d x (some ⟨s,m⟩)=newE ⟨s,m⟩ d (ZcD (evA s x)):=rfl
theorem Zq2 {t:TypeId} {x y:Operand}:ZgT P d t x y (some ⟨s,m⟩)=Zhx ⟨s,m⟩ d (nrm m (evA s x)) (ZcD (evA s y)) (Zbi P t):=rfl
theorem Zy7 {k off k2:Nat} {us:List C}:Zhx ⟨s,m⟩ none (.ref k off) (some us) (some k2)=storeVar ⟨s,m⟩ k off k2 us (gm m k):=rfl
theorem Zy8 {k j sz off k2:Nat} {us:List C}:Zhx ⟨s,m⟩ none (.row k j sz off) (some us) (some k2)=storeRow ⟨s,m⟩ k j sz off k2 us (gm m k):=rfl
theorem Zy9 {o:Option Nat} {k off k2:Nat} {us cs:List C}:storeVar ⟨s,m⟩ k off k2 us (some (.var o cs))=if us.length=k2∧off+k2<=cs.length then some ⟨s,(k,.var o (cs.take off++us++cs.drop (off+k2)))::remM k m⟩ else none:=rfl
def Zor (s:List (Nat × A)) (m:List (Nat × Bk)) (o:Option (Option Addr × Nat)) (k j e sz off k2:Nat) (us:List C) (rows:List (List C)):Option (List C)->Option St
 | some r=>if us.length=k2∧off+k2<=r.length then some ⟨s,(k,.buf o e sz (rows.set j (r.take off++us++r.drop (off+k2))))::remM k m⟩ else none
 | none=>none
theorem Zza {o:Option (Option Addr × Nat)} {k j sz sz' off k2 e:Nat} {us:List C} {rows:List (List C)}:storeRow ⟨s,m⟩ k j sz off k2 us (some (.buf o e sz' rows))=if sz'=sz then Zor s m o k j e sz off k2 us rows rows[j]? else none:=by
 simp only [storeRow];split
 ·unfold Zor;cases rows[j]? <;> rfl
 ·rfl
theorem s_bf {o:Option (Option Addr × Nat)} {k j sz off k2 e:Nat} {us r:List C} {rows:List (List C)}:Zor s m o k j e sz off k2 us rows (some r)=if us.length=k2∧off+k2<=r.length then some ⟨s,(k,.buf o e sz (rows.set j (r.take off++us++r.drop (off+k2))))::remM k m⟩ else none:=rfl
theorem Zq3 {o:Option Nat} {cs:List C}:varA (some (.var o cs))=some cs:=rfl
theorem Zq4 {o:Option (Option Addr × Nat)} {j sz sz' e:Nat} {rows:List (List C)}:rowA j sz (some (.buf o e sz' rows))=if sz'=sz then rows[j]? else none:=rfl
theorem Zzb {k:Nat} {c:C}:Zdr P ⟨s,m⟩ (some k) ty (.d (.one c))=some ⟨(k,.d (.one c))::s,m⟩:=rfl
theorem Zzc {k:Nat} {c:List C}:Zdr P ⟨s,m⟩ (some k) ty (.d (.agg c))=some ⟨(k,.d (.agg c))::s,m⟩:=rfl
theorem Zuo {k:Nat} {r:List C} {rs:List (List C)}:Zdr P ⟨s,m⟩ (some k) ty (.d (.clip (r::rs)))=some ⟨(k,.d (.clip (r::rs)))::s,m⟩:=rfl
theorem Zzd {k:Nat}:Zdr P ⟨s,m⟩ (some k) ty (.d (.clip []))=newB ⟨s,m⟩ k (Zbj P ty):=rfl
theorem Zze {k:Nat} {x:List D}:Zdr P ⟨s,m⟩ (some k) ty (.tup x)=some ⟨(k,.tup x)::s,m⟩:=rfl
theorem Zzf {k k' off:Nat}:Zdr P ⟨s,m⟩ (some k) ty (.ref k' off)=some ⟨(k,.ref k' off)::s,m⟩:=rfl
theorem Zzg {k k':Nat}:Zdr P ⟨s,m⟩ (some k) ty (.buf k')=Zjl ⟨s,m⟩ k' k (gm m k'):=rfl
theorem Zq5 {o:Option (Option Addr × Nat)} {k k' e sz:Nat} {rows:List (List C)}:Zjl ⟨s,m⟩ k k' (some (.buf o e sz rows))=if k=k' then some ⟨(k',.buf k')::s,m⟩ else some (ownE ⟨s,m⟩ k k' (.buf o e sz rows)):=rfl
theorem Zq6 {k e sz b:Nat}:newB ⟨s,m⟩ k (some (e,sz,b))=some ⟨(k,.buf k)::Zaq k s,(k,.buf none e sz [])::remM k m⟩:=rfl
theorem Zq7 {k:Nat}:newB ⟨s,m⟩ k none=some ⟨(k,.d (.clip []))::s,m⟩:=rfl
theorem Zzh {k k':Nat} {bk:Bk}:ownE ⟨s,m⟩ k k' bk=⟨(k',.buf k')::Zaq k' (Zaq k s),(k',bk)::remM k' (remM k m)⟩:=rfl
theorem Zup {k:Nat}:Zaq k []=[]:=rfl
theorem Zuq {k k' off t:Nat} {r:List (Nat × A)}:Zaq k ((t,.ref k' off)::r)=(t,if k'=k then .undef else .ref k' off)::Zaq k r:=rfl
theorem Zur {k k' t:Nat} {r:List (Nat × A)}:Zaq k ((t,.buf k')::r)=(t,if k'=k then .undef else .buf k')::Zaq k r:=rfl
theorem Zus {k k' j sz off t:Nat} {r:List (Nat × A)}:Zaq k ((t,.row k' j sz off)::r)=(t,if k'=k then .undef else .row k' j sz off)::Zaq k r:=rfl
theorem kl_d {k t:Nat} {x:D} {r:List (Nat × A)}:Zaq k ((t,.d x)::r)=(t,.d x)::Zaq k r:=rfl
theorem Zut {k t:Nat} {x:List D} {r:List (Nat × A)}:Zaq k ((t,.tup x)::r)=(t,.tup x)::Zaq k r:=rfl
theorem Zos {k t:Nat} {r:List (Nat × A)}:Zaq k ((t,.undef)::r)=(t,.undef)::Zaq k r:=rfl
theorem Zzi {k t:Nat} {r:List (Nat × A)}:Zaq k ((t,.no)::r)=(t,.no)::Zaq k r:=rfl
theorem Zuu {k:Nat}:remM k []=[]:=rfl
theorem Zq8 {k t:Nat} {a:Bk} {r:List (Nat × Bk)}:remM k ((t,a)::r)=if t=k then remM k r else (t,a)::remM k r:=rfl
def appX (s:List (Nat × A)) (m:List (Nat × Bk)) (k e sz:Nat) (y:A) (ys:List (List C)):A->Option St
 | .buf k'=>if ZkN k' y=true then none else Zhy ⟨s,m⟩ k k' e sz ys (gm m k')
 | .d (.clip rows)=>if ZaI sz rows=true∧rows.length+ys.length<=maxApp∧(rows.isEmpty || !ys.isEmpty)=true then some ⟨(k,.buf k)::Zaq k s,(k,.buf none e sz (rows++ys))::remM k m⟩ else none
 | _=>none
def appA (s:List (Nat × A)) (m:List (Nat × Bk)) (k:Nat) (x y:A):Option (TypeId × Nat × Nat)->Option (List (List C))->Option St
 | some (e,sz,_),some ys=>if ZaI sz ys=true then appX s m k e sz y ys x else none
 | _,_=>none
theorem Zzj {k:Nat} {t:TypeId} {x y:A}:Zge P ⟨s,m⟩ (some k) #[t,t] [x,y]=appA s m k x y (Zbj P t) (slA m y):=by
 unfold Zge appA;simp only [List.getElem?_toArray,Tat,Tau,if_true]
 cases Zbj P t with
 | none=>rfl
 | some b =>
  obtain ⟨e,sz,b⟩:=b
  cases slA m y with
  | none=>rfl
  | some ys =>
   simp only;split
   ·cases x with
    | d x=>cases x <;> rfl
    | _=>rfl
   ·rfl
theorem Zq9 {k e sz b:Nat} {x y:A} {ys:List (List C)}:appA s m k x y (some (e,sz,b)) (some ys)=if ZaI sz ys=true then appX s m k e sz y ys x else none:=rfl
theorem Zuv {k k' e sz:Nat} {y:A} {ys:List (List C)}:appX s m k e sz y ys (.buf k')=if ZkN k' y=true then none else Zhy ⟨s,m⟩ k k' e sz ys (gm m k'):=rfl
theorem Zra {k e sz:Nat} {y:A} {ys rows:List (List C)}:appX s m k e sz y ys (.d (.clip rows))=if ZaI sz rows=true∧rows.length+ys.length<=maxApp∧(rows.isEmpty || !ys.isEmpty)=true then some ⟨(k,.buf k)::Zaq k s,(k,.buf none e sz (rows++ys))::remM k m⟩ else none:=rfl
theorem Zrb {o:Option (Option Addr × Nat)} {k k' e e' sz sz':Nat} {ys rows:List (List C)}:Zhy ⟨s,m⟩ k k' e sz ys (some (.buf o e' sz' rows))=if e'=e∧sz'=sz∧rows.length+ys.length<=maxApp then some (ownE ⟨s,m⟩ k' k (.buf none e' sz (rows++ys))) else none:=rfl
theorem ib_d {k:Nat} {x:D}:ZkN k (.d x)=false:=rfl
theorem Zuw {k k':Nat}:ZkN k (.buf k')=(k'==k):=rfl
def ZnZ (s:List (Nat × A)) (m:List (Nat × Bk)) (k e sz:Nat) (a b:Int):Option (List C)->Option St
 | some z=>if a=b∧0<=a∧a<=maxApp∧z.all Zau=true then some ⟨(k,.buf k)::Zaq k s,(k,.buf none e sz (List.replicate a.toNat z))::remM k m⟩ else none
 | none=>none
def ZsS (P:Program) (s:List (Nat × A)) (m:List (Nat × Bk)) (k:Nat):Option Int->Option Int->Option (TypeId × Nat × Nat)->Option St
 | some a,some b,some (e,sz,_)=>ZnZ s m k e sz a b (Za3 P e)
 | _,_,_=>none
theorem Zzk {k:Nat} {t:TypeId} {l c:A}:ZhS P ⟨s,m⟩ (some k) t l c=ZsS P s m k (intA l) (intA c) (Zbj P t):=by
 unfold ZhS ZsS
 cases intA l with
 | none=>rfl
 | some a =>
  cases intA c with
  | none=>rfl
  | some b =>
   cases Zbj P t with
   | none=>rfl
   | some q =>
    obtain ⟨e,sz,q⟩:=q;simp only [ZnZ]
    cases Za3 P e <;> rfl
theorem Zrc {k e sz q:Nat} {a b:Int}:ZsS P s m k (some a) (some b) (some (e,sz,q))=ZnZ s m k e sz a b (Za3 P e):=rfl
theorem Zrd {k e sz:Nat} {a b:Int} {z:List C}:ZnZ s m k e sz a b (some z)=if a=b∧0<=a∧a<=maxApp∧z.all Zau=true then some ⟨(k,.buf k)::Zaq k s,(k,.buf none e sz (List.replicate a.toNat z))::remM k m⟩ else none:=rfl
theorem Zux {j:Int}:intA (.d (.one (.lit (.int .i64 j))))=some j:=rfl
theorem Zzl {t:Nat}:evA s (.tmp t)=gs s t:=rfl
theorem Zre {v:Value}:evA s (.const v)=ZdL v:=rfl
theorem Zuy {f:FuncId}:evA s (.func f)=.d (.one (.fn f [])):=rfl
theorem Zzm {k:IntKind} {i:Int}:ZdL (.int k i)=.d (.one (.lit (.int k i))):=rfl
theorem Zuz {b:Bool}:ZdL (.bool b)=.d (.one (.lit (.bool b))):=rfl
theorem Zzn {b:ByteArray}:ZdL (.string b)=.d (.one (.lit (.string b))):=rfl
theorem t_sl:ZdL (.slice none 0 0)=.d (.clip []):=rfl
theorem Zzo {p:Option Addr}:ZdL (.pointer p)=.d (.one (.lit (.pointer p))):=rfl
theorem Zzp {l:List Value}:ZdL (.agg l.toArray)=.d (.agg (l.map toC)):=rfl
theorem Zrf {k:IntKind} {i:Int}:toC (.int k i)=.lit (.int k i):=rfl
theorem Zrg {b:ByteArray}:toC (.string b)=.lit (.string b):=rfl
theorem Zot {b:Bool}:toC (.bool b)=.lit (.bool b):=rfl
theorem ZuA:toC (.slice none 0 0)=.sl []:=rfl
theorem Zrh {p:Option Addr}:toC (.pointer p)=.lit (.pointer p):=rfl
theorem Zri {k:Nat} {a:A}:setA s (some k) a=(k,a)::s:=rfl
theorem Zrj {a:A}:setA s none a=s:=rfl
theorem Zzq {cs:List C}:ptrA m (.d (.one (.ptr cs)))=some cs:=rfl
theorem Zzr {k off:Nat}:ptrA m (.ref k off)=(varA (gm m k)).map (·.drop off):=rfl
theorem Zzs {k j sz off:Nat}:ptrA m (.row k j sz off)=(rowA j sz (gm m k)).map (·.drop off):=rfl
theorem ZuB {k:TK} {cs:List C}:Zev (some k) (some cs)=valT k cs:=rfl
theorem Zzt {c:C} {cs:List C}:valT .one (c::cs)=some (.d (.one c)):=rfl
theorem Zzu {k:Nat} {cs:List C}:valT (.agg k) cs=if k<=cs.length then some (.d (.agg (cs.take k))) else none:=rfl
theorem Zrk {a b:A} {t:Bool}:ZnT a b (.d (.one (.lit (.bool t))))=some (if t=true then a else b):=rfl
theorem ZuC {cs:List C} {k:Nat} {t:TypeId}:Zc9 (.d (.one (.ptr cs))) (some (k,t))=some (.d (.one (.ptr (cs.drop k)))):=rfl
theorem ZuD {b off k:Nat} {t:TypeId}:Zc9 (.ref b off) (some (k,t))=some (.ref b (off+k)):=rfl
theorem ZuE {b j sz off k:Nat} {t:TypeId}:Zc9 (.row b j sz off) (some (k,t))=some (.row b j sz (off+k)):=rfl
theorem Zzv {cs:List C} {k:Nat} {t:TypeId}:Zix P (.d (.agg cs)) (some (k,t))=Zev (Za8 P t) (some (cs.drop k)):=rfl
theorem Zzw {k:Nat} {rows:List (List C)} {kk:IntKind} {j:Int}:ZdC m (some k) (.d (.one (.sl rows))) (.d (.one (.lit (.int kk j))))=if 0<=j then if ZaI k rows=true then eltA rows[j.toNat]? else none else none:=rfl
theorem Zrl {k:Nat} {rows:List (List C)} {kk:IntKind} {j:Int}:ZdC m (some k) (.d (.clip rows)) (.d (.one (.lit (.int kk j))))=if 0<=j then if ZaI k rows=true then eltA rows[j.toNat]? else none else none:=rfl
theorem ZuF {k b:Nat} {kk:IntKind} {j:Int}:ZdC m (some k) (.buf b) (.d (.one (.lit (.int kk j))))=ZkK b k j (gm m b):=rfl
theorem ZuG {o:Option (Option Addr × Nat)} {k b e sz:Nat} {j:Int} {rows:List (List C)}:ZkK b k j (some (.buf o e sz rows))=if sz=k then if 0<=j then if j.toNat < rows.length then some (.row b j.toNat sz 0) else none else none else none:=rfl
theorem Zrm {r:List C}:eltA (some r)=some (.d (.one (.ptr r))):=rfl
theorem Zzx {b:ByteArray} {kk:IntKind} {j:Int}:Ziy (some .string) (.d (.one (.lit (.string b)))) (.d (.one (.lit (.int kk j))))=if 0<=j then ZnU b[j.toNat]? else none:=rfl
theorem Zrn {b:UInt8}:ZnU (some b)=some (.d (.one (.lit (.int .u8 b.toNat)))):=rfl
theorem Zro {v:Value}:litA (some v)=some (.d (.one (.lit v))):=rfl
theorem Zzy {op:BinOp} {t:TypeId} {a b:Value}:binA P t op (.d (.one (.lit a))) (.d (.one (.lit b)))=litA (binT P op t a b):=rfl
theorem Zzz {op:UnOp} {a:Value}:unA op (.d (.one (.lit a)))=litA (unV op a):=rfl
theorem ZuH {b:Bool}:unV .not (.bool b)=some (.bool (!b)):=rfl
theorem ZuI {a:Int}:unV .neg (.int .i64 a)=some (.int .i64 (IntKind.i64.wrap (0 - a))):=rfl
theorem Zrp {x:D}:dA (some x)=some (.d x):=rfl
theorem ZzA {i:Nat} {xs:List D}:Zgo i (.tup xs)=dA xs[i]?:=rfl
theorem ZuJ {cs:List C}:nilA (.d (.one (.ptr cs)))=some (.d (.one (.ptr cs))):=rfl
theorem ZzB {f:FuncId} {cs:List C}:nilA (.d (.one (.fn f cs)))=some (.d (.one (.fn f cs))):=rfl
theorem ZuK {k off:Nat}:nilA (.ref k off)=some (.ref k off):=rfl
theorem ZzC {rows:List (List C)}:lenA m (some true) [.d (.one (.sl rows))]=some (.d (.one (.lit (.int .i64 rows.length)))):=rfl
theorem ZzD {rows:List (List C)}:lenA m (some true) [.d (.clip rows)]=some (.d (.one (.lit (.int .i64 rows.length)))):=rfl
theorem ZzE {k:Nat}:lenA m (some true) [.buf k]=lenS (bufA (gm m k)):=rfl
theorem ZzF {p:Option Addr} {k cap:Nat}:lenA m (some true) [.d (.one (.lit (.slice p k cap)))]=some (.d (.one (.lit (.int .i64 k)))):=rfl
theorem ZuL {b:ByteArray}:lenA m (some false) [.d (.one (.lit (.string b)))]=some (.d (.one (.lit (.int .i64 b.size)))):=rfl
theorem Zrq {rows:List (List C)}:lenS (some rows)=some (.d (.one (.lit (.int .i64 rows.length)))):=rfl
theorem ZzG {rows:List (List C)}:slA m (.d (.one (.sl rows)))=some rows:=rfl
theorem Zrr {rows:List (List C)}:slA m (.d (.clip rows))=some rows:=rfl
theorem ZuM {k:Nat}:slA m (.buf k)=bufA (gm m k):=rfl
theorem Zrs {o:Option (Option Addr × Nat)} {e sz:Nat} {rows:List (List C)}:bufA (some (.buf o e sz rows))=some rows:=rfl
theorem ZzH {x y:Int}:maxA [.d (.one (.lit (.int .i64 x))),.d (.one (.lit (.int .i64 y)))]=some (.d (.one (.lit (.int .i64 (if y > x then y else x))))):=rfl
theorem ZzI {x y:Int}:minA [.d (.one (.lit (.int .i64 x))),.d (.one (.lit (.int .i64 y)))]=some (.d (.one (.lit (.int .i64 (if y < x then y else x))))):=rfl
theorem ZzJ {e sz b k:Nat} {parts:List (Nat × A)}:Zel (some (e,sz,b)) k parts=if parts.length=k∧k * sz<=16777216 then ZnV (ZdX sz 0 parts) else none:=rfl
theorem Zrt {rows:List (List C)}:ZnV (some rows)=some (.d (.clip rows)):=rfl
theorem ZuN {sz i:Nat}:ZdX sz i []=some []:=rfl
def Zou (sz:Nat) (r:Option (List (List C))):Option (List C)->Option (List (List C))
 | some cs=>if cs.length=sz then r.map (cs::·) else none
 | none=>none
theorem Zru {sz i j:Nat} {x:A} {r:List (Nat × A)}:ZdX sz i ((j,x)::r)=if i=j then Zou sz (ZdX sz (i+1) r) (ZcD x) else none:=by
 show (if i=j then _ else _)=_;unfold Zou;split
 ·cases ZcD x <;> rfl
 ·rfl
theorem Zrv {sz:Nat} {r:Option (List (List C))} {cs:List C}:Zou sz r (some cs)=if cs.length=sz then r.map (cs::·) else none:=rfl
def Zov (P:Program) (t:TypeId) (parts:List (Nat × A)):Bool->Option (List C)->Option A
 | true,some cs=>if cs.all Zau=true then aggA (Zc4 P t cs parts) else none
 | _,_=>none
theorem ZzK {t:TypeId} {parts:List (Nat × A)}:Zhw P t parts=Zov P t parts (Zbv P t) (Za3 P t):=by
 unfold Zhw Zov
 cases Zbv P t <;> cases Za3 P t <;> rfl
theorem Zrw {t:TypeId} {parts:List (Nat × A)} {cs:List C}:Zov P t parts true (some cs)=if cs.all Zau=true then aggA (Zc4 P t cs parts) else none:=rfl
theorem Zrx {cs:List C}:aggA (some cs)=some (.d (.agg cs)):=rfl
theorem ZuO {t:TypeId} {cs:List C}:Zc4 P t cs []=some cs:=rfl
def ZsT (P:Program) (t:TypeId) (cs:List C) (r:List (Nat × A)):Option (Nat × TypeId)->Option (List C)->Option (List C)
 | some (off,ft),some us=>if Zbi P ft=some us.length∧off+us.length<=cs.length then Zc4 P t (cs.take off++us++cs.drop (off+us.length)) r else none
 | _,_=>none
theorem Zry {t:TypeId} {cs:List C} {f:Nat} {x:A} {r:List (Nat × A)}:Zc4 P t cs ((f,x)::r)=ZsT P t cs r (offT P t f) (ZcD x):=by
 conv=>lhs;unfold Zc4
 unfold ZsT;rcases offT P t f with _ | ⟨off,ft⟩ <;> cases ZcD x <;> rfl
theorem Zrz {t ft:TypeId} {cs us:List C} {off:Nat} {r:List (Nat × A)}:ZsT P t cs r (some (off,ft)) (some us)=if Zbi P ft=some us.length∧off+us.length<=cs.length then Zc4 P t (cs.take off++us++cs.drop (off+us.length)) r else none:=rfl
def Zk5 (n:Int):Option TypeDesc->Option IntKind->Option A
 | some _,some k=>some (.d (.one (.lit (.int k (k.wrap n)))))
 | _,_=>none
theorem ZuP {a b:TypeId} {k:IntKind} {j:Int}:Zjk P a b (.d (.one (.lit (.int k j))))=Zk5 j (P.underlying a) (ZdB (P.underlying b)):=by
 unfold Zjk Zk5
 cases P.underlying a <;> cases ZdB (P.underlying b) <;> rfl
theorem ZrA {t:TypeDesc} {k:IntKind} {j:Int}:Zk5 j (some t) (some k)=some (.d (.one (.lit (.int k (k.wrap j))))):=rfl
theorem ZrB {k:IntKind}:ZdB (some (.int k))=some k:=rfl
theorem ZrC {f:FuncId} {cs:List C}:fnA f (some cs)=some (.d (.one (.fn f cs))):=rfl
theorem ZuQ:csA []=some []:=rfl
theorem ZrD {c:C} {r:List A}:csA (.d (.one c)::r)=(csA r).map (c::·):=rfl
def Zk6 (lo hi mx:Option A) (k:Nat):Option (List (List C))->Option A
 | some rows=>if ZaI k rows=true∧(mx.isNone || hi.isSome)=true then dA (Zhv rows (loA lo) (hiA rows.length hi) (mx.map intA)) else none
 | none=>none
def Zow (P:Program) (t:TypeId) (x:A) (lo hi mx:Option A):Option Nat->Option A
 | some k=>Zk6 lo hi mx k (Zgn x)
 | none=>if Zoc (P.underlying t)∧mx=none then match strA x with
   | some s=>dA (Zl7 s (loA lo) (hiA s.size hi))
   | none=>none
  else none
theorem ZzL {t:TypeId} {x:A} {lo hi mx:Option A}:Zfb P t x lo hi mx=Zow P t x lo hi mx (ZbL P t):=by
 unfold Zfb Zow Zk6
 cases ZbL P t with
 | none=>rfl
 | some k=>cases Zgn x <;> rfl
theorem ZrE {t:TypeId} {x:A} {lo hi mx:Option A} {k:Nat}:Zow P t x lo hi mx (some k)=Zk6 lo hi mx k (Zgn x):=rfl
theorem ZrF {lo hi mx:Option A} {k:Nat} {rows:List (List C)}:Zk6 lo hi mx k (some rows)=if ZaI k rows=true∧(mx.isNone || hi.isSome)=true then dA (Zhv rows (loA lo) (hiA rows.length hi) (mx.map intA)) else none:=rfl
theorem ZuR {rows:List (List C)}:Zgn (.d (.one (.sl rows)))=some rows:=rfl
theorem Zox {rows:List (List C)}:Zgn (.d (.clip rows))=some rows:=rfl
theorem ZrG:loA none=some 0:=rfl
theorem ZrH {x:A}:loA (some x)=intA x:=rfl
theorem ZrI {k:Nat}:hiA k none=some (k:Int):=rfl
theorem ZrJ {k:Nat} {x:A}:hiA k (some x)=intA x:=rfl
theorem sl_2 {rows:List (List C)} {l h:Int}:Zhv rows (some l) (some h) none=if 0<=l∧l<=h∧h<=rows.length then some (.one (.sl ((rows.take h.toNat).drop l.toNat))) else none:=rfl
theorem sl_3 {rows:List (List C)} {l h k:Int}:Zhv rows (some l) (some h) (some (some k))=if 0<=l∧l<=h∧h<=rows.length∧k=h then some (.clip ((rows.take h.toNat).drop l.toNat)) else none:=rfl
theorem ZuS {c:C}:ZcD (.d (.one c))=if Zau c=true then some [c] else none:=rfl
theorem ZuT {cs:List C}:ZcD (.d (.agg cs))=if cs.all Zau=true then some cs else none:=rfl
theorem ZrK {rows:List (List C)}:ZcD (.d (.clip rows))=some [.sl rows]:=rfl
theorem ZuU {k:IntKind} {i:Int}:Zau (.lit (.int k i))=true:=rfl
theorem ZrL {b:Bool}:Zau (.lit (.bool b))=true:=rfl
theorem ZuV {b:ByteArray}:Zau (.lit (.string b))=true:=rfl
theorem ZuW {b:Option Nat}:Zau (.lit (.map b))=true:=rfl
theorem ZzM {b:Option Addr}:Zau (.lit (.pointer b))=true:=rfl
theorem ZuX {a:Option Addr} {n c:Nat}:Zau (.lit (.slice a n c))=true:=rfl
theorem ZzN {rows:List (List C)}:Zau (.sl rows)=true:=rfl
theorem ZuY {cs:List C}:Zau (.ptr cs)=true:=rfl
theorem ZzO {f:Nat} {cs:List C}:Zau (.fn f cs)=true:=rfl
theorem ZuZ:dsA []=some []:=rfl
theorem ZrM {x:D} {r:List A}:dsA (.d x::r)=(dsA r).map (x::·):=rfl
theorem ZzP {q:Bool} {c:Operand} {args:List Operand}:Zec q c args ⟨s,m⟩=Zjr c args (frzQ q (ZdS (args.map (evA s))) ⟨s,m⟩):=rfl
theorem cp_s {c:Operand} {args:List Operand}:Zjr c args (some ⟨s,m⟩)=ZkY (evA s c) (dsA (args.map (evA s))) ⟨s,m⟩:=rfl
theorem cp_x {f:FuncId} {caps:List C} {xs:List D}:ZkY (.d (.one (.fn f caps))) (some xs) σ=some (f,xs++caps.map .one,σ):=rfl
theorem ZzQ {c x0:Operand} {rest:List Operand}:ZkZ c x0 rest ⟨s,m⟩=ZnY m (Zcu (evA s c)) (dsA (rest.map (evA s))) (nrm m (evA s x0)):=rfl
theorem co_z {f:Option (FuncId × List C)} {xs:Option (List D)} {k:Nat}:ZnY m f xs (.buf k)=ZnX f k xs (gm m k):=rfl
theorem co_y {o:Option (Option Addr × Nat)} {f:FuncId} {caps:List C} {xs:List D} {k ty sz:Nat} {rows:List (List C)}:ZnX (some (f,caps)) k (some xs) (some (.buf o ty sz rows))=some (f,k,ty,sz,rows,xs++caps.map .one):=rfl
theorem ZzR {f:FuncId} {caps:List C}:Zcu (.d (.one (.fn f caps)))=some (f,caps):=rfl
theorem ZrN {t:Nat}:resA P ⟨s,m⟩ (.slot t)=gs s t:=rfl
theorem ZrO {t k:Nat}:resA P ⟨s,m⟩ (.cell t k)=(Zev (Za8 P k) (ptrA m (gs s t))).getD .undef:=rfl
theorem ZzS {x:D}:retA [x]=.d x:=rfl
theorem ZzT {x y:D} {r:List D}:retA (x::y::r)=.tup (x::y::r):=rfl
theorem r_no:retA []=.tup []:=rfl
theorem Zu0 {t:TypeId} {a b:Int}:binT P .add t (.int .i64 a) (.int .i64 b)=some (.int .i64 (IntKind.i64.wrap (a+b))):=rfl
theorem Zu1 {t:TypeId} {a b:Int}:binT P .sub t (.int .i64 a) (.int .i64 b)=some (.int .i64 (IntKind.i64.wrap (a - b))):=rfl
theorem Zu2 {t:TypeId} {a b:Int}:binT P .mul t (.int .i64 a) (.int .i64 b)=some (.int .i64 (IntKind.i64.wrap (a * b))):=rfl
theorem Zu3 {t:TypeId} {a b:Int}:binT P .lss t (.int .i64 a) (.int .i64 b)=some (.bool (decide (a < b))):=rfl
theorem Zu4 {t:TypeId} {a b:Int}:binT P .leq t (.int .i64 a) (.int .i64 b)=some (.bool (decide (a<=b))):=rfl
theorem Zu5 {t:TypeId} {a b:Int}:binT P .gtr t (.int .i64 a) (.int .i64 b)=some (.bool (decide (b < a))):=rfl
theorem Zu6 {t:TypeId} {a b:Int}:binT P .geq t (.int .i64 a) (.int .i64 b)=some (.bool (decide (b<=a))):=rfl
theorem Zu7 {t:TypeId} {a b:Int}:binT P .eql t (.int .i64 a) (.int .i64 b)=some (.bool (decide (a=b))):=rfl
theorem Zu8 {t:TypeId} {a b:Int}:binT P .neq t (.int .i64 a) (.int .i64 b)=some (.bool (!decide (a=b))):=rfl
theorem Zu9 {t:TypeId} {a b:Int}:binT P .lss t (.int .u8 a) (.int .u8 b)=some (.bool (decide (a < b))):=rfl
theorem Zva {t:TypeId} {a b:Int}:binT P .leq t (.int .u8 a) (.int .u8 b)=some (.bool (decide (a<=b))):=rfl
theorem Zvb {t:TypeId} {a b:Int}:binT P .gtr t (.int .u8 a) (.int .u8 b)=some (.bool (decide (b < a))):=rfl
theorem Zvc {t:TypeId} {a b:Int}:binT P .geq t (.int .u8 a) (.int .u8 b)=some (.bool (decide (b<=a))):=rfl
theorem Zvd {t:TypeId} {a b:Int}:binT P .eql t (.int .u8 a) (.int .u8 b)=some (.bool (decide (a=b))):=rfl
theorem Zve {t:TypeId} {a b:Int}:binT P .neq t (.int .u8 a) (.int .u8 b)=some (.bool (!decide (a=b))):=rfl
theorem Zvf {t:TypeId} {a b:ByteArray}:binT P .eql t (.string a) (.string b)=some (.bool (a.toList==b.toList)):=rfl
theorem Zvg {t:TypeId} {a b:ByteArray}:binT P .neq t (.string a) (.string b)=some (.bool (!(a.toList==b.toList))):=rfl
theorem Zvh {t:TypeId} {a b:ByteArray}:binT P .lss t (.string a) (.string b)=some (.bool (Go.Op.bytesLess a.toList b.toList)):=rfl
theorem Zvi {t:TypeId} {a b:Bool}:binT P .eql t (.bool a) (.bool b)=ZhR (P.underlying t) (a==b):=rfl
theorem Zvj {t:TypeId} {a b:Bool}:binT P .neq t (.bool a) (.bool b)=ZhR (P.underlying t) (!(a==b)):=rfl
theorem bb_t {v:Bool}:ZhR (some .bool) v=some (.bool v):=rfl
theorem Zvk {t:TypeId} {a b:Int}:binT P .and t (.int .i64 a) (.int .i64 b)=some (.int .i64 (bits .and .i64 a b)):=rfl
theorem ZzU {t:TypeId} {a b:Int}:binT P .or t (.int .i64 a) (.int .i64 b)=some (.int .i64 (bits .or .i64 a b)):=rfl
theorem Zvl {t:TypeId} {a b:Int}:binT P .xor t (.int .i64 a) (.int .i64 b)=some (.int .i64 (bits .xor .i64 a b)):=rfl
theorem ZmI {t:TypeId} {a b:Int}:binT P .andNot t (.int .i64 a) (.int .i64 b)=some (.int .i64 (bits .andNot .i64 a b)):=rfl
theorem Zvm {t:TypeId} {k:IntKind} {a b:Int}:binT P .shl t (.int .i64 a) (.int k b)=if 0<=b then some (.int .i64 (IntKind.i64.wrap (a * 2 ^ (min b.toNat 64)))) else none:=rfl
theorem Zvn {t:TypeId} {k:IntKind} {a b:Int}:binT P .shr t (.int .i64 a) (.int k b)=if 0<=b then some (.int .i64 (a.fdiv (2 ^ (min b.toNat 64)))) else none:=rfl
theorem Zk7 {t:TypeId} {k:IntKind} {a b:Int}:binT P .shr t (.int .u64 a) (.int k b)=if 0<=b then some (.int .u64 (a.fdiv (2 ^ (min b.toNat 64)))) else none:=rfl
theorem ZBg {a:Int}:unV .neg (.int .u64 a)=some (.int .u64 (IntKind.u64.wrap (0 - a))):=rfl
theorem Zvo {t:TypeId} {a b:Int}:binT P .quo t (.int .i64 a) (.int .i64 b)=if b=0 then none else some (.int .i64 (IntKind.i64.wrap (a.tdiv b))):=rfl
theorem Zvp {t:TypeId} {a b:Int}:binT P .rem t (.int .i64 a) (.int .i64 b)=if b=0 then none else some (.int .i64 (a.tmod b)):=rfl
theorem Zvq {t:TypeId} {a b:ByteArray}:binT P .add t (.string a) (.string b)=if a.size+b.size<=9223372036854775807 then some (.string (a++b)) else none:=rfl
theorem Zvr {b off k:Nat} {t:TypeId}:Zc9 (.d (.one (.lit (.pointer (some ⟨b,off,none⟩))))) (some (k,t))=some (.d (.one (.lit (.pointer (some ⟨b,off+k,none⟩))))):=rfl
theorem Zvs {p:Addr}:nilA (.d (.one (.lit (.pointer (some p)))))=some (.d (.one (.lit (.pointer (some p))))):=rfl
theorem Zvt {b off:Nat}:nrm m (.d (.one (.lit (.pointer (some ⟨b,off,none⟩)))))=ZkL m b off (varK b m):=rfl
theorem ZzV {p:Option Addr} {k cap:Nat}:nrm m (.d (.one (.lit (.slice p k cap))))=ZkM m p k cap (bufK p k cap m):=rfl
theorem nr_p {cs:List C}:nrm m (.d (.one (.ptr cs)))=.d (.one (.ptr cs)):=rfl
theorem nr_s {rows:List (List C)}:nrm m (.d (.one (.sl rows)))=.d (.one (.sl rows)):=rfl
theorem nr_c {rows:List (List C)}:nrm m (.d (.clip rows))=.d (.clip rows):=rfl
theorem nr_i {k:IntKind} {i:Int}:nrm m (.d (.one (.lit (.int k i))))=.d (.one (.lit (.int k i))):=rfl
theorem Zvu {b:ByteArray}:nrm m (.d (.one (.lit (.string b))))=.d (.one (.lit (.string b))):=rfl
theorem Zvv {k off:Nat}:nrm m (.ref k off)=.ref k off:=rfl
theorem Zvw {k:Nat}:nrm m (.buf k)=.buf k:=rfl
theorem Zvx {k j sz off:Nat}:nrm m (.row k j sz off)=.row k j sz off:=rfl
theorem Zvy {b:Nat}:varK b []=none:=rfl
theorem Zvz {b b' k:Nat} {cs:List C} {r:List (Nat × Bk)}:varK b ((k,.var (some b') cs)::r)=if b=b' then some k else varK b r:=rfl
theorem ZvA {b k:Nat} {cs:List C} {r:List (Nat × Bk)}:varK b ((k,.var none cs)::r)=varK b r:=rfl
theorem ZvB {b k e sz:Nat} {o:Option (Option Addr × Nat)} {rows:List (List C)} {r:List (Nat × Bk)}:varK b ((k,.buf o e sz rows)::r)=varK b r:=rfl
theorem ZvC {b k:Nat} {E:Nat->Prop} {G:World->Prop} {r:List (Nat × Bk)}:varK b ((k,.set E G)::r)=varK b r:=rfl
theorem ZvD {p:Option Addr} {k cap:Nat}:bufK p k cap []=none:=rfl
theorem ZvE {p p':Option Addr} {k cap cap' k' e sz:Nat} {rows:List (List C)} {r:List (Nat × Bk)}:bufK p k cap ((k',.buf (some (p',cap')) e sz rows)::r)=if p=p'∧k=rows.length∧cap=cap' then some k' else bufK p k cap r:=rfl
theorem ZvF {p:Option Addr} {k cap k' e sz:Nat} {rows:List (List C)} {r:List (Nat × Bk)}:bufK p k cap ((k',.buf none e sz rows)::r)=bufK p k cap r:=rfl
theorem ZvG {p:Option Addr} {k cap k':Nat} {o:Option Nat} {cs:List C} {r:List (Nat × Bk)}:bufK p k cap ((k',.var o cs)::r)=bufK p k cap r:=rfl
theorem ZvH {p:Option Addr} {k cap k':Nat} {E:Nat->Prop} {G:World->Prop} {r:List (Nat × Bk)}:bufK p k cap ((k',.set E G)::r)=bufK p k cap r:=rfl
theorem ZrP {b off k:Nat}:ZkL m b off (some k)=nrmV b off k (gm m k):=rfl
theorem ZrQ {b off:Nat}:ZkL m b off none=.d (.one (.lit (.pointer (some ⟨b,off,none⟩)))):=rfl
theorem ZvI {b off k b':Nat} {cs:List C}:nrmV b off k (some (.var (some b') cs))=if b=b' then .ref k off else .d (.one (.lit (.pointer (some ⟨b,off,none⟩)))):=rfl
theorem ZvJ {p:Option Addr} {k cap k':Nat}:ZkM m p k cap (some k')=nrmB p k cap k' (gm m k'):=rfl
theorem ZzW {p:Option Addr} {k cap:Nat}:ZkM m p k cap none=.d (.one (.lit (.slice p k cap))):=rfl
theorem ZvK {p p':Option Addr} {k cap cap' k' e sz:Nat} {rows:List (List C)}:nrmB p k cap k' (some (.buf (some (p',cap')) e sz rows))=if p=p'∧k=rows.length∧cap=cap' then .buf k' else .d (.one (.lit (.slice p k cap))):=rfl
theorem rn_0:runN P ds 0 n os ⟨s,m⟩=.stop n os ⟨s,m⟩:=rfl
theorem rn_n {j:Nat} {op:Op} {t:TypeId} {p:String} {a:Array Edge}:runN P ds (j+1) n (⟨d,op,t,p,a,none⟩::os) ⟨s,m⟩=Zbl P d t (n - 1) n os (runN P ds j (n - 1) os) op ⟨s,m⟩:=rfl
theorem rn_g {j:Nat} {op:Op} {t:TypeId} {p:String} {a:Array Edge} {i:Nat} {w:Bool}:runN P ds (j+1) n (⟨d,op,t,p,a,some (i,w)⟩::os) ⟨s,m⟩=ZeV w (Zbl P d t n n os (runN P ds j (n - 1) os) op) (Zjp d (runN P ds j (n - 1) os)) ⟨s,m⟩ ((ds[i]?.join).map (gs s)):=rfl
theorem st_o:Zk0 (.stop n os ⟨s,m⟩)=some (n,os,s,m):=rfl
theorem ZvL {f:A->A}:mapS f []=[]:=rfl
theorem ZrR {f:A->A} {t:Nat} {a:A} {r:List (Nat × A)}:mapS f ((t,a)::r)=(t,f a)::mapS f r:=rfl
theorem ZvM {k b k' off:Nat}:litV k b (.ref k' off)=if k'=k then .d (.one (.lit (.pointer (some ⟨b,off,none⟩)))) else .ref k' off:=rfl
theorem lv_d {k b:Nat} {x:D}:litV k b (.d x)=.d x:=rfl
theorem ZvN {k b k':Nat}:litV k b (.buf k')=.buf k':=rfl
theorem ZvO {k b k' j sz off:Nat}:litV k b (.row k' j sz off)=.row k' j sz off:=rfl
theorem ZvP {k b:Nat} {xs:List D}:litV k b (.tup xs)=.tup xs:=rfl
theorem ZzX {k b:Nat}:litV k b .no=.no:=rfl
theorem ZzY {k b:Nat}:litV k b .undef=.undef:=rfl
theorem ZvQ {k k2 cap k':Nat} {p:Option Addr}:litB k p k2 cap (.buf k')=if k'=k then .d (.one (.lit (.slice p k2 cap))) else .buf k':=rfl
theorem lb_d {k k2 cap:Nat} {p:Option Addr} {x:D}:litB k p k2 cap (.d x)=.d x:=rfl
theorem ZvR {k k2 cap k' off:Nat} {p:Option Addr}:litB k p k2 cap (.ref k' off)=.ref k' off:=rfl
theorem ZvS {k k2 cap k' j sz off:Nat} {p:Option Addr}:litB k p k2 cap (.row k' j sz off)=.row k' j sz off:=rfl
theorem ZvT {k k2 cap:Nat} {p:Option Addr} {xs:List D}:litB k p k2 cap (.tup xs)=.tup xs:=rfl
theorem ZzZ {k k2 cap:Nat} {p:Option Addr}:litB k p k2 cap .no=.no:=rfl
theorem Zz0 {k k2 cap:Nat} {p:Option Addr}:litB k p k2 cap .undef=.undef:=rfl
theorem ZvU:Zcs [] s=s:=rfl
theorem ZrS {k:Nat} {ks:List Nat}:Zcs (k::ks) s=Zcs ks (Zaq k s):=rfl
theorem ZvV:Zcw [] m=m:=rfl
theorem ZrT {k:Nat} {ks:List Nat}:Zcw (k::ks) m=Zcw ks (remM k m):=rfl
theorem ZrU {k:Nat} {ks:List Nat} {x:Bk} {xs:List Bk}:zipM (k::ks) (x::xs)=(k,x)::zipM ks xs:=rfl
theorem ZvW {xs:List Bk}:zipM [] xs=[]:=rfl
theorem Zz1 {ks:List Nat}:zipM ks []=[]:=by cases ks <;> rfl
def getC:Option Bk->Option (List Bk)->Option (List Bk)
 | some x,some r=>some (x::r)
 | _,_=>none
theorem ZvX:getM m []=some []:=rfl
theorem Zme {k:Nat} {ks:List Nat}:getM m (k::ks)=getC (gm m k) (getM m ks):=by
 show (match gm m k,getM m ks with | some x,some r=>some (x::r) | _,_=>none)=_
 cases gm m k <;> cases getM m ks <;> rfl
theorem gt_c {x:Bk} {r:List Bk}:getC (some x) (some r)=some (x::r):=rfl
theorem ZvY {b:Nat} {cs:List C}:pinned (.var (some b) cs)=true:=rfl
theorem ZvZ {q:Option Addr × Nat} {e sz:Nat} {rows:List (List C)}:pinned (.buf (some q) e sz rows)=true:=rfl
theorem Zv0 {E:Nat->Prop} {G:World->Prop}:pinned (.set E G)=true:=rfl
theorem Zz2 {p p':Option Addr} {k cap k' cap':Nat} {rows:List (List C)}:datC p k cap rows (.lit (.slice p' k' cap'))=if p'=p∧k'=k∧cap'=cap then .sl rows else .lit (.slice p' k' cap'):=rfl
theorem Zv1 {p:Option Addr} {k cap:Nat} {rows:List (List C)} {kk:IntKind} {i:Int}:datC p k cap rows (.lit (.int kk i))=.lit (.int kk i):=rfl
theorem Zv2 {p:Option Addr} {k cap:Nat} {rows:List (List C)} {b:ByteArray}:datC p k cap rows (.lit (.string b))=.lit (.string b):=rfl
theorem ZrV {p:Option Addr} {k cap:Nat} {rows:List (List C)} {b:Bool}:datC p k cap rows (.lit (.bool b))=.lit (.bool b):=rfl
theorem Zv3 {p:Option Addr} {k cap:Nat} {rows:List (List C)} {q:Option Addr}:datC p k cap rows (.lit (.pointer q))=.lit (.pointer q):=rfl
theorem Zv4 {p:Option Addr} {k cap:Nat} {rows:List (List C)} {q:Option Nat}:datC p k cap rows (.lit (.map q))=.lit (.map q):=rfl
theorem dc_s {p:Option Addr} {k cap:Nat} {rows rs:List (List C)}:datC p k cap rows (.sl rs)=.sl rs:=rfl
theorem dc_p {p:Option Addr} {k cap:Nat} {rows:List (List C)} {cs:List C}:datC p k cap rows (.ptr cs)=.ptr cs:=rfl
theorem dc_f {p:Option Addr} {k cap:Nat} {rows:List (List C)} {f:FuncId} {cs:List C}:datC p k cap rows (.fn f cs)=.fn f cs:=rfl
theorem Zv5 {p:Option Addr} {k cap:Nat} {rows:List (List C)} {c:C}:datA p k cap rows (.d (.one c))=.d (.one (datC p k cap rows c)):=rfl
theorem Zv6 {p:Option Addr} {k cap:Nat} {rows:List (List C)} {cs:List C}:datA p k cap rows (.d (.agg cs))=.d (.agg (cs.map (datC p k cap rows))):=rfl
theorem Zv7 {p:Option Addr} {k cap k' off:Nat} {rows:List (List C)}:datA p k cap rows (.ref k' off)=.ref k' off:=rfl
theorem Zv8 {p:Option Addr} {k cap:Nat} {rows:List (List C)}:datS p k cap rows [] s=s:=rfl
theorem ZrW {p:Option Addr} {k cap t:Nat} {rows:List (List C)} {ts:List Nat}:datS p k cap rows (t::ts) s=datS p k cap rows ts ((t,datA p k cap rows (gs s t))::s):=rfl
theorem Zv9 {p:Option Addr} {k cap:Nat} {rows:List (List C)}:datM p k cap rows [] m=m:=rfl
theorem ZrX {p:Option Addr} {k cap t:Nat} {rows:List (List C)} {ts:List Nat}:datM p k cap rows (t::ts) m=datM p k cap rows ts (datV p k cap rows t m (gm m t)):=rfl
theorem Zwa {p:Option Addr} {k cap t:Nat} {rows:List (List C)} {o:Option Nat} {cs:List C}:datV p k cap rows t m (some (.var o cs))=(t,.var o (cs.map (datC p k cap rows)))::remM t m:=rfl
def unD:A->Option D
 | .d x=>some x
 | _=>none
def Zn0:Option D->Option (List D)->Option (List D)
 | some x,some r=>some (x::r)
 | _,_=>none
def resD (P:Program) (σ:St):List RS->Option (List D)
 | []=>some []
 | t::ts=>Zn0 (unD (resA P σ t)) (resD P σ ts)
theorem Zwb:resD P ⟨s,m⟩ []=some []:=rfl
theorem ZrY {t:RS} {ts:List RS}:resD P ⟨s,m⟩ (t::ts)=Zn0 (unD (resA P ⟨s,m⟩ t)) (resD P ⟨s,m⟩ ts):=rfl
theorem ZrZ {x:D} {r:List D}:Zn0 (some x) (some r)=some (x::r):=rfl
theorem ud_d {x:D}:unD (.d x)=some x:=rfl
end
theorem Zfd {P:Program} {σ:St}:∀ {ts:List RS} {r:List D},resD P σ ts=some r->Zcx P σ ts r
 | [],r,h=>by simp only [resD,Taq] at h;subst h;trivial
 | t::ts,r,h=>by
  simp only [resD] at h;unfold Zn0 at h;split at h
  ·rename_i x r' hx hr;injection h with h;subst h
   refine ⟨?_,Zfd hr⟩;unfold unD at hx;split at hx
   ·rename_i y hy;injection hx with hx;subst hx;exact hy
   ·cases hx
  ·cases h
end Go.Proofs.YtmdkimnlbaahbaaGreatDoor
set_option maxRecDepth 10000
namespace Go.Proofs.YtmdkimnlbaahbaaGreatDoor
open Go.RowKit
theorem tt_0:(Za8 Tryz.prog 2=some .one)∧(Zbi Tryz.prog 2=some 1)∧(Za3 Tryz.prog 2=some [.lit (.int .i64 0)])∧(Za8 Tryz.prog 3=some .one)∧(Zbi Tryz.prog 3=some 1)∧(Za3 Tryz.prog 3=some [.lit (.int .i64 0)])∧(Za8 Tryz.prog 4=some .one)∧(Zbi Tryz.prog 4=some 1)∧(Za3 Tryz.prog 4=some [.lit (.bool false)])∧(Tryz.prog.underlying 4=some .bool)∧(Za8 Tryz.prog 5=some .one)∧(Zbi Tryz.prog 5=some 1)∧(Za3 Tryz.prog 5=some [.lit (.int .u8 0)])∧(Za8 Tryz.prog 9=some .one)∧(Zbi Tryz.prog 9=some 1)∧(Za3 Tryz.prog 9=some [.lit (.string ByteArray.empty)])∧(lenT Tryz.prog #[9]=some false)∧(Tryz.prog.underlying 9=some .string)∧(Za8 Tryz.prog 22=some .one)∧(Zbi Tryz.prog 22=some 1)∧(Za3 Tryz.prog 22=some [.sl []])∧(ZbL Tryz.prog 22=some 1)∧(lenT Tryz.prog #[22]=some true)∧(Zbj Tryz.prog 22=some (5,1,1))∧(Za8 Tryz.prog 24=some .one)∧(Zbi Tryz.prog 24=some 1)∧(Za3 Tryz.prog 24=some [.sl []])∧(ZbL Tryz.prog 24=some 1)∧(lenT Tryz.prog #[24]=some true)∧(Zbj Tryz.prog 24=some (9,1,16))∧(Za8 Tryz.prog 25=some .one)∧(Zbi Tryz.prog 25=some 1)∧(Za3 Tryz.prog 25=some [.sl []])∧(ZbL Tryz.prog 25=some 2)∧(lenT Tryz.prog #[25]=some true)∧(Zbj Tryz.prog 25=some (73,2,16))∧(Za8 Tryz.prog 27=some (.agg 2))∧(Zbi Tryz.prog 27=some 2)∧(Za3 Tryz.prog 27=some [.sl [],.sl []])∧(Zbv Tryz.prog 27=true):=by repeat' (first | refine ai ?_ ?_ | kernel_rfl)
theorem tt_1:(ZdD Tryz.prog 27=some [.lit (.slice none 0 0),.lit (.slice none 0 0)])∧(offT Tryz.prog 27 0=some (0,24))∧(offT Tryz.prog 27 1=some (1,25))∧(Za8 Tryz.prog 28=some .one)∧(Zbi Tryz.prog 28=some 1)∧(Za3 Tryz.prog 28=some [.sl []])∧(ZbL Tryz.prog 28=some 5)∧(lenT Tryz.prog #[28]=some true)∧(Zbj Tryz.prog 28=some (77,5,56))∧(Za8 Tryz.prog 30=some (.agg 3))∧(Zbi Tryz.prog 30=some 3)∧(Za3 Tryz.prog 30=some [.sl [],.sl [],.sl []])∧(Zbv Tryz.prog 30=true)∧(ZdD Tryz.prog 30=some [.lit (.slice none 0 0),.lit (.slice none 0 0),.lit (.slice none 0 0)])∧(offT Tryz.prog 30 0=some (0,27))∧(offT Tryz.prog 30 1=some (2,28))∧(Za8 Tryz.prog 31=some .one)∧(Zbi Tryz.prog 31=some 1)∧(Za3 Tryz.prog 31=some [.sl []])∧(ZbL Tryz.prog 31=some 8)∧(lenT Tryz.prog #[31]=some true)∧(Zbj Tryz.prog 31=some (59,8,112))∧(Za8 Tryz.prog 34=some .one)∧(Zbi Tryz.prog 34=some 1)∧(Za3 Tryz.prog 34=some [.sl []])∧(ZbL Tryz.prog 34=some 4)∧(lenT Tryz.prog #[34]=some true)∧(Zbj Tryz.prog 34=some (36,4,56))∧(Za8 Tryz.prog 36=some (.agg 4))∧(Zbi Tryz.prog 36=some 4)∧(Za3 Tryz.prog 36=some [.lit (.int .i64 0),.lit (.string ByteArray.empty),.lit (.int .i64 0),.sl []])∧(Zbv Tryz.prog 36=true)∧(ZdD Tryz.prog 36=some [.lit (.int .i64 0),.lit (.string ByteArray.empty),.lit (.int .i64 0),.lit (.slice none 0 0)])∧(offT Tryz.prog 36 0=some (0,3))∧(offT Tryz.prog 36 1=some (1,9))∧(offT Tryz.prog 36 2=some (2,3))∧(offT Tryz.prog 36 3=some (3,34))∧(Za8 Tryz.prog 46=some .one)∧(Zbi Tryz.prog 46=some 1)∧(Za8 Tryz.prog 54=some .one):=by repeat' (first | refine ai ?_ ?_ | kernel_rfl)
theorem tt_2:(Zbi Tryz.prog 54=some 1)∧(Za8 Tryz.prog 59=some (.agg 8))∧(Zbi Tryz.prog 59=some 8)∧(Za3 Tryz.prog 59=some [.lit (.int .i64 0),.lit (.string ByteArray.empty),.lit (.int .i64 0),.sl [],.lit (.int .i64 0),.lit (.string ByteArray.empty),.lit (.int .i64 0),.sl []])∧(Zbv Tryz.prog 59=true)∧(ZdD Tryz.prog 59=some [.lit (.int .i64 0),.lit (.string ByteArray.empty),.lit (.int .i64 0),.lit (.slice none 0 0),.lit (.int .i64 0),.lit (.string ByteArray.empty),.lit (.int .i64 0),.lit (.slice none 0 0)])∧(offT Tryz.prog 59 0=some (0,36))∧(offT Tryz.prog 59 1=some (4,36))∧(Za8 Tryz.prog 71=some (.agg 3))∧(Zbi Tryz.prog 71=some 3)∧(Za3 Tryz.prog 71=some [.sl [],.lit (.int .i64 0),.lit (.int .i64 0)])∧(Zbv Tryz.prog 71=true)∧(ZdD Tryz.prog 71=some [.lit (.slice none 0 0),.lit (.int .i64 0),.lit (.int .i64 0)])∧(offT Tryz.prog 71 0=some (0,22))∧(offT Tryz.prog 71 1=some (1,3))∧(offT Tryz.prog 71 2=some (2,3))∧(Za8 Tryz.prog 73=some (.agg 2))∧(Zbi Tryz.prog 73=some 2)∧(Za3 Tryz.prog 73=some [.lit (.int .i64 0),.lit (.int .i64 0)])∧(Zbv Tryz.prog 73=true)∧(offT Tryz.prog 73 0=some (0,3))∧(offT Tryz.prog 73 1=some (1,3))∧(Za8 Tryz.prog 75=some .one)∧(Zbi Tryz.prog 75=some 1)∧(Za3 Tryz.prog 75=some [.sl []])∧(ZbL Tryz.prog 75=some 2)∧(lenT Tryz.prog #[75]=some true)∧(Zbj Tryz.prog 75=some (81,2,32))∧(Za8 Tryz.prog 77=some (.agg 5))∧(Zbi Tryz.prog 77=some 5)∧(Za3 Tryz.prog 77=some [.lit (.string ByteArray.empty),.sl [],.lit (.bool false),.lit (.bool false),.lit (.int .i64 0)])∧(Zbv Tryz.prog 77=true)∧(ZdD Tryz.prog 77=some [.lit (.string ByteArray.empty),.lit (.slice none 0 0),.lit (.bool false),.lit (.bool false),.lit (.int .i64 0)])∧(offT Tryz.prog 77 0=some (0,9))∧(offT Tryz.prog 77 1=some (1,75))∧(offT Tryz.prog 77 2=some (2,4))∧(offT Tryz.prog 77 3=some (3,4))∧(offT Tryz.prog 77 4=some (4,3))∧(Za8 Tryz.prog 79=some .one)∧(Zbi Tryz.prog 79=some 1):=by repeat' (first | refine ai ?_ ?_ | kernel_rfl)
theorem tt_3:(Za3 Tryz.prog 79=some [.sl []])∧(ZbL Tryz.prog 79=some 1)∧(lenT Tryz.prog #[79]=some true)∧(Zbj Tryz.prog 79=some (3,1,8))∧(Za8 Tryz.prog 81=some (.agg 2))∧(Zbi Tryz.prog 81=some 2)∧(Za3 Tryz.prog 81=some [.sl [],.lit (.int .i64 0)])∧(Zbv Tryz.prog 81=true)∧(ZdD Tryz.prog 81=some [.lit (.slice none 0 0),.lit (.int .i64 0)])∧(offT Tryz.prog 81 0=some (0,79))∧(offT Tryz.prog 81 1=some (1,3))∧(Za8 Tryz.prog 91=some (.agg 3))∧(Zbi Tryz.prog 91=some 3)∧(Za3 Tryz.prog 91=some [.sl [],.sl [],.sl []])∧(Zbv Tryz.prog 91=true)∧(ZdD Tryz.prog 91=some [.lit (.slice none 0 0),.lit (.slice none 0 0),.lit (.slice none 0 0)])∧(offT Tryz.prog 91 0=some (0,79))∧(offT Tryz.prog 91 1=some (1,79))∧(offT Tryz.prog 91 2=some (2,79))∧(Za8 Tryz.prog 94=some .one)∧(Zbi Tryz.prog 94=some 1)∧(Za8 Tryz.prog 96=some (.agg 7))∧(Zbi Tryz.prog 96=some 7)∧(Za3 Tryz.prog 96=some [.sl [],.sl [],.sl [],.sl [],.sl [],.sl [],.lit (.map none)])∧(Zbv Tryz.prog 96=true)∧(ZdD Tryz.prog 96=some [.lit (.slice none 0 0),.lit (.slice none 0 0),.lit (.slice none 0 0),.lit (.slice none 0 0),.lit (.slice none 0 0),.lit (.slice none 0 0),.lit (.map none)])∧(offT Tryz.prog 96 0=some (0,91))∧(offT Tryz.prog 96 1=some (3,30))∧(offT Tryz.prog 96 2=some (6,94))∧(Za8 Tryz.prog 102=some .one)∧(Zbi Tryz.prog 102=some 1)∧(Za3 Tryz.prog 102=some [.lit (.int .u64 0)])∧(Za8 Tryz.prog 119=some .one)∧(Zbi Tryz.prog 119=some 1)∧(Za8 Tryz.prog 148=some .one)∧(Zbi Tryz.prog 148=some 1)∧(Za3 Tryz.prog 148=some [.sl []])∧(ZbL Tryz.prog 148=some 1)∧(lenT Tryz.prog #[148]=some true)∧(Zbj Tryz.prog 148=some (79,1,24)):=by repeat' (first | refine ai ?_ ?_ | kernel_rfl)
end Go.Proofs.YtmdkimnlbaahbaaGreatDoor
namespace Go.Proofs.YtmdkimnlbaahbaaGreatDoor
open Go.RowKit
theorem pm_0:type_of% (aj16 @Zk2 @Zt7 @ro_n @ro_g @Zt8 @pk_t @pk_f @sk_r @g_no @qB_0 @qB_s @Zt9 @Zua @Zub @ZjS (aj15 @ZqO @ZjT @ZqP @ZyW @R_un @ZmH @ZyX @Zuc @ZqQ @ZyY @ZyZ @Zy0 @Zud @ZqR (@ZqS))):=aj16 @Zk2 @Zt7 @ro_n @ro_g @Zt8 @pk_t @pk_f @sk_r @g_no @qB_0 @qB_s @Zt9 @Zua @Zub @ZjS (aj15 @ZqO @ZjT @ZqP @ZyW @R_un @ZmH @ZyX @Zuc @ZqQ @ZyY @ZyZ @Zy0 @Zud @ZqR (@ZqS))
theorem pm_1:type_of% (aj16 @ZiI @Zk4 @Zue @ZqT @Zuf @ZqU @ZqV @ZqW @Zug @ZqX @Zon @Zy1 @fA_d @Zuh @Zy2 (aj15 @Zy3 @Zy4 @Zy5 @Zui @ky_d @Zuj @Zuk @Zul @ZqY @Zoo @ZqZ @Zy6 @Zq0 @Zop (@ZjU))):=aj16 @ZiI @Zk4 @Zue @ZqT @Zuf @ZqU @ZqV @ZqW @Zug @ZqX @Zon @Zy1 @fA_d @Zuh @Zy2 (aj15 @Zy3 @Zy4 @Zy5 @Zui @ky_d @Zuj @Zuk @Zul @ZqY @Zoo @ZqZ @Zy6 @Zq0 @Zop (@ZjU))
theorem pm_2:type_of% (aj16 @Zoq @Zum @Zun @Zq1 @Zq2 @Zy7 @Zy8 @Zy9 @Zza @s_bf @Zq3 @Zq4 @Zzb @Zzc @Zuo (aj15 @Zzd @Zze @Zzf @Zzg @Zq5 @Zq6 @Zq7 @Zzh @Zup @Zuq @Zur @Zus @kl_d @Zut (@Zos))):=aj16 @Zoq @Zum @Zun @Zq1 @Zq2 @Zy7 @Zy8 @Zy9 @Zza @s_bf @Zq3 @Zq4 @Zzb @Zzc @Zuo (aj15 @Zzd @Zze @Zzf @Zzg @Zq5 @Zq6 @Zq7 @Zzh @Zup @Zuq @Zur @Zus @kl_d @Zut (@Zos))
theorem pm_3:type_of% (aj16 @Zzi @Zuu @Zq8 @Zzj @Zq9 @Zuv @Zra @Zrb @ib_d @Zuw @Zzk @Zrc @Zrd @Zux @Zzl (aj15 @Zre @Zuy @Zzm @Zuz @Zzn @t_sl @Zzo @Zri @Zrj @Zzq @Zzr @Zzs @ZuB @Zzt (@Zzu))):=aj16 @Zzi @Zuu @Zq8 @Zzj @Zq9 @Zuv @Zra @Zrb @ib_d @Zuw @Zzk @Zrc @Zrd @Zux @Zzl (aj15 @Zre @Zuy @Zzm @Zuz @Zzn @t_sl @Zzo @Zri @Zrj @Zzq @Zzr @Zzs @ZuB @Zzt (@Zzu))
theorem pm_4:type_of% (aj16 @Zrk @ZuC @ZuD @ZuE @Zzv @Zzw @Zrl @ZuF @ZuG @Zrm @Zzx @Zrn @Zro @Zzy @Zzz (aj15 @ZuH @ZuI @Zrp @ZzA @ZuJ @ZzB @ZuK @ZzC @ZzD @ZzE @ZzF @ZuL @Zrq @ZzG (@Zrr))):=aj16 @Zrk @ZuC @ZuD @ZuE @Zzv @Zzw @Zrl @ZuF @ZuG @Zrm @Zzx @Zrn @Zro @Zzy @Zzz (aj15 @ZuH @ZuI @Zrp @ZzA @ZuJ @ZzB @ZuK @ZzC @ZzD @ZzE @ZzF @ZuL @Zrq @ZzG (@Zrr))
theorem pm_5:type_of% (aj16 @ZuM @Zrs @ZzH @ZzI @ZzJ @Zrt @ZuN @Zru @Zrv @ZzK @Zrw @Zrx @ZuO @Zry @Zrz (aj15 @ZuP @ZrA @ZrB @ZrC @ZuQ @ZrD @ZzL @ZrE @ZrF @ZuR @Zox @ZrG @ZrH @ZrI (@ZrJ))):=aj16 @ZuM @Zrs @ZzH @ZzI @ZzJ @Zrt @ZuN @Zru @Zrv @ZzK @Zrw @Zrx @ZuO @Zry @Zrz (aj15 @ZuP @ZrA @ZrB @ZrC @ZuQ @ZrD @ZzL @ZrE @ZrF @ZuR @Zox @ZrG @ZrH @ZrI (@ZrJ))
theorem pm_6:type_of% (aj16 @sl_2 @sl_3 @ZuS @ZuT @ZrK @ZuU @ZrL @ZuV @ZuW @ZzM @ZuX @ZzN @ZuY @ZzO @ZuZ (aj15 @ZrM @ZzP @cp_s @cp_x @ZzQ @co_z @co_y @ZzR @ZrN @ZrO @ZzS @ZzT @r_no @Zu0 (@Zu1))):=aj16 @sl_2 @sl_3 @ZuS @ZuT @ZrK @ZuU @ZrL @ZuV @ZuW @ZzM @ZuX @ZzN @ZuY @ZzO @ZuZ (aj15 @ZrM @ZzP @cp_s @cp_x @ZzQ @co_z @co_y @ZzR @ZrN @ZrO @ZzS @ZzT @r_no @Zu0 (@Zu1))
theorem pm_7:type_of% (aj16 @Zu2 @Zu3 @Zu4 @Zu5 @Zu6 @Zu7 @Zu8 @Zu9 @Zva @Zvb @Zvc @Zvd @Zve @Zvf @Zvg (aj15 @Zvh @Zvi @Zvj @bb_t @Zvk @ZzU @Zvl @ZmI @Zvm @Zvn @Zvo @Zvp @Zvq @Zvr (@Zvs))):=aj16 @Zu2 @Zu3 @Zu4 @Zu5 @Zu6 @Zu7 @Zu8 @Zu9 @Zva @Zvb @Zvc @Zvd @Zve @Zvf @Zvg (aj15 @Zvh @Zvi @Zvj @bb_t @Zvk @ZzU @Zvl @ZmI @Zvm @Zvn @Zvo @Zvp @Zvq @Zvr (@Zvs))
theorem pm_8:type_of% (aj16 @Zvt @ZzV @nr_p @nr_s @nr_c @nr_i @Zvu @Zvv @Zvw @Zvx @Zvy @Zvz @ZvA @ZvB @ZvC (aj15 @ZvD @ZvE @ZvF @ZvG @ZvH @ZrP @ZrQ @ZvI @ZvJ @ZzW @ZvK @rn_0 @rn_n @rn_g (@st_o))):=aj16 @Zvt @ZzV @nr_p @nr_s @nr_c @nr_i @Zvu @Zvv @Zvw @Zvx @Zvy @Zvz @ZvA @ZvB @ZvC (aj15 @ZvD @ZvE @ZvF @ZvG @ZvH @ZrP @ZrQ @ZvI @ZvJ @ZzW @ZvK @rn_0 @rn_n @rn_g (@st_o))
theorem pm_9:type_of% (aj16 @ZvL @ZrR @ZvM @lv_d @ZvN @ZvO @ZvP @ZzX @ZzY @ZvQ @lb_d @ZvR @ZvS @ZvT @ZzZ (aj15 @Zz0 @ZvU @ZrS @ZvV @ZrT @ZrU @ZvW @Zz1 @ZvX @Zme @gt_c @ZvY @ZvZ @Zv0 (@Zz2))):=aj16 @ZvL @ZrR @ZvM @lv_d @ZvN @ZvO @ZvP @ZzX @ZzY @ZvQ @lb_d @ZvR @ZvS @ZvT @ZzZ (aj15 @Zz0 @ZvU @ZrS @ZvV @ZrT @ZrU @ZvW @Zz1 @ZvX @Zme @gt_c @ZvY @ZvZ @Zv0 (@Zz2))
theorem Zz3:type_of% (aj16 @Zv1 @Zv2 @ZrV @Zv3 @Zv4 @dc_s @dc_p @dc_f @Zv5 @Zv6 @Zv7 @Zv8 @ZrW @Zv9 @ZrX (aj5 @Zwa @Zwb @ZrY @ZrZ (@ud_d))):=aj16 @Zv1 @Zv2 @ZrV @Zv3 @Zv4 @dc_s @dc_p @dc_f @Zv5 @Zv6 @Zv7 @Zv8 @ZrW @Zv9 @ZrX (aj5 @Zwa @Zwb @ZrY @ZrZ (@ud_d))
theorem Zz4:type_of% (aj6 @Zzp @Zrf @Zrg @Zot @ZuA @Zrh):=(aj6 @Zzp @Zrf @Zrg @Zot @ZuA @Zrh)
def Zex:List Nat->List (Nat × A)->List (Nat × A)
 | _,[]=>[]
 | ds,(k,a)::r=>if ds.elem k then Zex ds r else (k,a)::Zex (k::ds) r
def Zey:List Nat->List (Nat × Bk)->List (Nat × Bk)
 | _,[]=>[]
 | ds,(k,a)::r=>if ds.elem k then Zey ds r else (k,a)::Zey (k::ds) r
theorem ZxY {s t:List (Nat × A)} (h:∀ p∈t,gs s p.1=p.2):ZcK s t:=by
 induction t with
 | nil=>exact trivial
 | cons p r ih=>exact ⟨h p Tas,ih fun q hq=>h q (Tal _ hq)⟩
theorem ZxZ {s t:List (Nat × Bk)} (h:∀ p∈t,gm s p.1=some p.2):ZcL s t:=by
 induction t with
 | nil=>exact trivial
 | cons p r ih=>exact ⟨h p Tas,ih fun q hq=>h q (Tal _ hq)⟩
theorem Zwc:∀ {s:List (Nat × A)} {ds:List Nat} {p:Nat × A},p∈Zex ds s->ds.elem p.1=false∧gs s p.1=p.2:=by
 intro s
 induction s with
 | nil=>intro ds p h;cases h
 | cons q r ih =>
  intro ds p h;obtain ⟨k,a⟩:=q;simp only [Zex] at h;by_cases hk:ds.elem k=true
  ·rw [if_pos hk] at h;have:=ih h;refine ⟨this.1,?_⟩;rw [gs,if_neg ?_]
   ·exact this.2
   ·intro e;rw [e] at this;rw [hk] at this;cases this.1
  ·rw [if_neg hk] at h;rcases Tbg.1 h with rfl | h
   ·exact ⟨by simpa using hk,by simp [gs]⟩
   ·have:=ih h;have h1:=this.1;rw [List.elem_cons] at h1;have hne:¬ p.1=k:=by intro e;simp [e] at h1
    refine ⟨?_,?_⟩
    ·cases hb:(p.1==k) with
     | true=>rw [hb] at h1;cases h1
     | false=>rw [hb] at h1;exact h1
    ·rw [gs,if_neg hne];exact this.2
theorem Zwd:∀ {s:List (Nat × Bk)} {ds:List Nat} {p:Nat × Bk},p∈Zey ds s->ds.elem p.1=false∧gm s p.1=some p.2:=by
 intro s
 induction s with
 | nil=>intro ds p h;cases h
 | cons q r ih =>
  intro ds p h;obtain ⟨k,a⟩:=q;simp only [Zey] at h;by_cases hk:ds.elem k=true
  ·rw [if_pos hk] at h;have:=ih h;refine ⟨this.1,?_⟩;rw [gm,if_neg ?_]
   ·exact this.2
   ·intro e;rw [e] at this;rw [hk] at this;cases this.1
  ·rw [if_neg hk] at h;rcases Tbg.1 h with rfl | h
   ·exact ⟨by simpa using hk,by simp [gm]⟩
   ·have:=ih h;have h1:=this.1;rw [List.elem_cons] at h1;have hne:¬ p.1=k:=by intro e;simp [e] at h1
    refine ⟨?_,?_⟩
    ·cases hb:(p.1==k) with
     | true=>rw [hb] at h1;cases h1
     | false=>rw [hb] at h1;exact h1
    ·rw [gm,if_neg hne];exact this.2
theorem Zoy {s a b:List (Nat × A)}:ZcK s (a++b) ↔ ZcK s a∧ZcK s b:=by
 induction a with
 | nil=>simp [ZcK]
 | cons p r ih=>simp [ZcK,ih,and_assoc]
theorem Zoz {s a b:List (Nat × Bk)}:ZcL s (a++b) ↔ ZcL s a∧ZcL s b:=by
 induction a with
 | nil=>simp [ZcL]
 | cons p r ih=>simp [ZcL,ih,and_assoc]
theorem Zwe {e:Env} {mask:Nat} {Q:PX->St->Prop} {c:Code} {s:List (Nat × A)} {m:List (Nat × Bk)} {ι:Type} (ds dm:List Nat) (us:ι->List (Nat × A)) (ms:ι->List (Nat × Bk)) (ok:ι->Prop) (μ:ι->Nat) (x0:ι)
  {s0:List (Nat × A)} {m0:List (Nat × Bk)} (hs0:Zex ds s=s0) (hm0:Zey dm m=m0) {ss:ι->List (Nat × A)} {mm:ι->List (Nat × Bk)} (hss:∀ x,us x++s0=ss x) (hmm:∀ x,ms x++m0=mm x) (hs:ZcK s (us x0)) (hm:ZcL m (ms x0)) (h0:ok x0)
  (hr:∀ x,ok x->pwp e mask c ⟨ss x,mm x⟩ (fun p σ''=>match p with
   | .normal=>∃ y,ok y∧ZcK σ''.s (ss y)∧ZcL σ''.m (mm y)∧μ y < μ x
   | p=>Q p σ'')):pwp e mask (.loop c) ⟨s,m⟩ Q:=by
 refine ZxQ (fun x=>⟨ss x,mm x⟩) ok μ x0 h0 ?_ ?_ hr
 ·show ZcK s (ss x0);rw [<- hss,Zoy,<- hs0];exact ⟨hs,ZxY fun p hp=>(Zwc hp).2⟩
 ·show ZcL m (mm x0);rw [<- hmm,Zoz,<- hm0];exact ⟨hm,ZxZ fun p hp=>(Zwd hp).2⟩
theorem Zwf {e:Env} {mask:Nat} {Q:PX->St->Prop} {σ:St} {id:Nat} {l:List Oper} (h:∀ ds,l.map (·.dst)=ds->Runs e ds 0 l σ (Zc5 mask Q)):pwp e mask (.region id l.toArray false) σ Q:=ZxW rfl (h _ rfl)
theorem Zao {e:Env} {mask:Nat} {Q:PX->St->Prop} {σ:St} {id:Nat} {l:List Oper} (n:Nat) (hr:regX l.toArray n=true) (h:∀ ds,l.map (·.dst)=ds->Runs e ds n l σ (Zc5 mask Q)):pwp e mask (.region id l.toArray true) σ Q:=ZxX n hr rfl (h _ rfl)
theorem Zr0 {mask:Nat}:Zdn mask []=[]:=rfl
theorem Zr1 {mask k:Nat} {a:A} {r:List (Nat × A)}:Zdn mask ((k,a)::r)=if mask.testBit k=true then (k,a)::Zdn mask r else Zdn mask r:=rfl
theorem Zz5 {m n:Nat}:m.testBit n=((1 &&& (m >>> n)) != 0):=rfl
def endR (mask:Nat):Res->Option (List (Nat × A) × List (Nat × Bk))
 | .done σ=>some (Zdn mask σ.s,σ.m)
 | _=>none
theorem Zwg {mask:Nat} {s:List (Nat × A)} {m:List (Nat × Bk)}:endR mask (.done ⟨s,m⟩)=some (Zdn mask s,m):=rfl
theorem reT {e:Env} {mask:Nat} {Q:PX->St->Prop} {ds:List (Option Nat)} {n:Nat} {os:List Oper} {σ:St} {s2:List (Nat × A)} {m2:List (Nat × Bk)} (h:endR mask (Zbh e.P ds n os σ)=some (s2,m2)) (hQ:Q .normal ⟨s2,m2⟩):Runs e ds n os σ (Zc5 mask Q):=by
 cases hr:Zbh e.P ds n os σ with
 | bad=>rw [hr] at h;cases h
 | call q c args d n' os' σ'=>rw [hr] at h;cases h
 | map q d n' os' σ'=>rw [hr] at h;cases h
 | stop n' os' σ'=>rw [hr] at h;cases h
 | done σ' =>
  rw [hr] at h;simp only [endR,Taq,Prod.mk.injEq] at h;obtain ⟨h1,h2⟩:=h;refine ZfG hr ?_;unfold Zc5;rw [h1,h2];exact hQ
def ZoA:Res->Option (FuncId × List D × Option Nat × Nat × List Oper × St)
 | .call q c args d n os σ=>(Zec q c args σ).map (fun x=>(x.1,x.2.1,d,n,os,x.2.2))
 | _=>none
theorem ZoB {q:Bool} {c:Operand} {args:List Operand} {d:Option Nat} {n:Nat} {os:List Oper} {σ:St}:ZoA (.call q c args d n os σ)=(Zec q c args σ).map (fun x=>(x.1,x.2.1,d,n,os,x.2.2)):=rfl
theorem rcT {e:Env} {K:St->Prop} {ds:List (Option Nat)} {n n':Nat} {os os':List Oper} {σ:St} {f:FuncId} {xs:List D} {d:Option Nat} {r:List D} {s2 s3:List (Nat × A)} {m2:List (Nat × Bk)} (h:ZoA (Zbh e.P ds n os σ)=some (f,xs,d,n',os',⟨s2,m2⟩)) (hc:Con e f xs r) (h2:setA s2 d (retA r)=s3) (hK:Runs e ds n' os' ⟨s3,m2⟩ K):Runs e ds n os σ K:=by
 cases hr:Zbh e.P ds n os σ with
 | bad=>rw [hr] at h;cases h
 | done σ'=>rw [hr] at h;cases h
 | map q d n' os' σ'=>rw [hr] at h;cases h
 | stop n' os' σ'=>rw [hr] at h;cases h
 | call q c args d1 n1 os1 σ1 =>
  rw [hr] at h;simp only [ZoA,Tav,Prod.mk.injEq] at h;obtain ⟨⟨f',xs',σ2⟩,h1,rfl,rfl,rfl,rfl,rfl,h3⟩:=h;simp only at h3;subst h3;exact ZAt hr h1 hc h2 hK
theorem wkI {e:Env} {mask:Nat} {Q:PX->St->Prop} {σ:St} {c:Code} (h:pwp e mask c σ Q):∃ σ1,Wk σ σ1∧pwp e mask c σ1 Q:=⟨σ,Wk.refl σ,h⟩
theorem ZBL {σ:St} {P:Program} {ts:List RS} {R:List D->Prop} (ks:List Nat) (r:List D) {σ1:St} (hr:R r) (hf:frzs ks σ=σ1) (h:Zcx P σ1 ts r):ZnW P ts R .ret σ:=⟨ks,r,hr,by rw [hf];exact h⟩
theorem Wk.trans {a b c:St} (h:Wk a b) (k:Wk b c):Wk a c:=by
 refine ⟨fun t=>?_,fun t x hx=>h.2 t x (k.2 t x hx)⟩;rcases k.1 t with q | q
 ·rcases h.1 t with r | r
  ·exact .inl (q.trans r)
  ·exact .inr (q.trans r)
 ·exact .inr q
theorem Zwh {e:Env} {mask:Nat} {Q:PX->St->Prop} {a:Code} {s:List (Nat × A)} {m:List (Nat × Bk)} {ι:Type} (hQ:∀ σ σ1,Wk σ σ1->Q .normal σ1->Q .normal σ) (ds dm:List Nat) (us:ι->List (Nat × A)) (ms:ι->List (Nat × Bk)) (R:ι->Prop)
  {s0:List (Nat × A)} {m0:List (Nat × Bk)} (hs0:Zex ds s=s0) (hm0:Zey dm m=m0) {ss:ι->List (Nat × A)} {mm:ι->List (Nat × Bk)} (hss:∀ x,us x++s0=ss x) (hmm:∀ x,ms x++m0=mm x)
  (h:pwp e mask a ⟨s,m⟩ (fun x σ'=>match x with
   | .normal=>∃ y,R y∧ZcK σ'.s (ss y)∧ZcL σ'.m (mm y)
   | x=>Q x σ')) (hb:∀ x,R x->Q .normal ⟨ss x,mm x⟩):pwp e mask a ⟨s,m⟩ Q:=by
 refine ZxP (fun p σ' hq=>?_) a _ h
 cases p with
 | normal =>
  obtain ⟨y,h1,h2,h3⟩:=hq;exact hQ _ _ ⟨fun t=>ZhY h2,fun t x=>ZhZ h3⟩ (hb y h1)
 | exit id=>exact hq
 | ret=>exact hq
theorem okL {α:Type} {fs:List F} {e:α->List C} {p:α->Prop} (hk:∀ a,p a->Zbt fs (e a)):∀ {l:List α},(∀ x∈l,p x)->Zcd fs (l.map e)
 | [],_=>by simp [Zcd]
 | a::l,h=>by
  simp only [Tbu,Zcd];exact ⟨hk a (h a (by simp)),okL hk (fun x hx=>h x (by simp [hx]))⟩
def ZbA (n:Int):List C:=[.lit (.int .i64 n)]
def ZbR (s:ByteArray):List C:=[.lit (.string s)]
def ZbS (p:Int × Int):List C:=[.lit (.int .i64 p.1),.lit (.int .i64 p.2)]
def ZBM (p:Int × Int):Prop:=I64 p.1∧I64 p.2
def Zz6 (s:ByteArray):Prop:=s.size<=maxLen
structure Srt where
 names:List ByteArray
 subs:List (Int × Int)
def Za9 (s:Srt):List C:=[.sl (s.names.map ZbR),.sl (s.subs.map ZbS)]
def Zk8 (s:Srt):Prop:=(∀ x∈s.names,Zz6 x)∧∀ x∈s.subs,ZBM x
structure Dcl where
 args:List Int
 res:Int
def ZcM (d:Dcl):List C:=[.sl (d.args.map ZbA),.lit (.int .i64 d.res)]
def ZBN (d:Dcl):Prop:=(∀ x∈d.args,I64 x)∧I64 d.res
structure Opr where
 name:ByteArray
 decls:List Dcl
 assoc:Bool
 comm:Bool
 unit:Int
def Zax (o:Opr):List C:=[.lit (.string o.name),.sl (o.decls.map ZcM),.lit (.bool o.assoc),.lit (.bool o.comm),.lit (.int .i64 o.unit)]
def ZsU (o:Opr):Prop:=Zz6 o.name∧(∀ x∈o.decls,ZBN x)∧I64 o.unit
structure Sgn where
 sorts:Srt
 ops:List Opr
def Zak (s:Sgn):List C:=[.sl (s.sorts.names.map ZbR),.sl (s.sorts.subs.map ZbS),.sl (s.ops.map Zax)]
def ZbY (s:Sgn):Prop:=Zk8 s.sorts∧∀ x∈s.ops,ZsU x
theorem Rep.at {α:Type} {w:World} {S:Nat->Prop} {fs:List F} {e:α->List C} {p:α->Prop} (hk:∀ a,p a->Zbt fs (e a)) {l:List α} (hl:∀ x∈l,p x) {A:Option Addr} {m cap k:Nat} {a:α}
  (h:Rep w S (.sl (l.map e)) (.slice A m cap)) (ha:l[k]?=some a):∃ b off,A=some ⟨b,off,none⟩∧S b∧b < w.heap.size∧Zaj w S b (off+k * fs.length) (e a):=by
 have hkl:k < l.length:=(Tad.1 ha).1;obtain ⟨A',m',cap',hf,hm,_,_⟩:=h.form;injection hf with h1 h2 h3
 subst h1 h2 h3;obtain ⟨b,off,r,rfl,hS,hbz,hget,hokr,hrow⟩:=h.get (okL hk hl) (i:=k) (by rw [<- hm];simpa using hkl);refine ⟨b,off,rfl,hS,hbz,?_⟩;rw [Tba,ha] at hget;simp only [Option.map_some,Taq] at hget;rw [hget];exact hrow
def Zr2 (l:List Int):List C:=[.sl (l.map ZbA)]
def Zn1:List Nat:=[0,1,56,2,57,49,28,3,61,58,42,50,38,29,17,4,62,47,59,36,45,43,51,22,53,39,33,30,24,18,12,5,63,55,48,27,60,41,37,16,46,35,44,21,52,32,23,11,54,26,40,15,34,20,31,10,25,14,19,9,13,8,7,6]
def tabA:Array Value:=(Zn1.map fun (n:Nat)=>Value.int .u8 (n:Int)).toArray
def ZcR (w:World):Prop:=w.heap[(2:Nat)]?=some (.cells tabA 166 (0,0))
theorem ZcR.cell {w:World} (h:ZcR w):∀ j,j < 64->w.cell? ⟨2,j,none⟩=some (.int .u8 ((Zn1.getD j 0:Nat):Int)):=fun j hj=>by
 unfold ZcR at h;unfold World.cell?;have hl:j < Zn1.length:=hj;simp only [h];unfold tabA;rw [if_neg (by simp),List.getElem?_toArray,Tba,List.getD_eq_getElem?_getD,Taa hl];rfl
noncomputable def e0:Env:=⟨Tryz.prog,fun b=>b=2,ZcR,False⟩
noncomputable def e1:Env:=⟨Tryz.prog,fun b=>b=2,ZcR,True⟩
theorem ZoC {w w':World} (h:w'.heap[(2:Nat)]?=w.heap[(2:Nat)]?) (k:ZcR w):ZcR w':=h.trans k
theorem e1P:e1.P=Tryz.prog:=rfl
theorem Zn2:e1.Ok:=⟨fun _ _ _ h k=>ZoC (h _ rfl) k,by kernel_rfl⟩
theorem Zjs {f:FuncId} {args r:List D} (h:Con e1 f args r):Con e0 f args r :=
 ⟨h.1,fun w S vs hS hE hG hvs=>(h.2 w S vs hS hE hG hvs).mono fun en w' ⟨v,h1,h2,h3,h4⟩=>⟨v,h1,⟨h2.os,h2.tape,h2.output,fun d=>d.elim,h2.size,h2.block⟩,h3,h4⟩⟩
theorem e0P:e0.P=Tryz.prog:=rfl
theorem Zjt:e0.Ok:=⟨fun _ _ _ h k=>ZoC (h _ rfl) k,by kernel_rfl⟩
theorem ZcW {α:Type} {e:α->List C} {n:Nat} (h:∀ a,((e a).length==n && (e a).all Zau)=true) (l:List α):ZaI n (l.map e)=true:=by
 unfold ZaI;rw [List.all_map];exact List.all_eq_true.2 fun a _=>h a
theorem ZmJ {n:Nat}:ZaI n []=true:=rfl
theorem Zh0 {n:Nat} {r:List C} {rs:List (List C)}:ZaI n (r::rs)=(r.length==n && r.all Zau && ZaI n rs):=rfl
theorem ZoD (l:List Int):ZaI 1 (l.map ZbA)=true:=ZcW (e:=ZbA) (n:=1) (fun _=>rfl) l
theorem ZiJ (l:List ByteArray):ZaI 1 (l.map ZbR)=true:=ZcW (e:=ZbR) (n:=1) (fun _=>rfl) l
theorem ZoE (l:List (Int × Int)):ZaI 2 (l.map ZbS)=true:=ZcW (e:=ZbS) (n:=2) (fun _=>rfl) l
theorem Zwi (l:List Dcl):ZaI 2 (l.map ZcM)=true:=ZcW (e:=ZcM) (n:=2) (fun _=>rfl) l
theorem Zwj (l:List Opr):ZaI 5 (l.map Zax)=true:=ZcW (e:=Zax) (n:=5) (fun _=>rfl) l
theorem Zr3 (l:List (List Int)):ZaI 1 (l.map Zr2)=true:=ZcW (e:=Zr2) (n:=1) (fun _=>rfl) l
theorem ZaJ {a b:Int} (h:a=b) (h1:-9223372036854775808<=b) (h2:b<=9223372036854775807):IntKind.i64.wrap a=b:=by rw [h];exact IntWalk.i64_in _ ⟨h1,h2⟩
theorem Zat {k:Nat} (h:k < 9223372036854775807):IntKind.i64.wrap ((k:Int)+1)=((k+1:Nat):Int):=ZaJ om om om
theorem bqtt:(true==true)=true:=rfl
theorem bqtf:(true==false)=false:=rfl
theorem bqft:(false==true)=false:=rfl
theorem bqff:(false==false)=true:=rfl
theorem Zar (n:Nat):(n:Int).toNat=n:=Tbw n
theorem gs_n {t:Nat}:gs [] t=.undef:=rfl
theorem gs_c {k t:Nat} {a:A} {r:List (Nat × A)}:gs ((k,a)::r) t=if t=k then a else gs r t:=rfl
theorem gm_n {t:Nat}:gm [] t=none:=rfl
theorem gm_c {k t:Nat} {a:Bk} {r:List (Nat × Bk)}:gm ((k,a)::r) t=if t=k then some a else gm r t:=rfl
theorem Zr4 {k:Nat}:Zdb k []=[]:=rfl
theorem Zr5 {k:Nat} {d:D} {r:List D}:Zdb k (d::r)=(k,.d d)::Zdb (k+1) r:=rfl
theorem pz:type_of% (aj16 @tt_0 @tt_1 @tt_2 @tt_3 @pm_0 @pm_1 @pm_2 @pm_3 @pm_4 @pm_5 @pm_6 @pm_7 @pm_8 @pm_9 @Zz3 (aj16 @Zz4 @e0P @e1P @gs_n @gs_c @gm_n @gm_c @Zr4 @Zr5 @ZoD @ZiJ @ZoE @Zwi @Zwj @Zr3 (aj16 @ZmJ @Zh0 @bqtt @bqtf @bqft @bqff @Bool.and_self @Bool.or_true @Bool.true_or @Bool.or_false @Bool.false_or @Nat.zero_add @Nat.add_zero @and_self @true_and (aj16 @and_true @Bool.not_true @Bool.not_false @Zar @Zr0 @Zr1 @Zz5 @Zwg @ZoB @Int.natCast_nonneg @Int.toNat_zero @Int.toNat_one @Tai @List.map_nil.{0,0} @Tat.{0} (aj16 @Tau.{0} @List.drop_succ_cons.{0} @List.drop_zero.{0} @List.drop_nil.{0} @Tbc.{0} @List.take_zero.{0} @Tag.{0} @Tak.{0} @Tae.{0} @List.all_cons.{0} @List.all_nil.{0} @List.isEmpty_cons.{0} @List.isEmpty_nil.{0} @Taf.{0} @Tah.{0} (aj12 @List.append_nil.{0} @Option.map_some.{0,0} @Option.map_none.{0,0} @Option.join_some.{0} @Option.getD_some.{0} @Option.isNone_none.{0} @Option.isNone_some.{0} @Option.isSome_none.{0} @Option.isSome_some.{0} @Tbu.{0,0} @Tay.{0,0} (@Tba.{0,0}))))))):=aj16 @tt_0 @tt_1 @tt_2 @tt_3 @pm_0 @pm_1 @pm_2 @pm_3 @pm_4 @pm_5 @pm_6 @pm_7 @pm_8 @pm_9 @Zz3 (aj16 @Zz4 @e0P @e1P @gs_n @gs_c @gm_n @gm_c @Zr4 @Zr5 @ZoD @ZiJ @ZoE @Zwi @Zwj @Zr3 (aj16 @ZmJ @Zh0 @bqtt @bqtf @bqft @bqff @Bool.and_self @Bool.or_true @Bool.true_or @Bool.or_false @Bool.false_or @Nat.zero_add @Nat.add_zero @and_self @true_and (aj16 @and_true @Bool.not_true @Bool.not_false @Zar @Zr0 @Zr1 @Zz5 @Zwg @ZoB @Int.natCast_nonneg @Int.toNat_zero @Int.toNat_one @Tai @List.map_nil.{0,0} @Tat.{0} (aj16 @Tau.{0} @List.drop_succ_cons.{0} @List.drop_zero.{0} @List.drop_nil.{0} @Tbc.{0} @List.take_zero.{0} @Tag.{0} @Tak.{0} @Tae.{0} @List.all_cons.{0} @List.all_nil.{0} @List.isEmpty_cons.{0} @List.isEmpty_nil.{0} @Taf.{0} @Tah.{0} (aj12 @List.append_nil.{0} @Option.map_some.{0,0} @Option.map_none.{0,0} @Option.join_some.{0} @Option.getD_some.{0} @Option.isNone_none.{0} @Option.isNone_some.{0} @Option.isSome_none.{0} @Option.isSome_some.{0} @Tbu.{0,0} @Tay.{0,0} (@Tba.{0,0}))))))
theorem sfx {p:Prop} (h:p:=by simp only [pz,↓reduceIte,Nat.reduceEqDiff,Nat.reduceAdd,Nat.reduceSub,Nat.reduceMul,Nat.reduceLeDiff,Nat.reduceBEq,Tam,decide_true,decide_false,Int.reduceLE,Int.reduceToNat,Int.reduceLT,Int.reduceEq,eq_self,Nat.reduceShiftRight,Nat.reduceAnd,Nat.reduceBneDiff,F];first | done | exact rfl):p:=h
theorem snx {p:Prop} (h:p:=by simp only [pz,↓reduceIte,Nat.reduceEqDiff,Nat.reduceAdd,Nat.reduceSub,Nat.reduceMul,Nat.reduceLeDiff,Nat.reduceBEq,Tam,decide_true,decide_false,Int.reduceLE,Int.reduceToNat,Int.reduceLT,Int.reduceEq,eq_self,Nat.reduceShiftRight,Nat.reduceAnd,Nat.reduceBneDiff];first | done | exact rfl):p:=h
theorem sfy {p:Prop} (h:p:=by simp only [pz,↓reduceIte,Nat.reduceEqDiff,Nat.reduceAdd,Nat.reduceSub,Nat.reduceMul,Nat.reduceLeDiff,Nat.reduceBEq,Tam,decide_true,decide_false,Int.reduceLE,Int.reduceToNat,Int.reduceLT,Int.reduceEq,eq_self,Nat.reduceShiftRight,Nat.reduceAnd,Nat.reduceBneDiff,F];try exact rfl):p:=h
theorem sny {p:Prop} (h:p:=by simp only [pz,↓reduceIte,Nat.reduceEqDiff,Nat.reduceAdd,Nat.reduceSub,Nat.reduceMul,Nat.reduceLeDiff,Nat.reduceBEq,Tam,decide_true,decide_false,Int.reduceLE,Int.reduceToNat,Int.reduceLT,Int.reduceEq,eq_self,Nat.reduceShiftRight,Nat.reduceAnd,Nat.reduceBneDiff];try exact rfl):p:=h
theorem sfv {p:Prop} (h:p:=by simp only [pz,↓reduceIte,Nat.reduceEqDiff,Nat.reduceAdd,Nat.reduceSub,Nat.reduceMul,Nat.reduceLeDiff,Nat.reduceBEq,Tam,decide_true,decide_false,Int.reduceLE,Int.reduceToNat,Int.reduceLT,Int.reduceEq,eq_self,Nat.reduceShiftRight,Nat.reduceAnd,Nat.reduceBneDiff,F];exact rfl):p:=h
theorem snv {p:Prop} (h:p:=by simp only [pz,↓reduceIte,Nat.reduceEqDiff,Nat.reduceAdd,Nat.reduceSub,Nat.reduceMul,Nat.reduceLeDiff,Nat.reduceBEq,Tam,decide_true,decide_false,Int.reduceLE,Int.reduceToNat,Int.reduceLT,Int.reduceEq,eq_self,Nat.reduceShiftRight,Nat.reduceAnd,Nat.reduceBneDiff];exact rfl):p:=h
theorem Zaz:∀ n,ZbA n=[.lit (.int .i64 n)]:=fun _=>rfl
theorem ZaN:∀ d,ZcM d=[.sl (d.args.map ZbA),.lit (.int .i64 d.res)]:=fun _=>rfl
theorem Zag:∀ o,Zax o=[.lit (.string o.name),.sl (o.decls.map ZcM),.lit (.bool o.assoc),.lit (.bool o.comm),.lit (.int .i64 o.unit)]:=fun _=>rfl
theorem Zb6:∀ s,Zak s=[.sl (s.sorts.names.map ZbR),.sl (s.sorts.subs.map ZbS),.sl (s.ops.map Zax)]:=fun _=>rfl
theorem gB {X Y:Prop} (b:Y) (h:Y->X:=by
 intro b
 first
  | with_reducible refine Zwf ?_
  | (first
   | refine Zao 1 (by decide +kernel) ?_
   | refine Zao 2 (by decide +kernel) ?_
   | refine Zao 3 (by decide +kernel) ?_
   | refine Zao 4 (by decide +kernel) ?_
   | refine Zao 5 (by decide +kernel) ?_
   | refine Zao 6 (by decide +kernel) ?_
   | refine Zao 7 (by decide +kernel) ?_
   | refine Zao 8 (by decide +kernel) ?_
   | refine Zao 9 (by decide +kernel) ?_
   | refine Zao 10 (by decide +kernel) ?_
   | refine Zao 11 (by decide +kernel) ?_
   | refine Zao 12 (by decide +kernel) ?_
   | refine Zao 13 (by decide +kernel) ?_
   | refine Zao 14 (by decide +kernel) ?_
   | refine Zao 15 (by decide +kernel) ?_
   | refine Zao 16 (by decide +kernel) ?_
   | refine Zao 17 (by decide +kernel) ?_
   | refine Zao 18 (by decide +kernel) ?_
   | refine Zao 19 (by decide +kernel) ?_
   | refine Zao 20 (by decide +kernel) ?_
   | refine Zao 21 (by decide +kernel) ?_
   | refine Zao 22 (by decide +kernel) ?_
   | refine Zao 23 (by decide +kernel) ?_
   | refine Zao 24 (by decide +kernel) ?_
   | refine Zao 25 (by decide +kernel) ?_
   | refine Zao 26 (by decide +kernel) ?_
   | refine Zao 27 (by decide +kernel) ?_
   | refine Zao 28 (by decide +kernel) ?_
   | refine Zao 29 (by decide +kernel) ?_
   | refine Zao 30 (by decide +kernel) ?_
   | refine Zao 31 (by decide +kernel) ?_
   | refine Zao 32 (by decide +kernel) ?_
   | refine Zao 33 (by decide +kernel) ?_
   | refine Zao 34 (by decide +kernel) ?_
   | refine Zao 35 (by decide +kernel) ?_
   | refine Zao 36 (by decide +kernel) ?_
   | refine Zao 37 (by decide +kernel) ?_
   | refine Zao 38 (by decide +kernel) ?_
   | refine Zao 39 (by decide +kernel) ?_
   | refine Zao 40 (by decide +kernel) ?_
   | refine Zao 41 (by decide +kernel) ?_
   | refine Zao 42 (by decide +kernel) ?_
   | refine Zao 43 (by decide +kernel) ?_
   | refine Zao 44 (by decide +kernel) ?_
   | refine Zao 45 (by decide +kernel) ?_
   | refine Zao 46 (by decide +kernel) ?_
   | refine Zao 47 (by decide +kernel) ?_
   | refine Zao 48 (by decide +kernel) ?_
   | refine Zao 49 (by decide +kernel) ?_
   | refine Zao 50 (by decide +kernel) ?_
   | refine Zao 51 (by decide +kernel) ?_
   | refine Zao 52 (by decide +kernel) ?_
   | refine Zao 53 (by decide +kernel) ?_
   | refine Zao 54 (by decide +kernel) ?_
   | refine Zao 55 (by decide +kernel) ?_
   | refine Zao 56 (by decide +kernel) ?_
   | refine Zao 57 (by decide +kernel) ?_
   | refine Zao 58 (by decide +kernel) ?_
   | refine Zao 59 (by decide +kernel) ?_
   | refine Zao 60 (by decide +kernel) ?_
   | refine Zao 61 (by decide +kernel) ?_
   | refine Zao 62 (by decide +kernel) ?_
   | refine Zao 63 (by decide +kernel) ?_
   | refine Zao 64 (by decide +kernel) ?_)
 intro ds hds;simp only [List.map] at hds;subst hds;exact b):X:=h b
theorem gC {X Y Z:Prop} (c:Z) (b:Y) (h:Z->Y->X:=by
 intro c b;refine rcT (by exact sfv) c (by simp only [setA,retA];exact rfl) ?_;exact b):X:=h c b
theorem gCE {X Y Z:Prop} (c:Z) (b:Y) (h:Z->Y->X:=by
 intro c b;refine ZxS (by exact sfv) (by exact sfv) c ?_;exact b):X:=h c b
theorem gR {X Y:Prop} (b:Y) (h:Y->X:=by
 intro b;refine reT (by exact sfv) ?_
 first | (change pwp _ _ _ _ _) | refine wkI ?_ | skip
 exact b):X:=h b
theorem gG {X Y:Prop} (b:Y) (h:Y->X:=by
 intro b
 repeat (first
  | with_reducible refine ZdE ?_
  | with_reducible refine ZmF ?_
  | ((first | with_reducible refine Zoj ?_ | with_reducible refine Zok ?_);try refine wkI ?_)
  | (with_reducible refine Zt5 ?_ ?_;· simp only [pz,↓reduceIte,Nat.reduceEqDiff,F])
  | (with_reducible refine Zt6 ?_ ?_;· simp only [pz,↓reduceIte,Nat.reduceEqDiff,F])
  | (refine gB ?_;refine reT (by exact sfv) ?_;try refine wkI ?_))
 exact b):X:=h b
def Zaa (_:Nat):Prop:=True
theorem ZBh {n:Nat} (_:Zaa n) {e:Env} {mask id:Nat} {ops:Array Oper} {fl:Bool} {σ:St} {Q:PX->St->Prop} (h:pwp e mask (.region id ops fl) σ Q) (_:(id==n)=false:=by decide):pwp e mask (.region id ops fl) σ Q:=h
theorem gGn {X Y:Prop} (b:Y) (h:Y->X:=by
 intro b
 repeat (first
  | with_reducible refine ZdE ?_
  | with_reducible refine ZmF ?_
  | ((first | with_reducible refine Zoj ?_ | with_reducible refine Zok ?_);try refine wkI ?_)
  | (with_reducible refine Zt5 ?_ ?_;· simp only [pz,↓reduceIte,Nat.reduceEqDiff,F])
  | (with_reducible refine Zt6 ?_ ?_;· simp only [pz,↓reduceIte,Nat.reduceEqDiff,F])
  | (refine ZBh NN ?_;refine gB ?_;refine reT (by exact sfv) ?_;try refine wkI ?_))
 exact b):X:=h b
theorem gT {X:Prop} (h:X:=by
 refine Zfc (Zk1 ?_);simp [Zcx,resA,Zbm,gs,F]):X:=h
theorem gTz {X:Prop} {P:Program} {ts:List RS} {r:List D} {σ σ1:St} (ks:List Nat) (hx:retQ P ts r .ret σ->X:=by exact fun h=>Zfc h) (hf:frzs ks σ=σ1:=by exact sfv) (h:Zcx P σ1 ts r:=by simp [Zcx,resA,Zbm,gs,F]):X:=hx (ZBf ks hf h)
theorem gTd {X:Prop} {P:Program} {ts:List RS} {r:List D} {σ:St} (hx:retQ P ts r .ret σ->X:=by exact fun h=>Zfc h) (hr:resD P σ ts=some r:=by exact sfx):X:=hx (Zk1 (Zfd hr))
theorem gw {X:Prop} (h:X:=by simp [ZcK,ZcL,gs,gm,F]):X:=h
theorem gL {e:Env} {mask:Nat} {Q:PX->St->Prop} {c:Code} {s:List (Nat × A)} {m:List (Nat × Bk)} {ι:Type} (ds dm:List Nat) (us:ι->List (Nat × A)) (ms:ι->List (Nat × Bk)) (ok:ι->Prop) (μ:ι->Nat) (x0:ι) (h0:ok x0)
  {s0:List (Nat × A)} {m0:List (Nat × Bk)} {ss:ι->List (Nat × A)} {mm:ι->List (Nat × Bk)}
  (hr:∀ x,ok x->pwp e mask c ⟨ss x,mm x⟩ (fun p σ''=>match p with
   | .normal=>∃ y,ok y∧ZcK σ''.s (ss y)∧ZcL σ''.m (mm y)∧μ y < μ x
   | p=>Q p σ''))
  (hs0:Zex ds s=s0:=by simp only [Zex,Zey,List.elem_cons,List.elem_nil,Nat.reduceBEq,Bool.or_false,Bool.false_or,Bool.or_true,Bool.true_or,Bool.or_self,↓reduceIte,Tam];exact rfl) (hm0:Zey dm m=m0:=by simp only [Zex,Zey,List.elem_cons,List.elem_nil,Nat.reduceBEq,Bool.or_false,Bool.false_or,Bool.or_true,Bool.true_or,Bool.or_self,↓reduceIte,Tam];exact rfl) (hss:∀ x,us x++s0=ss x:=by intro x;simp only [Taf,Tah];exact rfl) (hmm:∀ x,ms x++m0=mm x:=by intro x;simp only [Taf,Tah];exact rfl)
  (hs:ZcK s (us x0):=by simp [ZcK,gs,F]) (hm:ZcL m (ms x0):=by simp [ZcL,gm,F]):pwp e mask (.loop c) ⟨s,m⟩ Q:=Zwe ds dm us ms ok μ x0 hs0 hm0 hss hmm hs hm h0 hr
theorem gM {e:Env} {mask:Nat} {Q:PX->St->Prop} {a:Code} {s:List (Nat × A)} {m:List (Nat × Bk)} {ι:Type} (ds dm:List Nat) (us:ι->List (Nat × A)) (ms:ι->List (Nat × Bk)) (R:ι->Prop)
  {s0:List (Nat × A)} {m0:List (Nat × Bk)} {ss:ι->List (Nat × A)} {mm:ι->List (Nat × Bk)}
  (h:pwp e mask a ⟨s,m⟩ (fun x σ'=>match x with
   | .normal=>∃ y,R y∧ZcK σ'.s (ss y)∧ZcL σ'.m (mm y)
   | x=>Q x σ')) (hb:∀ x,R x->Q .normal ⟨ss x,mm x⟩) 
  (hs0:Zex ds s=s0:=by simp only [Zex,Zey,List.elem_cons,List.elem_nil,Nat.reduceBEq,Bool.or_false,Bool.false_or,Bool.or_true,Bool.true_or,Bool.or_self,↓reduceIte,Tam];exact rfl) (hm0:Zey dm m=m0:=by simp only [Zex,Zey,List.elem_cons,List.elem_nil,Nat.reduceBEq,Bool.or_false,Bool.false_or,Bool.or_true,Bool.true_or,Bool.or_self,↓reduceIte,Tam];exact rfl) (hss:∀ x,us x++s0=ss x:=by intro x;simp only [Taf,Tah];exact rfl) (hmm:∀ x,ms x++m0=mm x:=by intro x;simp only [Taf,Tah];exact rfl)
  (hQ:∀ σ σ1,Wk σ σ1->Q .normal σ1->Q .normal σ:=by exact fun _ _ h p=>Exists.elim p fun σ2 q=>⟨σ2,h.trans q.1,q.2⟩):pwp e mask a ⟨s,m⟩ Q:=Zwh hQ ds dm us ms R hs0 hm0 hss hmm h hb
theorem gI {e:Env} {f:FuncId} {fn:Func} {c:Code} {args r:List D} {ts:List RS} (mask:Nat) (hf:e.P.funcs[f]?=some fn) (h:pwp e mask c ⟨Zdb 0 args,[]⟩ (retQ e.P ts r)) (hb:fn.body=some c:=by exact rfl) (hnm:(fn.name == "runtime.NumGoroutine")=false:=by kernel_rfl)
  (hok:Zcf fn.ntmps c=true:=by kernel_rfl) (hal:Nat.ble args.length fn.ntmps=true:=by exact rfl) (hres:Zbm fn.results.toList=ts:=by exact rfl) (he:e.Ok:=by first | exact Zjt | exact Zn2 | assumption):Con e f args r:=ZsP he mask hf hb hnm hok hal hres h
theorem gIE {e:Env} {f:FuncId} {fn:Func} {c:Code} {args:List D} {R:List D->Prop} {ts:List RS} (mask:Nat) (hf:e.P.funcs[f]?=some fn) (h:pwp e mask c ⟨Zdb 0 args,[]⟩ (ZnW e.P ts R)) (hb:fn.body=some c:=by exact rfl) (hnm:(fn.name == "runtime.NumGoroutine")=false:=by kernel_rfl)
  (hok:Zcf fn.ntmps c=true:=by kernel_rfl) (hal:Nat.ble args.length fn.ntmps=true:=by exact rfl) (hres:Zbm fn.results.toList=ts:=by exact rfl) (he:e.Ok:=by first | exact Zjt | exact Zn2 | assumption):ConE e f args R:=Zp3 he mask hf hb hnm hok hal hres h
theorem gCP {e:Env} {K:St->Prop} {ds:List (Option Nat)} {n n':Nat} {os os':List Oper} {σ:St} {c:Operand} {args:List Operand} {f:FuncId} {xs:List D} {d:Option Nat} {s1 s2 s3:List (Nat × A)} {m1 m2 m3:List (Nat × Bk)} {pm:List Bk} {R:List D->List Bk->Prop} (ks ks':List Nat) (hc:ConP e f xs pm R)
  (hK:∀ r pm',R r pm'->Runs e ds n' os' ⟨setA s3 d (retA r),zipM ks' pm'++m3⟩ K) (h:Zbh e.P ds n os σ=.call false c args d n' os' ⟨s1,m1⟩:=by exact sfv) (h1:Zec false c args ⟨s1,m1⟩=some (f,xs,⟨s2,m2⟩):=by exact sfv)
  (hpm:getM m2 ks=some pm:=by exact sny) (hpn:pm.all pinned=true:=by exact sny) (hn:ks.Nodup:=by decide) (hk:Zcs (ks++ks') s2=s3:=by exact snv) (hr:Zcw (ks++ks') m2=m3:=by exact snv):Runs e ds n os σ K:=ZxT ks ks' h h1 hc hpm hpn hn hk hr hK
theorem gCI {e:Env} {K:St->Prop} {ds:List (Option Nat)} {n n':Nat} {os os':List Oper} {σ:St} {c x0:Operand} {rest:List Operand} {f:FuncId} {xs:List D} {d:Option Nat} {s1 s3:List (Nat × A)} {m1 m3:List (Nat × Bk)} {k ty sz:Nat} {rows rows':List (List C)} {r:List D} {oa:Option (Option Addr × Nat)} (hc:ConI e f ty sz rows xs rows' r) (hl:rows'.length=rows.length)
  (hK:Runs e ds n' os' ⟨s3,(k,.buf oa ty sz rows')::m3⟩ K) (h:Zbh e.P ds n os σ=.call false c (x0::rest) d n' os' ⟨s1,m1⟩:=by exact sfv) (h1:ZkZ c x0 rest ⟨s1,m1⟩=some (f,k,ty,sz,rows,xs):=by exact sfv)
  (hm:gm m1 k=some (.buf oa ty sz rows):=by exact snv) (h2:setA s1 d (retA r)=s3:=by simp only [setA,retA];exact rfl) (h3:remM k m1=m3:=by exact snv):Runs e ds n os σ K:=ZxU h h1 hm hc hl h2 h3 hK
theorem gP {e:Env} {K:St->Prop} {ds:List (Option Nat)} {n n':Nat} {os os':List Oper} {σ:St} {s1:List (Nat × A)} {m1:List (Nat × Bk)} (j:Nat) (hK:Runs e ds n' os' ⟨s1,m1⟩ K) (h:Zk0 (runN e.P ds j n os σ)=some (n',os',s1,m1):=by exact sfv):Runs e ds n os σ K:=Zt3 j h hK
theorem gS {e:Env} {K:St->Prop} {ds:List (Option Nat)} {os:List Oper} {s:List (Nat × A)} {m m2:List (Nat × Bk)} {ety sz:Nat} {rows:List (List C)} {s2:Option Addr->Nat->List (Nat × A)} (k:Nat) (hK:∀ a cap,Runs e ds 0 os ⟨s2 a cap,(k,.buf (some (a,cap)) ety sz rows)::m2⟩ K)
  (hm:gm m k=some (.buf none ety sz rows):=by exact snv) (hs:∀ a cap,mapS (litB k a rows.length cap) s=s2 a cap:=by intro a cap;exact snv) (hr:remM k m=m2:=by exact snv):Runs e ds 0 os ⟨s,m⟩ K :=
 Zdx (ZmD k hm) fun σ' ⟨a,cap,hσ⟩=>by subst hσ;simp only [hs,hr];exact hK a cap
theorem gO {e:Env} {K:St->Prop} {ds:List (Option Nat)} {os:List Oper} {s s2:List (Nat × A)} {m m2:List (Nat × Bk)} (t ety sz:Nat) (hK:Runs e ds 0 os ⟨(t,.buf t)::s2,(t,.buf none ety sz [])::m2⟩ K) (h0:0 < sz:=by decide) (hm:gs s t=.d (.clip []):=by exact sny)
  (hs:Zaq t s=s2:=by exact snv) (hr:remM t m=m2:=by exact snv):Runs e ds 0 os ⟨s,m⟩ K :=
 Zdx (ZxM t ety sz h0 hm) fun σ' hσ=>by subst hσ;simp only [hs,hr];exact hK
theorem gK {e:Env} {K:St->Prop} {ds:List (Option Nat)} {os:List Oper} {s:List (Nat × A)} {m:List (Nat × Bk)} {x:A} (t:Nat) (hK:Runs e ds 0 os ⟨(t,x)::s,m⟩ K) (hx:nrm m (gs s t)=x:=by exact snv):Runs e ds 0 os ⟨s,m⟩ K :=
 Zdx (ZxL t) fun σ' hσ=>by subst hσ;simp only [hx];exact hK
theorem gD {e:Env} {K:St->Prop} {ds:List (Option Nat)} {os:List Oper} {s s2:List (Nat × A)} {m m2:List (Nat × Bk)} {a:Option Addr} {cap ety sz:Nat} {rows:List (List C)} (k:Nat) (ts ks:List Nat) (hK:Runs e ds 0 os ⟨s2,m2⟩ K) (hm:gm m k=some (.buf (some (a,cap)) ety sz rows):=by exact snv)
  (hs:datS a rows.length cap rows ts (frzS k (.buf (some (a,cap)) ety sz rows) s)=s2:=by exact snv) (hr:datM a rows.length cap rows ks (remM k m)=m2:=by exact snv):Runs e ds 0 os ⟨s,m⟩ K :=
 Zdx (Zoh k ts ks hm) fun σ' hσ=>by subst hσ;simp only [hs,hr];exact hK
theorem gX {e:Env} {K:St->Prop} {ds:List (Option Nat)} {os:List Oper} {d t ty:Nat} {p:String} {ed:Array Edge} {parts:List (Nat × Operand)} {s:List (Nat × A)} {m:List (Nat × Bk)} {cs cs':List C} (hK:Runs e ds 0 os ⟨(d,.d (.agg cs'))::s,m⟩ K)
  (hz:ZdD e.P t=some cs:=by exact sny) (hst:Zbv e.P t=true:=by exact sny) (hok:cs.all Zau=true:=by first | rfl | exact sny) (hf:Zc4 e.P t cs (parts.map fun p=>(p.1,evA s p.2))=some cs':=by exact sfv):Runs e ds 0 (⟨some d,.build t parts.toArray,ty,p,ed,none⟩::os) ⟨s,m⟩ K:=Zp4 hz hst hok hf hK
theorem pN {e:Env} {mask:Nat} {Q:PX->St->Prop} {c:Code} {s s2:List (Nat × A)} {m m2:List (Nat × Bk)} (κ ety sz:Nat) (hK:pwp e mask c ⟨s2,(κ,.buf (some (none,0)) ety sz [])::m2⟩ Q) (h0:0 < sz:=by decide) (hs:Zaq κ s=s2:=by exact snv) (hr:remM κ m=m2:=by exact snv):pwp e mask c ⟨s,m⟩ Q :=
 Zcc (ZxN κ ety sz h0) fun σ' hσ=>by subst hσ;simp only [hs,hr];exact hK
theorem pD {e:Env} {mask:Nat} {Q:PX->St->Prop} {c:Code} {s s2:List (Nat × A)} {m m2:List (Nat × Bk)} {a:Option Addr} {cap ety sz:Nat} {rows:List (List C)} (k:Nat) (ts ks:List Nat) (hK:pwp e mask c ⟨s2,m2⟩ Q) (hm:gm m k=some (.buf (some (a,cap)) ety sz rows):=by exact snv)
  (hs:datS a rows.length cap rows ts (frzS k (.buf (some (a,cap)) ety sz rows) s)=s2:=by exact snv) (hr:datM a rows.length cap rows ks (remM k m)=m2:=by exact snv):pwp e mask c ⟨s,m⟩ Q :=
 Zcc (Zoh k ts ks hm) fun σ' hσ=>by subst hσ;simp only [hs,hr];exact hK
theorem pV {e:Env} {mask:Nat} {Q:PX->St->Prop} {c:Code} {s:List (Nat × A)} {m m2:List (Nat × Bk)} {cs:List C} {s2:Nat->List (Nat × A)} (k:Nat) (hK:∀ b,(∀ k' b' cs',k'≠k->gm m k'=some (.var (some b') cs')->b≠b')->pwp e mask c ⟨s2 b,(k,.var (some b) cs)::m2⟩ Q)
  (hm:gm m k=some (.var none cs):=by exact snv) (hs:∀ b,mapS (litV k b) s=s2 b:=by intro b;exact snv) (hr:remM k m=m2:=by exact snv):pwp e mask c ⟨s,m⟩ Q :=
 Zcc (ZtZ k hm) fun σ' ⟨b,hb,hσ⟩=>by subst hσ;simp only [hs,hr];exact hK b hb
theorem pS {e:Env} {mask:Nat} {Q:PX->St->Prop} {c:Code} {s:List (Nat × A)} {m m2:List (Nat × Bk)} {ety sz:Nat} {rows:List (List C)} {s2:Option Addr->Nat->List (Nat × A)} (k:Nat) (hK:∀ a cap,pwp e mask c ⟨s2 a cap,(k,.buf (some (a,cap)) ety sz rows)::m2⟩ Q)
  (hm:gm m k=some (.buf none ety sz rows):=by exact snv) (hs:∀ a cap,mapS (litB k a rows.length cap) s=s2 a cap:=by intro a cap;exact snv) (hr:remM k m=m2:=by exact snv):pwp e mask c ⟨s,m⟩ Q :=
 Zcc (ZmD k hm) fun σ' ⟨a,cap,hσ⟩=>by subst hσ;simp only [hs,hr];exact hK a cap
def Zd4 (pm pm':List Bk):Prop:=∀ (w:World) (S:Nat->Prop),(∀ x∈pm,Zdq w S x)->Zeu pm->(∀ x∈pm',Zdq w S x)∧Zeu pm'∧∀ g,Za7 pm' g->Za7 pm g
theorem gE {e:Env} {K:St->Prop} {ds:List (Option Nat)} {os:List Oper} {s s2:List (Nat × A)} {m m2 m3:List (Nat × Bk)} {pm pm':List Bk} (ks ks':List Nat) (hre:Zd4 pm pm') (hK:Runs e ds 0 os ⟨s2,m3⟩ K) (hpm:getM m ks=some pm:=by exact sny) (hn:ks.Nodup:=by decide) (hp:pm.all pinned=true:=by exact sny)
  (hs:Zcs (ks++ks') s=s2:=by exact snv) (hr:Zcw (ks++ks') m=m2:=by exact snv) (h3:zipM ks' pm'++m2=m3:=by exact snv):Runs e ds 0 os ⟨s,m⟩ K :=
 Zdx (ZqN (Φ:=fun x=>x=pm') ks ks' hn hpm hp (fun w S h1 h2=>⟨pm',rfl,hre w S h1 h2⟩)) fun σ' ⟨q,hq,hσ⟩=>by subst hq hσ;simp only [hs,hr,h3];exact hK
theorem pE {e:Env} {mask:Nat} {Q:PX->St->Prop} {c:Code} {s s2:List (Nat × A)} {m m2 m3:List (Nat × Bk)} {pm pm':List Bk} (ks ks':List Nat) (hre:Zd4 pm pm') (hK:pwp e mask c ⟨s2,m3⟩ Q) (hpm:getM m ks=some pm:=by exact sny) (hn:ks.Nodup:=by decide) (hp:pm.all pinned=true:=by exact sny)
  (hs:Zcs (ks++ks') s=s2:=by exact snv) (hr:Zcw (ks++ks') m=m2:=by exact snv) (h3:zipM ks' pm'++m2=m3:=by exact snv):pwp e mask c ⟨s,m⟩ Q :=
 Zcc (ZqN (Φ:=fun x=>x=pm') ks ks' hn hpm hp (fun w S h1 h2=>⟨pm',rfl,hre w S h1 h2⟩)) fun σ' ⟨q,hq,hσ⟩=>by subst hq hσ;simp only [hs,hr,h3];exact hK
theorem gIP {e:Env} {f:FuncId} {fn:Func} {c:Code} {args:List D} {pm:List Bk} {m0:List (Nat × Bk)} {R:List D->List Bk->Prop} {ts:List RS} (keys:List Nat) (mask:Nat) (hf:e.P.funcs[f]?=some fn) (h:pwp e mask c ⟨Zdb 0 args,m0⟩ (ZkX e.P ts R)) (hm:zipM keys pm=m0:=by exact snv) (hb:fn.body=some c:=by exact rfl) (hnm:(fn.name == "runtime.NumGoroutine")=false:=by kernel_rfl)
  (hok:Zcf fn.ntmps c=true:=by kernel_rfl) (hal:Nat.ble args.length fn.ntmps=true:=by exact rfl) (hres:Zbm fn.results.toList=ts:=by exact rfl) (he:e.Ok:=by first | exact Zjt | exact Zn2 | assumption):ConP e f args pm R:=Zp2 he keys mask hf hb hnm hok hal hres (by rw [hm];exact h)
theorem gTP {X:Prop} {P:Program} {ts:List RS} {R:List D->List Bk->Prop} {σ:St} {r:List D} {pm:List Bk} (ks:List Nat) (hR:R r pm) (hx:ZkX P ts R .ret σ->X:=by exact fun h=>Zfc h) (hr:resD P σ ts=some r:=by exact sfy) (hg:getM σ.m ks=some pm:=by exact sny) (hn:ks.Nodup:=by decide) (hp:pm.all pinned=true:=by exact sny):X :=
 hx ⟨r,ks,pm,hg,hn,hp,hR,Zfd hr⟩
theorem fG {p X Y:Prop} (f:p) (b:Y) (h:p->Y->X:=by intro F b;exact gG b):X:=h f b
theorem fR {p X Y:Prop} (f:p) (b:Y) (h:p->Y->X:=by intro F b;exact gR b):X:=h f b
theorem fC {p X Y Z:Prop} (f:p) (c:Z) (b:Y) (h:p->Z->Y->X:=by intro F c b;exact gC c b):X:=h f c b
theorem fN {p X Y:Prop} (n:Nat) (f:p) (b:Y) (h:Zaa n->p->Y->X:=by intro NN F b;exact gGn b):X:=h trivial f b
theorem fT {p X:Prop} (f:p) (h:p->X:=by intro F;refine gG ?_;exact gT):X:=h f
theorem fD {p X:Prop} (f:p) (h:p->X:=by intro F;refine gG ?_;exact gTd):X:=h f
theorem fB {p X Y:Prop} (f:p) (b:Y) (h:p->Y->X:=by intro F b;refine gG ?_;exact gB b):X:=h f b
theorem okC.cell:∀ {f:F} {c:C},okC f c->Zau c=true
 | .int,.lit v,h=>by obtain ⟨n,rfl,_⟩:=h;rfl
 | .str,.lit v,h=>by obtain ⟨n,rfl,_⟩:=h;rfl
 | .bool,.lit v,h=>by obtain ⟨n,rfl⟩:=h;rfl
 | .sl t,.sl rows,h=>rfl
 | .int,.sl _,h=>False.elim h
 | .str,.sl _,h=>False.elim h
 | .bool,.sl _,h=>False.elim h
 | .sl _,.lit _,h=>False.elim h
 | f,.ptr _,h=>by cases f <;> exact False.elim h
 | f,.fn _ _,h=>by cases f <;> exact False.elim h
theorem Zbt.cells:∀ {fs:List F} {cs:List C},Zbt fs cs->cs.all Zau=true
 | [],[],_=>rfl
 | f::fs,c::cs,h=>by
  simp only [Zbt] at h;rw [List.all_cons,h.1.cell,Zbt.cells h.2];rfl
 | [],_::_,h=>by simp [Zbt] at h
 | _::_,[],h=>by simp [Zbt] at h
theorem Zbt.take {fs:List F} {cs:List C} (h:Zbt fs cs) {n:Nat} (hn:fs.length=n):cs.length=n∧cs.take n=cs∧cs.drop n=[]:=by
 have:=h.len;refine ⟨om,?_,?_⟩
 ·rw [List.take_of_length_le om]
 ·rw [List.drop_eq_nil_of_le om]
theorem Zcd.rowsLen {fs:List F} {rows:List (List C)} (h:Zcd fs rows):rowsLen fs.length rows:=fun r hr=>by
 obtain ⟨i,hi⟩:=Tbk hr;exact ⟨(h.get hi).len,(h.get hi).cells⟩
theorem Zz7 {α:Type} (l:List α):l.drop 0=l:=rfl
section
variable {w:World} {S:Nat->Prop} {T:Nat}
theorem ZBO {f:F} {c:C} {z:Int} (h:okC f c) (hr:Rep w S c (.int .u8 z)):False:=by
 cases c with
 | lit v =>
  simp only [Rep] at hr;subst hr
  cases f with
  | int=>obtain ⟨n,h,_⟩:=h;cases h
  | str=>obtain ⟨n,h,_⟩:=h;cases h
  | bool=>obtain ⟨n,h⟩:=h;cases h
  | sl t=>simp only [okC] at h
 | sl rows =>
  simp only [Rep] at hr;obtain ⟨A,n,cap,hv,_⟩:=hr
  cases hv
 | ptr cs=>cases f <;> simp only [okC] at h
 | fn g cs=>cases f <;> simp only [okC] at h
theorem Zwk (t:TN):∃ f fs,Zgk t=f::fs:=by cases t <;> exact ⟨_,_,rfl⟩
theorem Zx0 (hT:∀ o u,w.cell? ⟨T,o,none⟩=some u->∃ z,u=.int .u8 z) {t:TN} {rows:List (List C)} {b off:Nat} (h0:0 < rows.length) (hok:Zcd (Zgk t) rows) (h:Zap w S b off rows):b≠T:=by
 rintro rfl
 cases rows with
 | nil=>simp at h0
 | cons r rs =>
  obtain ⟨f,fs,e⟩:=Zwk t;simp only [Zcd,Zap] at hok h;rw [e] at hok
  cases r with
  | nil=>simp only [Zbt] at hok;exact hok.1.elim
  | cons c cs =>
   simp only [Zbt,Zaj] at hok h;obtain ⟨⟨u,hu,hr⟩,_⟩:=h.1;obtain ⟨z,rfl⟩:=hT off u hu;exact ZBO hok.1.1 hr
mutual
theorem Rep.off (hT:∀ o u,w.cell? ⟨T,o,none⟩=some u->∃ z,u=.int .u8 z):∀ (f:F) (c:C) (v:Value),okC f c->Rep w S c v->Rep w (fun b=>S b∧b≠T) c v
 | _,.lit x,v,_,h=>by simpa [Rep] using h
 | .sl t,.sl rows,v,hok,h=>by
  simp only [okC] at hok;simp only [Rep] at h ⊢;obtain ⟨A,n,cap,hv,hn,hc,hm,hr⟩:=h;refine ⟨A,n,cap,hv,hn,hc,hm,fun h0=>?_⟩;obtain ⟨b,off,hA,hs,hb,hrows⟩:=hr h0;exact ⟨b,off,hA,⟨hs,Zx0 hT om hok hrows⟩,hb,Zap.off hT (Zgk t) b off rows hok hrows⟩
 | .int,.sl _,_,hok,_=>by simp only [okC] at hok
 | .str,.sl _,_,hok,_=>by simp only [okC] at hok
 | .bool,.sl _,_,hok,_=>by simp only [okC] at hok
 | f,.ptr _,_,hok,_=>by cases f <;> simp only [okC] at hok
 | f,.fn _ _,_,hok,_=>by cases f <;> simp only [okC] at hok
theorem Zap.off (hT:∀ o u,w.cell? ⟨T,o,none⟩=some u->∃ z,u=.int .u8 z):∀ (fs:List F) (b off:Nat) (rows:List (List C)),Zcd fs rows->Zap w S b off rows->Zap w (fun b=>S b∧b≠T) b off rows
 | _,_,_,[],_,_=>by simp [Zap]
 | fs,b,off,r::rs,hok,h=>by
  simp only [Zcd] at hok;simp only [Zap] at h ⊢;exact ⟨Zaj.off hT fs b off r hok.1 h.1,Zap.off hT fs b _ rs hok.2 h.2⟩
theorem Zaj.off (hT:∀ o u,w.cell? ⟨T,o,none⟩=some u->∃ z,u=.int .u8 z):∀ (fs:List F) (b off:Nat) (cs:List C),Zbt fs cs->Zaj w S b off cs->Zaj w (fun b=>S b∧b≠T) b off cs
 | _,_,_,[],_,_=>by simp [Zaj]
 | f::fs,b,off,c::cs,hok,h=>by
  simp only [Zbt] at hok;simp only [Zaj] at h ⊢;obtain ⟨⟨u,hu,hr⟩,h2⟩:=h;exact ⟨⟨u,hu,Rep.off hT f c u hok.1 hr⟩,Zaj.off hT fs b _ cs hok.2 h2⟩
 | [],_,_,c::cs,hok,_=>by simp only [Zbt] at hok
end
theorem Zad.off (hT:∀ o u,w.cell? ⟨T,o,none⟩=some u->∃ z,u=.int .u8 z):∀ (fs:List F) (cs:List C) (us:List Value),Zbt fs cs->Zad w S cs us->Zad w (fun b=>S b∧b≠T) cs us
 | _,[],[],_,_=>by simp [Zad]
 | f::fs,c::cs,u::us,hok,h=>by
  simp only [Zbt] at hok;simp only [Zad] at h ⊢;exact ⟨Rep.off hT f c u hok.1 h.1,Zad.off hT fs cs us hok.2 h.2⟩
 | [],c::cs,_,hok,_=>by simp only [Zbt] at hok
 | _::_,[],_,hok,_=>by simp only [Zbt] at hok
 | _,[],_::_,_,h=>by simp [Zad] at h
 | _,_::_,[],_,h=>by simp [Zad] at h
end
theorem ZBi {w:World} (h:ZcR w):∀ b,e0.E b->b < w.heap.size:=fun b hb=>by
 have hb:b=2:=hb;subst hb;unfold ZcR at h;exact (Tbl.1 h).1
end Go.Proofs.YtmdkimnlbaahbaaGreatDoor
namespace Go.Proofs.YtmdkimnlbaahbaaGreatDoor
open Go.ChangeShapes Go.WideShapes Go.ChangeAt Go.RowKit
abbrev Zgs:List (String × DataW Unit):=[("math/bits.deBruijn32tab",Rows.laid_math_bits_deBruijn32tab),("math/bits.deBruijn64tab",Rows.laid_math_bits_deBruijn64tab),("internal/strconv.uint64pow10",Rows.laid_internal_strconv_uint64pow10)]
theorem Zx1 (os:Os) (args:Array Value):laidMetH Tryz.prog Zgs ((World.doorLaid Tryz.prog 24 os).forCall (fun _ _=>0) ⟨#[],args,[]⟩).memory :=
 laidMetH_of_parts3 (fuel:=8) (laidMet_of_run' 8 (by kernel_rfl) (by kernel_rfl)) (by kernel_rfl) (by kernel_rfl)
theorem gTab:Tryz.prog.globalNamed "math/bits.deBruijn64tab" = some 2:=by kernel_rfl
theorem tTab:(Tryz.prog.globals[(2:Nat)]?).map (·.type)=some 166:=by kernel_rfl
theorem ZAu:∃ zero,((begin Tryz.prog (fun _ _=>0) default).world.heap[(2:Nat)]?).bind Obj.row?=some (zero,166):=⟨(List.replicate 64 (Value.int .u8 0)).toArray,by kernel_rfl⟩
theorem Zx2 {W:World} (h:laidMetH Tryz.prog Zgs W) (hs:W.ShapedOpen Tryz.prog):ZcR W:=by
 rw [MakeChecks.laidMetH_plain _ _ _ (by kernel_rfl)] at h;have h2:=laidMet.tail h;have h3:laidMet Tryz.prog [("math/bits.deBruijn64tab",Lib.tabData .u8 (Zn1.map fun (n:Nat)=>(n:Int))),("internal/strconv.uint64pow10",Rows.laid_internal_strconv_uint64pow10)] W:=h2;have h4:=Lib.tabIs_of_head gTab tTab (e:=5) (n:=64) (by kernel_rfl) (by kernel_rfl) (by kernel_rfl) (by kernel_rfl) h3;obtain ⟨zero,hz⟩:=ZAu
 obtain ⟨cs,hh,_⟩:=hs.1 _ zero _ (by decide +kernel) hz;unfold Lib.TabIs World.var? at h4;rw [gTab] at h4;simp only [Option.bind_some,hh,Taq] at h4;unfold ZcR;rw [hh,h4];unfold tabA;rw [List.map_map];rfl
section
variable {H:Type} {enc:TypeId × Value->H}
theorem ZoF {a:Assume} {C:Checked} {os:Os} {f:FuncId} {fn:Func} {s:ChangeSpec} {conds:List PathCond} {apart fresh handsOn again:Bool} {X:World->Array Value->Prop}
  (hX:∀ (w w':World) (args:Array Value),w.heap=w'.heap->X w args->X w' args)
  (own:ownKnob C.prog.godebug=none) (started:os.Started) (noInit:C.prog.inits.idxOf? f=none) (hfn:C.prog.funcs[f]?=some fn)
  (witness:∃ (w:World) (tape:Tape) (i:Input),w.os=os∧(w.forCall tape i).Shaped C.prog∧i.vars=[]∧Input.okWide C.prog (w.forCall tape i) .any w.heap.size f i ∧
   ((s.pre enc C.prog fn conds apart (w.forCall tape i).memory i.args∧X (w.forCall tape i).memory i.args)∧sizedMet enc C.prog fn (OpenSpec.ofChange s) apart (w.forCall tape i).memory i.args)∧a.holds C.prog (lone (Frame.enter C.prog f i.args .normal) [] (w.forCall tape i)))
  (contract:∀ (W:World) (base:Nat) (args:Array Value) (ds gs:List (DataW H)) (before:List MemPlace),
   (∀ (j:Nat) t v,fn.params[j]?=some t->args[j]?=some v->Value.okWide C.prog W .any base t v) ->
   DataW.Whole enc C.prog fn.params.toList s.vars apart W args.toList ds gs before ->
   conds.all (PathCond.test C.prog ⟨fn.params.toList,ds,s.plain.varTypes C.prog,gs⟩)=true ->
   (DataW.weightsEach C.prog (fn.params.toList++s.plain.varTypes C.prog) (ds++gs)).all (·<=reachBytes)=true->X W args->W.ShapedOpen C.prog ->
   a.holds C.prog (lone (Frame.enter C.prog f args .normal) [] W) ->
   Calls C.prog f args W fun e W'=>∃ v,e=.returned v∧s.post enc C.prog fn apart fresh handsOn again W args v W') :
  ReturnsInHanded a C os f .any (fun w args=>(s.pre enc C.prog fn conds apart w args∧X w args)∧sizedMet enc C.prog fn (OpenSpec.ofChange s) apart w args) (s.post enc C.prog fn apart fresh handsOn again):=by
 refine returnsInHanded_of_calls own started noInit witness ?_;intro w tape i _ hsh _ hok hpre hholds;obtain ⟨_,_,_,fn',hfn',_,_,_,_,hval⟩:=hok;obtain rfl:fn'=fn:=Option.some.inj (hfn'.symm.trans hfn);obtain ⟨⟨⟨ds,gs,before,hw,hc⟩,hx⟩,hz⟩:=hpre;refine (contract (w.forCall tape i) w.heap.size i.args ds gs before hval (DataW.Whole.of_heap (w':=w.forCall tape i) (by rfl) hw) hc (hz.weights hw) (hX _ _ _ (by rfl) hx) hsh hholds).mono fun e W' ⟨v,he,hp⟩=>?_
 subst he;exact ChangeSpec.post_blind hp
end
end Go.Proofs.YtmdkimnlbaahbaaGreatDoor
namespace Go.Proofs.YtmdkimnlbaahbaaGreatDoor
open Go.ChangeShapes Go.WideShapes Go.ChangeAt Go.RowKit Go.Deep
theorem ZsV {P:Program} {w:World} {r:Reach} {base:Nat} {t e:TypeId} {v:Value} (ht:P.underlying t=some (.slice e)) (h:Value.okWide P w r base t v):v.cells.toList=[v]:=by
 simp only [Value.okWide,ht] at h
 cases v <;> first
  | rfl
  | (exfalso;simp [Cell.okWide,ht,Cell.ok] at h)
end Go.Proofs.YtmdkimnlbaahbaaGreatDoor
namespace Go.Proofs.YtmdkimnlbaahbaaGreatDoor
open Go.RowKit
inductive Tm where
 | mk (op:Int) (name:ByteArray) (sort:Int) (args:List Tm)
def Tm.args:Tm->List Tm | .mk _ _ _ a=>a
def Tm.op:Tm->Int | .mk a _ _ _=>a
def Tm.name:Tm->ByteArray | .mk _ a _ _=>a
def Tm.sort:Tm->Int | .mk _ _ a _=>a
mutual
def Zab:Tm->List C
 | .mk op nm so args=>[.lit (.int .i64 op),.lit (.string nm),.lit (.int .i64 so),.sl (Zac args)]
def Zac:List Tm->List (List C)
 | []=>[]
 | t::ts=>Zab t::Zac ts
end
mutual
def okTm:Tm->Prop
 | .mk op nm so args=>I64 op∧nm.size<=maxLen∧I64 so∧ZaF args
def ZaF:List Tm->Prop
 | []=>True
 | t::ts=>okTm t∧ZaF ts
end
theorem ZbZ (ts:List Tm):Zac ts=ts.map Zab:=by
 induction ts with
 | nil=>simp [Zac]
 | cons t ts ih=>simp [Zac,ih]
theorem Zae (ts:List Tm):(Zac ts).length=ts.length:=by simp [ZbZ]
theorem ZbH (ts:List Tm) (i:Nat):(Zac ts)[i]?=ts[i]?.map Zab:=by simp [ZbZ]
theorem ZaF.mem:∀ {ts:List Tm} {t:Tm},ZaF ts->t∈ts->okTm t
 | [],_,_,h=>by simp at h
 | x::xs,t,h,ht=>by
  simp only [ZaF] at h;rcases Tbg.1 ht with rfl | ht
  ·exact h.1
  ·exact ZaF.mem h.2 ht
def ZaU (a b:Int):Int:=if a < b then -1 else if b < a then 1 else 0
def Zca (a b:ByteArray):Int:=Lib.compareBytes a.data.toList b.data.toList
def ZaT:List Int->Int
 | []=>0
 | x::xs=>if x=0 then ZaT xs else x
mutual
def Zai:Tm->Tm->Int
 | .mk o n s a,.mk o' n' s' a'=>ZaT [ZaU o o',Zca n n',ZaU s s',ZaP a a']
def ZaP:List Tm->List Tm->Int
 | [],[]=>0
 | [],_::_=>-1
 | _::_,[]=>1
 | x::xs,y::ys=>ZaT [Zai x y,ZaP xs ys]
end
theorem ZfY:∀ (l:List UInt8),Lib.compareBytes l l=0
 | []=>rfl
 | x::xs=>by simp [Lib.compareBytes,ZfY xs]
theorem ZfZ:∀ {l m:List UInt8},Lib.compareBytes l m=0->l=m
 | [],[],_=>rfl
 | [],_::_,h=>by simp [Lib.compareBytes] at h
 | _::_,[],h=>by simp [Lib.compareBytes] at h
 | x::xs,y::ys,h=>by
  simp only [Lib.compareBytes] at h;split at h
  ·simp at h
  ·split at h
   ·simp at h
   ·rename_i h1 h2;have e:x=y:=UInt8.le_antisymm (UInt8.not_lt.1 h2) (UInt8.not_lt.1 h1);rw [e,ZfZ h]
theorem Zf0:∀ (l m:List UInt8),Op.bytesLess l m=decide (Lib.compareBytes l m=-1)
 | [],[]=>by simp [Op.bytesLess,Lib.compareBytes]
 | [],_::_=>by simp [Op.bytesLess,Lib.compareBytes]
 | _::_,[]=>by simp [Op.bytesLess,Lib.compareBytes]
 | x::xs,y::ys=>by
  have ih:=Zf0 xs ys;simp only [Op.bytesLess,Lib.compareBytes,ih];by_cases h1:x < y
  ·simp [h1]
  ·by_cases h2:y < x
   ·have:¬ x=y:=fun e=>by subst e;exact h1 h2
    simp [h1,h2,this]
   ·have e:x=y:=UInt8.le_antisymm (UInt8.not_lt.1 h2) (UInt8.not_lt.1 h1);subst e;simp [h1]
theorem ZfH:∀ (l m:List UInt8),Lib.compareBytes l m=-1∨Lib.compareBytes l m=0∨Lib.compareBytes l m=1
 | [],[]=>by simp [Lib.compareBytes]
 | [],_::_=>by simp [Lib.compareBytes]
 | _::_,[]=>by simp [Lib.compareBytes]
 | x::xs,y::ys=>by
  have ih:=ZfH xs ys;simp only [Lib.compareBytes];split
  ·simp
  ·split
   ·simp
   ·exact ih
theorem ZcX {a b:Int}:ZaU a b=0 ↔ a=b:=by unfold ZaU;split <;> (try split) <;> simp <;> omega
theorem Zfs {a b:ByteArray}:Zca a b=0 ↔ a=b:=by
 constructor
 ·intro h;have:=ZfZ h;obtain ⟨⟨la⟩⟩:=a;obtain ⟨⟨lb⟩⟩:=b;simp at this;rw [this]
 ·rintro rfl;exact ZfY _
theorem ZoG (a b:ByteArray):Zca a b=-1∨Zca a b=0∨Zca a b=1:=ZfH _ _
theorem Zp5:∀ {ps qs:List Tm} {k:Nat} {x y:Tm},ps[k]?=some x->qs[k]?=some y->ZaP (ps.drop k) (qs.drop k)=ZaT [Zai x y,ZaP (ps.drop (k+1)) (qs.drop (k+1))]:=by
 intro ps qs k x y h1 h2;have e1:ps.drop k=x::ps.drop (k+1):=by
  obtain ⟨hl,hx⟩:=Tad.1 h1;rw [<- hx];exact List.drop_eq_getElem_cons hl
 have e2:qs.drop k=y::qs.drop (k+1):=by
  obtain ⟨hl,hx⟩:=Tad.1 h2;rw [<- hx];exact List.drop_eq_getElem_cons hl
 rw [e1,e2,ZaP]
theorem Za1 (t:Tm):(Zab t).length=4:=by cases t;rfl
theorem ZbQ (t:Tm):(Zab t).take 4=Zab t:=by cases t;rfl
theorem Zr6 (t:Tm):(Zab t).drop 4=[]:=by cases t;rfl
theorem ZbB (t:Tm):(Zab t).all Zau=true:=by cases t;rfl
theorem Zcy (ts:List Tm):ZaI 4 (Zac ts)=true:=by
 rw [ZbZ];exact ZcW (e:=Zab) (n:=4) (fun t=>by rw [Za1,ZbB];rfl) ts
theorem Zz8 (t:Tm):valT .one (Zab t)=some (.d (.one (.lit (.int .i64 t.op)))):=by cases t;rfl
theorem Zz9 (t:Tm):(Zab t).drop 1=[.lit (.string t.name),.lit (.int .i64 t.sort),.sl (Zac t.args)]:=by cases t;rfl
theorem ZAa (t:Tm):(Zab t).drop 2=[.lit (.int .i64 t.sort),.sl (Zac t.args)]:=by cases t;rfl
theorem ZAb (t:Tm):(Zab t).drop 3=[.sl (Zac t.args)]:=by cases t;rfl
theorem tmz:type_of% (aj12 Zz8 Zz9 ZAa ZAb Za1 ZbQ Zr6 ZbB Zcy ZbH Zae @Zz7):=(aj12 Zz8 Zz9 ZAa ZAb Za1 ZbQ Zr6 ZbB Zcy ZbH Zae @Zz7)
theorem ZsW (a b:Int) (w:World):Calls Tryz.prog 63 #[.int .i64 a,.int .i64 b] w fun e w'=>e=.returned (.int .i64 (ZaU a b))∧w=w':=by
 unfold ZaU;by_cases h1:a < b
 ·rw [if_pos h1]
  go_enter Tryz.func63,Tryz.ntmps63
  go_wp2
  go_ret
  exact ⟨rfl,rfl⟩
 ·by_cases h2:b < a
  ·rw [if_neg h1,if_pos h2]
   go_enter Tryz.func63,Tryz.ntmps63
   go_wp2
   go_ret
   exact ⟨rfl,rfl⟩
  ·rw [if_neg h1,if_neg h2]
   go_enter Tryz.func63,Tryz.ntmps63
   go_wp2
   go_ret
   exact ⟨rfl,rfl⟩
theorem Zmf (a b:ByteArray) (w:World):Calls Tryz.prog 115 #[.string a,.string b] w fun e w'=>e=.returned (.int .i64 (Zca a b))∧w=w':=by
 go_enter Tryz.func115,Tryz.ntmps115
 go_wp2
 rw [run_callFunc_extern Tryz.func138 (by kernel_rfl) (by kernel_rfl) (by kernel_rfl) (e:=Extern.BytealgCompare.compare) (by kernel_rfl),Lib.run_compareString];simp only [Result.andThen];rw [Oper.upon_value]
 go_wp2
 go_ret
 exact ⟨rfl,rfl⟩
theorem Zmg (a b:ByteArray) (w:World):Calls Tryz.prog 64 #[.string a,.string b] w fun e w'=>e=.returned (.int .i64 (Zca a b))∧w=w':=by
 go_enter Tryz.func64,Tryz.ntmps64
 go_wp2_with fail
 refine (Zmf _ _ _).mono ?_;rintro e w' ⟨rfl,rfl⟩
 go_wp2
 go_ret
 exact ⟨rfl,rfl⟩
theorem ZoH {l:List Int} {k:Nat} {x:Int} (h:l[k]?=some x):ZaT (l.drop k)=if x=0 then ZaT (l.drop (k+1)) else x:=by
 obtain ⟨hl,hx⟩:=Tad.1 h;rw [List.drop_eq_getElem_cons hl,hx,ZaT]
theorem ZoI {e:Env} {f:FuncId} {args:List D} {x:Value} (hb:Zco e.P f=true) (h:∀ (w:World) (S:Nat->Prop) (vs:List Value),Zav w S args vs->Calls e.P f vs.toArray w fun en w'=>en=.returned x∧w=w'):Con e f args [.one (.lit x)] :=
 ⟨hb,fun w S vs _ _ hG hv=>(h w S vs hv).mono fun en w' ⟨h1,h2⟩=>by subst h2;exact ⟨x,h1,Kept.refl ..,hG,by simp [retA,ARel,DRel,Rep]⟩⟩
theorem Zx3 {e:Env} {f:FuncId} {args r:List D} {φ:Prop} (hb:Zco e.P f=true) (hφ:∀ (w:World) (S:Nat->Prop) (vs:List Value),Zav w S args vs->φ) (h:φ->Con e f args r):Con e f args r :=
 ⟨hb,fun w S vs h1 h2 h3 h4=>(h (hφ w S vs h4)).2 w S vs h1 h2 h3 h4⟩
theorem ZmK (a b:Int):Con e1 63 [.one (.lit (.int .i64 a)),.one (.lit (.int .i64 b))] [.one (.lit (.int .i64 (ZaU a b)))]:=by
 refine ZoI (by kernel_rfl) fun w S vs h=>?_
 match vs,h with
 | [x,y],h =>
  obtain ⟨hx,hy,_⟩:=h;have hx:x=.int .i64 a:=hx;have hy:y=.int .i64 b:=hy;subst hx hy;exact ZsW a b w
theorem Zwl (a b:ByteArray):Con e1 64 [.one (.lit (.string a)),.one (.lit (.string b))] [.one (.lit (.int .i64 (Zca a b)))]:=by
 refine ZoI (by kernel_rfl) fun w S vs h=>?_
 match vs,h with
 | [x,y],h =>
  obtain ⟨hx,hy,_⟩:=h;have hx:x=.string a:=hx;have hy:y=.string b:=hy;subst hx hy;exact Zmg a b w
theorem ZsX (l:List Int) (hl:l.length<=1048576):Con e1 62 [.clip (l.map fun n=>[.lit (.int .i64 n)])] [.one (.lit (.int .i64 (ZaT l)))]:=by
 have rb:ZaI 1 (l.map fun n=>[C.lit (.int .i64 n)])=true:=ZcW (e:=fun n=>[C.lit (.int .i64 n)]) (n:=1) (fun _=>rfl) l;refine gI (ts:=[.slot 2]) 17389 Tryz.func62 ?_;refine fG @rb ?_;have F:=@rb;refine gL (ι:=Nat) [2,5,8,9,14] [] (fun x=>[(8,.d (.one (.lit (.int .i64 (x:Int)))))]) (fun x=>[]) (fun x=>x<=l.length∧ZaT l=ZaT (l.drop x)) (fun x=>l.length - x) (0) (⟨Taj _,rfl⟩) (fun x hx=>?_);clear F;obtain ⟨hi,hf⟩:=hx
 rw [hf];clear hf;by_cases hlt:x < l.length
 ·obtain ⟨n,hn⟩:∃ n,l[x]?=some n:=⟨_,Taa hlt⟩;have q1:=lT x l.length;have q4:IntKind.i64.wrap ((x:Int)+1)=(x:Int)+1:=IntWalk.i64_in _ om;rw [ZoH hn];by_cases h0:n=0
  ·subst h0;rw [if_pos rfl];refine fG (aj3 @q1 @rb @hn) ?_;have F:=@q4;refine gG ?_;exact ⟨x+1,⟨hlt,rfl⟩,gw,gw,om⟩
  ·have q2:(n=0)=False:=eq_false h0;rw [if_neg h0];exact fD (aj4 @q1 @rb @hn @q2)
 ·obtain rfl:x=l.length:=by omega
  have q1:=lF l.length l.length;rw [List.drop_length];simp only [ZaT];exact fD @q1
theorem Zp6 {b:List Tm} {k:Nat} {xs:List Tm} (h:xs.length<=k):ZaP (xs.drop k) b=if b=[] then 0 else -1:=by
 rw [List.drop_eq_nil_of_le h]
 cases b with
 | nil=>simp [ZaP]
 | cons x xs=>simp [ZaP]
theorem Zp7 {a:Tm} {k:Nat} {xs bs:List Tm} (ha:xs[k]?=some a) (h:bs.length<=k):ZaP (xs.drop k) (bs.drop k)=1:=by
 obtain ⟨hl,hx⟩:=Tad.1 ha;rw [List.drop_eq_nil_of_le h,List.drop_eq_getElem_cons hl];simp [ZaP]
theorem Zk9 (xs bs:List Tm) (hla:xs.length<=maxLen) (hlb:bs.length<=maxLen) (h:∀ a∈xs,∀ b∈bs,Con e1 29 [.agg (Zab a),.agg (Zab b)] [.one (.lit (.int .i64 (Zai a b)))]):Con e1 65 [.one (.sl (Zac xs)),.one (.sl (Zac bs)),.one (.fn 29 [])] [.one (.lit (.int .i64 (ZaP xs bs)))]:=by
 unfold maxLen at hla hlb;refine gI (ts:=[.slot 6]) 277027520455 Tryz.func65 ?_;refine fG @tmz ?_;have F:=@tmz;refine gL (ι:=Nat) [6,7,8,9,10,13,14,21,31] [] (fun x=>[(13,.d (.one (.lit (.int .i64 (x:Int)))))]) (fun x=>[]) (fun x=>x<=xs.length∧x<=bs.length∧ZaP xs bs=ZaP (xs.drop x) (bs.drop x)) (fun x=>xs.length - x) (0) (⟨Taj _,Taj _,rfl⟩) (fun x hx=>?_);clear F;obtain ⟨hi,hj,hf⟩:=hx;rw [hf];clear hf
 by_cases hlt:x < xs.length
 ·obtain ⟨a,ha⟩:∃ n,xs[x]?=some n:=⟨_,Taa hlt⟩;have q1:=lT x xs.length;by_cases hlt2:x < bs.length
  ·obtain ⟨b,hb⟩:∃ n,bs[x]?=some n:=⟨_,Taa hlt2⟩;have q2:((x:Int) ≥ (bs.length:Int))=False:=eq_false om;have q4:IntKind.i64.wrap ((x:Int)+1)=(x:Int)+1:=IntWalk.i64_in _ om;rw [Zp5 ha hb];simp only [ZaT];refine fB (aj5 @q1 @q2 @tmz @ha @hb) ?_;refine fC @tmz (h a (Tac ha) b (Tac hb)) ?_;refine fR @tmz ?_;by_cases h0:Zai a b=0
   ·have q3:(Zai a b=0)=True:=eq_true h0;rw [if_pos h0,show (if ZaP (xs.drop (x+1)) (bs.drop (x+1))=0 then (0:Int) else ZaP (xs.drop (x+1)) (bs.drop (x+1)))=ZaP (xs.drop (x+1)) (bs.drop (x+1)) by split <;> simp_all];refine fG (ai @tmz @q3) ?_;have F:=@q4;refine gG ?_;exact ⟨x+1,⟨hlt,hlt2,rfl⟩,gw,gw,om⟩
   ·have q3:(Zai a b=0)=False:=eq_false h0;rw [if_neg h0];exact fD (ai @tmz @q3)
  ·have q2:((x:Int) ≥ (bs.length:Int))=True:=eq_true om;rw [Zp7 ha om];exact fD (aj4 @q1 @q2 @tmz @ha)
 ·have q1:=lF x xs.length;rw [Zp6 om];by_cases h2:xs.length < bs.length
  ·have q2:=lT xs.length bs.length;rw [if_neg (by intro e;have:=congrArg List.length e;simp at this;omega)];exact fD (aj3 @q1 @q2 @tmz)
  ·have q2:=lF xs.length bs.length;rw [if_pos (by apply List.drop_eq_nil_of_le;omega)];exact fD (aj3 @q1 @q2 @tmz)
theorem Zr7 {w:World} {S:Nat->Prop} {rows:List (List C)} {v:Value} (h:Rep w S (.sl rows) v):rows.length<=maxLen:=by
 simp only [Rep] at h;obtain ⟨A,n,cap,_,h1,h2,h3,_⟩:=h;omega
theorem ZoJ (xs bs:List Tm) (h:∀ a∈xs,∀ b∈bs,Con e1 29 [.agg (Zab a),.agg (Zab b)] [.one (.lit (.int .i64 (Zai a b)))]):Con e1 65 [.one (.sl (Zac xs)),.one (.sl (Zac bs)),.one (.fn 29 [])] [.one (.lit (.int .i64 (ZaP xs bs)))]:=by
 refine Zx3 (φ:=xs.length<=maxLen∧bs.length<=maxLen) (by kernel_rfl) (fun w S vs hv=>?_) fun hφ=>Zk9 xs bs hφ.1 hφ.2 h
 match vs,hv with
 | [x,y,z],hv =>
  have h1:=Zr7 hv.1;have h2:=Zr7 hv.2.1;rw [Zae] at h1 h2;exact ⟨h1,h2⟩
theorem Zp8 (a b:Tm) (h:∀ x∈a.args,∀ y∈b.args,Con e1 29 [.agg (Zab x),.agg (Zab y)] [.one (.lit (.int .i64 (Zai x y)))]):Con e1 29 [.agg (Zab a),.agg (Zab b)] [.one (.lit (.int .i64 (Zai a b)))]:=by
 obtain ⟨o,n,s,xs⟩:=a;obtain ⟨o',n',s',bs⟩:=b;simp only [Tm.args] at h;have c1:Zab (.mk o n s xs)=[.lit (.int .i64 o),.lit (.string n),.lit (.int .i64 s),.sl (Zac xs)]:=by simp only [Zab]
 have c2:Zab (.mk o' n' s' bs)=[.lit (.int .i64 o'),.lit (.string n'),.lit (.int .i64 s'),.sl (Zac bs)]:=by simp only [Zab]
 have e3:Zai (.mk o n s xs) (.mk o' n' s' bs)=if ZaT [ZaU o o',Zca n n',ZaU s s']=0 then ZaP xs bs else ZaT [ZaU o o',Zca n n',ZaU s s']:=by
  simp only [Zai,ZaT];by_cases h1:ZaU o o'=0
  ·by_cases h2:Zca n n'=0
   ·by_cases h3:ZaU s s'=0
    ·simp only [h1,h2,h3,if_true];split <;> simp_all
    ·simp only [h1,h2,h3,if_true,if_false]
   ·simp only [h1,h2,if_true,if_false]
  ·simp only [h1,if_false]
 have hor:=ZsX [ZaU o o',Zca n n',ZaU s s'] (by simp);simp only [Tbu,List.map_nil] at hor;rw [e3];refine gI (ts:=[.slot 4]) 16777279 Tryz.func29 ?_;refine fB (ai @c1 @c2) ?_;refine fC (ai @c1 @c2) (ZmK o o') ?_;refine fC (ai @c1 @c2) (Zwl n n') ?_;refine fC (ai @c1 @c2) (ZmK s s') ?_;refine fC (ai @c1 @c2) (hor) ?_;refine fR (ai @c1 @c2) ?_;by_cases h0:ZaT [ZaU o o',Zca n n',ZaU s s']=0
 ·have q3:(ZaT [ZaU o o',Zca n n',ZaU s s']=0)=True:=eq_true h0;rw [if_pos h0];refine fB (aj3 @q3 @c1 @c2) ?_;refine fC (ai @c1 @c2) (ZoJ xs bs h) ?_;refine fR (ai @c1 @c2) ?_;exact fD (ai @c1 @c2)
 ·have q3:(ZaT [ZaU o o',Zca n n',ZaU s s']=0)=False:=eq_false h0;rw [if_neg h0];exact fD (aj3 @q3 @c1 @c2)
theorem ZsY (n:Nat):∀ a b:Tm,Zct (Zab a) < n->Con e1 29 [.agg (Zab a),.agg (Zab b)] [.one (.lit (.int .i64 (Zai a b)))]:=by
 induction n with
 | zero=>exact fun _ _ h=>om
 | succ n ih =>
  intro a b hn;refine Zp8 a b fun x hx y hy=>ih x y ?_;obtain ⟨op,nm,so,args⟩:=a;simp only [Zab,Zct,Zht] at hn;simp only [Tm.args] at hx;obtain ⟨i,hi⟩:=Tbk hx;have hi':(Zac args)[i]?=some (Zab x):=by rw [ZbH,hi];rfl
  have h1:=ZeL hi';omega
theorem ZeG (a b:Tm):Con e1 29 [.agg (Zab a),.agg (Zab b)] [.one (.lit (.int .i64 (Zai a b)))]:=ZsY _ a b (Tan _)
mutual
def sizeTm:Tm->Nat
 | .mk _ _ _ a=>1+sizeTms a
def sizeTms:List Tm->Nat
 | []=>0
 | t::ts=>sizeTm t+sizeTms ts
end
theorem Zad.mem {w:World} {S:Nat->Prop}:∀ {cs:List C} {us:List Value} {c:C},Zad w S cs us->c∈cs->∃ u,Rep w S c u
 | c::cs,u::us,x,h,hx=>by
  simp only [Zad] at h;rcases Tbg.1 hx with rfl | hx
  ·exact ⟨u,h.1⟩
  ·exact Zad.mem h.2 hx
 | [],_,_,_,hx=>by simp at hx
 | _::_,[],_,h,_=>by simp [Zad] at h
theorem Zx4 {e:Env} {f:FuncId} {cs:List C} {rows:List (List C)} {post r:List D} (hb:Zco e.P f=true) (hc:.sl rows∈cs) (h:rows.length<=maxLen->Con e f (.agg cs::post) r):Con e f (.agg cs::post) r:=⟨hb,fun w S vs hS hE hG hv=>by
 match vs,hv with
 | v::vs,⟨h1,h2⟩ =>
  have h1':DRel w S (.agg cs) v:=h1;obtain ⟨us,_,hu⟩:=h1';obtain ⟨u,hr⟩:=hu.mem hc;obtain ⟨A,n,cap,_,hn,hl,hm⟩:=hr.form;exact (h om).2 w S _ hS hE hG ⟨h1,h2⟩⟩
theorem Zx5 {n n':ByteArray} (h:n≠n'):(n.toList==n'.toList)=false:=by
 simp only [beq_eq_false_iff_ne,ne_eq,ByteArray.toList_eq];intro e;apply h;obtain ⟨⟨la⟩⟩:=n;obtain ⟨⟨lb⟩⟩:=n';simp at e;rw [e]
theorem Zp9 {x y:List Tm} {i:Nat} {a b:Tm} (ha:x[i]?=some a) (hb:y[i]?=some b):ZaP (x.drop i) (y.drop i)=if Zai a b=0 then ZaP (x.drop (i+1)) (y.drop (i+1)) else Zai a b:=by
 obtain ⟨h1,rfl⟩:=Tad.1 ha;obtain ⟨h2,rfl⟩:=Tad.1 hb;rw [List.drop_eq_getElem_cons h1,List.drop_eq_getElem_cons h2];simp only [ZaP,ZaT];split
 ·split <;> simp_all
 ·rfl
theorem Zmh (a b:Tm) (ha:okTm a) (h:∀ x∈a.args,okTm x->∀ y∈b.args,Con e0 40 [.agg (Zab x),.agg (Zab y)] [.one (.lit (.int .i64 (Zai x y)))]):Con e0 40 [.agg (Zab a),.agg (Zab b)] [.one (.lit (.int .i64 (Zai a b)))]:=by
 obtain ⟨o,n,s,xs⟩:=a;obtain ⟨o',n',s',ys⟩:=b;simp only [Tm.args] at h;simp only [okTm] at ha;have c1:Zab (.mk o n s xs)=[.lit (.int .i64 o),.lit (.string n),.lit (.int .i64 s),.sl (Zac xs)]:=by simp only [Zab]
 have c2:Zab (.mk o' n' s' ys)=[.lit (.int .i64 o'),.lit (.string n'),.lit (.int .i64 s'),.sl (Zac ys)]:=by simp only [Zab]
 rw [c1,c2];refine Zx4 (rows:=Zac xs) (by kernel_rfl) (by simp) fun hm1=>?_;unfold maxLen at hm1;rw [Zae] at hm1;by_cases ho:o=o';rotate_left
 ·have q1:(o=o')=False:=eq_false ho;have hz:ZaU o o'≠0:=fun e=>ho (ZcX.1 e);rw [show Zai (.mk o n s xs) (.mk o' n' s' ys)=ZaU o o' by simp only [Zai,ZaT,if_neg hz]];by_cases hl:o < o'
  ·have q2:(o < o')=True:=eq_true hl;rw [show ZaU o o'=-1 by unfold ZaU;rw [if_pos hl]];refine gI (ts:=[.slot 4]) 304601861798674884003967 Tryz.func40 ?_;exact fD (ai @q1 @q2)
  ·have q2:(o < o')=False:=eq_false hl;rw [show ZaU o o'=1 by unfold ZaU;rw [if_neg hl,if_pos om]];refine gI (ts:=[.slot 4]) 304601861798674884003967 Tryz.func40 ?_;exact fD (ai @q1 @q2)
 subst ho;have hz0:ZaU o o=0:=ZcX.2 rfl;by_cases hn:n=n';rotate_left
 ·have q1:=Zx5 hn;have hz:Zca n n'≠0:=fun e=>hn (Zfs.1 e);have hlq:Op.bytesLess n.toList n'.toList=decide (Zca n n'=-1):=by rw [ByteArray.toList_eq,ByteArray.toList_eq];exact Zf0 _ _
  rw [show Zai (.mk o n s xs) (.mk o n' s' ys)=Zca n n' by simp only [Zai,ZaT,if_pos hz0,if_neg hz]];rcases ZoG n n' with e | e | e
  ·have q2:Op.bytesLess n.toList n'.toList=true:=by rw [hlq,e];rfl
   rw [e];refine gI (ts:=[.slot 4]) 304601861798674884003967 Tryz.func40 ?_;exact fD (ai @q1 @q2)
  ·exact absurd e hz
  ·have q2:Op.bytesLess n.toList n'.toList=false:=by rw [hlq,e];rfl
   rw [e];refine gI (ts:=[.slot 4]) 304601861798674884003967 Tryz.func40 ?_;exact fD (ai @q1 @q2)
 subst hn;have hz1:Zca n n=0:=Zfs.2 rfl;by_cases hs:s=s';rotate_left
 ·have q1:(s=s')=False:=eq_false hs;have hz:ZaU s s'≠0:=fun e=>hs (ZcX.1 e);rw [show Zai (.mk o n s xs) (.mk o n s' ys)=ZaU s s' by simp only [Zai,ZaT,if_pos hz0,if_pos hz1,if_neg hz]];by_cases hl:s < s'
  ·have q2:(s < s')=True:=eq_true hl;rw [show ZaU s s'=-1 by unfold ZaU;rw [if_pos hl]];refine gI (ts:=[.slot 4]) 304601861798674884003967 Tryz.func40 ?_;exact fD (aj3 @q1 @q2 @beq_self_eq_true.{0})
  ·have q2:(s < s')=False:=eq_false hl;rw [show ZaU s s'=1 by unfold ZaU;rw [if_neg hl,if_pos om]];refine gI (ts:=[.slot 4]) 304601861798674884003967 Tryz.func40 ?_;exact fD (aj3 @q1 @q2 @beq_self_eq_true.{0})
 subst hs;have hz2:ZaU s s=0:=ZcX.2 rfl
 rw [show Zai (.mk o n s xs) (.mk o n s ys)=ZaP xs ys by
  simp only [Zai,ZaT,if_pos hz0,if_pos hz1,if_pos hz2];split <;> simp_all]
 refine gI (ts:=[.slot 4]) 304601861798674884003967 Tryz.func40 ?_;refine fG (@beq_self_eq_true.{0}) ?_;have F:=@e0P;refine gL (ι:=Nat) [4,5,6,48,63] [] (fun i=>[(5,A.d (.one (.lit (.int .i64 i))))]) (fun i=>[]) (fun i=>i<=xs.length∧i<=ys.length∧ZaP xs ys=ZaP (xs.drop i) (ys.drop i)) (fun i=>xs.length - i) (0) (⟨Taj _,Taj _,rfl⟩) (fun i hi=>?_);clear F;obtain ⟨hi1,hi2,he⟩:=hi;have l1:=Zae xs;have l2:=Zae ys
 by_cases h1:i < xs.length;rotate_left
 ·obtain rfl:i=xs.length:=by omega
  have q1:=lF xs.length xs.length;rw [List.drop_length] at he;by_cases h2:xs.length < ys.length
  ·have q2:=lT xs.length ys.length;rw [he,List.drop_eq_getElem_cons h2];simp only [ZaP];exact fD (aj3 @q1 @q2 @tmz)
  ·have q2:=lF xs.length ys.length;have q3:((xs.length:Int) > (ys.length:Int))=False:=eq_false om;rw [he,List.drop_of_length_le om];simp only [ZaP];exact fD (aj4 @q1 @q2 @q3 @tmz)
 have q1:=lT i xs.length;by_cases h2:i < ys.length;rotate_left
 ·obtain rfl:i=ys.length:=by omega
  have q2:=lF ys.length ys.length;have q3:=lF xs.length ys.length;have q4:((xs.length:Int) > (ys.length:Int))=True:=eq_true om;rw [he,List.drop_length,List.drop_eq_getElem_cons h1];simp only [ZaP];exact fD (aj5 @q1 @q2 @q3 @q4 @tmz)
 have q2:=lT i ys.length;obtain ⟨x,hx⟩:∃ x,xs[i]?=some x:=⟨_,Taa h1⟩;obtain ⟨y,hy⟩:∃ y,ys[i]?=some y:=⟨_,Taa h2⟩;have cC:=h x (Tac hx) (ZaF.mem ha.2.2.2 (Tac hx)) y (Tac hy);rw [Zp9 hx hy] at he;have hwi:=Zat (k:=i) om;refine fN 16 (aj3 @q1 @q2 @tmz) ?_;refine gB ?_;refine fC (aj6 @hx @hy @h1 @h2 @Zar @tmz) (cC) ?_;by_cases h0:Zai x y=0
 ·have q5:(Zai x y=0)=True:=eq_true h0;rw [if_pos h0] at he;refine fR @e0P ?_;have F:=ai @q5 @hwi;refine gG ?_;exact ⟨i+1,⟨h1,h2,he⟩,gw,gw,om⟩
 ·have q5:(Zai x y=0)=False:=eq_false h0;rw [if_neg h0] at he;rw [he];refine fR @e0P ?_;exact fD @q5
theorem ZnF (n:Nat):∀ a b:Tm,Zct (Zab a) < n->okTm a->Con e0 40 [.agg (Zab a),.agg (Zab b)] [.one (.lit (.int .i64 (Zai a b)))]:=by
 induction n with
 | zero=>exact fun _ _ h=>absurd h om
 | succ n ih =>
  intro a b hn ha;refine Zmh a b ha fun x hx hox y hy=>ih x y ?_ hox;obtain ⟨op,nm,so,args⟩:=a;simp only [Zab,Zct,Zht] at hn;simp only [Tm.args] at hx;obtain ⟨i,hi⟩:=Tbk hx;have hi':(Zac args)[i]?=some (Zab x):=by rw [ZbH,hi];rfl
  have h1:=ZeL hi';omega
theorem ZjV {a b:Tm} (ha:okTm a) (hk:okTm b):Con e0 29 [.agg (Zab a),.agg (Zab b)] [.one (.lit (.int .i64 (Zai a b)))]:=Zjs (ZeG a b)
theorem Zdl {a b:Tm} (ha:okTm a) (hk:okTm b):Con e0 40 [.agg (Zab a),.agg (Zab b)] [.one (.lit (.int .i64 (Zai a b)))]:=ZnF _ a b (Tan _) ha
theorem wrap_i64 {n:Int} (h0:0<=n) (h1:n < 9223372036854775808):IntKind.i64.wrap n=n:=by
 simp [IntKind.wrap,IntKind.bits,IntKind.signed];omega
theorem ZhA {a:Nat} (h:a < 18446744073709551616):(BitVec.ofInt 64 (a:Int)).toNat=a:=by
 rw [BitVec.toNat_ofInt];omega
theorem Zds {a b:Nat} (ha:a < 4611686018427387904) (hb:b < 4611686018427387904):bits .or .i64 (a:Int) (b:Int)=((a ||| b:Nat):Int):=by
 have h:a ||| b < 2 ^ 62:=Nat.or_lt_two_pow om om;have e:(BitVec.ofInt IntKind.i64.bits (a:Int) ||| BitVec.ofInt IntKind.i64.bits (b:Int)).toNat=a ||| b:=by
  rw [BitVec.toNat_or];show (BitVec.ofInt 64 (a:Int)).toNat ||| (BitVec.ofInt 64 (b:Int)).toNat=_;rw [ZhA om,ZhA om]
 unfold bits;show IntKind.i64.wrap _=_;rw [e];exact wrap_i64 om om
theorem ZdF {a b:Nat} (ha:a < 4611686018427387904) (hb:b < 4611686018427387904):bits .and .i64 (a:Int) (b:Int)=((a &&& b:Nat):Int):=by
 have h:a &&& b < 2 ^ 62:=Nat.and_lt_two_pow _ om;have e:(BitVec.ofInt IntKind.i64.bits (a:Int) &&& BitVec.ofInt IntKind.i64.bits (b:Int)).toNat=a &&& b:=by
  rw [BitVec.toNat_and];show (BitVec.ofInt 64 (a:Int)).toNat &&& (BitVec.ofInt 64 (b:Int)).toNat=_;rw [ZhA om,ZhA om]
 unfold bits;show IntKind.i64.wrap _=_;rw [e];exact wrap_i64 om om
theorem Zgt {k:Nat} (h:k < 62):2 ^ k < 4611686018427387904:=Tbd (Nat.pow_lt_pow_right om h) om
theorem testBit_and (a k:Nat):((a &&& 2 ^ k) != 0)=a.testBit k:=by
 cases h:a.testBit k
 ·have:a &&& 2 ^ k=0:=by
   apply Nat.eq_of_testBit_eq;intro j;rw [Nat.testBit_and,Nat.testBit_two_pow,Nat.zero_testBit];by_cases hj:k=j
   ·subst hj;simp [h]
   ·simp [hj]
  simp [this]
 ·have:¬ (a &&& 2 ^ k=0):=by
   intro h0;have h1:(a &&& 2 ^ k).testBit k=true:=by rw [Nat.testBit_and,Nat.testBit_two_pow];simp [h]
   rw [h0,Nat.zero_testBit] at h1;simp at h1
  simp [this]
theorem Zqa {a k:Nat} (ha:a < 4611686018427387904):(bits .and .i64 ((a:Int) / 2 ^ k) 1==1)=a.testBit k:=by
 have e:(a:Int) / 2 ^ k=((a / 2 ^ k:Nat):Int):=by simp
 have h1:a / 2 ^ k<=a:=Nat.div_le_self _ _;have h2:bits .and .i64 ((a / 2 ^ k:Nat):Int) ((1:Nat):Int)=_:=ZdF om om;rw [e];rw [show (1:Int)=((1:Nat):Int) from rfl,h2,Nat.testBit,Nat.shiftRight_eq_div_pow,Nat.and_comm];have h3:1 &&& a / 2 ^ k < 2:=by rw [Nat.one_and_eq_mod_two];omega
 generalize 1 &&& a / 2 ^ k=x at h3 ⊢;have:x=0∨x=1:=om;rcases this with rfl | rfl <;> rfl
def Zdo (l:List Nat) (p:Int × Int):List Nat:=l.set p.1.toNat (l.getD p.1.toNat 0 ||| l.getD p.2.toNat 0)
def ZAv (subs:List (Int × Int)) (l:List Nat):List Nat:=subs.foldl Zdo l
def ZdM (subs:List (Int × Int)):Nat->List Nat->List Nat
 | 0,l=>l
 | k+1,l=>ZAv subs (ZdM subs k l)
def up0 (n:Nat):List Nat:=(List.range n).map (2 ^ ·)
def up (s:Srt):List Nat:=ZdM s.subs s.names.length (up0 s.names.length)
def Zb8 (l:List Nat):List Int:=l.map (fun (n:Nat)=>(n:Int))
def Zdd (n:Nat) (subs:List (Int × Int)):Prop:=∀ p∈subs,0<=p.1∧p.1 < n∧0<=p.2∧p.2 < n
def UpOk (n:Nat) (l:List Nat):Prop:=l.length=n∧∀ x∈l,x < 2 ^ n
theorem UpOk.get {n:Nat} {l:List Nat} (h:UpOk n l) {i:Nat} (hi:i < n):l[i]?=some (l.getD i 0)∧l.getD i 0 < 2 ^ n:=by
 have hl:i < l.length:=by rw [h.1];exact hi
 have e:l[i]?=some l[i]:=Taa hl;have e2:l.getD i 0=l[i]:=by simp [List.getD,e]
 rw [e2];exact ⟨e,h.2 _ (List.getElem_mem hl)⟩
theorem UpOk.sub {n:Nat} {l:List Nat} (h:UpOk n l) {p:Int × Int} (hp:0<=p.1∧p.1 < n∧0<=p.2∧p.2 < n):UpOk n (Zdo l p):=by
 refine ⟨by unfold Zdo;rw [Taz];exact h.1,fun x hx=>?_⟩;unfold Zdo at hx;rcases List.mem_or_eq_of_mem_set hx with hx | rfl
 ·exact h.2 x hx
 ·exact Nat.or_lt_two_pow (h.get (i:=p.1.toNat) om).2 (h.get (i:=p.2.toNat) om).2
theorem UpOk.foldl {n:Nat}:∀ {subs:List (Int × Int)} {l:List Nat},UpOk n l->Zdd n subs->UpOk n (subs.foldl Zdo l)
 | [],l,h,_=>h
 | p::ps,l,h,hs=>UpOk.foldl (subs:=ps) (h.sub (hs p (by simp))) (fun q hq=>hs q (by simp [hq]))
theorem UpOk.iter {n:Nat} {subs:List (Int × Int)} (hs:Zdd n subs):∀ (k:Nat) {l:List Nat},UpOk n l->UpOk n (ZdM subs k l)
 | 0,l,h=>h
 | k+1,l,h=>(UpOk.iter hs k h).foldl hs
theorem UpOk.start (n:Nat):UpOk n (up0 n):=by
 refine ⟨by simp [up0],fun x hx=>?_⟩;simp only [up0,Tbi,List.mem_range] at hx;obtain ⟨i,hi,rfl⟩:=hx;exact Nat.pow_lt_pow_right om hi
theorem Zft {s:Srt} (h:Zdd s.names.length s.subs):UpOk s.names.length (up s):=UpOk.iter h _ (UpOk.start _)
theorem Zh1 {α β:Type} {f:β->α->β} {l:List α} {k:Nat} {a:α} (h:l[k]?=some a) (b:β):(l.take (k+1)).foldl f b=f ((l.take k).foldl f b) a:=by
 rw [ZcC h,List.foldl_append];rfl
theorem Zdd.take {n:Nat} {subs:List (Int × Int)} (h:Zdd n subs) (k:Nat):Zdd n (subs.take k):=fun p hp=>h p (List.mem_of_mem_take hp)
theorem ZmL (l:List Nat):(Zb8 l).length=l.length:=by simp [Zb8]
theorem ZmM {l:List Nat} {i x:Nat} (h:l[i]?=some x):(Zb8 l)[i]?=some (x:Int):=by simp [Zb8,h]
theorem Zwm (l:List Nat) (i x:Nat):Zb8 (l.set i x)=(Zb8 l).set i (x:Int):=by simp [Zb8,List.map_set]
theorem ZsZ (l:List Nat) (x:Nat):Zb8 (l++[x])=Zb8 l++[(x:Int)]:=by simp [Zb8]
def ZdT (n k:Nat):List Nat:=up0 k++List.replicate (n - k) 0
theorem Zwn {n k:Nat} (h:k<=n):(ZdT n k).length=n:=by simp [ZdT,up0];omega
theorem Zwo {n k:Nat} (h:k < n):(ZdT n k).set k (2 ^ k)=ZdT n (k+1):=by
 unfold ZdT;have e:n - k=(n - (k+1))+1:=om;have e2:up0 (k+1)=up0 k++[2 ^ k]:=by simp [up0,List.range_succ]
 have e3:(up0 k).length=k:=by simp [up0]
 rw [e,List.replicate_succ,List.set_append_right _ _ om,e3,Nat.sub_self,List.set_cons_zero,e2,Tbf];rfl
theorem Zwp (n:Nat):ZdT n n=up0 n:=by simp [ZdT]
theorem Zx6 (k:Nat):up0 (k+1)=up0 k++[2 ^ k]:=by simp [up0,List.range_succ]
def Zbe (l:List ByteArray) (s:ByteArray):Bool:=l.any (fun t=>s.toList==t.toList)
def Zcz (n:Int):Bool:=decide (48<=n∧n<=57) || decide (65<=n∧n<=90) || decide (97<=n∧n<=122)
def ZfI (s:ByteArray) (i:Nat):Int:=if h:i < s.size then (s[i].toNat:Int) else 0
def Za4 (s:ByteArray) (k:Nat):Bool:=(List.range' k (s.size - k)).all (fun i=>Zcz (ZfI s i) && !(i==0 && decide (ZfI s i<=57)))
def Zba (s:ByteArray):Bool:=decide (1<=s.size∧s.size<=12) && !(s.toList==[105,102]) && !(s.toList==[97,110,100]) && Za4 s 0
theorem ZnG {s:ByteArray} {k:Nat} (h:k < s.size):Za4 s k=((Zcz (s[k].toNat:Int) && !(k==0 && decide ((s[k].toNat:Int)<=57))) && Za4 s (k+1)):=by
 have eb:ZfI s k=(s[k].toNat:Int):=by unfold ZfI;rw [dif_pos h]
 rw [<- eb];unfold Za4;have e:s.size - k=(s.size - (k+1))+1:=om;rw [e,List.range'_succ,List.all_cons]
theorem ZiK {s:ByteArray} {k:Nat} (h:s.size<=k):Za4 s k=true:=by
 unfold Za4;have e:s.size - k=0:=om;rw [e];rfl
theorem ZcA {s:ByteArray} (h:s.size < 1∨12 < s.size∨s.toList=[105,102]∨s.toList=[97,110,100]):Zba s=false:=by
 unfold Zba;rcases h with h | h | h | h
 ·have:¬ (1<=s.size∧s.size<=12):=om;simp [this]
 ·have:¬ (1<=s.size∧s.size<=12):=om;simp [this]
 ·simp [h]
 ·simp [h]
def Zez (n:Nat) (p:Int × Int):Prop:=0<=p.1∧p.1 < n∧0<=p.2∧p.2 < n∧p.1≠p.2
def ZiL (names:List ByteArray) (i:Nat):Prop:=∀ x,names[i]?=some x->Zba x=true∧Zbe (names.take i) x=false
def Zc3 (u:List Nat) (i k:Nat):Prop:=¬ (i≠k∧(u.getD i 0).testBit k=true∧(u.getD k 0).testBit i=true)
structure SortsOk (s:Srt):Prop where
 n1:1<=s.names.length
 n8:s.names.length<=8
 m16:s.subs.length<=16
 names:∀ i,i < s.names.length->ZiL s.names i
 subs:∀ p∈s.subs,Zez s.names.length p
 pairs:∀ i k,i < s.names.length->k < s.names.length->Zc3 (up s) i k
open Classical in
noncomputable def Zb3 (s:Srt):Bool:=decide (SortsOk s)
theorem ZeX {s:Srt} (h:SortsOk s):Zb3 s=true:=by unfold Zb3;simp [h]
theorem ZfV {s:Srt} (h:¬ SortsOk s):Zb3 s=false:=by unfold Zb3;simp [h]
theorem Zqb {s:Srt}:Zb3 s=true ↔ SortsOk s:=by unfold Zb3;simp
theorem SortsOk.subsIn {s:Srt} (h:∀ p∈s.subs,Zez s.names.length p):Zdd s.names.length s.subs:=fun p hp=>⟨(h p hp).1,(h p hp).2.1,(h p hp).2.2.1,(h p hp).2.2.2.1⟩
theorem Zr8 {a b:ByteArray}:(a.toList==b.toList)=(b.toList==a.toList):=by
 rw [Bool.eq_iff_iff];simp;exact ⟨fun h=>h.symm,fun h=>h.symm⟩
theorem Zqc {l:List ByteArray} {s x:ByteArray} {k:Nat} (h:l[k]?=some x):Zbe (l.drop k) s=((x.toList==s.toList) || Zbe (l.drop (k+1)) s):=by
 obtain ⟨hl,hx⟩:=Tad.1 h;rw [List.drop_eq_getElem_cons hl,hx,Zbe,List.any_cons,Zr8];rfl
theorem Zqd (l:List ByteArray) (t s:ByteArray):Zbe (l++[t]) s=(Zbe l s || (s.toList==t.toList)):=by simp [Zbe,List.any_append]
def kSub (l:List Nat) (p:Int × Int):List Nat:=(l.set p.1.toNat (min (l.getD p.1.toNat 0) (l.getD p.2.toNat 0))).set p.2.toNat (min (l.getD p.1.toNat 0) (l.getD p.2.toNat 0))
def ZdG (subs:List (Int × Int)):Nat->List Nat->List Nat
 | 0,l=>l
 | k+1,l=>subs.foldl kSub (ZdG subs k l)
def kinds (s:Srt):List Nat:=ZdG s.subs s.names.length (List.range s.names.length)
def KOk (n:Nat) (l:List Nat):Prop:=l.length=n∧∀ x∈l,x < n
theorem KOk.get {n:Nat} {l:List Nat} (h:KOk n l) {i:Nat} (hi:i < n):l[i]?=some (l.getD i 0)∧l.getD i 0 < n:=by
 have hl:i < l.length:=by rw [h.1];exact hi
 have e:l[i]?=some l[i]:=Taa hl;have e2:l.getD i 0=l[i]:=by simp [List.getD,e]
 rw [e2];exact ⟨e,h.2 _ (List.getElem_mem hl)⟩
theorem KOk.sub {n:Nat} {l:List Nat} (h:KOk n l) {p:Int × Int} (hp:0<=p.1∧p.1 < n∧0<=p.2∧p.2 < n):KOk n (kSub l p):=by
 refine ⟨by unfold kSub;rw [Taz,Taz];exact h.1,fun x hx=>?_⟩;have hm:min (l.getD p.1.toNat 0) (l.getD p.2.toNat 0) < n:=by
  have:=(h.get (i:=p.1.toNat) om).2;omega
 unfold kSub at hx;rcases List.mem_or_eq_of_mem_set hx with hx | rfl
 ·rcases List.mem_or_eq_of_mem_set hx with hx | rfl
  ·exact h.2 x hx
  ·exact hm
 ·exact hm
theorem KOk.foldl {n:Nat}:∀ {subs:List (Int × Int)} {l:List Nat},KOk n l->Zdd n subs->KOk n (subs.foldl kSub l)
 | [],l,h,_=>h
 | p::ps,l,h,hs=>KOk.foldl (subs:=ps) (h.sub (hs p (by simp))) (fun q hq=>hs q (by simp [hq]))
theorem KOk.iter {n:Nat} {subs:List (Int × Int)} (hs:Zdd n subs):∀ (k:Nat) {l:List Nat},KOk n l->KOk n (ZdG subs k l)
 | 0,l,h=>h
 | k+1,l,h=>(KOk.iter hs k h).foldl hs
theorem KOk.start (n:Nat):KOk n (List.range n):=⟨by simp,fun x hx=>by simpa using hx⟩
theorem Zh2 {s:Srt} (h:Zdd s.names.length s.subs):KOk s.names.length (kinds s):=KOk.iter h _ (KOk.start _)
def ZcE (a k:Nat):List Nat:=(List.range k).filter (fun j=>a.testBit j)
def Zen (a:Nat):List Nat:=ZcE a 16
theorem Zs0 {a k:Nat} (h:a.testBit k=true):ZcE a (k+1)=ZcE a k++[k]:=by simp [ZcE,List.range_succ,List.filter_append,h]
theorem Zwq {a k:Nat} (h:a.testBit k=false):ZcE a (k+1)=ZcE a k:=by simp [ZcE,List.range_succ,List.filter_append,h]
theorem Zla (a k:Nat):(ZcE a k).length<=k:=by
 have:=List.length_filter_le (fun j=>a.testBit j) (List.range k);simpa [ZcE] using this
def downIn (i:Nat) (l:List Nat) (ks:List Nat):List Nat:=ks.foldl (fun l k=>l.set k (l.getD k 0 ||| 2 ^ i)) l
def downs (u:List Nat):Nat->List Nat->List Nat
 | 0,l=>l
 | m+1,l=>downIn m (downs u m l) (Zen (u.getD m 0))
def down (s:Srt):List Nat:=downs (up s) s.names.length (List.replicate s.names.length 0)
theorem UpOk.or {n:Nat} {l:List Nat} (h:UpOk n l) {k i:Nat} (hk:k < n) (hi:i < n):UpOk n (l.set k (l.getD k 0 ||| 2 ^ i)):=by
 refine ⟨by rw [Taz];exact h.1,fun x hx=>?_⟩;rcases List.mem_or_eq_of_mem_set hx with hx | rfl
 ·exact h.2 x hx
 ·exact Nat.or_lt_two_pow (h.get hk).2 (Nat.pow_lt_pow_right om hi)
theorem UpOk.downIn {n i:Nat} (hi:i < n):∀ {ks l:List Nat},UpOk n l->(∀ k∈ks,k < n)->UpOk n (downIn i l ks)
 | [],l,h,_=>h
 | k::ks,l,h,hk=>UpOk.downIn (ks:=ks) hi (h.or (hk k (by simp)) hi) (fun q hq=>hk q (by simp [hq]))
theorem ZmN {a n:Nat} (h:a < 2 ^ n):∀ k∈Zen a,k < n:=by
 intro k hk;simp only [Zen,ZcE,List.mem_filter,List.mem_range] at hk;refine Decidable.byContradiction fun hn=>?_;have:=Tbt (Tbd h (Tbs om (by omega:n<=k)));rw [this] at hk;simp at hk
theorem UpOk.downs {n:Nat} {u:List Nat} (hu:UpOk n u):∀ (m:Nat) {l:List Nat},m<=n->UpOk n l->UpOk n (downs u m l)
 | 0,l,_,h=>h
 | m+1,l,hm,h=>(UpOk.downs hu m om h).downIn om (ZmN (hu.get om).2)
theorem UpOk.zeros (n:Nat):UpOk n (List.replicate n 0):=⟨by simp,fun x hx=>by rw [(List.mem_replicate.1 hx).2];exact Nat.two_pow_pos n⟩
theorem ZAw {s:Srt} (h:Zdd s.names.length s.subs):UpOk s.names.length (down s):=UpOk.downs (Zft h) _ (Tai _) (UpOk.zeros _)
def ZdU (n k:Nat):List Nat:=List.range k++List.replicate (n - k) 0
theorem ZmO {n k:Nat} (h:k<=n):(ZdU n k).length=n:=by simp [ZdU];omega
theorem Zwr {n k:Nat} (h:k < n):(ZdU n k).set k k=ZdU n (k+1):=by
 unfold ZdU;rw [List.set_append_right _ _ (by simp),List.length_range,Nat.sub_self,List.range_succ];obtain ⟨m,hm⟩:∃ m,n - k=m+1:=⟨n - k - 1,om⟩;rw [hm,show n - (k+1)=m by omega];simp [List.replicate_succ]
theorem Zws (n:Nat):ZdU n n=List.range n:=by simp [ZdU]
def kd (s:Srt) (k:Int):Nat:=(kinds s).getD k.toNat 0
structure DeclOk (s:Srt) (f d:Dcl):Prop where
 len:d.args.length=f.args.length
 res:0<=d.res∧d.res < s.names.length
 args:∀ k∈d.args,0<=k∧k < s.names.length
 kres:kd s d.res=kd s f.res
 kargs:∀ (i:Nat) (a b:Int),d.args[i]?=some a->f.args[i]?=some b->kd s a=kd s b
structure DeclsOk (s:Srt) (o:Opr):Prop where
 len1:1<=o.decls.length
 len4:o.decls.length<=4
 ar:∀ f,o.decls[0]?=some f->f.args.length<=3
 all:∀ f,o.decls[0]?=some f->∀ d∈o.decls,DeclOk s f d
open Classical in
noncomputable def Zcq (s:Srt) (o:Opr):Bool:=decide (DeclsOk s o)
theorem ZeY {s:Srt} {o:Opr} (h:DeclsOk s o):Zcq s o=true:=by simp [Zcq,h]
theorem Ziq {s:Srt} {o:Opr} (h:¬ DeclsOk s o):Zcq s o=false:=by simp [Zcq,h]
theorem ZjW {s:Srt} {o:Opr}:Zcq s o=true ↔ DeclsOk s o:=by simp [Zcq]
structure AxOk (g:Sgn) (o:Opr):Prop where
 lo:0<=o.unit
 hi:o.unit<=g.ops.length
 two:(o.assoc=true∨o.comm=true∨o.unit≠0)->∀ d,o.decls[0]?=some d->d.args.length=2∧∀ a b,d.args[0]?=some a->d.args[1]?=some b->kd g.sorts a=kd g.sorts b∧((o.assoc=true∨o.unit≠0)->kd g.sorts a=kd g.sorts d.res) ∧
  (o.unit≠0->∀ (p:Opr) (u:Dcl),g.ops[o.unit.toNat - 1]?=some p->p.decls[0]?=some u->u.args.length=0∧kd g.sorts u.res=kd g.sorts d.res)
open Classical in
noncomputable def axOk (g:Sgn) (o:Opr):Bool:=decide (AxOk g o)
theorem Zdy {g:Sgn} {o:Opr} (h:AxOk g o):axOk g o=true:=by simp [axOk,h]
theorem Zlb {g:Sgn} {o:Opr} (h:¬ AxOk g o):axOk g o=false:=by simp [axOk,h]
theorem ZoK {g:Sgn} {o:Opr}:axOk g o=true ↔ AxOk g o:=by simp [axOk]
theorem DeclsOk.first {s:Srt} {o:Opr} (h:DeclsOk s o):∃ d,o.decls[0]?=some d∧DeclOk s d d:=by
 have h1:=h.len1;exact ⟨o.decls[0],Taa om,h.all _ (Taa om) _ (List.getElem_mem _)⟩
theorem ZoL {l:List Int} (h:l.length=2):∃ a b,l=[a,b]:=len2 h
def Zbz (l:List Opr):List ByteArray:=l.map (·.name)
structure SgnOk (g:Sgn):Prop where
 sorts:SortsOk g.sorts
 len:g.ops.length<=14
 names:∀ (i:Nat) (o:Opr),g.ops[i]?=some o->Zba o.name=true∧Zbe (Zbz (g.ops.take i)) o.name=false
 decls:∀ o∈g.ops,DeclsOk g.sorts o
 axs:∀ o∈g.ops,AxOk g o
open Classical in
noncomputable def Zbn (g:Sgn):Bool:=decide (SgnOk g)
theorem Zde {g:Sgn} (h:SgnOk g):Zbn g=true:=by simp [Zbn,h]
theorem Zhd {g:Sgn} (h:¬ SgnOk g):Zbn g=false:=by simp [Zbn,h]
theorem ZcF {g:Sgn}:Zbn g=true ↔ SgnOk g:=by simp [Zbn]
theorem ZiM {l:List Opr} {k:Nat} {o:Opr} (h:l[k]?=some o):Zbz (l.take (k+1))=Zbz (l.take k)++[o.name]:=by
 rw [ZcC h];simp [Zbz]
theorem Zgu {s:ByteArray} {k:Nat} {b:UInt8} (h:s[k]?=some b):Za4 s k=((Zcz (b.toNat:Int) && !(k==0 && decide ((b.toNat:Int)<=57))) && Za4 s (k+1)):=by
 obtain ⟨hk,rfl⟩:=getElem?_eq_some_iff.1 h;exact ZnG hk
theorem ZoM (n:Int):Con e0 127 [.one (.lit (.int .u8 n))] [.one (.lit (.bool (Zcz n)))]:=by
 by_cases h1:48<=n <;> by_cases h2:n<=57 <;> by_cases h3:65<=n <;> by_cases h4:n<=90 <;> by_cases h5:97<=n <;> by_cases h6:n<=122 <;> first
  | (exfalso;omega)
  | (have hr : Zcz   n = true := by simp [Zcz  , h1, h2, h3, h4, h5, h6]
     refine gI 5 Tryz.func127 ?_
     (exact fT (aj7 @h1 @h2 @h3 @h4 @h5 @h6 @hr)))
  | (have hr : Zcz   n = false := by simp [Zcz  , h1, h2, h3, h4, h5, h6]
     refine gI 5 Tryz.func127 ?_
     (exact fT (aj7 @h1 @h2 @h3 @h4 @h5 @h6 @hr)))
theorem strL (l:List UInt8):(⟨l.toArray⟩:ByteArray).toList=l:=by
 rw [ByteArray.toList_eq]
section
variable {s:ByteArray}
theorem ZmP (h1:1<=s.size) (h2:s.size<=12) (h3:¬ s.toList=[105,102]) (h4:¬ s.toList=[97,110,100]):Zba s=Za4 s 0:=by
 simp [Zba,h1,h2,h3,h4]
theorem Zgv (hs:s.size<=maxLen):Con e0 88 [.one (.lit (.string s))] [.one (.lit (.bool (Zba s)))]:=by
 have l1:(⟨#[105,102]⟩:ByteArray).toList=[105,102]:=strL [105,102];have l2:(⟨#[97,110,100]⟩:ByteArray).toList=[97,110,100]:=strL [97,110,100];refine gI 1099520540685 Tryz.func88 ?_;by_cases h1:1<=s.size;rotate_left
 ·have hf:=ZcA (s:=s) (.inl om);have z1:=lT s.size 1;exact fT (ai @z1 @hf)
 have z1:=lF s.size 1;by_cases h2:s.size<=12;rotate_left
 ·have hf:=ZcA (s:=s) (.inr (.inl om));have z2:=lT 12 s.size;exact fT (aj3 @z1 @z2 @hf)
 have z2:=lF 12 s.size;by_cases h3:s.toList=[105,102]
 ·have hf:=ZcA (s:=s) (.inr (.inr (.inl h3)));exact fT (aj6 @z1 @z2 @l1 @h3 @beq_self_eq_true.{0} @hf)
 have z3:(s.toList==[105,102])=false:=by simpa using h3
 by_cases h4:s.toList=[97,110,100]
 ·have hf:=ZcA (s:=s) (.inr (.inr (.inr h4)));have z3:(([97,110,100]:List UInt8)==[105,102])=false:=by decide
  exact fT (aj8 @z1 @z2 @l1 @l2 @h4 @z3 @beq_self_eq_true.{0} @hf)
 have z4:(s.toList==[97,110,100])=false:=by simpa using h4
 rw [ZmP h1 h2 h3 h4];refine fG (aj6 @z1 @z2 @l1 @l2 @z3 @z4) ?_;have F:=@e0P;refine gL (ι:=Nat) [2,3,23,40] [] (fun k=>[(3,A.d (.one (.lit (.int .i64 k))))]) (fun k=>[]) (fun k=>k<=s.size∧Za4 s 0=Za4 s k) (fun k=>s.size - k) (0) (⟨Taj _,rfl⟩) (fun k hk=>?_);clear F;obtain ⟨hk,he⟩:=hk;rw [he];by_cases hlt:k < s.size;rotate_left
 ·have q1:¬ ((k:Int) < (s.size:Int)):=om;have ht:=ZiK (s:=s) (k:=k) om;exact fT (ai @q1 @ht)
 have q1:(k:Int) < (s.size:Int):=om;obtain ⟨b,hb⟩:∃ b,s[k]?=some b:=⟨s[k],getElem?_pos s k hlt⟩;have hw1:=Zat (k:=k) om;have hst:=Zgu hb;refine fB @q1 ?_;refine fC @hb (ZoM (b.toNat:Int)) ?_
 cases hn:Zcz (b.toNat:Int) with
 | false =>
  have hf:Za4 s k=false:=by rw [hst,hn];rfl
  refine fR @e0P ?_;exact fT @hf
 | true =>
 by_cases hk0:k=0
 ·have z5:((k:Int)=0)=True:=eq_true om;by_cases h9:(b.toNat:Int)<=57
  ·have z6:((b.toNat:Int)<=57)=True:=eq_true h9;have hf:Za4 s k=false:=by rw [hst,hn,hk0];simp [h9]
   refine fR (aj3 @z5 @hb @z6) ?_;exact fT @hf
  ·have z6:((b.toNat:Int)<=57)=False:=eq_false h9;have hq:Za4 s k=Za4 s (k+1):=by rw [hst,hn];simp [h9]
   refine fR (aj3 @z5 @hb @z6) ?_;have F:=@hw1;refine gG ?_;exact ⟨k+1,⟨hlt,hq⟩,gw,gw,om⟩
 ·have z5:((k:Int)=0)=False:=eq_false om;have hq:Za4 s k=Za4 s (k+1):=by rw [hst,hn];simp [hk0]
  refine fR @z5 ?_;have F:=@hw1;refine gG ?_;exact ⟨k+1,⟨hlt,hq⟩,gw,gw,om⟩
theorem Zgw (hs:s.size<=maxLen):Con e0 49 [.one (.lit (.string s))] [.one (.lit (.bool (Zba s)))]:=by
 have l1:(⟨#[105,102]⟩:ByteArray).toList=[105,102]:=strL [105,102];have l2:(⟨#[97,110,100]⟩:ByteArray).toList=[97,110,100]:=strL [97,110,100];refine gI 2417851639247950047084557 Tryz.func49 ?_;by_cases h3:s.toList=[105,102]
 ·have hf:=ZcA (s:=s) (.inr (.inr (.inl h3)));exact fT (aj4 @l1 @h3 @beq_self_eq_true.{0} @hf)
 have z3:(s.toList==[105,102])=false:=by simpa using h3
 by_cases h4:s.toList=[97,110,100]
 ·have hf:=ZcA (s:=s) (.inr (.inr (.inr h4)));have z3:(([97,110,100]:List UInt8)==[105,102])=false:=by decide
  exact fT (aj6 @l1 @l2 @h4 @z3 @beq_self_eq_true.{0} @hf)
 have z4:(s.toList==[97,110,100])=false:=by simpa using h4
 by_cases h1:1<=s.size;rotate_left
 ·have hf:=ZcA (s:=s) (.inl om);have z1:=lT s.size 1;exact fT (aj6 @l1 @l2 @z3 @z4 @z1 @hf)
 have z1:=lF s.size 1;by_cases h2:s.size<=12;rotate_left
 ·have hf:=ZcA (s:=s) (.inr (.inl om));have z2:=lT 12 s.size;exact fT (aj7 @l1 @l2 @z3 @z4 @z1 @z2 @hf)
 have z2:=lF 12 s.size;obtain ⟨b,hb⟩:∃ b,s[0]?=some b:=⟨s[0],getElem?_pos s 0 h1⟩;have hst:=Zgu hb;rw [ZmP h1 h2 h3 h4];have hb0:0<=(b.toNat:Int):=om;have hlet:∀ c:Bool,((decide (97<=(b.toNat:Int)∧(b.toNat:Int)<=122)) || decide (65<=(b.toNat:Int)∧(b.toNat:Int)<=90))=c->(Zcz (b.toNat:Int) && !((0:Nat)==0 && decide ((b.toNat:Int)<=57)))=c:=fun c hc=>by
  rw [<- hc,Bool.eq_iff_iff];simp [Zcz];omega
 have key:(decide (97<=(b.toNat:Int)∧(b.toNat:Int)<=122) || decide (65<=(b.toNat:Int)∧(b.toNat:Int)<=90))=true∨(decide (97<=(b.toNat:Int)∧(b.toNat:Int)<=122) || decide (65<=(b.toNat:Int)∧(b.toNat:Int)<=90))=false:=by cases (decide (97<=(b.toNat:Int)∧(b.toNat:Int)<=122) || decide (65<=(b.toNat:Int)∧(b.toNat:Int)<=90)) <;> simp
 rcases key with hk | hk
 rotate_left
 ·have hf:Za4 s 0=false:=by rw [hst,hlet _ hk];rfl
  rw [hf];clear hst hlet hf
  by_cases c1:97<=(b.toNat:Int) <;> by_cases c2:(b.toNat:Int)<=122 <;> by_cases c3:65<=(b.toNat:Int) <;> by_cases c4:(b.toNat:Int)<=90 <;> first
   | (exfalso;omega)
   | (exfalso;simp [c1,c2,c3,c4] at hk;done)
   | (exact fT (aj11 @l1 @l2 @z3 @z4 @z1 @z2 @hb @c1 @c2 @c3 @c4))
 have hl0:65<=(b.toNat:Int):=by simp at hk;omega
 have h01:Za4 s 0=Za4 s 1:=by rw [hst,hlet _ hk];rfl
 refine fN 1 @e0P ?_;refine gM (ι:=Unit) [40] [] (fun u=>[(40,A.d (.one (.lit (.bool false))))]) (fun u=>[]) (fun u=>True) ?_ (fun u hu=>Exists.intro _ (ai (Wk.refl _) ?_))
 ·by_cases c1:97<=(b.toNat:Int) <;> by_cases c2:(b.toNat:Int)<=122 <;> by_cases c3:65<=(b.toNat:Int) <;> by_cases c4:(b.toNat:Int)<=90 <;> first
   | (exfalso;omega)
   | (exfalso;simp [c1,c2,c3,c4] at hk;done)
   | (have F:=aj11 @l1 @l2 @z3 @z4 @z1 @z2 @hb @c1 @c2 @c3 @c4;refine gG ?_;exact ⟨(),trivial,gw,gw⟩)
 clear hu hlet hk hst;refine fG @e0P ?_;have F:=@e0P;refine gL (ι:=Nat) [2,3,44,81] [] (fun k=>[(3,A.d (.one (.lit (.int .i64 k))))]) (fun k=>[]) (fun k=>k<=s.size∧Za4 s 0=Za4 s k) (fun k=>s.size - k) (0) (⟨Taj _,rfl⟩) (fun k hk=>?_);clear F;obtain ⟨hkl,he⟩:=hk;by_cases hlt:k < s.size;rotate_left
 ·have q1:¬ ((k:Int) < (s.size:Int)):=om;have ht:Za4 s 0=true:=by rw [he];exact ZiK om
  exact fT (ai @q1 @ht)
 have q1:(k:Int) < (s.size:Int):=om;obtain ⟨d,hd⟩:∃ d,s[k]?=some d:=⟨s[k],getElem?_pos s k hlt⟩;have hw1:=Zat (k:=k) om;have hst:=Zgu hd;refine fN 6 @q1 ?_;refine gM (ι:=Unit) [81] [] (fun u=>[(81,A.d (.one (.lit (.bool !(Zcz (d.toNat:Int))))))]) (fun u=>[]) (fun u=>True) ?_ (fun u hu=>Exists.intro _ (ai (Wk.refl _) ?_))
 ·by_cases c1:97<=(d.toNat:Int) <;> by_cases c2:(d.toNat:Int)<=122 <;> by_cases c3:65<=(d.toNat:Int) <;> by_cases c4:(d.toNat:Int)<=90 <;> by_cases c5:48<=(d.toNat:Int) <;> by_cases c6:(d.toNat:Int)<=57 <;> first
   | (exfalso;omega)
   | (have hr : Zcz   (d.toNat : Int) = true := by simp [Zcz  , c1, c2, c3, c4, c5, c6]
      rw [hr]
      (have F:=aj7 @hd @c1 @c2 @c3 @c4 @c5 @c6;refine gG ?_;exact ⟨(),trivial,gw,gw⟩))
   | (have hr : Zcz   (d.toNat : Int) = false := by simp [Zcz  , c1, c2, c3, c4, c5, c6]
      rw [hr]
      (have F:=aj7 @hd @c1 @c2 @c3 @c4 @c5 @c6;refine gG ?_;exact ⟨(),trivial,gw,gw⟩))
 cases hn:Zcz (d.toNat:Int) with
 | false =>
  have hf:Za4 s 0=false:=by rw [he,hst,hn];rfl
  exact fT @hf
 | true =>
 have hq:Za4 s 0=Za4 s (k+1):=by
  by_cases hk0:k=0
  ·subst hk0;exact h01
  ·rw [he,hst,hn];simp [hk0]
 have F:=@hw1;refine gG ?_;exact ⟨k+1,⟨hlt,hq⟩,gw,gw,om⟩
end
section
variable {e:Env} {U:Nat->Prop} {w0:World} {S0:Nat->Prop} {nt:Nat} {ops:Array Oper} {n:Nat} {m:List (Nat × Bk)} {s:List (Nat × A)} {αs:List A} {L:Lay}
theorem Zfu {J:Array Bool->Act->World->(Nat->Prop)->Prop} (he:e.Ok) (hH:Zb7 ops n=true) (hn:n<=ops.size) (hs:∀ i,n<=i->i < ops.size->∀ j,j < n->Region.waitsFor .any ops i j=true)
  (hsz:∀ (i:Nat) (o:Oper) (d:Nat),i < n->ops[i]?=some o->o.dst=some d->d < nt) (hal:αs.length=n) (hch:Zci e U w0.heap.size S0 m ops.toList (ops.toList.take n) s αs) {Q:Exit->Act->World->Prop} (hgo:ZiF e U w0 S0 nt m ops n s αs L J Q)
  (hsk:∀ (listed:Array Bool) (a:Act) (w:World) (S:Nat->Prop) (i:Nat) (o:Oper) (d:Nat),J listed a w S->InvA e U w0 S0 nt m ops n s αs L listed a w S->HeadAt ops n i o d->i < n->i∈Region.ready .any ops listed->d < nt->o.guard≠none->J (listed.setIfInBounds i true) (a.put o.dst undef) w S)
  (hend:∀ listed a w S,InvA e U w0 S0 nt m ops n s αs L listed a w S->J listed a w S->(∀ i,i < n->listed.getD i false=true)->wpAny e.P .any ops Q (ops.size - n) (Zbp ops.size n) a w) :
  ∀ (k:Nat) (listed:Array Bool) (a:Act) (w:World) (S:Nat->Prop),InvA e U w0 S0 nt m ops n s αs L listed a w S->J listed a w S->(List.range n).countP (fun i=>!listed.getD i true)=k->wpAny e.P .any ops Q (k+(ops.size - n)) listed a w
 | 0,listed,a,w,S,hI,hJ,hc=>by
  have hall:∀ i,i < n->listed.getD i true=true:=fun i hi=>by
   have:=List.countP_eq_zero.1 hc i (List.mem_range.2 hi);simpa using this
  have heq:=Ziw hI.head hn hall;have hE:=hend listed a w S hI hJ (fun i hi=>by
   have hl:i < listed.size:=by rw [hI.head.size];omega
   rw [<- Zbf hl];exact hall i hi)
  rw [Nat.zero_add,heq];exact hE
 | k+1,listed,a,w,S,hI,hJ,hc=>by
  obtain ⟨i0,hi0,hu0⟩:∃ i,i < n∧listed.getD i true=false:=by
   have:0 < (List.range n).countP (fun i=>!listed.getD i true):=om;obtain ⟨i,hi,hp⟩:=List.countP_pos_iff.1 this;exact ⟨i,List.mem_range.1 hi,by simpa using hp⟩
  rw [show k+1+(ops.size - n)=(k+(ops.size - n))+1 by omega];refine ⟨fun h0=>absurd h0 (Zgq hH hI.head hi0 hu0),fun i hr=>?_⟩;obtain ⟨hun,oi,hoi,hall⟩:=mem_ready.1 hr;have hin:i < n:=by
   rcases Nat.lt_or_ge i n with h | h
   ·exact h
   ·have hns:n < ops.size:=Nat.lt_of_le_of_lt h (Tbl.1 hoi).1;obtain ⟨oj,hoj,e1,he1,hb1,hon1⟩:=Region.waitsFor_spec (hs i h (Tbl.1 hoi).1 i0 hi0);rw [hoi] at hoj;injection hoj with hoj
    subst hoj;have h2:=hall e1 he1 hb1;rw [hon1] at h2;have h3:i0 < listed.size:=by rw [hI.head.size];omega
    rw [Zbf h3] at hu0;rw [h2] at hu0
    cases hu0
  obtain ⟨o,d,hA⟩:=Zb7.get hH hin;have hoo:oi=o:=by have:=hA.op;rw [hoi] at this;injection this
  subst hoo;have hls:i < listed.size:=by rw [hI.head.size];exact (Tbl.1 hoi).1
  obtain ⟨α,hα,hst⟩:=hch.get i oi (by rw [List.getElem?_take,if_pos hin];simpa using hoi);have htk:(ops.toList.take n).take i=ops.toList.take i:=by rw [List.take_take,Nat.min_eq_left om]
  rw [htk] at hst;have hdn:=hsz i oi d hin hoi hA.dst;have hcount:(List.range n).countP (fun j=>!(listed.setIfInBounds i true).getD j true)=k:=by
   have h1:(List.range n).countP (fun j=>!(listed.setIfInBounds i true).getD j true)+1=(List.range n).countP (fun j=>!listed.getD j true):=by
    have hperm:=List.perm_cons_erase (List.mem_range.2 hin);rw [hperm.countP_eq,hperm.countP_eq,List.countP_cons,List.countP_cons];have hcong:((List.range n).erase i).countP (fun j=>!(listed.setIfInBounds i true).getD j true)=((List.range n).erase i).countP (fun j=>!listed.getD j true):=by
     refine List.countP_congr fun j hj=>?_;have hne:j≠i:=fun e=>by
      subst e;exact List.Nodup.not_mem_erase (List.nodup_range) hj
     rw [getD_set_ne true (Ne.symm hne)]
    rw [hcong,hun];simp [hls]
   omega
  have hop:∀ x∈oi.op.operands,ARel w S L (evA (after s (ops.toList.take i) (αs.take i)) x) (a.eval x):=fun x hx=>by
   cases x with
   | tmp t =>
    exact hI.operand hH hn hal hA hin hall (fun j p hj hp hpt=>(hA.dep j p hj hp).2 t (List.mem_filterMap.2 ⟨.tmp t,by simpa using hx,rfl⟩) hpt)
   | const v =>
    simp only [evA,Act.eval];unfold ZdL;split
    ·simp only [ARel,DRel,Rep];exact ⟨⟨none,0,0,rfl,rfl,Tai _,by decide,fun h=>absurd h (by decide)⟩,none,0,rfl⟩
    ·rename_i vs;exact ⟨vs.toList,rfl,Zb9 _⟩
    ·simp [ARel,DRel,Rep]
   | func f =>
    simp only [evA,Act.eval,ARel,DRel,Rep];exact ⟨[],rfl,by simp [Zad]⟩
   | global g=>trivial
  have go:ZaW e U w0.heap.size S0 m oi (evA (after s (ops.toList.take i) (αs.take i))) α->oi.wp e.P a w (wpAny e.P .any ops Q (k+(ops.size - n)) (listed.setIfInBounds i true)) Q:=fun hG =>
   Oper.wp_mono (fun a' w' ⟨S',hI',hJ'⟩=>Zfu he hH hn hs hsz hal hch hgo hsk hend k _ _ _ S' hI' hJ' hcount) (hgo listed a w S i oi d α hI hJ hA hin hr hdn hα hop hG)
  unfold wpOp;simp only [hoi];unfold Zew at hst
  cases hg:oi.guard with
  | none =>
   rw [hg] at hst;have hwt:Region.wanted oi (yielded ops a.tmps)=true:=by simp [Region.wanted,hg]
   rw [if_pos hwt];exact .inl (go hst)
  | some jw =>
   obtain ⟨j,want⟩:=jw;rw [hg] at hst;obtain ⟨hjn,hjw⟩:=hA.guard j want hg;have hrelD:∀ dj,((ops[j]?).bind (·.dst))=some dj->ARel w S L (gs (after s (ops.toList.take i) (αs.take i)) dj) (a.tmps.getD dj undef):=fun dj hdj=>hI.operand hH hn hal hA hin hall (t:=dj) (fun j' p hj' hp hpt=>by
    obtain ⟨p0,d0,hP0⟩:=Zb7.get hH hjn;have hd0:d0=dj:=by have:=hdj;rw [hP0.op] at this;simp [hP0.dst] at this;exact this
    by_cases hjj:j'=j
    ·rw [hjj];exact hjw
    ·exact absurd (by rw [hpt,hd0]) ((hP0.dep j' p hj' hp).1 hjj))
   rcases hst with ⟨b,hb1,hb2⟩ | ⟨hb1,hb2⟩
   rotate_left
   ·simp only [Tav] at hb1;obtain ⟨dj,hd1,hd2⟩:=hb1;have hdj:((ops[j]?).bind (·.dst))=some dj:=by simpa using Zdw hd1
    have hrel:=hrelD dj hdj;rw [hd2] at hrel;rw [ZgY hg hdj hrel];subst hb2;simp only [Tam,if_false];exact Zfu he hH hn hs hsz hal hch hgo hsk hend k _ _ _ S (hI.put hH hA hin hr hdn hα (fun _ h=>h) hI.cls (Kept.refl _ _ _ _) rfl) (hsk listed a w S i oi d hJ hI hA hin hr hdn (by rw [hg];simp)) hcount
   simp only [Tav] at hb1;obtain ⟨dj,hd1,hd2⟩:=hb1;have hdj:((ops[j]?).bind (·.dst))=some dj:=by simpa using Zdw hd1
   have hrel:=hrelD dj hdj;rw [hd2] at hrel;have h4:=ZgX hrel.bool;have hwt:Region.wanted oi (yielded ops a.tmps)=decide (b=want):=by
    have h6:yielded ops a.tmps j=some b:=by unfold yielded;rw [hdj];simp only [Option.bind_some,h4]
    simp only [Region.wanted,hg,h6]
    cases b <;> cases want <;> rfl
   rw [hwt];by_cases hbw:b=want
   ·rw [if_pos hbw] at hb2;simp only [hbw,decide_true,if_true];exact .inl (go hb2)
   ·rw [if_neg hbw] at hb2;subst hb2;simp only [hbw,decide_false,Tam,if_false];exact Zfu he hH hn hs hsz hal hch hgo hsk hend k _ _ _ S (hI.put hH hA hin hr hdn hα (fun _ h=>h) hI.cls (Kept.refl _ _ _ _) rfl) (hsk listed a w S i oi d hJ hI hA hin hr hdn (by rw [hg];simp)) hcount
theorem ZoN {σ:St} (hH:Zb7 ops n=true) (hn:n<=ops.size) (hal:αs.length=n) {listed:Array Bool} {a':Act} {w':World} {S':Nat->Prop} (hI:InvA e U w0 S0 nt σ.m ops n σ.s αs L listed a' w' S') (hall:∀ i,i < n->listed.getD i false=true):Sim e U w0 S0 nt ⟨after σ.s (ops.toList.take n) αs,σ.m⟩ a' w' S' L:=by
 refine ⟨hI.cls,fun t=>?_,hI.size,hI.defers,hI.kept⟩;by_cases hex:∃ (j:Nat) (p:Oper),j < n∧ops[j]?=some p∧p.dst=some t
 ·obtain ⟨j,p,hj,hp,hpt⟩:=hex;obtain ⟨p',d',hP⟩:=Zb7.get hH hj;have hpp:p'=p:=by have:=hP.op;rw [hp] at this;injection this with this;exact this.symm
  subst hpp;have hdt:d'=t:=by have:=hP.dst;rw [hpt] at this;injection this with this;exact this.symm
  subst hdt;obtain ⟨α,hα⟩:∃ α,αs[j]?=some α:=⟨αs[j],Taa om⟩;show ARel w' S' L (gs (after σ.s (ops.toList.take n) αs) d') _;rw [Zdi (ops.toList.take n) αs σ.s j p' α (by rw [List.getElem?_take,if_pos hj];simpa using hp) hα hpt (fun k q hk hq=>by
   rw [List.getElem?_take] at hq;split at hq
   ·exact (hP.dep k q om (by simpa using hq)).1 hk
   ·cases hq)]
  exact hI.done j p' d' α hj (hall j hj) hp hpt hα
 ·have hno:∀ (j:Nat) (p:Oper),j < n->ops[j]?=some p->p.dst≠some t:=fun j p hj hp hd=>hex ⟨j,p,hj,hp,hd⟩;show ARel w' S' L (gs (after σ.s (ops.toList.take n) αs) t) _;rw [Zcj _ _ _ (fun p hp=>by
   obtain ⟨j,hj⟩:=List.mem_iff_getElem?.1 hp;rw [List.getElem?_take] at hj;split at hj
   ·exact hno j p om (by simpa using hj)
   ·cases hj)]
  exact hI.out t hno
end
def ZdV (e:Env) (ds:List (Option Nat)) (ops:Array Oper) (K:St->Prop):Nat->Array Bool->St->Prop
 | 0,listed,σ=>Region.ready .any ops listed=[]∧K σ
 | f+1,listed,σ=>(Region.ready .any ops listed=[]->K σ)∧∀ i∈Region.ready .any ops listed,∃ o,ops[i]?=some o∧o.guard=none∧ZbN e o σ (fun σ'=>Runs e ds 0 [] σ' (ZdV e ds ops K f (listed.setIfInBounds i true)))
section
variable {e:Env} {U:Nat->Prop} {w0:World} {S0:Nat->Prop} {nt:Nat}
theorem Zkp (he:e.Ok) {ops:Array Oper} {K:St->Prop} {Q:Exit->Act->World->Prop} (hQ:∀ a w σ',K σ'->SimE e U w0 S0 nt σ' a w->Q .normal a w) (hd:∀ o∈ops.toList,∀ d,o.dst=some d->d < nt) :
  ∀ (f:Nat) (listed:Array Bool) (σ:St) (a:Act) (w:World),SimE e U w0 S0 nt σ a w->ZdV e (ops.toList.map (·.dst)) ops K f listed σ->wpAny e.P .any ops Q f listed a w
 | 0,listed,σ,a,w,hs,h=>⟨h.1,hQ a w σ h.2 hs⟩
 | f+1,listed,σ,a,w,hs,h=>by
  refine ⟨fun h0=>hQ a w σ (h.1 h0) hs,fun i hi=>?_⟩;obtain ⟨o,ho,hg,hst⟩:=h.2 i hi;unfold wpOp;simp only [ho];have hw:Region.wanted o (yielded ops a.tmps)=true:=by simp [Region.wanted,hg]
  rw [if_pos hw];have hmem:o∈ops.toList:=Tac (by simpa using ho);refine .inl (Oper.wp_mono (fun a' w' ⟨σ',hr,hs'⟩=>?_) (hst he U w0 S0 nt a w Q (hd o hmem) hs));exact hr he U w0 S0 nt a' w' ops.toList (fun _ a w=>wpAny e.P .any ops Q f (listed.setIfInBounds i true) a w) rfl (fun o ho=>by simp at ho) (fun a w σ'' hK hs''=>Zkp he hQ hd f _ σ'' a w hs'' hK) hs'
def ZBP (ops:Array Oper) (n:Nat):Bool:=(List.range ops.size).all fun i=>decide (i < n) || (List.range n).all fun j=>Region.waitsFor .any ops i j
def regT (ops:Array Oper) (n:Nat):Bool:=Zb7 ops n && decide (n<=ops.size) && ZBP ops n
theorem Zkq (he:e.Ok) {id:Nat} {ops:Array Oper} {n:Nat} (hB:regT ops n=true) {K:St->Prop} {Q:Exit->Act->World->Prop} (hQ:∀ a w σ',K σ'->SimE e U w0 S0 nt σ' a w->Q .normal a w) {σ:St} {a:Act} {w:World}
  (hd:∀ o∈ops.toList,∀ d,o.dst=some d->d < nt) (h:SimE e U w0 S0 nt σ a w) (hp:Runs e (ops.toList.map (·.dst)) (n+1) (ops.toList.take n) σ (ZdV e (ops.toList.map (·.dst)) ops K (ops.size - n) (Zbp ops.size n))):(Code.region id ops true).wp e.P Q a w:=by
 simp only [regT,Tar,decide_eq_true_eq] at hB;obtain ⟨⟨hH,hn⟩,hs0⟩:=hB;have hs:∀ i,n<=i->i < ops.size->∀ j,j < n->Region.waitsFor .any ops i j=true:=fun i h1 h2 j h3=>by
  have k1:=List.all_eq_true.1 hs0 i (List.mem_range.2 h2);simp only [Bool.or_eq_true,decide_eq_true_eq] at k1;rcases k1 with k1 | k1
  ·omega
  ·exact List.all_eq_true.1 k1 j (List.mem_range.2 h3)
 obtain ⟨S,L,h1⟩:=h.drew he;refine wp_region_any he.mixed ?_;have hlen:(ops.toList.take n).length=n:=by simp;omega
 have hp':Runs e (ops.toList.map (·.dst)) ((ops.toList.take n).length+1) (ops.toList.take n++[]) σ (ZdV e (ops.toList.map (·.dst)) ops K (ops.size - n) (Zbp ops.size n)):=by rw [List.append_nil,hlen];exact hp
 obtain ⟨αs,hal,hch,hrest⟩:=Zda (U:=U) he w0.heap.size S0 ops.toList [] 1 (ops.toList.take n) σ (fun h=>absurd h (by decide)) hp';rw [hlen] at hal;simp only [Runs] at hrest
 have inv0:InvA e U w0 S0 nt σ.m ops n σ.s αs L (Array.replicate ops.size false) a { w with drawn:=w.drawn+1 } S :=
  ⟨⟨by simp,fun j oj _ hl=>(by rw [getD_replicate_false] at hl;cases hl),fun t _ ht=>getD_in (by simpa using ht) (getD_replicate_false _ _)⟩,h1.size,h1.defers,h1.cls,h1.kept,fun t _=>h1.rel t,fun i o d α _ hl=>(by rw [getD_replicate_false] at hl;cases hl)⟩
 have H:=Zfu (e:=e) (L:=L) (Q:=Q) he hH hn hs (fun i o d hi ho hdd=>hd o (List.mem_iff_getElem?.2 ⟨i,by simpa using ho⟩) d hdd) hal hch (Zha hH Q) (fun _ _ _ _ _ _ _ _ _ _ _ _ _ _=>trivial) (fun listed a' w' S' hI _ hall=>?_) n _ a _ S inv0 trivial ?_
 ·rw [show n+(ops.size - n)=ops.size by omega] at H;exact H
 ·exact Zkp he hQ hd _ _ _ a' w' ⟨S',L,ZoN hH hn hal hI hall⟩ hrest
 ·rw [List.countP_eq_length.2]
  ·simp
  ·intro i hi;have hi':=List.mem_range.1 hi;have hsz:i < (Array.replicate ops.size false).size:=by simp;omega
   rw [Zbf hsz,getD_replicate_false];rfl
end
section
variable {e:Env} {U:Nat->Prop} {w0:World} {S0:Nat->Prop} {nt:Nat}
structure AppAt (P:Program) (σ:St) (o:Oper) (d ety sz:Nat) (rows:List (List C)):Prop where
 at':∃ (x y:Operand) (args:Array Operand) (ts:Array TypeId) (t by':Nat) (r1 ys:List (List C)),o.op=.call ⟨.builtin .append,args,ts⟩∧args.toList=[x,y]∧evA σ.s x=.d (.clip r1)∧slA [] (evA σ.s y)=some ys∧ts[0]?=some t∧ts[1]?=some t∧Zbj P t=some (ety,sz,by') ∧
  ZaI sz r1=true∧ZaI sz ys=true∧r1.length+ys.length<=maxApp∧(r1=[]∨ys≠[])∧rows=r1++ys
 dst:o.dst=some d
 guard:o.guard=none
theorem Zx7 {m:List (Nat × Bk)} {y:A} {ys:List (List C)} (h:slA [] y=some ys):slA m y=some ys:=by
 unfold slA at h ⊢;split at h <;> simp_all [gm,bufA]
theorem AppAt.run (he:e.Ok) {σ:St} {o:Oper} {d ety sz:Nat} {rows:List (List C)} (hA:AppAt e.P σ o d ety sz rows) {m:List (Nat × Bk)} {w:World} {S:Nat->Prop} {L:Lay} {ρv:Operand->Value} (hC:Cls e U w0.heap.size S0 m w S L) (hr:∀ x,x∈o.op.operands->ARel w S L (evA σ.s x) (ρv x)) :
  ∃ v' w',(execOp ρv o).run e.P w=.ok (.value v') w'∧ZaE w' S ety sz rows v'∧Kept e.D (fun _=>False) w.heap.size w w'∧∀ g,vblk v'=some g->w.heap.size<=g:=by
 obtain ⟨x,y,args,ts,t,by',r1,ys,ho,hargs,hx,hy,h0,h1,hb,hr1,hys,hle,hne,rfl⟩:=hA.at';have hx':=hr x (by rw [ho];simp [Op.operands,Call.operands,hargs,<- Array.mem_toList_iff]);have hy':=hr y (by rw [ho];simp [Op.operands,Call.operands,hargs,<- Array.mem_toList_iff]);rw [hx] at hx';have hx':DRel w S (.clip r1) (ρv x):=hx';have hyl:=ZeM.1 hys;have hyf:=ZmA (σ:=⟨[],m⟩) hC (Zx7 hy) hy' hyl;obtain ⟨v',w',hrun,hbuf,τ,hk,hτ,hg⟩:=Zf3 (σ:=⟨[],m⟩) (ty:=o.type) he hC h0 h1 hb (.inr ⟨hx',hne⟩) (ZeM.1 hr1) hyl hle hyf
 have hτn:∀ g,τ≠some g:=fun g e1=>by
  obtain ⟨h2,h3⟩:=hτ g e1;obtain ⟨h4,a,n,h5⟩:=hx';rw [h5] at h2 h3 h4;simp only [Rep] at h4;obtain ⟨A,n',cap,h6,h7,_,_,h8⟩:=h4;injection h6 with h6 h9 h10
  subst h6 h9
  cases a with
  | none=>simp [vblk] at h2
  | some q =>
   simp only [vblk] at h2;split at h2
   ·cases h2
   ·rename_i hn0;injection h2 with h2
    obtain ⟨b,off,h11,hS,_⟩:=h8 om;injection h11 with h11
    obtain ⟨_,_,h12⟩:=h3;rcases h12 with ⟨h12,_⟩ | ⟨g',cap',cur,h13,_,_,h14,_⟩
    ·rw [h12] at h7;simp at h7;omega
    ·injection h13 with h13 _ _
     injection h13 with h13
     rw [h13] at h11;injection h11 with h11
     exact h14 (h11 ▸ hS)
 refine ⟨v',w',?_,hbuf,⟨hk.os,hk.tape,hk.output,hk.drawn,hk.size,fun k hk' hn=>hk.block k hk' (fun e1=>hτn k e1)⟩,fun g hg'=>?_⟩
 ·have ha:args.map ρv=#[ρv x,ρv y]:=by apply Array.toList_inj.1;simp [hargs]
  simp [execOp,ho,resolve,invoke,builtin,ha,hrun,Result.andThen]
 ·rcases hg g hg' with e1 | e1
  ·exact (hτn g e1).elim
  ·exact e1
theorem AppAt.gives (he:e.Ok) {σ:St} {o:Oper} {d ety sz:Nat} {rows:List (List C)} (hA:AppAt e.P σ o d ety sz rows) {m:List (Nat × Bk)}:ZaW e U w0.heap.size S0 m o (evA σ.s) .undef:=by
 intro w S L ρv hC hr;obtain ⟨v',w',h1,_,h3,_⟩:=hA.run he hC hr;have hk:Kept e.D e.E w.heap.size w w':=⟨h3.os,h3.tape,h3.output,h3.drawn,h3.size,fun k hk hn=>h3.block k hk id⟩;unfold Go.Proofs.YtmdkimnlbaahbaaGreatDoor.gives;rw [h1];exact ⟨S,⟨fun _ h=>h,fun _ h=>.inl h⟩,hC.later hk (he.keep _ _ h3.size (fun b hE=>h3.block b (Tbd (hC.ein b hE) hC.bsz) id) hC.g) (fun _ h=>h) (fun _ h=>.inl h),hk,trivial⟩
def Zn3 (base p d ety sz:Nat) (rows:List (List C)) (m:List (Nat × Bk)) (L:Lay) (listed:Array Bool) (a:Act) (w:World) (S:Nat->Prop):Prop :=
 listed.getD p false=true->(∀ g,vblk (a.tmps.getD d undef)=some g->base<=g∧g < w.heap.size∧¬ S g∧∀ k bk,gm m k=some bk->¬ Zay L k bk g)∧ZaE w S ety sz rows (a.tmps.getD d undef)
theorem ZmQ {m:List (Nat × Bk)} {base:Nat} {l:List Oper}:∀ (xs ys:List Oper) (s:List (Nat × A)) (us bs:List A),us.length=xs.length->Zci e U base S0 m l xs s us->Zci e U base S0 m l ys (after s xs us) bs->Zci e U base S0 m l (xs++ys) s (us++bs)
 | [],ys,s,[],bs,_,_,h2=>h2
 | x::xs,ys,s,a::us,bs,hl,h1,h2=>⟨h1.1,ZmQ xs ys _ us bs (by simpa using hl) h1.2 h2⟩
 | [],_,_,_::_,_,hl,_,_=>by simp at hl
 | _::_,_,_,[],_,hl,_,_=>by simp at hl
theorem ZgZ:∀ (xs ys:List Oper) (s:List (Nat × A)) (us bs:List A),us.length=xs.length->after s (xs++ys) (us++bs)=after (after s xs us) ys bs
 | [],ys,s,[],bs,_=>rfl
 | x::xs,ys,s,a::us,bs,hl=>ZgZ xs ys _ us bs (by simpa using hl)
 | [],_,_,_::_,_,hl=>by simp at hl
 | _::_,_,_,[],_,hl=>by simp at hl
theorem ZjX (he:e.Ok) (base:Nat) (S0:Nat->Prop) (l:List Oper) {K:St->Prop} {k:Nat} {os:List Oper} {σ:St} (hk:k=os.length+1) (h:Runs e (l.map (·.dst)) k os σ K):∃ αs,αs.length=os.length∧Zci e U base S0 σ.m l os σ.s αs∧K ⟨after σ.s os αs,σ.m⟩:=by
 subst hk;have h':Runs e (l.map (·.dst)) (os.length+1) (os++[]) σ K:=by rw [List.append_nil];exact h
 obtain ⟨αs,h1,h2,h3⟩:=Zda (U:=U) he base S0 l [] 1 os σ (fun h=>absurd h (by decide)) h';simp only [Runs] at h3;exact ⟨αs,h1,h2,h3⟩
theorem Zx8 (he:e.Ok) {id:Nat} {ops:Array Oper} {n p d ety sz:Nat} {rows:List (List C)} {o0:Oper} (hop:ops[p]?=some o0) (hpn:p < n) (hB:regB ops n=true) {K:St->Prop} {Q:Exit->Act->World->Prop} (hQ:∀ a w σ',K σ'->SimE e U w0 S0 nt σ' a w->Q .normal a w) {σ:St} {a:Act} {w:World}
  (hd:∀ o∈ops.toList,∀ d,o.dst=some d->d < nt) (h:SimE e U w0 S0 nt σ a w)
  (hp:Runs e (ops.toList.map (·.dst)) (p+1) (ops.toList.take p) σ (fun σ1=>AppAt e.P σ1 o0 d ety sz rows∧Runs e (ops.toList.map (·.dst)) (n - p) ((ops.toList.take n).drop (p+1)) ⟨(d,.undef)::σ1.s,σ1.m⟩ (fun σ2=>Runs e (ops.toList.map (·.dst)) 0 (ops.toList.drop n) ⟨(d,.buf d)::Zaq d σ2.s,(d,.buf none ety sz rows)::remM d σ2.m⟩ K))):(Code.region id ops true).wp e.P Q a w:=by
 simp only [regB,Tar,Bool.or_eq_true,decide_eq_true_eq] at hB;obtain ⟨⟨⟨hH,hn⟩,hs⟩,hsq⟩:=hB;obtain ⟨S,L,h1⟩:=h.drew he;refine wp_region_any he.mixed ?_;have hlen:(ops.toList.take p).length=p:=by simp;omega
 have hlen2:((ops.toList.take n).drop (p+1)).length=n - p - 1:=by simp;omega
 obtain ⟨αs0,hal0,hch0,hrest0⟩:=ZjX (U:=U) he w0.heap.size S0 ops.toList (by rw [hlen]) hp;rw [hlen] at hal0;obtain ⟨hApp,hrest1⟩:=hrest0;obtain ⟨αs1,hal1,hch1,hrest2⟩:=ZjX (U:=U) he w0.heap.size S0 ops.toList (by rw [hlen2];omega) hrest1;rw [hlen2] at hal1;have hpl:ops.toList[p]?=some o0:=by simpa using hop
 have htake:ops.toList.take n=ops.toList.take p++(o0::(ops.toList.take n).drop (p+1)):=by
  have e1:(ops.toList.take n)[p]?=some o0:=by rw [List.getElem?_take,if_pos hpn];exact hpl
  have e2:(ops.toList.take n).drop p=o0::(ops.toList.take n).drop (p+1):=by
   rw [List.drop_eq_getElem_cons (Tad.1 e1).1,(Tad.1 e1).2]
  have e3:(ops.toList.take n).take p=ops.toList.take p:=by rw [List.take_take,Nat.min_eq_left om]
  rw [<- e2,<- e3,Tbm]
 have hal:(αs0++(A.undef::αs1)).length=n:=by simp [hal0,hal1];omega
 have hset:setA (after σ.s (ops.toList.take p) αs0) o0.dst A.undef=(d,A.undef)::after σ.s (ops.toList.take p) αs0:=by rw [hApp.dst];rfl
 have hch:Zci e U w0.heap.size S0 σ.m ops.toList (ops.toList.take n) σ.s (αs0++(A.undef::αs1)):=by
  rw [htake];refine ZmQ _ _ _ _ _ (by rw [hal0,hlen]) hch0 ⟨?_,?_⟩
  ·unfold Zew;rw [hApp.guard];exact hApp.gives he
  ·rw [hset];exact hch1
 have haf:after σ.s (ops.toList.take n) (αs0++(A.undef::αs1))=after ((d,A.undef)::after σ.s (ops.toList.take p) αs0) ((ops.toList.take n).drop (p+1)) αs1:=by
  conv=>lhs;rw [htake]
  rw [ZgZ _ _ _ _ _ (by rw [hal0,hlen])];simp only [after,hset]
 have inv0:InvA e U w0 S0 nt σ.m ops n σ.s (αs0++(A.undef::αs1)) L (Array.replicate ops.size false) a { w with drawn:=w.drawn+1 } S :=
  ⟨⟨by simp,fun j oj _ hl=>(by rw [getD_replicate_false] at hl;cases hl),fun t _ ht=>getD_in (by simpa using ht) (getD_replicate_false _ _)⟩,h1.size,h1.defers,h1.cls,h1.kept,fun t _=>h1.rel t,fun i o d α _ hl=>(by rw [getD_replicate_false] at hl;cases hl)⟩
 have hJ0:Zn3 w0.heap.size p d ety sz rows σ.m L (Array.replicate ops.size false) a { w with drawn:=w.drawn+1 } S:=fun hl=>by rw [getD_replicate_false] at hl;cases hl
 have hA0:∀ {i':Nat} {o':Oper} {d':Nat},HeadAt ops n i' o' d'->i'≠p->d'≠d:=fun hA hne e'=>by
  have:=(hA.dep p _ hpn hop).1 (Ne.symm hne);exact this (by rw [hApp.dst,e'])
 have hgo:ZiF e U w0 S0 nt σ.m ops n σ.s (αs0++(A.undef::αs1)) L (Zn3 w0.heap.size p d ety sz rows σ.m L) Q:=by
  intro listed a w S i' o' d' α hI hJ hA hin hr hdn hα hopd hG';by_cases hip:i'=p
  ·subst hip;have ho':o'=o0:=by have:=hA.op;rw [hop] at this;injection this with this;exact this.symm
   subst ho';have hdd:d'=d:=by have:=hA.dst;rw [hApp.dst] at this;injection this with this;exact this.symm
   subst hdd;have hau:α=A.undef:=by rw [Tbq om,hal0] at hα;simpa using hα.symm
   subst hau;have hC:=hI.cls;have htk:(αs0++(A.undef::αs1)).take i'=αs0:=by rw [<- hal0];exact List.take_left
   rw [htk] at hopd;obtain ⟨v',w',q1,q2,q3,q4⟩:=hApp.run he hC hopd;have hk:Kept e.D e.E w.heap.size w w':=⟨q3.os,q3.tape,q3.output,q3.drawn,q3.size,fun k hk hn=>q3.block k hk (fun h=>h)⟩;have hC':Cls e U w0.heap.size S0 σ.m w' S L:=hC.later hk (he.keep _ _ q3.size (fun b hE=>q3.block b (Tbd (hC.ein b hE) hC.bsz) (fun h=>h)) hC.g) (fun _ h=>h) (fun _ h=>.inl h);unfold Oper.wp;rw [q1,Oper.upon_value]
   have hput:(a.put o'.dst v').tmps.getD d' undef=v':=by
    rw [hA.dst,ZbW (by rw [hI.size];exact hdn)];simp
   refine ⟨S,hI.put hH hA hin hr hdn hα (fun _ h=>h) hC' hk trivial,fun _=>?_⟩;rw [hput];refine ⟨fun g hg=>?_,q2⟩;have hge:=q4 g hg;refine ⟨Tbe hC.bsz hge,?_,fun hs=>by have:=(hC.sin _ hs).1;omega,fun k bk hk hg=>by have:=hC.blk_lt hk hg;omega⟩;exact (Own1.lt (L:=⟨fun _=>0,fun _=>v'⟩) (k:=0) (bk:=.buf none ety sz rows) ⟨by simp,q2⟩ hg).1
  ·refine Zc0 (hG' w S L a.eval hI.cls hopd) fun v' w' ⟨S',hS,hC,hk,hv'⟩=>⟨S',hI.put hH hA hin hr hdn hα hS.1 hC hk hv',fun hl=>?_⟩;rw [getD_set_ne false hip] at hl;obtain ⟨q1,q2⟩:=hJ hl;have hput:(a.put o'.dst v').tmps.getD d undef=a.tmps.getD d undef:=by
    rw [hA.dst,ZbW (by rw [hI.size];exact hdn),if_neg (Ne.symm (hA0 hA hip))]
   rw [hput];have hnS:∀ g,vblk (a.tmps.getD d undef)=some g->¬ S' g:=fun g hg hs=>by
    obtain ⟨_,k2,k3,_⟩:=q1 g hg;rcases hS.2 g hs with hs | hs
    ·exact k3 hs
    ·omega
   refine ⟨fun g hg=>⟨(q1 g hg).1,Tbd (q1 g hg).2.1 hk.size,hnS g hg,(q1 g hg).2.2.2⟩,q2.keep hk.size (hI.cls.cell hk) hS.1 fun g hg=>⟨hk.block g (q1 g hg).2.1 (fun hE=>by have:=hI.cls.ein g hE;have:=(q1 g hg).1;omega),hnS g hg⟩⟩
 have hskp:∀ (listed:Array Bool) (a:Act) (w:World) (S:Nat->Prop) (i':Nat) (o':Oper) (d':Nat),Zn3 w0.heap.size p d ety sz rows σ.m L listed a w S->InvA e U w0 S0 nt σ.m ops n σ.s (αs0++(A.undef::αs1)) L listed a w S->HeadAt ops n i' o' d'->i' < n->i'∈Region.ready .any ops listed->d' < nt->o'.guard≠none->Zn3 w0.heap.size p d ety sz rows σ.m L (listed.setIfInBounds i' true) (a.put o'.dst undef) w S:=by
  intro listed a w S i' o' d' hJ hI hA hin hr hdn hg hl;have hip:i'≠p:=fun e'=>by
   subst e';have:=hA.op;rw [hop] at this;injection this with this
   rw [<- this] at hg;exact hg hApp.guard
  rw [getD_set_ne false hip] at hl;have hput:(a.put o'.dst undef).tmps.getD d undef=a.tmps.getD d undef:=by
   rw [hA.dst,ZbW (by rw [hI.size];exact hdn),if_neg (Ne.symm (hA0 hA hip))]
  rw [hput];exact hJ hl
 have H:=Zdj (e:=e) (L:=L) (Q:=Q) he hH hn (fun hlt=>by
   rcases hs with hs | hs
   ·omega
   ·exact hs) hsq (fun i o d hi ho hdd=>hd o (List.mem_iff_getElem?.2 ⟨i,by simpa using ho⟩) d hdd) hal hch hgo hskp (fun listed a' w' S' hI hJ hall=>?_) n _ a _ S inv0 hJ0 ?_
 ·rw [show n+(ops.size - n)=ops.size by omega] at H;exact H
 ·have hsim:=ZoN hH hn hal hI hall;rw [haf] at hsim;obtain ⟨q1,q2⟩:=hJ (hall p hpn);have hdn:d < nt:=hd _ (List.mem_iff_getElem?.2 ⟨p,hpl⟩) d hApp.dst
  have hsimB:=hsim.bornE (bk:=.buf none ety sz rows) (w':=w') (b':=0) (v':=a'.tmps.getD d undef) (u:=a'.tmps.getD d undef) (τ:=vblk (a'.tmps.getD d undef)) (s1:=after ((d,A.undef)::after σ.s (ops.toList.take p) αs0) ((ops.toList.take n).drop (p+1)) αs1) (m1:=σ.m) (α:=.buf d) (S':=S') hdn (fun _ h=>h) (fun _ h=>.inl h) (fun t=>.inl rfl) (fun k x h=>h)
   (fun g hg=>⟨(q1 g hg).2.2.1,fun hE=>by have:=hI.cls.ein _ hE;have:=(q1 g hg).1;omega,.inl (q1 g hg).1⟩) (fun k x g hkd hx hg hb=>(q1 g hg).2.2.2 k x hx hb)
   (Kept.refl _ _ _ _) hI.cls.g (by
    simp only [Own1,if_true];exact ⟨by simp,q2⟩)
   (fun g hg=>by simp only [Zay,if_true] at hg;exact .inl hg) (by simp [ARel])
  have hsimD:SimE e U w0 S0 nt ⟨(d,.buf d)::Zaq d (after ((d,A.undef)::after σ.s (ops.toList.take p) αs0) ((ops.toList.take n).drop (p+1)) αs1),(d,.buf none ety sz rows)::remM d σ.m⟩ a' w':=by
   obtain ⟨S2,L2,k1,k2,k3,k4,k5⟩:=hsimB;refine ⟨S2,L2,k1,fun t=>?_,hI.size,hI.defers,k5⟩;have:=k2 t;rw [ZbW (by rw [hI.size];exact hdn)] at this;by_cases ht:t=d
   ·rw [if_pos ht] at this;rw [ht];rw [ht] at this;exact this
   ·rw [if_neg ht] at this;exact this
  have:=hrest2 he U w0 S0 nt a' w' ops.toList Q rfl (fun o ho=>hd o (List.mem_of_mem_drop ho)) hQ hsimD;simpa using this
 ·rw [List.countP_eq_length.2]
  ·simp
  ·intro i hi;have hi':=List.mem_range.1 hi;have hsz:i < (Array.replicate ops.size false).size:=by simp;omega
   rw [Zbf hsz,getD_replicate_false];rfl
end
section
variable {e:Env} {mask:Nat} {Q:PX->St->Prop} {ds:List (Option Nat)}
theorem Zlc {nt:Nat} {id:Nat} {ops:Array Oper} {fl:Bool} (hok:Zcf nt (.region id ops fl)=true):∀ o∈ops.toList,∀ d,o.dst=some d->d < nt:=fun o ho d hd=>by
 simp only [Zcf] at hok;have:=List.all_eq_true.1 hok o ho;rw [hd] at this;simpa using this
theorem Zx9 {id:Nat} {ops:Array Oper} {σ:St} {n p d ety sz:Nat} {rows:List (List C)} {o0:Oper} (hop:ops[p]?=some o0) (hpn:p < n) (hn:regB ops n=true) (hp:Runs e (ops.toList.map (·.dst)) (p+1) (ops.toList.take p) σ (fun σ1=>AppAt e.P σ1 o0 d ety sz rows∧Runs e (ops.toList.map (·.dst)) (n - p) ((ops.toList.take n).drop (p+1)) ⟨(d,.undef)::σ1.s,σ1.m⟩ (fun σ2=>Runs e (ops.toList.map (·.dst)) 0 (ops.toList.drop n) ⟨(d,.buf d)::Zaq d σ2.s,(d,.buf none ety sz rows)::remM d σ2.m⟩ (Zc5 mask Q)))):pwp e mask (.region id ops true) σ Q:=fun he U w0 S0 nt a w hok hs =>
 Zx8 he hop hpn hn (fun a w σ' h1 h2=>⟨_,h1,h2.weak (fun t=>Zkm mask t σ'.s) (fun _ _ h=>h)⟩) (Zlc hok) hs hp
theorem gA {id:Nat} {l l1 l2 l3:List Oper} {s s1 s2 s3:List (Nat × A)} {m m1 m2 m3:List (Nat × Bk)} {x y:Operand} {t ty d ety sz by':Nat} {pos:String} {aft:Array Edge} {r1 ys:List (List C)} (n p:Nat) (hle:r1.length+ys.length<=maxApp) (hne:r1=[]∨ys≠[]) (hK:Runs e ds 0 l3 ⟨(d,.buf d)::s3,(d,.buf none ety sz (r1++ys))::m3⟩ (Zc5 mask Q))
  (hop:l[p]?=some ⟨some d,.call ⟨.builtin .append,#[x,y],#[t,t]⟩,ty,pos,aft,none⟩:=by exact rfl) (hB:regB l.toArray n=true:=by decide +kernel) (hpn:p < n:=by decide) (hds:l.map (·.dst)=ds:=by exact rfl) (h1l:l.take p=l1:=by exact rfl) (h2l:(l.take n).drop (p+1)=l2:=by exact rfl) (h3l:l.drop n=l3:=by exact rfl)
  (h1:Zbh e.P ds (p+1) l1 ⟨s,m⟩=.done ⟨s1,m1⟩:=by exact sfv) (hx:evA s1 x=.d (.clip r1):=by exact sfx) (hy:slA [] (evA s1 y)=some ys:=by exact sfx)
  (hb:Zbj e.P t=some (ety,sz,by'):=by exact sfx) (hr1:ZaI sz r1=true:=by simp only [pz,↓reduceIte,Nat.reduceEqDiff,Nat.reduceAdd,Nat.reduceSub,Nat.reduceMul,Nat.reduceLeDiff,Nat.reduceBEq,Tam,decide_true,decide_false,Int.reduceLE,Int.reduceToNat,Int.reduceLT,Int.reduceEq,eq_self,Nat.reduceShiftRight,Nat.reduceAnd,Nat.reduceBneDiff,F]) (hys:ZaI sz ys=true:=by simp only [pz,↓reduceIte,Nat.reduceEqDiff,Nat.reduceAdd,Nat.reduceSub,Nat.reduceMul,Nat.reduceLeDiff,Nat.reduceBEq,Tam,decide_true,decide_false,Int.reduceLE,Int.reduceToNat,Int.reduceLT,Int.reduceEq,eq_self,Nat.reduceShiftRight,Nat.reduceAnd,Nat.reduceBneDiff,F])
  (h2:Zbh e.P ds (n - p) l2 ⟨(d,.undef)::s1,m1⟩=.done ⟨s2,m2⟩:=by exact sfv) (hk:Zaq d s2=s3:=by exact snv) (hr:remM d m2=m3:=by exact snv):pwp e mask (.region id l.toArray true) ⟨s,m⟩ Q:=by
 subst hds h1l h2l h3l hk hr;exact Zx9 (ops:=l.toArray) (by simpa using hop) hpn hB (ZfG h1 ⟨⟨⟨x,y,#[x,y],#[t,t],t,by',r1,ys,rfl,rfl,hx,hy,rfl,rfl,hb,hr1,hys,hle,hne,rfl⟩,rfl,rfl⟩,ZfG h2 hK⟩)
theorem gT0 {ops:Array Oper} {listed:Array Bool} {s s':List (Nat × A)} {m:List (Nat × Bk)} (hK:Q .normal ⟨s',m⟩) (hr:Region.ready .any ops listed=[]:=by decide +kernel) (hs:Zdn mask s=s':=by exact snv):ZdV e ds ops (Zc5 mask Q) 0 listed ⟨s,m⟩:=by
 subst hs;exact ⟨hr,hK⟩
end
section
variable {e:Env} {mask:Nat} {Q:PX->St->Prop} {ds:List (Option Nat)}
theorem ZBj {P:Program} {o:Oper} {a:Act} {w:World} {K:Act->World->Prop} {Q0 Q:Exit->Act->World->Prop} (h0:∀ ex a w,ex≠.normal->¬ Q0 ex a w) (hh:o.wp P a w K Q0):o.wp P a w K Q:=by
 have hl:¬ LetsOut Q0:=fun ⟨a,w,h⟩=>h0 _ a w (by simp) h;unfold Oper.wp at *;generalize (execOp a.eval o).run P w=r at *
 cases r with
 | ok n w' =>
  cases n <;> simp only [Oper.upon] at hh ⊢ <;> first
   | exact hh
   | exact Calls.mono hh (fun e w'' he=>by cases e <;> first | exact he | exact absurd he (h0 _ _ _ (by simp)) | exact absurd he hl)
   | exact absurd hh hl
   | exact absurd hh (h0 _ _ _ (by simp))
 | halt x w' =>
  cases x <;> simp only [Oper.upon] at hh ⊢ <;> first
   | exact hh
   | exact absurd hh hl
   | exact absurd hh (h0 _ _ _ (by simp))
theorem Zdt {o:Oper} {σ:St} {K:St->Prop} (hg:o.guard=none) (h:Runs e ds 0 [o] σ K):ZbN e o σ (fun σ'=>Runs e ds 0 [] σ' K):=by
 intro he U w0 S0 nt a w Q hd hs;have h:Zeb e ds [o] σ K:=by simpa only [Runs] using h
 have h1:=h he U w0 S0 nt a w (ds.map fun d=>{ o with dst:=d }) (fun ex a' w'=>ex=.normal∧∃ σ',K σ'∧SimE e U w0 S0 nt σ' a' w') (by rw [List.map_map];exact List.map_id ds) (fun o' ho d hd'=>by simp only [Tbj] at ho;subst ho;exact hd d hd') (fun a w σ' k1 k2=>⟨rfl,σ',k1,k2⟩) hs;unfold wpList at h1;have hw:Region.wanted o (yielded (ds.map fun d=>{ o with dst:=d }).toArray a.tmps)=true:=by simp [Region.wanted,hg]
 rw [if_pos hw] at h1;rcases h1 with h1 | ⟨_,a',w',h1,_⟩
 ·refine ZBj (fun ex a w hne h=>hne h.1) (Oper.wp_mono (fun a' w' hk=>?_) h1);simp only [wpList] at hk;obtain ⟨_,σ',k1,k2⟩:=hk;exact ⟨σ',Zdk k1,k2⟩
 ·cases h1
theorem gO1 {ops:Array Oper} {K:St->Prop} {f:Nat} {listed:Array Bool} {o:Oper} {σ:St} (i:Nat) (hK:Runs e ds 0 [o] σ (ZdV e ds ops K f (listed.setIfInBounds i true))) (hr:Region.ready .any ops listed=[i]:=by decide +kernel) (ho:ops[i]?=some o:=by simp only [List.getElem?_toArray,Tau,Tat];exact rfl) (hg:o.guard=none:=by exact rfl):ZdV e ds ops K (f+1) listed σ:=by
 refine ⟨fun h=>(by rw [hr] at h;cases h),fun j hj=>?_⟩;rw [hr] at hj;have hji:j=i:=by simpa using hj
 subst hji;exact ⟨o,ho,hg,Zdt hg hK⟩
theorem gO2 {ops:Array Oper} {K:St->Prop} {f:Nat} {listed:Array Bool} {o o':Oper} {σ:St} (i j:Nat) (hK:Runs e ds 0 [o] σ (ZdV e ds ops K f (listed.setIfInBounds i true))) (hK':Runs e ds 0 [o'] σ (ZdV e ds ops K f (listed.setIfInBounds j true))) (hr:Region.ready .any ops listed=[i,j]:=by decide +kernel) (ho:ops[i]?=some o:=by simp only [List.getElem?_toArray,Tau,Tat];exact rfl) (hg:o.guard=none:=by exact rfl) (ho':ops[j]?=some o':=by simp only [List.getElem?_toArray,Tau,Tat];exact rfl) (hg':o'.guard=none:=by exact rfl):ZdV e ds ops K (f+1) listed σ:=by
 refine ⟨fun h=>(by rw [hr] at h;cases h),fun k hk=>?_⟩;rw [hr] at hk;have hk:k=i∨k=j:=by simpa using hk
 rcases hk with rfl | rfl
 ·exact ⟨o,ho,hg,Zdt hg hK⟩
 ·exact ⟨o',ho',hg',Zdt hg' hK'⟩
theorem gO3 {K:St->Prop} {o:Oper} {s s1:List (Nat × A)} {m m1:List (Nat × Bk)} (hK:K ⟨s1,m1⟩) (h:Zbh e.P ds 0 [o] ⟨s,m⟩=.done ⟨s1,m1⟩:=by exact sfv):Runs e ds 0 [o] ⟨s,m⟩ K:=ZfG h hK
theorem ZjY {K:St->Prop} {n:Nat} {os:List Oper} {o:Oper} {σ:St} (hg:o.guard=none) (hal:isAl o=false) (h:ZeN e o σ (fun σ'=>Runs e ds n os σ' K)):Runs e ds (n+1) (o::os) σ K:=by
 simp only [Runs,hg];rw [if_neg (by simp [hal])];exact h
theorem gAq {K:St->Prop} {os:List Oper} {n d ty:Nat} {p:String} {ed:Array Edge} {x:Operand} {y:D} {s:List (Nat × A)} {m:List (Nat × Bk)} (hK:Runs e ds n os ⟨(d,.d y)::s,m⟩ K) (hx:evA s x=.d y:=by exact sfx):Runs e ds (n+1) (⟨some d,.assign x,ty,p,ed,none⟩::os) ⟨s,m⟩ K :=
 ZjY rfl rfl fun he=>⟨.d y,hK,fun U base S0=>ZaD fun w S L ρv hC hr=>⟨ρv x,by simp [execOp],by
  have h:=hr x (by simp [Op.operands]);rw [hx] at h;exact h⟩⟩
end
theorem Zwt (n:Int):Con e0 128 [.one (.lit (.int .i64 n))] [.one (.lit (.bool (decide (0<=n∧n<=65535))))]:=by
 refine gI 5 Tryz.func128 ?_;by_cases h1:0<=n <;> by_cases h2:n<=65535 <;> (exact fT (ai @h1 @h2))
theorem Zck:∀ p:Int × Int,ZbS p=[.lit (.int .i64 p.1),.lit (.int .i64 p.2)]:=fun _=>rfl
theorem Zwu {k:Nat} (h:k < 62):IntKind.u64.wrap (k:Int)=(k:Int):=by
 have h2:(k:Int) < 18446744073709551616:=om;simp only [IntKind.wrap,IntKind.signed,IntKind.bits,Tam,if_false];exact Int.emod_eq_of_lt om om
theorem ZfJ:Tryz.prog.underlying 3=some (.int .i64):=by kernel_rfl
theorem Zfe:ZdB (Tryz.prog.underlying 102)=some .u64:=by kernel_rfl
theorem Zf6 {k:Nat} (h:k < 62):IntKind.i64.wrap (1 * 2 ^ min k 64)=((2 ^ k:Nat):Int):=by
 rw [Nat.min_eq_left om,Int.one_mul,show (2:Int) ^ k=((2 ^ k:Nat):Int) by rw [Int.natCast_pow];rfl];have:=Zgt h;generalize 2 ^ k=x at this ⊢;exact IntWalk.i64_in _ om
theorem Zed (j:Int):Zk5 j (some (.int .i64)) (some .u64)=some (.d (.one (.lit (.int .u64 (IntKind.u64.wrap j))))):=rfl
theorem Zg0 {k:Nat} (hk:k < 62):Con e0 125 [.one (.lit (.int .i64 k))] [.one (.lit (.int .i64 ((2 ^ k:Nat):Int)))]:=by
 have h1:=Zwu hk;have h2:=Zf6 hk;refine gI 5 Tryz.func125 ?_;exact fT (aj6 @ZfJ @Zfe @Zed @h1 @h2 @Zar)
def tbit (a k:Nat):Bool:=a.testBit k
theorem ZBQ {a k:Nat} (ha:a < 4611686018427387904) (h:k < 62):decide (bits .and .i64 ((a:Int).fdiv (2 ^ min k 64)) 1=1)=tbit a k:=by
 rw [tbit];rw [Nat.min_eq_left om,Int.fdiv_eq_ediv_of_nonneg _ (Int.pow_nonneg (by decide)),<- Zqa ha];exact (Bool.beq_eq_decide_eq _ _).symm
theorem ZeP {a k:Nat} (ha:a < 4611686018427387904) (hk:k < 16):Con e0 66 [.one (.lit (.int .i64 a)),.one (.lit (.int .i64 k))] [.one (.lit (.bool (tbit a k)))]:=by
 have h1:=Zwu (k:=k) om;have h2:=ZBQ (k:=k) ha om;have z1:=lT k 16;have z2:((0:Int)<=(k:Int))=True:=eq_true om;refine gI 19 Tryz.func66 ?_;exact fT (aj8 @ZfJ @Zfe @Zed @h1 @h2 @Zar @z1 @z2)
theorem Zwv (a b:Nat):Con e0 126 [.one (.lit (.int .i64 a)),.one (.lit (.int .i64 b))] [.one (.lit (.int .i64 ((min a b:Nat):Int)))]:=by
 refine gI 147 Tryz.func126 ?_;by_cases h:a < b
 ·have z1:=lT a b;have e:min a b=a:=Nat.min_eq_left om;exact fT (ai @z1 @e)
 ·have z1:=lF a b;have e:min a b=b:=Nat.min_eq_right om;exact fT (ai @z1 @e)
theorem ZAx (n:Nat):ZdT n 0=List.replicate n 0:=by simp [ZdT,up0]
theorem ZoO (subs:List (Int × Int)) (l:List Nat):ZdM subs 0 l=l:=rfl
theorem Zmi (n:Nat) (z:List C):(List.replicate n z).length=n:=List.length_replicate
def nR (l:List Nat):List (List C):=(Zb8 l).map ZbA
section
variable {l:List Nat}
theorem ZaR:(nR l).length=l.length:=by rw [nR,Tay,ZmL]
theorem ZaQ {i x:Nat} (h:l[i]?=some x):(nR l)[i]?=some [.lit (.int .i64 x)]:=by rw [nR,Tba,ZmM h];rfl
theorem ZcG (i x:Nat):(nR l).set i [.lit (.int .i64 x)]=nR (l.set i x):=by rw [nR,nR,Zwm,List.map_set];rfl
theorem ZaL:ZaI 1 (nR l)=true:=ZoD _
theorem ZhB (x:Nat):nR l++[[.lit (.int .i64 x)]]=nR (l++[x]):=by rw [nR,nR,ZsZ,Tbv];rfl
end
theorem nR_0 (n:Nat):List.replicate n [C.lit (.int .i64 0)]=nR (List.replicate n 0):=by simp [nR,Zb8,ZbA]
theorem Zr9:∀ (l:List Nat) (p:Int × Int),Zdo l p=l.set p.1.toNat (l.getD p.1.toNat 0 ||| l.getD p.2.toNat 0):=fun _ _=>rfl
theorem Zsa (subs:List (Int × Int)) (l:List Nat):(subs.take 0).foldl Zdo l=l:=rfl
theorem Zsb (subs:List (Int × Int)) (l:List Nat):ZdG subs 0 l=l:=rfl
theorem Zww (subs:List (Int × Int)) (l:List Nat):(subs.take 0).foldl kSub l=l:=rfl
theorem ZmR {subs:List (Int × Int)} {i:Nat} {p:Int × Int} (h:subs[i]?=some p) (l:List Nat):(subs.take (i+1)).foldl kSub l=kSub ((subs.take i).foldl kSub l) p:=Zh1 h l
theorem Zwx:nR (up0 0)=[]∧nR (List.range 0)=[]∧nR []=[]:=⟨rfl,rfl,rfl⟩
theorem ZAy (a:Nat):nR (ZcE a 0)=[]:=rfl
theorem Zld {subs:List (Int × Int)} {i:Nat} {p:Int × Int} (h:subs[i]?=some p) (l:List Nat):(subs.take (i+1)).foldl Zdo l=Zdo ((subs.take i).foldl Zdo l) p:=Zh1 h l
section
variable {s:Srt}
theorem Zir (h1:1<=s.names.length) (h8:s.names.length<=8) (hm:s.subs.length<=16) (hs:Zdd s.names.length s.subs):Con e0 92 [.agg (Za9 s)] [.one (.sl (nR (up s)))]:=by
 have hmx:((s.names.length:Int)<=(maxApp:Int))=True:=eq_true (by unfold maxApp;omega);rw [Za9];refine gI 2072014943 Tryz.func92 ?_;refine fG (aj3 @hmx @Tbw @Zmi) ?_;rw [nR_0];have F:=@ZAx;refine gL (ι:=Nat) [3,4,13,14] [3] (fun k=>[(13,A.d (.one (.lit (.int .i64 k)))),(3,.buf 3)]) (fun k=>[(3,.buf none 3 1 (nR (ZdT s.names.length k)))]) (fun k=>k<=s.names.length) (fun k=>s.names.length - k) (0) (Taj _) (fun k hk=>?_);clear F
 by_cases hlt:k < s.names.length
 ·have q1:(k:Int) < (s.names.length:Int):=om;have hw:=Zat (k:=k) om;have hsh:=Zf6 (k:=k) om;have l1:=Zwn (n:=s.names.length) (k:=k) om;have l2:=ZaR (l:=ZdT s.names.length k);have l3:=ZaL (l:=ZdT s.names.length k);have l4:=ZcG (l:=ZdT s.names.length k) k (2 ^ k);rw [Zwo hlt] at l4;rw [l1] at l2;obtain ⟨x,hx⟩:∃ x,(ZdT s.names.length k)[k]?=some x:=⟨_,Taa om⟩;have l5:=ZaQ hx;have F:=aj9 @q1 @hsh @l2 @l3 @l4 @l5 @hlt @hw @Zar;refine gG ?_;exact ⟨k+1,hlt,gw,gw,om⟩
 obtain rfl:k=s.names.length:=by omega
 have q1:¬ ((s.names.length:Int) < (s.names.length:Int)):=om;rw [Zwp];have hU:=UpOk.start s.names.length;have l0:(nR (up0 s.names.length)).length=s.names.length:=by rw [ZaR,hU.1]
 refine fG (ai @q1 @l0) ?_;have F:=@ZoO;refine gL (ι:=Nat) [3,6,24,25,27,28,29,30] [3] (fun j=>[(24,A.d (.one (.lit (.int .i64 j)))),(3,.buf 3)]) (fun j=>[(3,.buf none 3 1 (nR (ZdM s.subs j (up0 s.names.length))))]) (fun j=>j<=s.names.length) (fun j=>s.names.length - j) (0) (Taj _) (fun j hj=>?_);clear F;by_cases hlj:j < s.names.length;rotate_left
 ·obtain rfl:j=s.names.length:=by omega
  have q2:¬ ((s.names.length:Int) < (s.names.length:Int)):=om;rw [up];refine fG @q2 ?_;have F:=@e0P;refine gG ?_;exact gTz [2]
 have q2:(j:Int) < (s.names.length:Int):=om;have hwj:=Zat (k:=j) om;have hUj:=UpOk.iter hs j hU;have hnx:ZdM s.subs (j+1) (up0 s.names.length)=s.subs.foldl Zdo (ZdM s.subs j (up0 s.names.length)):=rfl;generalize ZdM s.subs j (up0 s.names.length)=u at hUj hnx ⊢;refine fG @q2 ?_;have F:=@Zsa;refine gL (ι:=Nat) [3,6,29,30] [3] (fun i=>[(29,A.d (.one (.lit (.int .i64 i)))),(3,.buf 3)]) (fun i=>[(3,.buf none 3 1 (nR ((s.subs.take i).foldl Zdo u)))]) (fun i=>i<=s.subs.length) (fun i=>s.subs.length - i) (0) (Taj _) (fun i hi=>?_);clear F
 by_cases hli:i < s.subs.length;rotate_left
 ·obtain rfl:i=s.subs.length:=by omega
  have q3:¬ ((s.subs.length:Int) < (s.subs.length:Int)):=om;rw [Tap,<- hnx];have F:=ai @q3 @hwj;refine gG ?_;exact ⟨j+1,hlj,gw,gw,om⟩
 have q3:(i:Int) < (s.subs.length:Int):=om;have hwi:=Zat (k:=i) om;obtain ⟨p,hp⟩:∃ p,s.subs[i]?=some p:=⟨_,Taa hli⟩;have hps:=hs p (Tac hp);have hst:=Zld hp u;have hUi:=UpOk.foldl hUj (hs.take i);generalize (s.subs.take i).foldl Zdo u=v at hUi hst ⊢;obtain ⟨g1,b1⟩:=hUi.get (i:=p.1.toNat) om;obtain ⟨g2,b2⟩:=hUi.get (i:=p.2.toNat) om;have p256:2 ^ s.names.length<=256:=Tbe (Tbs om h8) (by decide);have hor:=Zds (a:=v.getD p.1.toNat 0) (b:=v.getD p.2.toNat 0) om om
 have l1:=ZaQ g1;have l2:=ZaQ g2;have l3:=ZaR (l:=v);rw [hUi.1] at l3;have l4:=ZaL (l:=v);have l5:=ZcG (l:=v) p.1.toNat (v.getD p.1.toNat 0 ||| v.getD p.2.toNat 0);have i1:0<=p.1:=hps.1;have i2:0<=p.2:=hps.2.2.1;have i3:p.1.toNat < s.names.length:=om;have i4:p.2.toNat < s.names.length:=om;have F:=aj16 @q3 @hp @Zck @l1 @l2 @l3 @l4 @l5 @hor @i1 @i2 @i3 @i4 @hwi @hst @Zr9;refine gG ?_;exact ⟨i+1,hli,gw,gw,om⟩
theorem Zgx (h8:s.names.length<=8) (hm:s.subs.length<=16) (hs:Zdd s.names.length s.subs):Con e0 85 [.agg (Za9 s)] [.one (.sl (nR (up s)))]:=by
 rw [Za9];refine gI 2164265087 Tryz.func85 ?_;refine fG @e0P ?_;have F:=@Zwx;refine gL (ι:=Nat) [3,4,12] [3] (fun k=>[(4,A.d (.one (.lit (.int .i64 k)))),(3,.buf 3)]) (fun k=>[(3,.buf none 3 1 (nR (up0 k)))]) (fun k=>k<=s.names.length) (fun k=>s.names.length - k) (0) (Taj _) (fun k hk=>?_);clear F;by_cases hlt:k < s.names.length
 ·have q1:(k:Int) < (s.names.length:Int):=om;have hw:=Zat (k:=k) om;have l2:=ZaR (l:=up0 k);rw [(UpOk.start k).1] at l2;have l3:=ZaL (l:=up0 k);have l4:=ZhB (l:=up0 k) (2 ^ k);rw [<- Zx6] at l4;have hmx:(k+1<=maxApp)=True:=eq_true (by unfold maxApp;omega);refine fB @q1 ?_;refine fC @e0P (Zg0 (k:=k) om) ?_;refine fR (aj4 @l2 @l3 @l4 @hmx) ?_;have F:=@hw;refine gG ?_;exact ⟨k+1,hlt,gw,gw,om⟩
 obtain rfl:k=s.names.length:=by omega
 have q1:¬ ((s.names.length:Int) < (s.names.length:Int)):=om;have hU:=UpOk.start s.names.length;refine fG @q1 ?_;have F:=@ZoO;refine gL (ι:=Nat) [3,5,6,24,31] [3] (fun j=>[(5,A.d (.one (.lit (.int .i64 j)))),(3,.buf 3)]) (fun j=>[(3,.buf none 3 1 (nR (ZdM s.subs j (up0 s.names.length))))]) (fun j=>j<=s.names.length) (fun j=>s.names.length - j) (0) (Taj _) (fun j hj=>?_);clear F;by_cases hlj:j < s.names.length
 rotate_left
 ·obtain rfl:j=s.names.length:=by omega
  have q2:¬ ((s.names.length:Int) < (s.names.length:Int)):=om;rw [up];refine fG @q2 ?_;have F:=@e0P;refine gG ?_;exact gTz [2]
 have q2:(j:Int) < (s.names.length:Int):=om;have hwj:=Zat (k:=j) om;have hUj:=UpOk.iter hs j hU;have hnx:ZdM s.subs (j+1) (up0 s.names.length)=s.subs.foldl Zdo (ZdM s.subs j (up0 s.names.length)):=rfl;generalize ZdM s.subs j (up0 s.names.length)=u at hUj hnx ⊢;refine fG @q2 ?_;have F:=@Zsa;refine gL (ι:=Nat) [3,6,31] [3] (fun i=>[(6,A.d (.one (.lit (.int .i64 i)))),(3,.buf 3)]) (fun i=>[(3,.buf none 3 1 (nR ((s.subs.take i).foldl Zdo u)))]) (fun i=>i<=s.subs.length) (fun i=>s.subs.length - i) (0) (Taj _) (fun i hi=>?_);clear F
 by_cases hli:i < s.subs.length;rotate_left
 ·obtain rfl:i=s.subs.length:=by omega
  have q3:¬ ((s.subs.length:Int) < (s.subs.length:Int)):=om;rw [Tap,<- hnx];have F:=ai @q3 @hwj;refine gG ?_;exact ⟨j+1,hlj,gw,gw,om⟩
 have q3:(i:Int) < (s.subs.length:Int):=om;have hwi:=Zat (k:=i) om;obtain ⟨p,hp⟩:∃ p,s.subs[i]?=some p:=⟨_,Taa hli⟩;have hps:=hs p (Tac hp);have hst:=Zld hp u;have hUi:=UpOk.foldl hUj (hs.take i);generalize (s.subs.take i).foldl Zdo u=v at hUi hst ⊢;obtain ⟨g1,b1⟩:=hUi.get (i:=p.1.toNat) om;obtain ⟨g2,b2⟩:=hUi.get (i:=p.2.toNat) om;have p256:2 ^ s.names.length<=256:=Tbe (Tbs om h8) (by decide);have hor:=Zds (a:=v.getD p.1.toNat 0) (b:=v.getD p.2.toNat 0) om om
 have l1:=ZaQ g1;have l2:=ZaQ g2;have l3:=ZaR (l:=v);rw [hUi.1] at l3;have l4:=ZaL (l:=v);have l5:=ZcG (l:=v) p.1.toNat (v.getD p.1.toNat 0 ||| v.getD p.2.toNat 0);have i1:0<=p.1:=hps.1;have i2:0<=p.2:=hps.2.2.1;have i3:p.1.toNat < s.names.length:=om;have i4:p.2.toNat < s.names.length:=om;have F:=aj16 @q3 @hp @Zck @l1 @l2 @l3 @l4 @l5 @hor @i1 @i2 @i3 @i4 @hwi @hst @Zr9;refine gG ?_;exact ⟨i+1,hli,gw,gw,om⟩
theorem ZoP (h8:s.names.length<=8) (hm:s.subs.length<=16) (hs:Zdd s.names.length s.subs):Con e0 86 [.agg (Za9 s)] [.one (.sl (nR (kinds s)))]:=by
 rw [Za9];refine gI 4328555519 Tryz.func86 ?_;refine fG @e0P ?_;have F:=@Zwx;refine gL (ι:=Nat) [3,4,15] [3] (fun k=>[(4,A.d (.one (.lit (.int .i64 k)))),(3,.buf 3)]) (fun k=>[(3,.buf none 3 1 (nR (List.range k)))]) (fun k=>k<=s.names.length) (fun k=>s.names.length - k) (0) (Taj _) (fun k hk=>?_);clear F;by_cases hlt:k < s.names.length
 ·have q1:(k:Int) < (s.names.length:Int):=om;have hw:=Zat (k:=k) om;have l2:=ZaR (l:=List.range k);rw [List.length_range] at l2;have l3:=ZaL (l:=List.range k);have l4:=ZhB (l:=List.range k) k;rw [<- List.range_succ] at l4;have hmx:(k+1<=maxApp)=True:=eq_true (by unfold maxApp;omega);have F:=aj6 @q1 @l2 @l3 @l4 @hmx @hw;refine gG ?_;exact ⟨k+1,hlt,gw,gw,om⟩
 obtain rfl:k=s.names.length:=by omega
 have q1:¬ ((s.names.length:Int) < (s.names.length:Int)):=om;have hU:=KOk.start s.names.length;refine fG @q1 ?_;have F:=@Zsb;refine gL (ι:=Nat) [3,5,6,7,8,9,25,32] [3] (fun j=>[(5,A.d (.one (.lit (.int .i64 j)))),(3,.buf 3)]) (fun j=>[(3,.buf none 3 1 (nR (ZdG s.subs j (List.range s.names.length))))]) (fun j=>j<=s.names.length) (fun j=>s.names.length - j) (0) (Taj _) (fun j hj=>?_);clear F;have hUj:=KOk.iter hs j hU
 have l0:=ZaR (l:=ZdG s.subs j (List.range s.names.length));rw [hUj.1] at l0;by_cases hlj:j < s.names.length;rotate_left
 ·obtain rfl:j=s.names.length:=by omega
  have q2:¬ ((s.names.length:Int) < (s.names.length:Int)):=om;rw [kinds];refine fG (ai @l0 @q2) ?_;have F:=@e0P;refine gG ?_;exact gTz [2]
 have q2:(j:Int) < (s.names.length:Int):=om;have hwj:=Zat (k:=j) om;have hnx:ZdG s.subs (j+1) (List.range s.names.length)=s.subs.foldl kSub (ZdG s.subs j (List.range s.names.length)):=rfl;generalize ZdG s.subs j (List.range s.names.length)=u at hUj hnx l0 ⊢;refine fG (ai @l0 @q2) ?_;have F:=@Zww;refine gL (ι:=Nat) [3,6,7,8,9,32] [3] (fun i=>[(6,A.d (.one (.lit (.int .i64 i)))),(3,.buf 3)]) (fun i=>[(3,.buf none 3 1 (nR ((s.subs.take i).foldl kSub u)))]) (fun i=>i<=s.subs.length) (fun i=>s.subs.length - i) (0) (Taj _) (fun i hi=>?_);clear F
 by_cases hli:i < s.subs.length;rotate_left
 ·obtain rfl:i=s.subs.length:=by omega
  have q3:¬ ((s.subs.length:Int) < (s.subs.length:Int)):=om;rw [Tap,<- hnx];have F:=ai @q3 @hwj;refine gG ?_;exact ⟨j+1,hlj,gw,gw,om⟩
 have q3:(i:Int) < (s.subs.length:Int):=om;have hwi:=Zat (k:=i) om;obtain ⟨p,hp⟩:∃ p,s.subs[i]?=some p:=⟨_,Taa hli⟩;have hps:=hs p (Tac hp);have hst:=ZmR hp u;have hUi:=KOk.foldl hUj (hs.take i);generalize (s.subs.take i).foldl kSub u=v at hUi hst ⊢;obtain ⟨g1,b1⟩:=hUi.get (i:=p.1.toNat) om;obtain ⟨g2,b2⟩:=hUi.get (i:=p.2.toNat) om;have l1:=ZaQ g1;have l2:=ZaQ g2;have l3:=ZaR (l:=v);rw [hUi.1] at l3
 have l4:=ZaL (l:=v);have l5:=ZcG (l:=v) p.1.toNat (min (v.getD p.1.toNat 0) (v.getD p.2.toNat 0));have l6:=ZcG (l:=v.set p.1.toNat (min (v.getD p.1.toNat 0) (v.getD p.2.toNat 0))) p.2.toNat (min (v.getD p.1.toNat 0) (v.getD p.2.toNat 0));have l7:=ZaR (l:=v.set p.1.toNat (min (v.getD p.1.toNat 0) (v.getD p.2.toNat 0)));rw [Taz,hUi.1] at l7;have l8:=ZaL (l:=v.set p.1.toNat (min (v.getD p.1.toNat 0) (v.getD p.2.toNat 0)))
 obtain ⟨x9,g9⟩:∃ x,(v.set p.1.toNat (min (v.getD p.1.toNat 0) (v.getD p.2.toNat 0)))[p.2.toNat]?=some x:=⟨_,Taa (by rw [Taz,hUi.1];omega)⟩;have l9:=ZaQ g9;have i1:0<=p.1:=hps.1;have i2:0<=p.2:=hps.2.2.1;have i3:p.1.toNat < s.names.length:=om;have i4:p.2.toNat < s.names.length:=om;have hst:(s.subs.take (i+1)).foldl kSub u=(v.set p.1.toNat (min (v.getD p.1.toNat 0) (v.getD p.2.toNat 0))).set p.2.toNat (min (v.getD p.1.toNat 0) (v.getD p.2.toNat 0)):=hst
 refine fN 12 @q3 ?_;refine Zao 14 (by decide +kernel) ?_;intro ds hds;simp only [List.map] at hds;subst hds;refine (have F:=ai hp Zck;gP 12 ?_);refine (have F:=i1;gAq ?_);refine (have F:=i1;gAq ?_);refine fR @i1 ?_;refine fN 13 @e0P ?_;refine gB ?_;refine fC (aj8 @l1 @l2 @l3 @l4 @i1 @i2 @i3 @i4) (Zwv (v.getD p.1.toNat 0) (v.getD p.2.toNat 0)) ?_;refine fR @e0P ?_;have F:=aj15 @l1 @l2 @l3 @l4 @l5 @l6 @l7 @l8 @l9 @i1 @i2 @i3 @i4 @hwi @hst;refine gG ?_;exact ⟨i+1,hli,gw,gw,om⟩
theorem ZdP (hs:SortsOk s):Con e0 86 [.agg (Za9 s)] [.one (.sl ((Zb8 (kinds s)).map ZbA))]:=ZoP hs.n8 hs.m16 (SortsOk.subsIn hs.subs)
end
theorem Zle {x k:Nat} (hx:x < 4611686018427387904) (hk:k < 62):decide (bits .and .i64 (x:Int) ((2 ^ k:Nat):Int)=0)=!(tbit x k):=by
 rw [tbit,<- testBit_and,ZdF hx (Zgt hk)];simp only [bne,Bool.not_not];rw [Bool.eq_iff_iff,decide_eq_true_eq,beq_iff_eq];omega
theorem Zs1 {a:Nat} (ha:a < 65536):Con e0 93 [.one (.lit (.int .i64 a))] [.one (.sl (nR (Zen a)))]:=by
 have cS:=Zwt (a:Int);have z0:decide (0<=(a:Int)∧(a:Int)<=65535)=true:=decide_eq_true om;rw [z0] at cS;refine gI 264221 Tryz.func93 ?_;refine fG @e0P ?_;have F:=@ZAy;refine gL (ι:=Nat) [3,4,11,18] [3] (fun k=>[(4,A.d (.one (.lit (.int .i64 k)))),(3,.buf 3)]) (fun k=>[(3,.buf none 3 1 (nR (ZcE a k)))]) (fun k=>k<=16) (fun k=>16 - k) (0) om (fun k hk=>?_);clear F;by_cases hlt:k < 16;rotate_left
 ·obtain rfl:k=16:=by omega
  have q1:¬ (((16:Nat):Int) < 16):=om;rw [show Zen a=ZcE a 16 from rfl];refine fG @q1 ?_;have F:=@e0P;refine gG ?_;exact gTz [2]
 have q1:=lT k 16;have hw:=Zat (k:=k) om;have h1:=Zf6 (k:=k) om;have h2:=Zle (x:=a) (k:=k) om om;refine fN 3 @e0P ?_;refine gB ?_;refine fC @q1 (cS) ?_;refine fR @q1 ?_;have l2:=ZaR (l:=ZcE a k);have l3:=ZaL (l:=ZcE a k);have l4:=ZhB (l:=ZcE a k) k;have hmx:((ZcE a k).length+1<=maxApp)=True:=eq_true (by have:=Zla a k;unfold maxApp;omega)
 cases hb:tbit a k with
 | false =>
  rw [hb] at h2;rw [<- Zwq hb];have F:=aj5 @q1 @h1 @h2 @Zar @hw;refine gG ?_;exact ⟨k+1,hlt,gw,gw,om⟩
 | true =>
  rw [hb] at h2;rw [<- Zs0 hb] at l4;have F:=aj9 @q1 @h1 @h2 @Zar @l2 @l3 @l4 @hmx @hw;refine gG ?_;exact ⟨k+1,hlt,gw,gw,om⟩
end Go.Proofs.YtmdkimnlbaahbaaGreatDoor
namespace Go.Proofs.YtmdkimnlbaahbaaGreatDoor
open Go.RowKit Go.MapKept Go.ChangeMaps
def MapL (w:World) (b:Nat) (l:List (ByteArray × Value)):Prop:=∃ (es:Array MapEntry) (clock:Nat),w.heap[b]?=some (.map es clock)∧es.toList.map (fun e=>(e.key,e.val))=l.map (fun p=>(Value.string p.1,p.2))
def ZbM (l:List (ByteArray × Value)) (s:ByteArray):Option Value:=(l.find? fun p=>s.toList==p.1.toList).map (·.2)
def mapB (b:Nat) (l:List (ByteArray × Value)):Bk:=.set (fun g=>g=b) fun w=>MapL w b l
theorem MapL.stable (b:Nat) (l:List (ByteArray × Value)):Zc1 (fun g=>g=b) fun w=>MapL w b l:=fun w w' _ hE ⟨es,c,h1,h2⟩=>⟨es,c,by rw [hE b rfl];exact h1,h2⟩
theorem MapL.lt {w:World} {b:Nat} {l:List (ByteArray × Value)} (h:MapL w b l):b < w.heap.size:=by
 obtain ⟨es,clock,h,_⟩:=h;exact (Tbl.1 h).1
theorem Zkr (s:ByteArray):∀ (es:List MapEntry) (l:List (ByteArray × Value)) (i:Nat),es.map (fun e=>(e.key,e.val))=l.map (fun p=>(Value.string p.1,p.2)) ->
  (∀ v,ZbM l s=some v->∃ j,Instr.findNow .string (.string s) es i=some (some (j,v)))∧(ZbM l s=none->Instr.findNow .string (.string s) es i=some none)
 | [],[],i,_=>⟨fun v h=>by simp [ZbM] at h,fun _=>rfl⟩
 | [],_::_,_,h=>by simp at h
 | _::_,[],_,h=>by simp at h
 | e::es,t::ts,i,h=>by
  simp only [Tbu,List.cons.injEq,Prod.mk.injEq] at h;obtain ⟨⟨h1,h2⟩,h3⟩:=h;obtain ⟨ih1,ih2⟩:=Zkr s es ts (i+1) h3;simp only [Instr.findNow,h1,h2,Instr.sameNow,beq_toListBytes,ZbM,List.find?_cons]
  cases he:(s.toList==t.1.toList)
  ·exact ⟨ih1,ih2⟩
  ·exact ⟨fun v hv=>⟨i,by simpa using hv⟩,fun h=>by simp at h⟩
section
variable {P:Program} {w:World} {b:Nat} {l:List (ByteArray × Value)} {t k el:TypeId}
theorem Zya (h:MapL w b l) (ht:P.underlying t=some (.map k el)) (hk:P.underlying k=some .string) {z:Value} (hz:∀ w,(zeroValue el).run P w=.ok z w) (s:ByteArray) (ok:Bool) :
  (Instr.lookup t (.map (some b)) (.string s) ok).run P w=.ok (if ok then .tuple #[(ZbM l s).getD z,.bool (ZbM l s).isSome] else (ZbM l s).getD z) w:=by
 obtain ⟨es,clock,h1,h2⟩:=h;obtain ⟨f1,f2⟩:=Zkr s es.toList l 0 h2;have hc:∀ em,(Instr.checkKey em 10000 k (.string s)).run P w=.ok () w:=fun em=>MapKept.run_checkKey hk (by simp [MapKept.IsKey]) em 9999;rcases hs:ZbM l s with _ | v
 ·have:=MapKept.run_findKey (w:=w) hk (f2 hs);simp [Instr.lookup,run_underlying ht,MapKept.run_getObj_map h1,hc,this,hs,hz]
 ·obtain ⟨j,hf⟩:=f1 v hs;have:=MapKept.run_findKey (w:=w) hk hf;simp [Instr.lookup,run_underlying ht,MapKept.run_getObj_map h1,hc,this,hs]
theorem ZAz (h:MapL w b l) (ht:P.underlying t=some (.map k el)) (hk:P.underlying k=some .string) {s:ByteArray} (hs:ZbM l s=none) (v:Value) :
  ∃ w',(Instr.mapUpdate t (.map (some b)) (.string s) v).run P w=.ok () w'∧MapL w' b (l++[(s,v)])∧w'.os=w.os∧w'.tape=w.tape∧w'.output=w.output∧w'.drawn=w.drawn∧w'.heap.size=w.heap.size∧∀ x,x≠b->w'.heap[x]?=w.heap[x]?:=by
 obtain ⟨es,clock,h1,h2⟩:=h;obtain ⟨f1,f2⟩:=Zkr s es.toList l 0 h2;have hc:∀ em,(Instr.checkKey em 10000 k (.string s)).run P w=.ok () w:=fun em=>MapKept.run_checkKey hk (by simp [MapKept.IsKey]) em 9999;have:=MapKept.run_findKey (w:=w) hk (f2 hs);refine ⟨setBlock w b (.map (es.push { key:=.string s,val:=v,born:=clock }) (clock+1)),?_,⟨_,_,heap_setBlock_same h1 _,by simp [h2]⟩,rfl,rfl,rfl,rfl,by simp [setBlock],fun x hx=>heap_setBlock_other h1 _ hx⟩
 simp [Instr.mapUpdate,run_underlying ht,MapKept.run_getObj_map h1,hc,this,MapKept.run_setObj_map _ h1,setBlock]
end
section
variable {e:Env} {σ:St} {o:Oper} {K:St->Prop}
theorem Zqe {t:TypeId} (ho:o.op=.makeMap t none) {d:Nat} (hdd:o.dst=some d) (hK:∀ b:Nat,K ⟨(d,.d (.one (.lit (.map (some b)))))::Zaq d σ.s,(d,mapB b [])::remM d σ.m⟩):ZbN e o σ K:=by
 intro he U w0 S0 nt a w Q hd ⟨S,L,h1⟩;have hb:Below w.heap.size w (w.alloc (.map #[] 0)):=ZdW w _;have hk:Kept e.D (fun b=>(none:Option Nat)=some b) w.heap.size w (w.alloc (.map #[] 0)):=Kept.of_below hb (fun _=>Tai _);unfold Oper.wp;have hrun:(execOp a.eval o).run e.P w=.ok (.value (.map (some w.heap.size))) (w.alloc (.map #[] 0)):=by
  simp [execOp,ho,Instr.makeMap,newObj,Result.andThen];rfl
 rw [hrun,Oper.upon_value,hdd];refine ⟨_,hK w.heap.size,h1.born he (hd d hdd) (τ:=none) (b':=0) (v':=Go.undef) (S':=S) (fun _ h=>h) (fun _ h=>.inl h) (fun t=>.inl rfl) (fun k x h=>h) (by simp) (by simp) hk ?_ ?_ (by simp [ARel,DRel,Rep])⟩
 ·simp only [Own1,mapB];refine ⟨fun b hb'=>?_,⟨#[],0,heap_alloc_new w _,rfl⟩,MapL.stable _ _⟩;subst hb';exact ⟨by simp,fun hs=>by have:=(h1.cls.sin _ hs).1;omega⟩
 ·intro g hg;simp only [Zay,mapB] at hg;exact .inr om
theorem ZmS {t:TypeId} {x y:Operand} {ok:Bool} (ho:o.op=.lookup t x y ok) {κ b:Nat} {l:List (ByteArray × Value)} {s:ByteArray} {kt el:TypeId} {z:Value} (ht:e.P.underlying t=some (.map kt el)) (hk:e.P.underlying kt=some .string) (hz:∀ w,(zeroValue el).run e.P w=.ok z w)
  (hx:evA σ.s x=.d (.one (.lit (.map (some b))))) (hy:evA σ.s y=.d (.one (.lit (.string s)))) (hm:gm σ.m κ=some (mapB b l)) {α:A} (hα:∀ (w:World) (S:Nat->Prop) (L:Lay),ARel w S L α (if ok then .tuple #[(ZbM l s).getD z,.bool (ZbM l s).isSome] else (ZbM l s).getD z)) (hK:K ⟨setA σ.s o.dst α,σ.m⟩):ZbN e o σ K:=by
 intro he U w0 S0 nt a w Q hd ⟨S,L,h1⟩;have hx':=h1.eval x;have hy':=h1.eval y;rw [hx] at hx';rw [hy] at hy';have hx':a.eval x=.map (some b):=by simpa [ARel,DRel,Rep] using hx'
 have hy':a.eval y=.string s:=by simpa [ARel,DRel,Rep] using hy'
 obtain ⟨_,hM,_⟩:=h1.cls.own κ _ hm;unfold Oper.wp;have hrun:(execOp a.eval o).run e.P w=.ok (.value (if ok then .tuple #[(ZbM l s).getD z,.bool (ZbM l s).isSome] else (ZbM l s).getD z)) w:=by
  simp [execOp,ho,hx',hy',Zya hM ht hk hz s ok,Result.andThen]
 rw [hrun,Oper.upon_value];exact ⟨_,hK,S,L,h1.put (hα w S L) hd⟩
theorem Zyb {t:TypeId} {x y u:Operand} (ho:o.op=.mapUpdate t x y u) {κ b:Nat} {l:List (ByteArray × Value)} {s:ByteArray} {kt el:TypeId} {v:Value} (hdn:o.dst=none) (ht:e.P.underlying t=some (.map kt el)) (hk:e.P.underlying kt=some .string)
  (hx:evA σ.s x=.d (.one (.lit (.map (some b))))) (hy:evA σ.s y=.d (.one (.lit (.string s)))) (hu:evA σ.s u=.d (.one (.lit v))) (hm:gm σ.m κ=some (mapB b l)) (hs:ZbM l s=none) (hK:K ⟨σ.s,(κ,mapB b (l++[(s,v)]))::remM κ σ.m⟩):ZbN e o σ K:=by
 intro he U w0 S0 nt a w Q hd ⟨S,L,h1⟩;have hx':=h1.eval x;have hy':=h1.eval y;have hu':=h1.eval u;rw [hx] at hx';rw [hy] at hy';rw [hu] at hu';have hx':a.eval x=.map (some b):=by simpa [ARel,DRel,Rep] using hx'
 have hy':a.eval y=.string s:=by simpa [ARel,DRel,Rep] using hy'
 have hu':a.eval u=v:=by simpa [ARel,DRel,Rep] using hu'
 obtain ⟨hbb,hM,_⟩:=h1.cls.own κ _ hm;obtain ⟨w',hrun,hM',o1,o2,o3,o4,o5,o6⟩:=ZAz hM ht hk hs v;unfold Oper.wp;have hrun:(execOp a.eval o).run e.P w=.ok .skip w':=by
  simp [execOp,ho,hx',hy',hu',hrun,Result.andThen]
 rw [hrun,Oper.upon_skip,hdn];have hkc:∀ c,S c->w'.heap[c]?=w.heap[c]?:=fun c hc=>o6 c fun e1=>(hbb b rfl).2 (e1 ▸ hc)
 obtain ⟨t1,t2,t3⟩:=h1.touch he (d:=κ) (bk:=mapB b (l++[(s,v)])) (m':=(κ,mapB b (l++[(s,v)]))::remM κ σ.m) (w':=w') (L':=L) (τ:=some b) (S':=S) (fun _ h=>h) (fun _ h=>.inl h)
  (fun k' x hkd hx=>by simp only [gm,hkd,if_false,ZaC] at hx;exact hx) (by simp [gm]) (fun _ _=>⟨rfl,rfl⟩)
  (fun g hg=>by injection hg with hg;subst hg;exact ⟨(hbb b rfl).2,h1.cls.notE hm rfl,h1.cls.mine κ _ _ hm rfl⟩)
  (fun k' x g hkd hx hg hb=>by
   injection hg with hg;subst hg
   simp only [gm,hkd,if_false,ZaC] at hx;exact hkd (h1.cls.inj k' κ x _ _ hx hm hb rfl))
  ⟨o1,o2,o3,fun _=>Nat.le_of_eq o4.symm,om,fun c hc hE=>o6 c (fun eq=>hE (by rw [eq]))⟩
  ⟨fun c hc=>by have:=hbb c hc;exact ⟨om,this.2⟩,hM',MapL.stable _ _⟩ (fun g hg=>.inl (by simp only [Zay,mapB] at hg;rw [hg]))
 exact ⟨_,hK,S,L,t1,fun t=>t3 _ _ (fun _=>⟨rfl,rfl⟩) (h1.rel t),h1.size,h1.defers,t2⟩
end
section
variable {e:Env} {K:St->Prop} {ds:List (Option Nat)} {os:List Oper} {s:List (Nat × A)} {m:List (Nat × Bk)}
theorem Zf7 {o:Oper} {σ:St} (hg:o.guard=none) (h:ZbN e o σ (fun σ'=>Runs e ds 0 os σ' K)):Runs e ds 0 (o::os) σ K:=by
 simp only [Runs] at h ⊢;exact ZcP hg h
theorem gMk {d t ty:Nat} {p:String} {ed:Array Edge} {s2:List (Nat × A)} {m2:List (Nat × Bk)} (hK:∀ b:Nat,Runs e ds 0 os ⟨(d,.d (.one (.lit (.map (some b)))))::s2,(d,mapB b [])::m2⟩ K) (hs:Zaq d s=s2:=by exact snv) (hr:remM d m=m2:=by exact snv):Runs e ds 0 (⟨some d,.makeMap t none,ty,p,ed,none⟩::os) ⟨s,m⟩ K :=
 Zf7 rfl (Zqe rfl rfl (by simp only [hs,hr];exact hK))
theorem gLk {d t ty:Nat} {p:String} {ed:Array Edge} {x y:Operand} {b:Nat} {l:List (ByteArray × Value)} {k:ByteArray} {kt el:TypeId} {z v:Value} (κ:Nat) (ht:e.P.underlying t=some (.map kt el)) (hk:e.P.underlying kt=some .string) (hz:∀ w,(zeroValue el).run e.P w=.ok z w) (hv:(ZbM l k).getD z=v)
  (hK:Runs e ds 0 os ⟨(d,.d (.one (.lit v)))::s,m⟩ K) (hx:evA s x=.d (.one (.lit (.map (some b)))):=by exact sfx) (hy:evA s y=.d (.one (.lit (.string k))):=by exact sfx) (hm:gm m κ=some (mapB b l):=by exact snx):Runs e ds 0 (⟨some d,.lookup t x y false,ty,p,ed,none⟩::os) ⟨s,m⟩ K :=
 Zf7 rfl (ZmS rfl ht hk hz hx hy hm (α:=.d (.one (.lit v))) (fun w S L=>by rw [<- hv];simp [ARel,DRel,Rep]) hK)
theorem gUp {t ty:Nat} {p:String} {ed:Array Edge} {x y u:Operand} {b:Nat} {l:List (ByteArray × Value)} {k:ByteArray} {kt el:TypeId} {v:Value} {m2:List (Nat × Bk)} (κ:Nat) (ht:e.P.underlying t=some (.map kt el)) (hk:e.P.underlying kt=some .string) (hs:ZbM l k=none)
  (hK:Runs e ds 0 os ⟨s,(κ,mapB b (l++[(k,v)]))::m2⟩ K) (hx:evA s x=.d (.one (.lit (.map (some b)))):=by exact sfx) (hy:evA s y=.d (.one (.lit (.string k))):=by exact sfx) (hu:evA s u=.d (.one (.lit v)):=by exact sfx)
  (hm:gm m κ=some (mapB b l):=by exact snx) (hr:remM κ m=m2:=by exact snv):Runs e ds 0 (⟨none,.mapUpdate t x y u,ty,p,ed,none⟩::os) ⟨s,m⟩ K :=
 Zf7 rfl (Zyb rfl rfl ht hk hx hy hu hm hs (by simp only [hr];exact hK))
end
end Go.Proofs.YtmdkimnlbaahbaaGreatDoor
namespace Go.Proofs.YtmdkimnlbaahbaaGreatDoor
open Go.RowKit
def Zdp (l:List ByteArray):List (ByteArray × Value):=l.map fun x=>(x,.bool true)
theorem Zlf (l:List ByteArray) (s:ByteArray):ZbM (Zdp l) s=if Zbe l s then some (.bool true) else none:=by
 induction l with
 | nil=>rfl
 | cons x xs ih =>
  simp only [ZbM,Zdp,Zbe,Tbu,List.any_cons] at ih ⊢;by_cases h:(s.toList==x.toList)=true
  ·rw [List.find?_cons_of_pos (by exact h)];simp [h]
  ·rw [List.find?_cons_of_neg (by exact h),ih];simp [h]
theorem Zs2 {l:List ByteArray} {i:Nat} {x:ByteArray} (h:l[i]?=some x):Zdp (l.take i)++[(x,.bool true)]=Zdp (l.take (i+1)):=by
 rw [List.take_add_one,h,Zdp,Zdp,Tbv];rfl
theorem Zgy:∀ x,ZbR x=[.lit (.string x)]:=fun _=>rfl
theorem Zgf:e0.P.underlying 119=some (.map 9 4):=by kernel_rfl
theorem ZdN:e0.P.underlying 9=some .string:=by kernel_rfl
theorem Zju:∀ w,(zeroValue 4).run e0.P w=.ok (.bool false) w:=fun w=>by kernel_rfl
theorem ZAA:Zdp []=[]∧∀ l:List ByteArray,Zdp (l.take 0)=[]:=⟨rfl,fun _=>rfl⟩
section
variable {s:Srt}
theorem Zis (hok:Zk8 s):Con e0 91 [.agg (Za9 s)] [.one (.lit (.bool (Zb3 s)))]:=by
 have hno:¬ SortsOk s->Zb3 s=false:=ZfV;have cU:=fun h1 h2 h3 h4=>Zir (s:=s) h1 h2 h3 h4;have hrs:=ZiJ s.names;rw [Za9] at cU ⊢;refine gI 41538379337072913235836183427157855 Tryz.func91 ?_;by_cases h1:1<=s.names.length;rotate_left
 ·have hf:=hno fun h=>h1 h.n1;have z1:=lT s.names.length 1;exact fT (ai @z1 @hf)
 have z1:=lF s.names.length 1;by_cases h8:s.names.length<=8;rotate_left
 ·have hf:=hno fun h=>h8 h.n8;have z2:=lT 8 s.names.length;exact fT (aj3 @z1 @z2 @hf)
 have z2:=lF 8 s.names.length;by_cases h16:s.subs.length<=16;rotate_left
 ·have hf:=hno fun h=>h16 h.m16;have z3:=lT 16 s.subs.length;exact fT (aj4 @z1 @z2 @z3 @hf)
 have z3:=lF 16 s.subs.length;refine fN 4 (aj3 @z1 @z2 @z3) ?_;refine gB ?_;refine gMk fun b=>?_;refine fR @e0P ?_;refine fG @e0P ?_;have F:=@ZAA;refine gL (ι:=Nat) [2,6,31,32,42] [27] (fun i=>[(31,A.d (.one (.lit (.int .i64 i))))]) (fun i=>[(27,mapB b (Zdp (s.names.take i)))]) (fun i=>i<=s.names.length∧∀ j,j < i->ZiL s.names j) (fun i=>s.names.length - i) (0) (⟨Taj _,fun j h=>absurd h om⟩) (fun i hi=>?_);clear F
 obtain ⟨hil,hall⟩:=hi;by_cases hlt:i < s.names.length
 ·have q1:(i:Int) < (s.names.length:Int):=om;obtain ⟨x,hx⟩:∃ x,s.names[i]?=some x:=⟨_,Taa hlt⟩;have hw:=Zat (k:=i) om;have hfs:=Zlf (s.names.take i) x;have hbad:¬ (Zba x=true∧Zbe (s.names.take i) x=false)->Zb3 s=false:=fun h=>hno fun hs=>h (hs.names i hlt x hx);have cN:=Zgv (hok.1 x (Tac hx));refine fN 8 (aj3 @q1 @hx @Zgy) ?_;refine gB ?_;have F:=@e0P;refine gP 2 ?_;clear F
  cases hh:Zbe (s.names.take i) x with
  | true =>
   rw [hh] at hfs hbad;have hf:=hbad fun h=>by cases h.2
   refine (have F:=e0P;gLk 27 Zgf ZdN Zju (v:=.bool true) (by rw [hfs];rfl) ?_);refine fR @e0P ?_;exact fT @hf
  | false =>
  rw [hh] at hfs hbad;refine (have F:=e0P;gLk 27 Zgf ZdN Zju (v:=.bool false) (by rw [hfs];rfl) ?_);refine fC @e0P (cN) ?_
  cases hn:Zba x with
  | false =>
   have hf:=hbad fun h=>by rw [hn] at h;cases h.1
   refine fR @e0P ?_;exact fT @hf
  | true =>
  have hq:i+1<=s.names.length∧∀ j,j < i+1->ZiL s.names j:=⟨hlt,fun j hj=>by
   by_cases e:j=i
   ·subst e;intro y hy;rw [hx] at hy;injection hy with hy
    subst hy;exact ⟨hn,hh⟩
   ·exact hall j om⟩
  have hsn:=Zs2 hx;refine fR @e0P ?_;refine fN 10 @e0P ?_;refine gB ?_;have F:=@e0P;refine gP 2 ?_;clear F;refine (have F:=e0P;gUp 27 Zgf ZdN (by rw [hfs];rfl) ?_);rw [hsn];refine fR @e0P ?_;have F:=@hw;refine gG ?_;exact ⟨i+1,hq,gw,gw,om⟩
 obtain rfl:i=s.names.length:=by omega
 have q1:¬ ((s.names.length:Int) < (s.names.length:Int)):=om;refine fG @q1 ?_;have F:=@e0P;refine gL (ι:=Nat) [2,8,49,50,79] [] (fun k=>[(49,A.d (.one (.lit (.int .i64 k))))]) (fun k=>[]) (fun k=>k<=s.subs.length∧∀ (j:Nat) p,j < k->s.subs[j]?=some p->Zez s.names.length p) (fun k=>s.subs.length - k) (0) (⟨Taj _,fun j p h=>absurd h om⟩) (fun k hk=>?_);clear F;obtain ⟨hkl,hsub⟩:=hk;by_cases hlk:k < s.subs.length
 ·have q2:(k:Int) < (s.subs.length:Int):=om;obtain ⟨p,hp⟩:∃ x,s.subs[k]?=some x:=⟨_,Taa hlk⟩;have hw:=Zat (k:=k) om;have hbad:¬ Zez s.names.length p->Zb3 s=false:=fun h=>hno fun hs=>h (hs.subs p (Tac hp));by_cases c1:p.1 < 0
  ·have hf:=hbad fun h=>by have:=h.1;omega
   exact fT (aj5 @q2 @hp @Zck @c1 @hf)
  by_cases c2:(s.names.length:Int)<=p.1
  ·have hf:=hbad fun h=>by have:=h.2.1;omega
   exact fT (aj6 @q2 @hp @Zck @c1 @c2 @hf)
  by_cases c3:p.2 < 0
  ·have hf:=hbad fun h=>by have:=h.2.2.1;omega
   exact fT (aj7 @q2 @hp @Zck @c1 @c2 @c3 @hf)
  by_cases c4:(s.names.length:Int)<=p.2
  ·have hf:=hbad fun h=>by have:=h.2.2.2.1;omega
   exact fT (aj8 @q2 @hp @Zck @c1 @c2 @c3 @c4 @hf)
  by_cases c5:p.1=p.2
  ·have hf:=hbad fun h=>h.2.2.2.2 c5;have c5:(p.1=p.2)=True:=eq_true c5;exact fT (aj9 @q2 @hp @Zck @c1 @c2 @c3 @c4 @c5 @hf)
  have hq:k+1<=s.subs.length∧∀ (j:Nat) p,j < k+1->s.subs[j]?=some p->Zez s.names.length p:=⟨hlk,fun j p' hj hp'=>by
   by_cases e:j=k
   ·subst e;rw [hp] at hp';injection hp' with hp'
    subst hp';exact ⟨om,om,om,om,c5⟩
   ·exact hsub j p' om hp'⟩
  have F:=aj9 @q2 @hp @Zck @c1 @c2 @c3 @c4 @c5 @hw;refine gG ?_;exact ⟨k+1,hq,gw,gw,om⟩
 obtain rfl:k=s.subs.length:=by omega
 have q2:¬ ((s.subs.length:Int) < (s.subs.length:Int)):=om;have hsubs:∀ p∈s.subs,Zez s.names.length p:=fun p hp=>by obtain ⟨j,hj⟩:=Tbk hp;exact hsub j p (Tad.1 hj).1 hj
 have hSI:=SortsOk.subsIn hsubs;have hU:=Zft hSI;have hyes:(∀ i k,i < s.names.length->k < s.names.length->Zc3 (up s) i k)->Zb3 s=true:=fun h=>ZeX ⟨h1,h8,h16,fun i hi=>hall i hi,hsubs,h⟩;have hno2:∀ i k,i < s.names.length->k < s.names.length->¬ Zc3 (up s) i k->Zb3 s=false:=fun i k h1 h2 h3=>hno fun h=>h3 (h.pairs i k h1 h2);have lU:=ZaR (l:=up s);rw [hU.1] at lU;have rU:=ZaL (l:=up s);refine fB @q2 ?_
 refine fC @e0P (cU h1 h8 h16 hSI) ?_;refine fR @e0P ?_;generalize up s=u at hU hyes hno2 lU rU ⊢;have hpw:∀ i,i < s.names.length->u[i]?=some (u.getD i 0)∧u.getD i 0 < 4611686018427387904:=fun i hi=>by
  obtain ⟨g1,g2⟩:=hU.get hi;exact ⟨g1,Nat.lt_trans g2 (Zgt om)⟩
 refine fG @lU ?_;have F:=@e0P;refine gL (ι:=Nat) [2,10,11,85,86,89,90,91,115] [] (fun i=>[(85,A.d (.one (.lit (.int .i64 i))))]) (fun i=>[]) (fun i=>i<=s.names.length∧∀ i' k,i' < i->k < s.names.length->Zc3 u i' k) (fun i=>s.names.length - i) (0) (⟨Taj _,fun i' k h=>absurd h om⟩) (fun i hi=>?_);clear F;obtain ⟨hil,hpi⟩:=hi;by_cases hlt:i < s.names.length;rotate_left
 ·have q3:¬ ((i:Int) < (s.names.length:Int)):=om;have ht:=hyes fun i' k h1 h2=>hpi i' k om h2;exact fT (ai @q3 @ht)
 have q3:(i:Int) < (s.names.length:Int):=om;have hwi:=Zat (k:=i) om;obtain ⟨gi,bi⟩:=hpw i hlt;refine fG (ai @q3 @lU) ?_;have F:=@e0P;refine gL (ι:=Nat) [2,11,90,91,115] [] (fun k=>[(90,A.d (.one (.lit (.int .i64 k))))]) (fun k=>[]) (fun k=>k<=s.names.length∧∀ k',k' < k->Zc3 u i k') (fun k=>s.names.length - k) (0) (⟨Taj _,fun k h=>absurd h om⟩) (fun k hk=>?_);clear F;obtain ⟨hkl,hpk⟩:=hk;have hwk:=Zat (k:=k) om
 by_cases hlk:k < s.names.length;rotate_left
 ·have q4:¬ ((k:Int) < (s.names.length:Int)):=om;have hq:i+1<=s.names.length∧∀ i' k,i' < i+1->k < s.names.length->Zc3 u i' k:=⟨hlt,fun i' k' h h2=>by
   by_cases e:i'=i
   ·subst e;exact hpk k' om
   ·exact hpi i' k' om h2⟩
  have F:=ai @q4 @hwi;refine gG ?_;exact ⟨i+1,hq,gw,gw,om⟩
 have q4:(k:Int) < (s.names.length:Int):=om;obtain ⟨gk,bk⟩:=hpw k hlk;have nx:Zc3 u i k->k+1<=s.names.length∧∀ k',k' < k+1->Zc3 u i k':=fun h=>⟨hlk,fun k' h2=>by
  by_cases e:k'=k
  ·subst e;exact h
  ·exact hpk k' om⟩
 have si:=Zf6 (k:=i) om;have sk:=Zf6 (k:=k) om;have a1:=Zle (x:=u.getD i 0) (k:=k) bi om;have a2:=Zle (x:=u.getD k 0) (k:=i) bk om;have r1:=ZaQ gi;have r2:=ZaQ gk;by_cases hik:i=k
 ·have z4:((i:Int)=(k:Int))=True:=eq_true om;have hq:=nx fun h=>h.1 hik;have F:=aj3 @q4 @z4 @hwk;refine gG ?_;exact ⟨k+1,hq,gw,gw,om⟩
 have z4:((i:Int)=(k:Int))=False:=eq_false om
 cases b1:tbit (u.getD i 0) k with
 | false =>
  rw [b1] at a1;have hq:=nx fun h=>by have:=h.2.1;rw [show (u.getD i 0).testBit k=false from b1] at this;cases this
  have F:=aj8 @q4 @z4 @sk @a1 @r1 @rU @Zar @hwk;refine gG ?_;exact ⟨k+1,hq,gw,gw,om⟩
 | true =>
 rw [b1] at a1
 cases b2:tbit (u.getD k 0) i with
 | false =>
  rw [b2] at a2;have hq:=nx fun h=>by have:=h.2.2;rw [show (u.getD k 0).testBit i=false from b2] at this;cases this
  have F:=aj11 @q4 @z4 @sk @si @a1 @a2 @r1 @r2 @rU @Zar @hwk;refine gG ?_;exact ⟨k+1,hq,gw,gw,om⟩
 | true =>
  rw [b2] at a2;have hf:=hno2 i k hlt hlk fun h=>h ⟨hik,b1,b2⟩;exact fT (aj11 @q4 @z4 @sk @si @a1 @a2 @r1 @r2 @rU @Zar @hf)
end
theorem ZdH (x lo hi:Int):Con e0 79 [.one (.lit (.int .i64 x)),.one (.lit (.int .i64 lo)),.one (.lit (.int .i64 hi))] [.one (.lit (.bool (decide (lo<=x∧x<=hi))))]:=by
 refine gI 71 Tryz.func79 ?_;by_cases h1:lo<=x
 ·by_cases h2:x<=hi
  ·exact fT (ai @h1 @h2)
  ·exact fT (ai @h1 @h2)
 ·exact fT @h1
theorem Zwy {l:List ByteArray} (s:ByteArray) (hl:l.length<=1048576):Con e0 84 [.one (.sl (l.map ZbR)),.one (.lit (.string s))] [.one (.lit (.bool (Zbe l s)))]:=by
 have hr:=ZiJ l;refine gI 131635 Tryz.func84 ?_;refine fG @e0P ?_;have F:=@e0P;refine gL (ι:=Nat) [4,5,9,17] [] (fun i=>[(5,A.d (.one (.lit (.int .i64 i))))]) (fun i=>[]) (fun i=>i<=l.length∧Zbe l s=Zbe (l.drop i) s) (fun i=>l.length - i) (0) (⟨Taj _,rfl⟩) (fun i hi=>?_);clear F;obtain ⟨hil,he⟩:=hi;rw [he];by_cases hlt:i < l.length;rotate_left
 ·have q1:¬ ((i:Int) < (l.length:Int)):=om;have ht:Zbe (l.drop i) s=false:=by rw [List.drop_eq_nil_of_le om];rfl
  exact fT (ai @q1 @ht)
 have q1:(i:Int) < (l.length:Int):=om;obtain ⟨x,hx⟩:∃ x,l[i]?=some x:=⟨_,Taa hlt⟩;have hw:=Zat (k:=i) om;have hst:=Zqc (s:=s) hx
 cases hb:(x.toList==s.toList) with
 | true =>
  have ht:Zbe (l.drop i) s=true:=by rw [hst,hb];rfl
  exact fT (aj6 @q1 @hr @hx @Zgy @hb @ht)
 | false =>
  have hq:Zbe (l.drop i) s=Zbe (l.drop (i+1)) s:=by rw [hst,hb,Bool.false_or]
  have F:=aj6 @q1 @hr @hx @Zgy @hb @hw;refine gG ?_;exact ⟨i+1,⟨hlt,hq⟩,gw,gw,om⟩
section
variable {s:Srt}
theorem ZnH (hok:Zk8 s):Con e0 48 [.agg (Za9 s)] [.one (.lit (.bool (Zb3 s)))]:=by
 have hno:¬ SortsOk s->Zb3 s=false:=ZfV;have cU:=fun h2 h3 h4=>Zgx (s:=s) h2 h3 h4;have hrs:=ZiJ s.names;rw [Za9] at cU ⊢;refine gI 21267982750773439247570160629959360767 Tryz.func48 ?_;by_cases h1:1<=s.names.length;rotate_left
 ·have hf:=hno fun h=>h1 h.n1;have z1:=lT s.names.length 1;exact fT (ai @z1 @hf)
 have z1:=lF s.names.length 1;by_cases h8:s.names.length<=8;rotate_left
 ·have hf:=hno fun h=>h8 h.n8;have z2:=lT 8 s.names.length;exact fT (aj3 @z1 @z2 @hf)
 have z2:=lF 8 s.names.length;by_cases h16:s.subs.length<=16;rotate_left
 ·have hf:=hno fun h=>h16 h.m16;have z3:=lT 16 s.subs.length;exact fT (aj4 @z1 @z2 @z3 @hf)
 have z3:=lF 16 s.subs.length;have hw1n:IntKind.i64.wrap ((s.names.length:Int) - 1)=(s.names.length:Int) - 1:=IntWalk.i64_in _ om;refine fG (aj3 @z1 @z2 @z3) ?_;have F:=@e0P;refine gL (ι:=Nat) [2,3,28,49] [] (fun i=>[(3,A.d (.one (.lit (.int .i64 i))))]) (fun i=>[]) (fun i=>i<=s.names.length∧∀ j,j < i->ZiL s.names j) (fun i=>s.names.length - i) (0) (⟨Taj _,fun j h=>absurd h om⟩) (fun i hi=>?_);clear F
 obtain ⟨hil,hall⟩:=hi;by_cases hlt:i < s.names.length
 ·have q1:(i:Int) < (s.names.length:Int):=om;obtain ⟨x,hx⟩:∃ x,s.names[i]?=some x:=⟨_,Taa hlt⟩;have hw:=Zat (k:=i) om;have hbad:¬ (Zba x=true∧Zbe (s.names.take i) x=false)->Zb3 s=false:=fun h=>hno fun hs=>h (hs.names i hlt x hx);have cN:=Zgw (hok.1 x (Tac hx));have cH:=Zwy (l:=s.names.take i) x (by rw [Taw];omega);rw [List.map_take] at cH;have z4:((i:Int)<=(s.names.length:Int))=True:=eq_true om;refine fB @q1 ?_
  refine fC (aj3 @hrs @hx @Zgy) (cN) ?_
  cases hn:Zba x with
  | false =>
   have hf:=hbad fun h=>by rw [hn] at h;cases h.1
   refine fR @e0P ?_;exact fT @hf
  | true =>
  refine fC (aj5 @hrs @hx @Zgy @z4 @Zar) (cH) ?_
  cases hh:Zbe (s.names.take i) x with
  | true =>
   have hf:=hbad fun h=>by rw [hh] at h;cases h.2
   refine fR @e0P ?_;exact fT @hf
  | false =>
  have hq:i+1<=s.names.length∧∀ j,j < i+1->ZiL s.names j:=⟨hlt,fun j hj=>by
   by_cases e:j=i
   ·subst e;intro y hy;rw [hx] at hy;injection hy with hy
    subst hy;exact ⟨hn,hh⟩
   ·exact hall j om⟩
  refine fR @e0P ?_;have F:=@hw;refine gG ?_;exact ⟨i+1,hq,gw,gw,om⟩
 obtain rfl:i=s.names.length:=by omega
 have q1:¬ ((s.names.length:Int) < (s.names.length:Int)):=om;refine fG @q1 ?_;have F:=@e0P;refine gL (ι:=Nat) [2,4,54,97] [] (fun k=>[(4,A.d (.one (.lit (.int .i64 k))))]) (fun k=>[]) (fun k=>k<=s.subs.length∧∀ (j:Nat) p,j < k->s.subs[j]?=some p->Zez s.names.length p) (fun k=>s.subs.length - k) (0) (⟨Taj _,fun j p h=>absurd h om⟩) (fun k hk=>?_);clear F;obtain ⟨hkl,hsub⟩:=hk;by_cases hlk:k < s.subs.length
 ·have q2:(k:Int) < (s.subs.length:Int):=om;obtain ⟨p,hp⟩:∃ x,s.subs[k]?=some x:=⟨_,Taa hlk⟩;have hw:=Zat (k:=k) om;have hbad:¬ Zez s.names.length p->Zb3 s=false:=fun h=>hno fun hs=>h (hs.subs p (Tac hp));have hrb:=ZoE s.subs;refine fB @q2 ?_;refine fC (aj4 @hrb @hp @Zck @hw1n) (ZdH p.1 0 ((s.names.length:Int) - 1)) ?_;by_cases c1:0<=p.1∧p.1<=(s.names.length:Int) - 1;rotate_left
  ·have hf:=hbad fun h=>c1 ⟨h.1,by have:=h.2.1;omega⟩;have y1:decide (0<=p.1∧p.1<=(s.names.length:Int) - 1)=false:=decide_eq_false c1;refine fR @y1 ?_;exact fT @hf
  have y1:decide (0<=p.1∧p.1<=(s.names.length:Int) - 1)=true:=decide_eq_true c1;refine fC (aj5 @hrb @hp @Zck @hw1n @y1) (ZdH p.2 0 ((s.names.length:Int) - 1)) ?_;by_cases c2:0<=p.2∧p.2<=(s.names.length:Int) - 1;rotate_left
  ·have hf:=hbad fun h=>c2 ⟨h.2.2.1,by have:=h.2.2.2.1;omega⟩;have y2:decide (0<=p.2∧p.2<=(s.names.length:Int) - 1)=false:=decide_eq_false c2;refine fR (ai @y1 @y2) ?_;exact fT @hf
  have y2:decide (0<=p.2∧p.2<=(s.names.length:Int) - 1)=true:=decide_eq_true c2;by_cases c5:p.1=p.2
  ·have hf:=hbad fun h=>h.2.2.2.2 c5;have y5:(p.1=p.2)=True:=eq_true c5;refine fR (aj6 @y1 @y2 @hrb @hp @Zck @y5) ?_;exact fT @hf
  have y5:(p.1=p.2)=False:=eq_false c5;have hq:k+1<=s.subs.length∧∀ (j:Nat) p,j < k+1->s.subs[j]?=some p->Zez s.names.length p:=⟨hlk,fun j p' hj hp'=>by
   by_cases e:j=k
   ·subst e;rw [hp] at hp';injection hp' with hp'
    subst hp';exact ⟨om,om,om,om,c5⟩
   ·exact hsub j p' om hp'⟩
  refine fR (aj6 @y1 @y2 @hrb @hp @Zck @y5) ?_;have F:=@hw;refine gG ?_;exact ⟨k+1,hq,gw,gw,om⟩
 obtain rfl:k=s.subs.length:=by omega
 have q2:¬ ((s.subs.length:Int) < (s.subs.length:Int)):=om;have hsubs:∀ p∈s.subs,Zez s.names.length p:=fun p hp=>by obtain ⟨j,hj⟩:=Tbk hp;exact hsub j p (Tad.1 hj).1 hj
 have hSI:=SortsOk.subsIn hsubs;have hU:=Zft hSI;have hyes:(∀ i k,i < s.names.length->k < i->Zc3 (up s) i k)->Zb3 s=true:=fun h=>ZeX ⟨h1,h8,h16,fun i hi=>hall i hi,hsubs,fun i k hi hk hb=>by
  rcases Nat.lt_trichotomy i k with h2 | h2 | h2
  ·exact h k i hk h2 ⟨fun e=>hb.1 e.symm,hb.2.2,hb.2.1⟩
  ·exact hb.1 h2
  ·exact h i k hi h2 hb⟩
 have hno2:∀ i k,i < s.names.length->k < s.names.length->¬ Zc3 (up s) i k->Zb3 s=false:=fun i k h1 h2 h3=>hno fun h=>h3 (h.pairs i k h1 h2);have lU:=ZaR (l:=up s);rw [hU.1] at lU;have rU:=ZaL (l:=up s);refine fB @q2 ?_;refine fC @e0P (cU h8 h16 hSI) ?_;refine fR @e0P ?_;generalize up s=u at hU hyes hno2 lU rU ⊢;have hpw:∀ i,i < s.names.length->u[i]?=some (u.getD i 0)∧u.getD i 0 < 4611686018427387904:=fun i hi=>by
  obtain ⟨g1,g2⟩:=hU.get hi;exact ⟨g1,Nat.lt_trans g2 (Zgt om)⟩
 refine fG @lU ?_;have F:=@e0P;refine gL (ι:=Nat) [2,6,7,103,108,124] [] (fun i=>[(6,A.d (.one (.lit (.int .i64 i))))]) (fun i=>[]) (fun i=>i<=s.names.length∧∀ i' k,i' < i->k < i'->Zc3 u i' k) (fun i=>s.names.length - i) (0) (⟨Taj _,fun i' k h=>absurd h om⟩) (fun i hi=>?_);clear F;obtain ⟨hil,hpi⟩:=hi;by_cases hlt:i < s.names.length;rotate_left
 ·have q3:¬ ((i:Int) < (s.names.length:Int)):=om;have ht:=hyes fun i' k h1 h2=>hpi i' k om h2;exact fT (aj3 @q3 @lU @ht)
 have q3:(i:Int) < (s.names.length:Int):=om;have hwi:=Zat (k:=i) om;obtain ⟨gi,bi⟩:=hpw i hlt;refine fG (ai @q3 @lU) ?_;have F:=@e0P;refine gL (ι:=Nat) [2,7,108,124] [] (fun k=>[(7,A.d (.one (.lit (.int .i64 k))))]) (fun k=>[]) (fun k=>k<=i∧∀ k',k' < k->Zc3 u i k') (fun k=>i - k) (0) (⟨Taj _,fun k h=>absurd h om⟩) (fun k hk=>?_);clear F;obtain ⟨hkl,hpk⟩:=hk;have hwk:=Zat (k:=k) om;by_cases hlk:k < i
 rotate_left
 ·have q4:=lF k i;have hq:i+1<=s.names.length∧∀ i' k,i' < i+1->k < i'->Zc3 u i' k:=⟨hlt,fun i' k' h h2=>by
   by_cases e:i'=i
   ·subst e;exact hpk k' om
   ·exact hpi i' k' om h2⟩
  have F:=ai @q4 @hwi;refine gG ?_;exact ⟨i+1,hq,gw,gw,om⟩
 have q4:=lT k i;obtain ⟨gk,bk⟩:=hpw k om;have nx:Zc3 u i k->k+1<=i∧∀ k',k' < k+1->Zc3 u i k':=fun h=>⟨hlk,fun k' h2=>by
  by_cases e:k'=k
  ·subst e;exact h
  ·exact hpk k' om⟩
 have r1:=ZaQ gi;have r2:=ZaQ gk;refine fB @q4 ?_;refine fC (ai @rU @r1) (ZeP (a:=u.getD i 0) (k:=k) bi om) ?_
 cases b1:tbit (u.getD i 0) k with
 | false =>
  have hq:=nx fun h=>by have:=h.2.1;rw [show (u.getD i 0).testBit k=false from b1] at this;cases this
  refine fR @e0P ?_;have F:=@hwk;refine gG ?_;exact ⟨k+1,hq,gw,gw,om⟩
 | true =>
 refine fC (ai @rU @r2) (ZeP (a:=u.getD k 0) (k:=i) bk om) ?_
 cases b2:tbit (u.getD k 0) i with
 | false =>
  have hq:=nx fun h=>by have:=h.2.2;rw [show (u.getD k 0).testBit i=false from b2] at this;cases this
  refine fR @e0P ?_;have F:=@hwk;refine gG ?_;exact ⟨k+1,hq,gw,gw,om⟩
 | true =>
  have hf:=hno2 i k hlt om fun h=>h ⟨om,b1,b2⟩;refine fR @e0P ?_;exact fT @hf
end
end Go.Proofs.YtmdkimnlbaahbaaGreatDoor
