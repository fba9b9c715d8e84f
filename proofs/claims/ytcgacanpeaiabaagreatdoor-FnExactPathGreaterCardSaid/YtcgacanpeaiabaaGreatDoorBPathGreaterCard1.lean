/-
  Part of a proof: Qmb, Qmc, Qmd, Tt, Qme, Qf, LInt, LDecl, LOp, LString, LSub, LSorts, LSignature, Enc, Alg0, Qe, Qh, Qg, Dw, Door, Open2, Ow, Sb, LTerm, Tm, Cmp, Te0, Cp, Cmp2, Cmp3, Cmp4, Sp, Sn.
-/
import Derived.Test.YtcgacanpeaiabaaGreatDoorBPathGreaterCard0
import Derived.Test.YtcgacanpeaiabaaGreatDoorChecked
import Derived.Test.YtcgacanpeaiabaaGreatDoorRows
import Derived.Lib.LaidTab
import Derived.HandedShaped
import Derived.LaidMore
import Derived.LaidLaws
import Derived.ProofKit
import Derived.Stop.Joined
import Derived.Stop.LaidErr
import Derived.Lib.Bytealg
import Derived.Deep.RegionHeld3
import Derived.Deep.QuietTactic
import Derived.BigQuiet
set_option linter.unusedSimpArgs false
set_option linter.unusedVariables false
set_option maxHeartbeats 400000000
set_option maxRecDepth 100000
namespace Go.Proofs.YtcgacanpeaiabaaGreatDoor
open Go.RowKit
section
variable {e:Env} {U:Nat->Prop} {w0:World} {S0:Nat->Prop} {nt:Nat}
theorem SimE.drew {σ:St} {a:Act} {w:World} (he:e.Ok) (h:SimE e U w0 S0 nt σ a w):SimE e U w0 S0 nt σ a { w with drawn:=w.drawn+1 }:=by
 obtain ⟨S,L,h⟩:=h
 have hk:Kept e.D e.E w.heap.size w { w with drawn:=w.drawn+1 }:=⟨rfl,rfl,rfl,fun _=>Nat.le_succ _,Tai _,fun _ _ _=>rfl⟩
 exact ⟨S,L,h.later (h.cls.later hk (he.keep w _ (Tai _) (fun _ _=>rfl) h.cls.g) (fun _ h=>h) (fun _ h=>.inl h)) hk (fun _ h=>h)⟩
theorem Zhw (he:e.Ok) {id:Nat} {ops:Array Oper} {n:Nat} (hB:regB ops n=true) (hna:∀ o,(ops.toList.take n).getLast?=some o->isAl o=false) {K:St->Prop} {Q:Exit->Act->World->Prop} (hQ:∀ a w σ',K σ'->SimE e U w0 S0 nt σ' a w->Q .normal a w) {σ:St} {a:Act} {w:World}
  (hd:∀ o∈ops.toList,∀ d,o.dst=some d->d < nt) (h:SimE e U w0 S0 nt σ a w) (hp:Runs e (ops.toList.map (·.dst)) n ops.toList σ K):(Code.region id ops true).wp e.P Q a w:=by
 simp only [regB,Tar,Bool.or_eq_true,decide_eq_true_eq] at hB
 obtain ⟨⟨⟨hH,hn⟩,hs⟩,hsq⟩:=hB
 obtain ⟨S,L,h1⟩:=h.drew he
 refine wp_region_any he.mixed ?_
 have hsplit:ops.toList=ops.toList.take n++ops.toList.drop n:=(Tbj n _).symm
 have hlen:(ops.toList.take n).length=n:=by simp;omega
 have hp':Runs e (ops.toList.map (·.dst)) ((ops.toList.take n).length+0) (ops.toList.take n++ops.toList.drop n) σ K:=by rw [<- hsplit,hlen];exact hp
 obtain ⟨αs,hal,hch,hrest⟩:=ZdH (U:=U) he w0.heap.size S0 ops.toList (ops.toList.drop n) 0 (ops.toList.take n) σ (fun _=>hna) hp'
 rw [hlen] at hal
 have inv0:InvA e U w0 S0 nt σ.m ops n σ.s αs L (Array.replicate ops.size false) a { w with drawn:=w.drawn+1 } S :=
  ⟨⟨by simp,fun j oj _ hl=>(by rw [getD_replicate_false] at hl;cases hl),fun t _ ht=>getD_in (by simpa using ht) (getD_replicate_false _ _)⟩,h1.size,h1.defers,h1.cls,h1.kept,fun t _=>h1.rel t,fun i o d α _ hl=>(by rw [getD_replicate_false] at hl;cases hl)⟩
 have H:=ZcM (e:=e) (L:=L) (Q:=Q) he hH hn (fun hlt=>by
   rcases hs with hs | hs
   ·omega
   ·exact hs) hsq (fun i o d hi ho hdd=>hd o (List.mem_iff_getElem?.2 ⟨i,by simpa using ho⟩) d hdd) hal hch (Zhv hH Q) (fun _ _ _ _ _ _ _ _ _ _ _ _ _ _=>trivial) (fun listed a' w' S' hI _ hall=>?_) n _ a _ S inv0 trivial ?_
 ·rw [show n+(ops.size - n)=ops.size by omega] at H
  exact H
 ·have hsim:SimE e U w0 S0 nt ⟨after σ.s (ops.toList.take n) αs,σ.m⟩ a' w':=by
   refine ⟨S',L,hI.cls,fun t=>?_,hI.size,hI.defers,hI.kept⟩
   by_cases hex:∃ (j:Nat) (p:Oper),j < n∧ops[j]?=some p∧p.dst=some t
   ·obtain ⟨j,p,hj,hp,hpt⟩:=hex
    obtain ⟨p',d',hP⟩:=ZbW.get hH hj
    have hpp:p'=p:=by have:=hP.op;rw [hp] at this;injection this with this;exact this.symm
    subst hpp
    have hdt:d'=t:=by have:=hP.dst;rw [hpt] at this;injection this with this;exact this.symm
    subst hdt
    obtain ⟨α,hα⟩:∃ α,αs[j]?=some α:=⟨αs[j],Taa om⟩
    show ARel w' S' L (gs (after σ.s (ops.toList.take n) αs) d') _
    rw [Zdh (ops.toList.take n) αs σ.s j p' α (by rw [List.getElem?_take,if_pos hj];simpa using hp) hα hpt (fun k q hk hq=>by
     rw [List.getElem?_take] at hq
     split at hq
     ·exact (hP.dep k q om (by simpa using hq)).1 hk
     ·cases hq)]
    exact hI.done j p' d' α hj (hall j hj) hp hpt hα
   ·have hno:∀ (j:Nat) (p:Oper),j < n->ops[j]?=some p->p.dst≠some t:=fun j p hj hp hd=>hex ⟨j,p,hj,hp,hd⟩
    show ARel w' S' L (gs (after σ.s (ops.toList.take n) αs) t) _
    rw [Zcx _ _ _ (fun p hp=>by
     obtain ⟨j,hj⟩:=List.mem_iff_getElem?.1 hp
     rw [List.getElem?_take] at hj
     split at hj
     ·exact hno j p om (by simpa using hj)
     ·cases hj)]
    exact hI.out t hno
  have:=Zm8 he ops.toList hQ (ops.toList.drop n) _ a' w' (fun o ho=>hd o (List.mem_of_mem_drop ho)) hsim hrest
  simpa using this
 ·rw [List.countP_eq_length.2]
  ·simp
  ·intro i hi
   have hi':=List.mem_range.1 hi
   have hsz:i < (Array.replicate ops.size false).size:=by simp;omega
   rw [Zbm hsz,getD_replicate_false]
   rfl
theorem Zk8 (mask t:Nat):∀ (s:List (Nat × A)),gs (ZcD mask s) t=gs s t∨gs (ZcD mask s) t=.undef
 | []=>.inl rfl
 | (k,a)::r=>by
  have key:∀ (s:List (Nat × A)),mask.testBit t=false->gs (ZcD mask s) t=.undef:=by
   intro s ht
   induction s with
   | nil=>rfl
   | cons p s ih =>
    obtain ⟨k,a⟩:=p
    simp only [ZcD]
    split
    ·rename_i hk
     have:t≠k:=fun e=>by rw [e,hk] at ht;cases ht
     simp only [gs,this,if_false]
     exact ih
    ·exact ih
  cases ht:mask.testBit t with
  | false=>exact .inr (key _ ht)
  | true =>
   left
   have key2:∀ (s:List (Nat × A)),gs (ZcD mask s) t=gs s t:=by
    intro s
    induction s with
    | nil=>rfl
    | cons p s ih =>
     obtain ⟨k,a⟩:=p
     simp only [ZcD]
     split
     ·simp only [gs,ih]
     ·rename_i hk
      have:t≠k:=fun e=>hk (by rw [<- e];exact ht)
      simp only [gs,this,if_false]
      exact ih
   exact key2 _
theorem ZfS {s:List (Nat × A)} {t:Nat}:∀ {r:List (Nat × A)},ZbU s r->gs r t=gs s t∨gs r t=.undef
 | [],_=>.inr rfl
 | (k,a)::r,h=>by
  simp only [ZbU] at h
  simp only [gs]
  split
  ·rename_i e;rw [e];exact .inl h.1.symm
  ·exact ZfS h.2
theorem ZfT {m:List (Nat × Bk)} {t:Nat}:∀ {r:List (Nat × Bk)} {cs:Bk},ZbV m r->gm r t=some cs->gm m t=some cs
 | [],_,_,h=>by simp [gm] at h
 | (k,a)::r,cs,h,hg=>by
  simp only [ZbV] at h
  simp only [gm] at hg
  split at hg
  ·rename_i e;rw [e,h.1];exact hg
  ·exact ZfT h.2 hg
theorem SimE.weak {σ σ':St} {a:Act} {w:World} (h:SimE e U w0 S0 nt σ a w) (hs:∀ t,gs σ'.s t=gs σ.s t∨gs σ'.s t=.undef) (hm:∀ t cs,gm σ'.m t=some cs->gm σ.m t=some cs):SimE e U w0 S0 nt σ' a w:=by
 obtain ⟨S,L,h⟩:=h
 refine ⟨S,L,⟨h.cls.sin,h.cls.sfr,h.cls.ein,h.cls.uin,h.cls.bsz,fun k x g hk=>h.cls.mine k x g (hm k x hk),fun k x hk=>h.cls.own k x (hm k x hk),fun k k' x x' g h1 h2=>h.cls.inj k k' x x' g (hm _ _ h1) (hm _ _ h2),h.cls.g⟩,fun t=>?_,h.size,h.defers,h.kept⟩
 rcases hs t with h1 | h1
 ·rw [h1];exact h.rel t
 ·rw [h1];trivial
theorem Zmq {m:List (Nat × Bk)} {base:Nat} {ρ:Operand->A} {o:Oper} {t:TypeId} {v:Value} {i:TypeInfo} (he:e.Ok) (ho:o.op=.alloc t) (hi:e.P.info? t=some i) (hv:i.zero=some v):ZaZ e U base S0 m o ρ .undef:=by
 intro w S L ρv hC hr
 have hb:Below w.heap.size w (w.alloc (.cells v.cells t)):=ZdF w _
 unfold gives
 have hrun:(execOp ρv o).run e.P w=.ok (.value (.pointer (some ⟨w.heap.size,0,none⟩))) (w.alloc (.cells v.cells t)):=by
  simp [execOp,ho,Instr.alloc,zeroValue,typeInfo,hi,hv,newVar,newRow,Result.andThen]
 rw [hrun]
 have hk:Kept e.D e.E w.heap.size w (w.alloc (.cells v.cells t)):=Kept.of_below hb (fun _=>Tai _)
 exact ⟨S,⟨fun _ h=>h,fun _ h=>.inl h⟩,hC.later hk (he.keep _ _ hb.size (fun b hE=>hb.block b (Tba (hC.ein b hE) hC.bsz)) hC.g) (fun _ h=>h) (fun _ h=>.inl h),hk,trivial⟩
def ZkH (e:Env) (base p d:Nat) (m:List (Nat × Bk)) (L:Lay) (t:TypeId) (v:Value) (listed:Array Bool) (a:Act) (w:World) (S:Nat->Prop):Prop :=
 listed.getD p false=true->∃ b,a.tmps.getD d undef=.pointer (some ⟨b,0,none⟩)∧base<=b∧b < w.heap.size∧¬ S b∧(∀ k bk,gm m k=some bk->¬ ZaB L k bk b)∧w.heap[b]?=some (.cells v.cells t)
theorem Cls.blk_lt {m:List (Nat × Bk)} {base:Nat} {w:World} {S:Nat->Prop} {L:Lay} (h:Cls e U base S0 m w S L) {k:Nat} {bk:Bk} {g:Nat} (hk:gm m k=some bk) (hg:ZaB L k bk g):g < w.heap.size:=by
 have ho:=h.own k bk hk
 exact (Own1.lt ho hg).1
theorem ZhZ (he:e.Ok) {ops:Array Oper} {p:Nat} (hAl:ZeV ops p=true) (hB:regB ops (p+1)=true) {K:St->Prop} {Q:Exit->Act->World->Prop} (hQ:∀ a w σ',K σ'->SimE e U w0 S0 nt σ' a w->Q .normal a w) {σ:St} {a:Act} {w:World}
  (hd:∀ o∈ops.toList,∀ d,o.dst=some d->d < nt) (h:SimE e U w0 S0 nt σ a w) (hp:Runs e (ops.toList.map (·.dst)) (p+1) ops.toList σ K):wpAny e.P .any ops Q ops.size (Array.replicate ops.size false) a w:=by
 simp only [regB,Tar,Bool.or_eq_true,decide_eq_true_eq] at hB
 obtain ⟨⟨⟨hH,hn⟩,hs⟩,hsq⟩:=hB
 unfold ZeV at hAl
 split at hAl
 rotate_left
 ·cases hAl
 rename_i o0 hop
 unfold isAl at hAl
 split at hAl
 rotate_left
 ·cases hAl
 rename_i d t ty pos af
 obtain ⟨S,L,h1⟩:=h
 have hsplit:ops.toList=ops.toList.take p++ops.toList.drop p:=(Tbj p _).symm
 have hlen:(ops.toList.take p).length=p:=by simp;omega
 have hp':Runs e (ops.toList.map (·.dst)) ((ops.toList.take p).length+1) (ops.toList.take p++ops.toList.drop p) σ K:=by rw [<- hsplit,hlen];exact hp
 obtain ⟨αs0,hal0,hch0,hrest0⟩:=ZdH (U:=U) he w0.heap.size S0 ops.toList (ops.toList.drop p) 1 (ops.toList.take p) σ (fun h=>absurd h (by decide)) hp'
 rw [hlen] at hal0
 have hpl:ops.toList[p]?=some ⟨some d,.alloc t,ty,pos,af,none⟩:=by simpa using hop
 have hdrop:ops.toList.drop p=⟨some d,.alloc t,ty,pos,af,none⟩::ops.toList.drop (p+1):=by
  rw [List.drop_eq_getElem_cons (Tad.1 hpl).1,(Tad.1 hpl).2]
 have htake:ops.toList.take (p+1)=ops.toList.take p++[⟨some d,.alloc t,ty,pos,af,none⟩]:=ZbJ hpl
 rw [hdrop] at hrest0
 simp only [Runs,isAl,and_self,if_true] at hrest0
 obtain ⟨d0,t0,cs,hd0,ht0,hz,hrest⟩:=hrest0
 injection hd0 with hd0
 subst hd0
 injection ht0 with ht0
 subst ht0
 unfold Zaq at hz
 simp only [Tau,Option.bind_eq_some_iff] at hz
 obtain ⟨v,⟨i,hi,hv⟩,hcs⟩:=hz
 have hG:=fun (ρ:Operand->A)=>Zmq (U:=U) (S0:=S0) (m:=σ.m) (base:=w0.heap.size) (ρ:=ρ) (o:=⟨some d,.alloc t,ty,pos,af,none⟩) he rfl hi hv
 have hal:(αs0++[A.undef]).length=p+1:=by simp [hal0]
 have chain_snoc:∀ (os:List Oper) (s:List (Nat × A)) (αs:List A),Zcf e U w0.heap.size S0 σ.m ops.toList os s αs->Zcf e U w0.heap.size S0 σ.m ops.toList (os++[⟨some d,.alloc t,ty,pos,af,none⟩]) s (αs++[A.undef]):=by
  intro os
  induction os with
  | nil =>
   intro s αs hc
   cases αs with
   | nil=>exact ⟨hG _,trivial⟩
   | cons x xs=>simp [Zcf] at hc
  | cons o os ih =>
   intro s αs hc
   cases αs with
   | nil=>simp [Zcf] at hc
   | cons x xs=>exact ⟨hc.1,ih _ _ hc.2⟩
 have after_snoc:∀ (os:List Oper) (s:List (Nat × A)) (αs:List A),αs.length=os.length->after s (os++[⟨some d,.alloc t,ty,pos,af,none⟩]) (αs++[A.undef])=(d,A.undef)::after s os αs:=by
  intro os
  induction os with
  | nil =>
   intro s αs hl
   cases αs with
   | nil=>rfl
   | cons x xs=>simp at hl
  | cons o os ih =>
   intro s αs hl
   cases αs with
   | nil=>simp at hl
   | cons x xs=>exact ih _ _ (by simpa using hl)
 have hch:Zcf e U w0.heap.size S0 σ.m ops.toList (ops.toList.take (p+1)) σ.s (αs0++[A.undef]):=by rw [htake];exact chain_snoc _ _ _ hch0
 have haf:after σ.s (ops.toList.take (p+1)) (αs0++[A.undef])=(d,A.undef)::after σ.s (ops.toList.take p) αs0:=by rw [htake];exact after_snoc _ _ _ (by rw [hal0,hlen])
 have inv0:InvA e U w0 S0 nt σ.m ops (p+1) σ.s (αs0++[A.undef]) L (Array.replicate ops.size false) a w S :=
  ⟨⟨by simp,fun j oj _ hl=>(by rw [getD_replicate_false] at hl;cases hl),fun t _ ht=>getD_in (by simpa using ht) (getD_replicate_false _ _)⟩,h1.size,h1.defers,h1.cls,h1.kept,fun t _=>h1.rel t,fun i o d α _ hl=>(by rw [getD_replicate_false] at hl;cases hl)⟩
 have hJ0:ZkH e w0.heap.size p d σ.m L t v (Array.replicate ops.size false) a w S:=fun hl=>by rw [getD_replicate_false] at hl;cases hl
 have hA0:∀ {i':Nat} {o':Oper} {d':Nat},HeadAt ops (p+1) i' o' d'->i'≠p->d'≠d:=fun hA hne e'=>by
  have:=(hA.dep p _ om hop).1 (Ne.symm hne)
  exact this (by rw [e'])
 have hgo:ZgG e U w0 S0 nt σ.m ops (p+1) σ.s (αs0++[A.undef]) L (ZkH e w0.heap.size p d σ.m L t v) Q:=by
  intro listed a w S i' o' d' α hI hJ hA hin hr hdn hα hopd hG'
  by_cases hip:i'=p
  ·subst hip
   have ho':o'=⟨some d,.alloc t,ty,pos,af,none⟩:=by have:=hA.op;rw [hop] at this;injection this with this;exact this.symm
   subst ho'
   have hdd:d'=d:=by have:=hA.dst;injection this with this;exact this.symm
   subst hdd
   have hau:α=A.undef:=by rw [Tbn om,hal0] at hα;simpa using hα.symm
   subst hau
   unfold Oper.wp
   have hrun:(execOp a.eval ⟨some d',.alloc t,ty,pos,af,none⟩).run e.P w=.ok (.value (.pointer (some ⟨w.heap.size,0,none⟩))) (w.alloc (.cells v.cells t)):=by
    simp [execOp,Instr.alloc,zeroValue,typeInfo,hi,hv,newVar,newRow,Result.andThen]
   have hb:Below w.heap.size w (w.alloc (.cells v.cells t)):=ZdF w _
   have hk:Kept e.D e.E w.heap.size w (w.alloc (.cells v.cells t)):=Kept.of_below hb (fun _=>Tai _)
   have hC:=hI.cls
   have hC':Cls e U w0.heap.size S0 σ.m (w.alloc (.cells v.cells t)) S L:=hC.later hk (he.keep _ _ hb.size (fun b hE=>hb.block b (Tba (hC.ein b hE) hC.bsz)) hC.g) (fun _ h=>h) (fun _ h=>.inl h)
   rw [hrun,Oper.upon_value]
   refine ⟨S,hI.put hH hA hin hr hdn hα (fun _ h=>h) hC' hk trivial,fun _=>⟨w.heap.size,?_,hC.bsz,by simp,fun hs=>by have:=(hC.sin _ hs).1;omega,fun k bk hk hg=>by have:=hC.blk_lt hk hg;omega,heap_alloc_new w _⟩⟩
   rw [ZbN (by rw [hI.size];exact hdn)]
   simp
  ·refine ZdU (hG' w S L a.eval hI.cls hopd) fun v' w' ⟨S',hS,hC,hk,hv'⟩=>⟨S',hI.put hH hA hin hr hdn hα hS.1 hC hk hv',fun hl=>?_⟩
   rw [getD_set_ne false hip] at hl
   obtain ⟨b,q1,q2,q3,q4,q5,q6⟩:=hJ hl
   refine ⟨b,?_,q2,Tba q3 hk.size,fun hs=>?_,q5,?_⟩
   ·rw [hA.dst,ZbN (by rw [hI.size];exact hdn),if_neg (Ne.symm (hA0 hA hip))]
    exact q1
   ·rcases hS.2 b hs with hs | hs
    ·exact q4 hs
    ·omega
   ·rw [hk.block b q3 (fun hE=>by have:=hI.cls.ein b hE;omega)]
    exact q6
 have hskp:∀ (listed:Array Bool) (a:Act) (w:World) (S:Nat->Prop) (i':Nat) (o':Oper) (d':Nat),ZkH e w0.heap.size p d σ.m L t v listed a w S->InvA e U w0 S0 nt σ.m ops (p+1) σ.s (αs0++[A.undef]) L listed a w S->HeadAt ops (p+1) i' o' d'->i' < p+1->i'∈Region.ready .any ops listed->d' < nt->o'.guard≠none->ZkH e w0.heap.size p d σ.m L t v (listed.setIfInBounds i' true) (a.put o'.dst undef) w S:=by
  intro listed a w S i' o' d' hJ hI hA hin hr hdn hg hl
  have hip:i'≠p:=fun e'=>by
   subst e'
   have:=hA.op
   rw [hop] at this
   injection this with this
   rw [<- this] at hg
   exact hg rfl
  rw [getD_set_ne false hip] at hl
  obtain ⟨b,q1,q2⟩:=hJ hl
  refine ⟨b,?_,q2⟩
  rw [hA.dst,ZbN (by rw [hI.size];exact hdn),if_neg (Ne.symm (hA0 hA hip))]
  exact q1
 have H:=ZcM (e:=e) (L:=L) (Q:=Q) he hH hn (fun hlt=>by
   rcases hs with hs | hs
   ·omega
   ·exact hs) hsq (fun i o d hi ho hdd=>hd o (List.mem_iff_getElem?.2 ⟨i,by simpa using ho⟩) d hdd) hal hch hgo hskp (fun listed a' w' S' hI hJ hall=>?_) (p+1) _ a _ S inv0 hJ0 ?_
 ·rw [show p+1+(ops.size - (p+1))=ops.size by omega] at H
  exact H
 ·have hsim:Sim e U w0 S0 nt ⟨after σ.s (ops.toList.take (p+1)) (αs0++[A.undef]),σ.m⟩ a' w' S' L:=by
   refine ⟨hI.cls,fun t=>?_,hI.size,hI.defers,hI.kept⟩
   by_cases hex:∃ (j:Nat) (p':Oper),j < p+1∧ops[j]?=some p'∧p'.dst=some t
   ·obtain ⟨j,p0,hj,hp,hpt⟩:=hex
    obtain ⟨p',d',hP⟩:=ZbW.get hH hj
    have hpp:p'=p0:=by have:=hP.op;rw [hp] at this;injection this with this;exact this.symm
    subst hpp
    have hdt:d'=t:=by have:=hP.dst;rw [hpt] at this;injection this with this;exact this.symm
    subst hdt
    obtain ⟨α,hα⟩:∃ α,(αs0++[A.undef])[j]?=some α:=⟨(αs0++[A.undef])[j],Taa om⟩
    show ARel w' S' L (gs (after σ.s (ops.toList.take (p+1)) (αs0++[A.undef])) d') _
    rw [Zdh (ops.toList.take (p+1)) (αs0++[A.undef]) σ.s j p' α (by rw [List.getElem?_take,if_pos hj];simpa using hp) hα hpt (fun k q hk hq=>by
     rw [List.getElem?_take] at hq
     split at hq
     ·exact (hP.dep k q om (by simpa using hq)).1 hk
     ·cases hq)]
    exact hI.done j p' d' α hj (hall j hj) hp hpt hα
   ·have hno:∀ (j:Nat) (p':Oper),j < p+1->ops[j]?=some p'->p'.dst≠some t:=fun j p' hj hp hd=>hex ⟨j,p',hj,hp,hd⟩
    show ARel w' S' L (gs (after σ.s (ops.toList.take (p+1)) (αs0++[A.undef])) t) _
    rw [Zcx _ _ _ (fun p' hp=>by
     obtain ⟨j,hj⟩:=List.mem_iff_getElem?.1 hp
     rw [List.getElem?_take] at hj
     split at hj
     ·exact hno j p' om (by simpa using hj)
     ·cases hj)]
    exact hI.out t hno
  rw [haf] at hsim
  obtain ⟨b,q1,q2,q3,q4,q5,q6⟩:=hJ (hall p om)
  have hdn:d < nt:=hd _ (List.mem_iff_getElem?.2 ⟨p,hpl⟩) d rfl
  have hrv:=ZbR (w:=w') (S:=S') v.cells.toList
  rw [hcs] at hrv
  have hsimB:=hsim.bornE (bk:=.var none cs) (w':=w') (b':=b) (v':=undef) (u:=a'.tmps.getD d undef) (τ:=some b) (s1:=(d,A.undef)::after σ.s (ops.toList.take p) αs0) (m1:=σ.m) (α:=.ref d 0) (S':=S') hdn (fun _ h=>h) (fun _ h=>.inl h) (fun t=>.inl rfl) (fun k x h=>h)
   (fun g hg=>by injection hg with hg;subst hg;exact ⟨q4,fun hE=>by have:=hI.cls.ein _ hE;omega,.inl q2⟩) (fun k x g hkd hx hg hb=>by injection hg with hg;subst hg;exact q5 k x hx hb)
   (Kept.refl _ _ _ _) hI.cls.g (by
    simp only [Own1,if_true]
    refine ⟨by simp,q3,q4,⟨v.cells,t,q6,by have:=hrv.len;simpa using this⟩,?_⟩
    exact Zac.of_vals cs v.cells.toList 0 hrv (fun j u hj=>by
     rw [Nat.zero_add]
     have hj':v.cells[j]?=some u:=by simpa using hj
     simp [World.cell?,q6,hj']))
   (fun g hg=>by simp only [ZaB,if_true] at hg;exact .inl (by rw [hg])) (by simp [ARel,q1])
  have hsimD:SimE e U w0 S0 nt ⟨(d,.ref d 0)::Zao d ((d,A.undef)::after σ.s (ops.toList.take p) αs0),(d,.var none cs)::remM d σ.m⟩ a' w':=by
   obtain ⟨S2,L2,k1,k2,k3,k4,k5⟩:=hsimB
   refine ⟨S2,L2,k1,fun t=>?_,hI.size,hI.defers,k5⟩
   have:=k2 t
   rw [ZbN (by rw [hI.size];exact hdn)] at this
   by_cases ht:t=d
   ·rw [if_pos ht] at this;rw [ht];rw [ht] at this;exact this
   ·rw [if_neg ht] at this;exact this
  have hsimC:SimE e U w0 S0 nt ⟨(d,.ref d 0)::Zao d (after σ.s (ops.toList.take p) αs0),(d,.var none cs)::remM d σ.m⟩ a' w':=SimE.weak hsimD (fun t=>.inl (by
   by_cases ht:t=d
   ·simp [gs,ht]
   ·simp [gs,ht,Zao])) (fun t x hx=>hx)
  have:=hrest he U w0 S0 nt a' w' ops.toList Q rfl (fun o ho=>hd o (List.mem_of_mem_drop ho)) hQ hsimC
  simpa using this
 ·rw [List.countP_eq_length.2]
  ·simp
  ·intro i hi
   have hi':=List.mem_range.1 hi
   have hsz:i < (Array.replicate ops.size false).size:=by simp;omega
   rw [Zbm hsz,getD_replicate_false]
   rfl
theorem Zk9 (he:e.Ok) {id:Nat} {ops:Array Oper} {p:Nat} (hAl:ZeV ops p=true) (hB:regB ops (p+1)=true) {K:St->Prop} {Q:Exit->Act->World->Prop} (hQ:∀ a w σ',K σ'->SimE e U w0 S0 nt σ' a w->Q .normal a w) {σ:St} {a:Act} {w:World}
  (hd:∀ o∈ops.toList,∀ d,o.dst=some d->d < nt) (h:SimE e U w0 S0 nt σ a w) (hp:Runs e (ops.toList.map (·.dst)) (p+1) ops.toList σ K):(Code.region id ops true).wp e.P Q a w:=wp_region_any he.mixed (ZhZ he hAl hB hQ hd (h.drew he) hp)
theorem Zkt {P:Program} {Q:Exit->Act->World->Prop} {c:Code} {ι:Type} (I:ι->Act->World->Prop) (μ:ι->Nat) (i0:ι) {a:Act} {w:World} (h₀:I i0 a w)
  (round:∀ i a w,I i a w->c.wp P (Exit.then (fun a' w'=>∃ j,I j a' w'∧μ j < μ i) Q) a w):(Code.loop c).wp P Q a w:=by
 intro b k cs
 have key:∀ n i a w,μ i=n->I i a w ->
   ∃ e a' w',Q e a' w'∧Arrives P (lone (b.at a (.code c::.inLoop c::k)) cs w) b k cs e a' w':=by
  intro n
  induction n using Nat.strongRecOn with
  | _ n ih =>
   intro i a w hn hI
   obtain ⟨e,a₁,w₁,hq,harr⟩:=round i a w hI b (.inLoop c::k) cs
   cases e with
   | normal =>
    obtain ⟨j,hI₁,hlt⟩:=hq
    obtain ⟨e₂,a₂,w₂,hq₂,harr₂⟩:=ih (μ j) (hn ▸ hlt) j a₁ w₁ rfl hI₁
    exact ⟨e₂,a₂,w₂,hq₂,.of_steps (Steps.trans harr (.one step_inLoop)) harr₂⟩
   | exit id=>exact ⟨_,a₁,w₁,hq,.pass (x:=.inLoop c) rfl (fun _ _=>.inl (by simp)) harr⟩
   | goto l=>exact ⟨_,a₁,w₁,hq,.pass (x:=.inLoop c) rfl (fun _ _=>.inl (by simp)) harr⟩
   | ret=>exact ⟨_,a₁,w₁,hq,.pass (x:=.inLoop c) rfl (fun _ _=>.inl (by simp)) harr⟩
   | panic ch=>exact ⟨_,a₁,w₁,hq,.pass (x:=.inLoop c) rfl (fun _ _=>.inl (by simp)) harr⟩
   | outgrown=>exact ⟨_,a₁,w₁,hq,.pass (x:=.inLoop c) rfl (fun _ _=>.inl (by simp)) harr⟩
 obtain ⟨e,a',w',hq,harr⟩:=key _ i0 a w rfl h₀
 exact ⟨e,a',w',hq,.of_steps (.one step_loop) harr⟩
def ZbA (nt:Nat):Code->Bool
 | .region _ ops _=>ops.toList.all (fun o=>o.dst.all (fun d=>decide (d < nt)))
 | .seq a b=>ZbA nt a && ZbA nt b
 | .cond _ a b=>ZbA nt a && ZbA nt b
 | .block _ c=>ZbA nt c
 | .loop c=>ZbA nt c
 | _=>true
def Then (e:Env) (U:Nat->Prop) (w0:World) (S0:Nat->Prop) (nt:Nat) (K:St->Prop) (a:Act) (w:World):Prop:=∃ σ,K σ∧SimE e U w0 S0 nt σ a w
def LQ (e:Env) (U:Nat->Prop) (w0:World) (S0:Nat->Prop) (nt:Nat) (Q:PX->St->Prop):Exit->Act->World->Prop
 | .normal,a,w=>Then e U w0 S0 nt (Q .normal) a w
 | .exit id,a,w=>Then e U w0 S0 nt (Q (.exit id)) a w
 | .ret,a,w=>Then e U w0 S0 nt (Q .ret) a w
 | _,_,_=>False
def pwp (e:Env) (mask:Nat) (c:Code) (σ:St) (Q:PX->St->Prop):Prop:=e.Ok->∀ (U:Nat->Prop) (w0:World) (S0:Nat->Prop) (nt:Nat) (a:Act) (w:World),ZbA nt c=true->SimE e U w0 S0 nt σ a w->c.wp e.P (LQ e U w0 S0 nt Q) a w
def Zdq (mask:Nat) (Q:PX->St->Prop) (σ':St):Prop:=Q .normal ⟨ZcD mask σ'.s,σ'.m⟩
end
section
variable {e:Env} {mask:Nat} {σ:St} {Q:PX->St->Prop}
theorem LQ.mono {U:Nat->Prop} {w0:World} {S0:Nat->Prop} {nt:Nat} {Q Q':PX->St->Prop} (hQ:∀ p σ,Q p σ->Q' p σ) {ex:Exit} {a:Act} {w:World} (h:LQ e U w0 S0 nt Q ex a w):LQ e U w0 S0 nt Q' ex a w:=by
 cases ex with
 | normal=>exact h.elim fun σ h=>⟨σ,hQ _ _ h.1,h.2⟩
 | exit id=>exact h.elim fun σ h=>⟨σ,hQ _ _ h.1,h.2⟩
 | ret=>exact h.elim fun σ h=>⟨σ,hQ _ _ h.1,h.2⟩
 | goto l=>exact h
 | panic ch=>exact h
 | outgrown=>exact h
theorem Zu2 {Q Q':PX->St->Prop} (hQ:∀ p σ,Q p σ->Q' p σ) (c:Code) (σ:St) (h:pwp e mask c σ Q):pwp e mask c σ Q':=fun he U w0 S0 nt a w hok hs=>wp_mono (h he U w0 S0 nt a w hok hs) fun ex a' w' hq=>hq.mono hQ
theorem ZcG {P:St->Prop} {c:Code} (hT:Turn e σ P) (h:∀ σ',P σ'->pwp e mask c σ' Q):pwp e mask c σ Q:=fun he U w0 S0 nt a w hok hs=>by
 obtain ⟨σ',h1,h2⟩:=hT he U w0 S0 nt a w hs
 exact h σ' h1 he U w0 S0 nt a w hok h2
theorem Zla (h:Q .normal σ):pwp e mask .skip σ Q:=fun he U w0 S0 nt a w hok hs=>wp_skip ⟨σ,h,hs⟩
theorem Zlb {id:Nat} (h:Q (.exit id) σ):pwp e mask (.exit id) σ Q:=fun he U w0 S0 nt a w hok hs=>wp_exit ⟨σ,h,hs⟩
theorem ZdZ (h:Q .ret σ):pwp e mask .ret σ Q:=fun he U w0 S0 nt a w hok hs=>wp_ret ⟨σ,h,hs⟩
theorem Zip {id:Nat} {ops:Array Oper} {draw:Bool} (n:Nat) (hn:(if draw then regX ops n else decide (n=0))=true) (hp:Runs e (ops.toList.map (·.dst)) n ops.toList σ (Zdq mask Q)):pwp e mask (.region id ops draw) σ Q:=fun he U w0 S0 nt a w hok hs=>by
 simp only [ZbA] at hok
 have hd:∀ o∈ops.toList,∀ d,o.dst=some d->d < nt:=fun o ho d hd=>by
  have:=List.all_eq_true.1 hok o ho
  rw [hd] at this
  simpa using this
 have hQ:∀ a w σ',Zdq mask Q σ'->SimE e U w0 S0 nt σ' a w->LQ e U w0 S0 nt Q .normal a w:=fun a w σ' h1 h2 =>
  ⟨_,h1,h2.weak (fun t=>Zk8 mask t σ'.s) (fun _ _ h=>h)⟩
 cases draw with
 | false =>
  have hn:n=0:=by simpa using hn
  subst hn
  refine wp_region_list ?_
  have:=Zm8 he ops.toList hQ ops.toList _ a w hd hs hp
  simpa using this
 | true =>
  have hn:regB ops n=true:=by simpa [regX] using hn
  cases n with
  | zero=>exact Zhw he hn (by simp) hQ hd hs hp
  | succ p =>
   by_cases hA:ZeV ops p=true
   ·exact Zk9 he hA hn hQ hd hs hp
   ·refine Zhw he hn (fun o ho=>?_) hQ hd hs hp
    have hle:p+1<=ops.size:=by
     simp only [regB,Tar,decide_eq_true_eq] at hn
     exact hn.1.1.2
    have hlt:p < ops.size:=by omega
    have e:(ops.toList.take (p+1)).getLast?=ops[p]?:=by
     rw [List.getLast?_eq_getElem?]
     simp only [Tav,Array.length_toList,Nat.min_eq_left hle,Nat.add_sub_cancel]
     rw [List.getElem?_take,if_pos om]
     simp
    rw [e] at ho
    unfold ZeV at hA
    rw [ho] at hA
    simpa using hA
theorem Zh0 {a b:Code} (h:pwp e mask a σ (fun x σ'=>match x with
  | .normal=>∃ σ1,Wk σ' σ1∧pwp e mask b σ1 Q
  | x=>Q x σ')):pwp e mask (.seq a b) σ Q:=fun he U w0 S0 nt ac w hok hs=>by
 simp only [ZbA,Tar] at hok
 refine wp_seq (wp_mono (h he U w0 S0 nt ac w hok.1 hs) fun ex a' w' hq=>?_)
 cases ex with
 | normal=>obtain ⟨σ',⟨σ1,hw,h1⟩,h2⟩:=hq;exact h1 he U w0 S0 nt a' w' hok.2 (h2.weak hw.1 hw.2)
 | exit id=>exact hq
 | ret=>exact hq
 | goto l=>exact hq
 | panic ch=>exact hq
 | outgrown=>exact hq
theorem Zlc {c:Operand} {a b:Code} {t:Bool} (hc:evA σ.s c=.d (.one (.lit (.bool t)))) (h1:t=true->pwp e mask a σ Q) (h2:t=false->pwp e mask b σ Q):pwp e mask (.cond c a b) σ Q:=fun he U w0 S0 nt ac w hok hs=>by
 simp only [ZbA,Tar] at hok
 obtain ⟨S,L,h'⟩:=id hs
 have h3:=h'.eval c
 rw [hc] at h3
 refine wp_cond h3.bool ?_
 cases t
 ·simp only [Tam,if_false];exact h2 rfl he U w0 S0 nt ac w hok.2 hs
 ·simp only [if_true];exact h1 rfl he U w0 S0 nt ac w hok.1 hs
theorem ZjN {id:Nat} {c:Code} (h:pwp e mask c σ (fun x σ'=>match x with
  | .exit j=>if j=id then Q .normal σ' else Q (.exit j) σ'
  | x=>Q x σ')):pwp e mask (.block id c) σ Q:=fun he U w0 S0 nt ac w hok hs=>by
 simp only [ZbA] at hok
 refine wp_block (wp_mono (h he U w0 S0 nt ac w hok hs) fun ex a' w' hq=>?_)
 cases ex with
 | normal=>exact hq
 | exit j =>
  obtain ⟨σ',h1,h2⟩:=hq
  simp only [Exit.inBlock]
  simp only at h1
  split
  ·rename_i hj;rw [if_pos hj] at h1;exact ⟨σ',h1,h2⟩
  ·rename_i hj;rw [if_neg hj] at h1;exact ⟨σ',h1,h2⟩
 | ret=>exact hq
 | goto l=>exact hq
 | panic ch=>exact hq
 | outgrown=>exact hq
theorem Zu3 {c:Code} {ι:Type} (st:ι->St) (ok:ι->Prop) (μ:ι->Nat) (x0:ι) (h0:ok x0) (hs0:ZbU σ.s (st x0).s) (hm0:ZbV σ.m (st x0).m)
  (hr:∀ x,ok x->pwp e mask c (st x) (fun p σ''=>match p with
   | .normal=>∃ y,ok y∧ZbU σ''.s (st y).s∧ZbV σ''.m (st y).m∧μ y < μ x
   | p=>Q p σ'')):pwp e mask (.loop c) σ Q:=fun he U w0 S0 nt ac w hok hs=>by
 simp only [ZbA] at hok
 refine Zkt (ι:=ι) (fun x a w=>ok x∧SimE e U w0 S0 nt (st x) a w) μ x0 ⟨h0,hs.weak (fun t=>ZfS hs0) (fun t cs=>ZfT hm0)⟩ fun x1 a1 w1 ⟨h1,h2⟩=>?_
 refine wp_mono (hr x1 h1 he U w0 S0 nt a1 w1 hok h2) fun ex a' w' hq=>?_
 cases ex with
 | normal =>
  obtain ⟨σ',⟨y,h5,h3,h4,h6⟩,h7⟩:=hq
  exact ⟨y,⟨h5,h7.weak (fun t=>ZfS h3) (fun t cs=>ZfT h4)⟩,h6⟩
 | exit id=>exact hq
 | ret=>exact hq
 | goto l=>exact hq
 | panic ch=>exact hq
 | outgrown=>exact hq
end
def Zcl:Nat->List D->List (Nat × A)
 | _,[]=>[]
 | k,x::xs=>(k,.d x)::Zcl (k+1) xs
theorem Zld:∀ (xs:List D) (k t:Nat),gs (Zcl k xs) t=if k<=t then match xs[t - k]? with
   | some x=>.d x
   | none=>.undef
  else .undef
 | [],k,t=>by simp [Zcl,gs]
 | x::xs,k,t=>by
  simp only [Zcl,gs]
  by_cases h1:t=k
  ·subst h1;simp
  ·rw [Zld xs (k+1) t]
   simp only [h1,if_false]
   by_cases h2:k+1<=t
   ·rw [if_pos h2,if_pos om,show t - k=(t - (k+1))+1 by omega]
    simp
   ·rw [if_neg h2]
    by_cases h3:k<=t
    ·omega
    ·rw [if_neg h3]
inductive RS where
 | slot (t:Nat)
 | cell (t ty:Nat)
def ZaU:List ResultVar->List RS
 | []=>[]
 | .tmp t::r=>.slot t::ZaU r
 | .cell a t::r=>.cell a t::ZaU r
def resA (P:Program) (σ:St):RS->A
 | .slot t=>gs σ.s t
 | .cell t ty=>(Zdp (Zat P ty) (ptrA σ.m (gs σ.s t))).getD .undef
def ZbL (P:Program) (σ:St):List RS->List D->Prop
 | [],[]=>True
 | t::ts,x::xs=>resA P σ t=.d x∧ZbL P σ ts xs
 | _,_=>False
def retQ (P:Program) (slots:List RS) (r:List D):PX->St->Prop
 | .exit _,_=>False
 | _,σ=>∃ ks,ZbL P (frzs ks σ) slots r
section
variable {e:Env} {U:Nat->Prop} {w0:World} {S0:Nat->Prop} {nt:Nat} {σ:St} {a:Act} {w:World} {S:Nat->Prop} {L:Lay}
theorem Zu4 (h:Sim e U w0 S0 nt σ a w S L) {x:ResultVar} {rs:List RS} {t:RS} (hrs:ZaU [x]=[t]) {y:D} (hy:resA e.P σ t=.d y):∃ v,(match x with
   | .tmp t=>(pure (a.tmps.getD t undef):Sem Value)
   | .cell b t=>do loadVar t (<- asAddr (a.tmps.getD b undef))).run e.P w=.ok v w∧DRel w S y v:=by
 cases x with
 | tmp k =>
  simp only [ZaU,List.cons.injEq,and_true] at hrs
  subst hrs
  have:=h.rel k
  simp only [resA] at hy
  rw [hy] at this
  exact ⟨_,rfl,this⟩
 | cell b ty =>
  simp only [ZaU,List.cons.injEq,and_true] at hrs
  subst hrs
  simp only [resA] at hy
  cases hl:Zdp (Zat e.P ty) (ptrA σ.m (gs σ.s b)) with
  | none=>rw [hl] at hy;simp at hy
  | some α =>
   rw [hl] at hy
   simp only [Option.getD_some] at hy
   subst hy
   unfold Zdp at hl
   split at hl
   ·rename_i k cs hk hp
    obtain ⟨u,h1,h2⟩:=ZjH h.cls hp (h.rel b) hk hl
    refine ⟨u,?_,h2⟩
    have hptr:∃ p,a.tmps.getD b undef=.pointer (some p):=by
     have hr:=h.rel b
     unfold ptrA at hp
     split at hp
     ·rename_i hx;rw [hx] at hr;simp only [ARel,DRel,Rep] at hr;obtain ⟨b',off,hv,_⟩:=hr;exact ⟨_,hv⟩
     ·rename_i hx;rw [hx] at hr;exact ⟨_,hr⟩
     ·rename_i hx;rw [hx] at hr;obtain ⟨g,_,hv⟩:=hr;exact ⟨_,hv⟩
     ·cases hp
    obtain ⟨p,hp'⟩:=hptr
    rw [hp'] at h1
    show Sem.run e.P (do loadVar ty (<- asAddr (a.tmps.getD b undef))) w=_
    rw [hp']
    simpa [Instr.loadAt,Instr.sureAddr,asAddr,Result.andThen] using h1
   ·cases hl
theorem ZgH (h:Sim e U w0 S0 nt σ a w S L):∀ {l:List ResultVar} {r:List D},ZbL e.P σ (ZaU l) r->∃ vs:List Value,(l.mapM (m:=Sem) fun (x:ResultVar)=>match x with
   | .tmp t=>(pure (a.tmps.getD t undef):Sem Value)
   | .cell b t=>do loadVar t (<- asAddr (a.tmps.getD b undef))).run e.P w=.ok vs w∧Zay w S r vs
 | [],r,hr=>by
  cases r with
  | nil=>exact ⟨[],by simp,trivial⟩
  | cons x xs=>simp [ZaU,ZbL] at hr
 | x::l,r,hr=>by
  have hx:ZaU (x::l)=(ZaU [x]).head (by cases x <;> simp [ZaU])::ZaU l:=by cases x <;> rfl
  rw [hx] at hr
  cases r with
  | nil=>simp [ZbL] at hr
  | cons y ys =>
   simp only [ZbL] at hr
   obtain ⟨v,h1,h2⟩:=Zu4 h (x:=x) (rs:=[]) (by cases x <;> rfl) hr.1
   obtain ⟨vs,h3,h4⟩:=ZgH h hr.2
   refine ⟨v::vs,?_,h2,h4⟩
   simp only [List.mapM_cons,Sem.run_bind,Sem.run_pure,Result.andThen_ok]
   rw [h1]
   simp only [Result.andThen_ok]
   rw [h3]
   simp
end
theorem Zfk {e:Env} {U:Nat->Prop} {w0:World} {S0:Nat->Prop} {nt:Nat} {σ:St} {a:Act} {w:World} {S:Nat->Prop} {L:Lay} {fn:Func} {r:List D} (h:Sim e U w0 S0 nt σ a w S L) (hr:ZbL e.P σ (ZaU fn.results.toList) r) :
  ∃ v,(results fn a.tmps).run e.P w=.ok v w∧ARel w S ⟨fun _=>0,fun _=>Go.undef⟩ (retA r) v:=by
 obtain ⟨vs,h1,h2⟩:=ZgH h hr
 have hrun:(fn.results.mapM (m:=Sem) fun (x:ResultVar)=>match x with
   | .tmp t=>(pure (a.tmps.getD t undef):Sem Value)
   | .cell b t=>do loadVar t (<- asAddr (a.tmps.getD b undef))).run e.P w=.ok vs.toArray w:=by
  rw [Array.mapM_eq_mapM_toList]
  simp only [Sem.run_map,h1,Result.andThen_ok]
 have hrun:(results fn a.tmps).run e.P w=.ok (if h:(vs.toArray).size=1 then (vs.toArray)[0] else .tuple vs.toArray) w:=by
  unfold results
  rw [Sem.run_bind]
  exact congrArg (fun (z:Result (Array Value))=>z.andThen (fun a w''=>Sem.run e.P (pure (if h:a.size=1 then a[0] else Value.tuple a)) w'')) hrun
 match r,vs,h2,hrun with
 | [x],[v],hd,hrun=>exact ⟨v,by rw [hrun];simp,hd.1⟩
 | [],[],hd,hrun=>exact ⟨.tuple #[],by rw [hrun];simp,[],rfl,trivial⟩
 | x::y::r',v::v'::vs',hd,hrun=>exact ⟨.tuple (v::v'::vs').toArray,by rw [hrun];simp,_,rfl,hd⟩
 | [],_::_,hd,_=>simp [Zay] at hd
 | _::_,[],hd,_=>simp [Zay] at hd
 | [_],_::_::_,hd,_=>simp [Zay] at hd
 | _::_::_,[_],hd,_=>simp [Zay] at hd
theorem Zh1 {w:World} {S:Nat->Prop} {L:Lay} {args:List D} {vs:List Value} {n:Nat} (hvs:Zay w S args vs) (t:Nat):ARel w S L (gs (Zcl 0 args) t) ((vs.toArray++Array.replicate n undef).getD t undef):=by
 rw [Zld]
 simp only [Taj,if_true,Nat.sub_zero]
 cases hx:args[t]? with
 | none=>trivial
 | some x =>
  obtain ⟨v,h1,h2⟩:=hvs.get hx
  have hlt:t < vs.length:=(Tad.1 h1).1
  have e1:(vs.toArray++Array.replicate n undef).getD t undef=v:=by
   rw [Array.getD_eq_getD_getElem?,Array.getElem?_append_left (by simpa using hlt)]
   simp [h1]
  simp only [e1]
  exact h2
theorem ZpC {e:Env} (he:e.Ok) {f:FuncId} {fn:Func} {c:Code} {args r:List D} {ts:List RS} (mask:Nat) (hf:e.P.funcs[f]?=some fn) (hb:fn.body=some c) (hnm:(fn.name == "runtime.NumGoroutine")=false)
  (hok:ZbA fn.ntmps c=true) (hal:Nat.ble args.length fn.ntmps=true) (hres:ZaU fn.results.toList=ts) (h:pwp e mask c ⟨Zcl 0 args,[]⟩ (retQ e.P ts r)):Con e f args r:=by
 refine ⟨by unfold Zbw;rw [hf];simp [hnm,hb],fun w S vs hS hE hG hvs=>?_⟩
 have hvl:=hvs.len
 have hal:=Nat.le_of_ble_eq_true hal
 subst hres
 refine calls_of_wp hf hb ?_
 have hsim:SimE e (fun _=>False) w S fn.ntmps ⟨Zcl 0 args,[]⟩ { tmps:=vs.toArray++Array.replicate (fn.ntmps - vs.toArray.size) undef,defers:=[] } w:=by
  exact ⟨S,⟨fun _=>0,fun _=>Go.undef⟩,⟨hS,fun b hb=>.inl hb,hE,fun _ h=>h.elim,Tai _,fun k x g hk=>by simp [gm] at hk,fun k x hk=>by simp [gm] at hk,fun k k' x x' g hk=>by simp [gm] at hk,hG⟩,fun t=>Zh1 hvs t,by simp;omega,rfl,Kept.refl _ _ _ _⟩
 refine wp_mono (h he _ _ _ _ _ w hok hsim) fun ex a' w' hq=>?_
 have fin:∀ σ',(∃ ks,ZbL e.P (frzs ks σ') (ZaU fn.results.toList) r)->SimE e (fun _=>False) w S fn.ntmps σ' a' w'->a'.defers=[]∧∃ v,(results fn a'.tmps).run e.P w'=.ok v w'∧∃ u,Ending.returned v=.returned u∧Kept e.D e.E w.heap.size w w'∧e.G w'∧ARel w' (fun b=>S b∨(w.heap.size<=b∧b < w'.heap.size)) ⟨fun _=>0,fun _=>Go.undef⟩ (retA r) u:=by
  intro σ' ⟨ks,h1⟩ h2
  obtain ⟨S',L',h2⟩:=SimE.frzs he ks σ' h2
  obtain ⟨v,h3,h4⟩:=Zfk h2 h1
  refine ⟨h2.defers,v,h3,v,rfl,⟨h2.kept.os,h2.kept.tape,h2.kept.output,h2.kept.drawn,h2.kept.size,fun b hb hE=>h2.kept.block b hb (fun h=>h.elim hE id)⟩,h2.cls.g,h4.keep (Tai _) (fun _ _ _=>rfl) (fun b hb=>?_)⟩
  rcases h2.cls.sfr b hb with h | h | h
  ·exact .inl h
  ·exact .inr ⟨h,(h2.cls.sin b hb).1⟩
  ·exact h.elim
 cases ex with
 | normal=>obtain ⟨σ',h1,h2⟩:=hq;exact fin σ' h1 h2
 | ret=>obtain ⟨σ',h1,h2⟩:=hq;exact fin σ' h1 h2
 | exit id=>obtain ⟨σ',h1,h2⟩:=hq;exact h1.elim
 | goto l=>exact hq.elim
 | panic ch=>exact hq.elim
 | outgrown=>exact hq.elim
def ZkI (P:Program) (slots:List RS) (R:List D->List Bk->Prop):PX->St->Prop
 | .exit _,_=>False
 | _,σ=>∃ r ks pm,getM σ.m ks=some pm∧ks.Nodup∧pm.all pinned=true∧R r pm∧ZbL P σ slots r
theorem Zmr {e:Env} (he:e.Ok) {f:FuncId} {fn:Func} {c:Code} {args:List D} {pm:List Bk} {R:List D->List Bk->Prop} {ts:List RS} (keys:List Nat) (mask:Nat) (hf:e.P.funcs[f]?=some fn) (hb:fn.body=some c) (hnm:(fn.name == "runtime.NumGoroutine")=false)
  (hok:ZbA fn.ntmps c=true) (hal:Nat.ble args.length fn.ntmps=true) (hres:ZaU fn.results.toList=ts) (h:pwp e mask c ⟨Zcl 0 args,zipM keys pm⟩ (ZkI e.P ts R)):ConP e f args pm R:=by
 refine ⟨by unfold Zbw;rw [hf];simp [hnm,hb],fun w S vs hS hE hG hpm hap hvs=>?_⟩
 have hvl:=hvs.len
 have hal:=Nat.le_of_ble_eq_true hal
 subst hres
 refine calls_of_wp hf hb ?_
 have hsim:SimE e (ZaR pm) w S fn.ntmps ⟨Zcl 0 args,zipM keys pm⟩ { tmps:=vs.toArray++Array.replicate (fn.ntmps - vs.toArray.size) undef,defers:=[] } w:=by
  have at':∀ k x,gm (zipM keys pm) k=some x->x∈pm∧Own1 w S (layB (zipM keys pm) ⟨fun _=>0,fun _=>Go.undef⟩) k x∧∀ g,ZaB (layB (zipM keys pm) ⟨fun _=>0,fun _=>Go.undef⟩) k x g ↔ pblk x g:=fun k x hx=>by
   have hm:=(ZdY hx).2
   exact ⟨hm,ZcF (hpm x hm).1 hx⟩
  refine ⟨S,layB (zipM keys pm) ⟨fun _=>0,fun _=>Go.undef⟩,⟨hS,fun b hb=>.inl hb,hE,fun b ⟨x,hx,hg⟩=>(hpm x hx).2 b hg,Tai _,fun k x g hx hg=>.inr ⟨x,(at' k x hx).1,((at' k x hx).2.2 g).1 hg⟩,fun k x hx=>(at' k x hx).2.1,fun k k' x x' g hx hx' hg hg'=>?_,hG⟩,fun t=>Zh1 hvs t,by simp;omega,rfl,Kept.refl _ _ _ _⟩
  exact ZgB hap hx hx' (((at' k x hx).2.2 g).1 hg) (((at' k' x' hx').2.2 g).1 hg')
 refine wp_mono (h he _ _ _ _ _ w hok hsim) fun ex a' w' hq=>?_
 have fin:∀ σ',(∃ r ks pm',getM σ'.m ks=some pm'∧ks.Nodup∧pm'.all pinned=true∧R r pm'∧ZbL e.P σ' (ZaU fn.results.toList) r)->SimE e (ZaR pm) w S fn.ntmps σ' a' w'->a'.defers=[]∧∃ v,(results fn a'.tmps).run e.P w'=.ok v w' ∧
   ∃ u r pm',Ending.returned v=.returned u∧R r pm'∧Kept e.D (fun b=>e.E b∨ZaR pm b) w.heap.size w w'∧e.G w' ∧
   (∀ x∈pm',Zcu w' (fun b=>(S b∨ZaR pm b∨(w.heap.size<=b∧b < w'.heap.size))∧¬ ZaR pm' b) x∧∀ g,pblk x g->ZaR pm g∨w.heap.size<=g)∧Zc3 pm' ∧
   ARel w' (fun b=>(S b∨ZaR pm b∨(w.heap.size<=b∧b < w'.heap.size))∧¬ ZaR pm' b) ⟨fun _=>0,fun _=>Go.undef⟩ (retA r) u:=by
  intro σ' ⟨r,ks,pm',hg,hn,hp,hR,h1⟩ ⟨S',L',h2⟩
  obtain ⟨v,h3,h4⟩:=Zfk h2 h1
  have hp:∀ x∈pm',pinned x=true:=fun x hx=>List.all_eq_true.1 hp x hx
  have hS':∀ b,S' b->(S b∨ZaR pm b∨(w.heap.size<=b∧b < w'.heap.size))∧¬ ZaR pm' b:=fun b hb=>by
   refine ⟨?_,fun ⟨x,hx,hxg⟩=>?_⟩
   ·rcases h2.cls.sfr b hb with q | q | q
    ·exact .inl q
    ·exact .inr (.inr ⟨q,(h2.cls.sin b hb).1⟩)
    ·exact .inr (.inl q)
   ·obtain ⟨k,hk,hkx⟩:=ZcX hg x hx
    exact ((h2.cls.own k x hkx).lt (((Zb4 (h2.cls.own k x hkx) (hp x hx)).2 b).2 hxg)).2 hb
  refine ⟨h2.defers,v,h3,v,r,pm',rfl,hR,h2.kept,h2.cls.g,fun x hx=>?_,ZeA h2.cls.own h2.cls.inj hn hg hp,ZhX (h4.keep (Tai _) (fun _ _ _=>rfl) hS')⟩
  obtain ⟨k,hk,hkx⟩:=ZcX hg x hx
  have ho:=h2.cls.own k x hkx
  have hpo:=Zb4 ho (hp x hx)
  refine ⟨(Zb4 (ho.keep (Tai _) (fun _ _ _=>rfl) hS' (fun g hg'=>⟨rfl,fun hs=>hs.2 ⟨x,hx,(hpo.2 g).1 hg'⟩⟩)) (hp x hx)).1,fun g hg'=>?_⟩
  rcases h2.cls.mine k x g hkx ((hpo.2 g).2 hg') with q | q
  ·exact .inr q
  ·exact .inl q
 cases ex with
 | normal=>obtain ⟨σ',h1,h2⟩:=hq;exact fin σ' h1 h2
 | ret=>obtain ⟨σ',h1,h2⟩:=hq;exact fin σ' h1 h2
 | exit id=>obtain ⟨σ',h1,h2⟩:=hq;exact h1.elim
 | goto l=>exact hq.elim
 | panic ch=>exact hq.elim
 | outgrown=>exact hq.elim
def ZpD (P:Program) (slots:List RS) (R:List D->Prop):PX->St->Prop
 | .exit _,_=>False
 | _,σ=>∃ ks r,R r∧ZbL P (frzs ks σ) slots r
theorem Zms {e:Env} (he:e.Ok) {f:FuncId} {fn:Func} {c:Code} {args:List D} {R:List D->Prop} {ts:List RS} (mask:Nat) (hf:e.P.funcs[f]?=some fn) (hb:fn.body=some c) (hnm:(fn.name == "runtime.NumGoroutine")=false)
  (hok:ZbA fn.ntmps c=true) (hal:Nat.ble args.length fn.ntmps=true) (hres:ZaU fn.results.toList=ts) (h:pwp e mask c ⟨Zcl 0 args,[]⟩ (ZpD e.P ts R)):ConE e f args R:=by
 refine ⟨by unfold Zbw;rw [hf];simp [hnm,hb],fun w S vs hS hE hG hvs=>?_⟩
 have hvl:=hvs.len
 have hal:=Nat.le_of_ble_eq_true hal
 subst hres
 refine calls_of_wp hf hb ?_
 have hsim:SimE e (fun _=>False) w S fn.ntmps ⟨Zcl 0 args,[]⟩ { tmps:=vs.toArray++Array.replicate (fn.ntmps - vs.toArray.size) undef,defers:=[] } w:=by
  exact ⟨S,⟨fun _=>0,fun _=>Go.undef⟩,⟨hS,fun b hb=>.inl hb,hE,fun _ h=>h.elim,Tai _,fun k x g hk=>by simp [gm] at hk,fun k x hk=>by simp [gm] at hk,fun k k' x x' g hk=>by simp [gm] at hk,hG⟩,fun t=>Zh1 hvs t,by simp;omega,rfl,Kept.refl _ _ _ _⟩
 refine wp_mono (h he _ _ _ _ _ w hok hsim) fun ex a' w' hq=>?_
 have fin:∀ σ',(∃ ks r,R r∧ZbL e.P (frzs ks σ') (ZaU fn.results.toList) r)->SimE e (fun _=>False) w S fn.ntmps σ' a' w'->a'.defers=[]∧∃ v,(results fn a'.tmps).run e.P w'=.ok v w'∧∃ u r,Ending.returned v=.returned u∧R r∧Kept e.D e.E w.heap.size w w'∧e.G w'∧ARel w' (fun b=>S b∨(w.heap.size<=b∧b < w'.heap.size)) ⟨fun _=>0,fun _=>Go.undef⟩ (retA r) u:=by
  intro σ' ⟨ks,r,hr,h1⟩ h2
  obtain ⟨S',L',h2⟩:=SimE.frzs he ks σ' h2
  obtain ⟨v,h3,h4⟩:=Zfk h2 h1
  refine ⟨h2.defers,v,h3,v,r,rfl,hr,⟨h2.kept.os,h2.kept.tape,h2.kept.output,h2.kept.drawn,h2.kept.size,fun b hb hE=>h2.kept.block b hb (fun h=>h.elim hE id)⟩,h2.cls.g,h4.keep (Tai _) (fun _ _ _=>rfl) (fun b hb=>?_)⟩
  rcases h2.cls.sfr b hb with h | h | h
  ·exact .inl h
  ·exact .inr ⟨h,(h2.cls.sin b hb).1⟩
  ·exact h.elim
 cases ex with
 | normal=>obtain ⟨σ',h1,h2⟩:=hq;exact fin σ' h1 h2
 | ret=>obtain ⟨σ',h1,h2⟩:=hq;exact fin σ' h1 h2
 | exit id=>obtain ⟨σ',h1,h2⟩:=hq;exact h1.elim
 | goto l=>exact hq.elim
 | panic ch=>exact hq.elim
 | outgrown=>exact hq.elim
inductive Res where
 | bad
 | done (σ:St)
 | call (q:Bool) (c:Operand) (args:List Operand) (d:Option Nat) (n:Nat) (os:List Oper) (σ:St)
 | map (q:Bool) (d:Option Nat) (n:Nat) (os:List Oper) (σ:St)
 | stop (n:Nat) (os:List Oper) (σ:St)
def ZcH (x:Option St) (f:St->Res):Res :=
 match x with
 | some σ=>f σ
 | none=>.bad
def Zg8 (d:Option Nat) (next:St->Res) (σ:St):Res:=next ⟨setA σ.s d .no,σ.m⟩
def Ziq (yes no:St->Res) (σ:St):Bool->Res
 | true=>yes σ
 | false=>no σ
def Zeo (want:Bool) (yes no:St->Res) (σ:St):Option A->Res
 | some (.d (.one (.lit (.bool b))))=>Ziq yes no σ (b==want)
 | some .no=>no σ
 | _=>.bad
def qB:Nat->Bool
 | 0=>false
 | _+1=>true
def ZaY (P:Program) (d:Option Nat) (ty:TypeId) (q n:Nat) (os:List Oper) (next:St->Res):Op->St->Res
 | .alloc t,σ=>ZcH (if qB q=true then none else newE σ d (Zaq P t)) next
 | .call ⟨.value c,args,_⟩,σ=>.call (qB n) c args.toList d (n - 1) os σ
 | .makeMap _ none,σ=>.map (qB n) d (n - 1) os σ
 | op,σ=>ZcH (ZfO P (qB n) σ d ty op) next
def Zbn (P:Program) (ds:List (Option Nat)):Nat->List Oper->St->Res
 | _,[],σ=>.done σ
 | n,⟨d,op,ty,_,_,none⟩::os,σ=>ZaY P d ty (n - 1) n os (Zbn P ds (n - 1) os) op σ
 | n,⟨d,op,ty,_,_,some (j,want)⟩::os,σ=>Zeo want (ZaY P d ty n n os (Zbn P ds (n - 1) os) op) (Zg8 d (Zbn P ds (n - 1) os)) σ ((ds[j]?.join).map (gs σ.s))
def runN (P:Program) (ds:List (Option Nat)):Nat->Nat->List Oper->St->Res
 | 0,n,os,σ=>.stop n os σ
 | _+1,_,[],σ=>.done σ
 | j+1,n,⟨d,op,ty,_,_,none⟩::os,σ=>ZaY P d ty (n - 1) n os (runN P ds j (n - 1) os) op σ
 | j+1,n,⟨d,op,ty,_,_,some (i,want)⟩::os,σ=>Zeo want (ZaY P d ty n n os (runN P ds j (n - 1) os) op) (Zg8 d (runN P ds j (n - 1) os)) σ ((ds[i]?.join).map (gs σ.s))
def ResQ (e:Env) (ds:List (Option Nat)) (K:St->Prop):Res->Prop
 | .bad=>False
 | .done σ=>K σ
 | .call q c args d n os σ=>∀ (o:Oper) (ts:Array TypeId),o.op=.call ⟨.value c,args.toArray,ts⟩->o.dst=d->ZkG e q o σ (fun σ'=>Runs e ds n os σ' K)
 | .map q d n os σ=>q=false∧∀ b:Nat,Runs e ds n os ⟨setA σ.s d (.d (.one (.lit (.map (some b))))),σ.m⟩ K
 | .stop n os σ=>Runs e ds n os σ K
theorem Zfl {e:Env} {ds:List (Option Nat)} {os:List Oper} {K:St->Prop} {n q:Nat} {next:St->Res} (ih:∀ σ,ResQ e ds K (next σ)->Runs e ds (n - 1) os σ K) {o:Oper} {σ:St} (hq:q=n∨∀ t,o.op≠.alloc t) (h:ResQ e ds K (ZaY e.P o.dst o.type q n os next o.op σ)) :
  ZkG e (qB n) o σ (fun σ'=>Runs e ds (n - 1) os σ' K):=by
 unfold ZaY at h
 split at h
 ·rename_i t ho
  rcases hq with hq | hq
  ·subst hq
   unfold ZcH at h
   split at h
   ·rename_i σ' hσ
    cases hq:qB q with
    | true=>rw [hq] at hσ;simp at hσ
    | false =>
     rw [hq] at hσ
     show Zbc e o _ (fun σ'=>Runs e ds (q - 1) os σ' K)
     refine ZqK (σ':=σ') ?_ (ih σ' h)
     simp only [ho,ZfO]
     exact hσ
   ·exact h.elim
  ·exact (hq t ho).elim
 ·rename_i c args ts ho
  exact h o ts (by rw [ho]) rfl
 ·rename_i t ho
  obtain ⟨h1,h2⟩:=h
  rw [h1]
  exact Zk5 ho h2
 ·rename_i op σ1 hne0 hne hne2 ho
  unfold ZcH at h
  split at h
  ·rename_i σ' hσ
   cases hq:qB n with
   | true =>
    rw [hq] at hσ
    show ZdX e o _ (fun σ'=>Runs e ds (n - 1) os σ' K)
    exact ZzC hσ (ih σ' h)
   | false =>
    rw [hq] at hσ
    show Zbc e o _ (fun σ'=>Runs e ds (n - 1) os σ' K)
    exact ZqK hσ (ih σ' h)
  ·exact h.elim
theorem ZjO {e:Env} {ds:List (Option Nat)} {K:St->Prop} {n:Nat} {os:List Oper} {o:Oper} {σ:St} {next:St->Res} (hg:o.guard=none) (ih:∀ σ,ResQ e ds K (next σ)->Runs e ds (n - 1) os σ K) (h:ResQ e ds K (ZaY e.P o.dst o.type (n - 1) n os next o.op σ)):Runs e ds n (o::os) σ K:=by
 have alloc:∀ t,o.op=.alloc t->qB (n - 1)=false∧∃ d cs,o.dst=some d∧Zaq e.P t=some cs∧Runs e ds (n - 1) os ⟨(d,.ref d 0)::Zao d σ.s,(d,.var none cs)::remM d σ.m⟩ K:=fun t ho=>by
  rw [ho] at h
  simp only [ZaY] at h
  unfold ZcH at h
  split at h
  ·rename_i σ' hσ
   split at hσ
   ·cases hσ
   ·rename_i hq
    unfold newE at hσ
    split at hσ
    ·rename_i d cs hd hz
     injection hσ with hσ
     exact ⟨by simpa using hq,d,cs,hd,hz,by rw [hσ];exact ih _ h⟩
    ·cases hσ
  ·exact h.elim
 cases n with
 | zero =>
  simp only [Runs]
  have h1:=Zfl (n:=0) (q:=0) ih (.inl rfl) h
  have h1:Zbc e o σ (fun σ'=>Runs e ds 0 os σ' K):=h1
  simp only [Runs] at h1
  exact Zck hg h1
 | succ n =>
  simp only [Runs,hg]
  by_cases hal:∃ t,o.op=.alloc t
  ·obtain ⟨t,ho⟩:=hal
   obtain ⟨h1,d,cs,h2,h3,h4⟩:=alloc t ho
   have hn:n=0:=by
    cases n with
    | zero=>rfl
    | succ k=>cases h1
   subst hn
   have hia:isAl o=true:=by
    obtain ⟨od,oo,ot,op,oa,og⟩:=o
    simp only at ho h2 hg
    subst ho h2 hg
    rfl
   simp only [hia,and_self,if_true]
   simp only [Nat.add_sub_cancel,Runs] at h4
   exact ⟨d,t,cs,h2,ho,h3,h4⟩
  ·have hna:¬ (n=0∧isAl o=true):=fun ⟨_,h2⟩=>by
    unfold isAl at h2
    split at h2
    ·exact hal ⟨_,rfl⟩
    ·cases h2
   rw [if_neg hna]
   exact Zfl ih (.inr fun t ht=>hal ⟨t,ht⟩) h
theorem ZpE {e:Env} {ds:List (Option Nat)} {K:St->Prop} {n:Nat} {os:List Oper} {o:Oper} {σ:St} {j:Nat} {want:Bool} (hg:o.guard=some (j,want)) (h:match (ds[j]?.join).map (gs σ.s) with
   | some (.d (.one (.lit (.bool b))))=>if b=want then ZkG e (qB n) o σ (fun σ'=>Runs e ds (n - 1) os σ' K) else Runs e ds (n - 1) os ⟨setA σ.s o.dst .no,σ.m⟩ K
   | some .no=>Runs e ds (n - 1) os ⟨setA σ.s o.dst .no,σ.m⟩ K
   | _=>False):Runs e ds n (o::os) σ K:=by
 cases n with
 | zero =>
  simp only [Runs]
  refine Zmp hg ?_
  split at h
  ·rename_i b hb
   try simp only [hb]
   split at h
   ·rename_i hbw
    rw [if_pos hbw]
    have h:Zbc e o σ (fun σ'=>Runs e ds 0 os σ' K):=h
    simpa only [Runs] using h
   ·rename_i hbw
    rw [if_neg hbw]
    have h:Runs e ds 0 os ⟨setA σ.s o.dst .no,σ.m⟩ K:=h
    simpa only [Runs] using h
  ·rename_i hb
   try simp only [hb]
   have h:Runs e ds 0 os ⟨setA σ.s o.dst .no,σ.m⟩ K:=h
   simpa only [Runs] using h
  ·exact h.elim
 | succ n =>
  simp only [Runs,hg]
  exact h
theorem ZgI {e:Env} {ds:List (Option Nat)} {K:St->Prop} {n:Nat} {os:List Oper} {d:Option Nat} {op:Op} {ty:TypeId} {pos:String} {aft:Array Edge} {j:Nat} {want:Bool} {next:St->Res} (ih:∀ σ,ResQ e ds K (next σ)->Runs e ds (n - 1) os σ K) {σ:St}
  (h:ResQ e ds K (Zeo want (ZaY e.P d ty n n os next op) (Zg8 d next) σ ((ds[j]?.join).map (gs σ.s)))):Runs e ds n (⟨d,op,ty,pos,aft,some (j,want)⟩::os) σ K:=by
 refine ZpE rfl ?_
 unfold Zeo at h
 split at h
 ·rename_i b hb
  simp only [hb]
  unfold Ziq at h
  split at h
  ·rename_i hbw
   rw [if_pos (by simpa using hbw)]
   exact Zfl (o:=⟨d,op,ty,pos,aft,some (j,want)⟩) ih (.inl rfl) h
  ·rename_i hbw
   rw [if_neg (by simpa using hbw)]
   exact ih _ h
 ·rename_i hb
  simp only [hb]
  exact ih _ h
 ·exact h.elim
theorem ZcY {e:Env} {ds:List (Option Nat)} {K:St->Prop} {n:Nat} {σ:St} (h:K σ):Runs e ds n [] σ K:=by
 cases n with
 | zero=>simp only [Runs];exact ZqP h
 | succ n=>exact h
theorem Zd0 {e:Env} {ds:List (Option Nat)} {K:St->Prop}:∀ (os:List Oper) (n:Nat) (σ:St),ResQ e ds K (Zbn e.P ds n os σ)->Runs e ds n os σ K
 | [],n,σ,h=>ZcY h
 | ⟨d,op,ty,pos,aft,none⟩::os,n,σ,h=>ZjO (o:=⟨d,op,ty,pos,aft,none⟩) rfl (Zd0 os (n - 1)) h
 | ⟨d,op,ty,pos,aft,some (j,want)⟩::os,n,σ,h=>ZgI (Zd0 os (n - 1)) h
theorem Zjk {e:Env} {ds:List (Option Nat)} {K:St->Prop}:∀ (j:Nat) (os:List Oper) (n:Nat) (σ:St),ResQ e ds K (runN e.P ds j n os σ)->Runs e ds n os σ K
 | 0,os,n,σ,h=>h
 | j+1,[],n,σ,h=>ZcY h
 | j+1,⟨d,op,ty,pos,aft,none⟩::os,n,σ,h=>ZjO (o:=⟨d,op,ty,pos,aft,none⟩) rfl (Zjk j os (n - 1)) h
 | j+1,⟨d,op,ty,pos,aft,some (i,want)⟩::os,n,σ,h=>ZgI (Zjk j os (n - 1)) h
def ZkJ (c:A) (xs:Option (List D)) (σ:St):Option (FuncId × List D × St) :=
 match Zcv c,xs with
 | some (f,caps),some xs=>some (f,xs++caps.map .one,σ)
 | _,_=>none
def ZkK (c:Operand) (args:List Operand):Option St->Option (FuncId × List D × St)
 | some σ=>ZkJ (evA σ.s c) (dsA (args.map (evA σ.s))) σ
 | none=>none
def ZeC (q:Bool) (c:Operand) (args:List Operand) (σ:St):Option (FuncId × List D × St):=ZkK c args (frzQ q (ZcP (args.map (evA σ.s))) σ)
def ZpF (f:Option (FuncId × List C)) (k:Nat) (xs:Option (List D)):Option Bk->Option (FuncId × Nat × Nat × Nat × List (List C) × List D)
 | some (.buf _ ty sz rows)=>match f,xs with
  | some (f,caps),some xs=>some (f,k,ty,sz,rows,xs++caps.map .one)
  | _,_=>none
 | _=>none
def ZpG (m:List (Nat × Bk)) (f:Option (FuncId × List C)) (xs:Option (List D)):A->Option (FuncId × Nat × Nat × Nat × List (List C) × List D)
 | .buf k=>ZpF f k xs (gm m k)
 | _=>none
def ZAs (c:Operand) (x0:Operand) (rest:List Operand) (σ:St):Option (FuncId × Nat × Nat × Nat × List (List C) × List D):=ZpG σ.m (Zcv (evA σ.s c)) (dsA (rest.map (evA σ.s))) (nrm σ.m (evA σ.s x0))
section
variable {e:Env} {mask:Nat} {σ:St} {Q:PX->St->Prop} {ds:List (Option Nat)} {K:St->Prop} {os os':List Oper} {n n':Nat} {s1 s2 s3:List (Nat × A)} {m1 m2 m3:List (Nat × Bk)}
theorem Zfe {σ':St} (h:Zbn e.P ds n os σ=.done σ') (hK:K σ'):Runs e ds n os σ K:=Zd0 os n σ (by rw [h];exact hK)
theorem ZqQ {ks:List Nat} {σ σ':St} (hf:frzQ false ks σ=some σ'):frzs ks σ=σ':=by
 unfold frzQ at hf
 split at hf
 ·injection hf with hf
 ·simpa using hf
theorem ZfU {q:Bool} {c:Operand} {args:List Operand} {f:FuncId} {xs:List D} {σ':St} (h1:ZeC q c args σ=some (f,xs,σ')):∃ caps ys,frzQ q (ZcP (args.map (evA σ.s))) σ=some σ'∧Zcv (evA σ'.s c)=some (f,caps)∧dsA (args.map (evA σ'.s))=some ys∧xs=ys++caps.map .one:=by
 unfold ZeC ZkK at h1
 split at h1
 ·rename_i σ1 hf
  unfold ZkJ at h1
  split at h1
  ·rename_i f' caps xs' hcal hds
   simp only [Taq,Prod.mk.injEq] at h1
   obtain ⟨rfl,rfl,rfl⟩:=h1
   exact ⟨caps,xs',hf,hcal,hds,rfl⟩
  ·cases h1
 ·cases h1
theorem ZzE {q:Bool} {c:Operand} {args:List Operand} {f:FuncId} {xs:List D} {d:Option Nat} {r:List D} (h:Zbn e.P ds n os σ=.call q c args d n' os' ⟨s1,m1⟩) (h1:ZeC q c args ⟨s1,m1⟩=some (f,xs,⟨s2,m2⟩)) (hc:Con e f xs r) (h2:setA s2 d (retA r)=s3) (hK:Runs e ds n' os' ⟨s3,m2⟩ K):Runs e ds n os σ K:=by
 refine Zd0 os n σ ?_
 rw [h]
 intro o ts ho hd
 obtain ⟨caps,ys,hf,hcal,hds,rfl⟩:=ZfU h1
 exact ZuX ho hf hcal hds hc (by rw [hd,h2];exact hK)
theorem Zu5 {d:Option Nat} (h:Zbn e.P ds n os σ=.map false d n' os' ⟨s1,m1⟩) (hK:∀ b:Nat,Runs e ds n' os' ⟨setA s1 d (.d (.one (.lit (.map (some b))))),m1⟩ K):Runs e ds n os σ K:=by
 refine Zd0 os n σ ?_
 rw [h]
 exact ⟨rfl,hK⟩
theorem ZqR {P:Program} {d:Option Nat} {ty:TypeId} {n:Nat} {os:List Oper} {nx:St->Res} {q:Nat} {t:TypeId} {s:List (Nat × A)} {m:List (Nat × Bk)}:ZaY P d ty q n os nx (.makeMap t none) ⟨s,m⟩=.map (qB n) d (n - 1) os ⟨s,m⟩:=rfl
theorem Zu6 {c:Operand} {args:List Operand} {f:FuncId} {xs:List D} {d:Option Nat} {R:List D->Prop} (h:Zbn e.P ds n os σ=.call false c args d n' os' ⟨s1,m1⟩) (h1:ZeC false c args ⟨s1,m1⟩=some (f,xs,⟨s2,m2⟩)) (hc:ConE e f xs R) (hK:∀ r,R r->Runs e ds n' os' ⟨setA s2 d (retA r),m2⟩ K):Runs e ds n os σ K:=by
 refine Zd0 os n σ ?_
 rw [h]
 intro o ts ho hd
 obtain ⟨caps,ys,hf,hcal,hds,rfl⟩:=ZfU h1
 exact ZjK (Zdy _ (ZqQ hf)) (fun σ'' hσ=>by subst hσ;exact ZqL ho hcal hds hc (fun r hr=>by rw [hd];exact hK r hr))
theorem Zu7 {c:Operand} {args:List Operand} {f:FuncId} {xs:List D} {d:Option Nat} (ks ks':List Nat) {pm:List Bk} {R:List D->List Bk->Prop} (h:Zbn e.P ds n os σ=.call false c args d n' os' ⟨s1,m1⟩) (h1:ZeC false c args ⟨s1,m1⟩=some (f,xs,⟨s2,m2⟩)) (hc:ConP e f xs pm R) (hpm:getM m2 ks=some pm) (hpn:pm.all pinned=true) (hn:ks.Nodup)
  (hk:Zcj (ks++ks') s2=s3) (hr:Zci (ks++ks') m2=m3) (hK:∀ r pm',R r pm'->Runs e ds n' os' ⟨setA s3 d (retA r),zipM ks' pm'++m3⟩ K):Runs e ds n os σ K:=by
 refine Zd0 os n σ ?_
 rw [h]
 intro o ts ho hd
 obtain ⟨caps,ys,hf,hcal,hds,rfl⟩:=ZfU h1
 exact ZjK (Zdy _ (ZqQ hf)) (fun σ'' hσ=>by subst hσ;exact ZzZ ho ks ks' hn hpm hpn hcal hds hc (fun r pm' hR=>by rw [hd];simp only [hk,hr];exact hK r pm' hR))
theorem ZgJ {P:St->Prop} (hT:Turn e σ P) (h:∀ σ',P σ'->Runs e ds 0 os σ' K):Runs e ds 0 os σ K:=by
 simp only [Runs] at h ⊢
 exact ZpB hT h
def Zir:Res->Option (Nat × List Oper × List (Nat × A) × List (Nat × Bk))
 | .stop n os σ=>some (n,os,σ.s,σ.m)
 | _=>none
theorem ZqS (j:Nat) (h:Zir (runN e.P ds j n os σ)=some (n',os',s1,m1)) (hK:Runs e ds n' os' ⟨s1,m1⟩ K):Runs e ds n os σ K:=by
 refine Zjk j os n σ ?_
 cases hr:runN e.P ds j n os σ with
 | stop n1 os1 σ1 =>
  rw [hr] at h
  simp only [Zir,Taq,Prod.mk.injEq] at h
  obtain ⟨rfl,rfl,rfl,rfl⟩:=h
  exact hK
 | _=>rw [hr] at h;cases h
theorem Zu8 {id:Nat} {l:List Oper} {σ1:St} (ks:List Nat) (hf:frzs ks σ=σ1) (hds:l.map (·.dst)=ds) (h:Runs e ds 0 l σ1 (Zdq mask Q)):pwp e mask (.region id l.toArray false) σ Q :=
 ZcG (Zdy ks hf) (fun σ' hσ=>by subst hσ;exact Zip 0 rfl (by subst hds;exact h))
theorem Zu9 {id:Nat} {l:List Oper} (hds:l.map (·.dst)=ds) (h:Runs e ds 0 l σ (Zdq mask Q)):pwp e mask (.region id l.toArray false) σ Q:=Zu8 [] rfl hds h
theorem ZqT {id:Nat} {l:List Oper} {σ1:St} (n:Nat) (ks:List Nat) (hf:frzs ks σ=σ1) (hr:regX l.toArray n=true) (hds:l.map (·.dst)=ds) (h:Runs e ds n l σ1 (Zdq mask Q)):pwp e mask (.region id l.toArray true) σ Q :=
 ZcG (Zdy ks hf) (fun σ' hσ=>by subst hσ;exact Zip n (by simpa using hr) (by subst hds;exact h))
theorem Zva {id:Nat} {l:List Oper} (n:Nat) (hr:regX l.toArray n=true) (hds:l.map (·.dst)=ds) (h:Runs e ds n l σ (Zdq mask Q)):pwp e mask (.region id l.toArray true) σ Q:=ZqT n [] rfl hr hds h
theorem Wk.refl (σ:St):Wk σ σ:=⟨fun _=>.inl rfl,fun _ _ h=>h⟩
theorem ZqU {c:Operand} {a b:Code} (hc:evA σ.s c=.d (.one (.lit (.bool true)))) (h:pwp e mask a σ Q):pwp e mask (.cond c a b) σ Q:=Zlc hc (fun _=>h) (fun h=>by cases h)
theorem ZqV {c:Operand} {a b:Code} (hc:evA σ.s c=.d (.one (.lit (.bool false)))) (h:pwp e mask b σ Q):pwp e mask (.cond c a b) σ Q:=Zlc hc (fun h=>by cases h) (fun _=>h)
theorem Zis {P:Program} {ts:List RS} {r:List D} (h:ZbL P σ ts r):retQ P ts r .ret σ:=⟨[],h⟩
theorem Zz0 {P:Program} {ts:List RS} {r:List D} {σ1:St} (ks:List Nat) (hf:frzs ks σ=σ1) (h:ZbL P σ1 ts r):retQ P ts r .ret σ:=⟨ks,by rw [hf];exact h⟩
end
section
variable {P:Program} {d:Option Nat} {ds:List (Option Nat)} {os:List Oper} {q n:Nat} {ty:TypeId} {nx:St->Res} {s:List (Nat × A)} {m:List (Nat × Bk)} {σ:St}
def Zb5 (nx:St->Res) (s:List (Nat × A)) (m:List (Nat × Bk)) (d:Option Nat):Option A->Res
 | some α=>nx ⟨setA s d α,m⟩
 | none=>.bad
theorem Zit {α:A}:Zb5 nx s m d (some α)=nx ⟨setA s d α,m⟩:=rfl
theorem Za9 {x:Option A}:ZcH (putE ⟨s,m⟩ d x) nx=Zb5 nx s m d x:=by cases x <;> rfl
theorem ZqW:Zbn P ds n [] ⟨s,m⟩=.done ⟨s,m⟩:=rfl
theorem ro_n {op:Op} {t:TypeId} {p:String} {a:Array Edge}:Zbn P ds n (⟨d,op,t,p,a,none⟩::os) ⟨s,m⟩=ZaY P d t (n - 1) n os (Zbn P ds (n - 1) os) op ⟨s,m⟩:=rfl
theorem ro_g {op:Op} {t:TypeId} {p:String} {a:Array Edge} {j:Nat} {w:Bool}:Zbn P ds n (⟨d,op,t,p,a,some (j,w)⟩::os) ⟨s,m⟩=Zeo w (ZaY P d t n n os (Zbn P ds (n - 1) os) op) (Zg8 d (Zbn P ds (n - 1) os)) ⟨s,m⟩ ((ds[j]?.join).map (gs s)):=rfl
theorem ZqX {y x:St->Res} {b w:Bool}:Zeo w y x σ (some (.d (.one (.lit (.bool b)))))=Ziq y x σ (b==w):=rfl
theorem pk_t {y x:St->Res}:Ziq y x σ true=y σ:=rfl
theorem pk_f {y x:St->Res}:Ziq y x σ false=x σ:=rfl
theorem sk_r:Zg8 d nx ⟨s,m⟩=nx ⟨setA s d .no,m⟩:=rfl
theorem g_no {y x:St->Res} {w:Bool}:Zeo w y x σ (some .no)=x σ:=rfl
theorem qB_0:qB 0=false:=rfl
theorem qB_s {k:Nat}:qB (k+1)=true:=rfl
theorem ZqY {x:Operand}:ZaY P d ty q n os nx (.move x) ⟨s,m⟩=nx ⟨setA s d (evA s x),m⟩:=rfl
theorem ZqZ {c a b:Operand}:ZaY P d ty q n os nx (.pick c a b) ⟨s,m⟩=Zb5 nx s m d (ZkD (evA s a) (evA s b) (evA s c)):=Za9
theorem Zq0 {t:TypeId} {x:Operand}:ZaY P d ty q n os nx (.load t x) ⟨s,m⟩=Zb5 nx s m d (Zdp (Zat P t) (ptrA m (nrm m (evA s x)))):=Za9
theorem Zhx {t:TypeId} {x:Operand} {f:Nat}:ZaY P d ty q n os nx (.fieldAddr t x f) ⟨s,m⟩=Zb5 nx s m d (Zch (evA s x) (offT P t f)):=Za9
theorem Zm9 {t:TypeId} {x:Operand} {f:Nat}:ZaY P d ty q n os nx (.field t x f) ⟨s,m⟩=Zb5 nx s m d (Zgt P (evA s x) (offT P t f)):=Za9
theorem Zhy {t:TypeId} {x i:Operand}:ZaY P d ty q n os nx (.indexAddr t x i) ⟨s,m⟩=Zb5 nx s m d (ZcC m (ZaP P t) (nrm m (evA s x)) (evA s i)):=Za9
theorem Zna {t:TypeId} {x i:Operand}:ZaY P d ty q n os nx (.index t x i) ⟨s,m⟩=Zb5 nx s m d (Zgu (P.underlying t) (evA s x) (evA s i)):=Za9
theorem ZvK {op:BinOp} {t t':TypeId} {x y:Operand}:ZaY P d ty q n os nx (.binOp op t x y t') ⟨s,m⟩=Zb5 nx s m d (binA P t op (evA s x) (evA s y)):=Za9
theorem R_un {op:UnOp} {t:TypeId} {x:Operand}:ZaY P d ty q n os nx (.unOp op t x) ⟨s,m⟩=Zb5 nx s m d (unA op (evA s x)):=Za9
theorem ZjP {x:Operand} {i:Nat}:ZaY P d ty q n os nx (.extract x i) ⟨s,m⟩=Zb5 nx s m d (ZeU i (evA s x)):=Za9
theorem ZvL {x:Operand}:ZaY P d ty q n os nx (.nilCheck x) ⟨s,m⟩=Zb5 nx s m d (nilA (evA s x)):=Za9
theorem Zq1 {a b:TypeId} {x:Operand}:ZaY P d ty q n os nx (.convert a b x) ⟨s,m⟩=Zb5 nx s m d (Zg3 P a b (evA s x)):=Za9
theorem Znb {t:TypeId} {x:Operand} {lo hi mx:Option Operand}:ZaY P d ty q n os nx (.slice t x lo hi mx) ⟨s,m⟩=Zb5 nx s m d (ZdV P t (evA s x) (lo.map (evA s)) (hi.map (evA s)) (mx.map (evA s))):=Za9
theorem ZvM {args:List Operand} {ts:Array TypeId}:ZaY P d ty q n os nx (.call ⟨.builtin .len,args.toArray,ts⟩) ⟨s,m⟩=Zb5 nx s m d (lenA m (lenT P ts) (args.map fun x=>nrm m (evA s x))):=Za9
theorem ZvN {args:List Operand} {ts:Array TypeId}:ZaY P d ty q n os nx (.call ⟨.builtin .max,args.toArray,ts⟩) ⟨s,m⟩=Zb5 nx s m d (maxA (args.map (evA s))):=Za9
theorem ZvO {args:List Operand} {ts:Array TypeId}:ZaY P d ty q n os nx (.call ⟨.builtin .min,args.toArray,ts⟩) ⟨s,m⟩=Zb5 nx s m d (minA (args.map (evA s))):=Za9
theorem Zq2 {c:Operand} {args:List Operand} {ts:Array TypeId}:ZaY P d ty q n os nx (.call ⟨.value c,args.toArray,ts⟩) ⟨s,m⟩=.call (qB n) c args d (n - 1) os ⟨s,m⟩:=rfl
def Ziu (nx:St->Res) (d:Option Nat) (f:List (Nat × A)->List (Nat × Bk)->Option A):Option St->Res
 | some σ=>Zb5 nx σ.s σ.m d (f σ.s σ.m)
 | none=>.bad
theorem Znc {f:List (Nat × A)->List (Nat × Bk)->Option A}:Ziu nx d f (some ⟨s,m⟩)=Zb5 nx s m d (f s m):=rfl
theorem Zh2 {op:Op} {x:Option St} {f:List (Nat × A)->List (Nat × Bk)->Option A} (h:∀ s m,Ze9 P m (evA s) op=f s m):ZcH (Zfa P d op x) nx=Ziu nx d f x:=by
 cases x with
 | none=>rfl
 | some σ =>
  obtain ⟨s',m'⟩:=σ
  show ZcH (putE ⟨s',m'⟩ d (Ze9 P m' (evA s') op)) nx=_
  rw [Za9,h]
  rfl
theorem Znd {t:TypeId} {parts:List (Nat × Operand)}:ZaY P d ty q n os nx (.build t parts.toArray) ⟨s,m⟩=Ziu nx d (fun s m=>Zfx P t (parts.map fun p=>(p.1,evA s p.2))) (frzQ (qB n) (ZcP (parts.map fun p=>evA s p.2)) ⟨s,m⟩):=Zh2 (fun _ _=>rfl)
theorem ZgK {t:TypeId} {k:Nat} {parts:List (Nat × Operand)}:ZaY P d ty q n os nx (.buildSlice t k parts.toArray) ⟨s,m⟩=Ziu nx d (fun s m=>Zdf (ZaF P t) k (parts.map fun p=>(p.1,evA s p.2))) (frzQ (qB n) (ZcP (parts.map fun p=>evA s p.2)) ⟨s,m⟩):=Zh2 (fun _ _=>rfl)
theorem Ziv {f:FuncId} {caps:List Operand}:ZaY P d ty q n os nx (.makeFunc (.func f) #[] caps.toArray) ⟨s,m⟩=Ziu nx d (fun s m=>fnA f (csA (caps.map (evA s)))) (frzQ (qB n) (ZcP (caps.map (evA s))) ⟨s,m⟩):=Zh2 (fun _ _=>rfl)
theorem Zq3 {q:Bool}:frzQ q [] σ=some σ:=rfl
theorem Zne {k:Nat} {ks:List Nat}:frzQ false (k::ks) σ=some (frzs (k::ks) σ):=rfl
theorem Zq4:frzs [] σ=σ:=rfl
theorem Znf {k:Nat} {ks:List Nat}:frzs (k::ks) ⟨s,m⟩=frzs ks (frzB k ⟨s,m⟩ (gm m k)):=rfl
theorem Zng {k:Nat} {bk:Bk}:frzB k ⟨s,m⟩ (some bk)=⟨frzS k bk s,remM k m⟩:=rfl
theorem Znh {k:Nat}:frzB k ⟨s,m⟩ none=⟨s,m⟩:=rfl
theorem Zq5 {k:Nat} {bk:Bk}:frzS k bk []=[]:=rfl
theorem Zni {k t:Nat} {bk:Bk} {a:A} {r:List (Nat × A)}:frzS k bk ((t,a)::r)=(t,frzA k bk a)::frzS k bk r:=rfl
theorem Zle {k:Nat} {bk:Bk}:frzA k bk .undef=.undef:=rfl
theorem ZvP {k:Nat} {bk:Bk}:frzA k bk .no=.no:=rfl
theorem fA_d {k:Nat} {bk:Bk} {x:D}:frzA k bk (.d x)=.d x:=rfl
theorem Zq6 {k:Nat} {bk:Bk} {x:List D}:frzA k bk (.tup x)=.tup x:=rfl
theorem ZvQ {k k' off:Nat} {o:Option Nat} {cs:List C}:frzA k (.var o cs) (.ref k' off)=if k'=k then .d (.one (.ptr (cs.drop off))) else .ref k' off:=rfl
theorem ZvR {k k' off e sz:Nat} {o:Option (Option Addr × Nat)} {rows:List (List C)}:frzA k (.buf o e sz rows) (.ref k' off)=if k'=k then .undef else .ref k' off:=rfl
theorem ZvS {k k':Nat} {o:Option Nat} {cs:List C}:frzA k (.var o cs) (.buf k')=if k'=k then .undef else .buf k':=rfl
theorem ZvT {k k' e sz:Nat} {o:Option (Option Addr × Nat)} {rows:List (List C)}:frzA k (.buf o e sz rows) (.buf k')=if k'=k then .d (.one (.sl rows)) else .buf k':=rfl
theorem Zq7 {k k' j sz off:Nat} {bk:Bk}:frzA k bk (.row k' j sz off)=if k'=k then .undef else .row k' j sz off:=rfl
theorem ky_d {x:D}:keyA (.d x)=[]:=rfl
theorem Zq8 {k off:Nat}:keyA (.ref k off)=[k]:=rfl
theorem Zq9 {k:Nat}:keyA (.buf k)=[k]:=rfl
theorem Zra {k j sz off:Nat}:keyA (.row k j sz off)=[]:=rfl
theorem Znj:ZcP []=[]:=rfl
theorem Zlf {a:A} {r:List A}:ZcP (a::r)=keyA a++ZcP r:=rfl
theorem Znk {t:TypeId}:ZaY P d ty q n os nx (.alloc t) ⟨s,m⟩=ZcH (if qB q=true then none else newE ⟨s,m⟩ d (Zaq P t)) nx:=rfl
theorem ZvU {t:TypeId} {x:Operand}:ZaY P d ty q n os nx (.box t x) ⟨s,m⟩=ZcH (if qB n=true then none else Zg5 d x (frzQ (qB n) (keyA (evA s x)) ⟨s,m⟩)) nx:=rfl
theorem Znl {t:TypeId} {x y:Operand}:ZaY P d ty q n os nx (.store t x y) ⟨s,m⟩=ZcH (if qB n=true then none else Zfb P d t x y (frzQ (qB n) (keyA (evA s y)) ⟨s,m⟩)) nx:=rfl
theorem Zlg {x:Operand}:ZaY P d ty q n os nx (.assign x) ⟨s,m⟩=ZcH (if qB n=true then none else Zcw P ⟨s,m⟩ d ty (evA s x)) nx:=rfl
theorem Zhz {t:TypeId} {l c:Operand}:ZaY P d ty q n os nx (.makeSlice t l c) ⟨s,m⟩=ZcH (if qB n=true then none else ZfN P ⟨s,m⟩ d t (evA s l) (evA s c)) nx:=rfl
theorem Zlh {args:List Operand} {ts:Array TypeId}:ZaY P d ty q n os nx (.call ⟨.builtin .append,args.toArray,ts⟩) ⟨s,m⟩=ZcH (if qB n=true then none else ZeK P ⟨s,m⟩ d ts (args.map fun x=>nrm m (evA s x))) nx:=rfl
theorem Zrb:ZcH (some σ) nx=nx σ:=rfl
theorem Zrc {k:Nat} {cs:List C}:newE ⟨s,m⟩ (some k) (some cs)=some ⟨(k,.ref k 0)::Zao k s,(k,.var none cs)::remM k m⟩:=rfl
theorem Znm {x:Operand}:Zg5 d x (some ⟨s,m⟩)=newE ⟨s,m⟩ d (ZbQ (evA s x)):=rfl
theorem Znn {t:TypeId} {x y:Operand}:Zfb P d t x y (some ⟨s,m⟩)=Zfy ⟨s,m⟩ d (nrm m (evA s x)) (ZbQ (evA s y)) (Zau P t):=rfl
theorem ZvV {k off k2:Nat} {us:List C}:Zfy ⟨s,m⟩ none (.ref k off) (some us) (some k2)=storeVar ⟨s,m⟩ k off k2 us (gm m k):=rfl
theorem ZvW {k j sz off k2:Nat} {us:List C}:Zfy ⟨s,m⟩ none (.row k j sz off) (some us) (some k2)=storeRow ⟨s,m⟩ k j sz off k2 us (gm m k):=rfl
theorem ZvX {o:Option Nat} {k off k2:Nat} {us cs:List C}:storeVar ⟨s,m⟩ k off k2 us (some (.var o cs))=if us.length=k2∧off+k2<=cs.length then some ⟨s,(k,.var o (cs.take off++us++cs.drop (off+k2)))::remM k m⟩ else none:=rfl
def Zli (s:List (Nat × A)) (m:List (Nat × Bk)) (o:Option (Option Addr × Nat)) (k j e sz off k2:Nat) (us:List C) (rows:List (List C)):Option (List C)->Option St
 | some r=>if us.length=k2∧off+k2<=r.length then some ⟨s,(k,.buf o e sz (rows.set j (r.take off++us++r.drop (off+k2))))::remM k m⟩ else none
 | none=>none
theorem ZvY {o:Option (Option Addr × Nat)} {k j sz sz' off k2 e:Nat} {us:List C} {rows:List (List C)}:storeRow ⟨s,m⟩ k j sz off k2 us (some (.buf o e sz' rows))=if sz'=sz then Zli s m o k j e sz off k2 us rows rows[j]? else none:=by
 simp only [storeRow]
 split
 ·unfold Zli;cases rows[j]? <;> rfl
 ·rfl
theorem s_bf {o:Option (Option Addr × Nat)} {k j sz off k2 e:Nat} {us r:List C} {rows:List (List C)}:Zli s m o k j e sz off k2 us rows (some r)=if us.length=k2∧off+k2<=r.length then some ⟨s,(k,.buf o e sz (rows.set j (r.take off++us++r.drop (off+k2))))::remM k m⟩ else none:=rfl
theorem Zno {o:Option Nat} {cs:List C}:varA (some (.var o cs))=some cs:=rfl
theorem Znp {o:Option (Option Addr × Nat)} {j sz sz' e:Nat} {rows:List (List C)}:rowA j sz (some (.buf o e sz' rows))=if sz'=sz then rows[j]? else none:=rfl
theorem ZvZ {k:Nat} {c:C}:Zcw P ⟨s,m⟩ (some k) ty (.d (.one c))=some ⟨(k,.d (.one c))::s,m⟩:=rfl
theorem Zv0 {k:Nat} {c:List C}:Zcw P ⟨s,m⟩ (some k) ty (.d (.agg c))=some ⟨(k,.d (.agg c))::s,m⟩:=rfl
theorem Zrd {k:Nat} {r:List C} {rs:List (List C)}:Zcw P ⟨s,m⟩ (some k) ty (.d (.clip (r::rs)))=some ⟨(k,.d (.clip (r::rs)))::s,m⟩:=rfl
theorem Zv1 {k:Nat}:Zcw P ⟨s,m⟩ (some k) ty (.d (.clip []))=newB ⟨s,m⟩ k (ZaF P ty):=rfl
theorem Zv2 {k:Nat} {x:List D}:Zcw P ⟨s,m⟩ (some k) ty (.tup x)=some ⟨(k,.tup x)::s,m⟩:=rfl
theorem Zv3 {k k' off:Nat}:Zcw P ⟨s,m⟩ (some k) ty (.ref k' off)=some ⟨(k,.ref k' off)::s,m⟩:=rfl
theorem Zv4 {k k':Nat}:Zcw P ⟨s,m⟩ (some k) ty (.buf k')=Zg4 ⟨s,m⟩ k' k (gm m k'):=rfl
theorem Znq {o:Option (Option Addr × Nat)} {k k' e sz:Nat} {rows:List (List C)}:Zg4 ⟨s,m⟩ k k' (some (.buf o e sz rows))=if k=k' then some ⟨(k',.buf k')::s,m⟩ else some (ownE ⟨s,m⟩ k k' (.buf o e sz rows)):=rfl
theorem Znr {k e sz b:Nat}:newB ⟨s,m⟩ k (some (e,sz,b))=some ⟨(k,.buf k)::Zao k s,(k,.buf none e sz [])::remM k m⟩:=rfl
theorem Zns {k:Nat}:newB ⟨s,m⟩ k none=some ⟨(k,.d (.clip []))::s,m⟩:=rfl
theorem Zv5 {k k':Nat} {bk:Bk}:ownE ⟨s,m⟩ k k' bk=⟨(k',.buf k')::Zao k' (Zao k s),(k',bk)::remM k' (remM k m)⟩:=rfl
theorem Zre {k:Nat}:Zao k []=[]:=rfl
theorem Zrf {k k' off t:Nat} {r:List (Nat × A)}:Zao k ((t,.ref k' off)::r)=(t,if k'=k then .undef else .ref k' off)::Zao k r:=rfl
theorem Zrg {k k' t:Nat} {r:List (Nat × A)}:Zao k ((t,.buf k')::r)=(t,if k'=k then .undef else .buf k')::Zao k r:=rfl
theorem Zrh {k k' j sz off t:Nat} {r:List (Nat × A)}:Zao k ((t,.row k' j sz off)::r)=(t,if k'=k then .undef else .row k' j sz off)::Zao k r:=rfl
theorem kl_d {k t:Nat} {x:D} {r:List (Nat × A)}:Zao k ((t,.d x)::r)=(t,.d x)::Zao k r:=rfl
theorem Zri {k t:Nat} {x:List D} {r:List (Nat × A)}:Zao k ((t,.tup x)::r)=(t,.tup x)::Zao k r:=rfl
theorem Zlj {k t:Nat} {r:List (Nat × A)}:Zao k ((t,.undef)::r)=(t,.undef)::Zao k r:=rfl
theorem Zv6 {k t:Nat} {r:List (Nat × A)}:Zao k ((t,.no)::r)=(t,.no)::Zao k r:=rfl
theorem Zrj {k:Nat}:remM k []=[]:=rfl
theorem Znt {k t:Nat} {a:Bk} {r:List (Nat × Bk)}:remM k ((t,a)::r)=if t=k then remM k r else (t,a)::remM k r:=rfl
def appX (s:List (Nat × A)) (m:List (Nat × Bk)) (k e sz:Nat) (y:A) (ys:List (List C)):A->Option St
 | .buf k'=>if Zih k' y=true then none else Zfz ⟨s,m⟩ k k' e sz ys (gm m k')
 | .d (.clip rows)=>if ZaE sz rows=true∧rows.length+ys.length<=maxApp∧(rows.isEmpty || !ys.isEmpty)=true then some ⟨(k,.buf k)::Zao k s,(k,.buf none e sz (rows++ys))::remM k m⟩ else none
 | _=>none
def appA (s:List (Nat × A)) (m:List (Nat × Bk)) (k:Nat) (x y:A):Option (TypeId × Nat × Nat)->Option (List (List C))->Option St
 | some (e,sz,_),some ys=>if ZaE sz ys=true then appX s m k e sz y ys x else none
 | _,_=>none
theorem Zv7 {k:Nat} {t:TypeId} {x y:A}:ZeK P ⟨s,m⟩ (some k) #[t,t] [x,y]=appA s m k x y (ZaF P t) (slA m y):=by
 unfold ZeK appA
 simp only [List.getElem?_toArray,Tat,List.getElem?_cons_succ,if_true]
 cases ZaF P t with
 | none=>rfl
 | some b =>
  obtain ⟨e,sz,b⟩:=b
  cases slA m y with
  | none=>rfl
  | some ys =>
   simp only
   split
   ·cases x with
    | d x=>cases x <;> rfl
    | _=>rfl
   ·rfl
theorem Znu {k e sz b:Nat} {x y:A} {ys:List (List C)}:appA s m k x y (some (e,sz,b)) (some ys)=if ZaE sz ys=true then appX s m k e sz y ys x else none:=rfl
theorem Zrk {k k' e sz:Nat} {y:A} {ys:List (List C)}:appX s m k e sz y ys (.buf k')=if Zih k' y=true then none else Zfz ⟨s,m⟩ k k' e sz ys (gm m k'):=rfl
theorem Znv {k e sz:Nat} {y:A} {ys rows:List (List C)}:appX s m k e sz y ys (.d (.clip rows))=if ZaE sz rows=true∧rows.length+ys.length<=maxApp∧(rows.isEmpty || !ys.isEmpty)=true then some ⟨(k,.buf k)::Zao k s,(k,.buf none e sz (rows++ys))::remM k m⟩ else none:=rfl
theorem Znw {o:Option (Option Addr × Nat)} {k k' e e' sz sz':Nat} {ys rows:List (List C)}:Zfz ⟨s,m⟩ k k' e sz ys (some (.buf o e' sz' rows))=if e'=e∧sz'=sz∧rows.length+ys.length<=maxApp then some (ownE ⟨s,m⟩ k' k (.buf none e' sz (rows++ys))) else none:=rfl
theorem ib_d {k:Nat} {x:D}:Zih k (.d x)=false:=rfl
theorem Zrl {k k':Nat}:Zih k (.buf k')=(k'==k):=rfl
def ZkL (s:List (Nat × A)) (m:List (Nat × Bk)) (k e sz:Nat) (a b:Int):Option (List C)->Option St
 | some z=>if a=b∧0<=a∧a<=maxApp∧z.all Zav=true then some ⟨(k,.buf k)::Zao k s,(k,.buf none e sz (List.replicate a.toNat z))::remM k m⟩ else none
 | none=>none
def ZpH (P:Program) (s:List (Nat × A)) (m:List (Nat × Bk)) (k:Nat):Option Int->Option Int->Option (TypeId × Nat × Nat)->Option St
 | some a,some b,some (e,sz,_)=>ZkL s m k e sz a b (Zaq P e)
 | _,_,_=>none
theorem Zv8 {k:Nat} {t:TypeId} {l c:A}:ZfN P ⟨s,m⟩ (some k) t l c=ZpH P s m k (intA l) (intA c) (ZaF P t):=by
 unfold ZfN ZpH
 cases intA l with
 | none=>rfl
 | some a =>
  cases intA c with
  | none=>rfl
  | some b =>
   cases ZaF P t with
   | none=>rfl
   | some q =>
    obtain ⟨e,sz,q⟩:=q
    simp only [ZkL]
    cases Zaq P e <;> rfl
theorem Znx {k e sz q:Nat} {a b:Int}:ZpH P s m k (some a) (some b) (some (e,sz,q))=ZkL s m k e sz a b (Zaq P e):=rfl
theorem Zny {k e sz:Nat} {a b:Int} {z:List C}:ZkL s m k e sz a b (some z)=if a=b∧0<=a∧a<=maxApp∧z.all Zav=true then some ⟨(k,.buf k)::Zao k s,(k,.buf none e sz (List.replicate a.toNat z))::remM k m⟩ else none:=rfl
theorem Zrm {j:Int}:intA (.d (.one (.lit (.int .i64 j))))=some j:=rfl
theorem Zv9 {t:Nat}:evA s (.tmp t)=gs s t:=rfl
theorem Znz {v:Value}:evA s (.const v)=ZcU v:=rfl
theorem Zrn {f:FuncId}:evA s (.func f)=.d (.one (.fn f [])):=rfl
theorem Zwa {k:IntKind} {i:Int}:ZcU (.int k i)=.d (.one (.lit (.int k i))):=rfl
theorem Zro {b:Bool}:ZcU (.bool b)=.d (.one (.lit (.bool b))):=rfl
theorem Zwb {b:ByteArray}:ZcU (.string b)=.d (.one (.lit (.string b))):=rfl
theorem t_sl:ZcU (.slice none 0 0)=.d (.clip []):=rfl
theorem Zwc {p:Option Addr}:ZcU (.pointer p)=.d (.one (.lit (.pointer p))):=rfl
theorem Zwd {l:List Value}:ZcU (.agg l.toArray)=.d (.agg (l.map toC)):=rfl
theorem ZnA {k:IntKind} {i:Int}:toC (.int k i)=.lit (.int k i):=rfl
theorem ZnB {b:ByteArray}:toC (.string b)=.lit (.string b):=rfl
theorem Zlk {b:Bool}:toC (.bool b)=.lit (.bool b):=rfl
theorem Zrp:toC (.slice none 0 0)=.sl []:=rfl
theorem ZnC {p:Option Addr}:toC (.pointer p)=.lit (.pointer p):=rfl
theorem Zg9 {k:Nat} {a:A}:setA s (some k) a=(k,a)::s:=rfl
theorem ZnD {a:A}:setA s none a=s:=rfl
theorem Zwe {cs:List C}:ptrA m (.d (.one (.ptr cs)))=some cs:=rfl
theorem Zwf {k off:Nat}:ptrA m (.ref k off)=(varA (gm m k)).map (·.drop off):=rfl
theorem Zwg {k j sz off:Nat}:ptrA m (.row k j sz off)=(rowA j sz (gm m k)).map (·.drop off):=rfl
theorem Zrq {k:TK} {cs:List C}:Zdp (some k) (some cs)=valT k cs:=rfl
theorem Zwh {c:C} {cs:List C}:valT .one (c::cs)=some (.d (.one c)):=rfl
theorem Zwi {k:Nat} {cs:List C}:valT (.agg k) cs=if k<=cs.length then some (.d (.agg (cs.take k))) else none:=rfl
theorem ZnE {a b:A} {t:Bool}:ZkD a b (.d (.one (.lit (.bool t))))=some (if t=true then a else b):=rfl
theorem Zrr {cs:List C} {k:Nat} {t:TypeId}:Zch (.d (.one (.ptr cs))) (some (k,t))=some (.d (.one (.ptr (cs.drop k)))):=rfl
theorem Zrs {b off k:Nat} {t:TypeId}:Zch (.ref b off) (some (k,t))=some (.ref b (off+k)):=rfl
theorem Zrt {b j sz off k:Nat} {t:TypeId}:Zch (.row b j sz off) (some (k,t))=some (.row b j sz (off+k)):=rfl
theorem Zwj {cs:List C} {k:Nat} {t:TypeId}:Zgt P (.d (.agg cs)) (some (k,t))=Zdp (Zat P t) (some (cs.drop k)):=rfl
theorem Zwk {k:Nat} {rows:List (List C)} {kk:IntKind} {j:Int}:ZcC m (some k) (.d (.one (.sl rows))) (.d (.one (.lit (.int kk j))))=if 0<=j then if ZaE k rows=true then eltA rows[j.toNat]? else none else none:=rfl
theorem ZnF {k:Nat} {rows:List (List C)} {kk:IntKind} {j:Int}:ZcC m (some k) (.d (.clip rows)) (.d (.one (.lit (.int kk j))))=if 0<=j then if ZaE k rows=true then eltA rows[j.toNat]? else none else none:=rfl
theorem Zru {k b:Nat} {kk:IntKind} {j:Int}:ZcC m (some k) (.buf b) (.d (.one (.lit (.int kk j))))=Zie b k j (gm m b):=rfl
theorem Zrv {o:Option (Option Addr × Nat)} {k b e sz:Nat} {j:Int} {rows:List (List C)}:Zie b k j (some (.buf o e sz rows))=if sz=k then if 0<=j then if j.toNat < rows.length then some (.row b j.toNat sz 0) else none else none else none:=rfl
theorem ZnG {r:List C}:eltA (some r)=some (.d (.one (.ptr r))):=rfl
theorem Zwl {b:ByteArray} {kk:IntKind} {j:Int}:Zgu (some .string) (.d (.one (.lit (.string b)))) (.d (.one (.lit (.int kk j))))=if 0<=j then ZkE b[j.toNat]? else none:=rfl
theorem ZnH {b:UInt8}:ZkE (some b)=some (.d (.one (.lit (.int .u8 b.toNat)))):=rfl
theorem ZnI {v:Value}:litA (some v)=some (.d (.one (.lit v))):=rfl
theorem Zwm {op:BinOp} {t:TypeId} {a b:Value}:binA P t op (.d (.one (.lit a))) (.d (.one (.lit b)))=litA (binT P op t a b):=rfl
theorem Zwn {op:UnOp} {a:Value}:unA op (.d (.one (.lit a)))=litA (unV op a):=rfl
theorem Zrw {b:Bool}:unV .not (.bool b)=some (.bool (!b)):=rfl
theorem Zrx {a:Int}:unV .neg (.int .i64 a)=some (.int .i64 (IntKind.i64.wrap (0 - a))):=rfl
theorem ZnJ {x:D}:dA (some x)=some (.d x):=rfl
theorem Zwo {i:Nat} {xs:List D}:ZeU i (.tup xs)=dA xs[i]?:=rfl
theorem Zry {cs:List C}:nilA (.d (.one (.ptr cs)))=some (.d (.one (.ptr cs))):=rfl
theorem Zwp {f:FuncId} {cs:List C}:nilA (.d (.one (.fn f cs)))=some (.d (.one (.fn f cs))):=rfl
theorem Zrz {k off:Nat}:nilA (.ref k off)=some (.ref k off):=rfl
theorem Zwq {rows:List (List C)}:lenA m (some true) [.d (.one (.sl rows))]=some (.d (.one (.lit (.int .i64 rows.length)))):=rfl
theorem Zwr {rows:List (List C)}:lenA m (some true) [.d (.clip rows)]=some (.d (.one (.lit (.int .i64 rows.length)))):=rfl
theorem Zws {k:Nat}:lenA m (some true) [.buf k]=lenS (bufA (gm m k)):=rfl
theorem Zwt {p:Option Addr} {k cap:Nat}:lenA m (some true) [.d (.one (.lit (.slice p k cap)))]=some (.d (.one (.lit (.int .i64 k)))):=rfl
theorem ZrA {b:ByteArray}:lenA m (some false) [.d (.one (.lit (.string b)))]=some (.d (.one (.lit (.int .i64 b.size)))):=rfl
theorem ZnK {rows:List (List C)}:lenS (some rows)=some (.d (.one (.lit (.int .i64 rows.length)))):=rfl
theorem Zwu {rows:List (List C)}:slA m (.d (.one (.sl rows)))=some rows:=rfl
theorem ZnL {rows:List (List C)}:slA m (.d (.clip rows))=some rows:=rfl
theorem ZrB {k:Nat}:slA m (.buf k)=bufA (gm m k):=rfl
theorem ZnM {o:Option (Option Addr × Nat)} {e sz:Nat} {rows:List (List C)}:bufA (some (.buf o e sz rows))=some rows:=rfl
theorem Zwv {x y:Int}:maxA [.d (.one (.lit (.int .i64 x))),.d (.one (.lit (.int .i64 y)))]=some (.d (.one (.lit (.int .i64 (if y > x then y else x))))):=rfl
theorem Zww {x y:Int}:minA [.d (.one (.lit (.int .i64 x))),.d (.one (.lit (.int .i64 y)))]=some (.d (.one (.lit (.int .i64 (if y < x then y else x))))):=rfl
theorem Zwx {e sz b k:Nat} {parts:List (Nat × A)}:Zdf (some (e,sz,b)) k parts=if parts.length=k∧k * sz<=16777216 then ZkF (ZdG sz 0 parts) else none:=rfl
theorem ZnN {rows:List (List C)}:ZkF (some rows)=some (.d (.clip rows)):=rfl
theorem ZrC {sz i:Nat}:ZdG sz i []=some []:=rfl
def Zll (sz:Nat) (r:Option (List (List C))):Option (List C)->Option (List (List C))
 | some cs=>if cs.length=sz then r.map (cs::·) else none
 | none=>none
theorem ZnO {sz i j:Nat} {x:A} {r:List (Nat × A)}:ZdG sz i ((j,x)::r)=if i=j then Zll sz (ZdG sz (i+1) r) (ZbQ x) else none:=by
 show (if i=j then _ else _)=_
 unfold Zll
 split
 ·cases ZbQ x <;> rfl
 ·rfl
theorem ZnP {sz:Nat} {r:Option (List (List C))} {cs:List C}:Zll sz r (some cs)=if cs.length=sz then r.map (cs::·) else none:=rfl
def Zlm (P:Program) (t:TypeId) (parts:List (Nat × A)):Bool->Option (List C)->Option A
 | true,some cs=>if cs.all Zav=true then aggA (Zc4 P t cs parts) else none
 | _,_=>none
theorem Zwy {t:TypeId} {parts:List (Nat × A)}:Zfx P t parts=Zlm P t parts (ZaC P t) (Zaq P t):=by
 unfold Zfx Zlm
 cases ZaC P t <;> cases Zaq P t <;> rfl
theorem ZnQ {t:TypeId} {parts:List (Nat × A)} {cs:List C}:Zlm P t parts true (some cs)=if cs.all Zav=true then aggA (Zc4 P t cs parts) else none:=rfl
theorem ZnR {cs:List C}:aggA (some cs)=some (.d (.agg cs)):=rfl
theorem ZrD {t:TypeId} {cs:List C}:Zc4 P t cs []=some cs:=rfl
def ZpI (P:Program) (t:TypeId) (cs:List C) (r:List (Nat × A)):Option (Nat × TypeId)->Option (List C)->Option (List C)
 | some (off,ft),some us=>if Zau P ft=some us.length∧off+us.length<=cs.length then Zc4 P t (cs.take off++us++cs.drop (off+us.length)) r else none
 | _,_=>none
theorem ZnS {t:TypeId} {cs:List C} {f:Nat} {x:A} {r:List (Nat × A)}:Zc4 P t cs ((f,x)::r)=ZpI P t cs r (offT P t f) (ZbQ x):=by
 conv=>lhs;unfold Zc4
 unfold ZpI
 rcases offT P t f with _ | ⟨off,ft⟩ <;> cases ZbQ x <;> rfl
theorem ZnT {t ft:TypeId} {cs us:List C} {off:Nat} {r:List (Nat × A)}:ZpI P t cs r (some (off,ft)) (some us)=if Zau P ft=some us.length∧off+us.length<=cs.length then Zc4 P t (cs.take off++us++cs.drop (off+us.length)) r else none:=rfl
def Ziw (n:Int):Option TypeDesc->Option IntKind->Option A
 | some _,some k=>some (.d (.one (.lit (.int k (k.wrap n)))))
 | _,_=>none
theorem ZrE {a b:TypeId} {k:IntKind} {j:Int}:Zg3 P a b (.d (.one (.lit (.int k j))))=Ziw j (P.underlying a) (ZcV (P.underlying b)):=by
 unfold Zg3 Ziw
 cases P.underlying a <;> cases ZcV (P.underlying b) <;> rfl
theorem ZnU {t:TypeDesc} {k:IntKind} {j:Int}:Ziw j (some t) (some k)=some (.d (.one (.lit (.int k (k.wrap j))))):=rfl
theorem ZnV {k:IntKind}:ZcV (some (.int k))=some k:=rfl
theorem ZnW {f:FuncId} {cs:List C}:fnA f (some cs)=some (.d (.one (.fn f cs))):=rfl
theorem ZrF:csA []=some []:=rfl
theorem ZnX {c:C} {r:List A}:csA (.d (.one c)::r)=(csA r).map (c::·):=rfl
def Zix (lo hi mx:Option A) (k:Nat):Option (List (List C))->Option A
 | some rows=>if ZaE k rows=true∧(mx.isNone || hi.isSome)=true then dA (Zfw rows (loA lo) (hiA rows.length hi) (mx.map intA)) else none
 | none=>none
def Zln (P:Program) (t:TypeId) (x:A) (lo hi mx:Option A):Option Nat->Option A
 | some k=>Zix lo hi mx k (ZeT x)
 | none=>if Zk0 (P.underlying t)∧mx=none then match strA x with
   | some s=>dA (Zje s (loA lo) (hiA s.size hi))
   | none=>none
  else none
theorem Zwz {t:TypeId} {x:A} {lo hi mx:Option A}:ZdV P t x lo hi mx=Zln P t x lo hi mx (ZaP P t):=by
 unfold ZdV Zln Zix
 cases ZaP P t with
 | none=>rfl
 | some k=>cases ZeT x <;> rfl
theorem ZnY {t:TypeId} {x:A} {lo hi mx:Option A} {k:Nat}:Zln P t x lo hi mx (some k)=Zix lo hi mx k (ZeT x):=rfl
theorem ZnZ {lo hi mx:Option A} {k:Nat} {rows:List (List C)}:Zix lo hi mx k (some rows)=if ZaE k rows=true∧(mx.isNone || hi.isSome)=true then dA (Zfw rows (loA lo) (hiA rows.length hi) (mx.map intA)) else none:=rfl
theorem ZrG {rows:List (List C)}:ZeT (.d (.one (.sl rows)))=some rows:=rfl
theorem Zlo {rows:List (List C)}:ZeT (.d (.clip rows))=some rows:=rfl
theorem Zn0:loA none=some 0:=rfl
theorem Zn1 {x:A}:loA (some x)=intA x:=rfl
theorem Zn2 {k:Nat}:hiA k none=some (k:Int):=rfl
theorem Zn3 {k:Nat} {x:A}:hiA k (some x)=intA x:=rfl
theorem sl_2 {rows:List (List C)} {l h:Int}:Zfw rows (some l) (some h) none=if 0<=l∧l<=h∧h<=rows.length then some (.one (.sl ((rows.take h.toNat).drop l.toNat))) else none:=rfl
theorem sl_3 {rows:List (List C)} {l h k:Int}:Zfw rows (some l) (some h) (some (some k))=if 0<=l∧l<=h∧h<=rows.length∧k=h then some (.clip ((rows.take h.toNat).drop l.toNat)) else none:=rfl
theorem ZrH {c:C}:ZbQ (.d (.one c))=if Zav c=true then some [c] else none:=rfl
theorem ZrI {cs:List C}:ZbQ (.d (.agg cs))=if cs.all Zav=true then some cs else none:=rfl
theorem Zn4 {rows:List (List C)}:ZbQ (.d (.clip rows))=some [.sl rows]:=rfl
theorem ZrJ {k:IntKind} {i:Int}:Zav (.lit (.int k i))=true:=rfl
theorem Zn5 {b:Bool}:Zav (.lit (.bool b))=true:=rfl
theorem ZrK {b:ByteArray}:Zav (.lit (.string b))=true:=rfl
theorem ZrL {b:Option Nat}:Zav (.lit (.map b))=true:=rfl
theorem ZwA {b:Option Addr}:Zav (.lit (.pointer b))=true:=rfl
theorem ZrM {a:Option Addr} {n c:Nat}:Zav (.lit (.slice a n c))=true:=rfl
theorem ZwB {rows:List (List C)}:Zav (.sl rows)=true:=rfl
theorem ZrN {cs:List C}:Zav (.ptr cs)=true:=rfl
theorem ZwC {f:Nat} {cs:List C}:Zav (.fn f cs)=true:=rfl
theorem ZrO:dsA []=some []:=rfl
theorem Zn6 {x:D} {r:List A}:dsA (.d x::r)=(dsA r).map (x::·):=rfl
theorem ZwD {q:Bool} {c:Operand} {args:List Operand}:ZeC q c args ⟨s,m⟩=ZkK c args (frzQ q (ZcP (args.map (evA s))) ⟨s,m⟩):=rfl
theorem cp_s {c:Operand} {args:List Operand}:ZkK c args (some ⟨s,m⟩)=ZkJ (evA s c) (dsA (args.map (evA s))) ⟨s,m⟩:=rfl
theorem cp_x {f:FuncId} {caps:List C} {xs:List D}:ZkJ (.d (.one (.fn f caps))) (some xs) σ=some (f,xs++caps.map .one,σ):=rfl
theorem ZwE {c x0:Operand} {rest:List Operand}:ZAs c x0 rest ⟨s,m⟩=ZpG m (Zcv (evA s c)) (dsA (rest.map (evA s))) (nrm m (evA s x0)):=rfl
theorem co_z {f:Option (FuncId × List C)} {xs:Option (List D)} {k:Nat}:ZpG m f xs (.buf k)=ZpF f k xs (gm m k):=rfl
theorem co_y {o:Option (Option Addr × Nat)} {f:FuncId} {caps:List C} {xs:List D} {k ty sz:Nat} {rows:List (List C)}:ZpF (some (f,caps)) k (some xs) (some (.buf o ty sz rows))=some (f,k,ty,sz,rows,xs++caps.map .one):=rfl
theorem ZwF {f:FuncId} {caps:List C}:Zcv (.d (.one (.fn f caps)))=some (f,caps):=rfl
theorem Zn7 {t:Nat}:resA P ⟨s,m⟩ (.slot t)=gs s t:=rfl
theorem Zn8 {t k:Nat}:resA P ⟨s,m⟩ (.cell t k)=(Zdp (Zat P k) (ptrA m (gs s t))).getD .undef:=rfl
theorem ZwG {x:D}:retA [x]=.d x:=rfl
theorem ZwH {x y:D} {r:List D}:retA (x::y::r)=.tup (x::y::r):=rfl
theorem r_no:retA []=.tup []:=rfl
theorem ZrP {t:TypeId} {a b:Int}:binT P .add t (.int .i64 a) (.int .i64 b)=some (.int .i64 (IntKind.i64.wrap (a+b))):=rfl
theorem ZrQ {t:TypeId} {a b:Int}:binT P .sub t (.int .i64 a) (.int .i64 b)=some (.int .i64 (IntKind.i64.wrap (a - b))):=rfl
theorem ZrR {t:TypeId} {a b:Int}:binT P .mul t (.int .i64 a) (.int .i64 b)=some (.int .i64 (IntKind.i64.wrap (a * b))):=rfl
theorem ZrS {t:TypeId} {a b:Int}:binT P .lss t (.int .i64 a) (.int .i64 b)=some (.bool (decide (a < b))):=rfl
theorem ZrT {t:TypeId} {a b:Int}:binT P .leq t (.int .i64 a) (.int .i64 b)=some (.bool (decide (a<=b))):=rfl
theorem ZrU {t:TypeId} {a b:Int}:binT P .gtr t (.int .i64 a) (.int .i64 b)=some (.bool (decide (b < a))):=rfl
theorem ZrV {t:TypeId} {a b:Int}:binT P .geq t (.int .i64 a) (.int .i64 b)=some (.bool (decide (b<=a))):=rfl
theorem ZrW {t:TypeId} {a b:Int}:binT P .eql t (.int .i64 a) (.int .i64 b)=some (.bool (decide (a=b))):=rfl
theorem ZrX {t:TypeId} {a b:Int}:binT P .neq t (.int .i64 a) (.int .i64 b)=some (.bool (!decide (a=b))):=rfl
theorem ZrY {t:TypeId} {a b:Int}:binT P .lss t (.int .u8 a) (.int .u8 b)=some (.bool (decide (a < b))):=rfl
theorem ZrZ {t:TypeId} {a b:Int}:binT P .leq t (.int .u8 a) (.int .u8 b)=some (.bool (decide (a<=b))):=rfl
theorem Zr0 {t:TypeId} {a b:Int}:binT P .gtr t (.int .u8 a) (.int .u8 b)=some (.bool (decide (b < a))):=rfl
theorem Zr1 {t:TypeId} {a b:Int}:binT P .geq t (.int .u8 a) (.int .u8 b)=some (.bool (decide (b<=a))):=rfl
theorem Zr2 {t:TypeId} {a b:Int}:binT P .eql t (.int .u8 a) (.int .u8 b)=some (.bool (decide (a=b))):=rfl
theorem Zr3 {t:TypeId} {a b:Int}:binT P .neq t (.int .u8 a) (.int .u8 b)=some (.bool (!decide (a=b))):=rfl
theorem Zr4 {t:TypeId} {a b:ByteArray}:binT P .eql t (.string a) (.string b)=some (.bool (a.toList==b.toList)):=rfl
theorem Zr5 {t:TypeId} {a b:ByteArray}:binT P .neq t (.string a) (.string b)=some (.bool (!(a.toList==b.toList))):=rfl
theorem Zr6 {t:TypeId} {a b:ByteArray}:binT P .lss t (.string a) (.string b)=some (.bool (Go.Op.bytesLess a.toList b.toList)):=rfl
theorem Zr7 {t:TypeId} {a b:Bool}:binT P .eql t (.bool a) (.bool b)=ZfM (P.underlying t) (a==b):=rfl
theorem Zr8 {t:TypeId} {a b:Bool}:binT P .neq t (.bool a) (.bool b)=ZfM (P.underlying t) (!(a==b)):=rfl
theorem bb_t {v:Bool}:ZfM (some .bool) v=some (.bool v):=rfl
theorem Zr9 {t:TypeId} {a b:Int}:binT P .and t (.int .i64 a) (.int .i64 b)=some (.int .i64 (bits .and .i64 a b)):=rfl
theorem ZwI {t:TypeId} {a b:Int}:binT P .or t (.int .i64 a) (.int .i64 b)=some (.int .i64 (bits .or .i64 a b)):=rfl
theorem Zsa {t:TypeId} {a b:Int}:binT P .xor t (.int .i64 a) (.int .i64 b)=some (.int .i64 (bits .xor .i64 a b)):=rfl
theorem ZjQ {t:TypeId} {a b:Int}:binT P .andNot t (.int .i64 a) (.int .i64 b)=some (.int .i64 (bits .andNot .i64 a b)):=rfl
theorem Zsb {t:TypeId} {k:IntKind} {a b:Int}:binT P .shl t (.int .i64 a) (.int k b)=if 0<=b then some (.int .i64 (IntKind.i64.wrap (a * 2 ^ (min b.toNat 64)))) else none:=rfl
theorem Zsc {t:TypeId} {k:IntKind} {a b:Int}:binT P .shr t (.int .i64 a) (.int k b)=if 0<=b then some (.int .i64 (a.fdiv (2 ^ (min b.toNat 64)))) else none:=rfl
theorem Zz1 {a:Int}:unV .neg (.int .u64 a)=some (.int .u64 (IntKind.u64.wrap (0 - a))):=rfl
theorem Zsd {t:TypeId} {a b:Int}:binT P .quo t (.int .i64 a) (.int .i64 b)=if b=0 then none else some (.int .i64 (IntKind.i64.wrap (a.tdiv b))):=rfl
theorem Zse {t:TypeId} {a b:Int}:binT P .rem t (.int .i64 a) (.int .i64 b)=if b=0 then none else some (.int .i64 (a.tmod b)):=rfl
theorem Zsf {t:TypeId} {a b:ByteArray}:binT P .add t (.string a) (.string b)=if a.size+b.size<=9223372036854775807 then some (.string (a++b)) else none:=rfl
theorem Zsg {b off k:Nat} {t:TypeId}:Zch (.d (.one (.lit (.pointer (some ⟨b,off,none⟩))))) (some (k,t))=some (.d (.one (.lit (.pointer (some ⟨b,off+k,none⟩))))):=rfl
theorem Zsh {p:Addr}:nilA (.d (.one (.lit (.pointer (some p)))))=some (.d (.one (.lit (.pointer (some p))))):=rfl
theorem Zsi {b off:Nat}:nrm m (.d (.one (.lit (.pointer (some ⟨b,off,none⟩)))))=Zif m b off (varK b m):=rfl
theorem ZwJ {p:Option Addr} {k cap:Nat}:nrm m (.d (.one (.lit (.slice p k cap))))=Zig m p k cap (bufK p k cap m):=rfl
theorem nr_p {cs:List C}:nrm m (.d (.one (.ptr cs)))=.d (.one (.ptr cs)):=rfl
theorem nr_s {rows:List (List C)}:nrm m (.d (.one (.sl rows)))=.d (.one (.sl rows)):=rfl
theorem nr_c {rows:List (List C)}:nrm m (.d (.clip rows))=.d (.clip rows):=rfl
theorem nr_i {k:IntKind} {i:Int}:nrm m (.d (.one (.lit (.int k i))))=.d (.one (.lit (.int k i))):=rfl
theorem Zsj {b:ByteArray}:nrm m (.d (.one (.lit (.string b))))=.d (.one (.lit (.string b))):=rfl
theorem Zsk {k off:Nat}:nrm m (.ref k off)=.ref k off:=rfl
theorem Zsl {k:Nat}:nrm m (.buf k)=.buf k:=rfl
theorem Zsm {k j sz off:Nat}:nrm m (.row k j sz off)=.row k j sz off:=rfl
theorem Zsn {b:Nat}:varK b []=none:=rfl
theorem Zso {b b' k:Nat} {cs:List C} {r:List (Nat × Bk)}:varK b ((k,.var (some b') cs)::r)=if b=b' then some k else varK b r:=rfl
theorem Zsp {b k:Nat} {cs:List C} {r:List (Nat × Bk)}:varK b ((k,.var none cs)::r)=varK b r:=rfl
theorem Zsq {b k e sz:Nat} {o:Option (Option Addr × Nat)} {rows:List (List C)} {r:List (Nat × Bk)}:varK b ((k,.buf o e sz rows)::r)=varK b r:=rfl
theorem Zsr {b k:Nat} {E:Nat->Prop} {G:World->Prop} {r:List (Nat × Bk)}:varK b ((k,.set E G)::r)=varK b r:=rfl
theorem Zss {p:Option Addr} {k cap:Nat}:bufK p k cap []=none:=rfl
theorem Zst {p p':Option Addr} {k cap cap' k' e sz:Nat} {rows:List (List C)} {r:List (Nat × Bk)}:bufK p k cap ((k',.buf (some (p',cap')) e sz rows)::r)=if p=p'∧k=rows.length∧cap=cap' then some k' else bufK p k cap r:=rfl
theorem Zsu {p:Option Addr} {k cap k' e sz:Nat} {rows:List (List C)} {r:List (Nat × Bk)}:bufK p k cap ((k',.buf none e sz rows)::r)=bufK p k cap r:=rfl
theorem Zsv {p:Option Addr} {k cap k':Nat} {o:Option Nat} {cs:List C} {r:List (Nat × Bk)}:bufK p k cap ((k',.var o cs)::r)=bufK p k cap r:=rfl
theorem Zsw {p:Option Addr} {k cap k':Nat} {E:Nat->Prop} {G:World->Prop} {r:List (Nat × Bk)}:bufK p k cap ((k',.set E G)::r)=bufK p k cap r:=rfl
theorem Zn9 {b off k:Nat}:Zif m b off (some k)=nrmV b off k (gm m k):=rfl
theorem Zoa {b off:Nat}:Zif m b off none=.d (.one (.lit (.pointer (some ⟨b,off,none⟩)))):=rfl
theorem Zsx {b off k b':Nat} {cs:List C}:nrmV b off k (some (.var (some b') cs))=if b=b' then .ref k off else .d (.one (.lit (.pointer (some ⟨b,off,none⟩)))):=rfl
theorem Zsy {p:Option Addr} {k cap k':Nat}:Zig m p k cap (some k')=nrmB p k cap k' (gm m k'):=rfl
theorem ZwK {p:Option Addr} {k cap:Nat}:Zig m p k cap none=.d (.one (.lit (.slice p k cap))):=rfl
theorem Zsz {p p':Option Addr} {k cap cap' k' e sz:Nat} {rows:List (List C)}:nrmB p k cap k' (some (.buf (some (p',cap')) e sz rows))=if p=p'∧k=rows.length∧cap=cap' then .buf k' else .d (.one (.lit (.slice p k cap))):=rfl
theorem rn_0:runN P ds 0 n os ⟨s,m⟩=.stop n os ⟨s,m⟩:=rfl
theorem rn_n {j:Nat} {op:Op} {t:TypeId} {p:String} {a:Array Edge}:runN P ds (j+1) n (⟨d,op,t,p,a,none⟩::os) ⟨s,m⟩=ZaY P d t (n - 1) n os (runN P ds j (n - 1) os) op ⟨s,m⟩:=rfl
theorem rn_g {j:Nat} {op:Op} {t:TypeId} {p:String} {a:Array Edge} {i:Nat} {w:Bool}:runN P ds (j+1) n (⟨d,op,t,p,a,some (i,w)⟩::os) ⟨s,m⟩=Zeo w (ZaY P d t n n os (runN P ds j (n - 1) os) op) (Zg8 d (runN P ds j (n - 1) os)) ⟨s,m⟩ ((ds[i]?.join).map (gs s)):=rfl
theorem st_o:Zir (.stop n os ⟨s,m⟩)=some (n,os,s,m):=rfl
theorem ZsA {f:A->A}:mapS f []=[]:=rfl
theorem Zob {f:A->A} {t:Nat} {a:A} {r:List (Nat × A)}:mapS f ((t,a)::r)=(t,f a)::mapS f r:=rfl
theorem ZsB {k b k' off:Nat}:litV k b (.ref k' off)=if k'=k then .d (.one (.lit (.pointer (some ⟨b,off,none⟩)))) else .ref k' off:=rfl
theorem lv_d {k b:Nat} {x:D}:litV k b (.d x)=.d x:=rfl
theorem ZsC {k b k':Nat}:litV k b (.buf k')=.buf k':=rfl
theorem ZsD {k b k' j sz off:Nat}:litV k b (.row k' j sz off)=.row k' j sz off:=rfl
theorem ZsE {k b:Nat} {xs:List D}:litV k b (.tup xs)=.tup xs:=rfl
theorem ZwL {k b:Nat}:litV k b .no=.no:=rfl
theorem ZwM {k b:Nat}:litV k b .undef=.undef:=rfl
theorem ZsF {k k2 cap k':Nat} {p:Option Addr}:litB k p k2 cap (.buf k')=if k'=k then .d (.one (.lit (.slice p k2 cap))) else .buf k':=rfl
theorem lb_d {k k2 cap:Nat} {p:Option Addr} {x:D}:litB k p k2 cap (.d x)=.d x:=rfl
theorem ZsG {k k2 cap k' off:Nat} {p:Option Addr}:litB k p k2 cap (.ref k' off)=.ref k' off:=rfl
theorem ZsH {k k2 cap k' j sz off:Nat} {p:Option Addr}:litB k p k2 cap (.row k' j sz off)=.row k' j sz off:=rfl
theorem ZsI {k k2 cap:Nat} {p:Option Addr} {xs:List D}:litB k p k2 cap (.tup xs)=.tup xs:=rfl
theorem ZwN {k k2 cap:Nat} {p:Option Addr}:litB k p k2 cap .no=.no:=rfl
theorem ZwO {k k2 cap:Nat} {p:Option Addr}:litB k p k2 cap .undef=.undef:=rfl
theorem ZsJ:Zcj [] s=s:=rfl
theorem Zoc {k:Nat} {ks:List Nat}:Zcj (k::ks) s=Zcj ks (Zao k s):=rfl
theorem ZsK:Zci [] m=m:=rfl
theorem Zod {k:Nat} {ks:List Nat}:Zci (k::ks) m=Zci ks (remM k m):=rfl
theorem Zoe {k:Nat} {ks:List Nat} {x:Bk} {xs:List Bk}:zipM (k::ks) (x::xs)=(k,x)::zipM ks xs:=rfl
theorem ZsL {xs:List Bk}:zipM [] xs=[]:=rfl
theorem ZwP {ks:List Nat}:zipM ks []=[]:=by cases ks <;> rfl
def getC:Option Bk->Option (List Bk)->Option (List Bk)
 | some x,some r=>some (x::r)
 | _,_=>none
theorem ZsM:getM m []=some []:=rfl
theorem Zjl {k:Nat} {ks:List Nat}:getM m (k::ks)=getC (gm m k) (getM m ks):=by
 show (match gm m k,getM m ks with | some x,some r=>some (x::r) | _,_=>none)=_
 cases gm m k <;> cases getM m ks <;> rfl
theorem gt_c {x:Bk} {r:List Bk}:getC (some x) (some r)=some (x::r):=rfl
theorem ZsN {b:Nat} {cs:List C}:pinned (.var (some b) cs)=true:=rfl
theorem ZsO {q:Option Addr × Nat} {e sz:Nat} {rows:List (List C)}:pinned (.buf (some q) e sz rows)=true:=rfl
theorem ZsP {E:Nat->Prop} {G:World->Prop}:pinned (.set E G)=true:=rfl
theorem ZwQ {p p':Option Addr} {k cap k' cap':Nat} {rows:List (List C)}:datC p k cap rows (.lit (.slice p' k' cap'))=if p'=p∧k'=k∧cap'=cap then .sl rows else .lit (.slice p' k' cap'):=rfl
theorem ZsQ {p:Option Addr} {k cap:Nat} {rows:List (List C)} {kk:IntKind} {i:Int}:datC p k cap rows (.lit (.int kk i))=.lit (.int kk i):=rfl
theorem ZsR {p:Option Addr} {k cap:Nat} {rows:List (List C)} {b:ByteArray}:datC p k cap rows (.lit (.string b))=.lit (.string b):=rfl
theorem Zof {p:Option Addr} {k cap:Nat} {rows:List (List C)} {b:Bool}:datC p k cap rows (.lit (.bool b))=.lit (.bool b):=rfl
theorem ZsS {p:Option Addr} {k cap:Nat} {rows:List (List C)} {q:Option Addr}:datC p k cap rows (.lit (.pointer q))=.lit (.pointer q):=rfl
theorem ZsT {p:Option Addr} {k cap:Nat} {rows:List (List C)} {q:Option Nat}:datC p k cap rows (.lit (.map q))=.lit (.map q):=rfl
theorem dc_s {p:Option Addr} {k cap:Nat} {rows rs:List (List C)}:datC p k cap rows (.sl rs)=.sl rs:=rfl
theorem dc_p {p:Option Addr} {k cap:Nat} {rows:List (List C)} {cs:List C}:datC p k cap rows (.ptr cs)=.ptr cs:=rfl
theorem dc_f {p:Option Addr} {k cap:Nat} {rows:List (List C)} {f:FuncId} {cs:List C}:datC p k cap rows (.fn f cs)=.fn f cs:=rfl
theorem ZsU {p:Option Addr} {k cap:Nat} {rows:List (List C)} {c:C}:datA p k cap rows (.d (.one c))=.d (.one (datC p k cap rows c)):=rfl
theorem ZsV {p:Option Addr} {k cap:Nat} {rows:List (List C)} {cs:List C}:datA p k cap rows (.d (.agg cs))=.d (.agg (cs.map (datC p k cap rows))):=rfl
theorem ZsW {p:Option Addr} {k cap k' off:Nat} {rows:List (List C)}:datA p k cap rows (.ref k' off)=.ref k' off:=rfl
theorem ZsX {p:Option Addr} {k cap:Nat} {rows:List (List C)}:datS p k cap rows [] s=s:=rfl
theorem Zog {p:Option Addr} {k cap t:Nat} {rows:List (List C)} {ts:List Nat}:datS p k cap rows (t::ts) s=datS p k cap rows ts ((t,datA p k cap rows (gs s t))::s):=rfl
theorem ZsY {p:Option Addr} {k cap:Nat} {rows:List (List C)}:datM p k cap rows [] m=m:=rfl
theorem Zoh {p:Option Addr} {k cap t:Nat} {rows:List (List C)} {ts:List Nat}:datM p k cap rows (t::ts) m=datM p k cap rows ts (datV p k cap rows t m (gm m t)):=rfl
theorem ZsZ {p:Option Addr} {k cap t:Nat} {rows:List (List C)} {o:Option Nat} {cs:List C}:datV p k cap rows t m (some (.var o cs))=(t,.var o (cs.map (datC p k cap rows)))::remM t m:=rfl
def unD:A->Option D
 | .d x=>some x
 | _=>none
def ZkM:Option D->Option (List D)->Option (List D)
 | some x,some r=>some (x::r)
 | _,_=>none
def resD (P:Program) (σ:St):List RS->Option (List D)
 | []=>some []
 | t::ts=>ZkM (unD (resA P σ t)) (resD P σ ts)
theorem Zs0:resD P ⟨s,m⟩ []=some []:=rfl
theorem Zoi {t:RS} {ts:List RS}:resD P ⟨s,m⟩ (t::ts)=ZkM (unD (resA P ⟨s,m⟩ t)) (resD P ⟨s,m⟩ ts):=rfl
theorem Zoj {x:D} {r:List D}:ZkM (some x) (some r)=some (x::r):=rfl
theorem ud_d {x:D}:unD (.d x)=some x:=rfl
end
theorem ZfV {P:Program} {σ:St}:∀ {ts:List RS} {r:List D},resD P σ ts=some r->ZbL P σ ts r
 | [],r,h=>by simp only [resD,Taq] at h;subst h;trivial
 | t::ts,r,h=>by
  simp only [resD] at h
  unfold ZkM at h
  split at h
  ·rename_i x r' hx hr
   injection h with h;subst h
   refine ⟨?_,ZfV hr⟩
   unfold unD at hx
   split at hx
   ·rename_i y hy;injection hx with hx;subst hx;exact hy
   ·cases hx
  ·cases h
end Go.Proofs.YtcgacanpeaiabaaGreatDoor
set_option maxRecDepth 10000
namespace Go.Proofs.YtcgacanpeaiabaaGreatDoor
open Go.RowKit
theorem kt2:Zat Tryz.prog 2=some .one:=by kernel_rfl
theorem zt2:Zau Tryz.prog 2=some 1:=by kernel_rfl
theorem ot2:Zaq Tryz.prog 2=some [.lit (.int .i64 0)]:=by kernel_rfl
theorem kt3:Zat Tryz.prog 3=some .one:=by kernel_rfl
theorem zt3:Zau Tryz.prog 3=some 1:=by kernel_rfl
theorem ot3:Zaq Tryz.prog 3=some [.lit (.int .i64 0)]:=by kernel_rfl
theorem kt4:Zat Tryz.prog 4=some .one:=by kernel_rfl
theorem zt4:Zau Tryz.prog 4=some 1:=by kernel_rfl
theorem ot4:Zaq Tryz.prog 4=some [.lit (.bool false)]:=by kernel_rfl
theorem ut4:Tryz.prog.underlying 4=some .bool:=by kernel_rfl
theorem kt5:Zat Tryz.prog 5=some .one:=by kernel_rfl
theorem zt5:Zau Tryz.prog 5=some 1:=by kernel_rfl
theorem ot5:Zaq Tryz.prog 5=some [.lit (.int .u8 0)]:=by kernel_rfl
theorem kt9:Zat Tryz.prog 9=some .one:=by kernel_rfl
theorem zt9:Zau Tryz.prog 9=some 1:=by kernel_rfl
theorem ot9:Zaq Tryz.prog 9=some [.lit (.string ByteArray.empty)]:=by kernel_rfl
theorem lt9:lenT Tryz.prog #[9]=some false:=by kernel_rfl
theorem ut9:Tryz.prog.underlying 9=some .string:=by kernel_rfl
theorem kt22:Zat Tryz.prog 22=some .one:=by kernel_rfl
theorem zt22:Zau Tryz.prog 22=some 1:=by kernel_rfl
theorem ot22:Zaq Tryz.prog 22=some [.sl []]:=by kernel_rfl
theorem et22:ZaP Tryz.prog 22=some 1:=by kernel_rfl
theorem lt22:lenT Tryz.prog #[22]=some true:=by kernel_rfl
theorem bt22:ZaF Tryz.prog 22=some (9,1,16):=by kernel_rfl
theorem kt23:Zat Tryz.prog 23=some .one:=by kernel_rfl
theorem zt23:Zau Tryz.prog 23=some 1:=by kernel_rfl
theorem ot23:Zaq Tryz.prog 23=some [.sl []]:=by kernel_rfl
theorem et23:ZaP Tryz.prog 23=some 2:=by kernel_rfl
theorem lt23:lenT Tryz.prog #[23]=some true:=by kernel_rfl
theorem bt23:ZaF Tryz.prog 23=some (254,2,16):=by kernel_rfl
theorem kt25:Zat Tryz.prog 25=some (.agg 2):=by kernel_rfl
theorem zt25:Zau Tryz.prog 25=some 2:=by kernel_rfl
theorem ot25:Zaq Tryz.prog 25=some [.sl [],.sl []]:=by kernel_rfl
theorem st25:ZaC Tryz.prog 25=true:=by kernel_rfl
theorem Zs1:offT Tryz.prog 25 0=some (0,22):=by kernel_rfl
theorem Zs2:offT Tryz.prog 25 1=some (1,23):=by kernel_rfl
theorem kt26:Zat Tryz.prog 26=some .one:=by kernel_rfl
theorem zt26:Zau Tryz.prog 26=some 1:=by kernel_rfl
theorem ot26:Zaq Tryz.prog 26=some [.sl []]:=by kernel_rfl
theorem et26:ZaP Tryz.prog 26=some 5:=by kernel_rfl
theorem lt26:lenT Tryz.prog #[26]=some true:=by kernel_rfl
theorem bt26:ZaF Tryz.prog 26=some (169,5,56):=by kernel_rfl
theorem kt28:Zat Tryz.prog 28=some (.agg 3):=by kernel_rfl
theorem zt28:Zau Tryz.prog 28=some 3:=by kernel_rfl
theorem ot28:Zaq Tryz.prog 28=some [.sl [],.sl [],.sl []]:=by kernel_rfl
theorem st28:ZaC Tryz.prog 28=true:=by kernel_rfl
theorem Zs3:offT Tryz.prog 28 0=some (0,25):=by kernel_rfl
theorem Zs4:offT Tryz.prog 28 1=some (2,26):=by kernel_rfl
theorem kt29:Zat Tryz.prog 29=some .one:=by kernel_rfl
theorem zt29:Zau Tryz.prog 29=some 1:=by kernel_rfl
theorem ot29:Zaq Tryz.prog 29=some [.sl []]:=by kernel_rfl
theorem et29:ZaP Tryz.prog 29=some 1:=by kernel_rfl
theorem lt29:lenT Tryz.prog #[29]=some true:=by kernel_rfl
theorem bt29:ZaF Tryz.prog 29=some (3,1,8):=by kernel_rfl
theorem kt30:Zat Tryz.prog 30=some .one:=by kernel_rfl
theorem zt30:Zau Tryz.prog 30=some 1:=by kernel_rfl
theorem ot30:Zaq Tryz.prog 30=some [.sl []]:=by kernel_rfl
theorem et30:ZaP Tryz.prog 30=some 4:=by kernel_rfl
theorem lt30:lenT Tryz.prog #[30]=some true:=by kernel_rfl
theorem bt30:ZaF Tryz.prog 30=some (32,4,56):=by kernel_rfl
theorem kt32:Zat Tryz.prog 32=some (.agg 4):=by kernel_rfl
theorem zt32:Zau Tryz.prog 32=some 4:=by kernel_rfl
theorem ot32:Zaq Tryz.prog 32=some [.lit (.int .i64 0),.lit (.string ByteArray.empty),.lit (.int .i64 0),.sl []]:=by kernel_rfl
theorem st32:ZaC Tryz.prog 32=true:=by kernel_rfl
theorem Zs5:offT Tryz.prog 32 0=some (0,3):=by kernel_rfl
theorem Zs6:offT Tryz.prog 32 1=some (1,9):=by kernel_rfl
theorem Zs7:offT Tryz.prog 32 2=some (2,3):=by kernel_rfl
theorem Zs8:offT Tryz.prog 32 3=some (3,30):=by kernel_rfl
theorem kt36:Zat Tryz.prog 36=some .one:=by kernel_rfl
theorem zt36:Zau Tryz.prog 36=some 1:=by kernel_rfl
theorem ot36:Zaq Tryz.prog 36=some [.sl []]:=by kernel_rfl
theorem et36:ZaP Tryz.prog 36=some 2:=by kernel_rfl
theorem lt36:lenT Tryz.prog #[36]=some true:=by kernel_rfl
theorem bt36:ZaF Tryz.prog 36=some (252,2,16):=by kernel_rfl
theorem kt38:Zat Tryz.prog 38=some (.agg 2):=by kernel_rfl
theorem zt38:Zau Tryz.prog 38=some 2:=by kernel_rfl
theorem ot38:Zaq Tryz.prog 38=some [.sl [],.sl []]:=by kernel_rfl
theorem st38:ZaC Tryz.prog 38=true:=by kernel_rfl
theorem xt38:ZcE Tryz.prog 38=some [.lit (.slice none 0 0),.lit (.slice none 0 0)]:=by kernel_rfl
theorem Zs9:offT Tryz.prog 38 0=some (0,22):=by kernel_rfl
theorem Zta:offT Tryz.prog 38 1=some (1,36):=by kernel_rfl
theorem kt39:Zat Tryz.prog 39=some .one:=by kernel_rfl
theorem zt39:Zau Tryz.prog 39=some 1:=by kernel_rfl
theorem ot39:Zaq Tryz.prog 39=some [.sl []]:=by kernel_rfl
theorem et39:ZaP Tryz.prog 39=some 5:=by kernel_rfl
theorem lt39:lenT Tryz.prog #[39]=some true:=by kernel_rfl
theorem bt39:ZaF Tryz.prog 39=some (172,5,56):=by kernel_rfl
theorem kt41:Zat Tryz.prog 41=some (.agg 3):=by kernel_rfl
theorem zt41:Zau Tryz.prog 41=some 3:=by kernel_rfl
theorem ot41:Zaq Tryz.prog 41=some [.sl [],.sl [],.sl []]:=by kernel_rfl
theorem st41:ZaC Tryz.prog 41=true:=by kernel_rfl
theorem xt41:ZcE Tryz.prog 41=some [.lit (.slice none 0 0),.lit (.slice none 0 0),.lit (.slice none 0 0)]:=by kernel_rfl
theorem Ztb:offT Tryz.prog 41 0=some (0,38):=by kernel_rfl
theorem Ztc:offT Tryz.prog 41 1=some (2,39):=by kernel_rfl
theorem kt44:Zat Tryz.prog 44=some .one:=by kernel_rfl
theorem zt44:Zau Tryz.prog 44=some 1:=by kernel_rfl
theorem ot44:Zaq Tryz.prog 44=some [.sl []]:=by kernel_rfl
theorem et44:ZaP Tryz.prog 44=some 4:=by kernel_rfl
theorem lt44:lenT Tryz.prog #[44]=some true:=by kernel_rfl
theorem bt44:ZaF Tryz.prog 44=some (46,4,56):=by kernel_rfl
theorem kt46:Zat Tryz.prog 46=some (.agg 4):=by kernel_rfl
theorem zt46:Zau Tryz.prog 46=some 4:=by kernel_rfl
theorem ot46:Zaq Tryz.prog 46=some [.lit (.int .i64 0),.lit (.string ByteArray.empty),.lit (.int .i64 0),.sl []]:=by kernel_rfl
theorem st46:ZaC Tryz.prog 46=true:=by kernel_rfl
theorem xt46:ZcE Tryz.prog 46=some [.lit (.int .i64 0),.lit (.string ByteArray.empty),.lit (.int .i64 0),.lit (.slice none 0 0)]:=by kernel_rfl
theorem Ztd:offT Tryz.prog 46 0=some (0,3):=by kernel_rfl
theorem Zte:offT Tryz.prog 46 1=some (1,9):=by kernel_rfl
theorem Ztf:offT Tryz.prog 46 2=some (2,3):=by kernel_rfl
theorem Ztg:offT Tryz.prog 46 3=some (3,44):=by kernel_rfl
theorem kt52:Zat Tryz.prog 52=some .one:=by kernel_rfl
theorem zt52:Zau Tryz.prog 52=some 1:=by kernel_rfl
theorem ot52:Zaq Tryz.prog 52=some [.sl []]:=by kernel_rfl
theorem et52:ZaP Tryz.prog 52=some 8:=by kernel_rfl
theorem lt52:lenT Tryz.prog #[52]=some true:=by kernel_rfl
theorem bt52:ZaF Tryz.prog 52=some (192,8,112):=by kernel_rfl
theorem kt54:Zat Tryz.prog 54=some (.agg 9):=by kernel_rfl
theorem zt54:Zau Tryz.prog 54=some 9:=by kernel_rfl
theorem ot54:Zaq Tryz.prog 54=some [.lit (.int .i64 0),.lit (.string ByteArray.empty),.lit (.int .i64 0),.sl [],.lit (.int .i64 0),.lit (.string ByteArray.empty),.lit (.int .i64 0),.sl [],.sl []]:=by kernel_rfl
theorem st54:ZaC Tryz.prog 54=true:=by kernel_rfl
theorem Zth:offT Tryz.prog 54 0=some (0,32):=by kernel_rfl
theorem Zti:offT Tryz.prog 54 1=some (4,32):=by kernel_rfl
theorem Ztj:offT Tryz.prog 54 2=some (8,52):=by kernel_rfl
theorem kt56:Zat Tryz.prog 56=some .one:=by kernel_rfl
theorem zt56:Zau Tryz.prog 56=some 1:=by kernel_rfl
theorem ot56:Zaq Tryz.prog 56=some [.sl []]:=by kernel_rfl
theorem et56:ZaP Tryz.prog 56=some 8:=by kernel_rfl
theorem lt56:lenT Tryz.prog #[56]=some true:=by kernel_rfl
theorem bt56:ZaF Tryz.prog 56=some (196,8,112):=by kernel_rfl
theorem kt58:Zat Tryz.prog 58=some (.agg 9):=by kernel_rfl
theorem zt58:Zau Tryz.prog 58=some 9:=by kernel_rfl
theorem ot58:Zaq Tryz.prog 58=some [.lit (.int .i64 0),.lit (.string ByteArray.empty),.lit (.int .i64 0),.sl [],.lit (.int .i64 0),.lit (.string ByteArray.empty),.lit (.int .i64 0),.sl [],.sl []]:=by kernel_rfl
theorem st58:ZaC Tryz.prog 58=true:=by kernel_rfl
theorem xt58:ZcE Tryz.prog 58=some [.lit (.int .i64 0),.lit (.string ByteArray.empty),.lit (.int .i64 0),.lit (.slice none 0 0),.lit (.int .i64 0),.lit (.string ByteArray.empty),.lit (.int .i64 0),.lit (.slice none 0 0),.lit (.slice none 0 0)]:=by kernel_rfl
theorem Ztk:offT Tryz.prog 58 0=some (0,46):=by kernel_rfl
theorem Ztl:offT Tryz.prog 58 1=some (4,46):=by kernel_rfl
theorem Ztm:offT Tryz.prog 58 2=some (8,56):=by kernel_rfl
theorem kt66:Zat Tryz.prog 66=some .one:=by kernel_rfl
theorem zt66:Zau Tryz.prog 66=some 1:=by kernel_rfl
theorem ot66:Zaq Tryz.prog 66=some [.sl []]:=by kernel_rfl
theorem et66:ZaP Tryz.prog 66=some 9:=by kernel_rfl
theorem lt66:lenT Tryz.prog #[66]=some true:=by kernel_rfl
theorem bt66:ZaF Tryz.prog 66=some (54,9,136):=by kernel_rfl
theorem kt68:Zat Tryz.prog 68=some (.agg 5):=by kernel_rfl
theorem zt68:Zau Tryz.prog 68=some 5:=by kernel_rfl
theorem ot68:Zaq Tryz.prog 68=some [.sl [],.sl [],.sl [],.sl [],.sl []]:=by kernel_rfl
theorem st68:ZaC Tryz.prog 68=true:=by kernel_rfl
theorem Ztn:offT Tryz.prog 68 0=some (0,28):=by kernel_rfl
theorem Zto:offT Tryz.prog 68 1=some (3,66):=by kernel_rfl
theorem Ztp:offT Tryz.prog 68 2=some (4,66):=by kernel_rfl
theorem kt69:Zat Tryz.prog 69=some .one:=by kernel_rfl
theorem zt69:Zau Tryz.prog 69=some 1:=by kernel_rfl
theorem ot69:Zaq Tryz.prog 69=some [.sl []]:=by kernel_rfl
theorem et69:ZaP Tryz.prog 69=some 6:=by kernel_rfl
theorem lt69:lenT Tryz.prog #[69]=some true:=by kernel_rfl
theorem bt69:ZaF Tryz.prog 69=some (215,6,128):=by kernel_rfl
theorem kt71:Zat Tryz.prog 71=some (.agg 9):=by kernel_rfl
theorem zt71:Zau Tryz.prog 71=some 9:=by kernel_rfl
theorem ot71:Zaq Tryz.prog 71=some [.lit (.int .i64 0),.lit (.string ByteArray.empty),.lit (.int .i64 0),.sl [],.lit (.int .i64 0),.lit (.string ByteArray.empty),.lit (.int .i64 0),.sl [],.sl []]:=by kernel_rfl
theorem st71:ZaC Tryz.prog 71=true:=by kernel_rfl
theorem Ztq:offT Tryz.prog 71 0=some (0,32):=by kernel_rfl
theorem Ztr:offT Tryz.prog 71 1=some (4,32):=by kernel_rfl
theorem Zts:offT Tryz.prog 71 2=some (8,69):=by kernel_rfl
theorem kt75:Zat Tryz.prog 75=some .one:=by kernel_rfl
theorem zt75:Zau Tryz.prog 75=some 1:=by kernel_rfl
theorem ot75:Zaq Tryz.prog 75=some [.sl []]:=by kernel_rfl
theorem et75:ZaP Tryz.prog 75=some 9:=by kernel_rfl
theorem lt75:lenT Tryz.prog #[75]=some true:=by kernel_rfl
theorem bt75:ZaF Tryz.prog 75=some (58,9,136):=by kernel_rfl
theorem kt77:Zat Tryz.prog 77=some (.agg 5):=by kernel_rfl
theorem zt77:Zau Tryz.prog 77=some 5:=by kernel_rfl
theorem ot77:Zaq Tryz.prog 77=some [.sl [],.sl [],.sl [],.sl [],.sl []]:=by kernel_rfl
theorem st77:ZaC Tryz.prog 77=true:=by kernel_rfl
theorem xt77:ZcE Tryz.prog 77=some [.lit (.slice none 0 0),.lit (.slice none 0 0),.lit (.slice none 0 0),.lit (.slice none 0 0),.lit (.slice none 0 0)]:=by kernel_rfl
theorem Ztt:offT Tryz.prog 77 0=some (0,41):=by kernel_rfl
theorem Ztu:offT Tryz.prog 77 1=some (3,75):=by kernel_rfl
theorem Ztv:offT Tryz.prog 77 2=some (4,75):=by kernel_rfl
theorem kt79:Zat Tryz.prog 79=some .one:=by kernel_rfl
theorem zt79:Zau Tryz.prog 79=some 1:=by kernel_rfl
theorem ot79:Zaq Tryz.prog 79=some [.sl []]:=by kernel_rfl
theorem et79:ZaP Tryz.prog 79=some 6:=by kernel_rfl
theorem lt79:lenT Tryz.prog #[79]=some true:=by kernel_rfl
theorem bt79:ZaF Tryz.prog 79=some (145,6,128):=by kernel_rfl
theorem kt81:Zat Tryz.prog 81=some (.agg 9):=by kernel_rfl
theorem zt81:Zau Tryz.prog 81=some 9:=by kernel_rfl
theorem ot81:Zaq Tryz.prog 81=some [.lit (.int .i64 0),.lit (.string ByteArray.empty),.lit (.int .i64 0),.sl [],.lit (.int .i64 0),.lit (.string ByteArray.empty),.lit (.int .i64 0),.sl [],.sl []]:=by kernel_rfl
theorem st81:ZaC Tryz.prog 81=true:=by kernel_rfl
theorem xt81:ZcE Tryz.prog 81=some [.lit (.int .i64 0),.lit (.string ByteArray.empty),.lit (.int .i64 0),.lit (.slice none 0 0),.lit (.int .i64 0),.lit (.string ByteArray.empty),.lit (.int .i64 0),.lit (.slice none 0 0),.lit (.slice none 0 0)]:=by kernel_rfl
theorem Ztw:offT Tryz.prog 81 0=some (0,46):=by kernel_rfl
theorem Ztx:offT Tryz.prog 81 1=some (4,46):=by kernel_rfl
theorem Zty:offT Tryz.prog 81 2=some (8,79):=by kernel_rfl
theorem kt91:Zat Tryz.prog 91=some .one:=by kernel_rfl
theorem zt91:Zau Tryz.prog 91=some 1:=by kernel_rfl
theorem ot91:Zaq Tryz.prog 91=some [.sl []]:=by kernel_rfl
theorem et91:ZaP Tryz.prog 91=some 1:=by kernel_rfl
theorem lt91:lenT Tryz.prog #[91]=some true:=by kernel_rfl
theorem bt91:ZaF Tryz.prog 91=some (140,1,24):=by kernel_rfl
theorem ZwR:Zat Tryz.prog 106=some .one:=by kernel_rfl
theorem ZwS:Zau Tryz.prog 106=some 1:=by kernel_rfl
theorem ZwT:Zat Tryz.prog 110=some .one:=by kernel_rfl
theorem ZwU:Zau Tryz.prog 110=some 1:=by kernel_rfl
theorem ZwV:Zat Tryz.prog 112=some (.agg 3):=by kernel_rfl
theorem ZwW:Zau Tryz.prog 112=some 3:=by kernel_rfl
theorem ZwX:Zaq Tryz.prog 112=some [.lit (.pointer none),.sl [],.lit (.map none)]:=by kernel_rfl
theorem ZwY:ZaC Tryz.prog 112=true:=by kernel_rfl
theorem ZwZ:ZcE Tryz.prog 112=some [.lit (.pointer none),.lit (.slice none 0 0),.lit (.map none)]:=by kernel_rfl
theorem Zok:offT Tryz.prog 112 0=some (0,106):=by kernel_rfl
theorem Zol:offT Tryz.prog 112 1=some (1,29):=by kernel_rfl
theorem Zom:offT Tryz.prog 112 2=some (2,110):=by kernel_rfl
theorem Zw0:Zat Tryz.prog 132=some .one:=by kernel_rfl
theorem Zw1:Zau Tryz.prog 132=some 1:=by kernel_rfl
theorem Zw2:Zat Tryz.prog 140=some .one:=by kernel_rfl
theorem Zw3:Zau Tryz.prog 140=some 1:=by kernel_rfl
theorem Zw4:Zaq Tryz.prog 140=some [.sl []]:=by kernel_rfl
theorem Zw5:ZaP Tryz.prog 140=some 8:=by kernel_rfl
theorem Zw6:lenT Tryz.prog #[140]=some true:=by kernel_rfl
theorem Zw7:ZaF Tryz.prog 140=some (156,8,112):=by kernel_rfl
theorem Zw8:Zat Tryz.prog 142=some (.agg 4):=by kernel_rfl
theorem Zw9:Zau Tryz.prog 142=some 4:=by kernel_rfl
theorem Zxa:Zaq Tryz.prog 142=some [.sl [],.sl [],.sl [],.sl []]:=by kernel_rfl
theorem Zxb:ZaC Tryz.prog 142=true:=by kernel_rfl
theorem Zxc:ZcE Tryz.prog 142=some [.lit (.slice none 0 0),.lit (.slice none 0 0),.lit (.slice none 0 0),.lit (.slice none 0 0)]:=by kernel_rfl
theorem Zon:offT Tryz.prog 142 0=some (0,29):=by kernel_rfl
theorem Zoo:offT Tryz.prog 142 1=some (1,44):=by kernel_rfl
theorem Zop:offT Tryz.prog 142 2=some (2,44):=by kernel_rfl
theorem Zoq:offT Tryz.prog 142 3=some (3,140):=by kernel_rfl
theorem Zxd:Zat Tryz.prog 143=some .one:=by kernel_rfl
theorem Zxe:Zau Tryz.prog 143=some 1:=by kernel_rfl
theorem Zxf:Zaq Tryz.prog 143=some [.sl []]:=by kernel_rfl
theorem Zxg:ZaP Tryz.prog 143=some 9:=by kernel_rfl
theorem Zxh:lenT Tryz.prog #[143]=some true:=by kernel_rfl
theorem Zxi:ZaF Tryz.prog 143=some (81,9,136):=by kernel_rfl
theorem Zxj:Zat Tryz.prog 145=some (.agg 6):=by kernel_rfl
theorem Zxk:Zau Tryz.prog 145=some 6:=by kernel_rfl
theorem Zxl:Zaq Tryz.prog 145=some [.lit (.int .i64 0),.sl [],.sl [],.sl [],.sl [],.sl []]:=by kernel_rfl
theorem Zxm:ZaC Tryz.prog 145=true:=by kernel_rfl
theorem Zxn:ZcE Tryz.prog 145=some [.lit (.int .i64 0),.lit (.slice none 0 0),.lit (.slice none 0 0),.lit (.slice none 0 0),.lit (.slice none 0 0),.lit (.slice none 0 0)]:=by kernel_rfl
theorem Zor:offT Tryz.prog 145 0=some (0,3):=by kernel_rfl
theorem Zos:offT Tryz.prog 145 1=some (1,142):=by kernel_rfl
theorem Zot:offT Tryz.prog 145 2=some (5,143):=by kernel_rfl
theorem Zxo:Zat Tryz.prog 156=some (.agg 8):=by kernel_rfl
theorem Zxp:Zau Tryz.prog 156=some 8:=by kernel_rfl
theorem Zxq:Zaq Tryz.prog 156=some [.lit (.int .i64 0),.lit (.string ByteArray.empty),.lit (.int .i64 0),.sl [],.lit (.int .i64 0),.lit (.string ByteArray.empty),.lit (.int .i64 0),.sl []]:=by kernel_rfl
theorem Zxr:ZaC Tryz.prog 156=true:=by kernel_rfl
theorem Zxs:ZcE Tryz.prog 156=some [.lit (.int .i64 0),.lit (.string ByteArray.empty),.lit (.int .i64 0),.lit (.slice none 0 0),.lit (.int .i64 0),.lit (.string ByteArray.empty),.lit (.int .i64 0),.lit (.slice none 0 0)]:=by kernel_rfl
theorem Zou:offT Tryz.prog 156 0=some (0,46):=by kernel_rfl
theorem Zov:offT Tryz.prog 156 1=some (4,46):=by kernel_rfl
theorem Zxt:Zat Tryz.prog 167=some .one:=by kernel_rfl
theorem Zxu:Zau Tryz.prog 167=some 1:=by kernel_rfl
theorem Zxv:Zaq Tryz.prog 167=some [.sl []]:=by kernel_rfl
theorem Zxw:ZaP Tryz.prog 167=some 2:=by kernel_rfl
theorem Zxx:lenT Tryz.prog #[167]=some true:=by kernel_rfl
theorem Zxy:ZaF Tryz.prog 167=some (306,2,32):=by kernel_rfl
theorem Zxz:Zat Tryz.prog 169=some (.agg 5):=by kernel_rfl
theorem ZxA:Zau Tryz.prog 169=some 5:=by kernel_rfl
theorem ZxB:Zaq Tryz.prog 169=some [.lit (.string ByteArray.empty),.sl [],.lit (.bool false),.lit (.bool false),.lit (.int .i64 0)]:=by kernel_rfl
theorem ZxC:ZaC Tryz.prog 169=true:=by kernel_rfl
theorem Zow:offT Tryz.prog 169 0=some (0,9):=by kernel_rfl
theorem Zox:offT Tryz.prog 169 1=some (1,167):=by kernel_rfl
theorem Zoy:offT Tryz.prog 169 2=some (2,4):=by kernel_rfl
theorem Zoz:offT Tryz.prog 169 3=some (3,4):=by kernel_rfl
theorem ZoA:offT Tryz.prog 169 4=some (4,3):=by kernel_rfl
theorem ZxD:Zat Tryz.prog 170=some .one:=by kernel_rfl
theorem ZxE:Zau Tryz.prog 170=some 1:=by kernel_rfl
theorem ZxF:Zaq Tryz.prog 170=some [.sl []]:=by kernel_rfl
theorem ZxG:ZaP Tryz.prog 170=some 2:=by kernel_rfl
theorem ZxH:lenT Tryz.prog #[170]=some true:=by kernel_rfl
theorem ZxI:ZaF Tryz.prog 170=some (261,2,32):=by kernel_rfl
theorem ZxJ:Zat Tryz.prog 172=some (.agg 5):=by kernel_rfl
theorem ZxK:Zau Tryz.prog 172=some 5:=by kernel_rfl
theorem ZxL:Zaq Tryz.prog 172=some [.lit (.string ByteArray.empty),.sl [],.lit (.bool false),.lit (.bool false),.lit (.int .i64 0)]:=by kernel_rfl
theorem ZxM:ZaC Tryz.prog 172=true:=by kernel_rfl
theorem ZxN:ZcE Tryz.prog 172=some [.lit (.string ByteArray.empty),.lit (.slice none 0 0),.lit (.bool false),.lit (.bool false),.lit (.int .i64 0)]:=by kernel_rfl
theorem ZoB:offT Tryz.prog 172 0=some (0,9):=by kernel_rfl
theorem ZoC:offT Tryz.prog 172 1=some (1,170):=by kernel_rfl
theorem ZoD:offT Tryz.prog 172 2=some (2,4):=by kernel_rfl
theorem ZoE:offT Tryz.prog 172 3=some (3,4):=by kernel_rfl
theorem ZoF:offT Tryz.prog 172 4=some (4,3):=by kernel_rfl
theorem ZxO:Zat Tryz.prog 178=some (.agg 3):=by kernel_rfl
theorem ZxP:Zau Tryz.prog 178=some 3:=by kernel_rfl
theorem ZxQ:Zaq Tryz.prog 178=some [.sl [],.sl [],.sl []]:=by kernel_rfl
theorem ZxR:ZaC Tryz.prog 178=true:=by kernel_rfl
theorem ZxS:ZcE Tryz.prog 178=some [.lit (.slice none 0 0),.lit (.slice none 0 0),.lit (.slice none 0 0)]:=by kernel_rfl
theorem ZoG:offT Tryz.prog 178 0=some (0,29):=by kernel_rfl
theorem ZoH:offT Tryz.prog 178 1=some (1,29):=by kernel_rfl
theorem ZoI:offT Tryz.prog 178 2=some (2,29):=by kernel_rfl
theorem ZxT:Zat Tryz.prog 181=some .one:=by kernel_rfl
theorem ZxU:Zau Tryz.prog 181=some 1:=by kernel_rfl
theorem ZxV:Zat Tryz.prog 183=some (.agg 7):=by kernel_rfl
theorem ZxW:Zau Tryz.prog 183=some 7:=by kernel_rfl
theorem ZxX:Zaq Tryz.prog 183=some [.sl [],.sl [],.sl [],.sl [],.sl [],.sl [],.lit (.map none)]:=by kernel_rfl
theorem ZxY:ZaC Tryz.prog 183=true:=by kernel_rfl
theorem ZxZ:ZcE Tryz.prog 183=some [.lit (.slice none 0 0),.lit (.slice none 0 0),.lit (.slice none 0 0),.lit (.slice none 0 0),.lit (.slice none 0 0),.lit (.slice none 0 0),.lit (.map none)]:=by kernel_rfl
theorem ZoJ:offT Tryz.prog 183 0=some (0,178):=by kernel_rfl
theorem ZoK:offT Tryz.prog 183 1=some (3,41):=by kernel_rfl
theorem ZoL:offT Tryz.prog 183 2=some (6,181):=by kernel_rfl
theorem Zx0:Zat Tryz.prog 192=some (.agg 8):=by kernel_rfl
theorem Zx1:Zau Tryz.prog 192=some 8:=by kernel_rfl
theorem Zx2:Zaq Tryz.prog 192=some [.lit (.int .i64 0),.lit (.string ByteArray.empty),.lit (.int .i64 0),.sl [],.lit (.int .i64 0),.lit (.string ByteArray.empty),.lit (.int .i64 0),.sl []]:=by kernel_rfl
theorem Zx3:ZaC Tryz.prog 192=true:=by kernel_rfl
theorem ZoM:offT Tryz.prog 192 0=some (0,32):=by kernel_rfl
theorem ZoN:offT Tryz.prog 192 1=some (4,32):=by kernel_rfl
theorem Zx4:Zat Tryz.prog 196=some (.agg 8):=by kernel_rfl
theorem Zx5:Zau Tryz.prog 196=some 8:=by kernel_rfl
theorem Zx6:Zaq Tryz.prog 196=some [.lit (.int .i64 0),.lit (.string ByteArray.empty),.lit (.int .i64 0),.sl [],.lit (.int .i64 0),.lit (.string ByteArray.empty),.lit (.int .i64 0),.sl []]:=by kernel_rfl
theorem Zx7:ZaC Tryz.prog 196=true:=by kernel_rfl
theorem Zx8:ZcE Tryz.prog 196=some [.lit (.int .i64 0),.lit (.string ByteArray.empty),.lit (.int .i64 0),.lit (.slice none 0 0),.lit (.int .i64 0),.lit (.string ByteArray.empty),.lit (.int .i64 0),.lit (.slice none 0 0)]:=by kernel_rfl
theorem ZoO:offT Tryz.prog 196 0=some (0,46):=by kernel_rfl
theorem ZoP:offT Tryz.prog 196 1=some (4,46):=by kernel_rfl
theorem Zx9:Zat Tryz.prog 210=some .one:=by kernel_rfl
theorem Zya:Zau Tryz.prog 210=some 1:=by kernel_rfl
theorem Zyb:Zaq Tryz.prog 210=some [.sl []]:=by kernel_rfl
theorem Zyc:ZaP Tryz.prog 210=some 8:=by kernel_rfl
theorem Zyd:lenT Tryz.prog #[210]=some true:=by kernel_rfl
theorem Zye:ZaF Tryz.prog 210=some (331,8,112):=by kernel_rfl
theorem Zyf:Zat Tryz.prog 212=some (.agg 4):=by kernel_rfl
theorem Zyg:Zau Tryz.prog 212=some 4:=by kernel_rfl
theorem Zyh:Zaq Tryz.prog 212=some [.sl [],.sl [],.sl [],.sl []]:=by kernel_rfl
theorem Zyi:ZaC Tryz.prog 212=true:=by kernel_rfl
theorem ZoQ:offT Tryz.prog 212 0=some (0,29):=by kernel_rfl
theorem ZoR:offT Tryz.prog 212 1=some (1,30):=by kernel_rfl
theorem ZoS:offT Tryz.prog 212 2=some (2,30):=by kernel_rfl
theorem ZoT:offT Tryz.prog 212 3=some (3,210):=by kernel_rfl
theorem Zyj:Zat Tryz.prog 213=some .one:=by kernel_rfl
theorem Zyk:Zau Tryz.prog 213=some 1:=by kernel_rfl
theorem Zyl:Zaq Tryz.prog 213=some [.sl []]:=by kernel_rfl
theorem Zym:ZaP Tryz.prog 213=some 9:=by kernel_rfl
theorem Zyn:lenT Tryz.prog #[213]=some true:=by kernel_rfl
theorem Zyo:ZaF Tryz.prog 213=some (71,9,136):=by kernel_rfl
theorem Zyp:Zat Tryz.prog 215=some (.agg 6):=by kernel_rfl
theorem Zyq:Zau Tryz.prog 215=some 6:=by kernel_rfl
theorem Zyr:Zaq Tryz.prog 215=some [.lit (.int .i64 0),.sl [],.sl [],.sl [],.sl [],.sl []]:=by kernel_rfl
theorem Zys:ZaC Tryz.prog 215=true:=by kernel_rfl
theorem ZoU:offT Tryz.prog 215 0=some (0,3):=by kernel_rfl
theorem ZoV:offT Tryz.prog 215 1=some (1,212):=by kernel_rfl
theorem ZoW:offT Tryz.prog 215 2=some (5,213):=by kernel_rfl
theorem Zyt:Zat Tryz.prog 227=some .one:=by kernel_rfl
theorem Zyu:Zau Tryz.prog 227=some 1:=by kernel_rfl
theorem Zyv:Zaq Tryz.prog 227=some [.sl []]:=by kernel_rfl
theorem Zyw:ZaP Tryz.prog 227=some 1:=by kernel_rfl
theorem Zyx:lenT Tryz.prog #[227]=some true:=by kernel_rfl
theorem Zyy:ZaF Tryz.prog 227=some (5,1,1):=by kernel_rfl
theorem Zyz:Zat Tryz.prog 241=some .one:=by kernel_rfl
theorem ZyA:Zau Tryz.prog 241=some 1:=by kernel_rfl
theorem ZyB:Zaq Tryz.prog 241=some [.lit (.int .u64 0)]:=by kernel_rfl
theorem ZyC:Zat Tryz.prog 252=some (.agg 2):=by kernel_rfl
theorem ZyD:Zau Tryz.prog 252=some 2:=by kernel_rfl
theorem ZyE:Zaq Tryz.prog 252=some [.lit (.int .i64 0),.lit (.int .i64 0)]:=by kernel_rfl
theorem ZyF:ZaC Tryz.prog 252=true:=by kernel_rfl
theorem ZoX:offT Tryz.prog 252 0=some (0,3):=by kernel_rfl
theorem ZoY:offT Tryz.prog 252 1=some (1,3):=by kernel_rfl
theorem ZyG:Zat Tryz.prog 254=some (.agg 2):=by kernel_rfl
theorem ZyH:Zau Tryz.prog 254=some 2:=by kernel_rfl
theorem ZyI:Zaq Tryz.prog 254=some [.lit (.int .i64 0),.lit (.int .i64 0)]:=by kernel_rfl
theorem ZyJ:ZaC Tryz.prog 254=true:=by kernel_rfl
theorem ZoZ:offT Tryz.prog 254 0=some (0,3):=by kernel_rfl
theorem Zo0:offT Tryz.prog 254 1=some (1,3):=by kernel_rfl
theorem ZyK:Zat Tryz.prog 261=some (.agg 2):=by kernel_rfl
theorem ZyL:Zau Tryz.prog 261=some 2:=by kernel_rfl
theorem ZyM:Zaq Tryz.prog 261=some [.sl [],.lit (.int .i64 0)]:=by kernel_rfl
theorem ZyN:ZaC Tryz.prog 261=true:=by kernel_rfl
theorem ZyO:ZcE Tryz.prog 261=some [.lit (.slice none 0 0),.lit (.int .i64 0)]:=by kernel_rfl
theorem Zo1:offT Tryz.prog 261 0=some (0,29):=by kernel_rfl
theorem Zo2:offT Tryz.prog 261 1=some (1,3):=by kernel_rfl
theorem ZyP:Zat Tryz.prog 273=some .one:=by kernel_rfl
theorem ZyQ:Zau Tryz.prog 273=some 1:=by kernel_rfl
theorem ZyR:Zaq Tryz.prog 273=some [.sl []]:=by kernel_rfl
theorem ZyS:ZaP Tryz.prog 273=some 1:=by kernel_rfl
theorem ZyT:lenT Tryz.prog #[273]=some true:=by kernel_rfl
theorem ZyU:ZaF Tryz.prog 273=some (75,1,24):=by kernel_rfl
theorem ZyV:Zat Tryz.prog 306=some (.agg 2):=by kernel_rfl
theorem ZyW:Zau Tryz.prog 306=some 2:=by kernel_rfl
theorem ZyX:Zaq Tryz.prog 306=some [.sl [],.lit (.int .i64 0)]:=by kernel_rfl
theorem ZyY:ZaC Tryz.prog 306=true:=by kernel_rfl
theorem Zo3:offT Tryz.prog 306 0=some (0,29):=by kernel_rfl
theorem Zo4:offT Tryz.prog 306 1=some (1,3):=by kernel_rfl
theorem ZyZ:Zat Tryz.prog 321=some .one:=by kernel_rfl
theorem Zy0:Zau Tryz.prog 321=some 1:=by kernel_rfl
theorem Zy1:Zaq Tryz.prog 321=some [.sl []]:=by kernel_rfl
theorem Zy2:ZaP Tryz.prog 321=some 1:=by kernel_rfl
theorem Zy3:lenT Tryz.prog #[321]=some true:=by kernel_rfl
theorem Zy4:ZaF Tryz.prog 321=some (29,1,24):=by kernel_rfl
theorem Zy5:Zat Tryz.prog 331=some (.agg 8):=by kernel_rfl
theorem Zy6:Zau Tryz.prog 331=some 8:=by kernel_rfl
theorem Zy7:Zaq Tryz.prog 331=some [.lit (.int .i64 0),.lit (.string ByteArray.empty),.lit (.int .i64 0),.sl [],.lit (.int .i64 0),.lit (.string ByteArray.empty),.lit (.int .i64 0),.sl []]:=by kernel_rfl
theorem Zy8:ZaC Tryz.prog 331=true:=by kernel_rfl
theorem Zo5:offT Tryz.prog 331 0=some (0,32):=by kernel_rfl
theorem Zo6:offT Tryz.prog 331 1=some (4,32):=by kernel_rfl
theorem tt_0:type_of% (ai kt2 (ai zt2 (ai ot2 (ai kt3 (ai zt3 (ai ot3 (ai kt4 (ai zt4 (ai ot4 (ai ut4 (ai kt5 (ai zt5 (ai ot5 (ai kt9 (ai zt9 (ai ot9 (ai lt9 (ai ut9 (ai kt22 (ai zt22 (ai ot22 (ai et22 (ai lt22 (ai bt22 (ai kt23 (ai zt23 (ai ot23 (ai et23 (ai lt23 (ai bt23 (ai kt25 (ai zt25 (ai ot25 (ai st25 (ai Zs1 (ai Zs2 (ai kt26 (ai zt26 (ai ot26 (et26)))))))))))))))))))))))))))))))))))))))):=ai kt2 (ai zt2 (ai ot2 (ai kt3 (ai zt3 (ai ot3 (ai kt4 (ai zt4 (ai ot4 (ai ut4 (ai kt5 (ai zt5 (ai ot5 (ai kt9 (ai zt9 (ai ot9 (ai lt9 (ai ut9 (ai kt22 (ai zt22 (ai ot22 (ai et22 (ai lt22 (ai bt22 (ai kt23 (ai zt23 (ai ot23 (ai et23 (ai lt23 (ai bt23 (ai kt25 (ai zt25 (ai ot25 (ai st25 (ai Zs1 (ai Zs2 (ai kt26 (ai zt26 (ai ot26 (et26)))))))))))))))))))))))))))))))))))))))
theorem tt_1:type_of% (ai lt26 (ai bt26 (ai kt28 (ai zt28 (ai ot28 (ai st28 (ai Zs3 (ai Zs4 (ai kt29 (ai zt29 (ai ot29 (ai et29 (ai lt29 (ai bt29 (ai kt30 (ai zt30 (ai ot30 (ai et30 (ai lt30 (ai bt30 (ai kt32 (ai zt32 (ai ot32 (ai st32 (ai Zs5 (ai Zs6 (ai Zs7 (ai Zs8 (ai kt36 (ai zt36 (ai ot36 (ai et36 (ai lt36 (ai bt36 (ai kt38 (ai zt38 (ai ot38 (ai st38 (ai xt38 (Zs9)))))))))))))))))))))))))))))))))))))))):=ai lt26 (ai bt26 (ai kt28 (ai zt28 (ai ot28 (ai st28 (ai Zs3 (ai Zs4 (ai kt29 (ai zt29 (ai ot29 (ai et29 (ai lt29 (ai bt29 (ai kt30 (ai zt30 (ai ot30 (ai et30 (ai lt30 (ai bt30 (ai kt32 (ai zt32 (ai ot32 (ai st32 (ai Zs5 (ai Zs6 (ai Zs7 (ai Zs8 (ai kt36 (ai zt36 (ai ot36 (ai et36 (ai lt36 (ai bt36 (ai kt38 (ai zt38 (ai ot38 (ai st38 (ai xt38 (Zs9)))))))))))))))))))))))))))))))))))))))
theorem tt_2:type_of% (ai Zta (ai kt39 (ai zt39 (ai ot39 (ai et39 (ai lt39 (ai bt39 (ai kt41 (ai zt41 (ai ot41 (ai st41 (ai xt41 (ai Ztb (ai Ztc (ai kt44 (ai zt44 (ai ot44 (ai et44 (ai lt44 (ai bt44 (ai kt46 (ai zt46 (ai ot46 (ai st46 (ai xt46 (ai Ztd (ai Zte (ai Ztf (ai Ztg (ai kt52 (ai zt52 (ai ot52 (ai et52 (ai lt52 (ai bt52 (ai kt54 (ai zt54 (ai ot54 (ai st54 (Zth)))))))))))))))))))))))))))))))))))))))):=ai Zta (ai kt39 (ai zt39 (ai ot39 (ai et39 (ai lt39 (ai bt39 (ai kt41 (ai zt41 (ai ot41 (ai st41 (ai xt41 (ai Ztb (ai Ztc (ai kt44 (ai zt44 (ai ot44 (ai et44 (ai lt44 (ai bt44 (ai kt46 (ai zt46 (ai ot46 (ai st46 (ai xt46 (ai Ztd (ai Zte (ai Ztf (ai Ztg (ai kt52 (ai zt52 (ai ot52 (ai et52 (ai lt52 (ai bt52 (ai kt54 (ai zt54 (ai ot54 (ai st54 (Zth)))))))))))))))))))))))))))))))))))))))
theorem tt_3:type_of% (ai Zti (ai Ztj (ai kt56 (ai zt56 (ai ot56 (ai et56 (ai lt56 (ai bt56 (ai kt58 (ai zt58 (ai ot58 (ai st58 (ai xt58 (ai Ztk (ai Ztl (ai Ztm (ai kt66 (ai zt66 (ai ot66 (ai et66 (ai lt66 (ai bt66 (ai kt68 (ai zt68 (ai ot68 (ai st68 (ai Ztn (ai Zto (ai Ztp (ai kt69 (ai zt69 (ai ot69 (ai et69 (ai lt69 (ai bt69 (ai kt71 (ai zt71 (ai ot71 (ai st71 (Ztq)))))))))))))))))))))))))))))))))))))))):=ai Zti (ai Ztj (ai kt56 (ai zt56 (ai ot56 (ai et56 (ai lt56 (ai bt56 (ai kt58 (ai zt58 (ai ot58 (ai st58 (ai xt58 (ai Ztk (ai Ztl (ai Ztm (ai kt66 (ai zt66 (ai ot66 (ai et66 (ai lt66 (ai bt66 (ai kt68 (ai zt68 (ai ot68 (ai st68 (ai Ztn (ai Zto (ai Ztp (ai kt69 (ai zt69 (ai ot69 (ai et69 (ai lt69 (ai bt69 (ai kt71 (ai zt71 (ai ot71 (ai st71 (Ztq)))))))))))))))))))))))))))))))))))))))
theorem tt_4:type_of% (ai Ztr (ai Zts (ai kt75 (ai zt75 (ai ot75 (ai et75 (ai lt75 (ai bt75 (ai kt77 (ai zt77 (ai ot77 (ai st77 (ai xt77 (ai Ztt (ai Ztu (ai Ztv (ai kt79 (ai zt79 (ai ot79 (ai et79 (ai lt79 (ai bt79 (ai kt81 (ai zt81 (ai ot81 (ai st81 (ai xt81 (ai Ztw (ai Ztx (ai Zty (ai kt91 (ai zt91 (ai ot91 (ai et91 (ai lt91 (ai bt91 (ai ZwR (ai ZwS (ai ZwT (ZwU)))))))))))))))))))))))))))))))))))))))):=ai Ztr (ai Zts (ai kt75 (ai zt75 (ai ot75 (ai et75 (ai lt75 (ai bt75 (ai kt77 (ai zt77 (ai ot77 (ai st77 (ai xt77 (ai Ztt (ai Ztu (ai Ztv (ai kt79 (ai zt79 (ai ot79 (ai et79 (ai lt79 (ai bt79 (ai kt81 (ai zt81 (ai ot81 (ai st81 (ai xt81 (ai Ztw (ai Ztx (ai Zty (ai kt91 (ai zt91 (ai ot91 (ai et91 (ai lt91 (ai bt91 (ai ZwR (ai ZwS (ai ZwT (ZwU)))))))))))))))))))))))))))))))))))))))
theorem tt_5:type_of% (ai ZwV (ai ZwW (ai ZwX (ai ZwY (ai ZwZ (ai Zok (ai Zol (ai Zom (ai Zw0 (ai Zw1 (ai Zw2 (ai Zw3 (ai Zw4 (ai Zw5 (ai Zw6 (ai Zw7 (ai Zw8 (ai Zw9 (ai Zxa (ai Zxb (ai Zxc (ai Zon (ai Zoo (ai Zop (ai Zoq (ai Zxd (ai Zxe (ai Zxf (ai Zxg (ai Zxh (ai Zxi (ai Zxj (ai Zxk (ai Zxl (ai Zxm (ai Zxn (ai Zor (ai Zos (ai Zot (Zxo)))))))))))))))))))))))))))))))))))))))):=ai ZwV (ai ZwW (ai ZwX (ai ZwY (ai ZwZ (ai Zok (ai Zol (ai Zom (ai Zw0 (ai Zw1 (ai Zw2 (ai Zw3 (ai Zw4 (ai Zw5 (ai Zw6 (ai Zw7 (ai Zw8 (ai Zw9 (ai Zxa (ai Zxb (ai Zxc (ai Zon (ai Zoo (ai Zop (ai Zoq (ai Zxd (ai Zxe (ai Zxf (ai Zxg (ai Zxh (ai Zxi (ai Zxj (ai Zxk (ai Zxl (ai Zxm (ai Zxn (ai Zor (ai Zos (ai Zot (Zxo)))))))))))))))))))))))))))))))))))))))
theorem tt_6:type_of% (ai Zxp (ai Zxq (ai Zxr (ai Zxs (ai Zou (ai Zov (ai Zxt (ai Zxu (ai Zxv (ai Zxw (ai Zxx (ai Zxy (ai Zxz (ai ZxA (ai ZxB (ai ZxC (ai Zow (ai Zox (ai Zoy (ai Zoz (ai ZoA (ai ZxD (ai ZxE (ai ZxF (ai ZxG (ai ZxH (ai ZxI (ai ZxJ (ai ZxK (ai ZxL (ai ZxM (ai ZxN (ai ZoB (ai ZoC (ai ZoD (ai ZoE (ai ZoF (ai ZxO (ai ZxP (ZxQ)))))))))))))))))))))))))))))))))))))))):=ai Zxp (ai Zxq (ai Zxr (ai Zxs (ai Zou (ai Zov (ai Zxt (ai Zxu (ai Zxv (ai Zxw (ai Zxx (ai Zxy (ai Zxz (ai ZxA (ai ZxB (ai ZxC (ai Zow (ai Zox (ai Zoy (ai Zoz (ai ZoA (ai ZxD (ai ZxE (ai ZxF (ai ZxG (ai ZxH (ai ZxI (ai ZxJ (ai ZxK (ai ZxL (ai ZxM (ai ZxN (ai ZoB (ai ZoC (ai ZoD (ai ZoE (ai ZoF (ai ZxO (ai ZxP (ZxQ)))))))))))))))))))))))))))))))))))))))
theorem tt_7:type_of% (ai ZxR (ai ZxS (ai ZoG (ai ZoH (ai ZoI (ai ZxT (ai ZxU (ai ZxV (ai ZxW (ai ZxX (ai ZxY (ai ZxZ (ai ZoJ (ai ZoK (ai ZoL (ai Zx0 (ai Zx1 (ai Zx2 (ai Zx3 (ai ZoM (ai ZoN (ai Zx4 (ai Zx5 (ai Zx6 (ai Zx7 (ai Zx8 (ai ZoO (ai ZoP (ai Zx9 (ai Zya (ai Zyb (ai Zyc (ai Zyd (ai Zye (ai Zyf (ai Zyg (ai Zyh (ai Zyi (ai ZoQ (ZoR)))))))))))))))))))))))))))))))))))))))):=ai ZxR (ai ZxS (ai ZoG (ai ZoH (ai ZoI (ai ZxT (ai ZxU (ai ZxV (ai ZxW (ai ZxX (ai ZxY (ai ZxZ (ai ZoJ (ai ZoK (ai ZoL (ai Zx0 (ai Zx1 (ai Zx2 (ai Zx3 (ai ZoM (ai ZoN (ai Zx4 (ai Zx5 (ai Zx6 (ai Zx7 (ai Zx8 (ai ZoO (ai ZoP (ai Zx9 (ai Zya (ai Zyb (ai Zyc (ai Zyd (ai Zye (ai Zyf (ai Zyg (ai Zyh (ai Zyi (ai ZoQ (ZoR)))))))))))))))))))))))))))))))))))))))
theorem tt_8:type_of% (ai ZoS (ai ZoT (ai Zyj (ai Zyk (ai Zyl (ai Zym (ai Zyn (ai Zyo (ai Zyp (ai Zyq (ai Zyr (ai Zys (ai ZoU (ai ZoV (ai ZoW (ai Zyt (ai Zyu (ai Zyv (ai Zyw (ai Zyx (ai Zyy (ai Zyz (ai ZyA (ai ZyB (ai ZyC (ai ZyD (ai ZyE (ai ZyF (ai ZoX (ai ZoY (ai ZyG (ai ZyH (ai ZyI (ai ZyJ (ai ZoZ (ai Zo0 (ai ZyK (ai ZyL (ai ZyM (ZyN)))))))))))))))))))))))))))))))))))))))):=ai ZoS (ai ZoT (ai Zyj (ai Zyk (ai Zyl (ai Zym (ai Zyn (ai Zyo (ai Zyp (ai Zyq (ai Zyr (ai Zys (ai ZoU (ai ZoV (ai ZoW (ai Zyt (ai Zyu (ai Zyv (ai Zyw (ai Zyx (ai Zyy (ai Zyz (ai ZyA (ai ZyB (ai ZyC (ai ZyD (ai ZyE (ai ZyF (ai ZoX (ai ZoY (ai ZyG (ai ZyH (ai ZyI (ai ZyJ (ai ZoZ (ai Zo0 (ai ZyK (ai ZyL (ai ZyM (ZyN)))))))))))))))))))))))))))))))))))))))
theorem tt_9:type_of% (ai ZyO (ai Zo1 (ai Zo2 (ai ZyP (ai ZyQ (ai ZyR (ai ZyS (ai ZyT (ai ZyU (ai ZyV (ai ZyW (ai ZyX (ai ZyY (ai Zo3 (ai Zo4 (ai ZyZ (ai Zy0 (ai Zy1 (ai Zy2 (ai Zy3 (ai Zy4 (ai Zy5 (ai Zy6 (ai Zy7 (ai Zy8 (ai Zo5 (Zo6))))))))))))))))))))))))))):=ai ZyO (ai Zo1 (ai Zo2 (ai ZyP (ai ZyQ (ai ZyR (ai ZyS (ai ZyT (ai ZyU (ai ZyV (ai ZyW (ai ZyX (ai ZyY (ai Zo3 (ai Zo4 (ai ZyZ (ai Zy0 (ai Zy1 (ai Zy2 (ai Zy3 (ai Zy4 (ai Zy5 (ai Zy6 (ai Zy7 (ai Zy8 (ai Zo5 (Zo6))))))))))))))))))))))))))
end Go.Proofs.YtcgacanpeaiabaaGreatDoor
namespace Go.Proofs.YtcgacanpeaiabaaGreatDoor
open Go.RowKit
theorem pm_0:type_of% (ai @Zit (ai @ZqW (ai @ro_n (ai @ro_g (ai @ZqX (ai @pk_t (ai @pk_f (ai @sk_r (ai @g_no (ai @qB_0 (ai @qB_s (ai @ZqY (ai @ZqZ (ai @Zq0 (ai @Zhx (ai @Zm9 (ai @Zhy (ai @Zna (ai @ZvK (ai @R_un (ai @ZjP (ai @ZvL (ai @Zq1 (ai @Znb (ai @ZvM (ai @ZvN (ai @ZvO (ai @Zq2 (ai @Znc (@Znd)))))))))))))))))))))))))))))):=ai @Zit (ai @ZqW (ai @ro_n (ai @ro_g (ai @ZqX (ai @pk_t (ai @pk_f (ai @sk_r (ai @g_no (ai @qB_0 (ai @qB_s (ai @ZqY (ai @ZqZ (ai @Zq0 (ai @Zhx (ai @Zm9 (ai @Zhy (ai @Zna (ai @ZvK (ai @R_un (ai @ZjP (ai @ZvL (ai @Zq1 (ai @Znb (ai @ZvM (ai @ZvN (ai @ZvO (ai @Zq2 (ai @Znc (@Znd)))))))))))))))))))))))))))))
theorem pm_1:type_of% (ai @ZgK (ai @Ziv (ai @Zq3 (ai @Zne (ai @Zq4 (ai @Znf (ai @Zng (ai @Znh (ai @Zq5 (ai @Zni (ai @Zle (ai @ZvP (ai @fA_d (ai @Zq6 (ai @ZvQ (ai @ZvR (ai @ZvS (ai @ZvT (ai @Zq7 (ai @ky_d (ai @Zq8 (ai @Zq9 (ai @Zra (ai @Znj (ai @Zlf (ai @Znk (ai @ZvU (ai @Znl (ai @Zlg (@Zhz)))))))))))))))))))))))))))))):=ai @ZgK (ai @Ziv (ai @Zq3 (ai @Zne (ai @Zq4 (ai @Znf (ai @Zng (ai @Znh (ai @Zq5 (ai @Zni (ai @Zle (ai @ZvP (ai @fA_d (ai @Zq6 (ai @ZvQ (ai @ZvR (ai @ZvS (ai @ZvT (ai @Zq7 (ai @ky_d (ai @Zq8 (ai @Zq9 (ai @Zra (ai @Znj (ai @Zlf (ai @Znk (ai @ZvU (ai @Znl (ai @Zlg (@Zhz)))))))))))))))))))))))))))))
theorem pm_2:type_of% (ai @Zlh (ai @Zrb (ai @Zrc (ai @Znm (ai @Znn (ai @ZvV (ai @ZvW (ai @ZvX (ai @ZvY (ai @s_bf (ai @Zno (ai @Znp (ai @ZvZ (ai @Zv0 (ai @Zrd (ai @Zv1 (ai @Zv2 (ai @Zv3 (ai @Zv4 (ai @Znq (ai @Znr (ai @Zns (ai @Zv5 (ai @Zre (ai @Zrf (ai @Zrg (ai @Zrh (ai @kl_d (ai @Zri (@Zlj)))))))))))))))))))))))))))))):=ai @Zlh (ai @Zrb (ai @Zrc (ai @Znm (ai @Znn (ai @ZvV (ai @ZvW (ai @ZvX (ai @ZvY (ai @s_bf (ai @Zno (ai @Znp (ai @ZvZ (ai @Zv0 (ai @Zrd (ai @Zv1 (ai @Zv2 (ai @Zv3 (ai @Zv4 (ai @Znq (ai @Znr (ai @Zns (ai @Zv5 (ai @Zre (ai @Zrf (ai @Zrg (ai @Zrh (ai @kl_d (ai @Zri (@Zlj)))))))))))))))))))))))))))))
theorem pm_3:type_of% (ai @Zv6 (ai @Zrj (ai @Znt (ai @Zv7 (ai @Znu (ai @Zrk (ai @Znv (ai @Znw (ai @ib_d (ai @Zrl (ai @Zv8 (ai @Znx (ai @Zny (ai @Zrm (ai @Zv9 (ai @Znz (ai @Zrn (ai @Zwa (ai @Zro (ai @Zwb (ai @t_sl (ai @Zwc (ai @Zg9 (ai @ZnD (ai @Zwe (ai @Zwf (ai @Zwg (ai @Zrq (ai @Zwh (@Zwi)))))))))))))))))))))))))))))):=ai @Zv6 (ai @Zrj (ai @Znt (ai @Zv7 (ai @Znu (ai @Zrk (ai @Znv (ai @Znw (ai @ib_d (ai @Zrl (ai @Zv8 (ai @Znx (ai @Zny (ai @Zrm (ai @Zv9 (ai @Znz (ai @Zrn (ai @Zwa (ai @Zro (ai @Zwb (ai @t_sl (ai @Zwc (ai @Zg9 (ai @ZnD (ai @Zwe (ai @Zwf (ai @Zwg (ai @Zrq (ai @Zwh (@Zwi)))))))))))))))))))))))))))))
theorem pm_4:type_of% (ai @ZnE (ai @Zrr (ai @Zrs (ai @Zrt (ai @Zwj (ai @Zwk (ai @ZnF (ai @Zru (ai @Zrv (ai @ZnG (ai @Zwl (ai @ZnH (ai @ZnI (ai @Zwm (ai @Zwn (ai @Zrw (ai @Zrx (ai @ZnJ (ai @Zwo (ai @Zry (ai @Zwp (ai @Zrz (ai @Zwq (ai @Zwr (ai @Zws (ai @Zwt (ai @ZrA (ai @ZnK (ai @Zwu (@ZnL)))))))))))))))))))))))))))))):=ai @ZnE (ai @Zrr (ai @Zrs (ai @Zrt (ai @Zwj (ai @Zwk (ai @ZnF (ai @Zru (ai @Zrv (ai @ZnG (ai @Zwl (ai @ZnH (ai @ZnI (ai @Zwm (ai @Zwn (ai @Zrw (ai @Zrx (ai @ZnJ (ai @Zwo (ai @Zry (ai @Zwp (ai @Zrz (ai @Zwq (ai @Zwr (ai @Zws (ai @Zwt (ai @ZrA (ai @ZnK (ai @Zwu (@ZnL)))))))))))))))))))))))))))))
theorem pm_5:type_of% (ai @ZrB (ai @ZnM (ai @Zwv (ai @Zww (ai @Zwx (ai @ZnN (ai @ZrC (ai @ZnO (ai @ZnP (ai @Zwy (ai @ZnQ (ai @ZnR (ai @ZrD (ai @ZnS (ai @ZnT (ai @ZrE (ai @ZnU (ai @ZnV (ai @ZnW (ai @ZrF (ai @ZnX (ai @Zwz (ai @ZnY (ai @ZnZ (ai @ZrG (ai @Zlo (ai @Zn0 (ai @Zn1 (ai @Zn2 (@Zn3)))))))))))))))))))))))))))))):=ai @ZrB (ai @ZnM (ai @Zwv (ai @Zww (ai @Zwx (ai @ZnN (ai @ZrC (ai @ZnO (ai @ZnP (ai @Zwy (ai @ZnQ (ai @ZnR (ai @ZrD (ai @ZnS (ai @ZnT (ai @ZrE (ai @ZnU (ai @ZnV (ai @ZnW (ai @ZrF (ai @ZnX (ai @Zwz (ai @ZnY (ai @ZnZ (ai @ZrG (ai @Zlo (ai @Zn0 (ai @Zn1 (ai @Zn2 (@Zn3)))))))))))))))))))))))))))))
theorem pm_6:type_of% (ai @sl_2 (ai @sl_3 (ai @ZrH (ai @ZrI (ai @Zn4 (ai @ZrJ (ai @Zn5 (ai @ZrK (ai @ZrL (ai @ZwA (ai @ZrM (ai @ZwB (ai @ZrN (ai @ZwC (ai @ZrO (ai @Zn6 (ai @ZwD (ai @cp_s (ai @cp_x (ai @ZwE (ai @co_z (ai @co_y (ai @ZwF (ai @Zn7 (ai @Zn8 (ai @ZwG (ai @ZwH (ai @r_no (ai @ZrP (@ZrQ)))))))))))))))))))))))))))))):=ai @sl_2 (ai @sl_3 (ai @ZrH (ai @ZrI (ai @Zn4 (ai @ZrJ (ai @Zn5 (ai @ZrK (ai @ZrL (ai @ZwA (ai @ZrM (ai @ZwB (ai @ZrN (ai @ZwC (ai @ZrO (ai @Zn6 (ai @ZwD (ai @cp_s (ai @cp_x (ai @ZwE (ai @co_z (ai @co_y (ai @ZwF (ai @Zn7 (ai @Zn8 (ai @ZwG (ai @ZwH (ai @r_no (ai @ZrP (@ZrQ)))))))))))))))))))))))))))))
theorem pm_7:type_of% (ai @ZrR (ai @ZrS (ai @ZrT (ai @ZrU (ai @ZrV (ai @ZrW (ai @ZrX (ai @ZrY (ai @ZrZ (ai @Zr0 (ai @Zr1 (ai @Zr2 (ai @Zr3 (ai @Zr4 (ai @Zr5 (ai @Zr6 (ai @Zr7 (ai @Zr8 (ai @bb_t (ai @Zr9 (ai @ZwI (ai @Zsa (ai @ZjQ (ai @Zsb (ai @Zsc (ai @Zsd (ai @Zse (ai @Zsf (ai @Zsg (@Zsh)))))))))))))))))))))))))))))):=ai @ZrR (ai @ZrS (ai @ZrT (ai @ZrU (ai @ZrV (ai @ZrW (ai @ZrX (ai @ZrY (ai @ZrZ (ai @Zr0 (ai @Zr1 (ai @Zr2 (ai @Zr3 (ai @Zr4 (ai @Zr5 (ai @Zr6 (ai @Zr7 (ai @Zr8 (ai @bb_t (ai @Zr9 (ai @ZwI (ai @Zsa (ai @ZjQ (ai @Zsb (ai @Zsc (ai @Zsd (ai @Zse (ai @Zsf (ai @Zsg (@Zsh)))))))))))))))))))))))))))))
theorem pm_8:type_of% (ai @Zsi (ai @ZwJ (ai @nr_p (ai @nr_s (ai @nr_c (ai @nr_i (ai @Zsj (ai @Zsk (ai @Zsl (ai @Zsm (ai @Zsn (ai @Zso (ai @Zsp (ai @Zsq (ai @Zsr (ai @Zss (ai @Zst (ai @Zsu (ai @Zsv (ai @Zsw (ai @Zn9 (ai @Zoa (ai @Zsx (ai @Zsy (ai @ZwK (ai @Zsz (ai @rn_0 (ai @rn_n (ai @rn_g (@st_o)))))))))))))))))))))))))))))):=ai @Zsi (ai @ZwJ (ai @nr_p (ai @nr_s (ai @nr_c (ai @nr_i (ai @Zsj (ai @Zsk (ai @Zsl (ai @Zsm (ai @Zsn (ai @Zso (ai @Zsp (ai @Zsq (ai @Zsr (ai @Zss (ai @Zst (ai @Zsu (ai @Zsv (ai @Zsw (ai @Zn9 (ai @Zoa (ai @Zsx (ai @Zsy (ai @ZwK (ai @Zsz (ai @rn_0 (ai @rn_n (ai @rn_g (@st_o)))))))))))))))))))))))))))))
theorem pm_9:type_of% (ai @ZsA (ai @Zob (ai @ZsB (ai @lv_d (ai @ZsC (ai @ZsD (ai @ZsE (ai @ZwL (ai @ZwM (ai @ZsF (ai @lb_d (ai @ZsG (ai @ZsH (ai @ZsI (ai @ZwN (ai @ZwO (ai @ZsJ (ai @Zoc (ai @ZsK (ai @Zod (ai @Zoe (ai @ZsL (ai @ZwP (ai @ZsM (ai @Zjl (ai @gt_c (ai @ZsN (ai @ZsO (ai @ZsP (@ZwQ)))))))))))))))))))))))))))))):=ai @ZsA (ai @Zob (ai @ZsB (ai @lv_d (ai @ZsC (ai @ZsD (ai @ZsE (ai @ZwL (ai @ZwM (ai @ZsF (ai @lb_d (ai @ZsG (ai @ZsH (ai @ZsI (ai @ZwN (ai @ZwO (ai @ZsJ (ai @Zoc (ai @ZsK (ai @Zod (ai @Zoe (ai @ZsL (ai @ZwP (ai @ZsM (ai @Zjl (ai @gt_c (ai @ZsN (ai @ZsO (ai @ZsP (@ZwQ)))))))))))))))))))))))))))))
theorem Zy9:type_of% (ai @ZsQ (ai @ZsR (ai @Zof (ai @ZsS (ai @ZsT (ai @dc_s (ai @dc_p (ai @dc_f (ai @ZsU (ai @ZsV (ai @ZsW (ai @ZsX (ai @Zog (ai @ZsY (ai @Zoh (ai @ZsZ (ai @Zs0 (ai @Zoi (ai @Zoj (@ud_d)))))))))))))))))))):=ai @ZsQ (ai @ZsR (ai @Zof (ai @ZsS (ai @ZsT (ai @dc_s (ai @dc_p (ai @dc_f (ai @ZsU (ai @ZsV (ai @ZsW (ai @ZsX (ai @Zog (ai @ZsY (ai @Zoh (ai @ZsZ (ai @Zs0 (ai @Zoi (ai @Zoj (@ud_d)))))))))))))))))))
theorem Zza:type_of% (ai @Zwd (ai @ZnA (ai @ZnB (ai @Zlk (ai @Zrp @ZnC))))):=(ai @Zwd (ai @ZnA (ai @ZnB (ai @Zlk (ai @Zrp @ZnC)))))
def Zdr:List Nat->List (Nat × A)->List (Nat × A)
 | _,[]=>[]
 | ds,(k,a)::r=>if ds.elem k then Zdr ds r else (k,a)::Zdr (k::ds) r
def Zds:List Nat->List (Nat × Bk)->List (Nat × Bk)
 | _,[]=>[]
 | ds,(k,a)::r=>if ds.elem k then Zds ds r else (k,a)::Zds (k::ds) r
theorem Zvb {s t:List (Nat × A)} (h:∀ p∈t,gs s p.1=p.2):ZbU s t:=by
 induction t with
 | nil=>exact trivial
 | cons p r ih=>exact ⟨h p Tas,ih fun q hq=>h q (Tal _ hq)⟩
theorem Zvc {s t:List (Nat × Bk)} (h:∀ p∈t,gm s p.1=some p.2):ZbV s t:=by
 induction t with
 | nil=>exact trivial
 | cons p r ih=>exact ⟨h p Tas,ih fun q hq=>h q (Tal _ hq)⟩
theorem Ztz:∀ {s:List (Nat × A)} {ds:List Nat} {p:Nat × A},p∈Zdr ds s->ds.elem p.1=false∧gs s p.1=p.2:=by
 intro s
 induction s with
 | nil=>intro ds p h;cases h
 | cons q r ih =>
  intro ds p h
  obtain ⟨k,a⟩:=q
  simp only [Zdr] at h
  by_cases hk:ds.elem k=true
  ·rw [if_pos hk] at h
   have:=ih h
   refine ⟨this.1,?_⟩
   rw [gs,if_neg ?_]
   ·exact this.2
   ·intro e;rw [e] at this;rw [hk] at this;cases this.1
  ·rw [if_neg hk] at h
   rcases Tbd.1 h with rfl | h
   ·exact ⟨by simpa using hk,by simp [gs]⟩
   ·have:=ih h
    have h1:=this.1
    rw [List.elem_cons] at h1
    have hne:¬ p.1=k:=by intro e;simp [e] at h1
    refine ⟨?_,?_⟩
    ·cases hb:(p.1==k) with
     | true=>rw [hb] at h1;cases h1
     | false=>rw [hb] at h1;exact h1
    ·rw [gs,if_neg hne];exact this.2
theorem ZtA:∀ {s:List (Nat × Bk)} {ds:List Nat} {p:Nat × Bk},p∈Zds ds s->ds.elem p.1=false∧gm s p.1=some p.2:=by
 intro s
 induction s with
 | nil=>intro ds p h;cases h
 | cons q r ih =>
  intro ds p h
  obtain ⟨k,a⟩:=q
  simp only [Zds] at h
  by_cases hk:ds.elem k=true
  ·rw [if_pos hk] at h
   have:=ih h
   refine ⟨this.1,?_⟩
   rw [gm,if_neg ?_]
   ·exact this.2
   ·intro e;rw [e] at this;rw [hk] at this;cases this.1
  ·rw [if_neg hk] at h
   rcases Tbd.1 h with rfl | h
   ·exact ⟨by simpa using hk,by simp [gm]⟩
   ·have:=ih h
    have h1:=this.1
    rw [List.elem_cons] at h1
    have hne:¬ p.1=k:=by intro e;simp [e] at h1
    refine ⟨?_,?_⟩
    ·cases hb:(p.1==k) with
     | true=>rw [hb] at h1;cases h1
     | false=>rw [hb] at h1;exact h1
    ·rw [gm,if_neg hne];exact this.2
theorem Zlp {s a b:List (Nat × A)}:ZbU s (a++b) ↔ ZbU s a∧ZbU s b:=by
 induction a with
 | nil=>simp [ZbU]
 | cons p r ih=>simp [ZbU,ih,and_assoc]
theorem Zlq {s a b:List (Nat × Bk)}:ZbV s (a++b) ↔ ZbV s a∧ZbV s b:=by
 induction a with
 | nil=>simp [ZbV]
 | cons p r ih=>simp [ZbV,ih,and_assoc]
theorem ZtB {e:Env} {mask:Nat} {Q:PX->St->Prop} {c:Code} {s:List (Nat × A)} {m:List (Nat × Bk)} {ι:Type} (ds dm:List Nat) (us:ι->List (Nat × A)) (ms:ι->List (Nat × Bk)) (ok:ι->Prop) (μ:ι->Nat) (x0:ι)
  {s0:List (Nat × A)} {m0:List (Nat × Bk)} (hs0:Zdr ds s=s0) (hm0:Zds dm m=m0) {ss:ι->List (Nat × A)} {mm:ι->List (Nat × Bk)} (hss:∀ x,us x++s0=ss x) (hmm:∀ x,ms x++m0=mm x) (hs:ZbU s (us x0)) (hm:ZbV m (ms x0)) (h0:ok x0)
  (hr:∀ x,ok x->pwp e mask c ⟨ss x,mm x⟩ (fun p σ''=>match p with
   | .normal=>∃ y,ok y∧ZbU σ''.s (ss y)∧ZbV σ''.m (mm y)∧μ y < μ x
   | p=>Q p σ'')):pwp e mask (.loop c) ⟨s,m⟩ Q:=by
 refine Zu3 (fun x=>⟨ss x,mm x⟩) ok μ x0 h0 ?_ ?_ hr
 ·show ZbU s (ss x0)
  rw [<- hss,Zlp,<- hs0]
  exact ⟨hs,Zvb fun p hp=>(Ztz hp).2⟩
 ·show ZbV m (mm x0)
  rw [<- hmm,Zlq,<- hm0]
  exact ⟨hm,Zvc fun p hp=>(ZtA hp).2⟩
theorem ZtC {e:Env} {mask:Nat} {Q:PX->St->Prop} {σ:St} {id:Nat} {l:List Oper} (h:∀ ds,l.map (·.dst)=ds->Runs e ds 0 l σ (Zdq mask Q)):pwp e mask (.region id l.toArray false) σ Q:=Zu9 rfl (h _ rfl)
theorem Zag {e:Env} {mask:Nat} {Q:PX->St->Prop} {σ:St} {id:Nat} {l:List Oper} (n:Nat) (hr:regX l.toArray n=true) (h:∀ ds,l.map (·.dst)=ds->Runs e ds n l σ (Zdq mask Q)):pwp e mask (.region id l.toArray true) σ Q:=Zva n hr rfl (h _ rfl)
theorem Zo7 {mask:Nat}:ZcD mask []=[]:=rfl
theorem Zo8 {mask k:Nat} {a:A} {r:List (Nat × A)}:ZcD mask ((k,a)::r)=if mask.testBit k=true then (k,a)::ZcD mask r else ZcD mask r:=rfl
theorem Zzb {m n:Nat}:m.testBit n=((1 &&& (m >>> n)) != 0):=rfl
def endR (mask:Nat):Res->Option (List (Nat × A) × List (Nat × Bk))
 | .done σ=>some (ZcD mask σ.s,σ.m)
 | _=>none
theorem ZtD {mask:Nat} {s:List (Nat × A)} {m:List (Nat × Bk)}:endR mask (.done ⟨s,m⟩)=some (ZcD mask s,m):=rfl
theorem reT {e:Env} {mask:Nat} {Q:PX->St->Prop} {ds:List (Option Nat)} {n:Nat} {os:List Oper} {σ:St} {s2:List (Nat × A)} {m2:List (Nat × Bk)} (h:endR mask (Zbn e.P ds n os σ)=some (s2,m2)) (hQ:Q .normal ⟨s2,m2⟩):Runs e ds n os σ (Zdq mask Q):=by
 cases hr:Zbn e.P ds n os σ with
 | bad=>rw [hr] at h;cases h
 | call q c args d n' os' σ'=>rw [hr] at h;cases h
 | map q d n' os' σ'=>rw [hr] at h;cases h
 | stop n' os' σ'=>rw [hr] at h;cases h
 | done σ' =>
  rw [hr] at h
  simp only [endR,Taq,Prod.mk.injEq] at h
  obtain ⟨h1,h2⟩:=h
  refine Zfe hr ?_
  unfold Zdq
  rw [h1,h2]
  exact hQ
def Zlr:Res->Option (FuncId × List D × Option Nat × Nat × List Oper × St)
 | .call q c args d n os σ=>(ZeC q c args σ).map (fun x=>(x.1,x.2.1,d,n,os,x.2.2))
 | _=>none
theorem Zls {q:Bool} {c:Operand} {args:List Operand} {d:Option Nat} {n:Nat} {os:List Oper} {σ:St}:Zlr (.call q c args d n os σ)=(ZeC q c args σ).map (fun x=>(x.1,x.2.1,d,n,os,x.2.2)):=rfl
theorem rcT {e:Env} {K:St->Prop} {ds:List (Option Nat)} {n n':Nat} {os os':List Oper} {σ:St} {f:FuncId} {xs:List D} {d:Option Nat} {r:List D} {s2 s3:List (Nat × A)} {m2:List (Nat × Bk)} (h:Zlr (Zbn e.P ds n os σ)=some (f,xs,d,n',os',⟨s2,m2⟩)) (hc:Con e f xs r) (h2:setA s2 d (retA r)=s3) (hK:Runs e ds n' os' ⟨s3,m2⟩ K):Runs e ds n os σ K:=by
 cases hr:Zbn e.P ds n os σ with
 | bad=>rw [hr] at h;cases h
 | done σ'=>rw [hr] at h;cases h
 | map q d n' os' σ'=>rw [hr] at h;cases h
 | stop n' os' σ'=>rw [hr] at h;cases h
 | call q c args d1 n1 os1 σ1 =>
  rw [hr] at h
  simp only [Zlr,Tau,Prod.mk.injEq] at h
  obtain ⟨⟨f',xs',σ2⟩,h1,rfl,rfl,rfl,rfl,rfl,h3⟩:=h
  simp only at h3
  subst h3
  exact ZzE hr h1 hc h2 hK
theorem wkI {e:Env} {mask:Nat} {Q:PX->St->Prop} {σ:St} {c:Code} (h:pwp e mask c σ Q):∃ σ1,Wk σ σ1∧pwp e mask c σ1 Q:=⟨σ,Wk.refl σ,h⟩
theorem ZAt {σ:St} {P:Program} {ts:List RS} {R:List D->Prop} (ks:List Nat) (r:List D) {σ1:St} (hr:R r) (hf:frzs ks σ=σ1) (h:ZbL P σ1 ts r):ZpD P ts R .ret σ:=⟨ks,r,hr,by rw [hf];exact h⟩
theorem Wk.trans {a b c:St} (h:Wk a b) (k:Wk b c):Wk a c:=by
 refine ⟨fun t=>?_,fun t x hx=>h.2 t x (k.2 t x hx)⟩
 rcases k.1 t with q | q
 ·rcases h.1 t with r | r
  ·exact .inl (q.trans r)
  ·exact .inr (q.trans r)
 ·exact .inr q
theorem ZtE {e:Env} {mask:Nat} {Q:PX->St->Prop} {a:Code} {s:List (Nat × A)} {m:List (Nat × Bk)} {ι:Type} (hQ:∀ σ σ1,Wk σ σ1->Q .normal σ1->Q .normal σ) (ds dm:List Nat) (us:ι->List (Nat × A)) (ms:ι->List (Nat × Bk)) (R:ι->Prop)
  {s0:List (Nat × A)} {m0:List (Nat × Bk)} (hs0:Zdr ds s=s0) (hm0:Zds dm m=m0) {ss:ι->List (Nat × A)} {mm:ι->List (Nat × Bk)} (hss:∀ x,us x++s0=ss x) (hmm:∀ x,ms x++m0=mm x)
  (h:pwp e mask a ⟨s,m⟩ (fun x σ'=>match x with
   | .normal=>∃ y,R y∧ZbU σ'.s (ss y)∧ZbV σ'.m (mm y)
   | x=>Q x σ')) (hb:∀ x,R x->Q .normal ⟨ss x,mm x⟩):pwp e mask a ⟨s,m⟩ Q:=by
 refine Zu2 (fun p σ' hq=>?_) a _ h
 cases p with
 | normal =>
  obtain ⟨y,h1,h2,h3⟩:=hq
  exact hQ _ _ ⟨fun t=>ZfS h2,fun t x=>ZfT h3⟩ (hb y h1)
 | exit id=>exact hq
 | ret=>exact hq
theorem ZgL {r:List C} (h:Zae (Zab .int) r):∃ x0:Int,r=[.lit (.int .i64 x0)]∧I64 x0:=by
 obtain ⟨c0,rfl⟩:=len1 h.len
 simp only [Zab,Zae,and_true] at h
 have h0:=h
 obtain ⟨x0,rfl,g0⟩:=Zdx h0
 exact ⟨x0,rfl,g0⟩
theorem ZeD {r:List C} (h:Zae (Zab .decl) r):∃ (r0:List (List C)) (i1:Int),r=[.sl r0,.lit (.int .i64 i1)]∧Zam (Zab .int) r0∧I64 i1:=by
 obtain ⟨c0,c1,rfl⟩:=len2 h.len
 simp only [Zab,Zbb,occF,Zb0,sigF,Zdw,algF,Taf,Tah,redF,Zae,and_true] at h
 obtain ⟨h0,h1⟩:=h
 obtain ⟨r0,rfl,g0⟩:=ZdD h0
 obtain ⟨i1,rfl,g1⟩:=Zdx h1
 exact ⟨r0,i1,rfl,g0,g1⟩
theorem ZfW {r:List C} (h:Zae (Zab .op) r):∃ (t0:ByteArray) (r1:List (List C)) (p2:Bool) (p3:Bool) (i4:Int),r=[.lit (.string t0),.sl r1,.lit (.bool p2),.lit (.bool p3),.lit (.int .i64 i4)]∧t0.size<=maxLen∧Zam (Zab .decl) r1∧True∧True∧I64 i4:=by
 obtain ⟨c0,c1,c2,c3,c4,rfl⟩:=len5 h.len
 simp only [Zab,Zbb,occF,Zb0,sigF,Zdw,algF,Taf,Tah,redF,Zae,and_true] at h
 obtain ⟨h0,h1,h2,h3,h4⟩:=h
 obtain ⟨t0,rfl,g0⟩:=Zjd h0
 obtain ⟨r1,rfl,g1⟩:=ZdD h1
 obtain ⟨p2,rfl⟩:=ZhT h2
 obtain ⟨p3,rfl⟩:=ZhT h3
 obtain ⟨i4,rfl,g4⟩:=Zdx h4
 exact ⟨t0,r1,p2,p3,i4,rfl,g0,g1,trivial,trivial,g4⟩
theorem ZdI {r:List C} (h:Zae (Zab .str) r):∃ x0:ByteArray,r=[.lit (.string x0)]∧x0.size<=maxLen:=by
 obtain ⟨c0,rfl⟩:=len1 h.len
 simp only [Zab,Zae,and_true] at h
 have h0:=h
 obtain ⟨x0,rfl,g0⟩:=Zjd h0
 exact ⟨x0,rfl,g0⟩
theorem ZgM {r:List C} (h:Zae (Zab .sub) r):∃ (i0:Int) (i1:Int),r=[.lit (.int .i64 i0),.lit (.int .i64 i1)]∧I64 i0∧I64 i1:=by
 obtain ⟨c0,c1,rfl⟩:=len2 h.len
 simp only [Zab,Zbb,occF,Zb0,sigF,Zdw,algF,Taf,Tah,redF,Zae,and_true] at h
 obtain ⟨h0,h1⟩:=h
 obtain ⟨i0,rfl,g0⟩:=Zdx h0
 obtain ⟨i1,rfl,g1⟩:=Zdx h1
 exact ⟨i0,i1,rfl,g0,g1⟩
theorem Zfm {r:List C} (h:Zae (Zb0) r):∃ (r0:List (List C)) (r1:List (List C)),r=[.sl r0,.sl r1]∧Zam (Zab .str) r0∧Zam (Zab .sub) r1:=by
 obtain ⟨c0,c1,rfl⟩:=len2 h.len
 simp only [Zab,Zbb,occF,Zb0,sigF,Zdw,algF,Taf,Tah,redF,Zae,and_true] at h
 obtain ⟨h0,h1⟩:=h
 obtain ⟨r0,rfl,g0⟩:=ZdD h0
 obtain ⟨r1,rfl,g1⟩:=ZdD h1
 exact ⟨r0,r1,rfl,g0,g1⟩
theorem Zfn {r0:List (List C)} {r1:List (List C)} (g0:Zam (Zab .str) r0) (g1:Zam (Zab .sub) r1):Zae (Zb0) [.sl r0,.sl r1]:=by
 simp only [Zab,Zbb,occF,Zb0,sigF,Zdw,algF,Taf,Tah,redF,Zae,and_true]
 exact ⟨Zib g0,Zib g1⟩
theorem ZcQ {r:List C} (h:Zae (sigF) r):∃ (r0:List (List C)) (r1:List (List C)) (r2:List (List C)),r=[.sl r0,.sl r1,.sl r2]∧Zam (Zab .str) r0∧Zam (Zab .sub) r1∧Zam (Zab .op) r2:=by
 obtain ⟨c0,c1,c2,rfl⟩:=len3 h.len
 simp only [Zab,Zbb,occF,Zb0,sigF,Zdw,algF,Taf,Tah,redF,Zae,and_true] at h
 obtain ⟨h0,h1,h2⟩:=h
 obtain ⟨r0,rfl,g0⟩:=ZdD h0
 obtain ⟨r1,rfl,g1⟩:=ZdD h1
 obtain ⟨r2,rfl,g2⟩:=ZdD h2
 exact ⟨r0,r1,r2,rfl,g0,g1,g2⟩
theorem decL {α:Type} {fs:List F} {e:α->List C} {p:α->Prop} (hd:∀ row,Zae fs row->∃ a,row=e a∧p a):∀ {rows:List (List C)},Zam fs rows->∃ l:List α,rows=l.map e∧∀ x∈l,p x
 | [],_=>⟨[],rfl,by simp⟩
 | r::rs,h=>by
  simp only [Zam] at h
  obtain ⟨a,rfl,ha⟩:=hd r h.1
  obtain ⟨l,rfl,hl⟩:=decL hd h.2
  exact ⟨a::l,rfl,fun x hx=>by
   rcases Tbd.1 hx with rfl | hx
   ·exact ha
   ·exact hl x hx⟩
theorem okL {α:Type} {fs:List F} {e:α->List C} {p:α->Prop} (hk:∀ a,p a->Zae fs (e a)):∀ {l:List α},(∀ x∈l,p x)->Zam fs (l.map e)
 | [],_=>by simp [Zam]
 | a::l,h=>by
  simp only [Tbq,Zam]
  exact ⟨hk a (h a (by simp)),okL hk (fun x hx=>h x (by simp [hx]))⟩
def ZaK (n:Int):List C:=[.lit (.int .i64 n)]
def ZcZ (s:ByteArray):List C:=[.lit (.string s)]
def Zdi (p:Int × Int):List C:=[.lit (.int .i64 p.1),.lit (.int .i64 p.2)]
def Zzc (p:Int × Int):Prop:=I64 p.1∧I64 p.2
def ZpJ (s:ByteArray):Prop:=s.size<=maxLen
theorem ZtF:∀ row,Zae (Zab .int) row->∃ a,row=ZaK a∧I64 a:=fun row h=>ZgL h
theorem Zz2:∀ row,Zae (Zab .str) row->∃ a,row=ZcZ a∧ZpJ a:=fun row h=>ZdI h
theorem Zz3:∀ row,Zae (Zab .sub) row->∃ a,row=Zdi a∧Zzc a:=fun row h=>by
 obtain ⟨i0,i1,rfl,h0,h1⟩:=ZgM h
 exact ⟨(i0,i1),rfl,h0,h1⟩
structure Srt where
 names:List ByteArray
 subs:List (Int × Int)
def Za1 (s:Srt):List C:=[.sl (s.names.map ZcZ),.sl (s.subs.map Zdi)]
def Ziy (s:Srt):Prop:=(∀ x∈s.names,ZpJ x)∧∀ x∈s.subs,Zzc x
structure Dcl where
 args:List Int
 res:Int
def ZfA (d:Dcl):List C:=[.sl (d.args.map ZaK),.lit (.int .i64 d.res)]
def Zzd (d:Dcl):Prop:=(∀ x∈d.args,I64 x)∧I64 d.res
theorem Zz4:∀ row,Zae (Zab .decl) row->∃ a,row=ZfA a∧Zzd a:=fun row h=>by
 obtain ⟨r0,i1,rfl,g0,g1⟩:=ZeD h
 obtain ⟨l0,rfl,k0⟩:=decL ZtF g0
 exact ⟨⟨l0,i1⟩,rfl,k0,g1⟩
structure Opr where
 name:ByteArray
 decls:List Dcl
 assoc:Bool
 comm:Bool
 unit:Int
def Zbo (o:Opr):List C:=[.lit (.string o.name),.sl (o.decls.map ZfA),.lit (.bool o.assoc),.lit (.bool o.comm),.lit (.int .i64 o.unit)]
def Zze (o:Opr):Prop:=ZpJ o.name∧(∀ x∈o.decls,Zzd x)∧I64 o.unit
theorem Zz5:∀ row,Zae (Zab .op) row->∃ a,row=Zbo a∧Zze a:=fun row h=>by
 obtain ⟨t0,r1,p2,p3,i4,rfl,g0,g1,_,_,g4⟩:=ZfW h
 obtain ⟨l1,rfl,k1⟩:=decL Zz4 g1
 exact ⟨⟨t0,l1,p2,p3,i4⟩,rfl,g0,k1,g4⟩
structure Sgn where
 sorts:Srt
 ops:List Opr
def ZaA (s:Sgn):List C:=[.sl (s.sorts.names.map ZcZ),.sl (s.sorts.subs.map Zdi),.sl (s.ops.map Zbo)]
def ZcI (s:Sgn):Prop:=Ziy s.sorts∧∀ x∈s.ops,Zze x
theorem Zz6 {row:List C} (h:Zae sigF row):∃ s,row=ZaA s∧ZcI s:=by
 obtain ⟨r0,r1,r2,rfl,g0,g1,g2⟩:=ZcQ h
 obtain ⟨l0,rfl,k0⟩:=decL Zz2 g0
 obtain ⟨l1,rfl,k1⟩:=decL Zz3 g1
 obtain ⟨l2,rfl,k2⟩:=decL Zz5 g2
 exact ⟨⟨⟨l0,l1⟩,l2⟩,rfl,⟨k0,k1⟩,k2⟩
theorem Rep.at {α:Type} {w:World} {S:Nat->Prop} {fs:List F} {e:α->List C} {p:α->Prop} (hk:∀ a,p a->Zae fs (e a)) {l:List α} (hl:∀ x∈l,p x) {A:Option Addr} {m cap k:Nat} {a:α}
  (h:Rep w S (.sl (l.map e)) (.slice A m cap)) (ha:l[k]?=some a):∃ b off,A=some ⟨b,off,none⟩∧S b∧b < w.heap.size∧Zac w S b (off+k * fs.length) (e a):=by
 have hkl:k < l.length:=(Tad.1 ha).1
 obtain ⟨A',m',cap',hf,hm,_,_⟩:=h.form
 injection hf with h1 h2 h3
 subst h1 h2 h3
 obtain ⟨b,off,r,rfl,hS,hbz,hget,hokr,hrow⟩:=h.get (okL hk hl) (i:=k) (by rw [<- hm];simpa using hkl)
 refine ⟨b,off,rfl,hS,hbz,?_⟩
 rw [Tay,ha] at hget
 simp only [Option.map_some,Taq] at hget
 rw [hget]
 exact hrow
def Zo9 (l:List Int):List C:=[.sl (l.map ZaK)]
def ZkN:List Nat:=[0,1,56,2,57,49,28,3,61,58,42,50,38,29,17,4,62,47,59,36,45,43,51,22,53,39,33,30,24,18,12,5,63,55,48,27,60,41,37,16,46,35,44,21,52,32,23,11,54,26,40,15,34,20,31,10,25,14,19,9,13,8,7,6]
def tabA:Array Value:=(ZkN.map fun (n:Nat)=>Value.int .u8 (n:Int)).toArray
def Zcq (w:World):Prop:=w.heap[(2:Nat)]?=some (.cells tabA 349 (0,0))
theorem Zcq.cell {w:World} (h:Zcq w):∀ j,j < 64->w.cell? ⟨2,j,none⟩=some (.int .u8 ((ZkN.getD j 0:Nat):Int)):=fun j hj=>by
 unfold Zcq at h
 unfold World.cell?
 have hl:j < ZkN.length:=hj
 simp only [h]
 unfold tabA
 rw [if_neg (by simp),List.getElem?_toArray,Tay,List.getD_eq_getElem?_getD,Taa hl]
 rfl
noncomputable def e0:Env:=⟨Tryz.prog,fun b=>b=2,Zcq,False⟩
noncomputable def e1:Env:=⟨Tryz.prog,fun b=>b=2,Zcq,True⟩
theorem Zlt {w w':World} (h:w'.heap[(2:Nat)]?=w.heap[(2:Nat)]?) (k:Zcq w):Zcq w':=h.trans k
theorem e1P:e1.P=Tryz.prog:=rfl
theorem ZpK:e1.Ok:=⟨fun _ _ _ h k=>Zlt (h _ rfl) k,by kernel_rfl⟩
theorem ZAu {f:FuncId} {args r:List D} (h:Con e1 f args r):Con e0 f args r :=
 ⟨h.1,fun w S vs hS hE hG hvs=>(h.2 w S vs hS hE hG hvs).mono fun en w' ⟨v,h1,h2,h3,h4⟩=>⟨v,h1,⟨h2.os,h2.tape,h2.output,fun d=>d.elim,h2.size,h2.block⟩,h3,h4⟩⟩
theorem e0P:e0.P=Tryz.prog:=rfl
theorem Ziz:e0.Ok:=⟨fun _ _ _ h k=>Zlt (h _ rfl) k,by kernel_rfl⟩
theorem ZtG {e:Env} (he:e.Ok) {f:FuncId} {args r:List D} (hb:Zbw e.P f=true)
  (h:∀ (w:World) (S:Nat->Prop) (vs:List Value),Zay w S args vs->Calls e.P f vs.toArray w fun en w'=>∃ v,en=.returned v∧Below w.heap.size w w'∧ARel w' (fun b=>S b∨(w.heap.size<=b∧b < w'.heap.size)) ⟨fun _=>0,fun _=>Go.undef⟩ (retA r) v) (hD:¬ e.D:=by exact id):Con e f args r:=by
 refine ⟨hb,fun w S vs hS hE hG hvs=>(h w S vs hvs).mono fun en w' ⟨v,h1,h2,h3⟩=>⟨v,h1,Kept.of_below h2 (fun d=>(hD d).elim),he.keep _ _ h2.size (fun b hb=>h2.block b (hE b hb)) hG,?_⟩⟩
 exact h3
theorem ZcA {α:Type} {e:α->List C} {n:Nat} (h:∀ a,((e a).length==n && (e a).all Zav)=true) (l:List α):ZaE n (l.map e)=true:=by
 unfold ZaE
 rw [List.all_map]
 exact List.all_eq_true.2 fun a _=>h a
theorem ZjR {n:Nat}:ZaE n []=true:=rfl
theorem ZfX {n:Nat} {r:List C} {rs:List (List C)}:ZaE n (r::rs)=(r.length==n && r.all Zav && ZaE n rs):=rfl
theorem ZfB (l:List Int):ZaE 1 (l.map ZaK)=true:=ZcA (e:=ZaK) (n:=1) (fun _=>rfl) l
theorem ZgN (l:List ByteArray):ZaE 1 (l.map ZcZ)=true:=ZcA (e:=ZcZ) (n:=1) (fun _=>rfl) l
theorem Zlu (l:List (Int × Int)):ZaE 2 (l.map Zdi)=true:=ZcA (e:=Zdi) (n:=2) (fun _=>rfl) l
theorem ZtH (l:List Dcl):ZaE 2 (l.map ZfA)=true:=ZcA (e:=ZfA) (n:=2) (fun _=>rfl) l
theorem ZtI (l:List Opr):ZaE 5 (l.map Zbo)=true:=ZcA (e:=Zbo) (n:=5) (fun _=>rfl) l
theorem Zpa (l:List (List Int)):ZaE 1 (l.map Zo9)=true:=ZcA (e:=Zo9) (n:=1) (fun _=>rfl) l
theorem Zc7 {a b:Int} (h:a=b) (h1:-9223372036854775808<=b) (h2:b<=9223372036854775807):IntKind.i64.wrap a=b:=by rw [h];exact IntWalk.i64_in _ ⟨h1,h2⟩
theorem Zap {k:Nat} (h:k < 9223372036854775807):IntKind.i64.wrap ((k:Int)+1)=((k+1:Nat):Int):=Zc7 om om om
theorem bqtt:(true==true)=true:=rfl
theorem bqtf:(true==false)=false:=rfl
theorem bqft:(false==true)=false:=rfl
theorem bqff:(false==false)=true:=rfl
theorem Zan (n:Nat):(n:Int).toNat=n:=Tbt n
theorem gs_n {t:Nat}:gs [] t=.undef:=rfl
theorem gs_c {k t:Nat} {a:A} {r:List (Nat × A)}:gs ((k,a)::r) t=if t=k then a else gs r t:=rfl
theorem gm_n {t:Nat}:gm [] t=none:=rfl
theorem gm_c {k t:Nat} {a:Bk} {r:List (Nat × Bk)}:gm ((k,a)::r) t=if t=k then some a else gm r t:=rfl
theorem Zpb {k:Nat}:Zcl k []=[]:=rfl
theorem Zpc {k:Nat} {d:D} {r:List D}:Zcl k (d::r)=(k,.d d)::Zcl (k+1) r:=rfl
theorem pz:type_of% (ai @tt_0 (ai @tt_1 (ai @tt_2 (ai @tt_3 (ai @tt_4 (ai @tt_5 (ai @tt_6 (ai @tt_7 (ai @tt_8 (ai @tt_9 (ai @pm_0 (ai @pm_1 (ai @pm_2 (ai @pm_3 (ai @pm_4 (ai @pm_5 (ai @pm_6 (ai @pm_7 (ai @pm_8 (ai @pm_9 (ai @Zy9 (ai @Zza (ai @e0P (ai @e1P (ai @gs_n (ai @gs_c (ai @gm_n (ai @gm_c (ai @Zpb (ai @Zpc (ai @ZfB (ai @ZgN (ai @Zlu (ai @ZtH (ai @ZtI (ai @Zpa (ai @ZjR (ai @ZfX (ai @bqtt (ai @bqtf (ai @bqft (ai @bqff (ai @Bool.and_self (ai @Bool.or_true (ai @Bool.true_or (ai @Bool.or_false (ai @Bool.false_or (ai @Nat.zero_add (ai @Nat.add_zero (ai @and_self (ai @true_and (ai @and_true (ai @Bool.not_true (ai @Bool.not_false (ai @Zan (ai @Zo7 (ai @Zo8 (ai @Zzb (ai @ZtD (ai @Zls (ai @Int.natCast_nonneg (ai @Int.toNat_zero (ai @Int.toNat_one (ai @Tai (ai @List.map_nil.{0,0} (ai @Tat.{0} (ai @List.getElem?_cons_succ.{0} (ai @List.drop_succ_cons.{0} (ai @List.drop_zero.{0} (ai @List.drop_nil.{0} (ai @Taz.{0} (ai @List.take_zero.{0} (ai @Tag.{0} (ai @Tak.{0} (ai @Tae.{0} (ai @List.all_cons.{0} (ai @List.all_nil.{0} (ai @List.isEmpty_cons.{0} (ai @List.isEmpty_nil.{0} (ai @Taf.{0} (ai @Tah.{0} (ai @List.append_nil.{0} (ai @Option.map_some.{0,0} (ai @Option.map_none.{0,0} (ai @Option.join_some.{0} (ai @Option.getD_some.{0} (ai @Option.isNone_none.{0} (ai @Option.isNone_some.{0} (ai @Option.isSome_none.{0} (ai @Option.isSome_some.{0} (ai @Tbq.{0,0} (ai @Taw.{0,0} (@Tay.{0,0}))))))))))))))))))))))))))))))))))))))))))))))))))))))))))))))))))))))))))))))))))))))))))))):=ai @tt_0 (ai @tt_1 (ai @tt_2 (ai @tt_3 (ai @tt_4 (ai @tt_5 (ai @tt_6 (ai @tt_7 (ai @tt_8 (ai @tt_9 (ai @pm_0 (ai @pm_1 (ai @pm_2 (ai @pm_3 (ai @pm_4 (ai @pm_5 (ai @pm_6 (ai @pm_7 (ai @pm_8 (ai @pm_9 (ai @Zy9 (ai @Zza (ai @e0P (ai @e1P (ai @gs_n (ai @gs_c (ai @gm_n (ai @gm_c (ai @Zpb (ai @Zpc (ai @ZfB (ai @ZgN (ai @Zlu (ai @ZtH (ai @ZtI (ai @Zpa (ai @ZjR (ai @ZfX (ai @bqtt (ai @bqtf (ai @bqft (ai @bqff (ai @Bool.and_self (ai @Bool.or_true (ai @Bool.true_or (ai @Bool.or_false (ai @Bool.false_or (ai @Nat.zero_add (ai @Nat.add_zero (ai @and_self (ai @true_and (ai @and_true (ai @Bool.not_true (ai @Bool.not_false (ai @Zan (ai @Zo7 (ai @Zo8 (ai @Zzb (ai @ZtD (ai @Zls (ai @Int.natCast_nonneg (ai @Int.toNat_zero (ai @Int.toNat_one (ai @Tai (ai @List.map_nil.{0,0} (ai @Tat.{0} (ai @List.getElem?_cons_succ.{0} (ai @List.drop_succ_cons.{0} (ai @List.drop_zero.{0} (ai @List.drop_nil.{0} (ai @Taz.{0} (ai @List.take_zero.{0} (ai @Tag.{0} (ai @Tak.{0} (ai @Tae.{0} (ai @List.all_cons.{0} (ai @List.all_nil.{0} (ai @List.isEmpty_cons.{0} (ai @List.isEmpty_nil.{0} (ai @Taf.{0} (ai @Tah.{0} (ai @List.append_nil.{0} (ai @Option.map_some.{0,0} (ai @Option.map_none.{0,0} (ai @Option.join_some.{0} (ai @Option.getD_some.{0} (ai @Option.isNone_none.{0} (ai @Option.isNone_some.{0} (ai @Option.isSome_none.{0} (ai @Option.isSome_some.{0} (ai @Tbq.{0,0} (ai @Taw.{0,0} (@Tay.{0,0}))))))))))))))))))))))))))))))))))))))))))))))))))))))))))))))))))))))))))))))))))))))))))))
theorem sfx {p:Prop} (h:p:=by first | (simp only [pz,↓reduceIte,Nat.reduceEqDiff,Nat.reduceAdd,Nat.reduceSub,Nat.reduceMul,Nat.reduceLeDiff,Nat.reduceBEq,Tam,decide_true,decide_false,Int.reduceLE,Int.reduceToNat,Int.reduceLT,Int.reduceEq,eq_self,Nat.reduceShiftRight,Nat.reduceAnd,Nat.reduceBneDiff,F];done) | (simp only [pz,↓reduceIte,Nat.reduceEqDiff,Nat.reduceAdd,Nat.reduceSub,Nat.reduceMul,Nat.reduceLeDiff,Nat.reduceBEq,Tam,decide_true,decide_false,Int.reduceLE,Int.reduceToNat,Int.reduceLT,Int.reduceEq,eq_self,Nat.reduceShiftRight,Nat.reduceAnd,Nat.reduceBneDiff,F];exact rfl)):p:=h
theorem snx {p:Prop} (h:p:=by first | (simp only [pz,↓reduceIte,Nat.reduceEqDiff,Nat.reduceAdd,Nat.reduceSub,Nat.reduceMul,Nat.reduceLeDiff,Nat.reduceBEq,Tam,decide_true,decide_false,Int.reduceLE,Int.reduceToNat,Int.reduceLT,Int.reduceEq,eq_self,Nat.reduceShiftRight,Nat.reduceAnd,Nat.reduceBneDiff];done) | (simp only [pz,↓reduceIte,Nat.reduceEqDiff,Nat.reduceAdd,Nat.reduceSub,Nat.reduceMul,Nat.reduceLeDiff,Nat.reduceBEq,Tam,decide_true,decide_false,Int.reduceLE,Int.reduceToNat,Int.reduceLT,Int.reduceEq,eq_self,Nat.reduceShiftRight,Nat.reduceAnd,Nat.reduceBneDiff];exact rfl)):p:=h
theorem sfy {p:Prop} (h:p:=by first | (simp only [pz,↓reduceIte,Nat.reduceEqDiff,Nat.reduceAdd,Nat.reduceSub,Nat.reduceMul,Nat.reduceLeDiff,Nat.reduceBEq,Tam,decide_true,decide_false,Int.reduceLE,Int.reduceToNat,Int.reduceLT,Int.reduceEq,eq_self,Nat.reduceShiftRight,Nat.reduceAnd,Nat.reduceBneDiff,F];exact rfl) | simp only [pz,↓reduceIte,Nat.reduceEqDiff,Nat.reduceAdd,Nat.reduceSub,Nat.reduceMul,Nat.reduceLeDiff,Nat.reduceBEq,Tam,decide_true,decide_false,Int.reduceLE,Int.reduceToNat,Int.reduceLT,Int.reduceEq,eq_self,Nat.reduceShiftRight,Nat.reduceAnd,Nat.reduceBneDiff,F]):p:=h
theorem sny {p:Prop} (h:p:=by first | (simp only [pz,↓reduceIte,Nat.reduceEqDiff,Nat.reduceAdd,Nat.reduceSub,Nat.reduceMul,Nat.reduceLeDiff,Nat.reduceBEq,Tam,decide_true,decide_false,Int.reduceLE,Int.reduceToNat,Int.reduceLT,Int.reduceEq,eq_self,Nat.reduceShiftRight,Nat.reduceAnd,Nat.reduceBneDiff];exact rfl) | simp only [pz,↓reduceIte,Nat.reduceEqDiff,Nat.reduceAdd,Nat.reduceSub,Nat.reduceMul,Nat.reduceLeDiff,Nat.reduceBEq,Tam,decide_true,decide_false,Int.reduceLE,Int.reduceToNat,Int.reduceLT,Int.reduceEq,eq_self,Nat.reduceShiftRight,Nat.reduceAnd,Nat.reduceBneDiff]):p:=h
theorem sfv {p:Prop} (h:p:=by simp only [pz,↓reduceIte,Nat.reduceEqDiff,Nat.reduceAdd,Nat.reduceSub,Nat.reduceMul,Nat.reduceLeDiff,Nat.reduceBEq,Tam,decide_true,decide_false,Int.reduceLE,Int.reduceToNat,Int.reduceLT,Int.reduceEq,eq_self,Nat.reduceShiftRight,Nat.reduceAnd,Nat.reduceBneDiff,F];exact rfl):p:=h
theorem snv {p:Prop} (h:p:=by simp only [pz,↓reduceIte,Nat.reduceEqDiff,Nat.reduceAdd,Nat.reduceSub,Nat.reduceMul,Nat.reduceLeDiff,Nat.reduceBEq,Tam,decide_true,decide_false,Int.reduceLE,Int.reduceToNat,Int.reduceLT,Int.reduceEq,eq_self,Nat.reduceShiftRight,Nat.reduceAnd,Nat.reduceBneDiff];exact rfl):p:=h
theorem Za0:∀ n,ZaK n=[.lit (.int .i64 n)]:=fun _=>rfl
theorem ZaM:∀ d,ZfA d=[.sl (d.args.map ZaK),.lit (.int .i64 d.res)]:=fun _=>rfl
theorem Zak:∀ o,Zbo o=[.lit (.string o.name),.sl (o.decls.map ZfA),.lit (.bool o.assoc),.lit (.bool o.comm),.lit (.int .i64 o.unit)]:=fun _=>rfl
theorem Za7:∀ s,ZaA s=[.sl (s.sorts.names.map ZcZ),.sl (s.sorts.subs.map Zdi),.sl (s.ops.map Zbo)]:=fun _=>rfl
theorem Zz7:∀ x,retA [x]=.d x:=fun _=>rfl
theorem gB {X Y:Prop} (b:Y) (h:Y->X:=by
 intro b
 first
  | with_reducible refine ZtC ?_
  | (first
   | refine Zag 1 (by decide +kernel) ?_
   | refine Zag 2 (by decide +kernel) ?_
   | refine Zag 3 (by decide +kernel) ?_
   | refine Zag 4 (by decide +kernel) ?_
   | refine Zag 5 (by decide +kernel) ?_
   | refine Zag 6 (by decide +kernel) ?_
   | refine Zag 7 (by decide +kernel) ?_
   | refine Zag 8 (by decide +kernel) ?_
   | refine Zag 9 (by decide +kernel) ?_
   | refine Zag 10 (by decide +kernel) ?_
   | refine Zag 11 (by decide +kernel) ?_
   | refine Zag 12 (by decide +kernel) ?_
   | refine Zag 13 (by decide +kernel) ?_
   | refine Zag 14 (by decide +kernel) ?_
   | refine Zag 15 (by decide +kernel) ?_
   | refine Zag 16 (by decide +kernel) ?_
   | refine Zag 17 (by decide +kernel) ?_
   | refine Zag 18 (by decide +kernel) ?_
   | refine Zag 19 (by decide +kernel) ?_
   | refine Zag 20 (by decide +kernel) ?_
   | refine Zag 21 (by decide +kernel) ?_
   | refine Zag 22 (by decide +kernel) ?_
   | refine Zag 23 (by decide +kernel) ?_
   | refine Zag 24 (by decide +kernel) ?_
   | refine Zag 25 (by decide +kernel) ?_
   | refine Zag 26 (by decide +kernel) ?_
   | refine Zag 27 (by decide +kernel) ?_
   | refine Zag 28 (by decide +kernel) ?_
   | refine Zag 29 (by decide +kernel) ?_
   | refine Zag 30 (by decide +kernel) ?_
   | refine Zag 31 (by decide +kernel) ?_
   | refine Zag 32 (by decide +kernel) ?_
   | refine Zag 33 (by decide +kernel) ?_
   | refine Zag 34 (by decide +kernel) ?_
   | refine Zag 35 (by decide +kernel) ?_
   | refine Zag 36 (by decide +kernel) ?_
   | refine Zag 37 (by decide +kernel) ?_
   | refine Zag 38 (by decide +kernel) ?_
   | refine Zag 39 (by decide +kernel) ?_
   | refine Zag 40 (by decide +kernel) ?_
   | refine Zag 41 (by decide +kernel) ?_
   | refine Zag 42 (by decide +kernel) ?_
   | refine Zag 43 (by decide +kernel) ?_
   | refine Zag 44 (by decide +kernel) ?_
   | refine Zag 45 (by decide +kernel) ?_
   | refine Zag 46 (by decide +kernel) ?_
   | refine Zag 47 (by decide +kernel) ?_
   | refine Zag 48 (by decide +kernel) ?_
   | refine Zag 49 (by decide +kernel) ?_
   | refine Zag 50 (by decide +kernel) ?_
   | refine Zag 51 (by decide +kernel) ?_
   | refine Zag 52 (by decide +kernel) ?_
   | refine Zag 53 (by decide +kernel) ?_
   | refine Zag 54 (by decide +kernel) ?_
   | refine Zag 55 (by decide +kernel) ?_
   | refine Zag 56 (by decide +kernel) ?_
   | refine Zag 57 (by decide +kernel) ?_
   | refine Zag 58 (by decide +kernel) ?_
   | refine Zag 59 (by decide +kernel) ?_
   | refine Zag 60 (by decide +kernel) ?_
   | refine Zag 61 (by decide +kernel) ?_
   | refine Zag 62 (by decide +kernel) ?_
   | refine Zag 63 (by decide +kernel) ?_
   | refine Zag 64 (by decide +kernel) ?_)
 intro ds hds
 simp only [List.map] at hds
 subst hds
 exact b):X:=h b
theorem gC {X Y Z:Prop} (c:Z) (b:Y) (h:Z->Y->X:=by
 intro c b
 refine rcT (by exact sfv) c (by simp only [setA,retA];exact rfl) ?_
 exact b):X:=h c b
theorem gCE {X Y Z:Prop} (c:Z) (b:Y) (h:Z->Y->X:=by
 intro c b
 refine Zu6 (by exact sfv) (by exact sfv) c ?_
 exact b):X:=h c b
theorem gR {X Y:Prop} (b:Y) (h:Y->X:=by
 intro b
 refine reT (by exact sfv) ?_
 first | (change pwp _ _ _ _ _) | refine wkI ?_ | skip
 exact b):X:=h b
theorem gG {X Y:Prop} (b:Y) (h:Y->X:=by
 intro b
 repeat (first
  | with_reducible refine Zh0 ?_
  | with_reducible refine ZjN ?_
  | ((first | with_reducible refine Zla ?_ | with_reducible refine Zlb ?_);try refine wkI ?_)
  | (with_reducible refine ZqU ?_ ?_;· simp only [pz,↓reduceIte,Nat.reduceEqDiff,F])
  | (with_reducible refine ZqV ?_ ?_;· simp only [pz,↓reduceIte,Nat.reduceEqDiff,F])
  | (refine gB ?_;refine reT (by exact sfv) ?_;try refine wkI ?_))
 exact b):X:=h b
def Zaj (_:Nat):Prop:=True
theorem Zz8 {n:Nat} (_:Zaj n) {e:Env} {mask id:Nat} {ops:Array Oper} {fl:Bool} {σ:St} {Q:PX->St->Prop} (h:pwp e mask (.region id ops fl) σ Q) (_:(id==n)=false:=by decide):pwp e mask (.region id ops fl) σ Q:=h
theorem gGn {X Y:Prop} (b:Y) (h:Y->X:=by
 intro b
 repeat (first
  | with_reducible refine Zh0 ?_
  | with_reducible refine ZjN ?_
  | ((first | with_reducible refine Zla ?_ | with_reducible refine Zlb ?_);try refine wkI ?_)
  | (with_reducible refine ZqU ?_ ?_;· simp only [pz,↓reduceIte,Nat.reduceEqDiff,F])
  | (with_reducible refine ZqV ?_ ?_;· simp only [pz,↓reduceIte,Nat.reduceEqDiff,F])
  | (refine Zz8 NN ?_;refine gB ?_;refine reT (by exact sfv) ?_;try refine wkI ?_))
 exact b):X:=h b
theorem gT {X:Prop} (h:X:=by
 refine ZdZ (Zis ?_)
 simp [ZbL,resA,ZaU,gs,F]):X:=h
theorem gTz {X:Prop} {P:Program} {ts:List RS} {r:List D} {σ σ1:St} (ks:List Nat) (hx:retQ P ts r .ret σ->X:=by exact fun h=>ZdZ h) (hf:frzs ks σ=σ1:=by exact sfv) (h:ZbL P σ1 ts r:=by simp [ZbL,resA,ZaU,gs,F]):X:=hx (Zz0 ks hf h)
theorem gTd {X:Prop} {P:Program} {ts:List RS} {r:List D} {σ:St} (hx:retQ P ts r .ret σ->X:=by exact fun h=>ZdZ h) (hr:resD P σ ts=some r:=by exact sfx):X:=hx (Zis (ZfV hr))
theorem gw {X:Prop} (h:X:=by simp [ZbU,ZbV,gs,gm,F]):X:=h
theorem gL {e:Env} {mask:Nat} {Q:PX->St->Prop} {c:Code} {s:List (Nat × A)} {m:List (Nat × Bk)} {ι:Type} (ds dm:List Nat) (us:ι->List (Nat × A)) (ms:ι->List (Nat × Bk)) (ok:ι->Prop) (μ:ι->Nat) (x0:ι) (h0:ok x0)
  {s0:List (Nat × A)} {m0:List (Nat × Bk)} {ss:ι->List (Nat × A)} {mm:ι->List (Nat × Bk)}
  (hr:∀ x,ok x->pwp e mask c ⟨ss x,mm x⟩ (fun p σ''=>match p with
   | .normal=>∃ y,ok y∧ZbU σ''.s (ss y)∧ZbV σ''.m (mm y)∧μ y < μ x
   | p=>Q p σ''))
  (hs0:Zdr ds s=s0:=by simp only [Zdr,Zds,List.elem_cons,List.elem_nil,Nat.reduceBEq,Bool.or_false,Bool.false_or,Bool.or_true,Bool.true_or,Bool.or_self,↓reduceIte,Tam];exact rfl) (hm0:Zds dm m=m0:=by simp only [Zdr,Zds,List.elem_cons,List.elem_nil,Nat.reduceBEq,Bool.or_false,Bool.false_or,Bool.or_true,Bool.true_or,Bool.or_self,↓reduceIte,Tam];exact rfl) (hss:∀ x,us x++s0=ss x:=by intro x;simp only [Taf,Tah];exact rfl) (hmm:∀ x,ms x++m0=mm x:=by intro x;simp only [Taf,Tah];exact rfl)
  (hs:ZbU s (us x0):=by simp [ZbU,gs,F]) (hm:ZbV m (ms x0):=by simp [ZbV,gm,F]):pwp e mask (.loop c) ⟨s,m⟩ Q:=ZtB ds dm us ms ok μ x0 hs0 hm0 hss hmm hs hm h0 hr
theorem gM {e:Env} {mask:Nat} {Q:PX->St->Prop} {a:Code} {s:List (Nat × A)} {m:List (Nat × Bk)} {ι:Type} (ds dm:List Nat) (us:ι->List (Nat × A)) (ms:ι->List (Nat × Bk)) (R:ι->Prop)
  {s0:List (Nat × A)} {m0:List (Nat × Bk)} {ss:ι->List (Nat × A)} {mm:ι->List (Nat × Bk)}
  (h:pwp e mask a ⟨s,m⟩ (fun x σ'=>match x with
   | .normal=>∃ y,R y∧ZbU σ'.s (ss y)∧ZbV σ'.m (mm y)
   | x=>Q x σ')) (hb:∀ x,R x->Q .normal ⟨ss x,mm x⟩) 
  (hs0:Zdr ds s=s0:=by simp only [Zdr,Zds,List.elem_cons,List.elem_nil,Nat.reduceBEq,Bool.or_false,Bool.false_or,Bool.or_true,Bool.true_or,Bool.or_self,↓reduceIte,Tam];exact rfl) (hm0:Zds dm m=m0:=by simp only [Zdr,Zds,List.elem_cons,List.elem_nil,Nat.reduceBEq,Bool.or_false,Bool.false_or,Bool.or_true,Bool.true_or,Bool.or_self,↓reduceIte,Tam];exact rfl) (hss:∀ x,us x++s0=ss x:=by intro x;simp only [Taf,Tah];exact rfl) (hmm:∀ x,ms x++m0=mm x:=by intro x;simp only [Taf,Tah];exact rfl)
  (hQ:∀ σ σ1,Wk σ σ1->Q .normal σ1->Q .normal σ:=by exact fun _ _ h p=>Exists.elim p fun σ2 q=>⟨σ2,h.trans q.1,q.2⟩):pwp e mask a ⟨s,m⟩ Q:=ZtE hQ ds dm us ms R hs0 hm0 hss hmm h hb
theorem gI {e:Env} {f:FuncId} {fn:Func} {c:Code} {args r:List D} {ts:List RS} (mask:Nat) (hf:e.P.funcs[f]?=some fn) (h:pwp e mask c ⟨Zcl 0 args,[]⟩ (retQ e.P ts r)) (hb:fn.body=some c:=by exact rfl) (hnm:(fn.name == "runtime.NumGoroutine")=false:=by kernel_rfl)
  (hok:ZbA fn.ntmps c=true:=by kernel_rfl) (hal:Nat.ble args.length fn.ntmps=true:=by exact rfl) (hres:ZaU fn.results.toList=ts:=by exact rfl) (he:e.Ok:=by first | exact Ziz | exact ZpK | assumption):Con e f args r:=ZpC he mask hf hb hnm hok hal hres h
theorem gIE {e:Env} {f:FuncId} {fn:Func} {c:Code} {args:List D} {R:List D->Prop} {ts:List RS} (mask:Nat) (hf:e.P.funcs[f]?=some fn) (h:pwp e mask c ⟨Zcl 0 args,[]⟩ (ZpD e.P ts R)) (hb:fn.body=some c:=by exact rfl) (hnm:(fn.name == "runtime.NumGoroutine")=false:=by kernel_rfl)
  (hok:ZbA fn.ntmps c=true:=by kernel_rfl) (hal:Nat.ble args.length fn.ntmps=true:=by exact rfl) (hres:ZaU fn.results.toList=ts:=by exact rfl) (he:e.Ok:=by first | exact Ziz | exact ZpK | assumption):ConE e f args R:=Zms he mask hf hb hnm hok hal hres h
theorem gCP {e:Env} {K:St->Prop} {ds:List (Option Nat)} {n n':Nat} {os os':List Oper} {σ:St} {c:Operand} {args:List Operand} {f:FuncId} {xs:List D} {d:Option Nat} {s1 s2 s3:List (Nat × A)} {m1 m2 m3:List (Nat × Bk)} {pm:List Bk} {R:List D->List Bk->Prop} (ks ks':List Nat) (hc:ConP e f xs pm R)
  (hK:∀ r pm',R r pm'->Runs e ds n' os' ⟨setA s3 d (retA r),zipM ks' pm'++m3⟩ K) (h:Zbn e.P ds n os σ=.call false c args d n' os' ⟨s1,m1⟩:=by exact sfv) (h1:ZeC false c args ⟨s1,m1⟩=some (f,xs,⟨s2,m2⟩):=by exact sfv)
  (hpm:getM m2 ks=some pm:=by exact sny) (hpn:pm.all pinned=true:=by simp only [pz,↓reduceIte,Nat.reduceEqDiff,Nat.reduceAdd,Nat.reduceSub,Nat.reduceMul,Nat.reduceLeDiff,Nat.reduceBEq,Tam,decide_true,decide_false,Int.reduceLE,Int.reduceToNat,Int.reduceLT,Int.reduceEq,eq_self,Nat.reduceShiftRight,Nat.reduceAnd,Nat.reduceBneDiff]) (hn:ks.Nodup:=by decide) (hk:Zcj (ks++ks') s2=s3:=by exact snv) (hr:Zci (ks++ks') m2=m3:=by exact snv):Runs e ds n os σ K:=Zu7 ks ks' h h1 hc hpm hpn hn hk hr hK
theorem gP {e:Env} {K:St->Prop} {ds:List (Option Nat)} {n n':Nat} {os os':List Oper} {σ:St} {s1:List (Nat × A)} {m1:List (Nat × Bk)} (j:Nat) (hK:Runs e ds n' os' ⟨s1,m1⟩ K) (h:Zir (runN e.P ds j n os σ)=some (n',os',s1,m1):=by exact sfv):Runs e ds n os σ K:=ZqS j h hK
theorem gS {e:Env} {K:St->Prop} {ds:List (Option Nat)} {os:List Oper} {s:List (Nat × A)} {m m2:List (Nat × Bk)} {ety sz:Nat} {rows:List (List C)} {s2:Option Addr->Nat->List (Nat × A)} (k:Nat) (hK:∀ a cap,Runs e ds 0 os ⟨s2 a cap,(k,.buf (some (a,cap)) ety sz rows)::m2⟩ K)
  (hm:gm m k=some (.buf none ety sz rows):=by exact snv) (hs:∀ a cap,mapS (litB k a rows.length cap) s=s2 a cap:=by intro a cap;exact snv) (hr:remM k m=m2:=by exact snv):Runs e ds 0 os ⟨s,m⟩ K :=
 ZgJ (ZjL k hm) fun σ' ⟨a,cap,hσ⟩=>by subst hσ;simp only [hs,hr];exact hK a cap
theorem gO {e:Env} {K:St->Prop} {ds:List (Option Nat)} {os:List Oper} {s s2:List (Nat × A)} {m m2:List (Nat × Bk)} (t ety sz:Nat) (hK:Runs e ds 0 os ⟨(t,.buf t)::s2,(t,.buf none ety sz [])::m2⟩ K) (h0:0 < sz:=by decide) (hm:gs s t=.d (.clip []):=by simp only [pz,↓reduceIte,Nat.reduceEqDiff,Nat.reduceAdd,Nat.reduceSub,Nat.reduceMul,Nat.reduceLeDiff,Nat.reduceBEq,Tam,decide_true,decide_false,Int.reduceLE,Int.reduceToNat,Int.reduceLT,Int.reduceEq,eq_self,Nat.reduceShiftRight,Nat.reduceAnd,Nat.reduceBneDiff])
  (hs:Zao t s=s2:=by exact snv) (hr:remM t m=m2:=by exact snv):Runs e ds 0 os ⟨s,m⟩ K :=
 ZgJ (ZuZ t ety sz h0 hm) fun σ' hσ=>by subst hσ;simp only [hs,hr];exact hK
theorem gK {e:Env} {K:St->Prop} {ds:List (Option Nat)} {os:List Oper} {s:List (Nat × A)} {m:List (Nat × Bk)} {x:A} (t:Nat) (hK:Runs e ds 0 os ⟨(t,x)::s,m⟩ K) (hx:nrm m (gs s t)=x:=by exact snv):Runs e ds 0 os ⟨s,m⟩ K :=
 ZgJ (ZuY t) fun σ' hσ=>by subst hσ;simp only [hx];exact hK
theorem pD {e:Env} {mask:Nat} {Q:PX->St->Prop} {c:Code} {s s2:List (Nat × A)} {m m2:List (Nat × Bk)} {a:Option Addr} {cap ety sz:Nat} {rows:List (List C)} (k:Nat) (ts ks:List Nat) (hK:pwp e mask c ⟨s2,m2⟩ Q) (hm:gm m k=some (.buf (some (a,cap)) ety sz rows):=by exact snv)
  (hs:datS a rows.length cap rows ts (frzS k (.buf (some (a,cap)) ety sz rows) s)=s2:=by exact snv) (hr:datM a rows.length cap rows ks (remM k m)=m2:=by exact snv):pwp e mask c ⟨s,m⟩ Q :=
 ZcG (Zu1 k ts ks hm) fun σ' hσ=>by subst hσ;simp only [hs,hr];exact hK
theorem pV {e:Env} {mask:Nat} {Q:PX->St->Prop} {c:Code} {s:List (Nat × A)} {m m2:List (Nat × Bk)} {cs:List C} {s2:Nat->List (Nat × A)} (k:Nat) (hK:∀ b,(∀ k' b' cs',k'≠k->gm m k'=some (.var (some b') cs')->b≠b')->pwp e mask c ⟨s2 b,(k,.var (some b) cs)::m2⟩ Q)
  (hm:gm m k=some (.var none cs):=by exact snv) (hs:∀ b,mapS (litV k b) s=s2 b:=by intro b;exact snv) (hr:remM k m=m2:=by exact snv):pwp e mask c ⟨s,m⟩ Q :=
 ZcG (ZqN k hm) fun σ' ⟨b,hb,hσ⟩=>by subst hσ;simp only [hs,hr];exact hK b hb
theorem pS {e:Env} {mask:Nat} {Q:PX->St->Prop} {c:Code} {s:List (Nat × A)} {m m2:List (Nat × Bk)} {ety sz:Nat} {rows:List (List C)} {s2:Option Addr->Nat->List (Nat × A)} (k:Nat) (hK:∀ a cap,pwp e mask c ⟨s2 a cap,(k,.buf (some (a,cap)) ety sz rows)::m2⟩ Q)
  (hm:gm m k=some (.buf none ety sz rows):=by exact snv) (hs:∀ a cap,mapS (litB k a rows.length cap) s=s2 a cap:=by intro a cap;exact snv) (hr:remM k m=m2:=by exact snv):pwp e mask c ⟨s,m⟩ Q :=
 ZcG (ZjL k hm) fun σ' ⟨a,cap,hσ⟩=>by subst hσ;simp only [hs,hr];exact hK a cap
def Zcy (pm pm':List Bk):Prop:=∀ (w:World) (S:Nat->Prop),(∀ x∈pm,Zcu w S x)->Zc3 pm->(∀ x∈pm',Zcu w S x)∧Zc3 pm'∧∀ g,ZaR pm' g->ZaR pm g
theorem pE {e:Env} {mask:Nat} {Q:PX->St->Prop} {c:Code} {s s2:List (Nat × A)} {m m2 m3:List (Nat × Bk)} {pm pm':List Bk} (ks ks':List Nat) (hre:Zcy pm pm') (hK:pwp e mask c ⟨s2,m3⟩ Q) (hpm:getM m ks=some pm:=by exact sny) (hn:ks.Nodup:=by decide) (hp:pm.all pinned=true:=by simp only [pz,↓reduceIte,Nat.reduceEqDiff,Nat.reduceAdd,Nat.reduceSub,Nat.reduceMul,Nat.reduceLeDiff,Nat.reduceBEq,Tam,decide_true,decide_false,Int.reduceLE,Int.reduceToNat,Int.reduceLT,Int.reduceEq,eq_self,Nat.reduceShiftRight,Nat.reduceAnd,Nat.reduceBneDiff])
  (hs:Zcj (ks++ks') s=s2:=by exact snv) (hr:Zci (ks++ks') m=m2:=by exact snv) (h3:zipM ks' pm'++m2=m3:=by exact snv):pwp e mask c ⟨s,m⟩ Q :=
 ZcG (ZzD (Φ:=fun x=>x=pm') ks ks' hn hpm hp (fun w S h1 h2=>⟨pm',rfl,hre w S h1 h2⟩)) fun σ' ⟨q,hq,hσ⟩=>by subst hq hσ;simp only [hs,hr,h3];exact hK
theorem gIP {e:Env} {f:FuncId} {fn:Func} {c:Code} {args:List D} {pm:List Bk} {m0:List (Nat × Bk)} {R:List D->List Bk->Prop} {ts:List RS} (keys:List Nat) (mask:Nat) (hf:e.P.funcs[f]?=some fn) (h:pwp e mask c ⟨Zcl 0 args,m0⟩ (ZkI e.P ts R)) (hm:zipM keys pm=m0:=by exact snv) (hb:fn.body=some c:=by exact rfl) (hnm:(fn.name == "runtime.NumGoroutine")=false:=by kernel_rfl)
  (hok:ZbA fn.ntmps c=true:=by kernel_rfl) (hal:Nat.ble args.length fn.ntmps=true:=by exact rfl) (hres:ZaU fn.results.toList=ts:=by exact rfl) (he:e.Ok:=by first | exact Ziz | exact ZpK | assumption):ConP e f args pm R:=Zmr he keys mask hf hb hnm hok hal hres (by rw [hm];exact h)
theorem gTP {X:Prop} {P:Program} {ts:List RS} {R:List D->List Bk->Prop} {σ:St} {r:List D} {pm:List Bk} (ks:List Nat) (hR:R r pm) (hx:ZkI P ts R .ret σ->X:=by exact fun h=>ZdZ h) (hr:resD P σ ts=some r:=by exact sfy) (hg:getM σ.m ks=some pm:=by exact sny) (hn:ks.Nodup:=by decide) (hp:pm.all pinned=true:=by simp only [pz,↓reduceIte,Nat.reduceEqDiff,Nat.reduceAdd,Nat.reduceSub,Nat.reduceMul,Nat.reduceLeDiff,Nat.reduceBEq,Tam,decide_true,decide_false,Int.reduceLE,Int.reduceToNat,Int.reduceLT,Int.reduceEq,eq_self,Nat.reduceShiftRight,Nat.reduceAnd,Nat.reduceBneDiff]):X :=
 hx ⟨r,ks,pm,hg,hn,hp,hR,ZfV hr⟩
theorem okC.cell:∀ {f:F} {c:C},okC f c->Zav c=true
 | .int,.lit v,h=>by obtain ⟨n,rfl,_⟩:=h;rfl
 | .str,.lit v,h=>by obtain ⟨n,rfl,_⟩:=h;rfl
 | .bool,.lit v,h=>by obtain ⟨n,rfl⟩:=h;rfl
 | .sl t,.sl rows,h=>rfl
 | .int,.sl _,h=>False.elim h
 | .str,.sl _,h=>False.elim h
 | .bool,.sl _,h=>False.elim h
 | .sl _,.lit _,h=>False.elim h
 | f,.ptr _,h=>by cases f <;> exact False.elim h
 | f,.fn _ _,h=>by cases f <;> exact False.elim h
theorem Zae.cells:∀ {fs:List F} {cs:List C},Zae fs cs->cs.all Zav=true
 | [],[],_=>rfl
 | f::fs,c::cs,h=>by
  simp only [Zae] at h
  rw [List.all_cons,h.1.cell,Zae.cells h.2]
  rfl
 | [],_::_,h=>by simp [Zae] at h
 | _::_,[],h=>by simp [Zae] at h
theorem Zae.take {fs:List F} {cs:List C} (h:Zae fs cs) {n:Nat} (hn:fs.length=n):cs.length=n∧cs.take n=cs∧cs.drop n=[]:=by
 have:=h.len
 refine ⟨by omega,?_,?_⟩
 ·rw [List.take_of_length_le om]
 ·rw [List.drop_eq_nil_of_le om]
theorem Zaa.inside' {w:World} {S:Nat->Prop}:∀ {cs:List C} {us:List Value},Zaa w S cs us->Zaa w (fun b=>b < w.heap.size) cs us
 | [],[],_=>by simp [Zaa]
 | c::cs,u::us,h=>by
  simp only [Zaa] at h ⊢
  exact ⟨(Rep.inside c u h.1).mono (fun b hb=>hb.2),Zaa.inside' h.2⟩
 | [],_::_,h=>by simp [Zaa] at h
 | _::_,[],h=>by simp [Zaa] at h
theorem Zam.rowsLen {fs:List F} {rows:List (List C)} (h:Zam fs rows):rowsLen fs.length rows:=fun r hr=>by
 obtain ⟨i,hi⟩:=Tbh hr
 exact ⟨(h.get hi).len,(h.get hi).cells⟩
theorem Zar {α:Type} (l:List α):l.drop 0=l:=rfl
section
variable {w:World} {S:Nat->Prop} {T:Nat}
theorem ZAv {f:F} {c:C} {z:Int} (h:okC f c) (hr:Rep w S c (.int .u8 z)):False:=by
 cases c with
 | lit v =>
  simp only [Rep] at hr
  subst hr
  cases f with
  | int=>obtain ⟨n,h,_⟩:=h;cases h
  | str=>obtain ⟨n,h,_⟩:=h;cases h
  | bool=>obtain ⟨n,h⟩:=h;cases h
  | sl t=>simp only [okC] at h
 | sl rows =>
  simp only [Rep] at hr
  obtain ⟨A,n,cap,hv,_⟩:=hr
  cases hv
 | ptr cs=>cases f <;> simp only [okC] at h
 | fn g cs=>cases f <;> simp only [okC] at h
theorem ZtJ (t:TN):∃ f fs,Zab t=f::fs:=by cases t <;> exact ⟨_,_,rfl⟩
theorem Zvd (hT:∀ o u,w.cell? ⟨T,o,none⟩=some u->∃ z,u=.int .u8 z) {t:TN} {rows:List (List C)} {b off:Nat} (h0:0 < rows.length) (hok:Zam (Zab t) rows) (h:Zai w S b off rows):b≠T:=by
 rintro rfl
 cases rows with
 | nil=>simp at h0
 | cons r rs =>
  obtain ⟨f,fs,e⟩:=ZtJ t
  simp only [Zam,Zai] at hok h
  rw [e] at hok
  cases r with
  | nil=>simp only [Zae] at hok;exact hok.1.elim
  | cons c cs =>
   simp only [Zae,Zac] at hok h
   obtain ⟨⟨u,hu,hr⟩,_⟩:=h.1
   obtain ⟨z,rfl⟩:=hT off u hu
   exact ZAv hok.1.1 hr
mutual
theorem Rep.off (hT:∀ o u,w.cell? ⟨T,o,none⟩=some u->∃ z,u=.int .u8 z):∀ (f:F) (c:C) (v:Value),okC f c->Rep w S c v->Rep w (fun b=>S b∧b≠T) c v
 | _,.lit x,v,_,h=>by simpa [Rep] using h
 | .sl t,.sl rows,v,hok,h=>by
  simp only [okC] at hok
  simp only [Rep] at h ⊢
  obtain ⟨A,n,cap,hv,hn,hc,hm,hr⟩:=h
  refine ⟨A,n,cap,hv,hn,hc,hm,fun h0=>?_⟩
  obtain ⟨b,off,hA,hs,hb,hrows⟩:=hr h0
  exact ⟨b,off,hA,⟨hs,Zvd hT om hok hrows⟩,hb,Zai.off hT (Zab t) b off rows hok hrows⟩
 | .int,.sl _,_,hok,_=>by simp only [okC] at hok
 | .str,.sl _,_,hok,_=>by simp only [okC] at hok
 | .bool,.sl _,_,hok,_=>by simp only [okC] at hok
 | f,.ptr _,_,hok,_=>by cases f <;> simp only [okC] at hok
 | f,.fn _ _,_,hok,_=>by cases f <;> simp only [okC] at hok
theorem Zai.off (hT:∀ o u,w.cell? ⟨T,o,none⟩=some u->∃ z,u=.int .u8 z):∀ (fs:List F) (b off:Nat) (rows:List (List C)),Zam fs rows->Zai w S b off rows->Zai w (fun b=>S b∧b≠T) b off rows
 | _,_,_,[],_,_=>by simp [Zai]
 | fs,b,off,r::rs,hok,h=>by
  simp only [Zam] at hok
  simp only [Zai] at h ⊢
  exact ⟨Zac.off hT fs b off r hok.1 h.1,Zai.off hT fs b _ rs hok.2 h.2⟩
theorem Zac.off (hT:∀ o u,w.cell? ⟨T,o,none⟩=some u->∃ z,u=.int .u8 z):∀ (fs:List F) (b off:Nat) (cs:List C),Zae fs cs->Zac w S b off cs->Zac w (fun b=>S b∧b≠T) b off cs
 | _,_,_,[],_,_=>by simp [Zac]
 | f::fs,b,off,c::cs,hok,h=>by
  simp only [Zae] at hok
  simp only [Zac] at h ⊢
  obtain ⟨⟨u,hu,hr⟩,h2⟩:=h
  exact ⟨⟨u,hu,Rep.off hT f c u hok.1 hr⟩,Zac.off hT fs b _ cs hok.2 h2⟩
 | [],_,_,c::cs,hok,_=>by simp only [Zae] at hok
end
theorem Zaa.off (hT:∀ o u,w.cell? ⟨T,o,none⟩=some u->∃ z,u=.int .u8 z):∀ (fs:List F) (cs:List C) (us:List Value),Zae fs cs->Zaa w S cs us->Zaa w (fun b=>S b∧b≠T) cs us
 | _,[],[],_,_=>by simp [Zaa]
 | f::fs,c::cs,u::us,hok,h=>by
  simp only [Zae] at hok
  simp only [Zaa] at h ⊢
  exact ⟨Rep.off hT f c u hok.1 h.1,Zaa.off hT fs cs us hok.2 h.2⟩
 | [],c::cs,_,hok,_=>by simp only [Zae] at hok
 | _::_,[],_,hok,_=>by simp only [Zae] at hok
 | _,[],_::_,_,h=>by simp [Zaa] at h
 | _,_::_,[],_,h=>by simp [Zaa] at h
end
theorem ZiA {w:World} (h:Zcq w):∀ o u,w.cell? ⟨2,o,none⟩=some u->∃ z,u=.int .u8 z:=fun o u hu=>by
 unfold Zcq at h
 unfold World.cell? at hu
 simp only [h] at hu
 unfold tabA at hu
 rw [if_neg (by simp),List.getElem?_toArray,Tay] at hu
 obtain ⟨n,_,rfl⟩:=Tau.1 hu
 exact ⟨_,rfl⟩
theorem Zz9 {w:World} (h:Zcq w):∀ b,e0.E b->b < w.heap.size:=fun b hb=>by
 have hb:b=2:=hb
 subst hb
 unfold Zcq at h
 exact (Tbi.1 h).1
theorem Kept.belowT {w w':World} (h:Kept e0.D e0.E w.heap.size w w') (h1:Zcq w) (h2:Zcq w'):Below w.heap.size w w':=⟨h.os,h.tape,h.output,h.size,fun k hk=>by
 by_cases e:k=2
 ·subst e;exact h2.trans h1.symm
 ·exact h.block k hk e⟩
end Go.Proofs.YtcgacanpeaiabaaGreatDoor
namespace Go.Proofs.YtcgacanpeaiabaaGreatDoor
open Go.ChangeShapes Go.WideShapes Go.ChangeAt Go.RowKit
abbrev ZeX:List (String × DataW Unit):=[("math/bits.deBruijn32tab",Rows.laid_math_bits_deBruijn32tab),("math/bits.deBruijn64tab",Rows.laid_math_bits_deBruijn64tab),("internal/strconv.uint64pow10",Rows.laid_internal_strconv_uint64pow10)]
theorem Zve (os:Os) (args:Array Value):laidMetH Tryz.prog ZeX ((World.doorLaid Tryz.prog 24 os).forCall (fun _ _=>0) ⟨#[],args,[]⟩).memory :=
 laidMetH_of_parts3 (fuel:=8) (laidMet_of_run' 8 (by kernel_rfl) (by kernel_rfl)) (by kernel_rfl) (by kernel_rfl)
theorem gTab:Tryz.prog.globalNamed "math/bits.deBruijn64tab" = some 2:=by kernel_rfl
theorem tTab:(Tryz.prog.globals[(2:Nat)]?).map (·.type)=some 349:=by kernel_rfl
theorem ZzF:∃ zero,((begin Tryz.prog (fun _ _=>0) default).world.heap[(2:Nat)]?).bind Obj.row?=some (zero,349):=⟨(List.replicate 64 (Value.int .u8 0)).toArray,by kernel_rfl⟩
theorem Zvf {W:World} (h:laidMetH Tryz.prog ZeX W) (hs:W.ShapedOpen Tryz.prog):Zcq W:=by
 rw [MakeChecks.laidMetH_plain _ _ _ (by kernel_rfl)] at h
 have h2:=laidMet.tail h
 have h3:laidMet Tryz.prog [("math/bits.deBruijn64tab",Lib.tabData .u8 (ZkN.map fun (n:Nat)=>(n:Int))),("internal/strconv.uint64pow10",Rows.laid_internal_strconv_uint64pow10)] W:=h2
 have h4:=Lib.tabIs_of_head gTab tTab (e:=5) (n:=64) (by kernel_rfl) (by kernel_rfl) (by kernel_rfl) (by kernel_rfl) h3
 obtain ⟨zero,hz⟩:=ZzF
 obtain ⟨cs,hh,_⟩:=hs.1 _ zero _ (by decide +kernel) hz
 unfold Lib.TabIs World.var? at h4
 rw [gTab] at h4
 simp only [Option.bind_some,hh,Taq] at h4
 unfold Zcq
 rw [hh,h4]
 unfold tabA
 rw [List.map_map]
 rfl
section
variable {H:Type} {enc:TypeId × Value->H}
theorem Zlv {a:Assume} {C:Checked} {os:Os} {f:FuncId} {fn:Func} {s:ChangeSpec} {conds:List PathCond} {apart fresh handsOn again:Bool} {X:World->Array Value->Prop}
  (hX:∀ (w w':World) (args:Array Value),w.heap=w'.heap->X w args->X w' args)
  (own:ownKnob C.prog.godebug=none) (started:os.Started) (noInit:C.prog.inits.idxOf? f=none) (hfn:C.prog.funcs[f]?=some fn)
  (witness:∃ (w:World) (tape:Tape) (i:Input),w.os=os∧(w.forCall tape i).Shaped C.prog∧i.vars=[]∧Input.okWide C.prog (w.forCall tape i) .any w.heap.size f i ∧
   ((s.pre enc C.prog fn conds apart (w.forCall tape i).memory i.args∧X (w.forCall tape i).memory i.args)∧sizedMet enc C.prog fn (OpenSpec.ofChange s) apart (w.forCall tape i).memory i.args)∧a.holds C.prog (lone (Frame.enter C.prog f i.args .normal) [] (w.forCall tape i)))
  (contract:∀ (W:World) (base:Nat) (args:Array Value) (ds gs:List (DataW H)) (before:List MemPlace),
   (∀ (j:Nat) t v,fn.params[j]?=some t->args[j]?=some v->Value.okWide C.prog W .any base t v) ->
   DataW.Whole enc C.prog fn.params.toList s.vars apart W args.toList ds gs before ->
   conds.all (PathCond.test C.prog ⟨fn.params.toList,ds,s.plain.varTypes C.prog,gs⟩)=true ->
   (DataW.weightsEach C.prog (fn.params.toList++s.plain.varTypes C.prog) (ds++gs)).all (·<=reachBytes)=true->X W args->W.ShapedOpen C.prog ->
   a.holds C.prog (lone (Frame.enter C.prog f args .normal) [] W) ->
   Calls C.prog f args W fun e W'=>∃ v,e=.returned v∧s.post enc C.prog fn apart fresh handsOn again W args v W') :
  ReturnsInHanded a C os f .any (fun w args=>(s.pre enc C.prog fn conds apart w args∧X w args)∧sizedMet enc C.prog fn (OpenSpec.ofChange s) apart w args) (s.post enc C.prog fn apart fresh handsOn again):=by
 refine returnsInHanded_of_calls own started noInit witness ?_
 intro w tape i _ hsh _ hok hpre hholds
 obtain ⟨_,_,_,fn',hfn',_,_,_,_,hval⟩:=hok
 obtain rfl:fn'=fn:=Option.some.inj (hfn'.symm.trans hfn)
 obtain ⟨⟨⟨ds,gs,before,hw,hc⟩,hx⟩,hz⟩:=hpre
 refine (contract (w.forCall tape i) w.heap.size i.args ds gs before hval (DataW.Whole.of_heap (w':=w.forCall tape i) (by rfl) hw) hc (hz.weights hw) (hX _ _ _ (by rfl) hx) hsh hholds).mono fun e W' ⟨v,he,hp⟩=>?_
 subst he
 exact ChangeSpec.post_blind hp
end
end Go.Proofs.YtcgacanpeaiabaaGreatDoor
namespace Go.Proofs.YtcgacanpeaiabaaGreatDoor
open Go.ChangeShapes Go.WideShapes Go.ChangeAt Go.RowKit Go.Deep
theorem ZpL {P:Program} {w:World} {r:Reach} {base:Nat} {t e:TypeId} {v:Value} (ht:P.underlying t=some (.slice e)) (h:Value.okWide P w r base t v):v.cells.toList=[v]:=by
 simp only [Value.okWide,ht] at h
 cases v <;> first
  | rfl
  | (exfalso;simp [Cell.okWide,ht,Cell.ok] at h)
theorem ZzG {w:World} {tn:TN} {row:List C} {v:Value} (hok:Zae [.sl tn] row) (h:Zaa w (fun _=>True) row [v]):∃ rows,Zam (Zab tn) rows∧Rep w (fun _=>True) (.sl rows) v:=by
 match row,hok,h with
 | [c],hok,h =>
  simp only [Zae] at hok
  obtain ⟨rows,rfl,hr⟩:=ZdD hok.1
  simp only [Zaa] at h
  exact ⟨rows,hr,h.1⟩
end Go.Proofs.YtcgacanpeaiabaaGreatDoor
namespace Go.Proofs.YtcgacanpeaiabaaGreatDoor
open Go.RowKit
def ZaJ (w:World):List (List C)->(Nat->Prop)->List (List Value)->Prop
 | [],_,[]=>True
 | r::rs,S,us::uss=>∃ S1 S2:Nat->Prop,(∀ x,S1 x->S x)∧(∀ x,S2 x->S x)∧(∀ x,S1 x->S2 x->False)∧Zad w r S1 us∧ZaJ w rs S2 uss
 | _,_,_=>False
def Zal (us:List Value):List C:=us.map .lit
section
variable {w w':World}
theorem ZaJ.keep (hz:w.heap.size<=w'.heap.size):∀ (rows:List (List C)) (S S':Nat->Prop) (uss:List (List Value)),(∀ b,S b->w'.heap[b]?=w.heap[b]?)->(∀ b,S b->S' b)->ZaJ w rows S uss->ZaJ w' rows S' uss
 | [],_,_,[],_,_,_=>trivial
 | r::rs,S,S',us::uss,hk,hS,h=>by
  obtain ⟨S1,S2,h1,h2,hd,hr,hrs⟩:=h
  exact ⟨S1,S2,fun x hx=>hS x (h1 x hx),fun x hx=>hS x (h2 x hx),hd,Zad.keep hz r S1 S1 us (fun x hx=>hk x (h1 x hx)) (fun _ h=>h) hr,ZaJ.keep hz rs S2 S2 uss (fun x hx=>hk x (h2 x hx)) (fun _ h=>h) hrs⟩
 | [],_,_,_::_,_,_,h=>h.elim
 | _::_,_,_,[],_,_,h=>h.elim
theorem ZaJ.len:∀ {rows:List (List C)} {S:Nat->Prop} {uss:List (List Value)},ZaJ w rows S uss->uss.length=rows.length
 | [],_,[],_=>rfl
 | r::rs,S,us::uss,⟨S1,S2,_,_,_,_,h⟩=>by simp [ZaJ.len h]
theorem ZaJ.snoc:∀ {rows:List (List C)} {r:List C} {S S1 S2:Nat->Prop} {uss:List (List Value)} {us:List Value},ZaJ w rows S1 uss->Zad w r S2 us->(∀ x,S1 x->S x)->(∀ x,S2 x->S x)->(∀ x,S1 x->S2 x->False)->ZaJ w (rows++[r]) S (uss++[us])
 | [],r,S,S1,S2,[],us,_,h2,i1,i2,hd=>⟨S2,fun _=>False,i2,fun _ h=>h.elim,fun _ _ h=>h,h2,trivial⟩
 | q::qs,r,S,S1,S2,vs::vss,us,⟨T1,T2,a1,a2,a3,a4,a5⟩,h2,i1,i2,hd =>
  ⟨T1,fun x=>T2 x∨S2 x,fun x hx=>i1 x (a1 x hx),fun x hx=>hx.elim (fun h=>i1 x (a2 x h)) (i2 x),fun x hx hy=>hy.elim (a3 x hx) (hd x (a1 x hx)),a4,
   ZaJ.snoc a5 h2 (fun _ h=>.inl h) (fun _ h=>.inr h) (fun x hx hy=>hd x (a2 x hx) hy)⟩
 | [],_,_,_,_,_::_,_,h,_,_,_,_=>h.elim
 | _::_,_,_,_,_,[],_,h,_,_,_,_=>h.elim
theorem ZaJ.get:∀ {rows:List (List C)} {S:Nat->Prop} {uss:List (List Value)} {i:Nat} {r:List C} {us:List Value},ZaJ w rows S uss->rows[i]?=some r->uss[i]?=some us->Zad w r S us
 | r::rs,S,us::uss,0,r',us',⟨S1,S2,h1,_,_,h,_⟩,hr,hu=>by
  simp at hr hu;subst hr hu
  exact Zad.keep (Tai _) r S1 S us (fun _ _=>rfl) h1 h
 | r::rs,S,us::uss,i+1,r',us',⟨S1,S2,_,h2,_,_,h⟩,hr,hu =>
  Zad.keep (Tai _) r' S2 S us' (fun _ _=>rfl) h2 (ZaJ.get h (by simpa using hr) (by simpa using hu))
 | [],_,_,_,_,_,_,hr,_=>by simp at hr
 | _::_,_,[],_,_,_,h,_,_=>h.elim
theorem ZaJ.stable (rows:List (List C)) (E:Nat->Prop) (uss:List (List Value)):ZbY E (fun w=>ZaJ w rows E uss):=fun w w' hz hk h=>ZaJ.keep hz rows E E uss hk (fun _ h=>h) h
theorem Zad.stable (r:List C) (E:Nat->Prop) (us:List Value):ZbY E (fun w=>Zad w r E us):=fun w w' hz hk h=>Zad.keep hz r E E us hk (fun _ h=>h) h
theorem Own.stable (c:C) (E:Nat->Prop) (v:Value):ZbY E (fun w=>Own w c E v):=fun w w' hz hk h=>Own.keep hz c E E v hk (fun _ h=>h) h
theorem ZhA {S:Nat->Prop}:∀ {us vs:List Value},Zaa w S (Zal us) vs->vs=us
 | [],[],_=>rfl
 | u::us,v::vs,h=>by
  simp only [Zal,Tbq,Zaa,Rep] at h
  rw [h.1,ZhA h.2]
 | [],_::_,h=>by simp [Zal,Zaa] at h
 | _::_,[],h=>by simp [Zal,Zaa] at h
theorem ZaL.close {b:Nat} {T:Nat->Prop}:∀ {rows:List (List C)} {uss:List (List Value)} {S:Nat->Prop} {off:Nat},Zai w T b off (uss.map Zal)->ZaJ w rows S uss->ZaL w b rows S off
 | [],[],_,_,_,_=>by simp [ZaL]
 | r::rs,us::uss,S,off,hr,⟨S1,S2,h1,h2,hd,hv,hvs⟩=>by
  simp only [Tbq,Zai] at hr
  simp only [ZaL]
  obtain ⟨vs,q1,q2⟩:=hr.1.vals
  have e:=ZhA q1
  subst e
  have hl:(Zal vs).length=r.length:=by simp [Zal,Zad.len hv]
  refine ⟨S1,S2,h1,h2,hd,Zba.of_vals r S1 vs off hv q2,?_⟩
  rw [<- hl]
  exact ZaL.close hr.2 hvs
 | [],_::_,_,_,_,h=>h.elim
 | _::_,[],_,_,_,h=>h.elim
theorem Own.close {T:Nat->Prop} {ety sz:Nat} {rows:List (List C)} {uss:List (List Value)} {E:Nat->Prop} {a:Option Addr} {cap:Nat} (hb:ZaG w T ety sz (uss.map Zal) (.slice a uss.length cap)) (hv:ZaJ w rows E uss) (hd:∀ b,vblk (.slice a uss.length cap)=some b->¬ E b) :
  Own w (.sl rows) (fun b=>vblk (.slice a uss.length cap)=some b∨E b) (.slice a uss.length cap):=by
 have hlen:=hv.len
 obtain ⟨h1,h2,h3⟩:=hb
 simp only [Own]
 rcases h3 with ⟨h4,a',h5⟩ | ⟨g,cap',cur,h5,hc,hg,hs,hh,hl,hm,hcs,hr⟩
 ·injection h5 with e1 e2 e3
  subst e1 e3
  have hu0:uss=[]:=by simpa using h4
  exact ⟨a,uss.length,0,rfl,hlen.symm,by rw [hu0];exact Tai _,by decide,fun h=>absurd h (by decide)⟩
 ·injection h5 with e1 e2 e3
  subst e1 e3
  have hvb:vblk (.slice (some ⟨g,0,none⟩) uss.length cap)=some g:=by simp only [vblk];rw [if_neg om]
  simp only [Taw] at hl
  refine ⟨_,uss.length,cap,rfl,hlen.symm,hl,hm,fun h0=>⟨g,0,E,rfl,.inl hvb,hg,⟨fun o=>frozen_of_row w g o cur ety hh,rfl,cur,ety,sz,hh,hcs,h1,fun r hr0=>?_⟩,fun x hx=>⟨.inr hx,fun e=>hd g hvb (e ▸ hx)⟩,ZaL.close hr hv⟩⟩
  obtain ⟨i,hi⟩:=Tbh hr0
  have hil:=(Tad.1 hi).1
  obtain ⟨us,hu⟩:∃ us,uss[i]?=some us:=⟨_,Taa om⟩
  have hq:=(h2 (Zal us) (Tbf.2 ⟨us,Tac hu,rfl⟩)).1
  have hq2:=Zad.len (hv.get hi hu)
  simp only [Zal,Taw] at hq
  omega
theorem Zba.open {b:Nat}:∀ {cs:List C} {S:Nat->Prop} {off:Nat},Zba w b cs S off->∃ us,Zad w cs S us∧∀ j u,us[j]?=some u->w.cell? ⟨b,off+j,none⟩=some u
 | [],S,off,_=>⟨[],Zad.nil,fun j u h=>by simp at h⟩
 | c::cs,S,off,h=>by
  simp only [Zba] at h
  obtain ⟨S1,S2,u,h1,h2,hd,hu,hc,hcs⟩:=h
  obtain ⟨us,k1,k2⟩:=Zba.open hcs
  refine ⟨u::us,Zad.cons S1 S2 hc k1 h1 h2 hd,fun j v hj=>?_⟩
  cases j with
  | zero=>simp at hj;subst hj;exact hu
  | succ j=>have:=k2 j v (by simpa using hj);rw [<- this];congr 2;omega
theorem ZaL.open {b:Nat}:∀ {rows:List (List C)} {S:Nat->Prop} {off:Nat},ZaL w b rows S off->∃ uss,ZaJ w rows S uss∧∀ T:Nat->Prop,Zai w T b off (uss.map Zal)
 | [],S,off,_=>⟨[],trivial,fun T=>by simp [Zai]⟩
 | r::rs,S,off,h=>by
  simp only [ZaL] at h
  obtain ⟨S1,S2,h1,h2,hd,hr,hrs⟩:=h
  obtain ⟨us,k1,k2⟩:=Zba.open hr
  obtain ⟨uss,k3,k4⟩:=ZaL.open hrs
  refine ⟨us::uss,⟨S1,S2,h1,h2,hd,k1,k3⟩,fun T=>?_⟩
  simp only [Tbq,Zai]
  refine ⟨Zac.of_vals _ us off (Zgv us) k2,?_⟩
  rw [show (Zal us).length=r.length by simp [Zal,k1.len]]
  exact k4 T
theorem Zad.cells:∀ {cs:List C} {S:Nat->Prop} {us:List Value},Zad w cs S us->cs.all Zav=true->(Zal us).all Zav=true
 | [],_,[],_,_=>rfl
 | c::cs,S,u::us,h,hc=>by
  simp only [Zad] at h
  obtain ⟨S1,S2,_,_,_,h1,h2⟩:=h
  simp only [List.all_cons,Tar] at hc
  simp only [Zal,Tbq,List.all_cons,Tar]
  exact ⟨Zey (c:=c) hc.1 (Own.rep c S1 u h1),Zad.cells h2 hc.2⟩
 | [],_,_::_,h,_=>by simp [Zad] at h
 | _::_,_,[],h,_=>by simp [Zad] at h
theorem Own.open {T:Nat->Prop} {rows:List (List C)} {E:Nat->Prop} {a:Option Addr} {n cap sz:Nat} (hT:∀ b,E b->¬ T b) (hne:rows≠[]) (hrl:rowsLen sz rows) (h:Own w (.sl rows) E (.slice a n cap)) :
  ∃ uss ety E',n=uss.length∧ZaG w T ety sz (uss.map Zal) (.slice a uss.length cap)∧ZaJ w rows E' uss∧(∀ b,E' b->E b∧vblk (.slice a uss.length cap)≠some b)∧∀ b,vblk (.slice a uss.length cap)=some b->E b:=by
 simp only [Own] at h
 obtain ⟨A,n',cap',hv,hn,hle,hmx,hb⟩:=h
 injection hv with e1 e2 e3
 subst e1 e2 e3
 have h0:0 < rows.length:=List.length_pos_iff.2 hne
 obtain ⟨b,off,S',rfl,hEb,hbl,⟨hfr,rfl,cur,ety,sz',hh,hcs,hz,hrs⟩,hS',hrows⟩:=hb om
 obtain ⟨uss,k1,k2⟩:=ZaL.open hrows
 have hl:=k1.len
 have hsz:sz'=sz:=by
  obtain ⟨r,hr⟩:=List.exists_mem_of_ne_nil _ hne
  rw [<- hrs r hr,(hrl r hr).1]
 subst hsz
 have hvb:vblk (.slice (some ⟨b,0,none⟩) uss.length cap)=some b:=by simp only [vblk];rw [if_neg om]
 have hrow:rowsLen sz' (uss.map Zal):=fun x hx=>by
  obtain ⟨us,hus,rfl⟩:=Tbf.1 hx
  obtain ⟨i,hi⟩:=Tbh hus
  have hil:=(Tad.1 hi).1
  obtain ⟨r,hr⟩:∃ r,rows[i]?=some r:=⟨_,Taa om⟩
  have hov:=k1.get hr hi
  have hrm:=hrl r (Tac hr)
  exact ⟨by simp only [Zal,Taw];rw [hov.len];exact hrm.1,hov.cells hrm.2⟩
 refine ⟨uss,ety,S',by omega,⟨hz,hrow,.inr ⟨b,cap,cur,by simp,by omega,hbl,hT b hEb,hh,by simp only [Taw];omega,hmx,hcs,k2 T⟩⟩,k1,fun x hx=>⟨(hS' x hx).1,fun e=>?_⟩,fun x hx=>?_⟩
 ·rw [hvb] at e;injection e with e;exact (hS' x hx).2 e.symm
 ·rw [hvb] at hx;injection hx with hx;rw [<- hx];exact hEb
end
theorem ZeL (x:Bk):Zc3 [x]:=⟨by simp,trivial⟩
theorem ZeM:Zcy [] [.set (fun _=>False) (fun w=>ZaJ w [] (fun _=>False) [])]:=fun w S _ _ =>
 ⟨fun x hx=>by simp at hx;subst hx;exact ⟨fun b h=>h.elim,trivial,ZaJ.stable _ _ _⟩,ZeL _,fun g ⟨x,hx,hg⟩=>by simp at hx;subst hx;exact hg.elim⟩
theorem ZiB {E E2:Nat->Prop} {G G2 G':World->Prop} (hG:∀ w,G w->G2 w->(∀ b,E b->E2 b->False)->G' w) (hst:ZbY (fun b=>E b∨E2 b) G'):Zcy [.set E G,.set E2 G2] [.set (fun b=>E b∨E2 b) G']:=fun w S h ha=>by
 have h1:=h (.set E G) (by simp)
 have h2:=h (.set E2 G2) (by simp)
 refine ⟨fun x hx=>?_,ZeL _,fun g ⟨x,hx,hg⟩=>?_⟩
 ·simp at hx;subst hx
  exact ⟨fun b hb=>hb.elim (h1.1 b) (h2.1 b),hG w h1.2.1 h2.2.1 (fun b q1 q2=>ha.1 (.set E2 G2) (by simp) b q1 q2),hst⟩
 ·simp at hx;subst hx
  rcases hg with hg | hg
  ·exact ⟨.set E G,by simp,hg⟩
  ·exact ⟨.set E2 G2,by simp,hg⟩
theorem ZtK {E:Nat->Prop} {G G':World->Prop} (hG:∀ w,G w->G' w) (hst:ZbY E G'):Zcy [.set E G] [.set E G']:=fun w S h ha=>by
 have h1:=h (.set E G) (by simp)
 refine ⟨fun x hx=>?_,ZeL _,fun g ⟨x,hx,hg⟩=>?_⟩
 ·simp at hx;subst hx;exact ⟨h1.1,hG w h1.2.1,hst⟩
 ·simp at hx;subst hx;exact ⟨.set E G,by simp,hg⟩
theorem Zd1 {a:Option Addr} {cap ety sz:Nat} {uss:List (List Value)} {rows:List (List C)} {E:Nat->Prop} {G':World->Prop} (hG:∀ w,Own w (.sl rows) (fun b=>vblk (.slice a uss.length cap)=some b∨E b) (.slice a uss.length cap)->G' w) (hst:ZbY (fun b=>vblk (.slice a uss.length cap)=some b∨E b) G') :
  Zcy [.buf (some (a,cap)) ety sz (uss.map Zal),.set E (fun w=>ZaJ w rows E uss)] [.set (fun b=>vblk (.slice a uss.length cap)=some b∨E b) G']:=fun w S h ha=>by
 have h1:ZaG w S ety sz (uss.map Zal) (.slice a (uss.map Zal).length cap):=h (.buf (some (a,cap)) ety sz (uss.map Zal)) (by simp)
 have h2:=h (.set E (fun w=>ZaJ w rows E uss)) (by simp)
 have hd:=ha.1 (.set E (fun w=>ZaJ w rows E uss)) (by simp)
 rw [Taw] at h1
 simp only [pblk,Taw] at hd
 refine ⟨fun x hx=>?_,ZeL _,fun g ⟨x,hx,hg⟩=>?_⟩
 ·simp at hx;subst hx
  refine ⟨fun b hb=>?_,hG w (Own.close h1 h2.2.1 hd),hst⟩
  rcases hb with hb | hb
  ·exact Own1.lt (L:=⟨fun _=>0,fun _=>.slice a uss.length cap⟩) (k:=0) (bk:=.buf none ety sz (uss.map Zal)) ⟨by simp,h1⟩ hb
  ·exact h2.1 b hb
 ·simp at hx;subst hx
  rcases hg with hg | hg
  ·exact ⟨.buf (some (a,cap)) ety sz (uss.map Zal),by simp,by simp only [pblk,Taw];exact hg⟩
  ·exact ⟨.set E (fun w=>ZaJ w rows E uss),by simp,hg⟩
def ZbF (row:List C) (r:List D) (pm:List Bk):Prop:=∃ us E,r=[.agg (Zal us)]∧us.length=row.length∧(Zal us).all Zav=true∧pm=[.set E (fun w=>Zad w row E us)]
def ZtL (ety sz:Nat) (rows:List (List C)) (r:List D) (pm:List Bk):Prop:=∃ a cap uss E,r=[.one (.lit (.slice a uss.length cap))]∧uss.length=rows.length∧pm=[.buf (some (a,cap)) ety sz (uss.map Zal),.set E (fun w=>ZaJ w rows E uss)]
theorem ZbF.mk {row:List C} {us:List Value} {E:Nat->Prop} (h:us.length=row.length) (hok:(Zal us).all Zav=true):ZbF row [.agg (Zal us)] [.set E (fun w=>Zad w row E us)]:=⟨us,E,rfl,h,hok,rfl⟩
theorem ZtL.mk {ety sz:Nat} {rows:List (List C)} {a:Option Addr} {cap:Nat} {uss:List (List Value)} {E:Nat->Prop} (h:uss.length=rows.length):ZtL ety sz rows [.one (.lit (.slice a uss.length cap))] [.buf (some (a,cap)) ety sz (uss.map Zal),.set E (fun w=>ZaJ w rows E uss)]:=⟨a,cap,uss,E,rfl,h,rfl⟩
theorem ZjS {n:Nat}:∀ {rows:List (List C)} (l:Nat),rowsLen n rows->(rows.take l).flatten=rows.flatten.take (l * n)
 | [],l,_=>by simp
 | r::rs,0,_=>by simp
 | r::rs,l+1,h=>by
  have h1:=(h r Tas).1
  have h2:=ZjS (n:=n) l (fun x hx=>h x (Tal _ hx):rowsLen n rs)
  simp only [Taz,List.flatten_cons,h2]
  rw [show (l+1) * n=r.length+l * n by rw [h1,Nat.succ_mul,Nat.add_comm],List.take_length_add_append]
theorem ZjT {n:Nat}:∀ {rows:List (List C)} (l:Nat),rowsLen n rows->(rows.drop l).flatten=rows.flatten.drop (l * n)
 | [],l,_=>by simp
 | r::rs,0,_=>by simp
 | r::rs,l+1,h=>by
  have h1:=(h r Tas).1
  have h2:=ZjT (n:=n) l (fun x hx=>h x (Tal _ hx):rowsLen n rs)
  simp only [List.drop_succ_cons,List.flatten_cons,h2]
  rw [show (l+1) * n=r.length+l * n by rw [h1,Nat.succ_mul,Nat.add_comm],List.drop_length_add_append]
section
variable {e:Env} {U:Nat->Prop} {w0:World} {S0:Nat->Prop} {nt:Nat} {σ:St} {a:Act} {w:World} {S:Nat->Prop} {L:Lay}
theorem Sim.storeRows (h:Sim e U w0 S0 nt σ a w S L) (he:e.Ok) {o:Option (Option Addr × Nat)} {k l g ety sz:Nat} {rows news:List (List C)} {vs:List Value} (hm:gm σ.m k=some (.buf o ety sz rows)) (hg:vblk (L.v k)=some g) (hl:l+news.length<=rows.length) (hn:rowsLen sz news) (hu:Zaa w S news.flatten vs) :
  ∃ w',(storeCells ⟨g,l * sz,none⟩ vs).run e.P w=.ok () w'∧SimE e U w0 S0 nt ⟨σ.s,(k,.buf o ety sz (rows.take l++news++rows.drop (l+news.length)))::remM k σ.m⟩ a w':=by
 obtain ⟨hb0,hs0,hrl,h3⟩:=h.cls.own k _ hm
 have hvl:=hu.len
 have h1:=Zg6 hn
 rw [Zbi hn] at hvl
 rcases h3 with ⟨h3,p,h4⟩ | ⟨g',cap,cur,hv,hcp,hg1,hg2,hheap0,hlen,hcap,hcs,hrows⟩
 ·rw [h4] at hg;cases p <;> simp [vblk] at hg
 ·have hgg:g'=g:=by rw [hv] at hg;simp only [vblk] at hg;rw [if_neg om] at hg;injection hg
  subst hgg
  have hfl:=Zbi hrl
  have hin:l * sz+vs.length<=rows.length * sz:=by
   have:=Nat.mul_le_mul_right sz hl
   rw [Nat.add_mul] at this
   omega
  have hin2:rows.length * sz<=cap * sz:=Nat.mul_le_mul_right sz hlen
  have hst:=run_storeCells_at e.P g' (l * sz) ety vs 0 cur w hheap0 (by rw [hcs];omega) (Zc5 h1 hu)
  simp only [Nat.add_zero] at hst
  have hput:=ZdC w g' (l * sz) ety vs cur hheap0 (by rw [hcs];omega)
  refine ⟨_,hst,?_⟩
  have hheap:=setRow_heap w g' cur (cur.toList.take (l * sz)++vs++cur.toList.drop (l * sz+vs.length)).toArray ety _ hheap0
  have hdr:(w.setRow g' (cur.toList.take (l * sz)++vs++cur.toList.drop (l * sz+vs.length)).toArray).drawn=w.drawn:=ZcW _ _ _
  generalize hW:w.setRow g' (cur.toList.take (l * sz)++vs++cur.toList.drop (l * sz+vs.length)).toArray=W at hput hheap hdr ⊢
  have hsz:W.heap.size=w.heap.size:=hput.size
  have hkc:∀ b o,S b->W.cell? ⟨b,o,none⟩=w.cell? ⟨b,o,none⟩:=fun b o hs=>Za6 (hput.other b (fun e=>hg2 (e ▸ hs))) o
  have hbk:ZaB L k (.buf o ety sz rows) g':=hg
  have hln:(rows.take l++news++rows.drop (l+news.length)).length=rows.length:=by simp;omega
  have hown:Own1 W S L k (.buf o ety sz (rows.take l++news++rows.drop (l+news.length))):=by
   simp only [Own1]
   refine ⟨fun a ha=>by rw [hb0 a ha,hln],hs0,fun x hx=>?_,.inr ⟨g',cap,_,by rw [hv,hln],hcp,by omega,hg2,hheap,by rw [hln];exact hlen,hcap,by simp;omega,?_⟩⟩
   ·rcases Tbe.1 hx with hx | hx
    ·rcases Tbe.1 hx with hx | hx
     ·exact hrl x (List.mem_of_mem_take hx)
     ·exact hn x hx
    ·exact hrl x (List.mem_of_mem_drop hx)
   ·apply Zai.of_flat
    rw [List.flatten_append,List.flatten_append,ZjS l hrl,ZjT _ hrl]
    have hz:w.heap.size<=W.heap.size:=by omega
    have hf:=hrows.flat
    have r1:=Zac.keepAt (S':=S) hz hkc (fun _ h=>h) g' 0 (rows.flatten.take (l * sz)) (fun i hi=>hput.old _ (.inl (by simp at hi;omega))) (hf.take (l * sz))
    have r3:Zac W S g' (l * sz) news.flatten:=Zac.of_vals _ vs _ (Zaa.keep2 hz hkc (fun _ h=>h) hu) hput.new
    have r5:=Zac.keepAt (S':=S) hz hkc (fun _ h=>h) g' _ (rows.flatten.drop ((l+news.length) * sz)) (fun i hi=>hput.old _ (.inr (by rw [hvl];rw [Nat.add_mul];omega))) (hf.drop ((l+news.length) * sz))
    have l1:(rows.flatten.take (l * sz)).length=l * sz:=by rw [Tav,hfl];omega
    refine Zac.append _ _ 0 (Zac.append _ _ 0 r1 ?_) ?_
    ·rw [l1,Nat.zero_add];exact r3
    ·rw [Tae,l1,Zbi hn,<- Nat.add_mul]
     exact r5
  obtain ⟨t1,t2,t3⟩:=h.touch he (d:=k) (bk:=.buf o ety sz (rows.take l++news++rows.drop (l+news.length))) (m':=(k,.buf o ety sz (rows.take l++news++rows.drop (l+news.length)))::remM k σ.m) (w':=W) (L':=L) (τ:=some g') (fun _ h=>h) (fun _ h=>.inl h)
   (fun k' x hkd hx=>by simp only [gm,hkd,if_false,ZaO] at hx;exact hx) (by simp [gm]) (fun _ _=>⟨rfl,rfl⟩)
   (fun q hq=>by injection hq with hq;subst hq;exact ⟨hg2,h.cls.notE hm hbk,h.cls.mine k _ _ hm hbk⟩)
   (fun k' x q hkd hx hq hb=>by
    injection hq with hq;subst hq
    simp only [gm,hkd,if_false,ZaO] at hx
    exact hkd (h.cls.inj k' k x _ _ hx hm hb hbk))
   ⟨hput.os,hput.tape,hput.output,fun _=>Nat.le_of_eq hdr.symm,by omega,fun b hb hE=>hput.other b (fun eq=>hE (by rw [eq]))⟩ hown (fun q hq=>.inl (by rw [<- hq];exact hg.symm))
  exact ⟨S,L,t1,fun t=>t3 _ _ (fun _=>⟨rfl,rfl⟩) (h.rel t),h.size,h.defers,t2⟩
end
section
variable {e:Env} {σ:St} {o:Oper} {K:St->Prop}
theorem ZtM {U:Nat->Prop} {base:Nat} {S0:Nat->Prop} {t:TypeId} {x:Operand} {lo hi:Option Operand} (ho:o.op=.slice t x lo hi none) {k cap ety sz:Nat} {a:Option Addr} {rows:List (List C)} {l h:Int} (hx:nrm σ.m (evA σ.s x)=.buf k) (hm:gm σ.m k=some (.buf (some (a,cap)) ety sz rows)) (ht:ZaP e.P t=some sz)
  (hlo:loA (lo.map (evA σ.s))=some l) (hhi:hiA rows.length (hi.map (evA σ.s))=some h) (hb:0<=l∧l<=h∧h<=rows.length):ZaZ e U base S0 σ.m o (evA σ.s) (.d (.one (.lit (sliced a l.toNat h.toNat cap sz)))):=by
 refine Zax fun w S L ρv hC hr=>?_
 have hx':=ZbX hC (hr x (by simp [ho,Op.operands]))
 rw [hx] at hx'
 have hx':ρv x=L.v k:=hx'
 obtain ⟨hpl,_,_,hbuf⟩:=hC.own k _ hm
 have hv:L.v k=.slice a rows.length cap:=hpl (a,cap) rfl
 have hcap:rows.length<=cap:=by
  rcases hbuf with ⟨h4,_⟩ | ⟨g,cap',cur,h4,_,_,_,_,h5,_⟩
  ·rw [h4];exact Taj _
  ·rw [hv] at h4;injection h4 with _ _ h4;rw [h4];exact h5
 have hel:∃ ety i,e.P.underlying t=some (.slice ety)∧e.P.info? ety=some i∧i.size=sz:=by
  unfold ZaP at ht
  split at ht
  ·rename_i ety hu
   simp only [Tau] at ht
   obtain ⟨i,hi,hs⟩:=ht
   exact ⟨ety,i,hu,hi,hs⟩
  ·cases ht
 obtain ⟨el,i,hu,hi',hsz⟩:=hel
 have hlo:=ZhV (w:=w) (S:=S) (L:=L) (ρv:=ρv) hlo (fun y hy=>hr y (by simp [ho,Op.operands,hy]))
 have hhi:=ZhW (w:=w) (S:=S) (L:=L) (ρv:=ρv) hhi (fun y hy=>hr y (by simp [ho,Op.operands,hy]))
 refine ⟨sliced a l.toNat h.toNat cap sz,?_,by simp [ARel,DRel,Rep]⟩
 have hbnd:(Instr.sliceBounds true rows.length cap (lo.map ρv) (hi.map ρv) none).run e.P w=.ok (l.toNat,h.toNat,cap) w:=by
  have eh:(h.toNat:Int)=h:=Int.toNat_of_nonneg om
  have b1:0<=h:=by omega
  have b2:h<=(cap:Int):=by omega
  have b3:0<=l:=hb.1
  have b4:l<=h:=hb.2.1
  rcases hlo with ⟨rfl,rfl⟩ | e1 <;> rcases hhi with ⟨rfl,e2⟩ | e2
  ·simp [Instr.sliceBounds,e2,Result.andThen]
  ·simp [Instr.sliceBounds,e2,Result.andThen,run_sliceBound,b1,b2]
  ·have b5:l<=(rows.length:Int):=by omega
   simp [Instr.sliceBounds,e1,e2,Result.andThen,run_sliceBound,b3,b5]
  ·simp [Instr.sliceBounds,e1,e2,Result.andThen,run_sliceBound,b1,b2,b3,b4,eh]
 simp only [execOp,ho,Sem.run_bind,hx',hv,Instr.sliceAt,Instr.slice,underlying,run_program,Result.andThen_ok,hu,Sem.run_pure,Option.map_none,hbnd,sizeOf,typeInfo,hi',hsz,sliced]
theorem ZpM {x:Operand} {t:TypeId} (ho:o.op=.call ⟨.builtin .clear,#[x],#[t]⟩) {k cap ety sz by' l:Nat} {a:Option Addr} {rows:List (List C)} {z:List C} (hx:evA σ.s x=.d (.one (.lit (sliced a l rows.length cap sz)))) (hm:gm σ.m k=some (.buf (some (a,cap)) ety sz rows)) (ht:ZaF e.P t=some (ety,sz,by')) (hz:Zaq e.P ety=some z) (hzok:z.all Zav=true) (hl:l < rows.length)
  (hK:K ⟨setA σ.s o.dst (.tup []),(k,.buf (some (a,cap)) ety sz (rows.take l++List.replicate (rows.length - l) z))::remM k σ.m⟩):Zbc e o σ K:=by
 intro he U w0 S0 nt ac w Q hd ⟨S,L,h1⟩
 have hx':=h1.eval x
 rw [hx] at hx'
 have hx':=ZaS hx'
 obtain ⟨hpl,hs0,_,hbuf⟩:=h1.cls.own k _ hm
 have hv:L.v k=.slice a rows.length cap:=hpl (a,cap) rfl
 obtain ⟨i,zv,hu,hi,hzz,hsz,hby,hzs,hs0,hb4⟩:=Zb8 ht
 have hzc:z=zv.cells.toList.map toC:=by
  unfold Zaq at hz
  simp only [hi,Option.bind_some,hzz,Option.map_some,Taq] at hz
  exact hz.symm
 rcases hbuf with ⟨h4,_⟩ | ⟨g,cap',cur,h4,h6,_,_,_,h5,_⟩
 ·rw [h4] at hl;simp at hl
 ·rw [hv] at h4
  injection h4 with h7 _ h8
  subst h7 h8
  have hlc:¬ cap=l:=by omega
  have hval:sliced (some ⟨g,0,none⟩) l rows.length cap sz=.slice (some ⟨g,l * sz,none⟩) (rows.length - l) (cap - l):=by
   simp only [sliced,hlc,if_false,Option.map_some,Addr.add_at,Nat.zero_add]
  have hn:rowsLen sz (List.replicate (rows.length - l) z):=fun r hr=>by
   rw [List.eq_of_mem_replicate hr]
   exact ⟨by rw [hzc];simp [hzs],hzok⟩
  have hu':Zaa w S (List.replicate (rows.length - l) z).flatten ((List.replicate (rows.length - l) zv).flatMap fun v=>v.cells.toList):=by rw [hzc];exact Zgz _
  obtain ⟨w',hst,hsim⟩:=h1.storeRows he (l:=l) (g:=g) hm (by rw [hv];simp only [vblk];rw [if_neg om]) (by simp;omega) hn hu'
  rw [List.length_replicate,show l+(rows.length - l)=rows.length by omega,List.drop_length,List.append_nil] at hsim
  obtain ⟨S',L',hsim⟩:=hsim
  have hzc2:(Builtin.zeroCells zv.cells (rows.length - l)).toList=(List.replicate (rows.length - l) zv).flatMap fun v=>v.cells.toList:=by
   have:=Zio zv sz hs0 hzs (rows.length - l)
   rw [<- this]
   simp [Builtin.zeroCells,madeCells,hzs]
  have hrun:(execOp ac.eval o).run e.P w=.ok (.value (.tuple #[])) w':=by
   have hne:¬ (rows.length - l=0):=by omega
   obtain ⟨q,hq⟩:∃ q,rows.length - l=q+1:=⟨rows.length - l - 1,by omega⟩
   rw [hq] at hst hzc2
   simp [execOp,ho,resolve,invoke,builtin,Builtin.clear_,hx',hval,hq,underlying,hu,zeroValue,hi,hzz,typeInfo,Result.andThen,hzc2,hst]
  unfold Oper.wp
  rw [hrun,Oper.upon_value]
  refine ⟨_,hK,S',L',hsim.put (α:=.tup []) (v:=.tuple #[]) ⟨[],rfl,trivial⟩ hd⟩
end
theorem ZAa {a:Option Addr} {cap ety sz:Nat} {rows:List (List C)} (m:Nat) (hm:m<=rows.length):Zcy [.buf (some (a,cap)) ety sz rows] [.buf (some (a,cap)) ety sz (rows.take m)]:=fun w S h ha=>by
 have hl:(rows.take m).length=m:=by rw [Tav];omega
 obtain ⟨h0,hrl,hc⟩:ZaG w S ety sz rows (.slice a rows.length cap):=h (.buf (some (a,cap)) ety sz rows) (by simp)
 have hb:∀ b,vblk (.slice a m cap)=some b ↔ vblk (.slice a rows.length cap)=some b:=fun b=>by cases a <;> simp [vblk]
 refine ⟨fun x hx=>?_,ZeL _,fun g ⟨x,hx,hg⟩=>?_⟩
 ·simp only [Tbd,List.not_mem_nil,or_false] at hx
  subst hx
  show ZaG w S ety sz (rows.take m) (.slice a (rows.take m).length cap)
  rw [hl]
  refine ⟨h0,fun r hr=>hrl r (List.mem_of_mem_take hr),?_⟩
  rcases hc with ⟨h4,p,h5⟩ | ⟨g,cap',cur,h4,h5,h6,h7,h8,h9,h10,h11,h12⟩
  ·subst h4
   simp only [Tak,Nat.le_zero_eq] at hm
   subst hm
   exact .inl ⟨by simp,p,by simpa using h5⟩
  ·injection h4 with e1 e2 e3
   subst e1 e3
   refine .inr ⟨g,cap,cur,by rw [hl],h5,h6,h7,h8,by rw [hl];omega,h10,h11,?_⟩
   have:=Zai.sub hrl h12 0 m
   simpa using this
 ·simp only [Tbd,List.not_mem_nil,or_false] at hx
  subst hx
  refine ⟨.buf (some (a,cap)) ety sz rows,by simp,?_⟩
  simp only [pblk,hl] at hg ⊢
  exact (hb g).1 hg
theorem ZpN {e:Env} {ds:List (Option Nat)} {K:St->Prop} {n:Nat} {os:List Oper} {o:Oper} {σ:St} (hg:o.guard=none) (hal:isAl o=false) (h:ZdX e o σ (fun σ'=>Runs e ds n os σ' K)):Runs e ds (n+1) (o::os) σ K:=by
 simp only [Runs,hg]
 rw [if_neg (by simp [hal])]
 exact h
theorem Zzf {e:Env} {K:St->Prop} {ds:List (Option Nat)} {os:List Oper} {n d t ty cap ety sz:Nat} {p:String} {ed:Array Edge} {x:Operand} {lo hi:Option Operand} {s:List (Nat × A)} {m:List (Nat × Bk)} {a:Option Addr} {rows:List (List C)} (k l h:Nat) (hb:l<=h∧h<=rows.length) (hK:Runs e ds n os ⟨(d,.d (.one (.lit (sliced a l h cap sz))))::s,m⟩ K)
  (hx:nrm m (evA s x)=.buf k:=by exact sfx) (hm:gm m k=some (.buf (some (a,cap)) ety sz rows):=by exact snv) (ht:ZaP e.P t=some sz:=by exact snx)
  (hlo:loA (lo.map (evA s))=some (l:Int):=by exact sfx) (hhi:hiA rows.length (hi.map (evA s))=some (h:Int):=by exact sfx):Runs e ds (n+1) (⟨some d,.slice t x lo hi none,ty,p,ed,none⟩::os) ⟨s,m⟩ K :=
 ZpN rfl rfl fun he=>⟨_,by simpa only [Tbt,setA] using hK,fun U base S0=>ZtM (o:=⟨some d,.slice t x lo hi none,ty,p,ed,none⟩) rfl hx hm ht hlo hhi ⟨by omega,by omega,by omega⟩⟩
theorem ZAb {e:Env} {K:St->Prop} {ds:List (Option Nat)} {os:List Oper} {t ty cap ety sz by' l:Nat} {dd:Option Nat} {p:String} {ed:Array Edge} {x:Operand} {s s':List (Nat × A)} {m m':List (Nat × Bk)} {a:Option Addr} {rows:List (List C)} {z:List C} (k:Nat) (hl:l < rows.length) (hK:Runs e ds 0 os ⟨s',(k,.buf (some (a,cap)) ety sz (rows.take l++List.replicate (rows.length - l) z))::m'⟩ K)
  (hx:evA s x=.d (.one (.lit (sliced a l rows.length cap sz))):=by exact snv) (hm:gm m k=some (.buf (some (a,cap)) ety sz rows):=by exact snv) (ht:ZaF e.P t=some (ety,sz,by'):=by exact snx) (hz:Zaq e.P ety=some z:=by exact snx) (hzok:z.all Zav=true:=by first | rfl | simp only [pz,↓reduceIte,Nat.reduceEqDiff,Nat.reduceAdd,Nat.reduceSub,Nat.reduceMul,Nat.reduceLeDiff,Nat.reduceBEq,Tam,decide_true,decide_false,Int.reduceLE,Int.reduceToNat,Int.reduceLT,Int.reduceEq,eq_self,Nat.reduceShiftRight,Nat.reduceAnd,Nat.reduceBneDiff])
  (hs:setA s dd (.tup [])=s':=by simp only [setA];exact rfl) (hr:remM k m=m':=by exact snv):Runs e ds 0 (⟨dd,.call ⟨.builtin .clear,#[x],#[t]⟩,ty,p,ed,none⟩::os) ⟨s,m⟩ K:=by
 subst hs hr
 simp only [Runs] at hK ⊢
 exact Zck rfl (ZpM (o:=⟨dd,.call ⟨.builtin .clear,#[x],#[t]⟩,ty,p,ed,none⟩) rfl hx hm ht hz hzok hl hK)
theorem Zmt (a:Option Addr) (k cap sz:Nat):sliced a 0 k cap sz=.slice a k cap:=by
 cases a with
 | none=>simp [sliced]
 | some p =>
  have:p.add 0=p:=by cases p;simp [Addr.add]
  simp [sliced,this]
theorem ZeE {r:List C} (h:Zae (Zab .term) r):∃ (i0:Int) (t1:ByteArray) (i2:Int) (r3:List (List C)),r=[.lit (.int .i64 i0),.lit (.string t1),.lit (.int .i64 i2),.sl r3]∧I64 i0∧t1.size<=maxLen∧I64 i2∧Zam (Zab .term) r3:=by
 obtain ⟨c0,c1,c2,c3,rfl⟩:=len4 h.len
 simp only [Zab,Zbb,occF,Zb0,sigF,Zdw,algF,Taf,Tah,redF,Zae,and_true] at h
 obtain ⟨h0,h1,h2,h3⟩:=h
 obtain ⟨i0,rfl,g0⟩:=Zdx h0
 obtain ⟨t1,rfl,g1⟩:=Zjd h1
 obtain ⟨i2,rfl,g2⟩:=Zdx h2
 obtain ⟨r3,rfl,g3⟩:=ZdD h3
 exact ⟨i0,t1,i2,r3,rfl,g0,g1,g2,g3⟩
theorem ZpO {i0:Int} {t1:ByteArray} {i2:Int} {r3:List (List C)} (g0:I64 i0) (g1:t1.size<=maxLen) (g2:I64 i2) (g3:Zam (Zab .term) r3):Zae (Zab .term) [.lit (.int .i64 i0),.lit (.string t1),.lit (.int .i64 i2),.sl r3]:=by
 simp only [Zab,Zbb,occF,Zb0,sigF,Zdw,algF,Taf,Tah,redF,Zae,and_true]
 exact ⟨ZkT g0,Zqy g1,ZkT g2,Zib g3⟩
inductive Tm where
 | mk (op:Int) (name:ByteArray) (sort:Int) (args:List Tm)
def Tm.args:Tm->List Tm | .mk _ _ _ a=>a
def Tm.op:Tm->Int | .mk a _ _ _=>a
def Tm.name:Tm->ByteArray | .mk _ a _ _=>a
def Tm.sort:Tm->Int | .mk _ _ a _=>a
mutual
def Zah:Tm->List C
 | .mk op nm so args=>[.lit (.int .i64 op),.lit (.string nm),.lit (.int .i64 so),.sl (Zaf args)]
def Zaf:List Tm->List (List C)
 | []=>[]
 | t::ts=>Zah t::Zaf ts
end
mutual
def okTm:Tm->Prop
 | .mk op nm so args=>I64 op∧nm.size<=maxLen∧I64 so∧Zbj args
def Zbj:List Tm->Prop
 | []=>True
 | t::ts=>okTm t∧Zbj ts
end
theorem ZbK (ts:List Tm):Zaf ts=ts.map Zah:=by
 induction ts with
 | nil=>simp [Zaf]
 | cons t ts ih=>simp [Zaf,ih]
theorem ZaH (ts:List Tm):(Zaf ts).length=ts.length:=by simp [ZbK]
theorem Zcm (ts:List Tm) (i:Nat):(Zaf ts)[i]?=ts[i]?.map Zah:=by simp [ZbK]
mutual
theorem ZtN:∀ (t:Tm),okTm t->Zae (Zab .term) (Zah t)
 | .mk op nm so args,h=>by
  simp only [okTm] at h
  simp only [Zah]
  exact ZpO h.1 h.2.1 h.2.2.1 (Zc8 args h.2.2.2)
theorem Zc8:∀ (ts:List Tm),Zbj ts->Zam (Zab .term) (Zaf ts)
 | [],_=>by simp [Zaf,Zam]
 | t::ts,h=>by
  simp only [Zbj] at h
  simp only [Zaf,Zam]
  exact ⟨ZtN t h.1,Zc8 ts h.2⟩
end
theorem Zvg (n:Nat):(∀ row,ZbE row < n->Zae (Zab .term) row->∃ t,row=Zah t∧okTm t)∧(∀ rows,Zbz rows < n->Zam (Zab .term) rows->∃ ts,rows=Zaf ts∧Zbj ts):=by
 induction n with
 | zero=>exact ⟨fun _ h=>by omega,fun _ h=>by omega⟩
 | succ n ih =>
  have h1:∀ row,ZbE row < n+1->Zae (Zab .term) row->∃ t,row=Zah t∧okTm t:=by
   intro row hn hok
   obtain ⟨i0,t1,i2,r3,rfl,g0,g1,g2,g3⟩:=ZeE hok
   obtain ⟨ts,rfl,hts⟩:=ih.2 r3 (by simp only [ZbE,Zfv] at hn;omega) g3
   exact ⟨.mk i0 t1 i2 ts,by simp [Zah],by simp only [okTm];exact ⟨g0,g1,g2,hts⟩⟩
  refine ⟨h1,fun rows=>?_⟩
  induction rows with
  | nil=>exact fun _ _=>⟨[],by simp [Zaf],by simp [Zbj]⟩
  | cons r rs ihr =>
   intro hn hok
   simp only [Zbz] at hn
   simp only [Zam] at hok
   obtain ⟨t,rfl,ht⟩:=h1 r om hok.1
   obtain ⟨ts,rfl,hts⟩:=ihr om hok.2
   exact ⟨t::ts,by simp [Zaf],by simp only [Zbj];exact ⟨ht,hts⟩⟩
theorem Zzg {row:List C} (h:Zae (Zab .term) row):∃ t,row=Zah t∧okTm t:=(Zvg _).1 row (Tan _) h
theorem Zbj.mem:∀ {ts:List Tm} {t:Tm},Zbj ts->t∈ts->okTm t
 | [],_,_,h=>by simp at h
 | x::xs,t,h,ht=>by
  simp only [Zbj] at h
  rcases Tbd.1 ht with rfl | ht
  ·exact h.1
  ·exact Zbj.mem h.2 ht
def ZaI (a b:Int):Int:=if a < b then -1 else if b < a then 1 else 0
def Zbf (a b:ByteArray):Int:=Lib.compareBytes a.data.toList b.data.toList
def Zaw:List Int->Int
 | []=>0
 | x::xs=>if x=0 then Zaw xs else x
mutual
def Zas:Tm->Tm->Int
 | .mk o n s a,.mk o' n' s' a'=>Zaw [ZaI o o',Zbf n n',ZaI s s',Zaz a a']
def Zaz:List Tm->List Tm->Int
 | [],[]=>0
 | [],_::_=>-1
 | _::_,[]=>1
 | x::xs,y::ys=>Zaw [Zas x y,Zaz xs ys]
end
theorem Zev:∀ (l:List UInt8),Lib.compareBytes l l=0
 | []=>rfl
 | x::xs=>by simp [Lib.compareBytes,Zev xs]
theorem Zew:∀ {l m:List UInt8},Lib.compareBytes l m=0->l=m
 | [],[],_=>rfl
 | [],_::_,h=>by simp [Lib.compareBytes] at h
 | _::_,[],h=>by simp [Lib.compareBytes] at h
 | x::xs,y::ys,h=>by
  simp only [Lib.compareBytes] at h
  split at h
  ·simp at h
  ·split at h
   ·simp at h
   ·rename_i h1 h2
    have e:x=y:=UInt8.le_antisymm (UInt8.not_lt.1 h2) (UInt8.not_lt.1 h1)
    rw [e,Zew h]
theorem Zex:∀ (l m:List UInt8),Op.bytesLess l m=decide (Lib.compareBytes l m=-1)
 | [],[]=>by simp [Op.bytesLess,Lib.compareBytes]
 | [],_::_=>by simp [Op.bytesLess,Lib.compareBytes]
 | _::_,[]=>by simp [Op.bytesLess,Lib.compareBytes]
 | x::xs,y::ys=>by
  have ih:=Zex xs ys
  simp only [Op.bytesLess,Lib.compareBytes,ih]
  by_cases h1:x < y
  ·simp [h1]
  ·by_cases h2:y < x
   ·have:¬ x=y:=fun e=>by subst e;exact h1 h2
    simp [h1,h2,this]
   ·have e:x=y:=UInt8.le_antisymm (UInt8.not_lt.1 h2) (UInt8.not_lt.1 h1)
    subst e
    simp [h1]
theorem Zep:∀ (l m:List UInt8),Lib.compareBytes l m=-1∨Lib.compareBytes l m=0∨Lib.compareBytes l m=1
 | [],[]=>by simp [Lib.compareBytes]
 | [],_::_=>by simp [Lib.compareBytes]
 | _::_,[]=>by simp [Lib.compareBytes]
 | x::xs,y::ys=>by
  have ih:=Zep xs ys
  simp only [Lib.compareBytes]
  split
  ·simp
  ·split
   ·simp
   ·exact ih
theorem Zb9 {a b:Int}:ZaI a b=0 ↔ a=b:=by unfold ZaI;split <;> (try split) <;> simp <;> omega
theorem Zd8 {a b:ByteArray}:Zbf a b=0 ↔ a=b:=by
 constructor
 ·intro h
  have:=Zew h
  obtain ⟨⟨la⟩⟩:=a
  obtain ⟨⟨lb⟩⟩:=b
  simp at this
  rw [this]
 ·rintro rfl
  exact Zev _
theorem Zlw (a b:ByteArray):Zbf a b=-1∨Zbf a b=0∨Zbf a b=1:=Zep _ _
theorem Zfo:∀ {ps qs:List Tm} {k:Nat} {x y:Tm},ps[k]?=some x->qs[k]?=some y->Zaz (ps.drop k) (qs.drop k)=Zaw [Zas x y,Zaz (ps.drop (k+1)) (qs.drop (k+1))]:=by
 intro ps qs k x y h1 h2
 have e1:ps.drop k=x::ps.drop (k+1):=by
  obtain ⟨hl,hx⟩:=Tad.1 h1
  rw [<- hx];exact List.drop_eq_getElem_cons hl
 have e2:qs.drop k=y::qs.drop (k+1):=by
  obtain ⟨hl,hx⟩:=Tad.1 h2
  rw [<- hx];exact List.drop_eq_getElem_cons hl
 rw [e1,e2,Zaz]
theorem ZiC (a b:Int) (w:World):Calls Tryz.prog 251 #[.int .i64 a,.int .i64 b] w fun e w'=>e=.returned (.int .i64 (ZaI a b))∧w=w':=by
 unfold ZaI
 by_cases h1:a < b
 ·rw [if_pos h1]
  go_enter Tryz.func251,Tryz.ntmps251
  go_wp2
  go_ret
  exact ⟨rfl,rfl⟩
 ·by_cases h2:b < a
  ·rw [if_neg h1,if_pos h2]
   go_enter Tryz.func251,Tryz.ntmps251
   go_wp2
   go_ret
   exact ⟨rfl,rfl⟩
  ·rw [if_neg h1,if_neg h2]
   go_enter Tryz.func251,Tryz.ntmps251
   go_wp2
   go_ret
   exact ⟨rfl,rfl⟩
theorem Zjm (a b:ByteArray) (w:World):Calls Tryz.prog 296 #[.string a,.string b] w fun e w'=>e=.returned (.int .i64 (Zbf a b))∧w=w':=by
 go_enter Tryz.func296,Tryz.ntmps296
 go_wp2
 rw [run_callFunc_extern Tryz.func318 (by kernel_rfl) (by kernel_rfl) (by kernel_rfl) (e:=Extern.BytealgCompare.compare) (by kernel_rfl),Lib.run_compareString]
 simp only [Result.andThen]
 rw [Oper.upon_value]
 go_wp2
 go_ret
 exact ⟨rfl,rfl⟩
theorem ZfC (a b:ByteArray) (w:World):Calls Tryz.prog 252 #[.string a,.string b] w fun e w'=>e=.returned (.int .i64 (Zbf a b))∧w=w':=by
 go_enter Tryz.func252,Tryz.ntmps252
 go_wp2_with fail
 refine (Zjm _ _ _).mono ?_
 rintro e w' ⟨rfl,rfl⟩
 go_wp2
 go_ret
 exact ⟨rfl,rfl⟩
theorem ZgO {l:List Int} {k:Nat} {x:Int} (h:l[k]?=some x):Zaw (l.drop k)=if x=0 then Zaw (l.drop (k+1)) else x:=by
 obtain ⟨hl,hx⟩:=Tad.1 h
 rw [List.drop_eq_getElem_cons hl,hx,Zaw]
theorem ZAw (l:List Int) (g n cap:Nat) (w:World) (hn:l.length=n) (hm:n<=9223372036854775807) (hc:∀ (i:Nat) x,l[i]?=some x->w.cell? ⟨g,i,none⟩=some (.int .i64 x)) :
  Calls Tryz.prog 189 #[.slice (some ⟨g,0,none⟩) n cap] w fun e w'=>e=.returned (.int .i64 (Zaw l))∧w=w':=by
 have HC:=Lib.hid hc
 have HN:=Lib.hid hn
 clear hc hn
 go_enter Tryz.func189,Tryz.ntmps189
 go_wp2
 go_loop [8] (fun i=>∃ k:Nat,k<=n∧i=.int .i64 k∧Zaw l=Zaw (l.drop k)) (fun i=>n - (intOf i).toNat)
 case atStart=>exact ⟨0,Taj _,rfl,rfl⟩
 case round =>
  obtain ⟨k,hk,rfl,hz⟩:=hrel
  have HZ:=Lib.hid hz
  clear hz
  by_cases hkn:k < n
  ·have hget:l[k]?=some (l[k]'(by have:=HN.out;omega)):=Taa _
   generalize (l[k]'(by have:=HN.out;omega))=x at hget
   have hcell:=HC.out k x hget
   have hd:=Lib.hid (ZgO hget)
   clear hget
   by_cases hx:x=0
   ·subst hx
    go_wp2
    go_round
    case rel=>exact ⟨k+1,by omega,by go_num,by rw [HZ.out,hd.out,if_pos rfl]⟩
    case measure=>simp [intOf];omega
   ·have hx1:(x==0)=false:=by simpa using hx
    have hx2:(x != 0)=true:=by simpa using hx
    go_wp2
    go_ret
    exact ⟨Zbv (by rw [HZ.out,hd.out,if_neg hx]),rfl⟩
  ·go_wp2
   go_ret
   refine ⟨Zbv ?_,rfl⟩
   rw [HZ.out,List.drop_eq_nil_of_le (by have:=HN.out;omega)]
   rfl
theorem Zlx (t:Tm):(Zah t).length=4:=by cases t;rfl
theorem Zpd (t:Tm):(Zah t).take 4=Zah t:=by cases t;rfl
theorem Zpe (t:Tm):(Zah t).drop 4=[]:=by cases t;rfl
theorem ZpP (t:Tm):(Zah t).all Zav=true:=by cases t;rfl
theorem Zdt (ts:List Tm):ZaE 4 (Zaf ts)=true:=by
 rw [ZbK]
 exact ZcA (e:=Zah) (n:=4) (fun t=>by rw [Zlx,ZpP];rfl) ts
theorem Zzh (t:Tm):valT .one (Zah t)=some (.d (.one (.lit (.int .i64 t.op)))):=by cases t;rfl
theorem Zzi (t:Tm):(Zah t).drop 1=[.lit (.string t.name),.lit (.int .i64 t.sort),.sl (Zaf t.args)]:=by cases t;rfl
theorem Zzj (t:Tm):(Zah t).drop 2=[.lit (.int .i64 t.sort),.sl (Zaf t.args)]:=by cases t;rfl
theorem Zzk (t:Tm):(Zah t).drop 3=[.sl (Zaf t.args)]:=by cases t;rfl
theorem tmz:type_of% (ai Zzh (ai Zzi (ai Zzj (ai Zzk (ai Zlx (ai Zpd (ai Zpe (ai ZpP (ai Zdt (ai Zcm (ai ZaH @Zar))))))))))):=(ai Zzh (ai Zzi (ai Zzj (ai Zzk (ai Zlx (ai Zpd (ai Zpe (ai ZpP (ai Zdt (ai Zcm (ai ZaH @Zar)))))))))))
theorem Zly {e:Env} {f:FuncId} {args:List D} {x:Value} (hb:Zbw e.P f=true) (h:∀ (w:World) (S:Nat->Prop) (vs:List Value),Zay w S args vs->Calls e.P f vs.toArray w fun en w'=>en=.returned x∧w=w'):Con e f args [.one (.lit x)] :=
 ⟨hb,fun w S vs _ _ hG hv=>(h w S vs hv).mono fun en w' ⟨h1,h2⟩=>by subst h2;exact ⟨x,h1,Kept.refl ..,hG,by simp [retA,ARel,DRel,Rep]⟩⟩
theorem Zvh {e:Env} {f:FuncId} {args r:List D} {φ:Prop} (hb:Zbw e.P f=true) (hφ:∀ (w:World) (S:Nat->Prop) (vs:List Value),Zay w S args vs->φ) (h:φ->Con e f args r):Con e f args r :=
 ⟨hb,fun w S vs h1 h2 h3 h4=>(h (hφ w S vs h4)).2 w S vs h1 h2 h3 h4⟩
theorem ZjU (a b:Int):Con e1 251 [.one (.lit (.int .i64 a)),.one (.lit (.int .i64 b))] [.one (.lit (.int .i64 (ZaI a b)))]:=by
 refine Zly (by kernel_rfl) fun w S vs h=>?_
 match vs,h with
 | [x,y],h =>
  obtain ⟨hx,hy,_⟩:=h
  have hx:x=.int .i64 a:=hx
  have hy:y=.int .i64 b:=hy
  subst hx hy
  exact ZiC a b w
theorem ZtO (a b:ByteArray):Con e1 252 [.one (.lit (.string a)),.one (.lit (.string b))] [.one (.lit (.int .i64 (Zbf a b)))]:=by
 refine Zly (by kernel_rfl) fun w S vs h=>?_
 match vs,h with
 | [x,y],h =>
  obtain ⟨hx,hy,_⟩:=h
  have hx:x=.string a:=hx
  have hy:y=.string b:=hy
  subst hx hy
  exact ZfC a b w
theorem ZpQ (l:List Int) (hl:l.length<=1048576):Con e1 189 [.clip (l.map fun n=>[.lit (.int .i64 n)])] [.one (.lit (.int .i64 (Zaw l)))]:=by
 have rb:ZaE 1 (l.map fun n=>[C.lit (.int .i64 n)])=true:=ZcA (e:=fun n=>[C.lit (.int .i64 n)]) (n:=1) (fun _=>rfl) l
 refine gI (ts:=[.slot 2]) 17389 Tryz.func189 ?_
 (have F:=@rb;refine gG ?_;clear F)
 (have F:=@rb;refine gL (ι:=Nat) [2,5,8,9,14] [] (fun x=>[(8,.d (.one (.lit (.int .i64 (x:Int)))))]) (fun x=>[]) (fun x=>x<=l.length∧Zaw l=Zaw (l.drop x)) (fun x=>l.length - x) (0) (⟨Taj _,rfl⟩) (fun x hx=>?_);clear F)
 obtain ⟨hi,hf⟩:=hx
 rw [hf]
 clear hf
 by_cases hlt:x < l.length
 ·obtain ⟨n,hn⟩:∃ n,l[x]?=some n:=⟨_,Taa hlt⟩
  have q1:((x:Int) < (l.length:Int))=True:=eq_true om
  have q4:IntKind.i64.wrap ((x:Int)+1)=(x:Int)+1:=IntWalk.i64_in _ om
  rw [ZgO hn]
  by_cases h0:n=0
  ·subst h0
   rw [if_pos rfl]
   (have F:=ai @q1 (ai @rb @hn);refine gG ?_;clear F)
   (have F:=@q4;refine gG ?_;exact ⟨x+1,⟨hlt,rfl⟩,gw,gw,by omega⟩)
  ·have q2:(n=0)=False:=eq_false h0
   rw [if_neg h0]
   (have F:=ai @q1 (ai @rb (ai @hn @q2));refine gG ?_;exact gTd)
 ·obtain rfl:x=l.length:=by omega
  have q1:((l.length:Int) < (l.length:Int))=False:=eq_false om
  rw [List.drop_length]
  simp only [Zaw]
  (have F:=@q1;refine gG ?_;exact gTd)
theorem Zmu {b:List Tm} {k:Nat} {xs:List Tm} (h:xs.length<=k):Zaz (xs.drop k) b=if b=[] then 0 else -1:=by
 rw [List.drop_eq_nil_of_le h]
 cases b with
 | nil=>simp [Zaz]
 | cons x xs=>simp [Zaz]
theorem Zmv {a:Tm} {k:Nat} {xs bs:List Tm} (ha:xs[k]?=some a) (h:bs.length<=k):Zaz (xs.drop k) (bs.drop k)=1:=by
 obtain ⟨hl,hx⟩:=Tad.1 ha
 rw [List.drop_eq_nil_of_le h,List.drop_eq_getElem_cons hl]
 simp [Zaz]
theorem ZiD (xs bs:List Tm) (hla:xs.length<=maxLen) (hlb:bs.length<=maxLen) (h:∀ a∈xs,∀ b∈bs,Con e1 182 [.agg (Zah a),.agg (Zah b)] [.one (.lit (.int .i64 (Zas a b)))]):Con e1 253 [.one (.sl (Zaf xs)),.one (.sl (Zaf bs)),.one (.fn 182 [])] [.one (.lit (.int .i64 (Zaz xs bs)))]:=by
 unfold maxLen at hla hlb
 refine gI (ts:=[.slot 6]) 277027520455 Tryz.func253 ?_
 (have F:=@tmz;refine gG ?_;clear F)
 (have F:=@tmz;refine gL (ι:=Nat) [6,7,8,9,10,13,14,21,31] [] (fun x=>[(13,.d (.one (.lit (.int .i64 (x:Int)))))]) (fun x=>[]) (fun x=>x<=xs.length∧x<=bs.length∧Zaz xs bs=Zaz (xs.drop x) (bs.drop x)) (fun x=>xs.length - x) (0) (⟨Taj _,Taj _,rfl⟩) (fun x hx=>?_);clear F)
 obtain ⟨hi,hj,hf⟩:=hx
 rw [hf]
 clear hf
 by_cases hlt:x < xs.length
 ·obtain ⟨a,ha⟩:∃ n,xs[x]?=some n:=⟨_,Taa hlt⟩
  have q1:((x:Int) < (xs.length:Int))=True:=eq_true om
  by_cases hlt2:x < bs.length
  ·obtain ⟨b,hb⟩:∃ n,bs[x]?=some n:=⟨_,Taa hlt2⟩
   have q2:((x:Int) ≥ (bs.length:Int))=False:=eq_false om
   have q4:IntKind.i64.wrap ((x:Int)+1)=(x:Int)+1:=IntWalk.i64_in _ om
   rw [Zfo ha hb]
   simp only [Zaw]
   (have F:=ai @q1 (ai @q2 (ai @tmz (ai @ha @hb)));refine gG ?_;clear F)
   refine gB ?_
   (have F:=@tmz;refine gC (h a (Tac ha) b (Tac hb)) ?_;clear F)
   (have F:=@tmz;refine gR ?_;clear F)
   by_cases h0:Zas a b=0
   ·have q3:(Zas a b=0)=True:=eq_true h0
    rw [if_pos h0,show (if Zaz (xs.drop (x+1)) (bs.drop (x+1))=0 then (0:Int) else Zaz (xs.drop (x+1)) (bs.drop (x+1)))=Zaz (xs.drop (x+1)) (bs.drop (x+1)) by split <;> simp_all]
    (have F:=ai @tmz @q3;refine gG ?_;clear F)
    (have F:=@q4;refine gG ?_;exact ⟨x+1,⟨hlt,hlt2,rfl⟩,gw,gw,by omega⟩)
   ·have q3:(Zas a b=0)=False:=eq_false h0
    rw [if_neg h0]
    (have F:=ai @tmz @q3;refine gG ?_;exact gTd)
  ·have q2:((x:Int) ≥ (bs.length:Int))=True:=eq_true om
   rw [Zmv ha om]
   (have F:=ai @q1 (ai @q2 (ai @tmz @ha));refine gG ?_;exact gTd)
 ·have q1:((x:Int) < (xs.length:Int))=False:=eq_false om
  rw [Zmu om]
  by_cases h2:xs.length < bs.length
  ·have q2:((xs.length:Int) < (bs.length:Int))=True:=eq_true om
   rw [if_neg (by intro e;have:=congrArg List.length e;simp at this;omega)]
   (have F:=ai @q1 (ai @q2 @tmz);refine gG ?_;exact gTd)
  ·have q2:((xs.length:Int) < (bs.length:Int))=False:=eq_false om
   rw [if_pos (by apply List.drop_eq_nil_of_le;omega)]
   (have F:=ai @q1 (ai @q2 @tmz);refine gG ?_;exact gTd)
theorem Zpf {w:World} {S:Nat->Prop} {rows:List (List C)} {v:Value} (h:Rep w S (.sl rows) v):rows.length<=maxLen:=by
 simp only [Rep] at h
 obtain ⟨A,n,cap,_,h1,h2,h3,_⟩:=h
 omega
theorem Zlz (xs bs:List Tm) (h:∀ a∈xs,∀ b∈bs,Con e1 182 [.agg (Zah a),.agg (Zah b)] [.one (.lit (.int .i64 (Zas a b)))]):Con e1 253 [.one (.sl (Zaf xs)),.one (.sl (Zaf bs)),.one (.fn 182 [])] [.one (.lit (.int .i64 (Zaz xs bs)))]:=by
 refine Zvh (φ:=xs.length<=maxLen∧bs.length<=maxLen) (by kernel_rfl) (fun w S vs hv=>?_) fun hφ=>ZiD xs bs hφ.1 hφ.2 h
 match vs,hv with
 | [x,y,z],hv =>
  have h1:=Zpf hv.1
  have h2:=Zpf hv.2.1
  rw [ZaH] at h1 h2
  exact ⟨h1,h2⟩
theorem Zmw (a b:Tm) (h:∀ x∈a.args,∀ y∈b.args,Con e1 182 [.agg (Zah x),.agg (Zah y)] [.one (.lit (.int .i64 (Zas x y)))]):Con e1 182 [.agg (Zah a),.agg (Zah b)] [.one (.lit (.int .i64 (Zas a b)))]:=by
 obtain ⟨o,n,s,xs⟩:=a
 obtain ⟨o',n',s',bs⟩:=b
 simp only [Tm.args] at h
 have c1:Zah (.mk o n s xs)=[.lit (.int .i64 o),.lit (.string n),.lit (.int .i64 s),.sl (Zaf xs)]:=by simp only [Zah]
 have c2:Zah (.mk o' n' s' bs)=[.lit (.int .i64 o'),.lit (.string n'),.lit (.int .i64 s'),.sl (Zaf bs)]:=by simp only [Zah]
 have e3:Zas (.mk o n s xs) (.mk o' n' s' bs)=if Zaw [ZaI o o',Zbf n n',ZaI s s']=0 then Zaz xs bs else Zaw [ZaI o o',Zbf n n',ZaI s s']:=by
  simp only [Zas,Zaw]
  by_cases h1:ZaI o o'=0
  ·by_cases h2:Zbf n n'=0
   ·by_cases h3:ZaI s s'=0
    ·simp only [h1,h2,h3,if_true]
     split <;> simp_all
    ·simp only [h1,h2,h3,if_true,if_false]
   ·simp only [h1,h2,if_true,if_false]
  ·simp only [h1,if_false]
 have hor:=ZpQ [ZaI o o',Zbf n n',ZaI s s'] (by simp)
 simp only [Tbq,List.map_nil] at hor
 rw [e3]
 refine gI (ts:=[.slot 4]) 16777279 Tryz.func182 ?_
 (have F:=ai @c1 @c2;refine gG ?_;clear F)
 refine gB ?_
 (have F:=ai @c1 @c2;refine gC (ZjU o o') ?_;clear F)
 (have F:=ai @c1 @c2;refine gC (ZtO n n') ?_;clear F)
 (have F:=ai @c1 @c2;refine gC (ZjU s s') ?_;clear F)
 (have F:=ai @c1 @c2;refine gC (hor) ?_;clear F)
 (have F:=ai @c1 @c2;refine gR ?_;clear F)
 by_cases h0:Zaw [ZaI o o',Zbf n n',ZaI s s']=0
 ·have q3:(Zaw [ZaI o o',Zbf n n',ZaI s s']=0)=True:=eq_true h0
  rw [if_pos h0]
  (have F:=ai @q3 (ai @c1 @c2);refine gG ?_;clear F)
  refine gB ?_
  (have F:=ai @c1 @c2;refine gC (Zlz xs bs h) ?_;clear F)
  (have F:=ai @c1 @c2;refine gR ?_;clear F)
  (have F:=ai @c1 @c2;refine gG ?_;exact gTd)
 ·have q3:(Zaw [ZaI o o',Zbf n n',ZaI s s']=0)=False:=eq_false h0
  rw [if_neg h0]
  (have F:=ai @q3 (ai @c1 @c2);refine gG ?_;exact gTd)
theorem ZpR (n:Nat):∀ a b:Tm,ZbE (Zah a) < n->Con e1 182 [.agg (Zah a),.agg (Zah b)] [.one (.lit (.int .i64 (Zas a b)))]:=by
 induction n with
 | zero=>exact fun _ _ h=>by omega
 | succ n ih =>
  intro a b hn
  refine Zmw a b fun x hx y hy=>ih x y ?_
  obtain ⟨op,nm,so,args⟩:=a
  simp only [Zah,ZbE,Zfv] at hn
  simp only [Tm.args] at hx
  obtain ⟨i,hi⟩:=Tbh hx
  have hi':(Zaf args)[i]?=some (Zah x):=by rw [Zcm,hi];rfl
  have h1:=Zek hi'
  omega
theorem Zvi (a b:Tm):Con e1 182 [.agg (Zah a),.agg (Zah b)] [.one (.lit (.int .i64 (Zas a b)))]:=ZpR _ a b (Tan _)
theorem ZdJ {w:World} {S:Nat->Prop} {i0:Int} {t1:ByteArray} {i2:Int} {r3:List (List C)} {us:List Value} (h:Zaa w S [.lit (.int .i64 i0),.lit (.string t1),.lit (.int .i64 i2),.sl r3] us):∃ v3,us=[.int .i64 i0,.string t1,.int .i64 i2,v3]∧Rep w S (.sl r3) v3:=by
 obtain ⟨u0,u1,u2,u3,rfl⟩:=len4 h.len
 simp only [Zaa,Rep.lit_iff,and_true] at h
 obtain ⟨rfl,rfl,rfl,e3⟩:=h
 exact ⟨u3,rfl,e3⟩
theorem ZtP:(Tryz.prog.info? 46).map (fun i=>(i.zero,i.size,i.bytes))=some (some (.agg #[.int .i64 0,.string .empty,.int .i64 0,.slice none 0 0]),4,56):=by kernel_rfl
def Zeq (f:FuncId) (a b:Tm):Prop:=∀ (S S':Nat->Prop) (us us':List Value) (w:World),okTm a->okTm b->Zaa w S (Zah a) us->Zaa w S' (Zah b) us' ->
 Calls Tryz.prog f #[.agg us.toArray,.agg us'.toArray] w fun e w'=>e=.returned (.int .i64 (Zas a b))∧Below w.heap.size w w'
def Zha (f:FuncId) (x y:List Tm):Prop:=∀ (S S':Nat->Prop) (v v':Value) (w:World),Zbj x->Zbj y->Rep w S (.sl (Zaf x)) v->Rep w S' (.sl (Zaf y)) v' ->
 Calls Tryz.prog f #[v,v',.func (.func 182) #[] #[]] w fun e w'=>e=.returned (.int .i64 (Zaz x y))∧Below w.heap.size w w'
theorem Zet {a b:Int} (h:a=0):Zaw [a,b]=b:=by
 simp only [Zaw,h,if_true]
 split <;> simp_all
theorem Zfp {a b:Int} (h:a≠0):Zaw [a,b]=a:=by simp [Zaw,h]
theorem ZgP (x y:List Tm) (h:∀ (i:Nat) a b,x[i]?=some a->y[i]?=some b->Zeq 182 a b):Zha 253 x y:=by
 intro S S' v v' w hx hy hv hv'
 obtain ⟨A,m,cap,rfl,hm,hmc,hcm⟩:=hv.form
 obtain ⟨A',m',cap',rfl,hm',hmc',hcm'⟩:=hv'.form
 rw [ZaH] at hm hm'
 obtain ⟨ic,hci,_,hcs,_⟩:=info_parts ZtP
 have H:=Lib.hid h
 have HV:=Lib.hid hv
 have HV':=Lib.hid hv'
 have HM:=Lib.hid hm
 have HM':=Lib.hid hm'
 have HX:=Lib.hid hx
 have HY:=Lib.hid hy
 clear h hv hv' hm hm' hx hy
 unfold maxLen at hcm hcm'
 go_enter Tryz.func253,Tryz.ntmps253
 go_wp2
 go_loopw [13] (fun i wr=>∃ k:Nat,k<=m∧k<=m'∧i=.int .i64 k∧Zaz x y=Zaz (x.drop k) (y.drop k)∧Below w.heap.size w wr) (fun i _=>m - (intOf i).toNat)
 case atStart=>exact ⟨0,Taj _,Taj _,rfl,rfl,Below.refl _ _⟩
 case round =>
  obtain ⟨k,hk,hk',rfl,hz,hb⟩:=hrel
  have HZ:=Lib.hid hz
  clear hz
  by_cases hkm:k < m
  ·obtain ⟨b,off,r,rfl,hS,hbz,hget,hokr,hrow⟩:=(HV.out.below hb).get (Zc8 x HX.out) hkm
   obtain ⟨u0,u1,u2,u3,c0,c1,c2,c3,hvals⟩:=hrow.vals4 hokr.len
   have hone:=Zae.one hokr hvals
   rw [Zcm] at hget
   obtain ⟨t,ht,rfl⟩:=Tau.1 hget
   have HVALS:=Lib.hid hvals
   have HONE:=Lib.hid hone
   have HT:=Lib.hid ht
   clear hvals hokr hrow hget hone ht
   simp only [Zab,Zbb,Tag,Tak,Nat.reduceAdd] at c0 c1 c2 c3
   by_cases hkm':k < m'
   ·obtain ⟨b',off',r',rfl,hS',hbz',hget',hokr',hrow'⟩:=(HV'.out.below hb).get (Zc8 y HY.out) hkm'
    obtain ⟨x0,x1,x2,x3,d0,d1,d2,d3,hvals'⟩:=hrow'.vals4 hokr'.len
    have hone':=Zae.one hokr' hvals'
    rw [Zcm] at hget'
    obtain ⟨t',ht',rfl⟩:=Tau.1 hget'
    have HVALS':=Lib.hid hvals'
    have HONE':=Lib.hid hone'
    have HT':=Lib.hid ht'
    clear hvals' hokr' hrow' hget' hone' ht'
    simp only [Zab,Zbb,Tag,Tak,Nat.reduceAdd] at d0 d1 d2 d3
    have hbb:∀ o1 o2,Below w.heap.size w ((wr.alloc o1).alloc o2):=fun o1 o2=>(hb.alloc hb.size o1).alloc (by have:=hb.size;simp;omega) o2
    have hbr:∀ o1 o2,Below wr.heap.size wr ((wr.alloc o1).alloc o2):=fun o1 o2=>((Below.refl _ _).alloc (Tai _) o1).alloc (by simp) o2
    have hbne:b'≠wr.heap.size:=by omega
    have HC:=Lib.hid (H.out k t t' HT.out HT'.out)
    go_wp2_with (first
     | refine Zdv rfl 46 _ _ rfl _ _ _ rfl _ rfl (by simp) [u0,u1,u2,u3] rfl ic hci hcs rfl HONE.out ?_
     | refine Zdv rfl 46 _ _ rfl _ _ _ rfl _ rfl (by simp) [x0,x1,x2,x3] rfl ic hci hcs rfl HONE'.out ?_)
    refine (HC.out S S' _ _ _ (HX.out.mem (Tac HT.out)) (HY.out.mem (Tac HT'.out)) (HVALS.out.below (hbr _ _)) (HVALS'.out.below (hbr _ _))).mono ?_
    rintro e w2 ⟨rfl,hb2⟩
    have HST:=Lib.hid (Zfo HT.out HT'.out)
    generalize hc:Zas t t'=c at HST ⊢
    clear hc
    by_cases hc0:c=0
    ·subst hc0
     go_wp2
     go_roundw
     case rel=>exact ⟨k+1,by omega,by omega,by go_num,by rw [HZ.out,HST.out,Zet rfl],(hbb _ _).trans (hb2.mono (by have:=hb.size;simp;omega))⟩
     case measure=>simp [intOf];omega
    ·have hc1:(c==0)=false:=by simpa using hc0
     have hc2:(c != 0)=true:=by simpa using hc0
     go_wp2
     go_ret
     exact ⟨Zbv (by rw [HZ.out,HST.out,Zfp hc0]),(hbb _ _).trans (hb2.mono (by have:=hb.size;simp;omega))⟩
   ·go_wp2_with (refine Zdv rfl 46 _ _ rfl _ _ _ rfl _ rfl (by simp) [u0,u1,u2,u3] rfl ic hci hcs rfl HONE.out ?_)
    go_ret
    refine ⟨Zbv (a:=1) ?_,hb.alloc hb.size _⟩
    rw [HZ.out]
    have e2:y.drop k=[]:=List.drop_eq_nil_of_le (by have:=HM'.out;omega)
    have e1:x.drop k=t::x.drop (k+1):=by
     obtain ⟨hl,hx⟩:=Tad.1 HT.out
     rw [<- hx];exact List.drop_eq_getElem_cons hl
    rw [e1,e2,Zaz]
  ·have e1:x.drop k=[]:=List.drop_eq_nil_of_le (by have:=HM.out;omega)
   by_cases hlt:m < m'
   ·go_wp2
    go_ret
    refine ⟨Zbv (a:=-1) ?_,hb⟩
    have hl:k < y.length:=by have:=HM'.out;omega
    rw [HZ.out,e1,List.drop_eq_getElem_cons hl,Zaz]
   ·go_wp2
    go_ret
    refine ⟨Zbv (a:=0) ?_,hb⟩
    rw [HZ.out,e1,List.drop_eq_nil_of_le (by have:=HM'.out;omega),Zaz]
theorem Zff (W:World) (o:Obj) (p:Addr) (h:p.block < W.heap.size):(W.alloc o).drew.cell? p=W.cell? p:=(show (W.alloc o).drew.cell? p=(W.alloc o).cell? p from rfl).trans (World.cell?_alloc_lt W o p h)
theorem Zku {W:World} {l:List Int} {t:TypeId}:∀ (i:Nat) x,l[i]?=some x->(W.alloc (.cells (l.map (Value.int .i64)).toArray t)).drew.cell? ⟨W.heap.size,i,none⟩=some (.int .i64 x):=by
 intro i x h
 show (W.alloc (.cells (l.map (Value.int .i64)).toArray t)).cell? ⟨W.heap.size,i,none⟩=_
 rw [cell_of_row _ _ _ _ _ _ (heap_alloc_new W _)]
 simp [h]
theorem ZdT (a b:Tm) (h:Zha 253 a.args b.args):Zeq 182 a b:=by
 intro S S' us us' w ha hb hv hv'
 obtain ⟨o,n,s,x⟩:=a
 obtain ⟨o',n',s',y⟩:=b
 simp only [Zah] at hv hv'
 obtain ⟨v3,rfl,e3⟩:=ZdJ hv
 obtain ⟨v3',rfl,e3'⟩:=ZdJ hv'
 simp only [okTm] at ha hb
 have HX:=Lib.hid ha.2.2.2
 have HY:=Lib.hid hb.2.2.2
 have H:=Lib.hid h
 have E:=Lib.hid e3
 have E':=Lib.hid e3'
 have HF:Hid (Zas (.mk o n s x) (.mk o' n' s' y)=Zaw [Zaw [ZaI o o',Zbf n n',ZaI s s'],Zaz x y]):=by
  show _=_
  simp only [Zas,Zaw]
  repeat' split
  all_goals first | rfl | simp_all
 clear ha hb h e3 e3' hv hv'
 go_enter Tryz.func182,Tryz.ntmps182
 go_wp2_with fail
 generalize hW:(w.alloc _).alloc _=W
 have hbW:Below w.heap.size w W:=by rw [<- hW];exact ((Below.refl _ _).alloc (Tai _) _).alloc (by simp) _
 have p0:W.cell? ⟨w.heap.size,0,none⟩=some (.int .i64 o):=by rw [<- hW];simp
 have p1:W.cell? ⟨w.heap.size,1,none⟩=some (.string n):=by rw [<- hW];simp
 have p2:W.cell? ⟨w.heap.size,2,none⟩=some (.int .i64 s):=by rw [<- hW];simp
 have p3:W.cell? ⟨w.heap.size,3,none⟩=some v3:=by rw [<- hW];simp
 have q0:W.cell? ⟨w.heap.size+1,0,none⟩=some (.int .i64 o'):=by rw [<- hW];simp
 have q1:W.cell? ⟨w.heap.size+1,1,none⟩=some (.string n'):=by rw [<- hW];simp
 have q2:W.cell? ⟨w.heap.size+1,2,none⟩=some (.int .i64 s'):=by rw [<- hW];simp
 have q3:W.cell? ⟨w.heap.size+1,3,none⟩=some v3':=by rw [<- hW];simp
 have z0:w.heap.size < W.heap.size:=by rw [<- hW];simp;omega
 have z1:w.heap.size+1 < W.heap.size:=by rw [<- hW];simp
 have HOR:=Lib.hid (fun w=>ZAw [ZaI o o',Zbf n n',ZaI s s'] W.heap.size 3 3 w rfl om)
 clear hW
 go_region_held3 (fun w'=>∀ b o,b < W.heap.size->w'.cell? ⟨b,o,none⟩=W.cell? ⟨b,o,none⟩) (first | exact fun b o h=>Zff _ _ _ h | go_keep)
  (first
   | (go_at_call 251;refine (ZiC _ _ _).mono ?_;rintro e w' ⟨rfl,rfl⟩)
   | (go_at_call 252;refine (ZfC _ _ _).mono ?_;rintro e w' ⟨rfl,rfl⟩)
   | (go_at_call 189;refine (HOR.out _ (Zku (W:=W))).mono ?_;rintro e w' ⟨rfl,rfl⟩))
 have hbD:∀ o1,Below w.heap.size w (W.alloc o1).drew:=fun o1=>(hbW.alloc hbW.size o1).drew
 have hcd:∀ o1 b o,b < W.heap.size->(W.alloc o1).drew.cell? ⟨b,o,none⟩=W.cell? ⟨b,o,none⟩:=fun o1 b o h=>Zff W o1 ⟨b,o,none⟩ h
 generalize hc:Zaw [ZaI o o',Zbf n n',ZaI s s']=c at HF ⊢
 clear hc
 by_cases hc0:c=0
 ·subst hc0
  go_wp2_with fail
  refine (H.out S S' _ _ _ HX.out HY.out (E.out.below (hbD _)) (E'.out.below (hbD _))).mono ?_
  rintro e w2 ⟨rfl,hb2⟩
  go_wp2
  go_ret
  exact ⟨Zbv (by rw [HF.out,Zet rfl];rfl),(hbD _).trans (hb2.mono (hbD _).size)⟩
 ·have hc1:(c==0)=false:=by simpa using hc0
  have hc2:(c != 0)=true:=by simpa using hc0
  go_wp2
  go_ret
  exact ⟨Zbv (by rw [HF.out,Zfp hc0]),hbD _⟩
mutual
def sizeTm:Tm->Nat
 | .mk _ _ _ a=>1+sizeTms a
def sizeTms:List Tm->Nat
 | []=>0
 | t::ts=>sizeTm t+sizeTms ts
end
theorem Zfq:∀ {ts:List Tm} {i:Nat} {t:Tm},ts[i]?=some t->sizeTms t.args < sizeTms ts
 | [],_,_,h=>by simp at h
 | x::xs,0,t,h=>by
  simp at h
  subst h
  cases x
  simp only [sizeTms,sizeTm,Tm.args]
  omega
 | x::xs,i+1,t,h=>by
  have:=Zfq (ts:=xs) (i:=i) (by simpa using h)
  simp only [sizeTms]
  omega
theorem Zgp (n:Nat):∀ x y,sizeTms x < n->Zha 253 x y:=by
 induction n with
 | zero=>intro x y h;omega
 | succ n ih=>exact fun x y h=>ZgP x y (fun i a b ha hb=>ZdT a b (ih _ _ (by have:=Zfq ha;omega)))
theorem ZiE (x y:List Tm):Zha 253 x y:=Zgp _ x y (Tan _)
theorem Zh3 (a b:Tm):Zeq 182 a b:=ZdT a b (ZiE _ _)
theorem Zgq (a b:Tm) (h:∀ (i:Nat) p q,a.args[i]?=some p->b.args[i]?=some q->Zeq 200 p q):Zeq 200 a b:=by
 intro S S' us us' w ha hb hv hv'
 obtain ⟨o,n,s,x⟩:=a
 obtain ⟨o',n',s',y⟩:=b
 simp only [Zah] at hv hv'
 obtain ⟨v3,rfl,e3⟩:=ZdJ hv
 obtain ⟨v3',rfl,e3'⟩:=ZdJ hv'
 simp only [okTm] at ha hb
 have HX:=Lib.hid ha.2.2.2
 have HY:=Lib.hid hb.2.2.2
 have H:=Lib.hid h
 have hbW:=((Below.refl w.heap.size w).alloc (Tai _) (.cells #[.int .i64 o,.string n,.int .i64 s,v3] 46)).alloc (by simp) (.cells #[.int .i64 o',.string n',.int .i64 s',v3'] 46)
 by_cases ho:o=o'
 case neg =>
  have ho1:(o==o')=false:=by simpa using ho
  have ho2:(o != o')=true:=by simpa using ho
  have hz:ZaI o o'≠0:=fun e=>ho (Zb9.1 e)
  have HF:Hid (Zas (.mk o n s x) (.mk o' n' s' y)=ZaI o o'):=by show _=_;simp only [Zas,Zaw,if_neg hz]
  clear hz h H ha hb hv hv' e3 e3' ho
  by_cases hlt:o < o'
  ·go_enter Tryz.func200,Tryz.ntmps200
   go_wp2
   go_ret
   exact ⟨Zbv (a:=-1) (by rw [HF.out];unfold ZaI;rw [if_pos hlt]),hbW⟩
  ·have HL:=Lib.hid hlt
   go_enter Tryz.func200,Tryz.ntmps200
   go_wp2
   go_ret
   exact ⟨Zbv     (a := 1) (by have h1 : o ≠ o' := by simpa using ho1
                               have:=HL.out
                               rw [HF.out];unfold ZaI;rw [if_neg om,if_pos om]),hbW⟩
 subst ho
 have hz0:ZaI o o=0:=Zb9.2 rfl
 by_cases hn:n=n'
 case neg =>
  have hz:Zbf n n'≠0:=fun e=>hn (Zd8.1 e)
  have HF:Hid (Zas (.mk o n s x) (.mk o n' s' y)=Zbf n n'):=by show _=_;simp only [Zas,Zaw,if_pos hz0,if_neg hz]
  clear h H ha hb hv hv' e3 e3' hz0
  have hn1:(n.toList==n'.toList)=false:=by
   simp only [beq_eq_false_iff_ne,ne_eq,ByteArray.toList_eq]
   intro e
   apply hn
   obtain ⟨⟨la⟩⟩:=n
   obtain ⟨⟨lb⟩⟩:=n'
   simp at e
   rw [e]
  have hlq:Op.bytesLess n.toList n'.toList=decide (Zbf n n'=-1):=by rw [ByteArray.toList_eq,ByteArray.toList_eq];exact Zex _ _
  have HZ:=Lib.hid hz
  have HR:=Lib.hid (Zlw n n')
  clear hn hz
  by_cases hlt:Zbf n n'=-1
  ·have hl1:Op.bytesLess n.toList n'.toList=true:=by rw [hlq];simpa using hlt
   have HLT:=Lib.hid hlt
   clear hlq hlt
   go_enter Tryz.func200,Tryz.ntmps200
   go_wp2
   go_ret
   exact ⟨Zbv (a:=-1) (by rw [HF.out,HLT.out]),hbW⟩
  ·have hl1:Op.bytesLess n.toList n'.toList=false:=by rw [hlq];simpa using hlt
   have HLT:=Lib.hid hlt
   clear hlq hlt
   go_enter Tryz.func200,Tryz.ntmps200
   go_wp2
   go_ret
   exact ⟨Zbv     (a := 1) (by rw [HF.out]; rcases HR.out with e | e | e
                               ·exact absurd e HLT.out
                               ·exact absurd e HZ.out
                               ·exact e.symm),hbW⟩
 subst hn
 have hz1:Zbf n n=0:=Zd8.2 rfl
 by_cases hs:s=s'
 case neg =>
  have hs1:(s==s')=false:=by simpa using hs
  have hs2:(s != s')=true:=by simpa using hs
  have hz:ZaI s s'≠0:=fun e=>hs (Zb9.1 e)
  have HF:Hid (Zas (.mk o n s x) (.mk o n s' y)=ZaI s s'):=by show _=_;simp only [Zas,Zaw,if_pos hz0,if_pos hz1,if_neg hz]
  clear hz h H ha hb hv hv' e3 e3' hs hz0 hz1
  by_cases hlt:s < s'
  ·go_enter Tryz.func200,Tryz.ntmps200
   go_wp2
   go_ret
   exact ⟨Zbv (a:=-1) (by rw [HF.out];unfold ZaI;rw [if_pos hlt]),hbW⟩
  ·have HL:=Lib.hid hlt
   go_enter Tryz.func200,Tryz.ntmps200
   go_wp2
   go_ret
   exact ⟨Zbv     (a := 1) (by have h1 : s ≠ s' := by simpa using hs1
                               have:=HL.out
                               rw [HF.out];unfold ZaI;rw [if_neg om,if_pos om]),hbW⟩
 subst hs
 have HF:Hid (Zas (.mk o n s x) (.mk o n s y)=Zaz x y):=by
  show _=_
  simp only [Zas,Zaw,if_pos hz0,if_pos hz1,if_pos (Zb9.2 (rfl:s=s))]
  split <;> simp_all
 obtain ⟨A,m,cap,rfl,hm,hmc,hcm⟩:=e3.form
 obtain ⟨A',m',cap',rfl,hm',hmc',hcm'⟩:=e3'.form
 rw [ZaH] at hm hm'
 have HM:=Lib.hid hm
 have HM':=Lib.hid hm'
 have HV:=Lib.hid e3
 have HV':=Lib.hid e3'
 clear hz0 hz1 h ha hb hv hv' e3 e3' hm hm'
 unfold maxLen at hcm hcm'
 go_enter Tryz.func200,Tryz.ntmps200
 go_wp2
 generalize hW:(w.alloc _).alloc _=W at hbW ⊢
 have p3:W.cell? ⟨w.heap.size,3,none⟩=some (.slice A m cap):=by rw [<- hW];simp
 have q3:W.cell? ⟨w.heap.size+1,3,none⟩=some (.slice A' m' cap'):=by rw [<- hW];simp
 have z0:w.heap.size < W.heap.size:=by rw [<- hW];simp;omega
 have z1:w.heap.size+1 < W.heap.size:=by rw [<- hW];simp
 have HVW:=Lib.hid (HV.out.below hbW)
 have HVW':=Lib.hid (HV'.out.below hbW)
 clear hW HV HV'
 go_loopw [5] (fun i wr=>∃ k:Nat,k<=m∧k<=m'∧i=.int .i64 k∧Zaz x y=Zaz (x.drop k) (y.drop k)∧Below W.heap.size W wr) (fun i _=>m - (intOf i).toNat)
 case atStart=>exact ⟨0,Taj _,Taj _,rfl,rfl,Below.refl _ _⟩
 case round =>
  obtain ⟨k,hk,hk',rfl,hz,hb⟩:=hrel
  have HZ:=Lib.hid hz
  clear hz
  obtain ⟨hcw,_⟩:=ZAp hb
  have hbw':Below w.heap.size w wr:=hbW.trans (hb.mono hbW.size)
  by_cases hkm:k < m
  ·obtain ⟨b,off,r,rfl,hS,hbz,hget,hokr,hrow⟩:=HVW.out.get (Zc8 x HX.out) hkm
   obtain ⟨u0,u1,u2,u3,c0,c1,c2,c3,hvals⟩:=hrow.vals4 hokr.len
   rw [Zcm] at hget
   obtain ⟨t,ht,rfl⟩:=Tau.1 hget
   have HVALS:=Lib.hid hvals
   have HT:=Lib.hid ht
   clear hvals hokr hrow hget ht
   simp only [Zab,Zbb,Tag,Tak,Nat.reduceAdd] at c0 c1 c2 c3
   have k0:(0:Int)<=(k:Int):=by omega
   have k1:(k:Int) < (m:Int):=by omega
   have hd1:decide (k < m)=true:=by simpa using hkm
   by_cases hkm':k < m'
   ·obtain ⟨b',off',r',rfl,hS',hbz',hget',hokr',hrow'⟩:=HVW'.out.get (Zc8 y HY.out) hkm'
    obtain ⟨x0,x1,x2,x3,d0,d1,d2,d3,hvals'⟩:=hrow'.vals4 hokr'.len
    rw [Zcm] at hget'
    obtain ⟨t',ht',rfl⟩:=Tau.1 hget'
    have HVALS':=Lib.hid hvals'
    have HT':=Lib.hid ht'
    clear hvals' hokr' hrow' hget' ht'
    simp only [Zab,Zbb,Tag,Tak,Nat.reduceAdd] at d0 d1 d2 d3
    have k2:(k:Int) < (m':Int):=by omega
    have hd2:decide (k < m')=true:=by simpa using hkm'
    have HC:=Lib.hid (H.out k t t' HT.out HT'.out)
    go_wp2_with fail
    go_region_held3 (fun w'=>∀ b o,b < W.heap.size->w'.cell? ⟨b,o,none⟩=W.cell? ⟨b,o,none⟩) (first | exact fun b o h=>(hb2.cell (p:=⟨b,o,none⟩) (Tba h hb.size)).trans (hcw b o h) | exact fun b o h=>hcw b o h | go_keep)
     (first | (go_at_call 200;refine (HC.out S S' _ _ _ (HX.out.mem (Tac HT.out)) (HY.out.mem (Tac HT'.out)) (HVALS.out.below hb.drew) (HVALS'.out.below hb.drew)).mono ?_;rintro e w2 ⟨rfl,hb2⟩))
    have hbq:Below W.heap.size W w2:=hb.drew.trans (hb2.mono (show W.heap.size<=wr.heap.size from hb.size))
    have HST:=Lib.hid (Zfo HT.out HT'.out)
    generalize hc:Zas t t'=c at HST ⊢
    clear hc
    by_cases hc0:c=0
    ·subst hc0
     go_wp2
     go_roundw
     case rel=>exact ⟨k+1,by omega,by omega,by go_num,by rw [HZ.out,HST.out,Zet rfl],hbq⟩
     case measure=>simp [intOf];omega
    ·have hc1:(c==0)=false:=by simpa using hc0
     have hc2:(c != 0)=true:=by simpa using hc0
     go_wp2
     go_ret
     exact ⟨Zbv (by rw [HF.out,HZ.out,HST.out,Zfp hc0]),hbW.trans (hbq.mono hbW.size)⟩
   ·have hd2:decide (k < m')=false:=by simpa using hkm'
    have hmm:¬ m < m':=by omega
    have hmm2:m' < m:=by omega
    go_wp2
    go_ret
    refine ⟨Zbv (a:=1) ?_,hbw'⟩
    rw [HF.out,HZ.out]
    have e2:y.drop k=[]:=List.drop_eq_nil_of_le (by have:=HM'.out;omega)
    have e1:x.drop k=t::x.drop (k+1):=by
     obtain ⟨hl,hx⟩:=Tad.1 HT.out
     rw [<- hx];exact List.drop_eq_getElem_cons hl
    rw [e1,e2,Zaz]
  ·have e1:Hid (x.drop k=[]):=Lib.hid (List.drop_eq_nil_of_le (by have:=HM.out;omega))
   have hd1:decide (k < m)=false:=by simpa using hkm
   by_cases hlt:m < m'
   ·go_wp2
    go_ret
    refine ⟨Zbv (a:=-1) ?_,hbw'⟩
    have hl:k < y.length:=by have:=HM'.out;omega
    rw [HF.out,HZ.out,e1.out,List.drop_eq_getElem_cons hl,Zaz]
   ·have hlt2:¬ m' < m:=by omega
    go_wp2
    go_ret
    refine ⟨Zbv (a:=0) ?_,hbw'⟩
    rw [HF.out,HZ.out,e1.out,List.drop_eq_nil_of_le (by have:=HM'.out;omega),Zaz]
theorem ZfY (n:Nat):∀ a b,sizeTm a < n->Zeq 200 a b:=by
 induction n with
 | zero=>intro a b h;omega
 | succ n ih =>
  intro a b h
  refine Zgq a b (fun i p q hp hq=>ih p q ?_)
  have h1:=Zfq hp
  cases a
  cases p
  simp only [sizeTm,Tm.args] at h h1 ⊢
  omega
theorem Zh4 (a b:Tm):Zeq 200 a b:=ZfY _ a b (Tan _)
theorem ZlA {n:Int} (h0:0<=n) (h1:n < 9223372036854775808):IntKind.i64.wrap n=n:=by
 simp [IntKind.wrap,IntKind.bits,IntKind.signed]
 omega
theorem ZiF {a:Nat} (h:a < 18446744073709551616):(BitVec.ofInt 64 (a:Int)).toNat=a:=by
 rw [BitVec.toNat_ofInt]
 omega
theorem Zjn {a b:Nat} (ha:a < 4611686018427387904) (hb:b < 4611686018427387904):bits .or .i64 (a:Int) (b:Int)=((a ||| b:Nat):Int):=by
 have h:a ||| b < 2 ^ 62:=Nat.or_lt_two_pow om om
 have e:(BitVec.ofInt IntKind.i64.bits (a:Int) ||| BitVec.ofInt IntKind.i64.bits (b:Int)).toNat=a ||| b:=by
  rw [BitVec.toNat_or]
  show (BitVec.ofInt 64 (a:Int)).toNat ||| (BitVec.ofInt 64 (b:Int)).toNat=_
  rw [ZiF om,ZiF om]
 unfold bits
 show IntKind.i64.wrap _=_
 rw [e]
 exact ZlA om om
theorem ZlB {a b:Nat} (ha:a < 4611686018427387904) (hb:b < 4611686018427387904):bits .and .i64 (a:Int) (b:Int)=((a &&& b:Nat):Int):=by
 have h:a &&& b < 2 ^ 62:=Nat.and_lt_two_pow _ om
 have e:(BitVec.ofInt IntKind.i64.bits (a:Int) &&& BitVec.ofInt IntKind.i64.bits (b:Int)).toNat=a &&& b:=by
  rw [BitVec.toNat_and]
  show (BitVec.ofInt 64 (a:Int)).toNat &&& (BitVec.ofInt 64 (b:Int)).toNat=_
  rw [ZiF om,ZiF om]
 unfold bits
 show IntKind.i64.wrap _=_
 rw [e]
 exact ZlA om om
theorem ZeY {k:Nat} (h:k < 62):2 ^ k < 4611686018427387904:=Tba (Nat.pow_lt_pow_right om h) om
theorem testBit_and (a k:Nat):((a &&& 2 ^ k) != 0)=a.testBit k:=by
 cases h:a.testBit k
 ·have:a &&& 2 ^ k=0:=by
   apply Nat.eq_of_testBit_eq
   intro j
   rw [Nat.testBit_and,Nat.testBit_two_pow,Nat.zero_testBit]
   by_cases hj:k=j
   ·subst hj;simp [h]
   ·simp [hj]
  simp [this]
 ·have:¬ (a &&& 2 ^ k=0):=by
   intro h0
   have h1:(a &&& 2 ^ k).testBit k=true:=by rw [Nat.testBit_and,Nat.testBit_two_pow];simp [h]
   rw [h0,Nat.zero_testBit] at h1
   simp at h1
  simp [this]
theorem Zmx {a k:Nat} (ha:a < 4611686018427387904):(bits .and .i64 ((a:Int) / 2 ^ k) 1==1)=a.testBit k:=by
 have e:(a:Int) / 2 ^ k=((a / 2 ^ k:Nat):Int):=by simp
 have h1:a / 2 ^ k<=a:=Nat.div_le_self _ _
 have h2:bits .and .i64 ((a / 2 ^ k:Nat):Int) ((1:Nat):Int)=_:=ZlB om om
 rw [e]
 rw [show (1:Int)=((1:Nat):Int) from rfl,h2,Nat.testBit,Nat.shiftRight_eq_div_pow,Nat.and_comm]
 have h3:1 &&& a / 2 ^ k < 2:=by rw [Nat.one_and_eq_mod_two];omega
 generalize 1 &&& a / 2 ^ k=x at h3 ⊢
 have:x=0∨x=1:=by omega
 rcases this with rfl | rfl <;> rfl
def Zcr (l:List Nat) (p:Int × Int):List Nat:=l.set p.1.toNat (l.getD p.1.toNat 0 ||| l.getD p.2.toNat 0)
def ZzH (subs:List (Int × Int)) (l:List Nat):List Nat:=subs.foldl Zcr l
def ZcL (subs:List (Int × Int)):Nat->List Nat->List Nat
 | 0,l=>l
 | k+1,l=>ZzH subs (ZcL subs k l)
def up0 (n:Nat):List Nat:=(List.range n).map (2 ^ ·)
def up (s:Srt):List Nat:=ZcL s.subs s.names.length (up0 s.names.length)
def Zbu (l:List Nat):List Int:=l.map (fun (n:Nat)=>(n:Int))
def Zcn (n:Nat) (subs:List (Int × Int)):Prop:=∀ p∈subs,0<=p.1∧p.1 < n∧0<=p.2∧p.2 < n
def UpOk (n:Nat) (l:List Nat):Prop:=l.length=n∧∀ x∈l,x < 2 ^ n
theorem UpOk.get {n:Nat} {l:List Nat} (h:UpOk n l) {i:Nat} (hi:i < n):l[i]?=some (l.getD i 0)∧l.getD i 0 < 2 ^ n:=by
 have hl:i < l.length:=by rw [h.1];exact hi
 have e:l[i]?=some l[i]:=Taa hl
 have e2:l.getD i 0=l[i]:=by simp [List.getD,e]
 rw [e2]
 exact ⟨e,h.2 _ (List.getElem_mem hl)⟩
theorem UpOk.sub {n:Nat} {l:List Nat} (h:UpOk n l) {p:Int × Int} (hp:0<=p.1∧p.1 < n∧0<=p.2∧p.2 < n):UpOk n (Zcr l p):=by
 refine ⟨by unfold Zcr;rw [Tax];exact h.1,fun x hx=>?_⟩
 unfold Zcr at hx
 rcases List.mem_or_eq_of_mem_set hx with hx | rfl
 ·exact h.2 x hx
 ·exact Nat.or_lt_two_pow (h.get (i:=p.1.toNat) om).2 (h.get (i:=p.2.toNat) om).2
theorem UpOk.foldl {n:Nat}:∀ {subs:List (Int × Int)} {l:List Nat},UpOk n l->Zcn n subs->UpOk n (subs.foldl Zcr l)
 | [],l,h,_=>h
 | p::ps,l,h,hs=>UpOk.foldl (subs:=ps) (h.sub (hs p (by simp))) (fun q hq=>hs q (by simp [hq]))
theorem UpOk.iter {n:Nat} {subs:List (Int × Int)} (hs:Zcn n subs):∀ (k:Nat) {l:List Nat},UpOk n l->UpOk n (ZcL subs k l)
 | 0,l,h=>h
 | k+1,l,h=>(UpOk.iter hs k h).foldl hs
theorem UpOk.start (n:Nat):UpOk n (up0 n):=by
 refine ⟨by simp [up0],fun x hx=>?_⟩
 simp only [up0,Tbf,List.mem_range] at hx
 obtain ⟨i,hi,rfl⟩:=hx
 exact Nat.pow_lt_pow_right om hi
theorem ZfZ {s:Srt} (h:Zcn s.names.length s.subs):UpOk s.names.length (up s):=UpOk.iter h _ (UpOk.start _)
theorem Zf0 {α β:Type} {f:β->α->β} {l:List α} {k:Nat} {a:α} (h:l[k]?=some a) (b:β):(l.take (k+1)).foldl f b=f ((l.take k).foldl f b) a:=by
 rw [ZbJ h,List.foldl_append];rfl
theorem Zcn.take {n:Nat} {subs:List (Int × Int)} (h:Zcn n subs) (k:Nat):Zcn n (subs.take k):=fun p hp=>h p (List.mem_of_mem_take hp)
theorem ZjV (l:List Nat):(Zbu l).length=l.length:=by simp [Zbu]
theorem ZtQ {l:List Nat} {i x:Nat} (h:l[i]?=some x):(Zbu l)[i]?=some (x:Int):=by simp [Zbu,h]
theorem ZtR (l:List Nat) (i x:Nat):Zbu (l.set i x)=(Zbu l).set i (x:Int):=by simp [Zbu,List.map_set]
theorem ZpS (l:List Nat) (x:Nat):Zbu (l++[x])=Zbu l++[(x:Int)]:=by simp [Zbu]
def ZcR (n k:Nat):List Nat:=up0 k++List.replicate (n - k) 0
theorem ZtS {n k:Nat} (h:k<=n):(ZcR n k).length=n:=by simp [ZcR,up0];omega
theorem ZtT {n k:Nat} (h:k < n):(ZcR n k).set k (2 ^ k)=ZcR n (k+1):=by
 unfold ZcR
 have e:n - k=(n - (k+1))+1:=by omega
 have e2:up0 (k+1)=up0 k++[2 ^ k]:=by simp [up0,List.range_succ]
 have e3:(up0 k).length=k:=by simp [up0]
 rw [e,List.replicate_succ,List.set_append_right _ _ om,e3,Nat.sub_self,List.set_cons_zero,e2,Tbc]
 rfl
theorem ZtU (n:Nat):ZcR n n=up0 n:=by simp [ZcR]
theorem Zvj (k:Nat):up0 (k+1)=up0 k++[2 ^ k]:=by simp [up0,List.range_succ]
def ZaV (l:List ByteArray) (s:ByteArray):Bool:=l.any (fun t=>s.toList==t.toList)
def Zb6 (n:Int):Bool:=decide (48<=n∧n<=57) || decide (65<=n∧n<=90) || decide (97<=n∧n<=122)
def ZgQ (s:ByteArray) (i:Nat):Int:=if h:i < s.size then (s[i].toNat:Int) else 0
def ZaT (s:ByteArray) (k:Nat):Bool:=(List.range' k (s.size - k)).all (fun i=>Zb6 (ZgQ s i) && !(i==0 && decide (ZgQ s i<=57)))
def Za2 (s:ByteArray):Bool:=decide (1<=s.size∧s.size<=12) && !(s.toList==[105,102]) && !(s.toList==[97,110,100]) && ZaT s 0
theorem Zkv {s:ByteArray} {k:Nat} (h:k < s.size):ZaT s k=((Zb6 (s[k].toNat:Int) && !(k==0 && decide ((s[k].toNat:Int)<=57))) && ZaT s (k+1)):=by
 have eb:ZgQ s k=(s[k].toNat:Int):=by unfold ZgQ;rw [dif_pos h]
 rw [<- eb]
 unfold ZaT
 have e:s.size - k=(s.size - (k+1))+1:=by omega
 rw [e,List.range'_succ,List.all_cons]
theorem ZgR {s:ByteArray} {k:Nat} (h:s.size<=k):ZaT s k=true:=by
 unfold ZaT
 have e:s.size - k=0:=by omega
 rw [e]
 rfl
theorem Zb7 {s:ByteArray} (h:s.size < 1∨12 < s.size∨s.toList=[105,102]∨s.toList=[97,110,100]):Za2 s=false:=by
 unfold Za2
 rcases h with h | h | h | h
 ·have:¬ (1<=s.size∧s.size<=12):=by omega
  simp [this]
 ·have:¬ (1<=s.size∧s.size<=12):=by omega
  simp [this]
 ·simp [h]
 ·simp [h]
def Zd9 (n:Nat) (p:Int × Int):Prop:=0<=p.1∧p.1 < n∧0<=p.2∧p.2 < n∧p.1≠p.2
def ZgS (names:List ByteArray) (i:Nat):Prop:=∀ x,names[i]?=some x->Za2 x=true∧ZaV (names.take i) x=false
def Zcb (u:List Nat) (i k:Nat):Prop:=¬ (i≠k∧(u.getD i 0).testBit k=true∧(u.getD k 0).testBit i=true)
structure SortsOk (s:Srt):Prop where
 n1:1<=s.names.length
 n8:s.names.length<=8
 m16:s.subs.length<=16
 names:∀ i,i < s.names.length->ZgS s.names i
 subs:∀ p∈s.subs,Zd9 s.names.length p
 pairs:∀ i k,i < s.names.length->k < s.names.length->Zcb (up s) i k
open Classical in
noncomputable def Zbt (s:Srt):Bool:=decide (SortsOk s)
theorem ZdK {s:Srt} (h:SortsOk s):Zbt s=true:=by unfold Zbt;simp [h]
theorem Zeu {s:Srt} (h:¬ SortsOk s):Zbt s=false:=by unfold Zbt;simp [h]
theorem Zmy {s:Srt}:Zbt s=true ↔ SortsOk s:=by unfold Zbt;simp
theorem SortsOk.subsIn {s:Srt} (h:∀ p∈s.subs,Zd9 s.names.length p):Zcn s.names.length s.subs:=fun p hp=>⟨(h p hp).1,(h p hp).2.1,(h p hp).2.2.1,(h p hp).2.2.2.1⟩
theorem Zpg {a b:ByteArray}:(a.toList==b.toList)=(b.toList==a.toList):=by
 rw [Bool.eq_iff_iff]
 simp
 exact ⟨fun h=>h.symm,fun h=>h.symm⟩
theorem Zmz {l:List ByteArray} {s x:ByteArray} {k:Nat} (h:l[k]?=some x):ZaV (l.drop k) s=((x.toList==s.toList) || ZaV (l.drop (k+1)) s):=by
 obtain ⟨hl,hx⟩:=Tad.1 h
 rw [List.drop_eq_getElem_cons hl,hx,ZaV,List.any_cons,Zpg]
 rfl
theorem ZmA (l:List ByteArray) (t s:ByteArray):ZaV (l++[t]) s=(ZaV l s || (s.toList==t.toList)):=by simp [ZaV,List.any_append]
def kSub (l:List Nat) (p:Int × Int):List Nat:=(l.set p.1.toNat (min (l.getD p.1.toNat 0) (l.getD p.2.toNat 0))).set p.2.toNat (min (l.getD p.1.toNat 0) (l.getD p.2.toNat 0))
def ZcJ (subs:List (Int × Int)):Nat->List Nat->List Nat
 | 0,l=>l
 | k+1,l=>subs.foldl kSub (ZcJ subs k l)
def kinds (s:Srt):List Nat:=ZcJ s.subs s.names.length (List.range s.names.length)
def KOk (n:Nat) (l:List Nat):Prop:=l.length=n∧∀ x∈l,x < n
theorem KOk.get {n:Nat} {l:List Nat} (h:KOk n l) {i:Nat} (hi:i < n):l[i]?=some (l.getD i 0)∧l.getD i 0 < n:=by
 have hl:i < l.length:=by rw [h.1];exact hi
 have e:l[i]?=some l[i]:=Taa hl
 have e2:l.getD i 0=l[i]:=by simp [List.getD,e]
 rw [e2]
 exact ⟨e,h.2 _ (List.getElem_mem hl)⟩
theorem KOk.sub {n:Nat} {l:List Nat} (h:KOk n l) {p:Int × Int} (hp:0<=p.1∧p.1 < n∧0<=p.2∧p.2 < n):KOk n (kSub l p):=by
 refine ⟨by unfold kSub;rw [Tax,Tax];exact h.1,fun x hx=>?_⟩
 have hm:min (l.getD p.1.toNat 0) (l.getD p.2.toNat 0) < n:=by
  have:=(h.get (i:=p.1.toNat) om).2
  omega
 unfold kSub at hx
 rcases List.mem_or_eq_of_mem_set hx with hx | rfl
 ·rcases List.mem_or_eq_of_mem_set hx with hx | rfl
  ·exact h.2 x hx
  ·exact hm
 ·exact hm
theorem KOk.foldl {n:Nat}:∀ {subs:List (Int × Int)} {l:List Nat},KOk n l->Zcn n subs->KOk n (subs.foldl kSub l)
 | [],l,h,_=>h
 | p::ps,l,h,hs=>KOk.foldl (subs:=ps) (h.sub (hs p (by simp))) (fun q hq=>hs q (by simp [hq]))
theorem KOk.iter {n:Nat} {subs:List (Int × Int)} (hs:Zcn n subs):∀ (k:Nat) {l:List Nat},KOk n l->KOk n (ZcJ subs k l)
 | 0,l,h=>h
 | k+1,l,h=>(KOk.iter hs k h).foldl hs
theorem KOk.start (n:Nat):KOk n (List.range n):=⟨by simp,fun x hx=>by simpa using hx⟩
theorem Zf1 {s:Srt} (h:Zcn s.names.length s.subs):KOk s.names.length (kinds s):=KOk.iter h _ (KOk.start _)
def ZbS (a k:Nat):List Nat:=(List.range k).filter (fun j=>a.testBit j)
def Zdj (a:Nat):List Nat:=ZbS a 16
theorem ZpT {a k:Nat} (h:a.testBit k=true):ZbS a (k+1)=ZbS a k++[k]:=by simp [ZbS,List.range_succ,List.filter_append,h]
theorem ZtV {a k:Nat} (h:a.testBit k=false):ZbS a (k+1)=ZbS a k:=by simp [ZbS,List.range_succ,List.filter_append,h]
theorem ZiG (a k:Nat):(ZbS a k).length<=k:=by
 have:=List.length_filter_le (fun j=>a.testBit j) (List.range k)
 simpa [ZbS] using this
def downIn (i:Nat) (l:List Nat) (ks:List Nat):List Nat:=ks.foldl (fun l k=>l.set k (l.getD k 0 ||| 2 ^ i)) l
def downs (u:List Nat):Nat->List Nat->List Nat
 | 0,l=>l
 | m+1,l=>downIn m (downs u m l) (Zdj (u.getD m 0))
def down (s:Srt):List Nat:=downs (up s) s.names.length (List.replicate s.names.length 0)
theorem UpOk.or {n:Nat} {l:List Nat} (h:UpOk n l) {k i:Nat} (hk:k < n) (hi:i < n):UpOk n (l.set k (l.getD k 0 ||| 2 ^ i)):=by
 refine ⟨by rw [Tax];exact h.1,fun x hx=>?_⟩
 rcases List.mem_or_eq_of_mem_set hx with hx | rfl
 ·exact h.2 x hx
 ·exact Nat.or_lt_two_pow (h.get hk).2 (Nat.pow_lt_pow_right om hi)
theorem UpOk.downIn {n i:Nat} (hi:i < n):∀ {ks l:List Nat},UpOk n l->(∀ k∈ks,k < n)->UpOk n (downIn i l ks)
 | [],l,h,_=>h
 | k::ks,l,h,hk=>UpOk.downIn (ks:=ks) hi (h.or (hk k (by simp)) hi) (fun q hq=>hk q (by simp [hq]))
theorem ZjW {a n:Nat} (h:a < 2 ^ n):∀ k∈Zdj a,k < n:=by
 intro k hk
 simp only [Zdj,ZbS,List.mem_filter,List.mem_range] at hk
 refine Decidable.byContradiction fun hn=>?_
 have:=Nat.testBit_lt_two_pow (Tba h (Tbp om (by omega:n<=k)))
 rw [this] at hk
 simp at hk
theorem UpOk.downs {n:Nat} {u:List Nat} (hu:UpOk n u):∀ (m:Nat) {l:List Nat},m<=n->UpOk n l->UpOk n (downs u m l)
 | 0,l,_,h=>h
 | m+1,l,hm,h=>(UpOk.downs hu m om h).downIn om (ZjW (hu.get om).2)
theorem UpOk.zeros (n:Nat):UpOk n (List.replicate n 0):=⟨by simp,fun x hx=>by rw [(List.mem_replicate.1 hx).2];exact Nat.two_pow_pos n⟩
theorem ZzI {s:Srt} (h:Zcn s.names.length s.subs):UpOk s.names.length (down s):=UpOk.downs (ZfZ h) _ (Tai _) (UpOk.zeros _)
def ZcS (n k:Nat):List Nat:=List.range k++List.replicate (n - k) 0
theorem ZjX {n k:Nat} (h:k<=n):(ZcS n k).length=n:=by simp [ZcS];omega
theorem ZtW {n k:Nat} (h:k < n):(ZcS n k).set k k=ZcS n (k+1):=by
 unfold ZcS
 rw [List.set_append_right _ _ (by simp),List.length_range,Nat.sub_self,List.range_succ]
 obtain ⟨m,hm⟩:∃ m,n - k=m+1:=⟨n - k - 1,by omega⟩
 rw [hm,show n - (k+1)=m by omega]
 simp [List.replicate_succ]
theorem ZtX (n:Nat):ZcS n n=List.range n:=by simp [ZcS]
def kd (s:Srt) (k:Int):Nat:=(kinds s).getD k.toNat 0
structure DeclOk (s:Srt) (f d:Dcl):Prop where
 len:d.args.length=f.args.length
 res:0<=d.res∧d.res < s.names.length
 args:∀ k∈d.args,0<=k∧k < s.names.length
 kres:kd s d.res=kd s f.res
 kargs:∀ (i:Nat) (a b:Int),d.args[i]?=some a->f.args[i]?=some b->kd s a=kd s b
structure DeclsOk (s:Srt) (o:Opr):Prop where
 len1:1<=o.decls.length
 len4:o.decls.length<=4
 ar:∀ f,o.decls[0]?=some f->f.args.length<=3
 all:∀ f,o.decls[0]?=some f->∀ d∈o.decls,DeclOk s f d
open Classical in
noncomputable def ZbI (s:Srt) (o:Opr):Bool:=decide (DeclsOk s o)
theorem ZdL {s:Srt} {o:Opr} (h:DeclsOk s o):ZbI s o=true:=by simp [ZbI,h]
theorem Zgj {s:Srt} {o:Opr} (h:¬ DeclsOk s o):ZbI s o=false:=by simp [ZbI,h]
theorem ZhB {s:Srt} {o:Opr}:ZbI s o=true ↔ DeclsOk s o:=by simp [ZbI]
structure AxOk (g:Sgn) (o:Opr):Prop where
 lo:0<=o.unit
 hi:o.unit<=g.ops.length
 two:(o.assoc=true∨o.comm=true∨o.unit≠0)->∀ d,o.decls[0]?=some d->d.args.length=2∧∀ a b,d.args[0]?=some a->d.args[1]?=some b->kd g.sorts a=kd g.sorts b∧((o.assoc=true∨o.unit≠0)->kd g.sorts a=kd g.sorts d.res) ∧
  (o.unit≠0->∀ (p:Opr) (u:Dcl),g.ops[o.unit.toNat - 1]?=some p->p.decls[0]?=some u->u.args.length=0∧kd g.sorts u.res=kd g.sorts d.res)
open Classical in
noncomputable def axOk (g:Sgn) (o:Opr):Bool:=decide (AxOk g o)
theorem ZcB {g:Sgn} {o:Opr} (h:AxOk g o):axOk g o=true:=by simp [axOk,h]
theorem ZiH {g:Sgn} {o:Opr} (h:¬ AxOk g o):axOk g o=false:=by simp [axOk,h]
theorem ZlC {g:Sgn} {o:Opr}:axOk g o=true ↔ AxOk g o:=by simp [axOk]
theorem DeclsOk.first {s:Srt} {o:Opr} (h:DeclsOk s o):∃ d,o.decls[0]?=some d∧DeclOk s d d:=by
 have h1:=h.len1
 exact ⟨o.decls[0],Taa om,h.all _ (Taa om) _ (List.getElem_mem _)⟩
theorem ZAc {l:List Int} (h:l.length=2):∃ a b,l=[a,b]:=len2 h
def Za5 (l:List Opr):List ByteArray:=l.map (·.name)
structure SgnOk (g:Sgn):Prop where
 sorts:SortsOk g.sorts
 len:g.ops.length<=14
 names:∀ (i:Nat) (o:Opr),g.ops[i]?=some o->Za2 o.name=true∧ZaV (Za5 (g.ops.take i)) o.name=false
 decls:∀ o∈g.ops,DeclsOk g.sorts o
 axs:∀ o∈g.ops,AxOk g o
open Classical in
noncomputable def ZbM (g:Sgn):Bool:=decide (SgnOk g)
theorem ZdM {g:Sgn} (h:SgnOk g):ZbM g=true:=by simp [ZbM,h]
theorem Zea {g:Sgn} (h:¬ SgnOk g):ZbM g=false:=by simp [ZbM,h]
theorem ZgT {g:Sgn}:ZbM g=true ↔ SgnOk g:=by simp [ZbM]
theorem ZgU {l:List Opr} {k:Nat} {o:Opr} (h:l[k]?=some o):Za5 (l.take (k+1))=Za5 (l.take k)++[o.name]:=by
 rw [ZbJ h];simp [Za5]
theorem ZeZ {s:ByteArray} {k:Nat} {b:UInt8} (h:s[k]?=some b):ZaT s k=((Zb6 (b.toNat:Int) && !(k==0 && decide ((b.toNat:Int)<=57))) && ZaT s (k+1)):=by
 obtain ⟨hk,rfl⟩:=getElem?_eq_some_iff.1 h
 exact Zkv hk
theorem ZlD (n:Int):Con e0 147 [.one (.lit (.int .u8 n))] [.one (.lit (.bool (Zb6 n)))]:=by
 by_cases h1:48<=n <;> by_cases h2:n<=57 <;> by_cases h3:65<=n <;> by_cases h4:n<=90 <;> by_cases h5:97<=n <;> by_cases h6:n<=122 <;> first
  | (exfalso;omega)
  | (have hr : Zb6   n = true := by simp [Zb6  , h1, h2, h3, h4, h5, h6]
     refine gI 5 Tryz.func147 ?_
     (have F:=ai @h1 (ai @h2 (ai @h3 (ai @h4 (ai @h5 (ai @h6 @hr)))));refine gG ?_;exact gT))
  | (have hr : Zb6   n = false := by simp [Zb6  , h1, h2, h3, h4, h5, h6]
     refine gI 5 Tryz.func147 ?_
     (have F:=ai @h1 (ai @h2 (ai @h3 (ai @h4 (ai @h5 (ai @h6 @hr)))));refine gG ?_;exact gT))
theorem strL (l:List UInt8):(⟨l.toArray⟩:ByteArray).toList=l:=by
 rw [ByteArray.toList_eq]
section
variable {s:ByteArray}
theorem ZjY (h1:1<=s.size) (h2:s.size<=12) (h3:¬ s.toList=[105,102]) (h4:¬ s.toList=[97,110,100]):Za2 s=ZaT s 0:=by
 simp [Za2,h1,h2,h3,h4]
theorem Ze0 (hs:s.size<=maxLen):Con e0 70 [.one (.lit (.string s))] [.one (.lit (.bool (Za2 s)))]:=by
 have l1:(⟨#[105,102]⟩:ByteArray).toList=[105,102]:=strL [105,102]
 have l2:(⟨#[97,110,100]⟩:ByteArray).toList=[97,110,100]:=strL [97,110,100]
 refine gI 1099520540685 Tryz.func70 ?_
 by_cases h1:1<=s.size
 rotate_left
 ·have hf:=Zb7 (s:=s) (.inl om)
  have z1:((s.size:Int) < 1)=True:=eq_true om
  (have F:=ai @z1 @hf;refine gG ?_;exact gT)
 have z1:((s.size:Int) < 1)=False:=eq_false om
 by_cases h2:s.size<=12
 rotate_left
 ·have hf:=Zb7 (s:=s) (.inr (.inl om))
  have z2:((12:Int) < s.size)=True:=eq_true om
  (have F:=ai @z1 (ai @z2 @hf);refine gG ?_;exact gT)
 have z2:((12:Int) < s.size)=False:=eq_false om
 by_cases h3:s.toList=[105,102]
 ·have hf:=Zb7 (s:=s) (.inr (.inr (.inl h3)))
  (have F:=ai @z1 (ai @z2 (ai @l1 (ai @h3 (ai @beq_self_eq_true.{0} @hf))));refine gG ?_;exact gT)
 have z3:(s.toList==[105,102])=false:=by simpa using h3
 by_cases h4:s.toList=[97,110,100]
 ·have hf:=Zb7 (s:=s) (.inr (.inr (.inr h4)))
  have z3:(([97,110,100]:List UInt8)==[105,102])=false:=by decide
  (have F:=ai @z1 (ai @z2 (ai @l1 (ai @l2 (ai @h4 (ai @z3 (ai @beq_self_eq_true.{0} @hf))))));refine gG ?_;exact gT)
 have z4:(s.toList==[97,110,100])=false:=by simpa using h4
 rw [ZjY h1 h2 h3 h4]
 (have F:=ai @z1 (ai @z2 (ai @l1 (ai @l2 (ai @z3 @z4))));refine gG ?_;clear F)
 (have F:=@e0P;refine gL (ι:=Nat) [2,3,23,40] [] (fun k=>[(3,A.d (.one (.lit (.int .i64 k))))]) (fun k=>[]) (fun k=>k<=s.size∧ZaT s 0=ZaT s k) (fun k=>s.size - k) (0) (⟨Taj _,rfl⟩) (fun k hk=>?_);clear F)
 obtain ⟨hk,he⟩:=hk
 rw [he]
 by_cases hlt:k < s.size
 rotate_left
 ·have q1:¬ ((k:Int) < (s.size:Int)):=by omega
  have ht:=ZgR (s:=s) (k:=k) om
  (have F:=ai @q1 @ht;refine gG ?_;exact gT)
 have q1:(k:Int) < (s.size:Int):=by omega
 obtain ⟨b,hb⟩:∃ b,s[k]?=some b:=⟨s[k],getElem?_pos s k hlt⟩
 have hw1:=Zap (k:=k) om
 have hst:=ZeZ hb
 (have F:=@q1;refine gG ?_;clear F)
 refine gB ?_
 (have F:=@hb;refine gC (ZlD (b.toNat:Int)) ?_;clear F)
 cases hn:Zb6 (b.toNat:Int) with
 | false =>
  have hf:ZaT s k=false:=by rw [hst,hn];rfl
  (have F:=@e0P;refine gR ?_;clear F)
  (have F:=@hf;refine gG ?_;exact gT)
 | true =>
 by_cases hk0:k=0
 ·have z5:((k:Int)=0)=True:=eq_true om
  by_cases h9:(b.toNat:Int)<=57
  ·have z6:((b.toNat:Int)<=57)=True:=eq_true h9
   have hf:ZaT s k=false:=by rw [hst,hn,hk0];simp [h9]
   (have F:=ai @z5 (ai @hb @z6);refine gR ?_;clear F)
   (have F:=@hf;refine gG ?_;exact gT)
  ·have z6:((b.toNat:Int)<=57)=False:=eq_false h9
   have hq:ZaT s k=ZaT s (k+1):=by rw [hst,hn];simp [h9]
   (have F:=ai @z5 (ai @hb @z6);refine gR ?_;clear F)
   (have F:=@hw1;refine gG ?_;exact ⟨k+1,⟨hlt,hq⟩,gw,gw,by omega⟩)
 ·have z5:((k:Int)=0)=False:=eq_false om
  have hq:ZaT s k=ZaT s (k+1):=by rw [hst,hn];simp [hk0]
  (have F:=@z5;refine gR ?_;clear F)
  (have F:=@hw1;refine gG ?_;exact ⟨k+1,⟨hlt,hq⟩,gw,gw,by omega⟩)
theorem Ze1 (hs:s.size<=maxLen):Con e0 65 [.one (.lit (.string s))] [.one (.lit (.bool (Za2 s)))]:=by
 have l1:(⟨#[105,102]⟩:ByteArray).toList=[105,102]:=strL [105,102]
 have l2:(⟨#[97,110,100]⟩:ByteArray).toList=[97,110,100]:=strL [97,110,100]
 refine gI 2417851639247950047084557 Tryz.func65 ?_
 by_cases h3:s.toList=[105,102]
 ·have hf:=Zb7 (s:=s) (.inr (.inr (.inl h3)))
  (have F:=ai @l1 (ai @h3 (ai @beq_self_eq_true.{0} @hf));refine gG ?_;exact gT)
 have z3:(s.toList==[105,102])=false:=by simpa using h3
 by_cases h4:s.toList=[97,110,100]
 ·have hf:=Zb7 (s:=s) (.inr (.inr (.inr h4)))
  have z3:(([97,110,100]:List UInt8)==[105,102])=false:=by decide
  (have F:=ai @l1 (ai @l2 (ai @h4 (ai @z3 (ai @beq_self_eq_true.{0} @hf))));refine gG ?_;exact gT)
 have z4:(s.toList==[97,110,100])=false:=by simpa using h4
 by_cases h1:1<=s.size
 rotate_left
 ·have hf:=Zb7 (s:=s) (.inl om)
  have z1:((s.size:Int) < 1)=True:=eq_true om
  (have F:=ai @l1 (ai @l2 (ai @z3 (ai @z4 (ai @z1 @hf))));refine gG ?_;exact gT)
 have z1:((s.size:Int) < 1)=False:=eq_false om
 by_cases h2:s.size<=12
 rotate_left
 ·have hf:=Zb7 (s:=s) (.inr (.inl om))
  have z2:((12:Int) < s.size)=True:=eq_true om
  (have F:=ai @l1 (ai @l2 (ai @z3 (ai @z4 (ai @z1 (ai @z2 @hf)))));refine gG ?_;exact gT)
 have z2:((12:Int) < s.size)=False:=eq_false om
 obtain ⟨b,hb⟩:∃ b,s[0]?=some b:=⟨s[0],getElem?_pos s 0 h1⟩
 have hst:=ZeZ hb
 rw [ZjY h1 h2 h3 h4]
 have hb0:0<=(b.toNat:Int):=by omega
 have hlet:∀ c:Bool,((decide (97<=(b.toNat:Int)∧(b.toNat:Int)<=122)) || decide (65<=(b.toNat:Int)∧(b.toNat:Int)<=90))=c->(Zb6 (b.toNat:Int) && !((0:Nat)==0 && decide ((b.toNat:Int)<=57)))=c:=fun c hc=>by
  rw [<- hc,Bool.eq_iff_iff]
  simp [Zb6]
  omega
 have key:(decide (97<=(b.toNat:Int)∧(b.toNat:Int)<=122) || decide (65<=(b.toNat:Int)∧(b.toNat:Int)<=90))=true∨(decide (97<=(b.toNat:Int)∧(b.toNat:Int)<=122) || decide (65<=(b.toNat:Int)∧(b.toNat:Int)<=90))=false:=by cases (decide (97<=(b.toNat:Int)∧(b.toNat:Int)<=122) || decide (65<=(b.toNat:Int)∧(b.toNat:Int)<=90)) <;> simp
 rcases key with hk | hk
 rotate_left
 ·have hf:ZaT s 0=false:=by rw [hst,hlet _ hk];rfl
  rw [hf]
  clear hst hlet hf
  by_cases c1:97<=(b.toNat:Int) <;> by_cases c2:(b.toNat:Int)<=122 <;> by_cases c3:65<=(b.toNat:Int) <;> by_cases c4:(b.toNat:Int)<=90 <;> first
   | (exfalso;omega)
   | (exfalso;simp [c1,c2,c3,c4] at hk;done)
   | (have F:=ai @l1 (ai @l2 (ai @z3 (ai @z4 (ai @z1 (ai @z2 (ai @hb (ai @c1 (ai @c2 (ai @c3 @c4)))))))));refine gG ?_;exact gT)
 have hl0:65<=(b.toNat:Int):=by simp at hk;omega
 have h01:ZaT s 0=ZaT s 1:=by rw [hst,hlet _ hk];rfl
 (have F:=@e0P;have NN:Zaj 1:=trivial;refine gGn ?_;clear F NN)
 refine gM (ι:=Unit) [40] [] (fun u=>[(40,A.d (.one (.lit (.bool false))))]) (fun u=>[]) (fun u=>True) ?_ (fun u hu=>Exists.intro _ (ai (Wk.refl _) ?_))
 ·by_cases c1:97<=(b.toNat:Int) <;> by_cases c2:(b.toNat:Int)<=122 <;> by_cases c3:65<=(b.toNat:Int) <;> by_cases c4:(b.toNat:Int)<=90 <;> first
   | (exfalso;omega)
   | (exfalso;simp [c1,c2,c3,c4] at hk;done)
   | (have F:=ai @l1 (ai @l2 (ai @z3 (ai @z4 (ai @z1 (ai @z2 (ai @hb (ai @c1 (ai @c2 (ai @c3 @c4)))))))));refine gG ?_;exact ⟨(),trivial,gw,gw⟩)
 clear hu hlet hk hst
 (have F:=@e0P;refine gG ?_;clear F)
 (have F:=@e0P;refine gL (ι:=Nat) [2,3,44,81] [] (fun k=>[(3,A.d (.one (.lit (.int .i64 k))))]) (fun k=>[]) (fun k=>k<=s.size∧ZaT s 0=ZaT s k) (fun k=>s.size - k) (0) (⟨Taj _,rfl⟩) (fun k hk=>?_);clear F)
 obtain ⟨hkl,he⟩:=hk
 by_cases hlt:k < s.size
 rotate_left
 ·have q1:¬ ((k:Int) < (s.size:Int)):=by omega
  have ht:ZaT s 0=true:=by rw [he];exact ZgR om
  (have F:=ai @q1 @ht;refine gG ?_;exact gT)
 have q1:(k:Int) < (s.size:Int):=by omega
 obtain ⟨d,hd⟩:∃ d,s[k]?=some d:=⟨s[k],getElem?_pos s k hlt⟩
 have hw1:=Zap (k:=k) om
 have hst:=ZeZ hd
 (have F:=@q1;have NN:Zaj 6:=trivial;refine gGn ?_;clear F NN)
 refine gM (ι:=Unit) [81] [] (fun u=>[(81,A.d (.one (.lit (.bool !(Zb6 (d.toNat:Int))))))]) (fun u=>[]) (fun u=>True) ?_ (fun u hu=>Exists.intro _ (ai (Wk.refl _) ?_))
 ·by_cases c1:97<=(d.toNat:Int) <;> by_cases c2:(d.toNat:Int)<=122 <;> by_cases c3:65<=(d.toNat:Int) <;> by_cases c4:(d.toNat:Int)<=90 <;> by_cases c5:48<=(d.toNat:Int) <;> by_cases c6:(d.toNat:Int)<=57 <;> first
   | (exfalso;omega)
   | (have hr : Zb6   (d.toNat : Int) = true := by simp [Zb6  , c1, c2, c3, c4, c5, c6]
      rw [hr]
      (have F:=ai @hd (ai @c1 (ai @c2 (ai @c3 (ai @c4 (ai @c5 @c6)))));refine gG ?_;exact ⟨(),trivial,gw,gw⟩))
   | (have hr : Zb6   (d.toNat : Int) = false := by simp [Zb6  , c1, c2, c3, c4, c5, c6]
      rw [hr]
      (have F:=ai @hd (ai @c1 (ai @c2 (ai @c3 (ai @c4 (ai @c5 @c6)))));refine gG ?_;exact ⟨(),trivial,gw,gw⟩))
 cases hn:Zb6 (d.toNat:Int) with
 | false =>
  have hf:ZaT s 0=false:=by rw [he,hst,hn];rfl
  (have F:=@hf;refine gG ?_;exact gT)
 | true =>
 have hq:ZaT s 0=ZaT s (k+1):=by
  by_cases hk0:k=0
  ·subst hk0;exact h01
  ·rw [he,hst,hn];simp [hk0]
 (have F:=@hw1;refine gG ?_;exact ⟨k+1,⟨hlt,hq⟩,gw,gw,by omega⟩)
end
end Go.Proofs.YtcgacanpeaiabaaGreatDoor
