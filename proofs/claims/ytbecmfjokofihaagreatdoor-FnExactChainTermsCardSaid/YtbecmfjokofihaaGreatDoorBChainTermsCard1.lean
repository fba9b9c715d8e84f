/-
  Part of a proof.
-/
import Derived.Test.YtbecmfjokofihaaGreatDoorBChainTermsCard0
import Derived.Test.YtbecmfjokofihaaGreatDoorChecked
import Derived.Test.YtbecmfjokofihaaGreatDoorRows
import Derived.Lib.LaidTab
import Derived.HandedShaped
import Derived.LaidMore
import Derived.LaidLaws
import Derived.ProofKit
import Derived.Stop.Joined
import Derived.Stop.LaidErr
import Derived.Lib.Bytealg
import Derived.Deep.RegionHeld3
import Derived.Deep.QuietTactic
import Derived.BigQuiet
import Derived.MapKept
import Derived.ChangeMaps5
import Derived.Laws.StructEq
set_option linter.unusedSimpArgs false
set_option linter.unusedVariables false
set_option maxHeartbeats 400000000
set_option maxRecDepth 100000
namespace Go.Proofs.YtbecmfjokofihaaGreatDoor
open Go.RowKit
theorem m299 {p:Prop} (h:p:=by
 refine ⟨S',L,hI.cls,fun t=>?_,hI.size,hI.defers,hI.kept⟩;exact m8):p:=h
theorem m272 {p:Prop} (h:p:=by
 have:=List.all_eq_true.1 aj o ho;rw [hd] at this;simpa using this):p:=h
theorem m268 {p:Prop} (h:p:=by
 rw [Tbq om,mW] at hα;simpa using hα.symm):p:=h
theorem m173 {p:Prop} (h:p:=by
 rcases h2.cls.sfr b hb with h | h | h
 ·exact .inl h
 ·exact .inr ⟨h,(h2.cls.sin b hb).1⟩
 ·exact h.elim):p:=h
theorem zW {p:Prop} (h:p:=by
 injection this with this;exact this.symm):p:=h
theorem m86 {p:Prop} (h:p:=by
 exact ⟨S,⟨fun _=>0,fun _=>Go.undef⟩,⟨hS,fun b hb=>.inl hb,hE,fun _ h=>h.elim,Tai _,fun k x g hk=>by simp [gm] at hk,fun k x hk=>by simp [gm] at hk,fun k k' x x' g hk=>by simp [gm] at hk,hG⟩,fun t=>Zm1 dD t,by simp;omega,rfl,Kept.refl _ _ _ _⟩):p:=h
theorem m8 {p:Prop} (h:p:=by
 by_cases pI:∃ (j:Nat) (p:Oper),j < n∧ops[j]?=some p∧p.dst=some t
 ·obtain ⟨j,p,hj,hp,lW⟩:=pI;obtain ⟨p',d',hP⟩:=on.get hH hj;have hpp:p'=p:=by have:=hP.op;rw [hp] at this;injection this with this;exact this.symm
  subst hpp;have hdt:d'=t:=by have:=hP.dst;rw [lW] at this;injection this with this;exact this.symm
  subst hdt;obtain ⟨α,hα⟩:∃ α,αs[j]?=some α:=⟨αs[j],Taa om⟩;show ax w' S' L (gs (after σ.s (ops.toList.take n) αs) d') _;rw [Ze7 (ops.toList.take n) αs σ.s j p' α (by rw [List.getElem?_take,if_pos hj];simpa using hp) hα lW (fun k q hk hq=>by
   rw [List.getElem?_take] at hq;split at hq
   ·exact (hP.dep k q om (by simpa using hq)).1 hk
   ·cases hq)]
  exact hI.done j p' d' α hj (aD j hj) hp lW hα
 ·have bC:∀ (j:Nat) (p:Oper),j < n->ops[j]?=some p->p.dst≠some t:=fun j p hj hp hd=>pI ⟨j,p,hj,hp,hd⟩;show ax w' S' L (gs (after σ.s (ops.toList.take n) αs) t) _;rw [Zd1 _ _ _ (fun p hp=>by
   obtain ⟨j,hj⟩:=List.mem_iff_getElem?.1 hp;rw [List.getElem?_take] at hj;split at hj
   ·exact bC j p om (by simpa using hj)
   ·cases hj)]
  exact hI.out t bC):p:=h
section
variable {e:Env} {U:Nat->Prop} {w0:World} {S0:Nat->Prop} {nt:Nat}
theorem aN.drew {σ:St} {a:Act} {w:World} (he:e.Ok) (h:aN e U w0 S0 nt σ a w):aN e U w0 S0 nt σ a { w with drawn:=w.drawn+1 }:=by
 obtain ⟨S,L,h⟩:=h;have hk:Kept e.D e.E w.heap.size w { w with drawn:=w.drawn+1 }:=⟨rfl,rfl,rfl,fun _=>Nat.le_succ _,Tai _,fun _ _ _=>rfl⟩;exact ⟨S,L,h.later (h.cls.later hk (he.keep w _ (Tai _) (fun _ _=>rfl) h.cls.g) (fun _ h=>h) (fun _ h=>.inl h)) hk (fun _ h=>h)⟩
theorem Zmo (he:e.Ok) {id:Nat} {ops:Array Oper} {n:Nat} (hB:fI ops n=true) (yp:∀ o,(ops.toList.take n).getLast?=some o->jb o=false) {K:St->Prop} {Q:Exit->Act->World->Prop} (hQ:∀ a w σ',K σ'->aN e U w0 S0 nt σ' a w->Q .normal a w) {σ:St} {a:Act} {w:World}
  (hd:∀ o∈ops.toList,∀ d,o.dst=some d->d < nt) (h:aN e U w0 S0 nt σ a w) (hp:al e (ops.toList.map (·.dst)) n ops.toList σ K):(Code.region id ops true).wp e.P Q a w:=by
 simp only [fI,Tar,Bool.or_eq_true,decide_eq_true_eq] at hB;obtain ⟨⟨⟨hH,hn⟩,hs⟩,qw⟩:=hB;obtain ⟨S,L,h1⟩:=h.drew he;refine wp_region_any he.mixed ?_;have mz:ops.toList=ops.toList.take n++ops.toList.drop n:=(Tbm n _).symm;have bu:(ops.toList.take n).length=n:=by simp;omega
 have ek:al e (ops.toList.map (·.dst)) ((ops.toList.take n).length+0) (ops.toList.take n++ops.toList.drop n) σ K:=by rw [<- mz,bu];exact hp
 obtain ⟨αs,ca,nN,kZ⟩:=C3 (U:=U) he w0.heap.size S0 ops.toList (ops.toList.drop n) 0 (ops.toList.take n) σ (fun _=>yp) ek;rw [bu] at ca
 have oE:InvA e U w0 S0 nt σ.m ops n σ.s αs L (Array.replicate ops.size false) a { w with drawn:=w.drawn+1 } S :=
  ⟨⟨by simp,fun j oj _ hl=>(by rw [getD_replicate_false] at hl;cases hl),fun t _ ht=>getD_in (by simpa using ht) (getD_replicate_false _ _)⟩,h1.size,h1.defers,h1.cls,h1.kept,fun t _=>h1.rel t,fun i o d α _ hl=>(by rw [getD_replicate_false] at hl;cases hl)⟩
 have H:=Al (e:=e) (L:=L) (Q:=Q) he hH hn (fun au=>by
   rcases hs with hs | hs
   ·omega
   ·exact hs) qw (fun i o d hi ho i7=>hd o (List.mem_iff_getElem?.2 ⟨i,by simpa using ho⟩) d i7) ca nN (Zi1 hH Q) (fun _ _ _ _ _ _ _ _ _ _ _ _ _ _=>trivial) (fun ag a' w' S' hI _ aD=>?_) n _ a _ S oE trivial ?_
 ·rw [show n+(ops.size - n)=ops.size by omega] at H;exact H
 ·have fa:aN e U w0 S0 nt ⟨after σ.s (ops.toList.take n) αs,σ.m⟩ a' w':=by
   exact m299
  have:=Zps he ops.toList hQ (ops.toList.drop n) _ a' w' (fun o ho=>hd o (List.mem_of_mem_drop ho)) fa kZ;simpa using this
 ·rw [List.countP_eq_length.2]
  ·simp
  ·intro i hi;have eG:=List.mem_range.1 hi;have bO:i < (Array.replicate ops.size false).size:=by simp;omega
   rw [np bO,getD_replicate_false];rfl
theorem ZjN (ay t:Nat):∀ (s:List (Nat × A)),gs (qk ay s) t=gs s t∨gs (qk ay s) t=.undef
 | []=>.inl rfl
 | (k,a)::r=>by
  have key:∀ (s:List (Nat × A)),ay.testBit t=false->gs (qk ay s) t=.undef:=by
   intro s ht
   induction s with
   | nil=>rfl
   | cons p s ih =>
    obtain ⟨k,a⟩:=p;simp only [qk];split
    ·rename_i hk;have:t≠k:=fun e=>by rw [e,hk] at ht;cases ht
     simp only [gs,this,if_false];exact ih
    ·exact ih
  cases ht:ay.testBit t with
  | false=>exact .inr (key _ ht)
  | true =>
   left;have key2:∀ (s:List (Nat × A)),gs (qk ay s) t=gs s t:=by
    intro s
    induction s with
    | nil=>rfl
    | cons p s ih =>
     obtain ⟨k,a⟩:=p;simp only [qk];split
     ·simp only [gs,ih]
     ·rename_i hk;have:t≠k:=fun e=>hk (by rw [<- e];exact ht);simp only [gs,this,if_false];exact ih
   exact key2 _
theorem ZjO {s:List (Nat × A)} {t:Nat}:∀ {r:List (Nat × A)},nG s r->gs r t=gs s t∨gs r t=.undef
 | [],_=>.inr rfl
 | (k,a)::r,h=>by
  simp only [nG] at h;simp only [gs];split
  ·rename_i e;rw [e];exact .inl h.1.symm
  ·exact ZjO h.2
theorem ZjP {m:List (Nat × Bk)} {t:Nat}:∀ {r:List (Nat × Bk)} {cs:Bk},nA m r->gm r t=some cs->gm m t=some cs
 | [],_,_,h=>by simp [gm] at h
 | (k,a)::r,cs,h,hg=>by
  simp only [nA] at h;simp only [gm] at hg;split at hg
  ·rename_i e;rw [e,h.1];exact hg
  ·exact ZjP h.2 hg
theorem aN.weak {σ σ':St} {a:Act} {w:World} (h:aN e U w0 S0 nt σ a w) (hs:∀ t,gs σ'.s t=gs σ.s t∨gs σ'.s t=.undef) (hm:∀ t cs,gm σ'.m t=some cs->gm σ.m t=some cs):aN e U w0 S0 nt σ' a w:=by
 obtain ⟨S,L,h⟩:=h;refine ⟨S,L,⟨h.cls.sin,h.cls.sfr,h.cls.ein,h.cls.uin,h.cls.bsz,fun k x g hk=>h.cls.mine k x g (hm k x hk),fun k x hk=>h.cls.own k x (hm k x hk),fun k k' x x' g h1 h2=>h.cls.inj k k' x x' g (hm _ _ h1) (hm _ _ h2),h.cls.g⟩,fun t=>?_,h.size,h.defers,h.kept⟩;rcases hs t with h1 | h1
 ·rw [h1];exact h.rel t
 ·rw [h1];trivial
theorem Zum {m:List (Nat × Bk)} {base:Nat} {ρ:Operand->A} {o:Oper} {t:TypeId} {v:Value} {i:TypeInfo} (he:e.Ok) (ho:o.op=.alloc t) (hi:e.P.info? t=some i) (hv:i.zero=some v):iM e U base S0 m o ρ .undef:=by
 intro w S L ρv hC hr;have hb:Below w.heap.size w (w.alloc (.cells v.cells t)):=wF w _;unfold gives;have aJ:(execOp ρv o).run e.P w=.ok (.value (.pointer (some ⟨w.heap.size,0,none⟩))) (w.alloc (.cells v.cells t)):=by
  exact m215
 rw [aJ];have hk:Kept e.D e.E w.heap.size w (w.alloc (.cells v.cells t)):=Kept.of_below hb (fun _=>Tai _);exact ⟨S,⟨fun _ h=>h,fun _ h=>.inl h⟩,hC.later hk (he.keep _ _ hb.size (fun b hE=>hb.block b (Tbd (hC.ein b hE) hC.bsz)) hC.g) (fun _ h=>h) (fun _ h=>.inl h),hk,trivial⟩
def ZrG (e:Env) (base p d:Nat) (m:List (Nat × Bk)) (L:Lay) (t:TypeId) (v:Value) (ag:Array Bool) (a:Act) (w:World) (S:Nat->Prop):Prop :=
 ag.getD p false=true->∃ b,a.tmps.getD d undef=.pointer (some ⟨b,0,none⟩)∧base<=b∧b < w.heap.size∧¬ S b∧(∀ k bk,gm m k=some bk->¬ cQ L k bk b)∧w.heap[b]?=some (.cells v.cells t)
theorem Cls.blk_lt {m:List (Nat × Bk)} {base:Nat} {w:World} {S:Nat->Prop} {L:Lay} (h:Cls e U base S0 m w S L) {k:Nat} {bk:Bk} {g:Nat} (hk:gm m k=some bk) (hg:cQ L k bk g):g < w.heap.size:=by
 exact (bL.lt (h.own k bk hk) hg).1
theorem Zh1 (he:e.Ok) {ops:Array Oper} {p:Nat} (wW:Aw ops p=true) (hB:fI ops (p+1)=true) {K:St->Prop} {Q:Exit->Act->World->Prop} (hQ:∀ a w σ',K σ'->aN e U w0 S0 nt σ' a w->Q .normal a w) {σ:St} {a:Act} {w:World}
  (hd:∀ o∈ops.toList,∀ d,o.dst=some d->d < nt) (h:aN e U w0 S0 nt σ a w) (hp:al e (ops.toList.map (·.dst)) (p+1) ops.toList σ K):wpAny e.P .any ops Q ops.size (Array.replicate ops.size false) a w:=by
 simp only [fI,Tar,Bool.or_eq_true,decide_eq_true_eq] at hB;obtain ⟨⟨⟨hH,hn⟩,hs⟩,qw⟩:=hB;unfold Aw at wW;split at wW;rotate_left
 ·cases wW
 rename_i o0 co;unfold jb at wW;split at wW;rotate_left
 ·cases wW
 rename_i d t ty lI af;obtain ⟨S,L,h1⟩:=h;have mz:ops.toList=ops.toList.take p++ops.toList.drop p:=(Tbm p _).symm;have bu:(ops.toList.take p).length=p:=by simp;omega
 have ek:al e (ops.toList.map (·.dst)) ((ops.toList.take p).length+1) (ops.toList.take p++ops.toList.drop p) σ K:=by rw [<- mz,bu];exact hp
 obtain ⟨αs0,mW,Bs,my⟩:=C3 (U:=U) he w0.heap.size S0 ops.toList (ops.toList.drop p) 1 (ops.toList.take p) σ (fun h=>absurd h (by decide)) ek;rw [bu] at mW;have jX:ops.toList[p]?=some ⟨some d,.alloc t,ty,lI,af,none⟩:=by simpa using co
 have hdrop:ops.toList.drop p=⟨some d,.alloc t,ty,lI,af,none⟩::ops.toList.drop (p+1):=by
  rw [List.drop_eq_getElem_cons (Tad.1 jX).1,(Tad.1 jX).2]
 have pR:ops.toList.take (p+1)=ops.toList.take p++[⟨some d,.alloc t,ty,lI,af,none⟩]:=uz jX;rw [hdrop] at my;simp only [al,jb,and_self,if_true] at my;obtain ⟨d0,t0,cs,r9,rt,hz,kZ⟩:=my;injection r9 with r9
 subst r9;injection rt with rt
 subst rt;unfold iJ at hz;simp only [Tav,Option.bind_eq_some_iff] at hz;obtain ⟨v,⟨i,hi,hv⟩,ez⟩:=hz;have hG:=fun (ρ:Operand->A)=>Zum (U:=U) (S0:=S0) (m:=σ.m) (base:=w0.heap.size) (ρ:=ρ) (o:=⟨some d,.alloc t,ty,lI,af,none⟩) he rfl hi hv;have ca:(αs0++[A.undef]).length=p+1:=by simp [mW]
 have qR:∀ (os:List Oper) (s:List (Nat × A)) (αs:List A),oM e U w0.heap.size S0 σ.m ops.toList os s αs->oM e U w0.heap.size S0 σ.m ops.toList (os++[⟨some d,.alloc t,ty,lI,af,none⟩]) s (αs++[A.undef]):=by
  intro os
  induction os with
  | nil =>
   intro s αs hc
   cases αs with
   | nil=>exact ⟨hG _,trivial⟩
   | cons x xs=>simp [oM] at hc
  | cons o os ih =>
   intro s αs hc
   cases αs with
   | nil=>simp [oM] at hc
   | cons x xs=>exact ⟨hc.1,ih _ _ hc.2⟩
 have qQ:∀ (os:List Oper) (s:List (Nat × A)) (αs:List A),αs.length=os.length->after s (os++[⟨some d,.alloc t,ty,lI,af,none⟩]) (αs++[A.undef])=(d,A.undef)::after s os αs:=by
  intro os
  induction os with
  | nil =>
   intro s αs hl
   cases αs with
   | nil=>rfl
   | cons x xs=>simp at hl
  | cons o os ih =>
   intro s αs hl
   cases αs with
   | nil=>simp at hl
   | cons x xs=>exact ih _ _ (by simpa using hl)
 have nN:oM e U w0.heap.size S0 σ.m ops.toList (ops.toList.take (p+1)) σ.s (αs0++[A.undef]):=by rw [pR];exact qR _ _ _ Bs
 have haf:after σ.s (ops.toList.take (p+1)) (αs0++[A.undef])=(d,A.undef)::after σ.s (ops.toList.take p) αs0:=by rw [pR];exact qQ _ _ _ (by rw [mW,bu])
 have oE:InvA e U w0 S0 nt σ.m ops (p+1) σ.s (αs0++[A.undef]) L (Array.replicate ops.size false) a w S :=
  ⟨⟨by simp,fun j oj _ hl=>(by rw [getD_replicate_false] at hl;cases hl),fun t _ ht=>getD_in (by simpa using ht) (getD_replicate_false _ _)⟩,h1.size,h1.defers,h1.cls,h1.kept,fun t _=>h1.rel t,fun i o d α _ hl=>(by rw [getD_replicate_false] at hl;cases hl)⟩
 have hJ0:ZrG e w0.heap.size p d σ.m L t v (Array.replicate ops.size false) a w S:=fun hl=>by rw [getD_replicate_false] at hl;cases hl
 have A9:∀ {i':Nat} {o':Oper} {d':Nat},HeadAt ops (p+1) i' o' d'->i'≠p->d'≠d:=fun hA bq e'=>by
  have:=(hA.dep p _ om co).1 (Ne.symm bq);exact this (by rw [e'])
 have kX:ZkW e U w0 S0 nt σ.m ops (p+1) σ.s (αs0++[A.undef]) L (ZrG e w0.heap.size p d σ.m L t v) Q:=by
  intro ag a w S i' o' d' α hI hJ hA eY hr fL hα vq hG';by_cases t7:i'=p
  ·subst t7;have bZ:o'=⟨some d,.alloc t,ty,lI,af,none⟩:=by have:=hA.op;rw [co] at this;exact zW
   subst bZ;have i7:d'=d:=by have:=hA.dst;exact zW
   subst i7;have hau:α=A.undef:=by exact m268
   subst hau;unfold Oper.wp;have aJ:(execOp a.eval ⟨some d',.alloc t,ty,lI,af,none⟩).run e.P w=.ok (.value (.pointer (some ⟨w.heap.size,0,none⟩))) (w.alloc (.cells v.cells t)):=by
    simp [execOp,Instr.alloc,zeroValue,typeInfo,hi,hv,newVar,newRow,Result.andThen]
   have hb:Below w.heap.size w (w.alloc (.cells v.cells t)):=wF w _;have hk:Kept e.D e.E w.heap.size w (w.alloc (.cells v.cells t)):=Kept.of_below hb (fun _=>Tai _);have hC:=hI.cls;have Bb:Cls e U w0.heap.size S0 σ.m (w.alloc (.cells v.cells t)) S L:=hC.later hk (he.keep _ _ hb.size (fun b hE=>hb.block b (Tbd (hC.ein b hE) hC.bsz)) hC.g) (fun _ h=>h) (fun _ h=>.inl h);rw [aJ,Oper.upon_value];refine ⟨S,hI.put hH hA eY hr fL hα (fun _ h=>h) Bb hk trivial,fun _=>⟨w.heap.size,?_,hC.bsz,by simp,fun hs=>by have:=(hC.sin _ hs).1;omega,fun k bk hk hg=>by have:=hC.blk_lt hk hg;omega,heap_alloc_new w _⟩⟩
   rw [tG (by rw [hI.size];exact fL)];simp
  ·refine xE (hG' w S L a.eval hI.cls vq) fun v' w' ⟨S',hS,hC,hk,pT⟩=>⟨S',hI.put hH hA eY hr fL hα hS.1 hC hk pT,fun hl=>?_⟩;rw [getD_set_ne false t7] at hl;obtain ⟨b,q1,q2,q3,q4,q5,q6⟩:=hJ hl;refine ⟨b,?_,q2,Tbd q3 hk.size,fun hs=>?_,q5,?_⟩
   ·rw [hA.dst,tG (by rw [hI.size];exact fL),if_neg (Ne.symm (A9 hA t7))];exact q1
   ·rcases hS.2 b hs with hs | hs
    ·exact q4 hs
    ·omega
   ·rw [hk.block b q3 (fun hE=>by have:=hI.cls.ein b hE;omega)];exact q6
 have BZ:∀ (ag:Array Bool) (a:Act) (w:World) (S:Nat->Prop) (i':Nat) (o':Oper) (d':Nat),ZrG e w0.heap.size p d σ.m L t v ag a w S->InvA e U w0 S0 nt σ.m ops (p+1) σ.s (αs0++[A.undef]) L ag a w S->HeadAt ops (p+1) i' o' d'->i' < p+1->i'∈Region.ready .any ops ag->d' < nt->o'.guard≠none->ZrG e w0.heap.size p d σ.m L t v (ag.setIfInBounds i' true) (a.put o'.dst undef) w S:=by
  intro ag a w S i' o' d' hJ hI hA eY hr fL hg hl;have t7:i'≠p:=fun e'=>by
   subst e';have:=hA.op;rw [co] at this;injection this with this
   rw [<- this] at hg;exact hg rfl
  rw [getD_set_ne false t7] at hl;obtain ⟨b,q1,q2⟩:=hJ hl;refine ⟨b,?_,q2⟩;rw [hA.dst,tG (by rw [hI.size];exact fL),if_neg (Ne.symm (A9 hA t7))];exact q1
 have H:=Al (e:=e) (L:=L) (Q:=Q) he hH hn (fun au=>by
   rcases hs with hs | hs
   ·omega
   ·exact hs) qw (fun i o d hi ho i7=>hd o (List.mem_iff_getElem?.2 ⟨i,by simpa using ho⟩) d i7) ca nN kX BZ (fun ag a' w' S' hI hJ aD=>?_) (p+1) _ a _ S oE hJ0 ?_
 ·rw [show p+1+(ops.size - (p+1))=ops.size by omega] at H;exact H
 ·have fa:Sim e U w0 S0 nt ⟨after σ.s (ops.toList.take (p+1)) (αs0++[A.undef]),σ.m⟩ a' w' S' L:=by
   refine ⟨hI.cls,fun t=>?_,hI.size,hI.defers,hI.kept⟩;by_cases pI:∃ (j:Nat) (p':Oper),j < p+1∧ops[j]?=some p'∧p'.dst=some t
   ·obtain ⟨j,p0,hj,hp,lW⟩:=pI;obtain ⟨p',d',hP⟩:=on.get hH hj;have hpp:p'=p0:=by have:=hP.op;rw [hp] at this;exact zW
    subst hpp;have hdt:d'=t:=by have:=hP.dst;rw [lW] at this;exact zW
    subst hdt;obtain ⟨α,hα⟩:∃ α,(αs0++[A.undef])[j]?=some α:=⟨(αs0++[A.undef])[j],Taa om⟩;show ax w' S' L (gs (after σ.s (ops.toList.take (p+1)) (αs0++[A.undef])) d') _;rw [Ze7 (ops.toList.take (p+1)) (αs0++[A.undef]) σ.s j p' α (by rw [List.getElem?_take,if_pos hj];simpa using hp) hα lW (fun k q hk hq=>by
     rw [List.getElem?_take] at hq;split at hq
     ·exact (hP.dep k q om (by simpa using hq)).1 hk
     ·cases hq)]
    exact hI.done j p' d' α hj (aD j hj) hp lW hα
   ·have bC:∀ (j:Nat) (p':Oper),j < p+1->ops[j]?=some p'->p'.dst≠some t:=fun j p' hj hp hd=>pI ⟨j,p',hj,hp,hd⟩;show ax w' S' L (gs (after σ.s (ops.toList.take (p+1)) (αs0++[A.undef])) t) _;rw [Zd1 _ _ _ (fun p' hp=>by
     obtain ⟨j,hj⟩:=List.mem_iff_getElem?.1 hp;rw [List.getElem?_take] at hj;split at hj
     ·exact bC j p' om (by simpa using hj)
     ·cases hj)]
    exact hI.out t bC
  rw [haf] at fa;obtain ⟨b,q1,q2,q3,q4,q5,q6⟩:=hJ (aD p om);have fL:d < nt:=hd _ (List.mem_iff_getElem?.2 ⟨p,jX⟩) d rfl;have hrv:=yZ (w:=w') (S:=S') v.cells.toList;rw [ez] at hrv
  have vw:=fa.bornE (bk:=.var none cs) (w':=w') (b':=b) (v':=undef) (u:=a'.tmps.getD d undef) (τ:=some b) (s1:=(d,A.undef)::after σ.s (ops.toList.take p) αs0) (m1:=σ.m) (α:=.ref d 0) (S':=S') fL (fun _ h=>h) (fun _ h=>.inl h) (fun t=>.inl rfl) (fun k x h=>h)
   (fun g hg=>by injection hg with hg;subst hg;exact ⟨q4,fun hE=>by have:=hI.cls.ein _ hE;omega,.inl q2⟩) (fun k x g cj hx hg hb=>by injection hg with hg;subst hg;exact q5 k x hx hb)
   (Kept.refl _ _ _ _) hI.cls.g (by
    simp only [bL,if_true];refine ⟨by simp,q3,q4,⟨v.cells,t,q6,by have:=hrv.len;simpa using this⟩,?_⟩;exact bn.of_vals cs v.cells.toList 0 hrv (fun j u hj=>by
     rw [Nat.zero_add];have ka:v.cells[j]?=some u:=by simpa using hj
     simp [World.cell?,q6,ka]))
   (fun g hg=>by simp only [cQ,if_true] at hg;exact .inl (by rw [hg])) (by simp [ax,q1])
  have vx:aN e U w0 S0 nt ⟨(d,.ref d 0)::bM d ((d,A.undef)::after σ.s (ops.toList.take p) αs0),(d,.var none cs)::aA d σ.m⟩ a' w':=by
   obtain ⟨S2,L2,k1,k2,k3,k4,k5⟩:=vw;refine ⟨S2,L2,k1,fun t=>?_,hI.size,hI.defers,k5⟩;have:=k2 t;rw [tG (by rw [hI.size];exact fL)] at this;by_cases ht:t=d
   ·rw [if_pos ht] at this;rw [ht];rw [ht] at this;exact this
   ·rw [if_neg ht] at this;exact this
  have hsimC:aN e U w0 S0 nt ⟨(d,.ref d 0)::bM d (after σ.s (ops.toList.take p) αs0),(d,.var none cs)::aA d σ.m⟩ a' w':=aN.weak vx (fun t=>.inl (by
   by_cases ht:t=d
   ·simp [gs,ht]
   ·simp [gs,ht,bM])) (fun t x hx=>hx)
  have:=kZ he U w0 S0 nt a' w' ops.toList Q rfl (fun o ho=>hd o (List.mem_of_mem_drop ho)) hQ hsimC;simpa using this
 ·rw [List.countP_eq_length.2]
  ·simp
  ·intro i hi;have eG:=List.mem_range.1 hi;have bO:i < (Array.replicate ops.size false).size:=by simp;omega
   rw [np bO,getD_replicate_false];rfl
theorem Zsf (he:e.Ok) {id:Nat} {ops:Array Oper} {p:Nat} (wW:Aw ops p=true) (hB:fI ops (p+1)=true) {K:St->Prop} {Q:Exit->Act->World->Prop} (hQ:∀ a w σ',K σ'->aN e U w0 S0 nt σ' a w->Q .normal a w) {σ:St} {a:Act} {w:World}
  (hd:∀ o∈ops.toList,∀ d,o.dst=some d->d < nt) (h:aN e U w0 S0 nt σ a w) (hp:al e (ops.toList.map (·.dst)) (p+1) ops.toList σ K):(Code.region id ops true).wp e.P Q a w:=wp_region_any he.mixed (Zh1 he wW hB hQ hd (h.drew he) hp)
theorem Zq9 {P:Program} {Q:Exit->Act->World->Prop} {c:Code} {ι:Type} (I:ι->Act->World->Prop) (μ:ι->Nat) (i0:ι) {a:Act} {w:World} (h₀:I i0 a w)
  (round:∀ i a w,I i a w->c.wp P (Exit.then (fun a' w'=>∃ j,I j a' w'∧μ j < μ i) Q) a w):(Code.loop c).wp P Q a w:=by
 intro b k cs
 have key:∀ n i a w,μ i=n->I i a w ->
   ∃ e a' w',Q e a' w'∧Arrives P (lone (b.at a (.code c::.inLoop c::k)) cs w) b k cs e a' w':=by
  intro n
  induction n using Nat.strongRecOn with
  | _ n ih =>
   intro i a w hn hI;obtain ⟨e,a₁,w₁,hq,pF⟩:=round i a w hI b (.inLoop c::k) cs
   cases e with
   | normal =>
    obtain ⟨j,hI₁,au⟩:=hq;obtain ⟨e₂,a₂,w₂,hq₂,harr₂⟩:=ih (μ j) (hn ▸ au) j a₁ w₁ rfl hI₁;exact ⟨e₂,a₂,w₂,hq₂,.of_steps (Steps.trans pF (.one step_inLoop)) harr₂⟩
   | exit id=>exact ⟨_,a₁,w₁,hq,.pass (x:=.inLoop c) rfl (fun _ _=>.inl (by simp)) pF⟩
   | goto l=>exact ⟨_,a₁,w₁,hq,.pass (x:=.inLoop c) rfl (fun _ _=>.inl (by simp)) pF⟩
   | ret=>exact ⟨_,a₁,w₁,hq,.pass (x:=.inLoop c) rfl (fun _ _=>.inl (by simp)) pF⟩
   | panic ch=>exact ⟨_,a₁,w₁,hq,.pass (x:=.inLoop c) rfl (fun _ _=>.inl (by simp)) pF⟩
   | outgrown=>exact ⟨_,a₁,w₁,hq,.pass (x:=.inLoop c) rfl (fun _ _=>.inl (by simp)) pF⟩
 obtain ⟨e,a',w',hq,pF⟩:=key _ i0 a w rfl h₀;exact ⟨e,a',w',hq,.of_steps (.one step_loop) pF⟩
def nw (nt:Nat):Code->Bool
 | .region _ ops _=>ops.toList.all (fun o=>o.dst.all (fun d=>decide (d < nt)))
 | .seq a b=>nw nt a && nw nt b
 | .cond _ a b=>nw nt a && nw nt b
 | .block _ c=>nw nt c
 | .loop c=>nw nt c
 | _=>true
def Ag (e:Env) (U:Nat->Prop) (w0:World) (S0:Nat->Prop) (nt:Nat) (K:St->Prop) (a:Act) (w:World):Prop:=∃ σ,K σ∧aN e U w0 S0 nt σ a w
def LQ (e:Env) (U:Nat->Prop) (w0:World) (S0:Nat->Prop) (nt:Nat) (Q:PX->St->Prop):Exit->Act->World->Prop
 | .normal,a,w=>Ag e U w0 S0 nt (Q .normal) a w
 | .exit id,a,w=>Ag e U w0 S0 nt (Q (.exit id)) a w
 | .ret,a,w=>Ag e U w0 S0 nt (Q .ret) a w
 | _,_,_=>False
def cp (e:Env) (ay:Nat) (c:Code) (σ:St) (Q:PX->St->Prop):Prop:=e.Ok->∀ (U:Nat->Prop) (w0:World) (S0:Nat->Prop) (nt:Nat) (a:Act) (w:World),nw nt c=true->aN e U w0 S0 nt σ a w->c.wp e.P (LQ e U w0 S0 nt Q) a w
def nB (ay:Nat) (Q:PX->St->Prop) (σ':St):Prop:=Q .normal ⟨qk ay σ'.s,σ'.m⟩
end
section
variable {e:Env} {ay:Nat} {σ:St} {Q:PX->St->Prop}
theorem LQ.mono {U:Nat->Prop} {w0:World} {S0:Nat->Prop} {nt:Nat} {Q Q':PX->St->Prop} (hQ:∀ p σ,Q p σ->Q' p σ) {ex:Exit} {a:Act} {w:World} (h:LQ e U w0 S0 nt Q ex a w):LQ e U w0 S0 nt Q' ex a w:=by
 cases ex with
 | normal=>exact h.elim fun σ h=>⟨σ,hQ _ _ h.1,h.2⟩
 | exit id=>exact h.elim fun σ h=>⟨σ,hQ _ _ h.1,h.2⟩
 | ret=>exact h.elim fun σ h=>⟨σ,hQ _ _ h.1,h.2⟩
 | goto l=>exact h
 | panic ch=>exact h
 | outgrown=>exact h
theorem ZDi {Q Q':PX->St->Prop} (hQ:∀ p σ,Q p σ->Q' p σ) (c:Code) (σ:St) (h:cp e ay c σ Q):cp e ay c σ Q':=fun he U w0 S0 nt a w aj hs=>wp_mono (h he U w0 S0 nt a w aj hs) fun ex a' w' hq=>hq.mono hQ
theorem rI {P:St->Prop} {c:Code} (hT:jJ e σ P) (h:∀ σ',P σ'->cp e ay c σ' Q):cp e ay c σ Q:=fun he U w0 S0 nt a w aj hs=>by
 obtain ⟨σ',h1,h2⟩:=hT he U w0 S0 nt a w hs;exact h σ' h1 he U w0 S0 nt a w aj h2
theorem Zsg (h:Q .normal σ):cp e ay .skip σ Q:=fun he U w0 S0 nt a w aj hs=>wp_skip ⟨σ,h,hs⟩
theorem Zsh {id:Nat} (h:Q (.exit id) σ):cp e ay (.exit id) σ Q:=fun he U w0 S0 nt a w aj hs=>wp_exit ⟨σ,h,hs⟩
theorem Aq (h:Q .ret σ):cp e ay .ret σ Q:=fun he U w0 S0 nt a w aj hs=>wp_ret ⟨σ,h,hs⟩
theorem ZnT {id:Nat} {ops:Array Oper} {AV:Bool} (n:Nat) (hn:(if AV then vV ops n else decide (n=0))=true) (hp:al e (ops.toList.map (·.dst)) n ops.toList σ (nB ay Q)):cp e ay (.region id ops AV) σ Q:=fun he U w0 S0 nt a w aj hs=>by
 simp only [nw] at aj;have hd:∀ o∈ops.toList,∀ d,o.dst=some d->d < nt:=fun o ho d hd=>by
  exact m272
 have hQ:∀ a w σ',nB ay Q σ'->aN e U w0 S0 nt σ' a w->LQ e U w0 S0 nt Q .normal a w:=fun a w σ' h1 h2 =>
  ⟨_,h1,h2.weak (fun t=>ZjN ay t σ'.s) (fun _ _ h=>h)⟩
 cases AV with
 | false =>
  have hn:n=0:=by simpa using hn
  subst hn;refine wp_region_list ?_;have:=Zps he ops.toList hQ ops.toList _ a w hd hs hp;simpa using this
 | true =>
  have hn:fI ops n=true:=by simpa [vV] using hn
  cases n with
  | zero=>exact Zmo he hn (by simp) hQ hd hs hp
  | succ p =>
   by_cases hA:Aw ops p=true
   ·exact Zsf he hA hn hQ hd hs hp
   ·refine Zmo he hn (fun o ho=>?_) hQ hd hs hp;have ct:p+1<=ops.size:=by
     simp only [fI,Tar,decide_eq_true_eq] at hn;exact hn.1.1.2
    have au:p < ops.size:=om;have e:(ops.toList.take (p+1)).getLast?=ops[p]?:=by
     rw [List.getLast?_eq_getElem?];simp only [Taw,Array.length_toList,Nat.min_eq_left ct,Nat.add_sub_cancel];rw [List.getElem?_take,if_pos om];simp
    rw [e] at ho;unfold Aw at hA;rw [ho] at hA;simpa using hA
theorem wz {a b:Code} (h:cp e ay a σ (fun x σ'=>match x with
  | .normal=>∃ σ1,Wk σ' σ1∧cp e ay b σ1 Q
  | x=>Q x σ')):cp e ay (.seq a b) σ Q:=fun he U w0 S0 nt ac w aj hs=>by
 simp only [nw,Tar] at aj;refine wp_seq (wp_mono (h he U w0 S0 nt ac w aj.1 hs) fun ex a' w' hq=>?_)
 cases ex with
 | normal=>obtain ⟨σ',⟨σ1,hw,h1⟩,h2⟩:=hq;exact h1 he U w0 S0 nt a' w' aj.2 (h2.weak hw.1 hw.2)
 | exit id=>exact hq
 | ret=>exact hq
 | goto l=>exact hq
 | panic ch=>exact hq
 | outgrown=>exact hq
theorem Zsi {c:Operand} {a b:Code} {t:Bool} (hc:aL σ.s c=.d (.one (.lit (.bool t)))) (h1:t=true->cp e ay a σ Q) (h2:t=false->cp e ay b σ Q):cp e ay (.cond c a b) σ Q:=fun he U w0 S0 nt ac w aj hs=>by
 simp only [nw,Tar] at aj;obtain ⟨S,L,h'⟩:=id hs;have h3:=h'.eval c;rw [hc] at h3;refine wp_cond h3.bool ?_
 cases t
 ·simp only [Tam,if_false];exact h2 rfl he U w0 S0 nt ac w aj.2 hs
 ·simp only [if_true];exact h1 rfl he U w0 S0 nt ac w aj.1 hs
theorem Zp9 {id:Nat} {c:Code} (h:cp e ay c σ (fun x σ'=>match x with
  | .exit j=>if j=id then Q .normal σ' else Q (.exit j) σ'
  | x=>Q x σ')):cp e ay (.block id c) σ Q:=fun he U w0 S0 nt ac w aj hs=>by
 simp only [nw] at aj;refine wp_block (wp_mono (h he U w0 S0 nt ac w aj hs) fun ex a' w' hq=>?_)
 cases ex with
 | normal=>exact hq
 | exit j =>
  obtain ⟨σ',h1,h2⟩:=hq;simp only [Exit.inBlock];simp only at h1;split
  ·rename_i hj;rw [if_pos hj] at h1;exact ⟨σ',h1,h2⟩
  ·rename_i hj;rw [if_neg hj] at h1;exact ⟨σ',h1,h2⟩
 | ret=>exact hq
 | goto l=>exact hq
 | panic ch=>exact hq
 | outgrown=>exact hq
theorem ZDj {c:Code} {ι:Type} (st:ι->St) (ok:ι->Prop) (μ:ι->Nat) (x0:ι) (h0:ok x0) (fg:nG σ.s (st x0).s) (mM:nA σ.m (st x0).m)
  (hr:∀ x,ok x->cp e ay c (st x) (fun p σ''=>match p with
   | .normal=>∃ y,ok y∧nG σ''.s (st y).s∧nA σ''.m (st y).m∧μ y < μ x
   | p=>Q p σ'')):cp e ay (.loop c) σ Q:=fun he U w0 S0 nt ac w aj hs=>by
 simp only [nw] at aj;refine Zq9 (ι:=ι) (fun x a w=>ok x∧aN e U w0 S0 nt (st x) a w) μ x0 ⟨h0,hs.weak (fun t=>ZjO fg) (fun t cs=>ZjP mM)⟩ fun x1 a1 w1 ⟨h1,h2⟩=>?_;refine wp_mono (hr x1 h1 he U w0 S0 nt a1 w1 aj h2) fun ex a' w' hq=>?_
 cases ex with
 | normal =>
  obtain ⟨σ',⟨y,h5,h3,h4,h6⟩,h7⟩:=hq;exact ⟨y,⟨h5,h7.weak (fun t=>ZjO h3) (fun t cs=>ZjP h4)⟩,h6⟩
 | exit id=>exact hq
 | ret=>exact hq
 | goto l=>exact hq
 | panic ch=>exact hq
 | outgrown=>exact hq
end
def oR:Nat->List D->List (Nat × A)
 | _,[]=>[]
 | k,x::xs=>(k,.d x)::oR (k+1) xs
theorem Zsj:∀ (xs:List D) (k t:Nat),gs (oR k xs) t=if k<=t then match xs[t - k]? with
   | some x=>.d x
   | none=>.undef
  else .undef
 | [],k,t=>by simp [oR,gs]
 | x::xs,k,t=>by
  simp only [oR,gs];by_cases h1:t=k
  ·subst h1;simp
  ·rw [Zsj xs (k+1) t];simp only [h1,if_false];by_cases h2:k+1<=t
   ·rw [if_pos h2,if_pos om,show t - k=(t - (k+1))+1 by omega];simp
   ·rw [if_neg h2];by_cases h3:k<=t
    ·omega
    ·rw [if_neg h3]
inductive RS where
 | slot (t:Nat)
 | cell (t ty:Nat)
def kR:List ResultVar->List RS
 | []=>[]
 | .tmp t::r=>.slot t::kR r
 | .cell a t::r=>.cell a t::kR r
def kL (P:Program) (σ:St):RS->A
 | .slot t=>gs σ.s t
 | .cell t ty=>(tM (nZ P ty) (iI σ.m (gs σ.s t))).getD .undef
def mK (P:Program) (σ:St):List RS->List D->Prop
 | [],[]=>True
 | t::ts,x::xs=>kL P σ t=.d x∧mK P σ ts xs
 | _,_=>False
def tq (P:Program) (qb:List RS) (r:List D):PX->St->Prop
 | .exit _,_=>False
 | _,σ=>∃ ks,mK P (frzs ks σ) qb r
section
variable {e:Env} {U:Nat->Prop} {w0:World} {S0:Nat->Prop} {nt:Nat} {σ:St} {a:Act} {w:World} {S:Nat->Prop} {L:Lay}
theorem ZDk (h:Sim e U w0 S0 nt σ a w S L) {x:ResultVar} {rs:List RS} {t:RS} (mZ:kR [x]=[t]) {y:D} (hy:kL e.P σ t=.d y):∃ v,(match x with
   | .tmp t=>(pure (a.tmps.getD t undef):Sem Value)
   | .cell b t=>do loadVar t (<- asAddr (a.tmps.getD b undef))).run e.P w=.ok v w∧aW w S y v:=by
 cases x with
 | tmp k =>
  simp only [kR,List.cons.injEq,and_true] at mZ;subst mZ;have:=h.rel k;simp only [kL] at hy;rw [hy] at this;exact ⟨_,rfl,this⟩
 | cell b ty =>
  simp only [kR,List.cons.injEq,and_true] at mZ;subst mZ;simp only [kL] at hy
  cases hl:tM (nZ e.P ty) (iI σ.m (gs σ.s b)) with
  | none=>rw [hl] at hy;simp at hy
  | some α =>
   rw [hl] at hy;simp only [Option.getD_some] at hy;subst hy;unfold tM at hl;split at hl
   ·rename_i k cs hk hp;obtain ⟨u,h1,h2⟩:=Zp5 h.cls hp (h.rel b) hk hl;refine ⟨u,?_,h2⟩;have hptr:∃ p,a.tmps.getD b undef=.pointer (some p):=by
     have hr:=h.rel b;unfold iI at hp;split at hp
     ·rename_i hx;rw [hx] at hr;simp only [ax,aW,aQ] at hr;obtain ⟨b',off,hv,_⟩:=hr;exact ⟨_,hv⟩
     ·rename_i hx;rw [hx] at hr;exact ⟨_,hr⟩
     ·rename_i hx;rw [hx] at hr;obtain ⟨g,_,hv⟩:=hr;exact ⟨_,hv⟩
     ·cases hp
    obtain ⟨p,ek⟩:=hptr;rw [ek] at h1;show Sem.run e.P (do loadVar ty (<- asAddr (a.tmps.getD b undef))) w=_;rw [ek];simpa [Instr.loadAt,Instr.sureAddr,asAddr,Result.andThen] using h1
   ·cases hl
theorem ZkX (h:Sim e U w0 S0 nt σ a w S L):∀ {l:List ResultVar} {r:List D},mK e.P σ (kR l) r->∃ vs:List Value,(l.mapM (m:=Sem) fun (x:ResultVar)=>match x with
   | .tmp t=>(pure (a.tmps.getD t undef):Sem Value)
   | .cell b t=>do loadVar t (<- asAddr (a.tmps.getD b undef))).run e.P w=.ok vs w∧cx w S r vs
 | [],r,hr=>by
  cases r with
  | nil=>exact ⟨[],by simp,trivial⟩
  | cons x xs=>simp [kR,mK] at hr
 | x::l,r,hr=>by
  have hx:kR (x::l)=(kR [x]).head (by cases x <;> simp [kR])::kR l:=by cases x <;> rfl
  rw [hx] at hr
  cases r with
  | nil=>simp [mK] at hr
  | cons y ys =>
   simp only [mK] at hr;obtain ⟨v,h1,h2⟩:=ZDk h (x:=x) (rs:=[]) (by cases x <;> rfl) hr.1;obtain ⟨vs,h3,h4⟩:=ZkX h hr.2;refine ⟨v::vs,?_,h2,h4⟩;simp only [List.mapM_cons,Sem.run_bind,Sem.run_pure,Result.andThen_ok];rw [h1];simp only [Result.andThen_ok];rw [h3];simp
end
theorem Zi2 {e:Env} {U:Nat->Prop} {w0:World} {S0:Nat->Prop} {nt:Nat} {σ:St} {a:Act} {w:World} {S:Nat->Prop} {L:Lay} {fn:Func} {r:List D} (h:Sim e U w0 S0 nt σ a w S L) (hr:mK e.P σ (kR fn.results.toList) r) :
  ∃ v,(results fn a.tmps).run e.P w=.ok v w∧ax w S ⟨fun _=>0,fun _=>Go.undef⟩ (bh r) v:=by
 obtain ⟨vs,h1,h2⟩:=ZkX h hr
 have aJ:(fn.results.mapM (m:=Sem) fun (x:ResultVar)=>match x with
   | .tmp t=>(pure (a.tmps.getD t undef):Sem Value)
   | .cell b t=>do loadVar t (<- asAddr (a.tmps.getD b undef))).run e.P w=.ok vs.toArray w:=by
  rw [Array.mapM_eq_mapM_toList];simp only [Sem.run_map,h1,Result.andThen_ok]
 have aJ:(results fn a.tmps).run e.P w=.ok (if h:(vs.toArray).size=1 then (vs.toArray)[0] else .tuple vs.toArray) w:=by
  unfold results;rw [Sem.run_bind];exact congrArg (fun (z:Result (Array Value))=>z.andThen (fun a w''=>Sem.run e.P (pure (if h:a.size=1 then a[0] else Value.tuple a)) w'')) aJ
 match r,vs,h2,aJ with
 | [x],[v],hd,aJ=>exact ⟨v,by rw [aJ];simp,hd.1⟩
 | [],[],hd,aJ=>exact ⟨.tuple #[],by rw [aJ];simp,[],rfl,trivial⟩
 | x::y::r',v::v'::vs',hd,aJ=>exact ⟨.tuple (v::v'::vs').toArray,by rw [aJ];simp,_,rfl,hd⟩
 | [],_::_,hd,_=>simp [cx] at hd
 | _::_,[],hd,_=>simp [cx] at hd
 | [_],_::_::_,hd,_=>simp [cx] at hd
 | _::_::_,[_],hd,_=>simp [cx] at hd
theorem Zm1 {w:World} {S:Nat->Prop} {L:Lay} {args:List D} {vs:List Value} {n:Nat} (dD:cx w S args vs) (t:Nat):ax w S L (gs (oR 0 args) t) ((vs.toArray++Array.replicate n undef).getD t undef):=by
 rw [Zsj];simp only [Taj,if_true,Nat.sub_zero]
 cases hx:args[t]? with
 | none=>trivial
 | some x =>
  obtain ⟨v,h1,h2⟩:=dD.get hx;have au:t < vs.length:=(Tad.1 h1).1;have e1:(vs.toArray++Array.replicate n undef).getD t undef=v:=by
   rw [Array.getD_eq_getD_getElem?,Array.getElem?_append_left (by simpa using au)];simp [h1]
  simp only [e1];exact h2
theorem ZxF {e:Env} (he:e.Ok) {f:FuncId} {fn:Func} {c:Code} {args r:List D} {ts:List RS} (ay:Nat) (hf:e.P.funcs[f]?=some fn) (hb:fn.body=some c) (mv:(fn.name == "runtime.NumGoroutine")=false)
  (aj:nw fn.ntmps c=true) (ca:Nat.ble args.length fn.ntmps=true) (ep:kR fn.results.toList=ts) (h:cp e ay c ⟨oR 0 args,[]⟩ (tq e.P ts r)):az e f args r:=by
 refine ⟨by unfold ny;rw [hf];simp [mv,hb],fun w S vs hS hE hG dD=>?_⟩;have iP:=dD.len;have ca:=Nat.le_of_ble_eq_true ca;subst ep;refine calls_of_wp hf hb ?_;have fa:aN e (fun _=>False) w S fn.ntmps ⟨oR 0 args,[]⟩ { tmps:=vs.toArray++Array.replicate (fn.ntmps - vs.toArray.size) undef,defers:=[] } w:=by
  exact m86
 refine wp_mono (h he _ _ _ _ _ w aj fa) fun ex a' w' hq=>?_;have zz:∀ σ',(∃ ks,mK e.P (frzs ks σ') (kR fn.results.toList) r)->aN e (fun _=>False) w S fn.ntmps σ' a' w'->a'.defers=[]∧∃ v,(results fn a'.tmps).run e.P w'=.ok v w'∧∃ u,Ending.returned v=.returned u∧Kept e.D e.E w.heap.size w w'∧e.G w'∧ax w' (fun b=>S b∨(w.heap.size<=b∧b < w'.heap.size)) ⟨fun _=>0,fun _=>Go.undef⟩ (bh r) u:=by
  intro σ' ⟨ks,h1⟩ h2;obtain ⟨S',L',h2⟩:=aN.frzs he ks σ' h2;obtain ⟨v,h3,h4⟩:=Zi2 h2 h1;refine ⟨h2.defers,v,h3,v,rfl,⟨h2.kept.os,h2.kept.tape,h2.kept.output,h2.kept.drawn,h2.kept.size,fun b hb hE=>h2.kept.block b hb (fun h=>h.elim hE id)⟩,h2.cls.g,h4.keep (Tai _) (fun _ _ _=>rfl) (fun b hb=>?_)⟩;exact m173
 cases ex with
 | normal=>obtain ⟨σ',h1,h2⟩:=hq;exact zz σ' h1 h2
 | ret=>obtain ⟨σ',h1,h2⟩:=hq;exact zz σ' h1 h2
 | exit id=>obtain ⟨σ',h1,h2⟩:=hq;exact h1.elim
 | goto l=>exact hq.elim
 | panic ch=>exact hq.elim
 | outgrown=>exact hq.elim
def DB (P:Program) (qb:List RS) (R:List D->List Bk->Prop):PX->St->Prop
 | .exit _,_=>False
 | _,σ=>∃ r ks pm,ej σ.m ks=some pm∧ks.Nodup∧pm.all pinned=true∧R r pm∧mK P σ qb r
theorem Zun {e:Env} (he:e.Ok) {f:FuncId} {fn:Func} {c:Code} {args:List D} {pm:List Bk} {R:List D->List Bk->Prop} {ts:List RS} (oF:List Nat) (ay:Nat) (hf:e.P.funcs[f]?=some fn) (hb:fn.body=some c) (mv:(fn.name == "runtime.NumGoroutine")=false)
  (aj:nw fn.ntmps c=true) (ca:Nat.ble args.length fn.ntmps=true) (ep:kR fn.results.toList=ts) (h:cp e ay c ⟨oR 0 args,aZ oF pm⟩ (DB e.P ts R)):aR e f args pm R:=by
 refine ⟨by unfold ny;rw [hf];simp [mv,hb],fun w S vs hS hE hG iO lR dD=>?_⟩;have iP:=dD.len;have ca:=Nat.le_of_ble_eq_true ca;subst ep;refine calls_of_wp hf hb ?_;have fa:aN e (dV pm) w S fn.ntmps ⟨oR 0 args,aZ oF pm⟩ { tmps:=vs.toArray++Array.replicate (fn.ntmps - vs.toArray.size) undef,defers:=[] } w:=by
  have at':∀ k x,gm (aZ oF pm) k=some x->x∈pm∧bL w S (jy (aZ oF pm) ⟨fun _=>0,fun _=>Go.undef⟩) k x∧∀ g,cQ (jy (aZ oF pm) ⟨fun _=>0,fun _=>Go.undef⟩) k x g ↔ dU x g:=fun k x hx=>by
   have hm:=(Dd hx).2;exact ⟨hm,Aj (iO x hm).1 hx⟩
  refine ⟨S,jy (aZ oF pm) ⟨fun _=>0,fun _=>Go.undef⟩,⟨hS,fun b hb=>.inl hb,hE,fun b ⟨x,hx,hg⟩=>(iO x hx).2 b hg,Tai _,fun k x g hx hg=>.inr ⟨x,(at' k x hx).1,((at' k x hx).2.2 g).1 hg⟩,fun k x hx=>(at' k x hx).2.1,fun k k' x x' g hx bj hg fo=>?_,hG⟩,fun t=>Zm1 dD t,by simp;omega,rfl,Kept.refl _ _ _ _⟩;exact ZkR lR hx bj (((at' k x hx).2.2 g).1 hg) (((at' k' x' bj).2.2 g).1 fo)
 refine wp_mono (h he _ _ _ _ _ w aj fa) fun ex a' w' hq=>?_
 have zz:∀ σ',(∃ r ks bX,ej σ'.m ks=some bX∧ks.Nodup∧bX.all pinned=true∧R r bX∧mK e.P σ' (kR fn.results.toList) r)->aN e (dV pm) w S fn.ntmps σ' a' w'->a'.defers=[]∧∃ v,(results fn a'.tmps).run e.P w'=.ok v w' ∧
   ∃ u r bX,Ending.returned v=.returned u∧R r bX∧Kept e.D (fun b=>e.E b∨dV pm b) w.heap.size w w'∧e.G w' ∧
   (∀ x∈bX,mQ w' (fun b=>(S b∨dV pm b∨(w.heap.size<=b∧b < w'.heap.size))∧¬ dV bX b) x∧∀ g,dU x g->dV pm g∨w.heap.size<=g)∧mT bX ∧
   ax w' (fun b=>(S b∨dV pm b∨(w.heap.size<=b∧b < w'.heap.size))∧¬ dV bX b) ⟨fun _=>0,fun _=>Go.undef⟩ (bh r) u:=by
  intro σ' ⟨r,ks,bX,hg,hn,hp,hR,h1⟩ ⟨S',L',h2⟩;obtain ⟨v,h3,h4⟩:=Zi2 h2 h1;have hp:∀ x∈bX,pinned x=true:=fun x hx=>List.all_eq_true.1 hp x hx;have kv:∀ b,S' b->(S b∨dV pm b∨(w.heap.size<=b∧b < w'.heap.size))∧¬ dV bX b:=fun b hb=>by
   refine ⟨?_,fun ⟨x,hx,hxg⟩=>?_⟩
   ·rcases h2.cls.sfr b hb with q | q | q
    ·exact .inl q
    ·exact .inr (.inr ⟨q,(h2.cls.sin b hb).1⟩)
    ·exact .inr (.inl q)
   ·obtain ⟨k,hk,oz⟩:=An hg x hx;exact ((h2.cls.own k x oz).lt (((yX (h2.cls.own k x oz) (hp x hx)).2 b).2 hxg)).2 hb
  refine ⟨h2.defers,v,h3,v,r,bX,rfl,hR,h2.kept,h2.cls.g,fun x hx=>?_,ZhC h2.cls.own h2.cls.inj hn hg hp,ZjM (h4.keep (Tai _) (fun _ _ _=>rfl) kv)⟩;obtain ⟨k,hk,oz⟩:=An hg x hx;have ho:=h2.cls.own k x oz;have hpo:=yX ho (hp x hx);refine ⟨(yX (ho.keep (Tai _) (fun _ _ _=>rfl) kv (fun g fo=>⟨rfl,fun hs=>hs.2 ⟨x,hx,(hpo.2 g).1 fo⟩⟩)) (hp x hx)).1,fun g fo=>?_⟩;rcases h2.cls.mine k x g oz ((hpo.2 g).2 fo) with q | q
  ·exact .inr q
  ·exact .inl q
 cases ex with
 | normal=>obtain ⟨σ',h1,h2⟩:=hq;exact zz σ' h1 h2
 | ret=>obtain ⟨σ',h1,h2⟩:=hq;exact zz σ' h1 h2
 | exit id=>obtain ⟨σ',h1,h2⟩:=hq;exact h1.elim
 | goto l=>exact hq.elim
 | panic ch=>exact hq.elim
 | outgrown=>exact hq.elim
def ZxG (P:Program) (qb:List RS) (R:List D->Prop):PX->St->Prop
 | .exit _,_=>False
 | _,σ=>∃ ks r,R r∧mK P (frzs ks σ) qb r
theorem Zuo {e:Env} (he:e.Ok) {f:FuncId} {fn:Func} {c:Code} {args:List D} {R:List D->Prop} {ts:List RS} (ay:Nat) (hf:e.P.funcs[f]?=some fn) (hb:fn.body=some c) (mv:(fn.name == "runtime.NumGoroutine")=false)
  (aj:nw fn.ntmps c=true) (ca:Nat.ble args.length fn.ntmps=true) (ep:kR fn.results.toList=ts) (h:cp e ay c ⟨oR 0 args,[]⟩ (ZxG e.P ts R)):k9 e f args R:=by
 refine ⟨by unfold ny;rw [hf];simp [mv,hb],fun w S vs hS hE hG dD=>?_⟩;have iP:=dD.len;have ca:=Nat.le_of_ble_eq_true ca;subst ep;refine calls_of_wp hf hb ?_;have fa:aN e (fun _=>False) w S fn.ntmps ⟨oR 0 args,[]⟩ { tmps:=vs.toArray++Array.replicate (fn.ntmps - vs.toArray.size) undef,defers:=[] } w:=by
  exact m86
 refine wp_mono (h he _ _ _ _ _ w aj fa) fun ex a' w' hq=>?_;have zz:∀ σ',(∃ ks r,R r∧mK e.P (frzs ks σ') (kR fn.results.toList) r)->aN e (fun _=>False) w S fn.ntmps σ' a' w'->a'.defers=[]∧∃ v,(results fn a'.tmps).run e.P w'=.ok v w'∧∃ u r,Ending.returned v=.returned u∧R r∧Kept e.D e.E w.heap.size w w'∧e.G w'∧ax w' (fun b=>S b∨(w.heap.size<=b∧b < w'.heap.size)) ⟨fun _=>0,fun _=>Go.undef⟩ (bh r) u:=by
  intro σ' ⟨ks,r,hr,h1⟩ h2;obtain ⟨S',L',h2⟩:=aN.frzs he ks σ' h2;obtain ⟨v,h3,h4⟩:=Zi2 h2 h1;refine ⟨h2.defers,v,h3,v,r,rfl,hr,⟨h2.kept.os,h2.kept.tape,h2.kept.output,h2.kept.drawn,h2.kept.size,fun b hb hE=>h2.kept.block b hb (fun h=>h.elim hE id)⟩,h2.cls.g,h4.keep (Tai _) (fun _ _ _=>rfl) (fun b hb=>?_)⟩;exact m173
 cases ex with
 | normal=>obtain ⟨σ',h1,h2⟩:=hq;exact zz σ' h1 h2
 | ret=>obtain ⟨σ',h1,h2⟩:=hq;exact zz σ' h1 h2
 | exit id=>obtain ⟨σ',h1,h2⟩:=hq;exact h1.elim
 | goto l=>exact hq.elim
 | panic ch=>exact hq.elim
 | outgrown=>exact hq.elim
inductive Res where
 | bad
 | done (σ:St)
 | call (q:Bool) (c:Operand) (args:List Operand) (d:Option Nat) (n:Nat) (os:List Oper) (σ:St)
 | map (q:Bool) (d:Option Nat) (n:Nat) (os:List Oper) (σ:St)
 | stop (n:Nat) (os:List Oper) (σ:St)
def qi (x:Option St) (f:St->Res):Res :=
 match x with
 | some σ=>f σ
 | none=>.bad
def DC (d:Option Nat) (next:St->Res) (σ:St):Res:=next ⟨aI σ.s d .no,σ.m⟩
def DI (yes no:St->Res) (σ:St):Bool->Res
 | true=>yes σ
 | false=>no σ
def wR (b8:Bool) (yes no:St->Res) (σ:St):Option A->Res
 | some (.d (.one (.lit (.bool b))))=>DI yes no σ (b==b8)
 | some .no=>no σ
 | _=>.bad
def qB:Nat->Bool
 | 0=>false
 | _+1=>true
def fw (P:Program) (d:Option Nat) (ty:TypeId) (q n:Nat) (os:List Oper) (next:St->Res):Op->St->Res
 | .alloc t,σ=>qi (if qB q=true then none else mC σ d (iJ P t)) next
 | .call ⟨.value c,args,_⟩,σ=>.call (qB n) c args.toList d (n - 1) os σ
 | .makeMap _ none,σ=>.map (qB n) d (n - 1) os σ
 | op,σ=>qi (AJ P (qB n) σ d ty op) next
def iU (P:Program) (ds:List (Option Nat)):Nat->List Oper->St->Res
 | _,[],σ=>.done σ
 | n,⟨d,op,ty,_,_,none⟩::os,σ=>fw P d ty (n - 1) n os (iU P ds (n - 1) os) op σ
 | n,⟨d,op,ty,_,_,some (j,b8)⟩::os,σ=>wR b8 (fw P d ty n n os (iU P ds (n - 1) os) op) (DC d (iU P ds (n - 1) os)) σ ((ds[j]?.join).map (gs σ.s))
def runN (P:Program) (ds:List (Option Nat)):Nat->Nat->List Oper->St->Res
 | 0,n,os,σ=>.stop n os σ
 | _+1,_,[],σ=>.done σ
 | j+1,n,⟨d,op,ty,_,_,none⟩::os,σ=>fw P d ty (n - 1) n os (runN P ds j (n - 1) os) op σ
 | j+1,n,⟨d,op,ty,_,_,some (i,b8)⟩::os,σ=>wR b8 (fw P d ty n n os (runN P ds j (n - 1) os) op) (DC d (runN P ds j (n - 1) os)) σ ((ds[i]?.join).map (gs σ.s))
def nY (e:Env) (ds:List (Option Nat)) (K:St->Prop):Res->Prop
 | .bad=>False
 | .done σ=>K σ
 | .call q c args d n os σ=>∀ (o:Oper) (ts:Array TypeId),o.op=.call ⟨.value c,args.toArray,ts⟩->o.dst=d->ZrF e q o σ (fun σ'=>al e ds n os σ' K)
 | .map q d n os σ=>q=false∧∀ b:Nat,al e ds n os ⟨aI σ.s d (.d (.one (.lit (.map (some b))))),σ.m⟩ K
 | .stop n os σ=>al e ds n os σ K
theorem ZgR {e:Env} {ds:List (Option Nat)} {os:List Oper} {K:St->Prop} {n q:Nat} {next:St->Res} (ih:∀ σ,nY e ds K (next σ)->al e ds (n - 1) os σ K) {o:Oper} {σ:St} (hq:q=n∨∀ t,o.op≠.alloc t) (h:nY e ds K (fw e.P o.dst o.type q n os next o.op σ)) :
  ZrF e (qB n) o σ (fun σ'=>al e ds (n - 1) os σ' K):=by
 unfold fw at h;split at h
 ·rename_i t ho;rcases hq with hq | hq
  ·subst hq;unfold qi at h;split at h
   ·rename_i σ' hσ
    cases hq:qB q with
    | true=>rw [hq] at hσ;simp at hσ
    | false =>
     rw [hq] at hσ;show iT e o _ (fun σ'=>al e ds (q - 1) os σ' K);refine Zy7 (σ':=σ') ?_ (ih σ' h);simp only [ho,AJ];exact hσ
   ·exact h.elim
  ·exact (hq t ho).elim
 ·rename_i c args ts ho;exact h o ts (by rw [ho]) rfl
 ·rename_i t ho;obtain ⟨h1,h2⟩:=h;rw [h1];exact Zsc ho h2
 ·rename_i op σ1 hne0 bq hne2 ho;unfold qi at h;split at h
  ·rename_i σ' hσ
   cases hq:qB n with
   | true =>
    rw [hq] at hσ;show zh e o _ (fun σ'=>al e ds (n - 1) os σ' K);exact ZGa hσ (ih σ' h)
   | false =>
    rw [hq] at hσ;show iT e o _ (fun σ'=>al e ds (n - 1) os σ' K);exact Zy7 hσ (ih σ' h)
  ·exact h.elim
theorem Zqa {e:Env} {ds:List (Option Nat)} {K:St->Prop} {n:Nat} {os:List Oper} {o:Oper} {σ:St} {next:St->Res} (hg:o.guard=none) (ih:∀ σ,nY e ds K (next σ)->al e ds (n - 1) os σ K) (h:nY e ds K (fw e.P o.dst o.type (n - 1) n os next o.op σ)):al e ds n (o::os) σ K:=by
 have alloc:∀ t,o.op=.alloc t->qB (n - 1)=false∧∃ d cs,o.dst=some d∧iJ e.P t=some cs∧al e ds (n - 1) os ⟨(d,.ref d 0)::bM d σ.s,(d,.var none cs)::aA d σ.m⟩ K:=fun t ho=>by
  rw [ho] at h;simp only [fw] at h;unfold qi at h;split at h
  ·rename_i σ' hσ;split at hσ
   ·cases hσ
   ·rename_i hq;unfold mC at hσ;split at hσ
    ·rename_i d cs hd hz;injection hσ with hσ
     exact ⟨by simpa using hq,d,cs,hd,hz,by rw [hσ];exact ih _ h⟩
    ·cases hσ
  ·exact h.elim
 cases n with
 | zero =>
  simp only [al];have h1:=ZgR (n:=0) (q:=0) ih (.inl rfl) h;have h1:iT e o σ (fun σ'=>al e ds 0 os σ' K):=h1;simp only [al] at h1;exact ut hg h1
 | succ n =>
  simp only [al,hg];by_cases ca:∃ t,o.op=.alloc t
  ·obtain ⟨t,ho⟩:=ca;obtain ⟨h1,d,cs,h2,h3,h4⟩:=alloc t ho;have hn:n=0:=by
    cases n with
    | zero=>rfl
    | succ k=>cases h1
   subst hn;have hia:jb o=true:=by
    obtain ⟨od,oo,ot,op,oa,og⟩:=o;simp only at ho h2 hg;subst ho h2 hg;rfl
   simp only [hia,and_self,if_true];simp only [Nat.add_sub_cancel,al] at h4;exact ⟨d,t,cs,h2,ho,h3,h4⟩
  ·have yp:¬ (n=0∧jb o=true):=fun ⟨_,h2⟩=>by
    unfold jb at h2;split at h2
    ·exact ca ⟨_,rfl⟩
    ·cases h2
   rw [if_neg yp];exact ZgR ih (.inr fun t ht=>ca ⟨t,ht⟩) h
theorem ZxH {e:Env} {ds:List (Option Nat)} {K:St->Prop} {n:Nat} {os:List Oper} {o:Oper} {σ:St} {j:Nat} {b8:Bool} (hg:o.guard=some (j,b8)) (h:match (ds[j]?.join).map (gs σ.s) with
   | some (.d (.one (.lit (.bool b))))=>if b=b8 then ZrF e (qB n) o σ (fun σ'=>al e ds (n - 1) os σ' K) else al e ds (n - 1) os ⟨aI σ.s o.dst .no,σ.m⟩ K
   | some .no=>al e ds (n - 1) os ⟨aI σ.s o.dst .no,σ.m⟩ K
   | _=>False):al e ds n (o::os) σ K:=by
 cases n with
 | zero =>
  simp only [al];refine Zul hg ?_;split at h
  ·rename_i b hb
   try simp only [hb]
   split at h
   ·rename_i kw;rw [if_pos kw];have h:iT e o σ (fun σ'=>al e ds 0 os σ' K):=h;simpa only [al] using h
   ·rename_i kw;rw [if_neg kw];have h:al e ds 0 os ⟨aI σ.s o.dst .no,σ.m⟩ K:=h;simpa only [al] using h
  ·rename_i hb
   try simp only [hb]
   have h:al e ds 0 os ⟨aI σ.s o.dst .no,σ.m⟩ K:=h;simpa only [al] using h
  ·exact h.elim
 | succ n =>
  simp only [al,hg];exact h
theorem ZkY {e:Env} {ds:List (Option Nat)} {K:St->Prop} {n:Nat} {os:List Oper} {d:Option Nat} {op:Op} {ty:TypeId} {lI:String} {wS:Array Edge} {j:Nat} {b8:Bool} {next:St->Res} (ih:∀ σ,nY e ds K (next σ)->al e ds (n - 1) os σ K) {σ:St}
  (h:nY e ds K (wR b8 (fw e.P d ty n n os next op) (DC d next) σ ((ds[j]?.join).map (gs σ.s)))):al e ds n (⟨d,op,ty,lI,wS,some (j,b8)⟩::os) σ K:=by
 refine ZxH rfl ?_;unfold wR at h;split at h
 ·rename_i b hb;simp only [hb];unfold DI at h;split at h
  ·rename_i kw;rw [if_pos (by simpa using kw)];exact ZgR (o:=⟨d,op,ty,lI,wS,some (j,b8)⟩) ih (.inl rfl) h
  ·rename_i kw;rw [if_neg (by simpa using kw)];exact ih _ h
 ·rename_i hb;simp only [hb];exact ih _ h
 ·exact h.elim
theorem mg {e:Env} {ds:List (Option Nat)} {K:St->Prop} {n:Nat} {σ:St} (h:K σ):al e ds n [] σ K:=by
 cases n with
 | zero=>simp only [al];exact Zzc h
 | succ n=>exact h
theorem xJ {e:Env} {ds:List (Option Nat)} {K:St->Prop}:∀ (os:List Oper) (n:Nat) (σ:St),nY e ds K (iU e.P ds n os σ)->al e ds n os σ K
 | [],n,σ,h=>mg h
 | ⟨d,op,ty,lI,wS,none⟩::os,n,σ,h=>Zqa (o:=⟨d,op,ty,lI,wS,none⟩) rfl (xJ os (n - 1)) h
 | ⟨d,op,ty,lI,wS,some (j,b8)⟩::os,n,σ,h=>ZkY (xJ os (n - 1)) h
theorem Zpt {e:Env} {ds:List (Option Nat)} {K:St->Prop}:∀ (j:Nat) (os:List Oper) (n:Nat) (σ:St),nY e ds K (runN e.P ds j n os σ)->al e ds n os σ K
 | 0,os,n,σ,h=>h
 | j+1,[],n,σ,h=>mg h
 | j+1,⟨d,op,ty,lI,wS,none⟩::os,n,σ,h=>Zqa (o:=⟨d,op,ty,lI,wS,none⟩) rfl (Zpt j os (n - 1)) h
 | j+1,⟨d,op,ty,lI,wS,some (i,b8)⟩::os,n,σ,h=>ZkY (Zpt j os (n - 1)) h
def ZrH (c:A) (xs:Option (List D)) (σ:St):Option (FuncId × List D × St) :=
 match qK c,xs with
 | some (f,caps),some xs=>some (f,xs++caps.map .one,σ)
 | _,_=>none
def ZrI (c:Operand) (args:List Operand):Option St->Option (FuncId × List D × St)
 | some σ=>ZrH (aL σ.s c) (kV (args.map (aL σ.s))) σ
 | none=>none
def wQ (q:Bool) (c:Operand) (args:List Operand) (σ:St):Option (FuncId × List D × St):=ZrI c args (eE q (qP (args.map (aL σ.s))) σ)
def ZrJ (f:Option (FuncId × List C)) (k:Nat) (xs:Option (List D)):Option Bk->Option (FuncId × Nat × Nat × Nat × List (List C) × List D)
 | some (.buf _ ty sz rows)=>match f,xs with
  | some (f,caps),some xs=>some (f,k,ty,sz,rows,xs++caps.map .one)
  | _,_=>none
 | _=>none
def ZrK (m:List (Nat × Bk)) (f:Option (FuncId × List C)) (xs:Option (List D)):A->Option (FuncId × Nat × Nat × Nat × List (List C) × List D)
 | .buf k=>ZrJ f k xs (gm m k)
 | _=>none
def ZnV (c:Operand) (x0:Operand) (rest:List Operand) (σ:St):Option (FuncId × Nat × Nat × Nat × List (List C) × List D):=ZrK σ.m (qK (aL σ.s c)) (kV (rest.map (aL σ.s))) (fu σ.m (aL σ.s x0))
section
variable {e:Env} {ay:Nat} {σ:St} {Q:PX->St->Prop} {ds:List (Option Nat)} {K:St->Prop} {os gp:List Oper} {n n':Nat} {s1 s2 s3:List (Nat × A)} {m1 m2 m3:List (Nat × Bk)}
theorem Zhh {σ':St} (h:iU e.P ds n os σ=.done σ') (hK:K σ'):al e ds n os σ K:=xJ os n σ (by rw [h];exact hK)
theorem Zsk {ks:List Nat} {σ σ':St} (hf:eE false ks σ=some σ'):frzs ks σ=σ':=by
 unfold eE at hf;split at hf
 ·injection hf with hf
 ·simpa using hf
theorem ZhE {q:Bool} {c:Operand} {args:List Operand} {f:FuncId} {xs:List D} {σ':St} (h1:wQ q c args σ=some (f,xs,σ')):∃ caps ys,eE q (qP (args.map (aL σ.s))) σ=some σ'∧qK (aL σ'.s c)=some (f,caps)∧kV (args.map (aL σ'.s))=some ys∧xs=ys++caps.map .one:=by
 unfold wQ ZrI at h1;split at h1
 ·rename_i σ1 hf;unfold ZrH at h1;split at h1
  ·rename_i f' caps xs' kx bG;simp only [Taq,Prod.mk.injEq] at h1;obtain ⟨rfl,rfl,rfl⟩:=h1;exact ⟨caps,xs',hf,kx,bG,rfl⟩
  ·cases h1
 ·cases h1
theorem ZGb {q:Bool} {c:Operand} {args:List Operand} {f:FuncId} {xs:List D} {d:Option Nat} {r:List D} (h:iU e.P ds n os σ=.call q c args d n' gp ⟨s1,m1⟩) (h1:wQ q c args ⟨s1,m1⟩=some (f,xs,⟨s2,m2⟩)) (hc:az e f xs r) (h2:aI s2 d (bh r)=s3) (hK:al e ds n' gp ⟨s3,m2⟩ K):al e ds n os σ K:=by
 refine xJ os n σ ?_;rw [h];intro o ts ho hd;obtain ⟨caps,ys,hf,kx,bG,rfl⟩:=ZhE h1;exact ZDd ho hf kx bG hc (by rw [hd,h2];exact hK)
theorem ZDl {c:Operand} {args:List Operand} {f:FuncId} {xs:List D} {d ty sz:Nat} {rows:List (List C)} (h:iU e.P ds n os σ=.call false c args (some d) n' gp ⟨s1,m1⟩) (h1:wQ false c args ⟨s1,m1⟩=some (f,xs,⟨s2,m2⟩)) (hc:kh e f xs ty sz rows) (h2:bM d s2=s3) (h3:aA d m2=m3) (hK:al e ds n' gp ⟨(d,.buf d)::s3,(d,.buf none ty sz rows)::m3⟩ K):al e ds n os σ K:=by
 refine xJ os n σ ?_;rw [h];intro o ts ho hd;obtain ⟨caps,ys,hf,kx,bG,rfl⟩:=ZhE h1;exact ZkQ (wm _ (Zsk hf)) (fun σ'' hσ=>by subst hσ;exact ZGY ho hd kx bG hc (by simp only [h2,h3];exact hK))
theorem ZDm {d:Option Nat} (h:iU e.P ds n os σ=.map false d n' gp ⟨s1,m1⟩) (hK:∀ b:Nat,al e ds n' gp ⟨aI s1 d (.d (.one (.lit (.map (some b))))),m1⟩ K):al e ds n os σ K:=by
 refine xJ os n σ ?_;rw [h];exact ⟨rfl,hK⟩
theorem Zzd {P:Program} {d:Option Nat} {ty:TypeId} {n:Nat} {os:List Oper} {nx:St->Res} {q:Nat} {t:TypeId} {s:List (Nat × A)} {m:List (Nat × Bk)}:fw P d ty q n os nx (.makeMap t none) ⟨s,m⟩=.map (qB n) d (n - 1) os ⟨s,m⟩:=rfl
theorem ZDn {c:Operand} {args:List Operand} {f:FuncId} {xs:List D} {d:Option Nat} {R:List D->Prop} (h:iU e.P ds n os σ=.call false c args d n' gp ⟨s1,m1⟩) (h1:wQ false c args ⟨s1,m1⟩=some (f,xs,⟨s2,m2⟩)) (hc:k9 e f xs R) (hK:∀ r,R r->al e ds n' gp ⟨aI s2 d (bh r),m2⟩ K):al e ds n os σ K:=by
 refine xJ os n σ ?_;rw [h];intro o ts ho hd;obtain ⟨caps,ys,hf,kx,bG,rfl⟩:=ZhE h1;exact ZkQ (wm _ (Zsk hf)) (fun σ'' hσ=>by subst hσ;exact Zy8 ho kx bG hc (fun r hr=>by rw [hd];exact hK r hr))
theorem ZDo {c:Operand} {args:List Operand} {f:FuncId} {xs:List D} {d:Option Nat} (ks du:List Nat) {pm:List Bk} {R:List D->List Bk->Prop} (h:iU e.P ds n os σ=.call false c args d n' gp ⟨s1,m1⟩) (h1:wQ false c args ⟨s1,m1⟩=some (f,xs,⟨s2,m2⟩)) (hc:aR e f xs pm R) (iO:ej m2 ks=some pm) (hpn:pm.all pinned=true) (hn:ks.Nodup)
  (hk:ph (ks++du) s2=s3) (hr:nD (ks++du) m2=m3) (hK:∀ r bX,R r bX->al e ds n' gp ⟨aI s3 d (bh r),aZ du bX++m3⟩ K):al e ds n os σ K:=by
 refine xJ os n σ ?_;rw [h];intro o ts ho hd;obtain ⟨caps,ys,hf,kx,bG,rfl⟩:=ZhE h1;exact ZkQ (wm _ (Zsk hf)) (fun σ'' hσ=>by subst hσ;exact ZG0 ho ks du hn iO hpn kx bG hc (fun r bX hR=>by rw [hd];simp only [hk,hr];exact hK r bX hR))
theorem ZxI {c x0:Operand} {rest:List Operand} {f:FuncId} {k ty sz:Nat} {rows:List (List C)} {xs:List D} (h1:ZnV c x0 rest σ=some (f,k,ty,sz,rows,xs)):∃ oa caps ys,fu σ.m (aL σ.s x0)=.buf k∧gm σ.m k=some (.buf oa ty sz rows)∧qK (aL σ.s c)=some (f,caps)∧kV (rest.map (aL σ.s))=some ys∧xs=ys++caps.map .one:=by
 unfold ZnV ZrK at h1;split at h1
 ·rename_i k' hk;unfold ZrJ at h1;split at h1
  ·rename_i oa ty' gU rows0 hm;split at h1
   ·rename_i f' caps xs' kx bG;simp only [Taq,Prod.mk.injEq] at h1;obtain ⟨rfl,rfl,rfl,rfl,rfl,rfl⟩:=h1;exact ⟨oa,caps,xs',hk,hm,kx,bG,rfl⟩
   ·cases h1
  ·cases h1
 ·cases h1
theorem ZDp {c x0:Operand} {rest:List Operand} {f:FuncId} {xs:List D} {d:Option Nat} {k ty sz:Nat} {rows rows':List (List C)} {r:List D} {oa:Option (Option Addr × Nat)} (h:iU e.P ds n os σ=.call false c (x0::rest) d n' gp ⟨s1,m1⟩) (h1:ZnV c x0 rest ⟨s1,m1⟩=some (f,k,ty,sz,rows,xs)) (hm:gm m1 k=some (.buf oa ty sz rows)) (hc:jG e f ty sz rows xs rows' r) (hl:rows'.length=rows.length) (h2:aI s1 d (bh r)=s3) (h3:aA k m1=m3) (hK:al e ds n' gp ⟨s3,(k,.buf oa ty sz rows')::m3⟩ K):al e ds n os σ K:=by
 refine xJ os n σ ?_;rw [h];intro o ts ho hd;obtain ⟨oa',caps,ys,hk,BJ,kx,bG,rfl⟩:=ZxI h1;exact ZGZ ho rfl hk hm kx bG hc hl (by rw [hd];simp only [h2,h3];exact hK)
theorem Di {P:St->Prop} (hT:jJ e σ P) (h:∀ σ',P σ'->al e ds 0 os σ' K):al e ds 0 os σ K:=by
 simp only [al] at h ⊢;exact ZxE hT h
def ZnW:Res->Option (Nat × List Oper × List (Nat × A) × List (Nat × Bk))
 | .stop n os σ=>some (n,os,σ.s,σ.m)
 | _=>none
theorem Zze (j:Nat) (h:ZnW (runN e.P ds j n os σ)=some (n',gp,s1,m1)) (hK:al e ds n' gp ⟨s1,m1⟩ K):al e ds n os σ K:=by
 refine Zpt j os n σ ?_
 cases hr:runN e.P ds j n os σ with
 | stop n1 os1 σ1 =>
  rw [hr] at h;simp only [ZnW,Taq,Prod.mk.injEq] at h;obtain ⟨rfl,rfl,rfl,rfl⟩:=h;exact hK
 | _=>rw [hr] at h;cases h
theorem Zup {d t ty:Nat} {p:String} {ed:Array Edge} {parts:List (Nat × Operand)} {s:List (Nat × A)} {m:List (Nat × Bk)} {cs gc:List C} (hz:lp e.P t=some cs) (bm:uo e.P t=true) (aj:cs.all aY=true) (hf:qN e.P t cs (parts.map fun p=>(p.1,aL s p.2))=some gc)
  (hK:al e ds 0 os ⟨(d,.d (.agg gc))::s,m⟩ K):al e ds 0 (⟨some d,.build t parts.toArray,ty,p,ed,none⟩::os) ⟨s,m⟩ K:=by
 simp only [al] at hK ⊢;exact ut rfl (Zuk (o:=⟨some d,.build t parts.toArray,ty,p,ed,none⟩) rfl hz bm aj hf hK)
theorem ZDq {id:Nat} {l:List Oper} {σ1:St} (ks:List Nat) (hf:frzs ks σ=σ1) (bG:l.map (·.dst)=ds) (h:al e ds 0 l σ1 (nB ay Q)):cp e ay (.region id l.toArray false) σ Q :=
 rI (wm ks hf) (fun σ' hσ=>by subst hσ;exact ZnT 0 rfl (by subst bG;exact h))
theorem ZDr {id:Nat} {l:List Oper} (bG:l.map (·.dst)=ds) (h:al e ds 0 l σ (nB ay Q)):cp e ay (.region id l.toArray false) σ Q:=ZDq [] rfl bG h
theorem Zzf {id:Nat} {l:List Oper} {σ1:St} (n:Nat) (ks:List Nat) (hf:frzs ks σ=σ1) (hr:vV l.toArray n=true) (bG:l.map (·.dst)=ds) (h:al e ds n l σ1 (nB ay Q)):cp e ay (.region id l.toArray true) σ Q :=
 rI (wm ks hf) (fun σ' hσ=>by subst hσ;exact ZnT n (by simpa using hr) (by subst bG;exact h))
theorem ZDs {id:Nat} {l:List Oper} (n:Nat) (hr:vV l.toArray n=true) (bG:l.map (·.dst)=ds) (h:al e ds n l σ (nB ay Q)):cp e ay (.region id l.toArray true) σ Q:=Zzf n [] rfl hr bG h
theorem Wk.refl (σ:St):Wk σ σ:=⟨fun _=>.inl rfl,fun _ _ h=>h⟩
theorem Zzg {c:Operand} {a b:Code} (hc:aL σ.s c=.d (.one (.lit (.bool true)))) (h:cp e ay a σ Q):cp e ay (.cond c a b) σ Q:=Zsi hc (fun _=>h) (fun h=>by cases h)
theorem Zzh {c:Operand} {a b:Code} (hc:aL σ.s c=.d (.one (.lit (.bool false)))) (h:cp e ay b σ Q):cp e ay (.cond c a b) σ Q:=Zsi hc (fun h=>by cases h) (fun _=>h)
theorem ZnX {P:Program} {ts:List RS} {r:List D} (h:mK P σ ts r):tq P ts r .ret σ:=⟨[],h⟩
theorem ZG1 {P:Program} {ts:List RS} {r:List D} {σ1:St} (ks:List Nat) (hf:frzs ks σ=σ1) (h:mK P σ1 ts r):tq P ts r .ret σ:=⟨ks,by rw [hf];exact h⟩
end
section
variable {P:Program} {d:Option Nat} {ds:List (Option Nat)} {os:List Oper} {q n:Nat} {ty:TypeId} {nx:St->Res} {s:List (Nat × A)} {m:List (Nat × Bk)} {σ:St}
def nE (nx:St->Res) (s:List (Nat × A)) (m:List (Nat × Bk)) (d:Option Nat):Option A->Res
 | some α=>nx ⟨aI s d α,m⟩
 | none=>.bad
theorem qf {x:Option A}:qi (qa ⟨s,m⟩ d x) nx=nE nx s m d x:=by cases x <;> rfl
theorem Zzi:iU P ds n [] ⟨s,m⟩=.done ⟨s,m⟩:=rfl
theorem ro_n {op:Op} {t:TypeId} {p:String} {a:Array Edge}:iU P ds n (⟨d,op,t,p,a,none⟩::os) ⟨s,m⟩=fw P d t (n - 1) n os (iU P ds (n - 1) os) op ⟨s,m⟩:=rfl
theorem ro_g {op:Op} {t:TypeId} {p:String} {a:Array Edge} {j:Nat} {w:Bool}:iU P ds n (⟨d,op,t,p,a,some (j,w)⟩::os) ⟨s,m⟩=wR w (fw P d t n n os (iU P ds (n - 1) os) op) (DC d (iU P ds (n - 1) os)) ⟨s,m⟩ ((ds[j]?.join).map (gs s)):=rfl
theorem sk_r:DC d nx ⟨s,m⟩=nx ⟨aI s d .no,m⟩:=rfl
theorem Zzk {x:Operand}:fw P d ty q n os nx (.move x) ⟨s,m⟩=nx ⟨aI s d (aL s x),m⟩:=rfl
theorem Zzl {c a b:Operand}:fw P d ty q n os nx (.pick c a b) ⟨s,m⟩=nE nx s m d (ZrC (aL s a) (aL s b) (aL s c)):=qf
theorem Zzm {t:TypeId} {x:Operand}:fw P d ty q n os nx (.load t x) ⟨s,m⟩=nE nx s m d (tM (nZ P t) (iI m (fu m (aL s x)))):=qf
theorem Zmp {t:TypeId} {x:Operand} {f:Nat}:fw P d ty q n os nx (.fieldAddr t x f) ⟨s,m⟩=nE nx s m d (tK (aL s x) (iG P t f)):=qf
theorem Zvw {t:TypeId} {x:Operand} {f:Nat}:fw P d ty q n os nx (.field t x f) ⟨s,m⟩=nE nx s m d (Dy P (aL s x) (iG P t f)):=qf
theorem Zmq {t:TypeId} {x i:Operand}:fw P d ty q n os nx (.indexAddr t x i) ⟨s,m⟩=nE nx s m d (wy m (jM P t) (fu m (aL s x)) (aL s i)):=qf
theorem Zvx {t:TypeId} {x i:Operand}:fw P d ty q n os nx (.index t x i) ⟨s,m⟩=nE nx s m d (Dz (P.underlying t) (aL s x) (aL s i)):=qf
theorem ZEq {op:BinOp} {t t':TypeId} {x y:Operand}:fw P d ty q n os nx (.binOp op t x y t') ⟨s,m⟩=nE nx s m d (sG P t op (aL s x) (aL s y)):=qf
theorem R_un {op:UnOp} {t:TypeId} {x:Operand}:fw P d ty q n os nx (.unOp op t x) ⟨s,m⟩=nE nx s m d (D8 op (aL s x)):=qf
theorem Zqb {x:Operand} {i:Nat}:fw P d ty q n os nx (.extract x i) ⟨s,m⟩=nE nx s m d (Dp i (aL s x)):=qf
theorem ZEr {x:Operand}:fw P d ty q n os nx (.nilCheck x) ⟨s,m⟩=nE nx s m d (lH (aL s x)):=qf
theorem Zzn {a b:TypeId} {x:Operand}:fw P d ty q n os nx (.convert a b x) ⟨s,m⟩=nE nx s m d (DA P a b (aL s x)):=qf
theorem Zvy {t:TypeId} {x:Operand} {lo hi mx:Option Operand}:fw P d ty q n os nx (.slice t x lo hi mx) ⟨s,m⟩=nE nx s m d (Db P t (aL s x) (lo.map (aL s)) (hi.map (aL s)) (mx.map (aL s))):=qf
theorem ZEs {args:List Operand} {ts:Array TypeId}:fw P d ty q n os nx (.call ⟨.builtin .len,args.toArray,ts⟩) ⟨s,m⟩=nE nx s m d (jz m (lE P ts) (args.map fun x=>fu m (aL s x))):=qf
theorem ZEt {args:List Operand} {ts:Array TypeId}:fw P d ty q n os nx (.call ⟨.builtin .max,args.toArray,ts⟩) ⟨s,m⟩=nE nx s m d (ti (args.map (aL s))):=qf
theorem ZEu {args:List Operand} {ts:Array TypeId}:fw P d ty q n os nx (.call ⟨.builtin .min,args.toArray,ts⟩) ⟨s,m⟩=nE nx s m d (tj (args.map (aL s))):=qf
theorem Zzo {c:Operand} {args:List Operand} {ts:Array TypeId}:fw P d ty q n os nx (.call ⟨.value c,args.toArray,ts⟩) ⟨s,m⟩=.call (qB n) c args d (n - 1) os ⟨s,m⟩:=rfl
def ZnZ (nx:St->Res) (d:Option Nat) (f:List (Nat × A)->List (Nat × Bk)->Option A):Option St->Res
 | some σ=>nE nx σ.s σ.m d (f σ.s σ.m)
 | none=>.bad
theorem Zvz {f:List (Nat × A)->List (Nat × Bk)->Option A}:ZnZ nx d f (some ⟨s,m⟩)=nE nx s m d (f s m):=rfl
theorem Zm2 {op:Op} {x:Option St} {f:List (Nat × A)->List (Nat × Bk)->Option A} (h:∀ s m,zr P m (aL s) op=f s m):qi (zt P d op x) nx=ZnZ nx d f x:=by
 cases x with
 | none=>rfl
 | some σ =>
  obtain ⟨s',m'⟩:=σ;show qi (qa ⟨s',m'⟩ d (zr P m' (aL s') op)) nx=_;rw [qf,h];rfl
theorem ZvA {t:TypeId} {parts:List (Nat × Operand)}:fw P d ty q n os nx (.build t parts.toArray) ⟨s,m⟩=ZnZ nx d (fun s m=>Dt P t (parts.map fun p=>(p.1,aL s p.2))) (eE (qB n) (qP (parts.map fun p=>aL s p.2)) ⟨s,m⟩):=Zm2 (fun _ _=>rfl)
theorem ZkZ {t:TypeId} {k:Nat} {parts:List (Nat × Operand)}:fw P d ty q n os nx (.buildSlice t k parts.toArray) ⟨s,m⟩=ZnZ nx d (fun s m=>C5 (jc P t) k (parts.map fun p=>(p.1,aL s p.2))) (eE (qB n) (qP (parts.map fun p=>aL s p.2)) ⟨s,m⟩):=Zm2 (fun _ _=>rfl)
theorem Zn0 {f:FuncId} {caps:List Operand}:fw P d ty q n os nx (.makeFunc (.func f) #[] caps.toArray) ⟨s,m⟩=ZnZ nx d (fun s m=>DK f (ov (caps.map (aL s)))) (eE (qB n) (qP (caps.map (aL s))) ⟨s,m⟩):=Zm2 (fun _ _=>rfl)
theorem ZvB {k:Nat} {ks:List Nat}:eE false (k::ks) σ=some (frzs (k::ks) σ):=rfl
theorem ZvC {k:Nat} {ks:List Nat}:frzs (k::ks) ⟨s,m⟩=frzs ks (sK k ⟨s,m⟩ (gm m k)):=rfl
theorem ZvD {k:Nat} {bk:Bk}:sK k ⟨s,m⟩ (some bk)=⟨eF k bk s,aA k m⟩:=rfl
theorem ZvE {k:Nat}:sK k ⟨s,m⟩ none=⟨s,m⟩:=rfl
theorem Zsl {k:Nat} {bk:Bk}:fk k bk .undef=.undef:=rfl
theorem ZEv {k:Nat} {bk:Bk}:fk k bk .no=.no:=rfl
theorem fA_d {k:Nat} {bk:Bk} {x:D}:fk k bk (.d x)=.d x:=rfl
theorem Zzs {k:Nat} {bk:Bk} {x:List D}:fk k bk (.tup x)=.tup x:=rfl
theorem ZEx {k k' off e sz:Nat} {o:Option (Option Addr × Nat)} {rows:List (List C)}:fk k (.buf o e sz rows) (.ref k' off)=if k'=k then .undef else .ref k' off:=rfl
theorem ZEy {k k':Nat} {o:Option Nat} {cs:List C}:fk k (.var o cs) (.buf k')=if k'=k then .undef else .buf k':=rfl
theorem ky_d {x:D}:mB (.d x)=[]:=rfl
theorem Zzw {k j sz off:Nat}:mB (.row k j sz off)=[]:=rfl
theorem ZvH {t:TypeId}:fw P d ty q n os nx (.alloc t) ⟨s,m⟩=qi (if qB q=true then none else mC ⟨s,m⟩ d (iJ P t)) nx:=rfl
theorem ZEA {t:TypeId} {x:Operand}:fw P d ty q n os nx (.box t x) ⟨s,m⟩=qi (if qB n=true then none else ZlU d x (eE (qB n) (mB (aL s x)) ⟨s,m⟩)) nx:=rfl
theorem ZvI {t:TypeId} {x y:Operand}:fw P d ty q n os nx (.store t x y) ⟨s,m⟩=qi (if qB n=true then none else ZiF P d t x y (eE (qB n) (mB (aL s y)) ⟨s,m⟩)) nx:=rfl
theorem Zsn {x:Operand}:fw P d ty q n os nx (.assign x) ⟨s,m⟩=qi (if qB n=true then none else uD P ⟨s,m⟩ d ty (aL s x)) nx:=rfl
theorem Zmr {t:TypeId} {l c:Operand}:fw P d ty q n os nx (.makeSlice t l c) ⟨s,m⟩=qi (if qB n=true then none else AH P ⟨s,m⟩ d t (aL s l) (aL s c)) nx:=rfl
theorem Zso {args:List Operand} {ts:Array TypeId}:fw P d ty q n os nx (.call ⟨.builtin .append,args.toArray,ts⟩) ⟨s,m⟩=qi (if qB n=true then none else Dl P ⟨s,m⟩ d ts (args.map fun x=>fu m (aL s x))) nx:=rfl
theorem Zzy {k:Nat} {cs:List C}:mC ⟨s,m⟩ (some k) (some cs)=some ⟨(k,.ref k 0)::bM k s,(k,.var none cs)::aA k m⟩:=rfl
theorem ZvJ {x:Operand}:ZlU d x (some ⟨s,m⟩)=mC ⟨s,m⟩ d (nF (aL s x)):=rfl
theorem ZvK {t:TypeId} {x y:Operand}:ZiF P d t x y (some ⟨s,m⟩)=Du ⟨s,m⟩ d (fu m (aL s x)) (nF (aL s y)) (pd P t):=rfl
theorem ZEB {k off k2:Nat} {us:List C}:Du ⟨s,m⟩ none (.ref k off) (some us) (some k2)=storeVar ⟨s,m⟩ k off k2 us (gm m k):=rfl
theorem ZEC {k j sz off k2:Nat} {us:List C}:Du ⟨s,m⟩ none (.row k j sz off) (some us) (some k2)=storeRow ⟨s,m⟩ k j sz off k2 us (gm m k):=rfl
theorem ZED {o:Option Nat} {k off k2:Nat} {us cs:List C}:storeVar ⟨s,m⟩ k off k2 us (some (.var o cs))=if us.length=k2∧off+k2<=cs.length then some ⟨s,(k,.var o (cs.take off++us++cs.drop (off+k2)))::aA k m⟩ else none:=rfl
def Zsp (s:List (Nat × A)) (m:List (Nat × Bk)) (o:Option (Option Addr × Nat)) (k j e sz off k2:Nat) (us:List C) (rows:List (List C)):Option (List C)->Option St
 | some r=>if us.length=k2∧off+k2<=r.length then some ⟨s,(k,.buf o e sz (rows.set j (r.take off++us++r.drop (off+k2))))::aA k m⟩ else none
 | none=>none
theorem ZEE {o:Option (Option Addr × Nat)} {k j sz gU off k2 e:Nat} {us:List C} {rows:List (List C)}:storeRow ⟨s,m⟩ k j sz off k2 us (some (.buf o e gU rows))=if gU=sz then Zsp s m o k j e sz off k2 us rows rows[j]? else none:=by
 simp only [storeRow];split
 ·unfold Zsp;cases rows[j]? <;> rfl
 ·rfl
theorem ZEF {k:Nat} {c:C}:uD P ⟨s,m⟩ (some k) ty (.d (.one c))=some ⟨(k,.d (.one c))::s,m⟩:=rfl
theorem ZEG {k:Nat} {c:List C}:uD P ⟨s,m⟩ (some k) ty (.d (.agg c))=some ⟨(k,.d (.agg c))::s,m⟩:=rfl
theorem Zzz {k:Nat} {r:List C} {rs:List (List C)}:uD P ⟨s,m⟩ (some k) ty (.d (.clip (r::rs)))=some ⟨(k,.d (.clip (r::rs)))::s,m⟩:=rfl
theorem ZEH {k:Nat}:uD P ⟨s,m⟩ (some k) ty (.d (.clip []))=vT ⟨s,m⟩ k (jc P ty):=rfl
theorem ZEI {k:Nat} {x:List D}:uD P ⟨s,m⟩ (some k) ty (.tup x)=some ⟨(k,.tup x)::s,m⟩:=rfl
theorem ZEJ {k k' off:Nat}:uD P ⟨s,m⟩ (some k) ty (.ref k' off)=some ⟨(k,.ref k' off)::s,m⟩:=rfl
theorem ZEK {k k':Nat}:uD P ⟨s,m⟩ (some k) ty (.buf k')=ZlT ⟨s,m⟩ k' k (gm m k'):=rfl
theorem ZvN {o:Option (Option Addr × Nat)} {k k' e sz:Nat} {rows:List (List C)}:ZlT ⟨s,m⟩ k k' (some (.buf o e sz rows))=if k=k' then some ⟨(k',.buf k')::s,m⟩ else some (ownE ⟨s,m⟩ k k' (.buf o e sz rows)):=rfl
theorem ZvO {k e sz b:Nat}:vT ⟨s,m⟩ k (some (e,sz,b))=some ⟨(k,.buf k)::bM k s,(k,.buf none e sz [])::aA k m⟩:=rfl
theorem ZvP {k:Nat}:vT ⟨s,m⟩ k none=some ⟨(k,.d (.clip []))::s,m⟩:=rfl
theorem ZEL {k k':Nat} {bk:Bk}:ownE ⟨s,m⟩ k k' bk=⟨(k',.buf k')::bM k' (bM k s),(k',bk)::aA k' (aA k m)⟩:=rfl
theorem kl_d {k t:Nat} {x:D} {r:List (Nat × A)}:bM k ((t,.d x)::r)=(t,.d x)::bM k r:=rfl
theorem ZzE {k t:Nat} {x:List D} {r:List (Nat × A)}:bM k ((t,.tup x)::r)=(t,.tup x)::bM k r:=rfl
theorem Zsq {k t:Nat} {r:List (Nat × A)}:bM k ((t,.undef)::r)=(t,.undef)::bM k r:=rfl
theorem ZEM {k t:Nat} {r:List (Nat × A)}:bM k ((t,.no)::r)=(t,.no)::bM k r:=rfl
def uO (s:List (Nat × A)) (m:List (Nat × Bk)) (k e sz:Nat) (y:A) (ys:List (List C)):A->Option St
 | .buf k'=>if ZnL k' y=true then none else Zjl ⟨s,m⟩ k k' e sz ys (gm m k')
 | .d (.clip rows)=>if ZaB sz rows=true∧rows.length+ys.length<=ak∧(rows.isEmpty || !ys.isEmpty)=true then some ⟨(k,.buf k)::bM k s,(k,.buf none e sz (rows++ys))::aA k m⟩ else none
 | _=>none
def xV (s:List (Nat × A)) (m:List (Nat × Bk)) (k:Nat) (x y:A):Option (TypeId × Nat × Nat)->Option (List (List C))->Option St
 | some (e,sz,_),some ys=>if ZaB sz ys=true then uO s m k e sz y ys x else none
 | _,_=>none
theorem ZEN {k:Nat} {t:TypeId} {x y:A}:Dl P ⟨s,m⟩ (some k) #[t,t] [x,y]=xV s m k x y (jc P t) (oJ m y):=by
 unfold Dl xV;simp only [List.getElem?_toArray,Tat,Tau,if_true]
 cases jc P t with
 | none=>rfl
 | some b =>
  obtain ⟨e,sz,b⟩:=b
  cases oJ m y with
  | none=>rfl
  | some ys =>
   simp only;split
   ·cases x with
    | d x=>cases x <;> rfl
    | _=>rfl
   ·rfl
theorem ZvT {o:Option (Option Addr × Nat)} {k k' e e' sz gU:Nat} {ys rows:List (List C)}:Zjl ⟨s,m⟩ k k' e sz ys (some (.buf o e' gU rows))=if e'=e∧gU=sz∧rows.length+ys.length<=ak then some (ownE ⟨s,m⟩ k' k (.buf none e' sz (rows++ys))) else none:=rfl
theorem ib_d {k:Nat} {x:D}:ZnL k (.d x)=false:=rfl
def ZrL (s:List (Nat × A)) (m:List (Nat × Bk)) (k e sz:Nat) (a b:Int):Option (List C)->Option St
 | some z=>if a=b∧0<=a∧a<=ak∧z.all aY=true then some ⟨(k,.buf k)::bM k s,(k,.buf none e sz (List.replicate a.toNat z))::aA k m⟩ else none
 | none=>none
def ZxJ (P:Program) (s:List (Nat × A)) (m:List (Nat × Bk)) (k:Nat):Option Int->Option Int->Option (TypeId × Nat × Nat)->Option St
 | some a,some b,some (e,sz,_)=>ZrL s m k e sz a b (iJ P e)
 | _,_,_=>none
theorem ZEO {k:Nat} {t:TypeId} {l c:A}:AH P ⟨s,m⟩ (some k) t l c=ZxJ P s m k (iD l) (iD c) (jc P t):=by
 unfold AH ZxJ
 cases iD l with
 | none=>rfl
 | some a =>
  cases iD c with
  | none=>rfl
  | some b =>
   cases jc P t with
   | none=>rfl
   | some q =>
    obtain ⟨e,sz,q⟩:=q;simp only [ZrL]
    cases iJ P e <;> rfl
theorem ZEQ {k:IntKind} {i:Int}:uF (.int k i)=.d (.one (.lit (.int k i))):=rfl
theorem ZzK {b:Bool}:uF (.bool b)=.d (.one (.lit (.bool b))):=rfl
theorem ZER {b:ByteArray}:uF (.string b)=.d (.one (.lit (.string b))):=rfl
theorem ZES {p:Option Addr}:uF (.pointer p)=.d (.one (.lit (.pointer p))):=rfl
theorem ZET {l:List Value}:uF (.agg l.toArray)=.d (.agg (l.map sj)):=rfl
theorem ZvX {k:IntKind} {i:Int}:sj (.int k i)=.lit (.int k i):=rfl
theorem ZvY {b:ByteArray}:sj (.string b)=.lit (.string b):=rfl
theorem Zsr {b:Bool}:sj (.bool b)=.lit (.bool b):=rfl
theorem ZvZ {p:Option Addr}:sj (.pointer p)=.lit (.pointer p):=rfl
theorem ZE6 {rows:List (List C)}:jz m (some true) [.d (.one (.sl rows))]=some (.d (.one (.lit (.int .i64 rows.length)))):=rfl
theorem ZE7 {rows:List (List C)}:jz m (some true) [.d (.clip rows)]=some (.d (.one (.lit (.int .i64 rows.length)))):=rfl
theorem ZE8 {k:Nat}:jz m (some true) [.buf k]=s5 (pq (gm m k)):=rfl
def Zss (sz:Nat) (r:Option (List (List C))):Option (List C)->Option (List (List C))
 | some cs=>if cs.length=sz then r.map (cs::·) else none
 | none=>none
theorem Zwb {sz i j:Nat} {x:A} {r:List (Nat × A)}:uG sz i ((j,x)::r)=if i=j then Zss sz (uG sz (i+1) r) (nF x) else none:=by
 show (if i=j then _ else _)=_;unfold Zss;split
 ·cases nF x <;> rfl
 ·rfl
def Zst (P:Program) (t:TypeId) (parts:List (Nat × A)):Bool->Option (List C)->Option A
 | true,some cs=>if cs.all aY=true then uM (qN P t cs parts) else none
 | _,_=>none
theorem ZFe {t:TypeId} {parts:List (Nat × A)}:Dt P t parts=Zst P t parts (uo P t) (iJ P t):=by
 unfold Dt Zst
 cases uo P t <;> cases iJ P t <;> rfl
def ZxK (P:Program) (t:TypeId) (cs:List C) (r:List (Nat × A)):Option (Nat × TypeId)->Option (List C)->Option (List C)
 | some (off,ft),some us=>if pd P ft=some us.length∧off+us.length<=cs.length then qN P t (cs.take off++us++cs.drop (off+us.length)) r else none
 | _,_=>none
theorem Zwf {t:TypeId} {cs:List C} {f:Nat} {x:A} {r:List (Nat × A)}:qN P t cs ((f,x)::r)=ZxK P t cs r (iG P t f) (nF x):=by
 conv=>lhs;unfold qN
 unfold ZxK;rcases iG P t f with _ | ⟨off,ft⟩ <;> cases nF x <;> rfl
def DG (n:Int):Option TypeDesc->Option IntKind->Option A
 | some _,some k=>some (.d (.one (.lit (.int k (k.wrap n)))))
 | _,_=>none
theorem Zz0 {a b:TypeId} {k:IntKind} {j:Int}:DA P a b (.d (.one (.lit (.int k j))))=DG j (P.underlying a) (wx (P.underlying b)):=by
 unfold DA DG
 cases P.underlying a <;> cases wx (P.underlying b) <;> rfl
def Zn2 (lo hi mx:Option A) (k:Nat):Option (List (List C))->Option A
 | some rows=>if ZaB k rows=true∧(mx.isNone || hi.isSome)=true then dA (AM rows (qz lo) (qr rows.length hi) (mx.map iD)) else none
 | none=>none
def Zsu (P:Program) (t:TypeId) (x:A) (lo hi mx:Option A):Option Nat->Option A
 | some k=>Zn2 lo hi mx k (zj x)
 | none=>if Zr8 (P.underlying t)∧mx=none then match CQ x with
   | some s=>dA (Zpl s (qz lo) (qr s.size hi))
   | none=>none
  else none
theorem ZFf {t:TypeId} {x:A} {lo hi mx:Option A}:Db P t x lo hi mx=Zsu P t x lo hi mx (jM P t):=by
 unfold Db Zsu Zn2
 cases jM P t with
 | none=>rfl
 | some k=>cases zj x <;> rfl
theorem Zz5 {k:IntKind} {i:Int}:aY (.lit (.int k i))=true:=rfl
theorem Zws {b:Bool}:aY (.lit (.bool b))=true:=rfl
theorem Zz6 {b:ByteArray}:aY (.lit (.string b))=true:=rfl
theorem Zz7 {b:Option Nat}:aY (.lit (.map b))=true:=rfl
theorem ZFg {b:Option Addr}:aY (.lit (.pointer b))=true:=rfl
theorem Zz8 {a:Option Addr} {n c:Nat}:aY (.lit (.slice a n c))=true:=rfl
theorem ZFj {q:Bool} {c:Operand} {args:List Operand}:wQ q c args ⟨s,m⟩=ZrI c args (eE q (qP (args.map (aL s))) ⟨s,m⟩):=rfl
theorem cp_s {c:Operand} {args:List Operand}:ZrI c args (some ⟨s,m⟩)=ZrH (aL s c) (kV (args.map (aL s))) ⟨s,m⟩:=rfl
theorem cp_x {f:FuncId} {caps:List C} {xs:List D}:ZrH (.d (.one (.fn f caps))) (some xs) σ=some (f,xs++caps.map .one,σ):=rfl
theorem ZFk {c x0:Operand} {rest:List Operand}:ZnV c x0 rest ⟨s,m⟩=ZrK m (qK (aL s c)) (kV (rest.map (aL s))) (fu m (aL s x0)):=rfl
theorem Zwu {t:Nat}:kL P ⟨s,m⟩ (.slot t)=gs s t:=rfl
theorem Zwv {t k:Nat}:kL P ⟨s,m⟩ (.cell t k)=(tM (nZ P k) (iI m (gs s t))).getD .undef:=rfl
theorem ZFn {x y:D} {r:List D}:bh (x::y::r)=.tup (x::y::r):=rfl
theorem r_no:bh []=.tup []:=rfl
theorem ZAb {t:TypeId} {a b:Int}:cv P .add t (.int .i64 a) (.int .i64 b)=some (.int .i64 (IntKind.i64.wrap (a+b))):=rfl
theorem ZAc {t:TypeId} {a b:Int}:cv P .sub t (.int .i64 a) (.int .i64 b)=some (.int .i64 (IntKind.i64.wrap (a - b))):=rfl
theorem ZAd {t:TypeId} {a b:Int}:cv P .mul t (.int .i64 a) (.int .i64 b)=some (.int .i64 (IntKind.i64.wrap (a * b))):=rfl
theorem ZAe {t:TypeId} {a b:Int}:cv P .lss t (.int .i64 a) (.int .i64 b)=some (.bool (decide (a < b))):=rfl
theorem ZAf {t:TypeId} {a b:Int}:cv P .leq t (.int .i64 a) (.int .i64 b)=some (.bool (decide (a<=b))):=rfl
theorem ZAg {t:TypeId} {a b:Int}:cv P .gtr t (.int .i64 a) (.int .i64 b)=some (.bool (decide (b < a))):=rfl
theorem ZAh {t:TypeId} {a b:Int}:cv P .geq t (.int .i64 a) (.int .i64 b)=some (.bool (decide (b<=a))):=rfl
theorem ZAi {t:TypeId} {a b:Int}:cv P .eql t (.int .i64 a) (.int .i64 b)=some (.bool (decide (a=b))):=rfl
theorem ZAj {t:TypeId} {a b:Int}:cv P .neq t (.int .i64 a) (.int .i64 b)=some (.bool (!decide (a=b))):=rfl
theorem ZAk {t:TypeId} {a b:Int}:cv P .lss t (.int .u8 a) (.int .u8 b)=some (.bool (decide (a < b))):=rfl
theorem ZAl {t:TypeId} {a b:Int}:cv P .leq t (.int .u8 a) (.int .u8 b)=some (.bool (decide (a<=b))):=rfl
theorem ZAm {t:TypeId} {a b:Int}:cv P .gtr t (.int .u8 a) (.int .u8 b)=some (.bool (decide (b < a))):=rfl
theorem ZAn {t:TypeId} {a b:Int}:cv P .geq t (.int .u8 a) (.int .u8 b)=some (.bool (decide (b<=a))):=rfl
theorem ZAo {t:TypeId} {a b:Int}:cv P .eql t (.int .u8 a) (.int .u8 b)=some (.bool (decide (a=b))):=rfl
theorem ZAp {t:TypeId} {a b:Int}:cv P .neq t (.int .u8 a) (.int .u8 b)=some (.bool (!decide (a=b))):=rfl
theorem ZAq {t:TypeId} {a b:ByteArray}:cv P .eql t (.string a) (.string b)=some (.bool (a.toList==b.toList)):=rfl
theorem ZAr {t:TypeId} {a b:ByteArray}:cv P .neq t (.string a) (.string b)=some (.bool (!(a.toList==b.toList))):=rfl
theorem ZAs {t:TypeId} {a b:ByteArray}:cv P .lss t (.string a) (.string b)=some (.bool (Go.Op.bytesLess a.toList b.toList)):=rfl
theorem ZAv {t:TypeId} {a b:Int}:cv P .and t (.int .i64 a) (.int .i64 b)=some (.int .i64 (bits .and .i64 a b)):=rfl
theorem ZFo {t:TypeId} {a b:Int}:cv P .or t (.int .i64 a) (.int .i64 b)=some (.int .i64 (bits .or .i64 a b)):=rfl
theorem ZAw {t:TypeId} {a b:Int}:cv P .xor t (.int .i64 a) (.int .i64 b)=some (.int .i64 (bits .xor .i64 a b)):=rfl
theorem Zqc {t:TypeId} {a b:Int}:cv P .andNot t (.int .i64 a) (.int .i64 b)=some (.int .i64 (bits .andNot .i64 a b)):=rfl
theorem ZAx {t:TypeId} {k:IntKind} {a b:Int}:cv P .shl t (.int .i64 a) (.int k b)=if 0<=b then some (.int .i64 (IntKind.i64.wrap (a * 2 ^ (min b.toNat 64)))) else none:=rfl
theorem ZAy {t:TypeId} {k:IntKind} {a b:Int}:cv P .shr t (.int .i64 a) (.int k b)=if 0<=b then some (.int .i64 (a.fdiv (2 ^ (min b.toNat 64)))) else none:=rfl
theorem Zn3 {t:TypeId} {k:IntKind} {a b:Int}:cv P .shr t (.int .u64 a) (.int k b)=if 0<=b then some (.int .u64 (a.fdiv (2 ^ (min b.toNat 64)))) else none:=rfl
theorem ZAz {t:TypeId} {a b:Int}:cv P .quo t (.int .i64 a) (.int .i64 b)=if b=0 then none else some (.int .i64 (IntKind.i64.wrap (a.tdiv b))):=rfl
theorem ZAA {t:TypeId} {a b:Int}:cv P .rem t (.int .i64 a) (.int .i64 b)=if b=0 then none else some (.int .i64 (a.tmod b)):=rfl
theorem ZAB {t:TypeId} {a b:ByteArray}:cv P .add t (.string a) (.string b)=if a.size+b.size<=9223372036854775807 then some (.string (a++b)) else none:=rfl
theorem nr_p {cs:List C}:fu m (.d (.one (.ptr cs)))=.d (.one (.ptr cs)):=rfl
theorem nr_s {rows:List (List C)}:fu m (.d (.one (.sl rows)))=.d (.one (.sl rows)):=rfl
theorem nr_c {rows:List (List C)}:fu m (.d (.clip rows))=.d (.clip rows):=rfl
theorem nr_i {k:IntKind} {i:Int}:fu m (.d (.one (.lit (.int k i))))=.d (.one (.lit (.int k i))):=rfl
theorem ZAF {b:ByteArray}:fu m (.d (.one (.lit (.string b))))=.d (.one (.lit (.string b))):=rfl
theorem ZAG {k off:Nat}:fu m (.ref k off)=.ref k off:=rfl
theorem ZAH {k:Nat}:fu m (.buf k)=.buf k:=rfl
theorem ZAI {k j sz off:Nat}:fu m (.row k j sz off)=.row k j sz off:=rfl
theorem ZAL {b k:Nat} {cs:List C} {r:List (Nat × Bk)}:kN b ((k,.var none cs)::r)=kN b r:=rfl
theorem ZAM {b k e sz:Nat} {o:Option (Option Addr × Nat)} {rows:List (List C)} {r:List (Nat × Bk)}:kN b ((k,.buf o e sz rows)::r)=kN b r:=rfl
theorem ZAN {b k:Nat} {E:Nat->Prop} {G:World->Prop} {r:List (Nat × Bk)}:kN b ((k,.set E G)::r)=kN b r:=rfl
theorem ZAQ {p:Option Addr} {k cap k' e sz:Nat} {rows:List (List C)} {r:List (Nat × Bk)}:jn p k cap ((k',.buf none e sz rows)::r)=jn p k cap r:=rfl
theorem ZAR {p:Option Addr} {k cap k':Nat} {o:Option Nat} {cs:List C} {r:List (Nat × Bk)}:jn p k cap ((k',.var o cs)::r)=jn p k cap r:=rfl
theorem ZAS {p:Option Addr} {k cap k':Nat} {E:Nat->Prop} {G:World->Prop} {r:List (Nat × Bk)}:jn p k cap ((k',.set E G)::r)=jn p k cap r:=rfl
theorem rn_0:runN P ds 0 n os ⟨s,m⟩=.stop n os ⟨s,m⟩:=rfl
theorem rn_n {j:Nat} {op:Op} {t:TypeId} {p:String} {a:Array Edge}:runN P ds (j+1) n (⟨d,op,t,p,a,none⟩::os) ⟨s,m⟩=fw P d t (n - 1) n os (runN P ds j (n - 1) os) op ⟨s,m⟩:=rfl
theorem rn_g {j:Nat} {op:Op} {t:TypeId} {p:String} {a:Array Edge} {i:Nat} {w:Bool}:runN P ds (j+1) n (⟨d,op,t,p,a,some (i,w)⟩::os) ⟨s,m⟩=wR w (fw P d t n n os (runN P ds j (n - 1) os) op) (DC d (runN P ds j (n - 1) os)) ⟨s,m⟩ ((ds[i]?.join).map (gs s)):=rfl
theorem st_o:ZnW (.stop n os ⟨s,m⟩)=some (n,os,s,m):=rfl
theorem lv_d {k b:Nat} {x:D}:lG k b (.d x)=.d x:=rfl
theorem ZAY {k b k':Nat}:lG k b (.buf k')=.buf k':=rfl
theorem ZAZ {k b k' j sz off:Nat}:lG k b (.row k' j sz off)=.row k' j sz off:=rfl
theorem ZA0 {k b:Nat} {xs:List D}:lG k b (.tup xs)=.tup xs:=rfl
theorem ZFr {k b:Nat}:lG k b .no=.no:=rfl
theorem ZFs {k b:Nat}:lG k b .undef=.undef:=rfl
theorem lb_d {k k2 cap:Nat} {p:Option Addr} {x:D}:iE k p k2 cap (.d x)=.d x:=rfl
theorem ZA2 {k k2 cap k' off:Nat} {p:Option Addr}:iE k p k2 cap (.ref k' off)=.ref k' off:=rfl
theorem ZA3 {k k2 cap k' j sz off:Nat} {p:Option Addr}:iE k p k2 cap (.row k' j sz off)=.row k' j sz off:=rfl
theorem ZA4 {k k2 cap:Nat} {p:Option Addr} {xs:List D}:iE k p k2 cap (.tup xs)=.tup xs:=rfl
theorem ZFt {k k2 cap:Nat} {p:Option Addr}:iE k p k2 cap .no=.no:=rfl
theorem ZFu {k k2 cap:Nat} {p:Option Addr}:iE k p k2 cap .undef=.undef:=rfl
theorem ZA7 {xs:List Bk}:aZ [] xs=[]:=rfl
theorem ZFv {ks:List Nat}:aZ ks []=[]:=by cases ks <;> rfl
def A5:Option Bk->Option (List Bk)->Option (List Bk)
 | some x,some r=>some (x::r)
 | _,_=>none
theorem ZwC {k:Nat} {ks:List Nat}:ej m (k::ks)=A5 (gm m k) (ej m ks):=by
 show (match gm m k,ej m ks with | some x,some r=>some (x::r) | _,_=>none)=_
 cases gm m k <;> cases ej m ks <;> rfl
theorem ZBc {p:Option Addr} {k cap:Nat} {rows:List (List C)} {kk:IntKind} {i:Int}:eT p k cap rows (.lit (.int kk i))=.lit (.int kk i):=rfl
theorem ZBd {p:Option Addr} {k cap:Nat} {rows:List (List C)} {b:ByteArray}:eT p k cap rows (.lit (.string b))=.lit (.string b):=rfl
theorem ZwD {p:Option Addr} {k cap:Nat} {rows:List (List C)} {b:Bool}:eT p k cap rows (.lit (.bool b))=.lit (.bool b):=rfl
theorem ZBe {p:Option Addr} {k cap:Nat} {rows:List (List C)} {q:Option Addr}:eT p k cap rows (.lit (.pointer q))=.lit (.pointer q):=rfl
theorem ZBf {p:Option Addr} {k cap:Nat} {rows:List (List C)} {q:Option Nat}:eT p k cap rows (.lit (.map q))=.lit (.map q):=rfl
theorem dc_s {p:Option Addr} {k cap:Nat} {rows rs:List (List C)}:eT p k cap rows (.sl rs)=.sl rs:=rfl
theorem dc_p {p:Option Addr} {k cap:Nat} {rows:List (List C)} {cs:List C}:eT p k cap rows (.ptr cs)=.ptr cs:=rfl
theorem dc_f {p:Option Addr} {k cap:Nat} {rows:List (List C)} {f:FuncId} {cs:List C}:eT p k cap rows (.fn f cs)=.fn f cs:=rfl
theorem ZBi {p:Option Addr} {k cap k' off:Nat} {rows:List (List C)}:pu p k cap rows (.ref k' off)=.ref k' off:=rfl
def unD:A->Option D
 | .d x=>some x
 | _=>none
def ZrM:Option D->Option (List D)->Option (List D)
 | some x,some r=>some (x::r)
 | _,_=>none
def lJ (P:Program) (σ:St):List RS->Option (List D)
 | []=>some []
 | t::ts=>ZrM (unD (kL P σ t)) (lJ P σ ts)
theorem ZBm:lJ P ⟨s,m⟩ []=some []:=rfl
theorem ZwG {t:RS} {ts:List RS}:lJ P ⟨s,m⟩ (t::ts)=ZrM (unD (kL P ⟨s,m⟩ t)) (lJ P ⟨s,m⟩ ts):=rfl
end
theorem De {P:Program} {σ:St}:∀ {ts:List RS} {r:List D},lJ P σ ts=some r->mK P σ ts r
 | [],r,h=>by simp only [lJ,Taq] at h;subst h;trivial
 | t::ts,r,h=>by
  simp only [lJ] at h;unfold ZrM at h;split at h
  ·rename_i x r' hx hr;injection h with h;subst h
   refine ⟨?_,De hr⟩;unfold unD at hx;split at hx
   ·rename_i y hy;injection hx with hx;subst hx;exact hy
   ·cases hx
  ·cases h
end Go.Proofs.YtbecmfjokofihaaGreatDoor
set_option maxRecDepth 10000
namespace Go.Proofs.YtbecmfjokofihaaGreatDoor
open Go.RowKit
def tI (t:Nat):Prop:=nZ Tryz.prog t=some .one∧pd Tryz.prog t=some 1
def tS (t e a b c:Nat):Prop:=tI t∧iJ Tryz.prog t=some [.sl []]∧jM Tryz.prog t=some e∧lE Tryz.prog #[t]=some true∧jc Tryz.prog t=some (a,b,c)
def tA (t n:Nat) (z:List C):Prop:=nZ Tryz.prog t=some (.agg n)∧pd Tryz.prog t=some n∧iJ Tryz.prog t=some z∧uo Tryz.prog t=true
def tO (t j a b:Nat):Prop:=iG Tryz.prog t j=some (a,b)
def z0:C:=.lit (.int .i64 0)
def z1:C:=.lit (.string ByteArray.empty)
def z2:C:=.sl []
def z3:C:=.lit (.slice none 0 0)
theorem uu_0:tI 2∧(iJ Tryz.prog 2=some [z0])∧tI 3∧(iJ Tryz.prog 3=some [z0])∧tI 4∧(iJ Tryz.prog 4=some [.lit (.bool false)])∧(Tryz.prog.underlying 4=some .bool)∧tI 5∧(iJ Tryz.prog 5=some [.lit (.int .u8 0)])∧tI 9∧(iJ Tryz.prog 9=some [z1])∧(lE Tryz.prog #[9]=some false)∧(Tryz.prog.underlying 9=some .string)∧tS 22 1 9 1 16∧tS 23 2 276 2 16∧tA 25 2 [z2,z2]∧tO 25 0 0 22∧tO 25 1 1 23∧tI 26∧(iJ Tryz.prog 26=some [z2])∧(jM Tryz.prog 26=some 5):=by repeat' (first | refine ai ?_ ?_ | kernel_rfl | (unfold tO;kernel_rfl))
theorem uu_1:(lE Tryz.prog #[26]=some true)∧(jc Tryz.prog 26=some (193,5,56))∧tA 28 3 [z2,z2,z2]∧tO 28 0 0 25∧tO 28 1 2 26∧tS 29 9 153 9 136∧tA 31 5 [z2,z2,z2,z2,z2]∧tO 31 0 0 28∧tO 31 1 3 29∧tO 31 2 4 29∧tS 32 4 34 4 56∧tA 34 4 [z0,z1,z0,z2]∧tO 34 0 0 3∧tO 34 1 1 9∧tO 34 2 2 3∧tO 34 3 3 32∧tI 35∧(iJ Tryz.prog 35=some [z2])∧(jM Tryz.prog 35=some 6)∧(lE Tryz.prog #[35]=some true):=by repeat' (first | refine ai ?_ ?_ | kernel_rfl | (unfold tO;kernel_rfl))
theorem uu_2:(jc Tryz.prog 35=some (160,6,128))∧tA 37 9 [z0,z1,z0,z2,z0,z1,z0,z2,z2]∧tO 37 0 0 34∧tO 37 1 4 34∧tO 37 2 8 35∧tS 40 4 53 4 56∧tS 42 2 234 2 16∧tA 44 2 [z2,z2]∧(lp Tryz.prog 44=some [z3,z3])∧tO 44 0 0 22∧tO 44 1 1 42∧tS 45 5 196 5 56∧tA 47 3 [z2,z2,z2]∧(lp Tryz.prog 47=some [z3,z3,z3])∧tO 47 0 0 44∧tO 47 1 2 45:=by repeat' (first | refine ai ?_ ?_ | kernel_rfl | (unfold tO;kernel_rfl))
theorem uu_3:tS 48 9 166 9 136∧tA 50 5 [z2,z2,z2,z2,z2]∧(lp Tryz.prog 50=some [z3,z3,z3,z3,z3])∧tO 50 0 0 47∧tO 50 1 3 48∧tO 50 2 4 48∧tA 53 4 [z0,z1,z0,z2]∧(lp Tryz.prog 53=some [z0,z1,z0,z3])∧tO 53 0 0 3∧tO 53 1 1 9∧tO 53 2 2 3∧tO 53 3 3 40∧tS 54 6 98 6 128∧tA 56 9 [z0,z1,z0,z2,z0,z1,z0,z2,z2]∧(lp Tryz.prog 56=some [z0,z1,z0,z3,z0,z1,z0,z3,z3])∧tO 56 0 0 53∧tO 56 1 4 53∧tO 56 2 8 54∧tI 67∧(iJ Tryz.prog 67=some [z2]):=by repeat' (first | refine ai ?_ ?_ | kernel_rfl | (unfold tO;kernel_rfl))
theorem uu_4:(jM Tryz.prog 67=some 1)∧(lE Tryz.prog #[67]=some true)∧(jc Tryz.prog 67=some (85,1,24))∧tS 79 1 5 1 1∧tS 85 8 206 8 112∧tI 92∧tS 93 1 3 1 8∧tA 95 4 [z2,z2,z2,z2]∧(lp Tryz.prog 95=some [z3,z3,z3,z3])∧tO 95 0 0 93∧tO 95 1 1 40∧tO 95 2 2 40∧tO 95 3 3 85∧tS 96 9 56 9 136∧(nZ Tryz.prog 98=some (.agg 6))∧(pd Tryz.prog 98=some 6):=by repeat' (first | refine ai ?_ ?_ | kernel_rfl | (unfold tO;kernel_rfl))
theorem uu_5:(iJ Tryz.prog 98=some [z0,z2,z2,z2,z2,z2])∧(uo Tryz.prog 98=true)∧(lp Tryz.prog 98=some [z0,z3,z3,z3,z3,z3])∧tO 98 0 0 3∧tO 98 1 1 95∧tO 98 2 5 96∧tI 101∧tI 122∧tA 124 5 [.lit (.pointer none),z2,z0,z2,.lit (.bool false)]∧(lp Tryz.prog 124=some [.lit (.pointer none),z3,z0,z3,.lit (.bool false)])∧tO 124 0 0 101∧tO 124 1 1 40∧tO 124 2 2 3∧tO 124 3 3 67∧tO 124 4 4 4∧tA 127 8 [z0,z1,z0,z2,z0,z1,z0,z2]∧(lp Tryz.prog 127=some [z0,z1,z0,z3,z0,z1,z0,z3])∧tO 127 0 0 53∧tO 127 1 4 53∧tS 128 8 127 8 112∧tA 130 3 [z2,z2,z0]∧(lp Tryz.prog 130=some [z3,z3,z0])∧tO 130 0 0 128∧tO 130 1 1 85:=by repeat' (first | refine ai ?_ ?_ | kernel_rfl | (unfold tO;kernel_rfl))
theorem uu_6:tO 130 2 2 3∧tI 140∧tS 151 8 315 8 112∧tA 153 9 [z0,z1,z0,z2,z0,z1,z0,z2,z2]∧tO 153 0 0 34∧tO 153 1 4 34∧tO 153 2 8 151∧tS 155 8 362 8 112∧tA 157 4 [z2,z2,z2,z2]∧tO 157 0 0 93∧tO 157 1 1 32∧tO 157 2 2 32∧tO 157 3 3 155∧tS 158 9 37 9 136∧tA 160 6 [z0,z2,z2,z2,z2,z2]:=by repeat' (first | refine ai ?_ ?_ | kernel_rfl | (unfold tO;kernel_rfl))
theorem uu_7:tO 160 0 0 3∧tO 160 1 1 157∧tO 160 2 5 158∧tS 164 8 169 8 112∧tA 166 9 [z0,z1,z0,z2,z0,z1,z0,z2,z2]∧(lp Tryz.prog 166=some [z0,z1,z0,z3,z0,z1,z0,z3,z3])∧tO 166 0 0 53∧tO 166 1 4 53∧tO 166 2 8 164∧tA 169 8 [z0,z1,z0,z2,z0,z1,z0,z2]∧(lp Tryz.prog 169=some [z0,z1,z0,z3,z0,z1,z0,z3])∧tO 169 0 0 53∧tO 169 1 4 53∧tA 175 3 [z2,z2,z2]∧(lp Tryz.prog 175=some [z3,z3,z3])∧tO 175 0 0 93∧tO 175 1 1 93∧tO 175 2 2 93∧tI 178∧tA 180 7 [z2,z2,z2,z2,z2,z2,.lit (.map none)]∧(lp Tryz.prog 180=some [z3,z3,z3,z3,z3,z3,.lit (.map none)])∧tO 180 0 0 175:=by repeat' (first | refine ai ?_ ?_ | kernel_rfl | (unfold tO;kernel_rfl))
theorem uu_8:tO 180 1 3 47∧tO 180 2 6 178∧tS 191 2 333 2 32∧tA 193 5 [z1,z2,.lit (.bool false),.lit (.bool false),z0]∧tO 193 0 0 9∧tO 193 1 1 191∧tO 193 2 2 4∧tO 193 3 3 4∧tO 193 4 4 3∧tS 194 2 237 2 32∧tA 196 5 [z1,z2,.lit (.bool false),.lit (.bool false),z0]∧(lp Tryz.prog 196=some [z1,z3,.lit (.bool false),.lit (.bool false),z0])∧tO 196 0 0 9∧tO 196 1 1 194∧tO 196 2 2 4∧tO 196 3 3 4∧tO 196 4 4 3∧tA 200 8 [z0,z1,z0,z2,z0,z1,z0,z2]∧(lp Tryz.prog 200=some [z0,z1,z0,z3,z0,z1,z0,z3])∧tO 200 0 0 53∧tO 200 1 4 53:=by repeat' (first | refine ai ?_ ?_ | kernel_rfl | (unfold tO;kernel_rfl))
theorem uu_9:tS 201 8 200 8 112∧tA 203 3 [z2,z2,z0]∧(lp Tryz.prog 203=some [z3,z3,z0])∧tO 203 0 0 85∧tO 203 1 1 201∧tO 203 2 2 3∧tA 206 8 [z0,z1,z0,z2,z0,z1,z0,z2]∧(lp Tryz.prog 206=some [z0,z1,z0,z3,z0,z1,z0,z3])∧tO 206 0 0 53∧tO 206 1 4 53∧tI 217∧(iJ Tryz.prog 217=some [.lit (.int .u64 0)])∧tA 228 3 [z2,z0,z0]∧(lp Tryz.prog 228=some [z3,z0,z0])∧tO 228 0 0 79∧tO 228 1 1 3∧tO 228 2 2 3∧tA 234 2 [z0,z0]∧tO 234 0 0 3∧tO 234 1 1 3∧(nZ Tryz.prog 237=some (.agg 2))∧(pd Tryz.prog 237=some 2):=by repeat' (first | refine ai ?_ ?_ | kernel_rfl | (unfold tO;kernel_rfl))
theorem Ab:(iJ Tryz.prog 237=some [z2,z0])∧(uo Tryz.prog 237=true)∧(lp Tryz.prog 237=some [z3,z0])∧tO 237 0 0 93∧tO 237 1 1 3∧tI 254∧tS 272 3 203 3 56∧tA 276 2 [z0,z0]∧tO 276 0 0 3∧tO 276 1 1 3∧tS 286 3 289 3 56∧tA 289 3 [z2,z2,z0]∧(lp Tryz.prog 289=some [z3,z3,z0])∧tO 289 0 0 85∧tO 289 1 1 85∧tO 289 2 2 3∧tA 315 8 [z0,z1,z0,z2,z0,z1,z0,z2]∧tO 315 0 0 34∧tO 315 1 4 34∧(nZ Tryz.prog 326=some .one):=by repeat' (first | refine ai ?_ ?_ | kernel_rfl | (unfold tO;kernel_rfl))
theorem Ac:(pd Tryz.prog 326=some 1)∧(iJ Tryz.prog 326=some [z2])∧(jM Tryz.prog 326=some 1)∧(lE Tryz.prog #[326]=some true)∧(jc Tryz.prog 326=some (48,1,24))∧tA 333 2 [z2,z0]∧tO 333 0 0 93∧tO 333 1 1 3∧tS 358 1 93 1 24∧tA 362 8 [z0,z1,z0,z2,z0,z1,z0,z2]∧tO 362 0 0 34∧tO 362 1 4 34∧tI 368:=by repeat' (first | refine ai ?_ ?_ | kernel_rfl | (unfold tO;kernel_rfl))
theorem CR:type_of% (by have h:=uu_0;dsimp only [tI,tS,tA,tO,z0,z1,z2,z3] at h;exact h):=uu_0
theorem CS:type_of% (by have h:=uu_1;dsimp only [tI,tS,tA,tO,z0,z1,z2,z3] at h;exact h):=uu_1
theorem tt_2:type_of% (by have h:=uu_2;dsimp only [tI,tS,tA,tO,z0,z1,z2,z3] at h;exact h):=uu_2
theorem tt_3:type_of% (by have h:=uu_3;dsimp only [tI,tS,tA,tO,z0,z1,z2,z3] at h;exact h):=uu_3
theorem tt_4:type_of% (by have h:=uu_4;dsimp only [tI,tS,tA,tO,z0,z1,z2,z3] at h;exact h):=uu_4
theorem tt_5:type_of% (by have h:=uu_5;dsimp only [tI,tS,tA,tO,z0,z1,z2,z3] at h;exact h):=uu_5
theorem tt_6:type_of% (by have h:=uu_6;dsimp only [tI,tS,tA,tO,z0,z1,z2,z3] at h;exact h):=uu_6
theorem tt_7:type_of% (by have h:=uu_7;dsimp only [tI,tS,tA,tO,z0,z1,z2,z3] at h;exact h):=uu_7
theorem tt_8:type_of% (by have h:=uu_8;dsimp only [tI,tS,tA,tO,z0,z1,z2,z3] at h;exact h):=uu_8
theorem tt_9:type_of% (by have h:=uu_9;dsimp only [tI,tS,tA,tO,z0,z1,z2,z3] at h;exact h):=uu_9
theorem ZFx:type_of% (by have h:=Ab;dsimp only [tI,tS,tA,tO,z0,z1,z2,z3] at h;exact h):=Ab
theorem ZFy:type_of% (by have h:=Ac;dsimp only [tI,tS,tA,tO,z0,z1,z2,z3] at h;exact h):=Ac
end Go.Proofs.YtbecmfjokofihaaGreatDoor
namespace Go.Proofs.YtbecmfjokofihaaGreatDoor
open Go.RowKit
theorem pm_0:type_of% (aj16 @nE.eq_1 @Zzi @ro_n @ro_g @wR.eq_1 @DI.eq_1 @DI.eq_2 @sk_r @wR.eq_2 @qB.eq_1 @qB.eq_2 @Zzk @Zzl @Zzm @Zmp (aj15 @Zvw @Zmq @Zvx @ZEq @R_un @Zqb @ZEr @Zzn @Zvy @ZEs @ZEt @ZEu @Zzo @Zvz (@ZvA))):=aj16 @nE.eq_1 @Zzi @ro_n @ro_g @wR.eq_1 @DI.eq_1 @DI.eq_2 @sk_r @wR.eq_2 @qB.eq_1 @qB.eq_2 @Zzk @Zzl @Zzm @Zmp (aj15 @Zvw @Zmq @Zvx @ZEq @R_un @Zqb @ZEr @Zzn @Zvy @ZEs @ZEt @ZEu @Zzo @Zvz (@ZvA))
theorem pm_1:type_of% (aj16 @ZkZ @Zn0 @eE.eq_1 @ZvB @frzs.eq_1 @ZvC @ZvD @ZvE @eF.eq_1 @eF.eq_2 @Zsl @ZEv @fA_d @Zzs @fk.eq_1 (aj15 @ZEx @ZEy @fk.eq_3 @fk.eq_5 @ky_d @mB.eq_1 @mB.eq_2 @Zzw @qP.eq_1 @qP.eq_2 @ZvH @ZEA @ZvI @Zsn (@Zmr))):=aj16 @ZkZ @Zn0 @eE.eq_1 @ZvB @frzs.eq_1 @ZvC @ZvD @ZvE @eF.eq_1 @eF.eq_2 @Zsl @ZEv @fA_d @Zzs @fk.eq_1 (aj15 @ZEx @ZEy @fk.eq_3 @fk.eq_5 @ky_d @mB.eq_1 @mB.eq_2 @Zzw @qP.eq_1 @qP.eq_2 @ZvH @ZEA @ZvI @Zsn (@Zmr))
theorem pm_2:type_of% (aj16 @Zso @qi.eq_1 @Zzy @ZvJ @ZvK @ZEB @ZEC @ZED @ZEE @Zsp.eq_1 @tt.eq_1 @yS.eq_1 @ZEF @ZEG @Zzz (aj15 @ZEH @ZEI @ZEJ @ZEK @ZvN @ZvO @ZvP @ZEL @bM.eq_1 @bM.eq_2 @bM.eq_3 @bM.eq_4 @kl_d @ZzE (@Zsq))):=aj16 @Zso @qi.eq_1 @Zzy @ZvJ @ZvK @ZEB @ZEC @ZED @ZEE @Zsp.eq_1 @tt.eq_1 @yS.eq_1 @ZEF @ZEG @Zzz (aj15 @ZEH @ZEI @ZEJ @ZEK @ZvN @ZvO @ZvP @ZEL @bM.eq_1 @bM.eq_2 @bM.eq_3 @bM.eq_4 @kl_d @ZzE (@Zsq))
theorem pm_3:type_of% (aj16 @ZEM @aA.eq_1 @aA.eq_2 @ZEN @xV.eq_1 @uO.eq_1 @uO.eq_2 @ZvT @ib_d @ZnL.eq_1 @ZEO @ZxJ.eq_1 @ZrL.eq_1 @iD.eq_1 @aL.eq_1 (aj15 @aL.eq_2 @aL.eq_3 @ZEQ @ZzK @ZER @uF.eq_1 @ZES @aI.eq_1 @aI.eq_2 @iI.eq_1 @iI.eq_2 @iI.eq_3 @tM.eq_1 @fQ.eq_1 (@fQ.eq_2))):=aj16 @ZEM @aA.eq_1 @aA.eq_2 @ZEN @xV.eq_1 @uO.eq_1 @uO.eq_2 @ZvT @ib_d @ZnL.eq_1 @ZEO @ZxJ.eq_1 @ZrL.eq_1 @iD.eq_1 @aL.eq_1 (aj15 @aL.eq_2 @aL.eq_3 @ZEQ @ZzK @ZER @uF.eq_1 @ZES @aI.eq_1 @aI.eq_2 @iI.eq_1 @iI.eq_2 @iI.eq_3 @tM.eq_1 @fQ.eq_1 (@fQ.eq_2))
theorem pm_4:type_of% (aj16 @ZrC.eq_1 @tK.eq_1 @tK.eq_2 @tK.eq_3 @Dy.eq_1 @wy.eq_2 @wy.eq_3 @wy.eq_1 @ZnJ.eq_1 @sI.eq_1 @Dz.eq_1 @ZrD.eq_1 @s7.eq_1 @sG.eq_1 @D8.eq_1 (aj15 @Aa.eq_1 @Aa.eq_2 @dA.eq_1 @Dp.eq_1 @lH.eq_1 @lH.eq_2 @lH.eq_3 @ZE6 @ZE7 @ZE8 @jz.eq_1 @jz.eq_3 @s5.eq_1 @oJ.eq_1 (@oJ.eq_2))):=aj16 @ZrC.eq_1 @tK.eq_1 @tK.eq_2 @tK.eq_3 @Dy.eq_1 @wy.eq_2 @wy.eq_3 @wy.eq_1 @ZnJ.eq_1 @sI.eq_1 @Dz.eq_1 @ZrD.eq_1 @s7.eq_1 @sG.eq_1 @D8.eq_1 (aj15 @Aa.eq_1 @Aa.eq_2 @dA.eq_1 @Dp.eq_1 @lH.eq_1 @lH.eq_2 @lH.eq_3 @ZE6 @ZE7 @ZE8 @jz.eq_1 @jz.eq_3 @s5.eq_1 @oJ.eq_1 (@oJ.eq_2))
theorem pm_5:type_of% (aj16 @oJ.eq_3 @pq.eq_1 @ti.eq_1 @tj.eq_1 @C5.eq_1 @ZrE.eq_1 @uG.eq_1 @Zwb @Zss.eq_1 @ZFe @Zst.eq_1 @uM.eq_1 @qN.eq_1 @Zwf @ZxK.eq_1 (aj15 @Zz0 @DG.eq_1 @wx.eq_1 @DK.eq_1 @ov.eq_1 @ov.eq_2 @ZFf @Zsu.eq_1 @Zn2.eq_1 @zj.eq_1 @zj.eq_2 @qz.eq_1 @qz.eq_2 @qr.eq_1 (@qr.eq_2))):=aj16 @oJ.eq_3 @pq.eq_1 @ti.eq_1 @tj.eq_1 @C5.eq_1 @ZrE.eq_1 @uG.eq_1 @Zwb @Zss.eq_1 @ZFe @Zst.eq_1 @uM.eq_1 @qN.eq_1 @Zwf @ZxK.eq_1 (aj15 @Zz0 @DG.eq_1 @wx.eq_1 @DK.eq_1 @ov.eq_1 @ov.eq_2 @ZFf @Zsu.eq_1 @Zn2.eq_1 @zj.eq_1 @zj.eq_2 @qz.eq_1 @qz.eq_2 @qr.eq_1 (@qr.eq_2))
theorem pm_6:type_of% (aj16 @AM.eq_1 @AM.eq_2 @nF.eq_1 @nF.eq_2 @nF.eq_3 @Zz5 @Zws @Zz6 @Zz7 @ZFg @Zz8 @aY.eq_2 @aY.eq_3 @aY.eq_4 @kV.eq_1 (aj15 @kV.eq_2 @ZFj @cp_s @cp_x @ZFk @ZrK.eq_1 @ZrJ.eq_1 @qK.eq_1 @Zwu @Zwv @bh.eq_1 @ZFn @r_no @ZAb (@ZAc))):=aj16 @AM.eq_1 @AM.eq_2 @nF.eq_1 @nF.eq_2 @nF.eq_3 @Zz5 @Zws @Zz6 @Zz7 @ZFg @Zz8 @aY.eq_2 @aY.eq_3 @aY.eq_4 @kV.eq_1 (aj15 @kV.eq_2 @ZFj @cp_s @cp_x @ZFk @ZrK.eq_1 @ZrJ.eq_1 @qK.eq_1 @Zwu @Zwv @bh.eq_1 @ZFn @r_no @ZAb (@ZAc))
theorem pm_7:type_of% (aj16 @ZAd @ZAe @ZAf @ZAg @ZAh @ZAi @ZAj @ZAk @ZAl @ZAm @ZAn @ZAo @ZAp @ZAq @ZAr (aj15 @ZAs @cv.eq_1 @cv.eq_2 @Dr.eq_1 @ZAv @ZFo @ZAw @Zqc @ZAx @ZAy @ZAz @ZAA @ZAB @tK.eq_4 (@lH.eq_4))):=aj16 @ZAd @ZAe @ZAf @ZAg @ZAh @ZAi @ZAj @ZAk @ZAl @ZAm @ZAn @ZAo @ZAp @ZAq @ZAr (aj15 @ZAs @cv.eq_1 @cv.eq_2 @Dr.eq_1 @ZAv @ZFo @ZAw @Zqc @ZAx @ZAy @ZAz @ZAA @ZAB @tK.eq_4 (@lH.eq_4))
theorem pm_8:type_of% (aj16 @fu.eq_1 @fu.eq_2 @nr_p @nr_s @nr_c @nr_i @ZAF @ZAG @ZAH @ZAI @kN.eq_1 @kN.eq_2 @ZAL @ZAM @ZAN (aj15 @jn.eq_1 @jn.eq_2 @ZAQ @ZAR @ZAS @DH.eq_1 @DH.eq_2 @yR.eq_1 @AP.eq_1 @AP.eq_2 @tm.eq_1 @rn_0 @rn_n @rn_g (@st_o))):=aj16 @fu.eq_1 @fu.eq_2 @nr_p @nr_s @nr_c @nr_i @ZAF @ZAG @ZAH @ZAI @kN.eq_1 @kN.eq_2 @ZAL @ZAM @ZAN (aj15 @jn.eq_1 @jn.eq_2 @ZAQ @ZAR @ZAS @DH.eq_1 @DH.eq_2 @yR.eq_1 @AP.eq_1 @AP.eq_2 @tm.eq_1 @rn_0 @rn_n @rn_g (@st_o))
theorem pm_9:type_of% (aj16 @iF.eq_1 @iF.eq_2 @lG.eq_1 @lv_d @ZAY @ZAZ @ZA0 @ZFr @ZFs @iE.eq_1 @lb_d @ZA2 @ZA3 @ZA4 @ZFt (aj15 @ZFu @ph.eq_1 @ph.eq_2 @nD.eq_1 @nD.eq_2 @aZ.eq_1 @ZA7 @ZFv @ej.eq_1 @ZwC @A5.eq_1 @pinned.eq_1 @pinned.eq_2 @pinned.eq_3 (@eT.eq_1))):=aj16 @iF.eq_1 @iF.eq_2 @lG.eq_1 @lv_d @ZAY @ZAZ @ZA0 @ZFr @ZFs @iE.eq_1 @lb_d @ZA2 @ZA3 @ZA4 @ZFt (aj15 @ZFu @ph.eq_1 @ph.eq_2 @nD.eq_1 @nD.eq_2 @aZ.eq_1 @ZA7 @ZFv @ej.eq_1 @ZwC @A5.eq_1 @pinned.eq_1 @pinned.eq_2 @pinned.eq_3 (@eT.eq_1))
theorem ZFz:type_of% (aj16 @ZBc @ZBd @ZwD @ZBe @ZBf @dc_s @dc_p @dc_f @pu.eq_1 @pu.eq_2 @ZBi @datS.eq_1 @datS.eq_2 @datM.eq_1 @datM.eq_2 (aj5 @uS.eq_1 @ZBm @ZwG @ZrM.eq_1 (@unD.eq_1))):=aj16 @ZBc @ZBd @ZwD @ZBe @ZBf @dc_s @dc_p @dc_f @pu.eq_1 @pu.eq_2 @ZBi @datS.eq_1 @datS.eq_2 @datM.eq_1 @datM.eq_2 (aj5 @uS.eq_1 @ZBm @ZwG @ZrM.eq_1 (@unD.eq_1))
theorem ZFA:type_of% (aj6 @ZET @ZvX @ZvY @Zsr @sj.eq_1 @ZvZ):=(aj6 @ZET @ZvX @ZvY @Zsr @sj.eq_1 @ZvZ)
theorem m163 {X Y:Prop} (b:Y) (h:Bx Y->X:=by
 intro B0
 have h1:=this.1;rw [List.elem_cons] at h1;have bq:¬ p.1=k:=by intro e;simp [e] at h1
 refine ⟨?_,?_⟩
 ·cases hb:(p.1==k) with
  | true=>rw [hb] at h1;cases h1
  | false=>rw [hb] at h1;exact h1
 exact B0.o bq):X:=h ⟨b⟩
theorem m150 {p:Prop} (h:p:=by
 induction t with
 | nil=>exact trivial
 | cons p r ih=>exact ⟨h p Tas,ih fun q hq=>h q (Tal _ hq)⟩):p:=h
def tN:List Nat->List (Nat × A)->List (Nat × A)
 | _,[]=>[]
 | ds,(k,a)::r=>if ds.elem k then tN ds r else (k,a)::tN (k::ds) r
def tP:List Nat->List (Nat × Bk)->List (Nat × Bk)
 | _,[]=>[]
 | ds,(k,a)::r=>if ds.elem k then tP ds r else (k,a)::tP (k::ds) r
theorem ZDt {s t:List (Nat × A)} (h:∀ p∈t,gs s p.1=p.2):nG s t:=by
 exact m150
theorem ZDu {s t:List (Nat × Bk)} (h:∀ p∈t,gm s p.1=some p.2):nA s t:=by
 exact m150
theorem ZBn:∀ {s:List (Nat × A)} {ds:List Nat} {p:Nat × A},p∈tN ds s->ds.elem p.1=false∧gs s p.1=p.2:=by
 intro s
 induction s with
 | nil=>intro ds p h;cases h
 | cons q r ih =>
  intro ds p h;obtain ⟨k,a⟩:=q;simp only [tN] at h;by_cases hk:ds.elem k=true
  ·rw [if_pos hk] at h;have:=ih h;refine ⟨this.1,?_⟩;rw [gs,if_neg ?_]
   ·exact this.2
   ·intro e;rw [e] at this;rw [hk] at this;cases this.1
  ·rw [if_neg hk] at h;rcases Tbg.1 h with rfl | h
   ·exact ⟨by simpa using hk,by simp [gs]⟩
   ·have:=ih h;refine m163 fun bq=>?_
    ·rw [gs,if_neg bq];exact this.2
theorem ZBo:∀ {s:List (Nat × Bk)} {ds:List Nat} {p:Nat × Bk},p∈tP ds s->ds.elem p.1=false∧gm s p.1=some p.2:=by
 intro s
 induction s with
 | nil=>intro ds p h;cases h
 | cons q r ih =>
  intro ds p h;obtain ⟨k,a⟩:=q;simp only [tP] at h;by_cases hk:ds.elem k=true
  ·rw [if_pos hk] at h;have:=ih h;refine ⟨this.1,?_⟩;rw [gm,if_neg ?_]
   ·exact this.2
   ·intro e;rw [e] at this;rw [hk] at this;cases this.1
  ·rw [if_neg hk] at h;rcases Tbg.1 h with rfl | h
   ·exact ⟨by simpa using hk,by simp [gm]⟩
   ·have:=ih h;refine m163 fun bq=>?_
    ·rw [gm,if_neg bq];exact this.2
theorem Zsw {s a b:List (Nat × A)}:nG s (a++b) ↔ nG s a∧nG s b:=by
 induction a with
 | nil=>simp [nG]
 | cons p r ih=>simp [nG,ih,and_assoc]
theorem Zsx {s a b:List (Nat × Bk)}:nA s (a++b) ↔ nA s a∧nA s b:=by
 induction a with
 | nil=>simp [nA]
 | cons p r ih=>simp [nA,ih,and_assoc]
theorem ZBp {e:Env} {ay:Nat} {Q:PX->St->Prop} {c:Code} {s:List (Nat × A)} {m:List (Nat × Bk)} {ι:Type} (ds dm:List Nat) (us:ι->List (Nat × A)) (ms:ι->List (Nat × Bk)) (ok:ι->Prop) (μ:ι->Nat) (x0:ι)
  {s0:List (Nat × A)} {m0:List (Nat × Bk)} (fg:tN ds s=s0) (mM:tP dm m=m0) {ss:ι->List (Nat × A)} {mm:ι->List (Nat × Bk)} (kf:∀ x,us x++s0=ss x) (hmm:∀ x,ms x++m0=mm x) (hs:nG s (us x0)) (hm:nA m (ms x0)) (h0:ok x0)
  (hr:∀ x,ok x->cp e ay c ⟨ss x,mm x⟩ (fun p σ''=>match p with
   | .normal=>∃ y,ok y∧nG σ''.s (ss y)∧nA σ''.m (mm y)∧μ y < μ x
   | p=>Q p σ'')):cp e ay (.loop c) ⟨s,m⟩ Q:=by
 refine ZDj (fun x=>⟨ss x,mm x⟩) ok μ x0 h0 ?_ ?_ hr
 ·show nG s (ss x0);rw [<- kf,Zsw,<- fg];exact ⟨hs,ZDt fun p hp=>(ZBn hp).2⟩
 ·show nA m (mm x0);rw [<- hmm,Zsx,<- mM];exact ⟨hm,ZDu fun p hp=>(ZBo hp).2⟩
theorem ZBq {e:Env} {ay:Nat} {Q:PX->St->Prop} {σ:St} {id:Nat} {l:List Oper} (h:∀ ds,l.map (·.dst)=ds->al e ds 0 l σ (nB ay Q)):cp e ay (.region id l.toArray false) σ Q:=ZDr rfl (h _ rfl)
theorem dl {e:Env} {ay:Nat} {Q:PX->St->Prop} {σ:St} {id:Nat} {l:List Oper} (n:Nat) (hr:vV l.toArray n=true) (h:∀ ds,l.map (·.dst)=ds->al e ds n l σ (nB ay Q)):cp e ay (.region id l.toArray true) σ Q:=ZDs n hr rfl (h _ rfl)
theorem ZFB {m n:Nat}:m.testBit n=((1 &&& (m >>> n)) != 0):=rfl
def AW (ay:Nat):Res->Option (List (Nat × A) × List (Nat × Bk))
 | .done σ=>some (qk ay σ.s,σ.m)
 | _=>none
theorem ZBr {ay:Nat} {s:List (Nat × A)} {m:List (Nat × Bk)}:AW ay (.done ⟨s,m⟩)=some (qk ay s,m):=rfl
theorem reT {e:Env} {ay:Nat} {Q:PX->St->Prop} {ds:List (Option Nat)} {n:Nat} {os:List Oper} {σ:St} {s2:List (Nat × A)} {m2:List (Nat × Bk)} (h:AW ay (iU e.P ds n os σ)=some (s2,m2)) (hQ:Q .normal ⟨s2,m2⟩):al e ds n os σ (nB ay Q):=by
 cases hr:iU e.P ds n os σ with
 | bad=>rw [hr] at h;cases h
 | call q c args d n' gp σ'=>rw [hr] at h;cases h
 | map q d n' gp σ'=>rw [hr] at h;cases h
 | stop n' gp σ'=>rw [hr] at h;cases h
 | done σ' =>
  rw [hr] at h;simp only [AW,Taq,Prod.mk.injEq] at h;obtain ⟨h1,h2⟩:=h;refine Zhh hr ?_;unfold nB;rw [h1,h2];exact hQ
def Zsy:Res->Option (FuncId × List D × Option Nat × Nat × List Oper × St)
 | .call q c args d n os σ=>(wQ q c args σ).map (fun x=>(x.1,x.2.1,d,n,os,x.2.2))
 | _=>none
theorem rcT {e:Env} {K:St->Prop} {ds:List (Option Nat)} {n n':Nat} {os gp:List Oper} {σ:St} {f:FuncId} {xs:List D} {d:Option Nat} {r:List D} {s2 s3:List (Nat × A)} {m2:List (Nat × Bk)} (h:Zsy (iU e.P ds n os σ)=some (f,xs,d,n',gp,⟨s2,m2⟩)) (hc:az e f xs r) (h2:aI s2 d (bh r)=s3) (hK:al e ds n' gp ⟨s3,m2⟩ K):al e ds n os σ K:=by
 cases hr:iU e.P ds n os σ with
 | bad=>rw [hr] at h;cases h
 | done σ'=>rw [hr] at h;cases h
 | map q d n' gp σ'=>rw [hr] at h;cases h
 | stop n' gp σ'=>rw [hr] at h;cases h
 | call q c args d1 n1 os1 σ1 =>
  rw [hr] at h;simp only [Zsy,Tav,Prod.mk.injEq] at h;obtain ⟨⟨f',xs',σ2⟩,h1,rfl,rfl,rfl,rfl,rfl,h3⟩:=h;simp only at h3;subst h3;exact ZGb hr h1 hc h2 hK
theorem Ad {e:Env} {ay:Nat} {Q:PX->St->Prop} {σ:St} {c:Code} (h:cp e ay c σ Q):∃ σ1,Wk σ σ1∧cp e ay c σ1 Q:=⟨σ,Wk.refl σ,h⟩
theorem ZHN {σ:St} {P:Program} {ts:List RS} {R:List D->Prop} (ks:List Nat) (r:List D) {σ1:St} (hr:R r) (hf:frzs ks σ=σ1) (h:mK P σ1 ts r):ZxG P ts R .ret σ:=⟨ks,r,hr,by rw [hf];exact h⟩
theorem Wk.trans {a b c:St} (h:Wk a b) (k:Wk b c):Wk a c:=by
 refine ⟨fun t=>?_,fun t x hx=>h.2 t x (k.2 t x hx)⟩;rcases k.1 t with q | q
 ·rcases h.1 t with r | r
  ·exact .inl (q.trans r)
  ·exact .inr (q.trans r)
 ·exact .inr q
theorem ZBs {e:Env} {ay:Nat} {Q:PX->St->Prop} {a:Code} {s:List (Nat × A)} {m:List (Nat × Bk)} {ι:Type} (hQ:∀ σ σ1,Wk σ σ1->Q .normal σ1->Q .normal σ) (ds dm:List Nat) (us:ι->List (Nat × A)) (ms:ι->List (Nat × Bk)) (R:ι->Prop)
  {s0:List (Nat × A)} {m0:List (Nat × Bk)} (fg:tN ds s=s0) (mM:tP dm m=m0) {ss:ι->List (Nat × A)} {mm:ι->List (Nat × Bk)} (kf:∀ x,us x++s0=ss x) (hmm:∀ x,ms x++m0=mm x)
  (h:cp e ay a ⟨s,m⟩ (fun x σ'=>match x with
   | .normal=>∃ y,R y∧nG σ'.s (ss y)∧nA σ'.m (mm y)
   | x=>Q x σ')) (hb:∀ x,R x->Q .normal ⟨ss x,mm x⟩):cp e ay a ⟨s,m⟩ Q:=by
 refine ZDi (fun p σ' hq=>?_) a _ h
 cases p with
 | normal =>
  obtain ⟨y,h1,h2,h3⟩:=hq;exact hQ _ _ ⟨fun t=>ZjO h2,fun t x=>ZjP h3⟩ (hb y h1)
 | exit id=>exact hq
 | ret=>exact hq
theorem ZiI {r:List C} (h:aV (Zab .int) r):∃ x0:Int,r=[.lit (.int .i64 x0)]∧eP x0:=by
 obtain ⟨c0,rfl⟩:=len1 h.len;simp only [Zab,aV,and_true] at h;have h0:=h;obtain ⟨x0,rfl,g0⟩:=pe h0;exact ⟨x0,rfl,g0⟩
theorem vN {X Y:Prop} (b:Y) (h:Bx Y->X:=by
 intro B0
 simp only [Zab,mJ,pZ,ux,lM,tv,algF,Taf,Tah,redF,aV,and_true] at h;exact B0.o h):X:=h ⟨b⟩
theorem Zgp {r:List C} (h:aV (Zab .decl) r):∃ (r0:List (List C)) (i1:Int),r=[.sl r0,.lit (.int .i64 i1)]∧aO (Zab .int) r0∧eP i1:=by
 obtain ⟨c0,c1,rfl⟩:=ry h.len;refine vN fun h=>?_;obtain ⟨h0,h1⟩:=h;obtain ⟨r0,rfl,g0⟩:=kl h0;obtain ⟨i1,rfl,g1⟩:=pe h1;exact ⟨r0,i1,rfl,g0,g1⟩
theorem Zh2 {r:List C} (h:aV (Zab .op) r):∃ (t0:ByteArray) (r1:List (List C)) (p2:Bool) (p3:Bool) (i4:Int),r=[.lit (.string t0),.sl r1,.lit (.bool p2),.lit (.bool p3),.lit (.int .i64 i4)]∧t0.size<=maxLen∧aO (Zab .decl) r1∧True∧True∧eP i4:=by
 obtain ⟨c0,c1,c2,c3,c4,rfl⟩:=yy h.len;refine vN fun h=>?_;obtain ⟨h0,h1,h2,h3,h4⟩:=h;obtain ⟨t0,rfl,g0⟩:=Ah h0;obtain ⟨r1,rfl,g1⟩:=kl h1;obtain ⟨p2,rfl⟩:=ZmW h2;obtain ⟨p3,rfl⟩:=ZmW h3;obtain ⟨i4,rfl,g4⟩:=pe h4;exact ⟨t0,r1,p2,p3,i4,rfl,g0,g1,trivial,trivial,g4⟩
theorem Zfr {r:List C} (h:aV (Zab .str) r):∃ x0:ByteArray,r=[.lit (.string x0)]∧x0.size<=maxLen:=by
 obtain ⟨c0,rfl⟩:=len1 h.len;simp only [Zab,aV,and_true] at h;have h0:=h;obtain ⟨x0,rfl,g0⟩:=Ah h0;exact ⟨x0,rfl,g0⟩
theorem ZiJ {r:List C} (h:aV (Zab .sub) r):∃ (i0:Int) (i1:Int),r=[.lit (.int .i64 i0),.lit (.int .i64 i1)]∧eP i0∧eP i1:=by
 obtain ⟨c0,c1,rfl⟩:=ry h.len;refine vN fun h=>?_;obtain ⟨h0,h1⟩:=h;obtain ⟨i0,rfl,g0⟩:=pe h0;obtain ⟨i1,rfl,g1⟩:=pe h1;exact ⟨i0,i1,rfl,g0,g1⟩
theorem m91 {X Y:Prop} (b:Y) (h:Bx Y->X:=by
 intro B0
 simp only [Zab,mJ,pZ,ux,lM,tv,algF,Taf,Tah,redF,aV,and_true];exact B0.o):X:=h ⟨b⟩
theorem ZgS {r:List C} (h:aV (ux) r):∃ (r0:List (List C)) (r1:List (List C)),r=[.sl r0,.sl r1]∧aO (Zab .str) r0∧aO (Zab .sub) r1:=by
 obtain ⟨c0,c1,rfl⟩:=ry h.len;refine vN fun h=>?_;obtain ⟨h0,h1⟩:=h;obtain ⟨r0,rfl,g0⟩:=kl h0;obtain ⟨r1,rfl,g1⟩:=kl h1;exact ⟨r0,r1,rfl,g0,g1⟩
theorem ZgT {r0:List (List C)} {r1:List (List C)} (g0:aO (Zab .str) r0) (g1:aO (Zab .sub) r1):aV (ux) [.sl r0,.sl r1]:=by
 refine m91 ?_;exact ⟨tL g0,tL g1⟩
theorem Zec {r:List C} (h:aV (lM) r):∃ (r0:List (List C)) (r1:List (List C)) (r2:List (List C)),r=[.sl r0,.sl r1,.sl r2]∧aO (Zab .str) r0∧aO (Zab .sub) r1∧aO (Zab .op) r2:=by
 obtain ⟨c0,c1,c2,rfl⟩:=Ca h.len;refine vN fun h=>?_;obtain ⟨h0,h1,h2⟩:=h;obtain ⟨r0,rfl,g0⟩:=kl h0;obtain ⟨r1,rfl,g1⟩:=kl h1;obtain ⟨r2,rfl,g2⟩:=kl h2;exact ⟨r0,r1,r2,rfl,g0,g1,g2⟩
theorem Zed {r0:List (List C)} {r1:List (List C)} {r2:List (List C)} (g0:aO (Zab .str) r0) (g1:aO (Zab .sub) r1) (g2:aO (Zab .op) r2):aV (lM) [.sl r0,.sl r1,.sl r2]:=by
 refine m91 ?_;exact ⟨tL g0,tL g1,tL g2⟩
theorem pv {α:Type} {fs:List F} {e:α->List C} {p:α->Prop} (hd:∀ row,aV fs row->∃ a,row=e a∧p a):∀ {rows:List (List C)},aO fs rows->∃ l:List α,rows=l.map e∧∀ x∈l,p x
 | [],_=>⟨[],rfl,by simp⟩
 | r::rs,h=>by
  simp only [aO] at h;obtain ⟨a,rfl,ha⟩:=hd r h.1;obtain ⟨l,rfl,hl⟩:=pv hd h.2;exact ⟨a::l,rfl,fun x hx=>by
   rcases Tbg.1 hx with rfl | hx
   ·exact ha
   ·exact hl x hx⟩
theorem okL {α:Type} {fs:List F} {e:α->List C} {p:α->Prop} (hk:∀ a,p a->aV fs (e a)):∀ {l:List α},(∀ x∈l,p x)->aO fs (l.map e)
 | [],_=>by simp [aO]
 | a::l,h=>by
  simp only [Tbu,aO];exact ⟨hk a (h a (by simp)),okL hk (fun x hx=>h x (by simp [hx]))⟩
def d7 (n:Int):List C:=[.lit (.int .i64 n)]
def kj (s:ByteArray):List C:=[.lit (.string s)]
def kU (p:Int × Int):List C:=[.lit (.int .i64 p.1),.lit (.int .i64 p.2)]
def ZFC (p:Int × Int):Prop:=eP p.1∧eP p.2
def ZxL (s:ByteArray):Prop:=s.size<=maxLen
theorem ZBt:∀ row,aV (Zab .int) row->∃ a,row=d7 a∧eP a:=fun row h=>ZiI h
theorem ZG3:∀ row,aV (Zab .str) row->∃ a,row=kj a∧ZxL a:=fun row h=>Zfr h
theorem ZG4:∀ row,aV (Zab .sub) row->∃ a,row=kU a∧ZFC a:=fun row h=>by
 obtain ⟨i0,i1,rfl,h0,h1⟩:=ZiJ h;exact ⟨(i0,i1),rfl,h0,h1⟩
structure Srt where
 names:List ByteArray
 subs:List (Int × Int)
def fZ (s:Srt):List C:=[.sl (s.names.map kj),.sl (s.subs.map kU)]
def Zn4 (s:Srt):Prop:=(∀ x∈s.names,ZxL x)∧∀ x∈s.subs,ZFC x
structure Dcl where
 args:List Int
 res:Int
def AA (d:Dcl):List C:=[.sl (d.args.map d7),.lit (.int .i64 d.res)]
def ZFD (d:Dcl):Prop:=(∀ x∈d.args,eP x)∧eP d.res
theorem ZG5:∀ row,aV (Zab .decl) row->∃ a,row=AA a∧ZFD a:=fun row h=>by
 obtain ⟨r0,i1,rfl,g0,g1⟩:=Zgp h;obtain ⟨l0,rfl,k0⟩:=pv ZBt g0;exact ⟨⟨l0,i1⟩,rfl,k0,g1⟩
structure Opr where
 name:ByteArray
 decls:List Dcl
 assoc:Bool
 comm:Bool
 unit:Int
def fU (o:Opr):List C:=[.lit (.string o.name),.sl (o.decls.map AA),.lit (.bool o.assoc),.lit (.bool o.comm),.lit (.int .i64 o.unit)]
def ZFE (o:Opr):Prop:=ZxL o.name∧(∀ x∈o.decls,ZFD x)∧eP o.unit
theorem ZG6:∀ row,aV (Zab .op) row->∃ a,row=fU a∧ZFE a:=fun row h=>by
 obtain ⟨t0,r1,p2,p3,i4,rfl,g0,g1,_,_,g4⟩:=Zh2 h;obtain ⟨l1,rfl,k1⟩:=pv ZG5 g1;exact ⟨⟨t0,l1,p2,p3,i4⟩,rfl,g0,k1,g4⟩
structure Sgn where
 sorts:Srt
 ops:List Opr
def bN (s:Sgn):List C:=[.sl (s.sorts.names.map kj),.sl (s.sorts.subs.map kU),.sl (s.ops.map fU)]
def jk (s:Sgn):Prop:=Zn4 s.sorts∧∀ x∈s.ops,ZFE x
theorem ZG7 {row:List C} (h:aV lM row):∃ s,row=bN s∧jk s:=by
 obtain ⟨r0,r1,r2,rfl,g0,g1,g2⟩:=Zec h;obtain ⟨l0,rfl,k0⟩:=pv ZG3 g0;obtain ⟨l1,rfl,k1⟩:=pv ZG4 g1;obtain ⟨l2,rfl,k2⟩:=pv ZG6 g2;exact ⟨⟨⟨l0,l1⟩,l2⟩,rfl,⟨k0,k1⟩,k2⟩
theorem aQ.at {α:Type} {w:World} {S:Nat->Prop} {fs:List F} {e:α->List C} {p:α->Prop} (hk:∀ a,p a->aV fs (e a)) {l:List α} (hl:∀ x∈l,p x) {A:Option Addr} {m cap k:Nat} {a:α}
  (h:aQ w S (.sl (l.map e)) (.slice A m cap)) (ha:l[k]?=some a):∃ b off,A=some ⟨b,off,none⟩∧S b∧b < w.heap.size∧bn w S b (off+k * fs.length) (e a):=by
 have eX:k < l.length:=(Tad.1 ha).1;obtain ⟨A',m',dz,hf,hm,_,_⟩:=h.form;injection hf with h1 h2 h3
 subst h1 h2 h3;obtain ⟨b,off,r,rfl,hS,hbz,rd,hokr,fF⟩:=h.get (okL hk hl) (i:=k) (by rw [<- hm];simpa using eX);refine ⟨b,off,rfl,hS,hbz,?_⟩;rw [Tba,ha] at rd;simp only [Option.map_some,Taq] at rd;rw [rd];exact fF
def ZwK (l:List Int):List C:=[.sl (l.map d7)]
structure Alg where
 size:Int
 tables:List (List Int)
def ZrN:List Nat:=[0,1,56,2,57,49,28,3,61,58,42,50,38,29,17,4,62,47,59,36,45,43,51,22,53,39,33,30,24,18,12,5,63,55,48,27,60,41,37,16,46,35,44,21,52,32,23,11,54,26,40,15,34,20,31,10,25,14,19,9,13,8,7,6]
def yT:Array Value:=(ZrN.map fun (n:Nat)=>Value.int .u8 (n:Int)).toArray
def nC (w:World):Prop:=w.heap[(2:Nat)]?=some (.cells yT 381 (0,0))
theorem nC.cell {w:World} (h:nC w):∀ j,j < 64->w.cell? ⟨2,j,none⟩=some (.int .u8 ((ZrN.getD j 0:Nat):Int)):=fun j hj=>by
 unfold nC at h;unfold World.cell?;have hl:j < ZrN.length:=hj;simp only [h];unfold yT;rw [if_neg (by simp),List.getElem?_toArray,Tba,List.getD_eq_getElem?_getD,Taa hl];rfl
noncomputable def e0:Env:=⟨Tryz.prog,fun b=>b=2,nC,False⟩
noncomputable def e1:Env:=⟨Tryz.prog,fun b=>b=2,nC,True⟩
theorem ZsA {w w':World} (h:w'.heap[(2:Nat)]?=w.heap[(2:Nat)]?) (k:nC w):nC w':=h.trans k
theorem e1P:e1.P=Tryz.prog:=rfl
theorem ZrO:e1.Ok:=⟨fun _ _ _ h k=>ZsA (h _ rfl) k,by kernel_rfl⟩
theorem DD {f:FuncId} {args r:List D} (h:az e1 f args r):az e0 f args r :=
 ⟨h.1,fun w S vs hS hE hG dD=>(h.2 w S vs hS hE hG dD).mono fun en w' ⟨v,h1,h2,h3,h4⟩=>⟨v,h1,⟨h2.os,h2.tape,h2.output,fun d=>d.elim,h2.size,h2.block⟩,h3,h4⟩⟩
theorem aw:e0.P=Tryz.prog:=rfl
theorem Zn5:e0.Ok:=⟨fun _ _ _ h k=>ZsA (h _ rfl) k,by kernel_rfl⟩
theorem xG {α:Type} {e:α->List C} {n:Nat} (h:∀ a,((e a).length==n && (e a).all aY)=true) (l:List α):ZaB n (l.map e)=true:=by
 unfold ZaB;rw [List.all_map];exact List.all_eq_true.2 fun a _=>h a
theorem Zqd {n:Nat}:ZaB n []=true:=rfl
theorem zb {n:Nat} {r:List C} {rs:List (List C)}:ZaB n (r::rs)=(r.length==n && r.all aY && ZaB n rs):=rfl
theorem Zk0 (l:List Int):ZaB 1 (l.map d7)=true:=xG (e:=d7) (n:=1) (fun _=>rfl) l
theorem Zk1 (l:List ByteArray):ZaB 1 (l.map kj)=true:=xG (e:=kj) (n:=1) (fun _=>rfl) l
theorem ZsB (l:List (Int × Int)):ZaB 2 (l.map kU)=true:=xG (e:=kU) (n:=2) (fun _=>rfl) l
theorem ZBu (l:List Dcl):ZaB 2 (l.map AA)=true:=xG (e:=AA) (n:=2) (fun _=>rfl) l
theorem ZBv (l:List Opr):ZaB 5 (l.map fU)=true:=xG (e:=fU) (n:=5) (fun _=>rfl) l
theorem ZwL (l:List (List Int)):ZaB 1 (l.map ZwK)=true:=xG (e:=ZwK) (n:=1) (fun _=>rfl) l
theorem dI {a b:Int} (h:a=b) (h1:-9223372036854775808<=b) (h2:b<=9223372036854775807):IntKind.i64.wrap a=b:=by rw [h];exact IntWalk.i64_in _ ⟨h1,h2⟩
theorem bI {k:Nat} (h:k < 9223372036854775807):IntKind.i64.wrap ((k:Int)+1)=((k+1:Nat):Int):=dI om om om
theorem bqtt:(true==true)=true:=rfl
theorem bqtf:(true==false)=false:=rfl
theorem bqft:(false==true)=false:=rfl
theorem bqff:(false==false)=true:=rfl
theorem bD (n:Nat):(n:Int).toNat=n:=Tbx n
theorem pz:type_of% (aj16 @CR @CS @tt_2 @tt_3 @tt_4 @tt_5 @tt_6 @tt_7 @tt_8 @tt_9 @ZFx @ZFy @pm_0 @pm_1 @pm_2 (aj16 @pm_3 @pm_4 @pm_5 @pm_6 @pm_7 @pm_8 @pm_9 @ZFz @ZFA @aw @e1P @gs.eq_1 @gs.eq_2 @gm.eq_1 @gm.eq_2 (aj16 @oR.eq_1 @oR.eq_2 @Zk0 @Zk1 @ZsB @ZBu @ZBv @ZwL @Zqd @zb @bqtt @bqtf @bqft @bqff @Bool.and_self (aj16 @Bool.or_true @Bool.true_or @Bool.or_false @Bool.false_or @Nat.zero_add @Nat.add_zero @and_self @true_and @and_true @Bool.not_true @Bool.not_false @bD @qk.eq_1 @qk.eq_2 @ZFB (aj16 @ZBr @Zsy.eq_1 @Int.natCast_nonneg @Int.toNat_zero @Int.toNat_one @Tai @List.map_nil.{0,0} @Tat.{0} @Tau.{0} @List.drop_succ_cons.{0} @List.drop_zero.{0} @List.drop_nil.{0} @Tbc.{0} @List.take_zero.{0} @Tag.{0} (aj16 @Tak.{0} @Tae.{0} @List.all_cons.{0} @List.all_nil.{0} @List.isEmpty_cons.{0} @List.isEmpty_nil.{0} @Taf.{0} @Tah.{0} @List.append_nil.{0} @Option.map_some.{0,0} @Option.map_none.{0,0} @Option.join_some.{0} @Option.getD_some.{0} @Option.isNone_none.{0} @Option.isNone_some.{0} (aj5 @Option.isSome_none.{0} @Option.isSome_some.{0} @Tbu.{0,0} @Tay.{0,0} (@Tba.{0,0})))))))):=aj16 @CR @CS @tt_2 @tt_3 @tt_4 @tt_5 @tt_6 @tt_7 @tt_8 @tt_9 @ZFx @ZFy @pm_0 @pm_1 @pm_2 (aj16 @pm_3 @pm_4 @pm_5 @pm_6 @pm_7 @pm_8 @pm_9 @ZFz @ZFA @aw @e1P @gs.eq_1 @gs.eq_2 @gm.eq_1 @gm.eq_2 (aj16 @oR.eq_1 @oR.eq_2 @Zk0 @Zk1 @ZsB @ZBu @ZBv @ZwL @Zqd @zb @bqtt @bqtf @bqft @bqff @Bool.and_self (aj16 @Bool.or_true @Bool.true_or @Bool.or_false @Bool.false_or @Nat.zero_add @Nat.add_zero @and_self @true_and @and_true @Bool.not_true @Bool.not_false @bD @qk.eq_1 @qk.eq_2 @ZFB (aj16 @ZBr @Zsy.eq_1 @Int.natCast_nonneg @Int.toNat_zero @Int.toNat_one @Tai @List.map_nil.{0,0} @Tat.{0} @Tau.{0} @List.drop_succ_cons.{0} @List.drop_zero.{0} @List.drop_nil.{0} @Tbc.{0} @List.take_zero.{0} @Tag.{0} (aj16 @Tak.{0} @Tae.{0} @List.all_cons.{0} @List.all_nil.{0} @List.isEmpty_cons.{0} @List.isEmpty_nil.{0} @Taf.{0} @Tah.{0} @List.append_nil.{0} @Option.map_some.{0,0} @Option.map_none.{0,0} @Option.join_some.{0} @Option.getD_some.{0} @Option.isNone_none.{0} @Option.isNone_some.{0} (aj5 @Option.isSome_none.{0} @Option.isSome_some.{0} @Tbu.{0,0} @Tay.{0,0} (@Tba.{0,0})))))))
theorem j5 {p:Prop} (h:p:=by simp only [pz,↓reduceIte,Nat.reduceEqDiff,Nat.reduceAdd,Nat.reduceSub,Nat.reduceMul,Nat.reduceLeDiff,Nat.reduceBEq,Tam,decide_true,decide_false,Int.reduceLE,Int.reduceToNat,Int.reduceLT,Int.reduceEq,eq_self,Nat.reduceShiftRight,Nat.reduceAnd,Nat.reduceBneDiff,F];first | done | exact rfl):p:=h
theorem nf {p:Prop} (h:p:=by simp only [pz,↓reduceIte,Nat.reduceEqDiff,Nat.reduceAdd,Nat.reduceSub,Nat.reduceMul,Nat.reduceLeDiff,Nat.reduceBEq,Tam,decide_true,decide_false,Int.reduceLE,Int.reduceToNat,Int.reduceLT,Int.reduceEq,eq_self,Nat.reduceShiftRight,Nat.reduceAnd,Nat.reduceBneDiff];first | done | exact rfl):p:=h
theorem sfy {p:Prop} (h:p:=by simp only [pz,↓reduceIte,Nat.reduceEqDiff,Nat.reduceAdd,Nat.reduceSub,Nat.reduceMul,Nat.reduceLeDiff,Nat.reduceBEq,Tam,decide_true,decide_false,Int.reduceLE,Int.reduceToNat,Int.reduceLT,Int.reduceEq,eq_self,Nat.reduceShiftRight,Nat.reduceAnd,Nat.reduceBneDiff,F];try exact rfl):p:=h
theorem nh {p:Prop} (h:p:=by simp only [pz,↓reduceIte,Nat.reduceEqDiff,Nat.reduceAdd,Nat.reduceSub,Nat.reduceMul,Nat.reduceLeDiff,Nat.reduceBEq,Tam,decide_true,decide_false,Int.reduceLE,Int.reduceToNat,Int.reduceLT,Int.reduceEq,eq_self,Nat.reduceShiftRight,Nat.reduceAnd,Nat.reduceBneDiff];try exact rfl):p:=h
theorem lL {p:Prop} (h:p:=by simp only [pz,↓reduceIte,Nat.reduceEqDiff,Nat.reduceAdd,Nat.reduceSub,Nat.reduceMul,Nat.reduceLeDiff,Nat.reduceBEq,Tam,decide_true,decide_false,Int.reduceLE,Int.reduceToNat,Int.reduceLT,Int.reduceEq,eq_self,Nat.reduceShiftRight,Nat.reduceAnd,Nat.reduceBneDiff,F];exact rfl):p:=h
theorem cJ {p:Prop} (h:p:=by simp only [pz,↓reduceIte,Nat.reduceEqDiff,Nat.reduceAdd,Nat.reduceSub,Nat.reduceMul,Nat.reduceLeDiff,Nat.reduceBEq,Tam,decide_true,decide_false,Int.reduceLE,Int.reduceToNat,Int.reduceLT,Int.reduceEq,eq_self,Nat.reduceShiftRight,Nat.reduceAnd,Nat.reduceBneDiff];exact rfl):p:=h
theorem gu:∀ n,d7 n=[.lit (.int .i64 n)]:=fun _=>rfl
theorem iW:∀ d,AA d=[.sl (d.args.map d7),.lit (.int .i64 d.res)]:=fun _=>rfl
theorem bH:∀ o,fU o=[.lit (.string o.name),.sl (o.decls.map AA),.lit (.bool o.assoc),.lit (.bool o.comm),.lit (.int .i64 o.unit)]:=fun _=>rfl
theorem dR:∀ s,bN s=[.sl (s.sorts.names.map kj),.sl (s.sorts.subs.map kU),.sl (s.ops.map fU)]:=fun _=>rfl
theorem ZBw:∀ x,bh [x]=.d x:=fun _=>rfl
theorem gB {X Y:Prop} (b:Y) (h:Y->X:=by
 intro b
 first
  | with_reducible refine ZBq ?_
  | (first
   | refine dl 1 (by decide +kernel) ?_
   | refine dl 2 (by decide +kernel) ?_
   | refine dl 3 (by decide +kernel) ?_
   | refine dl 4 (by decide +kernel) ?_
   | refine dl 5 (by decide +kernel) ?_
   | refine dl 6 (by decide +kernel) ?_
   | refine dl 7 (by decide +kernel) ?_
   | refine dl 8 (by decide +kernel) ?_
   | refine dl 9 (by decide +kernel) ?_
   | refine dl 10 (by decide +kernel) ?_
   | refine dl 11 (by decide +kernel) ?_
   | refine dl 12 (by decide +kernel) ?_
   | refine dl 13 (by decide +kernel) ?_
   | refine dl 14 (by decide +kernel) ?_
   | refine dl 15 (by decide +kernel) ?_
   | refine dl 16 (by decide +kernel) ?_
   | refine dl 17 (by decide +kernel) ?_
   | refine dl 18 (by decide +kernel) ?_
   | refine dl 19 (by decide +kernel) ?_
   | refine dl 20 (by decide +kernel) ?_
   | refine dl 21 (by decide +kernel) ?_
   | refine dl 22 (by decide +kernel) ?_
   | refine dl 23 (by decide +kernel) ?_
   | refine dl 24 (by decide +kernel) ?_
   | refine dl 25 (by decide +kernel) ?_
   | refine dl 26 (by decide +kernel) ?_
   | refine dl 27 (by decide +kernel) ?_
   | refine dl 28 (by decide +kernel) ?_
   | refine dl 29 (by decide +kernel) ?_
   | refine dl 30 (by decide +kernel) ?_
   | refine dl 31 (by decide +kernel) ?_
   | refine dl 32 (by decide +kernel) ?_
   | refine dl 33 (by decide +kernel) ?_
   | refine dl 34 (by decide +kernel) ?_
   | refine dl 35 (by decide +kernel) ?_
   | refine dl 36 (by decide +kernel) ?_
   | refine dl 37 (by decide +kernel) ?_
   | refine dl 38 (by decide +kernel) ?_
   | refine dl 39 (by decide +kernel) ?_
   | refine dl 40 (by decide +kernel) ?_
   | refine dl 41 (by decide +kernel) ?_
   | refine dl 42 (by decide +kernel) ?_
   | refine dl 43 (by decide +kernel) ?_
   | refine dl 44 (by decide +kernel) ?_
   | refine dl 45 (by decide +kernel) ?_
   | refine dl 46 (by decide +kernel) ?_
   | refine dl 47 (by decide +kernel) ?_
   | refine dl 48 (by decide +kernel) ?_
   | refine dl 49 (by decide +kernel) ?_
   | refine dl 50 (by decide +kernel) ?_
   | refine dl 51 (by decide +kernel) ?_
   | refine dl 52 (by decide +kernel) ?_
   | refine dl 53 (by decide +kernel) ?_
   | refine dl 54 (by decide +kernel) ?_
   | refine dl 55 (by decide +kernel) ?_
   | refine dl 56 (by decide +kernel) ?_
   | refine dl 57 (by decide +kernel) ?_
   | refine dl 58 (by decide +kernel) ?_
   | refine dl 59 (by decide +kernel) ?_
   | refine dl 60 (by decide +kernel) ?_
   | refine dl 61 (by decide +kernel) ?_
   | refine dl 62 (by decide +kernel) ?_
   | refine dl 63 (by decide +kernel) ?_
   | refine dl 64 (by decide +kernel) ?_)
 intro ds bG;simp only [List.map] at bG;subst bG;exact b):X:=h b
theorem gC {X Y Z:Prop} (c:Z) (b:Y) (h:Z->Y->X:=by
 intro c b;refine rcT (by exact lL) c (by simp only [aI,bh];exact rfl) ?_;exact b):X:=h c b
theorem gCE {X Y Z:Prop} (c:Z) (b:Y) (h:Z->Y->X:=by
 intro c b;refine ZDn (by exact lL) (by exact lL) c ?_;exact b):X:=h c b
theorem gR {X Y:Prop} (b:Y) (h:Y->X:=by
 intro b;refine reT (by exact lL) ?_
 first | (change cp _ _ _ _ _) | refine Ad ?_ | skip
 exact b):X:=h b
theorem gG {X Y:Prop} (b:Y) (h:Y->X:=by
 intro b
 repeat (first
  | with_reducible refine wz ?_
  | with_reducible refine Zp9 ?_
  | ((first | with_reducible refine Zsg ?_ | with_reducible refine Zsh ?_);try refine Ad ?_)
  | (with_reducible refine Zzg ?_ ?_;· simp only [pz,↓reduceIte,Nat.reduceEqDiff,F])
  | (with_reducible refine Zzh ?_ ?_;· simp only [pz,↓reduceIte,Nat.reduceEqDiff,F])
  | (refine gB ?_;refine reT (by exact lL) ?_;try refine Ad ?_))
 exact b):X:=h b
def CV (_:Nat):Prop:=True
theorem ZG8 {n:Nat} (_:CV n) {e:Env} {ay id:Nat} {ops:Array Oper} {fl:Bool} {σ:St} {Q:PX->St->Prop} (h:cp e ay (.region id ops fl) σ Q) (_:(id==n)=false:=by decide):cp e ay (.region id ops fl) σ Q:=h
theorem gGn {X Y:Prop} (b:Y) (h:Y->X:=by
 intro b
 repeat (first
  | with_reducible refine wz ?_
  | with_reducible refine Zp9 ?_
  | ((first | with_reducible refine Zsg ?_ | with_reducible refine Zsh ?_);try refine Ad ?_)
  | (with_reducible refine Zzg ?_ ?_;· simp only [pz,↓reduceIte,Nat.reduceEqDiff,F])
  | (with_reducible refine Zzh ?_ ?_;· simp only [pz,↓reduceIte,Nat.reduceEqDiff,F])
  | (refine ZG8 NN ?_;refine gB ?_;refine reT (by exact lL) ?_;try refine Ad ?_))
 exact b):X:=h b
theorem gT {X:Prop} (h:X:=by
 refine Aq (ZnX ?_);simp [mK,kL,kR,gs,F]):X:=h
theorem uV {X:Prop} {P:Program} {ts:List RS} {r:List D} {σ σ1:St} (ks:List Nat) (hx:tq P ts r .ret σ->X:=by exact fun h=>Aq h) (hf:frzs ks σ=σ1:=by exact lL) (h:mK P σ1 ts r:=by simp [mK,kL,kR,gs,F]):X:=hx (ZG1 ks hf h)
theorem gTd {X:Prop} {P:Program} {ts:List RS} {r:List D} {σ:St} (hx:tq P ts r .ret σ->X:=by exact fun h=>Aq h) (hr:lJ P σ ts=some r:=by exact j5):X:=hx (ZnX (De hr))
theorem gw {X:Prop} (h:X:=by simp [nG,nA,gs,gm,F]):X:=h
theorem gL {e:Env} {ay:Nat} {Q:PX->St->Prop} {c:Code} {s:List (Nat × A)} {m:List (Nat × Bk)} {ι:Type} (ds dm:List Nat) (us:ι->List (Nat × A)) (ms:ι->List (Nat × Bk)) (ok:ι->Prop) (μ:ι->Nat) (x0:ι) (h0:ok x0)
  {s0:List (Nat × A)} {m0:List (Nat × Bk)} {ss:ι->List (Nat × A)} {mm:ι->List (Nat × Bk)}
  (hr:∀ x,ok x->cp e ay c ⟨ss x,mm x⟩ (fun p σ''=>match p with
   | .normal=>∃ y,ok y∧nG σ''.s (ss y)∧nA σ''.m (mm y)∧μ y < μ x
   | p=>Q p σ''))
  (fg:tN ds s=s0:=by simp only [tN,tP,List.elem_cons,List.elem_nil,Nat.reduceBEq,Bool.or_false,Bool.false_or,Bool.or_true,Bool.true_or,Bool.or_self,↓reduceIte,Tam];exact rfl) (mM:tP dm m=m0:=by simp only [tN,tP,List.elem_cons,List.elem_nil,Nat.reduceBEq,Bool.or_false,Bool.false_or,Bool.or_true,Bool.true_or,Bool.or_self,↓reduceIte,Tam];exact rfl) (kf:∀ x,us x++s0=ss x:=by intro x;simp only [Taf,Tah];exact rfl) (hmm:∀ x,ms x++m0=mm x:=by intro x;simp only [Taf,Tah];exact rfl)
  (hs:nG s (us x0):=by simp [nG,gs,F]) (hm:nA m (ms x0):=by simp [nA,gm,F]):cp e ay (.loop c) ⟨s,m⟩ Q:=ZBp ds dm us ms ok μ x0 fg mM kf hmm hs hm h0 hr
theorem gM {e:Env} {ay:Nat} {Q:PX->St->Prop} {a:Code} {s:List (Nat × A)} {m:List (Nat × Bk)} {ι:Type} (ds dm:List Nat) (us:ι->List (Nat × A)) (ms:ι->List (Nat × Bk)) (R:ι->Prop)
  {s0:List (Nat × A)} {m0:List (Nat × Bk)} {ss:ι->List (Nat × A)} {mm:ι->List (Nat × Bk)}
  (h:cp e ay a ⟨s,m⟩ (fun x σ'=>match x with
   | .normal=>∃ y,R y∧nG σ'.s (ss y)∧nA σ'.m (mm y)
   | x=>Q x σ')) (hb:∀ x,R x->Q .normal ⟨ss x,mm x⟩) 
  (fg:tN ds s=s0:=by simp only [tN,tP,List.elem_cons,List.elem_nil,Nat.reduceBEq,Bool.or_false,Bool.false_or,Bool.or_true,Bool.true_or,Bool.or_self,↓reduceIte,Tam];exact rfl) (mM:tP dm m=m0:=by simp only [tN,tP,List.elem_cons,List.elem_nil,Nat.reduceBEq,Bool.or_false,Bool.false_or,Bool.or_true,Bool.true_or,Bool.or_self,↓reduceIte,Tam];exact rfl) (kf:∀ x,us x++s0=ss x:=by intro x;simp only [Taf,Tah];exact rfl) (hmm:∀ x,ms x++m0=mm x:=by intro x;simp only [Taf,Tah];exact rfl)
  (hQ:∀ σ σ1,Wk σ σ1->Q .normal σ1->Q .normal σ:=by exact fun _ _ h p=>Exists.elim p fun σ2 q=>⟨σ2,h.trans q.1,q.2⟩):cp e ay a ⟨s,m⟩ Q:=ZBs hQ ds dm us ms R fg mM kf hmm h hb
theorem gI {e:Env} {f:FuncId} {fn:Func} {c:Code} {args r:List D} {ts:List RS} (ay:Nat) (hf:e.P.funcs[f]?=some fn) (h:cp e ay c ⟨oR 0 args,[]⟩ (tq e.P ts r)) (hb:fn.body=some c:=by exact rfl) (mv:(fn.name == "runtime.NumGoroutine")=false:=by kernel_rfl)
  (aj:nw fn.ntmps c=true:=by kernel_rfl) (ca:Nat.ble args.length fn.ntmps=true:=by exact rfl) (ep:kR fn.results.toList=ts:=by exact rfl) (he:e.Ok:=by first | exact Zn5 | exact ZrO | assumption):az e f args r:=ZxF he ay hf hb mv aj ca ep h
theorem gIE {e:Env} {f:FuncId} {fn:Func} {c:Code} {args:List D} {R:List D->Prop} {ts:List RS} (ay:Nat) (hf:e.P.funcs[f]?=some fn) (h:cp e ay c ⟨oR 0 args,[]⟩ (ZxG e.P ts R)) (hb:fn.body=some c:=by exact rfl) (mv:(fn.name == "runtime.NumGoroutine")=false:=by kernel_rfl)
  (aj:nw fn.ntmps c=true:=by kernel_rfl) (ca:Nat.ble args.length fn.ntmps=true:=by exact rfl) (ep:kR fn.results.toList=ts:=by exact rfl) (he:e.Ok:=by first | exact Zn5 | exact ZrO | assumption):k9 e f args R:=Zuo he ay hf hb mv aj ca ep h
theorem bR {e:Env} {K:St->Prop} {ds:List (Option Nat)} {n n':Nat} {os gp:List Oper} {σ:St} {c:Operand} {args:List Operand} {f:FuncId} {xs:List D} {d:Option Nat} {s1 s2 s3:List (Nat × A)} {m1 m2 m3:List (Nat × Bk)} {pm:List Bk} {R:List D->List Bk->Prop} (ks du:List Nat) (hc:aR e f xs pm R)
  (hK:∀ r bX,R r bX->al e ds n' gp ⟨aI s3 d (bh r),aZ du bX++m3⟩ K) (h:iU e.P ds n os σ=.call false c args d n' gp ⟨s1,m1⟩:=by exact lL) (h1:wQ false c args ⟨s1,m1⟩=some (f,xs,⟨s2,m2⟩):=by exact lL)
  (iO:ej m2 ks=some pm:=by exact nh) (hpn:pm.all pinned=true:=by exact nh) (hn:ks.Nodup:=by decide) (hk:ph (ks++du) s2=s3:=by exact cJ) (hr:nD (ks++du) m2=m3:=by exact cJ):al e ds n os σ K:=ZDo ks du h h1 hc iO hpn hn hk hr hK
theorem gCI {e:Env} {K:St->Prop} {ds:List (Option Nat)} {n n':Nat} {os gp:List Oper} {σ:St} {c x0:Operand} {rest:List Operand} {f:FuncId} {xs:List D} {d:Option Nat} {s1 s3:List (Nat × A)} {m1 m3:List (Nat × Bk)} {k ty sz:Nat} {rows rows':List (List C)} {r:List D} {oa:Option (Option Addr × Nat)} (hc:jG e f ty sz rows xs rows' r) (hl:rows'.length=rows.length)
  (hK:al e ds n' gp ⟨s3,(k,.buf oa ty sz rows')::m3⟩ K) (h:iU e.P ds n os σ=.call false c (x0::rest) d n' gp ⟨s1,m1⟩:=by exact lL) (h1:ZnV c x0 rest ⟨s1,m1⟩=some (f,k,ty,sz,rows,xs):=by exact lL)
  (hm:gm m1 k=some (.buf oa ty sz rows):=by exact cJ) (h2:aI s1 d (bh r)=s3:=by simp only [aI,bh];exact rfl) (h3:aA k m1=m3:=by exact cJ):al e ds n os σ K:=ZDp h h1 hm hc hl h2 h3 hK
theorem gCR {e:Env} {K:St->Prop} {ds:List (Option Nat)} {n n':Nat} {os gp:List Oper} {σ:St} {c:Operand} {args:List Operand} {f:FuncId} {xs:List D} {d ty sz:Nat} {s1 s2 s3:List (Nat × A)} {m1 m2 m3:List (Nat × Bk)} {rows:List (List C)} (hc:kh e f xs ty sz rows) (hK:al e ds n' gp ⟨(d,.buf d)::s3,(d,.buf none ty sz rows)::m3⟩ K)
  (h:iU e.P ds n os σ=.call false c args (some d) n' gp ⟨s1,m1⟩:=by exact lL) (h1:wQ false c args ⟨s1,m1⟩=some (f,xs,⟨s2,m2⟩):=by exact lL) (h2:bM d s2=s3:=by exact cJ) (h3:aA d m2=m3:=by exact cJ):al e ds n os σ K:=ZDl h h1 hc h2 h3 hK
theorem gP {e:Env} {K:St->Prop} {ds:List (Option Nat)} {n n':Nat} {os gp:List Oper} {σ:St} {s1:List (Nat × A)} {m1:List (Nat × Bk)} (j:Nat) (hK:al e ds n' gp ⟨s1,m1⟩ K) (h:ZnW (runN e.P ds j n os σ)=some (n',gp,s1,m1):=by exact lL):al e ds n os σ K:=Zze j h hK
theorem gS {e:Env} {K:St->Prop} {ds:List (Option Nat)} {os:List Oper} {s:List (Nat × A)} {m m2:List (Nat × Bk)} {ety sz:Nat} {rows:List (List C)} {s2:Option Addr->Nat->List (Nat × A)} (k:Nat) (hK:∀ a cap,al e ds 0 os ⟨s2 a cap,(k,.buf (some (a,cap)) ety sz rows)::m2⟩ K)
  (hm:gm m k=some (.buf none ety sz rows):=by exact cJ) (hs:∀ a cap,iF (iE k a rows.length cap) s=s2 a cap:=by intro a cap;exact cJ) (hr:aA k m=m2:=by exact cJ):al e ds 0 os ⟨s,m⟩ K :=
 Di (Zp7 k hm) fun σ' ⟨a,cap,hσ⟩=>by subst hσ;simp only [hs,hr];exact hK a cap
theorem gO {e:Env} {K:St->Prop} {ds:List (Option Nat)} {os:List Oper} {s s2:List (Nat × A)} {m m2:List (Nat × Bk)} (t ety sz:Nat) (hK:al e ds 0 os ⟨(t,.buf t)::s2,(t,.buf none ety sz [])::m2⟩ K) (h0:0 < sz:=by decide) (hm:gs s t=.d (.clip []):=by exact nh)
  (hs:bM t s=s2:=by exact cJ) (hr:aA t m=m2:=by exact cJ):al e ds 0 os ⟨s,m⟩ K :=
 Di (ZDf t ety sz h0 hm) fun σ' hσ=>by subst hσ;simp only [hs,hr];exact hK
theorem gK {e:Env} {K:St->Prop} {ds:List (Option Nat)} {os:List Oper} {s:List (Nat × A)} {m:List (Nat × Bk)} {x:A} (t:Nat) (hK:al e ds 0 os ⟨(t,x)::s,m⟩ K) (hx:fu m (gs s t)=x:=by exact cJ):al e ds 0 os ⟨s,m⟩ K :=
 Di (ZDe t) fun σ' hσ=>by subst hσ;simp only [hx];exact hK
theorem gD {e:Env} {K:St->Prop} {ds:List (Option Nat)} {os:List Oper} {s s2:List (Nat × A)} {m m2:List (Nat × Bk)} {a:Option Addr} {cap ety sz:Nat} {rows:List (List C)} (k:Nat) (ts ks:List Nat) (hK:al e ds 0 os ⟨s2,m2⟩ K) (hm:gm m k=some (.buf (some (a,cap)) ety sz rows):=by exact cJ)
  (hs:datS a rows.length cap rows ts (eF k (.buf (some (a,cap)) ety sz rows) s)=s2:=by exact cJ) (hr:datM a rows.length cap rows ks (aA k m)=m2:=by exact cJ):al e ds 0 os ⟨s,m⟩ K :=
 Di (Zse k ts ks hm) fun σ' hσ=>by subst hσ;simp only [hs,hr];exact hK
theorem gX {e:Env} {K:St->Prop} {ds:List (Option Nat)} {os:List Oper} {d t ty:Nat} {p:String} {ed:Array Edge} {parts:List (Nat × Operand)} {s:List (Nat × A)} {m:List (Nat × Bk)} {cs gc:List C} (hK:al e ds 0 os ⟨(d,.d (.agg gc))::s,m⟩ K)
  (hz:lp e.P t=some cs:=by exact nh) (bm:uo e.P t=true:=by exact nh) (aj:cs.all aY=true:=by first | rfl | exact nh) (hf:qN e.P t cs (parts.map fun p=>(p.1,aL s p.2))=some gc:=by exact lL):al e ds 0 (⟨some d,.build t parts.toArray,ty,p,ed,none⟩::os) ⟨s,m⟩ K:=Zup hz bm aj hf hK
theorem pN {e:Env} {ay:Nat} {Q:PX->St->Prop} {c:Code} {s s2:List (Nat × A)} {m m2:List (Nat × Bk)} (κ ety sz:Nat) (hK:cp e ay c ⟨s2,(κ,.buf (some (none,0)) ety sz [])::m2⟩ Q) (h0:0 < sz:=by decide) (hs:bM κ s=s2:=by exact cJ) (hr:aA κ m=m2:=by exact cJ):cp e ay c ⟨s,m⟩ Q :=
 rI (ZDg κ ety sz h0) fun σ' hσ=>by subst hσ;simp only [hs,hr];exact hK
theorem pD {e:Env} {ay:Nat} {Q:PX->St->Prop} {c:Code} {s s2:List (Nat × A)} {m m2:List (Nat × Bk)} {a:Option Addr} {cap ety sz:Nat} {rows:List (List C)} (k:Nat) (ts ks:List Nat) (hK:cp e ay c ⟨s2,m2⟩ Q) (hm:gm m k=some (.buf (some (a,cap)) ety sz rows):=by exact cJ)
  (hs:datS a rows.length cap rows ts (eF k (.buf (some (a,cap)) ety sz rows) s)=s2:=by exact cJ) (hr:datM a rows.length cap rows ks (aA k m)=m2:=by exact cJ):cp e ay c ⟨s,m⟩ Q :=
 rI (Zse k ts ks hm) fun σ' hσ=>by subst hσ;simp only [hs,hr];exact hK
theorem pV {e:Env} {ay:Nat} {Q:PX->St->Prop} {c:Code} {s:List (Nat × A)} {m m2:List (Nat × Bk)} {cs:List C} {s2:Nat->List (Nat × A)} (k:Nat) (hK:∀ b,(∀ k' b' gc,k'≠k->gm m k'=some (.var (some b') gc)->b≠b')->cp e ay c ⟨s2 b,(k,.var (some b) cs)::m2⟩ Q)
  (hm:gm m k=some (.var none cs):=by exact cJ) (hs:∀ b,iF (lG k b) s=s2 b:=by intro b;exact cJ) (hr:aA k m=m2:=by exact cJ):cp e ay c ⟨s,m⟩ Q :=
 rI (Zza k hm) fun σ' ⟨b,hb,hσ⟩=>by subst hσ;simp only [hs,hr];exact hK b hb
theorem pS {e:Env} {ay:Nat} {Q:PX->St->Prop} {c:Code} {s:List (Nat × A)} {m m2:List (Nat × Bk)} {ety sz:Nat} {rows:List (List C)} {s2:Option Addr->Nat->List (Nat × A)} (k:Nat) (hK:∀ a cap,cp e ay c ⟨s2 a cap,(k,.buf (some (a,cap)) ety sz rows)::m2⟩ Q)
  (hm:gm m k=some (.buf none ety sz rows):=by exact cJ) (hs:∀ a cap,iF (iE k a rows.length cap) s=s2 a cap:=by intro a cap;exact cJ) (hr:aA k m=m2:=by exact cJ):cp e ay c ⟨s,m⟩ Q :=
 rI (Zp7 k hm) fun σ' ⟨a,cap,hσ⟩=>by subst hσ;simp only [hs,hr];exact hK a cap
def eS (pm bX:List Bk):Prop:=∀ (w:World) (S:Nat->Prop),(∀ x∈pm,mQ w S x)->mT pm->(∀ x∈bX,mQ w S x)∧mT bX∧∀ g,dV bX g->dV pm g
theorem gE {e:Env} {K:St->Prop} {ds:List (Option Nat)} {os:List Oper} {s s2:List (Nat × A)} {m m2 m3:List (Nat × Bk)} {pm bX:List Bk} (ks du:List Nat) (dp:eS pm bX) (hK:al e ds 0 os ⟨s2,m3⟩ K) (iO:ej m ks=some pm:=by exact nh) (hn:ks.Nodup:=by decide) (hp:pm.all pinned=true:=by exact nh)
  (hs:ph (ks++du) s=s2:=by exact cJ) (hr:nD (ks++du) m=m2:=by exact cJ) (h3:aZ du bX++m2=m3:=by exact cJ):al e ds 0 os ⟨s,m⟩ K :=
 Di (Zpr (Φ:=fun x=>x=bX) ks du hn iO hp (fun w S h1 h2=>⟨bX,rfl,dp w S h1 h2⟩)) fun σ' ⟨q,hq,hσ⟩=>by subst hq hσ;simp only [hs,hr,h3];exact hK
theorem pE {e:Env} {ay:Nat} {Q:PX->St->Prop} {c:Code} {s s2:List (Nat × A)} {m m2 m3:List (Nat × Bk)} {pm bX:List Bk} (ks du:List Nat) (dp:eS pm bX) (hK:cp e ay c ⟨s2,m3⟩ Q) (iO:ej m ks=some pm:=by exact nh) (hn:ks.Nodup:=by decide) (hp:pm.all pinned=true:=by exact nh)
  (hs:ph (ks++du) s=s2:=by exact cJ) (hr:nD (ks++du) m=m2:=by exact cJ) (h3:aZ du bX++m2=m3:=by exact cJ):cp e ay c ⟨s,m⟩ Q :=
 rI (Zpr (Φ:=fun x=>x=bX) ks du hn iO hp (fun w S h1 h2=>⟨bX,rfl,dp w S h1 h2⟩)) fun σ' ⟨q,hq,hσ⟩=>by subst hq hσ;simp only [hs,hr,h3];exact hK
def AK {ι:Type} (pm:List Bk) (Φ:ι->Prop) (f:ι->List Bk):Prop:=∀ (w:World) (S:Nat->Prop),(∀ x∈pm,mQ w S x)->mT pm->∃ i,Φ i∧(∀ x∈f i,mQ w S x)∧mT (f i)∧∀ g,dV (f i) g->dV pm g
theorem ne {e:Env} {ay:Nat} {Q:PX->St->Prop} {c:Code} {s s2:List (Nat × A)} {m m2:List (Nat × Bk)} {pm:List Bk} {ι:Type} {Φ:ι->Prop} {f:ι->List Bk} {m3:ι->List (Nat × Bk)} (ks du:List Nat) (dp:AK pm Φ f) (hK:∀ i,Φ i->cp e ay c ⟨s2,m3 i⟩ Q) (iO:ej m ks=some pm:=by exact nh) (hn:ks.Nodup:=by decide) (hp:pm.all pinned=true:=by exact nh)
  (hs:ph (ks++du) s=s2:=by exact cJ) (hr:nD (ks++du) m=m2:=by exact cJ) (h3:∀ i,aZ du (f i)++m2=m3 i:=by intro i;exact cJ):cp e ay c ⟨s,m⟩ Q :=
 rI (Zpr (Φ:=fun x=>∃ i,Φ i∧x=f i) ks du hn iO hp (fun w S h1 h2=>Exists.elim (dp w S h1 h2) fun i hi=>⟨f i,⟨i,hi.1,rfl⟩,hi.2⟩)) fun σ' ⟨q,⟨i,hi,hq⟩,hσ⟩=>by subst hq hσ;simp only [hs,hr,h3];exact hK i hi
theorem dK {e:Env} {f:FuncId} {fn:Func} {c:Code} {args:List D} {pm:List Bk} {m0:List (Nat × Bk)} {R:List D->List Bk->Prop} {ts:List RS} (oF:List Nat) (ay:Nat) (hf:e.P.funcs[f]?=some fn) (h:cp e ay c ⟨oR 0 args,m0⟩ (DB e.P ts R)) (hm:aZ oF pm=m0:=by exact cJ) (hb:fn.body=some c:=by exact rfl) (mv:(fn.name == "runtime.NumGoroutine")=false:=by kernel_rfl)
  (aj:nw fn.ntmps c=true:=by kernel_rfl) (ca:Nat.ble args.length fn.ntmps=true:=by exact rfl) (ep:kR fn.results.toList=ts:=by exact rfl) (he:e.Ok:=by first | exact Zn5 | exact ZrO | assumption):aR e f args pm R:=Zun he oF ay hf hb mv aj ca ep (by rw [hm];exact h)
theorem eU {X:Prop} {P:Program} {ts:List RS} {R:List D->List Bk->Prop} {σ:St} {r:List D} {pm:List Bk} (ks:List Nat) (hR:R r pm) (hx:DB P ts R .ret σ->X:=by exact fun h=>Aq h) (hr:lJ P σ ts=some r:=by exact sfy) (hg:ej σ.m ks=some pm:=by exact nh) (hn:ks.Nodup:=by decide) (hp:pm.all pinned=true:=by exact nh):X :=
 hx ⟨r,ks,pm,hg,hn,hp,hR,De hr⟩
theorem fG {p X Y:Prop} (f:p) (b:Y) (h:p->Y->X:=by intro F b;exact gG b):X:=h f b
theorem fR {p X Y:Prop} (f:p) (b:Y) (h:p->Y->X:=by intro F b;exact gR b):X:=h f b
theorem fC {p X Y Z:Prop} (f:p) (c:Z) (b:Y) (h:p->Z->Y->X:=by intro F c b;exact gC c b):X:=h f c b
theorem fN {p X Y:Prop} (n:Nat) (f:p) (b:Y) (h:CV n->p->Y->X:=by intro NN F b;exact gGn b):X:=h trivial f b
theorem fT {p X:Prop} (f:p) (h:p->X:=by intro F;refine gG ?_;exact gT):X:=h f
theorem fD {p X:Prop} (f:p) (h:p->X:=by intro F;refine gG ?_;exact gTd):X:=h f
theorem fB {p X Y:Prop} (f:p) (b:Y) (h:p->Y->X:=by intro F b;refine gG ?_;exact gB b):X:=h f b
def JAt (_:Nat):Prop:=True
theorem JAt.go {e:Env} {K:St->Prop} {ds:List (Option Nat)} {n n' j:Nat} {os gp:List Oper} {σ:St} {s1:List (Nat × A)} {m1:List (Nat × Bk)} (_:JAt j) (hK:al e ds n' gp ⟨s1,m1⟩ K) (h:ZnW (runN e.P ds j n os σ)=some (n',gp,s1,m1):=by exact lL):al e ds n os σ K:=Zze j h hK
theorem bU {p0 p1 Z1 Y X:Prop} (f0:p0) (f1:p1) (c1:Z1) (b:Y) (h:p0->p1->Z1->Y->X:=by intro f0 f1 c1 b;have F:=@f0;refine gG ?_;refine gB ?_;clear F;have F:=@f1;refine gC c1 ?_;clear F;exact b):X:=h f0 f1 c1 b
theorem bp {p0 p1 p2 Z1 Y X:Prop} (f0:p0) (f1:p1) (c1:Z1) (f2:p2) (b:Y) (h:p0->p1->Z1->p2->Y->X:=by intro f0 f1 c1 f2 b;have F:=@f0;refine gG ?_;refine gB ?_;clear F;have F:=@f1;refine gC c1 ?_;clear F;have F:=@f2;refine gR ?_;clear F;exact b):X:=h f0 f1 c1 f2 b
theorem nI {p1 Z1 Y X:Prop} (f1:p1) (c1:Z1) (b:Y) (h:p1->Z1->Y->X:=by intro f1 c1 b;refine gB ?_;have F:=@f1;refine gC c1 ?_;clear F;exact b):X:=h f1 c1 b
theorem nJ {p0 Y X:Prop} (n0:Nat) (f0:p0) (b:Y) (h:CV n0->p0->Y->X:=by intro Ae f0 b;have F:=@f0;have NN:=Ae;refine gGn ?_;clear F NN;refine gB ?_;exact b):X:=h trivial f0 b
theorem bz {p0 p2 Z2 Y X:Prop} (n0:Nat) (f0:p0) (f2:p2) (c2:Z2) (b:Y) (h:CV n0->p0->p2->Z2->Y->X:=by intro Ae f0 f2 c2 b;have F:=@f0;have NN:=Ae;refine gGn ?_;clear F NN;refine gB ?_;have F:=@f2;refine gC c2 ?_;clear F;exact b):X:=h trivial f0 f2 c2 b
theorem bw {p0 p2 p3 Z2 Y X:Prop} (n0:Nat) (f0:p0) (f2:p2) (c2:Z2) (f3:p3) (b:Y) (h:CV n0->p0->p2->Z2->p3->Y->X:=by intro Ae f0 f2 c2 f3 b;have F:=@f0;have NN:=Ae;refine gGn ?_;clear F NN;refine gB ?_;have F:=@f2;refine gC c2 ?_;clear F;have F:=@f3;refine gR ?_;clear F;exact b):X:=h trivial f0 f2 c2 f3 b
theorem il {p0 p2 Y X:Prop} (n0:Nat) (f0:p0) (n2:Nat) (f2:p2) (b:Y) (h:CV n0->p0->JAt n2->p2->Y->X:=by intro Ae f0 NN2 f2 b;have F:=@f0;have NN:=Ae;refine gGn ?_;clear F NN;refine gB ?_;have F:=@f2;refine JAt.go NN2 ?_;clear F;exact b):X:=h trivial f0 trivial f2 b
theorem iY {p0 p1 Y X:Prop} (f0:p0) (f1:p1) (b:Y) (h:p0->p1->Y->X:=by intro f0 f1 b;have F:=@f0;refine gR ?_;clear F;have F:=@f1;refine gG ?_;refine gB ?_;clear F;exact b):X:=h f0 f1 b
theorem bK {p0 p1 X:Prop} (f0:p0) (f1:p1) (h:p0->p1->X:=by intro f0 f1;have F:=@f0;refine gR ?_;clear F;have F:=@f1;refine gG ?_;exact gTd):X:=h f0 f1
theorem dT {p0 p1 Y X:Prop} (f0:p0) (f1:p1) (b:Y) (h:p0->p1->Y->X:=by intro f0 f1 b;have F:=@f0;refine gR ?_;clear F;have F:=@f1;refine gG ?_;clear F;exact b):X:=h f0 f1 b
theorem bP {p0 p1 X:Prop} (f0:p0) (f1:p1) (h:p0->p1->X:=by intro f0 f1;have F:=@f0;refine gR ?_;clear F;have F:=@f1;refine gG ?_;exact gT):X:=h f0 f1
theorem fH.cell:∀ {f:F} {c:C},fH f c->aY c=true
 | .int,.lit v,h=>by obtain ⟨n,rfl,_⟩:=h;rfl
 | .str,.lit v,h=>by obtain ⟨n,rfl,_⟩:=h;rfl
 | .bool,.lit v,h=>by obtain ⟨n,rfl⟩:=h;rfl
 | .sl t,.sl rows,h=>rfl
 | .int,.sl _,h=>False.elim h
 | .str,.sl _,h=>False.elim h
 | .bool,.sl _,h=>False.elim h
 | .sl _,.lit _,h=>False.elim h
 | f,.ptr _,h=>by cases f <;> exact False.elim h
 | f,.fn _ _,h=>by cases f <;> exact False.elim h
theorem aV.cells:∀ {fs:List F} {cs:List C},aV fs cs->cs.all aY=true
 | [],[],_=>rfl
 | f::fs,c::cs,h=>by
  simp only [aV] at h;rw [List.all_cons,h.1.cell,aV.cells h.2];rfl
 | [],_::_,h=>by simp [aV] at h
 | _::_,[],h=>by simp [aV] at h
theorem aV.take {fs:List F} {cs:List C} (h:aV fs cs) {n:Nat} (hn:fs.length=n):cs.length=n∧cs.take n=cs∧cs.drop n=[]:=by
 have:=h.len;refine ⟨om,?_,?_⟩
 ·rw [List.take_of_length_le om]
 ·rw [List.drop_eq_nil_of_le om]
theorem aC.inside' {w:World} {S:Nat->Prop}:∀ {cs:List C} {us:List Value},aC w S cs us->aC w (fun b=>b < w.heap.size) cs us
 | [],[],_=>by simp [aC]
 | c::cs,u::us,h=>by
  simp only [aC] at h ⊢;exact ⟨(aQ.inside c u h.1).mono (fun b hb=>hb.2),aC.inside' h.2⟩
 | [],_::_,h=>by simp [aC] at h
 | _::_,[],h=>by simp [aC] at h
theorem aO.rowsLen {fs:List F} {rows:List (List C)} (h:aO fs rows):rowsLen fs.length rows:=fun r hr=>by
 obtain ⟨i,hi⟩:=Tbk hr;exact ⟨(h.get hi).len,(h.get hi).cells⟩
theorem uu {α:Type} (l:List α):l.drop 0=l:=rfl
section
variable {w:World} {S:Nat->Prop} {T:Nat}
theorem ZHO {f:F} {c:C} {z:Int} (h:fH f c) (hr:aQ w S c (.int .u8 z)):False:=by
 cases c with
 | lit v =>
  simp only [aQ] at hr;subst hr
  cases f with
  | int=>obtain ⟨n,h,_⟩:=h;cases h
  | str=>obtain ⟨n,h,_⟩:=h;cases h
  | bool=>obtain ⟨n,h⟩:=h;cases h
  | sl t=>simp only [fH] at h
 | sl rows =>
  simp only [aQ] at hr;obtain ⟨A,n,cap,hv,_⟩:=hr
  cases hv
 | ptr cs=>cases f <;> simp only [fH] at h
 | fn g cs=>cases f <;> simp only [fH] at h
theorem ZBx (t:TN):∃ f fs,Zab t=f::fs:=by cases t <;> exact ⟨_,_,rfl⟩
theorem ZDv (hT:∀ o u,w.cell? ⟨T,o,none⟩=some u->∃ z,u=.int .u8 z) {t:TN} {rows:List (List C)} {b off:Nat} (h0:0 < rows.length) (aj:aO (Zab t) rows) (h:b7 w S b off rows):b≠T:=by
 rintro rfl
 cases rows with
 | nil=>simp at h0
 | cons r rs =>
  obtain ⟨f,fs,e⟩:=ZBx t;simp only [aO,b7] at aj h;rw [e] at aj
  cases r with
  | nil=>simp only [aV] at aj;exact aj.1.elim
  | cons c cs =>
   simp only [aV,bn] at aj h;obtain ⟨⟨u,hu,hr⟩,_⟩:=h.1;obtain ⟨z,rfl⟩:=hT off u hu;exact ZHO aj.1.1 hr
mutual
theorem aQ.off (hT:∀ o u,w.cell? ⟨T,o,none⟩=some u->∃ z,u=.int .u8 z):∀ (f:F) (c:C) (v:Value),fH f c->aQ w S c v->aQ w (fun b=>S b∧b≠T) c v
 | _,.lit x,v,_,h=>by simpa [aQ] using h
 | .sl t,.sl rows,v,aj,h=>by
  simp only [fH] at aj;simp only [aQ] at h ⊢;obtain ⟨A,n,cap,hv,hn,hc,hm,hr⟩:=h;refine ⟨A,n,cap,hv,hn,hc,hm,fun h0=>?_⟩;obtain ⟨b,off,hA,hs,hb,cn⟩:=hr h0;exact ⟨b,off,hA,⟨hs,ZDv hT om aj cn⟩,hb,b7.off hT (Zab t) b off rows aj cn⟩
 | .int,.sl _,_,aj,_=>by simp only [fH] at aj
 | .str,.sl _,_,aj,_=>by simp only [fH] at aj
 | .bool,.sl _,_,aj,_=>by simp only [fH] at aj
 | f,.ptr _,_,aj,_=>by cases f <;> simp only [fH] at aj
 | f,.fn _ _,_,aj,_=>by cases f <;> simp only [fH] at aj
theorem b7.off (hT:∀ o u,w.cell? ⟨T,o,none⟩=some u->∃ z,u=.int .u8 z):∀ (fs:List F) (b off:Nat) (rows:List (List C)),aO fs rows->b7 w S b off rows->b7 w (fun b=>S b∧b≠T) b off rows
 | _,_,_,[],_,_=>by simp [b7]
 | fs,b,off,r::rs,aj,h=>by
  simp only [aO] at aj;simp only [b7] at h ⊢;exact ⟨bn.off hT fs b off r aj.1 h.1,b7.off hT fs b _ rs aj.2 h.2⟩
theorem bn.off (hT:∀ o u,w.cell? ⟨T,o,none⟩=some u->∃ z,u=.int .u8 z):∀ (fs:List F) (b off:Nat) (cs:List C),aV fs cs->bn w S b off cs->bn w (fun b=>S b∧b≠T) b off cs
 | _,_,_,[],_,_=>by simp [bn]
 | f::fs,b,off,c::cs,aj,h=>by
  simp only [aV] at aj;simp only [bn] at h ⊢;obtain ⟨⟨u,hu,hr⟩,h2⟩:=h;exact ⟨⟨u,hu,aQ.off hT f c u aj.1 hr⟩,bn.off hT fs b _ cs aj.2 h2⟩
 | [],_,_,c::cs,aj,_=>by simp only [aV] at aj
end
theorem aC.off (hT:∀ o u,w.cell? ⟨T,o,none⟩=some u->∃ z,u=.int .u8 z):∀ (fs:List F) (cs:List C) (us:List Value),aV fs cs->aC w S cs us->aC w (fun b=>S b∧b≠T) cs us
 | _,[],[],_,_=>by simp [aC]
 | f::fs,c::cs,u::us,aj,h=>by
  simp only [aV] at aj;simp only [aC] at h ⊢;exact ⟨aQ.off hT f c u aj.1 h.1,aC.off hT fs cs us aj.2 h.2⟩
 | [],c::cs,_,aj,_=>by simp only [aV] at aj
 | _::_,[],_,aj,_=>by simp only [aV] at aj
 | _,[],_::_,_,h=>by simp [aC] at h
 | _,_::_,[],_,h=>by simp [aC] at h
end
theorem ZBy {w:World} (h:nC w):∀ o u,w.cell? ⟨2,o,none⟩=some u->∃ z,u=.int .u8 z:=fun o u hu=>by
 unfold nC at h;unfold World.cell? at hu;simp only [h] at hu;unfold yT at hu;rw [if_neg (by simp),List.getElem?_toArray,Tba] at hu;obtain ⟨n,_,rfl⟩:=Tav.1 hu;exact ⟨_,rfl⟩
theorem ZG9 {w:World} (h:nC w):∀ b,e0.E b->b < w.heap.size:=fun b hb=>by
 have hb:b=2:=hb;subst hb;unfold nC at h;exact (Tbl.1 h).1
theorem Kept.belowT {w w':World} (h:Kept e0.D e0.E w.heap.size w w') (h1:nC w) (h2:nC w'):Below w.heap.size w w':=⟨h.os,h.tape,h.output,h.size,fun k hk=>by
 by_cases e:k=2
 ·subst e;exact h2.trans h1.symm
 ·exact h.block k hk e⟩
end Go.Proofs.YtbecmfjokofihaaGreatDoor
namespace Go.Proofs.YtbecmfjokofihaaGreatDoor
open Go.ChangeShapes Go.WideShapes Go.ChangeAt Go.RowKit
abbrev Zh4:List (String × DataW Unit):=[("math/bits.deBruijn32tab",Rows.laid_math_bits_deBruijn32tab),("math/bits.deBruijn64tab",Rows.laid_math_bits_deBruijn64tab),("internal/strconv.uint64pow10",Rows.laid_internal_strconv_uint64pow10)]
theorem ZDw (os:Os) (args:Array Value):laidMetH Tryz.prog Zh4 ((World.doorLaid Tryz.prog 24 os).forCall (fun _ _=>0) ⟨#[],args,[]⟩).memory :=
 laidMetH_of_parts3 (fuel:=8) (laidMet_of_run' 8 (by kernel_rfl) (by kernel_rfl)) (by kernel_rfl) (by kernel_rfl)
theorem gTab:Tryz.prog.globalNamed "math/bits.deBruijn64tab" = some 2:=by kernel_rfl
theorem tTab:(Tryz.prog.globals[(2:Nat)]?).map (·.type)=some 381:=by kernel_rfl
theorem ZGc:∃ zero,((begin Tryz.prog (fun _ _=>0) default).world.heap[(2:Nat)]?).bind Obj.row?=some (zero,381):=⟨(List.replicate 64 (Value.int .u8 0)).toArray,by kernel_rfl⟩
theorem ZDx {W:World} (h:laidMetH Tryz.prog Zh4 W) (hs:W.ShapedOpen Tryz.prog):nC W:=by
 rw [MakeChecks.laidMetH_plain _ _ _ (by kernel_rfl)] at h;have h2:=laidMet.tail h;have h3:laidMet Tryz.prog [("math/bits.deBruijn64tab",Lib.tabData .u8 (ZrN.map fun (n:Nat)=>(n:Int))),("internal/strconv.uint64pow10",Rows.laid_internal_strconv_uint64pow10)] W:=h2;have h4:=Lib.tabIs_of_head gTab tTab (e:=5) (n:=64) (by kernel_rfl) (by kernel_rfl) (by kernel_rfl) (by kernel_rfl) h3;obtain ⟨zero,hz⟩:=ZGc
 obtain ⟨cs,hh,_⟩:=hs.1 _ zero _ (by decide +kernel) hz;unfold Lib.TabIs World.var? at h4;rw [gTab] at h4;simp only [Option.bind_some,hh,Taq] at h4;unfold nC;rw [hh,h4];unfold yT;rw [List.map_map];rfl
section
variable {H:Type} {enc:TypeId × Value->H}
theorem ZsC {a:Assume} {C:Checked} {os:Os} {f:FuncId} {fn:Func} {s:ChangeSpec} {conds:List PathCond} {apart zA rX zx:Bool} {X:World->Array Value->Prop}
  (hX:∀ (w w':World) (args:Array Value),w.heap=w'.heap->X w args->X w' args)
  (own:ownKnob C.prog.godebug=none) (j6:os.Started) (CN:C.prog.inits.idxOf? f=none) (yl:C.prog.funcs[f]?=some fn)
  (yU:∃ (w:World) (tape:Tape) (i:Input),w.os=os∧(w.forCall tape i).Shaped C.prog∧i.vars=[]∧Input.okWide C.prog (w.forCall tape i) .any w.heap.size f i ∧
   ((s.pre enc C.prog fn conds apart (w.forCall tape i).memory i.args∧X (w.forCall tape i).memory i.args)∧sizedMet enc C.prog fn (OpenSpec.ofChange s) apart (w.forCall tape i).memory i.args)∧a.holds C.prog (lone (Frame.enter C.prog f i.args .normal) [] (w.forCall tape i)))
  (uR:∀ (W:World) (base:Nat) (args:Array Value) (ds gs:List (DataW H)) (jm:List MemPlace),
   (∀ (j:Nat) t v,fn.params[j]?=some t->args[j]?=some v->Value.okWide C.prog W .any base t v) ->
   DataW.Whole enc C.prog fn.params.toList s.vars apart W args.toList ds gs jm ->
   conds.all (PathCond.test C.prog ⟨fn.params.toList,ds,s.plain.varTypes C.prog,gs⟩)=true ->
   (DataW.weightsEach C.prog (fn.params.toList++s.plain.varTypes C.prog) (ds++gs)).all (·<=reachBytes)=true->X W args->W.ShapedOpen C.prog ->
   a.holds C.prog (lone (Frame.enter C.prog f args .normal) [] W) ->
   Calls C.prog f args W fun e W'=>∃ v,e=.returned v∧s.post enc C.prog fn apart zA rX zx W args v W') :
  ReturnsInHanded a C os f .any (fun w args=>(s.pre enc C.prog fn conds apart w args∧X w args)∧sizedMet enc C.prog fn (OpenSpec.ofChange s) apart w args) (s.post enc C.prog fn apart zA rX zx):=by
 refine returnsInHanded_of_calls own j6 CN yU ?_;intro w tape i _ rq _ aj BP BA;obtain ⟨_,_,_,fn',hfn',_,_,_,_,mA⟩:=aj;obtain rfl:fn'=fn:=Option.some.inj (hfn'.symm.trans yl);obtain ⟨⟨⟨ds,gs,jm,hw,hc⟩,hx⟩,hz⟩:=BP;refine (uR (w.forCall tape i) w.heap.size i.args ds gs jm mA (DataW.Whole.of_heap (w':=w.forCall tape i) (by rfl) hw) hc (hz.weights hw) (hX _ _ _ (by rfl) hx) rq BA).mono fun e W' ⟨v,he,hp⟩=>?_
 subst he;exact ChangeSpec.post_blind hp
end
end Go.Proofs.YtbecmfjokofihaaGreatDoor
namespace Go.Proofs.YtbecmfjokofihaaGreatDoor
open Go.RowKit
theorem xv {r:List C} (h:aV (Zab .term) r):∃ (i0:Int) (t1:ByteArray) (i2:Int) (r3:List (List C)),r=[.lit (.int .i64 i0),.lit (.string t1),.lit (.int .i64 i2),.sl r3]∧eP i0∧t1.size<=maxLen∧eP i2∧aO (Zab .term) r3:=by
 obtain ⟨c0,c1,c2,c3,rfl⟩:=len4 h.len;refine vN fun h=>?_;obtain ⟨h0,h1,h2,h3⟩:=h;obtain ⟨i0,rfl,g0⟩:=pe h0;obtain ⟨t1,rfl,g1⟩:=Ah h1;obtain ⟨i2,rfl,g2⟩:=pe h2;obtain ⟨r3,rfl,g3⟩:=kl h3;exact ⟨i0,t1,i2,r3,rfl,g0,g1,g2,g3⟩
theorem uq {i0:Int} {t1:ByteArray} {i2:Int} {r3:List (List C)} (g0:eP i0) (g1:t1.size<=maxLen) (g2:eP i2) (g3:aO (Zab .term) r3):aV (Zab .term) [.lit (.int .i64 i0),.lit (.string t1),.lit (.int .i64 i2),.sl r3]:=by
 refine m91 ?_;exact ⟨ZrZ g0,ZyT g1,ZrZ g2,tL g3⟩
theorem Cr {p:Prop} (h:p:=by
 rw [<- hx];exact List.drop_eq_getElem_cons hl):p:=h
inductive Tm where
 | mk (op:Int) (name:ByteArray) (sort:Int) (args:List Tm)
def Tm.args:Tm->List Tm | .mk _ _ _ a=>a
def Tm.op:Tm->Int | .mk a _ _ _=>a
def Tm.name:Tm->ByteArray | .mk _ a _ _=>a
def Tm.sort:Tm->Int | .mk _ _ a _=>a
mutual
def an:Tm->List C
 | .mk op nm so args=>[.lit (.int .i64 op),.lit (.string nm),.lit (.int .i64 so),.sl (aq args)]
def aq:List Tm->List (List C)
 | []=>[]
 | t::ts=>an t::aq ts
end
mutual
def aK:Tm->Prop
 | .mk op nm so args=>eP op∧nm.size<=maxLen∧eP so∧b9 args
def b9:List Tm->Prop
 | []=>True
 | t::ts=>aK t∧b9 ts
end
theorem mI (ts:List Tm):aq ts=ts.map an:=by
 induction ts with
 | nil=>simp [aq]
 | cons t ts ih=>simp [aq,ih]
theorem bf (ts:List Tm):(aq ts).length=ts.length:=by simp [mI]
theorem sA (ts:List Tm) (i:Nat):(aq ts)[i]?=ts[i]?.map an:=by simp [mI]
mutual
theorem ZBz:∀ (t:Tm),aK t->aV (Zab .term) (an t)
 | .mk op nm so args,h=>by
  simp only [aK] at h;simp only [an];exact uq h.1 h.2.1 h.2.2.1 (ZjR args h.2.2.2)
theorem ZjR:∀ (ts:List Tm),b9 ts->aO (Zab .term) (aq ts)
 | [],_=>by simp [aq,aO]
 | t::ts,h=>by
  simp only [b9] at h;simp only [aq,aO];exact ⟨ZBz t h.1,ZjR ts h.2⟩
end
theorem ZDy (n:Nat):(∀ row,d6 row < n->aV (Zab .term) row->∃ t,row=an t∧aK t)∧(∀ rows,fY rows < n->aO (Zab .term) rows->∃ ts,rows=aq ts∧b9 ts):=by
 induction n with
 | zero=>exact ⟨fun _ h=>om,fun _ h=>om⟩
 | succ n ih =>
  have h1:∀ row,d6 row < n+1->aV (Zab .term) row->∃ t,row=an t∧aK t:=by
   intro row hn aj;obtain ⟨i0,t1,i2,r3,rfl,g0,g1,g2,g3⟩:=xv aj;obtain ⟨ts,rfl,ub⟩:=ih.2 r3 (by simp only [d6,mo] at hn;omega) g3;exact ⟨.mk i0 t1 i2 ts,by simp [an],by simp only [aK];exact ⟨g0,g1,g2,ub⟩⟩
  refine ⟨h1,fun rows=>?_⟩
  induction rows with
  | nil=>exact fun _ _=>⟨[],by simp [aq],by simp [b9]⟩
  | cons r rs ihr =>
   intro hn aj;simp only [fY] at hn;simp only [aO] at aj;obtain ⟨t,rfl,ht⟩:=h1 r om aj.1;obtain ⟨ts,rfl,ub⟩:=ihr om aj.2;exact ⟨t::ts,by simp [aq],by simp only [b9];exact ⟨ht,ub⟩⟩
theorem wG {rows:List (List C)} (h:aO (Zab .term) rows):∃ ts,rows=aq ts∧b9 ts:=(ZDy _).2 rows (Tan _) h
theorem b9.mem:∀ {ts:List Tm} {t:Tm},b9 ts->t∈ts->aK t
 | [],_,_,h=>by simp at h
 | x::xs,t,h,ht=>by
  simp only [b9] at h;rcases Tbg.1 ht with rfl | ht
  ·exact h.1
  ·exact b9.mem h.2 ht
def fb (a b:Int):Int:=if a < b then -1 else if b < a then 1 else 0
def mR (a b:ByteArray):Int:=Lib.compareBytes a.data.toList b.data.toList
def fK:List Int->Int
 | []=>0
 | x::xs=>if x=0 then fK xs else x
mutual
def aH:Tm->Tm->Int
 | .mk o n s a,.mk o' n' s' a'=>fK [fb o o',mR n n',fb s s',eK a a']
def eK:List Tm->List Tm->Int
 | [],[]=>0
 | [],_::_=>-1
 | _::_,[]=>1
 | x::xs,y::ys=>fK [aH x y,eK xs ys]
end
theorem Zhw:∀ (l:List UInt8),Lib.compareBytes l l=0
 | []=>rfl
 | x::xs=>by simp [Lib.compareBytes,Zhw xs]
theorem Zhx:∀ {l m:List UInt8},Lib.compareBytes l m=0->l=m
 | [],[],_=>rfl
 | [],_::_,h=>by simp [Lib.compareBytes] at h
 | _::_,[],h=>by simp [Lib.compareBytes] at h
 | x::xs,y::ys,h=>by
  simp only [Lib.compareBytes] at h;split at h
  ·simp at h
  ·split at h
   ·simp at h
   ·rename_i h1 h2;have e:x=y:=UInt8.le_antisymm (UInt8.not_lt.1 h2) (UInt8.not_lt.1 h1);rw [e,Zhx h]
theorem Zhy:∀ (l m:List UInt8),Op.bytesLess l m=decide (Lib.compareBytes l m=-1)
 | [],[]=>by simp [Op.bytesLess,Lib.compareBytes]
 | [],_::_=>by simp [Op.bytesLess,Lib.compareBytes]
 | _::_,[]=>by simp [Op.bytesLess,Lib.compareBytes]
 | x::xs,y::ys=>by
  simp only [Op.bytesLess,Lib.compareBytes,(Zhy xs ys)];by_cases h1:x < y
  ·simp [h1]
  ·by_cases h2:y < x
   ·have:¬ x=y:=fun e=>by subst e;exact h1 h2
    simp [h1,h2,this]
   ·have e:x=y:=UInt8.le_antisymm (UInt8.not_lt.1 h2) (UInt8.not_lt.1 h1);subst e;simp [h1]
theorem Zhi:∀ (l m:List UInt8),Lib.compareBytes l m=-1∨Lib.compareBytes l m=0∨Lib.compareBytes l m=1
 | [],[]=>by simp [Lib.compareBytes]
 | [],_::_=>by simp [Lib.compareBytes]
 | _::_,[]=>by simp [Lib.compareBytes]
 | x::xs,y::ys=>by
  have ih:=Zhi xs ys;simp only [Lib.compareBytes];split
  ·simp
  ·split
   ·simp
   ·exact ih
theorem yY {a b:Int}:fb a b=0 ↔ a=b:=by unfold fb;split <;> (try split) <;> simp <;> omega
theorem ZgU {a b:ByteArray}:mR a b=0 ↔ a=b:=by
 constructor
 ·intro h;have:=Zhx h;obtain ⟨⟨la⟩⟩:=a;obtain ⟨⟨lb⟩⟩:=b;simp at this;rw [this]
 ·rintro rfl;exact Zhw _
theorem ZsD (a b:ByteArray):mR a b=-1∨mR a b=0∨mR a b=1:=Zhi _ _
theorem Zuq:∀ {ps qs:List Tm} {k:Nat} {x y:Tm},ps[k]?=some x->qs[k]?=some y->eK (ps.drop k) (qs.drop k)=fK [aH x y,eK (ps.drop (k+1)) (qs.drop (k+1))]:=by
 intro ps qs k x y h1 h2;have e1:ps.drop k=x::ps.drop (k+1):=by
  obtain ⟨hl,hx⟩:=Tad.1 h1;exact Cr
 have e2:qs.drop k=y::qs.drop (k+1):=by
  obtain ⟨hl,hx⟩:=Tad.1 h2;exact Cr
 rw [e1,e2,eK]
theorem m297 {p:Prop} (h:p:=by
 obtain ⟨c0,c1,c2,c3,c4,c5,c6,c7,rfl⟩:=len8 h.len;refine vN fun h=>?_;exact m61):p:=h
theorem m61 {p:Prop} (h:p:=by
 obtain ⟨h0,h1,h2,h3,h4,h5,h6,h7⟩:=h;obtain ⟨i0,rfl,g0⟩:=pe h0;obtain ⟨t1,rfl,g1⟩:=Ah h1;obtain ⟨i2,rfl,g2⟩:=pe h2;obtain ⟨r3,rfl,g3⟩:=kl h3;obtain ⟨i4,rfl,g4⟩:=pe h4;obtain ⟨t5,rfl,g5⟩:=Ah h5;obtain ⟨i6,rfl,g6⟩:=pe h6;obtain ⟨r7,rfl,g7⟩:=kl h7;exact ⟨i0,t1,i2,r3,i4,t5,i6,r7,rfl,g0,g1,g2,g3,g4,g5,g6,g7⟩):p:=h
theorem Ze1 {r:List C} (h:aV (Zab .binding) r):∃ (i0:Int) (t1:ByteArray) (i2:Int) (r3:List (List C)) (i4:Int) (t5:ByteArray) (i6:Int) (r7:List (List C)),r=[.lit (.int .i64 i0),.lit (.string t1),.lit (.int .i64 i2),.sl r3,.lit (.int .i64 i4),.lit (.string t5),.lit (.int .i64 i6),.sl r7]∧eP i0∧t1.size<=maxLen∧eP i2∧aO (Zab .term) r3∧eP i4∧t5.size<=maxLen∧eP i6∧aO (Zab .term) r7:=by
 exact m297
theorem ZeR {r:List C} (h:aV (Zab .occ) r):∃ (r0:List (List C)) (r1:List (List C)) (r2:List (List C)) (r3:List (List C)),r=[.sl r0,.sl r1,.sl r2,.sl r3]∧aO (Zab .int) r0∧aO (Zab .term) r1∧aO (Zab .term) r2∧aO (Zab .binding) r3:=by
 obtain ⟨c0,c1,c2,c3,rfl⟩:=len4 h.len;refine vN fun h=>?_;obtain ⟨h0,h1,h2,h3⟩:=h;obtain ⟨r0,rfl,g0⟩:=kl h0;obtain ⟨r1,rfl,g1⟩:=kl h1;obtain ⟨r2,rfl,g2⟩:=kl h2;obtain ⟨r3,rfl,g3⟩:=kl h3;exact ⟨r0,r1,r2,r3,rfl,g0,g1,g2,g3⟩
theorem ZeS {r0:List (List C)} {r1:List (List C)} {r2:List (List C)} {r3:List (List C)} (g0:aO (Zab .int) r0) (g1:aO (Zab .term) r1) (g2:aO (Zab .term) r2) (g3:aO (Zab .binding) r3):aV (Zab .occ) [.sl r0,.sl r1,.sl r2,.sl r3]:=by
 refine m91 ?_;exact ⟨tL g0,tL g1,tL g2,tL g3⟩
structure Bd where
 var:Tm
 to:Tm
def fS (b:Bd):List C:=an b.var++an b.to
def CO (b:Bd):Prop:=aK b.var∧aK b.to
theorem ZHP:∀ row,aV (Zab .binding) row->∃ b,row=fS b∧CO b:=fun row h=>by
 obtain ⟨i0,t1,i2,r3,i4,t5,i6,r7,rfl,g0,g1,g2,g3,g4,g5,g6,g7⟩:=Ze1 h;obtain ⟨a,rfl,ha⟩:=wG g3;obtain ⟨a',rfl,de⟩:=wG g7;exact ⟨⟨.mk i0 t1 i2 a,.mk i4 t5 i6 a'⟩,by simp [fS,an],by simp only [aK];exact ⟨g0,g1,g2,ha⟩,by simp only [aK];exact ⟨g4,g5,g6,de⟩⟩
structure Occ where
 path:List Int
 left:List Tm
 right:List Tm
 mat:List Bd
def f8 (o:Occ):List C:=[.sl (o.path.map d7),.sl (aq o.left),.sl (aq o.right),.sl (o.mat.map fS)]
def Zn6 (o:Occ):Prop:=(∀ n∈o.path,eP n)∧b9 o.left∧b9 o.right∧∀ b∈o.mat,CO b
theorem ZHa {row:List C} (h:aV pZ row):∃ o,row=f8 o∧Zn6 o:=by
 obtain ⟨r0,r1,r2,r3,rfl,g0,g1,g2,g3⟩:=ZeR h;obtain ⟨p,rfl,hp⟩:=pv ZBt g0;obtain ⟨l,rfl,hl⟩:=wG g1;obtain ⟨r,rfl,hr⟩:=wG g2;obtain ⟨m,rfl,hm⟩:=pv ZHP g3;exact ⟨⟨p,l,r,m⟩,rfl,hp,hl,hr,hm⟩
theorem Zgq {r:List C} (h:aV (Zab .link) r):∃ (i0:Int) (r1:List (List C)) (r2:List (List C)) (r3:List (List C)) (r4:List (List C)) (r5:List (List C)),r=[.lit (.int .i64 i0),.sl r1,.sl r2,.sl r3,.sl r4,.sl r5]∧eP i0∧aO (Zab .int) r1∧aO (Zab .term) r2∧aO (Zab .term) r3∧aO (Zab .binding) r4∧aO (Zab .chain) r5:=by
 obtain ⟨c0,c1,c2,c3,c4,c5,rfl⟩:=len6 h.len;refine vN fun h=>?_;obtain ⟨h0,h1,h2,h3,h4,h5⟩:=h;obtain ⟨i0,rfl,g0⟩:=pe h0;obtain ⟨r1,rfl,g1⟩:=kl h1;obtain ⟨r2,rfl,g2⟩:=kl h2;obtain ⟨r3,rfl,g3⟩:=kl h3;obtain ⟨r4,rfl,g4⟩:=kl h4;obtain ⟨r5,rfl,g5⟩:=kl h5;exact ⟨i0,r1,r2,r3,r4,r5,rfl,g0,g1,g2,g3,g4,g5⟩
theorem m296 {p:Prop} (h:p:=by
 obtain ⟨c0,c1,c2,c3,c4,c5,c6,c7,c8,rfl⟩:=Cb h.len;refine vN fun h=>?_;exact m57):p:=h
theorem m57 {p:Prop} (h:p:=by
 obtain ⟨h0,h1,h2,h3,h4,h5,h6,h7,h8⟩:=h;obtain ⟨i0,rfl,g0⟩:=pe h0;obtain ⟨t1,rfl,g1⟩:=Ah h1;obtain ⟨i2,rfl,g2⟩:=pe h2;obtain ⟨r3,rfl,g3⟩:=kl h3;obtain ⟨i4,rfl,g4⟩:=pe h4;obtain ⟨t5,rfl,g5⟩:=Ah h5;obtain ⟨i6,rfl,g6⟩:=pe h6;obtain ⟨r7,rfl,g7⟩:=kl h7;obtain ⟨r8,rfl,g8⟩:=kl h8;exact ⟨i0,t1,i2,r3,i4,t5,i6,r7,r8,rfl,g0,g1,g2,g3,g4,g5,g6,g7,g8⟩):p:=h
theorem CX {r:List C} (h:aV (Zab .chain) r):∃ (i0:Int) (t1:ByteArray) (i2:Int) (r3:List (List C)) (i4:Int) (t5:ByteArray) (i6:Int) (r7:List (List C)) (r8:List (List C)),r=[.lit (.int .i64 i0),.lit (.string t1),.lit (.int .i64 i2),.sl r3,.lit (.int .i64 i4),.lit (.string t5),.lit (.int .i64 i6),.sl r7,.sl r8]∧eP i0∧t1.size<=maxLen∧eP i2∧aO (Zab .term) r3∧eP i4∧t5.size<=maxLen∧eP i6∧aO (Zab .term) r7∧aO (Zab .link) r8:=by
 exact m296
mutual
inductive Chn
 | mk (frm to:Tm) (links:List Lnk)
inductive Lnk
 | mk (idx:Int) (occ:Occ) (conds:List Chn)
end
mutual
def dx:Chn->List C
 | .mk a b ls=>an a++(an b++[.sl (mS ls)])
def mh:Lnk->List C
 | .mk i o cs=>.lit (.int .i64 i)::(f8 o++[.sl (jL cs)])
def jL:List Chn->List (List C)
 | []=>[]
 | c::cs=>dx c::jL cs
def mS:List Lnk->List (List C)
 | []=>[]
 | l::ls=>mh l::mS ls
end
mutual
def pk:Chn->Prop
 | .mk a b ls=>aK a∧aK b∧zo ls
def wN:Lnk->Prop
 | .mk i o cs=>eP i∧Zn6 o∧zn cs
def zn:List Chn->Prop
 | []=>True
 | c::cs=>pk c∧zn cs
def zo:List Lnk->Prop
 | []=>True
 | l::ls=>wN l∧zo ls
end
def Chn.frm:Chn->Tm | .mk a _ _=>a
def Chn.to:Chn->Tm | .mk _ b _=>b
def Chn.links:Chn->List Lnk | .mk _ _ l=>l
def Lnk.idx:Lnk->Int | .mk i _ _=>i
def Lnk.occ:Lnk->Occ | .mk _ o _=>o
def Lnk.conds:Lnk->List Chn | .mk _ _ c=>c
theorem ZhF:∀ l,jL l=l.map dx
 | []=>by simp only [jL,List.map_nil]
 | c::cs=>by simp only [jL,Tbu,ZhF cs]
theorem ZhG:∀ l,mS l=l.map mh
 | []=>by simp only [mS,List.map_nil]
 | c::cs=>by simp only [mS,Tbu,ZhG cs]
theorem ZfU (l:List Chn):(jL l).length=l.length:=by rw [ZhF,Tay]
theorem Zi3 (l:List Lnk):(mS l).length=l.length:=by rw [ZhG,Tay]
theorem Zi4 (l:List Chn) (i:Nat):(jL l)[i]?=l[i]?.map dx:=by rw [ZhF,Tba]
theorem Zi5 (l:List Lnk) (i:Nat):(mS l)[i]?=l[i]?.map mh:=by rw [ZhG,Tba]
theorem Zn7:∀ {l},zn l ↔ ∀ c∈l,pk c
 | []=>by simp [zn]
 | c::cs=>by simp [zn,Zn7 (l:=cs)]
theorem Zn8:∀ {l},zo l ↔ ∀ c∈l,wN c
 | []=>by simp [zo]
 | c::cs=>by simp [zo,Zn8 (l:=cs)]
theorem ZGd (n:Nat):(∀ row,d6 row < n->aV (Zab .chain) row->∃ c,row=dx c∧pk c)∧(∀ rows,fY rows < n->aO (Zab .chain) rows->∃ cs,rows=jL cs∧zn cs)∧(∀ row,d6 row < n->aV (Zab .link) row->∃ c,row=mh c∧wN c)∧(∀ rows,fY rows < n->aO (Zab .link) rows->∃ cs,rows=mS cs∧zo cs):=by
 induction n with
 | zero=>exact ⟨fun _ h=>absurd h om,fun _ h=>absurd h om,fun _ h=>absurd h om,fun _ h=>absurd h om⟩
 | succ n ih =>
  obtain ⟨ih1,ih2,ih3,ih4⟩:=ih;have h1:∀ row,d6 row < n+1->aV (Zab .chain) row->∃ c,row=dx c∧pk c:=fun row hn aj=>by
   obtain ⟨i0,t1,i2,r3,i4,t5,i6,r7,r8,rfl,g0,g1,g2,g3,g4,g5,g6,g7,g8⟩:=CX aj;simp only [d6,mo] at hn;obtain ⟨a,rfl,ha⟩:=wG g3;obtain ⟨b,rfl,hb⟩:=wG g7;obtain ⟨ls,rfl,hl⟩:=ih4 _ om g8;exact ⟨.mk (.mk i0 t1 i2 a) (.mk i4 t5 i6 b) ls,by simp [dx,an],by simp only [pk,aK];exact ⟨⟨g0,g1,g2,ha⟩,⟨g4,g5,g6,hb⟩,hl⟩⟩
  have h3:∀ row,d6 row < n+1->aV (Zab .link) row->∃ c,row=mh c∧wN c:=fun row hn aj=>by
   obtain ⟨i0,r1,r2,r3,r4,r5,rfl,g0,g1,g2,g3,g4,g5⟩:=Zgq aj;simp only [d6,mo] at hn;obtain ⟨o,ho,vp⟩:=ZHa (ZeS g1 g2 g3 g4);obtain ⟨cs,rfl,hc⟩:=ih2 _ om g5;refine ⟨.mk i0 o cs,?_,by simp only [wN];exact ⟨g0,vp,hc⟩⟩;simp only [mh,<- ho,Taf,Tah]
  refine ⟨h1,?_,h3,?_⟩
  ·intro rows
   induction rows with
   | nil=>exact fun _ _=>⟨[],by simp only [jL],by simp only [zn]⟩
   | cons r rs ihr =>
    intro hn aj;simp only [aO] at aj;simp only [fY] at hn;obtain ⟨c,rfl,hc⟩:=h1 r om aj.1;obtain ⟨cs,rfl,ez⟩:=ihr om aj.2;exact ⟨c::cs,by simp only [jL],by simp only [zn];exact ⟨hc,ez⟩⟩
  ·intro rows
   induction rows with
   | nil=>exact fun _ _=>⟨[],by simp only [mS],by simp only [zo]⟩
   | cons r rs ihr =>
    intro hn aj;simp only [aO] at aj;simp only [fY] at hn;obtain ⟨c,rfl,hc⟩:=h3 r om aj.1;obtain ⟨cs,rfl,ez⟩:=ihr om aj.2;exact ⟨c::cs,by simp only [mS],by simp only [zo];exact ⟨hc,ez⟩⟩
theorem ZHb {row:List C} (h:aV (Zab .chain) row):∃ c,row=dx c∧pk c:=(ZGd _).1 row (Tan _) h
theorem zp (t:Tm):(an t).length=4:=by cases t;rfl
theorem ZwO (t:Tm):(an t).take 4=an t:=by cases t;rfl
theorem ZwP (t:Tm):(an t).drop 4=[]:=by cases t;rfl
theorem ZrP (t:Tm):(an t).all aY=true:=by cases t;rfl
theorem oP (ts:List Tm):ZaB 4 (aq ts)=true:=by
 rw [mI];exact xG (e:=an) (n:=4) (fun t=>by rw [zp,ZrP];rfl) ts
theorem ZFF (t:Tm):fQ .one (an t)=some (.d (.one (.lit (.int .i64 t.op)))):=by cases t;rfl
theorem ZFG (t:Tm):(an t).drop 1=[.lit (.string t.name),.lit (.int .i64 t.sort),.sl (aq t.args)]:=by cases t;rfl
theorem ZFH (t:Tm):(an t).drop 2=[.lit (.int .i64 t.sort),.sl (aq t.args)]:=by cases t;rfl
theorem ZFI (t:Tm):(an t).drop 3=[.sl (aq t.args)]:=by cases t;rfl
theorem ae:type_of% (aj12 ZFF ZFG ZFH ZFI zp ZwO ZwP ZrP oP sA bf @uu):=(aj12 ZFF ZFG ZFH ZFI zp ZwO ZwP ZrP oP sA bf @uu)
theorem Cj {p:Prop} (h:p:=by
 go_enter Tryz.func212,Tryz.ntmps212;go_wp2;go_ret;exact ⟨rfl,rfl⟩):p:=h
theorem ZxM (a b:Int) (w:World):Calls Tryz.prog 212 #[.int .i64 a,.int .i64 b] w fun e w'=>e=.returned (.int .i64 (fb a b))∧w=w':=by
 unfold fb;by_cases h1:a < b
 ·rw [if_pos h1]
  exact Cj
 ·by_cases h2:b < a
  ·rw [if_neg h1,if_pos h2]
   exact Cj
  ·rw [if_neg h1,if_neg h2]
   exact Cj
theorem Zpu (a b:ByteArray) (w:World):Calls Tryz.prog 288 #[.string a,.string b] w fun e w'=>e=.returned (.int .i64 (mR a b))∧w=w':=by
 go_enter Tryz.func288,Tryz.ntmps288
 go_wp2
 rw [run_callFunc_extern Tryz.func323 (by kernel_rfl) (by kernel_rfl) (by kernel_rfl) (e:=Extern.BytealgCompare.compare) (by kernel_rfl),Lib.run_compareString];simp only [Result.andThen];rw [Oper.upon_value]
 go_wp2
 go_ret
 exact ⟨rfl,rfl⟩
theorem Zpv (a b:ByteArray) (w:World):Calls Tryz.prog 213 #[.string a,.string b] w fun e w'=>e=.returned (.int .i64 (mR a b))∧w=w':=by
 go_enter Tryz.func213,Tryz.ntmps213
 go_wp2_with fail
 refine (Zpu _ _ _).mono ?_;rintro e w' ⟨rfl,rfl⟩
 go_wp2
 go_ret
 exact ⟨rfl,rfl⟩
theorem ZsE {l:List Int} {k:Nat} {x:Int} (h:l[k]?=some x):fK (l.drop k)=if x=0 then fK (l.drop (k+1)) else x:=by
 obtain ⟨hl,hx⟩:=Tad.1 h;rw [List.drop_eq_getElem_cons hl,hx,fK]
theorem m63 {p:Prop} (h:p:=by
 simp only [an,d6,mo] at hn;simp only [Tm.args] at hx;obtain ⟨i,hi⟩:=Tbk hx;have h1:=n7 (by rw [sA,hi];rfl:(aq args)[i]?=some (an x));omega):p:=h
theorem ZsF {e:Env} {f:FuncId} {args:List D} {x:Value} (hb:ny e.P f=true) (h:∀ (w:World) (S:Nat->Prop) (vs:List Value),cx w S args vs->Calls e.P f vs.toArray w fun en w'=>en=.returned x∧w=w'):az e f args [.one (.lit x)] :=
 ⟨hb,fun w S vs _ _ hG hv=>(h w S vs hv).mono fun en w' ⟨h1,h2⟩=>by subst h2;exact ⟨x,h1,Kept.refl ..,hG,by simp [bh,ax,aW,aQ]⟩⟩
theorem ZDz {e:Env} {f:FuncId} {args r:List D} {φ:Prop} (hb:ny e.P f=true) (hφ:∀ (w:World) (S:Nat->Prop) (vs:List Value),cx w S args vs->φ) (h:φ->az e f args r):az e f args r :=
 ⟨hb,fun w S vs h1 h2 h3 h4=>(h (hφ w S vs h4)).2 w S vs h1 h2 h3 h4⟩
theorem Zqe (a b:Int):az e1 212 [.one (.lit (.int .i64 a)),.one (.lit (.int .i64 b))] [.one (.lit (.int .i64 (fb a b)))]:=by
 refine ZsF (by kernel_rfl) fun w S vs h=>?_
 match vs,h with
 | [x,y],h =>
  obtain ⟨hx,hy,_⟩:=h;have hx:x=.int .i64 a:=hx;have hy:y=.int .i64 b:=hy;subst hx hy;exact ZxM a b w
theorem ZBA (a b:ByteArray):az e1 213 [.one (.lit (.string a)),.one (.lit (.string b))] [.one (.lit (.int .i64 (mR a b)))]:=by
 refine ZsF (by kernel_rfl) fun w S vs h=>?_
 match vs,h with
 | [x,y],h =>
  obtain ⟨hx,hy,_⟩:=h;have hx:x=.string a:=hx;have hy:y=.string b:=hy;subst hx hy;exact Zpv a b w
theorem ZxN (l:List Int) (hl:l.length<=1048576):az e1 144 [.clip (l.map fun n=>[.lit (.int .i64 n)])] [.one (.lit (.int .i64 (fK l)))]:=by
 have rb:ZaB 1 (l.map fun n=>[C.lit (.int .i64 n)])=true:=xG (e:=fun n=>[C.lit (.int .i64 n)]) (n:=1) (fun _=>rfl) l;refine gI (ts:=[.slot 2]) 17389 Tryz.func144 ?_;refine fG @rb ?_;have F:=@rb;refine gL (ι:=Nat) [2,5,8,9,14] [] (fun x=>[(8,.d (.one (.lit (.int .i64 (x:Int)))))]) (fun x=>[]) (fun x=>x<=l.length∧fK l=fK (l.drop x)) (fun x=>l.length - x) (0) (⟨Taj _,rfl⟩) (fun x hx=>?_);obtain ⟨hi,hf⟩:=hx
 rw [hf];clear hf;by_cases au:x < l.length
 ·obtain ⟨n,hn⟩:∃ n,l[x]?=some n:=⟨_,Taa au⟩;have q1:=lT x l.length;have q4:IntKind.i64.wrap ((x:Int)+1)=(x:Int)+1:=IntWalk.i64_in _ om;rw [ZsE hn];by_cases h0:n=0
  ·subst h0;rw [if_pos rfl];refine fG (aj3 @q1 @rb @hn) ?_;have F:=@q4;refine gG ?_;exact ⟨x+1,⟨au,rfl⟩,gw,gw,om⟩
  ·rw [if_neg h0];exact fD (aj4 @q1 @rb @hn (eq_false h0:(n=0)=False))
 ·obtain rfl:x=l.length:=by omega
  rw [List.drop_length];simp only [fK];exact fD (lF l.length l.length)
theorem Zur {b:List Tm} {k:Nat} {xs:List Tm} (h:xs.length<=k):eK (xs.drop k) b=if b=[] then 0 else -1:=by
 rw [List.drop_eq_nil_of_le h]
 cases b with
 | nil=>simp [eK]
 | cons x xs=>simp [eK]
theorem Zus {a:Tm} {k:Nat} {xs bs:List Tm} (ha:xs[k]?=some a) (h:bs.length<=k):eK (xs.drop k) (bs.drop k)=1:=by
 obtain ⟨hl,hx⟩:=Tad.1 ha;rw [List.drop_eq_nil_of_le h,List.drop_eq_getElem_cons hl];simp [eK]
theorem Zn9 (xs bs:List Tm) (hla:xs.length<=maxLen) (hlb:bs.length<=maxLen) (h:∀ a∈xs,∀ b∈bs,az e1 133 [.agg (an a),.agg (an b)] [.one (.lit (.int .i64 (aH a b)))]):az e1 214 [.one (.sl (aq xs)),.one (.sl (aq bs)),.one (.fn 133 [])] [.one (.lit (.int .i64 (eK xs bs)))]:=by
 unfold maxLen at hla hlb;refine gI (ts:=[.slot 6]) 277027520455 Tryz.func214 ?_;refine fG @ae ?_;have F:=@ae;refine gL (ι:=Nat) [6,7,8,9,10,13,14,21,31] [] (fun x=>[(13,.d (.one (.lit (.int .i64 (x:Int)))))]) (fun x=>[]) (fun x=>x<=xs.length∧x<=bs.length∧eK xs bs=eK (xs.drop x) (bs.drop x)) (fun x=>xs.length - x) (0) (⟨Taj _,Taj _,rfl⟩) (fun x hx=>?_);obtain ⟨hi,hj,hf⟩:=hx;rw [hf];clear hf
 by_cases au:x < xs.length
 ·obtain ⟨a,ha⟩:∃ n,xs[x]?=some n:=⟨_,Taa au⟩;have q1:=lT x xs.length;by_cases jT:x < bs.length
  ·obtain ⟨b,hb⟩:∃ n,bs[x]?=some n:=⟨_,Taa jT⟩;have q4:IntKind.i64.wrap ((x:Int)+1)=(x:Int)+1:=IntWalk.i64_in _ om;rw [Zuq ha hb];simp only [fK];refine bp (aj5 @q1 (eq_false om:((x:Int) ≥ (bs.length:Int))=False) @ae @ha @hb) @ae (h a (Tac ha) b (Tac hb)) @ae ?_;by_cases h0:aH a b=0
   ·rw [if_pos h0,show (if eK (xs.drop (x+1)) (bs.drop (x+1))=0 then (0:Int) else eK (xs.drop (x+1)) (bs.drop (x+1)))=eK (xs.drop (x+1)) (bs.drop (x+1)) by split <;> simp_all];refine fG (ai @ae (eq_true h0:(aH a b=0)=True)) ?_;have F:=@q4;refine gG ?_;exact ⟨x+1,⟨au,jT,rfl⟩,gw,gw,om⟩
   ·rw [if_neg h0];exact fD (ai @ae (eq_false h0:(aH a b=0)=False))
  ·rw [Zus ha om];exact fD (aj4 @q1 (eq_true om:((x:Int) ≥ (bs.length:Int))=True) @ae @ha)
 ·have q1:=lF x xs.length;rw [Zur om];by_cases h2:xs.length < bs.length
  ·have q2:=lT xs.length bs.length;rw [if_neg (by intro e;have:=congrArg List.length e;simp at this;omega)];exact fD (aj3 @q1 @q2 @ae)
  ·rw [if_pos (by apply List.drop_eq_nil_of_le;omega)];exact fD (aj3 @q1 (lF xs.length bs.length) @ae)
theorem ZwQ {w:World} {S:Nat->Prop} {rows:List (List C)} {v:Value} (h:aQ w S (.sl rows) v):rows.length<=maxLen:=by
 simp only [aQ] at h;obtain ⟨A,n,cap,_,h1,h2,h3,_⟩:=h;omega
theorem ZsG (xs bs:List Tm) (h:∀ a∈xs,∀ b∈bs,az e1 133 [.agg (an a),.agg (an b)] [.one (.lit (.int .i64 (aH a b)))]):az e1 214 [.one (.sl (aq xs)),.one (.sl (aq bs)),.one (.fn 133 [])] [.one (.lit (.int .i64 (eK xs bs)))]:=by
 refine ZDz (φ:=xs.length<=maxLen∧bs.length<=maxLen) (by kernel_rfl) (fun w S vs hv=>?_) fun hφ=>Zn9 xs bs hφ.1 hφ.2 h
 match vs,hv with
 | [x,y,z],hv =>
  have h1:=ZwQ hv.1;have h2:=ZwQ hv.2.1;rw [bf] at h1 h2;exact ⟨h1,h2⟩
theorem Zut (a b:Tm) (h:∀ x∈a.args,∀ y∈b.args,az e1 133 [.agg (an x),.agg (an y)] [.one (.lit (.int .i64 (aH x y)))]):az e1 133 [.agg (an a),.agg (an b)] [.one (.lit (.int .i64 (aH a b)))]:=by
 obtain ⟨o,n,s,xs⟩:=a;obtain ⟨o',n',s',bs⟩:=b;simp only [Tm.args] at h;have c1:an (.mk o n s xs)=[.lit (.int .i64 o),.lit (.string n),.lit (.int .i64 s),.sl (aq xs)]:=by simp only [an]
 have c2:an (.mk o' n' s' bs)=[.lit (.int .i64 o'),.lit (.string n'),.lit (.int .i64 s'),.sl (aq bs)]:=by simp only [an]
 have e3:aH (.mk o n s xs) (.mk o' n' s' bs)=if fK [fb o o',mR n n',fb s s']=0 then eK xs bs else fK [fb o o',mR n n',fb s s']:=by
  simp only [aH,fK];by_cases h1:fb o o'=0
  ·by_cases h2:mR n n'=0
   ·by_cases h3:fb s s'=0
    ·simp only [h1,h2,h3,if_true];split <;> simp_all
    ·simp only [h1,h2,h3,if_true,if_false]
   ·simp only [h1,h2,if_true,if_false]
  ·simp only [h1,if_false]
 have eO:=ZxN [fb o o',mR n n',fb s s'] (by simp);simp only [Tbu,List.map_nil] at eO;rw [e3];refine gI (ts:=[.slot 4]) 16777279 Tryz.func133 ?_;refine bU (ai @c1 @c2) (ai @c1 @c2) (Zqe o o') ?_;refine fC (ai @c1 @c2) (ZBA n n') ?_;refine fC (ai @c1 @c2) (Zqe s s') ?_;refine fC (ai @c1 @c2) (eO) ?_;refine fR (ai @c1 @c2) ?_;by_cases h0:fK [fb o o',mR n n',fb s s']=0
 ·rw [if_pos h0];refine bU (aj3 (eq_true h0:(fK [fb o o',mR n n',fb s s']=0)=True) @c1 @c2) (ai @c1 @c2) (ZsG xs bs h) ?_;exact bK (ai @c1 @c2) (ai @c1 @c2)
 ·rw [if_neg h0];exact fD (aj3 (eq_false h0:(fK [fb o o',mR n n',fb s s']=0)=False) @c1 @c2)
theorem ZxO (n:Nat):∀ a b:Tm,d6 (an a) < n->az e1 133 [.agg (an a),.agg (an b)] [.one (.lit (.int .i64 (aH a b)))]:=by
 induction n with
 | zero=>exact fun _ _ h=>om
 | succ n ih =>
  intro a b hn;refine Zut a b fun x hx y hy=>ih x y ?_;obtain ⟨op,nm,so,args⟩:=a;exact m63
theorem Ax (a b:Tm):az e1 133 [.agg (an a),.agg (an b)] [.one (.lit (.int .i64 (aH a b)))]:=ZxO _ a b (Tan _)
theorem CK {X Y:Prop} (b:Y) (h:Bx Y->X:=by
 intro B0
 refine gI (ts:=[.slot 4]) 304601861798674884003967 Tryz.func88 ?_;exact B0.o):X:=h ⟨b⟩
mutual
def am:Tm->Nat
 | .mk _ _ _ a=>1+av a
def av:List Tm->Nat
 | []=>0
 | t::ts=>am t+av ts
end
theorem aC.mem {w:World} {S:Nat->Prop}:∀ {cs:List C} {us:List Value} {c:C},aC w S cs us->c∈cs->∃ u,aQ w S c u
 | c::cs,u::us,x,h,hx=>by
  simp only [aC] at h;rcases Tbg.1 hx with rfl | hx
  ·exact ⟨u,h.1⟩
  ·exact aC.mem h.2 hx
 | [],_,_,_,hx=>by simp at hx
 | _::_,[],_,h,_=>by simp [aC] at h
theorem ZDA {e:Env} {f:FuncId} {cs:List C} {rows:List (List C)} {post r:List D} (hb:ny e.P f=true) (hc:.sl rows∈cs) (h:rows.length<=maxLen->az e f (.agg cs::post) r):az e f (.agg cs::post) r:=⟨hb,fun w S vs hS hE hG hv=>by
 match vs,hv with
 | v::vs,⟨h1,h2⟩ =>
  have d5:aW w S (.agg cs) v:=h1;obtain ⟨us,_,hu⟩:=d5;obtain ⟨u,hr⟩:=hu.mem hc;obtain ⟨A,n,cap,_,hn,hl,hm⟩:=hr.form;exact (h om).2 w S _ hS hE hG ⟨h1,h2⟩⟩
theorem ZDB {n n':ByteArray} (h:n≠n'):(n.toList==n'.toList)=false:=by
 simp only [beq_eq_false_iff_ne,ne_eq,ByteArray.toList_eq];intro e;apply h;obtain ⟨⟨la⟩⟩:=n;obtain ⟨⟨lb⟩⟩:=n';simp at e;rw [e]
theorem Zuu {x y:List Tm} {i:Nat} {a b:Tm} (ha:x[i]?=some a) (hb:y[i]?=some b):eK (x.drop i) (y.drop i)=if aH a b=0 then eK (x.drop (i+1)) (y.drop (i+1)) else aH a b:=by
 obtain ⟨h1,rfl⟩:=Tad.1 ha;obtain ⟨h2,rfl⟩:=Tad.1 hb;rw [List.drop_eq_getElem_cons h1,List.drop_eq_getElem_cons h2];simp only [eK,fK];split
 ·split <;> simp_all
 ·rfl
theorem Zpw (a b:Tm) (ha:aK a) (h:∀ x∈a.args,aK x->∀ y∈b.args,az e0 88 [.agg (an x),.agg (an y)] [.one (.lit (.int .i64 (aH x y)))]):az e0 88 [.agg (an a),.agg (an b)] [.one (.lit (.int .i64 (aH a b)))]:=by
 obtain ⟨o,n,s,xs⟩:=a;obtain ⟨o',n',s',ys⟩:=b;simp only [Tm.args] at h;simp only [aK] at ha;have c2:an (.mk o' n' s' ys)=[.lit (.int .i64 o'),.lit (.string n'),.lit (.int .i64 s'),.sl (aq ys)]:=by simp only [an]
 rw [(by simp only [an]:an (.mk o n s xs)=[.lit (.int .i64 o),.lit (.string n),.lit (.int .i64 s),.sl (aq xs)]),c2];refine ZDA (rows:=aq xs) (by kernel_rfl) (by simp) fun iy=>?_;unfold maxLen at iy;rw [bf] at iy;by_cases ho:o=o';rotate_left
 ·have q1:(o=o')=False:=eq_false ho;have hz:fb o o'≠0:=fun e=>ho (yY.1 e);rw [show aH (.mk o n s xs) (.mk o' n' s' ys)=fb o o' by simp only [aH,fK,if_neg hz]];by_cases hl:o < o'
  ·rw [show fb o o'=-1 by unfold fb;rw [if_pos hl]];refine CK ?_;exact fD (ai @q1 (eq_true hl:(o < o')=True))
  ·rw [show fb o o'=1 by unfold fb;rw [if_neg hl,if_pos om]];refine CK ?_;exact fD (ai @q1 (eq_false hl:(o < o')=False))
 subst ho;have xk:fb o o=0:=yY.2 rfl;by_cases hn:n=n';rotate_left
 ·have q1:=ZDB hn;have hz:mR n n'≠0:=fun e=>hn (ZgU.1 e);have hlq:Op.bytesLess n.toList n'.toList=decide (mR n n'=-1):=by rw [ByteArray.toList_eq,ByteArray.toList_eq];exact Zhy _ _
  rw [show aH (.mk o n s xs) (.mk o n' s' ys)=mR n n' by simp only [aH,fK,if_pos xk,if_neg hz]];rcases ZsD n n' with e | e | e
  ·rw [e];refine CK ?_;exact fD (ai @q1 (by rw [hlq,e];rfl:Op.bytesLess n.toList n'.toList=true))
  ·exact absurd e hz
  ·rw [e];refine CK ?_;exact fD (ai @q1 (by rw [hlq,e];rfl:Op.bytesLess n.toList n'.toList=false))
 subst hn;have D3:mR n n=0:=ZgU.2 rfl;by_cases hs:s=s';rotate_left
 ·have q1:(s=s')=False:=eq_false hs;have hz:fb s s'≠0:=fun e=>hs (yY.1 e);rw [show aH (.mk o n s xs) (.mk o n s' ys)=fb s s' by simp only [aH,fK,if_pos xk,if_pos D3,if_neg hz]];by_cases hl:s < s'
  ·rw [show fb s s'=-1 by unfold fb;rw [if_pos hl]];refine CK ?_;exact fD (aj3 @q1 (eq_true hl:(s < s')=True) @d8)
  ·rw [show fb s s'=1 by unfold fb;rw [if_neg hl,if_pos om]];refine CK ?_;exact fD (aj3 @q1 (eq_false hl:(s < s')=False) @d8)
 subst hs;have hz2:fb s s=0:=yY.2 rfl
 rw [show aH (.mk o n s xs) (.mk o n s ys)=eK xs ys by
  simp only [aH,fK,if_pos xk,if_pos D3,if_pos hz2];split <;> simp_all]
 refine CK ?_;refine fG @d8 ?_;have F:=@aw;refine gL (ι:=Nat) [4,5,6,48,63] [] (fun i=>[(5,A.d (.one (.lit (.int .i64 i))))]) (fun i=>[]) (fun i=>i<=xs.length∧i<=ys.length∧eK xs ys=eK (xs.drop i) (ys.drop i)) (fun i=>xs.length - i) (0) (⟨Taj _,Taj _,rfl⟩) (fun i hi=>?_);obtain ⟨hi1,hi2,he⟩:=hi;have l1:=bf xs;have l2:=bf ys
 by_cases h1:i < xs.length;rotate_left
 ·obtain rfl:i=xs.length:=by omega
  have q1:=lF xs.length xs.length;rw [List.drop_length] at he;by_cases h2:xs.length < ys.length
  ·rw [he,List.drop_eq_getElem_cons h2];simp only [eK];exact fD (aj3 @q1 (lT xs.length ys.length) @ae)
  ·rw [he,List.drop_of_length_le om];simp only [eK];exact fD (aj4 @q1 (lF xs.length ys.length) (eq_false om:((xs.length:Int) > (ys.length:Int))=False) @ae)
 have q1:=lT i xs.length;by_cases h2:i < ys.length;rotate_left
 ·obtain rfl:i=ys.length:=by omega
  rw [he,List.drop_length,List.drop_eq_getElem_cons h1];simp only [eK];exact fD (aj5 @q1 (lF ys.length ys.length) (lF xs.length ys.length) (eq_true om:((xs.length:Int) > (ys.length:Int))=True) @ae)
 have q2:=lT i ys.length;obtain ⟨x,hx⟩:∃ x,xs[i]?=some x:=⟨_,Taa h1⟩;obtain ⟨y,hy⟩:∃ y,ys[i]?=some y:=⟨_,Taa h2⟩;have cC:=h x (Tac hx) (b9.mem ha.2.2.2 (Tac hx)) y (Tac hy);rw [Zuu hx hy] at he;have dZ:=bI (k:=i) om;refine bz 16 (aj3 @q1 @q2 @ae) (aj6 @hx @hy @h1 @h2 @bD @ae) (cC) ?_;by_cases h0:aH x y=0
 ·have q5:(aH x y=0)=True:=eq_true h0;rw [if_pos h0] at he;refine fR @aw ?_;have F:=ai @q5 @dZ;refine gG ?_;exact ⟨i+1,⟨h1,h2,he⟩,gw,gw,om⟩
 ·have q5:(aH x y=0)=False:=eq_false h0;rw [if_neg h0] at he;rw [he];exact bK @aw @q5
theorem Zra (n:Nat):∀ a b:Tm,d6 (an a) < n->aK a->az e0 88 [.agg (an a),.agg (an b)] [.one (.lit (.int .i64 (aH a b)))]:=by
 induction n with
 | zero=>exact fun _ _ h=>absurd h om
 | succ n ih =>
  intro a b hn ha;refine Zpw a b ha fun x hx hox y hy=>ih x y ?_ hox;obtain ⟨op,nm,so,args⟩:=a;exact m63
theorem Zms {a b:Tm} (ha:aK a) (hk:aK b):az e0 133 [.agg (an a),.agg (an b)] [.one (.lit (.int .i64 (aH a b)))]:=DD (Ax a b)
theorem CY {a b:Tm} (ha:aK a) (hk:aK b):az e0 88 [.agg (an a),.agg (an b)] [.one (.lit (.int .i64 (aH a b)))]:=Zra _ a b (Tan _) ha
theorem Ck {p:Prop} (h:p:=by
 unfold bits;show IntKind.i64.wrap _=_;rw [e];exact Zm3 om om):p:=h
theorem m117 {p:Prop} (h:p:=by
 have hl:i < l.length:=by rw [h.1];exact hi
 have e:l[i]?=some l[i]:=Taa hl;rw [(by simp [List.getD,e]:l.getD i 0=l[i])];exact ⟨e,h.2 _ (List.getElem_mem hl)⟩):p:=h
theorem Zm3 {n:Int} (h0:0<=n) (h1:n < 9223372036854775808):IntKind.i64.wrap n=n:=by
 simp [IntKind.wrap,IntKind.bits,IntKind.signed];omega
theorem Dv {a:Nat} (h:a < 18446744073709551616):(BitVec.ofInt 64 (a:Int)).toNat=a:=by
 rw [BitVec.toNat_ofInt];omega
theorem xC {a b:Nat} (ha:a < 4611686018427387904) (hb:b < 4611686018427387904):bits .or .i64 (a:Int) (b:Int)=((a ||| b:Nat):Int):=by
 have h:a ||| b < 2 ^ 62:=Nat.or_lt_two_pow om om;have e:(BitVec.ofInt IntKind.i64.bits (a:Int) ||| BitVec.ofInt IntKind.i64.bits (b:Int)).toNat=a ||| b:=by
  rw [BitVec.toNat_or];show (BitVec.ofInt 64 (a:Int)).toNat ||| (BitVec.ofInt 64 (b:Int)).toNat=_;rw [Dv om,Dv om]
 exact Ck
theorem za {a b:Nat} (ha:a < 4611686018427387904) (hb:b < 4611686018427387904):bits .and .i64 (a:Int) (b:Int)=((a &&& b:Nat):Int):=by
 have h:a &&& b < 2 ^ 62:=Nat.and_lt_two_pow _ om;have e:(BitVec.ofInt IntKind.i64.bits (a:Int) &&& BitVec.ofInt IntKind.i64.bits (b:Int)).toNat=a &&& b:=by
  rw [BitVec.toNat_and];show (BitVec.ofInt 64 (a:Int)).toNat &&& (BitVec.ofInt 64 (b:Int)).toNat=_;rw [Dv om,Dv om]
 exact Ck
theorem Zh5 {k:Nat} (h:k < 62):2 ^ k < 4611686018427387904:=Tbd (Nat.pow_lt_pow_right om h) om
theorem testBit_and (a k:Nat):((a &&& 2 ^ k) != 0)=a.testBit k:=by
 cases h:a.testBit k
 ·have:a &&& 2 ^ k=0:=by
   apply Nat.eq_of_testBit_eq;intro j;rw [Nat.testBit_and,Nat.testBit_two_pow,Nat.zero_testBit];by_cases hj:k=j
   ·subst hj;simp [h]
   ·simp [hj]
  simp [this]
 ·have:¬ (a &&& 2 ^ k=0):=by
   intro h0;have h1:(a &&& 2 ^ k).testBit k=true:=by rw [Nat.testBit_and,Nat.testBit_two_pow];simp [h]
   rw [h0,Nat.zero_testBit] at h1;simp at h1
  simp [this]
theorem Zuv {a k:Nat} (ha:a < 4611686018427387904):(bits .and .i64 ((a:Int) / 2 ^ k) 1==1)=a.testBit k:=by
 have h1:a / 2 ^ k<=a:=Nat.div_le_self _ _;have h2:bits .and .i64 ((a / 2 ^ k:Nat):Int) ((1:Nat):Int)=_:=za om om;rw [(by simp:(a:Int) / 2 ^ k=((a / 2 ^ k:Nat):Int))];rw [show (1:Int)=((1:Nat):Int) from rfl,h2,Nat.testBit,Nat.shiftRight_eq_div_pow,Nat.and_comm];have h3:1 &&& a / 2 ^ k < 2:=by rw [Nat.one_and_eq_mod_two];omega
 generalize 1 &&& a / 2 ^ k=x at h3 ⊢;have:x=0∨x=1:=om;rcases this with rfl | rfl <;> rfl
def qO (l:List Nat) (p:Int × Int):List Nat:=l.set p.1.toNat (l.getD p.1.toNat 0 ||| l.getD p.2.toNat 0)
def ZGe (subs:List (Int × Int)) (l:List Nat):List Nat:=subs.foldl qO l
def sC (subs:List (Int × Int)):Nat->List Nat->List Nat
 | 0,l=>l
 | k+1,l=>ZGe subs (sC subs k l)
def jE (n:Nat):List Nat:=(List.range n).map (2 ^ ·)
def up (s:Srt):List Nat:=sC s.subs s.names.length (jE s.names.length)
def kT (l:List Nat):List Int:=l.map (fun (n:Nat)=>(n:Int))
def rO (n:Nat) (subs:List (Int × Int)):Prop:=∀ p∈subs,0<=p.1∧p.1 < n∧0<=p.2∧p.2 < n
def b6 (n:Nat) (l:List Nat):Prop:=l.length=n∧∀ x∈l,x < 2 ^ n
theorem b6.get {n:Nat} {l:List Nat} (h:b6 n l) {i:Nat} (hi:i < n):l[i]?=some (l.getD i 0)∧l.getD i 0 < 2 ^ n:=by
 exact m117
theorem b6.sub {n:Nat} {l:List Nat} (h:b6 n l) {p:Int × Int} (hp:0<=p.1∧p.1 < n∧0<=p.2∧p.2 < n):b6 n (qO l p):=by
 refine ⟨by unfold qO;rw [Taz];exact h.1,fun x hx=>?_⟩;unfold qO at hx;rcases List.mem_or_eq_of_mem_set hx with hx | rfl
 ·exact h.2 x hx
 ·exact Nat.or_lt_two_pow (h.get (i:=p.1.toNat) om).2 (h.get (i:=p.2.toNat) om).2
theorem b6.foldl {n:Nat}:∀ {subs:List (Int × Int)} {l:List Nat},b6 n l->rO n subs->b6 n (subs.foldl qO l)
 | [],l,h,_=>h
 | p::ps,l,h,hs=>b6.foldl (subs:=ps) (h.sub (hs p (by simp))) (fun q hq=>hs q (by simp [hq]))
theorem b6.iter {n:Nat} {subs:List (Int × Int)} (hs:rO n subs):∀ (k:Nat) {l:List Nat},b6 n l->b6 n (sC subs k l)
 | 0,l,h=>h
 | k+1,l,h=>(b6.iter hs k h).foldl hs
theorem b6.start (n:Nat):b6 n (jE n):=by
 refine ⟨by simp [jE],fun x hx=>?_⟩;simp only [jE,Tbi,List.mem_range] at hx;obtain ⟨i,hi,rfl⟩:=hx;exact Nat.pow_lt_pow_right om hi
theorem wO {s:Srt} (h:rO s.names.length s.subs):b6 s.names.length (up s):=b6.iter h _ (b6.start _)
theorem ZjS {α β:Type} {f:β->α->β} {l:List α} {k:Nat} {a:α} (h:l[k]?=some a) (b:β):(l.take (k+1)).foldl f b=f ((l.take k).foldl f b) a:=by
 rw [uz h,List.foldl_append];rfl
theorem rO.take {n:Nat} {subs:List (Int × Int)} (h:rO n subs) (k:Nat):rO n (subs.take k):=fun p hp=>h p (List.mem_of_mem_take hp)
theorem Zqf (l:List Nat):(kT l).length=l.length:=by simp [kT]
theorem Zqg {l:List Nat} {i x:Nat} (h:l[i]?=some x):(kT l)[i]?=some (x:Int):=by simp [kT,h]
theorem ZBB (l:List Nat) (i x:Nat):kT (l.set i x)=(kT l).set i (x:Int):=by simp [kT,List.map_set]
theorem ZxP (l:List Nat) (x:Nat):kT (l++[x])=kT l++[(x:Int)]:=by simp [kT]
def rR (n k:Nat):List Nat:=jE k++List.replicate (n - k) 0
theorem ZBC {n k:Nat} (h:k<=n):(rR n k).length=n:=by simp [rR,jE];omega
theorem ZBD {n k:Nat} (h:k < n):(rR n k).set k (2 ^ k)=rR n (k+1):=by
 unfold rR;have e3:(jE k).length=k:=by simp [jE]
 rw [(om:n - k=(n - (k+1))+1),List.replicate_succ,List.set_append_right _ _ om,e3,Nat.sub_self,List.set_cons_zero,(by simp [jE,List.range_succ]:jE (k+1)=jE k++[2 ^ k]),Tbf];rfl
theorem ZBE (n:Nat):rR n n=jE n:=by simp [rR]
theorem ZDC (k:Nat):jE (k+1)=jE k++[2 ^ k]:=by simp [jE,List.range_succ]
def iR (l:List ByteArray) (s:ByteArray):Bool:=l.any (fun t=>s.toList==t.toList)
def oe (n:Int):Bool:=decide (48<=n∧n<=57) || decide (65<=n∧n<=90) || decide (97<=n∧n<=122)
def Zk2 (s:ByteArray) (i:Nat):Int:=if h:i < s.size then (s[i].toNat:Int) else 0
def km (s:ByteArray) (k:Nat):Bool:=(List.range' k (s.size - k)).all (fun i=>oe (Zk2 s i) && !(i==0 && decide (Zk2 s i<=57)))
def iS (s:ByteArray):Bool:=decide (1<=s.size∧s.size<=12) && !(s.toList==[105,102]) && !(s.toList==[97,110,100]) && km s 0
theorem Zrb {s:ByteArray} {k:Nat} (h:k < s.size):km s k=((oe (s[k].toNat:Int) && !(k==0 && decide ((s[k].toNat:Int)<=57))) && km s (k+1)):=by
 rw [<- (by unfold Zk2;rw [dif_pos h]:Zk2 s k=(s[k].toNat:Int))];unfold km;rw [(om:s.size - k=(s.size - (k+1))+1),List.range'_succ,List.all_cons]
theorem Zk3 {s:ByteArray} {k:Nat} (h:s.size<=k):km s k=true:=by
 unfold km;rw [(om:s.size - k=0)];rfl
theorem wt {s:ByteArray} (h:s.size < 1∨12 < s.size∨s.toList=[105,102]∨s.toList=[97,110,100]):iS s=false:=by
 unfold iS;rcases h with h | h | h | h
 ·have:¬ (1<=s.size∧s.size<=12):=om;simp [this]
 ·have:¬ (1<=s.size∧s.size<=12):=om;simp [this]
 ·simp [h]
 ·simp [h]
def wP (n:Nat) (p:Int × Int):Prop:=0<=p.1∧p.1 < n∧0<=p.2∧p.2 < n∧p.1≠p.2
def Zk4 (names:List ByteArray) (i:Nat):Prop:=∀ x,names[i]?=some x->iS x=true∧iR (names.take i) x=false
def qG (u:List Nat) (i k:Nat):Prop:=¬ (i≠k∧(u.getD i 0).testBit k=true∧(u.getD k 0).testBit i=true)
structure SortsOk (s:Srt):Prop where
 n1:1<=s.names.length
 n8:s.names.length<=8
 m16:s.subs.length<=16
 names:∀ i,i < s.names.length->Zk4 s.names i
 subs:∀ p∈s.subs,wP s.names.length p
 pairs:∀ i k,i < s.names.length->k < s.names.length->qG (up s) i k
open Classical in
noncomputable def ob (s:Srt):Bool:=decide (SortsOk s)
theorem Zgr {s:Srt} (h:SortsOk s):ob s=true:=by unfold ob;simp [h]
theorem Zhu {s:Srt} (h:¬ SortsOk s):ob s=false:=by unfold ob;simp [h]
theorem Zuw {s:Srt}:ob s=true ↔ SortsOk s:=by unfold ob;simp
theorem SortsOk.subsIn {s:Srt} (h:∀ p∈s.subs,wP s.names.length p):rO s.names.length s.subs:=fun p hp=>⟨(h p hp).1,(h p hp).2.1,(h p hp).2.2.1,(h p hp).2.2.2.1⟩
theorem ZwR {a b:ByteArray}:(a.toList==b.toList)=(b.toList==a.toList):=by
 rw [Bool.eq_iff_iff];simp;exact ⟨fun h=>h.symm,fun h=>h.symm⟩
theorem Zux {l:List ByteArray} {s x:ByteArray} {k:Nat} (h:l[k]?=some x):iR (l.drop k) s=((x.toList==s.toList) || iR (l.drop (k+1)) s):=by
 obtain ⟨hl,hx⟩:=Tad.1 h;rw [List.drop_eq_getElem_cons hl,hx,iR,List.any_cons,ZwR];rfl
theorem Zuy (l:List ByteArray) (t s:ByteArray):iR (l++[t]) s=(iR l s || (s.toList==t.toList)):=by simp [iR,List.any_append]
def gn (l:List Nat) (p:Int × Int):List Nat:=(l.set p.1.toNat (min (l.getD p.1.toNat 0) (l.getD p.2.toNat 0))).set p.2.toNat (min (l.getD p.1.toNat 0) (l.getD p.2.toNat 0))
def qj (subs:List (Int × Int)):Nat->List Nat->List Nat
 | 0,l=>l
 | k+1,l=>subs.foldl gn (qj subs k l)
def kinds (s:Srt):List Nat:=qj s.subs s.names.length (List.range s.names.length)
def lN (n:Nat) (l:List Nat):Prop:=l.length=n∧∀ x∈l,x < n
theorem lN.get {n:Nat} {l:List Nat} (h:lN n l) {i:Nat} (hi:i < n):l[i]?=some (l.getD i 0)∧l.getD i 0 < n:=by
 exact m117
theorem lN.sub {n:Nat} {l:List Nat} (h:lN n l) {p:Int × Int} (hp:0<=p.1∧p.1 < n∧0<=p.2∧p.2 < n):lN n (gn l p):=by
 refine ⟨by unfold gn;rw [Taz,Taz];exact h.1,fun x hx=>?_⟩;have hm:min (l.getD p.1.toNat 0) (l.getD p.2.toNat 0) < n:=by
  have:=(h.get (i:=p.1.toNat) om).2;omega
 unfold gn at hx;rcases List.mem_or_eq_of_mem_set hx with hx | rfl
 ·rcases List.mem_or_eq_of_mem_set hx with hx | rfl
  ·exact h.2 x hx
  ·exact hm
 ·exact hm
theorem lN.foldl {n:Nat}:∀ {subs:List (Int × Int)} {l:List Nat},lN n l->rO n subs->lN n (subs.foldl gn l)
 | [],l,h,_=>h
 | p::ps,l,h,hs=>lN.foldl (subs:=ps) (h.sub (hs p (by simp))) (fun q hq=>hs q (by simp [hq]))
theorem lN.iter {n:Nat} {subs:List (Int × Int)} (hs:rO n subs):∀ (k:Nat) {l:List Nat},lN n l->lN n (qj subs k l)
 | 0,l,h=>h
 | k+1,l,h=>(lN.iter hs k h).foldl hs
theorem lN.start (n:Nat):lN n (List.range n):=⟨by simp,fun x hx=>by simpa using hx⟩
theorem ZjT {s:Srt} (h:rO s.names.length s.subs):lN s.names.length (kinds s):=lN.iter h _ (lN.start _)
def pj (a k:Nat):List Nat:=(List.range k).filter (fun j=>a.testBit j)
def wH (a:Nat):List Nat:=pj a 16
theorem ZxQ {a k:Nat} (h:a.testBit k=true):pj a (k+1)=pj a k++[k]:=by simp [pj,List.range_succ,List.filter_append,h]
theorem ZBF {a k:Nat} (h:a.testBit k=false):pj a (k+1)=pj a k:=by simp [pj,List.range_succ,List.filter_append,h]
theorem Zoa (a k:Nat):(pj a k).length<=k:=by
 have:=List.length_filter_le (fun j=>a.testBit j) (List.range k);simpa [pj] using this
def downIn (i:Nat) (l:List Nat) (ks:List Nat):List Nat:=ks.foldl (fun l k=>l.set k (l.getD k 0 ||| 2 ^ i)) l
def downs (u:List Nat):Nat->List Nat->List Nat
 | 0,l=>l
 | m+1,l=>downIn m (downs u m l) (wH (u.getD m 0))
def pw (s:Srt):List Nat:=downs (up s) s.names.length (List.replicate s.names.length 0)
theorem b6.or {n:Nat} {l:List Nat} (h:b6 n l) {k i:Nat} (hk:k < n) (hi:i < n):b6 n (l.set k (l.getD k 0 ||| 2 ^ i)):=by
 refine ⟨by rw [Taz];exact h.1,fun x hx=>?_⟩;rcases List.mem_or_eq_of_mem_set hx with hx | rfl
 ·exact h.2 x hx
 ·exact Nat.or_lt_two_pow (h.get hk).2 (Nat.pow_lt_pow_right om hi)
theorem b6.downIn {n i:Nat} (hi:i < n):∀ {ks l:List Nat},b6 n l->(∀ k∈ks,k < n)->b6 n (downIn i l ks)
 | [],l,h,_=>h
 | k::ks,l,h,hk=>b6.downIn (ks:=ks) hi (h.or (hk k (by simp)) hi) (fun q hq=>hk q (by simp [hq]))
theorem Zqh {a n:Nat} (h:a < 2 ^ n):∀ k∈wH a,k < n:=by
 intro k hk;simp only [wH,pj,List.mem_filter,List.mem_range] at hk;refine Decidable.byContradiction fun hn=>?_;have:=Tbt (Tbd h (Tbs om (by omega:n<=k)));rw [this] at hk;simp at hk
theorem b6.downs {n:Nat} {u:List Nat} (hu:b6 n u):∀ (m:Nat) {l:List Nat},m<=n->b6 n l->b6 n (downs u m l)
 | 0,l,_,h=>h
 | m+1,l,hm,h=>(b6.downs hu m om h).downIn om (Zqh (hu.get om).2)
theorem b6.zeros (n:Nat):b6 n (List.replicate n 0):=⟨by simp,fun x hx=>by rw [(List.mem_replicate.1 hx).2];exact Nat.two_pow_pos n⟩
theorem ZGf {s:Srt} (h:rO s.names.length s.subs):b6 s.names.length (pw s):=b6.downs (wO h) _ (Tai _) (b6.zeros _)
def rS (n k:Nat):List Nat:=List.range k++List.replicate (n - k) 0
theorem Zqi {n k:Nat} (h:k<=n):(rS n k).length=n:=by simp [rS];omega
theorem ZBG {n k:Nat} (h:k < n):(rS n k).set k k=rS n (k+1):=by
 unfold rS;rw [List.set_append_right _ _ (by simp),List.length_range,Nat.sub_self,List.range_succ];obtain ⟨m,hm⟩:∃ m,n - k=m+1:=⟨n - k - 1,om⟩;rw [hm,show n - (k+1)=m by omega];simp [List.replicate_succ]
theorem ZBH (n:Nat):rS n n=List.range n:=by simp [rS]
def kd (s:Srt) (k:Int):Nat:=(kinds s).getD k.toNat 0
structure DeclOk (s:Srt) (f d:Dcl):Prop where
 len:d.args.length=f.args.length
 res:0<=d.res∧d.res < s.names.length
 args:∀ k∈d.args,0<=k∧k < s.names.length
 kres:kd s d.res=kd s f.res
 kargs:∀ (i:Nat) (a b:Int),d.args[i]?=some a->f.args[i]?=some b->kd s a=kd s b
structure DeclsOk (s:Srt) (o:Opr):Prop where
 len1:1<=o.decls.length
 len4:o.decls.length<=4
 ar:∀ f,o.decls[0]?=some f->f.args.length<=3
 all:∀ f,o.decls[0]?=some f->∀ d∈o.decls,DeclOk s f d
open Classical in
noncomputable def qH (s:Srt) (o:Opr):Bool:=decide (DeclsOk s o)
theorem Zgs {s:Srt} {o:Opr} (h:DeclsOk s o):qH s o=true:=by simp [qH,h]
theorem Zku {s:Srt} {o:Opr} (h:¬ DeclsOk s o):qH s o=false:=by simp [qH,h]
theorem Zmt {s:Srt} {o:Opr}:qH s o=true ↔ DeclsOk s o:=by simp [qH]
structure AxOk (g:Sgn) (o:Opr):Prop where
 lo:0<=o.unit
 hi:o.unit<=g.ops.length
 two:(o.assoc=true∨o.comm=true∨o.unit≠0)->∀ d,o.decls[0]?=some d->d.args.length=2∧∀ a b,d.args[0]?=some a->d.args[1]?=some b->kd g.sorts a=kd g.sorts b∧((o.assoc=true∨o.unit≠0)->kd g.sorts a=kd g.sorts d.res) ∧
  (o.unit≠0->∀ (p:Opr) (u:Dcl),g.ops[o.unit.toNat - 1]?=some p->p.decls[0]?=some u->u.args.length=0∧kd g.sorts u.res=kd g.sorts d.res)
open Classical in
noncomputable def iX (g:Sgn) (o:Opr):Bool:=decide (AxOk g o)
theorem Ai {g:Sgn} {o:Opr} (h:AxOk g o):iX g o=true:=by simp [iX,h]
theorem Zob {g:Sgn} {o:Opr} (h:¬ AxOk g o):iX g o=false:=by simp [iX,h]
theorem ZsH {g:Sgn} {o:Opr}:iX g o=true ↔ AxOk g o:=by simp [iX]
theorem DeclsOk.first {s:Srt} {o:Opr} (h:DeclsOk s o):∃ d,o.decls[0]?=some d∧DeclOk s d d:=by
 have h1:=h.len1;exact ⟨o.decls[0],Taa om,h.all _ (Taa om) _ (List.getElem_mem _)⟩
theorem ZsI {l:List Int} (h:l.length=2):∃ a b,l=[a,b]:=ry h
def lP (l:List Opr):List ByteArray:=l.map (·.name)
structure SgnOk (g:Sgn):Prop where
 sorts:SortsOk g.sorts
 len:g.ops.length<=14
 names:∀ (i:Nat) (o:Opr),g.ops[i]?=some o->iS o.name=true∧iR (lP (g.ops.take i)) o.name=false
 decls:∀ o∈g.ops,DeclsOk g.sorts o
 axs:∀ o∈g.ops,AxOk g o
open Classical in
noncomputable def fA (g:Sgn):Bool:=decide (SgnOk g)
theorem v8 {g:Sgn} (h:SgnOk g):fA g=true:=by simp [fA,h]
theorem C6 {g:Sgn} (h:¬ SgnOk g):fA g=false:=by simp [fA,h]
theorem tE {g:Sgn}:fA g=true ↔ SgnOk g:=by simp [fA]
theorem Zk5 {l:List Opr} {k:Nat} {o:Opr} (h:l[k]?=some o):lP (l.take (k+1))=lP (l.take k)++[o.name]:=by
 rw [uz h];simp [lP]
theorem m262 {X Y:Prop} (b:Y) (h:Bx Y->X:=by
 intro B0
 have l1:(⟨#[105,102]⟩:ByteArray).toList=[105,102]:=strL [105,102];have l2:(⟨#[97,110,100]⟩:ByteArray).toList=[97,110,100]:=strL [97,110,100];exact B0.o l1 l2):X:=h ⟨b⟩
theorem Zh6 {s:ByteArray} {k:Nat} {b:UInt8} (h:s[k]?=some b):km s k=((oe (b.toNat:Int) && !(k==0 && decide ((b.toNat:Int)<=57))) && km s (k+1)):=by
 obtain ⟨hk,rfl⟩:=getElem?_eq_some_iff.1 h;exact Zrb hk
theorem ZsJ (n:Int):az e0 265 [.one (.lit (.int .u8 n))] [.one (.lit (.bool (oe n)))]:=by
 by_cases h1:48<=n <;> by_cases h2:n<=57 <;> by_cases h3:65<=n <;> by_cases h4:n<=90 <;> by_cases h5:97<=n <;> by_cases h6:n<=122 <;> first
  | (exfalso;omega)
  | (have hr : oe   n = true := by simp [oe  , h1, h2, h3, h4, h5, h6]
     refine gI 5 Tryz.func265 ?_
     (exact fT (aj7 @h1 @h2 @h3 @h4 @h5 @h6 @hr)))
  | (have hr : oe   n = false := by simp [oe  , h1, h2, h3, h4, h5, h6]
     refine gI 5 Tryz.func265 ?_
     (exact fT (aj7 @h1 @h2 @h3 @h4 @h5 @h6 @hr)))
theorem strL (l:List UInt8):(⟨l.toArray⟩:ByteArray).toList=l:=by
 rw [ByteArray.toList_eq]
section
variable {s:ByteArray}
theorem Zqj (h1:1<=s.size) (h2:s.size<=12) (h3:¬ s.toList=[105,102]) (h4:¬ s.toList=[97,110,100]):iS s=km s 0:=by
 simp [iS,h1,h2,h3,h4]
theorem Zh7 (hs:s.size<=maxLen):az e0 179 [.one (.lit (.string s))] [.one (.lit (.bool (iS s)))]:=by
 refine m262 fun l1 l2=>?_;refine gI 1099520540685 Tryz.func179 ?_;by_cases h1:1<=s.size;rotate_left
 ·exact fT (ai (lT s.size 1) (wt (s:=s) (.inl om)))
 have z1:=lF s.size 1;by_cases h2:s.size<=12;rotate_left
 ·exact fT (aj3 @z1 (lT 12 s.size) (wt (s:=s) (.inr (.inl om))))
 have z2:=lF 12 s.size;by_cases h3:s.toList=[105,102]
 ·exact fT (aj6 @z1 @z2 @l1 @h3 @d8 (wt (s:=s) (.inr (.inr (.inl h3)))))
 have z3:(s.toList==[105,102])=false:=by simpa using h3
 by_cases h4:s.toList=[97,110,100]
 ·exact fT (aj8 @z1 @z2 @l1 @l2 @h4 (by decide:(([97,110,100]:List UInt8)==[105,102])=false) @d8 (wt (s:=s) (.inr (.inr (.inr h4)))))
 rw [Zqj h1 h2 h3 h4];refine fG (aj6 @z1 @z2 @l1 @l2 @z3 (by simpa using h4:(s.toList==[97,110,100])=false)) ?_;have F:=@aw;refine gL (ι:=Nat) [2,3,23,40] [] (fun k=>[(3,A.d (.one (.lit (.int .i64 k))))]) (fun k=>[]) (fun k=>k<=s.size∧km s 0=km s k) (fun k=>s.size - k) (0) (⟨Taj _,rfl⟩) (fun k hk=>?_);obtain ⟨hk,he⟩:=hk;rw [he];by_cases au:k < s.size;rotate_left
 ·exact fT (ai (om:¬ ((k:Int) < (s.size:Int))) (Zk3 (s:=s) (k:=k) om))
 have q1:(k:Int) < (s.size:Int):=om;obtain ⟨b,hb⟩:∃ b,s[k]?=some b:=⟨s[k],getElem?_pos s k au⟩;have dY:=bI (k:=k) om;have bm:=Zh6 hb;refine bU @q1 @hb (ZsJ (b.toNat:Int)) ?_
 cases hn:oe (b.toNat:Int) with
 | false =>
  exact bP @aw (by rw [bm,hn];rfl:km s k=false)
 | true =>
 by_cases jS:k=0
 ·have z5:((k:Int)=0)=True:=eq_true om;by_cases h9:(b.toNat:Int)<=57
  ·exact bP (aj3 @z5 @hb (eq_true h9:((b.toNat:Int)<=57)=True)) (by rw [bm,hn,jS];simp [h9]:km s k=false)
  ·refine fR (aj3 @z5 @hb (eq_false h9:((b.toNat:Int)<=57)=False)) ?_;have F:=@dY;refine gG ?_;exact ⟨k+1,⟨au,(by rw [bm,hn];simp [h9]:km s k=km s (k+1))⟩,gw,gw,om⟩
 ·refine fR (eq_false om:((k:Int)=0)=False) ?_;have F:=@dY;refine gG ?_;exact ⟨k+1,⟨au,(by rw [bm,hn];simp [jS]:km s k=km s (k+1))⟩,gw,gw,om⟩
theorem Zh8 (hs:s.size<=maxLen):az e0 195 [.one (.lit (.string s))] [.one (.lit (.bool (iS s)))]:=by
 refine m262 fun l1 l2=>?_;refine gI 2417851639247950047084557 Tryz.func195 ?_;by_cases h3:s.toList=[105,102]
 ·exact fT (aj4 @l1 @h3 @d8 (wt (s:=s) (.inr (.inr (.inl h3)))))
 have z3:(s.toList==[105,102])=false:=by simpa using h3
 by_cases h4:s.toList=[97,110,100]
 ·exact fT (aj6 @l1 @l2 @h4 (by decide:(([97,110,100]:List UInt8)==[105,102])=false) @d8 (wt (s:=s) (.inr (.inr (.inr h4)))))
 have z4:(s.toList==[97,110,100])=false:=by simpa using h4
 by_cases h1:1<=s.size;rotate_left
 ·exact fT (aj6 @l1 @l2 @z3 @z4 (lT s.size 1) (wt (s:=s) (.inl om)))
 have z1:=lF s.size 1;by_cases h2:s.size<=12;rotate_left
 ·exact fT (aj7 @l1 @l2 @z3 @z4 @z1 (lT 12 s.size) (wt (s:=s) (.inr (.inl om))))
 have z2:=lF 12 s.size;obtain ⟨b,hb⟩:∃ b,s[0]?=some b:=⟨s[0],getElem?_pos s 0 h1⟩;have bm:=Zh6 hb;rw [Zqj h1 h2 h3 h4];have oY:0<=(b.toNat:Int):=om;have yn:∀ c:Bool,((decide (97<=(b.toNat:Int)∧(b.toNat:Int)<=122)) || decide (65<=(b.toNat:Int)∧(b.toNat:Int)<=90))=c->(oe (b.toNat:Int) && !((0:Nat)==0 && decide ((b.toNat:Int)<=57)))=c:=fun c hc=>by
  rw [<- hc,Bool.eq_iff_iff];simp [oe];omega
 have key:(decide (97<=(b.toNat:Int)∧(b.toNat:Int)<=122) || decide (65<=(b.toNat:Int)∧(b.toNat:Int)<=90))=true∨(decide (97<=(b.toNat:Int)∧(b.toNat:Int)<=122) || decide (65<=(b.toNat:Int)∧(b.toNat:Int)<=90))=false:=by cases (decide (97<=(b.toNat:Int)∧(b.toNat:Int)<=122) || decide (65<=(b.toNat:Int)∧(b.toNat:Int)<=90)) <;> simp
 rcases key with hk | hk
 rotate_left
 ·have hf:km s 0=false:=by rw [bm,yn _ hk];rfl
  rw [hf];clear bm yn hf
  by_cases c1:97<=(b.toNat:Int) <;> by_cases c2:(b.toNat:Int)<=122 <;> by_cases c3:65<=(b.toNat:Int) <;> by_cases c4:(b.toNat:Int)<=90 <;> first
   | (exfalso;omega)
   | (exfalso;simp [c1,c2,c3,c4] at hk;done)
   | (exact fT (aj11 @l1 @l2 @z3 @z4 @z1 @z2 @hb @c1 @c2 @c3 @c4))
 have xe:65<=(b.toNat:Int):=by simp at hk;omega
 have h01:km s 0=km s 1:=by rw [bm,yn _ hk];rfl
 refine fN 1 @aw ?_;refine gM (ι:=Unit) [40] [] (fun u=>[(40,A.d (.one (.lit (.bool false))))]) (fun u=>[]) (fun u=>True) ?_ (fun u hu=>Exists.intro _ (ai (Wk.refl _) ?_))
 ·by_cases c1:97<=(b.toNat:Int) <;> by_cases c2:(b.toNat:Int)<=122 <;> by_cases c3:65<=(b.toNat:Int) <;> by_cases c4:(b.toNat:Int)<=90 <;> first
   | (exfalso;omega)
   | (exfalso;simp [c1,c2,c3,c4] at hk;done)
   | (have F:=aj11 @l1 @l2 @z3 @z4 @z1 @z2 @hb @c1 @c2 @c3 @c4;refine gG ?_;exact ⟨(),trivial,gw,gw⟩)
 clear hu yn hk bm;refine fG @aw ?_;have F:=@aw;refine gL (ι:=Nat) [2,3,44,81] [] (fun k=>[(3,A.d (.one (.lit (.int .i64 k))))]) (fun k=>[]) (fun k=>k<=s.size∧km s 0=km s k) (fun k=>s.size - k) (0) (⟨Taj _,rfl⟩) (fun k hk=>?_);obtain ⟨eX,he⟩:=hk;by_cases au:k < s.size;rotate_left
 ·exact fT (ai (om:¬ ((k:Int) < (s.size:Int))) (by rw [he];exact Zk3 om:km s 0=true))
 have q1:(k:Int) < (s.size:Int):=om;obtain ⟨d,hd⟩:∃ d,s[k]?=some d:=⟨s[k],getElem?_pos s k au⟩;have dY:=bI (k:=k) om;have bm:=Zh6 hd;refine fN 6 @q1 ?_;refine gM (ι:=Unit) [81] [] (fun u=>[(81,A.d (.one (.lit (.bool !(oe (d.toNat:Int))))))]) (fun u=>[]) (fun u=>True) ?_ (fun u hu=>Exists.intro _ (ai (Wk.refl _) ?_))
 ·by_cases c1:97<=(d.toNat:Int) <;> by_cases c2:(d.toNat:Int)<=122 <;> by_cases c3:65<=(d.toNat:Int) <;> by_cases c4:(d.toNat:Int)<=90 <;> by_cases c5:48<=(d.toNat:Int) <;> by_cases c6:(d.toNat:Int)<=57 <;> first
   | (exfalso;omega)
   | (have hr : oe   (d.toNat : Int) = true := by simp [oe  , c1, c2, c3, c4, c5, c6]
      rw [hr]
      (have F:=aj7 @hd @c1 @c2 @c3 @c4 @c5 @c6;refine gG ?_;exact ⟨(),trivial,gw,gw⟩))
   | (have hr : oe   (d.toNat : Int) = false := by simp [oe  , c1, c2, c3, c4, c5, c6]
      rw [hr]
      (have F:=aj7 @hd @c1 @c2 @c3 @c4 @c5 @c6;refine gG ?_;exact ⟨(),trivial,gw,gw⟩))
 cases hn:oe (d.toNat:Int) with
 | false =>
  exact fT (by rw [he,bm,hn];rfl:km s 0=false)
 | true =>
 have hq:km s 0=km s (k+1):=by
  by_cases jS:k=0
  ·subst jS;exact h01
  ·rw [he,bm,hn];simp [jS]
 have F:=@dY;refine gG ?_;exact ⟨k+1,⟨au,hq⟩,gw,gw,om⟩
end
theorem m226 {p:Prop} (h:p:=by
 rw [hA.dst,tG (by rw [hI.size];exact fL),if_neg (Ne.symm (A9 hA t7))]):p:=h
theorem m203 {X Y:Prop} (b:Y) (h:Bx Y->X:=by
 intro B0
 simp only [ho];rw [if_pos (by simp [Region.wanted,hg]:Region.wanted o (yielded ops a.tmps)=true)];have kz:o∈ops.toList:=Tac (by simpa using ho);exact B0.o kz):X:=h ⟨b⟩
section
variable {e:Env} {U:Nat->Prop} {w0:World} {S0:Nat->Prop} {nt:Nat} {ops:Array Oper} {n:Nat} {m:List (Nat × Bk)} {s:List (Nat × A)} {αs:List A} {L:Lay}
theorem ZgY {J:Array Bool->Act->World->(Nat->Prop)->Prop} (he:e.Ok) (hH:on ops n=true) (hn:n<=ops.size) (hs:∀ i,n<=i->i < ops.size->∀ j,j < n->Region.waitsFor .any ops i j=true)
  (bO:∀ (i:Nat) (o:Oper) (d:Nat),i < n->ops[i]?=some o->o.dst=some d->d < nt) (ca:αs.length=n) (nN:oM e U w0.heap.size S0 m ops.toList (ops.toList.take n) s αs) {Q:Exit->Act->World->Prop} (kX:ZkW e U w0 S0 nt m ops n s αs L J Q)
  (vy:∀ (ag:Array Bool) (a:Act) (w:World) (S:Nat->Prop) (i:Nat) (o:Oper) (d:Nat),J ag a w S->InvA e U w0 S0 nt m ops n s αs L ag a w S->HeadAt ops n i o d->i < n->i∈Region.ready .any ops ag->d < nt->o.guard≠none->J (ag.setIfInBounds i true) (a.put o.dst undef) w S)
  (i8:∀ ag a w S,InvA e U w0 S0 nt m ops n s αs L ag a w S->J ag a w S->(∀ i,i < n->ag.getD i false=true)->wpAny e.P .any ops Q (ops.size - n) (mj ops.size n) a w) :
  ∀ (k:Nat) (ag:Array Bool) (a:Act) (w:World) (S:Nat->Prop),InvA e U w0 S0 nt m ops n s αs L ag a w S->J ag a w S->(List.range n).countP (fun i=>!ag.getD i true)=k->wpAny e.P .any ops Q (k+(ops.size - n)) ag a w
 | 0,ag,a,w,S,hI,hJ,hc=>by
  have aD:∀ i,i < n->ag.getD i true=true:=fun i hi=>by
   have:=List.countP_eq_zero.1 hc i (List.mem_range.2 hi);simpa using this
  have heq:=Zp4 hI.head hn aD;have hE:=i8 ag a w S hI hJ (fun i hi=>by
   have hl:i < ag.size:=by rw [hI.head.size];omega
   rw [<- np hl];exact aD i hi)
  rw [Nat.zero_add,heq];exact hE
 | k+1,ag,a,w,S,hI,hJ,hc=>by
  obtain ⟨i0,nP,gl⟩:∃ i,i < n∧ag.getD i true=false:=by
   have:0 < (List.range n).countP (fun i=>!ag.getD i true):=om;obtain ⟨i,hi,hp⟩:=List.countP_pos_iff.1 this;exact ⟨i,List.mem_range.1 hi,by simpa using hp⟩
  rw [show k+1+(ops.size - n)=(k+(ops.size - n))+1 by omega];refine ⟨fun h0=>absurd h0 (ZkV hH hI.head nP gl),fun i hr=>?_⟩;obtain ⟨kG,oi,gh,aD⟩:=mem_ready.1 hr;have eY:i < n:=by
   rcases Nat.lt_or_ge i n with h | h
   ·exact h
   ·have hns:n < ops.size:=Nat.lt_of_le_of_lt h (Tbl.1 gh).1;obtain ⟨oj,hoj,e1,he1,iZ,hon1⟩:=Region.waitsFor_spec (hs i h (Tbl.1 gh).1 i0 nP);rw [gh] at hoj;injection hoj with hoj
    subst hoj;have h2:=aD e1 he1 iZ;rw [hon1] at h2;have h3:i0 < ag.size:=by rw [hI.head.size];omega
    rw [np h3] at gl;rw [h2] at gl
    cases gl
  obtain ⟨o,d,hA⟩:=on.get hH eY;have vp:oi=o:=by have:=hA.op;rw [gh] at this;injection this
  subst vp;have cb:i < ag.size:=by rw [hI.head.size];exact (Tbl.1 gh).1
  obtain ⟨α,hα,bm⟩:=nN.get i oi (by rw [List.getElem?_take,if_pos eY];simpa using gh);have htk:(ops.toList.take n).take i=ops.toList.take i:=by rw [List.take_take,Nat.min_eq_left om]
  rw [htk] at bm;have fL:=bO i oi d eY gh hA.dst;have jt:(List.range n).countP (fun j=>!(ag.setIfInBounds i true).getD j true)=k:=by
   have h1:(List.range n).countP (fun j=>!(ag.setIfInBounds i true).getD j true)+1=(List.range n).countP (fun j=>!ag.getD j true):=by
    have ff:=List.perm_cons_erase (List.mem_range.2 eY);rw [ff.countP_eq,ff.countP_eq,List.countP_cons,List.countP_cons];have mt:((List.range n).erase i).countP (fun j=>!(ag.setIfInBounds i true).getD j true)=((List.range n).erase i).countP (fun j=>!ag.getD j true):=by
     refine List.countP_congr fun j hj=>?_;have bq:j≠i:=fun e=>by
      subst e;exact List.Nodup.not_mem_erase (List.nodup_range) hj
     rw [getD_set_ne true (Ne.symm bq)]
    rw [mt,kG];simp [cb]
   omega
  have co:∀ x∈oi.op.operands,ax w S L (aL (after s (ops.toList.take i) (αs.take i)) x) (a.eval x):=fun x hx=>by
   cases x with
   | tmp t =>
    exact hI.operand hH hn ca hA eY aD (fun j p hj hp lW=>(hA.dep j p hj hp).2 t (List.mem_filterMap.2 ⟨.tmp t,by simpa using hx,rfl⟩) lW)
   | const v =>
    simp only [aL,Act.eval];unfold uF;split
    ·simp only [ax,aW,aQ];exact ⟨⟨none,0,0,rfl,rfl,Tai _,by decide,fun h=>absurd h (by decide)⟩,none,0,rfl⟩
    ·rename_i vs;exact ⟨vs.toList,rfl,yZ _⟩
    ·simp [ax,aW,aQ]
   | func f =>
    simp only [aL,Act.eval,ax,aW,aQ];exact ⟨[],rfl,by simp [aC]⟩
   | global g=>trivial
  have go:iM e U w0.heap.size S0 m oi (aL (after s (ops.toList.take i) (αs.take i))) α->oi.wp e.P a w (wpAny e.P .any ops Q (k+(ops.size - n)) (ag.setIfInBounds i true)) Q:=fun hG =>
   Oper.wp_mono (fun a' w' ⟨S',hI',hJ'⟩=>ZgY he hH hn hs bO ca nN kX vy i8 k _ _ _ S' hI' hJ' jt) (kX ag a w S i oi d α hI hJ hA eY hr fL hα co hG)
  unfold wpOp;simp only [gh];unfold xR at bm
  cases hg:oi.guard with
  | none =>
   rw [hg] at bm;have B6:Region.wanted oi (yielded ops a.tmps)=true:=by simp [Region.wanted,hg]
   rw [if_pos B6];exact .inl (go bm)
  | some jw =>
   obtain ⟨j,b8⟩:=jw;rw [hg] at bm;obtain ⟨sP,hjw⟩:=hA.guard j b8 hg;have pL:∀ dj,((ops[j]?).bind (·.dst))=some dj->ax w S L (gs (after s (ops.toList.take i) (αs.take i)) dj) (a.tmps.getD dj undef):=fun dj jg=>hI.operand hH hn ca hA eY aD (t:=dj) (fun j' p ka hp lW=>by
    obtain ⟨p0,d0,Bg⟩:=on.get hH sP;have r9:d0=dj:=by have:=jg;rw [Bg.op] at this;simp [Bg.dst] at this;exact this
    by_cases hjj:j'=j
    ·rw [hjj];exact hjw
    ·exact absurd (by rw [lW,r9]) ((Bg.dep j' p ka hp).1 hjj))
   rcases bm with ⟨b,iZ,jC⟩ | ⟨iZ,jC⟩
   rotate_left
   ·simp only [Tav] at iZ;obtain ⟨dj,tW,qX⟩:=iZ;have jg:((ops[j]?).bind (·.dst))=some dj:=by simpa using Dh tW
    have kD:=pL dj jg;rw [qX] at kD;rw [ZkU hg jg kD];subst jC;simp only [Tam,if_false];exact ZgY he hH hn hs bO ca nN kX vy i8 k _ _ _ S (hI.put hH hA eY hr fL hα (fun _ h=>h) hI.cls (Kept.refl _ _ _ _) rfl) (vy ag a w S i oi d hJ hI hA eY hr fL (by rw [hg];simp)) jt
   simp only [Tav] at iZ;obtain ⟨dj,tW,qX⟩:=iZ;have jg:((ops[j]?).bind (·.dst))=some dj:=by simpa using Dh tW
   have kD:=pL dj jg;rw [qX] at kD;have h4:=ZkT kD.bool;have B6:Region.wanted oi (yielded ops a.tmps)=decide (b=b8):=by
    have h6:yielded ops a.tmps j=some b:=by unfold yielded;rw [jg];simp only [Option.bind_some,h4]
    simp only [Region.wanted,hg,h6]
    cases b <;> cases b8 <;> rfl
   rw [B6];by_cases kw:b=b8
   ·rw [if_pos kw] at jC;simp only [kw,decide_true,if_true];exact .inl (go jC)
   ·rw [if_neg kw] at jC;subst jC;simp only [kw,decide_false,Tam,if_false];exact ZgY he hH hn hs bO ca nN kX vy i8 k _ _ _ S (hI.put hH hA eY hr fL hα (fun _ h=>h) hI.cls (Kept.refl _ _ _ _) rfl) (vy ag a w S i oi d hJ hI hA eY hr fL (by rw [hg];simp)) jt
theorem ZsK {σ:St} (hH:on ops n=true) (hn:n<=ops.size) (ca:αs.length=n) {ag:Array Bool} {a':Act} {w':World} {S':Nat->Prop} (hI:InvA e U w0 S0 nt σ.m ops n σ.s αs L ag a' w' S') (aD:∀ i,i < n->ag.getD i false=true):Sim e U w0 S0 nt ⟨after σ.s (ops.toList.take n) αs,σ.m⟩ a' w' S' L:=by
 refine ⟨hI.cls,fun t=>?_,hI.size,hI.defers,hI.kept⟩;exact m8
end
def mU (e:Env) (ds:List (Option Nat)) (ops:Array Oper) (K:St->Prop):Nat->Array Bool->St->Prop
 | 0,ag,σ=>Region.ready .any ops ag=[]∧K σ
 | f+1,ag,σ=>(Region.ready .any ops ag=[]->K σ)∧∀ i∈Region.ready .any ops ag,∃ o,ops[i]?=some o∧o.guard=none∧iT e o σ (fun σ'=>al e ds 0 [] σ' (mU e ds ops K f (ag.setIfInBounds i true)))
section
variable {e:Env} {U:Nat->Prop} {w0:World} {S0:Nat->Prop} {nt:Nat}
theorem Zm4 (he:e.Ok) {ops:Array Oper} {K:St->Prop} {Q:Exit->Act->World->Prop} (hQ:∀ a w σ',K σ'->aN e U w0 S0 nt σ' a w->Q .normal a w) (hd:∀ o∈ops.toList,∀ d,o.dst=some d->d < nt) :
  ∀ (f:Nat) (ag:Array Bool) (σ:St) (a:Act) (w:World),aN e U w0 S0 nt σ a w->mU e (ops.toList.map (·.dst)) ops K f ag σ->wpAny e.P .any ops Q f ag a w
 | 0,ag,σ,a,w,hs,h=>⟨h.1,hQ a w σ h.2 hs⟩
 | f+1,ag,σ,a,w,hs,h=>by
  refine ⟨fun h0=>hQ a w σ (h.1 h0) hs,fun i hi=>?_⟩;obtain ⟨o,ho,hg,bm⟩:=h.2 i hi;unfold wpOp;refine m203 fun kz=>?_;refine .inl (Oper.wp_mono (fun a' w' ⟨σ',hr,iA⟩=>?_) (bm he U w0 S0 nt a w Q (hd o kz) hs));exact hr he U w0 S0 nt a' w' ops.toList (fun _ a w=>wpAny e.P .any ops Q f (ag.setIfInBounds i true) a w) rfl (fun o ho=>by simp at ho) (fun a w σ'' hK BU=>Zm4 he hQ hd f _ σ'' a w BU hK) iA
def ZHQ (ops:Array Oper) (n:Nat):Bool:=(List.range ops.size).all fun i=>decide (i < n) || (List.range n).all fun j=>Region.waitsFor .any ops i j
def tp (ops:Array Oper) (n:Nat):Bool:=on ops n && decide (n<=ops.size) && ZHQ ops n
theorem Zm5 (he:e.Ok) {id:Nat} {ops:Array Oper} {n:Nat} (hB:tp ops n=true) {K:St->Prop} {Q:Exit->Act->World->Prop} (hQ:∀ a w σ',K σ'->aN e U w0 S0 nt σ' a w->Q .normal a w) {σ:St} {a:Act} {w:World}
  (hd:∀ o∈ops.toList,∀ d,o.dst=some d->d < nt) (h:aN e U w0 S0 nt σ a w) (hp:al e (ops.toList.map (·.dst)) (n+1) (ops.toList.take n) σ (mU e (ops.toList.map (·.dst)) ops K (ops.size - n) (mj ops.size n))):(Code.region id ops true).wp e.P Q a w:=by
 simp only [tp,Tar,decide_eq_true_eq] at hB;obtain ⟨⟨hH,hn⟩,fg⟩:=hB;have hs:∀ i,n<=i->i < ops.size->∀ j,j < n->Region.waitsFor .any ops i j=true:=fun i h1 h2 j h3=>by
  have k1:=List.all_eq_true.1 fg i (List.mem_range.2 h2);simp only [Bool.or_eq_true,decide_eq_true_eq] at k1;rcases k1 with k1 | k1
  ·omega
  ·exact List.all_eq_true.1 k1 j (List.mem_range.2 h3)
 obtain ⟨S,L,h1⟩:=h.drew he;refine wp_region_any he.mixed ?_;have bu:(ops.toList.take n).length=n:=by simp;omega
 have ek:al e (ops.toList.map (·.dst)) ((ops.toList.take n).length+1) (ops.toList.take n++[]) σ (mU e (ops.toList.map (·.dst)) ops K (ops.size - n) (mj ops.size n)):=by rw [List.append_nil,bu];exact hp
 obtain ⟨αs,ca,nN,kZ⟩:=C3 (U:=U) he w0.heap.size S0 ops.toList [] 1 (ops.toList.take n) σ (fun h=>absurd h (by decide)) ek;rw [bu] at ca;simp only [al] at kZ
 have oE:InvA e U w0 S0 nt σ.m ops n σ.s αs L (Array.replicate ops.size false) a { w with drawn:=w.drawn+1 } S :=
  ⟨⟨by simp,fun j oj _ hl=>(by rw [getD_replicate_false] at hl;cases hl),fun t _ ht=>getD_in (by simpa using ht) (getD_replicate_false _ _)⟩,h1.size,h1.defers,h1.cls,h1.kept,fun t _=>h1.rel t,fun i o d α _ hl=>(by rw [getD_replicate_false] at hl;cases hl)⟩
 have H:=ZgY (e:=e) (L:=L) (Q:=Q) he hH hn hs (fun i o d hi ho i7=>hd o (List.mem_iff_getElem?.2 ⟨i,by simpa using ho⟩) d i7) ca nN (Zi1 hH Q) (fun _ _ _ _ _ _ _ _ _ _ _ _ _ _=>trivial) (fun ag a' w' S' hI _ aD=>?_) n _ a _ S oE trivial ?_
 ·rw [show n+(ops.size - n)=ops.size by omega] at H;exact H
 ·exact Zm4 he hQ hd _ _ _ a' w' ⟨S',L,ZsK hH hn ca hI aD⟩ kZ
 ·rw [List.countP_eq_length.2]
  ·simp
  ·intro i hi;have eG:=List.mem_range.1 hi;have bO:i < (Array.replicate ops.size false).size:=by simp;omega
   rw [np bO,getD_replicate_false];rfl
end
section
variable {e:Env} {U:Nat->Prop} {w0:World} {S0:Nat->Prop} {nt:Nat}
structure AppAt (P:Program) (σ:St) (o:Oper) (d ety sz:Nat) (rows:List (List C)):Prop where
 at':∃ (x y:Operand) (args:Array Operand) (ts:Array TypeId) (t by':Nat) (r1 ys:List (List C)),o.op=.call ⟨.builtin .append,args,ts⟩∧args.toList=[x,y]∧aL σ.s x=.d (.clip r1)∧oJ [] (aL σ.s y)=some ys∧ts[0]?=some t∧ts[1]?=some t∧jc P t=some (ety,sz,by') ∧
  ZaB sz r1=true∧ZaB sz ys=true∧r1.length+ys.length<=ak∧(r1=[]∨ys≠[])∧rows=r1++ys
 dst:o.dst=some d
 guard:o.guard=none
theorem ZDD {m:List (Nat × Bk)} {y:A} {ys:List (List C)} (h:oJ [] y=some ys):oJ m y=some ys:=by
 unfold oJ at h ⊢;split at h <;> simp_all [gm,pq]
theorem AppAt.run (he:e.Ok) {σ:St} {o:Oper} {d ety sz:Nat} {rows:List (List C)} (hA:AppAt e.P σ o d ety sz rows) {m:List (Nat × Bk)} {w:World} {S:Nat->Prop} {L:Lay} {ρv:Operand->Value} (hC:Cls e U w0.heap.size S0 m w S L) (hr:∀ x,x∈o.op.operands->ax w S L (aL σ.s x) (ρv x)) :
  ∃ v' w',(execOp ρv o).run e.P w=.ok (.value v') w'∧ei w' S ety sz rows v'∧Kept e.D (fun _=>False) w.heap.size w w'∧∀ g,aP v'=some g->w.heap.size<=g:=by
 obtain ⟨x,y,args,ts,t,by',r1,ys,ho,cd,hx,hy,h0,h1,hb,ke,hys,ct,bq,rfl⟩:=hA.at';have bj:=hr x (by rw [ho];simp [Op.operands,Call.operands,cd,<- Array.mem_toList_iff]);have iC:=hr y (by rw [ho];simp [Op.operands,Call.operands,cd,<- Array.mem_toList_iff]);rw [hx] at bj;have bj:aW w S (.clip r1) (ρv x):=bj;have qx:=ki.1 hys;have hyf:=Zp6 (σ:=⟨[],m⟩) hC (ZDD hy) iC qx;obtain ⟨v',w',aJ,ge,τ,hk,hτ,hg⟩:=ZhB (σ:=⟨[],m⟩) (ty:=o.type) he hC h0 h1 hb (.inr ⟨bj,bq⟩) (ki.1 ke) qx ct hyf
 have hτn:∀ g,τ≠some g:=fun g e1=>by
  obtain ⟨h2,h3⟩:=hτ g e1;obtain ⟨h4,a,n,h5⟩:=bj;rw [h5] at h2 h3 h4;simp only [aQ] at h4;obtain ⟨A,n',cap,h6,h7,_,_,h8⟩:=h4;injection h6 with h6 h9 h10
  subst h6 h9
  cases a with
  | none=>simp [aP] at h2
  | some q =>
   simp only [aP] at h2;split at h2
   ·cases h2
   ·rename_i kY;injection h2 with h2
    obtain ⟨b,off,ye,hS,_⟩:=h8 om;injection ye with ye
    obtain ⟨_,_,tR⟩:=h3;rcases tR with ⟨tR,_⟩ | ⟨g',dz,bc,h13,_,_,zF,_⟩
    ·rw [tR] at h7;simp at h7;omega
    ·injection h13 with h13 _ _
     injection h13 with h13
     rw [h13] at ye;injection ye with ye
     exact zF (ye ▸ hS)
 refine ⟨v',w',?_,ge,⟨hk.os,hk.tape,hk.output,hk.drawn,hk.size,fun k eV hn=>hk.block k eV (fun e1=>hτn k e1)⟩,fun g fo=>?_⟩
 ·have ha:args.map ρv=#[ρv x,ρv y]:=by apply Array.toList_inj.1;simp [cd]
  simp [execOp,ho,resolve,invoke,builtin,ha,aJ,Result.andThen]
 ·rcases hg g fo with e1 | e1
  ·exact (hτn g e1).elim
  ·exact e1
theorem AppAt.gives (he:e.Ok) {σ:St} {o:Oper} {d ety sz:Nat} {rows:List (List C)} (hA:AppAt e.P σ o d ety sz rows) {m:List (Nat × Bk)}:iM e U w0.heap.size S0 m o (aL σ.s) .undef:=by
 intro w S L ρv hC hr;obtain ⟨v',w',h1,_,h3,_⟩:=hA.run he hC hr;have hk:Kept e.D e.E w.heap.size w w':=⟨h3.os,h3.tape,h3.output,h3.drawn,h3.size,fun k hk hn=>h3.block k hk id⟩;unfold Go.Proofs.YtbecmfjokofihaaGreatDoor.gives;rw [h1];exact ⟨S,⟨fun _ h=>h,fun _ h=>.inl h⟩,hC.later hk (he.keep _ _ h3.size (fun b hE=>h3.block b (Tbd (hC.ein b hE) hC.bsz) id) hC.g) (fun _ h=>h) (fun _ h=>.inl h),hk,trivial⟩
def ZrQ (base p d ety sz:Nat) (rows:List (List C)) (m:List (Nat × Bk)) (L:Lay) (ag:Array Bool) (a:Act) (w:World) (S:Nat->Prop):Prop :=
 ag.getD p false=true->(∀ g,aP (a.tmps.getD d undef)=some g->base<=g∧g < w.heap.size∧¬ S g∧∀ k bk,gm m k=some bk->¬ cQ L k bk g)∧ei w S ety sz rows (a.tmps.getD d undef)
theorem Zqk {m:List (Nat × Bk)} {base:Nat} {l:List Oper}:∀ (xs ys:List Oper) (s:List (Nat × A)) (us bs:List A),us.length=xs.length->oM e U base S0 m l xs s us->oM e U base S0 m l ys (after s xs us) bs->oM e U base S0 m l (xs++ys) s (us++bs)
 | [],ys,s,[],bs,_,_,h2=>h2
 | x::xs,ys,s,a::us,bs,hl,h1,h2=>⟨h1.1,Zqk xs ys _ us bs (by simpa using hl) h1.2 h2⟩
 | [],_,_,_::_,_,hl,_,_=>by simp at hl
 | _::_,_,_,[],_,hl,_,_=>by simp at hl
theorem Zql:∀ (xs ys:List Oper) (s:List (Nat × A)) (us bs:List A),us.length=xs.length->after s (xs++ys) (us++bs)=after (after s xs us) ys bs
 | [],ys,s,[],bs,_=>rfl
 | x::xs,ys,s,a::us,bs,hl=>Zql xs ys _ us bs (by simpa using hl)
 | [],_,_,_::_,_,hl=>by simp at hl
 | _::_,_,_,[],_,hl=>by simp at hl
theorem Zmu (he:e.Ok) (base:Nat) (S0:Nat->Prop) (l:List Oper) {K:St->Prop} {k:Nat} {os:List Oper} {σ:St} (hk:k=os.length+1) (h:al e (l.map (·.dst)) k os σ K):∃ αs,αs.length=os.length∧oM e U base S0 σ.m l os σ.s αs∧K ⟨after σ.s os αs,σ.m⟩:=by
 subst hk;have h':al e (l.map (·.dst)) (os.length+1) (os++[]) σ K:=by rw [List.append_nil];exact h
 obtain ⟨αs,h1,h2,h3⟩:=C3 (U:=U) he base S0 l [] 1 os σ (fun h=>absurd h (by decide)) h';simp only [al] at h3;exact ⟨αs,h1,h2,h3⟩
theorem ZDE (he:e.Ok) {id:Nat} {ops:Array Oper} {n p d ety sz:Nat} {rows:List (List C)} {o0:Oper} (co:ops[p]?=some o0) (hpn:p < n) (hB:fI ops n=true) {K:St->Prop} {Q:Exit->Act->World->Prop} (hQ:∀ a w σ',K σ'->aN e U w0 S0 nt σ' a w->Q .normal a w) {σ:St} {a:Act} {w:World}
  (hd:∀ o∈ops.toList,∀ d,o.dst=some d->d < nt) (h:aN e U w0 S0 nt σ a w)
  (hp:al e (ops.toList.map (·.dst)) (p+1) (ops.toList.take p) σ (fun σ1=>AppAt e.P σ1 o0 d ety sz rows∧al e (ops.toList.map (·.dst)) (n - p) ((ops.toList.take n).drop (p+1)) ⟨(d,.undef)::σ1.s,σ1.m⟩ (fun σ2=>al e (ops.toList.map (·.dst)) 0 (ops.toList.drop n) ⟨(d,.buf d)::bM d σ2.s,(d,.buf none ety sz rows)::aA d σ2.m⟩ K))):(Code.region id ops true).wp e.P Q a w:=by
 simp only [fI,Tar,Bool.or_eq_true,decide_eq_true_eq] at hB;obtain ⟨⟨⟨hH,hn⟩,hs⟩,qw⟩:=hB;obtain ⟨S,L,h1⟩:=h.drew he;refine wp_region_any he.mixed ?_;have bu:(ops.toList.take p).length=p:=by simp;omega
 have zN:((ops.toList.take n).drop (p+1)).length=n - p - 1:=by simp;omega
 obtain ⟨αs0,mW,Bs,my⟩:=Zmu (U:=U) he w0.heap.size S0 ops.toList (by rw [bu]) hp;rw [bu] at mW;obtain ⟨pB,BS⟩:=my;obtain ⟨αs1,hal1,hch1,BT⟩:=Zmu (U:=U) he w0.heap.size S0 ops.toList (by rw [zN];omega) BS;rw [zN] at hal1;have jX:ops.toList[p]?=some o0:=by simpa using co
 have pR:ops.toList.take n=ops.toList.take p++(o0::(ops.toList.take n).drop (p+1)):=by
  have e1:(ops.toList.take n)[p]?=some o0:=by rw [List.getElem?_take,if_pos hpn];exact jX
  have e2:(ops.toList.take n).drop p=o0::(ops.toList.take n).drop (p+1):=by
   rw [List.drop_eq_getElem_cons (Tad.1 e1).1,(Tad.1 e1).2]
  rw [<- e2,<- (by rw [List.take_take,Nat.min_eq_left om]:(ops.toList.take n).take p=ops.toList.take p),Tbm]
 have ca:(αs0++(A.undef::αs1)).length=n:=by simp [mW,hal1];omega
 have pO:aI (after σ.s (ops.toList.take p) αs0) o0.dst A.undef=(d,A.undef)::after σ.s (ops.toList.take p) αs0:=by rw [pB.dst];rfl
 have nN:oM e U w0.heap.size S0 σ.m ops.toList (ops.toList.take n) σ.s (αs0++(A.undef::αs1)):=by
  rw [pR];refine Zqk _ _ _ _ _ (by rw [mW,bu]) Bs ⟨?_,?_⟩
  ·unfold xR;rw [pB.guard];exact pB.gives he
  ·rw [pO];exact hch1
 have haf:after σ.s (ops.toList.take n) (αs0++(A.undef::αs1))=after ((d,A.undef)::after σ.s (ops.toList.take p) αs0) ((ops.toList.take n).drop (p+1)) αs1:=by
  conv=>lhs;rw [pR]
  rw [Zql _ _ _ _ _ (by rw [mW,bu])];simp only [after,pO]
 have oE:InvA e U w0 S0 nt σ.m ops n σ.s (αs0++(A.undef::αs1)) L (Array.replicate ops.size false) a { w with drawn:=w.drawn+1 } S :=
  ⟨⟨by simp,fun j oj _ hl=>(by rw [getD_replicate_false] at hl;cases hl),fun t _ ht=>getD_in (by simpa using ht) (getD_replicate_false _ _)⟩,h1.size,h1.defers,h1.cls,h1.kept,fun t _=>h1.rel t,fun i o d α _ hl=>(by rw [getD_replicate_false] at hl;cases hl)⟩
 have hJ0:ZrQ w0.heap.size p d ety sz rows σ.m L (Array.replicate ops.size false) a { w with drawn:=w.drawn+1 } S:=fun hl=>by rw [getD_replicate_false] at hl;cases hl
 have A9:∀ {i':Nat} {o':Oper} {d':Nat},HeadAt ops n i' o' d'->i'≠p->d'≠d:=fun hA bq e'=>by
  have:=(hA.dep p _ hpn co).1 (Ne.symm bq);exact this (by rw [pB.dst,e'])
 have kX:ZkW e U w0 S0 nt σ.m ops n σ.s (αs0++(A.undef::αs1)) L (ZrQ w0.heap.size p d ety sz rows σ.m L) Q:=by
  intro ag a w S i' o' d' α hI hJ hA eY hr fL hα vq hG';by_cases t7:i'=p
  ·subst t7;have bZ:o'=o0:=by have:=hA.op;rw [co] at this;exact zW
   subst bZ;have i7:d'=d:=by have:=hA.dst;rw [pB.dst] at this;exact zW
   subst i7;have hau:α=A.undef:=by exact m268
   subst hau;have hC:=hI.cls;have htk:(αs0++(A.undef::αs1)).take i'=αs0:=by rw [<- mW];exact List.take_left
   rw [htk] at vq;obtain ⟨v',w',q1,q2,q3,q4⟩:=pB.run he hC vq;have hk:Kept e.D e.E w.heap.size w w':=⟨q3.os,q3.tape,q3.output,q3.drawn,q3.size,fun k hk hn=>q3.block k hk (fun h=>h)⟩;have Bb:Cls e U w0.heap.size S0 σ.m w' S L:=hC.later hk (he.keep _ _ q3.size (fun b hE=>q3.block b (Tbd (hC.ein b hE) hC.bsz) (fun h=>h)) hC.g) (fun _ h=>h) (fun _ h=>.inl h);unfold Oper.wp;rw [q1,Oper.upon_value]
   have bA:(a.put o'.dst v').tmps.getD d' undef=v':=by
    rw [hA.dst,tG (by rw [hI.size];exact fL)];simp
   refine ⟨S,hI.put hH hA eY hr fL hα (fun _ h=>h) Bb hk trivial,fun _=>?_⟩;rw [bA];refine ⟨fun g hg=>?_,q2⟩;have Bz:=q4 g hg;refine ⟨Tbe hC.bsz Bz,?_,fun hs=>by have:=(hC.sin _ hs).1;omega,fun k bk hk hg=>by have:=hC.blk_lt hk hg;omega⟩;exact (bL.lt (L:=⟨fun _=>0,fun _=>v'⟩) (k:=0) (bk:=.buf none ety sz rows) ⟨by simp,q2⟩ hg).1
  ·refine xE (hG' w S L a.eval hI.cls vq) fun v' w' ⟨S',hS,hC,hk,pT⟩=>⟨S',hI.put hH hA eY hr fL hα hS.1 hC hk pT,fun hl=>?_⟩;rw [getD_set_ne false t7] at hl;obtain ⟨q1,q2⟩:=hJ hl;have bA:(a.put o'.dst v').tmps.getD d undef=a.tmps.getD d undef:=by
    exact m226
   rw [bA];have hnS:∀ g,aP (a.tmps.getD d undef)=some g->¬ S' g:=fun g hg hs=>by
    obtain ⟨_,k2,k3,_⟩:=q1 g hg;rcases hS.2 g hs with hs | hs
    ·exact k3 hs
    ·omega
   refine ⟨fun g hg=>⟨(q1 g hg).1,Tbd (q1 g hg).2.1 hk.size,hnS g hg,(q1 g hg).2.2.2⟩,q2.keep hk.size (hI.cls.cell hk) hS.1 fun g hg=>⟨hk.block g (q1 g hg).2.1 (fun hE=>by have:=hI.cls.ein g hE;have:=(q1 g hg).1;omega),hnS g hg⟩⟩
 have BZ:∀ (ag:Array Bool) (a:Act) (w:World) (S:Nat->Prop) (i':Nat) (o':Oper) (d':Nat),ZrQ w0.heap.size p d ety sz rows σ.m L ag a w S->InvA e U w0 S0 nt σ.m ops n σ.s (αs0++(A.undef::αs1)) L ag a w S->HeadAt ops n i' o' d'->i' < n->i'∈Region.ready .any ops ag->d' < nt->o'.guard≠none->ZrQ w0.heap.size p d ety sz rows σ.m L (ag.setIfInBounds i' true) (a.put o'.dst undef) w S:=by
  intro ag a w S i' o' d' hJ hI hA eY hr fL hg hl;have t7:i'≠p:=fun e'=>by
   subst e';have:=hA.op;rw [co] at this;injection this with this
   rw [<- this] at hg;exact hg pB.guard
  rw [getD_set_ne false t7] at hl;have bA:(a.put o'.dst undef).tmps.getD d undef=a.tmps.getD d undef:=by
   exact m226
  rw [bA];exact hJ hl
 have H:=Al (e:=e) (L:=L) (Q:=Q) he hH hn (fun au=>by
   rcases hs with hs | hs
   ·omega
   ·exact hs) qw (fun i o d hi ho i7=>hd o (List.mem_iff_getElem?.2 ⟨i,by simpa using ho⟩) d i7) ca nN kX BZ (fun ag a' w' S' hI hJ aD=>?_) n _ a _ S oE hJ0 ?_
 ·rw [show n+(ops.size - n)=ops.size by omega] at H;exact H
 ·have fa:=ZsK hH hn ca hI aD;rw [haf] at fa;obtain ⟨q1,q2⟩:=hJ (aD p hpn);have fL:d < nt:=hd _ (List.mem_iff_getElem?.2 ⟨p,jX⟩) d pB.dst
  have vw:=fa.bornE (bk:=.buf none ety sz rows) (w':=w') (b':=0) (v':=a'.tmps.getD d undef) (u:=a'.tmps.getD d undef) (τ:=aP (a'.tmps.getD d undef)) (s1:=after ((d,A.undef)::after σ.s (ops.toList.take p) αs0) ((ops.toList.take n).drop (p+1)) αs1) (m1:=σ.m) (α:=.buf d) (S':=S') fL (fun _ h=>h) (fun _ h=>.inl h) (fun t=>.inl rfl) (fun k x h=>h)
   (fun g hg=>⟨(q1 g hg).2.2.1,fun hE=>by have:=hI.cls.ein _ hE;have:=(q1 g hg).1;omega,.inl (q1 g hg).1⟩) (fun k x g cj hx hg hb=>(q1 g hg).2.2.2 k x hx hb)
   (Kept.refl _ _ _ _) hI.cls.g (by
    simp only [bL,if_true];exact ⟨by simp,q2⟩)
   (fun g hg=>by simp only [cQ,if_true] at hg;exact .inl hg) (by simp [ax])
  have vx:aN e U w0 S0 nt ⟨(d,.buf d)::bM d (after ((d,A.undef)::after σ.s (ops.toList.take p) αs0) ((ops.toList.take n).drop (p+1)) αs1),(d,.buf none ety sz rows)::aA d σ.m⟩ a' w':=by
   obtain ⟨S2,L2,k1,k2,k3,k4,k5⟩:=vw;refine ⟨S2,L2,k1,fun t=>?_,hI.size,hI.defers,k5⟩;have:=k2 t;rw [tG (by rw [hI.size];exact fL)] at this;by_cases ht:t=d
   ·rw [if_pos ht] at this;rw [ht];rw [ht] at this;exact this
   ·rw [if_neg ht] at this;exact this
  have:=BT he U w0 S0 nt a' w' ops.toList Q rfl (fun o ho=>hd o (List.mem_of_mem_drop ho)) hQ vx;simpa using this
 ·rw [List.countP_eq_length.2]
  ·simp
  ·intro i hi;have eG:=List.mem_range.1 hi;have bO:i < (Array.replicate ops.size false).size:=by simp;omega
   rw [np bO,getD_replicate_false];rfl
end
section
variable {e:Env} {ay:Nat} {Q:PX->St->Prop} {ds:List (Option Nat)}
theorem Zoc {nt:Nat} {id:Nat} {ops:Array Oper} {fl:Bool} (aj:nw nt (.region id ops fl)=true):∀ o∈ops.toList,∀ d,o.dst=some d->d < nt:=fun o ho d hd=>by
 simp only [nw] at aj;exact m272
theorem ZDF {id:Nat} {ops:Array Oper} {σ:St} (n:Nat) (hn:tp ops n=true) (hp:al e (ops.toList.map (·.dst)) (n+1) (ops.toList.take n) σ (mU e (ops.toList.map (·.dst)) ops (nB ay Q) (ops.size - n) (mj ops.size n))):cp e ay (.region id ops true) σ Q:=fun he U w0 S0 nt a w aj hs =>
 Zm5 he hn (fun a w σ' h1 h2=>⟨_,h1,h2.weak (fun t=>ZjN ay t σ'.s) (fun _ _ h=>h)⟩) (Zoc aj) hs hp
theorem ZDG {id:Nat} {ops:Array Oper} {σ:St} {n p d ety sz:Nat} {rows:List (List C)} {o0:Oper} (co:ops[p]?=some o0) (hpn:p < n) (hn:fI ops n=true) (hp:al e (ops.toList.map (·.dst)) (p+1) (ops.toList.take p) σ (fun σ1=>AppAt e.P σ1 o0 d ety sz rows∧al e (ops.toList.map (·.dst)) (n - p) ((ops.toList.take n).drop (p+1)) ⟨(d,.undef)::σ1.s,σ1.m⟩ (fun σ2=>al e (ops.toList.map (·.dst)) 0 (ops.toList.drop n) ⟨(d,.buf d)::bM d σ2.s,(d,.buf none ety sz rows)::aA d σ2.m⟩ (nB ay Q)))):cp e ay (.region id ops true) σ Q:=fun he U w0 S0 nt a w aj hs =>
 ZDE he co hpn hn (fun a w σ' h1 h2=>⟨_,h1,h2.weak (fun t=>ZjN ay t σ'.s) (fun _ _ h=>h)⟩) (Zoc aj) hs hp
theorem gA {id:Nat} {l l1 l2 l3:List Oper} {s s1 s2 s3:List (Nat × A)} {m m1 m2 m3:List (Nat × Bk)} {x y:Operand} {t ty d ety sz by':Nat} {lI:String} {wS:Array Edge} {r1 ys:List (List C)} (n p:Nat) (ct:r1.length+ys.length<=ak) (bq:r1=[]∨ys≠[]) (hK:al e ds 0 l3 ⟨(d,.buf d)::s3,(d,.buf none ety sz (r1++ys))::m3⟩ (nB ay Q))
  (co:l[p]?=some ⟨some d,.call ⟨.builtin .append,#[x,y],#[t,t]⟩,ty,lI,wS,none⟩:=by exact rfl) (hB:fI l.toArray n=true:=by decide +kernel) (hpn:p < n:=by decide) (bG:l.map (·.dst)=ds:=by exact rfl) (h1l:l.take p=l1:=by exact rfl) (h2l:(l.take n).drop (p+1)=l2:=by exact rfl) (h3l:l.drop n=l3:=by exact rfl)
  (h1:iU e.P ds (p+1) l1 ⟨s,m⟩=.done ⟨s1,m1⟩:=by exact lL) (hx:aL s1 x=.d (.clip r1):=by exact j5) (hy:oJ [] (aL s1 y)=some ys:=by exact j5)
  (hb:jc e.P t=some (ety,sz,by'):=by exact j5) (ke:ZaB sz r1=true:=by simp only [pz,↓reduceIte,Nat.reduceEqDiff,Nat.reduceAdd,Nat.reduceSub,Nat.reduceMul,Nat.reduceLeDiff,Nat.reduceBEq,Tam,decide_true,decide_false,Int.reduceLE,Int.reduceToNat,Int.reduceLT,Int.reduceEq,eq_self,Nat.reduceShiftRight,Nat.reduceAnd,Nat.reduceBneDiff,F]) (hys:ZaB sz ys=true:=by simp only [pz,↓reduceIte,Nat.reduceEqDiff,Nat.reduceAdd,Nat.reduceSub,Nat.reduceMul,Nat.reduceLeDiff,Nat.reduceBEq,Tam,decide_true,decide_false,Int.reduceLE,Int.reduceToNat,Int.reduceLT,Int.reduceEq,eq_self,Nat.reduceShiftRight,Nat.reduceAnd,Nat.reduceBneDiff,F])
  (h2:iU e.P ds (n - p) l2 ⟨(d,.undef)::s1,m1⟩=.done ⟨s2,m2⟩:=by exact lL) (hk:bM d s2=s3:=by exact cJ) (hr:aA d m2=m3:=by exact cJ):cp e ay (.region id l.toArray true) ⟨s,m⟩ Q:=by
 subst bG h1l h2l h3l hk hr;exact ZDG (ops:=l.toArray) (by simpa using co) hpn hB (Zhh h1 ⟨⟨⟨x,y,#[x,y],#[t,t],t,by',r1,ys,rfl,rfl,hx,hy,rfl,rfl,hb,ke,hys,ct,bq,rfl⟩,rfl,rfl⟩,Zhh h2 hK⟩)
theorem ZHR {id:Nat} {l l1:List Oper} {s s1:List (Nat × A)} {m m1:List (Nat × Bk)} (n:Nat) (hK:mU e ds l.toArray (nB ay Q) (l.length - n) (mj l.length n) ⟨s1,m1⟩) (hB:tp l.toArray n=true:=by decide +kernel) (bG:l.map (·.dst)=ds:=by exact rfl) (h1l:l.take n=l1:=by exact rfl)
  (h1:iU e.P ds (n+1) l1 ⟨s,m⟩=.done ⟨s1,m1⟩:=by exact lL):cp e ay (.region id l.toArray true) ⟨s,m⟩ Q:=by
 subst bG h1l;exact ZDF (ops:=l.toArray) n hB (Zhh h1 hK)
theorem ZjU {K:St->Prop} {o:Oper} {s s1:List (Nat × A)} {m m1:List (Nat × Bk)} (hg:o.guard=none) (ca:∀ t,o.op≠.alloc t) (aJ:iU e.P ds 0 [o] ⟨s,m⟩=.done ⟨s1,m1⟩) (hK:al e ds 0 [] ⟨s1,m1⟩ K):iT e o ⟨s,m⟩ (fun σ'=>al e ds 0 [] σ' K):=by
 have key:∀ σ,nY e ds (fun σ'=>al e ds 0 [] σ' K) (Res.done σ)->al e ds 0 [] σ (fun σ'=>al e ds 0 [] σ' K):=fun σ h=>mg h;have hr:iU e.P ds 0 [o] ⟨s,m⟩=fw e.P o.dst o.type 0 0 [] (fun σ=>.done σ) o.op ⟨s,m⟩:=by
  obtain ⟨od,oo,ot,op,oa,og⟩:=o;simp only at hg;subst hg;rfl
 rw [hr] at aJ;have h:=ZgR (e:=e) (ds:=ds) (os:=[]) (K:=fun σ'=>al e ds 0 [] σ' K) (n:=0) (q:=0) (next:=fun σ=>.done σ) key (o:=o) (σ:=⟨s,m⟩) (.inl rfl) (by rw [aJ];exact hK);have h:iT e o ⟨s,m⟩ (fun σ'=>al e ds 0 [] σ' (fun σ'=>al e ds 0 [] σ' K)):=h;intro he U w0 S0 nt a w Q hd hs;refine Oper.wp_mono (fun a' w' ⟨σ',h1,h2⟩=>⟨σ',?_,h2⟩) (h he U w0 S0 nt a w Q hd hs);intro he U w0 S0 nt a w ops Q bG hd hQ hs
 exact h1 he U w0 S0 nt a w ops Q bG hd (fun a w σ2 h3 h4=>h3 he U w0 S0 nt a w ops Q bG hd hQ h4) hs
theorem gT1 {ops:Array Oper} {K:St->Prop} {f:Nat} {ag:Array Bool} {o:Oper} {s s1:List (Nat × A)} {m m1:List (Nat × Bk)} (i:Nat) (hK:al e ds 0 [] ⟨s1,m1⟩ (mU e ds ops K f (ag.setIfInBounds i true))) (hr:Region.ready .any ops ag=[i]:=by decide +kernel) (ho:ops[i]?=some o:=by simp only [List.getElem?_toArray,Tau,Tat];exact rfl) (hg:o.guard=none:=by exact rfl) (ca:∀ t,o.op≠.alloc t:=by intro t h;cases h)
  (aJ:iU e.P ds 0 [o] ⟨s,m⟩=.done ⟨s1,m1⟩:=by exact lL):mU e ds ops K (f+1) ag ⟨s,m⟩:=by
 refine ⟨fun h=>(by rw [hr] at h;cases h),fun j hj=>?_⟩;rw [hr] at hj;have i9:j=i:=by simpa using hj
 subst i9;exact ⟨o,ho,hg,ZjU hg ca aJ hK⟩
theorem gT2 {ops:Array Oper} {K:St->Prop} {f:Nat} {ag:Array Bool} {o o':Oper} {s s1 s2:List (Nat × A)} {m m1 m2:List (Nat × Bk)} (i j:Nat) (hK:al e ds 0 [] ⟨s1,m1⟩ (mU e ds ops K f (ag.setIfInBounds i true))) (Bc:al e ds 0 [] ⟨s2,m2⟩ (mU e ds ops K f (ag.setIfInBounds j true))) (hr:Region.ready .any ops ag=[i,j]:=by decide +kernel) (ho:ops[i]?=some o:=by simp only [List.getElem?_toArray,Tau,Tat];exact rfl) (hg:o.guard=none:=by exact rfl) (ca:∀ t,o.op≠.alloc t:=by intro t h;cases h)
  (aJ:iU e.P ds 0 [o] ⟨s,m⟩=.done ⟨s1,m1⟩:=by exact lL) (bZ:ops[j]?=some o':=by simp only [List.getElem?_toArray,Tau,Tat];exact rfl) (fo:o'.guard=none:=by exact rfl) (hal':∀ t,o'.op≠.alloc t:=by intro t h;cases h) (hrun':iU e.P ds 0 [o'] ⟨s,m⟩=.done ⟨s2,m2⟩:=by exact lL):mU e ds ops K (f+1) ag ⟨s,m⟩:=by
 refine ⟨fun h=>(by rw [hr] at h;cases h),fun k hk=>?_⟩;rw [hr] at hk;have hk:k=i∨k=j:=by simpa using hk
 rcases hk with rfl | rfl
 ·exact ⟨o,ho,hg,ZjU hg ca aJ hK⟩
 ·exact ⟨o',bZ,fo,ZjU fo hal' hrun' Bc⟩
theorem qm {ops:Array Oper} {ag:Array Bool} {s s':List (Nat × A)} {m:List (Nat × Bk)} (hK:Q .normal ⟨s',m⟩) (hr:Region.ready .any ops ag=[]:=by decide +kernel) (hs:qk ay s=s':=by exact cJ):mU e ds ops (nB ay Q) 0 ag ⟨s,m⟩:=by
 subst hs;exact ⟨hr,hK⟩
end
section
variable {e:Env} {ay:Nat} {Q:PX->St->Prop} {ds:List (Option Nat)}
theorem ZHc {P:Program} {o:Oper} {a:Act} {w:World} {K:Act->World->Prop} {Q0 Q:Exit->Act->World->Prop} (h0:∀ ex a w,ex≠.normal->¬ Q0 ex a w) (hh:o.wp P a w K Q0):o.wp P a w K Q:=by
 have hl:¬ LetsOut Q0:=fun ⟨a,w,h⟩=>h0 _ a w (by simp) h;unfold Oper.wp at *;generalize (execOp a.eval o).run P w=r at *
 cases r with
 | ok n w' =>
  cases n <;> simp only [Oper.upon] at hh ⊢ <;> first
   | exact hh
   | exact Calls.mono hh (fun e w'' he=>by cases e <;> first | exact he | exact absurd he (h0 _ _ _ (by simp)) | exact absurd he hl)
   | exact absurd hh hl
   | exact absurd hh (h0 _ _ _ (by simp))
 | halt x w' =>
  cases x <;> simp only [Oper.upon] at hh ⊢ <;> first
   | exact hh
   | exact absurd hh hl
   | exact absurd hh (h0 _ _ _ (by simp))
theorem CW {o:Oper} {σ:St} {K:St->Prop} (hg:o.guard=none) (h:al e ds 0 [o] σ K):iT e o σ (fun σ'=>al e ds 0 [] σ' K):=by
 intro he U w0 S0 nt a w Q hd hs;have h:sD e ds [o] σ K:=by simpa only [al] using h
 have h1:=h he U w0 S0 nt a w (ds.map fun d=>{ o with dst:=d }) (fun ex a' w'=>ex=.normal∧∃ σ',K σ'∧aN e U w0 S0 nt σ' a' w') (by rw [List.map_map];exact List.map_id ds) (fun o' ho d dn=>by simp only [Tbj] at ho;subst ho;exact hd d dn) (fun a w σ' k1 k2=>⟨rfl,σ',k1,k2⟩) hs;unfold wpList at h1;have hw:Region.wanted o (yielded (ds.map fun d=>{ o with dst:=d }).toArray a.tmps)=true:=by simp [Region.wanted,hg]
 rw [if_pos hw] at h1;rcases h1 with h1 | ⟨_,a',w',h1,_⟩
 ·refine ZHc (fun ex a w bq h=>bq h.1) (Oper.wp_mono (fun a' w' hk=>?_) h1);simp only [wpList] at hk;obtain ⟨_,σ',k1,k2⟩:=hk;exact ⟨σ',mg k1,k2⟩
 ·cases h1
theorem dW {ops:Array Oper} {K:St->Prop} {f:Nat} {ag:Array Bool} {o:Oper} {σ:St} (i:Nat) (hK:al e ds 0 [o] σ (mU e ds ops K f (ag.setIfInBounds i true))) (hr:Region.ready .any ops ag=[i]:=by decide +kernel) (ho:ops[i]?=some o:=by simp only [List.getElem?_toArray,Tau,Tat];exact rfl) (hg:o.guard=none:=by exact rfl):mU e ds ops K (f+1) ag σ:=by
 refine ⟨fun h=>(by rw [hr] at h;cases h),fun j hj=>?_⟩;rw [hr] at hj;have i9:j=i:=by simpa using hj
 subst i9;exact ⟨o,ho,hg,CW hg hK⟩
theorem zD {ops:Array Oper} {K:St->Prop} {f:Nat} {ag:Array Bool} {o o':Oper} {σ:St} (i j:Nat) (hK:al e ds 0 [o] σ (mU e ds ops K f (ag.setIfInBounds i true))) (Bc:al e ds 0 [o'] σ (mU e ds ops K f (ag.setIfInBounds j true))) (hr:Region.ready .any ops ag=[i,j]:=by decide +kernel) (ho:ops[i]?=some o:=by simp only [List.getElem?_toArray,Tau,Tat];exact rfl) (hg:o.guard=none:=by exact rfl) (bZ:ops[j]?=some o':=by simp only [List.getElem?_toArray,Tau,Tat];exact rfl) (fo:o'.guard=none:=by exact rfl):mU e ds ops K (f+1) ag σ:=by
 refine ⟨fun h=>(by rw [hr] at h;cases h),fun k hk=>?_⟩;rw [hr] at hk;have hk:k=i∨k=j:=by simpa using hk
 rcases hk with rfl | rfl
 ·exact ⟨o,ho,hg,CW hg hK⟩
 ·exact ⟨o',bZ,fo,CW fo Bc⟩
theorem bT {K:St->Prop} {o:Oper} {s s1:List (Nat × A)} {m m1:List (Nat × Bk)} (hK:K ⟨s1,m1⟩) (h:iU e.P ds 0 [o] ⟨s,m⟩=.done ⟨s1,m1⟩:=by exact lL):al e ds 0 [o] ⟨s,m⟩ K:=Zhh h hK
theorem Zuz {K:St->Prop} {n:Nat} {os:List Oper} {o:Oper} {σ:St} (hg:o.guard=none) (ca:jb o=false) (h:zh e o σ (fun σ'=>al e ds n os σ' K)):al e ds (n+1) (o::os) σ K:=by
 simp only [al,hg];rw [if_neg (by simp [ca])];exact h
theorem A0 {K:St->Prop} {os:List Oper} {n d ty:Nat} {p:String} {ed:Array Edge} {x:Operand} {y:D} {s:List (Nat × A)} {m:List (Nat × Bk)} (hK:al e ds n os ⟨(d,.d y)::s,m⟩ K) (hx:aL s x=.d y:=by exact j5):al e ds (n+1) (⟨some d,.assign x,ty,p,ed,none⟩::os) ⟨s,m⟩ K :=
 Zuz rfl rfl fun he=>⟨.d y,hK,fun U base S0=>nk fun w S L ρv hC hr=>⟨ρv x,by simp [execOp],by
  have h:=hr x (by simp [Op.operands]);rw [hx] at h;exact h⟩⟩
end
theorem yK {X Y:Prop} (b:Y) (h:Bx Y->X:=by
 intro B0
 have q2:(j:Int) < (s.names.length:Int):=om;have oD:=bI (k:=j) om;exact B0.o q2 oD):X:=h ⟨b⟩
theorem vJ {p:Prop} (h:p:=by
 refine gG ?_;exact ⟨k+1,au,gw,gw,om⟩):p:=h
theorem m133 {p:Prop} (h:p:=by
 obtain rfl:j=s.names.length:=by omega
 rw [up];refine fG (om:¬ ((s.names.length:Int) < (s.names.length:Int))) ?_;have F:=@aw;refine gG ?_;exact uV [2]):p:=h
theorem m121 {p:Prop} (h:p:=by
 obtain rfl:i=s.subs.length:=by omega
 rw [Tap,<- rf];have F:=ai (om:¬ ((s.subs.length:Int) < (s.subs.length:Int))) @oD;refine gG ?_;exact ⟨j+1,pJ,gw,gw,om⟩):p:=h
theorem m18 {p:Prop} (h:p:=by
 by_cases zO:i < s.subs.length;rotate_left
 ·obtain rfl:i=s.subs.length:=by omega
  rw [Tap,<- rf];have F:=ai (om:¬ ((s.subs.length:Int) < (s.subs.length:Int))) @oD;refine gG ?_;exact ⟨j+1,pJ,gw,gw,om⟩
 have q3:(i:Int) < (s.subs.length:Int):=om;have dZ:=bI (k:=i) om;obtain ⟨p,hp⟩:∃ p,s.subs[i]?=some p:=⟨_,Taa zO⟩;have xh:=hs p (Tac hp);have bm:=Zod hp u;have oW:=b6.foldl zI (hs.take i);generalize (s.subs.take i).foldl qO u=v at oW bm ⊢;obtain ⟨g1,b1⟩:=oW.get (i:=p.1.toNat) om;obtain ⟨g2,b2⟩:=oW.get (i:=p.2.toNat) om;have p256:2 ^ s.names.length<=256:=Tbe (Tbs om h8) (by decide);have eO:=xC (a:=v.getD p.1.toNat 0) (b:=v.getD p.2.toNat 0) om om;have l1:=e6 g1;have l2:=e6 g2;have l3:=fr (l:=v);rw [oW.1] at l3;have i1:0<=p.1:=xh.1;have i2:0<=p.2:=xh.2.2.1;have i4:p.2.toNat < s.names.length:=om;have F:=aj16 @q3 @hp @sy @l1 @l2 @l3 (fX (l:=v)) (qJ (l:=v) p.1.toNat (v.getD p.1.toNat 0 ||| v.getD p.2.toNat 0)) @eO @i1 @i2 (om:p.1.toNat < s.names.length) @i4 @dZ @bm @ZwS;refine gG ?_;exact ⟨i+1,zO,gw,gw,om⟩):p:=h
theorem ZBI (n:Int):az e0 266 [.one (.lit (.int .i64 n))] [.one (.lit (.bool (decide (0<=n∧n<=65535))))]:=by
 refine gI 5 Tryz.func266 ?_;by_cases h1:0<=n <;> by_cases h2:n<=65535 <;> (exact fT (ai @h1 @h2))
theorem sy:∀ p:Int × Int,kU p=[.lit (.int .i64 p.1),.lit (.int .i64 p.2)]:=fun _=>rfl
theorem ZBJ {k:Nat} (h:k < 62):IntKind.u64.wrap (k:Int)=(k:Int):=by
 have h2:(k:Int) < 18446744073709551616:=om;simp only [IntKind.wrap,IntKind.signed,IntKind.bits,Tam,if_false];exact Int.emod_eq_of_lt om om
theorem zq:Tryz.prog.underlying 3=some (.int .i64):=by kernel_rfl
theorem Ar:wx (Tryz.prog.underlying 217)=some .u64:=by kernel_rfl
theorem xS {k:Nat} (h:k < 62):IntKind.i64.wrap (1 * 2 ^ min k 64)=((2 ^ k:Nat):Int):=by
 rw [Nat.min_eq_left om,Int.one_mul,show (2:Int) ^ k=((2 ^ k:Nat):Int) by rw [Int.natCast_pow];rfl];have:=Zh5 h;generalize 2 ^ k=x at this ⊢;exact IntWalk.i64_in _ om
theorem xK (j:Int):DG j (some (.int .i64)) (some .u64)=some (.d (.one (.lit (.int .u64 (IntKind.u64.wrap j))))):=rfl
theorem ZiK {k:Nat} (hk:k < 62):az e0 313 [.one (.lit (.int .i64 k))] [.one (.lit (.int .i64 ((2 ^ k:Nat):Int)))]:=by
 refine gI 5 Tryz.func313 ?_;exact fT (aj6 @zq @Ar @xK (ZBJ hk) (xS hk) @bD)
def fq (a k:Nat):Bool:=a.testBit k
theorem ZHS {a k:Nat} (ha:a < 4611686018427387904) (h:k < 62):decide (bits .and .i64 ((a:Int).fdiv (2 ^ min k 64)) 1=1)=fq a k:=by
 rw [fq];rw [Nat.min_eq_left om,Int.fdiv_eq_ediv_of_nonneg _ (Int.pow_nonneg (by decide)),<- Zuv ha];exact (Bool.beq_eq_decide_eq _ _).symm
theorem Zhn {a k:Nat} (ha:a < 4611686018427387904) (hk:k < 16):az e0 255 [.one (.lit (.int .i64 a)),.one (.lit (.int .i64 k))] [.one (.lit (.bool (fq a k)))]:=by
 have z2:((0:Int)<=(k:Int))=True:=eq_true om;refine gI 19 Tryz.func255 ?_;exact fT (aj8 @zq @Ar @xK (ZBJ (k:=k) om) (ZHS (k:=k) ha om) @bD (lT k 16) @z2)
theorem ZBK (a b:Nat):az e0 303 [.one (.lit (.int .i64 a)),.one (.lit (.int .i64 b))] [.one (.lit (.int .i64 ((min a b:Nat):Int)))]:=by
 refine gI 147 Tryz.func303 ?_;by_cases h:a < b
 ·have e:min a b=a:=Nat.min_eq_left om;exact fT (ai (lT a b) @e)
 ·have e:min a b=b:=Nat.min_eq_right om;exact fT (ai (lF a b) @e)
theorem ZGg (n:Nat):rR n 0=List.replicate n 0:=by simp [rR,jE]
theorem Zpx (n:Nat) (z:List C):(List.replicate n z).length=n:=List.length_replicate
def nR (l:List Nat):List (List C):=(kT l).map d7
section
variable {l:List Nat}
theorem fr:(nR l).length=l.length:=by rw [nR,Tay,Zqf]
theorem e6 {i x:Nat} (h:l[i]?=some x):(nR l)[i]?=some [.lit (.int .i64 x)]:=by rw [nR,Tba,Zqg h];rfl
theorem qJ (i x:Nat):(nR l).set i [.lit (.int .i64 x)]=nR (l.set i x):=by rw [nR,nR,ZBB,List.map_set];rfl
theorem fX:ZaB 1 (nR l)=true:=Zk0 _
theorem Zjo (x:Nat):nR l++[[.lit (.int .i64 x)]]=nR (l++[x]):=by rw [nR,nR,ZxP,Tbv];rfl
end
theorem tl (n:Nat):List.replicate n [C.lit (.int .i64 0)]=nR (List.replicate n 0):=by simp [nR,kT,d7]
theorem ZwS:∀ (l:List Nat) (p:Int × Int),qO l p=l.set p.1.toNat (l.getD p.1.toNat 0 ||| l.getD p.2.toNat 0):=fun _ _=>rfl
theorem ZwT (subs:List (Int × Int)) (l:List Nat):(subs.take 0).foldl qO l=l:=rfl
theorem ZBL (subs:List (Int × Int)) (l:List Nat):(subs.take 0).foldl gn l=l:=rfl
theorem Zqm {subs:List (Int × Int)} {i:Nat} {p:Int × Int} (h:subs[i]?=some p) (l:List Nat):(subs.take (i+1)).foldl gn l=gn ((subs.take i).foldl gn l) p:=ZjS h l
theorem ZBM:nR (jE 0)=[]∧nR (List.range 0)=[]∧nR []=[]:=⟨rfl,rfl,rfl⟩
theorem ZGh (a:Nat):nR (pj a 0)=[]:=rfl
theorem Zod {subs:List (Int × Int)} {i:Nat} {p:Int × Int} (h:subs[i]?=some p) (l:List Nat):(subs.take (i+1)).foldl qO l=qO ((subs.take i).foldl qO l) p:=ZjS h l
section
variable {s:Srt}
theorem Zkv (h1:1<=s.names.length) (h8:s.names.length<=8) (hm:s.subs.length<=16) (hs:rO s.names.length s.subs):az e0 183 [.agg (fZ s)] [.one (.sl (nR (up s)))]:=by
 rw [fZ];refine gI 2072014943 Tryz.func183 ?_;refine fG (aj3 (eq_true (by unfold ak;omega):((s.names.length:Int)<=(ak:Int))=True) @Tbx @Zpx) ?_;rw [tl];have F:=@ZGg;refine gL (ι:=Nat) [3,4,13,14] [3] (fun k=>[(13,A.d (.one (.lit (.int .i64 k)))),(3,.buf 3)]) (fun k=>[(3,.buf none 3 1 (nR (rR s.names.length k)))]) (fun k=>k<=s.names.length) (fun k=>s.names.length - k) (0) (Taj _) (fun k hk=>?_)
 by_cases au:k < s.names.length
 ·have q1:(k:Int) < (s.names.length:Int):=om;have hw:=bI (k:=k) om;have rq:=xS (k:=k) om;have l1:=ZBC (n:=s.names.length) (k:=k) om;have l2:=fr (l:=rR s.names.length k);have l3:=fX (l:=rR s.names.length k);have l4:=qJ (l:=rR s.names.length k) k (2 ^ k);rw [ZBD au] at l4;rw [l1] at l2;obtain ⟨x,hx⟩:∃ x,(rR s.names.length k)[k]?=some x:=⟨_,Taa om⟩;have F:=aj9 @q1 @rq @l2 @l3 @l4 (e6 hx) @au @hw @bD;exact vJ
 obtain rfl:k=s.names.length:=by omega
 rw [ZBE];have hU:=b6.start s.names.length;refine fG (ai (om:¬ ((s.names.length:Int) < (s.names.length:Int))) (by rw [fr,hU.1]:(nR (jE s.names.length)).length=s.names.length)) ?_;have F:=@sC.eq_1;refine gL (ι:=Nat) [3,6,24,25,27,28,29,30] [3] (fun j=>[(24,A.d (.one (.lit (.int .i64 j)))),(3,.buf 3)]) (fun j=>[(3,.buf none 3 1 (nR (sC s.subs j (jE s.names.length))))]) (fun j=>j<=s.names.length) (fun j=>s.names.length - j) (0) (Taj _) (fun j hj=>?_);by_cases pJ:j < s.names.length;rotate_left
 ·exact m133
 refine yK fun q2 oD=>?_;have zI:=b6.iter hs j hU;have rf:sC s.subs (j+1) (jE s.names.length)=s.subs.foldl qO (sC s.subs j (jE s.names.length)):=rfl;generalize sC s.subs j (jE s.names.length)=u at zI rf ⊢;refine fG @q2 ?_;have F:=@ZwT;refine gL (ι:=Nat) [3,6,29,30] [3] (fun i=>[(29,A.d (.one (.lit (.int .i64 i)))),(3,.buf 3)]) (fun i=>[(3,.buf none 3 1 (nR ((s.subs.take i).foldl qO u)))]) (fun i=>i<=s.subs.length) (fun i=>s.subs.length - i) (0) (Taj _) (fun i hi=>?_)
 exact m18
theorem Zh9 (h8:s.names.length<=8) (hm:s.subs.length<=16) (hs:rO s.names.length s.subs):az e0 271 [.agg (fZ s)] [.one (.sl (nR (up s)))]:=by
 rw [fZ];refine gI 2164265087 Tryz.func271 ?_;refine fG @aw ?_;have F:=@ZBM;refine gL (ι:=Nat) [3,4,12] [3] (fun k=>[(4,A.d (.one (.lit (.int .i64 k)))),(3,.buf 3)]) (fun k=>[(3,.buf none 3 1 (nR (jE k)))]) (fun k=>k<=s.names.length) (fun k=>s.names.length - k) (0) (Taj _) (fun k hk=>?_);by_cases au:k < s.names.length
 ·have q1:(k:Int) < (s.names.length:Int):=om;have hw:=bI (k:=k) om;have l2:=fr (l:=jE k);rw [(b6.start k).1] at l2;have l3:=fX (l:=jE k);have l4:=Zjo (l:=jE k) (2 ^ k);rw [<- ZDC] at l4;refine bp @q1 @aw (ZiK (k:=k) om) (aj4 @l2 @l3 @l4 (eq_true (by unfold ak;omega):(k+1<=ak)=True)) ?_;have F:=@hw;exact vJ
 obtain rfl:k=s.names.length:=by omega
 have hU:=b6.start s.names.length;refine fG (om:¬ ((s.names.length:Int) < (s.names.length:Int))) ?_;have F:=@sC.eq_1;refine gL (ι:=Nat) [3,5,6,24,31] [3] (fun j=>[(5,A.d (.one (.lit (.int .i64 j)))),(3,.buf 3)]) (fun j=>[(3,.buf none 3 1 (nR (sC s.subs j (jE s.names.length))))]) (fun j=>j<=s.names.length) (fun j=>s.names.length - j) (0) (Taj _) (fun j hj=>?_);by_cases pJ:j < s.names.length
 rotate_left
 ·exact m133
 refine yK fun q2 oD=>?_;have zI:=b6.iter hs j hU;have rf:sC s.subs (j+1) (jE s.names.length)=s.subs.foldl qO (sC s.subs j (jE s.names.length)):=rfl;generalize sC s.subs j (jE s.names.length)=u at zI rf ⊢;refine fG @q2 ?_;have F:=@ZwT;refine gL (ι:=Nat) [3,6,31] [3] (fun i=>[(6,A.d (.one (.lit (.int .i64 i)))),(3,.buf 3)]) (fun i=>[(3,.buf none 3 1 (nR ((s.subs.take i).foldl qO u)))]) (fun i=>i<=s.subs.length) (fun i=>s.subs.length - i) (0) (Taj _) (fun i hi=>?_)
 exact m18
theorem ZsM (h8:s.names.length<=8) (hm:s.subs.length<=16) (hs:rO s.names.length s.subs):az e0 236 [.agg (fZ s)] [.one (.sl (nR (kinds s)))]:=by
 rw [fZ];refine gI 4328555519 Tryz.func236 ?_;refine fG @aw ?_;have F:=@ZBM;refine gL (ι:=Nat) [3,4,15] [3] (fun k=>[(4,A.d (.one (.lit (.int .i64 k)))),(3,.buf 3)]) (fun k=>[(3,.buf none 3 1 (nR (List.range k)))]) (fun k=>k<=s.names.length) (fun k=>s.names.length - k) (0) (Taj _) (fun k hk=>?_);by_cases au:k < s.names.length
 ·have q1:(k:Int) < (s.names.length:Int):=om;have hw:=bI (k:=k) om;have l2:=fr (l:=List.range k);rw [List.length_range] at l2;have l3:=fX (l:=List.range k);have l4:=Zjo (l:=List.range k) k;rw [<- List.range_succ] at l4;have F:=aj6 @q1 @l2 @l3 @l4 (eq_true (by unfold ak;omega):(k+1<=ak)=True) @hw;exact vJ
 obtain rfl:k=s.names.length:=by omega
 have hU:=lN.start s.names.length;refine fG (om:¬ ((s.names.length:Int) < (s.names.length:Int))) ?_;have F:=@qj.eq_1;refine gL (ι:=Nat) [3,5,6,7,8,9,25,32] [3] (fun j=>[(5,A.d (.one (.lit (.int .i64 j)))),(3,.buf 3)]) (fun j=>[(3,.buf none 3 1 (nR (qj s.subs j (List.range s.names.length))))]) (fun j=>j<=s.names.length) (fun j=>s.names.length - j) (0) (Taj _) (fun j hj=>?_);have zI:=lN.iter hs j hU
 have l0:=fr (l:=qj s.subs j (List.range s.names.length));rw [zI.1] at l0;by_cases pJ:j < s.names.length;rotate_left
 ·obtain rfl:j=s.names.length:=by omega
  rw [kinds];refine fG (ai @l0 (om:¬ ((s.names.length:Int) < (s.names.length:Int)))) ?_;have F:=@aw;refine gG ?_;exact uV [2]
 refine yK fun q2 oD=>?_;have rf:qj s.subs (j+1) (List.range s.names.length)=s.subs.foldl gn (qj s.subs j (List.range s.names.length)):=rfl;generalize qj s.subs j (List.range s.names.length)=u at zI rf l0 ⊢;refine fG (ai @l0 @q2) ?_;have F:=@ZBL;refine gL (ι:=Nat) [3,6,7,8,9,32] [3] (fun i=>[(6,A.d (.one (.lit (.int .i64 i)))),(3,.buf 3)]) (fun i=>[(3,.buf none 3 1 (nR ((s.subs.take i).foldl gn u)))]) (fun i=>i<=s.subs.length) (fun i=>s.subs.length - i) (0) (Taj _) (fun i hi=>?_)
 by_cases zO:i < s.subs.length;rotate_left
 ·exact m121
 have q3:(i:Int) < (s.subs.length:Int):=om;have dZ:=bI (k:=i) om;obtain ⟨p,hp⟩:∃ p,s.subs[i]?=some p:=⟨_,Taa zO⟩;have xh:=hs p (Tac hp);have bm:=Zqm hp u;have oW:=lN.foldl zI (hs.take i);generalize (s.subs.take i).foldl gn u=v at oW bm ⊢;obtain ⟨g1,b1⟩:=oW.get (i:=p.1.toNat) om;obtain ⟨g2,b2⟩:=oW.get (i:=p.2.toNat) om;have l1:=e6 g1;have l2:=e6 g2;have l3:=fr (l:=v);rw [oW.1] at l3
 have l4:=fX (l:=v);have l5:=qJ (l:=v) p.1.toNat (min (v.getD p.1.toNat 0) (v.getD p.2.toNat 0));have l6:=qJ (l:=v.set p.1.toNat (min (v.getD p.1.toNat 0) (v.getD p.2.toNat 0))) p.2.toNat (min (v.getD p.1.toNat 0) (v.getD p.2.toNat 0));have l7:=fr (l:=v.set p.1.toNat (min (v.getD p.1.toNat 0) (v.getD p.2.toNat 0)));rw [Taz,oW.1] at l7;have l8:=fX (l:=v.set p.1.toNat (min (v.getD p.1.toNat 0) (v.getD p.2.toNat 0)))
 obtain ⟨x9,g9⟩:∃ x,(v.set p.1.toNat (min (v.getD p.1.toNat 0) (v.getD p.2.toNat 0)))[p.2.toNat]?=some x:=⟨_,Taa (by rw [Taz,oW.1];omega)⟩;have l9:=e6 g9;have i1:0<=p.1:=xh.1;have i2:0<=p.2:=xh.2.2.1;have i3:p.1.toNat < s.names.length:=om;have i4:p.2.toNat < s.names.length:=om;have bm:(s.subs.take (i+1)).foldl gn u=(v.set p.1.toNat (min (v.getD p.1.toNat 0) (v.getD p.2.toNat 0))).set p.2.toNat (min (v.getD p.1.toNat 0) (v.getD p.2.toNat 0)):=bm
 refine fN 12 @q3 ?_;refine dl 14 (by decide +kernel) ?_;intro ds bG;simp only [List.map] at bG;subst bG;refine (have F:=ai hp sy;gP 12 ?_);refine (have F:=i1;A0 ?_);refine (have F:=i1;A0 ?_);refine fR @i1 ?_;refine bw 13 @aw (aj8 @l1 @l2 @l3 @l4 @i1 @i2 @i3 @i4) (ZBK (v.getD p.1.toNat 0) (v.getD p.2.toNat 0)) @aw ?_;have F:=aj15 @l1 @l2 @l3 @l4 @l5 @l6 @l7 @l8 @l9 @i1 @i2 @i3 @i4 @dZ @bm;refine gG ?_;exact ⟨i+1,zO,gw,gw,om⟩
theorem ZfW (hs:SortsOk s):az e0 236 [.agg (fZ s)] [.one (.sl ((kT (kinds s)).map d7))]:=ZsM hs.n8 hs.m16 (SortsOk.subsIn hs.subs)
end
theorem Zoe {x k:Nat} (hx:x < 4611686018427387904) (hk:k < 62):decide (bits .and .i64 (x:Int) ((2 ^ k:Nat):Int)=0)=!(fq x k):=by
 rw [fq,<- testBit_and,za hx (Zh5 hk)];simp only [bne,Bool.not_not];rw [Bool.eq_iff_iff,decide_eq_true_eq,beq_iff_eq];omega
theorem ZxR {a:Nat} (ha:a < 65536):az e0 184 [.one (.lit (.int .i64 a))] [.one (.sl (nR (wH a)))]:=by
 have cS:=ZBI (a:Int);have z0:decide (0<=(a:Int)∧(a:Int)<=65535)=true:=decide_eq_true om;rw [z0] at cS;refine gI 264221 Tryz.func184 ?_;refine fG @aw ?_;have F:=@ZGh;refine gL (ι:=Nat) [3,4,11,18] [3] (fun k=>[(4,A.d (.one (.lit (.int .i64 k)))),(3,.buf 3)]) (fun k=>[(3,.buf none 3 1 (nR (pj a k)))]) (fun k=>k<=16) (fun k=>16 - k) (0) om (fun k hk=>?_);by_cases au:k < 16;rotate_left
 ·obtain rfl:k=16:=by omega
  rw [show wH a=pj a 16 from rfl];refine fG (om:¬ (((16:Nat):Int) < 16)) ?_;have F:=@aw;refine gG ?_;exact uV [2]
 have q1:=lT k 16;have hw:=bI (k:=k) om;have h1:=xS (k:=k) om;have h2:=Zoe (x:=a) (k:=k) om om;refine bw 3 @aw @q1 (cS) @q1 ?_;have l2:=fr (l:=pj a k);have l3:=fX (l:=pj a k);have l4:=Zjo (l:=pj a k) k;have dg:((pj a k).length+1<=ak)=True:=eq_true (by have:=Zoa a k;unfold ak;omega)
 cases hb:fq a k with
 | false =>
  rw [hb] at h2;rw [<- ZBF hb];have F:=aj5 @q1 @h1 @h2 @bD @hw;exact vJ
 | true =>
  rw [hb] at h2;rw [<- ZxQ hb] at l4;have F:=aj9 @q1 @h1 @h2 @bD @l2 @l3 @l4 @dg @hw;exact vJ
end Go.Proofs.YtbecmfjokofihaaGreatDoor
namespace Go.Proofs.YtbecmfjokofihaaGreatDoor
open Go.RowKit Go.MapKept Go.ChangeMaps
def jI (w:World) (b:Nat) (l:List (ByteArray × Value)):Prop:=∃ (es:Array MapEntry) (nH:Nat),w.heap[b]?=some (.map es nH)∧es.toList.map (fun e=>(e.key,e.val))=l.map (fun p=>(Value.string p.1,p.2))
def jf (l:List (ByteArray × Value)) (s:ByteArray):Option Value:=(l.find? fun p=>s.toList==p.1.toList).map (·.2)
def eI (b:Nat) (l:List (ByteArray × Value)):Bk:=.set (fun g=>g=b) fun w=>jI w b l
theorem jI.stable (b:Nat) (l:List (ByteArray × Value)):tD (fun g=>g=b) fun w=>jI w b l:=fun w w' _ hE ⟨es,c,h1,h2⟩=>⟨es,c,by rw [hE b rfl];exact h1,h2⟩
theorem jI.lt {w:World} {b:Nat} {l:List (ByteArray × Value)} (h:jI w b l):b < w.heap.size:=by
 obtain ⟨es,nH,h,_⟩:=h;exact (Tbl.1 h).1
theorem Zm6 (s:ByteArray):∀ (es:List MapEntry) (l:List (ByteArray × Value)) (i:Nat),es.map (fun e=>(e.key,e.val))=l.map (fun p=>(Value.string p.1,p.2)) ->
  (∀ v,jf l s=some v->∃ j,Instr.findNow .string (.string s) es i=some (some (j,v)))∧(jf l s=none->Instr.findNow .string (.string s) es i=some none)
 | [],[],i,_=>⟨fun v h=>by simp [jf] at h,fun _=>rfl⟩
 | [],_::_,_,h=>by simp at h
 | _::_,[],_,h=>by simp at h
 | e::es,t::ts,i,h=>by
  simp only [Tbu,List.cons.injEq,Prod.mk.injEq] at h;obtain ⟨⟨h1,h2⟩,h3⟩:=h;obtain ⟨ih1,ih2⟩:=Zm6 s es ts (i+1) h3;simp only [Instr.findNow,h1,h2,Instr.sameNow,beq_toListBytes,jf,List.find?_cons]
  cases he:(s.toList==t.1.toList)
  ·exact ⟨ih1,ih2⟩
  ·exact ⟨fun v hv=>⟨i,by simpa using hv⟩,fun h=>by simp at h⟩
section
variable {P:Program} {w:World} {b:Nat} {l:List (ByteArray × Value)} {t k el:TypeId}
theorem ZDH (h:jI w b l) (ht:P.underlying t=some (.map k el)) (hk:P.underlying k=some .string) {z:Value} (hz:∀ w,(zeroValue el).run P w=.ok z w) (s:ByteArray) (ok:Bool) :
  (Instr.lookup t (.map (some b)) (.string s) ok).run P w=.ok (if ok then .tuple #[(jf l s).getD z,.bool (jf l s).isSome] else (jf l s).getD z) w:=by
 obtain ⟨es,nH,h1,h2⟩:=h;obtain ⟨f1,f2⟩:=Zm6 s es.toList l 0 h2;have hc:∀ em,(Instr.checkKey em 10000 k (.string s)).run P w=.ok () w:=fun em=>MapKept.run_checkKey hk (by simp [MapKept.IsKey]) em 9999;rcases hs:jf l s with _ | v
 ·have:=MapKept.run_findKey (w:=w) hk (f2 hs);simp [Instr.lookup,run_underlying ht,MapKept.run_getObj_map h1,hc,this,hs,hz]
 ·obtain ⟨j,hf⟩:=f1 v hs;have:=MapKept.run_findKey (w:=w) hk hf;simp [Instr.lookup,run_underlying ht,MapKept.run_getObj_map h1,hc,this,hs]
theorem ZGi (h:jI w b l) (ht:P.underlying t=some (.map k el)) (hk:P.underlying k=some .string) {s:ByteArray} (hs:jf l s=none) (v:Value) :
  ∃ w',(Instr.mapUpdate t (.map (some b)) (.string s) v).run P w=.ok () w'∧jI w' b (l++[(s,v)])∧w'.os=w.os∧w'.tape=w.tape∧w'.output=w.output∧w'.drawn=w.drawn∧w'.heap.size=w.heap.size∧∀ x,x≠b->w'.heap[x]?=w.heap[x]?:=by
 obtain ⟨es,nH,h1,h2⟩:=h;obtain ⟨f1,f2⟩:=Zm6 s es.toList l 0 h2;have hc:∀ em,(Instr.checkKey em 10000 k (.string s)).run P w=.ok () w:=fun em=>MapKept.run_checkKey hk (by simp [MapKept.IsKey]) em 9999;have:=MapKept.run_findKey (w:=w) hk (f2 hs);refine ⟨setBlock w b (.map (es.push { key:=.string s,val:=v,born:=nH }) (nH+1)),?_,⟨_,_,heap_setBlock_same h1 _,by simp [h2]⟩,rfl,rfl,rfl,rfl,by simp [setBlock],fun x hx=>heap_setBlock_other h1 _ hx⟩
 simp [Instr.mapUpdate,run_underlying ht,MapKept.run_getObj_map h1,hc,this,MapKept.run_setObj_map _ h1,setBlock]
end
section
variable {e:Env} {σ:St} {o:Oper} {K:St->Prop}
theorem ZuA {t:TypeId} (ho:o.op=.makeMap t none) {d:Nat} (i7:o.dst=some d) (hK:∀ b:Nat,K ⟨(d,.d (.one (.lit (.map (some b)))))::bM d σ.s,(d,eI b [])::aA d σ.m⟩):iT e o σ K:=by
 intro he U w0 S0 nt a w Q hd ⟨S,L,h1⟩;have hb:Below w.heap.size w (w.alloc (.map #[] 0)):=wF w _;have hk:Kept e.D (fun b=>(none:Option Nat)=some b) w.heap.size w (w.alloc (.map #[] 0)):=Kept.of_below hb (fun _=>Tai _);unfold Oper.wp;refine m213 fun aJ=>?_
 rw [aJ,Oper.upon_value,i7];refine ⟨_,hK w.heap.size,h1.born he (hd d i7) (τ:=none) (b':=0) (v':=Go.undef) (S':=S) (fun _ h=>h) (fun _ h=>.inl h) (fun t=>.inl rfl) (fun k x h=>h) (by simp) (by simp) hk ?_ ?_ (by simp [ax,aW,aQ])⟩
 ·simp only [bL,eI];refine ⟨fun b dC=>?_,⟨#[],0,heap_alloc_new w _,rfl⟩,jI.stable _ _⟩;subst dC;exact ⟨by simp,fun hs=>by have:=(h1.cls.sin _ hs).1;omega⟩
 ·intro g hg;simp only [cQ,eI] at hg;exact .inr om
theorem Zqn {t:TypeId} {x y:Operand} {ok:Bool} (ho:o.op=.lookup t x y ok) {κ b:Nat} {l:List (ByteArray × Value)} {s:ByteArray} {kt el:TypeId} {z:Value} (ht:e.P.underlying t=some (.map kt el)) (hk:e.P.underlying kt=some .string) (hz:∀ w,(zeroValue el).run e.P w=.ok z w)
  (hx:aL σ.s x=.d (.one (.lit (.map (some b))))) (hy:aL σ.s y=.d (.one (.lit (.string s)))) (hm:gm σ.m κ=some (eI b l)) {α:A} (hα:∀ (w:World) (S:Nat->Prop) (L:Lay),ax w S L α (if ok then .tuple #[(jf l s).getD z,.bool (jf l s).isSome] else (jf l s).getD z)) (hK:K ⟨aI σ.s o.dst α,σ.m⟩):iT e o σ K:=by
 intro he U w0 S0 nt a w Q hd ⟨S,L,h1⟩;have bj:=h1.eval x;have iC:=h1.eval y;rw [hx] at bj;rw [hy] at iC;have bj:a.eval x=.map (some b):=by simpa [ax,aW,aQ] using bj
 have iC:a.eval y=.string s:=by simpa [ax,aW,aQ] using iC
 obtain ⟨_,hM,_⟩:=h1.cls.own κ _ hm;unfold Oper.wp;have aJ:(execOp a.eval o).run e.P w=.ok (.value (if ok then .tuple #[(jf l s).getD z,.bool (jf l s).isSome] else (jf l s).getD z)) w:=by
  simp [execOp,ho,bj,iC,ZDH hM ht hk hz s ok,Result.andThen]
 rw [aJ,Oper.upon_value];exact ⟨_,hK,S,L,h1.put (hα w S L) hd⟩
theorem ZDI {t:TypeId} {x y u:Operand} (ho:o.op=.mapUpdate t x y u) {κ b:Nat} {l:List (ByteArray × Value)} {s:ByteArray} {kt el:TypeId} {v:Value} (fL:o.dst=none) (ht:e.P.underlying t=some (.map kt el)) (hk:e.P.underlying kt=some .string)
  (hx:aL σ.s x=.d (.one (.lit (.map (some b))))) (hy:aL σ.s y=.d (.one (.lit (.string s)))) (hu:aL σ.s u=.d (.one (.lit v))) (hm:gm σ.m κ=some (eI b l)) (hs:jf l s=none) (hK:K ⟨σ.s,(κ,eI b (l++[(s,v)]))::aA κ σ.m⟩):iT e o σ K:=by
 intro he U w0 S0 nt a w Q hd ⟨S,L,h1⟩;have bj:=h1.eval x;have iC:=h1.eval y;have nV:=h1.eval u;rw [hx] at bj;rw [hy] at iC;rw [hu] at nV;have bj:a.eval x=.map (some b):=by simpa [ax,aW,aQ] using bj
 have iC:a.eval y=.string s:=by simpa [ax,aW,aQ] using iC
 have nV:a.eval u=v:=by simpa [ax,aW,aQ] using nV
 obtain ⟨rY,hM,_⟩:=h1.cls.own κ _ hm;obtain ⟨w',aJ,hM',o1,o2,o3,o4,o5,o6⟩:=ZGi hM ht hk hs v;unfold Oper.wp;have aJ:(execOp a.eval o).run e.P w=.ok .skip w':=by
  simp [execOp,ho,bj,iC,nV,aJ,Result.andThen]
 rw [aJ,Oper.upon_skip,fL];have ky:∀ c,S c->w'.heap[c]?=w.heap[c]?:=fun c hc=>o6 c fun e1=>(rY b rfl).2 (e1 ▸ hc)
 obtain ⟨t1,t2,t3⟩:=h1.touch he (d:=κ) (bk:=eI b (l++[(s,v)])) (m':=(κ,eI b (l++[(s,v)]))::aA κ σ.m) (w':=w') (L':=L) (τ:=some b) (S':=S) (fun _ h=>h) (fun _ h=>.inl h)
  (fun k' x cj hx=>by simp only [gm,cj,if_false,iL] at hx;exact hx) (by simp [gm]) (fun _ _=>⟨rfl,rfl⟩)
  (fun g hg=>by injection hg with hg;subst hg;exact ⟨(rY b rfl).2,h1.cls.notE hm rfl,h1.cls.mine κ _ _ hm rfl⟩)
  (fun k' x g cj hx hg hb=>by
   injection hg with hg;subst hg
   simp only [gm,cj,if_false,iL] at hx;exact cj (h1.cls.inj k' κ x _ _ hx hm hb rfl))
  ⟨o1,o2,o3,fun _=>Nat.le_of_eq o4.symm,om,fun c hc hE=>o6 c (fun eq=>hE (by rw [eq]))⟩
  ⟨fun c hc=>by have:=rY c hc;exact ⟨om,this.2⟩,hM',jI.stable _ _⟩ (fun g hg=>.inl (by simp only [cQ,eI] at hg;rw [hg]))
 exact ⟨_,hK,S,L,t1,fun t=>t3 _ _ (fun _=>⟨rfl,rfl⟩) (h1.rel t),h1.size,h1.defers,t2⟩
end
section
variable {e:Env} {K:St->Prop} {ds:List (Option Nat)} {os:List Oper} {s:List (Nat × A)} {m:List (Nat × Bk)}
theorem Zgt {o:Oper} {σ:St} (hg:o.guard=none) (h:iT e o σ (fun σ'=>al e ds 0 os σ' K)):al e ds 0 (o::os) σ K:=by
 simp only [al] at h ⊢;exact ut hg h
theorem gMk {d t ty:Nat} {p:String} {ed:Array Edge} {s2:List (Nat × A)} {m2:List (Nat × Bk)} (hK:∀ b:Nat,al e ds 0 os ⟨(d,.d (.one (.lit (.map (some b)))))::s2,(d,eI b [])::m2⟩ K) (hs:bM d s=s2:=by exact cJ) (hr:aA d m=m2:=by exact cJ):al e ds 0 (⟨some d,.makeMap t none,ty,p,ed,none⟩::os) ⟨s,m⟩ K :=
 Zgt rfl (ZuA rfl rfl (by simp only [hs,hr];exact hK))
theorem gLk {d t ty:Nat} {p:String} {ed:Array Edge} {x y:Operand} {b:Nat} {l:List (ByteArray × Value)} {k:ByteArray} {kt el:TypeId} {z v:Value} (κ:Nat) (ht:e.P.underlying t=some (.map kt el)) (hk:e.P.underlying kt=some .string) (hz:∀ w,(zeroValue el).run e.P w=.ok z w) (hv:(jf l k).getD z=v)
  (hK:al e ds 0 os ⟨(d,.d (.one (.lit v)))::s,m⟩ K) (hx:aL s x=.d (.one (.lit (.map (some b)))):=by exact j5) (hy:aL s y=.d (.one (.lit (.string k))):=by exact j5) (hm:gm m κ=some (eI b l):=by exact nf):al e ds 0 (⟨some d,.lookup t x y false,ty,p,ed,none⟩::os) ⟨s,m⟩ K :=
 Zgt rfl (Zqn rfl ht hk hz hx hy hm (α:=.d (.one (.lit v))) (fun w S L=>by rw [<- hv];simp [ax,aW,aQ]) hK)
theorem gUp {t ty:Nat} {p:String} {ed:Array Edge} {x y u:Operand} {b:Nat} {l:List (ByteArray × Value)} {k:ByteArray} {kt el:TypeId} {v:Value} {m2:List (Nat × Bk)} (κ:Nat) (ht:e.P.underlying t=some (.map kt el)) (hk:e.P.underlying kt=some .string) (hs:jf l k=none)
  (hK:al e ds 0 os ⟨s,(κ,eI b (l++[(k,v)]))::m2⟩ K) (hx:aL s x=.d (.one (.lit (.map (some b)))):=by exact j5) (hy:aL s y=.d (.one (.lit (.string k))):=by exact j5) (hu:aL s u=.d (.one (.lit v)):=by exact j5)
  (hm:gm m κ=some (eI b l):=by exact nf) (hr:aA κ m=m2:=by exact cJ):al e ds 0 (⟨none,.mapUpdate t x y u,ty,p,ed,none⟩::os) ⟨s,m⟩ K :=
 Zgt rfl (ZDI rfl rfl ht hk hx hy hu hm hs (by simp only [hr];exact hK))
end
end Go.Proofs.YtbecmfjokofihaaGreatDoor
namespace Go.Proofs.YtbecmfjokofihaaGreatDoor
open Go.RowKit
theorem m154 {p:Prop} (h:p:=by
 refine gI 71 Tryz.func95 ?_;by_cases h1:lo<=x
 ·by_cases h2:x<=hi
  ·exact fT (ai @h1 @h2)
  ·exact fT (ai @h1 @h2)
 ·exact fT @h1):p:=h
def qh (l:List ByteArray):List (ByteArray × Value):=l.map fun x=>(x,.bool true)
theorem Zof (l:List ByteArray) (s:ByteArray):jf (qh l) s=if iR l s then some (.bool true) else none:=by
 induction l with
 | nil=>rfl
 | cons x xs ih =>
  simp only [jf,qh,iR,Tbu,List.any_cons] at ih ⊢;by_cases h:(s.toList==x.toList)=true
  ·rw [List.find?_cons_of_pos (by exact h)];simp [h]
  ·rw [List.find?_cons_of_neg (by exact h),ih];simp [h]
theorem ZxS {l:List ByteArray} {i:Nat} {x:ByteArray} (h:l[i]?=some x):qh (l.take i)++[(x,.bool true)]=qh (l.take (i+1)):=by
 rw [List.take_add_one,h,qh,qh,Tbv];rfl
theorem Zia:∀ x,kj x=[.lit (.string x)]:=fun _=>rfl
theorem Dm:e0.P.underlying 254=some (.map 9 4):=by kernel_rfl
theorem xA:e0.P.underlying 9=some .string:=by kernel_rfl
theorem Zl0:∀ w,(zeroValue 4).run e0.P w=.ok (.bool false) w:=fun w=>by kernel_rfl
theorem ZGj:qh []=[]∧∀ l:List ByteArray,qh (l.take 0)=[]:=⟨rfl,fun _=>rfl⟩
section
variable {s:Srt}
theorem Zkw (aj:Zn4 s):az e0 182 [.agg (fZ s)] [.one (.lit (.bool (ob s)))]:=by
 have bC:¬ SortsOk s->ob s=false:=Zhu;have cU:=fun h1 h2 h3 h4=>Zkv (s:=s) h1 h2 h3 h4;have mZ:=Zk1 s.names;rw [fZ] at cU ⊢;refine gI 41538379337072913235836183427157855 Tryz.func182 ?_;by_cases h1:1<=s.names.length;rotate_left
 ·have hf:=bC fun h=>h1 h.n1;have z1:=lT s.names.length 1;exact fT (ai @z1 @hf)
 have z1:=lF s.names.length 1;by_cases h8:s.names.length<=8;rotate_left
 ·have hf:=bC fun h=>h8 h.n8;have z2:=lT 8 s.names.length;exact fT (aj3 @z1 @z2 @hf)
 have z2:=lF 8 s.names.length;by_cases A6:s.subs.length<=16;rotate_left
 ·have hf:=bC fun h=>A6 h.m16;have z3:=lT 16 s.subs.length;exact fT (aj4 @z1 @z2 @z3 @hf)
 have z3:=lF 16 s.subs.length;refine fN 4 (aj3 @z1 @z2 @z3) ?_;refine gB ?_;refine gMk fun b=>?_;refine fR @aw ?_;refine fG @aw ?_;have F:=@ZGj;refine gL (ι:=Nat) [2,6,31,32,42] [27] (fun i=>[(31,A.d (.one (.lit (.int .i64 i))))]) (fun i=>[(27,eI b (qh (s.names.take i)))]) (fun i=>i<=s.names.length∧∀ j,j < i->Zk4 s.names j) (fun i=>s.names.length - i) (0) (⟨Taj _,fun j h=>absurd h om⟩) (fun i hi=>?_);clear F
 obtain ⟨ci,aD⟩:=hi;by_cases au:i < s.names.length
 ·have q1:(i:Int) < (s.names.length:Int):=om;obtain ⟨x,hx⟩:∃ x,s.names[i]?=some x:=⟨_,Taa au⟩;have hw:=bI (k:=i) om;have nO:=Zof (s.names.take i) x;have bS:¬ (iS x=true∧iR (s.names.take i) x=false)->ob s=false:=fun h=>bC fun hs=>h (hs.names i au x hx);have cN:=Zh7 (aj.1 x (Tac hx));refine fN 8 (aj3 @q1 @hx @Zia) ?_;refine gB ?_;have F:=@aw;refine gP 2 ?_;clear F
  cases hh:iR (s.names.take i) x with
  | true =>
   rw [hh] at nO bS;have hf:=bS fun h=>by cases h.2
   refine (have F:=aw;gLk 27 Dm xA Zl0 (v:=.bool true) (by rw [nO];rfl) ?_);refine fR @aw ?_;exact fT @hf
  | false =>
  rw [hh] at nO bS;refine (have F:=aw;gLk 27 Dm xA Zl0 (v:=.bool false) (by rw [nO];rfl) ?_);refine fC @aw (cN) ?_
  cases hn:iS x with
  | false =>
   have hf:=bS fun h=>by rw [hn] at h;cases h.1
   refine fR @aw ?_;exact fT @hf
  | true =>
  have hq:i+1<=s.names.length∧∀ j,j < i+1->Zk4 s.names j:=⟨au,fun j hj=>by
   by_cases e:j=i
   ·subst e;intro y hy;rw [hx] at hy;injection hy with hy
    subst hy;exact ⟨hn,hh⟩
   ·exact aD j om⟩
  have qv:=ZxS hx;refine fR @aw ?_;refine fN 10 @aw ?_;refine gB ?_;have F:=@aw;refine gP 2 ?_;clear F;refine (have F:=aw;gUp 27 Dm xA (by rw [nO];rfl) ?_);rw [qv];refine fR @aw ?_;have F:=@hw;refine gG ?_;exact ⟨i+1,hq,gw,gw,om⟩
 obtain rfl:i=s.names.length:=by omega
 have q1:¬ ((s.names.length:Int) < (s.names.length:Int)):=om;refine fG @q1 ?_;have F:=@aw;refine gL (ι:=Nat) [2,8,49,50,79] [] (fun k=>[(49,A.d (.one (.lit (.int .i64 k))))]) (fun k=>[]) (fun k=>k<=s.subs.length∧∀ (j:Nat) p,j < k->s.subs[j]?=some p->wP s.names.length p) (fun k=>s.subs.length - k) (0) (⟨Taj _,fun j p h=>absurd h om⟩) (fun k hk=>?_);clear F;obtain ⟨eX,et⟩:=hk;by_cases lA:k < s.subs.length
 ·have q2:(k:Int) < (s.subs.length:Int):=om;obtain ⟨p,hp⟩:∃ x,s.subs[k]?=some x:=⟨_,Taa lA⟩;have hw:=bI (k:=k) om;have bS:¬ wP s.names.length p->ob s=false:=fun h=>bC fun hs=>h (hs.subs p (Tac hp));by_cases c1:p.1 < 0
  ·have hf:=bS fun h=>by have:=h.1;omega
   exact fT (aj5 @q2 @hp @sy @c1 @hf)
  by_cases c2:(s.names.length:Int)<=p.1
  ·have hf:=bS fun h=>by have:=h.2.1;omega
   exact fT (aj6 @q2 @hp @sy @c1 @c2 @hf)
  by_cases c3:p.2 < 0
  ·have hf:=bS fun h=>by have:=h.2.2.1;omega
   exact fT (aj7 @q2 @hp @sy @c1 @c2 @c3 @hf)
  by_cases c4:(s.names.length:Int)<=p.2
  ·have hf:=bS fun h=>by have:=h.2.2.2.1;omega
   exact fT (aj8 @q2 @hp @sy @c1 @c2 @c3 @c4 @hf)
  by_cases c5:p.1=p.2
  ·have hf:=bS fun h=>h.2.2.2.2 c5;have c5:(p.1=p.2)=True:=eq_true c5;exact fT (aj9 @q2 @hp @sy @c1 @c2 @c3 @c4 @c5 @hf)
  have hq:k+1<=s.subs.length∧∀ (j:Nat) p,j < k+1->s.subs[j]?=some p->wP s.names.length p:=⟨lA,fun j p' hj ek=>by
   by_cases e:j=k
   ·subst e;rw [hp] at ek;injection ek with ek
    subst ek;exact ⟨om,om,om,om,c5⟩
   ·exact et j p' om ek⟩
  have F:=aj9 @q2 @hp @sy @c1 @c2 @c3 @c4 @c5 @hw;refine gG ?_;exact ⟨k+1,hq,gw,gw,om⟩
 obtain rfl:k=s.subs.length:=by omega
 have q2:¬ ((s.subs.length:Int) < (s.subs.length:Int)):=om;have pQ:∀ p∈s.subs,wP s.names.length p:=fun p hp=>by obtain ⟨j,hj⟩:=Tbk hp;exact et j p (Tad.1 hj).1 hj
 have sL:=SortsOk.subsIn pQ;have hU:=wO sL;have vB:(∀ i k,i < s.names.length->k < s.names.length->qG (up s) i k)->ob s=true:=fun h=>Zgr ⟨h1,h8,A6,fun i hi=>aD i hi,pQ,h⟩;have vm:∀ i k,i < s.names.length->k < s.names.length->¬ qG (up s) i k->ob s=false:=fun i k h1 h2 h3=>bC fun h=>h3 (h.pairs i k h1 h2);have lU:=fr (l:=up s);rw [hU.1] at lU;have rU:=fX (l:=up s);refine fB @q2 ?_
 refine fC @aw (cU h1 h8 A6 sL) ?_;refine fR @aw ?_;generalize up s=u at hU vB vm lU rU ⊢;have hpw:∀ i,i < s.names.length->u[i]?=some (u.getD i 0)∧u.getD i 0 < 4611686018427387904:=fun i hi=>by
  obtain ⟨g1,g2⟩:=hU.get hi;exact ⟨g1,Nat.lt_trans g2 (Zh5 om)⟩
 refine fG @lU ?_;have F:=@aw;refine gL (ι:=Nat) [2,10,11,85,86,89,90,91,115] [] (fun i=>[(85,A.d (.one (.lit (.int .i64 i))))]) (fun i=>[]) (fun i=>i<=s.names.length∧∀ i' k,i' < i->k < s.names.length->qG u i' k) (fun i=>s.names.length - i) (0) (⟨Taj _,fun i' k h=>absurd h om⟩) (fun i hi=>?_);clear F;obtain ⟨ci,hpi⟩:=hi;by_cases au:i < s.names.length;rotate_left
 ·have q3:¬ ((i:Int) < (s.names.length:Int)):=om;have ht:=vB fun i' k h1 h2=>hpi i' k om h2;exact fT (ai @q3 @ht)
 have q3:(i:Int) < (s.names.length:Int):=om;have dZ:=bI (k:=i) om;obtain ⟨gi,bi⟩:=hpw i au;refine fG (ai @q3 @lU) ?_;have F:=@aw;refine gL (ι:=Nat) [2,11,90,91,115] [] (fun k=>[(90,A.d (.one (.lit (.int .i64 k))))]) (fun k=>[]) (fun k=>k<=s.names.length∧∀ k',k' < k->qG u i k') (fun k=>s.names.length - k) (0) (⟨Taj _,fun k h=>absurd h om⟩) (fun k hk=>?_);clear F;obtain ⟨eX,hpk⟩:=hk;have na:=bI (k:=k) om
 by_cases lA:k < s.names.length;rotate_left
 ·have q4:¬ ((k:Int) < (s.names.length:Int)):=om;have hq:i+1<=s.names.length∧∀ i' k,i' < i+1->k < s.names.length->qG u i' k:=⟨au,fun i' k' h h2=>by
   by_cases e:i'=i
   ·subst e;exact hpk k' om
   ·exact hpi i' k' om h2⟩
  have F:=ai @q4 @dZ;refine gG ?_;exact ⟨i+1,hq,gw,gw,om⟩
 have q4:(k:Int) < (s.names.length:Int):=om;obtain ⟨gk,bk⟩:=hpw k lA;have nx:qG u i k->k+1<=s.names.length∧∀ k',k' < k+1->qG u i k':=fun h=>⟨lA,fun k' h2=>by
  by_cases e:k'=k
  ·subst e;exact h
  ·exact hpk k' om⟩
 have si:=xS (k:=i) om;have sk:=xS (k:=k) om;have a1:=Zoe (x:=u.getD i 0) (k:=k) bi om;have a2:=Zoe (x:=u.getD k 0) (k:=i) bk om;have r1:=e6 gi;have r2:=e6 gk;by_cases xc:i=k
 ·have z4:((i:Int)=(k:Int))=True:=eq_true om;have hq:=nx fun h=>h.1 xc;have F:=aj3 @q4 @z4 @na;refine gG ?_;exact ⟨k+1,hq,gw,gw,om⟩
 have z4:((i:Int)=(k:Int))=False:=eq_false om
 cases b1:fq (u.getD i 0) k with
 | false =>
  rw [b1] at a1;have hq:=nx fun h=>by have:=h.2.1;rw [show (u.getD i 0).testBit k=false from b1] at this;cases this
  have F:=aj8 @q4 @z4 @sk @a1 @r1 @rU @bD @na;refine gG ?_;exact ⟨k+1,hq,gw,gw,om⟩
 | true =>
 rw [b1] at a1
 cases b2:fq (u.getD k 0) i with
 | false =>
  rw [b2] at a2;have hq:=nx fun h=>by have:=h.2.2;rw [show (u.getD k 0).testBit i=false from b2] at this;cases this
  have F:=aj11 @q4 @z4 @sk @si @a1 @a2 @r1 @r2 @rU @bD @na;refine gG ?_;exact ⟨k+1,hq,gw,gw,om⟩
 | true =>
  rw [b2] at a2;have hf:=vm i k au lA fun h=>h ⟨xc,b1,b2⟩;exact fT (aj11 @q4 @z4 @sk @si @a1 @a2 @r1 @r2 @rU @bD @hf)
end
theorem zg (x lo hi:Int):az e0 95 [.one (.lit (.int .i64 x)),.one (.lit (.int .i64 lo)),.one (.lit (.int .i64 hi))] [.one (.lit (.bool (decide (lo<=x∧x<=hi))))]:=by
 exact m154
theorem ZBN {l:List ByteArray} (s:ByteArray) (hl:l.length<=1048576):az e0 270 [.one (.sl (l.map kj)),.one (.lit (.string s))] [.one (.lit (.bool (iR l s)))]:=by
 have hr:=Zk1 l;refine gI 131635 Tryz.func270 ?_;refine fG @aw ?_;have F:=@aw;refine gL (ι:=Nat) [4,5,9,17] [] (fun i=>[(5,A.d (.one (.lit (.int .i64 i))))]) (fun i=>[]) (fun i=>i<=l.length∧iR l s=iR (l.drop i) s) (fun i=>l.length - i) (0) (⟨Taj _,rfl⟩) (fun i hi=>?_);obtain ⟨ci,he⟩:=hi;rw [he];by_cases au:i < l.length;rotate_left
 ·exact fT (ai (om:¬ ((i:Int) < (l.length:Int))) (by rw [List.drop_eq_nil_of_le om];rfl:iR (l.drop i) s=false))
 have q1:(i:Int) < (l.length:Int):=om;obtain ⟨x,hx⟩:∃ x,l[i]?=some x:=⟨_,Taa au⟩;have hw:=bI (k:=i) om;have bm:=Zux (s:=s) hx
 cases hb:(x.toList==s.toList) with
 | true =>
  exact fT (aj6 @q1 @hr @hx @Zia @hb (by rw [bm,hb];rfl:iR (l.drop i) s=true))
 | false =>
  have F:=aj6 @q1 @hr @hx @Zia @hb @hw;refine gG ?_;exact ⟨i+1,⟨au,(by rw [bm,hb,Bool.false_or]:iR (l.drop i) s=iR (l.drop (i+1)) s)⟩,gw,gw,om⟩
section
variable {s:Srt}
theorem Zrc (aj:Zn4 s):az e0 194 [.agg (fZ s)] [.one (.lit (.bool (ob s)))]:=by
 have bC:¬ SortsOk s->ob s=false:=Zhu;have cU:=fun h2 h3 h4=>Zh9 (s:=s) h2 h3 h4;have mZ:=Zk1 s.names;rw [fZ] at cU ⊢;refine gI 21267982750773439247570160629959360767 Tryz.func194 ?_;by_cases h1:1<=s.names.length;rotate_left
 ·have hf:=bC fun h=>h1 h.n1;have z1:=lT s.names.length 1;exact fT (ai @z1 @hf)
 have z1:=lF s.names.length 1;by_cases h8:s.names.length<=8;rotate_left
 ·have hf:=bC fun h=>h8 h.n8;have z2:=lT 8 s.names.length;exact fT (aj3 @z1 @z2 @hf)
 have z2:=lF 8 s.names.length;by_cases A6:s.subs.length<=16;rotate_left
 ·have hf:=bC fun h=>A6 h.m16;have z3:=lT 16 s.subs.length;exact fT (aj4 @z1 @z2 @z3 @hf)
 have z3:=lF 16 s.subs.length;have vA:IntKind.i64.wrap ((s.names.length:Int) - 1)=(s.names.length:Int) - 1:=IntWalk.i64_in _ om;refine fG (aj3 @z1 @z2 @z3) ?_;have F:=@aw;refine gL (ι:=Nat) [2,3,28,49] [] (fun i=>[(3,A.d (.one (.lit (.int .i64 i))))]) (fun i=>[]) (fun i=>i<=s.names.length∧∀ j,j < i->Zk4 s.names j) (fun i=>s.names.length - i) (0) (⟨Taj _,fun j h=>absurd h om⟩) (fun i hi=>?_);clear F
 obtain ⟨ci,aD⟩:=hi;by_cases au:i < s.names.length
 ·have q1:(i:Int) < (s.names.length:Int):=om;obtain ⟨x,hx⟩:∃ x,s.names[i]?=some x:=⟨_,Taa au⟩;have hw:=bI (k:=i) om;have bS:¬ (iS x=true∧iR (s.names.take i) x=false)->ob s=false:=fun h=>bC fun hs=>h (hs.names i au x hx);have cN:=Zh8 (aj.1 x (Tac hx));have cH:=ZBN (l:=s.names.take i) x (by rw [Taw];omega);rw [List.map_take] at cH;have z4:((i:Int)<=(s.names.length:Int))=True:=eq_true om;refine fB @q1 ?_
  refine fC (aj3 @mZ @hx @Zia) (cN) ?_
  cases hn:iS x with
  | false =>
   have hf:=bS fun h=>by rw [hn] at h;cases h.1
   refine fR @aw ?_;exact fT @hf
  | true =>
  refine fC (aj5 @mZ @hx @Zia @z4 @bD) (cH) ?_
  cases hh:iR (s.names.take i) x with
  | true =>
   have hf:=bS fun h=>by rw [hh] at h;cases h.2
   refine fR @aw ?_;exact fT @hf
  | false =>
  have hq:i+1<=s.names.length∧∀ j,j < i+1->Zk4 s.names j:=⟨au,fun j hj=>by
   by_cases e:j=i
   ·subst e;intro y hy;rw [hx] at hy;injection hy with hy
    subst hy;exact ⟨hn,hh⟩
   ·exact aD j om⟩
  refine fR @aw ?_;have F:=@hw;refine gG ?_;exact ⟨i+1,hq,gw,gw,om⟩
 obtain rfl:i=s.names.length:=by omega
 have q1:¬ ((s.names.length:Int) < (s.names.length:Int)):=om;refine fG @q1 ?_;have F:=@aw;refine gL (ι:=Nat) [2,4,54,97] [] (fun k=>[(4,A.d (.one (.lit (.int .i64 k))))]) (fun k=>[]) (fun k=>k<=s.subs.length∧∀ (j:Nat) p,j < k->s.subs[j]?=some p->wP s.names.length p) (fun k=>s.subs.length - k) (0) (⟨Taj _,fun j p h=>absurd h om⟩) (fun k hk=>?_);clear F;obtain ⟨eX,et⟩:=hk;by_cases lA:k < s.subs.length
 ·have q2:(k:Int) < (s.subs.length:Int):=om;obtain ⟨p,hp⟩:∃ x,s.subs[k]?=some x:=⟨_,Taa lA⟩;have hw:=bI (k:=k) om;have bS:¬ wP s.names.length p->ob s=false:=fun h=>bC fun hs=>h (hs.subs p (Tac hp));have db:=ZsB s.subs;refine fB @q2 ?_;refine fC (aj4 @db @hp @sy @vA) (zg p.1 0 ((s.names.length:Int) - 1)) ?_;by_cases c1:0<=p.1∧p.1<=(s.names.length:Int) - 1;rotate_left
  ·have hf:=bS fun h=>c1 ⟨h.1,by have:=h.2.1;omega⟩;have y1:decide (0<=p.1∧p.1<=(s.names.length:Int) - 1)=false:=decide_eq_false c1;refine fR @y1 ?_;exact fT @hf
  have y1:decide (0<=p.1∧p.1<=(s.names.length:Int) - 1)=true:=decide_eq_true c1;refine fC (aj5 @db @hp @sy @vA @y1) (zg p.2 0 ((s.names.length:Int) - 1)) ?_;by_cases c2:0<=p.2∧p.2<=(s.names.length:Int) - 1;rotate_left
  ·have hf:=bS fun h=>c2 ⟨h.2.2.1,by have:=h.2.2.2.1;omega⟩;have y2:decide (0<=p.2∧p.2<=(s.names.length:Int) - 1)=false:=decide_eq_false c2;refine fR (ai @y1 @y2) ?_;exact fT @hf
  have y2:decide (0<=p.2∧p.2<=(s.names.length:Int) - 1)=true:=decide_eq_true c2;by_cases c5:p.1=p.2
  ·have hf:=bS fun h=>h.2.2.2.2 c5;have y5:(p.1=p.2)=True:=eq_true c5;refine fR (aj6 @y1 @y2 @db @hp @sy @y5) ?_;exact fT @hf
  have y5:(p.1=p.2)=False:=eq_false c5;have hq:k+1<=s.subs.length∧∀ (j:Nat) p,j < k+1->s.subs[j]?=some p->wP s.names.length p:=⟨lA,fun j p' hj ek=>by
   by_cases e:j=k
   ·subst e;rw [hp] at ek;injection ek with ek
    subst ek;exact ⟨om,om,om,om,c5⟩
   ·exact et j p' om ek⟩
  refine fR (aj6 @y1 @y2 @db @hp @sy @y5) ?_;have F:=@hw;refine gG ?_;exact ⟨k+1,hq,gw,gw,om⟩
 obtain rfl:k=s.subs.length:=by omega
 have q2:¬ ((s.subs.length:Int) < (s.subs.length:Int)):=om;have pQ:∀ p∈s.subs,wP s.names.length p:=fun p hp=>by obtain ⟨j,hj⟩:=Tbk hp;exact et j p (Tad.1 hj).1 hj
 have sL:=SortsOk.subsIn pQ;have hU:=wO sL;have vB:(∀ i k,i < s.names.length->k < i->qG (up s) i k)->ob s=true:=fun h=>Zgr ⟨h1,h8,A6,fun i hi=>aD i hi,pQ,fun i k hi hk hb=>by
  rcases Nat.lt_trichotomy i k with h2 | h2 | h2
  ·exact h k i hk h2 ⟨fun e=>hb.1 e.symm,hb.2.2,hb.2.1⟩
  ·exact hb.1 h2
  ·exact h i k hi h2 hb⟩
 have vm:∀ i k,i < s.names.length->k < s.names.length->¬ qG (up s) i k->ob s=false:=fun i k h1 h2 h3=>bC fun h=>h3 (h.pairs i k h1 h2);have lU:=fr (l:=up s);rw [hU.1] at lU;have rU:=fX (l:=up s);refine fB @q2 ?_;refine fC @aw (cU h8 A6 sL) ?_;refine fR @aw ?_;generalize up s=u at hU vB vm lU rU ⊢;have hpw:∀ i,i < s.names.length->u[i]?=some (u.getD i 0)∧u.getD i 0 < 4611686018427387904:=fun i hi=>by
  obtain ⟨g1,g2⟩:=hU.get hi;exact ⟨g1,Nat.lt_trans g2 (Zh5 om)⟩
 refine fG @lU ?_;have F:=@aw;refine gL (ι:=Nat) [2,6,7,103,108,124] [] (fun i=>[(6,A.d (.one (.lit (.int .i64 i))))]) (fun i=>[]) (fun i=>i<=s.names.length∧∀ i' k,i' < i->k < i'->qG u i' k) (fun i=>s.names.length - i) (0) (⟨Taj _,fun i' k h=>absurd h om⟩) (fun i hi=>?_);clear F;obtain ⟨ci,hpi⟩:=hi;by_cases au:i < s.names.length;rotate_left
 ·have q3:¬ ((i:Int) < (s.names.length:Int)):=om;have ht:=vB fun i' k h1 h2=>hpi i' k om h2;exact fT (aj3 @q3 @lU @ht)
 have q3:(i:Int) < (s.names.length:Int):=om;have dZ:=bI (k:=i) om;obtain ⟨gi,bi⟩:=hpw i au;refine fG (ai @q3 @lU) ?_;have F:=@aw;refine gL (ι:=Nat) [2,7,108,124] [] (fun k=>[(7,A.d (.one (.lit (.int .i64 k))))]) (fun k=>[]) (fun k=>k<=i∧∀ k',k' < k->qG u i k') (fun k=>i - k) (0) (⟨Taj _,fun k h=>absurd h om⟩) (fun k hk=>?_);clear F;obtain ⟨eX,hpk⟩:=hk;have na:=bI (k:=k) om;by_cases lA:k < i
 rotate_left
 ·have q4:=lF k i;have hq:i+1<=s.names.length∧∀ i' k,i' < i+1->k < i'->qG u i' k:=⟨au,fun i' k' h h2=>by
   by_cases e:i'=i
   ·subst e;exact hpk k' om
   ·exact hpi i' k' om h2⟩
  have F:=ai @q4 @dZ;refine gG ?_;exact ⟨i+1,hq,gw,gw,om⟩
 have q4:=lT k i;obtain ⟨gk,bk⟩:=hpw k om;have nx:qG u i k->k+1<=i∧∀ k',k' < k+1->qG u i k':=fun h=>⟨lA,fun k' h2=>by
  by_cases e:k'=k
  ·subst e;exact h
  ·exact hpk k' om⟩
 have r1:=e6 gi;have r2:=e6 gk;refine fB @q4 ?_;refine fC (ai @rU @r1) (Zhn (a:=u.getD i 0) (k:=k) bi om) ?_
 cases b1:fq (u.getD i 0) k with
 | false =>
  have hq:=nx fun h=>by have:=h.2.1;rw [show (u.getD i 0).testBit k=false from b1] at this;cases this
  refine fR @aw ?_;have F:=@na;refine gG ?_;exact ⟨k+1,hq,gw,gw,om⟩
 | true =>
 refine fC (ai @rU @r2) (Zhn (a:=u.getD k 0) (k:=i) bk om) ?_
 cases b2:fq (u.getD k 0) i with
 | false =>
  have hq:=nx fun h=>by have:=h.2.2;rw [show (u.getD k 0).testBit i=false from b2] at this;cases this
  refine fR @aw ?_;have F:=@na;refine gG ?_;exact ⟨k+1,hq,gw,gw,om⟩
 | true =>
  have hf:=vm i k au om fun h=>h ⟨om,b1,b2⟩;refine fR @aw ?_;exact fT @hf
end
end Go.Proofs.YtbecmfjokofihaaGreatDoor
