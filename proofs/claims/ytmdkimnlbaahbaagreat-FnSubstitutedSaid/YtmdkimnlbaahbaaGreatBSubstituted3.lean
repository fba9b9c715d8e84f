/-
  Part of a proof.
-/
import Derived.Test.YtmdkimnlbaahbaaGreatBSubstituted0
import Derived.Test.YtmdkimnlbaahbaaGreatBSubstituted1
import Derived.Test.YtmdkimnlbaahbaaGreatBSubstituted2
import Derived.Test.YtmdkimnlbaahbaaGreatRows
import Derived.Lib.AppendStr
import Derived.Laws.BytesString
set_option linter.unusedSimpArgs false
set_option linter.unusedVariables false
set_option maxHeartbeats 400000000
set_option maxRecDepth 100000
namespace Go.Proofs.YtmdkimnlbaahbaaGreat
open Go.RowKit
def ZAm (e:Env) (U:Nat->Prop) (w0:World) (S0:Nat->Prop) (m:List (Nat × Bk)) (o:Oper) (ρ:Operand->A) (Φ:A->List (Nat × Bk)->Prop) (ks:List Nat):Prop :=
 ∀ (w:World) (S:Nat->Prop) (L:Lay) (ρv:Operand->Value),Cls e U w0.heap.size S0 m w S L->Kept e.D (fun b=>e.E b∨U b) w0.heap.size w0 w->(∀ x,x∈o.op.operands->ARel w S L (ρ x) (ρv x)) ->
  gives e.P o ρv w fun v w'=>∃ α mx,Φ α mx∧∃ (S':Nat->Prop) (L':Lay),(∀ b,S' b->S b∨w.heap.size<=b)∧Cls e U w0.heap.size S0 (mx++m) w' S' L'∧Kept e.D e.E w.heap.size w w'∧ARel w' S' L' α v∧(∀ x u,(∀ k∈ks,¬ ZdH k x)->ARel w S L x u->ARel w' S' L' x u)∧∀ k bk g,gm (mx++m) k=some bk->Zau L' k bk g->w.heap.size<=g∨∃ k' bk',gm m k'=some bk'∧Zau L k' bk' g
def Zg0 (e:Env) (o:Oper) (σ:St) (K:St->Prop):Prop:=e.Ok->∃ (Φ:A->List (Nat × Bk)->Prop) (ks:List Nat),(∀ α mx,Φ α mx->K ⟨setA σ.s o.dst α,mx++σ.m⟩)∧(∀ t,∀ k∈ks,¬ ZdH k (gs σ.s t))∧(∀ α mx,Φ α mx->∀ k x,gm σ.m k=some x->gm (mx++σ.m) k=some x)∧∀ (U:Nat->Prop) (w0:World) (S0:Nat->Prop),ZAm e U w0 S0 σ.m o (evA σ.s) Φ ks
theorem ZaM.ext {e:Env} {U:Nat->Prop} {base:Nat} {S0:Nat->Prop} {m m':List (Nat × Bk)} {o:Oper} {ρ:Operand->A} {α:A} (h:ZaM e U base S0 m o ρ α) (hm:∀ k x,gm m k=some x->gm m' k=some x):ZaM e U base S0 m' o ρ α:=fun w S L ρv hC hr=>by
 have hC0:Cls e U base S0 m w S L:=⟨hC.sin,hC.sfr,hC.ein,hC.uin,hC.bsz,fun k bk g hk=>hC.mine k bk g (hm k bk hk),fun k bk hk=>hC.own k bk (hm k bk hk),fun k k' x x' g h1 h2=>hC.inj k k' x x' g (hm _ _ h1) (hm _ _ h2),hC.g⟩;have:=h w S L ρv hC0 hr;unfold gives at this ⊢;revert this;generalize (execOp ρv o).run e.P w=r;have hX:∀ (v:Value) (w':World),(∃ S':Nat->Prop,((∀ b,S b->S' b)∧∀ b,S' b->S b∨w.heap.size<=b)∧Cls e U base S0 m w' S' L∧Kept e.D e.E w.heap.size w w'∧ARel w' S' L α v)->∃ S':Nat->Prop,((∀ b,S b->S' b)∧∀ b,S' b->S b∨w.heap.size<=b)∧Cls e U base S0 m' w' S' L∧Kept e.D e.E w.heap.size w w'∧ARel w' S' L α v:=fun v w' ⟨S',hS,h1,hk,ha⟩=>⟨S',hS,hC.later hk h1.g hS.1 (fun b hb=>(hS.2 b hb).imp id fun q=>⟨q,(h1.sin b hb).1⟩),hk,ha⟩
 intro h
 cases r with
 | ok x w' =>
  cases x <;> first
   | exact hX _ _ h
   | exact Calls.mono h fun en w' ⟨v,h1,h2⟩=>⟨v,h1,hX _ _ h2⟩
   | exact h.elim
 | halt x w'=>exact h.elim
theorem Zr9 {P:Program} {o:Oper} {ρ:Operand->Value} {w:World} {R R':Value->World->Prop} (h:gives P o ρ w R) (hR:∀ v w',R v w'->R' v w'):gives P o ρ w R':=by
 unfold gives at h ⊢;revert h;generalize (execOp ρ o).run P w=r;intro h
 cases r with
 | ok x w' =>
  cases x <;> first
   | exact hR _ _ h
   | exact Calls.mono h fun en w' ⟨v,h1,h2⟩=>⟨v,h1,hR _ _ h2⟩
   | exact h.elim
 | halt x w'=>exact h.elim
theorem Zdu.toN {e:Env} {o:Oper} {σ:St} {K:St->Prop} (h:Zdu e o σ K):Zg0 e o σ K:=fun he=>by
 obtain ⟨α,h1,h2⟩:=h he;exact ⟨fun x mx=>x=α∧mx=[],[],fun x mx ⟨hx,hm⟩=>by rw [hx,hm];exact h1,fun t k hk=>(by cases hk),fun x mx ⟨_,hm⟩ k y hy=>by rw [hm];exact hy,fun U w0 S0 w S L ρv hC _ hr=>Zr9 (h2 U w0.heap.size S0 w S L ρv hC hr) fun v w' ⟨S',hS,hC',hk,ha⟩=>⟨α,[],⟨rfl,rfl⟩,S',L,hS.2,hC',hk,ha,fun x u _ hx=>hx.keep hk.size (hC.cell hk) hS.1,fun k bk g h1 h2=>.inr ⟨k,bk,h1,h2⟩⟩⟩
def NRun (e:Env) (ds:List (Option Nat)):List Oper->St->(St->Prop)->Prop
 | [],σ,K=>K σ
 | o::os,σ,K=>match o.guard with
  | none=>Zg0 e o σ (fun σ'=>NRun e ds os σ' K)
  | some (j,want)=>match (ds[j]?.join).map (gs σ.s) with
   | some (.d (.one (.lit (.bool b))))=>if b=want then Zg0 e o σ (fun σ'=>NRun e ds os σ' K) else NRun e ds os ⟨setA σ.s o.dst .no,σ.m⟩ K
   | some .no=>NRun e ds os ⟨setA σ.s o.dst .no,σ.m⟩ K
   | _=>False
def ZaC:List Nat->List Oper->List Oper
 | [],_=>[]
 | i::D,l=>match l[i]? with
  | some o=>o::ZaC D l
  | none=>ZaC D l
theorem Zgo {l:List Oper}:∀ {D:List Nat},(∀ i∈D,i < l.length)->(ZaC D l).length=D.length∧∀ (q i:Nat),D[q]?=some i->(ZaC D l)[q]?=l[i]?
 | [],_=>⟨rfl,fun q i h=>by simp at h⟩
 | j::D,h=>by
  obtain ⟨h1,h2⟩:=Zgo (l:=l) (D:=D) fun i hi=>h i (Tal _ hi);have hj:=Taa (h j Tas);simp only [ZaC,hj];refine ⟨by simp [h1],fun q i hq=>?_⟩
  cases q with
  | zero=>simp only [Tat,Taq] at hq ⊢;subst hq;rw [hj]
  | succ q=>simp only [Tau] at hq ⊢;exact h2 q i hq
def Zfu (ops:Array Oper) (n:Nat) (D N:List Nat):Bool :=
 (List.range n).all (fun i=>D.contains i != N.contains i) && D.all (fun i=>decide (i < n)) && N.all (fun i=>decide (i < n)) && decide (D.Pairwise (· < ·)) && decide (N.Pairwise (· < ·)) &&
 D.all (fun i=>match ops[i]? with
  | none=>false
  | some o=>o.guard.isNone && (List.range n).all fun j=>match ops[j]? with
   | none=>false
   | some p=>!(Zb3 o).any (fun t=>p.dst==some t) || D.contains j) &&
 (List.range N.length).all fun q=>match N[q]?,N[q+1]? with
  | some i,some j=>Region.waitsFor .any ops j i
  | _,_=>true
section
variable {e:Env} {U:Nat->Prop} {w0:World} {S0:Nat->Prop} {nt:Nat} {ops:Array Oper} {n:Nat}
structure PartAt (ops:Array Oper) (n:Nat) (D N:List Nat):Prop where
 cov:∀ i,i < n->(i∈D∧i ∉ N)∨(i ∉ D∧i∈N)
 dlt:∀ i∈D,i < n
 nlt:∀ i∈N,i < n
 dpw:D.Pairwise (· < ·)
 npw:N.Pairwise (· < ·)
 dg:∀ i∈D,∀ o,ops[i]?=some o->o.guard=none∧∀ j p t,j < n->ops[j]?=some p->t∈Zb3 o->p.dst=some t->j∈D
 nch:∀ (q i j:Nat),N[q]?=some i->N[q+1]?=some j->Region.waitsFor .any ops j i=true
theorem Zfu.at' {D N:List Nat} (h:Zfu ops n D N=true):PartAt ops n D N:=by
 simp only [Zfu,Tar] at h;obtain ⟨⟨⟨⟨⟨⟨h1,h2⟩,h3⟩,h4⟩,h5⟩,h6⟩,h7⟩:=h;refine ⟨fun i hi=>?_,fun i hi=>?_,fun i hi=>?_,of_decide_eq_true h4,of_decide_eq_true h5,fun i hi o ho=>?_,fun q i j hi hj=>?_⟩
 ·have:=List.all_eq_true.1 h1 i (List.mem_range.2 hi);by_cases hd:i∈D <;> by_cases hn:i∈N <;> simp [hd,hn] at this ⊢
 ·simpa using List.all_eq_true.1 h2 i hi
 ·simpa using List.all_eq_true.1 h3 i hi
 ·have:=List.all_eq_true.1 h6 i hi;rw [ho] at this;simp only [Tar,Option.isNone_iff_eq_none] at this;refine ⟨this.1,fun j p t hj hp ht hpt=>?_⟩;have h8:=List.all_eq_true.1 this.2 j (List.mem_range.2 hj);rw [hp] at h8;simp only [Bool.or_eq_true,Bool.not_eq_true'] at h8;rcases h8 with h8 | h8
  ·have:=List.any_eq_false.1 h8 t ht;simp [hpt] at this
  ·simpa using h8
 ·have hq:q < N.length:=(Tad.1 hi).1;have:=List.all_eq_true.1 h7 q (List.mem_range.2 hq);rw [hi,hj] at this;exact this
def DAll (e:Env) (U:Nat->Prop) (base:Nat) (S0:Nat->Prop) (m:List (Nat × Bk)) (ops:Array Oper) (D:List Nat) (s1:List (Nat × A)):Prop:=∀ i∈D,∀ o d,ops[i]?=some o->o.dst=some d->ZaM e U base S0 m o (evA s1) (gs s1 d)
theorem Zrk {D N:List Nat} {m:List (Nat × Bk)} {s:List (Nat × A)} {αs:List A} (hH:ZbV ops n=true) (hP:PartAt ops n D N) (hn:n<=ops.size) (hal:αs.length=D.length) (hch:Zb6 e U w0.heap.size S0 m ops.toList (ZaC D ops.toList) s αs) :
  DAll e U w0.heap.size S0 m ops D (after s (ZaC D ops.toList) αs)∧∀ t,(∀ (i:Nat) (o:Oper),i∈D->ops[i]?=some o->o.dst≠some t)->gs (after s (ZaC D ops.toList) αs) t=gs s t:=by
 have hsz:ops.toList.length=ops.size:=by simp
 obtain ⟨pl,pg⟩:=Zgo (l:=ops.toList) (D:=D) fun i hi=>by have:=hP.dlt i hi;omega
 have hat:∀ (q:Nat) (p:Oper),(ZaC D ops.toList)[q]?=some p->∃ j,D[q]?=some j∧ops[j]?=some p:=fun q p hq=>by
  have hql:q < D.length:=by have:=(Tad.1 hq).1;omega
  refine ⟨D[q],Taa hql,?_⟩;have:=pg q _ (Taa hql);rw [hq] at this;simpa using this.symm
 refine ⟨fun i hi o d ho hd=>?_,fun t ht=>Zb7 _ _ _ fun p hp=>?_⟩
 ·obtain ⟨q,hq⟩:=Tbj hi;have hqo:(ZaC D ops.toList)[q]?=some o:=by rw [pg q i hq];simpa using ho
  obtain ⟨α,hα,hst⟩:=hch.get q o hqo;obtain ⟨hg,hdep⟩:=hP.dg i hi o ho;unfold Zed at hst;rw [hg] at hst;obtain ⟨o',d',hA⟩:=ZbV.get hH (hP.dlt i hi);obtain rfl:o'=o:=by have:=hA.op;rw [ho] at this;injection this with this;exact this.symm
  have hdd:d'=d:=by have:=hA.dst;rw [hd] at this;injection this with this;exact this.symm
  subst hdd;have hgd:gs (after s (ZaC D ops.toList) αs) d'=α:=Zc5 _ αs s q o' α hqo hα hd fun j p hj hp hpd=>by
   obtain ⟨i',hi',hp'⟩:=hat j p hp;have hne:i'≠i:=fun e'=>by
    subst e';have h1:=Tad.1 hi';have h2:=Tad.1 hq;have h3:=hP.dpw;rw [List.pairwise_iff_getElem] at h3;rcases Nat.lt_or_gt_of_ne hj with h4 | h4
    ·have:=h3 j q h1.1 h2.1 h4;omega
    ·have:=h3 q j h2.1 h1.1 h4;omega
   exact (hA.dep i' p (hP.dlt i' (Tac hi')) hp').1 hne hpd
  rw [hgd];have hcong:∀ x∈o'.op.operands,evA (after s ((ZaC D ops.toList).take q) (αs.take q)) x=evA (after s (ZaC D ops.toList) αs) x:=fun x hx=>by
   cases x with
   | tmp t =>
    simp only [evA];have hts:t∈Zb3 o':=List.mem_filterMap.2 ⟨.tmp t,by simpa using hx,rfl⟩;have e1:after s (ZaC D ops.toList) αs=after (after s ((ZaC D ops.toList).take q) (αs.take q)) ((ZaC D ops.toList).drop q) (αs.drop q):=by
     rw [<- Zgh _ _ _ _ _ (by simp [hal,pl]),Tbl,Tbl]
    rw [e1];refine (Zb7 _ _ _ fun p hp hpt=>?_).symm;obtain ⟨r,hr⟩:=Tbj hp;rw [Tba] at hr;obtain ⟨j,hj,hpj⟩:=hat _ p hr;have hjD:=Tac hj;have hw:=(hA.dep j p (hP.dlt j hjD) hpj).2 t hts hpt;obtain ⟨ed,h1,h2,h3⟩:=hA.waits hw;have hlt:=hA.back ed h1 h2;rw [h3] at hlt;have h4:=Tad.1 hj;have h5:=Tad.1 hq;have h6:=hP.dpw;rw [List.pairwise_iff_getElem] at h6;rcases Nat.eq_zero_or_pos r with h7 | h7
    ·subst h7;simp only [Nat.add_zero] at h4;have:=h4.2;have:=h5.2;omega
    ·have:=h6 q (q+r) h5.1 h4.1 om;omega
   | const v=>rfl
   | func f=>rfl
   | global g=>rfl
  intro w S L ρv hC hr;exact hst w S L ρv hC fun x hx=>by rw [hcong x hx];exact hr x hx
 ·obtain ⟨q,hq⟩:=Tbj hp;obtain ⟨j,hj,hpj⟩:=hat q p hq;exact ht j p (Tac hj) hpj
structure InvN (e:Env) (U:Nat->Prop) (w0:World) (S0:Nat->Prop) (nt:Nat) (m0:List (Nat × Bk)) (ops:Array Oper) (n:Nat) (D N:List Nat) (s1:List (Nat × A)) (K:St->Prop) (rest:List Nat) (s:List (Nat × A)) (m:List (Nat × Bk)) (L:Lay) (listed:Array Bool) (a:Act) (w:World) (S:Nat->Prop):Prop where
 ext:∀ k x,gm m0 k=some x->gm m k=some x
 head:HeadInv .any ops n listed
 size:a.tmps.size=nt
 defers:a.defers=[]
 cls:Cls e U w0.heap.size S0 m w S L
 kept:Kept e.D (fun b=>e.E b∨U b) w0.heap.size w0 w
 rel:∀ t,(∀ (i:Nat) (o:Oper),i∈D->listed.getD i false=false->ops[i]?=some o->o.dst≠some t)->ARel w S L (gs s t) (a.tmps.getD t undef)
 same:∀ t,(∀ (i:Nat) (o:Oper),i∈N->ops[i]?=some o->o.dst≠some t)->gs s t=gs s1 t
 sub:∃ pre,N=pre++rest
 lst:∀ i∈N,listed.getD i false=false ↔ i∈rest
 run:NRun e (ops.toList.map (·.dst)) (ZaC rest ops.toList) ⟨s,m⟩ K
section
variable {D N:List Nat} {m0 m m':List (Nat × Bk)} {s1:List (Nat × A)} {K:St->Prop} {L L':Lay} {rest:List Nat} {s:List (Nat × A)} {listed:Array Bool} {a:Act} {w w':World} {S S':Nat->Prop} {i d:Nat} {o:Oper} {v:Value}
theorem InvN.un (hI:InvN e U w0 S0 nt m0 ops n D N s1 K rest s m L listed a w S) {j:Nat} (hj:∀ e'∈o.after,Region.binds .any e'=true->listed.getD e'.on false=true) (hA:HeadAt ops n i o d) (hw:Region.waitsFor .any ops i j=true):listed.getD j false=true:=by
 obtain ⟨ed,h1,h2,h3⟩:=hA.waits hw;rw [<- h3];exact hj ed h1 h2
theorem InvN.opnd (hI:InvN e U w0 S0 nt m0 ops n D N s1 K rest s m L listed a w S) (hP:PartAt ops n D N) (hA:HeadAt ops n i o d) (hj:∀ e'∈o.after,Region.binds .any e'=true->listed.getD e'.on false=true):∀ x∈o.op.operands,ARel w S L (evA s x) (a.eval x):=fun x hx=>by
 cases x with
 | tmp t =>
  refine hI.rel t fun j p hjD hl hp hpt=>?_;have:=hI.un hj hA ((hA.dep j p (hP.dlt j hjD) hp).2 t (List.mem_filterMap.2 ⟨.tmp t,by simpa using hx,rfl⟩) hpt);rw [hl] at this
  cases this
 | const v =>
  simp only [evA,Act.eval];unfold Zdr;split
  ·simp only [ARel,DRel,Rep];exact ⟨⟨none,0,0,rfl,rfl,Tai _,by decide,fun h=>absurd h (by decide)⟩,none,0,rfl⟩
  ·rename_i vs;exact ⟨vs.toList,rfl,ZbY _⟩
  ·simp [ARel,DRel,Rep]
 | func f =>
  simp only [evA,Act.eval,ARel,DRel,Rep];exact ⟨[],rfl,by simp [Zad]⟩
 | global g=>trivial
theorem InvN.putD (hI:InvN e U w0 S0 nt m0 ops n D N s1 K rest s m L listed a w S) (hP:PartAt ops n D N) (hA:HeadAt ops n i o d) (hi:i∈D) (hr:i∈Region.ready .any ops listed) (hdn:d < nt)
  (hS:∀ b,S b->S' b) (hC:Cls e U w0.heap.size S0 m w' S' L) (hk:Kept e.D e.E w.heap.size w w') (hv:ARel w' S' L (gs s1 d) v):InvN e U w0 S0 nt m0 ops n D N s1 K rest s m L (listed.setIfInBounds i true) (a.put o.dst v) w' S':=by
 have hlt:d < a.tmps.size:=by rw [hI.size];exact hdn
 have hin:i ∉ N:=fun h=>(hP.cov i (hP.dlt i hi)).elim (fun q=>q.2 h) fun q=>q.1 hi;rw [hA.dst];refine ⟨hI.ext,hI.head.set hr (hP.dlt i hi),by simp [Act.put,hI.size],by simp [Act.put,hI.defers],hC,hI.kept.trans ⟨hk.os,hk.tape,hk.output,hk.drawn,hk.size,fun b hb hE=>hk.block b (by have:=hI.cls.bsz;omega) (fun h1=>hE (.inl h1))⟩,fun t ht=>?_,hI.same,hI.sub,fun j hj=>?_,hI.run⟩
 ·rw [ZbK hlt];by_cases e':t=d
  ·subst e';rw [if_pos rfl,hI.same t fun j p hj hp hpt=>(hA.dep j p (hP.nlt j hj) hp).1 (fun e'=>hin (e' ▸ hj)) hpt];exact hv
  ·rw [if_neg e'];refine (hI.rel t fun j p hj hl hp hpt=>?_).keep hk.size (hI.cls.cell hk) hS;by_cases hji:j=i
   ·subst hji;have:=hA.op;rw [hp] at this;injection this with this
    subst this;rw [hA.dst] at hpt;injection hpt with hpt
    exact e' hpt.symm
   ·exact ht j p hj (by rw [getD_set_ne false (Ne.symm hji)];exact hl) hp hpt
 ·have hji:i≠j:=fun e'=>hin (e' ▸ hj);rw [getD_set_ne false hji];exact hI.lst j hj
theorem InvN.putN (hI:InvN e U w0 S0 nt m0 ops n D N s1 K (i::rest) s m L listed a w S) (hP:PartAt ops n D N) (hA:HeadAt ops n i o d) (hr:i∈Region.ready .any ops listed) (hdn:d < nt) {α:A}
  (hm:∀ k x,gm m k=some x->gm m' k=some x) (hS:∀ t u,ARel w S L (gs s t) u->ARel w' S' L' (gs s t) u) (hC:Cls e U w0.heap.size S0 m' w' S' L') (hk:Kept e.D e.E w.heap.size w w') (hv:ARel w' S' L' α v) (hrun:NRun e (ops.toList.map (·.dst)) (ZaC rest ops.toList) ⟨(d,α)::s,m'⟩ K):InvN e U w0 S0 nt m0 ops n D N s1 K rest ((d,α)::s) m' L' (listed.setIfInBounds i true) (a.put o.dst v) w' S':=by
 have hlt:d < a.tmps.size:=by rw [hI.size];exact hdn
 obtain ⟨pre,hpre⟩:=hI.sub;have hiN:i∈N:=by rw [hpre];simp
 have hin:i ∉ D:=fun h=>(hP.cov i (hP.nlt i hiN)).elim (fun q=>q.2 hiN) fun q=>q.1 h;have hnd:i ∉ rest:=fun h=>by
  have:=hP.npw;rw [hpre] at this;have:=(List.pairwise_append.1 this).2.1;have:=(List.pairwise_cons.1 this).1 i h;omega
 rw [hA.dst];refine ⟨fun k x h=>hm k x (hI.ext k x h),hI.head.set hr (hP.nlt i hiN),by simp [Act.put,hI.size],by simp [Act.put,hI.defers],hC,hI.kept.trans ⟨hk.os,hk.tape,hk.output,hk.drawn,hk.size,fun b hb hE=>hk.block b (by have:=hI.cls.bsz;omega) (fun h1=>hE (.inl h1))⟩,fun t ht=>?_,fun t ht=>?_,⟨pre++[i],by rw [hpre];simp⟩,fun j hj=>?_,hrun⟩
 ·rw [ZbK hlt];simp only [gs];by_cases e':t=d
  ·rw [if_pos e',if_pos e'];exact hv
  ·rw [if_neg e',if_neg e'];refine hS t _ (hI.rel t fun j p hj hl hp hpt=>?_);have hji:i≠j:=fun e''=>hin (e'' ▸ hj);exact ht j p hj (by rw [getD_set_ne false hji];exact hl) hp hpt
 ·have:t≠d:=fun e'=>ht i o hiN hA.op (by rw [hA.dst,e']);simp only [gs,this,if_false];exact hI.same t ht
 ·by_cases hji:j=i
  ·subst hji;have hl:j < listed.size:=by rw [hI.head.size];exact (Tbk.1 hA.op).1
   simp [hl,hnd]
  ·rw [getD_set_ne false (Ne.symm hji),hI.lst j hj];simp [hji]
theorem InvN.next (hI:InvN e U w0 S0 nt m0 ops n D N s1 K rest s m L listed a w S) (hP:PartAt ops n D N) (hA:HeadAt ops n i o d) (hi:i∈N) (hun:listed.getD i false=false) (hj:∀ e'∈o.after,Region.binds .any e'=true->listed.getD e'.on false=true):∃ r,rest=i::r:=by
 have hir:=(hI.lst i hi).1 hun;obtain ⟨pre,hpre⟩:=hI.sub
 cases rest with
 | nil=>cases hir
 | cons r0 r =>
  by_cases e':r0=i
  ·exact ⟨r,by rw [e']⟩
  ·exfalso;obtain ⟨q,hq⟩:=Tbj ((Tbf.1 hir).resolve_left fun e''=>e' e''.symm);have h1:N[pre.length+(q+1)]?=some i:=by rw [hpre,Tbp om];simpa using hq
   obtain ⟨y,hy⟩:∃ y,(r0::r)[q]?=some y:=⟨(r0::r)[q]'(by have:=(Tad.1 hq).1;simp;omega),Taa _⟩;have h2:N[pre.length+q]?=some y:=by rw [hpre,Tbp om];simpa using hy
   have h3:=hP.nch (pre.length+q) y i h2 h1;have h4:=hI.un hj hA h3;have h5:=(hI.lst y (Tac h2)).2 (Tac hy);rw [h5] at h4
   cases h4
end
section
variable {D N:List Nat} {m0:List (Nat × Bk)} {s1:List (Nat × A)} {K:St->Prop} {Q:Exit->Act->World->Prop} {J:List (Nat × Bk)->Lay->Array Bool->Act->World->(Nat->Prop)->Prop}
def GoD (e:Env) (U:Nat->Prop) (w0:World) (S0:Nat->Prop) (nt:Nat) (m0:List (Nat × Bk)) (ops:Array Oper) (n:Nat) (D N:List Nat) (s1:List (Nat × A)) (K:St->Prop) (J:List (Nat × Bk)->Lay->Array Bool->Act->World->(Nat->Prop)->Prop) (Q:Exit->Act->World->Prop):Prop :=
 ∀ (rest:List Nat) (s:List (Nat × A)) (m:List (Nat × Bk)) (L:Lay) (listed:Array Bool) (a:Act) (w:World) (S:Nat->Prop) (i:Nat) (o:Oper) (d:Nat),InvN e U w0 S0 nt m0 ops n D N s1 K rest s m L listed a w S->J m L listed a w S->HeadAt ops n i o d->i∈D->i∈Region.ready .any ops listed->d < nt ->
  (∀ x∈o.op.operands,ARel w S L (evA s1 x) (a.eval x))->ZaM e U w0.heap.size S0 m o (evA s1) (gs s1 d)->o.wp e.P a w (fun a' w'=>∃ S',InvN e U w0 S0 nt m0 ops n D N s1 K rest s m L (listed.setIfInBounds i true) a' w' S'∧J m L (listed.setIfInBounds i true) a' w' S') Q
theorem Zxm (hP:PartAt ops n D N):GoD e U w0 S0 nt m0 ops n D N s1 K (fun _ _ _ _ _ _=>True) Q :=
 fun rest s m L listed a w S i o d hI _ hA hi hr hdn hop hG=>ZcG (hG w S L a.eval hI.cls hop) fun v w' ⟨S',hS,hC,hk,hv⟩=>⟨S',hI.putD hP hA hi hr hdn hS.1 hC hk hv,trivial⟩
theorem ZgK (he:e.Ok) (hH:ZbV ops n=true) (hP:PartAt ops n D N) (hn:n<=ops.size) (hs:n < ops.size->Region.sinkB .any ops n=true∧Region.chainB .any ops n=true) (hsq:Region.seqB .any ops (ops.size - n) n (Zbb ops.size n)=true)
  (hsz:∀ (i:Nat) (o:Oper) (d:Nat),i < n->ops[i]?=some o->o.dst=some d->d < nt) (hDA:DAll e U w0.heap.size S0 m0 ops D s1) (hgo:GoD e U w0 S0 nt m0 ops n D N s1 K J Q)
  (hJ:∀ (m m':List (Nat × Bk)) (L L':Lay) (listed:Array Bool) (a:Act) (w w':World) (S S':Nat->Prop) (i:Nat) (o:Oper) (d:Nat) (v:Value),J m L listed a w S->HeadAt ops n i o d->i∈N->d < a.tmps.size->Kept e.D e.E w.heap.size w w'->(∀ b,S' b->S b∨w.heap.size<=b)->(∀ b,e.E b->b < w0.heap.size)->(∀ k bk g,gm m' k=some bk->Zau L' k bk g->w.heap.size<=g∨∃ k' bk',gm m k'=some bk'∧Zau L k' bk' g)->J m' L' (listed.setIfInBounds i true) (a.put o.dst v) w' S')
  (hend:∀ s m L listed a w S,InvN e U w0 S0 nt m0 ops n D N s1 K [] s m L listed a w S->J m L listed a w S->(∀ i,i < n->listed.getD i false=true)->wpList e.P ops Q (ops.toList.drop n) a w) :
  ∀ (k:Nat) (rest:List Nat) (s:List (Nat × A)) (m:List (Nat × Bk)) (L:Lay) (listed:Array Bool) (a:Act) (w:World) (S:Nat->Prop),InvN e U w0 S0 nt m0 ops n D N s1 K rest s m L listed a w S->J m L listed a w S->(List.range n).countP (fun i=>!listed.getD i true)=k->wpAny e.P .any ops Q (k+(ops.size - n)) listed a w
 | 0,rest,s,m,L,listed,a,w,S,hI,hJJ,hc=>by
  have hall:∀ i,i < n->listed.getD i true=true:=fun i hi=>by
   have:=List.countP_eq_zero.1 hc i (List.mem_range.2 hi);simpa using this
  have hall':∀ i,i < n->listed.getD i false=true:=fun i hi=>by
   have hl:i < listed.size:=by rw [hI.head.size];omega
   rw [<- Zbc hl];exact hall i hi
  have hr:rest=[]:=by
   cases rest with
   | nil=>rfl
   | cons r0 r =>
    obtain ⟨pre,hpre⟩:=hI.sub;have hm:r0∈N:=by rw [hpre];simp
    have h1:=(hI.lst r0 hm).2 Tas;rw [hall' r0 (hP.nlt r0 hm)] at h1
    cases h1
  subst hr;have heq:=ZhZ hI.head hn hall;have hdl:(ops.toList.drop n).length=ops.size - n:=by simp
  have hE:=hend s m L listed a w S hI hJJ hall';have:=wpAny_of_seq (md:=.any) (Q':=Q) (ops.toList.drop n) n listed a w (fun j=>by simp [Tba]) (by rw [hdl,heq];exact hsq) hE;rw [hdl] at this;simpa using this
 | k+1,rest,s,m,L,listed,a,w,S,hI,hJJ,hc=>by
  obtain ⟨i0,hi0,hu0⟩:∃ i,i < n∧listed.getD i true=false:=by
   have:0 < (List.range n).countP (fun i=>!listed.getD i true):=om;obtain ⟨i,hi,hp⟩:=List.countP_pos_iff.1 this;exact ⟨i,List.mem_range.1 hi,by simpa using hp⟩
  rw [show k+1+(ops.size - n)=(k+(ops.size - n))+1 by omega];refine ⟨fun h0=>absurd h0 (ZfM hH hI.head hi0 hu0),fun i hr=>?_⟩;obtain ⟨hun,oi,hoi,hall⟩:=mem_ready.1 hr;have hin:i < n:=by
   rcases Nat.lt_or_ge i n with h | h
   ·exact h
   ·have hns:n < ops.size:=Nat.lt_of_le_of_lt h (Tbk.1 hoi).1;exact absurd hr (tail_waits (hs hns).1 (hs hns).2 hns hI.head _ i0 rfl hi0 hu0 i h)
  obtain ⟨o,d,hA⟩:=ZbV.get hH hin;have hoo:oi=o:=by have:=hA.op;rw [hoi] at this;injection this
  subst hoo;have hls:i < listed.size:=by rw [hI.head.size];exact (Tbk.1 hoi).1
  have hunf:listed.getD i false=false:=by rw [<- Zbc hls];exact hun
  have hdn:=hsz i oi d hin hoi hA.dst;have hcount:(List.range n).countP (fun j=>!(listed.setIfInBounds i true).getD j true)=k:=by
   have h1:(List.range n).countP (fun j=>!(listed.setIfInBounds i true).getD j true)+1=(List.range n).countP (fun j=>!listed.getD j true):=by
    have hperm:=List.perm_cons_erase (List.mem_range.2 hin);rw [hperm.countP_eq,hperm.countP_eq,List.countP_cons,List.countP_cons];have hcong:((List.range n).erase i).countP (fun j=>!(listed.setIfInBounds i true).getD j true)=((List.range n).erase i).countP (fun j=>!listed.getD j true):=by
     refine List.countP_congr fun j hj=>?_;have hne:j≠i:=fun e=>by
      subst e;exact List.Nodup.not_mem_erase (List.nodup_range) hj
     rw [getD_set_ne true (Ne.symm hne)]
    rw [hcong,hun];simp [hls]
   omega
  have hops:=hI.opnd hP hA hall;have IH:=ZgK he hH hP hn hs hsq hsz hDA hgo hJ hend k;unfold wpOp;simp only [hoi];rcases hP.cov i hin with ⟨hD,hnN⟩ | ⟨hnD,hN⟩
  ·obtain ⟨hg,hdep⟩:=hP.dg i hD oi hoi;have hwt:Region.wanted oi (yielded ops a.tmps)=true:=by simp [Region.wanted,hg]
   rw [if_pos hwt];refine .inl (Oper.wp_mono (fun a' w' ⟨S',hI',hJ'⟩=>IH rest s m L _ a' w' S' hI' hJ' hcount) (hgo rest s m L listed a w S i oi d hI hJJ hA hD hr hdn (fun x hx=>?_) ((hDA i hD oi d hoi hA.dst).ext hI.ext)));have h1:=hops x hx
   cases x with
   | tmp t =>
    simp only [evA] at h1 ⊢
    rwa [hI.same t fun j p hj hp hpt=>?_] at h1
    have:=hdep j p t (hP.nlt j hj) hp (List.mem_filterMap.2 ⟨.tmp t,by simpa using hx,rfl⟩) hpt;exact (hP.cov j (hP.nlt j hj)).elim (fun q=>q.2 hj) fun q=>q.1 this
   | const v=>exact h1
   | func f=>exact h1
   | global g=>exact h1
  ·obtain ⟨r,rfl⟩:=hI.next hP hA hN hunf hall;have hrun:=hI.run;have hpk:ZaC (i::r) ops.toList=oi::ZaC r ops.toList:=by
    have:ops.toList[i]?=some oi:=by simpa using hoi
    simp only [ZaC,this]
   rw [hpk] at hrun;have go:∀ (Kx:St->Prop),(∀ σ',Kx σ'->NRun e (ops.toList.map (·.dst)) (ZaC r ops.toList) σ' K)->Zg0 e oi ⟨s,m⟩ Kx->oi.wp e.P a w (wpAny e.P .any ops Q (k+(ops.size - n)) (listed.setIfInBounds i true)) Q:=fun Kx hKx hq=>by
    obtain ⟨Φ,ks,h1,hfr,hex,h2⟩:=hq he;refine ZcG (h2 U w0 S0 w S L a.eval hI.cls hI.kept hops) fun v w' ⟨α,mx,hα,S',L',hS,hC,hk,hv,ht,hb⟩=>?_;have h3:=hKx _ (h1 α mx hα);rw [hA.dst] at h3;exact IH r _ _ _ _ _ w' S' (hI.putN hP hA hr hdn (hex α mx hα) (fun t u h=>ht _ u (hfr t) h) hC hk hv h3) (hJ m _ L L' listed a w w' S S' i oi d v hJJ hA hN (by rw [hI.size];exact hdn) hk hS (fun b hb=>hI.cls.ein b hb) hb) hcount
   have skip:NRun e (ops.toList.map (·.dst)) (ZaC r ops.toList) ⟨setA s oi.dst .no,m⟩ K->wpAny e.P .any ops Q (k+(ops.size - n)) (listed.setIfInBounds i true) (a.put oi.dst undef) w:=fun h3=>by
    rw [hA.dst] at h3;exact IH r _ _ L _ _ w S (hI.putN hP hA hr hdn (fun _ _ h=>h) (fun _ _ h=>h) hI.cls (Kept.refl _ _ _ _) (show ARel w S L .no undef from rfl) h3) (hJ m m L L listed a w w S S i oi d undef hJJ hA hN (by rw [hI.size];exact hdn) (Kept.refl _ _ _ _) (fun b hb=>.inl hb) (fun b hb=>hI.cls.ein b hb) fun k bk g h1 h2=>.inr ⟨k,bk,h1,h2⟩) hcount
   simp only [NRun] at hrun
   cases hg:oi.guard with
   | none =>
    rw [hg] at hrun;have hwt:Region.wanted oi (yielded ops a.tmps)=true:=by simp [Region.wanted,hg]
    rw [if_pos hwt];exact .inl (go _ (fun _ h=>h) hrun)
   | some jw =>
    obtain ⟨j,want⟩:=jw;rw [hg] at hrun;simp only at hrun;obtain ⟨hjn,hjw⟩:=hA.guard j want hg;have hrelD:∀ dj,((ops[j]?).bind (·.dst))=some dj->ARel w S L (gs s dj) (a.tmps.getD dj undef):=fun dj hdj=>hI.rel dj fun j' p hj' hl hp hpt=>by
     obtain ⟨p0,d0,hP0⟩:=ZbV.get hH hjn;have hd0:d0=dj:=by have:=hdj;rw [hP0.op] at this;simp [hP0.dst] at this;exact this
     by_cases hjj:j'=j
     ·have:=hI.un hall hA hjw;rw [<- hjj,hl] at this
      cases this
     ·exact absurd (by rw [hpt,hd0]) ((hP0.dep j' p (hP.dlt j' hj') hp).1 hjj)
    split at hrun
    ·rename_i b hb1;simp only [Tav] at hb1;obtain ⟨dj,hd1,hd2⟩:=hb1;have hdj:((ops[j]?).bind (·.dst))=some dj:=by simpa using Zdk hd1
     have hrel:=hrelD dj hdj;rw [hd2] at hrel;have h4:=Zge hrel.bool;have hwt:Region.wanted oi (yielded ops a.tmps)=decide (b=want):=by
      have h6:yielded ops a.tmps j=some b:=by unfold yielded;rw [hdj];simp only [Option.bind_some,h4]
      simp only [Region.wanted,hg,h6]
      cases b <;> cases want <;> rfl
     rw [hwt];by_cases hbw:b=want
     ·rw [if_pos hbw] at hrun;simp only [hbw,decide_true,if_true];exact .inl (go _ (fun _ h=>h) hrun)
     ·rw [if_neg hbw] at hrun;simp only [hbw,decide_false,Tam,if_false];exact skip hrun
    ·rename_i hb1;simp only [Tav] at hb1;obtain ⟨dj,hd1,hd2⟩:=hb1;have hdj:((ops[j]?).bind (·.dst))=some dj:=by simpa using Zdk hd1
     have hrel:=hrelD dj hdj;rw [hd2] at hrel;rw [Zgf hg hdj hrel];simp only [Tam,if_false];exact skip hrun
    ·exact hrun.elim
end
end
section
variable {e:Env} {K:St->Prop} {l:List Oper} {n:Nat} {D N:List Nat} {σ:St}
theorem ZzG (hP:Zfu l.toArray n D N=true) (hB:regB l.toArray n=true) (hp:Runs e (l.map (·.dst)) (D.length+1) (ZaC D l) σ fun σ1=>NRun e (l.map (·.dst)) (ZaC N l) σ1 fun σ2=>Runs e (l.map (·.dst)) 0 (l.drop n) σ2 K):Zcl e l.toArray K l.length (Array.replicate l.length false) σ:=by
 intro he U w0 S0 nt a w hd hs;have hPt:=Zfu.at' hP;simp only [regB,Tar,Bool.or_eq_true,decide_eq_true_eq] at hB;obtain ⟨⟨⟨hH,hn⟩,hsc⟩,hsq⟩:=hB;have hsz:l.toArray.size=l.length:=by simp
 obtain ⟨S,L,h1⟩:=hs;obtain ⟨pl,pg⟩:=Zgo (l:=l) (D:=D) fun i hi=>by have:=hPt.dlt i hi;omega
 have hp':Runs e (l.map (·.dst)) ((ZaC D l).length+1) (ZaC D l++[]) σ (fun σ1=>NRun e (l.map (·.dst)) (ZaC N l) σ1 fun σ2=>Runs e (l.map (·.dst)) 0 (l.drop n) σ2 K):=by rw [List.append_nil,pl];exact hp
 obtain ⟨αs,hal,hch,hrest⟩:=ZcS (U:=U) he w0.heap.size S0 l [] 1 (ZaC D l) σ (fun h=>absurd h (by decide)) hp';have hrest':NRun e (l.map (·.dst)) (ZaC N l) ⟨after σ.s (ZaC D l) αs,σ.m⟩ (fun σ2=>Runs e (l.map (·.dst)) 0 (l.drop n) σ2 K):=hrest;rw [pl] at hal;obtain ⟨hDA,hout⟩:=Zrk (ops:=l.toArray) hH hPt hn hal (by simpa using hch);have hmem:∀ i o,l[i]?=some o->o∈l.toArray.toList:=fun i o h=>by simpa using Tac h
 have inv0:InvN e U w0 S0 nt σ.m l.toArray n D N (after σ.s (ZaC D l) αs) (fun σ2=>Runs e (l.map (·.dst)) 0 (l.drop n) σ2 K) N (after σ.s (ZaC D l) αs) σ.m L (Array.replicate l.length false) a w S :=
  ⟨fun _ _ h=>h,⟨by simp,fun j oj _ hl=>(by rw [getD_replicate_false] at hl;cases hl),fun t _ ht=>getD_in (by simpa using ht) (getD_replicate_false _ _)⟩,h1.size,h1.defers,h1.cls,h1.kept,fun t ht=>by
   have:=hout t fun i o hi ho=>ht i o hi (getD_replicate_false _ _) ho;rw [this];exact h1.rel t,fun _ _=>rfl,⟨[],rfl⟩,fun i hi=>⟨fun _=>hi,fun _=>getD_replicate_false _ _⟩,hrest'⟩
 have H:=ZgK (e:=e) (Q:=QN e U w0 S0 nt K) (J:=fun _ _ _ _ _ _=>True) he hH hPt hn (fun hlt=>by
   rcases hsc with q | q
   ·omega
   ·exact q) hsq (fun i o d hi ho hdd=>hd o (hmem i o (by simpa using ho)) d hdd) hDA (Zxm hPt) (fun _ _ _ _ _ _ _ _ _ _ _ _ _ _ _ _ _ _ _ _ _ _=>trivial) (fun s m L listed a' w' S' hI _ hall=>?_) n N _ _ L _ a w S inv0 trivial ?_
 ·rw [hsz] at H;rw [hsz] at hn;rw [show n+(l.length - n)=l.length by omega] at H;exact H
 ·have hsim:SimE e U w0 S0 nt ⟨s,m⟩ a' w':=⟨S',L,⟨hI.cls,fun t=>hI.rel t (fun i o hi hl=>by rw [hall i (hPt.dlt i hi)] at hl;cases hl),hI.size,hI.defers,hI.kept⟩⟩;have hr:=hI.run;simp only [ZaC,NRun] at hr;exact ZgT he l.toArray.toList (fun a w σ' k1 k2=>⟨rfl,σ',k1,k2⟩) (l.toArray.toList.drop n) _ a' w' (fun o ho=>hd o (List.mem_of_mem_drop ho)) hsim (by simpa using hr)
 ·rw [List.countP_eq_length.2]
  ·simp
  ·intro i hi;have hi':=List.mem_range.1 hi;have hz:i < (Array.replicate l.length false).size:=by rw [hsz] at hn;simp;omega
   rw [Zbc hz,getD_replicate_false];rfl
theorem Zmx (l:List Oper) (E:List Nat):∀ D:List Nat,ZaC (D++E) l=ZaC D l++ZaC E l
 | []=>rfl
 | i::D=>by
  simp only [Taf,ZaC,Zmx l E D]
  cases l[i]? <;> rfl
theorem Zmy {e:Env} {U:Nat->Prop} {base:Nat} {S0:Nat->Prop} {m:List (Nat × Bk)} {l:List Oper} {o:Oper} {α:A} (h:∀ s,Zed e U base S0 m l o s α):∀ (os:List Oper) (s:List (Nat × A)) (αs:List A),Zb6 e U base S0 m l os s αs->Zb6 e U base S0 m l (os++[o]) s (αs++[α])
 | [],s,[],_=>⟨h _,trivial⟩
 | [],s,_::_,hc=>by simp [Zb6] at hc
 | p::os,s,[],hc=>by simp [Zb6] at hc
 | p::os,s,x::xs,hc=>⟨hc.1,Zmy h os _ xs hc.2⟩
theorem Zxn {p d t ty:Nat} {pos:String} {af:Array Edge} {cs:List C} (hop:l[p]?=some ⟨some d,.alloc t,ty,pos,af,none⟩) (hz:ZaP e.P t=some cs) (hP:Zfu l.toArray (p+1) (D++[p]) N=true) (hB:regB l.toArray (p+1)=true) (hp:Runs e (l.map (·.dst)) (D.length+1) (ZaC D l) σ fun σ1=>NRun e (l.map (·.dst)) (ZaC N l) ⟨(d,.undef)::σ1.s,σ1.m⟩ fun σ2=>Runs e (l.map (·.dst)) 0 (l.drop (p+1)) ⟨(d,.ref d 0)::Zan d σ2.s,(d,.var none cs)::remM d σ2.m⟩ K):Zcl e l.toArray K l.length (Array.replicate l.length false) σ:=by
 intro he U w0 S0 nt a w hd hs;have hPt:=Zfu.at' hP;simp only [regB,Tar,Bool.or_eq_true,decide_eq_true_eq] at hB;obtain ⟨⟨⟨hH,hn⟩,hsc⟩,hsq⟩:=hB;have hsz:l.toArray.size=l.length:=by simp
 unfold ZaP at hz;simp only [Tav,Option.bind_eq_some_iff] at hz;obtain ⟨v,⟨i,hi,hv⟩,hcs⟩:=hz;obtain ⟨S,L,h1⟩:=hs;have hD:∀ i∈D++[p],i < l.length:=fun i hi=>by have:=hPt.dlt i hi;omega
 obtain ⟨pl,pg⟩:=Zgo (l:=l) (D:=D) fun i hi=>hD i (List.mem_append_left _ hi);have hp':Runs e (l.map (·.dst)) ((ZaC D l).length+1) (ZaC D l++[]) σ (fun σ1=>NRun e (l.map (·.dst)) (ZaC N l) ⟨(d,.undef)::σ1.s,σ1.m⟩ fun σ2=>Runs e (l.map (·.dst)) 0 (l.drop (p+1)) ⟨(d,.ref d 0)::Zan d σ2.s,(d,.var none cs)::remM d σ2.m⟩ K):=by rw [List.append_nil,pl];exact hp
 obtain ⟨αs,hal,hch,hrest⟩:=ZcS (U:=U) he w0.heap.size S0 l [] 1 (ZaC D l) σ (fun h=>absurd h (by decide)) hp';have hrest':NRun e (l.map (·.dst)) (ZaC N l) ⟨(d,.undef)::after σ.s (ZaC D l) αs,σ.m⟩ (fun σ2=>Runs e (l.map (·.dst)) 0 (l.drop (p+1)) ⟨(d,.ref d 0)::Zan d σ2.s,(d,.var none cs)::remM d σ2.m⟩ K):=hrest;have hpk:ZaC (D++[p]) l=ZaC D l++[⟨some d,.alloc t,ty,pos,af,none⟩]:=by rw [Zmx];simp only [ZaC,hop]
 have hch2:=Zmy (e:=e) (U:=U) (base:=w0.heap.size) (S0:=S0) (m:=σ.m) (l:=l) (o:=⟨some d,.alloc t,ty,pos,af,none⟩) (α:=.undef) (fun s=>by unfold Zed;exact Zjm he rfl hi hv) _ _ _ hch;have haf:after σ.s (ZaC (D++[p]) l) (αs++[.undef])=(d,.undef)::after σ.s (ZaC D l) αs:=by rw [hpk,Zgh _ _ _ _ _ hal];rfl
 rw [<- hpk] at hch2;obtain ⟨hDA,hout⟩:=Zrk (ops:=l.toArray) hH hPt hn (αs:=αs++[.undef]) (by simp [hal,pl]) (by simpa using hch2);have hlt:l.toArray.toList=l:=by simp
 rw [hlt,haf] at hDA hout;have hop':l.toArray[p]?=some ⟨some d,.alloc t,ty,pos,af,none⟩:=by simpa using hop
 have hdn:d < nt:=hd _ (by simpa using Tac hop) d rfl;have hmem:∀ i o,l[i]?=some o->o∈l.toArray.toList:=fun i o h=>by simpa using Tac h
 have hpD:p∈D++[p]:=by simp
 have hA0:∀ {i':Nat} {o':Oper} {d':Nat},HeadAt l.toArray (p+1) i' o' d'->i'≠p->d'≠d:=fun hA hne e'=>(hA.dep p _ om hop').1 (Ne.symm hne) (by rw [e'])
 have inv0:InvN e U w0 S0 nt σ.m l.toArray (p+1) (D++[p]) N ((d,.undef)::after σ.s (ZaC D l) αs) (fun σ2=>Runs e (l.map (·.dst)) 0 (l.drop (p+1)) ⟨(d,.ref d 0)::Zan d σ2.s,(d,.var none cs)::remM d σ2.m⟩ K) N ((d,.undef)::after σ.s (ZaC D l) αs) σ.m L (Array.replicate l.length false) a w S :=
  ⟨fun _ _ h=>h,⟨by simp,fun j oj _ hl=>(by rw [getD_replicate_false] at hl;cases hl),fun t _ ht=>getD_in (by simpa using ht) (getD_replicate_false _ _)⟩,h1.size,h1.defers,h1.cls,h1.kept,fun t ht=>by
   have:=hout t fun i o hi ho=>ht i o hi (getD_replicate_false _ _) ho;rw [this];exact h1.rel t,fun _ _=>rfl,⟨[],rfl⟩,fun i hi=>⟨fun _=>hi,fun _=>getD_replicate_false _ _⟩,hrest'⟩
 have hJ0:Zfq e w0.heap.size p d σ.m L t v (Array.replicate l.length false) a w S:=fun hl=>by rw [getD_replicate_false] at hl;cases hl
 have hJN:∀ (m m':List (Nat × Bk)) (L L':Lay) (listed:Array Bool) (a:Act) (w w':World) (S S':Nat->Prop) (i:Nat) (o:Oper) (d':Nat) (v':Value),Zfq e w0.heap.size p d m L t v listed a w S->HeadAt l.toArray (p+1) i o d'->i≠p->d' < a.tmps.size->Kept e.D e.E w.heap.size w w'->(∀ b,S' b->S b∨w.heap.size<=b)->(∀ b,e.E b->b < w0.heap.size)->(∀ k bk g,gm m' k=some bk->Zau L' k bk g->w.heap.size<=g∨∃ k' bk',gm m k'=some bk'∧Zau L k' bk' g)->Zfq e w0.heap.size p d m' L' t v (listed.setIfInBounds i true) (a.put o.dst v') w' S':=by
  intro m m' L L' listed a w w' S S' i o d' v' hJ hA hip hdl hk hS hE hB hl;rw [getD_set_ne false hip] at hl;obtain ⟨b,q1,q2,q3,q4,q5,q6⟩:=hJ hl;refine ⟨b,?_,q2,Tbc q3 hk.size,fun hs=>?_,fun k bk h1 h2=>?_,?_⟩
  ·rw [hA.dst,ZbK hdl,if_neg (Ne.symm (hA0 hA hip))];exact q1
  ·rcases hS b hs with hs | hs
   ·exact q4 hs
   ·omega
  ·rcases hB k bk b h1 h2 with h3 | ⟨k',bk',h3,h4⟩
   ·omega
   ·exact q5 k' bk' h3 h4
  ·rw [hk.block b q3 (fun hb=>by have:=hE b hb;omega)];exact q6
 have hgo:GoD e U w0 S0 nt σ.m l.toArray (p+1) (D++[p]) N ((d,.undef)::after σ.s (ZaC D l) αs) (fun σ2=>Runs e (l.map (·.dst)) 0 (l.drop (p+1)) ⟨(d,.ref d 0)::Zan d σ2.s,(d,.var none cs)::remM d σ2.m⟩ K) (fun m L=>Zfq e w0.heap.size p d m L t v) (QN e U w0 S0 nt K):=by
  intro rest s m L listed a w S i' o' d' hI hJ hA hiD hr hdn' hopd hG';by_cases hip:i'=p
  ·subst hip;have ho':o'=⟨some d,.alloc t,ty,pos,af,none⟩:=by have:=hA.op;rw [hop'] at this;injection this with this;exact this.symm
   subst ho';have hdd:d'=d:=by have:=hA.dst;injection this with this;exact this.symm
   subst hdd;unfold Oper.wp;have hrun:(execOp a.eval ⟨some d',.alloc t,ty,pos,af,none⟩).run e.P w=.ok (.value (.pointer (some ⟨w.heap.size,0,none⟩))) (w.alloc (.cells v.cells t)):=by
    simp [execOp,Instr.alloc,zeroValue,typeInfo,hi,hv,newVar,newRow,Result.andThen]
   have hb:Below w.heap.size w (w.alloc (.cells v.cells t)):=ZdD w _;have hk:Kept e.D e.E w.heap.size w (w.alloc (.cells v.cells t)):=Kept.of_below hb (fun _=>Tai _);have hC:=hI.cls;have hC':Cls e U w0.heap.size S0 m (w.alloc (.cells v.cells t)) S L:=hC.later hk (he.keep _ _ hb.size (fun b hE=>hb.block b (Tbc (hC.ein b hE) hC.bsz)) hC.g) (fun _ h=>h) (fun _ h=>.inl h);rw [hrun,Oper.upon_value];refine ⟨S,hI.putD hPt hA hiD hr hdn' (fun _ h=>h) hC' hk (by simp [gs,ARel]),fun _=>⟨w.heap.size,?_,hC.bsz,by simp,fun hs=>by have:=(hC.sin _ hs).1;omega,fun k bk hk hg=>by have:=hC.blk_lt hk hg;omega,heap_alloc_new w _⟩⟩
   rw [ZbK (by rw [hI.size];exact hdn')];simp
  ·exact ZcG (hG' w S L a.eval hI.cls hopd) fun v' w' ⟨S',hS,hC,hk,hv'⟩=>⟨S',hI.putD hPt hA hiD hr hdn' hS.1 hC hk hv',hJN m m L L listed a w w' S S' i' o' d' v' hJ hA hip (by rw [hI.size];exact hdn') hk hS.2 (fun b hb=>hI.cls.ein b hb) fun k bk g h1 h2=>.inr ⟨k,bk,h1,h2⟩⟩
 have H:=ZgK (e:=e) (Q:=QN e U w0 S0 nt K) (J:=fun m L=>Zfq e w0.heap.size p d m L t v) he hH hPt hn (fun hlt=>by
   rcases hsc with q | q
   ·omega
   ·exact q) hsq (fun i o d hi ho hdd=>hd o (hmem i o (by simpa using ho)) d hdd) hDA hgo (fun m m' L L' listed a w w' S S' i o d' v' hJ hA hiN hdl hk hS hE hB=>hJN m m' L L' listed a w w' S S' i o d' v' hJ hA (fun e'=>by
    subst e';exact (hPt.cov i (hPt.nlt i hiN)).elim (fun q=>q.2 hiN) fun q=>q.1 hpD) hdl hk hS hE hB) (fun s m L listed a' w' S' hI hJ hall=>?_) (p+1) N _ _ L _ a w S inv0 hJ0 ?_
 ·rw [hsz] at H;rw [hsz] at hn;rw [show p+1+(l.length - (p+1))=l.length by omega] at H;exact H
 ·have hsim:Sim e U w0 S0 nt ⟨s,m⟩ a' w' S' L:=⟨hI.cls,fun t=>hI.rel t (fun i o hi hl=>by rw [hall i (hPt.dlt i hi)] at hl;cases hl),hI.size,hI.defers,hI.kept⟩;have hr:=hI.run;simp only [ZaC,NRun] at hr;obtain ⟨b,q1,q2,q3,q4,q5,q6⟩:=hJ (hall p om);have hrv:=ZbY (w:=w') (S:=S') v.cells.toList;rw [hcs] at hrv
  have hsimB:=hsim.bornE (bk:=.var none cs) (w':=w') (b':=b) (v':=undef) (u:=a'.tmps.getD d undef) (τ:=some b) (s1:=s) (m1:=m) (α:=.ref d 0) (S':=S') hdn (fun _ h=>h) (fun _ h=>.inl h) (fun t=>.inl rfl) (fun k x h=>h)
   (fun g hg=>by injection hg with hg;subst hg;exact ⟨q4,fun hE=>by have:=hI.cls.ein _ hE;omega,.inl q2⟩) (fun k x g hkd hx hg hb=>by injection hg with hg;subst hg;exact q5 k x hx hb)
   (Kept.refl _ _ _ _) hI.cls.g (by
    simp only [Own1,if_true];refine ⟨by simp,q3,q4,⟨v.cells,t,q6,by have:=hrv.len;simpa using this⟩,?_⟩;exact Zaf.of_vals cs v.cells.toList 0 hrv (fun j u hj=>by
     rw [Nat.zero_add];have hj':v.cells[j]?=some u:=by simpa using hj
     simp [World.cell?,q6,hj']))
   (fun g hg=>by simp only [Zau,if_true] at hg;exact .inl (by rw [hg])) (by simp [ARel,q1])
  have hsimD:SimE e U w0 S0 nt ⟨(d,.ref d 0)::Zan d s,(d,.var none cs)::remM d m⟩ a' w':=by
   obtain ⟨S2,L2,k1,k2,k3,k4,k5⟩:=hsimB;refine ⟨S2,L2,k1,fun t=>?_,hI.size,hI.defers,k5⟩;have:=k2 t;rw [ZbK (by rw [hI.size];exact hdn)] at this;by_cases ht:t=d
   ·rw [if_pos ht] at this;rw [ht];rw [ht] at this;exact this
   ·rw [if_neg ht] at this;exact this
  exact ZgT he l.toArray.toList (fun a w σ' k1 k2=>⟨rfl,σ',k1,k2⟩) (l.toArray.toList.drop (p+1)) _ a' w' (fun o ho=>hd o (List.mem_of_mem_drop ho)) hsimD (by simpa using hr)
 ·rw [List.countP_eq_length.2]
  ·simp
  ·intro i hi;have hi':=List.mem_range.1 hi;have hz:i < (Array.replicate l.length false).size:=by rw [hsz] at hn;simp;omega
   rw [Zbc hz,getD_replicate_false];rfl
variable {mask:Nat} {Q:PX->St->Prop} {s:List (Nat × A)} {m:List (Nat × Bk)} {ds:List (Option Nat)} {Ds Ns T:List Oper}
theorem gN0 {id:Nat} (n:Nat) (D N:List Nat) (hK:Runs e ds (D.length+1) Ds ⟨s,m⟩ fun σ1=>NRun e ds Ns σ1 fun σ2=>Runs e ds 0 T σ2 (Zct mask Q)) (hD:ZaC D l=Ds:=by simp only [ZaC,Tau,Tat];exact rfl) (hN:ZaC N l=Ns:=by simp only [ZaC,Tau,Tat];exact rfl) (hT:l.drop n=T:=by simp only [List.drop_succ_cons,List.drop_zero];exact rfl)
  (hds:l.map (·.dst)=ds:=by simp only [Tbt,List.map_nil];exact rfl) (hP:Zfu l.toArray n D N=true:=by decide +kernel) (hB:regB l.toArray n=true:=by decide +kernel):pwp e mask (.region id l.toArray true) ⟨s,m⟩ Q:=by
 subst hD hN hT hds;exact Zgm (ops:=l.toArray) (by simpa using ZzG hP hB hK)
end
section
variable {e:Env} {ds:List (Option Nat)} {K:St->Prop}
def ResN (e:Env) (ds:List (Option Nat)) (K:St->Prop):Res->Prop
 | .done σ=>K σ
 | .call q c args d _ os σ=>q=true∧∀ (o:Oper) (ts:Array TypeId),o.op=.call ⟨.value c,args.toArray,ts⟩->o.dst=d->Zg0 e o σ (fun σ'=>NRun e ds os σ' K)
 | _=>False
theorem ZjG {os:List Oper} {n q:Nat} {next:St->Res} (hn:qB n=true) (hq:qB q=true) (ih:∀ σ,ResN e ds K (next σ)->NRun e ds os σ K) {o:Oper} {σ:St} (h:ResN e ds K (Zba e.P o.dst o.type q n os next o.op σ)):Zg0 e o σ (fun σ'=>NRun e ds os σ' K):=by
 unfold Zba at h;split at h
 ·rename_i t ho;unfold ZcU at h;split at h
  ·rename_i σ' hσ;rw [hq] at hσ;simp at hσ
  ·exact h.elim
 ·rename_i c args ts ho;exact h.2 o ts (by rw [ho]) rfl
 ·exact h.elim
 ·rename_i op σ1 hne0 hne hne2 ho;unfold ZcU at h;split at h
  ·rename_i σ' hσ;rw [hn] at hσ;exact (ZpR hσ (K:=fun σ'=>NRun e ds os σ' K) (ih σ' h)).toN
  ·exact h.elim
theorem Zg1:∀ (os:List Oper) (n:Nat) (σ:St),os.length+1 < n->ResN e ds K (ZaQ e.P ds n os σ)->NRun e ds os σ K
 | [],n,σ,_,h=>h
 | ⟨d,op,ty,pos,aft,none⟩::os,n,σ,hn,h=>ZjG (o:=⟨d,op,ty,pos,aft,none⟩) (n:=n) (q:=n - 1) (by cases n with | zero=>simp at hn | succ k=>rfl) (by match n,hn with | k+2,_=>rfl) (fun σ h=>Zg1 os (n - 1) σ (by simp only [Tag] at hn;omega) h) h
 | ⟨d,op,ty,pos,aft,some (j,want)⟩::os,n,σ,hn,h=>by
  have ih:∀ σ,ResN e ds K (ZaQ e.P ds (n - 1) os σ)->NRun e ds os σ K:=fun σ h=>Zg1 os (n - 1) σ (by simp only [Tag] at hn;omega) h;have hq:qB n=true:=by cases n with | zero=>simp at hn | succ k=>rfl
  simp only [NRun];simp only [ZaQ] at h;unfold Zey at h;split at h
  ·rename_i b hb;simp only [hb];unfold ZiU at h;split at h
   ·rename_i hbw;rw [if_pos (by simpa using hbw)];exact ZjG (o:=⟨d,op,ty,pos,aft,some (j,want)⟩) hq hq ih h
   ·rename_i hbw;rw [if_neg (by simpa using hbw)];exact ih _ h
  ·rename_i hb;simp only [hb];exact ih _ h
  ·exact h.elim
variable {n n':Nat} {os os':List Oper} {σ:St} {s1 s2 s3:List (Nat × A)} {m1 m2:List (Nat × Bk)}
theorem ZvF (h:ZaQ e.P ds (os.length+2) os σ=.done ⟨s1,m1⟩) (hK:K ⟨s1,m1⟩):NRun e ds os σ K:=Zg1 os (os.length+2) σ om (by rw [h];exact hK)
theorem Zxo {c:Operand} {args:List Operand} {f:FuncId} {xs:List D} {d:Option Nat} {R:List D->Prop} (h:ZaQ e.P ds (os.length+2) os σ=.call true c args d n' os' ⟨s1,m1⟩) (h1:ZdU true c args ⟨s1,m1⟩=some (f,xs,⟨s2,m2⟩)) (hc:ConE e f xs R) (hK:∀ r,R r->NRun e ds os' ⟨setA s2 d (retA r),m2⟩ K):NRun e ds os σ K:=by
 refine Zg1 os (os.length+2) σ om ?_;rw [h];refine ⟨rfl,fun o ts ho hd he=>?_⟩;obtain ⟨caps,ys,hf,hcal,hds,rfl⟩:=Zez h1;unfold frzQ at hf;split at hf;rotate_left
 ·simp at hf
 injection hf with hf
 injection hf with e1 e2
 subst e1 e2;refine ⟨fun α mx=>mx=[]∧∃ r,R r∧α=retA r,[],fun α mx ⟨hm,r,hr,hα⟩=>by rw [hα,hd,hm];exact hK r hr,fun t k hk=>(by cases hk),fun α mx ⟨hm,_⟩ k y hy=>by rw [hm];exact hy,fun U w0 S0 w S L ρv hC _ hr=>?_⟩;obtain ⟨m1,m2⟩:=Zha ho;obtain ⟨us,hv,hus⟩:=ZcH hcal (hr c m1);have hds:Zar w S ys (args.toArray.toList.map ρv):=ZdG (by simpa using hds) (by simp) (mapx (fun p hp=>hr p (m2 p hp)));obtain ⟨hbody,hcon⟩:=hc
 have hcl:=hcon w S _ hC.sin (fun b hb=>Tbc (hC.ein b hb) hC.bsz) hC.g (hds.append (Zar.caps hus));unfold gives;rw [ZdI ho hv hbody];exact hcl.mono fun en w' ⟨v,r,h1,hR,h2,h3,h4⟩=>⟨v,h1,_,[],⟨rfl,r,hR,rfl⟩,fun b=>S b∨(w.heap.size<=b∧b < w'.heap.size),L,fun b hb=>hb.elim .inl (fun q=>.inr q.1),hC.later h2 h3 (fun b hb=>.inl hb) (fun b hb=>hb),h2,Zej h4,fun x u _ hx=>hx.keep h2.size (hC.cell h2) fun b hb=>.inl hb,fun k bk g q1 q2=>.inr ⟨k,bk,q1,q2⟩⟩
theorem Zxp {c:Operand} {args:List Operand} {f:FuncId} {xs:List D} {d:Option Nat} {R:List D->List Bk->Prop} (ks:List Nat) (h:ZaQ e.P ds (os.length+2) os σ=.call true c args d n' os' ⟨s1,m1⟩) (h1:ZdU true c args ⟨s1,m1⟩=some (f,xs,⟨s2,m2⟩)) (hc:ConP e f xs [] R) (hks:Zcd ks s2=s2) (hkm:Zci ks m2=m2) (hK:∀ r pm,R r pm->NRun e ds os' ⟨setA s2 d (retA r),zipM ks pm++m2⟩ K):NRun e ds os σ K:=by
 refine Zg1 os (os.length+2) σ om ?_;rw [h];refine ⟨rfl,fun o ts ho hd he=>?_⟩;obtain ⟨caps,ys,hf,hcal,hds,rfl⟩:=Zez h1;unfold frzQ at hf;split at hf;rotate_left
 ·simp at hf
 injection hf with hf
 injection hf with e1 e2
 subst e1 e2;have hno:∀ k∈ks,gm m1 k=none:=fun k hk=>by
  have:=ZjS (ks:=ks) (m:=m1) (k:=k);rw [if_pos hk,hkm] at this;exact this
 have hfresh:∀ t,∀ k∈ks,¬ ZdH k (gs s1 t):=fun t k hk=>by
  rcases Zgd t ks s1 with ⟨_,q⟩ | q
  ·exact q k hk
  ·rw [hks] at q;rw [q];exact fun h=>h
 refine ⟨fun α mx=>∃ r pm,R r pm∧α=retA r∧mx=zipM ks pm,ks,fun α mx ⟨r,pm,hr,hα,hm⟩=>by rw [hα,hd,hm];exact hK r pm hr,hfresh,fun α mx ⟨r,pm,_,_,hm⟩ k y hy=>?_,fun U w0 S0 w S L ρv hC hkw hr=>?_⟩
 ·rw [Zkr]
  cases hz:gm mx k with
  | none=>exact hy
  | some x =>
   rw [hm] at hz;have:=hno k (Zdv hz).1;have hy:gm m1 k=some y:=hy;rw [hy] at this
   cases this
 obtain ⟨mm1,mm2⟩:=Zha ho;obtain ⟨us,hv,hus⟩:=ZcH hcal (hr c mm1);have hds:Zar w S ys (args.toArray.toList.map ρv):=ZdG (by simpa using hds) (by simp) (mapx (fun p hp=>hr p (mm2 p hp)));obtain ⟨hbody,hcon⟩:=hc;have hcl:=hcon w S _ hC.sin (fun b hb=>Tbc (hC.ein b hb) hC.bsz) hC.g (fun x hx=>by cases hx) trivial (hds.append (Zar.caps hus));unfold gives;rw [ZdI ho hv hbody];refine hcl.mono fun en w' ⟨v,r,pm,h1,hR,k1,k2,k3,k4,k5⟩=>⟨v,h1,retA r,zipM ks pm,⟨r,pm,hR,rfl,rfl⟩,?_⟩
 have hp0:∀ g,¬ Za9 [] g:=fun g ⟨x,hx,_⟩=>by cases hx
 have hsim:Sim e U w0 S0 0 ⟨[],m1⟩ ⟨#[],[]⟩ w S L:=⟨hC,fun t=>trivial,rfl,rfl,hkw⟩;have hz:∀ k x,gm (zipM ks pm++m1) k=some x->(gm (zipM ks pm) k=some x∧k∈ks∧x∈pm)∨(gm (zipM ks pm) k=none∧gm m1 k=some x∧k ∉ ks):=fun k x hx=>by
  rw [Zkr] at hx
  cases hzz:gm (zipM ks pm) k with
  | some y =>
   rw [hzz] at hx;injection hx with hx
   subst hx;exact .inl ⟨rfl,Zdv hzz⟩
  | none =>
   rw [hzz] at hx;exact .inr ⟨rfl,hx,fun hk=>by have:=hno k hk;have hx:gm m1 k=some x:=hx;rw [hx] at this;cases this⟩
 obtain ⟨t1,t2,t3⟩:=hsim.touchM (p:=fun k=>k∈ks) (m':=zipM ks pm++m1) (w':=w') (S':=fun b=>(S b∨Za9 [] b∨(w.heap.size<=b∧b < w'.heap.size))∧¬ Za9 pm b) (L':=layB (zipM ks pm) L) (τ:=fun _=>False)
  (fun b hs=>⟨.inl hs,fun ⟨x,hx,hg⟩=>by
   rcases (k3 x hx).2 b hg with q | q
   ·exact hp0 b q
   ·have:=(hC.sin b hs).1;omega⟩)
  (fun b hb=>hb.1.elim .inl fun q=>q.elim (fun q=>(hp0 b q).elim) fun q=>.inr (.inr q))
  (fun k x hp hx=>by
   rcases hz k x hx with ⟨_,h2,_⟩ | ⟨_,h3,_⟩
   ·exact (hp h2).elim
   ·exact h3)
  (fun k hp=>by
   have hzn:gm (zipM ks pm) k=none:=by
    cases hzz:gm (zipM ks pm) k with
    | none=>rfl
    | some y=>exact (hp (Zdv hzz).1).elim
   simp only [layB,hzn,and_self])
  (fun g hg=>hg.elim) (fun k x g _ _ hg=>hg.elim)
  ⟨k1.os,k1.tape,k1.output,k1.drawn,k1.size,fun b hb hE=>k1.block b hb fun q=>hE (q.elim .inl fun q=>(hp0 b q).elim)⟩ k2
  (fun k x hp hx=>by
   rcases hz k x hx with ⟨h2,_,h3⟩ | ⟨_,_,h3⟩
   ·have:=Zb5 (L:=L) (k3 x h3).1 h2;exact ⟨this.1,fun g hg=>((k3 x h3).2 g ((this.2 g).1 hg)).elim (fun q=>(hp0 g q).elim) .inr⟩
   ·exact (h3 hp).elim)
  (fun k k' x x' g hp hp' hx hx' hb hb'=>by
   rcases hz k x hx with ⟨h2,_,h3⟩ | ⟨_,_,h3⟩
   ·rcases hz k' x' hx' with ⟨h2',_,h3'⟩ | ⟨_,_,h3'⟩
    ·have q:=Zb5 (L:=L) (k3 x h3).1 h2;have q':=Zb5 (L:=L) (k3 x' h3').1 h2';exact Zgc k4 h2 h2' ((q.2 g).1 hb) ((q'.2 g).1 hb')
    ·exact (h3' hp').elim
   ·exact (h3 hp).elim)
 refine ⟨fun b=>(S b∨Za9 [] b∨(w.heap.size<=b∧b < w'.heap.size))∧¬ Za9 pm b,layB (zipM ks pm) L,fun b hb=>hb.1.elim .inl fun q=>q.elim (fun q=>(hp0 b q).elim) fun q=>.inr q.1,t1,⟨k1.os,k1.tape,k1.output,k1.drawn,k1.size,fun b hb hE=>k1.block b hb fun q=>q.elim hE (hp0 b)⟩,Zej k5,fun x u hk hx=>t3 x u (fun k hp hkx=>(hk k hp hkx).elim) hx,fun k bk g h2 h3=>?_⟩;rcases hz k bk h2 with ⟨q1,_,q3⟩ | ⟨q1,q2,_⟩
 ·have:=Zb5 (L:=L) (k3 bk q3).1 q1;exact .inl (((k3 bk q3).2 g ((this.2 g).1 h3)).resolve_left (hp0 g))
 ·refine .inr ⟨k,bk,q2,?_⟩;have:Zau (layB (zipM ks pm) L) k bk=Zau L k bk:=ZlX (by simp only [layB,q1]) (by simp only [layB,q1])
  rwa [this] at h3
theorem gNP {c:Operand} {args:List Operand} {f:FuncId} {xs:List D} {d:Option Nat} {R:List D->List Bk->Prop} (ks:List Nat) (hc:ConP e f xs [] R) (hK:∀ r pm,R r pm->NRun e ds os' ⟨setA s2 d (retA r),zipM ks pm++m2⟩ K) (h:ZaQ e.P ds (os.length+2) os σ=.call true c args d n' os' ⟨s1,m1⟩:=by exact sfv) (h1:ZdU true c args ⟨s1,m1⟩=some (f,xs,⟨s2,m2⟩):=by exact sfv) (hks:Zcd ks s2=s2:=by exact sny) (hkm:Zci ks m2=m2:=by exact sny):NRun e ds os σ K:=Zxp ks h h1 hc hks hkm hK
theorem gNr (hK:K ⟨s1,m1⟩) (h:ZaQ e.P ds (os.length+2) os σ=.done ⟨s1,m1⟩:=by exact sfv):NRun e ds os σ K:=ZvF h hK
theorem gNE {c:Operand} {args:List Operand} {f:FuncId} {xs:List D} {d:Option Nat} {R:List D->Prop} (hc:ConE e f xs R) (hK:∀ r,R r->NRun e ds os' ⟨setA s2 d (retA r),m2⟩ K) (h:ZaQ e.P ds (os.length+2) os σ=.call true c args d n' os' ⟨s1,m1⟩:=by exact sfv) (h1:ZdU true c args ⟨s1,m1⟩=some (f,xs,⟨s2,m2⟩):=by exact sfv):NRun e ds os σ K:=Zxo h h1 hc hK
theorem gNd {k:Nat} (hK:K ⟨s1,m1⟩) (h:ZaQ e.P ds k os σ=.done ⟨s1,m1⟩:=by exact sfv):Runs e ds k os σ K:=Zeq h hK
end
section
variable {e:Env} {K:St->Prop} {l l':List Oper} {σ:St} {s:List (Nat × A)} {m:List (Nat × Bk)} {ds:List (Option Nat)} {Ds Ns T:List Oper}
theorem gLa (i k:Nat) (hK:Zcl e l'.toArray K l'.length (Array.replicate l'.length false) σ) (hl:addL i k l=l':=by simp only [addL];exact rfl) (hc:Zk2 l.toArray i k=true:=by decide +kernel):Zcl e l.toArray K l.length (Array.replicate l.length false) σ:=by
 subst hl;exact Zk3 hc (by rwa [Zhv] at hK)
theorem gNa {d t ty:Nat} {pos:String} {af:Array Edge} {cs:List C} (p:Nat) (D N:List Nat) (hK:Runs e ds (D.length+1) Ds ⟨s,m⟩ fun σ1=>NRun e ds Ns ⟨(d,.undef)::σ1.s,σ1.m⟩ fun σ2=>Runs e ds 0 T ⟨(d,.ref d 0)::Zan d σ2.s,(d,.var none cs)::remM d σ2.m⟩ K) (hop:l[p]?=some ⟨some d,.alloc t,ty,pos,af,none⟩:=by simp only [Tau,Tat];exact rfl) (hz:ZaP e.P t=some cs:=by exact sfv) (hD:ZaC D l=Ds:=by simp only [ZaC,Tau,Tat];exact rfl) (hN:ZaC N l=Ns:=by simp only [ZaC,Tau,Tat];exact rfl) (hT:l.drop (p+1)=T:=by simp only [List.drop_succ_cons,List.drop_zero];exact rfl)
  (hds:l.map (·.dst)=ds:=by simp only [Tbt,List.map_nil];exact rfl) (hP:Zfu l.toArray (p+1) (D++[p]) N=true:=by decide +kernel) (hB:regB l.toArray (p+1)=true:=by decide +kernel):Zcl e l.toArray K l.length (Array.replicate l.length false) ⟨s,m⟩:=by
 subst hD hN hT hds;exact Zxn hop hz hP hB hK
end
def Env.plus (e:Env) (E2:Nat->Prop) (G2:World->Prop):Env:=⟨e.P,fun b=>e.E b∨E2 b,fun w=>e.G w∧G2 w,e.D⟩
structure Fits (e:Env) (E2:Nat->Prop) (G2:World->Prop):Prop where
 st:ZdE E2 G2
 dj:∀ w,G2 w->∀ b,E2 b->¬ e.E b
section
variable {e:Env} {E2:Nat->Prop} {G2:World->Prop}
theorem Fits.ok (h:Fits e E2 G2) (he:e.Ok):(e.plus E2 G2).Ok:=⟨fun w w' hz hb ⟨h1,h2⟩=>⟨he.keep w w' hz (fun b hb'=>hb b (.inl hb')) h1,h.st w w' hz (fun b hb'=>hb b (.inr hb')) h2⟩,he.mixed⟩
theorem Kept.up {D:Prop} {E E':Nat->Prop} {B:Nat} {w w':World} (h:Kept D E B w w') (hE:∀ b,E b->E' b):Kept D E' B w w':=⟨h.os,h.tape,h.output,h.drawn,h.size,fun k hk hn=>h.block k hk fun q=>hn (hE k q)⟩
theorem Fits.keep (h:Fits e E2 G2) {E:Nat->Prop} {w w':World} (hk:Kept e.D E w.heap.size w w') (hE:∀ b,(e.plus E2 G2).E b->b < w.heap.size) (hG:G2 w) (hn:∀ b,E2 b->¬ E b):G2 w':=h.st w w' hk.size (fun b hb=>hk.block b (hE b (.inr hb)) (hn b hb)) hG
theorem Con.up (h2:Fits e E2 G2) {f:FuncId} {args r:List D} (h:Con e f args r):Con (e.plus E2 G2) f args r :=
 ⟨h.1,fun w S vs hS hE hG hvs=>(h.2 w S vs (fun b hb=>⟨(hS b hb).1,fun q=>(hS b hb).2 (.inl q)⟩) (fun b hb=>hE b (.inl hb)) hG.1 hvs).mono fun en w' ⟨v,h1,hk,hg,ha⟩=>⟨v,h1,hk.up fun _=>.inl,⟨hg,h2.keep hk hE hG.2 (h2.dj w hG.2)⟩,ha⟩⟩
theorem ConE.up (h2:Fits e E2 G2) {f:FuncId} {args:List D} {R:List D->Prop} (h:ConE e f args R):ConE (e.plus E2 G2) f args R :=
 ⟨h.1,fun w S vs hS hE hG hvs=>(h.2 w S vs (fun b hb=>⟨(hS b hb).1,fun q=>(hS b hb).2 (.inl q)⟩) (fun b hb=>hE b (.inl hb)) hG.1 hvs).mono fun en w' ⟨v,r,h1,hr,hk,hg,ha⟩=>⟨v,r,h1,hr,hk.up fun _=>.inl,⟨hg,h2.keep hk hE hG.2 (h2.dj w hG.2)⟩,ha⟩⟩
theorem ConR.up (h2:Fits e E2 G2) {f:FuncId} {args:List D} {ty sz:Nat} {rows:List (List C)} (h:ConR e f args ty sz rows):ConR (e.plus E2 G2) f args ty sz rows :=
 ⟨h.1,fun w S vs hS hE hG hvs=>(h.2 w S vs (fun b hb=>⟨(hS b hb).1,fun q=>(hS b hb).2 (.inl q)⟩) (fun b hb=>hE b (.inl hb)) hG.1 hvs).mono fun en w' ⟨v,h1,hk,hg,ha⟩=>⟨v,h1,hk.up fun _=>.inl,⟨hg,h2.keep hk hE hG.2 (h2.dj w hG.2)⟩,ha⟩⟩
theorem ConI.up (h2:Fits e E2 G2) {f:FuncId} {ty sz:Nat} {rows rows':List (List C)} {args r:List D} (h:ConI e f ty sz rows args rows' r):ConI (e.plus E2 G2) f ty sz rows args rows' r :=
 ⟨h.1,fun w S v0 vs hS hE h0 hG hb hvs=>(h.2 w S v0 vs (fun b hb=>⟨(hS b hb).1,fun q=>(hS b hb).2 (.inl q)⟩) (fun b hb=>hE b (.inl hb)) (fun g hg q=>h0 g hg (.inl q)) hG.1 hb hvs).mono fun en w' ⟨v,h1,hk,hg,ha⟩=>⟨v,h1,hk.up fun _ q=>q.elim (fun q=>.inl (.inl q)) .inr,⟨hg,h2.keep hk hE hG.2 fun b hb q=>q.elim (h2.dj w hG.2 b hb) fun q=>h0 b q (.inr hb)⟩,ha⟩⟩
theorem ConT.up (h2:Fits e E2 G2) {f:FuncId} {ty sz:Nat} {rows rows':List (List C)} {args:List D} (h:ConT e f ty sz rows args rows'):ConT (e.plus E2 G2) f ty sz rows args rows' :=
 ⟨h.1,fun w S v0 vs hS hE h0 hG hb hvs=>(h.2 w S v0 vs (fun b hb=>⟨(hS b hb).1,fun q=>(hS b hb).2 (.inl q)⟩) (fun b hb=>hE b (.inl hb)) (fun g hg q=>h0 g hg (.inl q)) hG.1 hb hvs).mono fun en w' ⟨v,h1,hk,hg,ha⟩=>⟨v,h1,hk.up fun _ q=>q.elim (fun q=>.inl (.inl q)) .inr,⟨hg,h2.keep hk hE hG.2 fun b hb q=>q.elim (h2.dj w hG.2 b hb) fun q=>h0 b q (.inr hb)⟩,ha⟩⟩
theorem ConP.up (h2:Fits e E2 G2) {f:FuncId} {args:List D} {pm:List Bk} {R:List D->List Bk->Prop} (h:ConP e f args pm R):ConP (e.plus E2 G2) f args pm R :=
 ⟨h.1,fun w S vs hS hE hG hpm hap hvs=>(h.2 w S vs (fun b hb=>⟨(hS b hb).1,fun q=>(hS b hb).2 (.inl q)⟩) (fun b hb=>hE b (.inl hb)) hG.1 (fun x hx=>⟨(hpm x hx).1,fun g hg q=>(hpm x hx).2 g hg (.inl q)⟩) hap hvs).mono fun en w' ⟨v,r,pm',h1,hr,hk,hg,ha⟩=>⟨v,r,pm',h1,hr,hk.up fun _ q=>q.elim (fun q=>.inl (.inl q)) .inr,⟨hg,h2.keep hk hE hG.2 fun b hb q=>q.elim (h2.dj w hG.2 b hb) fun ⟨x,hx,hxg⟩=>(hpm x hx).2 b hxg (.inr hb)⟩,ha⟩⟩
theorem ZzH {mask:Nat} {c:Code} {s:List (Nat × A)} {m:List (Nat × Bk)} {Q:PX->St->Prop} {G1:World->Prop} (k:Nat) (hst:ZdE E2 G2) (hm:gm m k=some (.set E2 G1)) (h2:(∀ b,E2 b->¬ e.E b)->Fits e E2 G2∧∀ w,G1 w->G2 w) (h:Fits e E2 G2->pwp (e.plus E2 G2) mask c ⟨s,remM k m⟩ Q):pwp e mask c ⟨s,m⟩ Q:=by
 intro he U w0 S0 nt a w hok ⟨S,L,hs⟩;have hc:=hs.cls;have ho:=hc.own k _ hm;obtain ⟨hF,hG⟩:=h2 fun b hb=>hc.notE hm (show Zau L k (.set E2 G1) b from hb);have hlt:∀ b,e.E b∨E2 b->b < w.heap.size:=fun b hb=>hb.elim (fun q=>Tbc (hc.ein b q) hc.bsz) fun q=>(ho.1 b q).1;have hsub:∀ k' bk,gm (remM k m) k'=some bk->k'≠k∧gm m k'=some bk:=fun k' bk hk'=>by
  rw [ZaH] at hk';by_cases e:k'=k
  ·rw [if_pos e] at hk';cases hk'
  ·rw [if_neg e] at hk';exact ⟨e,hk'⟩
 have hs2:SimE (e.plus E2 G2) (fun g=>∃ k' bk,gm (remM k m) k'=some bk∧Zau L k' bk g) w S nt ⟨s,remM k m⟩ a w:=by
  refine ⟨S,L,⟨fun b hb=>⟨(hc.sin b hb).1,fun q=>q.elim (hc.sin b hb).2 fun q=>(ho.1 b q).2 hb⟩,fun b hb=>.inl hb,hlt,?_,Tai _,fun k' bk g h1 h2=>.inr ⟨k',bk,h1,h2⟩,fun k' bk hk'=>hc.own k' bk (hsub k' bk hk').2,fun k1 k2 x1 x2 g h1 h2=>hc.inj k1 k2 x1 x2 g (hsub k1 x1 h1).2 (hsub k2 x2 h2).2,⟨hc.g,hG w ho.2.1⟩⟩,hs.rel,hs.size,hs.defers,Kept.refl _ _ _ _⟩;rintro b ⟨k',bk,h1,h3⟩ q;obtain ⟨hne,h1⟩:=hsub k' bk h1
  rcases q with q | q
  ·exact hc.notE h1 h3 q
  ·exact hne (hc.inj k' k bk _ b h1 hm h3 q)
 refine wp_mono (h hF (hF.ok he) _ _ _ _ _ w hok hs2) fun ex a' w' hq=>?_;have back:∀ σ',SimE (e.plus E2 G2) (fun g=>∃ k' bk,gm (remM k m) k'=some bk∧Zau L k' bk g) w S nt σ' a' w'->SimE e U w0 S0 nt σ' a' w':=fun σ' ⟨S1,L1,h1⟩=>by
  have c1:=h1.cls;have hU:∀ b,(∃ k' bk,gm (remM k m) k'=some bk∧Zau L k' bk b)->w0.heap.size<=b∨U b:=fun b ⟨k',bk,q1,q2⟩=>hc.mine k' bk b (hsub k' bk q1).2 q2;refine ⟨S1,L1,⟨fun b hb=>⟨(c1.sin b hb).1,fun q=>(c1.sin b hb).2 (.inl q)⟩,fun b hb=>?_,hc.ein,hc.uin,Tbd hc.bsz c1.bsz,fun k' bk g q1 q2=>?_,c1.own,c1.inj,c1.g.1⟩,h1.rel,h1.size,h1.defers,⟨h1.kept.os.trans hs.kept.os,h1.kept.tape.trans hs.kept.tape,h1.kept.output.trans hs.kept.output,fun d=>Tbd (hs.kept.drawn d) (h1.kept.drawn d),Tbd hs.kept.size h1.kept.size,fun b hb hn=>?_⟩⟩
  ·rcases c1.sfr b hb with q | q | q
   ·exact hc.sfr b q
   ·exact .inr (.inl (Tbd hc.bsz q))
   ·exact .inr (hU b q)
  ·rcases c1.mine k' bk g q1 q2 with q | q
   ·exact .inl (Tbd hc.bsz q)
   ·exact hU g q
  ·refine (h1.kept.block b (Tbc hb hs.kept.size) fun q=>?_).trans (hs.kept.block b hb hn);rcases q with (q | q) | q
   ·exact hn (.inl q)
   ·rcases hc.mine k _ b hm (show Zau L k (.set E2 G1) b from q) with q | q
    ·omega
    ·exact hn (.inr q)
   ·rcases hU b q with q | q
    ·omega
    ·exact hn (.inr q)
 cases ex with
 | normal=>exact hq.elim fun σ' hq=>⟨σ',hq.1,back σ' hq.2⟩
 | exit id=>exact hq.elim fun σ' hq=>⟨σ',hq.1,back σ' hq.2⟩
 | ret=>exact hq.elim fun σ' hq=>⟨σ',hq.1,back σ' hq.2⟩
 | goto l=>exact hq
 | panic ch=>exact hq
 | outgrown=>exact hq
end
end Go.Proofs.YtmdkimnlbaahbaaGreat
namespace Go.Proofs.YtmdkimnlbaahbaaGreat
open Go.RowKit
open Classical in
noncomputable def cntT (x:Tm):List Tm->Nat
 | []=>0
 | y::l=>(if y=x then 1 else 0)+cntT x l
theorem Zf2 {x:Tm}:∀ {l:List Tm},0 < cntT x l ↔ x∈l
 | []=>by simp [cntT]
 | y::l=>by
  simp only [cntT,Tbf];by_cases h:y=x
  ·subst h;simp only [if_true];exact ⟨fun _=>.inl trivial,fun _=>om⟩
  ·simp only [if_neg h,Nat.zero_add,Zf2 (l:=l)];exact ⟨.inr,fun h'=>h'.resolve_left fun e=>h e.symm⟩
section
variable (rk:Int->Int) (cm:Int->Bool)
inductive Gr:Tm->Tm->Prop
 | same {a t:Tm} (h:t∈a.args):Gr a t
 | sub {a b t:Tm} (h:t∈a.args) (hg:Gr t b):Gr a b
 | rank {a b:Tm} (ha:a.op≠-1) (hb:b.op≠-1) (hall:∀ u,u∈b.args->Gr a u) (hr:rk b.op < rk a.op):Gr a b
 | bag {a b:Tm} (ha:a.op≠-1) (he:a.op=b.op) (hc:cm a.op=true) (hall:∀ u,u∈b.args->Gr a u) (f:Tm->Tm) (hf:∀ y,cntT y a.args < cntT y b.args->cntT (f y) b.args < cntT (f y) a.args) (hg:∀ y,cntT y a.args < cntT y b.args->Gr (f y) y) (x:Tm) (hx:cntT x b.args < cntT x a.args):Gr a b
 | lex {a b:Tm} (ha:a.op≠-1) (he:a.op=b.op) (hc:cm a.op=false) (hall:∀ u,u∈b.args->Gr a u) (i:Nat) (x y:Tm) (hx:a.args[i]?=some x) (hy:b.args[i]?=some y) (hj:∀ j,j < i->a.args[j]?=b.args[j]?) (hg:Gr x y):Gr a b
variable {rk:Int->Int} {cm:Int->Bool}
def BagG (rk:Int->Int) (cm:Int->Bool) (l m:List Tm):Prop:=(∀ y,cntT y l < cntT y m->∃ x,cntT x m < cntT x l∧Gr rk cm x y)∧∃ x,cntT x m < cntT x l
def LexG (rk:Int->Int) (cm:Int->Bool) (l m:List Tm):Prop:=∃ (i:Nat) (x y:Tm),l[i]?=some x∧m[i]?=some y∧(∀ j,j < i->l[j]?=m[j]?)∧Gr rk cm x y
def ZAO (rk:Int->Int) (cm:Int->Bool) (a b:Tm):Prop:=a.op≠-1∧b.op≠-1∧(∀ u,u∈b.args->Gr rk cm a u)∧(rk b.op < rk a.op∨(a.op=b.op∧cm a.op=true∧BagG rk cm a.args b.args)∨(a.op=b.op∧cm a.op=false∧LexG rk cm a.args b.args))
theorem Zk7 {a b:Tm}:Gr rk cm a b ↔ (∃ t,t∈a.args∧(t=b∨Gr rk cm t b))∨ZAO rk cm a b:=by
 constructor
 ·intro h
  cases h with
  | same h=>exact .inl ⟨_,h,.inl rfl⟩
  | sub h hg=>exact .inl ⟨_,h,.inr hg⟩
  | rank ha hb hall hr=>exact .inr ⟨ha,hb,hall,.inl hr⟩
  | bag ha he hc hall f hf hg x hx=>exact .inr ⟨ha,he ▸ ha,hall,.inr (.inl ⟨he,hc,fun y hy=>⟨f y,hf y hy,hg y hy⟩,x,hx⟩)⟩
  | lex ha he hc hall i x y hx hy hj hg=>exact .inr ⟨ha,he ▸ ha,hall,.inr (.inr ⟨he,hc,i,x,y,hx,hy,hj,hg⟩)⟩
 ·rintro (⟨t,ht,rfl | hg⟩ | ⟨ha,hb,hall,hr | ⟨he,hc,hf,x,hx⟩ | ⟨he,hc,i,x,y,hx,hy,hj,hg⟩⟩)
  ·exact .same ht
  ·exact .sub ht hg
  ·exact .rank ha hb hall hr
  ·refine .bag ha he hc hall (fun y=>if h:cntT y a.args < cntT y b.args then Classical.choose (hf y h) else y) (fun y h=>?_) (fun y h=>?_) x hx
   ·simp only [h,dite_true];exact (Classical.choose_spec (hf y h)).1
   ·simp only [h,dite_true];exact (Classical.choose_spec (hf y h)).2
  ·exact .lex ha he hc hall i x y hx hy hj hg
theorem Zek {t a:Tm} (h:t∈a.args):sizeTm t < sizeTm a:=by
 have:=ZaX h;rw [ZaO a];omega
theorem Zk8 {p q:Tm->Bool}:∀ {E:List Tm},(∀ x,x∈E->p x=true->q x=true)->(∃ z,z∈E∧q z=true∧p z=false)->E.countP p < E.countP q
 | [],_,⟨z,hz,_⟩=>by cases hz
 | e::E,h1,⟨z,hz,hq,hp⟩=>by
  have hle:E.countP p<=E.countP q:=List.countP_mono_left fun x hx=>h1 x (Tal _ hx);rw [List.countP_cons,List.countP_cons];rcases Tbf.1 hz with rfl | hz
  ·rw [hq,hp];simp;omega
  ·have ih:=Zk8 (p:=p) (q:=q) (E:=E) (fun x hx=>h1 x (Tal _ hx)) ⟨z,hz,hq,hp⟩;have:=h1 e Tas
   cases h3:p e
   ·cases h4:q e <;> simp <;> omega
   ·rw [this h3];simp;omega
open Classical in
theorem ZvG {R:Tm->Tm->Prop} {Q:Tm->Prop} {E:List Tm} (hE:∀ x,Q x->x∈E) (hir:∀ x,Q x->¬ R x x) (htr:∀ x y z,Q x->Q y->Q z->R x y->R y z->R x z):∀ (n:Nat) (x0:Tm),Q x0->E.countP (fun z=>decide (Q z∧R z x0)) < n->∃ x,Q x∧(x=x0∨R x x0)∧∀ z,Q z->¬ R z x
 | 0,x0,_,h=>om
 | n+1,x0,hq,h=>by
  by_cases hz:∃ z,Q z∧R z x0
  ·obtain ⟨z,hz1,hz2⟩:=hz;have hlt:E.countP (fun y=>decide (Q y∧R y z)) < E.countP (fun y=>decide (Q y∧R y x0)):=by
    refine Zk8 (fun x _ hx=>?_) ⟨z,hE z hz1,by simp [hz1,hz2],by simp [hir z hz1]⟩;simp only [decide_eq_true_eq] at hx ⊢;exact ⟨hx.1,htr x z x0 hx.1 hz1 hq hx.2 hz2⟩
   obtain ⟨x,h1,h2,h3⟩:=ZvG hE hir htr n z hz1 om;refine ⟨x,h1,.inr ?_,h3⟩;rcases h2 with rfl | h2
   ·exact hz2
   ·exact htr x z x0 h1 hz1 hq h2 hz2
  ·exact ⟨x0,hq,.inl rfl,fun z h1 h2=>hz ⟨z,h1,h2⟩⟩
theorem ZvH {l m p:List Tm} (hir:∀ x,(x∈l∨x∈m∨x∈p)->¬ Gr rk cm x x) (htr:∀ x y z,(x∈l∨x∈m∨x∈p)->(y∈l∨y∈m∨y∈p)->(z∈l∨z∈m∨z∈p)->Gr rk cm x y->Gr rk cm y z->Gr rk cm x z) (h1:BagG rk cm l m) (h2:BagG rk cm m p):BagG rk cm l p:=by
 have hin:∀ x,(cntT x m < cntT x l∨cntT x p < cntT x m)->x∈l∨x∈m∨x∈p:=fun x hx=>by
  rcases hx with h | h
  ·exact .inl (Zf2.1 om)
  ·exact .inr (.inl (Zf2.1 om))
 have key:∀ x0,(cntT x0 m < cntT x0 l∨cntT x0 p < cntT x0 m)->∃ x,(cntT x p < cntT x l)∧(x=x0∨Gr rk cm x x0):=fun x0 hx0=>by
  obtain ⟨x,q1,q2,q3⟩:=ZvG (R:=Gr rk cm) (Q:=fun x=>cntT x m < cntT x l∨cntT x p < cntT x m) (E:=l++(m++p)) (fun x hx=>by simpa using hin x hx) (fun x hx=>hir x (hin x hx)) (fun x y z hx hy hz=>htr x y z (hin x hx) (hin y hy) (hin z hz)) _ x0 hx0 (Tan _)
  ·refine ⟨x,?_,q2⟩;rcases q1 with q1 | q1
   ·by_cases h:cntT x m < cntT x p
    ·obtain ⟨z,h3,h4⟩:=h2.1 x h;exact absurd h4 (q3 z (.inr h3))
    ·omega
   ·by_cases h:cntT x l < cntT x m
    ·obtain ⟨z,h3,h4⟩:=h1.1 x h;exact absurd h4 (q3 z (.inl h3))
    ·omega
 refine ⟨fun y hy=>?_,?_⟩
 ·have step:∃ x0,(cntT x0 m < cntT x0 l∨cntT x0 p < cntT x0 m)∧Gr rk cm x0 y:=by
   by_cases h:cntT y m < cntT y p
   ·obtain ⟨x0,h3,h4⟩:=h2.1 y h;exact ⟨x0,.inr h3,h4⟩
   ·obtain ⟨x0,h3,h4⟩:=h1.1 y om;exact ⟨x0,.inl h3,h4⟩
  obtain ⟨x0,hx0,hg⟩:=step;obtain ⟨x,hx,hxx⟩:=key x0 hx0;refine ⟨x,hx,?_⟩;rcases hxx with rfl | hxx
  ·exact hg
  ·exact htr x x0 y (.inl (Zf2.1 om)) (hin x0 hx0) (.inr (.inr (Zf2.1 om))) hxx hg
 ·obtain ⟨x0,hx0⟩:=h1.2;obtain ⟨x,hx,_⟩:=key x0 (.inl hx0);exact ⟨x,hx⟩
theorem ZvI {l m p:List Tm} (htr:∀ x y z,x∈l->y∈m->z∈p->Gr rk cm x y->Gr rk cm y z->Gr rk cm x z) (h1:LexG rk cm l m) (h2:LexG rk cm m p):LexG rk cm l p:=by
 obtain ⟨i,x,y,hx,hy,hj,hg⟩:=h1;obtain ⟨k,u,v,hu,hv,hk,hh⟩:=h2;rcases Nat.lt_trichotomy i k with h | h | h
 ·exact ⟨i,x,y,hx,by rw [<- hk i h];exact hy,fun j hji=>(hj j hji).trans (hk j om),hg⟩
 ·subst h;obtain rfl:y=u:=by rw [hy] at hu;injection hu
  exact ⟨i,x,v,hx,hv,fun j hji=>(hj j hji).trans (hk j hji),htr x y v (Tac hx) (Tac hy) (Tac hv) hg hh⟩
 ·exact ⟨k,u,v,by rw [hj k h];exact hu,hv,fun j hji=>(hj j om).trans (hk j hji),hh⟩
def TrOn (rk:Int->Int) (cm:Int->Bool) (k:Nat):Prop:=∀ a b c,sizeTm a<=k->sizeTm b<=k->sizeTm c<=k->Gr rk cm a b->Gr rk cm b c->Gr rk cm a c
def IrOn (rk:Int->Int) (cm:Int->Bool) (k:Nat):Prop:=∀ a,sizeTm a<=k->¬ Gr rk cm a a
theorem Zrl {k:Nat} (hI:IrOn rk cm k) (hT:TrOn rk cm k):∀ (n:Nat) (a b c:Tm),sizeTm a+sizeTm b+sizeTm c < n->sizeTm a<=k+1->sizeTm b<=k+1->sizeTm c<=k+1->Gr rk cm a b->Gr rk cm b c->Gr rk cm a c
 | 0,_,_,_,h,_,_,_,_,_=>om
 | n+1,a,b,c,hn,ka,kb,kc,hab,hbc=>by
  have ih:=Zrl hI hT n;rcases Zk7.1 hab with ⟨t,ht,rfl | hg⟩ | ⟨ha,hb,hall,hr⟩
  ·exact .sub ht hbc
  ·have:=Zek ht;exact .sub ht (ih t b c om om kb kc hg hbc)
  ·rcases Zk7.1 hbc with ⟨u,hu,rfl | hg⟩ | ⟨_,hc,hall2,hr2⟩
   ·exact hall u hu
   ·have:=Zek hu;exact ih a u c om ka om kc (hall u hu) hg
   ·refine Zk7.2 (.inr ⟨ha,hc,fun v hv=>by
     have:=Zek hv;exact ih a b v om ka kb om hab (hall2 v hv),?_⟩)
    have el:∀ x,(x∈a.args∨x∈b.args∨x∈c.args)->sizeTm x<=k:=fun x hx=>by
     rcases hx with h | h | h <;> (have:=Zek h;omega)
    rcases hr with hr | ⟨e1,c1,hr⟩ | ⟨e1,c1,hr⟩
    ·rcases hr2 with hr2 | ⟨e2,_⟩ | ⟨e2,_⟩
     ·exact .inl om
     ·exact .inl (by rw [<- e2];exact hr)
     ·exact .inl (by rw [<- e2];exact hr)
    ·rcases hr2 with hr2 | ⟨e2,c2,hr2⟩ | ⟨e2,c2,hr2⟩
     ·exact .inl (by rw [e1];exact hr2)
     ·refine .inr (.inl ⟨e1.trans e2,c1,ZvH (fun x hx=>hI x (el x hx)) (fun x y z hx hy hz=>hT x y z (el x hx) (el y hy) (el z hz)) hr hr2⟩)
     ·rw [e1,c2] at c1;cases c1
    ·rcases hr2 with hr2 | ⟨e2,c2,hr2⟩ | ⟨e2,c2,hr2⟩
     ·exact .inl (by rw [e1];exact hr2)
     ·rw [e1,c2] at c1;cases c1
     ·refine .inr (.inr ⟨e1.trans e2,c1,ZvI (fun x y z hx hy hz=>?_) hr hr2⟩);exact hT x y z (el x (.inl hx)) (el y (.inr (.inl hy))) (el z (.inr (.inr hz)))
theorem ZvJ:∀ (k:Nat),IrOn rk cm k∧TrOn rk cm k
 | 0=>⟨fun a h=>by rw [ZaO] at h;omega,fun a _ _ h=>by rw [ZaO] at h;omega⟩
 | k+1=>by
  obtain ⟨hI,hT⟩:=ZvJ k;have hT1:TrOn rk cm (k+1):=fun a b c ha hb hc=>Zrl hI hT _ a b c (Tan _) ha hb hc;refine ⟨fun a ha h=>?_,hT1⟩;rcases Zk7.1 h with ⟨t,ht,rfl | hg⟩ | ⟨_,_,hall,hr⟩
  ·have:=Zek ht;omega
  ·have:=Zek ht;exact hI t om (hT1 t a t om ha om hg (.same ht))
  ·rcases hr with hr | ⟨_,_,_,x,hx⟩ | ⟨_,_,i,x,y,hx,hy,_,hg⟩
   ·omega
   ·omega
   ·obtain rfl:x=y:=by rw [hx] at hy;injection hy
    have:=Zek (Tac hx);exact hI x om hg
theorem Gr.trans {a b c:Tm} (h:Gr rk cm a b) (h':Gr rk cm b c):Gr rk cm a c:=(ZvJ (sizeTm a+sizeTm b+sizeTm c)).2 a b c om om om h h'
end
end Go.Proofs.YtmdkimnlbaahbaaGreat
namespace Go.Proofs.YtmdkimnlbaahbaaGreat
open Go.RowKit
section
variable {rk:Int->Int} {cm:Int->Bool}
end
theorem okA {t a:Tm} (h:okTm t) (ha:a∈t.args):okTm a:=by
 obtain ⟨op,nm,so,args⟩:=t;simp only [okTm] at h;exact h.2.2.2.mem ha
def ZvK (x:Tm × Bool) (r:List D) (pm:List Bk):Prop:=∃ us E,r=[.agg (ZbF us),.one (.lit (.bool x.2))]∧us.length=4∧(ZbF us).all Zay=true∧pm=[.set E (fun w=>Zam w (Zab x.1) E us)]
theorem ZvK.mk {x:Tm × Bool} {b:Bool} {u0 u1 u2 u3:Value} {E:Nat->Prop} (hok:(ZbF [u0,u1,u2,u3]).all Zay=true) (hb:b=x.2):ZvK x [.agg [.lit u0,.lit u1,.lit u2,.lit u3],.one (.lit (.bool b))] [.set E (fun w=>Zam w (Zab x.1) E [u0,u1,u2,u3])]:=⟨[u0,u1,u2,u3],E,by rw [hb];rfl,rfl,hok,rfl⟩
section
variable {e:Env} {mask:Nat} {Q:PX->St->Prop} {ds:List (Option Nat)}
def ancN (L:List Oper):Nat->Nat->List Nat
 | 0,_=>[]
 | n+1,j=>ZbI L j++(ZbI L j).flatMap (ancN L n)
theorem Zhx {L:List Oper} {listed:Array Bool} (h:∀ j,listed.getD j false=true->∀ q∈ZbI L j,listed.getD q false=true):∀ (n j:Nat),(∀ q∈ZbI L j,listed.getD q false=true)->∀ q∈ancN L n j,listed.getD q false=true
 | 0,_,_,q,hq=>by cases hq
 | n+1,j,hj,q,hq=>by
  rcases Tbg.1 hq with hq | hq
  ·exact hj q hq
  ·obtain ⟨r,hr,hq⟩:=List.mem_flatMap.1 hq;exact Zhx h n r (h r (hj r hr)) q hq
def ZeH (e:Env) (ds:List (Option Nat)) (L:List Oper) (cons:Nat->Option Nat) (ini:List Nat) (B:St->Prop) (P:Nat->St->Prop):Nat->List Oper->Prop
 | _,[]=>True
 | i,o::os=>(∀ s m,B ⟨s,m⟩->(∀ j∈ZbI L i,(cons j=none∨cons j=some i)->P j ⟨s,m⟩)->(∀ j∈ini,cons j=some i->P j ⟨s,m⟩)->(∀ j∈ini,∀ k,cons j=some k->i∈ZbI L k->P j ⟨s,m⟩)->Runs e ds 0 [o] ⟨s,m⟩ (fun σ'=>B σ'∧P i σ'∧∀ j,j≠i->i ∉ ancN L 6 j->cons j≠some i->(∀ k,cons j=some k->k ∉ ancN L 6 i)->P j ⟨s,m⟩->P j σ'))∧ZeH e ds L cons ini B P (i+1) os
theorem ZeH.get {L:List Oper} {cons:Nat->Option Nat} {ini:List Nat} {B:St->Prop} {P:Nat->St->Prop}:∀ {l:List Oper} {k i:Nat} {o:Oper},ZeH e ds L cons ini B P k l->l[i]?=some o->∀ s m,B ⟨s,m⟩->(∀ j∈ZbI L (k+i),(cons j=none∨cons j=some (k+i))->P j ⟨s,m⟩)->(∀ j∈ini,cons j=some (k+i)->P j ⟨s,m⟩)->(∀ j∈ini,∀ k',cons j=some k'->k+i∈ZbI L k'->P j ⟨s,m⟩)->Runs e ds 0 [o] ⟨s,m⟩ (fun σ'=>B σ'∧P (k+i) σ'∧∀ j,j≠k+i->k+i ∉ ancN L 6 j->cons j≠some (k+i)->(∀ k',cons j=some k'->k' ∉ ancN L 6 (k+i))->P j ⟨s,m⟩->P j σ')
 | [],k,i,o,_,h=>by simp at h
 | x::l,k,0,o,h,ho=>by
  simp only [Tat,Taq] at ho;subst ho;exact h.1
 | x::l,k,i+1,o,h,ho=>by
  have:=ZeH.get (l:=l) (k:=k+1) (i:=i) (o:=o) h.2 (by simpa using ho);rw [show k+1+i=k+(i+1) by omega] at this;exact this
theorem ZjH {l:List Oper} {cons:Nat->Option Nat} {ini:List Nat} {K B:St->Prop} {P:Nat->St->Prop} (hb:Zi4 l=true) (hini:ini.all (fun j=>decide (l.length<=j))=true) (hstep:ZeH e ds l cons ini B P 0 l) (hK:∀ s m,B ⟨s,m⟩->(∀ i,i < l.length∨i∈ini->(∀ k,cons i=some k->l.length<=k)->P i ⟨s,m⟩)->K ⟨s,m⟩) :
  ∀ (f:Nat) (listed:Array Bool) (σ:St),listed.size=l.length->(List.range l.length).countP (fun i=>!listed.getD i true)=f->B σ->(∀ j,listed.getD j false=true->(P j σ∨∃ k,cons j=some k∧listed.getD k false=true)∧∀ q∈ZbI l j,listed.getD q false=true)->(∀ j∈ini,P j σ∨∃ k,cons j=some k∧listed.getD k false=true)->ZcN e ds l.toArray K f listed σ:=by
 have hback:∀ i o,l[i]?=some o->o.guard=none∧∀ e∈o.after,Region.binds .any e=true->e.on < i:=fun i o ho=>by
  have h1:=List.all_eq_true.1 hb i (List.mem_range.2 (Tad.1 ho).1);rw [ho] at h1;simp only [Tar,Option.isNone_iff_eq_none,List.all_eq_true,Bool.or_eq_true,Bool.not_eq_true',decide_eq_true_eq] at h1;refine ⟨h1.1,fun e he hbe=>?_⟩;rcases h1.2 e (Array.mem_toList_iff.2 he) with h2 | h2
  ·rw [hbe] at h2;cases h2
  ·exact h2
 have hfirst:∀ (listed:Array Bool),listed.size=l.length->Region.ready .any l.toArray listed=[]->∀ i,i < l.length->listed.getD i false=true:=fun listed hsz h0 i=>by
  induction i using Nat.strongRecOn with
  | _ i ih =>
   intro hi;rw [<- Zbc (by omega:i < listed.size)]
   cases hun:listed.getD i true with
   | true=>rfl
   | false =>
   obtain ⟨o,ho⟩:∃ o,l[i]?=some o:=⟨_,Taa hi⟩;have:=(mem_ready (ops:=l.toArray) (md:=.any)).2 ⟨hun,o,by simpa using ho,fun e he hbe=>ih e.on ((hback i o ho).2 e he hbe) (by have:=(hback i o ho).2 e he hbe;omega)⟩;rw [h0] at this
   cases this
 have hlt:∀ (listed:Array Bool) (k:Nat),listed.getD k false=true->k < listed.size:=fun listed k h=>Classical.byContradiction fun hn=>by
  rw [Array.getD_eq_getD_getElem?,Array.getElem?_eq_none om] at h
  cases h
 intro f
 induction f with
 | zero =>
  intro listed σ hsz hc hB hP hI;have hall:∀ i,i < l.length->listed.getD i true=true:=fun i hi=>by
   have:=List.countP_eq_zero.1 hc i (List.mem_range.2 hi);simpa using this
  refine ⟨?_,hK σ.s σ.m hB fun i hio hk=>?_⟩
  ·cases hr:Region.ready .any l.toArray listed with
   | nil=>rfl
   | cons i r =>
    have hi:i∈Region.ready .any l.toArray listed:=by rw [hr];simp
    obtain ⟨hun,oi,hoi,_⟩:=mem_ready.1 hi;have hil:i < l.length:=by
     have:=(Tbk.1 hoi).1;simpa using this
    rw [hall i hil] at hun
    cases hun
  ·have hno:¬ ∃ k,cons i=some k∧listed.getD k false=true:=fun ⟨k,h1,h2⟩=>by
    have:=hlt listed k h2;have:=hk k h1;omega
   rcases hio with hi | hi
   ·exact (hP i (by rw [<- Zbc om];exact hall i hi)).1.resolve_right hno
   ·exact (hI i hi).resolve_right hno
 | succ f ih =>
  intro listed σ hsz hc hB hP hI;refine ⟨fun h0=>hK σ.s σ.m hB fun i hio hk=>?_,fun i hi=>?_⟩
  ·have hno:¬ ∃ k,cons i=some k∧listed.getD k false=true:=fun ⟨k,h1,h2⟩=>by
    have:=hlt listed k h2;have:=hk k h1;omega
   rcases hio with hi | hi
   ·exact (hP i (hfirst listed hsz h0 i hi)).1.resolve_right hno
   ·exact (hI i hi).resolve_right hno
  obtain ⟨hun,o,hoi,hall⟩:=mem_ready.1 hi;have ho:l[i]?=some o:=by simpa using hoi
  have hil:i < l.length:=(Tad.1 ho).1;have hls:i < listed.size:=om;have hda:ZbI l i=Zd6 o:=by unfold ZbI;rw [ho]
  have hunf:listed.getD i false=false:=by rw [<- Zbc hls];exact hun
  have hanc:∀ q∈ancN l 6 i,listed.getD q false=true:=Zhx (fun j hj=>(hP j hj).2) 6 i fun q hq=>by
   rw [hda] at hq;simp only [Zd6,Tbh,List.mem_filter] at hq;obtain ⟨e,⟨he,hbe⟩,rfl⟩:=hq;exact hall e (Array.mem_toList_iff.1 he) hbe
  refine ⟨o,hoi,(hback i o ho).1,ZeO (hback i o ho).1 ?_⟩;have h1:=ZeH.get hstep ho σ.s σ.m hB (fun j hj hcj=>by
   rw [Nat.zero_add] at hj hcj;have hj':=hj;rw [hda] at hj';simp only [Zd6,Tbh,List.mem_filter] at hj';obtain ⟨e,⟨he,hbe⟩,rfl⟩:=hj';refine (hP e.on (hall e (Array.mem_toList_iff.1 he) hbe)).1.resolve_right ?_;rintro ⟨k,hk1,hk2⟩;rcases hcj with hcj | hcj
   ·rw [hcj] at hk1;cases hk1
   ·rw [hcj] at hk1;injection hk1 with hk1
    subst hk1;rw [hunf] at hk2
    cases hk2) (fun j hj hc=>by
   rw [Nat.zero_add] at hc;refine (hI j hj).resolve_right ?_;rintro ⟨k,hk1,hk2⟩;rw [hc] at hk1;injection hk1 with hk1
   subst hk1;rw [hunf] at hk2
   cases hk2) (fun j hj k' hc hd=>by
   rw [Nat.zero_add] at hd;refine (hI j hj).resolve_right ?_;rintro ⟨k,hk1,hk2⟩;rw [hc] at hk1;injection hk1 with hk1
   subst hk1;have h2:=(hP _ hk2).2 i hd;rw [hunf] at h2
   cases h2)
  rw [Nat.zero_add] at h1;refine ZkP h1 fun σ' ⟨k1,k2,k3⟩=>ih _ σ' (by simpa using hsz) ?_ k1 (fun j hj=>?_) fun j hj=>?_
  ·have h1:(List.range l.length).countP (fun j=>!(listed.setIfInBounds i true).getD j true)+1=(List.range l.length).countP (fun j=>!listed.getD j true):=by
    have hperm:=List.perm_cons_erase (List.mem_range.2 hil);rw [hperm.countP_eq,hperm.countP_eq,List.countP_cons,List.countP_cons];have hcong:((List.range l.length).erase i).countP (fun j=>!(listed.setIfInBounds i true).getD j true)=((List.range l.length).erase i).countP (fun j=>!listed.getD j true):=by
     refine List.countP_congr fun j hj=>?_;have hne:j≠i:=fun e=>by
      subst e;exact List.Nodup.not_mem_erase (List.nodup_range) hj
     rw [getD_set_ne true (Ne.symm hne)]
    rw [hcong,hun];simp [hls]
   omega
  ·by_cases hji:j=i
   ·subst hji;refine ⟨.inl k2,fun q hq=>?_⟩;rw [hda] at hq;simp only [Zd6,Tbh,List.mem_filter] at hq;obtain ⟨e,⟨he,hbe⟩,rfl⟩:=hq;have hlt:=(hback j o ho).2 e (Array.mem_toList_iff.1 he) hbe;rw [getD_set_ne false om];exact hall e (Array.mem_toList_iff.1 he) hbe
   ·rw [getD_set_ne false (Ne.symm hji)] at hj;obtain ⟨p1,p2⟩:=hP j hj;have hni:i ∉ ancN l 6 j:=fun hm=>by
     have h2:=Zhx (fun j hj=>(hP j hj).2) 6 j p2 i hm;rw [hunf] at h2
     cases h2
    refine ⟨?_,fun q hq=>?_⟩
    ·rcases p1 with p1 | ⟨k,hk1,hk2⟩
     ·by_cases hci:cons j=some i
      ·refine .inr ⟨i,hci,?_⟩;rw [<- Zbc (by simpa using hls)];simp [Array.getD_eq_getD_getElem?,hls]
      ·by_cases hdep:∃ k,cons j=some k∧k∈ancN l 6 i
       ·obtain ⟨k,hk1,hk2⟩:=hdep;refine .inr ⟨k,hk1,?_⟩;have hk3:=hanc k hk2;have hki:i≠k:=fun e=>by subst e;rw [hunf] at hk3;cases hk3
        rw [getD_set_ne false hki];exact hk3
       ·exact .inl (k3 j hji hni hci (fun k hk1 hk2=>hdep ⟨k,hk1,hk2⟩) p1)
     ·refine .inr ⟨k,hk1,?_⟩;by_cases hki:k=i
      ·subst hki;rw [hunf] at hk2;cases hk2
      ·rw [getD_set_ne false (Ne.symm hki)];exact hk2
    ·by_cases hqi:q=i
     ·subst hqi;have h2:=p2 q hq;rw [hunf] at h2
      cases h2
     ·rw [getD_set_ne false (Ne.symm hqi)];exact p2 q hq
  ·have hjl:l.length<=j:=by have:=List.all_eq_true.1 hini j hj;simpa using this
   have hji:j≠i:=om;have hni:i ∉ ancN l 6 j:=fun hm=>by
    have hd:ZbI l j=[]:=by unfold ZbI;rw [List.getElem?_eq_none hjl]
    simp [ancN,hd] at hm
   rcases hI j hj with p1 | ⟨k,hk1,hk2⟩
   ·by_cases hci:cons j=some i
    ·refine .inr ⟨i,hci,?_⟩;rw [<- Zbc (by simpa using hls)];simp [Array.getD_eq_getD_getElem?,hls]
    ·by_cases hdep:∃ k,cons j=some k∧k∈ancN l 6 i
     ·obtain ⟨k,hk1,hk2⟩:=hdep;refine .inr ⟨k,hk1,?_⟩;have hk3:=hanc k hk2;have hki:i≠k:=fun e=>by subst e;rw [hunf] at hk3;cases hk3
      rw [getD_set_ne false hki];exact hk3
     ·exact .inl (k3 j hji hni hci (fun k hk1 hk2=>hdep ⟨k,hk1,hk2⟩) p1)
   ·refine .inr ⟨k,hk1,?_⟩;by_cases hki:k=i
    ·subst hki;rw [hunf] at hk2;cases hk2
    ·rw [getD_set_ne false (Ne.symm hki)];exact hk2
def lkS:List (Nat × A)->List (Nat × A)->Prop
 | [],_=>True
 | (t,x)::r,s=>gs s t=x∧lkS r s
def lkM:List (Nat × Bk)->List (Nat × Bk)->Prop
 | [],_=>True
 | (t,x)::r,m=>gm m t=some x∧lkM r m
theorem Zze {s:List (Nat × A)}:∀ {sb:List (Nat × A)},(∀ p∈sb,gs s p.1=p.2) ↔ lkS sb s
 | []=>by simp [lkS]
 | (t,x)::r=>by simp only [List.forall_mem_cons,lkS,Zze (sb:=r)]
theorem Zzf {m:List (Nat × Bk)}:∀ {mb:List (Nat × Bk)},(∀ p∈mb,gm m p.1=some p.2) ↔ lkM mb m
 | []=>by simp [lkM]
 | (t,x)::r=>by simp only [List.forall_mem_cons,lkM,Zzf (mb:=r)]
theorem Za5 {sb:List (Nat × A)} {mb:List (Nat × Bk)} {s:List (Nat × A)} {m:List (Nat × Bk)}:Lks sb mb ⟨s,m⟩ ↔ lkS sb s∧lkM mb m:=and_congr Zze Zzf
abbrev Tab:=List (List (Nat × A) × List (Nat × Bk))
def tabP (T:Tab) (i:Nat) (σ:St):Prop:=Lks (T.getD i ([],[])).1 (T.getD i ([],[])).2 σ
theorem ZaK {T:Tab} {i:Nat} {s:List (Nat × A)} {m:List (Nat × Bk)}:tabP T i ⟨s,m⟩ ↔ lkS (T.getD i ([],[])).1 s∧lkM (T.getD i ([],[])).2 m:=Za5
def Zgp (L:List Oper) (cons:Nat->Option Nat) (T:Tab) (i:Nat) (f:List (Nat × A)->List (Nat × Bk)->Bool):Bool:=(List.range T.length).all fun j=>j==i || ((ancN L 6 j).contains i || (cons j==some i || ((match cons j with | some k=>(ancN L 6 i).contains k | none=>false) || f (T.getD j ([],[])).1 (T.getD j ([],[])).2)))
theorem ZlO {L:List Oper} {cons:Nat->Option Nat} {T:Tab} {i:Nat} {f:List (Nat × A)->List (Nat × Bk)->Bool} {σ σ':St} (h:Zgp L cons T i f=true) (hf:∀ sb mb,f sb mb=true->Lks sb mb σ->Lks sb mb σ'):∀ j,j≠i->i ∉ ancN L 6 j->cons j≠some i->(∀ k,cons j=some k->k ∉ ancN L 6 i)->tabP T j σ->tabP T j σ':=fun j h1 h2 h3 h4 hp=>by
 unfold tabP at hp ⊢;by_cases hj:j < T.length
 ·have:=List.all_eq_true.1 h j (List.mem_range.2 hj);simp only [Bool.or_eq_true,beq_iff_eq,List.contains_eq_mem,decide_eq_true_eq] at this;rcases this with q | q | q | q | q
  ·exact absurd q h1
  ·exact absurd q h2
  ·exact absurd q h3
  ·cases hc:cons j with
   | none=>rw [hc] at q;cases q
   | some k=>rw [hc] at q;exact absurd (by simpa using q) (h4 k hc)
  ·exact hf _ _ q hp
 ·have e:T.getD j ([],[])=([],[]):=by rw [List.getD_eq_getElem?_getD,List.getElem?_eq_none om];rfl
  rw [e];exact ⟨fun p hp=>(by cases hp),fun p hp=>by cases hp⟩
section
variable {sb:List (Nat × A)} {mb:List (Nat × Bk)} {s:List (Nat × A)} {m:List (Nat × Bk)} {d k:Nat} {α:A} {bk:Bk}
theorem Lks.kill (h:Lks sb mb ⟨s,m⟩) (hf:sb.all (fun p=>!keyB k p.2)=true):Lks sb mb ⟨Zan k s,m⟩:=⟨fun p hp=>by
 have h1:=List.all_eq_true.1 hf p hp;have h2:=h.1 p hp;show gs (Zan k s) p.1=p.2;rw [Zdt _ _ _ (by rw [h2];simpa using h1)];exact h2,h.2⟩
theorem Lks.mrem (h:Lks sb mb ⟨s,m⟩) (hf:mb.all (fun p=>p.1 != k)=true):Lks sb mb ⟨s,remM k m⟩:=⟨h.1,fun p hp=>by
 have h1:=List.all_eq_true.1 hf p hp;simp only [bne_iff_ne,ne_eq] at h1;show gm (remM k m) p.1=some p.2;rw [ZaH,if_neg h1];exact h.2 p hp⟩
theorem ZvL {x:A} (h:keyB k x=false):frzA k bk x=x:=by
 cases x <;> simp_all [frzA,keyB]
theorem Lks.frz (h:Lks sb mb ⟨s,m⟩) (hf:sb.all (fun p=>!keyB k p.2)=true) (hm:mb.all (fun p=>p.1 != k)=true):Lks sb mb ⟨frzS k bk s,remM k m⟩:=by
 refine Lks.mrem (m:=m) ⟨fun p hp=>?_,h.2⟩ hm;have h1:=List.all_eq_true.1 hf p hp;have h2:=h.1 p hp;show gs (frzS k bk s) p.1=p.2;rw [ZlC,h2];exact ZvL (by simpa using h1)
def Znr (d:Nat) (sb:List (Nat × A)) (_:List (Nat × Bk)):Bool:=sb.all fun p=>p.1 != d
def Zns (d:Nat) (_:List (Nat × A)) (mb:List (Nat × Bk)):Bool:=mb.all fun p=>p.1 != d
def Zzg (d k:Nat) (sb:List (Nat × A)) (mb:List (Nat × Bk)):Bool:=Ze4 d sb mb && Ze4 k sb mb
theorem Lks.ownE (h:Lks sb mb ⟨s,m⟩) (hf:Zzg d k sb mb=true):Lks sb mb ⟨(d,α)::Zan d (Zan k s),(d,bk)::remM d (remM k m)⟩:=by
 simp only [Zzg,Ze4,Tar,List.all_eq_true,bne_iff_ne,ne_eq,Bool.not_eq_true'] at hf;refine Lks.born (Lks.mrem (Lks.kill h ?_) ?_) ?_
 ·simp only [List.all_eq_true,Bool.not_eq_true'];exact fun p hp=>(hf.2.1 p hp).2
 ·simp only [List.all_eq_true,bne_iff_ne,ne_eq];exact fun p hp=>hf.2.2 p hp
 ·simp only [Ze4,Tar,List.all_eq_true,bne_iff_ne,ne_eq,Bool.not_eq_true'];exact hf.1
end
section
variable {L:List Oper} {cons:Nat->Option Nat} {T:Tab} {i:Nat} {sb:List (Nat × A)} {mb:List (Nat × Bk)} {s s2:List (Nat × A)} {m m2:List (Nat × Bk)} {d k:Nat} {α:A} {bk:Bk}
abbrev Did (L:List Oper) (cons:Nat->Option Nat) (T:Tab) (i:Nat) (sb:List (Nat × A)) (mb:List (Nat × Bk)) (s:List (Nat × A)) (m:List (Nat × Bk)) (σ':St):Prop:=Lks sb mb σ'∧tabP T i σ'∧∀ j,j≠i->i ∉ ancN L 6 j->cons j≠some i->(∀ k,cons j=some k->k ∉ ancN L 6 i)->tabP T j ⟨s,m⟩->tabP T j σ'
theorem kS (hB:Lks sb mb ⟨s,m⟩) (hp:tabP T i ⟨(d,α)::s,m⟩) (h1:Znr d sb mb=true:=by rfl) (h2:Zgp L cons T i (Znr d)=true:=by rfl):Did L cons T i sb mb s m ⟨(d,α)::s,m⟩:=⟨hB.slot h1,hp,ZlO h2 fun _ _ h hl=>hl.slot h⟩
theorem kM (hB:Lks sb mb ⟨s,m⟩) (hp:tabP T i ⟨s,(d,bk)::remM d m⟩) (h1:Zns d sb mb=true:=by rfl) (h2:Zgp L cons T i (Zns d)=true:=by rfl):Did L cons T i sb mb s m ⟨s,(d,bk)::remM d m⟩:=⟨hB.own h1,hp,ZlO h2 fun _ _ h hl=>hl.own h⟩
end
theorem gGk {id:Nat} {l:List Oper} {s:List (Nat × A)} {m:List (Nat × Bk)} (sb:List (Nat × A)) (mb:List (Nat × Bk)) (T:Tab) (cons:Nat->Option Nat) (ini:List Nat) (hB:Lks sb mb ⟨s,m⟩) (hI:∀ j∈ini,tabP T j ⟨s,m⟩) (hS:ZeH e (l.map (·.dst)) l cons ini (Lks sb mb) (tabP T) 0 l) (hK:∀ s' m',Lks sb mb ⟨s',m'⟩->(∀ i,i < l.length∨i∈ini->(∀ k,cons i=some k->l.length<=k)->tabP T i ⟨s',m'⟩)->∃ sf mf,Lks sf mf ⟨s',m'⟩∧Q .normal ⟨sf,mf⟩)
  (hb:Zi4 l=true:=by decide +kernel) (hini:ini.all (fun j=>decide (l.length<=j))=true:=by decide +kernel) (hT:regT l.toArray 0=true:=by decide +kernel):pwp e mask (.region id l.toArray true) ⟨s,m⟩ Q:=fun he U w0 S0 nt a w hok hs=>by
 refine Zhk he hT (K:=fun σ'=>∃ sf mf,Lks sf mf σ'∧Q .normal ⟨sf,mf⟩) (fun a w σ' ⟨sf,mf,h1,h2⟩ h3=>⟨⟨sf,mf⟩,h2,h3.weak (fun t=>ZkN t h1.1) (fun t bk=>ZkO t bk h1.2)⟩) (ZiZ hok) hs ?_;simp only [List.take_zero,Runs]
 have:=ZjH (K:=fun σ'=>∃ sf mf,Lks sf mf σ'∧Q .normal ⟨sf,mf⟩) hb hini hS hK l.length (Zbb l.length 0) ⟨s,m⟩ (by simp [Zbb]) (by
  rw [List.countP_eq_length.2]
  ·simp
  ·intro i hi;have hi':=List.mem_range.1 hi;simp [Zbb,hi']) hB (fun j hj=>by
   have h0:(Zbb l.length 0).getD j false=false:=by
    by_cases hjl:j < l.length
    ·simp [Zbb,hjl]
    ·simp [Zbb,hjl]
   rw [h0] at hj
   cases hj) (fun j hj=>.inl (hI j hj))
 simpa using this
end
section
variable {e:Env} {K:St->Prop} {s:List (Nat × A)} {m:List (Nat × Bk)}
end
theorem toNat_one:Int.toNat 1=1:=rfl
theorem TermOk.arg {g:Sgn} {t a:Tm} (h:TermOk g t) (ha:a∈t.args):TermOk g a:=by
 have s1:=ZaX ha;have s2:=ZeD ha;have s3:=h.size;have s4:=h.depth;rw [ZaO] at s3;rw [ZcZ] at s4;exact ⟨om,om,(ZaI.1 h.form).2.1 a ha⟩
theorem TermOk.app {g:Sgn} {t a:Tm} (h:TermOk g t) (ha:a∈t.args):∃ o d,AppOk g t o d:=by
 rcases h.form.node with hv | h
 ·rw [hv.2.2.2.2] at ha;cases ha
 ·exact h
theorem ZvM {g:Sgn} (hg:SgnOk g) {op:Int} (h0:0<=op) {xs:List Tm} (ha:∀ a∈xs,TermOk g a) {t:Tm} (h:mkT g op xs=some t):TermOk g t:=by
 unfold mkT at h
 cases ho:g.ops[op.toNat]? with
 | none=>rw [ho] at h;cases h
 | some o =>
  rw [ho] at h;simp only at h
  cases hd:o.decls[0]? with
  | none=>rw [hd] at h;cases h
  | some d =>
   rw [hd] at h;exact (ZAk hg h0 ho hd ha h).1
theorem Zxq {g:Sgn} {t:Tm} (h:TermOk g t):t.args.length<=60:=by
 have h1:=h.size;rw [ZaO] at h1;have:=Zbv t.args;omega
structure Bd where
 var:Tm
 to:Tm
def ZbQ (b:Bd):List C:=Zab b.var++Zab b.to
def okBd (b:Bd):Prop:=okTm b.var∧okTm b.to
def wo:List Tm->List Tm->List Tm × Bool
 | l,[]=>(l,true)
 | [],_::_=>([],false)
 | a::l,o::os=>if Zah a o=0 then wo l os else (a::(wo l (o::os)).1,(wo l (o::os)).2)
theorem ZAn (l:List Tm):wo l []=(l,true):=by cases l <;> rfl
where wo_mem:∀ {l os:List Tm},(wo l os).2=true->∀ s∈os,s∈l
 | l,[],_,s,hs=>by cases hs
 | [],o::os,h,s,hs=>by simp [wo] at h
 | a::l,o::os,h,s,hs=>by
  by_cases hc:Zah a o=0
  ·simp only [wo,if_pos hc] at h;have e:=ZdW hc;subst e;rcases Tbf.1 hs with rfl | hs
   ·exact Tas
   ·exact Tal _ (wo_mem h s hs)
  ·simp only [wo,if_neg hc] at h;exact Tal _ (wo_mem h s hs)
section
variable {e:Env} {σ:St} {o:Oper} {K:St->Prop}
end
def Zsa (pm:List Bk) (l d:D):Prop:=l=d∨(∃ us row E,l=.agg (ZbF us)∧d=.agg row∧.set E (fun w=>Zam w row E us)∈pm)∨(∃ v rows E,l=.one (.lit v)∧d=.one (.sl rows)∧.set E (fun w=>Own w (.sl rows) E v)∈pm)
def Znt (pm:List Bk):List D->List D->Prop
 | [],[]=>True
 | l::ls,d::ds=>Zsa pm l d∧Znt pm ls ds
 | _,_=>False
theorem Zsa.same {pm:List Bk} {d:D}:Zsa pm d d:=.inl rfl
theorem Znt.rel {pm:List Bk}:∀ {lits data:List D},Znt pm lits data->∀ (w:World) (S:Nat->Prop) (vs:List Value),(∀ x∈pm,Zdg w S x)->Zar w S lits vs->Zar w (fun b=>S b∨Za9 pm b) data vs
 | [],[],_,w,S,[],_,_=>trivial
 | [],[],_,w,S,_::_,_,h=>h.elim
 | l::ls,d::ds,hr,w,S,[],_,h=>h.elim
 | l::ls,d::ds,⟨h1,h2⟩,w,S,v::vs,hp,⟨hv,hvs⟩=>by
  refine ⟨?_,Znt.rel h2 w S vs hp hvs⟩;rcases h1 with rfl | ⟨us,row,E,rfl,rfl,hm⟩ | ⟨u,rows,E,rfl,rfl,hm⟩
  ·exact DRel.keep (Tai _) (fun _ _ _=>rfl) (fun b hb=>.inl hb) hv
  ·obtain ⟨vs',rfl,hr⟩:=hv;rw [ZjC hr];obtain ⟨_,h3,_⟩:=hp _ hm;exact ⟨us,rfl,Zam.rep row E _ us (fun b hb=>.inr ⟨_,hm,hb⟩) h3⟩
  ·have hv:v=u:=hv;subst hv;obtain ⟨_,h3,_⟩:=hp _ hm;exact (Own.rep _ E v h3).mono fun b hb=>.inr ⟨_,hm,hb⟩
 | [],_::_,h,_,_,_,_,_=>h.elim
 | _::_,[],h,_,_,_,_,_=>h.elim
theorem ZjI (us:List Value):(ZbF us).all litC=true:=by
 induction us with
 | nil=>rfl
 | cons u us ih=>simp only [ZbF,Tbt,List.all_cons,litC,Bool.true_and];exact ih
theorem Zno.lits {row:List C} {r:List D} {q:List Bk} (h:Zno row r q):r.all litD=true∧q.all Znq=true:=by
 obtain ⟨us,E,rfl,_,_,rfl⟩:=h;exact ⟨by simp only [List.all_cons,List.all_nil,litD,ZjI];rfl,rfl⟩
theorem ZvE.lits {rows:List (List C)} {r:List D} {q:List Bk} (h:ZvE rows r q):r.all litD=true∧q.all Znq=true:=by
 obtain ⟨v,E,rfl,_,rfl⟩:=h;exact ⟨rfl,rfl⟩
def ZvN (row:List C) (b:Bool) (r:List D) (pm:List Bk):Prop:=∃ us E,r=[.agg (ZbF us),.one (.lit (.bool b))]∧us.length=row.length∧(ZbF us).all Zay=true∧pm=[.set E (fun w=>Zam w row E us)]
theorem ZvN.lits {row:List C} {b:Bool} {r:List D} {q:List Bk} (h:ZvN row b r q):r.all litD=true∧q.all Znq=true:=by
 obtain ⟨us,E,rfl,_,_,rfl⟩:=h;exact ⟨by simp only [List.all_cons,List.all_nil,litD,ZjI];rfl,rfl⟩
def Zrm (rows:List (List C)) (b:Bool) (r:List D) (pm:List Bk):Prop:=∃ v E,r=[.one (.lit v),.one (.lit (.bool b))]∧Zay (.lit v)=true∧pm=[.set E (fun w=>Own w (.sl rows) E v)]
theorem Zrm.lits {rows:List (List C)} {b:Bool} {r:List D} {q:List Bk} (h:Zrm rows b r q):r.all litD=true∧q.all Znq=true:=by
 obtain ⟨v,E,rfl,_,rfl⟩:=h;exact ⟨rfl,rfl⟩
mutual
theorem Zmz:∀ t:Tm,sizeTm t<=Zal (Zab t)+1
 | .mk _ _ _ args=>by
  have:=Zk9 args;simp only [sizeTm,Zab,Zal,Zc9];omega
theorem Zk9:∀ ts:List Tm,sizeTms ts<=(Zaa ts).length+Zas (Zaa ts)
 | []=>by simp [sizeTms]
 | t::ts=>by
  have h1:=Zmz t;have h2:=Zk9 ts;simp only [sizeTms,Zaa,Tag,Zas];omega
end
theorem Zc8 {t:Tm} (h:Zal (Zab t)<=1048576):sizeTm t<=big:=by
 have:=Zmz t;unfold big;omega
theorem Zxr (a b:List C):Zal (a++b)=Zal a+Zal b:=by
 induction a with
 | nil=>simp [Zal]
 | cons x xs ih=>simp only [Taf,Zal,ih];omega
theorem Zit {r:List C}:∀ {rows:List (List C)},r∈rows->Zal r<=Zas rows
 | x::rs,h=>by
  simp only [Zas];rcases Tbf.1 h with rfl | h
  ·omega
  ·have:=Zit h;omega
theorem ZAP {P:Nat->Prop} (h:∃ n,P n):∃ n,P n∧∀ m,m < n->¬ P m:=by
 obtain ⟨n,hn⟩:=h
 induction n using Nat.strongRecOn with
 | _ n ih =>
  by_cases hx:∃ m,m < n∧P m
  ·obtain ⟨m,hm,hp⟩:=hx;exact ih m hm hp
  ·exact ⟨n,hn,fun m hm hp=>hx ⟨m,hm,hp⟩⟩
where wo_sub:∀ (l os:List Tm),((wo l os).1).Sublist l
 | l,[]=>by rw [ZAn];exact List.Sublist.refl _
 | [],o::os=>by simp [wo]
 | a::l,o::os=>by
  simp only [wo];split
  ·exact (wo_sub l os).cons _
  ·exact (wo_sub l (o::os)).cons_cons _
theorem ZvO (op so:Int) (nm:ByteArray) (args:List Tm):Zal (Zab (.mk op nm so args))=nm.size+(args.length+Zas (Zaa args)):=by
 simp only [Zab,Zal,Zc9,Zai];omega
theorem Zoq:Zal (Zab zTm)=0:=by rw [zTm,ZvO];rfl
theorem Zor:okTm zTm:=by simp only [zTm,okTm,Zaw,and_true];exact ⟨⟨by decide,by decide⟩,by simp [maxLen],⟨by decide,by decide⟩⟩
noncomputable def mk6T (g:Sgn) (op:Int) (xs:List Tm):Tm:=match g.ops[op.toNat]? with
 | none=>zTm
 | some o=>match o.decls[0]? with
  | none=>zTm
  | some d=>mk6 g o d op xs
section
variable {g:Sgn}
theorem ZzI {op:Int} {xs:List Tm} {t:Tm} (h:mkT g op xs=some t):mk6T g op xs=t:=by
 unfold mkT at h;unfold mk6T
 cases ho:g.ops[op.toNat]? with
 | none=>rw [ho] at h;cases h
 | some o =>
  rw [ho] at h;simp only at h ⊢
  cases hd:o.decls[0]? with
  | none=>rw [hd] at h;cases h
  | some d =>
   rw [hd] at h;simp only at h ⊢;simp only [mk6,h,Option.getD_some]
end
theorem ZpJ {e:Env} {f:FuncId} {xs:List D} {P:Tm->Bool->Prop} (h:ConP e f xs [] (fun r pm=>∃ u b,P u b∧ZeF u b r pm)):ConE e f xs (fun r=>∃ u b,P u b∧r=[.agg (Zab u),.one (.lit (.bool b))]):=by
 refine ⟨h.1,fun w S vs hS hE hG hvs=>(h.2 w S vs hS hE hG (fun x hx=>by cases hx) trivial hvs).mono fun en w' ⟨v,r,pm,h1,⟨u,b,hP,a,cap,hr,hpm⟩,hk,hg,hp,_,ha⟩=>?_⟩;subst hr hpm;refine ⟨v,_,h1,⟨u,b,hP,rfl⟩,hk.up fun c q=>q.elim id fun ⟨x,hx,_⟩=>(by cases hx),hg,?_⟩;obtain ⟨q1,q2⟩:=hp _ Tas;have q1:ZaR w' _ _ 4 (Zaa u.args) (.slice a (Zaa u.args).length cap):=q1;obtain ⟨us,hv,hr⟩:=ha;refine ⟨us,hv,?_⟩
 match us,hr with
 | [v1,v2],⟨⟨vs1,e1,hr1⟩,e2,_⟩ =>
  refine ⟨⟨vs1,e1,?_⟩,e2,trivial⟩
  match vs1,hr1 with
  | [u0,u1,u2,u3],hr1 =>
   simp only [topC,Zad,and_true] at hr1;obtain ⟨k0,k1,k2,k3⟩:=hr1;have hec:Zab u=[.lit (.int .i64 u.op),.lit (.string u.name),.lit (.int .i64 u.sort),.sl (Zaa u.args)]:=by cases u;simp only [Zab,Tm.op,Tm.name,Tm.sort,Tm.args]
   rw [hec];simp only [Zad,and_true];refine ⟨k0,k1,k2,?_⟩;simp only [Rep] at k3;subst k3;refine Rep.mono q1.rep fun c hc=>?_;rcases hc with ⟨hc,_⟩ | hc
   ·rcases hc with hc | ⟨x,hx,_⟩ | hc
    ·exact .inl hc
    ·cases hx
    ·exact .inr hc
   ·rcases q2 c hc with ⟨x,hx,_⟩ | hc'
    ·cases hx
    ·refine .inr ⟨hc',?_⟩;rcases q1.2.2 with ⟨_,a',e'⟩ | ⟨g,cap',cur,e',hc0,hg',_⟩
     ·injection e' with _ _ e3
      rw [e3] at hc
      cases a <;> simp [vblk] at hc
     ·rw [e'] at hc;simp only [vblk] at hc;split at hc
      ·cases hc
      ·injection hc with hc
       subst hc;exact hg'
section
variable {g:Sgn}
theorem Ziu {o:Opr} {op:Int}:∀ xs:List Tm,depthTms (Zaj o op xs)<=depthTms xs
 | []=>Tai _
 | a::xs=>by
  have e:Zaj o op (a::xs)=ZaW o op a++Zaj o op xs:=rfl;have h:=Ziu (o:=o) (op:=op) xs;have h2:depthTms (ZaW o op a)<=depthTm a:=by
   unfold ZaW;split
   ·rw [ZcZ];omega
   ·split <;> simp [depthTms]
  rw [e,Zig,depthTms];omega
theorem Zsb {op:Int} {xs:List Tm} {t:Tm} (h:mkT g op xs=some t):depthTm t<=1+depthTms xs:=by
 unfold mkT at h
 cases ho:g.ops[op.toNat]? with
 | none=>rw [ho] at h;cases h
 | some o =>
  rw [ho] at h;simp only at h
  cases hd:o.decls[0]? with
  | none=>rw [hd] at h;cases h
  | some d =>
   rw [hd] at h;simp only [mkO] at h;have hf:=Ziu (o:=o) (op:=op) xs;split at h
   ·cases h
   split at h
   ·unfold mkL at h;split at h
    ·injection h with h
     subst h
     cases hl:Zaj o op xs with
     | nil=>simp only [List.headD_nil,ZaE];rw [ZcZ];simp [Tm.args,depthTms]
     | cons m l =>
      have:depthTm m<=depthTms (Zaj o op xs):=ZeD (by rw [hl];exact Tas);simp only [List.headD_cons];omega
    ·split at h
     ·cases h
     ·injection h with h
      subst h;have hp:=Zfi (ZdN o (Zaj o op xs));rw [ZcZ];show 1+depthTms (srtO o (Zaj o op xs))<=_;omega
   ·cases h
theorem ZgL {k:Nat}:∀ {ts:List Tm},(∀ t∈ts,depthTm t<=k)->depthTms ts<=k
 | [],_=>Taj _
 | t::ts,h=>by
  have h1:=h t Tas;have h2:=ZgL (ts:=ts) fun u hu=>h u (Tal _ hu);rw [depthTms];omega
theorem ZAo:∀ op nm so,nilC op nm so=[.lit (.int .i64 op),.lit (.string nm),.lit (.int .i64 so),.lit (.slice none 0 0)]:=fun _ _ _=>rfl
def RCan (g:Sgn) (k:Nat) (u:Tm) (b:Bool):Prop:=b=true->TermOk g u∧depthTm u<=k
def Zi7 (g:Sgn) (k:Nat) (r:List D) (pm:List Bk):Prop:=∃ u b,RCan g k u b∧ZeF u b r pm
def ZAQ (g:Sgn) (k:Nat) (r:List D):Prop:=∃ u b,RCan g k u b∧r=[.agg (Zab u),.one (.lit (.bool b))]
theorem Zos (hokg:ZbJ g) (hg:SgnOk g) {op:Int} {o:Opr} (h0:0<=op) (ho:g.ops[op.toNat]?=some o) (xs:List Tm) (ha:∀ a∈xs,TermOk g a) (hl:xs.length<=1000):ConP e0 47 [.agg (Zag g),.one (.lit (.int .i64 op)),.one (.sl (Zaa xs))] [] (ZeF (mk6T g op xs) (mkT g op xs).isSome):=by
 obtain ⟨d,hd,_⟩:=hg.first ho;have e:mk6T g op xs=mk6 g o d op xs:=by simp only [mk6T,ho,hd]
 rw [Zok ho hd,e];exact Zop hokg hg h0 ho hd xs ha om (Zrj (o:=o) (op:=op) ha hl)
theorem Zla (hok:ZbJ g) (hg:SgnOk g):∀ (n:Nat) {t:Tm},sizeTm t < n->okTm t->sizeTm t<=1000->ConP e0 59 [.agg (Zag g),.agg (Zab t)] [] (Zi7 g (depthTm t))
 | 0,t,hn,_,_=>om
 | n+1,t,hn,ht,hb=>by
  have ih:∀ a∈t.args,ConE e0 59 [.agg (Zag g),.agg (Zab a)] (ZAQ g (depthTm a)):=fun a ha=>by
   have h1:=ZaX ha;have h2:=ZaO t;exact ZpJ (Zla hok hg n om (okA ht ha) om)
  rw [Zag] at ih ⊢;have cN:=ZkZ hg ht (Tbd hb (by decide));have cV:=Zr8 t.name t.sort;rw [Zag] at cN;by_cases hv:t.op=-1
  ·refine gIP (ts:=[.cell 4 34,.slot 5]) [] 576496211553424383 Tryz.func59 ?_;refine fN 2 (ai @hv @tmz) ?_;refine gB ?_;refine fC @tmz (cV) ?_;refine fC @tmz (cN) ?_;refine fR (ai @ZAo @tmz) ?_;refine pN 1000 34 4 ?_;refine (have F:=e0P;gTP (R:=Zi7 g (depthTm t)) [1000] ⟨.mk (-1) t.name t.sort [],ZdM g t,fun h=>?_,none,0,rfl,rfl⟩);have hN:=ZkY.1 h;rcases hN with hN | ⟨o,d,hA⟩
   ·have e:t=.mk (-1) t.name t.sort []:=by cases t;simp only [Tm.op,Tm.args,Zcu,Tm.name,Tm.sort] at hv hN ⊢;rw [hv,hN.2.2.2.2]
    rw [<- e];exact ⟨⟨by rw [ZaO,hN.2.2.2.2];simp [sizeTms],by rw [ZcZ,hN.2.2.2.2];simp [depthTms],ZaI.2 ⟨.inl hN,(fun a ha=>(by rw [hN.2.2.2.2] at ha;cases ha)),.inl hv⟩⟩,Tai _⟩
   ·have:=hA.lo;omega
  have cI:=Zcw t.op 0 ((g.ops.length:Int) - 1);have wl:IntKind.i64.wrap ((g.ops.length:Int) - 1)=(g.ops.length:Int) - 1:=IntWalk.i64_in _ (by have:=hg.len;omega);refine gIP (ts:=[.cell 4 34,.slot 5]) [] 576496211553424383 Tryz.func59 ?_;refine fN 3 (ai @hv @tmz) ?_;refine gM (ι:=Bool) [38] [] (fun b=>[(38,A.d (.one (.lit (.bool b))))]) (fun b=>[]) (fun b=>b=false->0<=t.op∧t.op < (g.ops.length:Int)) ?_ (fun b hb=>Exists.intro _ (ai (Wk.refl _) ?_))
  ·refine gB ?_;refine fC (aj3 @hv @wl @tmz) (cI) ?_;by_cases q:0<=t.op∧t.op<=(g.ops.length:Int) - 1
   ·have qd:decide (0<=t.op∧t.op<=(g.ops.length:Int) - 1)=true:=decide_eq_true q;rcases Bool.eq_false_or_eq_true (t.name.toList==(⟨#[]⟩:ByteArray).toList) with e | e
    ·by_cases q0:t.sort=0
     ·refine fR (aj4 @qd @e @q0 @tmz) ?_;have F:=@tmz;refine gG ?_;exact ⟨false,fun _=>⟨q.1,om⟩,gw,gw⟩
     ·refine fR (aj4 @qd @e @q0 @tmz) ?_;have F:=@tmz;refine gG ?_;exact ⟨true,(by simp),gw,gw⟩
    ·refine fR (aj3 @qd @e @tmz) ?_;have F:=@tmz;refine gG ?_;exact ⟨true,(by simp),gw,gw⟩
   ·have qd:decide (0<=t.op∧t.op<=(g.ops.length:Int) - 1)=false:=decide_eq_false q;refine fR (ai @qd @tmz) ?_;have F:=@tmz;refine gG ?_;exact ⟨true,(by simp),gw,gw⟩
  cases b with
  | true =>
   refine fN 4 @tmz ?_;refine gB ?_;have F:=tmz;refine gX ?_;clear F;refine fR @tmz ?_;refine pN 1000 34 4 ?_;exact (have F:=e0P;gTP (R:=Zi7 g (depthTm t)) [1000] ⟨zTm,false,(by simp [RCan]),none,0,rfl,rfl⟩)
  | false =>
  obtain ⟨hlo,hhi⟩:=hb rfl;have hal:t.args.length<=1000:=by have:=Zbv t.args;have:=ZaO t;omega
  obtain ⟨o,ho⟩:∃ o,g.ops[t.op.toNat]?=some o:=⟨_,Taa om⟩;clear cN cV cI;refine fG @tmz ?_;have F:=ai @Zc4 @tmz;refine gL (ι:=List Tm) [5,6,7,8,9,45,59] [6] (fun us=>[(7,A.d (.one (.lit (.int .i64 us.length)))),(6,.buf 6)]) (fun us=>[(6,.buf none 34 4 (Zaa us))]) (fun us=>us.length<=t.args.length∧∀ u∈us,TermOk g u∧depthTm u<=depthTms t.args) (fun us=>t.args.length - us.length) ([]) (⟨Taj _,fun u hu=>(by cases hu)⟩) (fun us hus=>?_);clear F
  obtain ⟨hul,huo⟩:=hus;by_cases hlt:us.length < t.args.length
  ·have q1:=lT us.length t.args.length;have wi:=Zap (k:=us.length) om;have hm:(us.length+1<=maxApp)=True:=eq_true (by unfold maxApp;omega);have hg1:t.args[us.length]?=some t.args[us.length]:=Taa hlt;have cI:=ih t.args[us.length] (List.getElem_mem hlt);have hdp:=ZeD (List.getElem_mem hlt);generalize t.args[us.length]=a at hg1 cI hdp;refine fN 9 (ai @q1 @tmz) ?_;refine gF0 ?_;refine gLa 8 9 ?_;refine gLa 9 11 ?_
   have F:=tmz;refine gNa 10 [0,1,2,3,4,5] [6,7,8,9] ?_;clear F;have F:=ai hg1 tmz;refine gNd ?_;clear F;have F:=tmz;refine gNE cI ?_;clear F;rintro r ⟨u,b,hub,rfl⟩;have F:=tmz;refine gNr ?_;clear F;refine fR @tmz ?_
   cases b with
   | false =>
    refine fN 11 @tmz ?_;refine gB ?_;have F:=tmz;refine gX ?_;clear F;refine fR @tmz ?_;refine pN 1000 34 4 ?_;exact (have F:=e0P;gTP (R:=Zi7 g (depthTm t)) [1000] ⟨zTm,false,(by simp [RCan]),none,0,rfl,rfl⟩)
   | true =>
    have hl:(us++[u]).length=us.length+1:=by simp
    have hsn:Zaa us++[Zab u]=Zaa (us++[u]):=by rw [ZbN,Zck]
    have F:=aj5 @wi @hl @hm @hsn @tmz;refine gG ?_;exact ⟨us++[u],⟨om,fun v hv=>(Tbg.1 hv).elim (huo v) fun hv=>by rw [Tbi.1 hv];exact ⟨(hub rfl).1,Tbd (hub rfl).2 hdp⟩⟩,gw,gw,om⟩
  ·have q1:=lF us.length t.args.length;have cM:=Zos hok hg hlo ho us (fun u hu=>(huo u hu).1) om;rw [Zag] at cM;refine fN 13 (ai @q1 @tmz) ?_;refine pS 6 fun a1 k1=>?_;refine pD 6 [6] [] ?_;refine gB ?_;have F:=@tmz;refine gCP [] [1000] (cM) ?_;clear F;rintro r pm ⟨a2,k2,rfl,rfl⟩;simp only [setA,retA,zipM,Taf,Tah];refine fR @e0P ?_;exact (have F:=e0P;gTP (R:=Zi7 g (depthTm t)) [1000] ⟨mk6T g t.op us,(mkT g t.op us).isSome,fun h=>by
    obtain ⟨v,hv⟩:=Option.isSome_iff_exists.1 h;rw [ZzI hv];exact ⟨ZvM hg hlo (fun u hu=>(huo u hu).1) hv,by have:=Zsb hv;have:=ZgL fun u hu=>(huo u hu).2;have:=ZcZ t;omega⟩,a2,k2,rfl,rfl⟩)
end
def ZAR (e:Env) (a:Option Addr) (n:Nat):Prop:=0 < n->∃ (g off:Nat) (f:Nat->Nat),a=some ⟨g,off,none⟩∧(∀ j,f j < 256)∧∀ w,e.G w->∀ j,j < n->w.cell? ⟨g,off+j,none⟩=some (.int .u8 (f j))
theorem Zot {P:Program} {w:World} {t:TypeId} {n g off len cap:Nat} {k:IntKind} {j:Int} (h:Zbn P t=some n) (hj:0<=j) (hl:j.toNat < len) :
  (Instr.indexAt t (.slice (some ⟨g,off,none⟩) len cap) (.int k j)).run P w=.ok (.pointer (some ⟨g,off+j.toNat * n,none⟩)) w:=by
 unfold Zbn at h;split at h
 ·rename_i el hu;simp only [Tav] at h;obtain ⟨i,hi,hn⟩:=h;have hlt:j < (len:Int):=om;simp [Instr.indexAt,asIntOf,underlying,hu,sizeOf,typeInfo,hi,hn,Addr.add_at,hj,hlt,Result.andThen]
 ·cases h
section
variable {e:Env} {U:Nat->Prop} {base:Nat} {S0:Nat->Prop} {σ:St} {o:Oper} {K:St->Prop}
theorem ZvP {t:TypeId} {x i:Operand} (ho:o.op=.indexAddr t x i) {a:Option Addr} {g off n cap:Nat} {j:Int} (ha:a=some ⟨g,off,none⟩) (hx:evA σ.s x=.d (.one (.lit (.slice a n cap)))) (hi:evA σ.s i=.d (.one (.lit (.int .i64 j)))) (ht:Zbn e.P t=some 1) (h0:0<=j) (hl:j.toNat < n):ZaM e U base S0 σ.m o (evA σ.s) (.d (.one (.lit (.pointer (some ⟨g,off+j.toNat,none⟩))))):=by
 subst ha;refine Zax fun w S L ρv hC hr=>?_;have hx':=hr x (by simp [ho,Op.operands]);have hi':=hr i (by simp [ho,Op.operands]);rw [hx] at hx';rw [hi] at hi';have hx':=Zbi hx';have hi':=Zbi hi';refine ⟨.pointer (some ⟨g,off+j.toNat,none⟩),?_,by simp [ARel,DRel,Rep]⟩;have:=Zot (w:=w) (g:=g) (off:=off) (len:=n) (cap:=cap) (k:=.i64) ht h0 hl;rw [Nat.mul_one] at this;simp [execOp,ho,hi',hx',this,Result.andThen]
theorem ZvQ {t:TypeId} {x:Operand} (ho:o.op=.load t x) {g off k:Nat} (hx:evA σ.s x=.d (.one (.lit (.pointer (some ⟨g,off,none⟩))))) (hk:ZaV e.P t=some .one) (hb:∀ w,e.G w->w.cell? ⟨g,off,none⟩=some (.int .u8 k)):ZaM e U base S0 σ.m o (evA σ.s) (.d (.one (.lit (.int .u8 k)))):=by
 refine Zax fun w S L ρv hC hr=>?_;have hx':=hr x (by simp [ho,Op.operands]);rw [hx] at hx';have hx':=Zbi hx';obtain ⟨v,h1,h2⟩:=ZiR (P:=e.P) (w:=w) (S:=S) (Bm:=L) (cs:=[.lit (.int .u8 k)]) (α:=.d (.one (.lit (.int .u8 k)))) hk (by simp only [Zaf,Rep];exact ⟨⟨_,hb w hC.g,rfl⟩,trivial⟩) rfl;exact ⟨v,by simp [execOp,ho,hx',h1,Result.andThen],h2⟩
end
section
variable {e:Env} {K:St->Prop} {ds:List (Option Nat)} {os:List Oper} {d t t' ty ty' d' q:Nat} {p p':String} {ed ed':Array Edge} {x i:Operand} {s:List (Nat × A)} {m:List (Nat × Bk)}
theorem Zhy {o:Oper} {α:A} (hg:o.guard=none) (hal:isAl o=false) (hd:o.dst=some d) (h:∀ (U:Nat->Prop) (base:Nat) (S0:Nat->Prop),ZaM e U base S0 m o (evA s) α) (hK:Runs e ds (q - 1) os ⟨(d,α)::s,m⟩ K):Runs e ds q (o::os) ⟨s,m⟩ K:=by
 cases q with
 | zero =>
  simp only [Runs] at hK ⊢;refine Zcz hg fun he U w0 S0 nt a w Q hdn ⟨S,L,h1⟩=>Oper.wp_mono (fun a' w' hs=>⟨⟨(d,α)::s,m⟩,hK,?_⟩) (ZdR h1 hdn (h U w0.heap.size S0))
  rwa [hd,setA] at hs
 | succ n=>exact Zjt hg hal fun he=>⟨α,by rw [hd,setA];exact hK,h⟩
theorem gBy {a:Option Addr} {g off n cap:Nat} {f:Nat->Nat} {j:Int} (hb:∀ w,e.G w->∀ j,j < n->w.cell? ⟨g,off+j,none⟩=some (.int .u8 (f j))) (ha:a=some ⟨g,off,none⟩) (h0:0<=j) (hl:j.toNat < n) (hK:Runs e ds (q - 1 - 1) os ⟨(d',.d (.one (.lit (.int .u8 (f j.toNat)))))::(d,.d (.one (.lit (.pointer (some ⟨g,off+j.toNat,none⟩)))))::s,m⟩ K)
  (hx:evA s x=.d (.one (.lit (.slice a n cap))):=by exact sfx) (hi:evA s i=.d (.one (.lit (.int .i64 j))):=by exact sfx) (ht:Zbn e.P t=some 1:=by simp only [pz,↓reduceIte,Nat.reduceEqDiff,Nat.reduceAdd,Nat.reduceSub,Nat.reduceMul,Nat.reduceLeDiff,Nat.reduceBEq,Tam,decide_true,decide_false,Int.reduceLE,Int.reduceToNat,Int.reduceLT,Int.reduceEq,eq_self,Nat.reduceShiftRight,Nat.reduceAnd,Nat.reduceBneDiff,F]) (hk:ZaV e.P t'=some .one:=by simp only [pz,↓reduceIte,Nat.reduceEqDiff,Nat.reduceAdd,Nat.reduceSub,Nat.reduceMul,Nat.reduceLeDiff,Nat.reduceBEq,Tam,decide_true,decide_false,Int.reduceLE,Int.reduceToNat,Int.reduceLT,Int.reduceEq,eq_self,Nat.reduceShiftRight,Nat.reduceAnd,Nat.reduceBneDiff,F]) :
  Runs e ds q (⟨some d,.indexAddr t x i,ty,p,ed,none⟩::⟨some d',.load t' (.tmp d),ty',p',ed',none⟩::os) ⟨s,m⟩ K :=
 Zhy rfl rfl rfl (fun U base S0=>ZvP (σ:=⟨s,m⟩) rfl ha hx hi ht h0 hl) (Zhy rfl rfl rfl (fun U base S0=>ZvQ (σ:=⟨_,m⟩) rfl (by simp [evA,gs]) hk fun w hw=>hb w hw j.toNat hl) hK)
end
structure Src where
 E2:Nat->Prop
 G2:World->Prop
 a:Option Addr
 n:Nat
 cap:Nat
noncomputable def eB (x:Src):Env:=e0.plus x.E2 x.G2
structure Src.Ok (x:Src):Prop where
 fit:Fits e0 x.E2 x.G2
 byt:ZAR (eB x) x.a x.n
 len:x.n<=1048576
def curC (x:Src) (i h:Int):List C:=[.lit (.slice x.a x.n x.cap),.lit (.int .i64 i),.lit (.int .i64 h)]
abbrev curD (b:Nat):D:=.one (.lit (.pointer (some ⟨b,0,none⟩)))
abbrev Zhz (x:Src):D:=.one (.lit (.slice x.a x.n x.cap))
theorem Zlb:∀ x i h,curC x i h=[.lit (.slice x.a x.n x.cap),.lit (.int .i64 i),.lit (.int .i64 h)]:=fun _ _ _=>rfl
theorem eBP:∀ x,(eB x).P=Tryz.prog:=fun _=>rfl
theorem Src.Ok.ok {x:Src} (h:x.Ok):(eB x).Ok:=h.fit.ok ZkC
theorem ZvR (a:Int):∃ k:Nat,k < 256∧bits .and .i64 a 255=k:=by
 have h:((BitVec.ofInt IntKind.i64.bits a) &&& (BitVec.ofInt IntKind.i64.bits 255)).toNat < 256:=by
  rw [BitVec.toNat_and];show (BitVec.ofInt 64 a).toNat &&& (BitVec.ofInt 64 255).toNat < 256;exact Nat.and_lt_two_pow (n:=8) _ (by decide)
 refine ⟨_,h,?_⟩;unfold bits;show IntKind.i64.wrap _=_;generalize ((BitVec.ofInt IntKind.i64.bits a) &&& (BitVec.ofInt IntKind.i64.bits 255)).toNat=k at h ⊢;exact wrap_i64 om om
section
variable {x:Src} {b:Nat}
theorem tmB:type_of% (aj3 @tmz @eBP @Zlb):=aj3 @tmz @eBP @Zlb
def RCur (x:Src) (r:List D) (pm:List Bk):Prop:=∃ (b:Nat) (h:Int),r=[curD b]∧pm=[.var (some b) (curC x 0 h)]
theorem Zou (hx:x.Ok):ConP (eB x) 22 [Zhz x] [] (RCur x):=by
 have he:=hx.ok;have hl:=hx.len;refine gIP (ts:=[.slot 2]) [] 32797 Tryz.func22 ?_;refine fG @tmB ?_;have F:=@tmB;refine gL (ι:=Nat × Int) [3,4,15] [] (fun y=>[(4,A.d (.one (.lit (.int .i64 y.1)))),(3,.d (.one (.lit (.int .i64 y.2))))]) (fun y=>[]) (fun y=>y.1<=x.n) (fun y=>x.n - y.1) ((0,IntKind.i64.wrap (124929+(x.n:Int)))) (Taj _) (fun y hy=>?_);clear F;obtain ⟨i,h⟩:=y;dsimp only at hy ⊢;by_cases h1:i < x.n
 ·have q1:=lT i x.n;have wi:=Zap (k:=i) om;by_cases h2:i < 4000
  ·have q2:=lT i 4000;obtain ⟨g,off,f,ha,hf,hb⟩:=hx.byt om;refine fN 5 (aj3 @q1 @q2 @tmB) ?_;refine gB ?_;have F:=ai @ha @tmB;refine gP 4 ?_;clear F;have F:=tmB;refine gBy (cap:=x.cap) (j:=(i:Int)) hb ha om om ?_;clear F;refine fR @tmB ?_;have F:=ai @wi @tmB;refine gG ?_;exact ⟨(i+1,bits .and .i64 (IntKind.i64.wrap (IntKind.i64.wrap (IntKind.i64.wrap (h * 131)+IntKind.i64.wrap ((f (i:Int).toNat:Nat):Int))+7)) 1073741823),h1,gw,gw,om⟩
  ·have q2:=lF i 4000;refine fG (aj3 @q1 @q2 @tmB) ?_;refine pV 31 fun b _=>?_;exact (have F:=tmB;gTP (R:=RCur x) [31] ⟨b,h,rfl,rfl⟩)
 ·have q1:=lF i x.n;refine fG (ai @q1 @tmB) ?_;refine pV 31 fun b _=>?_;exact (have F:=tmB;gTP (R:=RCur x) [31] ⟨b,h,rfl,rfl⟩)
def Zsc (x:Src) (b:Nat) (r:List D) (pm:List Bk):Prop:=(∃ k:Nat,k < 256∧r=[.one (.lit (.int .i64 k))])∧∃ i h:Int,0<=i∧pm=[.var (some b) (curC x i h)]
theorem ZvS (hx:x.Ok) {i h:Int} (hi:0<=i):ConP (eB x) 94 [curD b] [.var (some b) (curC x i h)] (Zsc x b):=by
 have he:=hx.ok;have hl:=hx.len;rw [curC];refine gIP (ts:=[.slot 2]) [1000] 17179869197 Tryz.func94 ?_;refine fN 3 @tmB ?_;generalize IntKind.i64.wrap (IntKind.i64.wrap (h * 6364136223846793005)+1442695040888963407)=h;obtain ⟨k1,hk1,e1⟩:=ZvR (bits .xor .i64 (h.fdiv (2 ^ min 33 64)) (h.fdiv (2 ^ min 45 64)));rw [e1];by_cases h1:i < x.n
 ·have q1:(i < (x.n:Int))=True:=eq_true h1;have wi:IntKind.i64.wrap (i+1)=i+1:=IntWalk.i64_in _ om;obtain ⟨g,off,f,ha,hf,hb⟩:=hx.byt om;refine fN 4 (ai @q1 @tmB) ?_;refine gB ?_;have F:=@tmB;refine gP 9 ?_;clear F;have F:=tmB;refine gBy (cap:=x.cap) (j:=i) hb ha hi om ?_;clear F;refine fR @tmB ?_;obtain ⟨k2,hk2,e2⟩:=ZvR (IntKind.i64.wrap ((k1:Int)+IntKind.i64.wrap ((f i.toNat:Nat):Int)));rw [e2];refine fG (ai @wi @tmB) ?_
  exact (have F:=tmB;gTP (R:=Zsc x b) [1000] ⟨⟨k2,hk2,rfl⟩,i+1,h,om,rfl⟩)
 ·have q1:(i < (x.n:Int))=False:=eq_false h1;refine fG (ai @q1 @tmB) ?_;exact (have F:=tmB;gTP (R:=Zsc x b) [1000] ⟨⟨k1,hk1,rfl⟩,i,h,hi,rfl⟩)
def curG (x:Src) (b:Nat) (w:World):Prop:=¬ (eB x).E b∧∃ i h:Int,0<=i∧(∃ arr ty,w.heap[b]?=some (.cells arr ty (0,0))∧arr.size=3)∧Zaf w (fun _=>False) b 0 (curC x i h)
noncomputable def eC (x:Src) (b:Nat):Env:=(eB x).plus (fun c=>c=b) (curG x b)
theorem eCP:∀ x b,(eC x b).P=Tryz.prog:=fun _ _=>rfl
theorem ZeI {w w':World} {S S':Nat->Prop} {b:Nat} {x:Src} {i h:Int} (hc:∀ o,w'.cell? ⟨b,o,none⟩=w.cell? ⟨b,o,none⟩) (hr:Zaf w S b 0 (curC x i h)):Zaf w' S' b 0 (curC x i h):=by
 simp only [curC,Zaf,Rep,hc] at hr ⊢;exact hr
theorem Zel:Fits (eB x) (fun c=>c=b) (curG x b):=⟨fun w w' hz hE ⟨h1,i,h,h0,h2,h3⟩=>⟨h1,i,h,h0,by rw [hE b rfl];exact h2,ZeI (fun o=>Zbk (hE b rfl) o) h3⟩,fun w h c hc=>hc ▸ h.1⟩
theorem Src.Ok.okC (h:x.Ok):(eC x b).Ok:=Zel.ok h.ok
theorem tmC:type_of% (aj3 @tmz @eCP @Zlb):=aj3 @tmz @eCP @Zlb
section
variable {f:FuncId} {args r:List D} {R:List D->Prop}
theorem Con.bt (hx:x.Ok) (h:Con e0 f args r):Con (eB x) f args r:=Con.up hx.fit h
theorem Con.cu (hx:x.Ok) (h:Con e0 f args r):Con (eC x b) f args r:=Con.up Zel (Con.up hx.fit h)
theorem ConE.cu (hx:x.Ok) (h:ConE e0 f args R):ConE (eC x b) f args R:=ConE.up Zel (ConE.up hx.fit h)
theorem ConP.cu (hx:x.Ok) {pm:List Bk} {R:List D->List Bk->Prop} (h:ConP e0 f args pm R):ConP (eC x b) f args pm R:=ConP.up Zel (ConP.up hx.fit h)
theorem ConR.cu (hx:x.Ok) {ty sz:Nat} {rows:List (List C)} (h:ConR e0 f args ty sz rows):ConR (eC x b) f args ty sz rows:=ConR.up Zel (ConR.up hx.fit h)
theorem Con.toE {e:Env} (h:Con e f args r):ConE e f args (fun y=>y=r):=⟨h.1,fun w S vs hS hE hG hvs=>(h.2 w S vs hS hE hG hvs).mono fun en w' ⟨v,h1,h2⟩=>⟨v,r,h1,rfl,h2⟩⟩
theorem Zxs (h:∀ i h:Int,0<=i->ConP (eB x) f args [.var (some b) (curC x i h)] (fun r pm=>R r∧∃ i h:Int,0<=i∧pm=[.var (some b) (curC x i h)])):ConE (eC x b) f args R:=by
 refine ⟨(h 0 0 (by decide)).1,fun w S vs hS hE hG hvs=>?_⟩;obtain ⟨hnE,i,hh,hi,⟨arr,ty,hb,hsz⟩,hr⟩:=hG.2;have hbl:b < w.heap.size:=(Tbk.1 hb).1;refine ((h i hh hi).2 w S vs (fun c hc=>⟨(hS c hc).1,fun q=>(hS c hc).2 (.inl q)⟩) (fun c hc=>hE c (.inl hc)) hG.1 (fun y hy=>?_) ⟨fun y hy=>(by cases hy),trivial⟩ hvs).mono fun en w' ⟨v,r,pm,h1,⟨hR,i',h',hi',hpm⟩,hk,hg,hp,_,ha⟩=>?_
 ·obtain rfl:=Tbi.1 hy;exact ⟨⟨hbl,fun q=>(hS b q).2 (.inr rfl),⟨arr,ty,hb,by rw [hsz];rfl⟩,ZeI (fun _=>rfl) hr⟩,fun g hg=>by have hg:b=g:=hg;subst hg;exact hnE⟩
 ·subst hpm;obtain ⟨hp1,hp2⟩:=hp _ (Tbi.2 rfl);obtain ⟨q1,q2,⟨arr',ty',q3,q4⟩,q5⟩:=hp1;have hpb:∀ (cs:List C) (c:Nat),Za9 [.var (some b) cs] c ↔ c=b:=fun cs c=>⟨fun ⟨y,hy,hg⟩=>by obtain rfl:=Tbi.1 hy;exact Eq.symm hg,fun q=>⟨_,Tbi.2 rfl,Eq.symm q⟩⟩;refine ⟨v,r,h1,hR,hk.up fun c q=>q.elim .inl fun q=>.inr ((hpb _ c).1 q),⟨hg,hnE,i',h',hi',⟨arr',ty',q3,by rw [q4];rfl⟩,ZeI (fun _=>rfl) q5⟩,ha.keep (Tai _) (fun _ _ _=>rfl) fun c hc=>?_⟩
  rcases hc.1 with q | q | q
  ·exact .inl q
  ·exact absurd ((hpb _ c).2 ((hpb _ c).1 q)) hc.2
  ·exact .inr q
end
def RNat (n:Nat) (r:List D):Prop:=∃ k:Nat,k < n∧r=[.one (.lit (.int .i64 k))]
theorem ZvT (hx:x.Ok):ConE (eC x b) 94 [curD b] (RNat 256):=Zxs fun i h hi=>ZvS hx hi
theorem gTE {X:Prop} {P:Program} {ts:List RS} {R:List D->Prop} {σ σ1:St} {r:List D} (ks:List Nat) (hR:R r) (hx:Znf P ts R .ret σ->X:=by exact fun h=>Zep h) (hf:frzs ks σ=σ1:=by exact sfx) (hr:resD P σ1 ts=some r:=by exact sfx):X:=hx (Zy4 ks r hR hf (ZfP hr))
theorem ZbH (hx:x.Ok) {n:Nat} (h1:1<=n) (h2:n<=256):ConE (eC x b) 49 [curD b,.one (.lit (.int .i64 n))] (RNat n):=by
 have he:=hx.okC (b:=b);have q1:((n:Int)<=0)=False:=eq_false om;have q2:((n:Int)<=256)=True:=eq_true om;have q3:((n:Int)=0)=False:=eq_false om;refine gIE (ts:=[.slot 4]) 5619 Tryz.func49 ?_;refine fN 4 (aj3 @q1 @q2 @tmC) ?_;refine gB ?_;have F:=@tmC;refine gCE (ZvT hx) ?_;clear F;rintro r ⟨k,hk,rfl⟩;refine fR (ai @q3 @tmC) ?_;have e:(k:Int).tmod n=((k % n:Nat):Int):=rfl;rw [e];have hR:RNat n [.one (.lit (.int .i64 ((k % n:Nat):Int)))]:=⟨_,Nat.mod_lt _ h1,rfl⟩
 exact (have F:=tmC;gTE [] hR)
def Zzh (r:List D):Prop:=∃ y:Bool,r=[.one (.lit (.bool y))]
theorem ZbS (hx:x.Ok) {n:Nat} (h1:1<=n) (h2:n<=256):ConE (eC x b) 26 [curD b,.one (.lit (.int .i64 n))] Zzh:=by
 have he:=hx.okC (b:=b);refine gIE (ts:=[.slot 4]) 19 Tryz.func26 ?_;refine fN 1 @tmC ?_;refine gB ?_;have F:=@tmC;refine gCE (ZbH hx h1 h2) ?_;clear F;rintro r ⟨k,hk,rfl⟩;refine fR @tmC ?_;exact (have F:=tmC;gTE (R:=Zzh) [] ⟨_,rfl⟩)
def ROf (l:List ByteArray) (r:List D):Prop:=∃ s∈l,r=[.one (.lit (.string s))]
theorem ZvU (hx:x.Ok) {l:List ByteArray} (h1:1<=l.length) (h2:l.length<=256):ConE (eC x b) 111 [curD b,.one (.sl (l.map Zby))] (ROf l):=by
 have he:=hx.okC (b:=b);refine gIE (ts:=[.slot 4]) 19 Tryz.func111 ?_;refine fN 1 @tmC ?_;refine gB ?_;have F:=@tmC;refine gCE (ZbH hx h1 h2) ?_;clear F;rintro r ⟨k,hk,rfl⟩;have hg:(l.map Zby)[k]?=some (Zby l[k]):=by rw [Taz,Taa hk];rfl
 refine fR (ai @hg @tmC) ?_;exact (have F:=tmC;gTE (R:=ROf l) [] ⟨l[k],List.getElem_mem hk,rfl⟩)
theorem gXc {K:St->Prop} {ds:List (Option Nat)} {os:List Oper} {d t ty:Nat} {p:String} {ed:Array Edge} {parts:List (Nat × Operand)} {s:List (Nat × A)} {m:List (Nat × Bk)} {cs cs':List C} (hK:Runs (eC x b) ds 0 os ⟨(d,.d (.agg cs'))::s,m⟩ K)
  (hz:Zdb e0.P t=some cs:=by exact sny) (hst:Zbm e0.P t=true:=by exact sny) (hok:cs.all Zay=true:=by first | rfl | exact sny) (hf:ZcQ e0.P t cs (parts.map fun p=>(p.1,evA s p.2))=some cs':=by exact sfv):Runs (eC x b) ds 0 (⟨some d,.build t parts.toArray,ty,p,ed,none⟩::os) ⟨s,m⟩ K:=gX hK hz hst hok hf
end
section
variable {e:Env} {σ:St} {o:Oper} {K:St->Prop}
theorem Zxt {t:TypeId} {n d ety sz by':Nat} {parts:Array (Nat × Operand)} {rows:List (List C)} (ho:o.op=.buildSlice t n parts) (hds:o.dst=some d) (hb:Zbh e.P t=some (ety,sz,by')) (hn:parts.size=n∧n * sz<=16777216) (h0n:0 < n) (hp:ZdF sz 0 (parts.toList.map fun p=>(p.1,evA σ.s p.2))=some rows)
  (hK:K ⟨(d,.buf d)::Zan d σ.s,(d,.buf none ety sz rows)::remM d σ.m⟩):Zbx e o σ K:=by
 intro he U w0 S0 nt a w Q hd ⟨S,L,h1⟩;obtain ⟨i,z,hu,hi,hz,hsz,hby,hzs,hs0,_⟩:=ZcC hb;obtain ⟨q1,q2,q3,q4,q5⟩:=Zgz (w:=w) (S:=S) (L:=L) (vs:=parts.toList.map fun p=>a.eval p.2) hp (by simp) (mapv (fun p hp=>h1.eval p.2));simp only [Tax,Array.length_toList,List.map_map] at q1 q3;generalize hvs:(parts.toList.map fun p=>a.eval p.2)=vs at q4 q5;have hvl:vs.length=n:=by rw [<- hvs];simp [hn.1]
 have hparts:(parts.map fun (p:Nat × Operand)=>(p.1,a.eval p.2)).toList=(vs.zipIdx 0).map fun x=>(x.2,x.1):=by
  have:=Zh3 (parts.map fun (p:Nat × Operand)=>(p.1,a.eval p.2)).toList 0 (by simpa [Function.comp_def] using q3);rw [this,<- hvs];simp [Function.comp_def]
 have hbs:(Instr.buildSlice t n (parts.map fun (p:Nat × Operand)=>(p.1,a.eval p.2))).run e.P w=.ok (.slice (some ⟨w.heap.size,0,none⟩) n n) (w.alloc (.cells (vs.flatMap fun v=>v.cells.toList).toArray ety)):=by
  have h0:¬ n * i.size=0:=fun h=>by rw [hsz] at h;rcases Nat.mul_eq_zero.1 h with h | h <;> omega
  have hfill:=Go.Great.fill_whole hs0 vs ((Array.range (n * i.size)).map (z.cells[· % z.cells.size]!)) q4 (by simp [hvl,hsz]);refine run_buildSlice w t ety n _ _ i z hu hi hz (by rw [hsz];omega) h0 ?_;rw [hparts,hsz] at *;exact hfill
 have hlen:(vs.flatMap fun v=>v.cells.toList).length=n * sz:=by rw [q5.len,Zb1 q2,q1,hn.1]
 have hcell:∀ j u,(vs.flatMap fun v=>v.cells.toList)[j]?=some u->(w.alloc (.cells (vs.flatMap fun v=>v.cells.toList).toArray ety)).cell? ⟨w.heap.size,0+j,none⟩=some u:=fun j u hj=>by
  rw [Nat.zero_add];exact Zlw rfl (by simpa using hj)
 have hnew:=heap_alloc_new w (.cells (vs.flatMap fun v=>v.cells.toList).toArray ety);have hb0:Below w.heap.size w (w.alloc (.cells (vs.flatMap fun v=>v.cells.toList).toArray ety)):=ZdD w _;have hzW:(w.alloc (.cells (vs.flatMap fun v=>v.cells.toList).toArray ety)).heap.size=w.heap.size+1:=by simp
 have hdr:(w.alloc (.cells (vs.flatMap fun v=>v.cells.toList).toArray ety)).drawn=w.drawn:=rfl;generalize hW:w.alloc (.cells (vs.flatMap fun v=>v.cells.toList).toArray ety)=W at hbs hcell hb0 hzW hnew hdr;have hC:=h1.cls;have hg:e.G W:=he.keep _ _ hb0.size (fun b hE=>hb0.block b (Tbc (hC.ein b hE) hC.bsz)) hC.g;have hkp:Kept e.D e.E w.heap.size w W:=Kept.of_below hb0 (fun _=>by rw [hdr];exact Tai _)
 have hrun:(execOp a.eval o).run e.P w=.ok (.value (.slice (some ⟨w.heap.size,0,none⟩) n n)) W:=by
  simp only [execOp,ho,Sem.run_bind];have e1:(parts.map fun x=>match x with | (i,x)=>(i,a.eval x))=parts.map fun (p:Nat × Operand)=>(p.1,a.eval p.2):=rfl;rw [e1,hbs];rfl
 have hS:∀ b,S b->b < w.heap.size:=fun b hb=>(hC.sin b hb).1;have hgv:gives e.P o a.eval w fun v w'=>v=.slice (some ⟨w.heap.size,0,none⟩) n n∧w'=W:=by
  unfold gives;rw [hrun];exact ⟨rfl,rfl⟩
 refine ZcG hgv fun v w' ⟨e1,e2⟩=>⟨_,hK,?_⟩;subst e1 e2;rw [hds];have hq5:Zad w' S rows.flatten (vs.flatMap fun v=>v.cells.toList):=Zad.keep2 hkp.size (hC.cell hkp) (fun _ h=>h) q5;refine h1.bornE (hd d hds) (τ:=none) (b':=0) (v':=.slice (some ⟨w.heap.size,0,none⟩) n n) (S':=S) (fun _ h=>h) (fun _ h=>.inl h) (fun t=>.inl rfl) (fun k x h=>h) (by simp) (by simp) ⟨hkp.os,hkp.tape,hkp.output,hkp.drawn,hkp.size,fun b hb hE=>hkp.block b hb (fun h=>hE (.inl h))⟩ hg ?_ (fun g hg=>?_) (by simp [ARel])
 ·simp only [Own1,if_true];refine ⟨by simp,hs0,q2,.inr ⟨w.heap.size,n,(vs.flatMap fun v=>v.cells.toList).toArray,by rw [q1,hn.1],h0n,om,fun h=>by have:=hS _ h;omega,hnew,om,?_,by simpa using hlen,Zaq.of_flat (Zaf.of_vals _ _ 0 hq5 hcell)⟩⟩;have:n * 1<=n * sz:=Nat.mul_le_mul_left n hs0;unfold maxLen;omega
 ·simp only [Zau,if_true,vblk] at hg;rw [if_neg om] at hg;injection hg with hg
  subst hg;exact .inr (Tai _)
end
theorem gBs {e:Env} {K:St->Prop} {ds:List (Option Nat)} {os:List Oper} {d t n ty ety sz by':Nat} {p:String} {ed:Array Edge} {parts:List (Nat × Operand)} {s s2:List (Nat × A)} {m m2:List (Nat × Bk)} {rows:List (List C)} (hK:Runs e ds 0 os ⟨(d,.buf d)::s2,(d,.buf none ety sz rows)::m2⟩ K)
  (hb:Zbh e.P t=some (ety,sz,by'):=by exact sfx) (hp:ZdF sz 0 (parts.map fun p=>(p.1,evA s p.2))=some rows:=by exact sfv) (hs:Zan d s=s2:=by exact snv) (hr:remM d m=m2:=by exact snv) (hn:parts.length=n∧n * sz<=16777216:=by decide) (h0n:0 < n:=by decide):Runs e ds 0 (⟨some d,.buildSlice t n parts.toArray,ty,p,ed,none⟩::os) ⟨s,m⟩ K:=by
 subst hs hr;simp only [Runs] at hK ⊢;exact Zcz rfl (Zxt (o:=⟨some d,.buildSlice t n parts.toArray,ty,p,ed,none⟩) rfl rfl hb (by simpa using hn) h0n (by simpa using hp) hK)
def ROp (name:ByteArray) (res:Int) (args:List Int) (r:List D) (pm:List Bk):Prop:=∃ (a:Option Addr) (cap:Nat),r=[.agg [.lit (.string name),.lit (.slice a 1 cap),.lit (.bool false),.lit (.bool false),.lit (.int .i64 0)]]∧pm=[.buf (some (a,cap)) 97 2 [[.sl (args.map Zat),.lit (.int .i64 res)]]]
theorem ZmA (name:ByteArray) (res:Int) (args:List Int):ConP e0 58 [.one (.lit (.string name)),.one (.lit (.int .i64 res)),.clip (args.map Zat)] [] (ROp name res args):=by
 refine gIP (ts:=[.cell 6 81]) [] 71 Tryz.func58 ?_;refine fN 1 @tmz ?_;refine gB ?_;have F:=@tmz;refine gP 4 ?_;clear F;have F:=tmz;refine gBs ?_;clear F;refine gS 11 fun a cap=>?_;refine fR @tmz ?_;exact (have F:=tmz;gTP (R:=ROp name res args) [11] ⟨a,cap,rfl,rfl⟩)
def Ziv:List (List C):=[[.lit (.string ⟨#[78]⟩)],[.lit (.string ⟨#[80]⟩)],[.lit (.string ⟨#[76]⟩)]]
def subR (i k:Int):List C:=[.lit (.int .i64 i),.lit (.int .i64 k)]
def Zgq:Bool->List (List C)
 | true=>[subR 1 0,subR 0 2]
 | false=>[subR 1 0]
theorem nmU:Ziv=[[.lit (.string ⟨#[78]⟩)],[.lit (.string ⟨#[80]⟩)],[.lit (.string ⟨#[76]⟩)]]∧Zgq true=[subR 1 0,subR 0 2]∧Zgq false=[subR 1 0]∧∀ i k,subR i k=[.lit (.int .i64 i),.lit (.int .i64 k)]:=⟨rfl,rfl,rfl,fun _ _=>rfl⟩
def opR (name:ByteArray) (res:Int) (args:List Int):List C:=[.lit (.string name),.sl [[.sl (args.map Zat),.lit (.int .i64 res)]],.lit (.bool false),.lit (.bool false),.lit (.int .i64 0)]
theorem Zlc:∀ n r l,opR n r l=[.lit (.string n),.sl [[.sl (l.map Zat),.lit (.int .i64 r)]],.lit (.bool false),.lit (.bool false),.lit (.int .i64 0)]:=fun _ _ _=>rfl
def Zde (args:List Int) (res:Int):List C:=[.sl (args.map Zat),.lit (.int .i64 res)]
def gOp (u:Bool):List C:=[.lit (.string ⟨#[103]⟩),.sl (Zde [0] 1::if u then [Zde [1] 1] else []),.lit (.bool false),.lit (.bool false),.lit (.int .i64 0)]
def fRf (z fa fc fu:Bool):List C:=[.lit (.string ⟨#[102]⟩),.sl (if z then [Zde [2,2] 2,Zde [1,1] 1] else [Zde [0,2] 2]),.lit (.bool fa),.lit (.bool fc),.lit (.int .i64 (if fu then 3 else 0))]
theorem opU:(∀ z fa fc fu,fRf z fa fc fu=[.lit (.string ⟨#[102]⟩),.sl (if z then [Zde [2,2] 2,Zde [1,1] 1] else [Zde [0,2] 2]),.lit (.bool fa),.lit (.bool fc),.lit (.int .i64 (if fu then 3 else 0))])∧(∀ u,gOp u=[.lit (.string ⟨#[103]⟩),.sl (Zde [0] 1::if u then [Zde [1] 1] else []),.lit (.bool false),.lit (.bool false),.lit (.int .i64 0)])∧∀ args res,Zde args res=[.sl (args.map Zat),.lit (.int .i64 res)]:=⟨fun _ _ _ _=>rfl,fun _=>rfl,fun _ _=>rfl⟩
def hR (c:Bool):List C:=[.lit (.string ⟨#[104]⟩),.sl [Zde [0,0] 0],.lit (.bool false),.lit (.bool c),.lit (.int .i64 0)]
def mR (w:Bool):List C:=[.lit (.string ⟨#[109]⟩),.sl [Zde [0,0] 0],.lit (.bool true),.lit (.bool true),.lit (.int .i64 (if w then 1 else 0))]
def opsR (z u hc fa fc fu:Bool) (w:Option Bool):List (List C):=[opR ⟨#[97]⟩ 0 [],opR ⟨#[98]⟩ 1 [],opR ⟨#[101]⟩ 2 [],gOp u,hR hc,fRf z fa fc fu]++(match w with
 | none=>[]
 | some w=>[mR w])
theorem opsU:(∀ z u hc fa fc fu,opsR z u hc fa fc fu none=[opR ⟨#[97]⟩ 0 [],opR ⟨#[98]⟩ 1 [],opR ⟨#[101]⟩ 2 [],gOp u,hR hc,fRf z fa fc fu])∧(∀ z u hc fa fc fu w,opsR z u hc fa fc fu (some w)=[opR ⟨#[97]⟩ 0 [],opR ⟨#[98]⟩ 1 [],opR ⟨#[101]⟩ 2 [],gOp u,hR hc,fRf z fa fc fu,mR w])∧(∀ c,hR c=[.lit (.string ⟨#[104]⟩),.sl [Zde [0,0] 0],.lit (.bool false),.lit (.bool c),.lit (.int .i64 0)])∧(∀ w,mR w=[.lit (.string ⟨#[109]⟩),.sl [Zde [0,0] 0],.lit (.bool true),.lit (.bool true),.lit (.int .i64 (if w then 1 else 0))])∧∀ args res,Zde args res=[.sl (args.map Zat),.lit (.int .i64 res)]:=⟨fun _ _ _ _ _ _=>rfl,fun _ _ _ _ _ _ _=>rfl,fun _=>rfl,fun _=>rfl,fun _ _=>rfl⟩
theorem ZeR {pm:List Bk}:ZgV pm pm:=fun w S h1 h2=>⟨h1,h2,fun g hg=>hg⟩
theorem Zf3 (name:ByteArray) (res:Int) (args:List Int):Con e0 58 [.one (.lit (.string name)),.one (.lit (.int .i64 res)),.clip (args.map Zat)] [.agg (opR name res args)]:=by
 rw [opR];refine gI (ts:=[.cell 6 81]) 71 Tryz.func58 ?_;exact fD @tmz
def RSig (r:List D) (pm:List Bk):Prop:=∃ (z u hc fa fc fu:Bool) (w:Option Bool) (a:Option Addr) (k:Nat),(z=true∨(fa=false∧fc=false∧fu=false))∧r=[.agg [.sl Ziv,.sl (Zgq z),.lit (.slice a (opsR z u hc fa fc fu w).length k)]]∧pm=[.buf (some (a,k)) 81 5 (opsR z u hc fa fc fu w)]
section
variable {x:Src} {b:Nat}
theorem ZjJ (hx:x.Ok):ConP (eC x b) 23 [curD b] [] RSig:=by
 have he:=hx.okC (b:=b);have c2:=ZbS (b:=b) hx (n:=2) (by decide) (by decide);refine gIP (ts:=[.cell 2 30]) [] 5149835399278034355786243670525 Tryz.func23 ?_;refine fN 1 @tmC ?_;refine gB ?_;have F:=@tmC;refine gP 2 ?_;clear F;have F:=tmC;refine gBs ?_;clear F;refine gS 11 fun a1 k1=>?_;have F:=@tmC;refine gP 1 ?_;clear F;have F:=tmC;refine gXc ?_;clear F;refine fR @tmC ?_;refine fN 2 @tmC ?_;refine gB ?_
 have F:=@tmC;refine gCE (c2) ?_;clear F;rintro r ⟨y,rfl⟩;refine fR @tmC ?_;refine gM (ι:=Bool) [15] [3,11] (fun z=>[]) (fun z=>[(3,.var none [.sl Ziv,.sl (Zgq z),.lit (.slice none 0 0)])]) (fun z=>True) ?_ (fun z hz=>Exists.intro _ (ai (Wk.refl _) ?_))
 ·cases y
  ·refine pD 11 [] [3] ?_;have F:=ai @nmU @tmC;refine gG ?_;exact ⟨false,trivial,gw,gw⟩
  ·refine fN 3 @tmC ?_;refine gB ?_;have F:=@tmC;refine gP 3 ?_;clear F;refine gK 18 ?_;have F:=@tmC;refine gP 3 ?_;clear F;refine gS 21 fun a2 k2=>?_;have F:=@tmC;refine gP 3 ?_;clear F;refine gD 21 [] [3] ?_;refine fR @tmC ?_;have F:=ai @nmU @tmC;refine gG ?_;exact ⟨true,trivial,gw,gw⟩
 clear hz;refine pN 1001 81 5 ?_;have hs1:((1:Int) < ((Zgq z).length:Int))=(z=true):=by cases z <;> simp [Zgq]
 refine fN 5 (aj3 @hs1 @Bool.decide_eq_true @tmC) ?_;refine gB ?_;have F:=@tmC;refine gP 2 ?_;clear F;refine fC @tmC ((Zf3 ⟨#[97]⟩ 0 []).cu hx) ?_;refine fC @tmC ((Zf3 ⟨#[98]⟩ 1 []).cu hx) ?_;refine fC @tmC ((Zf3 ⟨#[101]⟩ 2 []).cu hx) ?_;have F:=@tmC;refine gP 1 ?_;clear F;refine gK 30 ?_;have F:=@tmC;refine gP 1 ?_;clear F;refine gS 35 fun a3 k3=>?_;refine fR @tmC ?_;refine fN 6 @tmC ?_;refine gB ?_
 have F:=@tmC;refine gCP [] [1002] ((ZmA ⟨#[103]⟩ 1 [0]).cu hx) ?_;clear F;rintro r pm ⟨a4,k4,rfl,rfl⟩;simp only [setA,retA,zipM,Taf,Tah];refine fR @tmC ?_;refine fN 7 @tmC ?_;refine gB ?_;have F:=@tmC;refine gCE (c2) ?_;clear F;rintro r ⟨y,rfl⟩;refine fR @tmC ?_;refine gM (ι:=Bool) [40] [5,1002] (fun u=>[]) (fun u=>[(5,.var none (gOp u))]) (fun u=>True) ?_ (fun u hu=>Exists.intro _ (ai (Wk.refl _) ?_))
 ·cases y
  ·refine pD 1002 [] [5] ?_;have F:=aj3 @opU @Zao @tmC;refine gG ?_;exact ⟨false,trivial,gw,gw⟩
  ·refine fN 8 @tmC ?_;refine gB ?_;have F:=@tmC;refine gP 2 ?_;clear F;refine gK 42 ?_;have F:=@tmC;refine gP 4 ?_;clear F;refine gS 46 fun a2 k2=>?_;have F:=@tmC;refine gP 2 ?_;clear F;refine gD 46 [] [5] ?_;refine fR @tmC ?_;have F:=aj3 @opU @Zao @tmC;refine gG ?_;exact ⟨true,trivial,gw,gw⟩
 clear hu;have lg:(gOp u).length=5:=rfl;have tg:(gOp u).take 5=gOp u:=rfl;have og:(gOp u).all Zay=true:=rfl;refine fN 9 (aj4 @lg @tg @og @tmC) ?_;refine gB ?_;have F:=@tmC;refine gP 2 ?_;clear F;refine gK 49 ?_;have F:=aj4 @lg @tg @og @tmC;refine gP 3 ?_;clear F;refine gS 52 fun a4 k4=>?_;refine fR @tmC ?_;refine fN 10 @tmC ?_;refine gB ?_;have F:=@tmC;refine gP 1 ?_;clear F;refine fC @tmC ((Zf3 ⟨#[104]⟩ 0 [0,0]).cu hx) ?_
 have lh:∀ n r l,(opR n r l).length=5:=fun _ _ _=>rfl;have oh:∀ n r l,(opR n r l).all Zay=true:=fun _ _ _=>rfl;refine fR (aj3 @lh @oh @tmC) ?_;refine fN 11 @tmC ?_;refine gB ?_;have F:=@tmC;refine gCE (c2) ?_;clear F;rintro r ⟨hc,rfl⟩;refine fR (ai @Zlc @tmC) ?_;refine fN 12 @tmC ?_;refine gB ?_;have F:=@tmC;refine gP 2 ?_;clear F;refine gK 60 ?_;have F:=@tmC;refine gP 3 ?_;clear F;refine gS 63 fun a5 k5=>?_
 refine fR @tmC ?_;refine fN 13 @tmC ?_;refine gB ?_;have F:=@tmC;refine gP 1 ?_;clear F;have F:=@tmC;refine gCP [] [1003] ((ZmA ⟨#[102]⟩ 2 [2,2]).cu hx) ?_;clear F;rintro r pm ⟨a6,k6,rfl,rfl⟩;simp only [setA,retA,zipM,Taf,Tah];refine fR @tmC ?_;refine fN 14 @tmC ?_;refine gB ?_;refine fR @tmC ?_;refine gM (ι:=Bool × Bool × Bool) [67] [7,1003] (fun v=>[]) (fun v=>[(7,.var none (fRf z v.1 v.2.1 v.2.2))]) (fun v=>z=true∨(v.1=false∧v.2.1=false∧v.2.2=false)) ?_ (fun v hv=>Exists.intro _ (ai (Wk.refl _) ?_))
 ·cases z
  ·refine fN 20 @tmC ?_;refine gB ?_;have F:=@tmC;refine gP 2 ?_;clear F;refine gK 85 ?_;have F:=@tmC;refine gP 3 ?_;clear F;have F:=@tmC;refine gP 1 ?_;clear F;refine gD 1003 [] [7] ?_;refine fR @tmC ?_;have F:=aj3 @opU @Zao @tmC;refine gG ?_;exact ⟨(false,false,false),.inr ⟨rfl,rfl,rfl⟩,gw,gw⟩
  ·refine fN 15 @tmC ?_;refine gB ?_;have F:=@tmC;refine gP 2 ?_;clear F;refine gK 69 ?_;have F:=@tmC;refine gP 4 ?_;clear F;refine gS 73 fun a2 k2=>?_;have F:=@tmC;refine gP 2 ?_;clear F;refine gD 73 [] [7] ?_;refine fR @tmC ?_;refine fN 16 @tmC ?_;refine gB ?_;have F:=@tmC;refine gCE (c2) ?_;clear F;rintro r ⟨fa,rfl⟩;refine fR @tmC ?_;refine fN 17 @tmC ?_;refine gB ?_;have F:=@tmC;refine gCE (c2) ?_;clear F
   rintro r ⟨fc,rfl⟩;refine fR @tmC ?_;refine fN 18 @tmC ?_;refine gB ?_;have F:=@tmC;refine gCE (c2) ?_;clear F;rintro r ⟨fu,rfl⟩;refine fR @tmC ?_
   cases fu
   ·have F:=aj3 @opU @Zao @tmC;refine gG ?_;exact ⟨(fa,fc,false),.inl rfl,gw,gw⟩
   ·have F:=aj3 @opU @Zao @tmC;refine gG ?_;exact ⟨(fa,fc,true),.inl rfl,gw,gw⟩
 obtain ⟨fa,fc,fu⟩:=v;dsimp only at hv ⊢;have lf:(fRf z fa fc fu).length=5:=rfl;have tf:(fRf z fa fc fu).take 5=fRf z fa fc fu:=rfl;have of':(fRf z fa fc fu).all Zay=true:=rfl;refine fN 21 @tmC ?_;refine gB ?_;have F:=@tmC;refine gP 2 ?_;clear F;refine gK 90 ?_;have F:=aj4 @lf @tf @of' @tmC;refine gP 3 ?_;clear F;refine gS 93 fun a7 k7=>?_;refine fR @tmC ?_;refine fN 22 @tmC ?_;refine gB ?_;have F:=@tmC;refine gCE (ZbS (b:=b) hx (n:=3) (by decide) (by decide)) ?_;clear F
 rintro r ⟨y,rfl⟩;refine fR @tmC ?_;refine gM (ι:=Option Addr × Nat × Option Bool) [96] [3,93,1004] (fun q=>[]) (fun q=>[(3,.var none [.sl Ziv,.sl (Zgq z),.lit (.slice q.1 (opsR z u hc fa fc fu q.2.2).length q.2.1)]),(1004,.buf (some (q.1,q.2.1)) 81 5 (opsR z u hc fa fc fu q.2.2))]) (fun q=>True) ?_ (fun q hq=>Exists.intro _ (ai (Wk.refl _) ?_))
 ·cases y
  ·refine pE [93] [1004] ZeR ?_;have F:=aj4 @opsU @Zlc @Zao @tmC;refine gG ?_;exact ⟨(a7,k7,none),trivial,gw,gw⟩
  ·refine fN 23 @tmC ?_;refine gB ?_;have F:=@tmC;refine gP 1 ?_;clear F;refine fC @tmC ((Zf3 ⟨#[109]⟩ 0 [0,0]).cu hx) ?_;refine fR (aj3 @lh @oh @tmC) ?_;refine fN 26 (ai @Zlc @tmC) ?_;refine gB ?_;have F:=@tmC;refine gCE (c2) ?_;clear F;rintro r ⟨w,rfl⟩;refine fR @tmC ?_
   cases w
   ·refine fN 28 @tmC ?_;refine gB ?_;have F:=@tmC;refine gP 2 ?_;clear F;refine gK 105 ?_;have F:=@tmC;refine gP 3 ?_;clear F;refine gS 108 fun a8 k8=>?_;have F:=@tmC;refine gP 2 ?_;clear F;refine gE [108] [1004] ZeR ?_;refine fR @tmC ?_;have F:=aj4 @opsU @Zlc @Zao @tmC;refine gG ?_;exact ⟨(a8,k8,some false),trivial,gw,gw⟩
   ·refine fN 28 @tmC ?_;refine gB ?_;have F:=@tmC;refine gP 2 ?_;clear F;refine gK 105 ?_;have F:=@tmC;refine gP 3 ?_;clear F;refine gS 108 fun a8 k8=>?_;have F:=@tmC;refine gP 2 ?_;clear F;refine gE [108] [1004] ZeR ?_;refine fR @tmC ?_;have F:=aj4 @opsU @Zlc @Zao @tmC;refine gG ?_;exact ⟨(a8,k8,some true),trivial,gw,gw⟩
 clear hq;obtain ⟨a9,k9,w⟩:=q;dsimp only;refine fG @tmC ?_;exact (have F:=tmC;gTP (R:=RSig) [1004] ⟨z,u,hc,fa,fc,fu,w,a9,k9,hv,rfl,rfl⟩)
end
section
variable {g:Sgn}
end
def nm1 (c:UInt8):ByteArray:=⟨#[c]⟩
theorem Zj5 (c:UInt8):(nm1 c).toList=[c]:=strL [c]
def letB (c:UInt8):Bool:=decide (65<=c.toNat∧c.toNat<=90) || decide (97<=c.toNat∧c.toNat<=122)
theorem Zsd {c:UInt8} (h:letB c=true):Za7 (nm1 c)=true:=by
 have hb:Zfb (nm1 c) 0=(c.toNat:Int):=rfl;have hs:(nm1 c).size=1:=rfl;unfold Za7 ZaZ;rw [Zj5,hs];simp only [letB,Bool.or_eq_true,decide_eq_true_eq] at h;have h1:Zcj (Zfb (nm1 c) 0)=true:=by
  rw [hb];simp only [Zcj,Bool.or_eq_true,decide_eq_true_eq];omega
 have h2:¬ Zfb (nm1 c) 0<=57:=by rw [hb];omega
 simp [List.range',h1,h2]
theorem ZmB {l:List UInt8} (h:l.all letB=true) (hn:l.Nodup):∀ (i:Nat) (x:ByteArray),(l.map nm1)[i]?=some x->Za7 x=true∧Za6 ((l.map nm1).take i) x=false:=by
 intro i x hx;rw [Taz,Tav] at hx;obtain ⟨c,hc,rfl⟩:=hx;refine ⟨Zsd (List.all_eq_true.1 h c (Tac hc)),?_⟩;unfold Za6;rw [List.any_eq_false];intro t ht;rw [<- List.map_take] at ht;obtain ⟨d,hd,rfl⟩:=Tbh.1 ht;rw [Zj5,Zj5];simp only [beq_iff_eq,List.cons.injEq,and_true];rintro rfl;obtain ⟨hi,rfl⟩:=Tad.1 hc;obtain ⟨j,hj,e⟩:=List.getElem_of_mem hd;rw [Taw] at hj;rw [List.getElem_take] at e;exact absurd e (List.pairwise_iff_getElem.1 hn j i om hi om)
def Zse (s:Srt) (f d:Dcl):Bool:=decide (d.args.length=f.args.length) && decide (0<=d.res∧d.res < s.names.length) && d.args.all (fun k=>decide (0<=k∧k < s.names.length)) && decide (kd s d.res=kd s f.res) && (d.args.zip f.args).all (fun p=>decide (kd s p.1=kd s p.2))
theorem Zxu {s:Srt} {f d:Dcl} (h:Zse s f d=true):DeclOk s f d:=by
 simp only [Zse,Tar,decide_eq_true_eq,List.all_eq_true] at h;obtain ⟨⟨⟨⟨h1,h2⟩,h3⟩,h4⟩,h5⟩:=h;refine ⟨h1,h2,h3,h4,fun i a b ha hb=>?_⟩;exact h5 (a,b) (Tac (i:=i) (List.getElem?_zip_eq_some.2 ⟨ha,hb⟩))
def opB (g:Sgn) (o:Opr):Bool:=match o.decls with
 | []=>false
 | f::r=>decide (o.decls.length<=4) && decide (f.args.length<=3) && o.decls.all (Zse g.sorts f) && decide (0<=o.unit∧o.unit<=g.ops.length) && (!(o.assoc || o.comm || o.unit != 0) || match f.args with
  | [a,b]=>decide (kd g.sorts a=kd g.sorts b) && (!(o.assoc || o.unit != 0) || decide (kd g.sorts a=kd g.sorts f.res)) && (o.unit==0 || match g.ops[o.unit.toNat - 1]? with
   | none=>true
   | some p=>match p.decls with
    | []=>true
    | u::_=>decide (u.args.length=0) && decide (kd g.sorts u.res=kd g.sorts f.res))
  | _=>false)
theorem ZvV {g:Sgn} {o:Opr} (h:opB g o=true):DeclsOk g.sorts o∧AxOk g o:=by
 unfold opB at h;split at h
 ·cases h
 ·next f r hd =>
  simp only [Tar,decide_eq_true_eq,List.all_eq_true] at h;obtain ⟨⟨⟨⟨h1,h2⟩,h3⟩,h4⟩,h5⟩:=h;have hf:o.decls[0]?=some f:=by rw [hd];rfl
  refine ⟨⟨by rw [hd];simp,h1,fun f' hf'=>?_,fun f' hf' d hdm=>?_⟩,⟨h4.1,h4.2,fun hor d hd0=>?_⟩⟩
  ·rw [hf] at hf';injection hf' with hf';subst hf';exact h2
  ·rw [hf] at hf';injection hf' with hf';subst hf';exact Zxu (h3 d hdm)
  ·rw [hf] at hd0;injection hd0 with hd0
   subst hd0;have hor':(o.assoc || o.comm || o.unit != 0)=true:=by
    simp only [Bool.or_eq_true,bne_iff_ne,ne_eq];rcases hor with q | q | q
    ·exact .inl (.inl q)
    ·exact .inl (.inr q)
    ·exact .inr q
   rw [hor'] at h5;simp only [Bool.not_true,Bool.false_or] at h5;split at h5
   ·next a b hab =>
    simp only [Tar,decide_eq_true_eq,Bool.or_eq_true,Bool.not_eq_true',Bool.or_eq_false_iff,bne_eq_false_iff_eq,beq_iff_eq] at h5;obtain ⟨⟨k1,k2⟩,k3⟩:=h5;refine ⟨by rw [hab];rfl,fun a' b' ha' hb'=>?_⟩;rw [hab] at ha' hb';simp only [Tat,Tau,Taq] at ha' hb';subst ha' hb';refine ⟨k1,fun q=>?_,fun q p u hp hu=>?_⟩
    ·rcases k2 with k2 | k2
     ·rcases q with q | q
      ·rw [k2.1] at q;cases q
      ·exact absurd k2.2 q
     ·exact k2
    ·rcases k3 with k3 | k3
     ·exact absurd k3 q
     ·rw [hp] at k3;simp only at k3;split at k3
      ·next e=>rw [e] at hu;simp at hu
      ·next u' _ e =>
       rw [e] at hu;simp only [Tat,Taq] at hu;subst hu;simpa using k3
   ·cases h5
theorem Zxv {g:Sgn} {l:List UInt8} (hs:SortsOk g.sorts) (hl:g.ops.length<=14) (hn:g.ops.map (·.name)=l.map nm1) (h1:l.all letB=true) (h2:l.Nodup) (h3:g.ops.all (opB g)=true):SgnOk g:=by
 refine ⟨hs,hl,fun i o ho=>?_,fun o ho=>(ZvV (List.all_eq_true.1 h3 o ho)).1,fun o ho=>(ZvV (List.all_eq_true.1 h3 o ho)).2⟩;have:=ZmB h1 h2 i o.name (by rw [<- hn,Taz,ho];rfl)
 rwa [<- hn,<- List.map_take] at this
def gD0 (u:Bool):Opr:=⟨nm1 103,⟨[0],1⟩::if u then [⟨[1],1⟩] else [],false,false,0⟩
def fD0 (z fa fc fu:Bool):Opr:=⟨nm1 102,if z then [⟨[2,2],2⟩,⟨[1,1],1⟩] else [⟨[0,2],2⟩],fa,fc,if fu then 3 else 0⟩
def mD0 (w:Bool):Opr:=⟨nm1 109,[⟨[0,0],0⟩],true,true,if w then 1 else 0⟩
def opsD (z u hc fa fc fu:Bool) (w:Option Bool):List Opr:=[⟨nm1 97,[⟨[],0⟩],false,false,0⟩,⟨nm1 98,[⟨[],1⟩],false,false,0⟩,⟨nm1 101,[⟨[],2⟩],false,false,0⟩,gD0 u,⟨nm1 104,[⟨[0,0],0⟩],false,hc,0⟩,fD0 z fa fc fu]++(match w with
 | none=>[]
 | some w=>[mD0 w])
def srtD (z:Bool):Srt:=⟨[78,80,76].map nm1,if z then [(1,0),(0,2)] else [(1,0)]⟩
def sigD (z u hc fa fc fu:Bool) (w:Option Bool):Sgn:=⟨srtD z,opsD z u hc fa fc fu w⟩
theorem ZzJ (z:Bool):SortsOk (srtD z):=by
 have hn:(srtD z).names=[78,80,76].map nm1:=by cases z <;> rfl
 have hl:(srtD z).names.length=3:=by rw [hn];rfl
 refine ⟨by rw [hl];decide,by rw [hl];decide,by cases z <;> decide,fun i _ x hx=>?_,?_,?_⟩
 ·rw [hn] at hx ⊢;exact ZmB (by decide) (by decide) i x hx
 ·rw [hl];intro p hp
  cases z <;> simp [srtD] at hp
  ·subst hp;simp [Zeg]
  ·rcases hp with rfl | rfl <;> simp [Zeg]
 ·rw [hl];intro i k hi hk;have h:∀ i,i < 3->∀ k,k < 3->¬ (i≠k∧((up (srtD z)).getD i 0).testBit k=true∧((up (srtD z)).getD k 0).testBit i=true):=by cases z <;> decide +kernel
  exact h i hi k hk
theorem Zov (z u hc fa fc fu:Bool) (w:Option Bool):Ziv=(sigD z u hc fa fc fu w).sorts.names.map Zby∧Zgq z=(sigD z u hc fa fc fu w).sorts.subs.map ZbM∧opsR z u hc fa fc fu w=(sigD z u hc fa fc fu w).ops.map ZaU:=by
 refine ⟨by cases z <;> rfl,by cases z <;> rfl,?_⟩
 cases w <;> cases z <;> cases u <;> cases fu <;> first | rfl | (rename_i w;cases w <;> rfl)
def Zow:Option Bool->List UInt8
 | none=>[97,98,101,103,104,102]
 | some _=>[97,98,101,103,104,102,109]
theorem ZzK {z u hc fa fc fu:Bool} {w:Option Bool} (h:z=true∨(fa=false∧fc=false∧fu=false)):SgnOk (sigD z u hc fa fc fu w):=by
 refine Zxv (l:=Zow w) (ZzJ z) (by cases w <;> exact Nat.le_of_ble_eq_true rfl) (by cases w <;> rfl) (by cases w <;> rfl) (by cases w <;> (show List.Nodup _;simp only [Zow];decide)) ?_;have H:∀ z u hc fa fc fu w',(z=true∨(fa=false∧fc=false∧fu=false))->(sigD z u hc fa fc fu none).ops.all (opB (sigD z u hc fa fc fu none))=true∧(sigD z u hc fa fc fu (some w')).ops.all (opB (sigD z u hc fa fc fu (some w')))=true:=by decide +kernel
 cases w with
 | none=>exact (H z u hc fa fc fu true h).1
 | some w=>exact (H z u hc fa fc fu w h).2
section
variable {x:Src} {b:Nat}
end
theorem Kept.all1 {D:Prop} {B:Nat} {w w':World} (h:Kept D e1.E B w w') (h1:e1.G w) (h2:e1.G w'):Kept D (fun _=>False) B w w':=h
section
variable {e:Env} {U:Nat->Prop} {base:Nat} {S0:Nat->Prop} {σ:St} {o:Oper} {K:St->Prop}
theorem ZzO {P:Program} {w:World} (ts:Array TypeId) (t ty e:TypeId) (i:TypeInfo) (h0:ts[0]?=some t) (h1:ts[1]?=some t) (ht:P.underlying t=some (.slice e)) (hi:P.info? e=some i) (b:Option Addr) (n cap:Nat) (hc:n<=cap) (x:Value)
  (hln:(Builtin.lenOf x).run P w=.ok 0 w) (hf:(Builtin.firstCells i.size 0 x).run P w=.ok #[] w) :
  (Builtin.append_ ts ty #[.slice b n cap,x]).run P w=.ok (.slice b n cap) w:=by
 cases b <;> simp [Builtin.append_,h0,h1,run_underlying ht,sizeOf,typeInfo,hi,hln,hf,storeCells,hc]
theorem Zv9 {x y:Operand} {t ety sz by':Nat} {rows:List (List C)} (ho:o.op=.call ⟨.builtin .append,#[x,y],#[t,t]⟩) (hb:Zbh e.P t=some (ety,sz,by')) (hx:evA σ.s x=.d (.clip rows)) (hy:evA σ.s y=.d (.one (.sl []))):ZaM e U base S0 σ.m o (evA σ.s) (.d (.clip rows)):=by
 refine Zax fun w S L ρv hC hr=>?_;have hx':=hr x (by simp [ho,Op.operands,Call.operands]);have hy':=hr y (by simp [ho,Op.operands,Call.operands]);rw [hx] at hx';rw [hy] at hy';obtain ⟨i,z,hu,hi,hz,hsz,hby,hzs,hs0,hb4⟩:=ZcC hb;obtain ⟨b,cap,news,hv,_,_,hn,hf⟩:=Zgb (sz:=sz) (rows:=[]) (fun r hr=>by cases hr) hy';have hx2:=hx'.1;simp only [Rep] at hx2;obtain ⟨A',n,cap',hw,h1,h2,h3,h4⟩:=hx2;refine ⟨ρv x,?_,hx'⟩
 have hne:news=[]:=by simpa [Zad] using hn.len
 subst hne;have hln:(Builtin.lenOf (ρv y)).run e.P w=.ok 0 w:=by rw [hv];simp [Builtin.lenOf]
 have hff:(Builtin.firstCells i.size 0 (ρv y)).run e.P w=.ok #[] w:=by rw [hsz];exact hf _ _ fun _=>rfl
 have:=ZzO (P:=e.P) (w:=w) #[t,t] t o.type ety i rfl rfl hu hi A' n cap' h2 (ρv y) hln hff;rw [<- hw] at this;simp [execOp,ho,resolve,invoke,builtin,this,Result.andThen]
end
section
variable {e:Env} {K:St->Prop} {ds:List (Option Nat)} {os:List Oper} {d t ty q:Nat} {p:String} {ed:Array Edge} {x y:Operand} {s:List (Nat × A)} {m:List (Nat × Bk)}
theorem gAe {rows:List (List C)} {ety sz by':Nat} (hK:Runs e ds (q - 1) os ⟨(d,.d (.clip rows))::s,m⟩ K) (hx:evA s x=.d (.clip rows):=by exact sfx) (hy:evA s y=.d (.one (.sl [])):=by exact sfx)
  (hb:Zbh e.P t=some (ety,sz,by'):=by exact sfx):Runs e ds q (⟨some d,.call ⟨.builtin .append,#[x,y],#[t,t]⟩,ty,p,ed,none⟩::os) ⟨s,m⟩ K :=
 Zhy rfl rfl rfl (fun U base S0=>Zv9 (σ:=⟨s,m⟩) rfl hb hx hy) hK
end
end Go.Proofs.YtmdkimnlbaahbaaGreat
namespace Go.Proofs.YtmdkimnlbaahbaaGreat
theorem Zj9 (m p:Nat) (a b:Bool):(2 * m+a.toNat) &&& (2 * p+b.toNat)=2 * (m &&& p)+(a && b).toNat:=by
 apply Nat.eq_of_testBit_eq;intro i;rw [Nat.testBit_and]
 cases i with
 | zero=>simp only [Nat.testBit_zero];cases a <;> cases b <;> simp [Nat.add_mod]
 | succ i =>
  simp only [Nat.testBit_succ];have h:∀ (n:Nat) (c:Bool),(2 * n+c.toNat) / 2=n:=fun n c=>by cases c <;> simp <;> omega
  rw [h,h,h,Nat.testBit_and]
theorem ZiC (n:Nat):∃ m,∃ a:Bool,n=2 * m+a.toNat:=by
 refine ⟨n / 2,decide (n % 2=1),?_⟩;rcases Nat.mod_two_eq_zero_or_one n with h | h
 ·rw [h];simp;omega
 ·rw [h];simp;omega
theorem ZzP {m p:Nat} {a b:Bool}:2 * m+a.toNat=2 * p+b.toNat ↔ m=p∧a=b:=by
 constructor
 ·intro h;cases a <;> cases b <;> simp_all <;> omega
 ·rintro ⟨rfl,rfl⟩;rfl
theorem Zwb {q m:Nat} (h:q &&& m=q):q<=m:=by rw [<- h];exact Nat.and_le_right
theorem ZoI:∀ (m p q:Nat),p &&& m=p->q &&& m=q->q < p->q<=(p - 1) &&& m:=by
 intro m
 induction m using Nat.strongRecOn with
 | ind m ih =>
 intro p q hp hq hlt;by_cases hm:m=0
 ·subst hm;simp at hp hq;omega
 obtain ⟨m',a,rfl⟩:=ZiC m;obtain ⟨p',b,rfl⟩:=ZiC p;obtain ⟨q',c,rfl⟩:=ZiC q;rw [Zj9,ZzP] at hp hq;have hm':m' < 2 * m'+a.toNat:=by cases a <;> simp at hm ⊢ <;> omega
 cases b with
 | true =>
  have e:2 * p'+true.toNat - 1=2 * p'+false.toNat:=by simp
  rw [e,Zj9,hp.1]
  cases c <;> simp at hlt hq ⊢ <;> omega
 | false =>
  have hlt':q' < p':=by cases c <;> simp at hlt <;> omega
  have e:2 * p'+false.toNat - 1=2 * (p' - 1)+true.toNat:=by simp;omega
  rw [e,Zj9];have:=ih m' hm' p' q' hp.1 hq.1 hlt';have h2:=hq.2
  cases c <;> cases a <;> simp at h2 ⊢ <;> omega
open Classical in
noncomputable def ofB (P:Nat->Prop):Nat->Nat
 | 0=>0
 | n+1=>ofB P n ||| (if P n then 2 ^ n else 0)
theorem ZcP (P:Nat->Prop):∀ (n i:Nat),(ofB P n).testBit i=true ↔ i < n∧P i
 | 0,i=>by simp [ofB]
 | n+1,i=>by
  rw [ofB,Nat.testBit_or,Bool.or_eq_true,ZcP P n i];by_cases h:P n
  ·rw [if_pos h,Nat.testBit_two_pow];simp only [decide_eq_true_eq];constructor
   ·rintro (⟨h1,h2⟩ | rfl)
    ·exact ⟨om,h2⟩
    ·exact ⟨om,h⟩
   ·rintro ⟨h1,h2⟩;by_cases h3:n=i
    ·exact .inr h3
    ·exact .inl ⟨om,h2⟩
  ·rw [if_neg h];simp only [Nat.zero_testBit,Tam,or_false];constructor
   ·rintro ⟨h1,h2⟩;exact ⟨om,h2⟩
   ·rintro ⟨h1,h2⟩;by_cases h3:i=n
    ·subst h3;exact absurd h2 h
    ·exact ⟨om,h2⟩
theorem ZcJ (P:Nat->Prop) (n:Nat):ofB P n < 2 ^ n:=by
 apply Nat.lt_pow_two_of_testBit;intro i hi
 cases h:(ofB P n).testBit i with
 | false=>rfl
 | true=>have:=((ZcP P n i).1 h).1;omega
theorem Zlh {v n i:Nat} (h:v < 2 ^ n) (hb:v.testBit i=true):i < n:=by
 apply Classical.byContradiction;intro hc;have:v < 2 ^ i:=Tbc h (Tbr (by decide) om);rw [Tbs this] at hb
 cases hb
theorem Zso {v u:Nat} (h:∀ i,v.testBit i=true ↔ u.testBit i=true):v=u:=by
 apply Nat.eq_of_testBit_eq;intro i;have:=h i
 cases h1:v.testBit i <;> cases h2:u.testBit i <;> simp_all
theorem Zli {P:Nat->Prop} {n v:Nat} (hv:v < 2 ^ n) (h:∀ i,i < n->(v.testBit i=true ↔ P i)):v=ofB P n:=by
 apply Zso;intro i;rw [ZcP];constructor
 ·intro hb;have:=Zlh hv hb;exact ⟨this,(h i this).1 hb⟩
 ·rintro ⟨h1,h2⟩;exact (h i h1).2 h2
theorem ZbG {P Q:Nat->Prop} {n:Nat} (h:∀ i,i < n->(P i ↔ Q i)):ofB P n=ofB Q n :=
 Zli (ZcJ P n) fun i hi=>by rw [ZcP,h i hi];exact ⟨fun x=>x.2,fun x=>⟨hi,x⟩⟩
inductive BagB (R:Nat->Nat->Nat->Prop) (sets:List Nat):Nat->Nat->Prop
 | leaf {i b s:Nat}:sets[i]?=some s->s.testBit b=true->BagB R sets (2 ^ i) b
 | node {p q a c b:Nat}:p≠0->q≠0->p &&& q=0->BagB R sets p a->BagB R sets q c->R a c b->BagB R sets (p ||| q) b
inductive ChB (R:Nat->Nat->Nat->Prop) (sets:List Nat):Nat->Nat->Nat->Prop
 | leaf {i b s:Nat}:sets[i]?=some s->s.testBit b=true->ChB R sets i (i+1) b
 | node {i k j a c b:Nat}:i < k->k < j->ChB R sets i k a->ChB R sets k j c->R a c b->ChB R sets i j b
def Two (R:Nat->Nat->Nat->Prop) (s t b:Nat):Prop:=∃ a c,s.testBit a=true∧t.testBit c=true∧R a c b
theorem Zro (i j:Nat):(2 ^ i).testBit j=true ↔ i=j:=by rw [Nat.testBit_two_pow];simp
theorem Zka {p:Nat} (h:p≠0):∃ i,p.testBit i=true:=by
 apply Classical.byContradiction;intro hc;apply h;apply Nat.eq_of_testBit_eq;intro i
 cases hb:p.testBit i with
 | false=>simp
 | true=>exact absurd ⟨i,hb⟩ hc
theorem ZlP {p q i:Nat} (h:p &&& q=0) (h1:p.testBit i=true) (h2:q.testBit i=true):False:=by
 have:=congrArg (fun x=>x.testBit i) h;simp [h1,h2] at this
theorem Zsp {p q i:Nat} (hp:p≠0) (hq:q≠0) (h:p &&& q=0):p ||| q≠2 ^ i:=by
 intro e;obtain ⟨a,ha⟩:=Zka hp;obtain ⟨c,hc⟩:=Zka hq;have h1:(2 ^ i).testBit a=true:=by rw [<- e,Nat.testBit_or,ha];rfl
 have h2:(2 ^ i).testBit c=true:=by rw [<- e,Nat.testBit_or,hc];simp
 rw [Zro] at h1 h2;subst h1;subst h2;exact ZlP h ha hc
theorem ZxB {R:Nat->Nat->Nat->Prop} {sets:List Nat} {i s b:Nat} (hs:sets[i]?=some s):BagB R sets (2 ^ i) b ↔ s.testBit b=true:=by
 constructor
 ·intro h;generalize hm:2 ^ i=m at h
  cases h with
  | leaf h1 h2 =>
   have:=(Nat.pow_right_inj (by decide)).1 hm;subst this;rw [hs] at h1;injection h1 with h1;subst h1;exact h2
  | node h1 h2 h3 _ _ _=>exact absurd hm.symm (Zsp h1 h2 h3)
 ·exact fun h=>.leaf hs h
theorem ZAu {p q:Nat} (h:p &&& q=0):(p ||| q) ^^^ p=q:=by
 apply Nat.eq_of_testBit_eq;intro i;rw [Nat.testBit_xor,Nat.testBit_or]
 cases h1:p.testBit i <;> cases h2:q.testBit i <;> simp
 exact absurd h1 (by intro h1;exact ZlP h h1 h2)
theorem Zrp {p m:Nat} (h:p &&& m=p) {i:Nat} (hi:p.testBit i=true):m.testBit i=true:=by
 rw [<- h,Nat.testBit_and] at hi;simp at hi;exact hi.2
theorem Zrq {p m:Nat} (h:p &&& m=p):p &&& (m ^^^ p)=0∧p ||| (m ^^^ p)=m:=by
 constructor
 ·apply Nat.eq_of_testBit_eq;intro i;rw [Nat.testBit_and,Nat.testBit_xor]
  cases h1:p.testBit i with
  | false=>simp
  | true=>simp [Zrp h h1]
 ·apply Nat.eq_of_testBit_eq;intro i;rw [Nat.testBit_or,Nat.testBit_xor]
  cases h1:p.testBit i with
  | false=>simp
  | true=>simp [Zrp h h1]
theorem ZoJ {p m:Nat} (h:p≠m):m ^^^ p≠0:=by
 intro e;apply h;apply Nat.eq_of_testBit_eq;intro i;have:=congrArg (fun x=>x.testBit i) e;rw [Nat.testBit_xor] at this
 cases h1:p.testBit i <;> cases h2:m.testBit i <;> simp [h1,h2] at this ⊢
theorem ZxC {R:Nat->Nat->Nat->Prop} {sets:List Nat} {m b:Nat} (hm:∀ i,m≠2 ^ i):BagB R sets m b ↔ ∃ p,p≠0∧p≠m∧p &&& m=p∧∃ a c,BagB R sets p a∧BagB R sets (m ^^^ p) c∧R a c b:=by
 constructor
 ·intro h
  cases h with
  | leaf=>exact absurd rfl (hm _)
  | node h1 h2 h3 h4 h5 h6 =>
   rename_i p q a c;refine ⟨p,h1,?_,?_,a,c,h4,?_,h6⟩
   ·intro e;obtain ⟨i,hi⟩:=Zka h2;exact ZlP h3 (by rw [e,Nat.testBit_or,hi];simp) hi
   ·apply Nat.eq_of_testBit_eq;intro i;rw [Nat.testBit_and,Nat.testBit_or];cases p.testBit i <;> simp
   ·rw [ZAu h3];exact h5
 ·rintro ⟨p,h1,h2,h3,a,c,h4,h5,h6⟩;have:=Zrq h3;have h:=BagB.node h1 (ZoJ h2) this.1 h4 h5 h6;rw [this.2] at h;exact h
theorem ZzQ {R:Nat->Nat->Nat->Prop} {sets:List Nat} {i s b:Nat} (hs:sets[i]?=some s):ChB R sets i (i+1) b ↔ s.testBit b=true:=by
 constructor
 ·intro h;generalize hj:i+1=j at h
  cases h with
  | leaf h1 h2=>rw [hs] at h1;injection h1 with h1;subst h1;exact h2
  | node h1 h2 _ _ _=>omega
 ·exact fun h=>.leaf hs h
theorem ZzR {R:Nat->Nat->Nat->Prop} {sets:List Nat} {i j b:Nat} (hij:i+1 < j):ChB R sets i j b ↔ ∃ k,i < k∧k < j∧∃ a c,ChB R sets i k a∧ChB R sets k j c∧R a c b:=by
 constructor
 ·intro h
  cases h with
  | leaf=>omega
  | node h1 h2 h3 h4 h5=>exact ⟨_,h1,h2,_,_,h3,h4,h5⟩
 ·rintro ⟨k,h1,h2,a,c,h3,h4,h5⟩;exact .node h1 h2 h3 h4 h5
end Go.Proofs.YtmdkimnlbaahbaaGreat
namespace Go.Proofs.YtmdkimnlbaahbaaGreat
open Go.RowKit
theorem ZiD (P Q:Nat->Prop) (n:Nat):ofB P n ||| ofB Q n=ofB (fun b=>P b∨Q b) n :=
 Zli (Nat.or_lt_two_pow (ZcJ P n) (ZcJ Q n)) fun i hi=>by
  rw [Nat.testBit_or,Bool.or_eq_true,ZcP,ZcP];simp only [hi,true_and]
theorem ZhB {P:Nat->Prop} {n:Nat} (h:∀ i,i < n->¬ P i):ofB P n=0 :=
 (Zli (Nat.pos_of_ne_zero (by have:=Nat.one_le_two_pow (n:=n);omega)) fun i hi=>by
  rw [Nat.zero_testBit];exact ⟨fun e=>(by cases e),fun e=>absurd e (h i hi)⟩).symm
theorem ZhC {v n:Nat} (h:v < 2 ^ n):ofB (fun b=>v.testBit b=true) n=v:=(Zli h fun i _=>Iff.rfl).symm
def upk (g:Sgn) (k:Int):Nat:=(up g.sorts).getD k.toNat 0
theorem ZlQ {g:Sgn} (hs:SortsOk g.sorts) {k:Int} (h0:0<=k) (h1:k < g.sorts.names.length):(up g.sorts)[k.toNat]?=some (upk g k)∧upk g k < 2 ^ g.sorts.names.length :=
 (Zfr (SortsOk.subsIn hs.subs)).get om
def Zdf (g:Sgn) (o:Opr) (sets:List Nat) (b:Nat):Prop:=∃ d∈o.decls,(∀ (i:Nat) k s,d.args[i]?=some k->sets[i]?=some s->s.testBit k.toNat=true)∧(upk g d.res).testBit b=true
def Rel2 (g:Sgn) (o:Opr) (a c b:Nat):Prop:=∃ d∈o.decls,d.args.map Int.toNat=[a,c]∧(upk g d.res).testBit b=true
def AnyB (g:Sgn) (o:Opr) (sets:List Nat) (b:Nat):Prop:=Zdf g o sets b∨(o.comm=true∧Zdf g o sets.reverse b)
def AppB (g:Sgn) (o:Opr) (sets:List Nat) (b:Nat):Prop:=if o.assoc=true then (if o.comm=true then BagB (Rel2 g o) sets (2 ^ sets.length - 1) b else ChB (Rel2 g o) sets 0 sets.length b) else AnyB g o sets b
noncomputable def appS (g:Sgn) (o:Opr) (sets:List Nat):Nat:=ofB (AppB g o sets) g.sorts.names.length
mutual
noncomputable def sortsTm (g:Sgn):Tm->Nat
 | .mk op _ so args=>if op=-1 then upk g so else match g.ops[op.toNat]? with
  | none=>0
  | some o=>appS g o (ZhD g args)
noncomputable def ZhD (g:Sgn):List Tm->List Nat
 | []=>[]
 | t::ts=>sortsTm g t::ZhD g ts
end
theorem ZiE (g:Sgn):∀ (l:List Tm),ZhD g l=l.map (sortsTm g)
 | []=>rfl
 | t::ts=>by simp only [ZhD,Tbt,ZiE g ts]
theorem ZjK {g:Sgn} {t:Tm} (h:t.op=-1):sortsTm g t=upk g t.sort:=by
 obtain ⟨op,nm,so,args⟩:=t;simp only [Tm.op] at h;simp only [sortsTm,if_pos h,Tm.sort]
theorem ZjL {g:Sgn} {t:Tm} {o:Opr} (h:t.op≠-1) (ho:g.ops[t.op.toNat]?=some o):sortsTm g t=appS g o (t.args.map (sortsTm g)):=by
 obtain ⟨op,nm,so,args⟩:=t;simp only [Tm.op] at h ho;simp only [sortsTm,if_neg h,ho,Tm.args,ZiE]
theorem Zfx {g:Sgn} (hg:SgnOk g) {t:Tm} (ht:Zcp g t):sortsTm g t < 2 ^ g.sorts.names.length:=by
 rcases ht with hv | ⟨o,d,hA⟩
 ·rw [ZjK hv.1];exact (ZlQ hg.sorts hv.2.2.1 hv.2.2.2.1).2
 ·rw [ZjL hA.op hA.at'];exact ZcJ _ _
theorem Rel2.lt {g:Sgn} (hg:SgnOk g) {o:Opr} (ho:o∈g.ops) {a c b:Nat} (h:Rel2 g o a c b):b < g.sorts.names.length:=by
 obtain ⟨d,hd,_,hb⟩:=h;have hD:=hg.decls o ho;obtain ⟨f,hf,_⟩:=hD.first;have hd':=hD.all f hf d hd;exact Zlh (ZlQ hg.sorts hd'.res.1 hd'.res.2).2 hb
theorem ZoK {g:Sgn} {o:Opr} (h2:∀ d∈o.decls,d.args.length=2) {s t b:Nat}:Zdf g o [s,t] b ↔ Two (Rel2 g o) s t b:=by
 constructor
 ·rintro ⟨d,hd,h1,hb⟩;obtain ⟨x,y,hxy⟩:=Zn3 (h2 d hd);rw [hxy] at h1;exact ⟨x.toNat,y.toNat,h1 0 x s rfl rfl,h1 1 y t rfl rfl,d,hd,by rw [hxy];rfl,hb⟩
 ·rintro ⟨a,c,ha,hc,d,hd,he,hb⟩;obtain ⟨x,y,hxy⟩:=Zn3 (h2 d hd);rw [hxy] at he;simp only [Tbt,List.map_nil,List.cons.injEq,and_true] at he;obtain ⟨rfl,rfl⟩:=he;refine ⟨d,hd,fun i k u hk hu=>?_,hb⟩;rw [hxy] at hk
  match i,hk,hu with
  | 0,hk,hu =>
   simp only [Tat,Taq] at hk hu;subst hk;subst hu;exact ha
  | 1,hk,hu =>
   simp only [Tau,Tat,Taq] at hk hu;subst hk;subst hu;exact hc
  | i+2,hk,hu=>simp at hk
theorem Opr.deg2 {g:Sgn} (hg:SgnOk g) {i:Nat} {o:Opr} (ho:g.ops[i]?=some o) (h:o.assoc=true∨o.comm=true∨o.unit≠0):∀ d∈o.decls,d.args.length=2:=by
 intro d hd;have hm:=Tac ho;have hD:=hg.decls o hm;obtain ⟨f,hf,_⟩:=hD.first;rw [(hD.all f hf d hd).len];exact ((hg.axs o hm).two h f hf).1
theorem BagB.lt {R:Nat->Nat->Nat->Prop} {sets:List Nat} {N:Nat} (hs:∀ s∈sets,s < 2 ^ N) (hR:∀ a c b,R a c b->b < N) {m b:Nat} (h:BagB R sets m b):b < N:=by
 cases h with
 | leaf h1 h2=>exact Zlh (hs _ (Tac h1)) h2
 | node _ _ _ _ _ h=>exact hR _ _ _ h
theorem ChB.lt {R:Nat->Nat->Nat->Prop} {sets:List Nat} {N:Nat} (hs:∀ s∈sets,s < 2 ^ N) (hR:∀ a c b,R a c b->b < N) {i j b:Nat} (h:ChB R sets i j b):b < N:=by
 cases h with
 | leaf h1 h2=>exact Zlh (hs _ (Tac h1)) h2
 | node _ _ _ _ h=>exact hR _ _ _ h
def Zgs (R:Nat->Nat->Nat->Prop) (sets:List Nat) (N m part b:Nat):Prop:=∃ p,part < p∧p≠0∧p≠m∧p &&& m=p∧Two R (ofB (BagB R sets p) N) (ofB (BagB R sets (m ^^^ p)) N) b
theorem Zi9 {R:Nat->Nat->Nat->Prop} {P Q:Nat->Prop} {N b:Nat} (hP:∀ b,P b->b < N) (hQ:∀ b,Q b->b < N):Two R (ofB P N) (ofB Q N) b ↔ ∃ a c,P a∧Q c∧R a c b:=by
 unfold Two;constructor
 ·rintro ⟨a,c,h1,h2,h3⟩;exact ⟨a,c,((ZcP _ _ _).1 h1).2,((ZcP _ _ _).1 h2).2,h3⟩
 ·rintro ⟨a,c,h1,h2,h3⟩;exact ⟨a,c,(ZcP _ _ _).2 ⟨hP a h1,h1⟩,(ZcP _ _ _).2 ⟨hQ c h2,h2⟩,h3⟩
theorem Zsq {R:Nat->Nat->Nat->Prop} {sets:List Nat} {N m:Nat} (hm:m≠0):ofB (Zgs R sets N m ((m - 1) &&& m)) N=0:=ZhB fun b _ h=>by
 obtain ⟨p,h1,h2,h3,h4,_⟩:=h;have h5:=Zwb h4;have:=ZoI m m p (Nat.and_self m) h4 om;omega
theorem Zwc {R:Nat->Nat->Nat->Prop} {sets:List Nat} {N m p b:Nat} (hp:p≠0) (hm:p≠m) (h:p &&& m=p):Zgs R sets N m ((p - 1) &&& m) b ↔ Zgs R sets N m p b∨Two R (ofB (BagB R sets p) N) (ofB (BagB R sets (m ^^^ p)) N) b:=by
 constructor
 ·rintro ⟨q,h1,h2,h3,h4,h5⟩;by_cases hq:p < q
  ·exact .inl ⟨q,hq,h2,h3,h4,h5⟩
  ·by_cases e:q=p
   ·subst e;exact .inr h5
   ·have:=ZoI m p q h h4 om;omega
 ·have hlt:(p - 1) &&& m < p:=by have:(p - 1) &&& m<=p - 1:=Nat.and_le_left;omega
  rintro (⟨q,h1,h2,h3,h4,h5⟩ | h5)
  ·exact ⟨q,om,h2,h3,h4,h5⟩
  ·exact ⟨p,hlt,hp,hm,h,h5⟩
theorem ZxD {R:Nat->Nat->Nat->Prop} {sets:List Nat} {N m:Nat} (hs:∀ s∈sets,s < 2 ^ N) (hR:∀ a c b,R a c b->b < N) (hm:∀ i,m≠2 ^ i):ofB (Zgs R sets N m 0) N=ofB (BagB R sets m) N:=ZbG fun b _=>by
 rw [ZxC hm];unfold Zgs;constructor
 ·rintro ⟨p,h1,h2,h3,h4,h5⟩;obtain ⟨a,c,h6,h7,h8⟩:=(Zi9 (fun b hb=>BagB.lt hs hR hb) (fun b hb=>BagB.lt hs hR hb)).1 h5;exact ⟨p,h2,h3,h4,a,c,h6,h7,h8⟩
 ·rintro ⟨p,h2,h3,h4,a,c,h6,h7,h8⟩;exact ⟨p,om,h2,h3,h4,(Zi9 (fun b hb=>BagB.lt hs hR hb) (fun b hb=>BagB.lt hs hR hb)).2 ⟨a,c,h6,h7,h8⟩⟩
def CutB (R:Nat->Nat->Nat->Prop) (sets:List Nat) (N i j at' b:Nat):Prop:=∃ k,i < k∧k < at'∧k < j∧Two R (ofB (ChB R sets i k) N) (ofB (ChB R sets k j) N) b
theorem Zwd {R:Nat->Nat->Nat->Prop} {sets:List Nat} {N i j:Nat}:ofB (CutB R sets N i j (i+1)) N=0:=ZhB fun b _ h=>by
 obtain ⟨k,h1,h2,_⟩:=h;omega
theorem ZxE {R:Nat->Nat->Nat->Prop} {sets:List Nat} {N i j k b:Nat} (h1:i < k) (h2:k < j):CutB R sets N i j (k+1) b ↔ CutB R sets N i j k b∨Two R (ofB (ChB R sets i k) N) (ofB (ChB R sets k j) N) b:=by
 constructor
 ·rintro ⟨q,q1,q2,q3,q4⟩;by_cases e:q=k
  ·subst e;exact .inr q4
  ·exact .inl ⟨q,q1,om,q3,q4⟩
 ·rintro (⟨q,q1,q2,q3,q4⟩ | h)
  ·exact ⟨q,q1,om,q3,q4⟩
  ·exact ⟨k,h1,om,h2,h⟩
theorem ZzS {R:Nat->Nat->Nat->Prop} {sets:List Nat} {N i j:Nat} (hs:∀ s∈sets,s < 2 ^ N) (hR:∀ a c b,R a c b->b < N) (hij:i+1 < j):ofB (CutB R sets N i j j) N=ofB (ChB R sets i j) N:=ZbG fun b _=>by
 rw [ZzR hij];unfold CutB;constructor
 ·rintro ⟨k,h1,h2,h3,h5⟩;obtain ⟨a,c,h6,h7,h8⟩:=(Zi9 (fun b hb=>ChB.lt hs hR hb) (fun b hb=>ChB.lt hs hR hb)).1 h5;exact ⟨k,h1,h2,a,c,h6,h7,h8⟩
 ·rintro ⟨k,h1,h2,a,c,h6,h7,h8⟩;exact ⟨k,h1,h2,h2,(Zi9 (fun b hb=>ChB.lt hs hR hb) (fun b hb=>ChB.lt hs hR hb)).2 ⟨a,c,h6,h7,h8⟩⟩
theorem ZzT {R:Nat->Nat->Nat->Prop} {sets:List Nat} {N i s:Nat} (hs:sets[i]?=some s) (h:s < 2 ^ N):ofB (BagB R sets (2 ^ i)) N=s:=by
 rw [show ofB (BagB R sets (2 ^ i)) N=ofB (fun b=>s.testBit b=true) N from ZbG fun b _=>ZxB hs,ZhC h]
theorem Zwe {R:Nat->Nat->Nat->Prop} {sets:List Nat} {N i s:Nat} (hs:sets[i]?=some s) (h:s < 2 ^ N):ofB (ChB R sets i (i+1)) N=s:=by
 rw [show ofB (ChB R sets i (i+1)) N=ofB (fun b=>s.testBit b=true) N from ZbG fun b _=>ZzQ hs,ZhC h]
theorem ZiF {e:Env} {f:FuncId} {a b:D} {rows:List (List C)} {r:List D} (h:Con e f [a,b,.one (.sl rows)] r):Con e f [a,b,.clip rows] r :=
 ⟨h.1,fun w S vs hS hE hG hv=>h.2 w S vs hS hE hG (by
  match vs,hv with
  | [x,y,z],hv=>exact ⟨hv.1,hv.2.1,hv.2.2.1.1,trivial⟩)⟩
def FitN (d:Dcl) (sets:List Nat) (n:Nat):Prop:=∀ (i:Nat) k s,i < n->d.args[i]?=some k->sets[i]?=some s->s.testBit k.toNat=true
theorem FitN.zero {d:Dcl} {sets:List Nat}:FitN d sets 0:=fun i k s h=>absurd h (Nat.not_lt_zero i)
theorem FitN.succ {d:Dcl} {sets:List Nat} {n:Nat} {k:Int} {s:Nat} (hk:d.args[n]?=some k) (hs:sets[n]?=some s):FitN d sets (n+1) ↔ FitN d sets n∧s.testBit k.toNat=true:=by
 constructor
 ·exact fun h=>⟨fun i k s hi=>h i k s om,h n k s om hk hs⟩
 ·rintro ⟨h1,h2⟩ i k' s' hi hk' hs';by_cases e:i=n
  ·subst e;rw [hk] at hk';rw [hs] at hs';injection hk' with hk'
   injection hs' with hs'
   subst hk' hs';exact h2
  ·exact h1 i k' s' om hk' hs'
theorem FitN.full {d:Dcl} {sets:List Nat}:FitN d sets d.args.length ↔ ∀ (i:Nat) k s,d.args[i]?=some k->sets[i]?=some s->s.testBit k.toNat=true :=
 ⟨fun h i k s hk hs=>h i k s (Tad.1 hk).1 hk hs,fun h i k s _ hk hs=>h i k s hk hs⟩
theorem ZcF {v N:Nat} (h:v < 2 ^ N) (hN:N<=8):v < 4611686018427387904:=by
 have:2 ^ N<=2 ^ 8:=Tbr om hN;omega
section
variable {g:Sgn} {mc:C}
def ClB (g:Sgn) (v n b:Nat):Prop:=∃ k,k < n∧v.testBit k=true∧((up g.sorts).getD k 0).testBit b=true
theorem ZzU {v n N:Nat} (h:tbit v n=true) (hu:(up g.sorts).getD n 0 < 2 ^ N):ofB (ClB g v (n+1)) N=ofB (ClB g v n) N ||| (up g.sorts).getD n 0:=by
 rw [<- ZhC hu,ZiD];refine ZbG fun b _=>?_;constructor
 ·rintro ⟨k,h1,h2,h3⟩;by_cases e:k=n
  ·subst e;exact .inr h3
  ·exact .inl ⟨k,om,h2,h3⟩
 ·rintro (⟨k,h1,h2,h3⟩ | h3)
  ·exact ⟨k,om,h2,h3⟩
  ·exact ⟨n,om,h,h3⟩
theorem ZzV {v n N:Nat} (h:tbit v n=false):ofB (ClB g v (n+1)) N=ofB (ClB g v n) N:=by
 refine ZbG fun b _=>?_;constructor
 ·rintro ⟨k,h1,h2,h3⟩;by_cases e:k=n
  ·subst e;rw [show v.testBit k=false from h] at h2
   cases h2
  ·exact ⟨k,om,h2,h3⟩
 ·rintro ⟨k,h1,h2,h3⟩;exact ⟨k,om,h2,h3⟩
theorem ZzW {v N:Nat}:ofB (ClB g v 0) N=0:=ZhB fun b _ h=>by
 obtain ⟨k,h1,_⟩:=h;omega
theorem ZpK (hg:SgnOk g) {v:Nat} (hv:v < 2 ^ g.sorts.names.length):Con e0 154 [.one (.sl (nR (up g.sorts))),.one (.lit (.int .i64 (v:Int)))] [.one (.lit (.int .i64 ((ofB (ClB g v g.sorts.names.length) g.sorts.names.length:Nat):Int)))]:=by
 have hN:=hg.sorts.n8;have hv62:=ZcF hv hN;have hUl:(nR (up g.sorts)).length=g.sorts.names.length:=by rw [Za8,Zvp hg.sorts]
 have z0:ofB (ClB g v 0) g.sorts.names.length=0:=ZzW;have rr:=Za0 (l:=up g.sorts);refine gI (ts:=[.slot 4]) 33907 Tryz.func154 ?_;refine fG @tmz ?_;have F:=@tmz;refine gL (ι:=Nat × Nat) [5,6,10,15] [] (fun x=>[(6,A.d (.one (.lit (.int .i64 x.1)))),(5,A.d (.one (.lit (.int .i64 x.2))))]) (fun x=>[]) (fun x=>x.1<=g.sorts.names.length∧x.2=ofB (ClB g v x.1) g.sorts.names.length) (fun x=>g.sorts.names.length - x.1) ((0,0)) (⟨Taj _,z0.symm⟩) (fun x hx=>?_);clear F
 obtain ⟨i,out⟩:=x;obtain ⟨hi,hout⟩:=hx;simp only at hi hout;subst hout;dsimp only;by_cases hlt:i < g.sorts.names.length;rotate_left
 ·obtain rfl:i=g.sorts.names.length:=by omega
  have q1:=lF g.sorts.names.length g.sorts.names.length;exact fD (aj3 @q1 @hUl @tmz)
 have q1:=lT i g.sorts.names.length;have hw1:=Zap (k:=i) om;have hu:=(Zfr (SortsOk.subsIn hg.sorts.subs)).get hlt;have ru:=Zbe hu.1;have ho2:=Zer (ZcF (ZcJ (ClB g v i) g.sorts.names.length) hN) (ZcF hu.2 hN);refine fN 5 (aj3 @q1 @hUl @tmz) ?_;refine gB ?_;refine fC @tmz (Zes (a:=v) (k:=i) hv62 om) ?_
 cases ht:tbit v i with
 | false =>
  have e:=ZzV (g:=g) (N:=g.sorts.names.length) ht;rw [<- e];refine fR @tmz ?_;have F:=ai @hw1 @tmz;refine gG ?_;exact ⟨(i+1,ofB (ClB g v (i+1)) g.sorts.names.length),⟨hlt,rfl⟩,gw,gw,om⟩
 | true =>
  have e:=ZzU ht hu.2;rw [<- e] at ho2;refine fR @tmz ?_;have F:=aj8 @ru @rr @hUl @hlt @ho2 @hw1 @ZaS @tmz;refine gG ?_;exact ⟨(i+1,ofB (ClB g v (i+1)) g.sorts.names.length),⟨hlt,rfl⟩,gw,gw,om⟩
def RsB (P:Dcl->Prop) (ds:List Dcl) (b:Nat):Prop:=∃ d∈ds,P d∧d.res.toNat=b
theorem ZzX {P:Dcl->Prop} {N:Nat}:ofB (RsB P []) N=0:=ZhB fun b _ h=>by
 obtain ⟨d,hd,_⟩:=h
 cases hd
theorem ZAv {P:Dcl->Prop} {N:Nat} {ds:List Dcl} {d:Dcl} (h:P d) (hu:d.res.toNat < N):ofB (RsB P (ds++[d])) N=ofB (RsB P ds) N ||| 2 ^ d.res.toNat:=by
 have h2:2 ^ d.res.toNat < 2 ^ N:=Nat.pow_lt_pow_right om hu;rw [<- ZhC h2,ZiD];refine ZbG fun b _=>?_;rw [Zro];constructor
 ·rintro ⟨x,hx,h1,h2⟩;rcases Tbg.1 hx with hx | hx
  ·exact .inl ⟨x,hx,h1,h2⟩
  ·rw [Tbi.1 hx] at h2;exact .inr h2
 ·rintro (⟨x,hx,h1,h2⟩ | h2)
  ·exact ⟨x,List.mem_append_left _ hx,h1,h2⟩
  ·exact ⟨d,List.mem_append_right _ (Tbi.2 rfl),h,h2⟩
theorem ZAT {P:Dcl->Prop} {N:Nat} {ds:List Dcl} {d:Dcl} (h:¬ P d):ofB (RsB P (ds++[d])) N=ofB (RsB P ds) N:=by
 refine ZbG fun b _=>?_;constructor
 ·rintro ⟨x,hx,h1,h2⟩;rcases Tbg.1 hx with hx | hx
  ·exact ⟨x,hx,h1,h2⟩
  ·rw [Tbi.1 hx] at h1;exact absurd h1 h
 ·rintro ⟨x,hx,h1,h2⟩;exact ⟨x,List.mem_append_left _ hx,h1,h2⟩
theorem ZzY (hg:SgnOk g) {o:Opr} (hD:∀ d∈o.decls,0<=d.res∧d.res < g.sorts.names.length) (sets:List Nat):ofB (ClB g (ofB (RsB (fun d=>FitN d sets d.args.length) o.decls) g.sorts.names.length) g.sorts.names.length) g.sorts.names.length=ofB (Zdf g o sets) g.sorts.names.length:=by
 refine ZbG fun b _=>?_;unfold ClB Zdf;constructor
 ·rintro ⟨k,h1,h2,h3⟩;obtain ⟨h4,d,hd,h5,h6⟩:=(ZcP _ _ _).1 h2;refine ⟨d,hd,FitN.full.1 h5,?_⟩;unfold upk;rw [h6];exact h3
 ·rintro ⟨d,hd,h1,h2⟩;have hr:=hD d hd;exact ⟨d.res.toNat,om,(ZcP _ _ _).2 ⟨om,d,hd,FitN.full.2 h1,rfl⟩,h2⟩
open Classical in
theorem ZhE (hg:SgnOk g) {o:Opr} (hm:o∈g.ops) (sets:List Nat) (hlen:∀ d∈o.decls,d.args.length=sets.length) (hsl:sets.length<=3) (hs:∀ s∈sets,s < 2 ^ g.sorts.names.length):Con e0 147 [.one (.sl (nR (up g.sorts))),.one (.sl (o.decls.map ZgU)),.one (.sl (nR sets))] [.one (.lit (.int .i64 ((ofB (Zdf g o sets) g.sorts.names.length:Nat):Int)))]:=by
 have hN:=hg.sorts.n8;have hD:=hg.decls o hm;have hdl:o.decls.length<=4:=hD.len4;obtain ⟨f,hf⟩:∃ f,o.decls[0]?=some f:=⟨_,Taa (by have:=hD.len1;omega)⟩;have hres:=fun d hd=>(hD.all f hf d hd).res;rw [<- ZzY hg hres sets];generalize hPd:(fun d=>FitN d sets d.args.length)=P;have z0:ofB (RsB P []) g.sorts.names.length=0:=ZzX;have cC:=ZpK hg (ZcJ (RsB P o.decls) g.sorts.names.length);refine gI (ts:=[.slot 6]) 549756880839 Tryz.func147 ?_
 refine fG @tmz ?_;have F:=@tmz;refine gL (ι:=Nat × Nat) [7,8,9,10,14,20,39] [] (fun x=>[(8,A.d (.one (.lit (.int .i64 x.1)))),(7,A.d (.one (.lit (.int .i64 x.2))))]) (fun x=>[]) (fun x=>x.1<=o.decls.length∧x.2=ofB (RsB P (o.decls.take x.1)) g.sorts.names.length) (fun x=>o.decls.length - x.1) ((0,0)) (⟨Taj _,z0.symm⟩) (fun x hx=>?_);clear F;obtain ⟨i,out⟩:=x;obtain ⟨hi,hout⟩:=hx;simp only at hi hout
 subst hout;dsimp only;by_cases hlt:i < o.decls.length;rotate_left
 ·obtain rfl:i=o.decls.length:=by omega
  have q1:=lF o.decls.length o.decls.length;rw [Tap];refine fN 12 (ai @q1 @tmz) ?_;refine gB ?_;refine fC @tmz (cC) ?_;refine fR @tmz ?_;exact fD @tmz
 obtain ⟨d,hdi⟩:∃ d,o.decls[i]?=some d:=⟨_,Taa hlt⟩;have hdm:=Tac hdi;have hdl2:=hlen d hdm;have hdo:=hD.all f hf d hdm;have q1:=lT i o.decls.length;have hw1:=Zap (k:=i) om;have hsnoc:o.decls.take (i+1)=o.decls.take i++[d]:=by simp [List.take_add_one,hdi]
 have rl:=Za8 (l:=sets);have rr:=Za0 (l:=sets);refine fG (ai @q1 @tmz) ?_;have F:=@tmz;refine gL (ι:=Nat × Bool) [9,10,20] [] (fun y=>[(10,A.d (.one (.lit (.int .i64 y.1)))),(9,A.d (.one (.lit (.bool y.2))))]) (fun y=>[]) (fun y=>y.1<=sets.length∧y.2=decide (FitN d sets y.1)) (fun y=>sets.length - y.1) ((0,true)) (⟨Taj _,(decide_eq_true FitN.zero).symm⟩) (fun y hy=>?_);clear F;obtain ⟨j,b1⟩:=y;obtain ⟨hj,hb1⟩:=hy
 simp only at hj hb1;dsimp only;by_cases hjl:j < sets.length
 ·obtain ⟨k,hk⟩:∃ k,d.args[j]?=some k:=⟨_,Taa om⟩;have hkr:=hdo.args k (Tac hk);obtain ⟨kn,rfl⟩:∃ kn:Nat,k=kn:=⟨k.toNat,om⟩;obtain ⟨s,hsj⟩:∃ s,sets[j]?=some s:=⟨_,Taa om⟩;have b62:=ZcF (hs s (Tac hsj)) hN;have q2:=lT j sets.length;have hwj:=Zap (k:=j) om;have r1:=Zbe hsj;have i1:(j < sets.length)=True:=eq_true om;have i3:(j < d.args.length)=True:=eq_true om;have hf1:=FitN.succ (n:=j) hk hsj;rw [show (kn:Int).toNat=kn from rfl] at hf1
  refine fN 9 (aj3 @q2 @rl @tmz) ?_;refine gM (ι:=Bool) [9] [] (fun b=>[(9,A.d (.one (.lit (.bool b))))]) (fun b=>[]) (fun b=>b=decide (FitN d sets (j+1))) ?_ (fun b hb=>Exists.intro _ (ai (Wk.refl _) ?_))
  ·cases b1 with
   | false =>
    have e:false=decide (FitN d sets (j+1)):=(decide_eq_false fun h=>by
     have:=hf1.1 h;rw [decide_eq_true this.1] at hb1
     cases hb1).symm
    have F:=@tmz;refine gG ?_;exact ⟨false,e,gw,gw⟩
   | true =>
    have hb1':=of_decide_eq_true hb1.symm;have e:tbit s kn=decide (FitN d sets (j+1)):=by
     cases ht:tbit s kn with
     | false=>exact (decide_eq_false fun h=>by
       have:=(hf1.1 h).2;rw [show s.testBit kn=false from ht] at this
       cases this).symm
     | true=>exact (decide_eq_true (hf1.2 ⟨hb1',ht⟩)).symm
    refine gB ?_;refine fC (aj11 @r1 @rl @rr @i1 @i3 @hdi @hk @ZaG @Zao @ZaS @tmz) (Zes (a:=s) (k:=kn) b62 om) ?_;refine fR @tmz ?_;have F:=@tmz;refine gG ?_;exact ⟨tbit s kn,e,gw,gw⟩
  have F:=ai @hwj @tmz;refine gG ?_;exact ⟨(j+1,b),⟨hjl,hb⟩,gw,gw,om⟩
 ·obtain rfl:j=sets.length:=by omega
  have q2:=lF sets.length sets.length;have hPi:P d ↔ FitN d sets sets.length:=by rw [<- hPd,<- hdl2]
  have hr0:=hdo.res.1;have hr1:=hdo.res.2;obtain ⟨rn,hrn⟩:∃ rn:Nat,d.res=rn:=⟨d.res.toNat,om⟩;have cB:=Zgi (k:=rn) om;rw [<- hrn] at cB;have ho2:=Zer (ZcF (ZcJ (RsB P (o.decls.take i)) g.sorts.names.length) hN) (ZcF (v:=2 ^ rn) (N:=g.sorts.names.length) (Nat.pow_lt_pow_right om om) hN)
  cases b1 with
  | true =>
   have hp:P d:=hPi.2 (of_decide_eq_true hb1.symm);have e:=ZAv (N:=g.sorts.names.length) (ds:=o.decls.take i) hp om;rw [<- hsnoc,show d.res.toNat=rn by omega] at e;rw [<- e] at ho2;refine fN 11 (aj3 @q2 @rl @tmz) ?_;refine gB ?_;refine fC (aj3 @hdi @ZaG @tmz) (cB) ?_;refine fR (ai @ho2 @tmz) ?_;have F:=ai @hw1 @tmz;refine gG ?_;exact ⟨(i+1,ofB (RsB P (o.decls.take (i+1))) g.sorts.names.length),⟨hlt,rfl⟩,gw,gw,om⟩
  | false =>
   have hp:¬ P d:=fun h=>by rw [decide_eq_true (hPi.1 h)] at hb1;cases hb1
   have e:=ZAT (N:=g.sorts.names.length) (ds:=o.decls.take i) hp;rw [<- hsnoc] at e;rw [<- e];have F:=aj4 @q2 @rl @hw1 @tmz;refine gG ?_;exact ⟨(i+1,ofB (RsB P (o.decls.take (i+1))) g.sorts.names.length),⟨hlt,rfl⟩,gw,gw,om⟩
theorem ZjM (hg:SgnOk g) {op:Int} {o:Opr} (h0:0<=op) (ho:g.ops[op.toNat]?=some o) (sets:List Nat) (hlen:∀ d∈o.decls,d.args.length=sets.length) (hsl:sets.length<=3) (hs:∀ s∈sets,s < 2 ^ g.sorts.names.length):Con e0 132 [.agg (Zag g),.one (.lit (.int .i64 op)),.one (.sl (nR sets))] [.one (.lit (.int .i64 ((ofB (Zdf g o sets) g.sorts.names.length:Nat):Int)))]:=by
 have cU:=ZfU hg.sorts.n8 hg.sorts.m16 (SortsOk.subsIn hg.sorts.subs);have cG:=ZhE hg (Tac ho) sets hlen hsl hs;rw [Za3] at cU;rw [Zag];refine gI (ts:=[.slot 6]) 79 Tryz.func132 ?_;refine fN 1 @tmz ?_;refine gB ?_;refine fC @tmz (cU) ?_;refine fC (aj4 @h0 @ho @Zae @tmz) (cG) ?_;refine fR @tmz ?_;exact fD @tmz
end
theorem ZxF {a b:Nat} (ha:a < 4611686018427387904) (hb:b < 4611686018427387904):bits .xor .i64 (a:Int) (b:Int)=((a ^^^ b:Nat):Int):=by
 have h:a ^^^ b < 2 ^ 62:=Nat.xor_lt_two_pow om om;have e:(BitVec.ofInt IntKind.i64.bits (a:Int) ^^^ BitVec.ofInt IntKind.i64.bits (b:Int)).toNat=a ^^^ b:=by
  rw [BitVec.toNat_xor];show (BitVec.ofInt 64 (a:Int)).toNat ^^^ (BitVec.ofInt 64 (b:Int)).toNat=_;rw [ZgW om,ZgW om]
 unfold bits;show IntKind.i64.wrap _=_;rw [e];exact wrap_i64 om om
noncomputable def bvN (g:Sgn) (R:Nat->Nat->Nat->Prop) (sets:List Nat) (m:Nat):Nat:=ofB (BagB R sets m) g.sorts.names.length
def BagT (g:Sgn) (R:Nat->Nat->Nat->Prop) (sets:List Nat) (M:Nat) (T:List Nat):Prop:=T.length=2 ^ sets.length∧∀ m,1<=m->m < 2 ^ sets.length->(m < M->T[m]?=some (bvN g R sets m))∧(M<=m->T[m]?=some 0)
section
variable {g:Sgn} {R:Nat->Nat->Nat->Prop} {sets:List Nat}
theorem BagT.start:BagT g R sets 1 (List.replicate (2 ^ sets.length) 0):=⟨by simp,fun m h1 h2=>⟨fun h=>om,fun _=>by rw [Tbq,if_pos h2]⟩⟩
theorem BagT.next {M:Nat} {T:List Nat} (h:BagT g R sets M T) (hM:M < 2 ^ sets.length):BagT g R sets (M+1) (T.set M (bvN g R sets M)):=by
 refine ⟨by rw [Tay,h.1],fun m h1 h2=>?_⟩;by_cases e:m=M
 ·subst e;exact ⟨fun _=>Tbm (by rw [h.1];exact h2),fun q=>om⟩
 ·rw [Tbn (Ne.symm e)];exact ⟨fun q=>(h.2 m h1 h2).1 om,fun q=>(h.2 m h1 h2).2 om⟩
theorem BagT.zero {M:Nat} {T:List Nat} (h:BagT g R sets M T) (h1:1<=M) (hM:M < 2 ^ sets.length):T.set M 0=T:=by
 have h2:=(h.2 M h1 hM).2 (Tai _);refine List.ext_getElem? fun q=>?_;by_cases e:q=M
 ·subst e;rw [Tbm (by rw [h.1];exact hM),h2]
 ·rw [Tbn (Ne.symm e)]
theorem ZzZ:∀ (q:Nat),(2 ^ q - 1) &&& 2 ^ q=0:=fun q=>by
 refine Nat.eq_of_testBit_eq fun i=>?_;rw [Nat.testBit_and,Nat.testBit_two_pow_sub_one,Nat.testBit_two_pow,Nat.zero_testBit];by_cases h:i < q
 ·simp [h];omega
 ·simp [h]
theorem Zz0 {m:Nat} (hm:m≠0) (h:(m - 1) &&& m=0):∃ q,m=2 ^ q:=by
 refine ⟨Nat.log2 m,?_⟩;have h1:=Nat.log2_self_le hm;have h2:m < 2 ^ (Nat.log2 m+1):=(Nat.log2_lt hm).1 (Tan _);refine Classical.byContradiction fun hne=>?_;have h3:(m - 1).testBit (Nat.log2 m)=true:=by
  have:=Tbs (x:=m - 1) (i:=Nat.log2 m)
  cases ht:(m - 1).testBit (Nat.log2 m) with
  | true=>rfl
  | false =>
   have h4:m - 1 < 2 ^ Nat.log2 m:=Nat.lt_pow_two_of_testBit _ fun i hi=>by
    rcases Nat.lt_or_eq_of_le hi with hi | hi
    ·exact Tbs (Tbc (by omega:m - 1 < 2 ^ (Nat.log2 m+1)) (Tbr om hi))
    ·rw [<- hi];exact ht
   omega
 have h5:m.testBit (Nat.log2 m)=true:=by
  cases ht:m.testBit (Nat.log2 m) with
  | true=>rfl
  | false =>
   have h4:m < 2 ^ Nat.log2 m:=Nat.lt_pow_two_of_testBit _ fun i hi=>by
    rcases Nat.lt_or_eq_of_le hi with hi | hi
    ·exact Tbs (Tbc h2 (Tbr om hi))
    ·rw [<- hi];exact ht
   omega
 have h6:=Nat.testBit_and (m - 1) m (Nat.log2 m);rw [h,h3,h5] at h6;simp at h6
end
section
variable {w:World} {S:Nat->Prop} {a:Option Addr} {n cap:Nat} {rows:List (List C)}
end
section
variable {e:Env} {σ:St} {mask:Nat} {Q:PX->St->Prop}
end
section
variable {g:Sgn} {mc:C}
noncomputable def cvN (g:Sgn) (o:Opr) (sets:List Nat) (i j:Nat):Nat:=ofB (ChB (Rel2 g o) sets i j) g.sorts.names.length
noncomputable def chL (g:Sgn) (o:Opr) (sets:List Nat) (r:Nat):List Nat:=(List.range sets.length).map fun k=>if k < r then 0 else cvN g o sets r (k+1)
theorem Zz1 {o:Opr} {sets:List Nat} {r:Nat}:(chL g o sets r).length=sets.length:=by simp [chL]
def FilB (g:Sgn) (o:Opr) (sets:List Nat) (p k:Nat) (L:List Nat):Prop:=L.length=sets.length∧∀ j,j < sets.length->L[j]?=some (if j < p then 0 else if j < k then cvN g o sets p (j+1) else 0)
theorem FilB.all {o:Opr} {sets:List Nat} {p:Nat} {L:List Nat} (h:FilB g o sets p sets.length L):L=chL g o sets p:=by
 refine List.ext_getElem? fun j=>?_;by_cases hj:j < sets.length
 ·rw [h.2 j hj];unfold chL;rw [Taz,List.getElem?_range hj,Option.map_some];by_cases h1:j < p
  ·rw [if_pos h1,if_pos h1]
  ·rw [if_neg h1,if_neg h1,if_pos hj]
 ·rw [List.getElem?_eq_none (by rw [h.1];omega),List.getElem?_eq_none (by rw [Zz1];omega)]
theorem FilB.next {o:Opr} {sets:List Nat} {p k:Nat} {L:List Nat} (h:FilB g o sets p k L) (hp:p<=k) (hk:k < sets.length):FilB g o sets p (k+1) (L.set k (cvN g o sets p (k+1))):=by
 refine ⟨by rw [Tay,h.1],fun j hj=>?_⟩;by_cases e:j=k
 ·subst e;rw [Tbm (by rw [h.1];exact hj),if_neg om,if_pos om]
 ·rw [Tbn (Ne.symm e),h.2 j hj];by_cases h1:j < p
  ·rw [if_pos h1,if_pos h1]
  ·rw [if_neg h1,if_neg h1];by_cases h2:j < k
   ·rw [if_pos h2,if_pos om]
   ·rw [if_neg h2,if_neg om]
theorem FilB.zero {o:Opr} {sets:List Nat} {p k:Nat} {L:List Nat} (h:FilB g o sets p k L) (hp:p<=k) (hk:k < sets.length):L.set k 0=L:=by
 have h1:=h.2 k hk;rw [if_neg om,if_neg om] at h1;refine List.ext_getElem? fun j=>?_;by_cases e:j=k
 ·subst e;rw [Tbm (by rw [h.1];exact hk),h1]
 ·rw [Tbn (Ne.symm e)]
theorem FilB.start {o:Opr} {sets:List Nat} {p s:Nat} (hs:sets[p]?=some s) (h:s < 2 ^ g.sorts.names.length):FilB g o sets p (p+1) ((List.replicate sets.length 0).set p s):=by
 have hp:=(Tad.1 hs).1;refine ⟨by simp,fun j hj=>?_⟩;by_cases e:j=p
 ·subst e;rw [Tbm (by simpa using hj),if_neg om,if_pos om];unfold cvN;rw [Zwe hs h]
 ·rw [Tbn (Ne.symm e),Tbq,if_pos hj];by_cases h1:j < p
  ·rw [if_pos h1]
  ·rw [if_neg h1,if_neg om]
end
theorem Zrr {n i j i' j':Nat} (hj:j < n) (hj':j' < n) (h:i * n+j=i' * n+j'):i=i'∧j=j':=by
 have h1:(i * n+j) / n=i:=by rw [Nat.mul_comm,Nat.mul_add_div om,Nat.div_eq_of_lt hj,Nat.add_zero]
 have h2:(i' * n+j') / n=i':=by rw [Nat.mul_comm,Nat.mul_add_div om,Nat.div_eq_of_lt hj',Nat.add_zero]
 rw [h] at h1;have e:i=i':=by rw [<- h1,h2]
 subst e;exact ⟨rfl,om⟩
theorem ZeK {n i j:Nat} (hi:i < n) (hj:j < n):i * n+j < n * n:=by
 have:(i+1) * n<=n * n:=Nat.mul_le_mul_right n hi;rw [Nat.succ_mul] at this;omega
section
variable {g:Sgn}
def TabB (g:Sgn) (o:Opr) (sets:List Nat) (P:Nat->Nat->Prop) (T:List Nat):Prop:=T.length=sets.length * sets.length∧∀ i j,i<=j->j < sets.length->(P i j->T[i * sets.length+j]?=some (cvN g o sets i (j+1)))∧(¬ P i j->T[i * sets.length+j]?=some 0)
theorem TabB.start {o:Opr} {sets:List Nat} {P:Nat->Nat->Prop} (h:∀ i j,i<=j->¬ P i j):TabB g o sets P (List.replicate (sets.length * sets.length) 0):=⟨by simp,fun i j h1 h2=>⟨fun hp=>absurd hp (h i j h1),fun _=>by
 rw [Tbq,if_pos (ZeK om h2)]⟩⟩
theorem TabB.next {o:Opr} {sets:List Nat} {P P':Nat->Nat->Prop} {T:List Nat} (h:TabB g o sets P T) {i j:Nat} (hij:i<=j) (hj:j < sets.length) (h1:∀ i' j',i'<=j'->j' < sets.length->(P' i' j' ↔ P i' j'∨(i'=i∧j'=j))):TabB g o sets P' (T.set (i * sets.length+j) (cvN g o sets i (j+1))):=by
 refine ⟨by rw [Tay,h.1],fun i' j' q1 q2=>?_⟩;have hl:=ZeK (n:=sets.length) (i:=i) (j:=j) om hj;by_cases e:i'=i∧j'=j
 ·obtain ⟨rfl,rfl⟩:=e;exact ⟨fun _=>Tbm (by rw [h.1];exact hl),fun hn=>absurd ((h1 _ _ q1 q2).2 (.inr ⟨rfl,rfl⟩)) hn⟩
 ·have hne:i * sets.length+j≠i' * sets.length+j':=fun q=>e (by have:=Zrr hj q2 q;exact ⟨this.1.symm,this.2.symm⟩);rw [Tbn hne];have h2:=h.2 i' j' q1 q2;exact ⟨fun hp=>h2.1 (((h1 _ _ q1 q2).1 hp).resolve_right e),fun hn=>h2.2 fun hp=>hn ((h1 _ _ q1 q2).2 (.inl hp))⟩
theorem TabB.mono {o:Opr} {sets:List Nat} {P P':Nat->Nat->Prop} {T:List Nat} (h:TabB g o sets P T) (h1:∀ i j,i<=j->j < sets.length->(P' i j ↔ P i j)):TabB g o sets P' T:=⟨h.1,fun i j q1 q2=>by
 have h2:=h.2 i j q1 q2;rw [h1 i j q1 q2];exact h2⟩
theorem TabB.zero {o:Opr} {sets:List Nat} {P:Nat->Nat->Prop} {T:List Nat} (h:TabB g o sets P T) {i j:Nat} (hij:i<=j) (hj:j < sets.length) (hn:¬ P i j):T.set (i * sets.length+j) 0=T:=by
 have h1:=(h.2 i j hij hj).2 hn;have hl:=ZeK (n:=sets.length) (i:=i) (j:=j) om hj;refine List.ext_getElem? fun q=>?_;by_cases e:q=i * sets.length+j
 ·subst e;rw [Tbm (by rw [h.1];exact hl),h1]
 ·rw [Tbn (Ne.symm e)]
def szP (size i0:Nat) (i j:Nat):Prop:=j+1 < i+size∨(j+1=i+size∧i < i0)
theorem wmul {i n:Nat} (hi:i<=10) (hn:n<=10):IntKind.i64.wrap ((i:Int) * (n:Int))=((i * n:Nat):Int):=by
 have:i * n<=10 * 10:=Nat.mul_le_mul hi hn;exact Za2 (by simp) om om
theorem wadd {i n:Nat} (hi:i<=1000) (hn:n<=1000):IntKind.i64.wrap ((i:Int)+(n:Int))=((i+n:Nat):Int):=Za2 (by simp) om om
theorem ZpL (hg:SgnOk g) {op:Int} {o:Opr} (h0:0<=op) (ho:g.ops[op.toNat]?=some o) (ha:o.assoc=true) (sets:List Nat) (hn1:1<=sets.length) (hn7:sets.length<=7) (hs:∀ s∈sets,s < 2 ^ g.sorts.names.length):Con e0 131 [.agg (Zag g),.one (.lit (.int .i64 op)),.one (.sl (nR sets))] [.one (.lit (.int .i64 ((cvN g o sets 0 sets.length:Nat):Int)))]:=by
 have hN:=hg.sorts.n8;have rl:=Za8 (l:=sets);have rr:=Za0 (l:=sets);have hnn:sets.length * sets.length<=7 * 7:=Nat.mul_le_mul hn7 hn7;have hmx:(((sets.length * sets.length:Nat):Int)<=(maxApp:Int))=True:=eq_true (by unfold maxApp;omega);have hdeg:=Opr.deg2 hg ho (.inl ha);have hcv:∀ i j,cvN g o sets i j < 2 ^ g.sorts.names.length:=fun i j=>ZcJ _ _;have hRlt:=fun a c b (h:Rel2 g o a c b)=>Rel2.lt hg (Tac ho) h
 have wnn:=wmul (i:=sets.length) (n:=sets.length) om om;have cU:=ZfU hg.sorts.n8 hg.sorts.m16 (SortsOk.subsIn hg.sorts.subs);have hT0:=TabB.start (g:=g) (o:=o) (sets:=sets) (P:=szP 1 0) fun i j h q=>by unfold szP at q;omega
 rw [Za3] at cU;rw [Zag];refine gI (ts:=[.slot 6]) 36028870066978767 Tryz.func131 ?_;refine fN 2 (ai @rl @tmz) ?_;refine gB ?_;refine fC @tmz (cU) ?_;refine fR @tmz ?_;refine fG (aj6 @rl @wnn @hmx @Tbv @nR_0 @tmz) ?_;generalize List.replicate (sets.length * sets.length) 0=T0 at hT0 ⊢;have F:=@tmz;refine gL (ι:=Nat × List Nat) [9,10,11,12,13,25,32,36,55] [9] (fun x=>[(10,A.d (.one (.lit (.int .i64 x.1)))),(9,.buf 9)]) (fun x=>[(9,.buf none 3 1 (nR x.2))]) (fun x=>1<=x.1∧x.1<=sets.length+1∧TabB g o sets (szP x.1 0) x.2) (fun x=>sets.length+1 - x.1) ((1,T0)) (⟨Tai _,om,hT0⟩) (fun x hx=>?_);clear F
 clear hT0 T0;obtain ⟨size,T⟩:=x;obtain ⟨hz1,hz2,hT⟩:=hx;simp only at hz1 hz2 hT;dsimp only;have nl:=Za8 (l:=T);rw [hT.1] at nl;have nr:=Za0 (l:=T);by_cases hzl:size<=sets.length;rotate_left
 ·obtain rfl:size=sets.length+1:=by omega
  have q1:(((sets.length+1:Nat):Int)<=(sets.length:Int))=False:=eq_false om;have hg1:=((hT.2 0 (sets.length - 1) om om).1 (.inl om));rw [show 0 * sets.length+(sets.length - 1)=sets.length - 1 by omega,show sets.length - 1+1=sets.length by omega] at hg1;have hg2:=Zbe hg1;have w1:IntKind.i64.wrap ((sets.length:Int) - 1)=((sets.length - 1:Nat):Int):=Za2 om om om;have hle:sets.length * 1<=sets.length * sets.length:=Nat.mul_le_mul_left _ hn1
  have i1:(sets.length - 1 < sets.length * sets.length)=True:=eq_true om;exact fD (aj8 @q1 @nl @nr @hg2 @w1 @i1 @ZaS @tmz)
 have q1:((size:Int)<=(sets.length:Int))=True:=eq_true om;have hws:=Zap (k:=size) om;clear nl nr;refine fG (ai @q1 @tmz) ?_;have F:=@tmz;refine gL (ι:=Nat × List Nat) [9,11,12,13,32,36,55] [9] (fun y=>[(11,A.d (.one (.lit (.int .i64 y.1)))),(9,.buf 9)]) (fun y=>[(9,.buf none 3 1 (nR y.2))]) (fun y=>y.1+size<=sets.length+1∧TabB g o sets (szP size y.1) y.2) (fun y=>sets.length+1 - y.1) ((0,T)) (⟨om,hT⟩) (fun y hy=>?_);clear F
 clear hT T;obtain ⟨i,T⟩:=y;obtain ⟨hi,hT⟩:=hy;simp only at hi hT;dsimp only;have nl:=Za8 (l:=T);rw [hT.1] at nl;have nr:=Za0 (l:=T);have wis:=wadd (i:=i) (n:=size) om om;by_cases hil:i+size<=sets.length;rotate_left
 ·have q2:(((i+size:Nat):Int)<=(sets.length:Int))=False:=eq_false om;have hT2:TabB g o sets (szP (size+1) 0) T:=hT.mono fun i' j' h1 h2=>by
   unfold szP;omega
  have F:=aj4 @q2 @wis @hws @tmz;refine gG ?_;exact ⟨(size+1,T),⟨om,om,hT2⟩,gw,gw,om⟩
 have q2:(((i+size:Nat):Int)<=(sets.length:Int))=True:=eq_true om;have hwi:=Zap (k:=i) om;have wii:=wmul (i:=i) (n:=sets.length) om om;have hlt:=ZeK (n:=sets.length) (i:=i) (j:=i+size - 1) om om;by_cases hs1:size=1
 ·subst hs1;have q3:(((1:Nat):Int)=1)=True:=eq_true rfl;obtain ⟨s,hsi⟩:∃ s,sets[i]?=some s:=⟨_,Taa om⟩;have r1:=Zbe hsi;have e:cvN g o sets i (i+1)=s:=by unfold cvN;exact Zwe hsi (hs s (Tac hsi))
  have hT2:TabB g o sets (szP 1 (i+1)) (T.set (i * sets.length+i) (cvN g o sets i (i+1))):=hT.next (Tai _) om fun i' j' h1 h2=>by
   unfold szP;omega
  rw [e] at hT2;have wa:=wadd (i:=i * sets.length) (n:=i) om om;have ns:=Zdi (l:=T) (i * sets.length+i) s;obtain ⟨z,hz⟩:∃ z,T[i * sets.length+i]?=some z:=⟨_,Taa (by rw [hT.1];exact ZeK om om)⟩;have ng:=Zbe hz;have i1:(i < sets.length)=True:=eq_true om;have i2:(i * sets.length+i < sets.length * sets.length)=True:=eq_true (ZeK om om);have F:=aj15 @q2 @wis @q3 @wii @wa @r1 @rl @rr @nl @nr @ns @ng @i1 @i2 (aj3 @hwi @ZaS @tmz);refine gG ?_;exact ⟨(i+1,T.set (i * sets.length+i) s),⟨om,hT2⟩,gw,gw,om⟩
 have q3:((size:Int)=1)=False:=eq_false om;obtain ⟨j,hj⟩:∃ j,j+1=i+size:=⟨i+size - 1,om⟩;have wj:IntKind.i64.wrap (((i+size:Nat):Int) - 1)=(j:Int):=Za2 om om om;have hij:i < j:=om;have hjn:j < sets.length:=om;have hij2:i<=j:=om;have hlt:=ZeK (n:=sets.length) (i:=i) (j:=j) om hjn;have waj:=wadd (i:=i * sets.length) (n:=j) om om;have hz0:=hT.zero hij2 hjn (by unfold szP;omega);have hzz:nR (T.set (i * sets.length+j) 0)=nR T:=by rw [hz0]
 have hnx:TabB g o sets (szP size (i+1)) (T.set (i * sets.length+j) (cvN g o sets i (j+1))):=hT.next hij2 hjn fun i' j' h1 h2=>by
  unfold szP;omega
 refine fN 13 (aj5 @q2 @wis @q3 @wj @tmz) ?_;refine fG @tmz ?_;have F:=ai @hzz @tmz;refine gL (ι:=Nat × Nat) [9,13,55] [9] (fun z=>[(13,A.d (.one (.lit (.int .i64 z.1)))),(9,.buf 9)]) (fun z=>[(9,.buf none 3 1 (nR (T.set (i * sets.length+j) z.2)))]) (fun z=>i<=z.1∧z.1<=j∧z.2=ofB (CutB (Rel2 g o) sets g.sorts.names.length i (j+1) (z.1+1)) g.sorts.names.length) (fun z=>j - z.1) ((i,0)) (⟨Tai _,om,Zwd.symm⟩) (fun z hz=>?_);clear F
 obtain ⟨k,v⟩:=z;obtain ⟨hk1,hk2,hv⟩:=hz;simp only at hk1 hk2 hv;subst hv;dsimp only;by_cases hkj:k < j;rotate_left
 ·obtain rfl:k=j:=by omega
  have q4:=lF k k;have e:ofB (CutB (Rel2 g o) sets g.sorts.names.length i (k+1) (k+1)) g.sorts.names.length=cvN g o sets i (k+1):=ZzS hs hRlt om;rw [e];have F:=aj3 @q4 @hwi @tmz;refine gG ?_;exact ⟨(i+1,T.set (i * sets.length+k) (cvN g o sets i (k+1))),⟨om,hnx⟩,gw,gw,om⟩
 have q4:=lT k j;have hwk:=Zap (k:=k) om;have hTk:=(hT.2 i k hk1 om).1 (by unfold szP;omega);have hTj:=(hT.2 (k+1) j om hjn).1 (by unfold szP;omega);have hltk:=ZeK (n:=sets.length) (i:=i) (j:=k) om om;have hltj:=ZeK (n:=sets.length) (i:=k+1) (j:=j) om hjn;have wak:=wadd (i:=i * sets.length) (n:=k) om om;have wm2:=wmul (i:=k+1) (n:=sets.length) om om;have wa2:=wadd (i:=(k+1) * sets.length) (n:=j) om om
 have e:=fun b=>ZxE (R:=Rel2 g o) (sets:=sets) (N:=g.sorts.names.length) (i:=i) (j:=j+1) (k:=k+1) (b:=b) om om;have e:ofB (CutB (Rel2 g o) sets g.sorts.names.length i (j+1) (k+1)) g.sorts.names.length ||| ofB (fun b=>Two (Rel2 g o) (cvN g o sets i (k+1)) (cvN g o sets (k+1) (j+1)) b) g.sorts.names.length=ofB (CutB (Rel2 g o) sets g.sorts.names.length i (j+1) (k+1+1)) g.sorts.names.length:=by
  rw [ZiD];exact ZbG fun b _=>(e b).symm
 have cR:=ZhE hg (Tac ho) [cvN g o sets i (k+1),cvN g o sets (k+1) (j+1)] (fun d hd=>hdeg d hd) (by simp) (fun s hs=>by
  simp only [Tbf,List.not_mem_nil,or_false] at hs;rcases hs with rfl | rfl <;> exact hcv _ _)
 rw [show ofB (Zdf g o [cvN g o sets i (k+1),cvN g o sets (k+1) (j+1)]) g.sorts.names.length=ofB (fun b=>Two (Rel2 g o) (cvN g o sets i (k+1)) (cvN g o sets (k+1) (j+1)) b) g.sorts.names.length from ZbG fun b _=>ZoK hdeg] at cR;have cR:=ZiF cR;have hor:=Zer (ZcF (ZcJ (CutB (Rel2 g o) sets g.sorts.names.length i (j+1) (k+1)) g.sorts.names.length) hN) (ZcF (ZcJ (fun b=>Two (Rel2 g o) (cvN g o sets i (k+1)) (cvN g o sets (k+1) (j+1)) b) g.sorts.names.length) hN)
 rw [e] at hor;clear e;generalize ofB (fun b=>Two (Rel2 g o) (cvN g o sets i (k+1)) (cvN g o sets (k+1) (j+1)) b) g.sorts.names.length=tw at cR hor;generalize ofB (CutB (Rel2 g o) sets g.sorts.names.length i (j+1) (k+1)) g.sorts.names.length=v at hor ⊢;have nl2:=Za8 (l:=T.set (i * sets.length+j) v);rw [Tay,hT.1] at nl2;have nr2:=Za0 (l:=T.set (i * sets.length+j) v);have ne1:i * sets.length+j≠i * sets.length+k:=om
 have ne2:i * sets.length+j≠(k+1) * sets.length+j:=fun q=>by have:=Zrr hjn hjn q;omega
 have g1:(nR (T.set (i * sets.length+j) v))[i * sets.length+j]?=some [.lit (.int .i64 v)]:=Zbe (Tbm (by rw [hT.1];exact hlt));have g2:(nR (T.set (i * sets.length+j) v))[i * sets.length+k]?=some [.lit (.int .i64 (cvN g o sets i (k+1)))]:=Zbe (by rw [Tbn ne1];exact hTk);have g3:(nR (T.set (i * sets.length+j) v))[(k+1) * sets.length+j]?=some [.lit (.int .i64 (cvN g o sets (k+1) (j+1)))]:=Zbe (by rw [Tbn ne2];exact hTj)
 have ns:=fun x=>Zdi (l:=T.set (i * sets.length+j) v) (i * sets.length+j) x;simp only [List.set_set] at ns;have i1:(i * sets.length+j < sets.length * sets.length)=True:=eq_true hlt;have i2:(i * sets.length+k < sets.length * sets.length)=True:=eq_true hltk;have i3:((k+1) * sets.length+j < sets.length * sets.length)=True:=eq_true hltj;clear nl nr;refine fN 16 (ai @q4 @tmz) ?_;refine gB ?_;refine fC (aj16 @wii @waj @wak @hwk @wm2 @wa2 @nl2 @nr2 @g1 @g2 @g3 @i1 @i2 @i3 @h0 (aj4 @ho @Zae @ZaS @tmz)) (cR) ?_
 refine fR (aj8 @nl2 @nr2 @g1 @hor @ns @i1 @ZaS @tmz) ?_;have F:=ai @hwk @tmz;refine gG ?_;exact ⟨(k+1,ofB (CutB (Rel2 g o) sets g.sorts.names.length i (j+1) (k+1+1)) g.sorts.names.length),⟨om,hkj,rfl⟩,gw,gw,om⟩
end
def ZhF (l:List Bd):Prop:=∀ b∈l,okBd b
def ZaA (l:List Bd):List (List C):=l.map ZbQ
theorem Zfy (l:List Bd):(ZaA l).length=l.length:=by simp [ZaA]
theorem Zfz (l:List Bd) (i:Nat):(ZaA l)[i]?=l[i]?.map ZbQ:=by simp [ZaA]
theorem bd_l:∀ (b:Bd),(ZbQ b).length=8:=fun b=>by simp [ZbQ,tmz]
theorem Zzi:∀ (b:Bd),(ZbQ b).take 8=ZbQ b:=fun b=>List.take_of_length_le (by rw [bd_l];omega)
theorem Zzj:∀ (b:Bd),(ZbQ b).drop 8=[]:=fun b=>List.drop_eq_nil_of_le (by rw [bd_l];omega)
theorem Zzk:∀ (b:Bd),(ZbQ b).take 4=Zab b.var:=fun ⟨v,t⟩=>by cases v;simp [ZbQ,Zab]
theorem Zzl:∀ (b:Bd),(ZbQ b).drop 4=Zab b.to:=fun ⟨v,t⟩=>by cases v;simp [ZbQ,Zab]
theorem Zzm:∀ (b:Bd),(ZbQ b).drop 2=.lit (.int .i64 b.var.sort)::.sl (Zaa b.var.args)::Zab b.to:=fun ⟨v,t⟩=>by cases v;simp [ZbQ,Zab,Tm.sort,Tm.args]
theorem bd_o:∀ (b:Bd),valT TK.one (ZbQ b)=some (A.d (D.one (C.lit (Value.int IntKind.i64 b.var.op)))):=fun ⟨v,t⟩=>by cases v;simp [ZbQ,Zab,Tm.op,valT]
theorem bd_k:∀ (b:Bd),(ZbQ b).all Zay=true:=fun b=>by simp [ZbQ,List.all_append,tmz]
theorem bdz:type_of% (aj8 bd_l Zzi Zzj Zzk Zzl Zzm bd_o bd_k):=aj8 bd_l Zzi Zzj Zzk Zzl Zzm bd_o bd_k
theorem bds8 (l:List Bd):ZaL 8 (ZaA l)=true:=by
 refine List.all_eq_true.2 fun r hr=>?_;obtain ⟨y,hy,rfl⟩:=Tbh.1 hr;simp [ZbQ,List.all_append,tmz]
section
variable {e:Env} {mask:Nat} {Q:PX->St->Prop} {ds:List (Option Nat)} {X:Type}
def tabX (ok:Nat->X->Prop) (T:X->Tab) (j:Nat) (σ:St):Prop:=∃ x,ok j x∧tabP (T x) j σ
abbrev DidX (L:List Oper) (cons:Nat->Option Nat) (ok:Nat->X->Prop) (T:X->Tab) (i:Nat) (sb:List (Nat × A)) (mb:List (Nat × Bk)) (s:List (Nat × A)) (m:List (Nat × Bk)) (σ':St):Prop:=Lks sb mb σ'∧tabX ok T i σ'∧∀ j,j≠i->i ∉ ancN L 6 j->cons j≠some i->(∀ k,cons j=some k->k ∉ ancN L 6 i)->tabX ok T j ⟨s,m⟩->tabX ok T j σ'
section
variable {L:List Oper} {cons:Nat->Option Nat} {ok:Nat->X->Prop} {T:X->Tab} {i:Nat} {sb:List (Nat × A)} {mb:List (Nat × Bk)} {s s2:List (Nat × A)} {m m2:List (Nat × Bk)} {d k:Nat} {α:A} {bk:Bk}
theorem ZhG {f:List (Nat × A)->List (Nat × Bk)->Bool} {σ σ':St} (h:∀ x,Zgp L cons (T x) i f=true) (hf:∀ sb mb,f sb mb=true->Lks sb mb σ->Lks sb mb σ'):∀ j,j≠i->i ∉ ancN L 6 j->cons j≠some i->(∀ k,cons j=some k->k ∉ ancN L 6 i)->tabX ok T j σ->tabX ok T j σ':=fun j h1 h2 h3 h4 ⟨x,hx,hp⟩=>⟨x,hx,ZlO (h x) hf j h1 h2 h3 h4 hp⟩
theorem xS (hB:Lks sb mb ⟨s,m⟩) (hp:tabX ok T i ⟨(d,α)::s,m⟩) (h1:Znr d sb mb=true:=by rfl) (h2:∀ x,Zgp L cons (T x) i (Znr d)=true:=by intro x;rfl):DidX L cons ok T i sb mb s m ⟨(d,α)::s,m⟩:=⟨hB.slot h1,hp,ZhG h2 fun _ _ h hl=>hl.slot h⟩
theorem xM (hB:Lks sb mb ⟨s,m⟩) (hp:tabX ok T i ⟨s,(d,bk)::remM d m⟩) (h1:Zns d sb mb=true:=by rfl) (h2:∀ x,Zgp L cons (T x) i (Zns d)=true:=by intro x;rfl):DidX L cons ok T i sb mb s m ⟨s,(d,bk)::remM d m⟩:=⟨hB.own h1,hp,ZhG h2 fun _ _ h hl=>hl.own h⟩
theorem Lks.bornC {κ:Nat} (h:Lks sb mb ⟨s,m⟩) (hf:(sb.all (fun p=>p.1 != d && !keyB κ p.2) && mb.all (fun p=>p.1 != κ))=true):Lks sb mb ⟨(d,α)::Zan κ s,(κ,bk)::remM κ m⟩:=by
 simp only [Tar,List.all_eq_true,bne_iff_ne,ne_eq,Bool.not_eq_true'] at hf;refine Lks.slot (Lks.own (Lks.kill h ?_) ?_) ?_
 ·simp only [List.all_eq_true,Bool.not_eq_true'];exact fun p hp=>(hf.1 p hp).2
 ·simp only [List.all_eq_true,bne_iff_ne,ne_eq];exact hf.2
 ·simp only [List.all_eq_true,bne_iff_ne,ne_eq];exact fun p hp=>(hf.1 p hp).1
def Zgw (d κ:Nat) (sb:List (Nat × A)) (mb:List (Nat × Bk)):Bool:=sb.all (fun p=>p.1 != d && !keyB κ p.2) && mb.all (fun p=>p.1 != κ)
end
theorem gGp {id:Nat} {l:List Oper} {s:List (Nat × A)} {m:List (Nat × Bk)} (sb:List (Nat × A)) (mb:List (Nat × Bk)) (P:Nat->St->Prop) (cons:Nat->Option Nat) (ini:List Nat) (hB:Lks sb mb ⟨s,m⟩) (hI:∀ j∈ini,P j ⟨s,m⟩) (hS:ZeH e (l.map (·.dst)) l cons ini (Lks sb mb) P 0 l) (hK:∀ s' m',Lks sb mb ⟨s',m'⟩->(∀ i,i < l.length∨i∈ini->(∀ k,cons i=some k->l.length<=k)->P i ⟨s',m'⟩)->∃ sf mf,Lks sf mf ⟨s',m'⟩∧Q .normal ⟨sf,mf⟩)
  (hb:Zi4 l=true:=by decide +kernel) (hini:ini.all (fun j=>decide (l.length<=j))=true:=by decide +kernel) (hT:regT l.toArray 0=true:=by decide +kernel):pwp e mask (.region id l.toArray true) ⟨s,m⟩ Q:=fun he U w0 S0 nt a w hok hs=>by
 refine Zhk he hT (K:=fun σ'=>∃ sf mf,Lks sf mf σ'∧Q .normal ⟨sf,mf⟩) (fun a w σ' ⟨sf,mf,h1,h2⟩ h3=>⟨⟨sf,mf⟩,h2,h3.weak (fun t=>ZkN t h1.1) (fun t bk=>ZkO t bk h1.2)⟩) (ZiZ hok) hs ?_;simp only [List.take_zero,Runs]
 have:=ZjH (K:=fun σ'=>∃ sf mf,Lks sf mf σ'∧Q .normal ⟨sf,mf⟩) hb hini hS hK l.length (Zbb l.length 0) ⟨s,m⟩ (by simp [Zbb]) (by
  rw [List.countP_eq_length.2]
  ·simp
  ·intro i hi;have hi':=List.mem_range.1 hi;simp [Zbb,hi']) hB (fun j hj=>by
   have h0:(Zbb l.length 0).getD j false=false:=by
    by_cases hjl:j < l.length
    ·simp [Zbb,hjl]
    ·simp [Zbb,hjl]
   rw [h0] at hj
   cases hj) (fun j hj=>.inl (hI j hj))
 simpa using this
theorem gGx {id:Nat} {l:List Oper} {s:List (Nat × A)} {m:List (Nat × Bk)} (sb:List (Nat × A)) (mb:List (Nat × Bk)) (ok:Nat->X->Prop) (T:X->Tab) (cons:Nat->Option Nat) (ini:List Nat) (hB:Lks sb mb ⟨s,m⟩) (hI:∀ j∈ini,tabX ok T j ⟨s,m⟩) (hS:ZeH e (l.map (·.dst)) l cons ini (Lks sb mb) (tabX ok T) 0 l) (hK:∀ s' m',Lks sb mb ⟨s',m'⟩->(∀ i,i < l.length∨i∈ini->(∀ k,cons i=some k->l.length<=k)->tabX ok T i ⟨s',m'⟩)->∃ sf mf,Lks sf mf ⟨s',m'⟩∧Q .normal ⟨sf,mf⟩)
  (hb:Zi4 l=true:=by decide +kernel) (hini:ini.all (fun j=>decide (l.length<=j))=true:=by decide +kernel) (hT:regT l.toArray 0=true:=by decide +kernel):pwp e mask (.region id l.toArray true) ⟨s,m⟩ Q:=gGp sb mb (tabX ok T) cons ini hB hI hS hK hb hini hT
theorem Zbf {ok:Nat->X->Prop} {T:X->Tab} {i:Nat} {s:List (Nat × A)} {m:List (Nat × Bk)}:tabX ok T i ⟨s,m⟩ ↔ ∃ x,ok i x∧lkS ((T x).getD i ([],[])).1 s∧lkM ((T x).getD i ([],[])).2 m:=exists_congr fun x=>and_congr_right fun _=>ZaK
end
def ZbB:List Bd->Tm->Option Tm
 | [],_=>none
 | b::l,v=>if Zah b.var v=0 then some b.to else ZbB l v
mutual
noncomputable def apT (g:Sgn) (l:List Bd):Tm->Option Tm
 | .mk op nm so args=>if op=-1 then some ((ZbB l (.mk op nm so args)).getD (.mk op nm so args)) else (apTs g l args).bind (mkT g op)
noncomputable def apTs (g:Sgn) (l:List Bd):List Tm->Option (List Tm)
 | []=>some []
 | t::ts=>(apT g l t).bind fun u=>(apTs g l ts).map (u::·)
end
theorem Zjb {g:Sgn} {l:List Bd} {t:Tm} (h:t.op=-1):apT g l t=some ((ZbB l t).getD t):=by
 obtain ⟨op,nm,so,args⟩:=t;simp only [Tm.op] at h;simp only [apT,if_pos h]
theorem Zg4 {g:Sgn} {l:List Bd} {t:Tm} (h:t.op≠-1):apT g l t=(apTs g l t.args).bind (mkT g t.op):=by
 obtain ⟨op,nm,so,args⟩:=t;simp only [Tm.op] at h;simp only [apT,if_neg h,Tm.op,Tm.args]
theorem ZmG {g:Sgn} {l:List Bd} {t:Tm}:∀ (ts:List Tm),apTs g l (ts++[t])=(apTs g l ts).bind fun us=>(apT g l t).map fun u=>us++[u]
 | []=>by
  simp only [Tah,apTs,Option.bind_some]
  cases apT g l t <;> rfl
 | x::ts=>by
  simp only [Taf,apTs,ZmG ts]
  cases apT g l x with
  | none=>rfl
  | some u =>
   simp only [Option.bind_some]
   cases apTs g l ts with
   | none=>rfl
   | some us =>
    simp only [Option.bind_some,Option.map_some]
    cases apT g l t <;> rfl
theorem ZoO {g:Sgn} {l:List Bd}:∀ {ts us:List Tm},apTs g l ts=some us->us.length=ts.length
 | [],us,h=>by simp only [apTs,Taq] at h;subst h;rfl
 | t::ts,us,h=>by
  simp only [apTs] at h
  cases h1:apT g l t with
  | none=>rw [h1] at h;cases h
  | some u =>
   rw [h1] at h
   cases h2:apTs g l ts with
   | none=>rw [h2] at h;cases h
   | some vs =>
    rw [h2] at h;simp only [Option.bind_some,Option.map_some,Taq] at h;subst h;simp only [Tag,ZoO h2]
theorem ZmH {g:Sgn} {l:List Bd} {t:Tm}:∀ {ts:List Tm},t∈ts->apT g l t=none->apTs g l ts=none
 | x::ts,hm,h=>by
  simp only [apTs];rcases Tbf.1 hm with rfl | hm
  ·rw [h];rfl
  ·rw [ZmH hm h]
   cases apT g l x <;> rfl
theorem ZhH {g:Sgn} {l:List Bd}:∀ {ts us:List Tm},apTs g l ts=some us->∀ u∈us,∃ t∈ts,apT g l t=some u
 | [],us,h,u,hu=>by simp only [apTs,Taq] at h;subst h;cases hu
 | t::ts,us,h,u,hu=>by
  simp only [apTs] at h
  cases h1:apT g l t with
  | none=>rw [h1] at h;cases h
  | some v =>
   rw [h1] at h
   cases h2:apTs g l ts with
   | none=>rw [h2] at h;cases h
   | some vs =>
    rw [h2] at h;simp only [Option.bind_some,Option.map_some,Taq] at h;subst h;rcases Tbf.1 hu with rfl | hu
    ·exact ⟨t,Tas,h1⟩
    ·obtain ⟨x,hx,hxe⟩:=ZhH h2 u hu;exact ⟨x,Tal _ hx,hxe⟩
structure SbsAt (g:Sgn) (l:List Bd) (i:Nat) (y:Bd):Prop where
 var:Zcu g y.var
 ord:∀ (j:Nat) p,i=j+1->l[j]?=some p->Zah p.var y.var < 0
 to':TermOk g y.to
 srt:(sortsTm g y.to).testBit y.var.sort.toNat=true
structure SbsOk (g:Sgn) (l:List Bd):Prop where
 len:l.length<=8
 at':∀ (i:Nat) y,l[i]?=some y->SbsAt g l i y
open Classical in
noncomputable def Zd2 (g:Sgn) (l:List Bd):Bool:=decide (SbsOk g l)
theorem Zss {g:Sgn} {l:List Bd} (h:SbsOk g l):Zd2 g l=true:=by simp [Zd2,h]
theorem ZjO {g:Sgn} {l:List Bd} (h:¬ SbsOk g l):Zd2 g l=false:=by simp [Zd2,h]
theorem Zjc {g:Sgn} {v u:Tm}:∀ {l:List Bd},(∀ y∈l,TermOk g y.to)->ZbB l v=some u->TermOk g u
 | b::l,h,hu=>by
  simp only [ZbB] at hu;split at hu
  ·injection hu with hu;subst hu;exact h b Tas
  ·exact Zjc (fun y hy=>h y (Tal _ hy)) hu
theorem SbsOk.to' {g:Sgn} {l:List Bd} (h:SbsOk g l):∀ y∈l,TermOk g y.to:=fun y hy=>by
 obtain ⟨i,hi⟩:=Tbj hy;exact (h.at' i y hi).to'
theorem SbsOk.var {g:Sgn} {l:List Bd} (h:SbsOk g l):∀ y∈l,Zcu g y.var:=fun y hy=>by
 obtain ⟨i,hi⟩:=Tbj hy;exact (h.at' i y hi).var
theorem ZiG {g:Sgn} (hg:SgnOk g) {l:List Bd} (hl:∀ y∈l,TermOk g y.to):∀ (n:Nat) (t:Tm),sizeTm t < n->TermOk g t->∀ {u:Tm},apT g l t=some u->TermOk g u
 | 0,t,hn,_,_,_=>om
 | n+1,t,hn,ht,u,h=>by
  by_cases ho:t.op=-1
  ·rw [Zjb ho] at h;simp only [Taq] at h;subst h
   cases hk:ZbB l t with
   | none=>exact ht
   | some v=>exact Zjc hl hk
  ·rw [Zg4 ho] at h
   cases h2:apTs g l t.args with
   | none=>rw [h2] at h;cases h
   | some us =>
    rw [h2] at h;simp only [Option.bind_some] at h;have h0:0<=t.op:=by
     rcases ht.form.node with hv | ⟨o,d,hA⟩
     ·exact absurd hv.1 ho
     ·exact hA.lo
    refine ZvM hg h0 (fun a ha=>?_) h;obtain ⟨x,hx,hxe⟩:=ZhH h2 a ha;have:=ZaX hx;rw [ZaO] at hn;exact ZiG hg hl n x om (ht.arg hx) hxe
section
variable {g:Sgn} {mc:C}
end
def decN (n:Nat):List UInt8:=if n < 10 then [UInt8.ofNat (48+n)] else [UInt8.ofNat (48+n / 10),UInt8.ofNat (48+n % 10)]
def decB (i:Int):List UInt8:=if i < 0 then 45::decN (-i).toNat else decN i.toNat
mutual
def ZhI:Tm->List UInt8
 | .mk op nm so args=>decB op++((if op < 0 then 58::(nm.toList++58::decB so) else [])++40::(Zea args++[41]))
def Zea:List Tm->List UInt8
 | []=>[]
 | t::ts=>ZhI t++Zea ts
end
theorem ZeS {P:UInt8->Prop}:∀ {l m:List UInt8} {c d:UInt8} {x y:List UInt8},(∀ b∈l,P b)->(∀ b∈m,P b)->¬ P c->¬ P d->l++c::x=m++d::y->l=m∧c=d∧x=y
 | [],[],c,d,x,y,_,_,_,_,h=>by simpa using h
 | [],b::m,c,d,x,y,_,hm,hc,_,h=>by
  simp only [Tah,Taf,List.cons.injEq] at h;exact absurd (hm b Tas) (h.1 ▸ hc)
 | a::l,[],c,d,x,y,hl,_,_,hd,h=>by
  simp only [Tah,Taf,List.cons.injEq] at h;exact absurd (hl a Tas) (h.1 ▸ hd)
 | a::l,b::m,c,d,x,y,hl,hm,hc,hd,h=>by
  simp only [Taf,List.cons.injEq] at h;obtain ⟨h1,h2⟩:=ZeS (fun b hb=>hl b (Tal _ hb)) (fun b hb=>hm b (Tal _ hb)) hc hd h.2;exact ⟨by rw [h.1,h1],h2⟩
def NumB (b:UInt8):Prop:=b=45∨(48<=b.toNat∧b.toNat<=57)
instance (b:UInt8):Decidable (NumB b):=by unfold NumB;infer_instance
theorem Zz3:∀ i:Fin 15,∀ b∈decB ((i.val:Int) - 1),NumB b:=by decide
theorem Zz4:∀ i j:Fin 15,decB ((i.val:Int) - 1)=decB ((j.val:Int) - 1)->i=j:=by decide
theorem Zjd {i:Int} (h0:-1<=i) (h1:i < 14):∀ b∈decB i,NumB b:=by
 have:=Zz3 ⟨(i+1).toNat,om⟩
 rwa [show (((i+1).toNat:Nat):Int) - 1=i by omega] at this
theorem ZlS {i j:Int} (h0:-1<=i) (h1:i < 14) (h2:-1<=j) (h3:j < 14) (h:decB i=decB j):i=j:=by
 have:=Zz4 ⟨(i+1).toNat,om⟩ ⟨(j+1).toNat,om⟩ (by
  simp only;rw [show (((i+1).toNat:Nat):Int) - 1=i by omega,show (((j+1).toNat:Nat):Int) - 1=j by omega];exact h)
 have:=congrArg Fin.val this;simp only at this;omega
theorem ZoP:∀ i:Fin 15,(decB ((i.val:Int) - 1)).head?≠some 41∧decB ((i.val:Int) - 1)≠[]:=by decide
def NamB (s:ByteArray):Prop:=∀ b∈s.toList,Zcj (b.toNat:Int)=true
mutual
def ZhJ:Tm->Prop
 | .mk op nm so args=>-1<=op∧op < 14∧(op=-1->NamB nm∧0<=so∧so < 8)∧(op≠-1->nm=ByteArray.empty∧so=0)∧Zff args
def Zff:List Tm->Prop
 | []=>True
 | t::ts=>ZhJ t∧Zff ts
end
theorem toList_inj {a b:ByteArray} (h:a.toList=b.toList):a=b:=by
 rw [ByteArray.toList_eq,ByteArray.toList_eq] at h;obtain ⟨x⟩:=a;obtain ⟨y⟩:=b;simp only at h;rw [Array.toList_inj.1 h]
theorem Zet:¬ NumB 40:=by decide
theorem Zgx:¬ NumB 58:=by decide
mutual
theorem Zrs:∀ (a b:Tm) (x y:List UInt8),ZhJ a->ZhJ b->ZhI a++x=ZhI b++y->a=b∧x=y
 | .mk op nm so args,.mk op' nm' so' args',x,y,ha,hb,h=>by
  simp only [ZhJ] at ha hb;obtain ⟨a1,a2,a3,a4,a5⟩:=ha;obtain ⟨b1,b2,b3,b4,b5⟩:=hb;simp only [ZhI,Tbe,Taf] at h;have n1:=Zjd a1 a2;have n2:=Zjd b1 b2;have hfst:op=op'∧nm=nm'∧so=so'∧Zea args++([41]++x)=Zea args'++([41]++y):=by
   by_cases h1:op < 0
   ·rw [if_pos h1] at h;by_cases h2:op' < 0
    ·rw [if_pos h2] at h;simp only [Taf,Tbe] at h;obtain ⟨e1,_,e2⟩:=ZeS n1 n2 Zgx Zgx h;have e1:=ZlS a1 a2 b1 b2 e1;have o1:op=-1:=om;have o2:op'=-1:=om;obtain ⟨p1,p2,p3⟩:=a3 o1;obtain ⟨q1,q2,q3⟩:=b3 o2;obtain ⟨f1,_,f2⟩:=ZeS (P:=fun b=>Zcj (b.toNat:Int)=true) p1 q1 (by decide) (by decide) e2;obtain ⟨g1,_,g2⟩:=ZeS (Zjd om om) (Zjd om om) Zet Zet f2;exact ⟨e1,toList_inj f1,ZlS om om om om g1,g2⟩
    ·rw [if_neg h2] at h;simp only [Taf,Tah] at h;obtain ⟨_,e,_⟩:=ZeS n1 n2 Zgx Zet h;exact absurd e (by decide)
   ·rw [if_neg h1] at h;by_cases h2:op' < 0
    ·rw [if_pos h2] at h;simp only [Taf,Tah] at h;obtain ⟨_,e,_⟩:=ZeS n1 n2 Zet Zgx h;exact absurd e (by decide)
    ·rw [if_neg h2] at h;simp only [Tah] at h;obtain ⟨e1,_,e2⟩:=ZeS n1 n2 Zet Zet h;have e1:=ZlS a1 a2 b1 b2 e1;obtain ⟨p1,p2⟩:=a4 om;obtain ⟨q1,q2⟩:=b4 om;exact ⟨e1,by rw [p1,q1],by rw [p2,q2],e2⟩
  obtain ⟨rfl,rfl,rfl,he⟩:=hfst;obtain ⟨i1,i2⟩:=ZoQ args args' x y a5 b5 he;exact ⟨by rw [i1],i2⟩
theorem ZoQ:∀ (xs bs:List Tm) (x y:List UInt8),Zff xs->Zff bs->Zea xs++([41]++x)=Zea bs++([41]++y)->xs=bs∧x=y
 | [],[],x,y,_,_,h=>by simpa [Zea] using h
 | [],.mk op nm so args::bs,x,y,_,hb,h=>by
  exfalso;simp only [Zff,ZhJ] at hb;have:=ZoP ⟨(op+1).toNat,om⟩;rw [show (((op+1).toNat:Nat):Int) - 1=op by omega] at this;simp only [Zea,ZhI,Tah,Tbe] at h
  cases hd:decB op with
  | nil=>exact this.2 hd
  | cons c l =>
   rw [hd] at h this;simp only [Taf,List.cons.injEq] at h;exact this.1 (by rw [<- h.1];rfl)
 | .mk op nm so args::xs,[],x,y,ha,_,h=>by
  exfalso;simp only [Zff,ZhJ] at ha;have:=ZoP ⟨(op+1).toNat,om⟩;rw [show (((op+1).toNat:Nat):Int) - 1=op by omega] at this;simp only [Zea,ZhI,Tah,Tbe] at h
  cases hd:decB op with
  | nil=>exact this.2 hd
  | cons c l =>
   rw [hd] at h this;simp only [Taf,List.cons.injEq] at h;exact this.1 (by rw [h.1];rfl)
 | a::xs,b::bs,x,y,ha,hb,h=>by
  simp only [Zff] at ha hb;simp only [Zea,Tbe] at h;obtain ⟨e1,e2⟩:=Zrs a b _ _ ha.1 hb.1 h;obtain ⟨f1,f2⟩:=ZoQ xs bs x y ha.2 hb.2 e2;exact ⟨by rw [e1,f1],f2⟩
end
theorem ZxH {s:ByteArray} (h:Za7 s=true):NamB s:=by
 unfold Za7 at h;simp only [Tar] at h;have hn:=h.2;unfold ZaZ at hn;rw [List.all_eq_true] at hn;intro b hb;rw [ByteArray.toList_eq] at hb;obtain ⟨i,hi,rfl⟩:=List.getElem_of_mem hb;have hi':i < s.size:=by simpa using hi
 have:=hn i (List.mem_range'_1.2 ⟨Taj _,om⟩);simp only [Tar,Zfb,dif_pos hi'] at this;exact this.1
mutual
theorem Zkb {g:Sgn} (hg:SgnOk g):∀ (t:Tm),ZaD g t->ZhJ t
 | .mk op nm so args,h=>by
  have h2:ZcO g args:=by simp only [ZaD] at h;exact h.2.1
  have h1:Zcp g (.mk op nm so args):=by simp only [ZaD] at h;exact h.1
  have hl:=hg.len;have hn:=hg.sorts.n8;refine ⟨?_,?_,?_,?_,ZmI hg args h2⟩
  ·rcases h1 with h | ⟨o,d,h⟩
   ·have:op=-1:=h.1;omega
   ·have:0<=op:=h.lo;omega
  ·rcases h1 with h | ⟨o,d,h⟩
   ·have:op=-1:=h.1;omega
   ·have h0:0<=op:=h.lo;have:g.ops[op.toNat]?=some o:=h.at';have:=(Tad.1 this).1;omega
  ·intro ho;rcases h1 with h | ⟨o,d,h⟩
   ·have h4:0<=so:=h.2.2.1;have h5:so < g.sorts.names.length:=h.2.2.2.1;exact ⟨ZxH h.2.1,h4,om⟩
   ·have:0<=op:=h.lo;omega
  ·intro ho;rcases h1 with h | ⟨o,d,h⟩
   ·have:op=-1:=h.1;omega
   ·exact ⟨h.nm,h.so⟩
theorem ZmI {g:Sgn} (hg:SgnOk g):∀ (ts:List Tm),ZcO g ts->Zff ts
 | [],_=>trivial
 | t::ts,h=>by
  simp only [ZcO] at h;exact ⟨Zkb hg t h.1,ZmI hg ts h.2⟩
end
def keyS (t:Tm):ByteArray:=⟨(ZhI t).toArray⟩
theorem ZoR {g:Sgn} (hg:SgnOk g) {a b:Tm} (ha:ZaD g a) (hb:ZaD g b) (h:(keyS a).toList=(keyS b).toList):a=b:=by
 rw [ByteArray.toList_eq,ByteArray.toList_eq] at h;simp only [keyS] at h;exact (Zrs a b [] [] (Zkb hg a ha) (Zkb hg b hb) (by rw [List.append_nil,List.append_nil];exact h)).1
section
variable {P:Program} {w:World}
end
section
variable {e:Env} {U:Nat->Prop} {w0:World} {S0:Nat->Prop} {nt:Nat} {σ:St} {a:Act} {w:World} {S:Nat->Prop} {L:Lay} {o:Oper}
end
section
variable {e:Env} {K:St->Prop} {ds:List (Option Nat)} {os:List Oper} {s:List (Nat × A)} {m:List (Nat × Bk)}
end
def bs (l:List UInt8):ByteArray:=⟨l.toArray⟩
end Go.Proofs.YtmdkimnlbaahbaaGreat
namespace Go.Proofs.YtmdkimnlbaahbaaGreat
open Go.RowKit Go.MapKept Go.ChangeMaps
theorem Zlk {l:List (ByteArray × Value)} {k s:ByteArray} {v:Value}:ZbP (l++[(k,v)]) s=(ZbP l s).or (if s.toList=k.toList then some v else none):=by
 unfold ZbP;rw [List.find?_append]
 cases h:l.find? fun p=>s.toList==p.1.toList with
 | some p=>simp
 | none =>
  by_cases e:s.toList=k.toList
  ·simp [List.find?,e]
  ·have e2:(s.toList==k.toList)=false:=beq_eq_false_iff_ne.2 e;simp only [List.find?,e2,Option.or,if_neg e,Option.map_none]
def Memo (g:Sgn) (l:List (ByteArray × Value)):Prop:=∀ u,ZaD g u->∀ v,ZbP l (keyS u)=some v->v=.int .i64 (sortsTm g u:Nat)
def Grew (g:Sgn) (n:Nat) (l l':List (ByteArray × Value)):Prop:=∀ u,ZaD g u->n < sizeTm u->ZbP l (keyS u)=none->ZbP l' (keyS u)=none
theorem Grew.refl {g:Sgn} {n:Nat} {l:List (ByteArray × Value)}:Grew g n l l:=fun _ _ _ h=>h
theorem Grew.trans {g:Sgn} {n:Nat} {l l' l'':List (ByteArray × Value)} (h:Grew g n l l') (h':Grew g n l' l''):Grew g n l l'':=fun u hu hs h0=>h' u hu hs (h u hu hs h0)
theorem Grew.mono {g:Sgn} {n m:Nat} {l l':List (ByteArray × Value)} (h:Grew g n l l') (hn:n<=m):Grew g m l l':=fun u hu hs h0=>h u hu om h0
theorem Memo.nil {g:Sgn}:Memo g []:=fun u _ v h=>by simp [ZbP] at h
theorem Memo.snoc {g:Sgn} (hg:SgnOk g) {l:List (ByteArray × Value)} (h:Memo g l) {t:Tm} (ht:ZaD g t):Memo g (l++[(keyS t,.int .i64 (sortsTm g t:Nat))]):=by
 intro u hu v hv;rw [Zlk] at hv
 cases hl:ZbP l (keyS u) with
 | some x =>
  rw [hl] at hv;simp only [Option.some_or,Taq] at hv;subst hv;exact h u hu _ hl
 | none =>
  rw [hl,Option.none_or] at hv;by_cases e:(keyS u).toList=(keyS t).toList
  ·rw [if_pos e] at hv;obtain rfl:=ZoR hg hu ht e;simpa using hv.symm
  ·rw [if_neg e] at hv;cases hv
theorem Grew.snoc {g:Sgn} (hg:SgnOk g) {l:List (ByteArray × Value)} {t:Tm} (ht:ZaD g t) {v:Value}:Grew g (sizeTm t) l (l++[(keyS t,v)]):=by
 intro u hu hs h0;rw [Zlk,h0,Option.none_or,if_neg];intro e;obtain rfl:=ZoR hg hu ht e;omega
section
variable {e:Env} {K:St->Prop} {ds:List (Option Nat)} {os:List Oper} {s:List (Nat × A)} {m:List (Nat × Bk)}
end
end Go.Proofs.YtmdkimnlbaahbaaGreat
namespace Go.Proofs.YtmdkimnlbaahbaaGreat
open Go.RowKit
def Eqo (o:Opr) (L M:List Tm):Prop:=L.Perm M∧(o.comm=false->L=M)
section
variable {o:Opr} {op:Int} {L M N L' M':List Tm}
theorem Eqo.refl (L:List Tm):Eqo o L L:=⟨.refl _,fun _=>rfl⟩
theorem Eqo.symm (h:Eqo o L M):Eqo o M L:=⟨h.1.symm,fun c=>(h.2 c).symm⟩
theorem Eqo.trans (h:Eqo o L M) (h':Eqo o M N):Eqo o L N:=⟨h.1.trans h'.1,fun c=>(h.2 c).trans (h'.2 c)⟩
theorem Eqo.app (h:Eqo o L M) (h':Eqo o L' M'):Eqo o (L++L') (M++M'):=⟨h.1.append h'.1,fun c=>by rw [h.2 c,h'.2 c]⟩
theorem Eqo.map (f:Tm->Tm) (h:Eqo o L M):Eqo o (L.map f) (M.map f):=⟨h.1.map f,fun c=>by rw [h.2 c]⟩
theorem Eqo.fl (h:Eqo o L M):Eqo o (Zaj o op L) (Zaj o op M):=⟨h.1.flatMap_right _,fun c=>by rw [h.2 c]⟩
theorem Eqo.srt (h:Eqo o L M):srtO o L=srtO o M:=by
 unfold srtO
 cases hc:o.comm with
 | true=>rw [if_pos rfl,if_pos rfl];exact Zof h.1
 | false=>rw [if_neg (by decide),if_neg (by decide)];exact h.2 hc
end
section
variable {g:Sgn} {o:Opr} {d:Dcl} {op:Int} {b:List Bd}
theorem Zwl (hg:SgnOk g) {i:Nat} (ho:g.ops[i]?=some o) (hd:o.decls[0]?=some d) (hu:o.unit≠0) {t:Tm} (ht:TermOk g t) (hop:t.op=o.unit - 1):t=ZaE o:=by
 have hax:=hg.axs o (Tac ho);have hlo:=hax.lo;have hhi:=hax.hi;obtain ⟨k1,k2,hk,_⟩:=Opr.two hg ho hd (.inr (.inr hu));obtain ⟨p,u,hA⟩:=ht.form.node.app om;have hp:=hA.at';rw [hop] at hp;have e:(o.unit - 1).toNat=o.unit.toNat - 1:=om;rw [e] at hp;have h2:=((hax.two (.inr (.inr hu)) d hd).2 k1 k2 (by rw [hk];rfl) (by rw [hk];rfl)).2.2 hu p u hp hA.fst;have has:p.assoc=false:=by
  cases hpa:p.assoc with
  | false=>rfl
  | true=>have:=((hg.axs p (Tac hp)).two (.inl hpa) u hA.fst).1;omega
 have hl:=hA.nas has;have ha:t.args=[]:=Tao om;have h3:=hA.nm;have h4:=hA.so;obtain ⟨op,nm,so,args⟩:=t;simp only [Tm.name,Tm.sort,Tm.args,Tm.op] at *;subst h3 h4 ha hop;simp only [ZaE,if_neg hu]
noncomputable def apD (g:Sgn) (b:List Bd) (t:Tm):Tm:=(apT g b t).getD zTm
theorem ZmJ:∀ {ts us:List Tm},apTs g b ts=some us->us=ts.map (apD g b)∧∀ t∈ts,∃ u,apT g b t=some u
 | [],us,h=>by simp only [apTs,Taq] at h;subst h;exact ⟨rfl,fun t ht=>(by cases ht)⟩
 | t::ts,us,h=>by
  simp only [apTs] at h
  cases h1:apT g b t with
  | none=>rw [h1] at h;cases h
  | some v =>
   rw [h1] at h
   cases h2:apTs g b ts with
   | none=>rw [h2] at h;cases h
   | some vs =>
    rw [h2] at h;simp only [Option.bind_some,Option.map_some,Taq] at h;subst h;obtain ⟨e,hall⟩:=ZmJ h2;refine ⟨by rw [Tbt,<- e,apD,h1];rfl,fun x hx=>?_⟩;rcases Tbf.1 hx with rfl | hx
    ·exact ⟨v,h1⟩
    ·exact hall x hx
theorem Zwm (hg:SgnOk g) (hb:∀ y∈b,TermOk g y.to) {ts us:List Tm} (ht:∀ t∈ts,TermOk g t) (h:apTs g b ts=some us):∀ u∈us,TermOk g u:=fun u hu=>by
 obtain ⟨x,hx,hxe⟩:=ZhH h u hu;exact ZiG hg hb _ x (Tan _) (ht x hx) hxe
theorem ZxJ {xs:List Tm} {t:Tm} (h:mkO g o d op xs=some t):¬ ArB o d xs.length∧(∀ (i:Nat) a,xs[i]?=some a->KArg g o d i a)∧mkL o op (Zaj o op xs)=some t:=by
 unfold mkO at h;split at h
 ·cases h
 ·rename_i h1;split at h
  ·rename_i h2;exact ⟨h1,h2,h⟩
  ·cases h
end
def tw2 (a:Alg) (i:Nat) (x y:Int):Int:=(a.tables.getD i []).getD (x * a.size+y).toNat 0
def Inz (a:Alg) (x:Int):Prop:=0<=x∧x < a.size
structure Tab2 (a:Alg) (i:Nat):Prop where
 lo:1<=a.size
 hi:a.size<=4
 tab:∃ l,a.tables[i]?=some l∧l.length=a.size.toNat * a.size.toNat∧∀ x∈l,Inz a x
theorem Tab2.get {a:Alg} {i:Nat} (h:Tab2 a i) {x y:Int} (hx:Inz a x) (hy:Inz a y):∃ l,a.tables[i]?=some l∧IntKind.i64.wrap (x * a.size)=x * a.size∧IntKind.i64.wrap (x * a.size+y)=x * a.size+y∧0<=x * a.size+y∧l[(x * a.size+y).toNat]?=some (tw2 a i x y)∧Inz a (tw2 a i x y):=by
 obtain ⟨l,h1,h2,h3⟩:=h.tab;have hlo:=h.lo;have hhi:=h.hi;obtain ⟨x0,x1⟩:=hx;obtain ⟨y0,y1⟩:=hy;have m0:0<=x * a.size:=Int.mul_nonneg x0 om;have m1:x * a.size+a.size<=a.size * a.size:=by
  have:(x+1) * a.size<=a.size * a.size:=Int.mul_le_mul_of_nonneg_right om om;rw [Int.add_mul] at this;omega
 have m2:a.size * a.size<=16:=by
  have:=Int.mul_le_mul hhi hhi om om;omega
 have hl:(x * a.size+y).toNat < l.length:=by
  rw [h2];have e:((a.size.toNat * a.size.toNat:Nat):Int)=a.size * a.size:=by rw [Int.natCast_mul,Int.toNat_of_nonneg om]
  omega
 have e1:tw2 a i x y=l[(x * a.size+y).toNat]:=by
  unfold tw2;simp [List.getD_eq_getElem?_getD,h1,Taa hl]
 refine ⟨l,h1,Za2 rfl om om,Za2 rfl om om,om,?_,?_⟩
 ·rw [e1];exact Taa hl
 ·rw [e1];exact h3 _ (List.getElem_mem hl)
theorem Zlm {a:Alg} {i:Nat} {x y:Int} (ht:Tab2 a i) (hx:Inz a x) (hy:Inz a y):Con e0 95 [.agg (Zbz a),.one (.lit (.int .i64 i)),.one (.lit (.int .i64 x)),.one (.lit (.int .i64 y))] [.one (.lit (.int .i64 (tw2 a i x y)))]:=by
 obtain ⟨l,h,hw,hw2,h0,hv,_⟩:=ht.get hx hy;refine gI 287 Tryz.func95 ?_;exact fT (aj8 @Zw2 @Zbp @Zao @h @hw @hw2 @h0 @hv)
theorem ZpO {ts:List Tm} {f:FuncId} {caps:List C} {P:Tm->Bool} (hl:ts.length<=big) (h:∀ a∈ts,Con e0 f (.agg (Zab a)::caps.map .one) [.one (.lit (.bool (P a)))]) :
  ∃ r:Int,((∃ (k:Nat) (a:Tm),r=k∧ts[k]?=some a∧P a=true∧∀ (j:Nat) a,j < k->ts[j]?=some a->P a=false)∨(r=-1∧ts.any P=false))∧Con e0 71 [.one (.sl (Zaa ts)),.one (.fn f caps)] [.one (.lit (.int .i64 r))]:=by
 unfold big at hl;by_cases hA:ts.any P=true
 ·obtain ⟨k,hk,hbef⟩:∃ k:Nat,(∃ a,ts[k]?=some a∧P a=true)∧∀ (j:Nat) a,j < k->ts[j]?=some a->P a=false:=by
   have hex:∃ k:Nat,∃ a,ts[k]?=some a∧P a=true:=by
    obtain ⟨a,ha,hp⟩:=List.any_eq_true.1 hA;obtain ⟨k,hk⟩:=Tbj ha;exact ⟨k,a,hk,hp⟩
   obtain ⟨k,hk,hmin⟩:=ZAP hex;refine ⟨k,hk,fun j a hj ha=>?_⟩
   cases hp:P a with
   | false=>rfl
   | true=>exact absurd ⟨a,ha,hp⟩ (hmin j hj)
  obtain ⟨a0,ha0,hp0⟩:=hk;have hkl:=(Tad.1 ha0).1;refine ⟨(k:Int),.inl ⟨k,a0,rfl,ha0,hp0,hbef⟩,?_⟩;refine gI 66483 Tryz.func71 ?_;refine fG @tmz ?_;have F:=@e0P;refine gL (ι:=Nat) [4,5,8,9,16] [] (fun i=>[(8,A.d (.one (.lit (.int .i64 i))))]) (fun i=>[]) (fun i=>i<=k) (fun i=>k+1 - i) (0) om (fun i hi=>?_);clear F;have hl':(i:Int) < (ts.length:Int):=om;obtain ⟨a,ha⟩:∃ a,ts[i]?=some a:=⟨_,Taa om⟩;have hw1:=Zap (k:=i) om
  refine fB (ai @tmz @hl') ?_;refine fC (ai @tmz @ha) (h a (Tac ha)) ?_;by_cases hik:i=k
  ·subst hik;rw [ha] at ha0;injection ha0 with ha0
   subst ha0;refine fR (ai @tmz @hp0) ?_;exact fT @tmz
  ·have hpf:=hbef i a om ha;refine fR (ai @tmz @hpf) ?_;have F:=ai @hw1 @tmz;refine gG ?_;exact ⟨i+1,om,gw,gw,om⟩
 ·have hbef:∀ (j:Nat) a,ts[j]?=some a->P a=false:=fun j a ha=>by
   cases hp:P a with
   | false=>rfl
   | true=>exact absurd (List.any_eq_true.2 ⟨a,Tac ha,hp⟩) hA
  refine ⟨-1,.inr ⟨rfl,by simpa using hA⟩,?_⟩;refine gI 66483 Tryz.func71 ?_;refine fG @tmz ?_;have F:=@e0P;refine gL (ι:=Nat) [4,5,8,9,16] [] (fun i=>[(8,A.d (.one (.lit (.int .i64 i))))]) (fun i=>[]) (fun i=>i<=ts.length) (fun i=>ts.length - i) (0) om (fun i hi=>?_);clear F;by_cases hi':i < ts.length;rotate_left
  ·have hl':¬ ((i:Int) < (ts.length:Int)):=om;exact fT (ai @tmz @hl')
  have hl':(i:Int) < (ts.length:Int):=om;obtain ⟨a,ha⟩:∃ a,ts[i]?=some a:=⟨_,Taa om⟩;have hw1:=Zap (k:=i) om;have hpf:=hbef i a ha;refine fB (ai @tmz @hl') ?_;refine fC (ai @tmz @ha) (h a (Tac ha)) ?_;refine fR (ai @tmz @hpf) ?_;have F:=ai @hw1 @tmz;refine gG ?_;exact ⟨i+1,om,gw,gw,om⟩
def valV:List Tm->List Int->Tm->Int
 | v::vs,x::xs,t=>if Zah v t=0 then x else valV vs xs t
 | _,_,_=>0
def isAs (g:Sgn) (op:Int):Bool:=(g.ops[op.toNat]?.map (·.assoc)).getD false
def accV (ac:Bool) (z:Int) (l ws:List Int):Nat->Int
 | 0=>0
 | i+1=>if ac=true∧0 < i then l.getD (accV ac z l ws i * z+ws.getD i 0).toNat 0 else accV ac z l ws i * z+ws.getD i 0
theorem ZAx (ac:Bool) (z:Int) (l ws:List Int):accV ac z l ws 0=0:=rfl
def opV (ac:Bool) (z:Int) (l ws:List Int):Int:=if ac=true then accV true z l ws ws.length else l.getD (accV false z l ws ws.length).toNat 0
mutual
def ZaT (g:Sgn) (a:Alg) (vs:List Tm) (xs:List Int):Tm->Int
 | .mk op nm so args=>if op < 0 then valV vs xs (.mk op nm so args) else opV (isAs g op) a.size (a.tables.getD op.toNat []) (ZcK g a vs xs args)
def ZcK (g:Sgn) (a:Alg) (vs:List Tm) (xs:List Int):List Tm->List Int
 | []=>[]
 | t::ts=>ZaT g a vs xs t::ZcK g a vs xs ts
end
theorem Zfg (g:Sgn) (a:Alg) (vs:List Tm) (xs:List Int):∀ ts:List Tm,ZcK g a vs xs ts=ts.map (ZaT g a vs xs)
 | []=>rfl
 | t::ts=>by rw [ZcK,Zfg g a vs xs ts,Tbt]
theorem ZhK {g:Sgn} {a:Alg} {vs:List Tm} {xs:List Int} (ts:List Tm):(ZcK g a vs xs ts).length=ts.length:=by rw [Zfg,Tax]
structure TabN (z:Int) (n:Nat) (ac:Bool) (l:List Int):Prop where
 lo:1<=z
 hi:z<=4
 len:l.length=z.toNat ^ n
 all:∀ x∈l,0<=x∧x < z
 le3:n<=3
 as2:ac=true->n=2
def In0 (z x:Int):Prop:=0<=x∧x < z
theorem Zru {z:Int} (h:1<=z) (n:Nat):((z.toNat ^ n:Nat):Int)=z ^ n:=by
 rw [Int.natCast_pow,Int.toNat_of_nonneg om]
theorem Zdq {r z w p:Int} (h0:0<=r) (h1:r < p) (hz:1<=z) (hw:0<=w∧w < z):0<=r * z∧0<=r * z+w∧r * z+w < p * z:=by
 have m0:0<=r * z:=Int.mul_nonneg h0 om;have m1:(r+1) * z<=p * z:=Int.mul_le_mul_of_nonneg_right om om;rw [Int.add_mul] at m1;omega
theorem TabN.get {z:Int} {n:Nat} {ac:Bool} {l:List Int} (h:TabN z n ac l) {k:Int} (h0:0<=k) (h1:k < z ^ n):l[k.toNat]?=some (l.getD k.toNat 0)∧In0 z (l.getD k.toNat 0):=by
 have hl:k.toNat < l.length:=by
  have:=Zru h.lo n;have e:=h.len;omega
 rw [List.getD_eq_getElem?_getD,Taa hl];exact ⟨rfl,h.all _ (List.getElem_mem hl)⟩
theorem Zje {z:Int} {l ws:List Int} (hz:1<=z) (hw:∀ x∈ws,In0 z x):∀ i:Nat,i<=ws.length->0<=accV false z l ws i∧accV false z l ws i < z ^ i
 | 0,_=>by simp [accV]
 | i+1,h=>by
  obtain ⟨h0,h1⟩:=Zje (l:=l) hz hw i om;have hwi:In0 z (ws.getD i 0):=by
   rw [List.getD_eq_getElem?_getD,Taa om];exact hw _ (List.getElem_mem _)
  have hm:=Zdq h0 h1 hz hwi;simp only [accV,Tam,false_and,if_false,Int.pow_succ];exact ⟨hm.2.1,hm.2.2⟩
theorem ZlT {z:Int} {l ws:List Int} (hT:TabN z 2 true l) (hw:∀ x∈ws,In0 z x):∀ i:Nat,i<=ws.length->In0 z (accV true z l ws i)
 | 0,_=>by have:=hT.lo;simp only [accV,In0];omega
 | i+1,h=>by
  have ih:=ZlT hT hw i om;have hwi:In0 z (ws.getD i 0):=by
   rw [List.getD_eq_getElem?_getD,Taa om];exact hw _ (List.getElem_mem _)
  have hm:=Zdq ih.1 ih.2 hT.lo hwi;simp only [accV];split
  ·exact (hT.get hm.2.1 (by rw [Int.pow_succ,Int.pow_succ,Int.pow_zero,Int.one_mul];exact hm.2.2)).2
  ·rename_i hi;simp only [true_and,Nat.not_lt,Nat.le_zero] at hi;subst hi;simp only [accV,Int.zero_mul,Int.zero_add];exact hwi
theorem Zwn {z:Int} (h0:1<=z) (h1:z<=4) {n:Nat} (hn:n<=3):z ^ n<=64:=by
 have h:=Zru h0 n;have h2:z.toNat ^ n<=64:=Zhj om hn;omega
theorem ZxK {z:Int} {n:Nat} {ac:Bool} {l ws:List Int} (hT:TabN z n ac l) (hw:∀ x∈ws,In0 z x) (hn:ac=false->ws.length=n) {i:Nat} {w:Int} (hi:ws[i]?=some w) :
  IntKind.i64.wrap (accV ac z l ws i * z)=accV ac z l ws i * z∧IntKind.i64.wrap (accV ac z l ws i * z+w)=accV ac z l ws i * z+w∧0<=accV ac z l ws i * z+w ∧
  (ac=true->0 < i->l[(accV ac z l ws i * z+w).toNat]?=some (accV ac z l ws (i+1)))∧(ac=false∨i=0->accV ac z l ws (i+1)=accV ac z l ws i * z+w):=by
 have hil:=(Tad.1 hi).1;have hwi:=hw w (Tac hi);have hg:ws.getD i 0=w:=by rw [List.getD_eq_getElem?_getD,hi];rfl
 have hlo:=hT.lo;have hhi:=hT.hi
 cases ac with
 | false =>
  obtain ⟨h0,h1⟩:=Zje (l:=l) hlo hw i om;have hm:=Zdq h0 h1 hlo hwi;have hp:=Zwn hlo hhi (n:=i+1) (by have:=hn rfl;have:=hT.le3;omega);rw [Int.pow_succ] at hp;have hr:accV false z l ws i * z<=accV false z l ws i * z+w:=by have:=hwi.1;omega
  refine ⟨IntWalk.i64_in _ om,IntWalk.i64_in _ om,hm.2.1,fun h=>absurd h (by decide),fun _=>?_⟩;simp only [accV,Tam,false_and,if_false,hg]
 | true =>
  have h2:=hT.as2 rfl;subst h2;have ih:=ZlT hT hw i om;have hm:=Zdq ih.1 ih.2 hlo hwi;have hp:=Zwn hlo hhi (n:=2) om;rw [Int.pow_succ,Int.pow_succ,Int.pow_zero,Int.one_mul] at hp;have hr:accV true z l ws i * z<=accV true z l ws i * z+w:=by have:=hwi.1;omega
  refine ⟨IntWalk.i64_in _ om,IntWalk.i64_in _ om,hm.2.1,fun _ h=>?_,fun h=>?_⟩
  ·have hgt:=(hT.get hm.2.1 (by rw [Int.pow_succ,Int.pow_succ,Int.pow_zero,Int.one_mul];exact hm.2.2)).1;rw [hgt];simp only [accV,hg,h,and_self,if_true]
  ·rcases h with h | h
   ·cases h
   ·subst h;simp only [accV,hg];simp
theorem ZoT {z:Int} {n:Nat} {ac:Bool} {l ws:List Int} (hT:TabN z n ac l) (hw:∀ x∈ws,In0 z x) (hn:ac=false->ws.length=n):In0 z (opV ac z l ws):=by
 cases ac with
 | false =>
  have h:=Zje (l:=l) hT.lo hw ws.length (Tai _);rw [hn rfl] at h;have:=(hT.get h.1 h.2).2;simp only [opV,Tam,if_false,hn rfl];exact this
 | true =>
  have h2:=hT.as2 rfl;subst h2;simp only [opV,if_true];exact ZlT hT hw ws.length (Tai _)
theorem Zln {g:Sgn} {a:Alg} (hA:AlgOk g a) {t:Tm} {o:Opr} {d:Dcl} (hap:AppOk g t o d):∃ l,a.tables[t.op.toNat]?=some l∧TabN a.size d.args.length o.assoc l∧isAs g t.op=o.assoc:=by
 have hat:=hap.at';have hil:=(Tad.1 hat).1;have hm:=Tac hat;have hlt:t.op.toNat < a.tables.length:=by rw [hA.len];exact hil
 refine ⟨a.tables[t.op.toNat],Taa hlt,?_,by simp [isAs,hat]⟩;have h:=hA.tab _ o d _ hat hap.fst (Taa hlt);exact ⟨hA.lo,hA.hi,h.len,h.all,(hA.sgn.decls o hm).ar d hap.fst,fun h=>((hA.sgn.axs o hm).two (.inl h) d hap.fst).1⟩
structure ValOk (a:Alg) (vs:List Tm) (xs:List Int):Prop where
 len:xs.length=vs.length
 all:∀ x∈xs,In0 a.size x
theorem Zkc:∀ {vs:List Tm} {xs:List Int} {t:Tm} {i:Nat} {v:Tm} {x:Int},vs[i]?=some v->xs[i]?=some x->Zah v t=0->(∀ j u,j < i->vs[j]?=some u->Zah u t≠0)->valV vs xs t=x
 | [],_,_,i,_,_,h,_,_,_=>by simp at h
 | _::_,[],_,i,_,_,_,h,_,_=>by simp at h
 | w::vs,y::xs,t,0,v,x,h1,h2,h3,_=>by
  simp at h1 h2;subst h1 h2;simp [valV,h3]
 | w::vs,y::xs,t,i+1,v,x,h1,h2,h3,h4=>by
  have h0:=h4 0 w om rfl;rw [valV,if_neg h0];exact Zkc (by simpa using h1) (by simpa using h2) h3 fun j u hj hu=>h4 (j+1) u om (by simpa using hu)
theorem Zrv {z:Int}:∀ {vs:List Tm} {xs:List Int} {t:Tm},xs.length=vs.length->(∀ x∈xs,In0 z x)->t∈vs->In0 z (valV vs xs t)
 | [],_,_,_,_,h=>by simp at h
 | v::vs,[],_,h,_,_=>by simp at h
 | v::vs,x::xs,t,hl,hx,h=>by
  rw [valV];split
  ·exact hx x (by simp)
  ·rename_i hne;rcases Tbf.1 h with rfl | h
   ·exact absurd (Zb9 _) hne
   ·exact Zrv (by simpa using hl) (fun y hy=>hx y (by simp [hy])) h
theorem ZeT {g:Sgn} {t:Tm} (h:Zcp g t):(Zcu g t∧t.op < 0)∨(0<=t.op∧∃ o d,AppOk g t o d):=by
 rcases h with h | ⟨o,d,h⟩
 ·exact .inl ⟨h,by have:=h.1;omega⟩
 ·exact .inr ⟨h.lo,o,d,h⟩
mutual
theorem ZxL {g:Sgn} {a:Alg} {vs:List Tm} {xs:List Int} (hA:AlgOk g a) (hv:ValOk a vs xs):∀ {t:Tm},ZaD g t->(∀ v∈Zav t,v∈vs)->In0 a.size (ZaT g a vs xs t)
 | .mk op nm so args,hf,hin=>by
  have hn:=hf.node;simp only [ZaD] at hf;rw [ZaT];rcases ZeT hn with ⟨h,hop⟩ | ⟨hop,o,d,h⟩
  ·rw [if_pos (by simpa only [Tm.op] using hop)];have e1:=h.1;have e2:=h.2.2.2.2;simp only [Tm.op,Tm.args] at e1 e2;subst e1 e2;exact Zrv hv.len hv.all (hin _ (by simp [Zav]))
  ·have h1:¬ op < 0:=by simp only [Tm.op] at hop;omega
   rw [if_neg h1];obtain ⟨l,hl,hT,has⟩:=Zln hA h;simp only [Tm.op] at hl has;have hlen:=ZhK (g:=g) (a:=a) (vs:=vs) (xs:=xs) args;have hnas:=h.nas;simp only [Tm.args] at hnas;have e:a.tables.getD op.toNat []=l:=by simp [List.getD_eq_getElem?_getD,hl]
   rw [has,e];refine ZoT hT (Zgy hA hv hf.2.1 fun v hvm=>hin v ?_) fun h=>by rw [hlen];exact hnas h
   have:¬ op=-1:=om;simpa only [Zav,if_neg this] using hvm
theorem Zgy {g:Sgn} {a:Alg} {vs:List Tm} {xs:List Int} (hA:AlgOk g a) (hv:ValOk a vs xs):∀ {ts:List Tm},ZcO g ts->(∀ v∈Zaz ts,v∈vs)->∀ x∈ZcK g a vs xs ts,In0 a.size x
 | [],_,_=>by simp [ZcK]
 | t::ts,hf,hin=>by
  simp only [ZcO] at hf;simp only [Zaz,Tbg] at hin;intro x hx;simp only [ZcK,Tbf] at hx;rcases hx with rfl | hx
  ·exact ZxL hA hv hf.1 fun v h=>hin v (.inl h)
  ·exact Zgy hA hv hf.2 (fun v h=>hin v (.inr h)) x hx
end
theorem ZmK {z:Int} {k:Nat} (h0:0<=z) (hz:z<=4) (hk:k<=6):Con e0 92 [.one (.lit (.int .i64 z)),.one (.lit (.int .i64 k))] [.one (.lit (.int .i64 (z ^ k)))]:=by
 have hp:∀ i:Nat,0<=z ^ i∧z ^ i<=4 ^ i:=fun i=>by
  induction i with
  | zero=>simp
  | succ i ih =>
   rw [Int.pow_succ,Int.pow_succ];exact ⟨Int.mul_nonneg ih.1 h0,Int.mul_le_mul ih.2 hz h0 (Int.pow_nonneg (by decide))⟩
 have hb:∀ i:Nat,i<=6->(4:Int) ^ i<=4096:=fun i hi=>by
  have:i=0∨i=1∨i=2∨i=3∨i=4∨i=5∨i=6:=om;rcases this with rfl | rfl | rfl | rfl | rfl | rfl | rfl <;> decide
 refine gI 627 Tryz.func92 ?_;refine fG @e0P ?_;have F:=((Int.pow_zero z));refine gL (ι:=Nat) [5,6,9] [] (fun i=>[(5,.d (.one (.lit (.int .i64 (z ^ i))))),(6,A.d (.one (.lit (.int .i64 i))))]) (fun i=>[]) (fun i=>i<=k) (fun i=>k - i) (0) (Taj _) (fun i hi=>?_);clear F;by_cases hlt:i < k
 ·have q1:(i:Int) < (k:Int):=om;have hw1:=Zap (k:=i) om;have h1:=hp (i+1);have h2:=hb (i+1) om;have hw2:IntKind.i64.wrap (z ^ i * z)=z ^ (i+1):=by rw [<- Int.pow_succ];exact IntWalk.i64_in _ (by rw [Nat.succ_eq_add_one];omega)
  have F:=aj3 @q1 @hw1 @hw2;refine gG ?_;exact ⟨i+1,hlt,gw,gw,om⟩
 obtain rfl:i=k:=by omega
 have q1:¬ ((i:Int) < (i:Int)):=om;exact fT @q1
theorem ZiJ {z:Int} (h0:0<=z) (n:Nat):((z.toNat ^ n:Nat):Int)=z ^ n:=by rw [Int.natCast_pow,Int.toNat_of_nonneg h0]
theorem Zwq {z:Int} (h0:0<=z) (hz:z<=4) {i:Nat} (hi:i < 3):IntKind.i64.wrap (z ^ i * z)=z ^ (i+1):=by
 have h1:z.toNat ^ (i+1)<=64:=Zhj om om;have e:z ^ i * z=z ^ (i+1):=(Int.pow_succ z i).symm;rw [e,<- ZiJ h0];exact IntWalk.i64_in _ om
section
variable {g:Sgn} {a:Alg}
theorem ZmL {i:Nat} {o:Opr} {d:Dcl} {t:List Int} (ho:g.ops[i]?=some o) (hd:o.decls[0]?=some d) (ht:a.tables[i]?=some t) (hall:∀ (k:Nat) (o:Opr) (d:Dcl) (t:List Int),k < i->g.ops[k]?=some o->o.decls[0]?=some d->a.tables[k]?=some t->TabOk a.size d.args.length t) (h:TabOk a.size d.args.length t) :
  ∀ (k:Nat) (o:Opr) (d:Dcl) (t:List Int),k < i+1->g.ops[k]?=some o->o.decls[0]?=some d->a.tables[k]?=some t->TabOk a.size d.args.length t:=fun k o' d' t' hk h1 h2 h3=>by
 by_cases e:k=i
 ·subst e;rw [ho] at h1;injection h1 with h1;subst h1
  rw [hd] at h2;injection h2 with h2;subst h2
  rw [ht] at h3;injection h3 with h3;subst h3
  exact h
 ·exact hall k o' d' t' om h1 h2 h3
theorem Zrx {n:Nat} {t:List Int} (hl:t.length=a.size.toNat ^ n) (h:∀ (q:Nat) x,q < t.length->t[q]?=some x->0<=x∧x < a.size):TabOk a.size n t:=⟨hl,fun x hx=>by
 obtain ⟨q,hq⟩:=Tbj hx;exact h q x (Tad.1 hq).1 hq⟩
theorem ZmM {t:List Int} {k:Nat} {x:Int} (hx:t[k]?=some x) (hall:∀ (q:Nat) x,q < k->t[q]?=some x->0<=x∧x < a.size) (h:0<=x∧x < a.size):∀ (q:Nat) x,q < k+1->t[q]?=some x->0<=x∧x < a.size:=fun q y hq hy=>by
 by_cases e:q=k
 ·subst e;rw [hx] at hy;injection hy with hy;subst hy;exact h
 ·exact hall q y om hy
theorem ZjP (hg:ZbJ g) (ha:Zhf a):Con e0 52 [.agg (Zag g),.agg (Zbz a)] [.one (.lit (.bool (ZcM g a)))]:=by
 have cS:=ZgC hg;have hno:¬ AlgOk g a->ZcM g a=false:=Zjr;have hs64:=ha.1;have rt:=ZiY a.tables;rw [Zag] at cS;rw [Zag,Zbz];refine gI 302786010393794788197119 Tryz.func52 ?_;refine fB @e0P ?_;refine fC @e0P (cS) ?_
 cases hs:Zbw g with
 | false =>
  have hf:=hno fun h=>by rw [ZcX h.sgn] at hs;cases hs
  refine fR @e0P ?_;exact fT @hf
 | true =>
 have hg':=Zdm.1 hs;by_cases h1:1<=a.size;rotate_left
 ·have z1:(a.size < 1)=True:=eq_true om;have hf:=hno fun h=>h1 h.lo;refine fR @z1 ?_;exact fT @hf
 have z1:(a.size < 1)=False:=eq_false om;by_cases h4:a.size<=4;rotate_left
 ·have z2:=lT 4 a.size;have hf:=hno fun h=>h4 h.hi;refine fR (ai @z1 @z2) ?_;exact fT @hf
 have z2:=lF 4 a.size;by_cases hl:a.tables.length=g.ops.length;rotate_left
 ·have z3:((a.tables.length:Int)=(g.ops.length:Int))=False:=eq_false om;have hf:=hno fun h=>hl h.len;refine fR (aj3 @z1 @z2 @z3) ?_;exact fT @hf
 have z3:((a.tables.length:Int)=(g.ops.length:Int))=True:=eq_true om;have h0:0<=a.size:=om;have hgl:=hg'.len;refine fR (aj3 @z1 @z2 @z3) ?_;refine fG @e0P ?_;have F:=@e0P;refine gL (ι:=Nat) [4,5,6,7,9,35,36,45,46,47,60,65,66,67,68,78] [] (fun i=>[(35,A.d (.one (.lit (.int .i64 i))))]) (fun i=>[]) (fun i=>i<=g.ops.length∧∀ (k:Nat) (o:Opr) (d:Dcl) (t:List Int),k < i->g.ops[k]?=some o->o.decls[0]?=some d->a.tables[k]?=some t->TabOk a.size d.args.length t) (fun i=>g.ops.length - i) (0) (⟨Taj _,fun k o d t h=>absurd h om⟩) (fun i hi=>?_);clear F
 obtain ⟨hil,hall⟩:=hi;by_cases hlt:i < g.ops.length;rotate_left
 ·obtain rfl:i=g.ops.length:=by omega
  have q1:¬ ((g.ops.length:Int) < (g.ops.length:Int)):=om;have q0:¬ ((g.ops.length:Int) < (a.tables.length:Int)):=om;have ht:=ZeC ⟨hg',h1,h4,hl,fun k o d t h1 h2 h3=>hall k o d t (Tad.1 h1).1 h1 h2 h3⟩;exact fT (ai @q1 @ht)
 have q1:(i:Int) < (g.ops.length:Int):=om;obtain ⟨o,ho⟩:∃ o,g.ops[i]?=some o:=⟨_,Taa hlt⟩;obtain ⟨t,ht⟩:∃ t,a.tables[i]?=some t:=⟨_,Taa om⟩;obtain ⟨d,hd,hdd⟩:=(hg'.decls o (Tac ho)).first;have har:=(hg'.decls o (Tac ho)).ar d hd;have hw1:=Zap (k:=i) om;have hbad:¬ TabOk a.size d.args.length t->ZcM g a=false:=fun h=>hno fun hA=>h (hA.tab i o d t ho hd ht);have hp64:a.size.toNat ^ d.args.length<=64:=Zhj om har
 have hpc:=ZiJ h0 d.args.length;refine fG (aj5 @q1 @ho @Zae @hd @ZaG) ?_;have F:=((Int.pow_zero a.size));refine gL (ι:=Nat) [7,46,47] [] (fun j=>[(46,A.d (.one (.lit (.int .i64 j)))),(7,.d (.one (.lit (.int .i64 (a.size ^ j)))))]) (fun j=>[]) (fun j=>j<=d.args.length) (fun j=>d.args.length - j) (0) (Taj _) (fun j hj=>?_);clear F;by_cases hlj:j < d.args.length
 ·have q2:(j:Int) < (d.args.length:Int):=om;have hw2:=Zap (k:=j) om;have hp:=Zwq h0 h4 (i:=j) om;have F:=aj3 @q2 @hp @hw2;refine gG ?_;exact ⟨j+1,hlj,gw,gw,om⟩
 obtain rfl:j=d.args.length:=by omega
 have q2:¬ ((d.args.length:Int) < (d.args.length:Int)):=om;by_cases hle:t.length=a.size.toNat ^ d.args.length;rotate_left
 ·have z4:((t.length:Int)=a.size ^ d.args.length)=False:=eq_false om;have hf:=hbad fun h=>hle h.len;exact fT (aj5 @q2 @ht @Zbp @z4 @hf)
 have z4:((t.length:Int)=a.size ^ d.args.length)=True:=eq_true om;refine fG (aj4 @q2 @ht @Zbp @z4) ?_;have F:=@e0P;refine gL (ι:=Nat) [4,9,67,68,78] [] (fun k=>[(67,A.d (.one (.lit (.int .i64 k))))]) (fun k=>[]) (fun k=>k<=t.length∧∀ (q:Nat) x,q < k->t[q]?=some x->0<=x∧x < a.size) (fun k=>t.length - k) (0) (⟨Taj _,fun q x h=>absurd h om⟩) (fun k hk=>?_);clear F;obtain ⟨hkl,hak⟩:=hk;by_cases hlk:k < t.length
 rotate_left
 ·obtain rfl:k=t.length:=by omega
  have q3:¬ ((t.length:Int) < (t.length:Int)):=om;have hq:=ZmL ho hd ht hall (Zrx hle hak);have F:=aj4 @q3 @ht @Zbp @hw1;refine gG ?_;exact ⟨i+1,⟨hlt,hq⟩,gw,gw,om⟩
 have q3:(k:Int) < (t.length:Int):=om;have hw3:=Zap (k:=k) om;obtain ⟨x,hx⟩:∃ x,t[k]?=some x:=⟨_,Taa hlk⟩;by_cases c1:0<=x;rotate_left
 ·have y1:(x < 0)=True:=eq_true om;have hf:=hbad fun h=>c1 (h.all x (Tac hx)).1;exact fT (aj5 @q3 @hx @Zao @y1 @hf)
 have y1:(x < 0)=False:=eq_false om;by_cases c2:x < a.size;rotate_left
 ·have y2:(a.size<=x)=True:=eq_true om;have hf:=hbad fun h=>c2 (h.all x (Tac hx)).2;exact fT (aj6 @q3 @hx @Zao @y1 @y2 @hf)
 have y2:(a.size<=x)=False:=eq_false om;have hq:=ZmM hx hak ⟨c1,c2⟩;have F:=aj6 @q3 @hx @Zao @y1 @y2 @hw3;refine gG ?_;exact ⟨k+1,⟨hlk,hq⟩,gw,gw,om⟩
theorem ZjQ (hg:ZbJ g) (ha:Zhf a):Con e0 50 [.agg (Zag g),.agg (Zbz a)] [.one (.lit (.bool (ZcM g a)))]:=by
 have cS:=ZgD hg;have hno:¬ AlgOk g a->ZcM g a=false:=Zjr;have hs64:=ha.1;have rt:=ZiY a.tables;rw [Zag] at cS;rw [Zag,Zbz];refine gI 1180627790252472270975 Tryz.func50 ?_;refine fB @e0P ?_;refine fC @e0P (cS) ?_
 cases hs:Zbw g with
 | false =>
  have hf:=hno fun h=>by rw [ZcX h.sgn] at hs;cases hs
  refine fR @e0P ?_;exact fT @hf
 | true =>
 have hg':=Zdm.1 hs;refine fC @e0P (Zcw a.size 1 4) ?_;by_cases h14:1<=a.size∧a.size<=4;rotate_left
 ·have z1:decide (1<=a.size∧a.size<=4)=false:=decide_eq_false h14;have hf:=hno fun h=>h14 ⟨h.lo,h.hi⟩;refine fR @z1 ?_;exact fT @hf
 have z1:decide (1<=a.size∧a.size<=4)=true:=decide_eq_true h14;obtain ⟨h1,h4⟩:=h14;by_cases hl:a.tables.length=g.ops.length;rotate_left
 ·have z3:((a.tables.length:Int)=(g.ops.length:Int))=False:=eq_false om;have hf:=hno fun h=>hl h.len;refine fR (ai @z1 @z3) ?_;exact fT @hf
 have z3:((a.tables.length:Int)=(g.ops.length:Int))=True:=eq_true om;have h0:0<=a.size:=om;have hgl:=hg'.len;refine fR (ai @z1 @z3) ?_;refine fG @e0P ?_;have F:=@e0P;refine gL (ι:=Nat) [4,5,6,29,47,55,70] [] (fun i=>[(5,A.d (.one (.lit (.int .i64 i))))]) (fun i=>[]) (fun i=>i<=g.ops.length∧∀ (k:Nat) (o:Opr) (d:Dcl) (t:List Int),k < i->g.ops[k]?=some o->o.decls[0]?=some d->a.tables[k]?=some t->TabOk a.size d.args.length t) (fun i=>g.ops.length - i) (0) (⟨Taj _,fun k o d t h=>absurd h om⟩) (fun i hi=>?_);clear F
 obtain ⟨hil,hall⟩:=hi;by_cases hlt:i < g.ops.length;rotate_left
 ·obtain rfl:i=g.ops.length:=by omega
  have q1:¬ ((g.ops.length:Int) < (g.ops.length:Int)):=om;have q0:¬ ((g.ops.length:Int) < (a.tables.length:Int)):=om;have ht:=ZeC ⟨hg',h1,h4,hl,fun k o d t h1 h2 h3=>hall k o d t (Tad.1 h1).1 h1 h2 h3⟩;exact fT (ai @q0 @ht)
 have q1:(i:Int) < (a.tables.length:Int):=om;obtain ⟨o,ho⟩:∃ o,g.ops[i]?=some o:=⟨_,Taa hlt⟩;obtain ⟨t,ht⟩:∃ t,a.tables[i]?=some t:=⟨_,Taa om⟩;obtain ⟨d,hd,hdd⟩:=(hg'.decls o (Tac ho)).first;have har:=(hg'.decls o (Tac ho)).ar d hd;have hw1:=Zap (k:=i) om;have hbad:¬ TabOk a.size d.args.length t->ZcM g a=false:=fun h=>hno fun hA=>h (hA.tab i o d t ho hd ht);have hp64:a.size.toNat ^ d.args.length<=64:=Zhj om har
 have hpc:=ZiJ h0 d.args.length;have cA:=Zc7 hd;have cP:=ZmK (z:=a.size) (k:=d.args.length) h0 h4 om;rw [ZaU] at cA;refine fB @q1 ?_;refine fC (aj5 @ho @ht @Zae @Zbp @rt) (cA) ?_;refine fC @e0P (cP) ?_;by_cases hle:t.length=a.size.toNat ^ d.args.length;rotate_left
 ·have z4:((t.length:Int)=a.size ^ d.args.length)=False:=eq_false om;have hf:=hbad fun h=>hle h.len;refine fR @z4 ?_;exact fT @hf
 have z4:((t.length:Int)=a.size ^ d.args.length)=True:=eq_true om;have hz1:IntKind.i64.wrap (a.size - 1)=a.size - 1:=IntWalk.i64_in _ om;refine fR @z4 ?_;refine fG @e0P ?_;have F:=@e0P;refine gL (ι:=Nat) [4,6,55,70] [] (fun k=>[(6,A.d (.one (.lit (.int .i64 k))))]) (fun k=>[]) (fun k=>k<=t.length∧∀ (q:Nat) x,q < k->t[q]?=some x->0<=x∧x < a.size) (fun k=>t.length - k) (0) (⟨Taj _,fun q x h=>absurd h om⟩) (fun k hk=>?_);clear F
 obtain ⟨hkl,hak⟩:=hk;by_cases hlk:k < t.length;rotate_left
 ·obtain rfl:k=t.length:=by omega
  have q3:¬ ((t.length:Int) < (t.length:Int)):=om;have hq:=ZmL ho hd ht hall (Zrx hle hak);have F:=aj4 @q3 @ht @Zbp @hw1;refine gG ?_;exact ⟨i+1,⟨hlt,hq⟩,gw,gw,om⟩
 have q3:(k:Int) < (t.length:Int):=om;have hw3:=Zap (k:=k) om;obtain ⟨x,hx⟩:∃ x,t[k]?=some x:=⟨_,Taa hlk⟩;refine fB (aj4 @q3 @ht @Zbp @rt) ?_;refine fC (aj6 @ht @Zbp @rt @hx @Zao @hz1) (Zcw x 0 (a.size - 1)) ?_;by_cases c1:0<=x∧x<=a.size - 1;rotate_left
 ·have hf:=hbad fun h=>c1 (by have:=h.all x (Tac hx);omega);have y1:decide (0<=x∧x<=a.size - 1)=false:=decide_eq_false c1;refine fR @y1 ?_;exact fT @hf
 have y1:decide (0<=x∧x<=a.size - 1)=true:=decide_eq_true c1;have hq:=ZmM hx hak om;refine fR @y1 ?_;have F:=@hw3;refine gG ?_;exact ⟨k+1,⟨hlk,hq⟩,gw,gw,om⟩
end
end Go.Proofs.YtmdkimnlbaahbaaGreat
