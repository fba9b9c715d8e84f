/-
  Part of a proof: Rg, Rh, Sm, Mm, Ss2, Sd, Sa, Te, Gd, Sg, Tf, Tg, Th, Tk, Vt, Qw, As, Di, Pg, Pq, Gl, Or, Qv, Pv, Ky, By, Bs, Sy, Fi, Fj, Sw, Ka, Kb.
-/
import Derived.Test.YtcgacanpeaiabaaGreatDoorBPathGreaterCard0
import Derived.Test.YtcgacanpeaiabaaGreatDoorBPathGreaterCard1
import Derived.MapKept
import Derived.ChangeMaps5
import Derived.Laws.StructEq
import Derived.Lib.AppendStr
import Derived.Laws.BytesString
set_option linter.unusedSimpArgs false
set_option linter.unusedVariables false
set_option maxHeartbeats 400000000
set_option maxRecDepth 100000
namespace Go.Proofs.YtcgacanpeaiabaaGreatDoor
open Go.RowKit
section
variable {e:Env} {U:Nat->Prop} {w0:World} {S0:Nat->Prop} {nt:Nat} {ops:Array Oper} {n:Nat} {m:List (Nat × Bk)} {s:List (Nat × A)} {αs:List A} {L:Lay}
theorem Zeb {J:Array Bool->Act->World->(Nat->Prop)->Prop} (he:e.Ok) (hH:ZbW ops n=true) (hn:n<=ops.size) (hs:∀ i,n<=i->i < ops.size->∀ j,j < n->Region.waitsFor .any ops i j=true)
  (hsz:∀ (i:Nat) (o:Oper) (d:Nat),i < n->ops[i]?=some o->o.dst=some d->d < nt) (hal:αs.length=n) (hch:Zcf e U w0.heap.size S0 m ops.toList (ops.toList.take n) s αs) {Q:Exit->Act->World->Prop} (hgo:ZgG e U w0 S0 nt m ops n s αs L J Q)
  (hsk:∀ (listed:Array Bool) (a:Act) (w:World) (S:Nat->Prop) (i:Nat) (o:Oper) (d:Nat),J listed a w S->InvA e U w0 S0 nt m ops n s αs L listed a w S->HeadAt ops n i o d->i < n->i∈Region.ready .any ops listed->d < nt->o.guard≠none->J (listed.setIfInBounds i true) (a.put o.dst undef) w S)
  (hend:∀ listed a w S,InvA e U w0 S0 nt m ops n s αs L listed a w S->J listed a w S->(∀ i,i < n->listed.getD i false=true)->wpAny e.P .any ops Q (ops.size - n) (Zbh ops.size n) a w) :
  ∀ (k:Nat) (listed:Array Bool) (a:Act) (w:World) (S:Nat->Prop),InvA e U w0 S0 nt m ops n s αs L listed a w S->J listed a w S->(List.range n).countP (fun i=>!listed.getD i true)=k->wpAny e.P .any ops Q (k+(ops.size - n)) listed a w
 | 0,listed,a,w,S,hI,hJ,hc=>by
  have hall:∀ i,i < n->listed.getD i true=true:=fun i hi=>by
   have:=List.countP_eq_zero.1 hc i (List.mem_range.2 hi)
   simpa using this
  have heq:=ZjG hI.head hn hall
  have hE:=hend listed a w S hI hJ (fun i hi=>by
   have hl:i < listed.size:=by rw [hI.head.size];omega
   rw [<- Zbm hl];exact hall i hi)
  rw [Nat.zero_add,heq]
  exact hE
 | k+1,listed,a,w,S,hI,hJ,hc=>by
  obtain ⟨i0,hi0,hu0⟩:∃ i,i < n∧listed.getD i true=false:=by
   have:0 < (List.range n).countP (fun i=>!listed.getD i true):=by omega
   obtain ⟨i,hi,hp⟩:=List.countP_pos_iff.1 this
   exact ⟨i,List.mem_range.1 hi,by simpa using hp⟩
  rw [show k+1+(ops.size - n)=(k+(ops.size - n))+1 by omega]
  refine ⟨fun h0=>absurd h0 (ZgF hH hI.head hi0 hu0),fun i hr=>?_⟩
  obtain ⟨hun,oi,hoi,hall⟩:=mem_ready.1 hr
  have hin:i < n:=by
   rcases Nat.lt_or_ge i n with h | h
   ·exact h
   ·have hns:n < ops.size:=Nat.lt_of_le_of_lt h (Tbi.1 hoi).1
    obtain ⟨oj,hoj,e1,he1,hb1,hon1⟩:=Region.waitsFor_spec (hs i h (Tbi.1 hoi).1 i0 hi0)
    rw [hoi] at hoj
    injection hoj with hoj
    subst hoj
    have h2:=hall e1 he1 hb1
    rw [hon1] at h2
    have h3:i0 < listed.size:=by rw [hI.head.size];omega
    rw [Zbm h3] at hu0
    rw [h2] at hu0
    cases hu0
  obtain ⟨o,d,hA⟩:=ZbW.get hH hin
  have hoo:oi=o:=by have:=hA.op;rw [hoi] at this;injection this
  subst hoo
  have hls:i < listed.size:=by rw [hI.head.size];exact (Tbi.1 hoi).1
  obtain ⟨α,hα,hst⟩:=hch.get i oi (by rw [List.getElem?_take,if_pos hin];simpa using hoi)
  have htk:(ops.toList.take n).take i=ops.toList.take i:=by rw [List.take_take,Nat.min_eq_left om]
  rw [htk] at hst
  have hdn:=hsz i oi d hin hoi hA.dst
  have hcount:(List.range n).countP (fun j=>!(listed.setIfInBounds i true).getD j true)=k:=by
   have h1:(List.range n).countP (fun j=>!(listed.setIfInBounds i true).getD j true)+1=(List.range n).countP (fun j=>!listed.getD j true):=by
    have hperm:=List.perm_cons_erase (List.mem_range.2 hin)
    rw [hperm.countP_eq,hperm.countP_eq,List.countP_cons,List.countP_cons]
    have hcong:((List.range n).erase i).countP (fun j=>!(listed.setIfInBounds i true).getD j true)=((List.range n).erase i).countP (fun j=>!listed.getD j true):=by
     refine List.countP_congr fun j hj=>?_
     have hne:j≠i:=fun e=>by
      subst e
      exact List.Nodup.not_mem_erase (List.nodup_range) hj
     rw [getD_set_ne true (Ne.symm hne)]
    rw [hcong,hun]
    simp [hls]
   omega
  have hop:∀ x∈oi.op.operands,ARel w S L (evA (after s (ops.toList.take i) (αs.take i)) x) (a.eval x):=fun x hx=>by
   cases x with
   | tmp t =>
    exact hI.operand hH hn hal hA hin hall (fun j p hj hp hpt=>(hA.dep j p hj hp).2 t (List.mem_filterMap.2 ⟨.tmp t,by simpa using hx,rfl⟩) hpt)
   | const v =>
    simp only [evA,Act.eval]
    unfold ZcU
    split
    ·simp only [ARel,DRel,Rep]
     exact ⟨⟨none,0,0,rfl,rfl,Tai _,by decide,fun h=>absurd h (by decide)⟩,none,0,rfl⟩
    ·rename_i vs;exact ⟨vs.toList,rfl,ZbR _⟩
    ·simp [ARel,DRel,Rep]
   | func f =>
    simp only [evA,Act.eval,ARel,DRel,Rep]
    exact ⟨[],rfl,by simp [Zaa]⟩
   | global g=>trivial
  have go:ZaZ e U w0.heap.size S0 m oi (evA (after s (ops.toList.take i) (αs.take i))) α->oi.wp e.P a w (wpAny e.P .any ops Q (k+(ops.size - n)) (listed.setIfInBounds i true)) Q:=fun hG =>
   Oper.wp_mono (fun a' w' ⟨S',hI',hJ'⟩=>Zeb he hH hn hs hsz hal hch hgo hsk hend k _ _ _ S' hI' hJ' hcount) (hgo listed a w S i oi d α hI hJ hA hin hr hdn hα hop hG)
  unfold wpOp
  simp only [hoi]
  unfold ZeB at hst
  cases hg:oi.guard with
  | none =>
   rw [hg] at hst
   have hwt:Region.wanted oi (yielded ops a.tmps)=true:=by simp [Region.wanted,hg]
   rw [if_pos hwt]
   exact .inl (go hst)
  | some jw =>
   obtain ⟨j,want⟩:=jw
   rw [hg] at hst
   obtain ⟨hjn,hjw⟩:=hA.guard j want hg
   have hrelD:∀ dj,((ops[j]?).bind (·.dst))=some dj->ARel w S L (gs (after s (ops.toList.take i) (αs.take i)) dj) (a.tmps.getD dj undef):=fun dj hdj=>hI.operand hH hn hal hA hin hall (t:=dj) (fun j' p hj' hp hpt=>by
    obtain ⟨p0,d0,hP0⟩:=ZbW.get hH hjn
    have hd0:d0=dj:=by have:=hdj;rw [hP0.op] at this;simp [hP0.dst] at this;exact this
    by_cases hjj:j'=j
    ·rw [hjj];exact hjw
    ·exact absurd (by rw [hpt,hd0]) ((hP0.dep j' p hj' hp).1 hjj))
   rcases hst with ⟨b,hb1,hb2⟩ | ⟨hb1,hb2⟩
   rotate_left
   ·simp only [Tau] at hb1
    obtain ⟨dj,hd1,hd2⟩:=hb1
    have hdj:((ops[j]?).bind (·.dst))=some dj:=by simpa using Zdz hd1
    have hrel:=hrelD dj hdj
    rw [hd2] at hrel
    rw [ZgE hg hdj hrel]
    subst hb2
    simp only [Tam,if_false]
    exact Zeb he hH hn hs hsz hal hch hgo hsk hend k _ _ _ S (hI.put hH hA hin hr hdn hα (fun _ h=>h) hI.cls (Kept.refl _ _ _ _) rfl) (hsk listed a w S i oi d hJ hI hA hin hr hdn (by rw [hg];simp)) hcount
   simp only [Tau] at hb1
   obtain ⟨dj,hd1,hd2⟩:=hb1
   have hdj:((ops[j]?).bind (·.dst))=some dj:=by simpa using Zdz hd1
   have hrel:=hrelD dj hdj
   rw [hd2] at hrel
   have h4:=ZgD hrel.bool
   have hwt:Region.wanted oi (yielded ops a.tmps)=decide (b=want):=by
    have h6:yielded ops a.tmps j=some b:=by unfold yielded;rw [hdj];simp only [Option.bind_some,h4]
    simp only [Region.wanted,hg,h6]
    cases b <;> cases want <;> rfl
   rw [hwt]
   by_cases hbw:b=want
   ·rw [if_pos hbw] at hb2
    simp only [hbw,decide_true,if_true]
    exact .inl (go hb2)
   ·rw [if_neg hbw] at hb2
    subst hb2
    simp only [hbw,decide_false,Tam,if_false]
    exact Zeb he hH hn hs hsz hal hch hgo hsk hend k _ _ _ S (hI.put hH hA hin hr hdn hα (fun _ h=>h) hI.cls (Kept.refl _ _ _ _) rfl) (hsk listed a w S i oi d hJ hI hA hin hr hdn (by rw [hg];simp)) hcount
theorem ZlE {σ:St} (hH:ZbW ops n=true) (hn:n<=ops.size) (hal:αs.length=n) {listed:Array Bool} {a':Act} {w':World} {S':Nat->Prop} (hI:InvA e U w0 S0 nt σ.m ops n σ.s αs L listed a' w' S') (hall:∀ i,i < n->listed.getD i false=true):Sim e U w0 S0 nt ⟨after σ.s (ops.toList.take n) αs,σ.m⟩ a' w' S' L:=by
 refine ⟨hI.cls,fun t=>?_,hI.size,hI.defers,hI.kept⟩
 by_cases hex:∃ (j:Nat) (p:Oper),j < n∧ops[j]?=some p∧p.dst=some t
 ·obtain ⟨j,p,hj,hp,hpt⟩:=hex
  obtain ⟨p',d',hP⟩:=ZbW.get hH hj
  have hpp:p'=p:=by have:=hP.op;rw [hp] at this;injection this with this;exact this.symm
  subst hpp
  have hdt:d'=t:=by have:=hP.dst;rw [hpt] at this;injection this with this;exact this.symm
  subst hdt
  obtain ⟨α,hα⟩:∃ α,αs[j]?=some α:=⟨αs[j],Taa om⟩
  show ARel w' S' L (gs (after σ.s (ops.toList.take n) αs) d') _
  rw [Zdh (ops.toList.take n) αs σ.s j p' α (by rw [List.getElem?_take,if_pos hj];simpa using hp) hα hpt (fun k q hk hq=>by
   rw [List.getElem?_take] at hq
   split at hq
   ·exact (hP.dep k q om (by simpa using hq)).1 hk
   ·cases hq)]
  exact hI.done j p' d' α hj (hall j hj) hp hpt hα
 ·have hno:∀ (j:Nat) (p:Oper),j < n->ops[j]?=some p->p.dst≠some t:=fun j p hj hp hd=>hex ⟨j,p,hj,hp,hd⟩
  show ARel w' S' L (gs (after σ.s (ops.toList.take n) αs) t) _
  rw [Zcx _ _ _ (fun p hp=>by
   obtain ⟨j,hj⟩:=List.mem_iff_getElem?.1 hp
   rw [List.getElem?_take] at hj
   split at hj
   ·exact hno j p om (by simpa using hj)
   ·cases hj)]
  exact hI.out t hno
end
def Zhb (e:Env) (ds:List (Option Nat)) (ops:Array Oper) (K:St->Prop):Nat->Array Bool->St->Prop
 | 0,listed,σ=>Region.ready .any ops listed=[]∧K σ
 | f+1,listed,σ=>(Region.ready .any ops listed=[]->K σ)∧∀ i∈Region.ready .any ops listed,∃ o,ops[i]?=some o∧o.guard=none∧Zbc e o σ (fun σ'=>Runs e ds 0 [] σ' (Zhb e ds ops K f (listed.setIfInBounds i true)))
section
variable {e:Env} {U:Nat->Prop} {w0:World} {S0:Nat->Prop} {nt:Nat}
theorem ZlF (he:e.Ok) {ops:Array Oper} {K:St->Prop} {Q:Exit->Act->World->Prop} (hQ:∀ a w σ',K σ'->SimE e U w0 S0 nt σ' a w->Q .normal a w) (hd:∀ o∈ops.toList,∀ d,o.dst=some d->d < nt) :
  ∀ (f:Nat) (listed:Array Bool) (σ:St) (a:Act) (w:World),SimE e U w0 S0 nt σ a w->Zhb e (ops.toList.map (·.dst)) ops K f listed σ->wpAny e.P .any ops Q f listed a w
 | 0,listed,σ,a,w,hs,h=>⟨h.1,hQ a w σ h.2 hs⟩
 | f+1,listed,σ,a,w,hs,h=>by
  refine ⟨fun h0=>hQ a w σ (h.1 h0) hs,fun i hi=>?_⟩
  obtain ⟨o,ho,hg,hst⟩:=h.2 i hi
  unfold wpOp
  simp only [ho]
  have hw:Region.wanted o (yielded ops a.tmps)=true:=by simp [Region.wanted,hg]
  rw [if_pos hw]
  have hmem:o∈ops.toList:=Tac (by simpa using ho)
  refine .inl (Oper.wp_mono (fun a' w' ⟨σ',hr,hs'⟩=>?_) (hst he U w0 S0 nt a w Q (hd o hmem) hs))
  exact hr he U w0 S0 nt a' w' ops.toList (fun _ a w=>wpAny e.P .any ops Q f (listed.setIfInBounds i true) a w) rfl (fun o ho=>by simp at ho) (fun a w σ'' hK hs''=>ZlF he hQ hd f _ σ'' a w hs'' hK) hs'
def ZAx (ops:Array Oper) (n:Nat):Bool:=(List.range ops.size).all fun i=>decide (i < n) || (List.range n).all fun j=>Region.waitsFor .any ops i j
def regT (ops:Array Oper) (n:Nat):Bool:=ZbW ops n && decide (n<=ops.size) && ZAx ops n
theorem ZlG (he:e.Ok) {id:Nat} {ops:Array Oper} {n:Nat} (hB:regT ops n=true) {K:St->Prop} {Q:Exit->Act->World->Prop} (hQ:∀ a w σ',K σ'->SimE e U w0 S0 nt σ' a w->Q .normal a w) {σ:St} {a:Act} {w:World}
  (hd:∀ o∈ops.toList,∀ d,o.dst=some d->d < nt) (h:SimE e U w0 S0 nt σ a w) (hp:Runs e (ops.toList.map (·.dst)) (n+1) (ops.toList.take n) σ (Zhb e (ops.toList.map (·.dst)) ops K (ops.size - n) (Zbh ops.size n))):(Code.region id ops true).wp e.P Q a w:=by
 simp only [regT,Tar,decide_eq_true_eq] at hB
 obtain ⟨⟨hH,hn⟩,hs0⟩:=hB
 have hs:∀ i,n<=i->i < ops.size->∀ j,j < n->Region.waitsFor .any ops i j=true:=fun i h1 h2 j h3=>by
  have k1:=List.all_eq_true.1 hs0 i (List.mem_range.2 h2)
  simp only [Bool.or_eq_true,decide_eq_true_eq] at k1
  rcases k1 with k1 | k1
  ·omega
  ·exact List.all_eq_true.1 k1 j (List.mem_range.2 h3)
 obtain ⟨S,L,h1⟩:=h.drew he
 refine wp_region_any he.mixed ?_
 have hlen:(ops.toList.take n).length=n:=by simp;omega
 have hp':Runs e (ops.toList.map (·.dst)) ((ops.toList.take n).length+1) (ops.toList.take n++[]) σ (Zhb e (ops.toList.map (·.dst)) ops K (ops.size - n) (Zbh ops.size n)):=by rw [List.append_nil,hlen];exact hp
 obtain ⟨αs,hal,hch,hrest⟩:=ZdH (U:=U) he w0.heap.size S0 ops.toList [] 1 (ops.toList.take n) σ (fun h=>absurd h (by decide)) hp'
 rw [hlen] at hal
 simp only [Runs] at hrest
 have inv0:InvA e U w0 S0 nt σ.m ops n σ.s αs L (Array.replicate ops.size false) a { w with drawn:=w.drawn+1 } S :=
  ⟨⟨by simp,fun j oj _ hl=>(by rw [getD_replicate_false] at hl;cases hl),fun t _ ht=>getD_in (by simpa using ht) (getD_replicate_false _ _)⟩,h1.size,h1.defers,h1.cls,h1.kept,fun t _=>h1.rel t,fun i o d α _ hl=>(by rw [getD_replicate_false] at hl;cases hl)⟩
 have H:=Zeb (e:=e) (L:=L) (Q:=Q) he hH hn hs (fun i o d hi ho hdd=>hd o (List.mem_iff_getElem?.2 ⟨i,by simpa using ho⟩) d hdd) hal hch (Zhv hH Q) (fun _ _ _ _ _ _ _ _ _ _ _ _ _ _=>trivial) (fun listed a' w' S' hI _ hall=>?_) n _ a _ S inv0 trivial ?_
 ·rw [show n+(ops.size - n)=ops.size by omega] at H
  exact H
 ·exact ZlF he hQ hd _ _ _ a' w' ⟨S',L,ZlE hH hn hal hI hall⟩ hrest
 ·rw [List.countP_eq_length.2]
  ·simp
  ·intro i hi
   have hi':=List.mem_range.1 hi
   have hsz:i < (Array.replicate ops.size false).size:=by simp;omega
   rw [Zbm hsz,getD_replicate_false]
   rfl
end
section
variable {e:Env} {U:Nat->Prop} {w0:World} {S0:Nat->Prop} {nt:Nat}
structure AppAt (P:Program) (σ:St) (o:Oper) (d ety sz:Nat) (rows:List (List C)):Prop where
 at':∃ (x y:Operand) (args:Array Operand) (ts:Array TypeId) (t by':Nat) (r1 ys:List (List C)),o.op=.call ⟨.builtin .append,args,ts⟩∧args.toList=[x,y]∧evA σ.s x=.d (.clip r1)∧slA [] (evA σ.s y)=some ys∧ts[0]?=some t∧ts[1]?=some t∧ZaF P t=some (ety,sz,by') ∧
  ZaE sz r1=true∧ZaE sz ys=true∧r1.length+ys.length<=maxApp∧(r1=[]∨ys≠[])∧rows=r1++ys
 dst:o.dst=some d
 guard:o.guard=none
theorem Zvk {m:List (Nat × Bk)} {y:A} {ys:List (List C)} (h:slA [] y=some ys):slA m y=some ys:=by
 unfold slA at h ⊢
 split at h <;> simp_all [gm,bufA]
theorem AppAt.run (he:e.Ok) {σ:St} {o:Oper} {d ety sz:Nat} {rows:List (List C)} (hA:AppAt e.P σ o d ety sz rows) {m:List (Nat × Bk)} {w:World} {S:Nat->Prop} {L:Lay} {ρv:Operand->Value} (hC:Cls e U w0.heap.size S0 m w S L) (hr:∀ x,x∈o.op.operands->ARel w S L (evA σ.s x) (ρv x)) :
  ∃ v' w',(execOp ρv o).run e.P w=.ok (.value v') w'∧ZaG w' S ety sz rows v'∧Kept e.D (fun _=>False) w.heap.size w w'∧∀ g,vblk v'=some g->w.heap.size<=g:=by
 obtain ⟨x,y,args,ts,t,by',r1,ys,ho,hargs,hx,hy,h0,h1,hb,hr1,hys,hle,hne,rfl⟩:=hA.at'
 have hx':=hr x (by rw [ho];simp [Op.operands,Call.operands,hargs,<- Array.mem_toList_iff])
 have hy':=hr y (by rw [ho];simp [Op.operands,Call.operands,hargs,<- Array.mem_toList_iff])
 rw [hx] at hx'
 have hx':DRel w S (.clip r1) (ρv x):=hx'
 have hyl:=ZaX.1 hys
 have hyf:=ZjJ (σ:=⟨[],m⟩) hC (Zvk hy) hy' hyl
 obtain ⟨v',w',hrun,hbuf,τ,hk,hτ,hg⟩:=ZfQ (σ:=⟨[],m⟩) (ty:=o.type) he hC h0 h1 hb (.inr ⟨hx',hne⟩) (ZaX.1 hr1) hyl hle hyf
 have hτn:∀ g,τ≠some g:=fun g e1=>by
  obtain ⟨h2,h3⟩:=hτ g e1
  obtain ⟨h4,a,n,h5⟩:=hx'
  rw [h5] at h2 h3 h4
  simp only [Rep] at h4
  obtain ⟨A,n',cap,h6,h7,_,_,h8⟩:=h4
  injection h6 with h6 h9 h10
  subst h6 h9
  cases a with
  | none=>simp [vblk] at h2
  | some q =>
   simp only [vblk] at h2
   split at h2
   ·cases h2
   ·rename_i hn0
    injection h2 with h2
    obtain ⟨b,off,h11,hS,_⟩:=h8 om
    injection h11 with h11
    obtain ⟨_,_,h12⟩:=h3
    rcases h12 with ⟨h12,_⟩ | ⟨g',cap',cur,h13,_,_,h14,_⟩
    ·rw [h12] at h7;simp at h7;omega
    ·injection h13 with h13 _ _
     injection h13 with h13
     rw [h13] at h11
     injection h11 with h11
     exact h14 (h11 ▸ hS)
 refine ⟨v',w',?_,hbuf,⟨hk.os,hk.tape,hk.output,hk.drawn,hk.size,fun k hk' hn=>hk.block k hk' (fun e1=>hτn k e1)⟩,fun g hg'=>?_⟩
 ·have ha:args.map ρv=#[ρv x,ρv y]:=by apply Array.toList_inj.1;simp [hargs]
  simp [execOp,ho,resolve,invoke,builtin,ha,hrun,Result.andThen]
 ·rcases hg g hg' with e1 | e1
  ·exact (hτn g e1).elim
  ·exact e1
theorem AppAt.gives (he:e.Ok) {σ:St} {o:Oper} {d ety sz:Nat} {rows:List (List C)} (hA:AppAt e.P σ o d ety sz rows) {m:List (Nat × Bk)}:ZaZ e U w0.heap.size S0 m o (evA σ.s) .undef:=by
 intro w S L ρv hC hr
 obtain ⟨v',w',h1,_,h3,_⟩:=hA.run he hC hr
 have hk:Kept e.D e.E w.heap.size w w':=⟨h3.os,h3.tape,h3.output,h3.drawn,h3.size,fun k hk hn=>h3.block k hk id⟩
 unfold Go.Proofs.YtcgacanpeaiabaaGreatDoor.gives
 rw [h1]
 exact ⟨S,⟨fun _ h=>h,fun _ h=>.inl h⟩,hC.later hk (he.keep _ _ h3.size (fun b hE=>h3.block b (Tba (hC.ein b hE) hC.bsz) id) hC.g) (fun _ h=>h) (fun _ h=>.inl h),hk,trivial⟩
def ZkO (base p d ety sz:Nat) (rows:List (List C)) (m:List (Nat × Bk)) (L:Lay) (listed:Array Bool) (a:Act) (w:World) (S:Nat->Prop):Prop :=
 listed.getD p false=true->(∀ g,vblk (a.tmps.getD d undef)=some g->base<=g∧g < w.heap.size∧¬ S g∧∀ k bk,gm m k=some bk->¬ ZaB L k bk g)∧ZaG w S ety sz rows (a.tmps.getD d undef)
theorem ZjZ {m:List (Nat × Bk)} {base:Nat} {l:List Oper}:∀ (xs ys:List Oper) (s:List (Nat × A)) (us bs:List A),us.length=xs.length->Zcf e U base S0 m l xs s us->Zcf e U base S0 m l ys (after s xs us) bs->Zcf e U base S0 m l (xs++ys) s (us++bs)
 | [],ys,s,[],bs,_,_,h2=>h2
 | x::xs,ys,s,a::us,bs,hl,h1,h2=>⟨h1.1,ZjZ xs ys _ us bs (by simpa using hl) h1.2 h2⟩
 | [],_,_,_::_,_,hl,_,_=>by simp at hl
 | _::_,_,_,[],_,hl,_,_=>by simp at hl
theorem Zj0:∀ (xs ys:List Oper) (s:List (Nat × A)) (us bs:List A),us.length=xs.length->after s (xs++ys) (us++bs)=after (after s xs us) ys bs
 | [],ys,s,[],bs,_=>rfl
 | x::xs,ys,s,a::us,bs,hl=>Zj0 xs ys _ us bs (by simpa using hl)
 | [],_,_,_::_,_,hl=>by simp at hl
 | _::_,_,_,[],_,hl=>by simp at hl
theorem ZhC (he:e.Ok) (base:Nat) (S0:Nat->Prop) (l:List Oper) {K:St->Prop} {k:Nat} {os:List Oper} {σ:St} (hk:k=os.length+1) (h:Runs e (l.map (·.dst)) k os σ K):∃ αs,αs.length=os.length∧Zcf e U base S0 σ.m l os σ.s αs∧K ⟨after σ.s os αs,σ.m⟩:=by
 subst hk
 have h':Runs e (l.map (·.dst)) (os.length+1) (os++[]) σ K:=by rw [List.append_nil];exact h
 obtain ⟨αs,h1,h2,h3⟩:=ZdH (U:=U) he base S0 l [] 1 os σ (fun h=>absurd h (by decide)) h'
 simp only [Runs] at h3
 exact ⟨αs,h1,h2,h3⟩
theorem Zvl (he:e.Ok) {id:Nat} {ops:Array Oper} {n p d ety sz:Nat} {rows:List (List C)} {o0:Oper} (hop:ops[p]?=some o0) (hpn:p < n) (hB:regB ops n=true) {K:St->Prop} {Q:Exit->Act->World->Prop} (hQ:∀ a w σ',K σ'->SimE e U w0 S0 nt σ' a w->Q .normal a w) {σ:St} {a:Act} {w:World}
  (hd:∀ o∈ops.toList,∀ d,o.dst=some d->d < nt) (h:SimE e U w0 S0 nt σ a w)
  (hp:Runs e (ops.toList.map (·.dst)) (p+1) (ops.toList.take p) σ (fun σ1=>AppAt e.P σ1 o0 d ety sz rows∧Runs e (ops.toList.map (·.dst)) (n - p) ((ops.toList.take n).drop (p+1)) ⟨(d,.undef)::σ1.s,σ1.m⟩ (fun σ2=>Runs e (ops.toList.map (·.dst)) 0 (ops.toList.drop n) ⟨(d,.buf d)::Zao d σ2.s,(d,.buf none ety sz rows)::remM d σ2.m⟩ K))):(Code.region id ops true).wp e.P Q a w:=by
 simp only [regB,Tar,Bool.or_eq_true,decide_eq_true_eq] at hB
 obtain ⟨⟨⟨hH,hn⟩,hs⟩,hsq⟩:=hB
 obtain ⟨S,L,h1⟩:=h.drew he
 refine wp_region_any he.mixed ?_
 have hlen:(ops.toList.take p).length=p:=by simp;omega
 have hlen2:((ops.toList.take n).drop (p+1)).length=n - p - 1:=by simp;omega
 obtain ⟨αs0,hal0,hch0,hrest0⟩:=ZhC (U:=U) he w0.heap.size S0 ops.toList (by rw [hlen]) hp
 rw [hlen] at hal0
 obtain ⟨hApp,hrest1⟩:=hrest0
 obtain ⟨αs1,hal1,hch1,hrest2⟩:=ZhC (U:=U) he w0.heap.size S0 ops.toList (by rw [hlen2];omega) hrest1
 rw [hlen2] at hal1
 have hpl:ops.toList[p]?=some o0:=by simpa using hop
 have htake:ops.toList.take n=ops.toList.take p++(o0::(ops.toList.take n).drop (p+1)):=by
  have e1:(ops.toList.take n)[p]?=some o0:=by rw [List.getElem?_take,if_pos hpn];exact hpl
  have e2:(ops.toList.take n).drop p=o0::(ops.toList.take n).drop (p+1):=by
   rw [List.drop_eq_getElem_cons (Tad.1 e1).1,(Tad.1 e1).2]
  have e3:(ops.toList.take n).take p=ops.toList.take p:=by rw [List.take_take,Nat.min_eq_left om]
  rw [<- e2,<- e3,Tbj]
 have hal:(αs0++(A.undef::αs1)).length=n:=by simp [hal0,hal1];omega
 have hset:setA (after σ.s (ops.toList.take p) αs0) o0.dst A.undef=(d,A.undef)::after σ.s (ops.toList.take p) αs0:=by rw [hApp.dst];rfl
 have hch:Zcf e U w0.heap.size S0 σ.m ops.toList (ops.toList.take n) σ.s (αs0++(A.undef::αs1)):=by
  rw [htake]
  refine ZjZ _ _ _ _ _ (by rw [hal0,hlen]) hch0 ⟨?_,?_⟩
  ·unfold ZeB
   rw [hApp.guard]
   exact hApp.gives he
  ·rw [hset];exact hch1
 have haf:after σ.s (ops.toList.take n) (αs0++(A.undef::αs1))=after ((d,A.undef)::after σ.s (ops.toList.take p) αs0) ((ops.toList.take n).drop (p+1)) αs1:=by
  conv=>lhs;rw [htake]
  rw [Zj0 _ _ _ _ _ (by rw [hal0,hlen])]
  simp only [after,hset]
 have inv0:InvA e U w0 S0 nt σ.m ops n σ.s (αs0++(A.undef::αs1)) L (Array.replicate ops.size false) a { w with drawn:=w.drawn+1 } S :=
  ⟨⟨by simp,fun j oj _ hl=>(by rw [getD_replicate_false] at hl;cases hl),fun t _ ht=>getD_in (by simpa using ht) (getD_replicate_false _ _)⟩,h1.size,h1.defers,h1.cls,h1.kept,fun t _=>h1.rel t,fun i o d α _ hl=>(by rw [getD_replicate_false] at hl;cases hl)⟩
 have hJ0:ZkO w0.heap.size p d ety sz rows σ.m L (Array.replicate ops.size false) a { w with drawn:=w.drawn+1 } S:=fun hl=>by rw [getD_replicate_false] at hl;cases hl
 have hA0:∀ {i':Nat} {o':Oper} {d':Nat},HeadAt ops n i' o' d'->i'≠p->d'≠d:=fun hA hne e'=>by
  have:=(hA.dep p _ hpn hop).1 (Ne.symm hne)
  exact this (by rw [hApp.dst,e'])
 have hgo:ZgG e U w0 S0 nt σ.m ops n σ.s (αs0++(A.undef::αs1)) L (ZkO w0.heap.size p d ety sz rows σ.m L) Q:=by
  intro listed a w S i' o' d' α hI hJ hA hin hr hdn hα hopd hG'
  by_cases hip:i'=p
  ·subst hip
   have ho':o'=o0:=by have:=hA.op;rw [hop] at this;injection this with this;exact this.symm
   subst ho'
   have hdd:d'=d:=by have:=hA.dst;rw [hApp.dst] at this;injection this with this;exact this.symm
   subst hdd
   have hau:α=A.undef:=by rw [Tbn om,hal0] at hα;simpa using hα.symm
   subst hau
   have hC:=hI.cls
   have htk:(αs0++(A.undef::αs1)).take i'=αs0:=by rw [<- hal0];exact List.take_left
   rw [htk] at hopd
   obtain ⟨v',w',q1,q2,q3,q4⟩:=hApp.run he hC hopd
   have hk:Kept e.D e.E w.heap.size w w':=⟨q3.os,q3.tape,q3.output,q3.drawn,q3.size,fun k hk hn=>q3.block k hk (fun h=>h)⟩
   have hC':Cls e U w0.heap.size S0 σ.m w' S L:=hC.later hk (he.keep _ _ q3.size (fun b hE=>q3.block b (Tba (hC.ein b hE) hC.bsz) (fun h=>h)) hC.g) (fun _ h=>h) (fun _ h=>.inl h)
   unfold Oper.wp
   rw [q1,Oper.upon_value]
   have hput:(a.put o'.dst v').tmps.getD d' undef=v':=by
    rw [hA.dst,ZbN (by rw [hI.size];exact hdn)]
    simp
   refine ⟨S,hI.put hH hA hin hr hdn hα (fun _ h=>h) hC' hk trivial,fun _=>?_⟩
   rw [hput]
   refine ⟨fun g hg=>?_,q2⟩
   have hge:=q4 g hg
   refine ⟨Tbb hC.bsz hge,?_,fun hs=>by have:=(hC.sin _ hs).1;omega,fun k bk hk hg=>by have:=hC.blk_lt hk hg;omega⟩
   exact (Own1.lt (L:=⟨fun _=>0,fun _=>v'⟩) (k:=0) (bk:=.buf none ety sz rows) ⟨by simp,q2⟩ hg).1
  ·refine ZdU (hG' w S L a.eval hI.cls hopd) fun v' w' ⟨S',hS,hC,hk,hv'⟩=>⟨S',hI.put hH hA hin hr hdn hα hS.1 hC hk hv',fun hl=>?_⟩
   rw [getD_set_ne false hip] at hl
   obtain ⟨q1,q2⟩:=hJ hl
   have hput:(a.put o'.dst v').tmps.getD d undef=a.tmps.getD d undef:=by
    rw [hA.dst,ZbN (by rw [hI.size];exact hdn),if_neg (Ne.symm (hA0 hA hip))]
   rw [hput]
   have hnS:∀ g,vblk (a.tmps.getD d undef)=some g->¬ S' g:=fun g hg hs=>by
    obtain ⟨_,k2,k3,_⟩:=q1 g hg
    rcases hS.2 g hs with hs | hs
    ·exact k3 hs
    ·omega
   refine ⟨fun g hg=>⟨(q1 g hg).1,Tba (q1 g hg).2.1 hk.size,hnS g hg,(q1 g hg).2.2.2⟩,q2.keep hk.size (hI.cls.cell hk) hS.1 fun g hg=>⟨hk.block g (q1 g hg).2.1 (fun hE=>by have:=hI.cls.ein g hE;have:=(q1 g hg).1;omega),hnS g hg⟩⟩
 have hskp:∀ (listed:Array Bool) (a:Act) (w:World) (S:Nat->Prop) (i':Nat) (o':Oper) (d':Nat),ZkO w0.heap.size p d ety sz rows σ.m L listed a w S->InvA e U w0 S0 nt σ.m ops n σ.s (αs0++(A.undef::αs1)) L listed a w S->HeadAt ops n i' o' d'->i' < n->i'∈Region.ready .any ops listed->d' < nt->o'.guard≠none->ZkO w0.heap.size p d ety sz rows σ.m L (listed.setIfInBounds i' true) (a.put o'.dst undef) w S:=by
  intro listed a w S i' o' d' hJ hI hA hin hr hdn hg hl
  have hip:i'≠p:=fun e'=>by
   subst e'
   have:=hA.op
   rw [hop] at this
   injection this with this
   rw [<- this] at hg
   exact hg hApp.guard
  rw [getD_set_ne false hip] at hl
  have hput:(a.put o'.dst undef).tmps.getD d undef=a.tmps.getD d undef:=by
   rw [hA.dst,ZbN (by rw [hI.size];exact hdn),if_neg (Ne.symm (hA0 hA hip))]
  rw [hput]
  exact hJ hl
 have H:=ZcM (e:=e) (L:=L) (Q:=Q) he hH hn (fun hlt=>by
   rcases hs with hs | hs
   ·omega
   ·exact hs) hsq (fun i o d hi ho hdd=>hd o (List.mem_iff_getElem?.2 ⟨i,by simpa using ho⟩) d hdd) hal hch hgo hskp (fun listed a' w' S' hI hJ hall=>?_) n _ a _ S inv0 hJ0 ?_
 ·rw [show n+(ops.size - n)=ops.size by omega] at H
  exact H
 ·have hsim:=ZlE hH hn hal hI hall
  rw [haf] at hsim
  obtain ⟨q1,q2⟩:=hJ (hall p hpn)
  have hdn:d < nt:=hd _ (List.mem_iff_getElem?.2 ⟨p,hpl⟩) d hApp.dst
  have hsimB:=hsim.bornE (bk:=.buf none ety sz rows) (w':=w') (b':=0) (v':=a'.tmps.getD d undef) (u:=a'.tmps.getD d undef) (τ:=vblk (a'.tmps.getD d undef)) (s1:=after ((d,A.undef)::after σ.s (ops.toList.take p) αs0) ((ops.toList.take n).drop (p+1)) αs1) (m1:=σ.m) (α:=.buf d) (S':=S') hdn (fun _ h=>h) (fun _ h=>.inl h) (fun t=>.inl rfl) (fun k x h=>h)
   (fun g hg=>⟨(q1 g hg).2.2.1,fun hE=>by have:=hI.cls.ein _ hE;have:=(q1 g hg).1;omega,.inl (q1 g hg).1⟩) (fun k x g hkd hx hg hb=>(q1 g hg).2.2.2 k x hx hb)
   (Kept.refl _ _ _ _) hI.cls.g (by
    simp only [Own1,if_true]
    exact ⟨by simp,q2⟩)
   (fun g hg=>by simp only [ZaB,if_true] at hg;exact .inl hg) (by simp [ARel])
  have hsimD:SimE e U w0 S0 nt ⟨(d,.buf d)::Zao d (after ((d,A.undef)::after σ.s (ops.toList.take p) αs0) ((ops.toList.take n).drop (p+1)) αs1),(d,.buf none ety sz rows)::remM d σ.m⟩ a' w':=by
   obtain ⟨S2,L2,k1,k2,k3,k4,k5⟩:=hsimB
   refine ⟨S2,L2,k1,fun t=>?_,hI.size,hI.defers,k5⟩
   have:=k2 t
   rw [ZbN (by rw [hI.size];exact hdn)] at this
   by_cases ht:t=d
   ·rw [if_pos ht] at this;rw [ht];rw [ht] at this;exact this
   ·rw [if_neg ht] at this;exact this
  have:=hrest2 he U w0 S0 nt a' w' ops.toList Q rfl (fun o ho=>hd o (List.mem_of_mem_drop ho)) hQ hsimD
  simpa using this
 ·rw [List.countP_eq_length.2]
  ·simp
  ·intro i hi
   have hi':=List.mem_range.1 hi
   have hsz:i < (Array.replicate ops.size false).size:=by simp;omega
   rw [Zbm hsz,getD_replicate_false]
   rfl
end
section
variable {e:Env} {mask:Nat} {Q:PX->St->Prop} {ds:List (Option Nat)}
theorem ZpU {nt:Nat} {id:Nat} {ops:Array Oper} {fl:Bool} (hok:ZbA nt (.region id ops fl)=true):∀ o∈ops.toList,∀ d,o.dst=some d->d < nt:=fun o ho d hd=>by
 simp only [ZbA] at hok
 have:=List.all_eq_true.1 hok o ho
 rw [hd] at this
 simpa using this
theorem Zvm {id:Nat} {ops:Array Oper} {σ:St} {n p d ety sz:Nat} {rows:List (List C)} {o0:Oper} (hop:ops[p]?=some o0) (hpn:p < n) (hn:regB ops n=true) (hp:Runs e (ops.toList.map (·.dst)) (p+1) (ops.toList.take p) σ (fun σ1=>AppAt e.P σ1 o0 d ety sz rows∧Runs e (ops.toList.map (·.dst)) (n - p) ((ops.toList.take n).drop (p+1)) ⟨(d,.undef)::σ1.s,σ1.m⟩ (fun σ2=>Runs e (ops.toList.map (·.dst)) 0 (ops.toList.drop n) ⟨(d,.buf d)::Zao d σ2.s,(d,.buf none ety sz rows)::remM d σ2.m⟩ (Zdq mask Q)))):pwp e mask (.region id ops true) σ Q:=fun he U w0 S0 nt a w hok hs =>
 Zvl he hop hpn hn (fun a w σ' h1 h2=>⟨_,h1,h2.weak (fun t=>Zk8 mask t σ'.s) (fun _ _ h=>h)⟩) (ZpU hok) hs hp
theorem gA {id:Nat} {l l1 l2 l3:List Oper} {s s1 s2 s3:List (Nat × A)} {m m1 m2 m3:List (Nat × Bk)} {x y:Operand} {t ty d ety sz by':Nat} {pos:String} {aft:Array Edge} {r1 ys:List (List C)} (n p:Nat) (hle:r1.length+ys.length<=maxApp) (hne:r1=[]∨ys≠[]) (hK:Runs e ds 0 l3 ⟨(d,.buf d)::s3,(d,.buf none ety sz (r1++ys))::m3⟩ (Zdq mask Q))
  (hop:l[p]?=some ⟨some d,.call ⟨.builtin .append,#[x,y],#[t,t]⟩,ty,pos,aft,none⟩:=by exact rfl) (hB:regB l.toArray n=true:=by decide +kernel) (hpn:p < n:=by decide) (hds:l.map (·.dst)=ds:=by exact rfl) (h1l:l.take p=l1:=by exact rfl) (h2l:(l.take n).drop (p+1)=l2:=by exact rfl) (h3l:l.drop n=l3:=by exact rfl)
  (h1:Zbn e.P ds (p+1) l1 ⟨s,m⟩=.done ⟨s1,m1⟩:=by exact sfv) (hx:evA s1 x=.d (.clip r1):=by exact sfx) (hy:slA [] (evA s1 y)=some ys:=by exact sfx)
  (hb:ZaF e.P t=some (ety,sz,by'):=by exact sfx) (hr1:ZaE sz r1=true:=by simp only [pz,↓reduceIte,Nat.reduceEqDiff,Nat.reduceAdd,Nat.reduceSub,Nat.reduceMul,Nat.reduceLeDiff,Nat.reduceBEq,Tam,decide_true,decide_false,Int.reduceLE,Int.reduceToNat,Int.reduceLT,Int.reduceEq,eq_self,Nat.reduceShiftRight,Nat.reduceAnd,Nat.reduceBneDiff,F]) (hys:ZaE sz ys=true:=by simp only [pz,↓reduceIte,Nat.reduceEqDiff,Nat.reduceAdd,Nat.reduceSub,Nat.reduceMul,Nat.reduceLeDiff,Nat.reduceBEq,Tam,decide_true,decide_false,Int.reduceLE,Int.reduceToNat,Int.reduceLT,Int.reduceEq,eq_self,Nat.reduceShiftRight,Nat.reduceAnd,Nat.reduceBneDiff,F])
  (h2:Zbn e.P ds (n - p) l2 ⟨(d,.undef)::s1,m1⟩=.done ⟨s2,m2⟩:=by exact sfv) (hk:Zao d s2=s3:=by exact snv) (hr:remM d m2=m3:=by exact snv):pwp e mask (.region id l.toArray true) ⟨s,m⟩ Q:=by
 subst hds h1l h2l h3l hk hr
 exact Zvm (ops:=l.toArray) (by simpa using hop) hpn hB (Zfe h1 ⟨⟨⟨x,y,#[x,y],#[t,t],t,by',r1,ys,rfl,rfl,hx,hy,rfl,rfl,hb,hr1,hys,hle,hne,rfl⟩,rfl,rfl⟩,Zfe h2 hK⟩)
end
section
variable {e:Env} {mask:Nat} {Q:PX->St->Prop} {ds:List (Option Nat)}
theorem ZAd {P:Program} {o:Oper} {a:Act} {w:World} {K:Act->World->Prop} {Q0 Q:Exit->Act->World->Prop} (h0:∀ ex a w,ex≠.normal->¬ Q0 ex a w) (hh:o.wp P a w K Q0):o.wp P a w K Q:=by
 have hl:¬ LetsOut Q0:=fun ⟨a,w,h⟩=>h0 _ a w (by simp) h
 unfold Oper.wp at *
 generalize (execOp a.eval o).run P w=r at *
 cases r with
 | ok n w' =>
  cases n <;> simp only [Oper.upon] at hh ⊢ <;> first
   | exact hh
   | exact Calls.mono hh (fun e w'' he=>by cases e <;> first | exact he | exact absurd he (h0 _ _ _ (by simp)) | exact absurd he hl)
   | exact absurd hh hl
   | exact absurd hh (h0 _ _ _ (by simp))
 | halt x w' =>
  cases x <;> simp only [Oper.upon] at hh ⊢ <;> first
   | exact hh
   | exact absurd hh hl
   | exact absurd hh (h0 _ _ _ (by simp))
theorem ZfD {o:Oper} {σ:St} {K:St->Prop} (hg:o.guard=none) (h:Runs e ds 0 [o] σ K):Zbc e o σ (fun σ'=>Runs e ds 0 [] σ' K):=by
 intro he U w0 S0 nt a w Q hd hs
 have h:Zc6 e ds [o] σ K:=by simpa only [Runs] using h
 have h1:=h he U w0 S0 nt a w (ds.map fun d=>{ o with dst:=d }) (fun ex a' w'=>ex=.normal∧∃ σ',K σ'∧SimE e U w0 S0 nt σ' a' w') (by rw [List.map_map];exact List.map_id ds) (fun o' ho d hd'=>by simp only [Tbg] at ho;subst ho;exact hd d hd') (fun a w σ' k1 k2=>⟨rfl,σ',k1,k2⟩) hs
 unfold wpList at h1
 have hw:Region.wanted o (yielded (ds.map fun d=>{ o with dst:=d }).toArray a.tmps)=true:=by simp [Region.wanted,hg]
 rw [if_pos hw] at h1
 rcases h1 with h1 | ⟨_,a',w',h1,_⟩
 ·refine ZAd (fun ex a w hne h=>hne h.1) (Oper.wp_mono (fun a' w' hk=>?_) h1)
  simp only [wpList] at hk
  obtain ⟨_,σ',k1,k2⟩:=hk
  exact ⟨σ',ZcY k1,k2⟩
 ·cases h1
theorem gO3 {K:St->Prop} {o:Oper} {s s1:List (Nat × A)} {m m1:List (Nat × Bk)} (hK:K ⟨s1,m1⟩) (h:Zbn e.P ds 0 [o] ⟨s,m⟩=.done ⟨s1,m1⟩:=by exact sfv):Runs e ds 0 [o] ⟨s,m⟩ K:=Zfe h hK
theorem ZmB {K:St->Prop} {n:Nat} {os:List Oper} {o:Oper} {σ:St} (hg:o.guard=none) (hal:isAl o=false) (h:ZdX e o σ (fun σ'=>Runs e ds n os σ' K)):Runs e ds (n+1) (o::os) σ K:=by
 simp only [Runs,hg]
 rw [if_neg (by simp [hal])]
 exact h
theorem gAq {K:St->Prop} {os:List Oper} {n d ty:Nat} {p:String} {ed:Array Edge} {x:Operand} {y:D} {s:List (Nat × A)} {m:List (Nat × Bk)} (hK:Runs e ds n os ⟨(d,.d y)::s,m⟩ K) (hx:evA s x=.d y:=by exact sfx):Runs e ds (n+1) (⟨some d,.assign x,ty,p,ed,none⟩::os) ⟨s,m⟩ K :=
 ZmB rfl rfl fun he=>⟨.d y,hK,fun U base S0=>Zax fun w S L ρv hC hr=>⟨ρv x,by simp [execOp],by
  have h:=hr x (by simp [Op.operands])
  rw [hx] at h
  exact h⟩⟩
end
theorem ZtY (n:Int):Con e0 275 [.one (.lit (.int .i64 n))] [.one (.lit (.bool (decide (0<=n∧n<=65535))))]:=by
 refine gI 5 Tryz.func275 ?_
 by_cases h1:0<=n <;> by_cases h2:n<=65535 <;> (have F:=ai @h1 @h2;refine gG ?_;exact gT)
theorem ZbG:∀ p:Int × Int,Zdi p=[.lit (.int .i64 p.1),.lit (.int .i64 p.2)]:=fun _=>rfl
theorem ZtZ {k:Nat} (h:k < 62):IntKind.u64.wrap (k:Int)=(k:Int):=by
 have h2:(k:Int) < 18446744073709551616:=by omega
 simp only [IntKind.wrap,IntKind.signed,IntKind.bits,Tam,if_false]
 exact Int.emod_eq_of_lt om om
theorem ZlH:Tryz.prog.underlying 3=some (.int .i64):=by kernel_rfl
theorem Zph:ZcV (Tryz.prog.underlying 241)=some .u64:=by kernel_rfl
theorem Zhc {k:Nat} (h:k < 62):IntKind.i64.wrap (1 * 2 ^ min k 64)=((2 ^ k:Nat):Int):=by
 rw [Nat.min_eq_left om,Int.one_mul,show (2:Int) ^ k=((2 ^ k:Nat):Int) by rw [Int.natCast_pow];rfl]
 have:=ZeY h
 generalize 2 ^ k=x at this ⊢
 exact IntWalk.i64_in _ om
theorem Zhd (j:Int):Ziw j (some (.int .i64)) (some .u64)=some (.d (.one (.lit (.int .u64 (IntKind.u64.wrap j))))):=rfl
theorem Zt0 {k:Nat} (hk:k < 62):Con e0 241 [.one (.lit (.int .i64 k))] [.one (.lit (.int .i64 ((2 ^ k:Nat):Int)))]:=by
 have h1:=ZtZ hk
 have h2:=Zhc hk
 refine gI 5 Tryz.func241 ?_
 (have F:=ai @ZlH (ai @Zph (ai @Zhd (ai @h1 (ai @h2 @Zan))));refine gG ?_;exact gT)
def tbit (a k:Nat):Bool:=a.testBit k
theorem ZAy {a k:Nat} (ha:a < 4611686018427387904) (h:k < 62):decide (bits .and .i64 ((a:Int).fdiv (2 ^ min k 64)) 1=1)=tbit a k:=by
 rw [tbit]
 rw [Nat.min_eq_left om,Int.fdiv_eq_ediv_of_nonneg _ (Int.pow_nonneg (by decide)),<- Zmx ha]
 exact (Bool.beq_eq_decide_eq _ _).symm
theorem Zj1 {a k:Nat} (ha:a < 4611686018427387904) (hk:k < 16):Con e0 173 [.one (.lit (.int .i64 a)),.one (.lit (.int .i64 k))] [.one (.lit (.bool (tbit a k)))]:=by
 have h1:=ZtZ (k:=k) om
 have h2:=ZAy (k:=k) ha om
 have z1:((k:Int) < 16)=True:=eq_true om
 have z2:((0:Int)<=(k:Int))=True:=eq_true om
 refine gI 19 Tryz.func173 ?_
 (have F:=ai @ZlH (ai @Zph (ai @Zhd (ai @h1 (ai @h2 (ai @Zan (ai @z1 @z2))))));refine gG ?_;exact gT)
theorem Zt1 (a b:Nat):Con e0 303 [.one (.lit (.int .i64 a)),.one (.lit (.int .i64 b))] [.one (.lit (.int .i64 ((min a b:Nat):Int)))]:=by
 refine gI 147 Tryz.func303 ?_
 by_cases h:a < b
 ·have z1:((a:Int) < (b:Int))=True:=eq_true om
  have e:min a b=a:=Nat.min_eq_left om
  (have F:=ai @z1 @e;refine gG ?_;exact gT)
 ·have z1:((a:Int) < (b:Int))=False:=eq_false om
  have e:min a b=b:=Nat.min_eq_right om
  (have F:=ai @z1 @e;refine gG ?_;exact gT)
theorem ZzJ (n:Nat):ZcR n 0=List.replicate n 0:=by simp [ZcR,up0]
theorem ZlI (subs:List (Int × Int)) (l:List Nat):ZcL subs 0 l=l:=rfl
theorem Zjo (n:Nat) (z:List C):(List.replicate n z).length=n:=List.length_replicate
def nR (l:List Nat):List (List C):=(Zbu l).map ZaK
section
variable {l:List Nat}
theorem Zbk:(nR l).length=l.length:=by rw [nR,Taw,ZjV]
theorem ZbB {i x:Nat} (h:l[i]?=some x):(nR l)[i]?=some [.lit (.int .i64 x)]:=by rw [nR,Tay,ZtQ h];rfl
theorem ZdN (i x:Nat):(nR l).set i [.lit (.int .i64 x)]=nR (l.set i x):=by rw [nR,nR,ZtR,List.map_set];rfl
theorem Zbl:ZaE 1 (nR l)=true:=ZfB _
theorem Zjp (x:Nat):nR l++[[.lit (.int .i64 x)]]=nR (l++[x]):=by rw [nR,nR,ZpS,Tbr];rfl
end
theorem nR_0 (n:Nat):List.replicate n [C.lit (.int .i64 0)]=nR (List.replicate n 0):=by simp [nR,Zbu,ZaK]
theorem Zpi:∀ (l:List Nat) (p:Int × Int),Zcr l p=l.set p.1.toNat (l.getD p.1.toNat 0 ||| l.getD p.2.toNat 0):=fun _ _=>rfl
theorem Zpj (subs:List (Int × Int)) (l:List Nat):(subs.take 0).foldl Zcr l=l:=rfl
theorem Zpk (subs:List (Int × Int)) (l:List Nat):ZcJ subs 0 l=l:=rfl
theorem Zt2 (subs:List (Int × Int)) (l:List Nat):(subs.take 0).foldl kSub l=l:=rfl
theorem Zj2 {subs:List (Int × Int)} {i:Nat} {p:Int × Int} (h:subs[i]?=some p) (l:List Nat):(subs.take (i+1)).foldl kSub l=kSub ((subs.take i).foldl kSub l) p:=Zf0 h l
theorem Zt3:nR (up0 0)=[]∧nR (List.range 0)=[]∧nR []=[]:=⟨rfl,rfl,rfl⟩
theorem ZzK (a:Nat):nR (ZbS a 0)=[]:=rfl
theorem ZiI {subs:List (Int × Int)} {i:Nat} {p:Int × Int} (h:subs[i]?=some p) (l:List Nat):(subs.take (i+1)).foldl Zcr l=Zcr ((subs.take i).foldl Zcr l) p:=Zf0 h l
section
variable {s:Srt}
theorem Zgk (h1:1<=s.names.length) (h8:s.names.length<=8) (hm:s.subs.length<=16) (hs:Zcn s.names.length s.subs):Con e0 207 [.agg (Za1 s)] [.one (.sl (nR (up s)))]:=by
 have hmx:((s.names.length:Int)<=(maxApp:Int))=True:=eq_true (by unfold maxApp;omega)
 rw [Za1]
 refine gI 2072014943 Tryz.func207 ?_
 (have F:=ai @hmx (ai @Tbt @Zjo);refine gG ?_;clear F)
 rw [nR_0]
 (have F:=@ZzJ;refine gL (ι:=Nat) [3,4,13,14] [3] (fun k=>[(13,A.d (.one (.lit (.int .i64 k)))),(3,.buf 3)]) (fun k=>[(3,.buf none 3 1 (nR (ZcR s.names.length k)))]) (fun k=>k<=s.names.length) (fun k=>s.names.length - k) (0) (Taj _) (fun k hk=>?_);clear F)
 by_cases hlt:k < s.names.length
 ·have q1:(k:Int) < (s.names.length:Int):=by omega
  have hw:=Zap (k:=k) om
  have hsh:=Zhc (k:=k) om
  have l1:=ZtS (n:=s.names.length) (k:=k) om
  have l2:=Zbk (l:=ZcR s.names.length k)
  have l3:=Zbl (l:=ZcR s.names.length k)
  have l4:=ZdN (l:=ZcR s.names.length k) k (2 ^ k)
  rw [ZtT hlt] at l4
  rw [l1] at l2
  obtain ⟨x,hx⟩:∃ x,(ZcR s.names.length k)[k]?=some x:=⟨_,Taa om⟩
  have l5:=ZbB hx
  (have F:=ai @q1 (ai @hsh (ai @l2 (ai @l3 (ai @l4 (ai @l5 (ai @hlt (ai @hw @Zan)))))));refine gG ?_;exact ⟨k+1,hlt,gw,gw,by omega⟩)
 obtain rfl:k=s.names.length:=by omega
 have q1:¬ ((s.names.length:Int) < (s.names.length:Int)):=by omega
 rw [ZtU]
 have hU:=UpOk.start s.names.length
 have l0:(nR (up0 s.names.length)).length=s.names.length:=by rw [Zbk,hU.1]
 (have F:=ai @q1 @l0;refine gG ?_;clear F)
 (have F:=@ZlI;refine gL (ι:=Nat) [3,6,24,25,27,28,29,30] [3] (fun j=>[(24,A.d (.one (.lit (.int .i64 j)))),(3,.buf 3)]) (fun j=>[(3,.buf none 3 1 (nR (ZcL s.subs j (up0 s.names.length))))]) (fun j=>j<=s.names.length) (fun j=>s.names.length - j) (0) (Taj _) (fun j hj=>?_);clear F)
 by_cases hlj:j < s.names.length
 rotate_left
 ·obtain rfl:j=s.names.length:=by omega
  have q2:¬ ((s.names.length:Int) < (s.names.length:Int)):=by omega
  rw [up]
  (have F:=@q2;refine gG ?_;clear F)
  (have F:=@e0P;refine gG ?_;exact gTz [2])
 have q2:(j:Int) < (s.names.length:Int):=by omega
 have hwj:=Zap (k:=j) om
 have hUj:=UpOk.iter hs j hU
 have hnx:ZcL s.subs (j+1) (up0 s.names.length)=s.subs.foldl Zcr (ZcL s.subs j (up0 s.names.length)):=rfl
 generalize ZcL s.subs j (up0 s.names.length)=u at hUj hnx ⊢
 (have F:=@q2;refine gG ?_;clear F)
 (have F:=@Zpj;refine gL (ι:=Nat) [3,6,29,30] [3] (fun i=>[(29,A.d (.one (.lit (.int .i64 i)))),(3,.buf 3)]) (fun i=>[(3,.buf none 3 1 (nR ((s.subs.take i).foldl Zcr u)))]) (fun i=>i<=s.subs.length) (fun i=>s.subs.length - i) (0) (Taj _) (fun i hi=>?_);clear F)
 by_cases hli:i < s.subs.length
 rotate_left
 ·obtain rfl:i=s.subs.length:=by omega
  have q3:¬ ((s.subs.length:Int) < (s.subs.length:Int)):=by omega
  rw [Tap,<- hnx]
  (have F:=ai @q3 @hwj;refine gG ?_;exact ⟨j+1,hlj,gw,gw,by omega⟩)
 have q3:(i:Int) < (s.subs.length:Int):=by omega
 have hwi:=Zap (k:=i) om
 obtain ⟨p,hp⟩:∃ p,s.subs[i]?=some p:=⟨_,Taa hli⟩
 have hps:=hs p (Tac hp)
 have hst:=ZiI hp u
 have hUi:=UpOk.foldl hUj (hs.take i)
 generalize (s.subs.take i).foldl Zcr u=v at hUi hst ⊢
 obtain ⟨g1,b1⟩:=hUi.get (i:=p.1.toNat) om
 obtain ⟨g2,b2⟩:=hUi.get (i:=p.2.toNat) om
 have p256:2 ^ s.names.length<=256:=Tbb (Tbp om h8) (by decide)
 have hor:=Zjn (a:=v.getD p.1.toNat 0) (b:=v.getD p.2.toNat 0) om om
 have l1:=ZbB g1
 have l2:=ZbB g2
 have l3:=Zbk (l:=v)
 rw [hUi.1] at l3
 have l4:=Zbl (l:=v)
 have l5:=ZdN (l:=v) p.1.toNat (v.getD p.1.toNat 0 ||| v.getD p.2.toNat 0)
 have i1:0<=p.1:=hps.1
 have i2:0<=p.2:=hps.2.2.1
 have i3:p.1.toNat < s.names.length:=by omega
 have i4:p.2.toNat < s.names.length:=by omega
 (have F:=ai @q3 (ai @hp (ai @ZbG (ai @l1 (ai @l2 (ai @l3 (ai @l4 (ai @l5 (ai @hor (ai @i1 (ai @i2 (ai @i3 (ai @i4 (ai @hwi (ai @hst @Zpi))))))))))))));refine gG ?_;exact ⟨i+1,hli,gw,gw,by omega⟩)
theorem Zvn (h8:s.names.length<=8) (hm:s.subs.length<=16) (hs:Zcn s.names.length s.subs):Con e0 243 [.agg (Za1 s)] [.one (.sl (nR (up s)))]:=by
 rw [Za1]
 refine gI 2164265087 Tryz.func243 ?_
 (have F:=@e0P;refine gG ?_;clear F)
 (have F:=@Zt3;refine gL (ι:=Nat) [3,4,12] [3] (fun k=>[(4,A.d (.one (.lit (.int .i64 k)))),(3,.buf 3)]) (fun k=>[(3,.buf none 3 1 (nR (up0 k)))]) (fun k=>k<=s.names.length) (fun k=>s.names.length - k) (0) (Taj _) (fun k hk=>?_);clear F)
 by_cases hlt:k < s.names.length
 ·have q1:(k:Int) < (s.names.length:Int):=by omega
  have hw:=Zap (k:=k) om
  have l2:=Zbk (l:=up0 k)
  rw [(UpOk.start k).1] at l2
  have l3:=Zbl (l:=up0 k)
  have l4:=Zjp (l:=up0 k) (2 ^ k)
  rw [<- Zvj] at l4
  have hmx:(k+1<=maxApp)=True:=eq_true (by unfold maxApp;omega)
  (have F:=@q1;refine gG ?_;clear F)
  refine gB ?_
  (have F:=@e0P;refine gC (Zt0 (k:=k) om) ?_;clear F)
  (have F:=ai @l2 (ai @l3 (ai @l4 @hmx));refine gR ?_;clear F)
  (have F:=@hw;refine gG ?_;exact ⟨k+1,hlt,gw,gw,by omega⟩)
 obtain rfl:k=s.names.length:=by omega
 have q1:¬ ((s.names.length:Int) < (s.names.length:Int)):=by omega
 have hU:=UpOk.start s.names.length
 (have F:=@q1;refine gG ?_;clear F)
 (have F:=@ZlI;refine gL (ι:=Nat) [3,5,6,24,31] [3] (fun j=>[(5,A.d (.one (.lit (.int .i64 j)))),(3,.buf 3)]) (fun j=>[(3,.buf none 3 1 (nR (ZcL s.subs j (up0 s.names.length))))]) (fun j=>j<=s.names.length) (fun j=>s.names.length - j) (0) (Taj _) (fun j hj=>?_);clear F)
 by_cases hlj:j < s.names.length
 rotate_left
 ·obtain rfl:j=s.names.length:=by omega
  have q2:¬ ((s.names.length:Int) < (s.names.length:Int)):=by omega
  rw [up]
  (have F:=@q2;refine gG ?_;clear F)
  (have F:=@e0P;refine gG ?_;exact gTz [2])
 have q2:(j:Int) < (s.names.length:Int):=by omega
 have hwj:=Zap (k:=j) om
 have hUj:=UpOk.iter hs j hU
 have hnx:ZcL s.subs (j+1) (up0 s.names.length)=s.subs.foldl Zcr (ZcL s.subs j (up0 s.names.length)):=rfl
 generalize ZcL s.subs j (up0 s.names.length)=u at hUj hnx ⊢
 (have F:=@q2;refine gG ?_;clear F)
 (have F:=@Zpj;refine gL (ι:=Nat) [3,6,31] [3] (fun i=>[(6,A.d (.one (.lit (.int .i64 i)))),(3,.buf 3)]) (fun i=>[(3,.buf none 3 1 (nR ((s.subs.take i).foldl Zcr u)))]) (fun i=>i<=s.subs.length) (fun i=>s.subs.length - i) (0) (Taj _) (fun i hi=>?_);clear F)
 by_cases hli:i < s.subs.length
 rotate_left
 ·obtain rfl:i=s.subs.length:=by omega
  have q3:¬ ((s.subs.length:Int) < (s.subs.length:Int)):=by omega
  rw [Tap,<- hnx]
  (have F:=ai @q3 @hwj;refine gG ?_;exact ⟨j+1,hlj,gw,gw,by omega⟩)
 have q3:(i:Int) < (s.subs.length:Int):=by omega
 have hwi:=Zap (k:=i) om
 obtain ⟨p,hp⟩:∃ p,s.subs[i]?=some p:=⟨_,Taa hli⟩
 have hps:=hs p (Tac hp)
 have hst:=ZiI hp u
 have hUi:=UpOk.foldl hUj (hs.take i)
 generalize (s.subs.take i).foldl Zcr u=v at hUi hst ⊢
 obtain ⟨g1,b1⟩:=hUi.get (i:=p.1.toNat) om
 obtain ⟨g2,b2⟩:=hUi.get (i:=p.2.toNat) om
 have p256:2 ^ s.names.length<=256:=Tbb (Tbp om h8) (by decide)
 have hor:=Zjn (a:=v.getD p.1.toNat 0) (b:=v.getD p.2.toNat 0) om om
 have l1:=ZbB g1
 have l2:=ZbB g2
 have l3:=Zbk (l:=v)
 rw [hUi.1] at l3
 have l4:=Zbl (l:=v)
 have l5:=ZdN (l:=v) p.1.toNat (v.getD p.1.toNat 0 ||| v.getD p.2.toNat 0)
 have i1:0<=p.1:=hps.1
 have i2:0<=p.2:=hps.2.2.1
 have i3:p.1.toNat < s.names.length:=by omega
 have i4:p.2.toNat < s.names.length:=by omega
 (have F:=ai @q3 (ai @hp (ai @ZbG (ai @l1 (ai @l2 (ai @l3 (ai @l4 (ai @l5 (ai @hor (ai @i1 (ai @i2 (ai @i3 (ai @i4 (ai @hwi (ai @hst @Zpi))))))))))))));refine gG ?_;exact ⟨i+1,hli,gw,gw,by omega⟩)
theorem ZlJ (h8:s.names.length<=8) (hm:s.subs.length<=16) (hs:Zcn s.names.length s.subs):Con e0 270 [.agg (Za1 s)] [.one (.sl (nR (kinds s)))]:=by
 rw [Za1]
 refine gI 4328555519 Tryz.func270 ?_
 (have F:=@e0P;refine gG ?_;clear F)
 (have F:=@Zt3;refine gL (ι:=Nat) [3,4,15] [3] (fun k=>[(4,A.d (.one (.lit (.int .i64 k)))),(3,.buf 3)]) (fun k=>[(3,.buf none 3 1 (nR (List.range k)))]) (fun k=>k<=s.names.length) (fun k=>s.names.length - k) (0) (Taj _) (fun k hk=>?_);clear F)
 by_cases hlt:k < s.names.length
 ·have q1:(k:Int) < (s.names.length:Int):=by omega
  have hw:=Zap (k:=k) om
  have l2:=Zbk (l:=List.range k)
  rw [List.length_range] at l2
  have l3:=Zbl (l:=List.range k)
  have l4:=Zjp (l:=List.range k) k
  rw [<- List.range_succ] at l4
  have hmx:(k+1<=maxApp)=True:=eq_true (by unfold maxApp;omega)
  (have F:=ai @q1 (ai @l2 (ai @l3 (ai @l4 (ai @hmx @hw))));refine gG ?_;exact ⟨k+1,hlt,gw,gw,by omega⟩)
 obtain rfl:k=s.names.length:=by omega
 have q1:¬ ((s.names.length:Int) < (s.names.length:Int)):=by omega
 have hU:=KOk.start s.names.length
 (have F:=@q1;refine gG ?_;clear F)
 (have F:=@Zpk;refine gL (ι:=Nat) [3,5,6,7,8,9,25,32] [3] (fun j=>[(5,A.d (.one (.lit (.int .i64 j)))),(3,.buf 3)]) (fun j=>[(3,.buf none 3 1 (nR (ZcJ s.subs j (List.range s.names.length))))]) (fun j=>j<=s.names.length) (fun j=>s.names.length - j) (0) (Taj _) (fun j hj=>?_);clear F)
 have hUj:=KOk.iter hs j hU
 have l0:=Zbk (l:=ZcJ s.subs j (List.range s.names.length))
 rw [hUj.1] at l0
 by_cases hlj:j < s.names.length
 rotate_left
 ·obtain rfl:j=s.names.length:=by omega
  have q2:¬ ((s.names.length:Int) < (s.names.length:Int)):=by omega
  rw [kinds]
  (have F:=ai @l0 @q2;refine gG ?_;clear F)
  (have F:=@e0P;refine gG ?_;exact gTz [2])
 have q2:(j:Int) < (s.names.length:Int):=by omega
 have hwj:=Zap (k:=j) om
 have hnx:ZcJ s.subs (j+1) (List.range s.names.length)=s.subs.foldl kSub (ZcJ s.subs j (List.range s.names.length)):=rfl
 generalize ZcJ s.subs j (List.range s.names.length)=u at hUj hnx l0 ⊢
 (have F:=ai @l0 @q2;refine gG ?_;clear F)
 (have F:=@Zt2;refine gL (ι:=Nat) [3,6,7,8,9,32] [3] (fun i=>[(6,A.d (.one (.lit (.int .i64 i)))),(3,.buf 3)]) (fun i=>[(3,.buf none 3 1 (nR ((s.subs.take i).foldl kSub u)))]) (fun i=>i<=s.subs.length) (fun i=>s.subs.length - i) (0) (Taj _) (fun i hi=>?_);clear F)
 by_cases hli:i < s.subs.length
 rotate_left
 ·obtain rfl:i=s.subs.length:=by omega
  have q3:¬ ((s.subs.length:Int) < (s.subs.length:Int)):=by omega
  rw [Tap,<- hnx]
  (have F:=ai @q3 @hwj;refine gG ?_;exact ⟨j+1,hlj,gw,gw,by omega⟩)
 have q3:(i:Int) < (s.subs.length:Int):=by omega
 have hwi:=Zap (k:=i) om
 obtain ⟨p,hp⟩:∃ p,s.subs[i]?=some p:=⟨_,Taa hli⟩
 have hps:=hs p (Tac hp)
 have hst:=Zj2 hp u
 have hUi:=KOk.foldl hUj (hs.take i)
 generalize (s.subs.take i).foldl kSub u=v at hUi hst ⊢
 obtain ⟨g1,b1⟩:=hUi.get (i:=p.1.toNat) om
 obtain ⟨g2,b2⟩:=hUi.get (i:=p.2.toNat) om
 have l1:=ZbB g1
 have l2:=ZbB g2
 have l3:=Zbk (l:=v)
 rw [hUi.1] at l3
 have l4:=Zbl (l:=v)
 have l5:=ZdN (l:=v) p.1.toNat (min (v.getD p.1.toNat 0) (v.getD p.2.toNat 0))
 have l6:=ZdN (l:=v.set p.1.toNat (min (v.getD p.1.toNat 0) (v.getD p.2.toNat 0))) p.2.toNat (min (v.getD p.1.toNat 0) (v.getD p.2.toNat 0))
 have l7:=Zbk (l:=v.set p.1.toNat (min (v.getD p.1.toNat 0) (v.getD p.2.toNat 0)))
 rw [Tax,hUi.1] at l7
 have l8:=Zbl (l:=v.set p.1.toNat (min (v.getD p.1.toNat 0) (v.getD p.2.toNat 0)))
 obtain ⟨x9,g9⟩:∃ x,(v.set p.1.toNat (min (v.getD p.1.toNat 0) (v.getD p.2.toNat 0)))[p.2.toNat]?=some x:=⟨_,Taa (by rw [Tax,hUi.1];omega)⟩
 have l9:=ZbB g9
 have i1:0<=p.1:=hps.1
 have i2:0<=p.2:=hps.2.2.1
 have i3:p.1.toNat < s.names.length:=by omega
 have i4:p.2.toNat < s.names.length:=by omega
 have hst:(s.subs.take (i+1)).foldl kSub u=(v.set p.1.toNat (min (v.getD p.1.toNat 0) (v.getD p.2.toNat 0))).set p.2.toNat (min (v.getD p.1.toNat 0) (v.getD p.2.toNat 0)):=hst
 (have F:=@q3;have NN:Zaj 12:=trivial;refine gGn ?_;clear F NN)
 refine Zag 14 (by decide +kernel) ?_
 intro ds hds
 simp only [List.map] at hds
 subst hds
 refine (have F:=ai hp ZbG;gP 12 ?_)
 refine (have F:=i1;gAq ?_)
 refine (have F:=i1;gAq ?_)
 (have F:=@i1;refine gR ?_;clear F)
 (have F:=@e0P;have NN:Zaj 13:=trivial;refine gGn ?_;clear F NN)
 refine gB ?_
 (have F:=ai @l1 (ai @l2 (ai @l3 (ai @l4 (ai @i1 (ai @i2 (ai @i3 @i4))))));refine gC (Zt1 (v.getD p.1.toNat 0) (v.getD p.2.toNat 0)) ?_;clear F)
 (have F:=@e0P;refine gR ?_;clear F)
 (have F:=ai @l1 (ai @l2 (ai @l3 (ai @l4 (ai @l5 (ai @l6 (ai @l7 (ai @l8 (ai @l9 (ai @i1 (ai @i2 (ai @i3 (ai @i4 (ai @hwi @hst)))))))))))));refine gG ?_;exact ⟨i+1,hli,gw,gw,by omega⟩)
theorem Zec (hs:SortsOk s):Con e0 270 [.agg (Za1 s)] [.one (.sl ((Zbu (kinds s)).map ZaK))]:=ZlJ hs.n8 hs.m16 (SortsOk.subsIn hs.subs)
end
theorem ZpV {x k:Nat} (hx:x < 4611686018427387904) (hk:k < 62):decide (bits .and .i64 (x:Int) ((2 ^ k:Nat):Int)=0)=!(tbit x k):=by
 rw [tbit,<- testBit_and,ZlB hx (ZeY hk)]
 simp only [bne,Bool.not_not]
 rw [Bool.eq_iff_iff,decide_eq_true_eq,beq_iff_eq]
 omega
theorem ZpW {a:Nat} (ha:a < 65536):Con e0 208 [.one (.lit (.int .i64 a))] [.one (.sl (nR (Zdj a)))]:=by
 have cS:=ZtY (a:Int)
 have z0:decide (0<=(a:Int)∧(a:Int)<=65535)=true:=decide_eq_true om
 rw [z0] at cS
 refine gI 264221 Tryz.func208 ?_
 (have F:=@e0P;refine gG ?_;clear F)
 (have F:=@ZzK;refine gL (ι:=Nat) [3,4,11,18] [3] (fun k=>[(4,A.d (.one (.lit (.int .i64 k)))),(3,.buf 3)]) (fun k=>[(3,.buf none 3 1 (nR (ZbS a k)))]) (fun k=>k<=16) (fun k=>16 - k) (0) om (fun k hk=>?_);clear F)
 by_cases hlt:k < 16
 rotate_left
 ·obtain rfl:k=16:=by omega
  have q1:¬ (((16:Nat):Int) < 16):=by omega
  rw [show Zdj a=ZbS a 16 from rfl]
  (have F:=@q1;refine gG ?_;clear F)
  (have F:=@e0P;refine gG ?_;exact gTz [2])
 have q1:((k:Int) < 16)=True:=eq_true om
 have hw:=Zap (k:=k) om
 have h1:=Zhc (k:=k) om
 have h2:=ZpV (x:=a) (k:=k) om om
 (have F:=@e0P;have NN:Zaj 3:=trivial;refine gGn ?_;clear F NN)
 refine gB ?_
 (have F:=@q1;refine gC (cS) ?_;clear F)
 (have F:=@q1;refine gR ?_;clear F)
 have l2:=Zbk (l:=ZbS a k)
 have l3:=Zbl (l:=ZbS a k)
 have l4:=Zjp (l:=ZbS a k) k
 have hmx:((ZbS a k).length+1<=maxApp)=True:=eq_true (by have:=ZiG a k;unfold maxApp;omega)
 cases hb:tbit a k with
 | false =>
  rw [hb] at h2
  rw [<- ZtV hb]
  (have F:=ai @q1 (ai @h1 (ai @h2 (ai @Zan @hw)));refine gG ?_;exact ⟨k+1,hlt,gw,gw,by omega⟩)
 | true =>
  rw [hb] at h2
  rw [<- ZpT hb] at l4
  (have F:=ai @q1 (ai @h1 (ai @h2 (ai @Zan (ai @l2 (ai @l3 (ai @l4 (ai @hmx @hw)))))));refine gG ?_;exact ⟨k+1,hlt,gw,gw,by omega⟩)
end Go.Proofs.YtcgacanpeaiabaaGreatDoor
namespace Go.Proofs.YtcgacanpeaiabaaGreatDoor
open Go.RowKit Go.MapKept Go.ChangeMaps
def MapL (w:World) (b:Nat) (l:List (ByteArray × Value)):Prop:=∃ (es:Array MapEntry) (clock:Nat),w.heap[b]?=some (.map es clock)∧es.toList.map (fun e=>(e.key,e.val))=l.map (fun p=>(Value.string p.1,p.2))
def Za3 (l:List (ByteArray × Value)) (s:ByteArray):Option Value:=(l.find? fun p=>s.toList==p.1.toList).map (·.2)
def mapB (b:Nat) (l:List (ByteArray × Value)):Bk:=.set (fun g=>g=b) fun w=>MapL w b l
theorem MapL.stable (b:Nat) (l:List (ByteArray × Value)):ZbY (fun g=>g=b) fun w=>MapL w b l:=fun w w' _ hE ⟨es,c,h1,h2⟩=>⟨es,c,by rw [hE b rfl];exact h1,h2⟩
theorem MapL.lt {w:World} {b:Nat} {l:List (ByteArray × Value)} (h:MapL w b l):b < w.heap.size:=by
 obtain ⟨es,clock,h,_⟩:=h
 exact (Tbi.1 h).1
theorem Zh5 (s:ByteArray):∀ (es:List MapEntry) (l:List (ByteArray × Value)) (i:Nat),es.map (fun e=>(e.key,e.val))=l.map (fun p=>(Value.string p.1,p.2)) ->
  (∀ v,Za3 l s=some v->∃ j,Instr.findNow .string (.string s) es i=some (some (j,v)))∧(Za3 l s=none->Instr.findNow .string (.string s) es i=some none)
 | [],[],i,_=>⟨fun v h=>by simp [Za3] at h,fun _=>rfl⟩
 | [],_::_,_,h=>by simp at h
 | _::_,[],_,h=>by simp at h
 | e::es,t::ts,i,h=>by
  simp only [Tbq,List.cons.injEq,Prod.mk.injEq] at h
  obtain ⟨⟨h1,h2⟩,h3⟩:=h
  obtain ⟨ih1,ih2⟩:=Zh5 s es ts (i+1) h3
  simp only [Instr.findNow,h1,h2,Instr.sameNow,beq_toListBytes,Za3,List.find?_cons]
  cases he:(s.toList==t.1.toList)
  ·exact ⟨ih1,ih2⟩
  ·exact ⟨fun v hv=>⟨i,by simpa using hv⟩,fun h=>by simp at h⟩
section
variable {P:Program} {w:World} {b:Nat} {l:List (ByteArray × Value)} {t k el:TypeId}
theorem Zvo (h:MapL w b l) (ht:P.underlying t=some (.map k el)) (hk:P.underlying k=some .string) {z:Value} (hz:∀ w,(zeroValue el).run P w=.ok z w) (s:ByteArray) (ok:Bool) :
  (Instr.lookup t (.map (some b)) (.string s) ok).run P w=.ok (if ok then .tuple #[(Za3 l s).getD z,.bool (Za3 l s).isSome] else (Za3 l s).getD z) w:=by
 obtain ⟨es,clock,h1,h2⟩:=h
 obtain ⟨f1,f2⟩:=Zh5 s es.toList l 0 h2
 have hc:∀ em,(Instr.checkKey em 10000 k (.string s)).run P w=.ok () w:=fun em=>MapKept.run_checkKey hk (by simp [MapKept.IsKey]) em 9999
 rcases hs:Za3 l s with _ | v
 ·have:=MapKept.run_findKey (w:=w) hk (f2 hs)
  simp [Instr.lookup,run_underlying ht,MapKept.run_getObj_map h1,hc,this,hs,hz]
 ·obtain ⟨j,hf⟩:=f1 v hs
  have:=MapKept.run_findKey (w:=w) hk hf
  simp [Instr.lookup,run_underlying ht,MapKept.run_getObj_map h1,hc,this,hs]
theorem ZzL (h:MapL w b l) (ht:P.underlying t=some (.map k el)) (hk:P.underlying k=some .string) {s:ByteArray} (hs:Za3 l s=none) (v:Value) :
  ∃ w',(Instr.mapUpdate t (.map (some b)) (.string s) v).run P w=.ok () w'∧MapL w' b (l++[(s,v)])∧w'.os=w.os∧w'.tape=w.tape∧w'.output=w.output∧w'.drawn=w.drawn∧w'.heap.size=w.heap.size∧∀ x,x≠b->w'.heap[x]?=w.heap[x]?:=by
 obtain ⟨es,clock,h1,h2⟩:=h
 obtain ⟨f1,f2⟩:=Zh5 s es.toList l 0 h2
 have hc:∀ em,(Instr.checkKey em 10000 k (.string s)).run P w=.ok () w:=fun em=>MapKept.run_checkKey hk (by simp [MapKept.IsKey]) em 9999
 have:=MapKept.run_findKey (w:=w) hk (f2 hs)
 refine ⟨setBlock w b (.map (es.push { key:=.string s,val:=v,born:=clock }) (clock+1)),?_,⟨_,_,heap_setBlock_same h1 _,by simp [h2]⟩,rfl,rfl,rfl,rfl,by simp [setBlock],fun x hx=>heap_setBlock_other h1 _ hx⟩
 simp [Instr.mapUpdate,run_underlying ht,MapKept.run_getObj_map h1,hc,this,MapKept.run_setObj_map _ h1,setBlock]
end
section
variable {e:Env} {σ:St} {o:Oper} {K:St->Prop}
theorem ZmC {t:TypeId} (ho:o.op=.makeMap t none) {d:Nat} (hdd:o.dst=some d) (hK:∀ b:Nat,K ⟨(d,.d (.one (.lit (.map (some b)))))::Zao d σ.s,(d,mapB b [])::remM d σ.m⟩):Zbc e o σ K:=by
 intro he U w0 S0 nt a w Q hd ⟨S,L,h1⟩
 have hb:Below w.heap.size w (w.alloc (.map #[] 0)):=ZdF w _
 have hk:Kept e.D (fun b=>(none:Option Nat)=some b) w.heap.size w (w.alloc (.map #[] 0)):=Kept.of_below hb (fun _=>Tai _)
 unfold Oper.wp
 have hrun:(execOp a.eval o).run e.P w=.ok (.value (.map (some w.heap.size))) (w.alloc (.map #[] 0)):=by
  simp [execOp,ho,Instr.makeMap,newObj,Result.andThen]
  rfl
 rw [hrun,Oper.upon_value,hdd]
 refine ⟨_,hK w.heap.size,h1.born he (hd d hdd) (τ:=none) (b':=0) (v':=Go.undef) (S':=S) (fun _ h=>h) (fun _ h=>.inl h) (fun t=>.inl rfl) (fun k x h=>h) (by simp) (by simp) hk ?_ ?_ (by simp [ARel,DRel,Rep])⟩
 ·simp only [Own1,mapB]
  refine ⟨fun b hb'=>?_,⟨#[],0,heap_alloc_new w _,rfl⟩,MapL.stable _ _⟩
  subst hb'
  exact ⟨by simp,fun hs=>by have:=(h1.cls.sin _ hs).1;omega⟩
 ·intro g hg
  simp only [ZaB,mapB] at hg
  exact .inr om
theorem Zj3 {t:TypeId} {x y:Operand} {ok:Bool} (ho:o.op=.lookup t x y ok) {κ b:Nat} {l:List (ByteArray × Value)} {s:ByteArray} {kt el:TypeId} {z:Value} (ht:e.P.underlying t=some (.map kt el)) (hk:e.P.underlying kt=some .string) (hz:∀ w,(zeroValue el).run e.P w=.ok z w)
  (hx:evA σ.s x=.d (.one (.lit (.map (some b))))) (hy:evA σ.s y=.d (.one (.lit (.string s)))) (hm:gm σ.m κ=some (mapB b l)) {α:A} (hα:∀ (w:World) (S:Nat->Prop) (L:Lay),ARel w S L α (if ok then .tuple #[(Za3 l s).getD z,.bool (Za3 l s).isSome] else (Za3 l s).getD z)) (hK:K ⟨setA σ.s o.dst α,σ.m⟩):Zbc e o σ K:=by
 intro he U w0 S0 nt a w Q hd ⟨S,L,h1⟩
 have hx':=h1.eval x
 have hy':=h1.eval y
 rw [hx] at hx'
 rw [hy] at hy'
 have hx':a.eval x=.map (some b):=by simpa [ARel,DRel,Rep] using hx'
 have hy':a.eval y=.string s:=by simpa [ARel,DRel,Rep] using hy'
 obtain ⟨_,hM,_⟩:=h1.cls.own κ _ hm
 unfold Oper.wp
 have hrun:(execOp a.eval o).run e.P w=.ok (.value (if ok then .tuple #[(Za3 l s).getD z,.bool (Za3 l s).isSome] else (Za3 l s).getD z)) w:=by
  simp [execOp,ho,hx',hy',Zvo hM ht hk hz s ok,Result.andThen]
 rw [hrun,Oper.upon_value]
 exact ⟨_,hK,S,L,h1.put (hα w S L) hd⟩
theorem Zvp {t:TypeId} {x y u:Operand} (ho:o.op=.mapUpdate t x y u) {κ b:Nat} {l:List (ByteArray × Value)} {s:ByteArray} {kt el:TypeId} {v:Value} (hdn:o.dst=none) (ht:e.P.underlying t=some (.map kt el)) (hk:e.P.underlying kt=some .string)
  (hx:evA σ.s x=.d (.one (.lit (.map (some b))))) (hy:evA σ.s y=.d (.one (.lit (.string s)))) (hu:evA σ.s u=.d (.one (.lit v))) (hm:gm σ.m κ=some (mapB b l)) (hs:Za3 l s=none) (hK:K ⟨σ.s,(κ,mapB b (l++[(s,v)]))::remM κ σ.m⟩):Zbc e o σ K:=by
 intro he U w0 S0 nt a w Q hd ⟨S,L,h1⟩
 have hx':=h1.eval x
 have hy':=h1.eval y
 have hu':=h1.eval u
 rw [hx] at hx'
 rw [hy] at hy'
 rw [hu] at hu'
 have hx':a.eval x=.map (some b):=by simpa [ARel,DRel,Rep] using hx'
 have hy':a.eval y=.string s:=by simpa [ARel,DRel,Rep] using hy'
 have hu':a.eval u=v:=by simpa [ARel,DRel,Rep] using hu'
 obtain ⟨hbb,hM,_⟩:=h1.cls.own κ _ hm
 obtain ⟨w',hrun,hM',o1,o2,o3,o4,o5,o6⟩:=ZzL hM ht hk hs v
 unfold Oper.wp
 have hrun:(execOp a.eval o).run e.P w=.ok .skip w':=by
  simp [execOp,ho,hx',hy',hu',hrun,Result.andThen]
 rw [hrun,Oper.upon_skip,hdn]
 have hkc:∀ c,S c->w'.heap[c]?=w.heap[c]?:=fun c hc=>o6 c fun e1=>(hbb b rfl).2 (e1 ▸ hc)
 obtain ⟨t1,t2,t3⟩:=h1.touch he (d:=κ) (bk:=mapB b (l++[(s,v)])) (m':=(κ,mapB b (l++[(s,v)]))::remM κ σ.m) (w':=w') (L':=L) (τ:=some b) (S':=S) (fun _ h=>h) (fun _ h=>.inl h)
  (fun k' x hkd hx=>by simp only [gm,hkd,if_false,ZaO] at hx;exact hx) (by simp [gm]) (fun _ _=>⟨rfl,rfl⟩)
  (fun g hg=>by injection hg with hg;subst hg;exact ⟨(hbb b rfl).2,h1.cls.notE hm rfl,h1.cls.mine κ _ _ hm rfl⟩)
  (fun k' x g hkd hx hg hb=>by
   injection hg with hg;subst hg
   simp only [gm,hkd,if_false,ZaO] at hx
   exact hkd (h1.cls.inj k' κ x _ _ hx hm hb rfl))
  ⟨o1,o2,o3,fun _=>Nat.le_of_eq o4.symm,by omega,fun c hc hE=>o6 c (fun eq=>hE (by rw [eq]))⟩
  ⟨fun c hc=>by have:=hbb c hc;exact ⟨by omega,this.2⟩,hM',MapL.stable _ _⟩ (fun g hg=>.inl (by simp only [ZaB,mapB] at hg;rw [hg]))
 exact ⟨_,hK,S,L,t1,fun t=>t3 _ _ (fun _=>⟨rfl,rfl⟩) (h1.rel t),h1.size,h1.defers,t2⟩
end
section
variable {e:Env} {K:St->Prop} {ds:List (Option Nat)} {os:List Oper} {s:List (Nat × A)} {m:List (Nat × Bk)}
theorem ZdO {o:Oper} {σ:St} (hg:o.guard=none) (h:Zbc e o σ (fun σ'=>Runs e ds 0 os σ' K)):Runs e ds 0 (o::os) σ K:=by
 simp only [Runs] at h ⊢
 exact Zck hg h
theorem gMk {d t ty:Nat} {p:String} {ed:Array Edge} {s2:List (Nat × A)} {m2:List (Nat × Bk)} (hK:∀ b:Nat,Runs e ds 0 os ⟨(d,.d (.one (.lit (.map (some b)))))::s2,(d,mapB b [])::m2⟩ K) (hs:Zao d s=s2:=by exact snv) (hr:remM d m=m2:=by exact snv):Runs e ds 0 (⟨some d,.makeMap t none,ty,p,ed,none⟩::os) ⟨s,m⟩ K :=
 ZdO rfl (ZmC rfl rfl (by simp only [hs,hr];exact hK))
theorem gLk {d t ty:Nat} {p:String} {ed:Array Edge} {x y:Operand} {b:Nat} {l:List (ByteArray × Value)} {k:ByteArray} {kt el:TypeId} {z v:Value} (κ:Nat) (ht:e.P.underlying t=some (.map kt el)) (hk:e.P.underlying kt=some .string) (hz:∀ w,(zeroValue el).run e.P w=.ok z w) (hv:(Za3 l k).getD z=v)
  (hK:Runs e ds 0 os ⟨(d,.d (.one (.lit v)))::s,m⟩ K) (hx:evA s x=.d (.one (.lit (.map (some b)))):=by exact sfx) (hy:evA s y=.d (.one (.lit (.string k))):=by exact sfx) (hm:gm m κ=some (mapB b l):=by exact snx):Runs e ds 0 (⟨some d,.lookup t x y false,ty,p,ed,none⟩::os) ⟨s,m⟩ K :=
 ZdO rfl (Zj3 rfl ht hk hz hx hy hm (α:=.d (.one (.lit v))) (fun w S L=>by rw [<- hv];simp [ARel,DRel,Rep]) hK)
theorem gUp {t ty:Nat} {p:String} {ed:Array Edge} {x y u:Operand} {b:Nat} {l:List (ByteArray × Value)} {k:ByteArray} {kt el:TypeId} {v:Value} {m2:List (Nat × Bk)} (κ:Nat) (ht:e.P.underlying t=some (.map kt el)) (hk:e.P.underlying kt=some .string) (hs:Za3 l k=none)
  (hK:Runs e ds 0 os ⟨s,(κ,mapB b (l++[(k,v)]))::m2⟩ K) (hx:evA s x=.d (.one (.lit (.map (some b)))):=by exact sfx) (hy:evA s y=.d (.one (.lit (.string k))):=by exact sfx) (hu:evA s u=.d (.one (.lit v)):=by exact sfx)
  (hm:gm m κ=some (mapB b l):=by exact snx) (hr:remM κ m=m2:=by exact snv):Runs e ds 0 (⟨none,.mapUpdate t x y u,ty,p,ed,none⟩::os) ⟨s,m⟩ K :=
 ZdO rfl (Zvp rfl rfl ht hk hx hy hu hm hs (by simp only [hr];exact hK))
end
end Go.Proofs.YtcgacanpeaiabaaGreatDoor
namespace Go.Proofs.YtcgacanpeaiabaaGreatDoor
open Go.RowKit
def Zcs (l:List ByteArray):List (ByteArray × Value):=l.map fun x=>(x,.bool true)
theorem ZiJ (l:List ByteArray) (s:ByteArray):Za3 (Zcs l) s=if ZaV l s then some (.bool true) else none:=by
 induction l with
 | nil=>rfl
 | cons x xs ih =>
  simp only [Za3,Zcs,ZaV,Tbq,List.any_cons] at ih ⊢
  by_cases h:(s.toList==x.toList)=true
  ·rw [List.find?_cons_of_pos (by exact h)]
   simp [h]
  ·rw [List.find?_cons_of_neg (by exact h),ih]
   simp [h]
theorem ZpX {l:List ByteArray} {i:Nat} {x:ByteArray} (h:l[i]?=some x):Zcs (l.take i)++[(x,.bool true)]=Zcs (l.take (i+1)):=by
 rw [List.take_add_one,h,Zcs,Zcs,Tbr]
 rfl
theorem Ze2:∀ x,ZcZ x=[.lit (.string x)]:=fun _=>rfl
theorem Zc9:e0.P.underlying 110=some (.map 9 4):=by kernel_rfl
theorem ZdP:e0.P.underlying 9=some .string:=by kernel_rfl
theorem ZeN:∀ w,(zeroValue 4).run e0.P w=.ok (.bool false) w:=fun w=>by kernel_rfl
theorem ZzM:Zcs []=[]∧∀ l:List ByteArray,Zcs (l.take 0)=[]:=⟨rfl,fun _=>rfl⟩
section
variable {s:Srt}
theorem Zgl (hok:Ziy s):Con e0 206 [.agg (Za1 s)] [.one (.lit (.bool (Zbt s)))]:=by
 have hno:¬ SortsOk s->Zbt s=false:=Zeu
 have cU:=fun h1 h2 h3 h4=>Zgk (s:=s) h1 h2 h3 h4
 have hrs:=ZgN s.names
 rw [Za1] at cU ⊢
 refine gI 41538379337072913235836183427157855 Tryz.func206 ?_
 by_cases h1:1<=s.names.length
 rotate_left
 ·have hf:=hno fun h=>h1 h.n1
  have z1:((s.names.length:Int) < 1)=True:=eq_true om
  (have F:=ai @z1 @hf;refine gG ?_;exact gT)
 have z1:((s.names.length:Int) < 1)=False:=eq_false om
 by_cases h8:s.names.length<=8
 rotate_left
 ·have hf:=hno fun h=>h8 h.n8
  have z2:((8:Int) < (s.names.length:Int))=True:=eq_true om
  (have F:=ai @z1 (ai @z2 @hf);refine gG ?_;exact gT)
 have z2:((8:Int) < (s.names.length:Int))=False:=eq_false om
 by_cases h16:s.subs.length<=16
 rotate_left
 ·have hf:=hno fun h=>h16 h.m16
  have z3:((16:Int) < (s.subs.length:Int))=True:=eq_true om
  (have F:=ai @z1 (ai @z2 (ai @z3 @hf));refine gG ?_;exact gT)
 have z3:((16:Int) < (s.subs.length:Int))=False:=eq_false om
 (have F:=ai @z1 (ai @z2 @z3);have NN:Zaj 4:=trivial;refine gGn ?_;clear F NN)
 refine gB ?_
 refine gMk fun b=>?_
 (have F:=@e0P;refine gR ?_;clear F)
 (have F:=@e0P;refine gG ?_;clear F)
 (have F:=@ZzM;refine gL (ι:=Nat) [2,6,31,32,42] [27] (fun i=>[(31,A.d (.one (.lit (.int .i64 i))))]) (fun i=>[(27,mapB b (Zcs (s.names.take i)))]) (fun i=>i<=s.names.length∧∀ j,j < i->ZgS s.names j) (fun i=>s.names.length - i) (0) (⟨Taj _,fun j h=>absurd h om⟩) (fun i hi=>?_);clear F)
 obtain ⟨hil,hall⟩:=hi
 by_cases hlt:i < s.names.length
 ·have q1:(i:Int) < (s.names.length:Int):=by omega
  obtain ⟨x,hx⟩:∃ x,s.names[i]?=some x:=⟨_,Taa hlt⟩
  have hw:=Zap (k:=i) om
  have hfs:=ZiJ (s.names.take i) x
  have hbad:¬ (Za2 x=true∧ZaV (s.names.take i) x=false)->Zbt s=false:=fun h=>hno fun hs=>h (hs.names i hlt x hx)
  have cN:=Ze0 (hok.1 x (Tac hx))
  (have F:=ai @q1 (ai @hx @Ze2);have NN:Zaj 8:=trivial;refine gGn ?_;clear F NN)
  refine gB ?_
  (have F:=@e0P;refine gP 2 ?_;clear F)
  cases hh:ZaV (s.names.take i) x with
  | true =>
   rw [hh] at hfs hbad
   have hf:=hbad fun h=>by cases h.2
   refine (have F:=e0P;gLk 27 Zc9 ZdP ZeN (v:=.bool true) (by rw [hfs];rfl) ?_)
   (have F:=@e0P;refine gR ?_;clear F)
   (have F:=@hf;refine gG ?_;exact gT)
  | false =>
  rw [hh] at hfs hbad
  refine (have F:=e0P;gLk 27 Zc9 ZdP ZeN (v:=.bool false) (by rw [hfs];rfl) ?_)
  (have F:=@e0P;refine gC (cN) ?_;clear F)
  cases hn:Za2 x with
  | false =>
   have hf:=hbad fun h=>by rw [hn] at h;cases h.1
   (have F:=@e0P;refine gR ?_;clear F)
   (have F:=@hf;refine gG ?_;exact gT)
  | true =>
  have hq:i+1<=s.names.length∧∀ j,j < i+1->ZgS s.names j:=⟨hlt,fun j hj=>by
   by_cases e:j=i
   ·subst e
    intro y hy
    rw [hx] at hy
    injection hy with hy
    subst hy
    exact ⟨hn,hh⟩
   ·exact hall j om⟩
  have hsn:=ZpX hx
  (have F:=@e0P;refine gR ?_;clear F)
  (have F:=@e0P;have NN:Zaj 10:=trivial;refine gGn ?_;clear F NN)
  refine gB ?_
  (have F:=@e0P;refine gP 2 ?_;clear F)
  refine (have F:=e0P;gUp 27 Zc9 ZdP (by rw [hfs];rfl) ?_)
  rw [hsn]
  (have F:=@e0P;refine gR ?_;clear F)
  (have F:=@hw;refine gG ?_;exact ⟨i+1,hq,gw,gw,by omega⟩)
 obtain rfl:i=s.names.length:=by omega
 have q1:¬ ((s.names.length:Int) < (s.names.length:Int)):=by omega
 (have F:=@q1;refine gG ?_;clear F)
 (have F:=@e0P;refine gL (ι:=Nat) [2,8,49,50,79] [] (fun k=>[(49,A.d (.one (.lit (.int .i64 k))))]) (fun k=>[]) (fun k=>k<=s.subs.length∧∀ (j:Nat) p,j < k->s.subs[j]?=some p->Zd9 s.names.length p) (fun k=>s.subs.length - k) (0) (⟨Taj _,fun j p h=>absurd h om⟩) (fun k hk=>?_);clear F)
 obtain ⟨hkl,hsub⟩:=hk
 by_cases hlk:k < s.subs.length
 ·have q2:(k:Int) < (s.subs.length:Int):=by omega
  obtain ⟨p,hp⟩:∃ x,s.subs[k]?=some x:=⟨_,Taa hlk⟩
  have hw:=Zap (k:=k) om
  have hbad:¬ Zd9 s.names.length p->Zbt s=false:=fun h=>hno fun hs=>h (hs.subs p (Tac hp))
  by_cases c1:p.1 < 0
  ·have hf:=hbad fun h=>by have:=h.1;omega
   (have F:=ai @q2 (ai @hp (ai @ZbG (ai @c1 @hf)));refine gG ?_;exact gT)
  by_cases c2:(s.names.length:Int)<=p.1
  ·have hf:=hbad fun h=>by have:=h.2.1;omega
   (have F:=ai @q2 (ai @hp (ai @ZbG (ai @c1 (ai @c2 @hf))));refine gG ?_;exact gT)
  by_cases c3:p.2 < 0
  ·have hf:=hbad fun h=>by have:=h.2.2.1;omega
   (have F:=ai @q2 (ai @hp (ai @ZbG (ai @c1 (ai @c2 (ai @c3 @hf)))));refine gG ?_;exact gT)
  by_cases c4:(s.names.length:Int)<=p.2
  ·have hf:=hbad fun h=>by have:=h.2.2.2.1;omega
   (have F:=ai @q2 (ai @hp (ai @ZbG (ai @c1 (ai @c2 (ai @c3 (ai @c4 @hf))))));refine gG ?_;exact gT)
  by_cases c5:p.1=p.2
  ·have hf:=hbad fun h=>h.2.2.2.2 c5
   have c5:(p.1=p.2)=True:=eq_true c5
   (have F:=ai @q2 (ai @hp (ai @ZbG (ai @c1 (ai @c2 (ai @c3 (ai @c4 (ai @c5 @hf)))))));refine gG ?_;exact gT)
  have hq:k+1<=s.subs.length∧∀ (j:Nat) p,j < k+1->s.subs[j]?=some p->Zd9 s.names.length p:=⟨hlk,fun j p' hj hp'=>by
   by_cases e:j=k
   ·subst e
    rw [hp] at hp'
    injection hp' with hp'
    subst hp'
    exact ⟨by omega,by omega,by omega,by omega,c5⟩
   ·exact hsub j p' om hp'⟩
  (have F:=ai @q2 (ai @hp (ai @ZbG (ai @c1 (ai @c2 (ai @c3 (ai @c4 (ai @c5 @hw)))))));refine gG ?_;exact ⟨k+1,hq,gw,gw,by omega⟩)
 obtain rfl:k=s.subs.length:=by omega
 have q2:¬ ((s.subs.length:Int) < (s.subs.length:Int)):=by omega
 have hsubs:∀ p∈s.subs,Zd9 s.names.length p:=fun p hp=>by obtain ⟨j,hj⟩:=Tbh hp;exact hsub j p (Tad.1 hj).1 hj
 have hSI:=SortsOk.subsIn hsubs
 have hU:=ZfZ hSI
 have hyes:(∀ i k,i < s.names.length->k < s.names.length->Zcb (up s) i k)->Zbt s=true:=fun h=>ZdK ⟨h1,h8,h16,fun i hi=>hall i hi,hsubs,h⟩
 have hno2:∀ i k,i < s.names.length->k < s.names.length->¬ Zcb (up s) i k->Zbt s=false:=fun i k h1 h2 h3=>hno fun h=>h3 (h.pairs i k h1 h2)
 have lU:=Zbk (l:=up s)
 rw [hU.1] at lU
 have rU:=Zbl (l:=up s)
 (have F:=@q2;refine gG ?_;clear F)
 refine gB ?_
 (have F:=@e0P;refine gC (cU h1 h8 h16 hSI) ?_;clear F)
 (have F:=@e0P;refine gR ?_;clear F)
 generalize up s=u at hU hyes hno2 lU rU ⊢
 have hpw:∀ i,i < s.names.length->u[i]?=some (u.getD i 0)∧u.getD i 0 < 4611686018427387904:=fun i hi=>by
  obtain ⟨g1,g2⟩:=hU.get hi
  exact ⟨g1,Nat.lt_trans g2 (ZeY om)⟩
 (have F:=@lU;refine gG ?_;clear F)
 (have F:=@e0P;refine gL (ι:=Nat) [2,10,11,85,86,89,90,91,115] [] (fun i=>[(85,A.d (.one (.lit (.int .i64 i))))]) (fun i=>[]) (fun i=>i<=s.names.length∧∀ i' k,i' < i->k < s.names.length->Zcb u i' k) (fun i=>s.names.length - i) (0) (⟨Taj _,fun i' k h=>absurd h om⟩) (fun i hi=>?_);clear F)
 obtain ⟨hil,hpi⟩:=hi
 by_cases hlt:i < s.names.length
 rotate_left
 ·have q3:¬ ((i:Int) < (s.names.length:Int)):=by omega
  have ht:=hyes fun i' k h1 h2=>hpi i' k om h2
  (have F:=ai @q3 @ht;refine gG ?_;exact gT)
 have q3:(i:Int) < (s.names.length:Int):=by omega
 have hwi:=Zap (k:=i) om
 obtain ⟨gi,bi⟩:=hpw i hlt
 (have F:=ai @q3 @lU;refine gG ?_;clear F)
 (have F:=@e0P;refine gL (ι:=Nat) [2,11,90,91,115] [] (fun k=>[(90,A.d (.one (.lit (.int .i64 k))))]) (fun k=>[]) (fun k=>k<=s.names.length∧∀ k',k' < k->Zcb u i k') (fun k=>s.names.length - k) (0) (⟨Taj _,fun k h=>absurd h om⟩) (fun k hk=>?_);clear F)
 obtain ⟨hkl,hpk⟩:=hk
 have hwk:=Zap (k:=k) om
 by_cases hlk:k < s.names.length
 rotate_left
 ·have q4:¬ ((k:Int) < (s.names.length:Int)):=by omega
  have hq:i+1<=s.names.length∧∀ i' k,i' < i+1->k < s.names.length->Zcb u i' k:=⟨hlt,fun i' k' h h2=>by
   by_cases e:i'=i
   ·subst e;exact hpk k' om
   ·exact hpi i' k' om h2⟩
  (have F:=ai @q4 @hwi;refine gG ?_;exact ⟨i+1,hq,gw,gw,by omega⟩)
 have q4:(k:Int) < (s.names.length:Int):=by omega
 obtain ⟨gk,bk⟩:=hpw k hlk
 have nx:Zcb u i k->k+1<=s.names.length∧∀ k',k' < k+1->Zcb u i k':=fun h=>⟨hlk,fun k' h2=>by
  by_cases e:k'=k
  ·subst e;exact h
  ·exact hpk k' om⟩
 have si:=Zhc (k:=i) om
 have sk:=Zhc (k:=k) om
 have a1:=ZpV (x:=u.getD i 0) (k:=k) bi om
 have a2:=ZpV (x:=u.getD k 0) (k:=i) bk om
 have r1:=ZbB gi
 have r2:=ZbB gk
 by_cases hik:i=k
 ·have z4:((i:Int)=(k:Int))=True:=eq_true om
  have hq:=nx fun h=>h.1 hik
  (have F:=ai @q4 (ai @z4 @hwk);refine gG ?_;exact ⟨k+1,hq,gw,gw,by omega⟩)
 have z4:((i:Int)=(k:Int))=False:=eq_false om
 cases b1:tbit (u.getD i 0) k with
 | false =>
  rw [b1] at a1
  have hq:=nx fun h=>by have:=h.2.1;rw [show (u.getD i 0).testBit k=false from b1] at this;cases this
  (have F:=ai @q4 (ai @z4 (ai @sk (ai @a1 (ai @r1 (ai @rU (ai @Zan @hwk))))));refine gG ?_;exact ⟨k+1,hq,gw,gw,by omega⟩)
 | true =>
 rw [b1] at a1
 cases b2:tbit (u.getD k 0) i with
 | false =>
  rw [b2] at a2
  have hq:=nx fun h=>by have:=h.2.2;rw [show (u.getD k 0).testBit i=false from b2] at this;cases this
  (have F:=ai @q4 (ai @z4 (ai @sk (ai @si (ai @a1 (ai @a2 (ai @r1 (ai @r2 (ai @rU (ai @Zan @hwk)))))))));refine gG ?_;exact ⟨k+1,hq,gw,gw,by omega⟩)
 | true =>
  rw [b2] at a2
  have hf:=hno2 i k hlt hlk fun h=>h ⟨hik,b1,b2⟩
  (have F:=ai @q4 (ai @z4 (ai @sk (ai @si (ai @a1 (ai @a2 (ai @r1 (ai @r2 (ai @rU (ai @Zan @hf)))))))));refine gG ?_;exact gT)
end
theorem Zc0 (x lo hi:Int):Con e0 158 [.one (.lit (.int .i64 x)),.one (.lit (.int .i64 lo)),.one (.lit (.int .i64 hi))] [.one (.lit (.bool (decide (lo<=x∧x<=hi))))]:=by
 refine gI 71 Tryz.func158 ?_
 by_cases h1:lo<=x
 ·by_cases h2:x<=hi
  ·(have F:=ai @h1 @h2;refine gG ?_;exact gT)
  ·(have F:=ai @h1 @h2;refine gG ?_;exact gT)
 ·(have F:=@h1;refine gG ?_;exact gT)
theorem Zt4 {l:List ByteArray} (s:ByteArray) (hl:l.length<=1048576):Con e0 269 [.one (.sl (l.map ZcZ)),.one (.lit (.string s))] [.one (.lit (.bool (ZaV l s)))]:=by
 have hr:=ZgN l
 refine gI 131635 Tryz.func269 ?_
 (have F:=@e0P;refine gG ?_;clear F)
 (have F:=@e0P;refine gL (ι:=Nat) [4,5,9,17] [] (fun i=>[(5,A.d (.one (.lit (.int .i64 i))))]) (fun i=>[]) (fun i=>i<=l.length∧ZaV l s=ZaV (l.drop i) s) (fun i=>l.length - i) (0) (⟨Taj _,rfl⟩) (fun i hi=>?_);clear F)
 obtain ⟨hil,he⟩:=hi
 rw [he]
 by_cases hlt:i < l.length
 rotate_left
 ·have q1:¬ ((i:Int) < (l.length:Int)):=by omega
  have ht:ZaV (l.drop i) s=false:=by rw [List.drop_eq_nil_of_le om];rfl
  (have F:=ai @q1 @ht;refine gG ?_;exact gT)
 have q1:(i:Int) < (l.length:Int):=by omega
 obtain ⟨x,hx⟩:∃ x,l[i]?=some x:=⟨_,Taa hlt⟩
 have hw:=Zap (k:=i) om
 have hst:=Zmz (s:=s) hx
 cases hb:(x.toList==s.toList) with
 | true =>
  have ht:ZaV (l.drop i) s=true:=by rw [hst,hb];rfl
  (have F:=ai @q1 (ai @hr (ai @hx (ai @Ze2 (ai @hb @ht))));refine gG ?_;exact gT)
 | false =>
  have hq:ZaV (l.drop i) s=ZaV (l.drop (i+1)) s:=by rw [hst,hb,Bool.false_or]
  (have F:=ai @q1 (ai @hr (ai @hx (ai @Ze2 (ai @hb @hw))));refine gG ?_;exact ⟨i+1,⟨hlt,hq⟩,gw,gw,by omega⟩)
section
variable {s:Srt}
theorem Zkw (hok:Ziy s):Con e0 193 [.agg (Za1 s)] [.one (.lit (.bool (Zbt s)))]:=by
 have hno:¬ SortsOk s->Zbt s=false:=Zeu
 have cU:=fun h2 h3 h4=>Zvn (s:=s) h2 h3 h4
 have hrs:=ZgN s.names
 rw [Za1] at cU ⊢
 refine gI 21267982750773439247570160629959360767 Tryz.func193 ?_
 by_cases h1:1<=s.names.length
 rotate_left
 ·have hf:=hno fun h=>h1 h.n1
  have z1:((s.names.length:Int) < 1)=True:=eq_true om
  (have F:=ai @z1 @hf;refine gG ?_;exact gT)
 have z1:((s.names.length:Int) < 1)=False:=eq_false om
 by_cases h8:s.names.length<=8
 rotate_left
 ·have hf:=hno fun h=>h8 h.n8
  have z2:((8:Int) < (s.names.length:Int))=True:=eq_true om
  (have F:=ai @z1 (ai @z2 @hf);refine gG ?_;exact gT)
 have z2:((8:Int) < (s.names.length:Int))=False:=eq_false om
 by_cases h16:s.subs.length<=16
 rotate_left
 ·have hf:=hno fun h=>h16 h.m16
  have z3:((16:Int) < (s.subs.length:Int))=True:=eq_true om
  (have F:=ai @z1 (ai @z2 (ai @z3 @hf));refine gG ?_;exact gT)
 have z3:((16:Int) < (s.subs.length:Int))=False:=eq_false om
 have hw1n:IntKind.i64.wrap ((s.names.length:Int) - 1)=(s.names.length:Int) - 1:=IntWalk.i64_in _ om
 (have F:=ai @z1 (ai @z2 @z3);refine gG ?_;clear F)
 (have F:=@e0P;refine gL (ι:=Nat) [2,3,28,49] [] (fun i=>[(3,A.d (.one (.lit (.int .i64 i))))]) (fun i=>[]) (fun i=>i<=s.names.length∧∀ j,j < i->ZgS s.names j) (fun i=>s.names.length - i) (0) (⟨Taj _,fun j h=>absurd h om⟩) (fun i hi=>?_);clear F)
 obtain ⟨hil,hall⟩:=hi
 by_cases hlt:i < s.names.length
 ·have q1:(i:Int) < (s.names.length:Int):=by omega
  obtain ⟨x,hx⟩:∃ x,s.names[i]?=some x:=⟨_,Taa hlt⟩
  have hw:=Zap (k:=i) om
  have hbad:¬ (Za2 x=true∧ZaV (s.names.take i) x=false)->Zbt s=false:=fun h=>hno fun hs=>h (hs.names i hlt x hx)
  have cN:=Ze1 (hok.1 x (Tac hx))
  have cH:=Zt4 (l:=s.names.take i) x (by rw [Tav];omega)
  rw [List.map_take] at cH
  have z4:((i:Int)<=(s.names.length:Int))=True:=eq_true om
  (have F:=@q1;refine gG ?_;clear F)
  refine gB ?_
  (have F:=ai @hrs (ai @hx @Ze2);refine gC (cN) ?_;clear F)
  cases hn:Za2 x with
  | false =>
   have hf:=hbad fun h=>by rw [hn] at h;cases h.1
   (have F:=@e0P;refine gR ?_;clear F)
   (have F:=@hf;refine gG ?_;exact gT)
  | true =>
  (have F:=ai @hrs (ai @hx (ai @Ze2 (ai @z4 @Zan)));refine gC (cH) ?_;clear F)
  cases hh:ZaV (s.names.take i) x with
  | true =>
   have hf:=hbad fun h=>by rw [hh] at h;cases h.2
   (have F:=@e0P;refine gR ?_;clear F)
   (have F:=@hf;refine gG ?_;exact gT)
  | false =>
  have hq:i+1<=s.names.length∧∀ j,j < i+1->ZgS s.names j:=⟨hlt,fun j hj=>by
   by_cases e:j=i
   ·subst e
    intro y hy
    rw [hx] at hy
    injection hy with hy
    subst hy
    exact ⟨hn,hh⟩
   ·exact hall j om⟩
  (have F:=@e0P;refine gR ?_;clear F)
  (have F:=@hw;refine gG ?_;exact ⟨i+1,hq,gw,gw,by omega⟩)
 obtain rfl:i=s.names.length:=by omega
 have q1:¬ ((s.names.length:Int) < (s.names.length:Int)):=by omega
 (have F:=@q1;refine gG ?_;clear F)
 (have F:=@e0P;refine gL (ι:=Nat) [2,4,54,97] [] (fun k=>[(4,A.d (.one (.lit (.int .i64 k))))]) (fun k=>[]) (fun k=>k<=s.subs.length∧∀ (j:Nat) p,j < k->s.subs[j]?=some p->Zd9 s.names.length p) (fun k=>s.subs.length - k) (0) (⟨Taj _,fun j p h=>absurd h om⟩) (fun k hk=>?_);clear F)
 obtain ⟨hkl,hsub⟩:=hk
 by_cases hlk:k < s.subs.length
 ·have q2:(k:Int) < (s.subs.length:Int):=by omega
  obtain ⟨p,hp⟩:∃ x,s.subs[k]?=some x:=⟨_,Taa hlk⟩
  have hw:=Zap (k:=k) om
  have hbad:¬ Zd9 s.names.length p->Zbt s=false:=fun h=>hno fun hs=>h (hs.subs p (Tac hp))
  have hrb:=Zlu s.subs
  (have F:=@q2;refine gG ?_;clear F)
  refine gB ?_
  (have F:=ai @hrb (ai @hp (ai @ZbG @hw1n));refine gC (Zc0 p.1 0 ((s.names.length:Int) - 1)) ?_;clear F)
  by_cases c1:0<=p.1∧p.1<=(s.names.length:Int) - 1
  rotate_left
  ·have hf:=hbad fun h=>c1 ⟨h.1,by have:=h.2.1;omega⟩
   have y1:decide (0<=p.1∧p.1<=(s.names.length:Int) - 1)=false:=decide_eq_false c1
   (have F:=@y1;refine gR ?_;clear F)
   (have F:=@hf;refine gG ?_;exact gT)
  have y1:decide (0<=p.1∧p.1<=(s.names.length:Int) - 1)=true:=decide_eq_true c1
  (have F:=ai @hrb (ai @hp (ai @ZbG (ai @hw1n @y1)));refine gC (Zc0 p.2 0 ((s.names.length:Int) - 1)) ?_;clear F)
  by_cases c2:0<=p.2∧p.2<=(s.names.length:Int) - 1
  rotate_left
  ·have hf:=hbad fun h=>c2 ⟨h.2.2.1,by have:=h.2.2.2.1;omega⟩
   have y2:decide (0<=p.2∧p.2<=(s.names.length:Int) - 1)=false:=decide_eq_false c2
   (have F:=ai @y1 @y2;refine gR ?_;clear F)
   (have F:=@hf;refine gG ?_;exact gT)
  have y2:decide (0<=p.2∧p.2<=(s.names.length:Int) - 1)=true:=decide_eq_true c2
  by_cases c5:p.1=p.2
  ·have hf:=hbad fun h=>h.2.2.2.2 c5
   have y5:(p.1=p.2)=True:=eq_true c5
   (have F:=ai @y1 (ai @y2 (ai @hrb (ai @hp (ai @ZbG @y5))));refine gR ?_;clear F)
   (have F:=@hf;refine gG ?_;exact gT)
  have y5:(p.1=p.2)=False:=eq_false c5
  have hq:k+1<=s.subs.length∧∀ (j:Nat) p,j < k+1->s.subs[j]?=some p->Zd9 s.names.length p:=⟨hlk,fun j p' hj hp'=>by
   by_cases e:j=k
   ·subst e
    rw [hp] at hp'
    injection hp' with hp'
    subst hp'
    exact ⟨by omega,by omega,by omega,by omega,c5⟩
   ·exact hsub j p' om hp'⟩
  (have F:=ai @y1 (ai @y2 (ai @hrb (ai @hp (ai @ZbG @y5))));refine gR ?_;clear F)
  (have F:=@hw;refine gG ?_;exact ⟨k+1,hq,gw,gw,by omega⟩)
 obtain rfl:k=s.subs.length:=by omega
 have q2:¬ ((s.subs.length:Int) < (s.subs.length:Int)):=by omega
 have hsubs:∀ p∈s.subs,Zd9 s.names.length p:=fun p hp=>by obtain ⟨j,hj⟩:=Tbh hp;exact hsub j p (Tad.1 hj).1 hj
 have hSI:=SortsOk.subsIn hsubs
 have hU:=ZfZ hSI
 have hyes:(∀ i k,i < s.names.length->k < i->Zcb (up s) i k)->Zbt s=true:=fun h=>ZdK ⟨h1,h8,h16,fun i hi=>hall i hi,hsubs,fun i k hi hk hb=>by
  rcases Nat.lt_trichotomy i k with h2 | h2 | h2
  ·exact h k i hk h2 ⟨fun e=>hb.1 e.symm,hb.2.2,hb.2.1⟩
  ·exact hb.1 h2
  ·exact h i k hi h2 hb⟩
 have hno2:∀ i k,i < s.names.length->k < s.names.length->¬ Zcb (up s) i k->Zbt s=false:=fun i k h1 h2 h3=>hno fun h=>h3 (h.pairs i k h1 h2)
 have lU:=Zbk (l:=up s)
 rw [hU.1] at lU
 have rU:=Zbl (l:=up s)
 (have F:=@q2;refine gG ?_;clear F)
 refine gB ?_
 (have F:=@e0P;refine gC (cU h8 h16 hSI) ?_;clear F)
 (have F:=@e0P;refine gR ?_;clear F)
 generalize up s=u at hU hyes hno2 lU rU ⊢
 have hpw:∀ i,i < s.names.length->u[i]?=some (u.getD i 0)∧u.getD i 0 < 4611686018427387904:=fun i hi=>by
  obtain ⟨g1,g2⟩:=hU.get hi
  exact ⟨g1,Nat.lt_trans g2 (ZeY om)⟩
 (have F:=@lU;refine gG ?_;clear F)
 (have F:=@e0P;refine gL (ι:=Nat) [2,6,7,103,108,124] [] (fun i=>[(6,A.d (.one (.lit (.int .i64 i))))]) (fun i=>[]) (fun i=>i<=s.names.length∧∀ i' k,i' < i->k < i'->Zcb u i' k) (fun i=>s.names.length - i) (0) (⟨Taj _,fun i' k h=>absurd h om⟩) (fun i hi=>?_);clear F)
 obtain ⟨hil,hpi⟩:=hi
 by_cases hlt:i < s.names.length
 rotate_left
 ·have q3:¬ ((i:Int) < (s.names.length:Int)):=by omega
  have ht:=hyes fun i' k h1 h2=>hpi i' k om h2
  (have F:=ai @q3 (ai @lU @ht);refine gG ?_;exact gT)
 have q3:(i:Int) < (s.names.length:Int):=by omega
 have hwi:=Zap (k:=i) om
 obtain ⟨gi,bi⟩:=hpw i hlt
 (have F:=ai @q3 @lU;refine gG ?_;clear F)
 (have F:=@e0P;refine gL (ι:=Nat) [2,7,108,124] [] (fun k=>[(7,A.d (.one (.lit (.int .i64 k))))]) (fun k=>[]) (fun k=>k<=i∧∀ k',k' < k->Zcb u i k') (fun k=>i - k) (0) (⟨Taj _,fun k h=>absurd h om⟩) (fun k hk=>?_);clear F)
 obtain ⟨hkl,hpk⟩:=hk
 have hwk:=Zap (k:=k) om
 by_cases hlk:k < i
 rotate_left
 ·have q4:((k:Int) < (i:Int))=False:=eq_false om
  have hq:i+1<=s.names.length∧∀ i' k,i' < i+1->k < i'->Zcb u i' k:=⟨hlt,fun i' k' h h2=>by
   by_cases e:i'=i
   ·subst e;exact hpk k' om
   ·exact hpi i' k' om h2⟩
  (have F:=ai @q4 @hwi;refine gG ?_;exact ⟨i+1,hq,gw,gw,by omega⟩)
 have q4:((k:Int) < (i:Int))=True:=eq_true om
 obtain ⟨gk,bk⟩:=hpw k om
 have nx:Zcb u i k->k+1<=i∧∀ k',k' < k+1->Zcb u i k':=fun h=>⟨hlk,fun k' h2=>by
  by_cases e:k'=k
  ·subst e;exact h
  ·exact hpk k' om⟩
 have r1:=ZbB gi
 have r2:=ZbB gk
 (have F:=@q4;refine gG ?_;clear F)
 refine gB ?_
 (have F:=ai @rU @r1;refine gC (Zj1 (a:=u.getD i 0) (k:=k) bi om) ?_;clear F)
 cases b1:tbit (u.getD i 0) k with
 | false =>
  have hq:=nx fun h=>by have:=h.2.1;rw [show (u.getD i 0).testBit k=false from b1] at this;cases this
  (have F:=@e0P;refine gR ?_;clear F)
  (have F:=@hwk;refine gG ?_;exact ⟨k+1,hq,gw,gw,by omega⟩)
 | true =>
 (have F:=ai @rU @r2;refine gC (Zj1 (a:=u.getD k 0) (k:=i) bk om) ?_;clear F)
 cases b2:tbit (u.getD k 0) i with
 | false =>
  have hq:=nx fun h=>by have:=h.2.2;rw [show (u.getD k 0).testBit i=false from b2] at this;cases this
  (have F:=@e0P;refine gR ?_;clear F)
  (have F:=@hwk;refine gG ?_;exact ⟨k+1,hq,gw,gw,by omega⟩)
 | true =>
  have hf:=hno2 i k hlt om fun h=>h ⟨by omega,b1,b2⟩
  (have F:=@e0P;refine gR ?_;clear F)
  (have F:=@hf;refine gG ?_;exact gT)
end
def Zc1 (s:Srt):List C:=[.sl (nR (up s)),.sl (nR (down s)),.sl (nR (kinds s))]
theorem Zf2:∀ s,Zc1 s=[.sl (nR (up s)),.sl (nR (down s)),.sl (nR (kinds s))]:=fun _=>rfl
section
variable {s:Srt}
theorem kdg (hs:SortsOk s) {k:Int} (h:0<=k∧k < s.names.length):(nR (kinds s))[k.toNat]?=some [.lit (.int .i64 (kd s k:Nat))]:=by
 have hk:=Zf1 (SortsOk.subsIn hs.subs)
 have hl:k.toNat < (kinds s).length:=by rw [hk.1];omega
 rw [ZbB (Taa hl),kd,List.getD_eq_getElem?_getD,Taa hl]
 rfl
theorem ZAe (hs:SortsOk s):(nR (kinds s)).length=s.names.length:=by rw [Zbk,(Zf1 (SortsOk.subsIn hs.subs)).1]
theorem Zvq (hs:SortsOk s) (k:Int):Con e0 254 [.agg (Zc1 s),.one (.lit (.int .i64 k))] [.one (.lit (.bool (decide (0<=k∧k < s.names.length))))]:=by
 have hl:(nR (up s)).length=s.names.length:=by rw [Zbk,(ZfZ (SortsOk.subsIn hs.subs)).1]
 rw [Zc1]
 refine gI 23 Tryz.func254 ?_
 by_cases h0:0<=k
 ·by_cases h1:k < s.names.length
  ·(have F:=ai @h0 (ai @hl @h1);refine gG ?_;exact gT)
  ·(have F:=ai @h0 (ai @hl @h1);refine gG ?_;exact gT)
 ·(have F:=@h0;refine gG ?_;exact gT)
theorem Zt5 {l:List Int} {p:Int->Prop} {j:Nat} {c:Int} (hc:l[j]?=some c) (h:∀ (i:Nat) (c:Int),i < j->l[i]?=some c->p c) (hp:p c):∀ (i:Nat) (c:Int),i < j+1->l[i]?=some c->p c:=fun i c' hi hc'=>by
 by_cases hij:i=j
 ·subst hij;rw [hc] at hc';injection hc' with hc';subst hc';exact hp
 ·exact h i c' om hc'
theorem ZiK {f d:Dcl} {i:Nat} {a:Int} (ha:d.args[i]?=some a) (hall:∀ (i':Nat) a,i' < i->d.args[i']?=some a->(0<=a∧a < s.names.length)∧∀ b,f.args[i']?=some b->kd s a=kd s b) (h1:0<=a∧a < s.names.length) (h2:∀ b,f.args[i]?=some b->kd s a=kd s b) :
  ∀ (i':Nat) a,i' < i+1->d.args[i']?=some a->(0<=a∧a < s.names.length)∧∀ b,f.args[i']?=some b->kd s a=kd s b:=fun i' a' h ha'=>by
 by_cases e:i'=i
 ·subst e
  rw [ha] at ha'
  injection ha' with ha'
  subst ha'
  exact ⟨h1,h2⟩
 ·exact hall i' a' om ha'
theorem Zj4 {f d:Dcl} (h1:d.args.length=f.args.length) (h2:0<=d.res∧d.res < s.names.length) (h3:kd s d.res=kd s f.res) (hall:∀ (i':Nat) a,i' < d.args.length->d.args[i']?=some a->(0<=a∧a < s.names.length)∧∀ b,f.args[i']?=some b->kd s a=kd s b):DeclOk s f d :=
 ⟨h1,h2,fun k hk=>by obtain ⟨i,hi⟩:=Tbh hk;exact (hall i k (Tad.1 hi).1 hi).1,h3,fun i a b ha hb=>(hall i a (Tad.1 ha).1 ha).2 b hb⟩
theorem ZiL {l:List Dcl} {P:Dcl->Prop} {j:Nat} {d:Dcl} (hd:l[j]?=some d) (hall:∀ (j':Nat) d,j' < j->l[j']?=some d->P d) (h:P d):∀ (j':Nat) d,j' < j+1->l[j']?=some d->P d:=fun j' d' hj hd'=>by
 by_cases e:j'=j
 ·subst e
  rw [hd] at hd'
  injection hd' with hd'
  subst hd'
  exact h
 ·exact hall j' d' om hd'
theorem Zkx (hs:SortsOk s) (o:Opr):Con e0 204 [.agg (Zc1 s),.agg (Zbo o)] [.one (.lit (.bool (ZbI s o)))]:=by
 have hno:¬ DeclsOk s o->ZbI s o=false:=Zgj
 have cH:=Zvq hs
 have rK:=Zbl (l:=kinds s)
 rw [Zc1] at cH ⊢
 rw [Zbo]
 refine gI 83076759175850041743779962279694015 Tryz.func204 ?_
 by_cases h1:1<=o.decls.length
 rotate_left
 ·have hf:=hno fun h=>h1 h.len1
  have z1:((o.decls.length:Int) < 1)=True:=eq_true om
  (have F:=ai @z1 @hf;refine gG ?_;exact gT)
 have z1:((o.decls.length:Int) < 1)=False:=eq_false om
 by_cases h4:o.decls.length<=4
 rotate_left
 ·have hf:=hno fun h=>h4 h.len4
  have z2:((4:Int) < (o.decls.length:Int))=True:=eq_true om
  (have F:=ai @z1 (ai @z2 @hf);refine gG ?_;exact gT)
 have z2:((4:Int) < (o.decls.length:Int))=False:=eq_false om
 obtain ⟨f,hf0⟩:∃ f,o.decls[0]?=some f:=⟨_,Taa om⟩
 have hfm:=Tac hf0
 by_cases h3:f.args.length<=3
 rotate_left
 ·have hf:=hno fun h=>h3 (h.ar f hf0)
  have z3:((3:Int) < (f.args.length:Int))=True:=eq_true om
  (have F:=ai @z1 (ai @z2 (ai @hf0 (ai @ZaM (ai @z3 @hf))));refine gG ?_;exact gT)
 have z3:((3:Int) < (f.args.length:Int))=False:=eq_false om
 (have F:=ai @z1 (ai @z2 (ai @hf0 (ai @ZaM @z3)));refine gG ?_;clear F)
 refine gB ?_
 (have F:=@e0P;refine gC (cH f.res) ?_;clear F)
 by_cases hr:0<=f.res∧f.res < (s.names.length:Int)
 rotate_left
 ·have hf:=hno fun h=>hr (h.all f hf0 f hfm).res
  have y1:decide (0<=f.res∧f.res < (s.names.length:Int))=false:=decide_eq_false hr
  (have F:=@y1;refine gR ?_;clear F)
  (have F:=@hf;refine gG ?_;exact gT)
 have y1:decide (0<=f.res∧f.res < (s.names.length:Int))=true:=decide_eq_true hr
 have gr:=kdg hs hr
 have ir:=hr.1
 (have F:=@y1;refine gR ?_;clear F)
 (have F:=@e0P;refine gG ?_;clear F)
 (have F:=@e0P;refine gL (ι:=Nat) [4,7,43,44,50] [] (fun i=>[(43,A.d (.one (.lit (.int .i64 i))))]) (fun i=>[]) (fun i=>i<=f.args.length∧∀ (i':Nat) k,i' < i->f.args[i']?=some k->0<=k∧k < s.names.length) (fun i=>f.args.length - i) (0) (⟨Taj _,fun i' k h=>absurd h om⟩) (fun i hi=>?_);clear F)
 obtain ⟨hil,hfa⟩:=hi
 by_cases hlt:i < f.args.length
 ·have q1:(i:Int) < (f.args.length:Int):=by omega
  obtain ⟨k,hk⟩:∃ k,f.args[i]?=some k:=⟨_,Taa hlt⟩
  have hw:=Zap (k:=i) om
  (have F:=ai @q1 (ai @hk @Za0);refine gG ?_;clear F)
  refine gB ?_
  (have F:=@e0P;refine gC (cH k) ?_;clear F)
  by_cases hkr:0<=k∧k < (s.names.length:Int)
  rotate_left
  ·have hf:=hno fun h=>hkr ((h.all f hf0 f hfm).args k (Tac hk))
   have y2:decide (0<=k∧k < (s.names.length:Int))=false:=decide_eq_false hkr
   (have F:=@y2;refine gR ?_;clear F)
   (have F:=@hf;refine gG ?_;exact gT)
  have y2:decide (0<=k∧k < (s.names.length:Int))=true:=decide_eq_true hkr
  have hq:i+1<=f.args.length∧_:=⟨hlt,Zt5 hk hfa hkr⟩
  (have F:=@y2;refine gR ?_;clear F)
  (have F:=@hw;refine gG ?_;exact ⟨i+1,hq,gw,gw,by omega⟩)
 obtain rfl:i=f.args.length:=by omega
 have q1:¬ ((f.args.length:Int) < (f.args.length:Int)):=by omega
 (have F:=@q1;refine gG ?_;clear F)
 (have F:=@e0P;refine gL (ι:=Nat) [4,9,10,11,55,56,87,89,90,91,92,116] [] (fun j=>[(55,A.d (.one (.lit (.int .i64 j))))]) (fun j=>[]) (fun j=>j<=o.decls.length∧∀ (j':Nat) d,j' < j->o.decls[j']?=some d->DeclOk s f d) (fun j=>o.decls.length - j) (0) (⟨Taj _,fun j' d h=>absurd h om⟩) (fun j hj=>?_);clear F)
 obtain ⟨hjl,hdo⟩:=hj
 by_cases hlj:j < o.decls.length
 rotate_left
 ·have q2:¬ ((j:Int) < (o.decls.length:Int)):=by omega
  have ht:=ZdL (s:=s) (o:=o) ⟨h1,h4,fun f' h=>by rw [hf0] at h;injection h with h;subst h;exact h3,fun f' h d hd=>by
   rw [hf0] at h;injection h with h;subst h
   obtain ⟨j',hj'⟩:=Tbh hd
   exact hdo j' d (by have:=(Tad.1 hj').1;omega) hj'⟩
  (have F:=ai @q2 @ht;refine gG ?_;exact gT)
 have q2:(j:Int) < (o.decls.length:Int):=by omega
 obtain ⟨d,hd⟩:∃ d,o.decls[j]?=some d:=⟨_,Taa hlj⟩
 have hdm:=Tac hd
 have hwj:=Zap (k:=j) om
 have hbad:¬ DeclOk s f d->ZbI s o=false:=fun h=>hno fun hD=>h (hD.all f hf0 d hdm)
 by_cases hdl:d.args.length=f.args.length
 rotate_left
 ·have hf:=hbad fun h=>hdl h.len
  have y3:((d.args.length:Int)=(f.args.length:Int))=False:=eq_false om
  (have F:=ai @q2 (ai @hd (ai @ZaM (ai @y3 @hf)));refine gG ?_;exact gT)
 have y3:((d.args.length:Int)=(f.args.length:Int))=True:=eq_true om
 (have F:=ai @q2 (ai @hd @ZaM);refine gG ?_;clear F)
 refine gB ?_
 (have F:=@y3;refine gC (cH d.res) ?_;clear F)
 by_cases hdr:0<=d.res∧d.res < (s.names.length:Int)
 rotate_left
 ·have hf:=hbad fun h=>hdr h.res
  have y4:decide (0<=d.res∧d.res < (s.names.length:Int))=false:=decide_eq_false hdr
  (have F:=ai @y3 @y4;refine gR ?_;clear F)
  (have F:=@hf;refine gG ?_;exact gT)
 have y4:decide (0<=d.res∧d.res < (s.names.length:Int))=true:=decide_eq_true hdr
 have gd:=kdg hs hdr
 have id':=hdr.1
 have jd:=hdr.2
 by_cases hkr:kd s d.res=kd s f.res
 rotate_left
 ·have hf:=hbad fun h=>hkr h.kres
  have y5:((kd s d.res:Int)=(kd s f.res:Int))=False:=eq_false om
  (have F:=ai @y3 (ai @y4 (ai @gr (ai @gd (ai @ir (ai @id' (ai @jd (ai @rK @y5)))))));refine gR ?_;clear F)
  (have F:=@hf;refine gG ?_;exact gT)
 have y5:((kd s d.res:Int)=(kd s f.res:Int))=True:=eq_true om
 (have F:=ai @y3 (ai @y4 (ai @gr (ai @gd (ai @ir (ai @id' (ai @jd (ai @rK @y5)))))));refine gR ?_;clear F)
 (have F:=@e0P;refine gG ?_;clear F)
 (have F:=@e0P;refine gL (ι:=Nat) [4,10,11,91,92,116] [] (fun i=>[(91,A.d (.one (.lit (.int .i64 i))))]) (fun i=>[]) (fun i=>i<=d.args.length∧∀ (i':Nat) a,i' < i->d.args[i']?=some a->(0<=a∧a < s.names.length)∧∀ b,f.args[i']?=some b->kd s a=kd s b) (fun i=>d.args.length - i) (0) (⟨Taj _,fun i' a h=>absurd h om⟩) (fun i hi=>?_);clear F)
 obtain ⟨hil2,hka⟩:=hi
 by_cases hlt:i < d.args.length
 rotate_left
 ·obtain rfl:i=d.args.length:=by omega
  have q3:¬ ((d.args.length:Int) < (d.args.length:Int)):=by omega
  have hq:j+1<=o.decls.length∧_:=⟨hlj,ZiL hd hdo (Zj4 hdl hdr hkr hka)⟩
  (have F:=ai @q3 @hwj;refine gG ?_;exact ⟨j+1,hq,gw,gw,by omega⟩)
 have q3:(i:Int) < (d.args.length:Int):=by omega
 obtain ⟨a,ha⟩:∃ k,d.args[i]?=some k:=⟨_,Taa hlt⟩
 obtain ⟨b,hb⟩:∃ k,f.args[i]?=some k:=⟨_,Taa om⟩
 have hw:=Zap (k:=i) om
 have hbr:=hfa i b om hb
 have gb:=kdg hs hbr
 have ib:=hbr.1
 (have F:=ai @q3 (ai @ha @Za0);refine gG ?_;clear F)
 refine gB ?_
 (have F:=@e0P;refine gC (cH a) ?_;clear F)
 by_cases har:0<=a∧a < (s.names.length:Int)
 rotate_left
 ·have hf:=hbad fun h=>har (h.args a (Tac ha))
  have y6:decide (0<=a∧a < (s.names.length:Int))=false:=decide_eq_false har
  (have F:=@y6;refine gR ?_;clear F)
  (have F:=@hf;refine gG ?_;exact gT)
 have y6:decide (0<=a∧a < (s.names.length:Int))=true:=decide_eq_true har
 have ga:=kdg hs har
 have ia:=har.1
 have ja:=har.2
 by_cases hkk:kd s a=kd s b
 rotate_left
 ·have hf:=hbad fun h=>hkk (h.kargs i a b ha hb)
  have y7:((kd s a:Int)=(kd s b:Int))=False:=eq_false om
  (have F:=ai @y6 (ai @ga (ai @gb (ai @ia (ai @ja (ai @ib (ai @hb (ai @Za0 (ai @rK @y7))))))));refine gR ?_;clear F)
  (have F:=@hf;refine gG ?_;exact gT)
 have y7:((kd s a:Int)=(kd s b:Int))=True:=eq_true om
 have hq:i+1<=d.args.length∧_:=⟨hlt,ZiK (f:=f) ha hka har fun b' hb'=>by rw [hb] at hb';injection hb' with hb';subst hb';exact hkk⟩
 (have F:=ai @y6 (ai @ga (ai @gb (ai @ia (ai @ja (ai @ib (ai @hb (ai @Za0 (ai @rK @y7))))))));refine gR ?_;clear F)
 (have F:=@hw;refine gG ?_;exact ⟨i+1,hq,gw,gw,by omega⟩)
theorem ZmD {g:Sgn} (hs:SortsOk g.sorts) (o:Opr):Con e0 194 [.agg (ZaA g),.agg (Zbo o)] [.one (.lit (.bool (ZbI g.sorts o)))]:=by
 have hno:¬ DeclsOk g.sorts o->ZbI g.sorts o=false:=Zgj
 have cK:=Zec hs
 rw [show (Zbu (kinds g.sorts)).map ZaK=nR (kinds g.sorts) from rfl] at cK
 have rK:=Zbl (l:=kinds g.sorts)
 have lK:=ZAe hs
 have n1:=hs.n1
 have n8:=hs.n8
 have hw1n:IntKind.i64.wrap ((g.sorts.names.length:Int) - 1)=(g.sorts.names.length:Int) - 1:=IntWalk.i64_in _ om
 rw [Za1] at cK
 rw [ZaA,Zbo]
 refine gI 1298708039934125393111688421573631 Tryz.func194 ?_
 by_cases h1:1<=o.decls.length
 rotate_left
 ·have hf:=hno fun h=>h1 h.len1
  have z1:((o.decls.length:Int) < 1)=True:=eq_true om
  (have F:=ai @z1 @hf;refine gG ?_;exact gT)
 have z1:((o.decls.length:Int) < 1)=False:=eq_false om
 by_cases h4:o.decls.length<=4
 rotate_left
 ·have hf:=hno fun h=>h4 h.len4
  have z2:((4:Int) < (o.decls.length:Int))=True:=eq_true om
  (have F:=ai @z1 (ai @z2 @hf);refine gG ?_;exact gT)
 have z2:((4:Int) < (o.decls.length:Int))=False:=eq_false om
 obtain ⟨f,hf0⟩:∃ f,o.decls[0]?=some f:=⟨_,Taa om⟩
 have hfm:=Tac hf0
 by_cases h3:f.args.length<=3
 rotate_left
 ·have hf:=hno fun h=>h3 (h.ar f hf0)
  have z3:((3:Int) < (f.args.length:Int))=True:=eq_true om
  (have F:=ai @z1 (ai @z2 (ai @hf0 (ai @ZaM (ai @z3 @hf))));refine gG ?_;exact gT)
 have z3:((3:Int) < (f.args.length:Int))=False:=eq_false om
 (have F:=ai @z1 (ai @z2 (ai @hf0 (ai @ZaM @z3)));refine gG ?_;clear F)
 refine gB ?_
 (have F:=@e0P;refine gC (cK) ?_;clear F)
 (have F:=@e0P;refine gR ?_;clear F)
 (have F:=ai @hf0 @ZaM;refine gG ?_;clear F)
 (have F:=@e0P;refine gL (ι:=Nat) [4,7,8,9,40,63,68,99,110] [] (fun j=>[(7,A.d (.one (.lit (.int .i64 j))))]) (fun j=>[]) (fun j=>j<=o.decls.length∧∀ (j':Nat) d,j' < j->o.decls[j']?=some d->DeclOk g.sorts f d) (fun j=>o.decls.length - j) (0) (⟨Taj _,fun j' d h=>absurd h om⟩) (fun j hj=>?_);clear F)
 obtain ⟨hjl,hdo⟩:=hj
 by_cases hlj:j < o.decls.length
 rotate_left
 ·have q2:¬ ((j:Int) < (o.decls.length:Int)):=by omega
  have ht:=ZdL (s:=g.sorts) (o:=o) ⟨h1,h4,fun f' h=>by rw [hf0] at h;injection h with h;subst h;exact h3,fun f' h d hd=>by
   rw [hf0] at h;injection h with h;subst h
   obtain ⟨j',hj'⟩:=Tbh hd
   exact hdo j' d (by have:=(Tad.1 hj').1;omega) hj'⟩
  (have F:=ai @q2 @ht;refine gG ?_;exact gT)
 have q2:(j:Int) < (o.decls.length:Int):=by omega
 obtain ⟨d,hd⟩:∃ d,o.decls[j]?=some d:=⟨_,Taa hlj⟩
 have hdm:=Tac hd
 have hwj:=Zap (k:=j) om
 have hbad:¬ DeclOk g.sorts f d->ZbI g.sorts o=false:=fun h=>hno fun hD=>h (hD.all f hf0 d hdm)
 have hj0:d=f∨DeclOk g.sorts f f:=by
  rcases Nat.eq_zero_or_pos j with h | h
  ·subst h;rw [hf0] at hd;injection hd with hd;exact .inl hd.symm
  ·exact .inr (hdo 0 f h hf0)
 by_cases hdl:d.args.length=f.args.length
 rotate_left
 ·have hf:=hbad fun h=>hdl h.len
  have y3:((d.args.length:Int)=(f.args.length:Int))=False:=eq_false om
  (have F:=ai @q2 (ai @hd (ai @ZaM (ai @y3 @hf)));refine gG ?_;exact gT)
 have y3:((d.args.length:Int)=(f.args.length:Int))=True:=eq_true om
 (have F:=ai @q2 (ai @hd @ZaM);refine gG ?_;clear F)
 refine gB ?_
 (have F:=ai @y3 (ai @lK @hw1n);refine gC (Zc0 d.res 0 ((g.sorts.names.length:Int) - 1)) ?_;clear F)
 by_cases hdr:0<=d.res∧d.res < (g.sorts.names.length:Int)
 rotate_left
 ·have hf:=hbad fun h=>hdr h.res
  have y4:decide (0<=d.res∧d.res<=(g.sorts.names.length:Int) - 1)=false:=decide_eq_false om
  (have F:=ai @y3 @y4;refine gR ?_;clear F)
  (have F:=@hf;refine gG ?_;exact gT)
 have y4:decide (0<=d.res∧d.res<=(g.sorts.names.length:Int) - 1)=true:=decide_eq_true om
 have gd:=kdg hs hdr
 have id':=hdr.1
 have hfr:0<=f.res∧f.res < (g.sorts.names.length:Int):=by
  rcases hj0 with h | h
  ·rw [<- h];exact hdr
  ·exact h.res
 have gr:=kdg hs hfr
 have ir:=hfr.1
 (have F:=ai @y3 @y4;refine gR ?_;clear F)
 (have F:=@e0P;refine gG ?_;clear F)
 (have F:=@e0P;refine gL (ι:=Nat) [4,9,68,99] [] (fun i=>[(9,A.d (.one (.lit (.int .i64 i))))]) (fun i=>[]) (fun i=>i<=d.args.length∧∀ (i':Nat) a,i' < i->d.args[i']?=some a->(0<=a∧a < g.sorts.names.length)∧∀ b,f.args[i']?=some b->kd g.sorts a=kd g.sorts b) (fun i=>d.args.length - i) (0) (⟨Taj _,fun i' a h=>absurd h om⟩) (fun i hi=>?_);clear F)
 obtain ⟨hil2,hka⟩:=hi
 by_cases hlt:i < d.args.length
 rotate_left
 ·obtain rfl:i=d.args.length:=by omega
  have q3:¬ ((d.args.length:Int) < (d.args.length:Int)):=by omega
  by_cases hkr:kd g.sorts d.res=kd g.sorts f.res
  rotate_left
  ·have hf:=hbad fun h=>hkr h.kres
   have y5:((kd g.sorts d.res:Int)=(kd g.sorts f.res:Int))=False:=eq_false om
   (have F:=ai @q3 (ai @gr (ai @gd (ai @ir (ai @id' (ai @rK (ai @y5 @hf))))));refine gG ?_;exact gT)
  have y5:((kd g.sorts d.res:Int)=(kd g.sorts f.res:Int))=True:=eq_true om
  have hq:j+1<=o.decls.length∧_:=⟨hlj,ZiL hd hdo (Zj4 hdl hdr hkr hka)⟩
  (have F:=ai @q3 (ai @gr (ai @gd (ai @ir (ai @id' (ai @rK (ai @y5 @hwj))))));refine gG ?_;exact ⟨j+1,hq,gw,gw,by omega⟩)
 have q3:(i:Int) < (d.args.length:Int):=by omega
 obtain ⟨a,ha⟩:∃ k,d.args[i]?=some k:=⟨_,Taa hlt⟩
 obtain ⟨b,hb⟩:∃ k,f.args[i]?=some k:=⟨_,Taa om⟩
 have hw:=Zap (k:=i) om
 (have F:=@q3;refine gG ?_;clear F)
 refine gB ?_
 (have F:=ai @ha (ai @Za0 (ai @lK @hw1n));refine gC (Zc0 a 0 ((g.sorts.names.length:Int) - 1)) ?_;clear F)
 by_cases har:0<=a∧a < (g.sorts.names.length:Int)
 rotate_left
 ·have hf:=hbad fun h=>har (h.args a (Tac ha))
  have y6:decide (0<=a∧a<=(g.sorts.names.length:Int) - 1)=false:=decide_eq_false om
  (have F:=@y6;refine gR ?_;clear F)
  (have F:=@hf;refine gG ?_;exact gT)
 have y6:decide (0<=a∧a<=(g.sorts.names.length:Int) - 1)=true:=decide_eq_true om
 have y8:(a<=(g.sorts.names.length:Int) - 1)=True:=eq_true om
 have ga:=kdg hs har
 have ia:=har.1
 have hbr:0<=b∧b < (g.sorts.names.length:Int):=by
  rcases hj0 with h | h
  ·rw [<- h,ha] at hb;injection hb with hb;rw [<- hb];exact har
  ·exact h.args b (Tac hb)
 have gb:=kdg hs hbr
 have ib:=hbr.1
 by_cases hkk:kd g.sorts a=kd g.sorts b
 rotate_left
 ·have hf:=hbad fun h=>hkk (h.kargs i a b ha hb)
  have y7:((kd g.sorts a:Int)=(kd g.sorts b:Int))=False:=eq_false om
  (have F:=ai @y6 (ai @y8 (ai @ga (ai @gb (ai @ia (ai @ib (ai @ha (ai @hb (ai @Za0 (ai @rK @y7)))))))));refine gR ?_;clear F)
  (have F:=@hf;refine gG ?_;exact gT)
 have y7:((kd g.sorts a:Int)=(kd g.sorts b:Int))=True:=eq_true om
 have hq:i+1<=d.args.length∧_:=⟨hlt,ZiK (f:=f) ha hka har fun b' hb'=>by rw [hb] at hb';injection hb' with hb';subst hb';exact hkk⟩
 (have F:=ai @y6 (ai @y8 (ai @ga (ai @gb (ai @ia (ai @ib (ai @ha (ai @hb (ai @Za0 (ai @rK @y7)))))))));refine gR ?_;clear F)
 (have F:=@hw;refine gG ?_;exact ⟨i+1,hq,gw,gw,by omega⟩)
end
theorem Zfr {o:Opr} {d:Dcl} (hd:o.decls[0]?=some d):Con e0 271 [.agg (Zbo o)] [.one (.lit (.int .i64 d.args.length))]:=by
 refine gI 7 Tryz.func271 ?_
 (have F:=ai @Zak (ai @hd @ZaM);refine gG ?_;exact gT)
section
variable {g:Sgn} {o:Opr}
theorem Zhe {d:Dcl} (hd:o.decls[0]?=some d) (h1:0<=o.unit) (h2:o.unit<=g.ops.length) (h3:d.args.length=2) {a b:Int} (ha:d.args[0]?=some a) (hb:d.args[1]?=some b) (hk:kd g.sorts a=kd g.sorts b) (hr:¬ ((o.assoc=true∨o.unit≠0)∧kd g.sorts a≠kd g.sorts d.res))
  (hu:o.unit≠0->∀ (p:Opr) (u:Dcl),g.ops[o.unit.toNat - 1]?=some p->p.decls[0]?=some u->u.args.length=0∧kd g.sorts u.res=kd g.sorts d.res):AxOk g o :=
 ⟨h1,h2,fun _ d' hd'=>by
  rw [hd] at hd';injection hd' with hd';subst hd'
  refine ⟨h3,fun a' b' ha' hb'=>?_⟩
  rw [ha] at ha';injection ha' with ha';subst ha'
  rw [hb] at hb';injection hb' with hb';subst hb'
  exact ⟨hk,fun h=>Classical.byContradiction fun hn=>hr ⟨h,hn⟩,hu⟩⟩
theorem ZlK (h:o.assoc=false∧o.comm=false∧o.unit=0):AxOk g o:=⟨by rw [h.2.2];exact Int.le_refl _,by rw [h.2.2];omega,fun h2=>by
 rcases h2 with h2 | h2 | h2
 ·rw [h.1] at h2;cases h2
 ·rw [h.2.1] at h2;cases h2
 ·exact absurd h.2.2 h2⟩
theorem Zpl (h:¬ (o.assoc=false∧o.comm=false∧o.unit=0)):o.assoc=true∨o.comm=true∨o.unit≠0:=by
 by_cases h1:o.assoc=true
 ·exact .inl h1
 by_cases h2:o.comm=true
 ·exact .inr (.inl h2)
 exact .inr (.inr fun h3=>h ⟨by simpa using h1,by simpa using h2,h3⟩)
theorem Zjq (hs:SortsOk g.sorts) (hall:∀ p∈g.ops,DeclsOk g.sorts p) (ho:o∈g.ops) (hol:g.ops.length<=14):Con e0 205 [.agg (Zc1 g.sorts),.agg (ZaA g),.agg (Zbo o)] [.one (.lit (.bool (axOk g o)))]:=by
 have hno:¬ AxOk g o->axOk g o=false:=ZiH
 have rK:=Zbl (l:=kinds g.sorts)
 obtain ⟨d,hd,hdd⟩:=(hall o ho).first
 have gr:=kdg hs hdd.res
 have ir:=hdd.res.1
 rw [Zc1,ZaA,Zbo]
 refine gI 87042659588714057177760255 Tryz.func205 ?_
 by_cases h1:0<=o.unit
 rotate_left
 ·have hf:=hno fun h=>h1 h.lo
  have z1:(o.unit < 0)=True:=eq_true om
  (have F:=ai @z1 @hf;refine gG ?_;exact gT)
 have z1:(o.unit < 0)=False:=eq_false om
 by_cases h2:o.unit<=g.ops.length
 rotate_left
 ·have hf:=hno fun h=>h2 h.hi
  have z2:((g.ops.length:Int) < o.unit)=True:=eq_true om
  (have F:=ai @z1 (ai @z2 @hf);refine gG ?_;exact gT)
 have z2:((g.ops.length:Int) < o.unit)=False:=eq_false om
 by_cases hp:o.assoc=false∧o.comm=false∧o.unit=0
 ·have ht:=ZcB (ZlK (g:=g) hp)
  obtain ⟨p1,p2,p3⟩:=hp
  have p3:(o.unit=0)=True:=eq_true p3
  (have F:=ai @z1 (ai @z2 (ai @p1 (ai @p2 (ai @p3 @ht))));refine gG ?_;exact gT)
 have hnd:=Zpl hp
 (have F:=ai @z1 @z2;have NN:Zaj 3:=trivial;refine gGn ?_;clear F NN)
 refine gM (ι:=Unit) [32] [] (fun v=>[(32,A.d (.one (.lit (.bool false))))]) (fun v=>[]) (fun v=>True) ?_ (fun v hv=>Exists.intro _ (ai (Wk.refl _) ?_))
 ·cases q1:o.assoc with
  | true=>(have F:=@q1;refine gG ?_;exact ⟨(),trivial,gw,gw⟩)
  | false =>
  cases q2:o.comm with
  | true=>(have F:=ai @q1 @q2;refine gG ?_;exact ⟨(),trivial,gw,gw⟩)
  | false =>
   have q3:(o.unit=0)=False:=eq_false fun h=>hp ⟨q1,q2,h⟩
   (have F:=ai @q1 (ai @q2 @q3);refine gG ?_;exact ⟨(),trivial,gw,gw⟩)
 clear hv
 by_cases h3:d.args.length=2
 rotate_left
 ·have hf:=hno fun h=>h3 (h.two hnd d hd).1
  have z3:((d.args.length:Int)=2)=False:=eq_false om
  (have F:=ai @hd (ai @ZaM (ai @z3 @hf));refine gG ?_;exact gT)
 have z3:((d.args.length:Int)=2)=True:=eq_true om
 obtain ⟨a,ha⟩:∃ k,d.args[0]?=some k:=⟨_,Taa om⟩
 obtain ⟨b,hb⟩:∃ k,d.args[1]?=some k:=⟨_,Taa om⟩
 have har:=hdd.args a (Tac ha)
 have hbr:=hdd.args b (Tac hb)
 have ga:=kdg hs har
 have gb:=kdg hs hbr
 have ia:=har.1
 have ib:=hbr.1
 by_cases hk:kd g.sorts a=kd g.sorts b
 rotate_left
 ·have hf:=hno fun h=>hk ((h.two hnd d hd).2 a b ha hb).1
  have z4:((kd g.sorts a:Int)=(kd g.sorts b:Int))=False:=eq_false om
  (have F:=ai @hd (ai @ZaM (ai @z3 (ai @ha (ai @hb (ai @Za0 (ai @ga (ai @gb (ai @ia (ai @ib (ai @rK (ai @z4 @hf)))))))))));refine gG ?_;exact gT)
 have z4:((kd g.sorts a:Int)=(kd g.sorts b:Int))=True:=eq_true om
 (have F:=ai @hd (ai @ZaM (ai @z3 (ai @ha (ai @hb (ai @Za0 (ai @ga (ai @gb (ai @ia (ai @ib (ai @rK @z4))))))))));have NN:Zaj 8:=trivial;refine gGn ?_;clear F NN)
 refine gM (ι:=Bool) [83] [] (fun v=>[(83,A.d (.one (.lit (.bool v))))]) (fun v=>[]) (fun v=>(v=true->((o.assoc=true∨o.unit≠0)∧kd g.sorts a≠kd g.sorts d.res))∧(v=false->¬ ((o.assoc=true∨o.unit≠0)∧kd g.sorts a≠kd g.sorts d.res))) ?_ (fun v hv=>Exists.intro _ (ai (Wk.refl _) ?_))
 ·cases q1:o.assoc with
  | true =>
   by_cases hr:kd g.sorts a=kd g.sorts d.res
   ·have z5:((kd g.sorts a:Int)=(kd g.sorts d.res:Int))=True:=eq_true om
    (have F:=ai @q1 (ai @ha (ai @Za0 (ai @ga (ai @gr (ai @ia (ai @ir (ai @rK @z5)))))));refine gG ?_;exact ⟨false,⟨fun h=>(by cases h),fun _ h=>h.2 hr⟩,gw,gw⟩)
   ·have z5:((kd g.sorts a:Int)=(kd g.sorts d.res:Int))=False:=eq_false om
    (have F:=ai @q1 (ai @ha (ai @Za0 (ai @ga (ai @gr (ai @ia (ai @ir (ai @rK @z5)))))));refine gG ?_;exact ⟨true,⟨fun _=>⟨.inl rfl,hr⟩,fun h=>(by cases h)⟩,gw,gw⟩)
  | false =>
  by_cases q3:o.unit=0
  ·have z6:(o.unit=0)=True:=eq_true q3
   (have F:=ai @q1 @z6;refine gG ?_;exact ⟨false,⟨fun h=>(by cases h),fun _ h=>h.1.elim (fun h=>(by cases h)) fun h=>h q3⟩,gw,gw⟩)
  ·have z6:(o.unit=0)=False:=eq_false q3
   by_cases hr:kd g.sorts a=kd g.sorts d.res
   ·have z5:((kd g.sorts a:Int)=(kd g.sorts d.res:Int))=True:=eq_true om
    (have F:=ai @q1 (ai @z6 (ai @ha (ai @Za0 (ai @ga (ai @gr (ai @ia (ai @ir (ai @rK @z5))))))));refine gG ?_;exact ⟨false,⟨fun h=>(by cases h),fun _ h=>h.2 hr⟩,gw,gw⟩)
   ·have z5:((kd g.sorts a:Int)=(kd g.sorts d.res:Int))=False:=eq_false om
    (have F:=ai @q1 (ai @z6 (ai @ha (ai @Za0 (ai @ga (ai @gr (ai @ia (ai @ir (ai @rK @z5))))))));refine gG ?_;exact ⟨true,⟨fun _=>⟨.inr q3,hr⟩,fun h=>(by cases h)⟩,gw,gw⟩)
 obtain ⟨hv1,hv2⟩:=hv
 cases v with
 | true =>
  have hf:=hno fun h=>(hv1 rfl).2 (((h.two hnd d hd).2 a b ha hb).2.1 (hv1 rfl).1)
  (have F:=@hf;refine gG ?_;exact gT)
 | false =>
 have hr:=hv2 rfl
 by_cases q3:o.unit=0
 ·have z6:(o.unit=0)=True:=eq_true q3
  have ht:=ZcB (Zhe hd h1 h2 h3 ha hb hk hr fun h=>absurd q3 h)
  (have F:=ai @z6 @ht;refine gG ?_;exact gT)
 have z6:(o.unit=0)=False:=eq_false q3
 have hsub:IntKind.i64.wrap (o.unit - 1)=((o.unit.toNat - 1:Nat):Int):=Zc7 om om om
 obtain ⟨p,hp⟩:∃ p,g.ops[o.unit.toNat - 1]?=some p:=⟨_,Taa om⟩
 obtain ⟨u,hu,huu⟩:=(hall p (Tac hp)).first
 have gu':=kdg hs huu.res
 have iu:=huu.res.1
 have key:(u.args.length=0∧kd g.sorts u.res=kd g.sorts d.res)->axOk g o=true:=fun h=>ZcB (Zhe hd h1 h2 h3 ha hb hk hr fun _ p' u' hp' hu'=>by
  rw [hp] at hp';injection hp' with hp';subst hp'
  rw [hu] at hu';injection hu' with hu';subst hu'
  exact h)
 have keyn:¬ (u.args.length=0∧kd g.sorts u.res=kd g.sorts d.res)->axOk g o=false:=fun h=>hno fun hA=>h (((hA.two hnd d hd).2 a b ha hb).2.2 q3 p u hp hu)
 by_cases hl0:u.args.length=0
 rotate_left
 ·have hf:=keyn fun h=>hl0 h.1
  have z7:((u.args.length:Int)=0)=False:=eq_false om
  (have F:=ai @z6 (ai @hsub (ai @hp (ai @Zak (ai @hu (ai @ZaM (ai @Zan (ai @z7 @hf)))))));refine gG ?_;exact gT)
 have z7:((u.args.length:Int)=0)=True:=eq_true om
 by_cases hku:kd g.sorts u.res=kd g.sorts d.res
 ·have ht:=key ⟨hl0,hku⟩
  have z8:((kd g.sorts u.res:Int)=(kd g.sorts d.res:Int))=True:=eq_true om
  (have F:=ai @z6 (ai @hsub (ai @hp (ai @Zak (ai @hu (ai @ZaM (ai @Zan (ai @z7 (ai @gu' (ai @gr (ai @iu (ai @ir (ai @rK (ai @z8 @ht)))))))))))));refine gG ?_;exact gT)
 ·have hf:=keyn fun h=>hku h.2
  have z8:((kd g.sorts u.res:Int)=(kd g.sorts d.res:Int))=False:=eq_false om
  (have F:=ai @z6 (ai @hsub (ai @hp (ai @Zak (ai @hu (ai @ZaM (ai @Zan (ai @z7 (ai @gu' (ai @gr (ai @iu (ai @ir (ai @rK (ai @z8 @hf)))))))))))));refine gG ?_;exact gT)
theorem ZlL (hs:SortsOk g.sorts) (hall:∀ p∈g.ops,DeclsOk g.sorts p) {k:Nat} (hk0:g.ops[k]?=some o) (hol:g.ops.length<=14):Con e0 195 [.agg (ZaA g),.one (.lit (.int .i64 k))] [.one (.lit (.bool (axOk g o)))]:=by
 have hno:¬ AxOk g o->axOk g o=false:=ZiH
 have ho:=Tac hk0
 have hkl:=(Tad.1 hk0).1
 have cK:=Zec hs
 rw [show (Zbu (kinds g.sorts)).map ZaK=nR (kinds g.sorts) from rfl] at cK
 have rK:=Zbl (l:=kinds g.sorts)
 obtain ⟨d,hd,hdd⟩:=(hall o ho).first
 have cA:=Zfr hd
 have gr:=kdg hs hdd.res
 have ir:=hdd.res.1
 rw [Za1] at cK
 rw [Zbo] at cA
 rw [ZaA]
 refine gI 174085318024508800717819895 Tryz.func195 ?_
 by_cases hp:o.assoc=false∧o.comm=false∧o.unit=0
 ·have ht:=ZcB (ZlK (g:=g) hp)
  obtain ⟨p1,p2,p3⟩:=hp
  have p3:(o.unit=0)=True:=eq_true p3
  (have F:=ai @hk0 (ai @Zak (ai @p1 (ai @p2 (ai @p3 @ht))));refine gG ?_;exact gT)
 have hnd:=Zpl hp
 (have F:=ai @hk0 @Zak;have NN:Zaj 2:=trivial;refine gGn ?_;clear F NN)
 refine gM (ι:=Unit) [29] [] (fun v=>[(29,A.d (.one (.lit (.bool false))))]) (fun v=>[]) (fun v=>True) ?_ (fun v hv=>Exists.intro _ (ai (Wk.refl _) ?_))
 ·cases q1:o.assoc with
  | true=>(have F:=@q1;refine gG ?_;exact ⟨(),trivial,gw,gw⟩)
  | false =>
  cases q2:o.comm with
  | true=>(have F:=ai @q1 @q2;refine gG ?_;exact ⟨(),trivial,gw,gw⟩)
  | false =>
   have q3:(o.unit=0)=False:=eq_false fun h=>hp ⟨q1,q2,h⟩
   (have F:=ai @q1 (ai @q2 @q3);refine gG ?_;exact ⟨(),trivial,gw,gw⟩)
 clear hv
 (have F:=@e0P;refine gG ?_;clear F)
 refine gB ?_
 (have F:=@e0P;refine gC (cA) ?_;clear F)
 by_cases h3:d.args.length=2
 rotate_left
 ·have hf:=hno fun h=>h3 (h.two hnd d hd).1
  have z3:((d.args.length:Int)=2)=False:=eq_false om
  (have F:=@z3;refine gR ?_;clear F)
  (have F:=@hf;refine gG ?_;exact gT)
 have z3:((d.args.length:Int)=2)=True:=eq_true om
 (have F:=@z3;refine gC (Zc0 o.unit 0 (g.ops.length:Int)) ?_;clear F)
 by_cases h12:0<=o.unit∧o.unit<=(g.ops.length:Int)
 rotate_left
 ·have hf:=hno fun h=>h12 ⟨h.lo,h.hi⟩
  have z1:decide (0<=o.unit∧o.unit<=(g.ops.length:Int))=false:=decide_eq_false h12
  (have F:=ai @z3 @z1;refine gR ?_;clear F)
  (have F:=@hf;refine gG ?_;exact gT)
 have z1:decide (0<=o.unit∧o.unit<=(g.ops.length:Int))=true:=decide_eq_true h12
 obtain ⟨h1,h2⟩:=h12
 obtain ⟨a,ha⟩:∃ k,d.args[0]?=some k:=⟨_,Taa om⟩
 obtain ⟨b,hb⟩:∃ k,d.args[1]?=some k:=⟨_,Taa om⟩
 have har:=hdd.args a (Tac ha)
 have hbr:=hdd.args b (Tac hb)
 have ga:=kdg hs har
 have gb:=kdg hs hbr
 have ia:=har.1
 have ib:=hbr.1
 (have F:=ai @z3 @z1;refine gR ?_;clear F)
 (have F:=@e0P;refine gG ?_;clear F)
 refine gB ?_
 (have F:=@e0P;refine gC (cK) ?_;clear F)
 (have F:=@e0P;refine gR ?_;clear F)
 (have F:=ai @hd @ZaM;have NN:Zaj 8:=trivial;refine gGn ?_;clear F NN)
 refine Zag 22 (by decide +kernel) ?_
 intro ds hds
 simp only [List.map] at hds
 subst hds
 refine (have F:=ai ha (ai hb (ai Za0 (ai ga (ai gb (ai gr (ai ia (ai ib (ai ir rK))))))));gP 19 ?_)
 refine (have F:=ia;gAq ?_)
 refine (have F:=ia;gAq ?_)
 refine (have F:=ia;gAq ?_)
 (have F:=@e0P;refine gR ?_;clear F)
 (have F:=@e0P;have NN:Zaj 9:=trivial;refine gGn ?_;clear F NN)
 refine gM (ι:=Bool) [84] [] (fun v=>[(84,A.d (.one (.lit (.bool v))))]) (fun v=>[]) (fun v=>(v=true->kd g.sorts a≠kd g.sorts b∨((o.assoc=true∨o.unit≠0)∧kd g.sorts a≠kd g.sorts d.res))∧(v=false->kd g.sorts a=kd g.sorts b∧¬ ((o.assoc=true∨o.unit≠0)∧kd g.sorts a≠kd g.sorts d.res))) ?_ (fun v hv=>Exists.intro _ (ai (Wk.refl _) ?_))
 ·by_cases hk:kd g.sorts a=kd g.sorts b
  rotate_left
  ·have z4:((kd g.sorts a:Int)=(kd g.sorts b:Int))=False:=eq_false om
   (have F:=@z4;refine gG ?_;exact ⟨true,⟨fun _=>.inl hk,fun h=>(by cases h)⟩,gw,gw⟩)
  have z4:((kd g.sorts a:Int)=(kd g.sorts b:Int))=True:=eq_true om
  cases q1:o.assoc with
  | true =>
   by_cases hr:kd g.sorts a=kd g.sorts d.res
   ·have z5:((kd g.sorts a:Int)=(kd g.sorts d.res:Int))=True:=eq_true om
    (have F:=ai @q1 (ai @Zak (ai @z4 @z5));refine gG ?_;exact ⟨false,⟨fun h=>(by cases h),fun _=>⟨hk,fun h=>h.2 hr⟩⟩,gw,gw⟩)
   ·have z5:((kd g.sorts a:Int)=(kd g.sorts d.res:Int))=False:=eq_false om
    (have F:=ai @q1 (ai @Zak (ai @z4 @z5));refine gG ?_;exact ⟨true,⟨fun _=>.inr ⟨.inl rfl,hr⟩,fun h=>(by cases h)⟩,gw,gw⟩)
  | false =>
  by_cases q3:o.unit=0
  ·have z6:((0:Int) < o.unit)=False:=eq_false om
   (have F:=ai @q1 (ai @Zak (ai @z4 @z6));refine gG ?_;exact ⟨false,⟨fun h=>(by cases h),fun _=>⟨hk,fun h=>h.1.elim (fun h=>(by cases h)) fun h=>h q3⟩⟩,gw,gw⟩)
  ·have z6:((0:Int) < o.unit)=True:=eq_true om
   by_cases hr:kd g.sorts a=kd g.sorts d.res
   ·have z5:((kd g.sorts a:Int)=(kd g.sorts d.res:Int))=True:=eq_true om
    (have F:=ai @q1 (ai @Zak (ai @z4 (ai @z6 @z5)));refine gG ?_;exact ⟨false,⟨fun h=>(by cases h),fun _=>⟨hk,fun h=>h.2 hr⟩⟩,gw,gw⟩)
   ·have z5:((kd g.sorts a:Int)=(kd g.sorts d.res:Int))=False:=eq_false om
    (have F:=ai @q1 (ai @Zak (ai @z4 (ai @z6 @z5)));refine gG ?_;exact ⟨true,⟨fun _=>.inr ⟨.inr q3,hr⟩,fun h=>(by cases h)⟩,gw,gw⟩)
 obtain ⟨hv1,hv2⟩:=hv
 cases v with
 | true =>
  have hf:=hno fun h=>(hv1 rfl).elim (fun h'=>h' ((h.two hnd d hd).2 a b ha hb).1) fun h'=>h'.2 (((h.two hnd d hd).2 a b ha hb).2.1 h'.1)
  (have F:=@hf;refine gG ?_;exact gT)
 | false =>
 obtain ⟨hk,hr⟩:=hv2 rfl
 by_cases q3:o.unit=0
 ·have z6:(o.unit=0)=True:=eq_true q3
  have ht:=ZcB (Zhe hd h1 h2 h3 ha hb hk hr fun h=>absurd q3 h)
  (have F:=ai @Zak (ai @z6 @ht);refine gG ?_;exact gT)
 have z6:(o.unit=0)=False:=eq_false q3
 have hsub:IntKind.i64.wrap (o.unit - 1)=((o.unit.toNat - 1:Nat):Int):=Zc7 om om om
 obtain ⟨p,hp⟩:∃ p,g.ops[o.unit.toNat - 1]?=some p:=⟨_,Taa om⟩
 obtain ⟨u,hu,huu⟩:=(hall p (Tac hp)).first
 have cP:=Zfr hu
 rw [Zbo] at cP
 have gu':=kdg hs huu.res
 have iu:=huu.res.1
 have key:(u.args.length=0∧kd g.sorts u.res=kd g.sorts d.res)->axOk g o=true:=fun h=>ZcB (Zhe hd h1 h2 h3 ha hb hk hr fun _ p' u' hp' hu'=>by
  rw [hp] at hp';injection hp' with hp';subst hp'
  rw [hu] at hu';injection hu' with hu';subst hu'
  exact h)
 have keyn:¬ (u.args.length=0∧kd g.sorts u.res=kd g.sorts d.res)->axOk g o=false:=fun h=>hno fun hA=>h (((hA.two hnd d hd).2 a b ha hb).2.2 q3 p u hp hu)
 (have F:=ai @z6 (ai @hsub (ai @hp (ai @Zak @Zan)));refine gG ?_;clear F)
 refine gB ?_
 (have F:=@e0P;refine gC (cP) ?_;clear F)
 by_cases hl0:u.args.length=0
 rotate_left
 ·have hf:=keyn fun h=>hl0 h.1
  have z7:((u.args.length:Int)=0)=False:=eq_false om
  (have F:=@z7;refine gR ?_;clear F)
  (have F:=@hf;refine gG ?_;exact gT)
 have z7:((u.args.length:Int)=0)=True:=eq_true om
 by_cases hku:kd g.sorts u.res=kd g.sorts d.res
 ·have ht:=key ⟨hl0,hku⟩
  have z8:((kd g.sorts u.res:Int)=(kd g.sorts d.res:Int))=True:=eq_true om
  (have F:=ai @z7 (ai @hu (ai @ZaM (ai @gu' (ai @iu (ai @rK @z8)))));refine gR ?_;clear F)
  (have F:=@ht;refine gG ?_;exact gT)
 ·have hf:=keyn fun h=>hku h.2
  have z8:((kd g.sorts u.res:Int)=(kd g.sorts d.res:Int))=False:=eq_false om
  (have F:=ai @z7 (ai @hu (ai @ZaM (ai @gu' (ai @iu (ai @rK @z8)))));refine gR ?_;clear F)
  (have F:=@hf;refine gG ?_;exact gT)
end
theorem Zj5 {f:FuncId} (hb:Zbw e0.P f=true) {a b:Tm} (h:Zeq f a b) (ha:okTm a) (hk:okTm b):Con e0 f [.agg (Zah a),.agg (Zah b)] [.one (.lit (.int .i64 (Zas a b)))]:=by
 refine ZtG Ziz hb fun w S vs hv=>?_
 match vs,hv with
 | [v,u],hv =>
  obtain ⟨⟨us,rfl,hu⟩,⟨us',rfl,hu'⟩,_⟩:=hv
  exact (h S S us us' w ha hk hu hu').mono fun e w' ⟨h1,h2⟩=>⟨_,h1,h2,by simp [retA,ARel,DRel,Rep]⟩
theorem ZmE {a b:Tm} (ha:okTm a) (hk:okTm b):Con e0 182 [.agg (Zah a),.agg (Zah b)] [.one (.lit (.int .i64 (Zas a b)))]:=Zj5 (by kernel_rfl) (Zh3 a b) ha hk
theorem ZhD {a b:Tm} (ha:okTm a) (hk:okTm b):Con e0 200 [.agg (Zah a),.agg (Zah b)] [.one (.lit (.int .i64 (Zas a b)))]:=Zj5 (by kernel_rfl) (Zh4 a b) ha hk
theorem ZhE (a b:List Tm):sizeTms (a++b)=sizeTms a+sizeTms b:=by
 induction a with
 | nil=>simp [sizeTms]
 | cons x xs ih=>simp only [Taf,sizeTms,ih];omega
theorem Zbx {ts:List Tm} {t:Tm} (h:t∈ts):sizeTm t<=sizeTms ts:=by
 induction ts with
 | nil=>cases h
 | cons x xs ih =>
  simp only [sizeTms]
  rcases Tbd.1 h with rfl | h
  ·omega
  ·have:=ih h;omega
theorem ZlM {ts:List Tm} {i:Nat} {t:Tm} (h:ts[i]?=some t):sizeTms (ts.take (i+1))=sizeTms (ts.take i)+sizeTm t:=by
 rw [ZbJ h,ZhE];simp [sizeTms]
theorem ZlN (ts:List Tm) (i:Nat):sizeTms (ts.take i)<=sizeTms ts:=by
 have:=ZhE (ts.take i) (ts.drop i)
 rw [Tbj] at this
 omega
theorem Zby (ts:List Tm):ts.length<=sizeTms ts:=by
 induction ts with
 | nil=>simp [sizeTms]
 | cons x xs ih=>cases x;simp only [Tag,sizeTms,sizeTm];omega
mutual
def depthTm:Tm->Nat
 | .mk _ _ _ a=>1+depthTms a
def depthTms:List Tm->Nat
 | []=>0
 | t::ts=>max (depthTm t) (depthTms ts)
end
mutual
theorem ZpY:∀ t:Tm,depthTm t<=sizeTm t
 | .mk _ _ _ a=>by
  have:=Zed a
  simp only [depthTm,sizeTm];omega
theorem Zed:∀ ts:List Tm,depthTms ts<=sizeTms ts
 | []=>by simp [depthTms]
 | t::ts=>by
  have:=ZpY t
  have:=Zed ts
  simp only [depthTms,sizeTms];omega
end
theorem ZlO (a b:List Tm):depthTms (a++b)=max (depthTms a) (depthTms b):=by
 induction a with
 | nil=>simp [depthTms]
 | cons x xs ih=>simp only [Taf,depthTms,ih];omega
theorem Zgm {ts:List Tm} {i:Nat} {t:Tm} (h:ts[i]?=some t):depthTms (ts.take (i+1))=max (depthTms (ts.take i)) (depthTm t):=by
 rw [ZbJ h,ZlO];simp [depthTms]
theorem ZlP {ts:List Tm} {t:Tm} (h:t∈ts):depthTm t<=depthTms ts:=by
 induction ts with
 | nil=>cases h
 | cons x xs ih =>
  simp only [depthTms]
  rcases Tbd.1 h with rfl | h
  ·omega
  ·have:=ih h;omega
theorem Zjr:∀ op nm so args,Zah (.mk op nm so args)=[.lit (.int .i64 op),.lit (.string nm),.lit (.int .i64 so),.sl (Zaf args)]:=fun _ _ _ _=>by rw [Zah]
theorem Zvr:∀ op nm so args,sizeTm (.mk op nm so args)=1+sizeTms args:=fun _ _ _ _=>by rw [sizeTm]
theorem Zj6:∀ op nm so args,depthTm (.mk op nm so args)=1+depthTms args:=fun _ _ _ _=>by rw [depthTm]
theorem Zt6:sizeTms []=0:=by rw [sizeTms]
theorem ZiM:depthTms []=0:=by rw [depthTms]
def big:Nat:=4611686018427387904
theorem Zh6:∀ (n:Nat) (t:Tm),sizeTm t < n->sizeTm t<=big->Con e0 127 [.agg (Zah t)] [.one (.lit (.int .i64 (sizeTm t)))]:=by
 intro n
 induction n with
 | zero=>intro t h;omega
 | succ n ih =>
  intro t hn hb
  obtain ⟨op,nm,so,args⟩:=t
  simp only [sizeTm,big] at hn hb
  have hal:=Zby args
  refine gI 1967 Tryz.func127 ?_
  (have F:=ai @Zjr @tmz;refine gG ?_;clear F)
  (have F:=@Zt6;refine gL (ι:=Nat) [3,5,9,10] [] (fun i=>[(9,A.d (.one (.lit (.int .i64 i)))),(3,A.d (.one (.lit (.int .i64 ((1+sizeTms (args.take i):Nat):Int)))))]) (fun i=>[]) (fun i=>i<=args.length) (fun i=>args.length - i) (0) om (fun i hi=>?_);clear F)
  by_cases hl:i < args.length
  rotate_left
  ·have hl':¬ ((i:Int) < (args.length:Int)):=by omega
   have e:args.take i=args:=List.take_of_length_le om
   (have F:=ai @hl' (ai @e @Zvr);refine gG ?_;exact gT)
  have hl':(i:Int) < (args.length:Int):=by omega
  obtain ⟨a,ha⟩:∃ a,args[i]?=some a:=⟨_,Taa hl⟩
  have hs:=ZlM ha
  have ht:=ZlN args (i+1)
  have hm:=Zbx (Tac ha)
  have hw:IntKind.i64.wrap (((1+sizeTms (args.take i):Nat):Int)+(sizeTm a:Int))=((1+sizeTms (args.take (i+1)):Nat):Int):=Zc7 om om om
  have hw1:=Zap (k:=i) om
  (have F:=ai @hl' (ai @tmz @ha);refine gG ?_;clear F)
  refine gB ?_
  (have F:=@tmz;refine gC (ih a om (by unfold big;omega)) ?_;clear F)
  (have F:=@hw;refine gR ?_;clear F)
  (have F:=ai @hw1 (ai @hw @tmz);refine gG ?_;exact ⟨i+1,by omega,gw,gw,by omega⟩)
theorem ZlQ {t:Tm} (h:sizeTm t<=big):Con e0 127 [.agg (Zah t)] [.one (.lit (.int .i64 (sizeTm t)))]:=Zh6 _ t (Tan _) h
theorem Zhp:∀ (n:Nat) (t:Tm),sizeTm t < n->sizeTm t<=big->Con e0 128 [.agg (Zah t)] [.one (.lit (.int .i64 (depthTm t)))]:=by
 intro n
 induction n with
 | zero=>intro t h;omega
 | succ n ih =>
  intro t hn hb
  obtain ⟨op,nm,so,args⟩:=t
  simp only [sizeTm,big] at hn hb
  have hal:=Zby args
  have hds:=Zed args
  refine gI 1967 Tryz.func128 ?_
  (have F:=ai @Zjr @tmz;refine gG ?_;clear F)
  (have F:=@ZiM;refine gL (ι:=Nat) [3,5,9,10] [] (fun i=>[(9,A.d (.one (.lit (.int .i64 i)))),(3,A.d (.one (.lit (.int .i64 ((depthTms (args.take i):Nat):Int)))))]) (fun i=>[]) (fun i=>i<=args.length) (fun i=>args.length - i) (0) om (fun i hi=>?_);clear F)
  by_cases hl:i < args.length
  rotate_left
  ·have hl':¬ ((i:Int) < (args.length:Int)):=by omega
   have e:args.take i=args:=List.take_of_length_le om
   have hw:IntKind.i64.wrap ((depthTms args:Int)+1)=((1+depthTms args:Nat):Int):=Zc7 om om om
   (have F:=ai @hl' (ai @e (ai @hw @Zj6));refine gG ?_;exact gT)
  have hl':(i:Int) < (args.length:Int):=by omega
  obtain ⟨a,ha⟩:∃ a,args[i]?=some a:=⟨_,Taa hl⟩
  have hs:=Zgm ha
  have hm:=Zbx (Tac ha)
  have hw:(if (depthTm a:Int) > (depthTms (args.take i):Int) then (depthTm a:Int) else (depthTms (args.take i):Int))=((depthTms (args.take (i+1)):Nat):Int):=by
   split <;> omega
  have hw1:=Zap (k:=i) om
  (have F:=ai @hl' (ai @tmz @ha);refine gG ?_;clear F)
  refine gB ?_
  (have F:=@tmz;refine gC (ih a om (by unfold big;omega)) ?_;clear F)
  (have F:=@hw;refine gR ?_;clear F)
  (have F:=ai @hw1 (ai @hw @tmz);refine gG ?_;exact ⟨i+1,by omega,gw,gw,by omega⟩)
theorem Zky {t:Tm} (h:sizeTm t<=big):Con e0 128 [.agg (Zah t)] [.one (.lit (.int .i64 (depthTm t)))]:=Zhp _ t (Tan _) h
theorem Zt7 (a b:Int):Con e0 272 [.one (.lit (.int .i64 a)),.one (.lit (.int .i64 b))] [.one (.lit (.int .i64 (max a b)))]:=by
 refine gI 147 Tryz.func272 ?_
 by_cases h:b < a
 ·have e:max a b=a:=by omega
  (have F:=ai @h @e;refine gG ?_;exact gT)
 ·have e:max a b=b:=by omega
  (have F:=ai @h @e;refine gG ?_;exact gT)
theorem Zhq:∀ (n:Nat) (t:Tm),sizeTm t < n->sizeTm t<=big->Con e0 197 [.agg (Zah t)] [.one (.lit (.int .i64 (depthTm t)))]:=by
 intro n
 induction n with
 | zero=>intro t h;omega
 | succ n ih =>
  intro t hn hb
  obtain ⟨op,nm,so,args⟩:=t
  simp only [sizeTm,big] at hn hb
  have hal:=Zby args
  have hds:=Zed args
  refine gI 543 Tryz.func197 ?_
  (have F:=ai @Zjr @tmz;refine gG ?_;clear F)
  (have F:=@ZiM;refine gL (ι:=Nat) [3,4,9] [] (fun i=>[(4,A.d (.one (.lit (.int .i64 i)))),(3,A.d (.one (.lit (.int .i64 ((depthTms (args.take i):Nat):Int)))))]) (fun i=>[]) (fun i=>i<=args.length) (fun i=>args.length - i) (0) om (fun i hi=>?_);clear F)
  by_cases hl:i < args.length
  rotate_left
  ·have hl':¬ ((i:Int) < (args.length:Int)):=by omega
   have e:args.take i=args:=List.take_of_length_le om
   have hw:IntKind.i64.wrap ((depthTms args:Int)+1)=((1+depthTms args:Nat):Int):=Zc7 om om om
   (have F:=ai @hl' (ai @e (ai @hw (ai @Zj6 @tmz)));refine gG ?_;exact gT)
  have hl':(i:Int) < (args.length:Int):=by omega
  obtain ⟨a,ha⟩:∃ a,args[i]?=some a:=⟨_,Taa hl⟩
  have hs:=Zgm ha
  have hm:=Zbx (Tac ha)
  have hw:max (depthTms (args.take i):Int) (depthTm a:Int)=((depthTms (args.take (i+1)):Nat):Int):=by omega
  have hw1:=Zap (k:=i) om
  (have F:=ai @hl' (ai @tmz @ha);refine gG ?_;clear F)
  refine gB ?_
  (have F:=ai @tmz @ha;refine gC (ih a om (by unfold big;omega)) ?_;clear F)
  (have F:=@tmz;refine gC (Zt7 _ _) ?_;clear F)
  (have F:=@hw;refine gR ?_;clear F)
  (have F:=ai @hw1 (ai @hw @tmz);refine gG ?_;exact ⟨i+1,by omega,gw,gw,by omega⟩)
theorem Zkz {t:Tm} (h:sizeTm t<=big):Con e0 197 [.agg (Zah t)] [.one (.lit (.int .i64 (depthTm t)))]:=Zhq _ t (Tan _) h
def Lks (sb:List (Nat × A)) (mb:List (Nat × Bk)) (σ:St):Prop:=(∀ p∈sb,gs σ.s p.1=p.2)∧∀ p∈mb,gm σ.m p.1=some p.2
def keyB (k:Nat):A->Bool
 | .ref k' _=>k'==k
 | .buf k'=>k'==k
 | .row k' _ _ _=>k'==k
 | _=>false
def Zee (d:Nat) (sb:List (Nat × A)) (mb:List (Nat × Bk)):Bool:=sb.all (fun p=>p.1 != d && !keyB d p.2) && mb.all (fun p=>p.1 != d)
theorem Zdu (k t:Nat):∀ (s:List (Nat × A)),keyB k (gs s t)=false->gs (Zao k s) t=gs s t
 | [],_=>rfl
 | (t',x)::r,h=>by
  have ih:=Zdu k t r
  by_cases ht:t=t'
  ·cases x <;> simp_all [Zao,gs,keyB]
  ·have h2:keyB k (gs r t)=false:=by simpa [gs,ht] using h
   have h3:=ih h2
   clear h ih
   cases x <;> simp [Zao,gs,ht,h3]
theorem Zt8 {d:Nat} {a:Option Addr} {n cap:Nat} {x:A} (h:keyB d x=false):litB d a n cap x=x:=by
 cases x <;> simp_all [litB,keyB]
section
variable {sb sb':List (Nat × A)} {mb mb':List (Nat × Bk)} {s:List (Nat × A)} {m:List (Nat × Bk)} {d:Nat} {α:A} {bk:Bk} {σ:St}
theorem Lks.app (h:Lks sb mb σ) (h':Lks sb' mb' σ):Lks (sb++sb') (mb++mb') σ :=
 ⟨fun p hp=>(Tbe.1 hp).elim (h.1 p) (h'.1 p),fun p hp=>(Tbe.1 hp).elim (h.2 p) (h'.2 p)⟩
theorem Lks.born (h:Lks sb mb ⟨s,m⟩) (hf:Zee d sb mb=true):Lks sb mb ⟨(d,α)::Zao d s,(d,bk)::remM d m⟩:=by
 simp only [Zee,Tar,List.all_eq_true,bne_iff_ne,ne_eq,Bool.not_eq_true'] at hf
 refine ⟨fun p hp=>?_,fun p hp=>?_⟩
 ·have h1:=hf.1 p hp
  have h2:=h.1 p hp
  simp only [gs,h1.1,if_false]
  rw [Zdu _ _ _ (by rw [h2];exact h1.2)]
  exact h2
 ·have h1:=hf.2 p hp
  simp only [gm,h1,if_false,ZaO]
  exact h.2 p hp
theorem Lks.pin (h:Lks sb mb ⟨s,m⟩) (hf:Zee d sb mb=true) {a:Option Addr} {n cap:Nat}:Lks sb mb ⟨(d,α)::mapS (litB d a n cap) (Zao d s),(d,bk)::remM d (remM d m)⟩:=by
 simp only [Zee,Tar,List.all_eq_true,bne_iff_ne,ne_eq,Bool.not_eq_true'] at hf
 refine ⟨fun p hp=>?_,fun p hp=>?_⟩
 ·have h1:=hf.1 p hp
  have h2:=h.1 p hp
  simp only [gs,h1.1,if_false]
  rw [Zg7 rfl,Zdu _ _ _ (by rw [h2];exact h1.2),h2]
  exact Zt8 h1.2
 ·have h1:=hf.2 p hp
  simp only [gm,h1,if_false,ZaO]
  exact h.2 p hp
theorem Lks.slot (h:Lks sb mb ⟨s,m⟩) (hf:sb.all (fun p=>p.1 != d)=true):Lks sb mb ⟨(d,α)::s,m⟩:=by
 simp only [List.all_eq_true,bne_iff_ne,ne_eq] at hf
 refine ⟨fun p hp=>?_,h.2⟩
 simp only [gs,hf p hp,if_false]
 exact h.1 p hp
theorem Lks.own (h:Lks sb mb ⟨s,m⟩) (hf:mb.all (fun p=>p.1 != d)=true):Lks sb mb ⟨s,(d,bk)::remM d m⟩:=by
 simp only [List.all_eq_true,bne_iff_ne,ne_eq] at hf
 refine ⟨h.1,fun p hp=>?_⟩
 simp only [gm,hf p hp,if_false,ZaO]
 exact h.2 p hp
theorem ZlR:∀ {sb:List (Nat × A)} (t:Nat),(∀ p∈sb,gs σ.s p.1=p.2)->gs sb t=gs σ.s t∨gs sb t=.undef
 | [],t,_=>.inr rfl
 | (t',x)::r,t,h=>by
  simp only [gs]
  by_cases ht:t=t'
  ·have:=h (t',x) (by simp)
   rw [if_pos ht,ht]
   exact .inl this.symm
  ·rw [if_neg ht]
   exact ZlR t fun p hp=>h p (by simp [hp])
theorem ZlS:∀ {mb:List (Nat × Bk)} (t:Nat) (bk:Bk),(∀ p∈mb,gm σ.m p.1=some p.2)->gm mb t=some bk->gm σ.m t=some bk
 | [],t,bk,_,h=>by simp [gm] at h
 | (t',x)::r,t,bk,h,hg=>by
  simp only [gm] at hg
  by_cases ht:t=t'
  ·rw [if_pos ht] at hg
   injection hg with hg
   have:=h (t',x) (by simp)
   rw [ht,this,hg]
  ·rw [if_neg ht] at hg
   exact ZlS t bk (fun p hp=>h p (by simp [hp])) hg
end
section
variable {e:Env} {mask:Nat} {Q:PX->St->Prop} {ds:List (Option Nat)}
theorem ZiN {os:List Oper} {σ:St} {K K':St->Prop} (h:Runs e ds 0 os σ K) (hk:∀ σ',K σ'->K' σ'):Runs e ds 0 os σ K':=by
 simp only [Runs] at h ⊢
 exact fun he U w0 S0 nt a w ops Q hds hd hQ hs=>h he U w0 S0 nt a w ops Q hds hd (fun a w σ' k1 k2=>hQ a w σ' (hk σ' k1) k2) hs
def ZiO (l:List Oper):Bool:=(List.range l.length).all fun i=>match l[i]? with
 | none=>true
 | some o=>o.guard.isNone && o.after.toList.all fun e=>!Region.binds .any e || decide (e.on < i)
def Zdk (o:Oper):List Nat:=(o.after.toList.filter fun e=>Region.binds .any e).map (·.on)
def Zbg (L:List Oper) (j:Nat):List Nat:=match L[j]? with
 | some o=>Zdk o
 | none=>[]
def Ze3 (e:Env) (ds:List (Option Nat)) (L:List Oper) (B:St->Prop) (P:Nat->St->Prop):Nat->List Oper->Prop
 | _,[]=>True
 | i,o::os=>(∀ s m,B ⟨s,m⟩->(∀ j∈Zdk o,P j ⟨s,m⟩)->Runs e ds 0 [o] ⟨s,m⟩ (fun σ'=>B σ'∧P i σ'∧∀ j,j≠i->i ∉ Zbg L j->P j ⟨s,m⟩->P j σ'))∧Ze3 e ds L B P (i+1) os
theorem Ze3.get {L:List Oper} {B:St->Prop} {P:Nat->St->Prop}:∀ {l:List Oper} {k i:Nat} {o:Oper},Ze3 e ds L B P k l->l[i]?=some o->∀ s m,B ⟨s,m⟩->(∀ j∈Zdk o,P j ⟨s,m⟩)->Runs e ds 0 [o] ⟨s,m⟩ (fun σ'=>B σ'∧P (k+i) σ'∧∀ j,j≠k+i->k+i ∉ Zbg L j->P j ⟨s,m⟩->P j σ')
 | [],k,i,o,_,h=>by simp at h
 | x::l,k,0,o,h,ho=>by
  simp only [Tat,Taq] at ho
  subst ho
  exact h.1
 | x::l,k,i+1,o,h,ho=>by
  have:=Ze3.get (l:=l) (k:=k+1) (i:=i) (o:=o) h.2 (by simpa using ho)
  rw [show k+1+i=k+(i+1) by omega] at this
  exact this
theorem ZpZ {l:List Oper} {K B:St->Prop} {P:Nat->St->Prop} (hb:ZiO l=true) (hstep:Ze3 e ds l B P 0 l) (hK:∀ s m,B ⟨s,m⟩->(∀ i,i < l.length->P i ⟨s,m⟩)->K ⟨s,m⟩) :
  ∀ (f:Nat) (listed:Array Bool) (σ:St),listed.size=l.length->(List.range l.length).countP (fun i=>!listed.getD i true)=f->B σ->(∀ j,listed.getD j false=true->P j σ∧∀ q∈Zbg l j,listed.getD q false=true)->Zhb e ds l.toArray K f listed σ:=by
 have hback:∀ i o,l[i]?=some o->o.guard=none∧∀ e∈o.after,Region.binds .any e=true->e.on < i:=fun i o ho=>by
  have h1:=List.all_eq_true.1 hb i (List.mem_range.2 (Tad.1 ho).1)
  rw [ho] at h1
  simp only [Tar,Option.isNone_iff_eq_none,List.all_eq_true,Bool.or_eq_true,Bool.not_eq_true',decide_eq_true_eq] at h1
  refine ⟨h1.1,fun e he hbe=>?_⟩
  rcases h1.2 e (Array.mem_toList_iff.2 he) with h2 | h2
  ·rw [hbe] at h2;cases h2
  ·exact h2
 have hfirst:∀ (listed:Array Bool),listed.size=l.length->Region.ready .any l.toArray listed=[]->∀ i,i < l.length->listed.getD i false=true:=fun listed hsz h0 i=>by
  induction i using Nat.strongRecOn with
  | _ i ih =>
   intro hi
   rw [<- Zbm (by omega:i < listed.size)]
   cases hun:listed.getD i true with
   | true=>rfl
   | false =>
   obtain ⟨o,ho⟩:∃ o,l[i]?=some o:=⟨_,Taa hi⟩
   have:=(mem_ready (ops:=l.toArray) (md:=.any)).2 ⟨hun,o,by simpa using ho,fun e he hbe=>ih e.on ((hback i o ho).2 e he hbe) (by have:=(hback i o ho).2 e he hbe;omega)⟩
   rw [h0] at this
   cases this
 intro f
 induction f with
 | zero =>
  intro listed σ hsz hc hB hP
  have hall:∀ i,i < l.length->listed.getD i true=true:=fun i hi=>by
   have:=List.countP_eq_zero.1 hc i (List.mem_range.2 hi)
   simpa using this
  refine ⟨?_,hK σ.s σ.m hB fun i hi=>(hP i (by rw [<- Zbm om];exact hall i hi)).1⟩
  cases hr:Region.ready .any l.toArray listed with
  | nil=>rfl
  | cons i r =>
   have hi:i∈Region.ready .any l.toArray listed:=by rw [hr];simp
   obtain ⟨hun,oi,hoi,_⟩:=mem_ready.1 hi
   have hil:i < l.length:=by
    have:=(Tbi.1 hoi).1
    simpa using this
   rw [hall i hil] at hun
   cases hun
 | succ f ih =>
  intro listed σ hsz hc hB hP
  refine ⟨fun h0=>hK σ.s σ.m hB fun i hi=>(hP i (hfirst listed hsz h0 i hi)).1,fun i hi=>?_⟩
  obtain ⟨hun,o,hoi,hall⟩:=mem_ready.1 hi
  have ho:l[i]?=some o:=by simpa using hoi
  have hil:i < l.length:=(Tad.1 ho).1
  have hls:i < listed.size:=by omega
  refine ⟨o,hoi,(hback i o ho).1,ZfD (hback i o ho).1 ?_⟩
  have h1:=Ze3.get hstep ho σ.s σ.m hB fun j hj=>by
   simp only [Zdk,Tbf,List.mem_filter] at hj
   obtain ⟨e,⟨he,hbe⟩,rfl⟩:=hj
   exact (hP e.on (hall e (Array.mem_toList_iff.1 he) hbe)).1
  rw [Nat.zero_add] at h1
  refine ZiN h1 fun σ' ⟨k1,k2,k3⟩=>ih _ σ' (by simpa using hsz) ?_ k1 fun j hj=>?_
  ·have h1:(List.range l.length).countP (fun j=>!(listed.setIfInBounds i true).getD j true)+1=(List.range l.length).countP (fun j=>!listed.getD j true):=by
    have hperm:=List.perm_cons_erase (List.mem_range.2 hil)
    rw [hperm.countP_eq,hperm.countP_eq,List.countP_cons,List.countP_cons]
    have hcong:((List.range l.length).erase i).countP (fun j=>!(listed.setIfInBounds i true).getD j true)=((List.range l.length).erase i).countP (fun j=>!listed.getD j true):=by
     refine List.countP_congr fun j hj=>?_
     have hne:j≠i:=fun e=>by
      subst e
      exact List.Nodup.not_mem_erase (List.nodup_range) hj
     rw [getD_set_ne true (Ne.symm hne)]
    rw [hcong,hun]
    simp [hls]
   omega
  ·by_cases hji:j=i
   ·subst hji
    refine ⟨k2,fun q hq=>?_⟩
    have hda:Zbg l j=Zdk o:=by unfold Zbg;rw [ho]
    rw [hda] at hq
    simp only [Zdk,Tbf,List.mem_filter] at hq
    obtain ⟨e,⟨he,hbe⟩,rfl⟩:=hq
    have hlt:=(hback j o ho).2 e (Array.mem_toList_iff.1 he) hbe
    rw [getD_set_ne false om]
    exact hall e (Array.mem_toList_iff.1 he) hbe
   ·rw [getD_set_ne false (Ne.symm hji)] at hj
    obtain ⟨p1,p2⟩:=hP j hj
    have hni:i ∉ Zbg l j:=fun hm=>by
     have h2:=p2 i hm
     rw [<- Zbm hls,hun] at h2
     cases h2
    refine ⟨k3 j hji hni p1,fun q hq=>?_⟩
    by_cases hqi:q=i
    ·subst hqi;exact absurd hq hni
    ·rw [getD_set_ne false (Ne.symm hqi)];exact p2 q hq
theorem gGd {id:Nat} {l:List Oper} {s:List (Nat × A)} {m:List (Nat × Bk)} (B:St->Prop) (P:Nat->St->Prop) (hB:B ⟨s,m⟩) (hS:Ze3 e (l.map (·.dst)) l B P 0 l) (hK:∀ s' m',B ⟨s',m'⟩->(∀ i,i < l.length->P i ⟨s',m'⟩)->∃ sf mf,Lks sf mf ⟨s',m'⟩∧Q .normal ⟨sf,mf⟩)
  (hb:ZiO l=true:=by decide +kernel) (hT:regT l.toArray 0=true:=by decide +kernel):pwp e mask (.region id l.toArray true) ⟨s,m⟩ Q:=fun he U w0 S0 nt a w hok hs=>by
 refine ZlG he hT (K:=fun σ'=>∃ sf mf,Lks sf mf σ'∧Q .normal ⟨sf,mf⟩) (fun a w σ' ⟨sf,mf,h1,h2⟩ h3=>⟨⟨sf,mf⟩,h2,h3.weak (fun t=>ZlR t h1.1) (fun t bk=>ZlS t bk h1.2)⟩) (ZpU hok) hs ?_
 simp only [List.take_zero,Runs]
 have:=ZpZ (K:=fun σ'=>∃ sf mf,Lks sf mf σ'∧Q .normal ⟨sf,mf⟩) hb hS hK l.length (Zbh l.length 0) ⟨s,m⟩ (by simp [Zbh]) (by
  rw [List.countP_eq_length.2]
  ·simp
  ·intro i hi
   have hi':=List.mem_range.1 hi
   simp [Zbh,hi']) hB (fun j hj=>by
   have h0:(Zbh l.length 0).getD j false=false:=by
    by_cases hjl:j < l.length
    ·simp [Zbh,hjl]
    ·simp [Zbh,hjl]
   rw [h0] at hj
   cases hj)
 simpa using this
def PG {X:Type} (S:X->Nat->List (Nat × A)) (M:X->Nat->List (Nat × Bk)) (i:Nat) (σ:St):Prop:=∃ x,Lks (S x i) (M x i) σ
section
variable {X:Type} {S:X->Nat->List (Nat × A)} {M:X->Nat->List (Nat × Bk)} {d i:Nat} {L:List Oper} {s:List (Nat × A)} {m:List (Nat × Bk)} {α:A} {bk:Bk}
theorem PG.slot (hf:∀ j,j≠i->i ∉ Zbg L j->∀ x,(S x j).all (fun p=>p.1 != d)=true):∀ j,j≠i->i ∉ Zbg L j->PG S M j ⟨s,m⟩->PG S M j ⟨(d,α)::s,m⟩:=fun j h1 h2 ⟨x,h⟩=>⟨x,h.slot (hf j h1 h2 x)⟩
theorem PG.born (hf:∀ j,j≠i->i ∉ Zbg L j->∀ x,Zee d (S x j) (M x j)=true):∀ j,j≠i->i ∉ Zbg L j->PG S M j ⟨s,m⟩->PG S M j ⟨(d,α)::Zao d s,(d,bk)::remM d m⟩:=fun j h1 h2 ⟨x,h⟩=>⟨x,h.born (hf j h1 h2 x)⟩
theorem PG.pin (hf:∀ j,j≠i->i ∉ Zbg L j->∀ x,Zee d (S x j) (M x j)=true) {a:Option Addr} {n cap:Nat}:∀ j,j≠i->i ∉ Zbg L j->PG S M j ⟨s,m⟩->PG S M j ⟨(d,α)::mapS (litB d a n cap) (Zao d s),(d,bk)::remM d (remM d m)⟩:=fun j h1 h2 ⟨x,h⟩=>⟨x,h.pin (hf j h1 h2 x)⟩
end
end
theorem Zp0 {e:Env} {σ:St} {k k' ety ety' sz sz' cap cap':Nat} {ad ad':Option Addr} {rows rows':List (List C)} (hne:k≠k') (h:gm σ.m k=some (.buf (some (ad,cap)) ety sz rows)) (h':gm σ.m k'=some (.buf (some (ad',cap')) ety' sz' rows')) (hr:0 < rows.length) (hr':0 < rows'.length):Turn e σ (fun σ'=>σ'=σ∧ad≠ad'):=fun he U w0 S0 nt act w hs=>by
 refine ⟨σ,⟨rfl,fun e=>?_⟩,hs⟩
 obtain ⟨S,L,h1⟩:=hs
 have key:∀ {k ety sz cap:Nat} {ad:Option Addr} {rows:List (List C)},gm σ.m k=some (.buf (some (ad,cap)) ety sz rows)->0 < rows.length->∃ g,vblk (L.v k)=some g∧ad=some ⟨g,0,none⟩:=fun {k ety sz cap ad rows} h hr=>by
  obtain ⟨o1,o2⟩:=h1.cls.own k _ h
  have o1:=o1 _ rfl
  rcases o2.2.2 with ⟨h3,_⟩ | ⟨g,cap2,cur,hv,hc,_⟩
  ·rw [h3] at hr;simp at hr
  ·refine ⟨g,by rw [hv];simp [vblk];omega,?_⟩
   rw [o1] at hv
   injection hv with hv _ _
 obtain ⟨g,v1,e1⟩:=key h hr
 obtain ⟨g',v2,e2⟩:=key h' hr'
 rw [e1,e2] at e
 injection e with e
 injection e with e _ _
 rw [<- e] at v2
 exact hne (h1.cls.inj k k' _ _ g h h' v1 v2)
theorem pA {e:Env} {mask:Nat} {Q:PX->St->Prop} {c:Code} {s:List (Nat × A)} {m:List (Nat × Bk)} {ety ety' sz sz' cap cap':Nat} {ad ad':Option Addr} {rows rows':List (List C)} (k k':Nat) (hK:ad≠ad'->pwp e mask c ⟨s,m⟩ Q) (hr:0 < rows.length) (hr':0 < rows'.length) (hne:k≠k':=by decide) (h:gm m k=some (.buf (some (ad,cap)) ety sz rows):=by exact snv) (h':gm m k'=some (.buf (some (ad',cap')) ety' sz' rows'):=by exact snv):pwp e mask c ⟨s,m⟩ Q :=
 ZcG (Zp0 hne h h' hr hr') fun σ' ⟨hσ,ha⟩=>by subst hσ;exact hK ha
def ordS (s:Srt) (f:(Nat->Option Addr × Nat) × C × C × C):Nat->List (Nat × A)
 | 0=>[(20,.d (.agg (Za1 s)))]
 | 1=>[(21,.d (.one (.sl (nR (up s)))))]
 | 2=>[(22,.d (.one (.lit (.int .i64 s.names.length))))]
 | 3=>[(23,.d (.one (.lit (.slice (f.1 23).1 s.names.length (f.1 23).2))))]
 | 4=>[(24,.d (.one (.lit (.int .i64 s.names.length))))]
 | 5=>[(25,.d (.one (.lit (.slice (f.1 25).1 s.names.length (f.1 25).2))))]
 | 6=>[(26,.d (.agg [.sl (nR (up s)),.lit (.slice (f.1 23).1 s.names.length (f.1 23).2),.lit (.slice (f.1 25).1 s.names.length (f.1 25).2)]))]
 | 7=>[(5,.ref 5 0)]
 | 8=>[(5,.ref 5 0)]
 | _=>[]
def ordM (s:Srt) (f:(Nat->Option Addr × Nat) × C × C × C):Nat->List (Nat × Bk)
 | 3=>[(23,.buf (some (f.1 23)) 3 1 (nR (List.replicate s.names.length 0)))]
 | 5=>[(25,.buf (some (f.1 25)) 3 1 (nR (List.replicate s.names.length 0)))]
 | 6=>[(23,.buf (some (f.1 23)) 3 1 (nR (List.replicate s.names.length 0))),(25,.buf (some (f.1 25)) 3 1 (nR (List.replicate s.names.length 0)))]
 | 7=>[(5,.var none [f.2.1,f.2.2.1,f.2.2.2])]
 | 8=>[(5,.var none [.sl (nR (up s)),.lit (.slice (f.1 23).1 s.names.length (f.1 23).2),.lit (.slice (f.1 25).1 s.names.length (f.1 25).2)]),(23,.buf (some (f.1 23)) 3 1 (nR (List.replicate s.names.length 0))),(25,.buf (some (f.1 25)) 3 1 (nR (List.replicate s.names.length 0)))]
 | _=>[]
theorem ZAz:(∀ (u l:List Nat),downs u 0 l=l)∧∀ n,ZcS n 0=List.replicate n 0:=⟨fun _ _=>rfl,fun n=>by simp [ZcS]⟩
theorem ZAf (i:Nat) (l:List Nat):downIn i l []=l:=rfl
theorem Zt9 {ks:List Nat} {j k:Nat} (h:ks[j]?=some k) (i:Nat) (l:List Nat):downIn i l (ks.take (j+1))=(downIn i l (ks.take j)).set k ((downIn i l (ks.take j)).getD k 0 ||| 2 ^ i):=Zf0 h l
def ZiP (s:Srt):List (Nat × A):=[(1,.ref 1 0),(2,.ref 2 0),(3,.d (.one (.lit (.bool false)))),(4,.d (.one (.lit (.int .i64 s.names.length))))]
def ZkP (s:Srt):List (Nat × Bk):=[(1,.var none (Za1 s)),(2,.var none [.sl [],.sl [],.sl []])]
def ordB (s:Srt) (σ:St):Prop:=Lks (ZiP s) (ZkP s) σ
section
variable {s:Srt}
theorem Zh7 (hok:Ziy s) (hs:¬ SortsOk s):Con e0 126 [.agg (Za1 s)] [.agg [.sl [],.sl [],.sl []],.one (.lit (.bool false))]:=by
 have cI:=Zgl hok
 rw [Zeu hs,Za1] at cI
 rw [Za1]
 refine gI (ts:=[.cell 2 178,.slot 3]) 569543224310601128703 Tryz.func126 ?_
 (have F:=@e0P;refine gG ?_;clear F)
 refine gB ?_
 (have F:=@e0P;refine gC (cI) ?_;clear F)
 (have F:=@e0P;refine gR ?_;clear F)
 (have F:=@e0P;refine gG ?_;exact gTd)
theorem ZgV (hok:Ziy s) (hs:SortsOk s):Con e0 126 [.agg (Za1 s)] [.agg (Zc1 s),.one (.lit (.bool true))]:=by
 have cI:=Zgl hok
 have hSI:=SortsOk.subsIn hs.subs
 have cA:=Zgk hs.n1 hs.n8 hs.m16 hSI
 rw [ZdK hs] at cI
 rw [Za1] at cI ⊢
 refine gI (ts:=[.cell 2 178,.slot 3]) 569543224310601128703 Tryz.func126 ?_
 (have F:=@e0P;refine gG ?_;clear F)
 refine gB ?_
 (have F:=@e0P;refine gC (cI) ?_;clear F)
 (have F:=@e0P;refine gR ?_;clear F)
 (have F:=@e0P;have NN:Zaj 4:=trivial;refine gGn ?_;clear F NN)
 have hmx:((s.names.length:Int)<=(maxApp:Int))=True:=eq_true (by have:=hs.n8;unfold maxApp;omega)
 refine gGd (ordB s) (PG (ordS s) (ordM s)) ⟨by simp [ZiP,gs],by simp [ZkP,gm,Za1]⟩ ⟨?_,?_,?_,?_,?_,?_,?_,?_,?_,trivial⟩ ?_
 rotate_right
 all_goals (intro s' m' hB)
 all_goals (have g1:gs s' 1=.ref 1 0:=hB.1 (1,.ref 1 0) (by simp [ZiP]))
 all_goals (have g4:gs s' 4=.d (.one (.lit (.int .i64 s.names.length))):=hB.1 (4,_) (by simp [ZiP]))
 all_goals (have k1:gm m' 1=some (.var none [.sl (s.names.map ZcZ),.sl (s.subs.map Zdi)]):=hB.2 (1,_) (by simp [ZkP,Za1]))
 ·intro hP
  clear g1 g4 k1
  obtain ⟨f,h⟩:=hP 8 (by decide)
  refine ⟨_,_,h.app hB,?_⟩
  generalize hp:f.1 23=p
  generalize hq:f.1 25=q
  obtain ⟨a3,c3⟩:=p
  obtain ⟨a5,c5⟩:=q
  simp only [ordS,ordM,ZiP,ZkP,Taf,Tah,Za1,hp,hq]
  clear hp hq h hB hP s' m' f
  refine ⟨_,Wk.refl _,?_⟩
  have hU:=ZfZ hSI
  have lU:=Zbk (l:=up s)
  rw [hU.1] at lU
  have h8:=hs.n8
  have rU:=Zbl (l:=up s)
  (have F:=@e0P;have NN:Zaj 5:=trivial;refine gGn ?_;clear F NN)
  have hn1:=hs.n1
  have l00:0 < (nR (List.replicate s.names.length 0)).length:=by rw [Zbk,List.length_replicate];omega
  refine pA 23 25 (fun hne=>?_) l00 l00
  have hn5:∀ p,(a5=a3∧p)=False:=fun p=>eq_false fun e=>hne e.1.symm
  (have F:=@lU;refine gG ?_;clear F)
  (have F:=@ZAz;refine gL (ι:=Nat) [6,7,9,30,31,36,37,38,39] [23,25] (fun i=>[(30,A.d (.one (.lit (.int .i64 i))))]) (fun i=>[(23,.buf (some (a3,c3)) 3 1 (nR (downs (up s) i (List.replicate s.names.length 0)))),(25,.buf (some (a5,c5)) 3 1 (nR (ZcS s.names.length i)))]) (fun i=>i<=s.names.length) (fun i=>s.names.length - i) (0) (Taj _) (fun i hi=>?_);clear F)
  have hDi:=UpOk.downs hU i (l:=List.replicate s.names.length 0) hi (UpOk.zeros _)
  have lK:=Zbk (l:=ZcS s.names.length i)
  rw [ZjX hi] at lK
  by_cases hlt:i < s.names.length
  ·have q1:(i:Int) < (s.names.length:Int):=by omega
   have hw:=Zap (k:=i) om
   obtain ⟨gi,bi⟩:=hU.get hlt
   have r1:=ZbB gi
   have p256:2 ^ s.names.length<=256:=Tbb (Tbp om h8) (by decide)
   have cL:=ZpW (a:=(up s).getD i 0) om
   have hdn:downs (up s) (i+1) (List.replicate s.names.length 0)=downIn i (downs (up s) i (List.replicate s.names.length 0)) (Zdj ((up s).getD i 0)):=rfl
   have hks:=ZjW bi
   have lks:=Zbk (l:=Zdj ((up s).getD i 0))
   have rks:=Zbl (l:=Zdj ((up s).getD i 0))
   have hks16:(Zdj ((up s).getD i 0)).length<=64:=Tbb (ZiG _ _) (by decide)
   have hsh:=Zhc (k:=i) om
   (have F:=ai @q1 (ai @lU (ai @r1 @rU));refine gG ?_;clear F)
   refine gB ?_
   (have F:=@e0P;refine gC (cL) ?_;clear F)
   (have F:=@lks;refine gR ?_;clear F)
   generalize Zdj ((up s).getD i 0)=ks at hdn hks lks rks hks16 ⊢
   generalize downs (up s) i (List.replicate s.names.length 0)=l at hdn hDi ⊢
   (have F:=@lks;refine gG ?_;clear F)
   (have F:=@ZAf;refine gL (ι:=Nat) [9,38,39] [23] (fun j=>[(38,A.d (.one (.lit (.int .i64 j))))]) (fun j=>[(23,.buf (some (a3,c3)) 3 1 (nR (downIn i l (ks.take j))))]) (fun j=>j<=ks.length) (fun j=>ks.length - j) (0) (Taj _) (fun j hj=>?_);clear F)
   by_cases hlj:j < ks.length
   ·have q2:(j:Int) < (ks.length:Int):=by omega
    have hwj:=Zap (k:=j) om
    obtain ⟨k,hk⟩:∃ k,ks[j]?=some k:=⟨_,Taa hlj⟩
    have hkn:=hks k (Tac hk)
    have r2:=ZbB hk
    have hst:=Zt9 hk i l
    have hV:=UpOk.downIn hlt hDi (ks:=ks.take j) fun q hq=>hks q (List.mem_of_mem_take hq)
    generalize downIn i l (ks.take j)=v at hst hV ⊢
    obtain ⟨gk,bk⟩:=hV.get hkn
    have r3:=ZbB gk
    have l3:=Zbk (l:=v)
    rw [hV.1] at l3
    have l4:=Zbl (l:=v)
    have l5:=ZdN (l:=v) k (v.getD k 0 ||| 2 ^ i)
    have p2:2 ^ i < 4611686018427387904:=ZeY om
    have hor:=Zjn (a:=v.getD k 0) (b:=2 ^ i) om p2
    (have F:=ai @q2 (ai @r2 (ai @rks (ai @lks (ai @r3 (ai @l3 (ai @l4 (ai @l5 (ai @hsh (ai @hor (ai @hkn (ai @Zan (ai @hwj @hst))))))))))));refine gG ?_;exact ⟨j+1,hlj,gw,gw,by omega⟩)
   obtain rfl:j=ks.length:=by omega
   have q2:¬ ((ks.length:Int) < (ks.length:Int)):=by omega
   rw [Tap,<- hdn]
   have l6:=Zbl (l:=ZcS s.names.length i)
   have l7:=ZdN (l:=ZcS s.names.length i) i i
   rw [ZtW hlt] at l7
   obtain ⟨y,gy⟩:∃ y,(ZcS s.names.length i)[i]?=some y:=⟨_,Taa (by rw [ZjX hi];exact hlt)⟩
   have r5:=ZbB gy
   (have F:=ai @q2 (ai @hn5 (ai @lK (ai @l6 (ai @l7 (ai @r5 (ai @hlt (ai @hw @Zan)))))));refine gG ?_;exact ⟨i+1,hlt,gw,gw,by omega⟩)
  obtain rfl:i=s.names.length:=by omega
  have q1:¬ ((s.names.length:Int) < (s.names.length:Int)):=by omega
  rw [ZtX,show downs (up s) s.names.length (List.replicate s.names.length 0)=down s from rfl]
  clear hDi lK
  have hK:=KOk.start s.names.length
  (have F:=@q1;refine gG ?_;clear F)
  (have F:=@Zpk;refine gL (ι:=Nat) [11,12,62,63,65,66,67,68] [25] (fun j=>[(62,A.d (.one (.lit (.int .i64 j))))]) (fun j=>[(25,.buf (some (a5,c5)) 3 1 (nR (ZcJ s.subs j (List.range s.names.length))))]) (fun j=>j<=s.names.length) (fun j=>s.names.length - j) (0) (Taj _) (fun j hj=>?_);clear F)
  have hKj:=KOk.iter hSI j hK
  have l0:=Zbk (l:=ZcJ s.subs j (List.range s.names.length))
  rw [hKj.1] at l0
  by_cases hlj:j < s.names.length
  rotate_left
  ·obtain rfl:j=s.names.length:=by omega
   have q2:¬ ((s.names.length:Int) < (s.names.length:Int)):=by omega
   rw [show ZcJ s.subs s.names.length (List.range s.names.length)=kinds s from rfl]
   (have F:=@q2;have NN:Zaj 25:=trivial;refine gGn ?_;clear F NN)
   have lD:=Zbk (l:=down s)
   rw [(ZzI hSI).1] at lD
   have lK:=Zbk (l:=kinds s)
   rw [(Zf1 hSI).1] at lK
   refine pD 23 [] [5] ?_ (hr:=by simp only [pz,↓reduceIte,Nat.reduceEqDiff,Nat.reduceAdd,Nat.reduceSub,Nat.reduceMul,Nat.reduceLeDiff,Nat.reduceBEq,Tam,decide_true,decide_false,Int.reduceLE,Int.reduceToNat,Int.reduceLT,Int.reduceEq,eq_self,Nat.reduceShiftRight,Nat.reduceAnd,Nat.reduceBneDiff,lD,hn5,if_false];exact rfl)
   refine pD 25 [] [5] ?_ (hr:=by simp only [pz,↓reduceIte,Nat.reduceEqDiff,Nat.reduceAdd,Nat.reduceSub,Nat.reduceMul,Nat.reduceLeDiff,Nat.reduceBEq,Tam,decide_true,decide_false,Int.reduceLE,Int.reduceToNat,Int.reduceLT,Int.reduceEq,eq_self,Nat.reduceShiftRight,Nat.reduceAnd,Nat.reduceBneDiff,lK,hn5,if_false];exact rfl)
   (have F:=@Zf2;refine gG ?_;exact gTd)
  have q2:(j:Int) < (s.names.length:Int):=by omega
  have hwj:=Zap (k:=j) om
  have hnx:ZcJ s.subs (j+1) (List.range s.names.length)=s.subs.foldl kSub (ZcJ s.subs j (List.range s.names.length)):=rfl
  generalize ZcJ s.subs j (List.range s.names.length)=u at hKj hnx l0 ⊢
  (have F:=ai @l0 @q2;refine gG ?_;clear F)
  have hm16:=hs.m16
  (have F:=@Zt2;refine gL (ι:=Nat) [11,12,67,68] [25] (fun i=>[(67,A.d (.one (.lit (.int .i64 i))))]) (fun i=>[(25,.buf (some (a5,c5)) 3 1 (nR ((s.subs.take i).foldl kSub u)))]) (fun i=>i<=s.subs.length) (fun i=>s.subs.length - i) (0) (Taj _) (fun i hi=>?_);clear F)
  by_cases hli:i < s.subs.length
  rotate_left
  ·obtain rfl:i=s.subs.length:=by omega
   have q3:¬ ((s.subs.length:Int) < (s.subs.length:Int)):=by omega
   rw [Tap,<- hnx]
   (have F:=ai @q3 @hwj;refine gG ?_;exact ⟨j+1,hlj,gw,gw,by omega⟩)
  have q3:(i:Int) < (s.subs.length:Int):=by omega
  have hwi:=Zap (k:=i) om
  obtain ⟨p,hp⟩:∃ p,s.subs[i]?=some p:=⟨_,Taa hli⟩
  have hps:=hSI p (Tac hp)
  have hst:=Zj2 hp u
  have hUi:=KOk.foldl hKj (hSI.take i)
  generalize (s.subs.take i).foldl kSub u=v at hUi hst ⊢
  obtain ⟨g1,b1⟩:=hUi.get (i:=p.1.toNat) om
  obtain ⟨g2,b2⟩:=hUi.get (i:=p.2.toNat) om
  have l1:=ZbB g1
  have l2:=ZbB g2
  have l3:=Zbk (l:=v)
  rw [hUi.1] at l3
  have l4:=Zbl (l:=v)
  have hmin:(if (v.getD p.2.toNat 0:Int) < (v.getD p.1.toNat 0:Int) then (v.getD p.2.toNat 0:Int) else (v.getD p.1.toNat 0:Int))=((min (v.getD p.1.toNat 0) (v.getD p.2.toNat 0):Nat):Int):=by
   split <;> omega
  generalize hmn:min (v.getD p.1.toNat 0) (v.getD p.2.toNat 0)=mn at hmin hst
  have l5:=ZdN (l:=v) p.1.toNat mn
  have l6:=ZdN (l:=v.set p.1.toNat mn) p.2.toNat mn
  have l7:=Zbk (l:=v.set p.1.toNat mn)
  rw [Tax,hUi.1] at l7
  have l8:=Zbl (l:=v.set p.1.toNat mn)
  obtain ⟨x9,g9⟩:∃ x,(v.set p.1.toNat mn)[p.2.toNat]?=some x:=⟨_,Taa (by rw [Tax,hUi.1];omega)⟩
  have l9:=ZbB g9
  have i1:0<=p.1:=hps.1
  have i2:0<=p.2:=hps.2.2.1
  have i3:p.1.toNat < s.names.length:=by omega
  have i4:p.2.toNat < s.names.length:=by omega
  have hst:(s.subs.take (i+1)).foldl kSub u=(v.set p.1.toNat mn).set p.2.toNat mn:=by rw [hst];unfold kSub;rw [hmn]
  (have F:=ai @q3 (ai @hp (ai @ZbG (ai @hn5 (ai @l1 (ai @l2 (ai @l3 (ai @l4 (ai @l5 (ai @l6 (ai @l7 (ai @l8 (ai @l9 (ai @i1 (ai @i2 (ai @i3 (ai @i4 (ai @hmin (ai @hwi @hst))))))))))))))))));refine gG ?_;exact ⟨i+1,hli,gw,gw,by omega⟩)
 ·intro _
  refine (have F:=ai g1 k1;gO3 ?_)
  exact ⟨hB.slot rfl,⟨(fun _=>(none,0),.sl [],.sl [],.sl []),by simp [ordS,gs,Za1],by simp [ordM]⟩,PG.slot (by intro j h1 h2 x;rcases j with _ | _ | _ | _ | _ | _ | _ | _ | _ | j <;> first | rfl | exact absurd rfl h1 | exact absurd (by decide) h2)⟩
 ·intro hP
  obtain ⟨f,h0,_⟩:=hP 0 (by decide)
  have g20:gs s' 20=.d (.agg (Za1 s)):=h0 (_,_) (by simp [ordS])
  refine (have F:=g20;gC cA ?_)
  refine ZcY ?_
  exact ⟨hB.slot rfl,⟨(fun _=>(none,0),.sl [],.sl [],.sl []),by simp [ordS,gs],by simp [ordM]⟩,PG.slot (by intro j h1 h2 x;rcases j with _ | _ | _ | _ | _ | _ | _ | _ | _ | j <;> first | rfl | exact absurd rfl h1 | exact absurd (by decide) h2)⟩
 ·intro _
  refine (have F:=g4;gO3 ?_)
  exact ⟨hB.slot rfl,⟨(fun _=>(none,0),.sl [],.sl [],.sl []),by simp [ordS,gs],by simp [ordM]⟩,PG.slot (by intro j h1 h2 x;rcases j with _ | _ | _ | _ | _ | _ | _ | _ | _ | j <;> first | rfl | exact absurd rfl h1 | exact absurd (by decide) h2)⟩
 ·intro hP
  obtain ⟨f,h0,_⟩:=hP 2 (by decide)
  have g22:gs s' 22=.d (.one (.lit (.int .i64 s.names.length))):=h0 (_,_) (by simp [ordS])
  refine (have F:=ai g22 (ai hmx (ai @Tbt @Zjo));gP 1 ?_)
  refine gS 23 fun a cap=>?_
  refine ZcY ?_
  exact ⟨hB.pin rfl,⟨(fun _=>(a,cap),.sl [],.sl [],.sl []),by simp [ordS,gs],by simp [ordM,gm,nR_0]⟩,PG.pin (by intro j h1 h2 x;rcases j with _ | _ | _ | _ | _ | _ | _ | _ | _ | j <;> first | rfl | exact absurd rfl h1 | exact absurd (by decide) h2)⟩
 ·intro _
  refine (have F:=g4;gO3 ?_)
  exact ⟨hB.slot rfl,⟨(fun _=>(none,0),.sl [],.sl [],.sl []),by simp [ordS,gs],by simp [ordM]⟩,PG.slot (by intro j h1 h2 x;rcases j with _ | _ | _ | _ | _ | _ | _ | _ | _ | j <;> first | rfl | exact absurd rfl h1 | exact absurd (by decide) h2)⟩
 ·intro hP
  obtain ⟨f,h0,_⟩:=hP 4 (by decide)
  have g24:gs s' 24=.d (.one (.lit (.int .i64 s.names.length))):=h0 (_,_) (by simp [ordS])
  refine (have F:=ai g24 (ai hmx (ai @Tbt @Zjo));gP 1 ?_)
  refine gS 25 fun a cap=>?_
  refine ZcY ?_
  exact ⟨hB.pin rfl,⟨(fun _=>(a,cap),.sl [],.sl [],.sl []),by simp [ordS,gs],by simp [ordM,gm,nR_0]⟩,PG.pin (by intro j h1 h2 x;rcases j with _ | _ | _ | _ | _ | _ | _ | _ | _ | j <;> first | rfl | exact absurd rfl h1 | exact absurd (by decide) h2)⟩
 ·intro hP
  obtain ⟨f1,h1,_⟩:=hP 1 (by decide)
  obtain ⟨f3,h3,h3'⟩:=hP 3 (by decide)
  obtain ⟨f5,h5,h5'⟩:=hP 5 (by decide)
  have g21:gs s' 21=.d (.one (.sl (nR (up s)))):=h1 (_,_) (by simp [ordS])
  have g23:gs s' 23=.d (.one (.lit (.slice (f3.1 23).1 s.names.length (f3.1 23).2))):=h3 (_,_) (by simp [ordS])
  have g25:gs s' 25=.d (.one (.lit (.slice (f5.1 25).1 s.names.length (f5.1 25).2))):=h5 (_,_) (by simp [ordS])
  have k23:=h3' (23,_) (by simp [ordM];rfl)
  have k25:=h5' (25,_) (by simp [ordM];rfl)
  refine (have F:=ai g21 (ai g23 g25);gO3 ?_)
  exact ⟨hB.slot rfl,⟨(fun k=>if k=23 then f3.1 23 else f5.1 25,.sl [],.sl [],.sl []),by simp [ordS,gs],by simp [ordM];exact ⟨k23,k25⟩⟩,PG.slot (by intro j h1 h2 x;rcases j with _ | _ | _ | _ | _ | _ | _ | _ | _ | j <;> first | rfl | exact absurd rfl h1 | exact absurd (by decide) h2)⟩
 ·intro _
  refine (have F:=g4;gO3 ?_)
  exact ⟨hB.born rfl,⟨(fun _=>(none,0),.sl [],.sl [],.sl []),by simp [ordS,gs],by simp [ordM,gm]⟩,PG.born (by intro j h1 h2 x;rcases j with _ | _ | _ | _ | _ | _ | _ | _ | _ | j <;> first | rfl | exact absurd rfl h1 | exact absurd (by decide) h2)⟩
 ·intro hP
  obtain ⟨f6,h6,h6'⟩:=hP 6 (by decide)
  obtain ⟨f7,h7,h7'⟩:=hP 7 (by decide)
  have g26:gs s' 26=.d (.agg [.sl (nR (up s)),.lit (.slice (f6.1 23).1 s.names.length (f6.1 23).2),.lit (.slice (f6.1 25).1 s.names.length (f6.1 25).2)]):=h6 (_,_) (by simp [ordS])
  have g5:gs s' 5=.ref 5 0:=h7 (_,_) (by simp [ordS])
  have k5:gm m' 5=some (.var none [f7.2.1,f7.2.2.1,f7.2.2.2]):=h7' (_,_) (by simp [ordM])
  have k23:=h6' (23,_) (by simp [ordM];rfl)
  have k25:=h6' (25,_) (by simp [ordM];rfl)
  refine (have F:=ai g26 (ai g5 k5);gO3 ?_)
  refine ⟨hB.own rfl,⟨f6,by simp [ordS,g5],by simp [ordM,gm,ZaO];exact ⟨k23,k25⟩⟩,?_⟩
  intro j q1 q2 ⟨x,q⟩
  rcases j with _ | _ | _ | _ | _ | _ | _ | _ | _ | j
  all_goals first
   | exact ⟨x,q.own rfl⟩
   | exact absurd rfl q1
   | exact ⟨(fun _=>(none,0),.sl (nR (up s)),.lit (.slice (f6.1 23).1 s.names.length (f6.1 23).2),.lit (.slice (f6.1 25).1 s.names.length (f6.1 25).2)),by simp [ordS,g5],by simp [ordM,gm]⟩
end
section
variable {g:Sgn}
theorem ZmF {k:Nat} {o:Opr} (h:g.ops[k]?=some o):Zcs (Za5 (g.ops.take k))++[(o.name,.bool true)]=Zcs (Za5 (g.ops.take (k+1))):=by
 rw [ZgU h,Zcs,Zcs,Tbr]
 rfl
theorem ZmG {l:List Opr} {i k m:Nat} (h:i=k+m) {s:ByteArray} (hs:ZaV (Za5 (l.take k)) s=true):ZaV (Za5 (l.take i)) s=true:=by
 subst h
 rw [List.take_add,Za5,Tbr]
 unfold ZaV at hs ⊢
 rw [List.any_append]
 rw [Za5] at hs
 rw [hs,Bool.true_or]
theorem Zvs (l:List Opr):Zcs (Za5 (l.take 0))=[]∧Zcs (Za5 [])=[]:=⟨rfl,rfl⟩
theorem Zfs (hg:ZcI g):Con e0 125 [.agg (ZaA g)] [.one (.lit (.bool (ZbM g)))]:=by
 have hno:¬ SgnOk g->ZbM g=false:=Zea
 rw [ZaA]
 refine gI 9358620764179268287 Tryz.func125 ?_
 by_cases hs:SortsOk g.sorts
 rotate_left
 ·have cO:=Zh7 hg.1 hs
  have hf:=hno fun h=>hs h.sorts
  rw [Za1] at cO
  (have F:=@e0P;refine gG ?_;clear F)
  refine gB ?_
  (have F:=@e0P;refine gC (cO) ?_;clear F)
  (have F:=@e0P;refine gR ?_;clear F)
  (have F:=@hf;refine gG ?_;exact gT)
 have cO:=ZgV hg.1 hs
 rw [Za1] at cO
 (have F:=@e0P;refine gG ?_;clear F)
 refine gB ?_
 (have F:=@e0P;refine gC (cO) ?_;clear F)
 (have F:=@Zf2;refine gR ?_;clear F)
 by_cases h14:g.ops.length<=14
 rotate_left
 ·have z1:((14:Int) < (g.ops.length:Int))=True:=eq_true om
  have hf:=hno fun h=>h14 h.len
  (have F:=ai @z1 @hf;refine gG ?_;exact gT)
 have z1:((14:Int) < (g.ops.length:Int))=False:=eq_false om
 (have F:=@z1;have NN:Zaj 4:=trivial;refine gGn ?_;clear F NN)
 refine gB ?_
 refine gMk fun b=>?_
 (have F:=@e0P;refine gR ?_;clear F)
 (have F:=@e0P;refine gG ?_;clear F)
 (have F:=((Zvs g.ops));refine gL (ι:=Nat) [2,7,28,29,47] [24] (fun i=>[(28,A.d (.one (.lit (.int .i64 i))))]) (fun i=>[(24,mapB b (Zcs (Za5 (g.ops.take i))))]) (fun i=>i<=g.ops.length∧(∀ (j:Nat) (o:Opr),j < i->g.ops[j]?=some o->Za2 o.name=true∧ZaV (Za5 (g.ops.take j)) o.name=false)∧(∀ o∈g.ops.take i,DeclsOk g.sorts o)) (fun i=>g.ops.length - i) (0) (⟨Taj _,fun j o h=>absurd h om,fun o h=>by simp at h⟩) (fun i hi=>?_);clear F)
 obtain ⟨hil,hnm,hdc⟩:=hi
 by_cases hlt:i < g.ops.length
 ·have q1:(i:Int) < (g.ops.length:Int):=by omega
  obtain ⟨o,ho⟩:∃ o,g.ops[i]?=some o:=⟨_,Taa hlt⟩
  have hom:=Tac ho
  have hw:=Zap (k:=i) om
  have hfs:=ZiJ (Za5 (g.ops.take i)) o.name
  have hbad:¬ (Za2 o.name=true∧ZaV (Za5 (g.ops.take i)) o.name=false)->ZbM g=false:=fun h=>hno fun hs=>h (hs.names i o ho)
  have hbad2:ZbI g.sorts o=false->ZbM g=false:=fun h=>hno fun hs=>by rw [ZdL (hs.decls o hom)] at h;cases h
  have cN:=Ze0 (hg.2 o hom).1
  have cD:=Zkx hs o
  rw [Zbo,Zc1] at cD
  (have F:=ai @q1 (ai @ho @Zak);have NN:Zaj 8:=trivial;refine gGn ?_;clear F NN)
  refine gB ?_
  (have F:=@e0P;refine gP 3 ?_;clear F)
  cases hh:ZaV (Za5 (g.ops.take i)) o.name with
  | true =>
   rw [hh] at hfs hbad
   have hf:=hbad fun h=>by cases h.2
   refine (have F:=e0P;gLk 24 Zc9 ZdP ZeN (v:=.bool true) (by rw [hfs];rfl) ?_)
   (have F:=@e0P;refine gR ?_;clear F)
   (have F:=@hf;refine gG ?_;exact gT)
  | false =>
  rw [hh] at hfs hbad
  refine (have F:=e0P;gLk 24 Zc9 ZdP ZeN (v:=.bool false) (by rw [hfs];rfl) ?_)
  (have F:=@e0P;refine gC (cN) ?_;clear F)
  cases hn:Za2 o.name with
  | false =>
   have hf:=hbad fun h=>by rw [hn] at h;cases h.1
   (have F:=@e0P;refine gR ?_;clear F)
   (have F:=@hf;refine gG ?_;exact gT)
  | true =>
  (have F:=@Zf2;refine gC (cD) ?_;clear F)
  cases hd:ZbI g.sorts o with
  | false =>
   have hf:=hbad2 hd
   (have F:=@e0P;refine gR ?_;clear F)
   (have F:=@hf;refine gG ?_;exact gT)
  | true =>
  have hq:i+1<=g.ops.length∧(∀ (j:Nat) (o:Opr),j < i+1->g.ops[j]?=some o->Za2 o.name=true∧ZaV (Za5 (g.ops.take j)) o.name=false)∧(∀ o∈g.ops.take (i+1),DeclsOk g.sorts o):=⟨hlt,fun j o' hj ho'=>by
   by_cases e:j=i
   ·subst e
    rw [ho] at ho'
    injection ho' with ho'
    subst ho'
    exact ⟨hn,hh⟩
   ·exact hnm j o' om ho',fun o' ho'=>by
   rw [ZbJ ho] at ho'
   rcases Tbe.1 ho' with h | h
   ·exact hdc o' h
   ·rw [Tbg.1 h];exact ZhB.1 hd⟩
  have hsn:=ZmF ho
  (have F:=@e0P;refine gR ?_;clear F)
  (have F:=@e0P;have NN:Zaj 10:=trivial;refine gGn ?_;clear F NN)
  refine gB ?_
  (have F:=@e0P;refine gP 3 ?_;clear F)
  refine (have F:=e0P;gUp 24 Zc9 ZdP (by rw [hfs];rfl) ?_)
  rw [hsn]
  (have F:=@e0P;refine gR ?_;clear F)
  (have F:=@hw;refine gG ?_;exact ⟨i+1,hq,gw,gw,by omega⟩)
 obtain rfl:i=g.ops.length:=by omega
 have q1:¬ ((g.ops.length:Int) < (g.ops.length:Int)):=by omega
 rw [Tap] at hdc
 have hnames:∀ (i:Nat) (o:Opr),g.ops[i]?=some o->Za2 o.name=true∧ZaV (Za5 (g.ops.take i)) o.name=false:=fun i o ho=>hnm i o (Tad.1 ho).1 ho
 (have F:=@q1;refine gG ?_;clear F)
 (have F:=@e0P;refine gL (ι:=Nat) [2,9,55,56,63] [] (fun k=>[(55,A.d (.one (.lit (.int .i64 k))))]) (fun k=>[]) (fun k=>k<=g.ops.length∧∀ o∈g.ops.take k,AxOk g o) (fun k=>g.ops.length - k) (0) (⟨Taj _,fun o h=>by simp at h⟩) (fun k hk=>?_);clear F)
 obtain ⟨hkl,hax⟩:=hk
 by_cases hlk:k < g.ops.length
 rotate_left
 ·obtain rfl:k=g.ops.length:=by omega
  rw [Tap] at hax
  have q2:¬ ((g.ops.length:Int) < (g.ops.length:Int)):=by omega
  have ht:=ZdM ⟨hs,h14,hnames,hdc,hax⟩
  (have F:=ai @q2 @ht;refine gG ?_;exact gT)
 have q2:(k:Int) < (g.ops.length:Int):=by omega
 obtain ⟨o,ho⟩:∃ o,g.ops[k]?=some o:=⟨_,Taa hlk⟩
 have hom:=Tac ho
 have hw:=Zap (k:=k) om
 have cA:=Zjq hs hdc hom h14
 rw [Zbo,Zc1,ZaA] at cA
 (have F:=ai @q2 (ai @ho @Zak);refine gG ?_;clear F)
 refine gB ?_
 (have F:=@Zf2;refine gC (cA) ?_;clear F)
 cases ha:axOk g o with
 | false =>
  have hf:=hno fun h=>by rw [ZcB (h.axs o hom)] at ha;cases ha
  (have F:=@e0P;refine gR ?_;clear F)
  (have F:=@hf;refine gG ?_;exact gT)
 | true =>
 have hq:k+1<=g.ops.length∧∀ o∈g.ops.take (k+1),AxOk g o:=⟨hlk,fun o' ho'=>by
  rw [ZbJ ho] at ho'
  rcases Tbe.1 ho' with h | h
  ·exact hax o' h
  ·rw [Tbg.1 h];exact ZlC.1 ha⟩
 (have F:=@e0P;refine gR ?_;clear F)
 (have F:=@hw;refine gG ?_;exact ⟨k+1,hq,gw,gw,by omega⟩)
theorem ZhF (hg:ZcI g):Con e0 115 [.agg (ZaA g)] [.one (.lit (.bool (ZbM g)))]:=by
 have hno:¬ SgnOk g->ZbM g=false:=Zea
 have cS:=Zkw hg.1
 rw [Za1] at cS
 rw [ZaA]
 refine gI 599807422667317870655 Tryz.func115 ?_
 (have F:=@e0P;refine gG ?_;clear F)
 refine gB ?_
 (have F:=@e0P;refine gC (cS) ?_;clear F)
 cases hss:Zbt g.sorts with
 | false =>
  have hf:=hno fun h=>by rw [ZdK h.sorts] at hss;cases hss
  (have F:=@e0P;refine gR ?_;clear F)
  (have F:=@hf;refine gG ?_;exact gT)
 | true =>
 have hs:=Zmy.1 hss
 by_cases h14:g.ops.length<=14
 rotate_left
 ·have z1:((14:Int) < (g.ops.length:Int))=True:=eq_true om
  have hf:=hno fun h=>h14 h.len
  (have F:=@z1;refine gR ?_;clear F)
  (have F:=@hf;refine gG ?_;exact gT)
 have z1:((14:Int) < (g.ops.length:Int))=False:=eq_false om
 (have F:=@z1;refine gR ?_;clear F)
 (have F:=@e0P;refine gG ?_;clear F)
 (have F:=@e0P;refine gL (ι:=Nat) [2,3,4,20,40,43,58] [] (fun i=>[(3,A.d (.one (.lit (.int .i64 i))))]) (fun i=>[]) (fun i=>i<=g.ops.length∧(∀ (j:Nat) (o:Opr),j < i->g.ops[j]?=some o->Za2 o.name=true∧ZaV (Za5 (g.ops.take j)) o.name=false)∧(∀ o∈g.ops.take i,DeclsOk g.sorts o)) (fun i=>g.ops.length - i) (0) (⟨Taj _,fun j o h=>absurd h om,fun o h=>by simp at h⟩) (fun i hi=>?_);clear F)
 obtain ⟨hil,hnm,hdc⟩:=hi
 by_cases hlt:i < g.ops.length
 ·have q1:(i:Int) < (g.ops.length:Int):=by omega
  obtain ⟨o,ho⟩:∃ o,g.ops[i]?=some o:=⟨_,Taa hlt⟩
  have hom:=Tac ho
  have hw:=Zap (k:=i) om
  have hbad:¬ (Za2 o.name=true∧ZaV (Za5 (g.ops.take i)) o.name=false)->ZbM g=false:=fun h=>hno fun hs=>h (hs.names i o ho)
  have hbad2:ZbI g.sorts o=false->ZbM g=false:=fun h=>hno fun hs=>by rw [ZdL (hs.decls o hom)] at h;cases h
  have cN:=Ze1 (hg.2 o hom).1
  have cD:=ZmD (g:=g) hs o
  rw [Zbo,ZaA] at cD
  (have F:=@q1;refine gG ?_;clear F)
  refine gB ?_
  (have F:=ai @ho @Zak;refine gC (cN) ?_;clear F)
  cases hn:Za2 o.name with
  | false =>
   have hf:=hbad fun h=>by rw [hn] at h;cases h.1
   (have F:=@e0P;refine gR ?_;clear F)
   (have F:=@hf;refine gG ?_;exact gT)
  | true =>
  (have F:=ai @ho @Zak;refine gC (cD) ?_;clear F)
  cases hd:ZbI g.sorts o with
  | false =>
   have hf:=hbad2 hd
   (have F:=@e0P;refine gR ?_;clear F)
   (have F:=@hf;refine gG ?_;exact gT)
  | true =>
  (have F:=@e0P;refine gR ?_;clear F)
  (have F:=@e0P;refine gG ?_;clear F)
  (have F:=@e0P;refine gL (ι:=Nat) [2,4,43,58] [] (fun k=>[(4,A.d (.one (.lit (.int .i64 k))))]) (fun k=>[]) (fun k=>k<=i∧ZaV (Za5 (g.ops.take k)) o.name=false) (fun k=>i - k) (0) (⟨Taj _,rfl⟩) (fun k hk=>?_);clear F)
  obtain ⟨hkl,hseen⟩:=hk
  by_cases hlk:k < i
  ·have q2:(k:Int) < (i:Int):=by omega
   obtain ⟨p,hp⟩:∃ o,g.ops[k]?=some o:=⟨_,Taa om⟩
   have hw2:=Zap (k:=k) om
   have hsn:=ZmA (Za5 (g.ops.take k)) p.name o.name
   rw [hseen,Bool.false_or,Zpg,<- ZgU hp] at hsn
   cases hb:(p.name.toList==o.name.toList) with
   | true =>
    rw [hb] at hsn
    have hbp:(p.name.toList==o.name.toList)=true:=hb
    have hf:=hbad fun h=>by
     obtain ⟨m,hm⟩:∃ m,i=k+1+m:=⟨i - (k+1),by omega⟩
     have h2:=h.2
     rw [ZmG hm hsn] at h2
     cases h2
    (have F:=ai @q2 (ai @ho (ai @hp (ai @Zak (ai @hb @hf))));refine gG ?_;exact gT)
   | false =>
    rw [hb] at hsn
    (have F:=ai @q2 (ai @ho (ai @hp (ai @Zak (ai @hb @hw2))));refine gG ?_;exact ⟨k+1,⟨hlk,hsn⟩,gw,gw,by omega⟩)
  obtain rfl:k=i:=by omega
  have q2:((k:Int) < (k:Int))=False:=eq_false om
  have hq:k+1<=g.ops.length∧(∀ (j:Nat) (o:Opr),j < k+1->g.ops[j]?=some o->Za2 o.name=true∧ZaV (Za5 (g.ops.take j)) o.name=false)∧(∀ o∈g.ops.take (k+1),DeclsOk g.sorts o):=⟨hlt,fun j o' hj ho'=>by
   by_cases e:j=k
   ·subst e
    rw [ho] at ho'
    injection ho' with ho'
    subst ho'
    exact ⟨hn,hseen⟩
   ·exact hnm j o' om ho',fun o' ho'=>by
   rw [ZbJ ho] at ho'
   rcases Tbe.1 ho' with h | h
   ·exact hdc o' h
   ·rw [Tbg.1 h];exact ZhB.1 hd⟩
  (have F:=ai @q2 @hw;refine gG ?_;exact ⟨k+1,hq,gw,gw,by omega⟩)
 obtain rfl:i=g.ops.length:=by omega
 have q1:¬ ((g.ops.length:Int) < (g.ops.length:Int)):=by omega
 rw [Tap] at hdc
 have hnames:∀ (i:Nat) (o:Opr),g.ops[i]?=some o->Za2 o.name=true∧ZaV (Za5 (g.ops.take i)) o.name=false:=fun i o ho=>hnm i o (Tad.1 ho).1 ho
 (have F:=@q1;refine gG ?_;clear F)
 (have F:=@e0P;refine gL (ι:=Nat) [2,5,63,69] [] (fun k=>[(5,A.d (.one (.lit (.int .i64 k))))]) (fun k=>[]) (fun k=>k<=g.ops.length∧∀ o∈g.ops.take k,AxOk g o) (fun k=>g.ops.length - k) (0) (⟨Taj _,fun o h=>by simp at h⟩) (fun k hk=>?_);clear F)
 obtain ⟨hkl,hax⟩:=hk
 by_cases hlk:k < g.ops.length
 rotate_left
 ·obtain rfl:k=g.ops.length:=by omega
  rw [Tap] at hax
  have q2:¬ ((g.ops.length:Int) < (g.ops.length:Int)):=by omega
  have ht:=ZdM ⟨hs,h14,hnames,hdc,hax⟩
  (have F:=ai @q2 @ht;refine gG ?_;exact gT)
 have q2:(k:Int) < (g.ops.length:Int):=by omega
 obtain ⟨o,ho⟩:∃ o,g.ops[k]?=some o:=⟨_,Taa hlk⟩
 have hom:=Tac ho
 have hw:=Zap (k:=k) om
 have cA:=ZlL hs hdc ho h14
 rw [ZaA] at cA
 (have F:=@q2;refine gG ?_;clear F)
 refine gB ?_
 (have F:=@e0P;refine gC (cA) ?_;clear F)
 cases ha:axOk g o with
 | false =>
  have hf:=hno fun h=>by rw [ZcB (h.axs o hom)] at ha;cases ha
  (have F:=@e0P;refine gR ?_;clear F)
  (have F:=@hf;refine gG ?_;exact gT)
 | true =>
 have hq:k+1<=g.ops.length∧∀ o∈g.ops.take (k+1),AxOk g o:=⟨hlk,fun o' ho'=>by
  rw [ZbJ ho] at ho'
  rcases Tbe.1 ho' with h | h
  ·exact hax o' h
  ·rw [Tbg.1 h];exact ZlC.1 ha⟩
 (have F:=@e0P;refine gR ?_;clear F)
 (have F:=@hw;refine gG ?_;exact ⟨k+1,hq,gw,gw,by omega⟩)
end
theorem Zda (s:ByteArray):(s.toList==ByteArray.toList { data:=#[] })=decide (s=ByteArray.empty):=by
 rw [Bool.eq_iff_iff,beq_iff_eq,decide_eq_true_iff,ByteArray.toList_eq,ByteArray.toList_eq]
 constructor
 ·intro h
  cases s with
  | mk d =>
   have:d=#[]:=by apply Array.toList_inj.1;exact h
   rw [this];rfl
 ·rintro rfl;rfl
def encX (g:Sgn) (mc:C):List C:=[.sl ((Zbu (up g.sorts)).map ZaK),.sl ((Zbu (down g.sorts)).map ZaK),.sl ((Zbu (kinds g.sorts)).map ZaK),.sl (g.sorts.names.map ZcZ),.sl (g.sorts.subs.map Zdi),.sl (g.ops.map Zbo),mc]
theorem Zb1:∀ (g:Sgn) (mc:C),encX g mc=[.sl ((Zbu (up g.sorts)).map ZaK),.sl ((Zbu (down g.sorts)).map ZaK),.sl ((Zbu (kinds g.sorts)).map ZaK),.sl (g.sorts.names.map ZcZ),.sl (g.sorts.subs.map Zdi),.sl (g.ops.map Zbo),mc]:=fun _ _=>rfl
theorem ZAg {s:Srt} (h:SortsOk s):(up s).length=s.names.length:=(ZfZ (SortsOk.subsIn h.subs)).1
theorem ZfE {s:Srt} (h:SortsOk s) {k:Int} (h0:0<=k) (h1:k < s.names.length):(Zbu (kinds s))[k.toNat]?=some ((kd s k:Nat):Int):=by
 have hk:=Zf1 (SortsOk.subsIn h.subs)
 have hl:k.toNat < (kinds s).length:=by rw [hk.1];omega
 unfold Zbu kd
 rw [Tay,Taa hl]
 simp [List.getD,Taa hl]
def Zhf (g:Sgn) (t:Tm):Prop:=t.op=-1∧Za2 t.name=true∧0<=t.sort∧t.sort < g.sorts.names.length∧t.args=[]
open Classical in
noncomputable def Zf3 (g:Sgn) (t:Tm):Bool:=decide (Zhf g t)
structure AppOk (g:Sgn) (t:Tm) (o:Opr) (d:Dcl):Prop where
 lo:0<=t.op
 at':g.ops[t.op.toNat]?=some o
 fst:o.decls[0]?=some d
 nm:t.name=ByteArray.empty
 so:t.sort=0
 asc:o.assoc=true->2<=t.args.length∧t.args.length<=7
 nas:o.assoc=false->t.args.length=d.args.length
def Zcc (g:Sgn) (t:Tm):Prop:=Zhf g t∨∃ o d,AppOk g t o d
def Zp1 (g:Sgn) (op:Int):Int:=((g.ops[op.toNat]?.bind (·.decls[0]?)).map (·.res)).getD 0
def Zcd (g:Sgn) (t:Tm):Int:=if t.op=-1 then kd g.sorts t.sort else kd g.sorts (Zp1 g t.op)
def argAt (o:Opr) (i:Nat):Nat:=if o.assoc=true then 0 else i
theorem Zpm:∀ (o:Opr) (i:Nat),argAt o i=if o.assoc=true then 0 else i:=fun _ _=>rfl
structure ArgOk (g:Sgn) (op:Int) (o:Opr) (d:Dcl) (args:List Tm) (i:Nat) (a:Tm):Prop where
 kind:∀ k,d.args[argAt o i]?=some k->Zcd g a=kd g.sorts k
 nest:o.assoc=true->a.op≠op
 unit:o.unit≠0->a.op≠o.unit - 1
 ord:o.comm=true->∀ (j:Nat) p,i=j+1->args[j]?=some p->Zas p a<=0
def Zhg (g:Sgn) (op:Int) (args:List Tm):Prop:=∀ o d,g.ops[op.toNat]?=some o->o.decls[0]?=some d->∀ (i:Nat) a,args[i]?=some a->ArgOk g op o d args i a
mutual
def ZaD (g:Sgn):Tm->Prop
 | .mk op nm so args=>Zcc g (.mk op nm so args)∧ZcN g args∧(op=-1∨Zhg g op args)
def ZcN (g:Sgn):List Tm->Prop
 | []=>True
 | t::ts=>ZaD g t∧ZcN g ts
end
theorem ZmH {g:Sgn} {ts:List Tm}:ZcN g ts ↔ ∀ a∈ts,ZaD g a:=by
 induction ts with
 | nil=>simp [ZcN]
 | cons t ts ih=>simp [ZcN,ih]
theorem ZbP {g:Sgn} {t:Tm}:ZaD g t ↔ Zcc g t∧(∀ a∈t.args,ZaD g a)∧(t.op=-1∨Zhg g t.op t.args):=by
 cases t
 simp only [ZaD,ZmH,Tm.args,Tm.op]
theorem ZaD.node {g:Sgn} {t:Tm} (h:ZaD g t):Zcc g t:=(ZbP.1 h).1
open Classical in
noncomputable def Zbp (g:Sgn) (t:Tm):Bool:=decide (ZaD g t)
theorem Zef {g:Sgn} {t:Tm} (h:ZaD g t):Zbp g t=true:=by simp [Zbp,h]
theorem ZgW {g:Sgn} {t:Tm} (h:¬ ZaD g t):Zbp g t=false:=by simp [Zbp,h]
theorem ZiQ {g:Sgn} {t:Tm}:Zbp g t=true ↔ ZaD g t:=by simp [Zbp]
theorem SgnOk.first {g:Sgn} (h:SgnOk g) {i:Nat} {o:Opr} (ho:g.ops[i]?=some o):∃ d,o.decls[0]?=some d∧(0:Int)<=d.res∧d.res < (g.sorts.names.length:Int)∧∀ k:Int,k∈d.args->0<=k∧k < (g.sorts.names.length:Int):=by
 have hm:=Tac ho
 obtain ⟨d,hd,hD⟩:=(h.decls o hm).first
 exact ⟨d,hd,hD.res.1,hD.res.2,hD.args⟩
theorem ZlT {g:Sgn} {op:Int} {o:Opr} {d:Dcl} (ho:g.ops[op.toNat]?=some o) (hd:o.decls[0]?=some d):Zp1 g op=d.res:=by simp [Zp1,ho,hd]
theorem AppOk.op {g:Sgn} {t:Tm} {o:Opr} {d:Dcl} (h:AppOk g t o d):t.op≠-1:=by have:=h.lo;omega
section
variable {g:Sgn} {mc:C}
theorem ZzN (hg:SgnOk g) (k:Int):Con e0 254 [.agg [.sl ((Zbu (up g.sorts)).map ZaK),.sl ((Zbu (down g.sorts)).map ZaK),.sl ((Zbu (kinds g.sorts)).map ZaK)],.one (.lit (.int .i64 k))] [.one (.lit (.bool (decide (0<=k∧k < g.sorts.names.length))))]:=by
 have hl:=ZAg hg.sorts
 refine gI 23 Tryz.func254 ?_
 by_cases h0:0<=k
 ·have e:decide (0<=k∧k < (g.sorts.names.length:Int))=decide (k < (g.sorts.names.length:Int)):=by simp [h0]
  rw [e]
  (have F:=ai @h0 (ai @ZjV @hl);refine gG ?_;exact gT)
 ·have e:decide (0<=k∧k < (g.sorts.names.length:Int))=false:=by simp [h0]
  rw [e]
  (have F:=@h0;refine gG ?_;exact gT)
theorem Zp2 (hg:SgnOk g) {t:Tm} (ht:Zcc g t):Con e0 145 [.one (.ptr (encX g mc)),.agg (Zah t)] [.one (.lit (.int .i64 (Zcd g t)))]:=by
 refine gI 155 Tryz.func145 ?_
 rcases ht with ⟨h1,h2,h3,h4,h5⟩ | ⟨o,d,h⟩
 ·have hn:(-1:Int) < 0:=by omega
  have hk:=ZfE hg.sorts h3 h4
  have e:Zcd g t=kd g.sorts t.sort:=by simp [Zcd,h1]
  (have F:=ai @tmz (ai @h1 (ai @hn (ai @Zb1 (ai @h3 (ai @hk (ai @Za0 @e))))));refine gG ?_;exact gT)
 ·have hn:¬ (t.op < 0):=by have:=h.lo;omega
  obtain ⟨d',hd',hr0,hr1,_⟩:=hg.first h.at'
  rw [h.fst] at hd'
  injection hd' with hd'
  subst hd'
  have hk:=ZfE hg.sorts hr0 hr1
  have e:Zcd g t=kd g.sorts d.res:=by simp [Zcd,h.op,ZlT h.at' h.fst]
  have hlo:=h.lo
  have hat:=h.at'
  have hfst:=h.fst
  (have F:=ai @tmz (ai @hn (ai @Zb1 (ai @hlo (ai @hat (ai @Zak (ai @hfst (ai @ZaM (ai @hr0 (ai @hk (ai @Za0 @e))))))))));refine gG ?_;exact gT)
theorem ZmI (hg:SgnOk g) {op:Int} {i:Nat} {o:Opr} {d:Dcl} {k:Int} (h0:0<=op) (ho:g.ops[op.toNat]?=some o) (hd:o.decls[0]?=some d) (hk:d.args[argAt o i]?=some k):Con e0 209 [.one (.ptr (encX g mc)),.one (.lit (.int .i64 op)),.one (.lit (.int .i64 i))] [.one (.lit (.int .i64 (kd g.sorts k)))]:=by
 obtain ⟨d',hd',_,_,hk0⟩:=hg.first ho
 rw [hd] at hd'
 injection hd' with hd'
 subst hd'
 obtain ⟨k0,k1⟩:=hk0 k (Tac hk)
 have hkd:=ZfE hg.sorts k0 k1
 refine gI 131271 Tryz.func209 ?_
 unfold argAt at hk
 cases ha:o.assoc with
 | true =>
  rw [ha] at hk
  simp only [↓reduceIte] at hk
  (have F:=ai @Zb1 (ai @h0 (ai @ho (ai @Zak (ai @ha (ai @hd (ai @ZaM (ai @hk (ai @k0 (ai @hkd @Za0)))))))));refine gG ?_;exact gT)
 | false =>
  rw [ha] at hk
  simp only [Tam,↓reduceIte] at hk
  (have F:=ai @Zb1 (ai @h0 (ai @ho (ai @Zak (ai @ha (ai @hd (ai @ZaM (ai @hk (ai @k0 (ai @hkd @Za0)))))))));refine gG ?_;exact gT)
theorem Zp3 (hg:SgnOk g) {op:Int} {o:Opr} (h0:0<=op) (ho:g.ops[op.toNat]?=some o) (t:Tm):Con e0 210 [.one (.ptr (encX g mc)),.one (.lit (.int .i64 op)),.agg (Zah t)] [.one (.lit (.bool (decide (o.unit≠0∧t.op=o.unit - 1))))]:=by
 have hax:=hg.axs o (Tac ho)
 have hlo:=hax.lo
 have hhi:=hax.hi
 have hln:=hg.len
 have hw:IntKind.i64.wrap (o.unit - 1)=o.unit - 1:=Zc7 rfl om om
 refine gI 103 Tryz.func210 ?_
 by_cases hu:o.unit=0
 ·have e:decide (o.unit≠0∧t.op=o.unit - 1)=false:=by simp [hu]
  rw [e]
  (have F:=ai @Zb1 (ai @tmz (ai @h0 (ai @ho (ai @Zak @hu))));refine gG ?_;exact gT)
 ·have e:decide (o.unit≠0∧t.op=o.unit - 1)=decide (t.op=o.unit - 1):=by simp [hu]
  rw [e]
  (have F:=ai @Zb1 (ai @tmz (ai @h0 (ai @ho (ai @Zak (ai @hu @hw)))));refine gG ?_;exact gT)
theorem Zjs (hg:SgnOk g) {t:Tm} (hs:t.name.size<=maxLen):Con e0 183 [.one (.ptr (encX g mc)),.agg (Zah t)] [.one (.lit (.bool (Zf3 g t)))]:=by
 have hno:¬ Zhf g t->Zf3 g t=false:=fun h=>by simp [Zf3,h]
 refine gI 27 Tryz.func183 ?_
 (have F:=@tmz;refine gG ?_;clear F)
 by_cases h1:t.op=-1
 rotate_left
 ·have hf:=hno fun h=>h1 h.1
  (have F:=ai @tmz (ai @h1 @hf);refine gG ?_;exact gT)
 refine gB ?_
 (have F:=ai @tmz @h1;refine gC (Ze0 hs) ?_;clear F)
 by_cases h2:Za2 t.name=true
 rotate_left
 ·have hf:=hno fun h=>h2 h.2.1
  have h2':Za2 t.name=false:=by simpa using h2
  (have F:=ai @tmz @h2';refine gR ?_;clear F)
  (have F:=ai @tmz @hf;refine gG ?_;exact gT)
 (have F:=ai @tmz (ai @h2 @Zb1);refine gC (ZzN hg t.sort) ?_;clear F)
 by_cases h3:0<=t.sort∧t.sort < g.sorts.names.length
 rotate_left
 ·have hf:=hno fun h=>h3 ⟨h.2.2.1,h.2.2.2.1⟩
  have h3':decide (0<=t.sort∧t.sort < (g.sorts.names.length:Int))=false:=by simp only [decide_eq_false_iff_not];exact h3
  (have F:=ai @tmz @h3';refine gR ?_;clear F)
  (have F:=ai @tmz @hf;refine gG ?_;exact gT)
 have h3':decide (0<=t.sort∧t.sort < (g.sorts.names.length:Int))=true:=by simp only [decide_eq_true_eq];exact h3
 by_cases h4:t.args=[]
 ·have hT:Zf3 g t=true:=by simp only [Zf3,decide_eq_true_eq];exact ⟨h1,h2,h3.1,h3.2,h4⟩
  (have F:=ai @tmz (ai @h3' @h4);refine gR ?_;clear F)
  (have F:=ai @tmz @hT;refine gG ?_;exact gT)
 ·have hf:=hno fun h=>h4 h.2.2.2.2
  have h4':¬ ((t.args.length:Int)=0):=by
   intro h;apply h4;apply Tao;omega
  (have F:=ai @tmz (ai @h3' @h4');refine gR ?_;clear F)
  (have F:=ai @tmz @hf;refine gG ?_;exact gT)
end
theorem Zd2 {t:Tm}:okTm t ↔ I64 t.op∧t.name.size<=maxLen∧I64 t.sort∧Zbj t.args:=by cases t;simp only [okTm,Tm.op,Tm.name,Tm.sort,Tm.args]
theorem Zbd (t:Tm):sizeTm t=1+sizeTms t.args:=by cases t;simp only [sizeTm,Tm.args]
theorem Zp4 (t:Tm):depthTm t=1+depthTms t.args:=by cases t;simp only [depthTm,Tm.args]
theorem Zp5 {g:Sgn} {t:Tm} (h:t.op=-1):Zbp g t=Zf3 g t:=by
 unfold Zbp Zf3
 congr 1
 rw [ZbP]
 apply propext
 constructor
 ·rintro ⟨h1 | ⟨o,d,h1⟩,_⟩
  ·exact h1
  ·have:=h1.lo;omega
 ·intro h1
  exact ⟨.inl h1,fun a ha=>(by rw [h1.2.2.2.2] at ha;cases ha),.inl h⟩
theorem Zcc.app {g:Sgn} {t:Tm} (h:Zcc g t) (hop:t.op≠-1):∃ o d,AppOk g t o d:=by
 rcases h with h | h
 ·exact absurd h.1 hop
 ·exact h
theorem Zj7 {g:Sgn} (hg:SgnOk g) {i:Nat} {o:Opr} {d:Dcl} {n j:Nat} (ho:g.ops[i]?=some o) (hd:o.decls[0]?=some d) (nas:o.assoc=false->n=d.args.length) (hj:j < n):∃ k,d.args[argAt o j]?=some k:=by
 unfold argAt
 cases ha:o.assoc with
 | true =>
  have h2:=((hg.axs o (Tac ho)).two (.inl ha) d hd).1
  exact ⟨_,Taa (by simp only [↓reduceIte];omega)⟩
 | false=>exact ⟨_,Taa (by simp only [Tam,↓reduceIte];have:=nas ha;omega)⟩
section
variable {g:Sgn} {mc:C}
theorem Zh8 (hg:SgnOk g):∀ (n:Nat) (t:Tm),sizeTm t < n->okTm t->sizeTm t<=big->Con e0 129 [.one (.ptr (encX g mc)),.agg (Zah t)] [.one (.lit (.bool (Zbp g t)))]:=by
 intro n
 induction n with
 | zero=>intro t h;omega
 | succ n ih =>
  intro t hn hok hb
  have hno:¬ ZaD g t->Zbp g t=false:=ZgW
  obtain ⟨k1,k2,k3,k4⟩:=Zd2.1 hok
  have hsz:=Zbd t
  have hal:=Zby t.args
  unfold big at hb
  refine gI 43556142965880125627826793391928073259515 Tryz.func129 ?_
  by_cases h1:t.op=-1
  ·have e:=Zp5 (g:=g) h1
   rw [e]
   (have F:=ai @tmz @h1;refine gG ?_;clear F)
   refine gB ?_
   (have F:=ai @tmz @h1;refine gC (Zjs hg k2) ?_;clear F)
   (have F:=@tmz;refine gR ?_;clear F)
   (have F:=@tmz;refine gG ?_;exact gT)
  by_cases h2:t.op < 0
  ·have hf:=hno fun h=>by
    obtain ⟨o,d,h⟩:=h.node.app h1
    have:=h.lo;omega
   (have F:=ai @tmz (ai @h1 (ai @h2 @hf));refine gG ?_;exact gT)
  by_cases h3:(g.ops.length:Int)<=t.op
  ·have hf:=hno fun h=>by
    obtain ⟨o,d,h⟩:=h.node.app h1
    have:=(Tad.1 h.at').1;omega
   (have F:=ai @tmz (ai @h1 (ai @h2 (ai @h3 (ai @Zb1 @hf))));refine gG ?_;exact gT)
  by_cases h4:t.name=ByteArray.empty
  rotate_left
  ·have hf:=hno fun h=>by
    obtain ⟨o,d,h⟩:=h.node.app h1
    exact h4 h.nm
   (have F:=ai @tmz (ai @h1 (ai @h2 (ai @h3 (ai @Zb1 (ai @Zda (ai @h4 @hf))))));refine gG ?_;exact gT)
  by_cases h5:t.sort=0
  rotate_left
  ·have hf:=hno fun h=>by
    obtain ⟨o,d,h⟩:=h.node.app h1
    exact h5 h.so
   (have F:=ai @tmz (ai @h1 (ai @h2 (ai @h3 (ai @Zb1 (ai @Zda (ai @h4 (ai @h5 @hf)))))));refine gG ?_;exact gT)
  have h0:0<=t.op:=by omega
  obtain ⟨o,ho⟩:∃ o,g.ops[t.op.toNat]?=some o:=⟨_,Taa om⟩
  obtain ⟨d,hd,hr0,hr1,hargs⟩:=hg.first ho
  have hgt:ZaD g t->AppOk g t o d:=fun h=>by
   obtain ⟨o',d',h⟩:=h.node.app h1
   have e1:=h.at'
   rw [ho] at e1
   injection e1 with e1
   subst e1
   have e2:=h.fst
   rw [hd] at e2
   injection e2 with e2
   subst e2
   exact h
  by_cases hW:(o.assoc=true->2<=t.args.length∧t.args.length<=7)∧(o.assoc=false->t.args.length=d.args.length)
  rotate_left
  ·have hf:=hno fun h=>hW ⟨(hgt h).asc,(hgt h).nas⟩
   cases ha:o.assoc with
   | true =>
    by_cases c1:t.args.length < 2
    ·have c1':(t.args.length:Int) < 2:=by omega
     (have F:=ai @tmz (ai @h1 (ai @h2 (ai @h3 (ai @Zb1 (ai @Zda (ai @h4 (ai @h5 (ai @h0 (ai @ho (ai @Zak (ai @ha (ai @c1' @hf))))))))))));refine gG ?_;exact gT)
    ·have c1':¬ ((t.args.length:Int) < 2):=by omega
     have c2:(7:Int) < (t.args.length:Int):=by
      by_cases c2:t.args.length<=7
      ·exact absurd ⟨fun _=>⟨by omega,c2⟩,fun h=>by rw [ha] at h;cases h⟩ hW
      ·omega
     (have F:=ai @tmz (ai @h1 (ai @h2 (ai @h3 (ai @Zb1 (ai @Zda (ai @h4 (ai @h5 (ai @h0 (ai @ho (ai @Zak (ai @ha (ai @c1' (ai @c2 @hf)))))))))))));refine gG ?_;exact gT)
   | false =>
    have c3:¬ ((t.args.length:Int)=(d.args.length:Int)):=fun c=>hW ⟨fun h=>(by rw [ha] at h;cases h),fun _=>by omega⟩
    (have F:=ai @tmz (ai @h1 (ai @h2 (ai @h3 (ai @Zb1 (ai @Zda (ai @h4 (ai @h5 (ai @h0 (ai @ho (ai @Zak (ai @ha (ai @hd (ai @ZaM (ai @c3 @hf))))))))))))));refine gG ?_;exact gT)
  have hA:AppOk g t o d:=⟨h0,ho,hd,h4,h5,hW.1,hW.2⟩
  (have F:=ai @tmz (ai @h1 (ai @h2 (ai @h3 (ai @Zb1 (ai @Zda (ai @h4 (ai @h5 (ai @h0 (ai @ho @Zak)))))))));refine gG ?_;clear F)
  refine gM (ι:=Unit) [75] [] (fun u=>[(75,A.d (.one (.lit (.bool false))))]) (fun u=>[]) (fun u=>True) ?_ (fun u hu=>Exists.intro _ (ai (Wk.refl _) ?_))
  ·cases ha:o.assoc with
   | true =>
    have c:=hW.1 ha
    have c1':¬ ((t.args.length:Int) < 2):=by omega
    have c2:¬ ((7:Int) < (t.args.length:Int)):=by omega
    (have F:=ai @tmz (ai @Zak (ai @ha (ai @c1' @c2)));refine gG ?_;exact ⟨(),trivial,gw,gw⟩)
   | false =>
    have c3:((t.args.length:Int)=(d.args.length:Int)):=by have:=hW.2 ha;omega
    (have F:=ai @tmz (ai @Zak (ai @ha (ai @hd (ai @ZaM @c3))));refine gG ?_;exact ⟨(),trivial,gw,gw⟩)
  (have F:=@tmz;refine gG ?_;clear F)
  (have F:=@e0P;refine gL (ι:=Nat) [4,7,8,79,80,135] [] (fun i=>[(79,A.d (.one (.lit (.int .i64 i))))]) (fun i=>[]) (fun i=>i<=t.args.length∧∀ (j:Nat) a,j < i->t.args[j]?=some a->ZaD g a∧ArgOk g t.op o d t.args j a) (fun i=>t.args.length - i) (0) (⟨by omega,fun j a h=>absurd h om⟩) (fun i hi=>?_);clear F)
  obtain ⟨hil,hall⟩:=hi
  by_cases hl:i < t.args.length
  rotate_left
  ·have hl':¬ ((i:Int) < (t.args.length:Int)):=by omega
   have hT:=Zef (ZbP.2 ⟨.inr ⟨o,d,hA⟩,fun a ha=>by
     obtain ⟨j,hj⟩:=Tbh ha
     exact (hall j a (by have:=(Tad.1 hj).1;omega) hj).1,.inr fun o' d' ho' hd' j a hj=>by
     rw [ho] at ho'
     injection ho' with ho'
     subst ho'
     rw [hd] at hd'
     injection hd' with hd'
     subst hd'
     exact (hall j a (by have:=(Tad.1 hj).1;omega) hj).2⟩)
   (have F:=ai @hl' @hT;refine gG ?_;exact gT)
  have hl':(i:Int) < (t.args.length:Int):=by omega
  obtain ⟨a,ha⟩:∃ a,t.args[i]?=some a:=⟨_,Taa hl⟩
  have hm:=Tac ha
  have hsa:=Zbx hm
  have hw1:=Zap (k:=i) om
  have hnoA:¬ ArgOk g t.op o d t.args i a->Zbp g t=false:=fun h=>hno fun hF=>by
   obtain ⟨_,_,h3⟩:=ZbP.1 hF
   rcases h3 with h3 | h3
   ·exact h1 h3
   ·exact h (h3 o d ho hd i a ha)
  obtain ⟨k,hk⟩:=Zj7 hg ho hd hA.nas hl
  (have F:=ai @hl' (ai @tmz @ha);refine gG ?_;clear F)
  refine gB ?_
  (have F:=@tmz;refine gC (ih a om (k4.mem hm) (by unfold big;omega)) ?_;clear F)
  by_cases hfa:Zbp g a=true
  rotate_left
  ·have hf:=hno fun h=>hfa (Zef ((ZbP.1 h).2.1 a hm))
   have hfa':Zbp g a=false:=by simpa using hfa
   (have F:=ai @tmz @hfa';refine gR ?_;clear F)
   (have F:=@hf;refine gG ?_;exact gT)
  have hFa:=ZiQ.1 hfa
  (have F:=ai @tmz @hfa;refine gC (Zp2 hg hFa.node) ?_;clear F)
  (have F:=@tmz;refine gC (ZmI hg h0 ho hd hk) ?_;clear F)
  by_cases hkd:Zcd g a=((kd g.sorts k:Nat):Int)
  rotate_left
  ·have hf:=hnoA fun h=>hkd (h.kind k hk)
   (have F:=ai @tmz @hkd;refine gR ?_;clear F)
   (have F:=@hf;refine gG ?_;exact gT)
  by_cases hN:o.assoc=true∧a.op=t.op
  ·have hf:=hnoA fun h=>h.nest hN.1 hN.2
   obtain ⟨hN1,hN2⟩:=hN
   (have F:=ai @tmz (ai @hkd (ai @Zak (ai @hN1 @hN2)));refine gR ?_;clear F)
   (have F:=@hf;refine gG ?_;exact gT)
  have hne:o.assoc=true->¬ a.op=t.op:=fun h1 h2=>hN ⟨h1,h2⟩
  have cU:=Zp3 (mc:=mc) hg h0 ho a
  generalize hU:decide (o.unit≠0∧a.op=o.unit - 1)=U at cU
  have hnext:(U=false)->(o.comm=true->∀ (j:Nat) p,i=j+1->t.args[j]?=some p->Zas p a<=0)->i+1<=t.args.length∧∀ (j:Nat) a,j < i+1->t.args[j]?=some a->ZaD g a∧ArgOk g t.op o d t.args j a:=fun hU' hc=>⟨by omega,fun j a' hj ha'=>by
   by_cases e:j=i
   ·subst e
    rw [ha] at ha'
    injection ha' with ha'
    subst ha'
    refine ⟨hFa,fun k' hk'=>?_,fun h1 h2=>hN ⟨h1,h2⟩,fun h1 h2=>?_,hc⟩
    ·rw [hk] at hk'
     injection hk' with hk'
     subst hk'
     exact hkd
    ·rw [hU'] at hU
     simp only [decide_eq_false_iff_not] at hU
     exact hU ⟨h1,h2⟩
   ·exact hall j a' om ha'⟩
  rcases Bool.eq_false_or_eq_true o.assoc with hac | hac
  all_goals (
   (have F:=ai @tmz (ai @hkd (ai @Zak (ai @hac @hne)));refine gC (cU) ?_;clear F)
   rcases Bool.eq_false_or_eq_true U with hu | hu
   ·have hf:=hnoA fun h=>by
     rw [hu] at hU
     simp only [decide_eq_true_eq] at hU
     exact h.unit hU.1 hU.2
    (have F:=ai @tmz @hu;refine gR ?_;clear F)
    (have F:=@hf;refine gG ?_;exact gT)
   rcases Bool.eq_false_or_eq_true o.comm with hcm | hcm
   rotate_left
   ·have hq:=hnext hu (fun h=>by rw [hcm] at h;cases h)
    (have F:=ai @tmz (ai @hu (ai @Zak @hcm));refine gR ?_;clear F)
    (have F:=ai @hw1 (ai @tmz (ai @Zak (ai @hcm @hac)));refine gG ?_;exact ⟨i+1,hq,gw,gw,by omega⟩)
   rcases Nat.eq_zero_or_pos i with hi0 | hi0
   ·have hq:=hnext hu (fun _ j p h=>by omega)
    have hi0':¬ ((0:Int) < (i:Int)):=by omega
    (have F:=ai @tmz (ai @hu (ai @Zak (ai @hcm @hi0')));refine gR ?_;clear F)
    (have F:=ai @hw1 (ai @tmz (ai @Zak (ai @hcm @hac)));refine gG ?_;exact ⟨i+1,hq,gw,gw,by omega⟩)
   obtain ⟨j,rfl⟩:∃ j,i=j+1:=⟨i - 1,by omega⟩
   obtain ⟨p,hp⟩:∃ p,t.args[j]?=some p:=⟨_,Taa om⟩
   have cC:=ZmE (k4.mem (Tac hp)) (k4.mem hm)
   have hgt0:(0:Int) < ((j+1:Nat):Int):=by omega
   have hsub:IntKind.i64.wrap (((j+1:Nat):Int) - 1)=(j:Int):=Zc7 om om om
   (have F:=ai @tmz (ai @hu (ai @Zak (ai @hcm (ai @hgt0 (ai @hsub @hp)))));refine gC (cC) ?_;clear F)
   by_cases hc:0 < Zas p a
   ·have hf:=hnoA fun h=>by have:=h.ord hcm j p rfl hp;omega
    (have F:=ai @tmz @hc;refine gR ?_;clear F)
    (have F:=@hf;refine gG ?_;exact gT)
   ·have hq:=hnext hu (fun _ j' p' h hp'=>by
     have:j'=j:=by omega
     subst this
     rw [hp] at hp'
     injection hp' with hp'
     subst hp'
     omega)
    (have F:=ai @tmz @hc;refine gR ?_;clear F)
    (have F:=ai @hw1 (ai @tmz (ai @Zak (ai @hcm @hac)));refine gG ?_;exact ⟨j+1+1,hq,gw,gw,by omega⟩))
theorem ZlU (hg:SgnOk g) {t:Tm} (hok:okTm t) (hb:sizeTm t<=big):Con e0 129 [.one (.ptr (encX g mc)),.agg (Zah t)] [.one (.lit (.bool (Zbp g t)))]:=Zh8 hg _ t (Tan _) hok hb
structure TermOk (g:Sgn) (t:Tm):Prop where
 size:sizeTm t<=60
 depth:depthTm t<=20
 form:ZaD g t
open Classical in
noncomputable def Zb2 (g:Sgn) (t:Tm):Bool:=decide (TermOk g t)
theorem ZgX {g:Sgn} {t:Tm} (h:¬ TermOk g t):Zb2 g t=false:=by simp [Zb2,h]
theorem ZeF {g:Sgn} {t:Tm}:Zb2 g t=true ↔ TermOk g t:=by simp [Zb2]
theorem ZhG {g:Sgn} {t:Tm} (h1:sizeTm t<=60) (h2:depthTm t<=20):Zbp g t=Zb2 g t:=by
 unfold Zbp Zb2
 congr 1
 exact propext ⟨fun h=>⟨h1,h2,h⟩,fun h=>h.form⟩
theorem ZhH (hg:SgnOk g) {t:Tm} (hok:okTm t) (hb:sizeTm t<=big):Con e0 58 [.one (.ptr (encX g mc)),.agg (Zah t)] [.one (.lit (.bool (Zb2 g t)))]:=by
 have hno:¬ TermOk g t->Zb2 g t=false:=ZgX
 refine gI 27 Tryz.func58 ?_
 (have F:=@tmz;refine gG ?_;clear F)
 refine gB ?_
 (have F:=@tmz;refine gC (ZlQ hb) ?_;clear F)
 by_cases h1:sizeTm t<=60
 rotate_left
 ·have h1':¬ ((sizeTm t:Int)<=60):=by omega
  have hf:=hno fun h=>h1 h.size
  (have F:=ai @tmz @h1';refine gR ?_;clear F)
  (have F:=@hf;refine gG ?_;exact gT)
 have h1':((sizeTm t:Int)<=60):=by omega
 (have F:=ai @tmz @h1';refine gC (Zky hb) ?_;clear F)
 by_cases h2:depthTm t<=20
 rotate_left
 ·have h2':¬ ((depthTm t:Int)<=20):=by omega
  have hf:=hno fun h=>h2 h.depth
  (have F:=ai @tmz @h2';refine gR ?_;clear F)
  (have F:=@hf;refine gG ?_;exact gT)
 have h2':((depthTm t:Int)<=20):=by omega
 (have F:=ai @tmz @h2';refine gC (ZlU hg hok hb) ?_;clear F)
 have e:=ZhG (g:=g) h1 h2
 (have F:=@tmz;refine gR ?_;clear F)
 (have F:=@e;refine gG ?_;exact gT)
end
mutual
theorem ZiR:∀ {a b:Tm},Zas a b=0->a=b
 | .mk o n s x,.mk o' n' s' x',h=>by
  simp only [Zas,Zaw] at h
  split at h
  ·rename_i h1
   split at h
   ·rename_i h2
    split at h
    ·rename_i h3
     split at h
     ·rename_i h4
      rw [Zb9.1 h1,Zd8.1 h2,Zb9.1 h3,ZhI h4]
     ·contradiction
    ·contradiction
   ·contradiction
  ·contradiction
theorem ZhI:∀ {a b:List Tm},Zaz a b=0->a=b
 | [],[],_=>rfl
 | [],_::_,h=>by simp [Zaz] at h
 | _::_,[],h=>by simp [Zaz] at h
 | x::xs,y::ys,h=>by
  simp only [Zaz,Zaw] at h
  split at h
  ·rename_i h1
   split at h
   ·rename_i h2
    rw [ZiR h1,ZhI h2]
   ·contradiction
  ·contradiction
end
mutual
theorem ZdQ:∀ (a:Tm),Zas a a=0
 | .mk o n s x=>by simp only [Zas,Zaw,Zb9.2 (rfl:o=o),Zb9.2 (rfl:s=s),Zd8.2 (rfl:n=n),ZhJ x,if_true]
theorem ZhJ:∀ (a:List Tm),Zaz a a=0
 | []=>rfl
 | x::xs=>by simp only [Zaz,Zaw,ZdQ x,ZhJ xs,if_true]
end
theorem Zbq {a b:Tm}:Zas a b=0 ↔ a=b:=⟨ZiR,fun h=>h ▸ ZdQ a⟩
section
variable {g:Sgn}
theorem Zjt (hok:ZcI g) (hg:¬ SgnOk g):Con e0 56 [.agg (ZaA g)] [.one (.lit (.pointer none)),.one (.lit (.bool false))]:=by
 have hs:ZbM g=false:=Zea hg
 have c:=Zfs hok
 rw [hs,ZaA] at c
 refine gI 287 Tryz.func56 ?_
 (have F:=@Za7;refine gG ?_;clear F)
 refine gB ?_
 (have F:=@Za7;refine gC (c) ?_;clear F)
 (have F:=@Za7;refine gR ?_;clear F)
 (have F:=@Za7;refine gG ?_;exact gT)
def algR (g:Sgn) (r:List D):Prop:=∃ b:Nat,r=[.one (.ptr (encX g (.lit (.map (some b))))),.one (.lit (.bool true))]
theorem ZmJ (hok:ZcI g) (hg:SgnOk g):ConE e0 56 [.agg (ZaA g)] (algR g):=by
 have hs:ZbM g=true:=ZdM hg
 have c:=Zfs hok
 rw [hs,ZaA] at c
 have c2:=ZgV hok.1 hg.sorts
 rw [Za1,Zc1] at c2
 refine gIE 287 Tryz.func56 ?_
 (have F:=@Za7;refine gG ?_;clear F)
 refine gB ?_
 (have F:=@Za7;refine gC (c) ?_;clear F)
 (have F:=@Za7;refine gR ?_;clear F)
 (have F:=@Za7;refine gG ?_;clear F)
 refine gB ?_
 (have F:=@Za7;refine gC (c2) ?_;clear F)
 (have F:=@Za7;refine gR ?_;clear F)
 (have F:=@Za7;refine gG ?_;clear F)
 refine gB ?_
 refine Zu5 (by simp only [pz,↓reduceIte,Nat.reduceEqDiff,Nat.reduceAdd,Nat.reduceSub,Nat.reduceMul,Nat.reduceLeDiff,Nat.reduceBEq,Tam,decide_true,decide_false,Int.reduceLE,Int.reduceToNat,Int.reduceLT,Int.reduceEq,eq_self,Nat.reduceShiftRight,Nat.reduceAnd,Nat.reduceBneDiff,ZqR];exact rfl) fun b=>?_
 (have F:=@Zg9;refine gR ?_;clear F)
 refine ZdZ (ZAt [19] _ ⟨b,rfl⟩ (by exact snv) ?_)
 simp [ZbL,resA,ZaU,gs,encX,nR]
theorem Zdb {a b:Tm} (ha:okTm a) (hb:okTm b):Con e0 118 [.agg (Zah a),.agg (Zah b)] [.one (.lit (.bool (decide (Zas a b=0))))]:=by
 refine gI 31 Tryz.func118 ?_
 (have F:=@tmz;refine gG ?_;clear F)
 refine gB ?_
 (have F:=@tmz;refine gC (ZhD ha hb) ?_;clear F)
 (have F:=@tmz;refine gR ?_;clear F)
 (have F:=@tmz;refine gG ?_;exact gT)
theorem Zp6 (hok:ZcI g) (hg:SgnOk g) {t:Tm} (ht:Zcc g t):Con e0 216 [.agg (ZaA g),.agg (Zah t)] [.one (.lit (.int .i64 (Zcd g t)))]:=by
 have c2:=Zec hg.sorts
 rw [Za1] at c2
 refine gI 2111 Tryz.func216 ?_
 (have F:=ai @tmz @Za7;refine gG ?_;clear F)
 refine gB ?_
 (have F:=@Za7;refine gC (c2) ?_;clear F)
 (have F:=@Za7;refine gR ?_;clear F)
 rcases ht with ⟨h1,h2,h3,h4,h5⟩ | ⟨o,d,h⟩
 ·have hk:=ZfE hg.sorts h3 h4
  have e:Zcd g t=kd g.sorts t.sort:=by simp [Zcd,h1]
  (have F:=ai @tmz (ai @h1 (ai @h3 (ai @hk (ai @Za0 @e))));refine gG ?_;exact gT)
 ·have hn:=h.op
  obtain ⟨d',hd',hr0,hr1,_⟩:=hg.first h.at'
  rw [h.fst] at hd'
  injection hd' with hd'
  subst hd'
  have hk:=ZfE hg.sorts hr0 hr1
  have e:Zcd g t=kd g.sorts d.res:=by simp [Zcd,h.op,ZlT h.at' h.fst]
  have hlo:=h.lo
  have hat:=h.at'
  have hfst:=h.fst
  (have F:=ai @tmz (ai @hn (ai @hlo (ai @hat (ai @Zak (ai @hfst (ai @ZaM (ai @hr0 (ai @hk (ai @Za0 @e)))))))));refine gG ?_;exact gT)
def Zdl (o:Opr):Tm:=.mk (if o.unit=0 then 0 else o.unit - 1) .empty 0 []
theorem Zp7 (hg:SgnOk g) {op:Int} {o:Opr} (h0:0<=op) (ho:g.ops[op.toNat]?=some o):Con e0 170 [.agg (ZaA g),.one (.lit (.int .i64 op))] [.agg (Zah (Zdl o)),.one (.lit (.bool (!decide (o.unit=0))))]:=by
 have hax:=hg.axs o (Tac ho)
 have hlo:=hax.lo
 have hhi:=hax.hi
 have hln:=hg.len
 have hw:IntKind.i64.wrap (o.unit - 1)=o.unit - 1:=Zc7 rfl om om
 refine gI 4151 Tryz.func170 ?_
 by_cases hu:o.unit=0
 ·(have F:=ai @Za7 (ai @h0 (ai @ho (ai @Zak @hu)));refine gG ?_;clear F)
  refine ZdZ (Zis ?_)
  simp [ZbL,resA,ZaU,gs,hu,Zdl,Zah,Zaf,gm,ptrA,varA,e0P,pz,tt_0,tt_1]
 ·(have F:=ai @Za7 (ai @h0 (ai @ho (ai @Zak (ai @hu @hw))));refine gG ?_;clear F)
  refine ZdZ (Zis ?_)
  simp [ZbL,resA,ZaU,gs,hu,Zdl,Zah,Zaf,gm,ptrA,varA,e0P,pz]
end
def Tri (a b c:Int):Prop:=((a<=0->b<=0->c<=0)∧(a < 0->b<=0->c < 0)∧(a<=0->b < 0->c < 0))∧((0<=a->0<=b->0<=c)∧(0 < a->0<=b->0 < c)∧(0<=a->0 < b->0 < c))
theorem ZiS (p q:Int):Zaw [p,q]=if p=0 then q else p:=by
 simp only [Zaw]
 split
 ·split <;> simp_all
 ·rfl
theorem Zua (p q r s:Int):Zaw [p,q,r,s]=Zaw [p,Zaw [q,Zaw [r,s]]]:=by
 simp only [ZiS,Zaw]
 by_cases h1:p=0 <;> by_cases h2:q=0 <;> by_cases h3:r=0 <;> by_cases h4:s=0 <;> simp [h1,h2,h3,h4]
theorem Tri.lex {a b c a' b' c':Int} (h:Tri a b c) (h':Tri a' b' c'):Tri (Zaw [a,a']) (Zaw [b,b']) (Zaw [c,c']):=by
 simp only [ZiS]
 unfold Tri at *
 by_cases h1:a=0
 ·by_cases h2:b=0
  ·by_cases h3:c=0
   ·simp only [h1,h2,h3,if_true];exact h'
   ·omega
  ·by_cases h3:c=0
   ·omega
   ·simp only [h1,h2,h3,if_true,if_false];omega
 ·by_cases h2:b=0
  ·by_cases h3:c=0
   ·omega
   ·simp only [h1,h2,h3,if_true,if_false];omega
  ·by_cases h3:c=0
   ·simp only [h1,h2,h3,if_true,if_false];omega
   ·simp only [h1,h2,h3,if_false];omega
theorem Zdm (p q:Int):Zaw [-p,-q]=-Zaw [p,q]:=by
 simp only [ZiS]
 by_cases h:p=0
 ·simp [h]
 ·have:¬ -p=0:=by omega
  simp [h,this]
theorem Zf4 (a b c:Int):Tri (ZaI a b) (ZaI b c) (ZaI a c):=by
 unfold Tri ZaI
 by_cases h1:a < b <;> by_cases h2:b < c <;> by_cases h3:a < c <;> by_cases h4:b < a <;> by_cases h5:c < b <;> by_cases h6:c < a <;> simp only [h1,h2,h3,h4,h5,h6,if_true,if_false] <;> omega
theorem Zf5 (a b:Int):ZaI b a=-ZaI a b:=by
 unfold ZaI
 by_cases h1:a < b <;> by_cases h2:b < a <;> simp only [h1,h2,if_true,if_false] <;> omega
theorem Zft (x y:UInt8) (xs ys:List UInt8):Lib.compareBytes (x::xs) (y::ys)=Zaw [ZaI x.toNat y.toNat,Lib.compareBytes xs ys]:=by
 rw [ZiS]
 simp only [Lib.compareBytes,ZaI,UInt8.lt_iff_toNat_lt]
 by_cases h1:x.toNat < y.toNat
 ·have:((x.toNat:Int) < y.toNat):=by omega
  simp [h1,this]
 ·have h1':¬ ((x.toNat:Int) < y.toNat):=by omega
  by_cases h2:y.toNat < x.toNat
  ·have:((y.toNat:Int) < x.toNat):=by omega
   simp [h1,h2,h1',this]
  ·have:¬ ((y.toNat:Int) < x.toNat):=by omega
   simp [h1,h2,h1',this]
theorem Zj8:∀ (a b c:List UInt8),Tri (Lib.compareBytes a b) (Lib.compareBytes b c) (Lib.compareBytes a c)
 | [],[],[]=>by simp [Lib.compareBytes,Tri]
 | [],[],_::_=>by simp [Lib.compareBytes,Tri]
 | [],_::_,[]=>by simp [Lib.compareBytes,Tri]
 | [],y::ys,z::zs=>by
  have:Lib.compareBytes [] (y::ys)=-1:=rfl
  have h2:Lib.compareBytes [] (z::zs)=-1:=rfl
  rw [this,h2];unfold Tri;omega
 | _::_,[],[]=>by simp [Lib.compareBytes,Tri]
 | x::xs,[],z::zs=>by
  have:Lib.compareBytes (x::xs) []=1:=rfl
  have h2:Lib.compareBytes [] (z::zs)=-1:=rfl
  rw [this,h2];unfold Tri;omega
 | x::xs,y::ys,[]=>by
  have:Lib.compareBytes (x::xs) []=1:=rfl
  have h2:Lib.compareBytes (y::ys) []=1:=rfl
  rw [this,h2];unfold Tri;omega
 | x::xs,y::ys,z::zs=>by
  simp only [Zft]
  exact (Zf4 _ _ _).lex (Zj8 xs ys zs)
theorem Zj9:∀ (a b:List UInt8),Lib.compareBytes b a=-Lib.compareBytes a b
 | [],[]=>rfl
 | [],_::_=>rfl
 | _::_,[]=>rfl
 | x::xs,y::ys=>by rw [Zft,Zft,Zf5,Zj9 xs ys,Zdm]
mutual
theorem Zka:∀ (a b:Tm),Zas b a=-Zas a b
 | .mk o n s a,.mk o' n' s' a'=>by
  simp only [Zas,Zua]
  rw [Zf5 o o',Zf5 s s',ZiT a a',show Zbf n' n=-Zbf n n' from Zj9 _ _,Zdm,Zdm,Zdm]
theorem ZiT:∀ (a b:List Tm),Zaz b a=-Zaz a b
 | [],[]=>by simp [Zaz]
 | [],_::_=>by simp [Zaz]
 | _::_,[]=>by simp [Zaz]
 | x::xs,y::ys=>by
  simp only [Zaz]
  rw [Zka x y,ZiT xs ys,Zdm]
end
mutual
theorem Zkb:∀ (a b c:Tm),Tri (Zas a b) (Zas b c) (Zas a c)
 | .mk o n s a,.mk o' n' s' a',.mk o'' n'' s'' a''=>by
  simp only [Zas,Zua]
  exact (Zf4 _ _ _).lex ((Zj8 _ _ _).lex ((Zf4 _ _ _).lex (ZiU a a' a'')))
theorem ZiU:∀ (a b c:List Tm),Tri (Zaz a b) (Zaz b c) (Zaz a c)
 | [],[],[]=>by simp [Zaz,Tri]
 | [],[],_::_=>by simp [Zaz,Tri]
 | [],_::_,[]=>by simp [Zaz,Tri]
 | [],_::_,_::_=>by simp only [Zaz];unfold Tri;omega
 | _::_,[],[]=>by simp [Zaz,Tri]
 | _::_,[],_::_=>by simp only [Zaz];unfold Tri;omega
 | _::_,_::_,[]=>by simp only [Zaz];unfold Tri;omega
 | x::xs,y::ys,z::zs=>by
  simp only [Zaz]
  exact (Zkb x y z).lex (ZiU xs ys zs)
end
theorem ZfF {a b c:Tm} (h1:Zas a b<=0) (h2:Zas b c<=0):Zas a c<=0:=(Zkb a b c).1.1 h1 h2
def Asc (l:List Tm):Prop:=l.Pairwise fun a b=>Zas a b < 0
theorem Asc.ext {l l':List Tm} (h:Asc l) (h':Asc l') (hm:∀ t,t∈l ↔ t∈l'):l=l':=by
 induction l generalizing l' with
 | nil =>
  cases l' with
  | nil=>rfl
  | cons y ys=>exact absurd ((hm y).2 (by simp)) (by simp)
 | cons x xs ih =>
  cases l' with
  | nil=>exact absurd ((hm x).1 (by simp)) (by simp)
  | cons y ys =>
   have h1:=List.pairwise_cons.1 h
   have h2:=List.pairwise_cons.1 h'
   have e:x=y:=by
    rcases Tbd.1 ((hm x).1 (by simp)) with e | hx
    ·exact e
    ·rcases Tbd.1 ((hm y).2 (by simp)) with e | hy
     ·exact e.symm
     ·have a1:=h1.1 y hy
      have a2:=h2.1 x hx
      rw [Zka x y] at a2
      omega
   subst e
   refine congrArg (x::·) (ih h1.2 h2.2 fun t=>⟨fun ht=>?_,fun ht=>?_⟩)
   ·rcases Tbd.1 ((hm t).1 (Tal _ ht)) with e | h3
    ·subst e;have:=h1.1 t ht;rw [ZdQ] at this;omega
    ·exact h3
   ·rcases Tbd.1 ((hm t).2 (Tal _ ht)) with e | h3
    ·subst e;have:=h2.1 t ht;rw [ZdQ] at this;omega
    ·exact h3
def Up (l:List Tm):Prop:=l.Pairwise fun a b=>Zas a b<=0
theorem ZhK (l:List Tm) (k:Nat):(Zaf l).take k=Zaf (l.take k):=by rw [ZbK,ZbK,List.map_take]
theorem ZhL (l:List Tm) (k:Nat):(Zaf l).drop k=Zaf (l.drop k):=by rw [ZbK,ZbK,List.map_drop]
theorem Zp8 (a b:List Tm):Zaf (a++b)=Zaf a++Zaf b:=by rw [ZbK,ZbK,ZbK,Tbr]
theorem ZdR (a b:Tm):Con e0 104 [.agg (Zah a),.agg (Zah b)] [.one (.lit (.bool (decide (Zas a b=0))))]:=by
 refine gI (ts:=[.slot 4]) 31 Tryz.func104 ?_
 (have F:=@tmz;refine gG ?_;clear F)
 refine gB ?_
 (have F:=@tmz;refine gC (ZAu (Zvi a b)) ?_;clear F)
 (have F:=@tmz;refine gR ?_;clear F)
 (have F:=@tmz;refine gG ?_;exact gTd)
section
variable {w:World} {S:Nat->Prop}
theorem Zp9 {rows:List (List C)} {ety sz cap l h:Nat} {a:Option Addr} (hb:ZaG w S ety sz rows (.slice a rows.length cap)) (hl:l<=h∧h<=rows.length):∃ (b:Option Addr) (c:Nat) (news:List Value),sliced a l h cap sz=.slice b ((rows.take h).drop l).length c∧Zaa w S ((rows.take h).drop l).flatten news∧∀ (P:Program) (w':World),(∀ p,w'.cell? p=w.cell? p)->(Builtin.firstCells sz ((rows.take h).drop l).length (sliced a l h cap sz)).run P w'=.ok news.toArray w':=by
 have hln:((rows.take h).drop l).length=h - l:=by rw [List.length_drop,Tav];omega
 obtain ⟨h1,hrl,h3⟩:=hb
 by_cases he:h=l
 ·have e0:((rows.take h).drop l).length=0:=by omega
  have e1:(rows.take h).drop l=[]:=Tao e0
  refine ⟨_,_,[],by rw [hln];exact rfl,by rw [e1];simp [Zaa],fun P w' _=>?_⟩
  rw [e0]
  simp only [sliced,he,Nat.sub_self]
  split
  ·cases a <;> simp [Builtin.firstCells,loadCells,loadCellsFrom]
  ·cases a <;> simp [Builtin.firstCells,loadCells,loadCellsFrom]
 ·rcases h3 with ⟨h4,p,h5⟩ | ⟨g,cap',cur,h4,h5,h6,h7,h8,h9,h10,h11,h12⟩
  ·rw [h4] at hl;simp only [Tak] at hl;omega
  ·injection h4 with e1 e2 e3
   subst e1 e3
   have hlc:¬ cap=l:=by omega
   have hval:sliced (some ⟨g,0,none⟩) l h cap sz=.slice (some ⟨g,l * sz,none⟩) (h - l) (cap - l):=by
    simp only [sliced,hlc,if_false,Option.map_some,Addr.add_at,Nat.zero_add]
   have hr:=Zai.sub hrl h12 l h
   rw [Nat.zero_add] at hr
   obtain ⟨news,q5,q6⟩:=hr.flat.vals
   have hsl:rowsLen sz ((rows.take h).drop l):=fun r hr=>hrl r (List.mem_of_mem_take (List.mem_of_mem_drop hr))
   rw [hval]
   refine ⟨_,_,news,by rw [hln],q5,fun P w' hw=>?_⟩
   exact run_firstCells_some w' sz _ _ _ _ news (by rw [q5.len,Zbi hsl]) (fun j u hj=>by rw [hw,Addr.add_at];exact q6 j u hj)
end
section
variable {e:Env} {K:St->Prop} {ds:List (Option Nat)} {os:List Oper} {s:List (Nat × A)} {m:List (Nat × Bk)}
end
section
variable {e:Env} {σ:St} {o:Oper} {K:St->Prop}
theorem Zub {t:TypeId} {x lo hi mx:Operand} (ho:o.op=.slice t x (some lo) (some hi) (some mx)) {k cap ety sz l h c:Nat} {a:Option Addr} {rows:List (List C)} (hx:nrm σ.m (evA σ.s x)=.buf k) (hm:gm σ.m k=some (.buf (some (a,cap)) ety sz rows)) (ht:ZaP e.P t=some sz)
  (hlo:evA σ.s lo=.d (.one (.lit (.int .i64 (l:Int))))) (hhi:evA σ.s hi=.d (.one (.lit (.int .i64 (h:Int))))) (hmx:evA σ.s mx=.d (.one (.lit (.int .i64 (c:Int))))) (hb:l<=h∧h<=c∧c<=rows.length) (hK:K ⟨setA σ.s o.dst (.d (.one (.lit (sliced a l h c sz)))),σ.m⟩):Zbc e o σ K:=by
 intro he U w0 S0 nt ac w Q hd ⟨S,L,h1⟩
 refine Oper.wp_mono (fun a' w' hs=>⟨_,hK,hs⟩) (Zez h1 hd (Zax fun w S L ρv hC hr=>?_))
 have hx':=ZbX hC (hr x (by simp [ho,Op.operands]))
 rw [hx] at hx'
 have hx':ρv x=L.v k:=hx'
 obtain ⟨hpl,_,_,hbuf⟩:=hC.own k _ hm
 have hv:L.v k=.slice a rows.length cap:=hpl (a,cap) rfl
 have hcap:rows.length<=cap:=by
  rcases hbuf with ⟨h4,_⟩ | ⟨g,cap',cur,h4,_,_,_,_,h5,_⟩
  ·rw [h4];exact Taj _
  ·rw [hv] at h4;injection h4 with _ _ h4;rw [h4];exact h5
 have hel:∃ ety i,e.P.underlying t=some (.slice ety)∧e.P.info? ety=some i∧i.size=sz:=by
  unfold ZaP at ht
  split at ht
  ·rename_i ety hu
   simp only [Tau] at ht
   obtain ⟨i,hi,hs⟩:=ht
   exact ⟨ety,i,hu,hi,hs⟩
  ·cases ht
 obtain ⟨el,i,hu,hi',hsz⟩:=hel
 have e1:=hr lo (by simp [ho,Op.operands])
 have e2:=hr hi (by simp [ho,Op.operands])
 have e3:=hr mx (by simp [ho,Op.operands])
 rw [hlo] at e1
 rw [hhi] at e2
 rw [hmx] at e3
 have e1:=ZaS e1
 have e2:=ZaS e2
 have e3:=ZaS e3
 refine ⟨sliced a l h c sz,?_,by simp [ARel,DRel,Rep]⟩
 have hbnd:(Instr.sliceBounds true rows.length cap (some (ρv lo)) (some (ρv hi)) (some (ρv mx))).run e.P w=.ok (l,h,c) w:=by
  have b1:(l:Int)<=(h:Int):=by omega
  have b2:(h:Int)<=(c:Int):=by omega
  have b3:(c:Int)<=(cap:Int):=by omega
  simp [Instr.sliceBounds,e1,e2,e3,Result.andThen,run_sliceBound,b1,b2,b3]
 simp only [execOp,ho,Sem.run_bind,hx',hv,Instr.sliceAt,Instr.slice,underlying,run_program,Result.andThen_ok,hu,Sem.run_pure,Option.map_some,hbnd,sizeOf,typeInfo,hi',hsz,sliced]
theorem Zuc {t:TypeId} {x lo hi:Operand} (ho:o.op=.slice t x (some lo) (some hi) none) {k n0 cap ety sz l h:Nat} {a:Option Addr} {rows:List (List C)} (hx:evA σ.s x=.d (.one (.lit (.slice a n0 cap)))) (hm:gm σ.m k=some (.buf (some (a,cap)) ety sz rows)) (ht:ZaP e.P t=some sz)
  (hlo:evA σ.s lo=.d (.one (.lit (.int .i64 (l:Int))))) (hhi:evA σ.s hi=.d (.one (.lit (.int .i64 (h:Int))))) (hb:l<=h∧h<=rows.length) (hK:K ⟨setA σ.s o.dst (.d (.one (.lit (sliced a l h cap sz)))),σ.m⟩):Zbc e o σ K:=by
 intro he U w0 S0 nt ac w Q hd ⟨S,L,h1⟩
 refine Oper.wp_mono (fun a' w' hs=>⟨_,hK,hs⟩) (Zez h1 hd (Zax fun w S L ρv hC hr=>?_))
 have hx':=hr x (by simp [ho,Op.operands])
 rw [hx] at hx'
 have hx':=ZaS hx'
 obtain ⟨hpl,_,_,hbuf⟩:=hC.own k _ hm
 have hv:L.v k=.slice a rows.length cap:=hpl (a,cap) rfl
 have hcap:rows.length<=cap:=by
  rcases hbuf with ⟨h4,_⟩ | ⟨g,cap',cur,h4,_,_,_,_,h5,_⟩
  ·rw [h4];exact Taj _
  ·rw [hv] at h4;injection h4 with _ _ h4;rw [h4];exact h5
 have hel:∃ ety i,e.P.underlying t=some (.slice ety)∧e.P.info? ety=some i∧i.size=sz:=by
  unfold ZaP at ht
  split at ht
  ·rename_i ety hu
   simp only [Tau] at ht
   obtain ⟨i,hi,hs⟩:=ht
   exact ⟨ety,i,hu,hi,hs⟩
  ·cases ht
 obtain ⟨el,i,hu,hi',hsz⟩:=hel
 have e1:=hr lo (by simp [ho,Op.operands])
 have e2:=hr hi (by simp [ho,Op.operands])
 rw [hlo] at e1
 rw [hhi] at e2
 have e1:=ZaS e1
 have e2:=ZaS e2
 refine ⟨sliced a l h cap sz,?_,by simp [ARel,DRel,Rep]⟩
 have hbnd:(Instr.sliceBounds true n0 cap (some (ρv lo)) (some (ρv hi)) none).run e.P w=.ok (l,h,cap) w:=by
  have b1:(l:Int)<=(h:Int):=by omega
  have b2:(h:Int)<=(cap:Int):=by omega
  simp [Instr.sliceBounds,e1,e2,Result.andThen,run_sliceBound,b1,b2]
 simp only [execOp,ho,Sem.run_bind,hx',Instr.sliceAt,Instr.slice,underlying,run_program,Result.andThen_ok,hu,Sem.run_pure,Option.map_some,Option.map_none,hbnd,sizeOf,typeInfo,hi',hsz,sliced]
theorem Zqa {x y:Operand} {t ety sz by' k d i j cap:Nat} {a0:Option Addr} {rows:List (List C)} (ho:o.op=.call ⟨.builtin .append,#[x,y],#[t,t]⟩) (hdd:o.dst=some d) (hb:ZaF e.P t=some (ety,sz,by'))
  (hx:evA σ.s x=.d (.one (.lit (.slice a0 i cap)))) (hy:evA σ.s y=.d (.one (.lit (sliced a0 j rows.length cap sz)))) (hm:gm σ.m k=some (.buf (some (a0,cap)) ety sz rows)) (hij:i < j∧j<=rows.length)
  (hK:K ⟨(d,.d (.one (.lit (.slice a0 (i+(rows.length - j)) cap))))::σ.s,(k,.buf (some (a0,cap)) ety sz (rows.take i++rows.drop j++rows.drop (i+(rows.length - j))))::remM k σ.m⟩):Zbc e o σ K:=by
 intro he U w0 S0 nt ac w Q hd ⟨S,L,h1⟩
 have hx':=h1.eval x
 rw [hx] at hx'
 have hx':=ZaS hx'
 have hy':=h1.eval y
 rw [hy] at hy'
 have hy':=ZaS hy'
 obtain ⟨hpl,hbj⟩:=h1.cls.own k _ hm
 have hv:L.v k=.slice a0 rows.length cap:=hpl (a0,cap) rfl
 rw [hv] at hbj
 obtain ⟨yb,yc,news,y1,y2,y3⟩:=Zp9 hbj (l:=j) (h:=rows.length) ⟨hij.2,Tai _⟩
 rw [Tap] at y1 y2 y3
 have hln:(rows.drop j).length=rows.length - j:=List.length_drop
 obtain ⟨q,z,hu,hi,hzz,hsz,hby,hzs,hs0,hb4⟩:=Zb8 hb
 obtain ⟨_,hrl,hbuf⟩:=hbj
 rcases hbuf with ⟨h4,_⟩ | ⟨g,cap',cur,h4,h6,hg1,hg2,hh0,h5,hcm,hcs,hrows⟩
 ·rw [h4] at hij;simp only [Tak] at hij;omega
 ·injection h4 with h7 _ h8
  subst h7 h8
  have hsl:rowsLen sz (rows.drop j):=fun r hr=>hrl r (List.mem_of_mem_drop hr)
  obtain ⟨w',hst,hsim⟩:=h1.storeRows he (l:=i) (g:=g) hm (by rw [hv];simp only [vblk];rw [if_neg om]) (by rw [hln];omega) hsl y2
  rw [hln] at hsim
  obtain ⟨S',L',hsim⟩:=hsim
  have hneed:i+(rows.length - j)<=cap:=by omega
  have hrun:(execOp ac.eval o).run e.P w=.ok (.value (.slice (some ⟨g,0,none⟩) (i+(rows.length - j)) cap)) w':=by
   have hlo:∀ w',(Builtin.lenOf (sliced (some ⟨g,0,none⟩) j rows.length cap sz)).run e.P w'=.ok (rows.length - j) w':=fun w'=>by rw [y1,hln];simp [Builtin.lenOf]
   have hf:=y3 e.P w (fun _=>rfl)
   rw [hln] at hf
   simp [execOp,ho,resolve,invoke,builtin,hx',hy',Builtin.append_,run_underlying hu,sizeOf,typeInfo,hi,hlo,hneed,hsz,hf,Addr.add_lit,hst,Result.andThen]
  unfold Oper.wp
  rw [hrun,Oper.upon_value]
  refine ⟨_,hK,S',L',?_⟩
  have:=hsim.put (α:=.d (.one (.lit (.slice (some ⟨g,0,none⟩) (i+(rows.length - j)) cap)))) (v:=.slice (some ⟨g,0,none⟩) (i+(rows.length - j)) cap) (by simp [ARel,DRel,Rep]) hd
  rw [hdd] at this ⊢
  exact this
end
theorem ZAA {e:Env} {K:St->Prop} {ds:List (Option Nat)} {os:List Oper} {d t ty cap ety sz:Nat} {p:String} {ed:Array Edge} {x lo hi mx:Operand} {s:List (Nat × A)} {m:List (Nat × Bk)} {a:Option Addr} {rows:List (List C)} (k l h c:Nat) (hb:l<=h∧h<=c∧c<=rows.length) (hK:Runs e ds 0 os ⟨(d,.d (.one (.lit (sliced a l h c sz))))::s,m⟩ K)
  (hx:nrm m (evA s x)=.buf k:=by exact sfx) (hm:gm m k=some (.buf (some (a,cap)) ety sz rows):=by exact snv) (ht:ZaP e.P t=some sz:=by exact snx)
  (hlo:evA s lo=.d (.one (.lit (.int .i64 (l:Int)))):=by exact sfx) (hhi:evA s hi=.d (.one (.lit (.int .i64 (h:Int)))):=by exact sfx) (hmx:evA s mx=.d (.one (.lit (.int .i64 (c:Int)))):=by exact sfx):Runs e ds 0 (⟨some d,.slice t x (some lo) (some hi) (some mx),ty,p,ed,none⟩::os) ⟨s,m⟩ K:=by
 simp only [Runs] at hK ⊢
 exact Zck rfl (Zub (o:=⟨some d,.slice t x (some lo) (some hi) (some mx),ty,p,ed,none⟩) rfl hx hm ht hlo hhi hmx hb (by simpa only [setA] using hK))
theorem ZAB {e:Env} {K:St->Prop} {ds:List (Option Nat)} {os:List Oper} {d t ty cap ety sz n0:Nat} {p:String} {ed:Array Edge} {x lo hi:Operand} {s:List (Nat × A)} {m:List (Nat × Bk)} {a:Option Addr} {rows:List (List C)} (k l h:Nat) (hb:l<=h∧h<=rows.length) (hK:Runs e ds 0 os ⟨(d,.d (.one (.lit (sliced a l h cap sz))))::s,m⟩ K)
  (hx:evA s x=.d (.one (.lit (.slice a n0 cap))):=by exact sfx) (hm:gm m k=some (.buf (some (a,cap)) ety sz rows):=by exact snv) (ht:ZaP e.P t=some sz:=by exact snx)
  (hlo:evA s lo=.d (.one (.lit (.int .i64 (l:Int)))):=by exact sfx) (hhi:evA s hi=.d (.one (.lit (.int .i64 (h:Int)))):=by exact sfx):Runs e ds 0 (⟨some d,.slice t x (some lo) (some hi) none,ty,p,ed,none⟩::os) ⟨s,m⟩ K:=by
 simp only [Runs] at hK ⊢
 exact Zck rfl (Zuc (o:=⟨some d,.slice t x (some lo) (some hi) none,ty,p,ed,none⟩) rfl hx hm ht hlo hhi hb (by simpa only [setA] using hK))
theorem gAin {e:Env} {K:St->Prop} {ds:List (Option Nat)} {os:List Oper} {d t ty ety by' sz i j cap:Nat} {p:String} {ed:Array Edge} {x y:Operand} {rows:List (List C)} {a0:Option Addr} {s:List (Nat × A)} {m m2:List (Nat × Bk)} (k:Nat) (hij:i < j∧j<=rows.length) (hK:Runs e ds 0 os ⟨(d,.d (.one (.lit (.slice a0 (i+(rows.length - j)) cap))))::s,(k,.buf (some (a0,cap)) ety sz (rows.take i++rows.drop j++rows.drop (i+(rows.length - j))))::m2⟩ K)
  (hb:ZaF e.P t=some (ety,sz,by'):=by exact sfx) (hx:evA s x=.d (.one (.lit (.slice a0 i cap))):=by exact sfx) (hy:evA s y=.d (.one (.lit (sliced a0 j rows.length cap sz))):=by exact snx) (hm:gm m k=some (.buf (some (a0,cap)) ety sz rows):=by exact snx)
  (hr:remM k m=m2:=by exact snv):Runs e ds 0 (⟨some d,.call ⟨.builtin .append,#[x,y],#[t,t]⟩,ty,p,ed,none⟩::os) ⟨s,m⟩ K:=by
 subst hr
 simp only [Runs] at hK ⊢
 exact Zck rfl (Zqa (o:=⟨some d,.call ⟨.builtin .append,#[x,y],#[t,t]⟩,ty,p,ed,none⟩) rfl rfl hb hx hy hm hij hK)
end Go.Proofs.YtcgacanpeaiabaaGreatDoor
namespace Go.Proofs.YtcgacanpeaiabaaGreatDoor
open Go.RowKit
open Classical in
noncomputable def cntT (x:Tm):List Tm->Nat
 | []=>0
 | y::l=>(if y=x then 1 else 0)+cntT x l
theorem Zcp {x:Tm}:∀ {l:List Tm},0 < cntT x l ↔ x∈l
 | []=>by simp [cntT]
 | y::l=>by
  simp only [cntT,Tbd]
  by_cases h:y=x
  ·subst h
   simp only [if_true]
   exact ⟨fun _=>.inl trivial,fun _=>by omega⟩
  ·simp only [if_neg h,Nat.zero_add,Zcp (l:=l)]
   exact ⟨.inr,fun h'=>h'.resolve_left fun e=>h e.symm⟩
section
variable (rk:Int->Int) (cm:Int->Bool)
inductive Gr:Tm->Tm->Prop
 | same {a t:Tm} (h:t∈a.args):Gr a t
 | sub {a b t:Tm} (h:t∈a.args) (hg:Gr t b):Gr a b
 | rank {a b:Tm} (ha:a.op≠-1) (hb:b.op≠-1) (hall:∀ u,u∈b.args->Gr a u) (hr:rk b.op < rk a.op):Gr a b
 | bag {a b:Tm} (ha:a.op≠-1) (he:a.op=b.op) (hc:cm a.op=true) (hall:∀ u,u∈b.args->Gr a u) (f:Tm->Tm) (hf:∀ y,cntT y a.args < cntT y b.args->cntT (f y) b.args < cntT (f y) a.args) (hg:∀ y,cntT y a.args < cntT y b.args->Gr (f y) y) (x:Tm) (hx:cntT x b.args < cntT x a.args):Gr a b
 | lex {a b:Tm} (ha:a.op≠-1) (he:a.op=b.op) (hc:cm a.op=false) (hall:∀ u,u∈b.args->Gr a u) (i:Nat) (x y:Tm) (hx:a.args[i]?=some x) (hy:b.args[i]?=some y) (hj:∀ j,j < i->a.args[j]?=b.args[j]?) (hg:Gr x y):Gr a b
variable {rk:Int->Int} {cm:Int->Bool}
def BagG (rk:Int->Int) (cm:Int->Bool) (l m:List Tm):Prop:=(∀ y,cntT y l < cntT y m->∃ x,cntT x m < cntT x l∧Gr rk cm x y)∧∃ x,cntT x m < cntT x l
def LexG (rk:Int->Int) (cm:Int->Bool) (l m:List Tm):Prop:=∃ (i:Nat) (x y:Tm),l[i]?=some x∧m[i]?=some y∧(∀ j,j < i->l[j]?=m[j]?)∧Gr rk cm x y
def ZAC (rk:Int->Int) (cm:Int->Bool) (a b:Tm):Prop:=a.op≠-1∧b.op≠-1∧(∀ u,u∈b.args->Gr rk cm a u)∧(rk b.op < rk a.op∨(a.op=b.op∧cm a.op=true∧BagG rk cm a.args b.args)∨(a.op=b.op∧cm a.op=false∧LexG rk cm a.args b.args))
theorem ZdS {a b:Tm}:Gr rk cm a b ↔ (∃ t,t∈a.args∧(t=b∨Gr rk cm t b))∨ZAC rk cm a b:=by
 constructor
 ·intro h
  cases h with
  | same h=>exact .inl ⟨_,h,.inl rfl⟩
  | sub h hg=>exact .inl ⟨_,h,.inr hg⟩
  | rank ha hb hall hr=>exact .inr ⟨ha,hb,hall,.inl hr⟩
  | bag ha he hc hall f hf hg x hx=>exact .inr ⟨ha,he ▸ ha,hall,.inr (.inl ⟨he,hc,fun y hy=>⟨f y,hf y hy,hg y hy⟩,x,hx⟩)⟩
  | lex ha he hc hall i x y hx hy hj hg=>exact .inr ⟨ha,he ▸ ha,hall,.inr (.inr ⟨he,hc,i,x,y,hx,hy,hj,hg⟩)⟩
 ·rintro (⟨t,ht,rfl | hg⟩ | ⟨ha,hb,hall,hr | ⟨he,hc,hf,x,hx⟩ | ⟨he,hc,i,x,y,hx,hy,hj,hg⟩⟩)
  ·exact .same ht
  ·exact .sub ht hg
  ·exact .rank ha hb hall hr
  ·refine .bag ha he hc hall (fun y=>if h:cntT y a.args < cntT y b.args then Classical.choose (hf y h) else y) (fun y h=>?_) (fun y h=>?_) x hx
   ·simp only [h,dite_true];exact (Classical.choose_spec (hf y h)).1
   ·simp only [h,dite_true];exact (Classical.choose_spec (hf y h)).2
  ·exact .lex ha he hc hall i x y hx hy hj hg
theorem ZaW {t a:Tm} (h:t∈a.args):sizeTm t < sizeTm a:=by
 have:=Zbx h
 rw [Zbd a];omega
theorem ZiV {p q:Tm->Bool}:∀ {E:List Tm},(∀ x,x∈E->p x=true->q x=true)->(∃ z,z∈E∧q z=true∧p z=false)->E.countP p < E.countP q
 | [],_,⟨z,hz,_⟩=>by cases hz
 | e::E,h1,⟨z,hz,hq,hp⟩=>by
  have hle:E.countP p<=E.countP q:=List.countP_mono_left fun x hx=>h1 x (Tal _ hx)
  rw [List.countP_cons,List.countP_cons]
  rcases Tbd.1 hz with rfl | hz
  ·rw [hq,hp];simp;omega
  ·have ih:=ZiV (p:=p) (q:=q) (E:=E) (fun x hx=>h1 x (Tal _ hx)) ⟨z,hz,hq,hp⟩
   have:=h1 e Tas
   cases h3:p e
   ·cases h4:q e <;> simp <;> omega
   ·rw [this h3];simp;omega
open Classical in
theorem Zud {R:Tm->Tm->Prop} {Q:Tm->Prop} {E:List Tm} (hE:∀ x,Q x->x∈E) (hir:∀ x,Q x->¬ R x x) (htr:∀ x y z,Q x->Q y->Q z->R x y->R y z->R x z):∀ (n:Nat) (x0:Tm),Q x0->E.countP (fun z=>decide (Q z∧R z x0)) < n->∃ x,Q x∧(x=x0∨R x x0)∧∀ z,Q z->¬ R z x
 | 0,x0,_,h=>by omega
 | n+1,x0,hq,h=>by
  by_cases hz:∃ z,Q z∧R z x0
  ·obtain ⟨z,hz1,hz2⟩:=hz
   have hlt:E.countP (fun y=>decide (Q y∧R y z)) < E.countP (fun y=>decide (Q y∧R y x0)):=by
    refine ZiV (fun x _ hx=>?_) ⟨z,hE z hz1,by simp [hz1,hz2],by simp [hir z hz1]⟩
    simp only [decide_eq_true_eq] at hx ⊢
    exact ⟨hx.1,htr x z x0 hx.1 hz1 hq hx.2 hz2⟩
   obtain ⟨x,h1,h2,h3⟩:=Zud hE hir htr n z hz1 om
   refine ⟨x,h1,.inr ?_,h3⟩
   rcases h2 with rfl | h2
   ·exact hz2
   ·exact htr x z x0 h1 hz1 hq h2 hz2
  ·exact ⟨x0,hq,.inl rfl,fun z h1 h2=>hz ⟨z,h1,h2⟩⟩
theorem Zue {l m p:List Tm} (hir:∀ x,(x∈l∨x∈m∨x∈p)->¬ Gr rk cm x x) (htr:∀ x y z,(x∈l∨x∈m∨x∈p)->(y∈l∨y∈m∨y∈p)->(z∈l∨z∈m∨z∈p)->Gr rk cm x y->Gr rk cm y z->Gr rk cm x z) (h1:BagG rk cm l m) (h2:BagG rk cm m p):BagG rk cm l p:=by
 have hin:∀ x,(cntT x m < cntT x l∨cntT x p < cntT x m)->x∈l∨x∈m∨x∈p:=fun x hx=>by
  rcases hx with h | h
  ·exact .inl (Zcp.1 om)
  ·exact .inr (.inl (Zcp.1 om))
 have key:∀ x0,(cntT x0 m < cntT x0 l∨cntT x0 p < cntT x0 m)->∃ x,(cntT x p < cntT x l)∧(x=x0∨Gr rk cm x x0):=fun x0 hx0=>by
  obtain ⟨x,q1,q2,q3⟩:=Zud (R:=Gr rk cm) (Q:=fun x=>cntT x m < cntT x l∨cntT x p < cntT x m) (E:=l++(m++p)) (fun x hx=>by simpa using hin x hx) (fun x hx=>hir x (hin x hx)) (fun x y z hx hy hz=>htr x y z (hin x hx) (hin y hy) (hin z hz)) _ x0 hx0 (Tan _)
  ·refine ⟨x,?_,q2⟩
   rcases q1 with q1 | q1
   ·by_cases h:cntT x m < cntT x p
    ·obtain ⟨z,h3,h4⟩:=h2.1 x h
     exact absurd h4 (q3 z (.inr h3))
    ·omega
   ·by_cases h:cntT x l < cntT x m
    ·obtain ⟨z,h3,h4⟩:=h1.1 x h
     exact absurd h4 (q3 z (.inl h3))
    ·omega
 refine ⟨fun y hy=>?_,?_⟩
 ·have step:∃ x0,(cntT x0 m < cntT x0 l∨cntT x0 p < cntT x0 m)∧Gr rk cm x0 y:=by
   by_cases h:cntT y m < cntT y p
   ·obtain ⟨x0,h3,h4⟩:=h2.1 y h
    exact ⟨x0,.inr h3,h4⟩
   ·obtain ⟨x0,h3,h4⟩:=h1.1 y om
    exact ⟨x0,.inl h3,h4⟩
  obtain ⟨x0,hx0,hg⟩:=step
  obtain ⟨x,hx,hxx⟩:=key x0 hx0
  refine ⟨x,hx,?_⟩
  rcases hxx with rfl | hxx
  ·exact hg
  ·exact htr x x0 y (.inl (Zcp.1 om)) (hin x0 hx0) (.inr (.inr (Zcp.1 om))) hxx hg
 ·obtain ⟨x0,hx0⟩:=h1.2
  obtain ⟨x,hx,_⟩:=key x0 (.inl hx0)
  exact ⟨x,hx⟩
theorem Zuf {l m p:List Tm} (htr:∀ x y z,x∈l->y∈m->z∈p->Gr rk cm x y->Gr rk cm y z->Gr rk cm x z) (h1:LexG rk cm l m) (h2:LexG rk cm m p):LexG rk cm l p:=by
 obtain ⟨i,x,y,hx,hy,hj,hg⟩:=h1
 obtain ⟨k,u,v,hu,hv,hk,hh⟩:=h2
 rcases Nat.lt_trichotomy i k with h | h | h
 ·exact ⟨i,x,y,hx,by rw [<- hk i h];exact hy,fun j hji=>(hj j hji).trans (hk j om),hg⟩
 ·subst h
  obtain rfl:y=u:=by rw [hy] at hu;injection hu
  exact ⟨i,x,v,hx,hv,fun j hji=>(hj j hji).trans (hk j hji),htr x y v (Tac hx) (Tac hy) (Tac hv) hg hh⟩
 ·exact ⟨k,u,v,by rw [hj k h];exact hu,hv,fun j hji=>(hj j om).trans (hk j hji),hh⟩
def TrOn (rk:Int->Int) (cm:Int->Bool) (k:Nat):Prop:=∀ a b c,sizeTm a<=k->sizeTm b<=k->sizeTm c<=k->Gr rk cm a b->Gr rk cm b c->Gr rk cm a c
def IrOn (rk:Int->Int) (cm:Int->Bool) (k:Nat):Prop:=∀ a,sizeTm a<=k->¬ Gr rk cm a a
theorem Zpn {k:Nat} (hI:IrOn rk cm k) (hT:TrOn rk cm k):∀ (n:Nat) (a b c:Tm),sizeTm a+sizeTm b+sizeTm c < n->sizeTm a<=k+1->sizeTm b<=k+1->sizeTm c<=k+1->Gr rk cm a b->Gr rk cm b c->Gr rk cm a c
 | 0,_,_,_,h,_,_,_,_,_=>by omega
 | n+1,a,b,c,hn,ka,kb,kc,hab,hbc=>by
  have ih:=Zpn hI hT n
  rcases ZdS.1 hab with ⟨t,ht,rfl | hg⟩ | ⟨ha,hb,hall,hr⟩
  ·exact .sub ht hbc
  ·have:=ZaW ht
   exact .sub ht (ih t b c om om kb kc hg hbc)
  ·rcases ZdS.1 hbc with ⟨u,hu,rfl | hg⟩ | ⟨_,hc,hall2,hr2⟩
   ·exact hall u hu
   ·have:=ZaW hu
    exact ih a u c om ka om kc (hall u hu) hg
   ·refine ZdS.2 (.inr ⟨ha,hc,fun v hv=>by
     have:=ZaW hv
     exact ih a b v om ka kb om hab (hall2 v hv),?_⟩)
    have el:∀ x,(x∈a.args∨x∈b.args∨x∈c.args)->sizeTm x<=k:=fun x hx=>by
     rcases hx with h | h | h <;> (have:=ZaW h;omega)
    rcases hr with hr | ⟨e1,c1,hr⟩ | ⟨e1,c1,hr⟩
    ·rcases hr2 with hr2 | ⟨e2,_⟩ | ⟨e2,_⟩
     ·exact .inl om
     ·exact .inl (by rw [<- e2];exact hr)
     ·exact .inl (by rw [<- e2];exact hr)
    ·rcases hr2 with hr2 | ⟨e2,c2,hr2⟩ | ⟨e2,c2,hr2⟩
     ·exact .inl (by rw [e1];exact hr2)
     ·refine .inr (.inl ⟨e1.trans e2,c1,Zue (fun x hx=>hI x (el x hx)) (fun x y z hx hy hz=>hT x y z (el x hx) (el y hy) (el z hz)) hr hr2⟩)
     ·rw [e1,c2] at c1;cases c1
    ·rcases hr2 with hr2 | ⟨e2,c2,hr2⟩ | ⟨e2,c2,hr2⟩
     ·exact .inl (by rw [e1];exact hr2)
     ·rw [e1,c2] at c1;cases c1
     ·refine .inr (.inr ⟨e1.trans e2,c1,Zuf (fun x y z hx hy hz=>?_) hr hr2⟩)
      exact hT x y z (el x (.inl hx)) (el y (.inr (.inl hy))) (el z (.inr (.inr hz)))
theorem ZlV:∀ (k:Nat),IrOn rk cm k∧TrOn rk cm k
 | 0=>⟨fun a h=>by rw [Zbd] at h;omega,fun a _ _ h=>by rw [Zbd] at h;omega⟩
 | k+1=>by
  obtain ⟨hI,hT⟩:=ZlV k
  have hT1:TrOn rk cm (k+1):=fun a b c ha hb hc=>Zpn hI hT _ a b c (Tan _) ha hb hc
  refine ⟨fun a ha h=>?_,hT1⟩
  rcases ZdS.1 h with ⟨t,ht,rfl | hg⟩ | ⟨_,_,hall,hr⟩
  ·have:=ZaW ht;omega
  ·have:=ZaW ht
   exact hI t om (hT1 t a t om ha om hg (.same ht))
  ·rcases hr with hr | ⟨_,_,_,x,hx⟩ | ⟨_,_,i,x,y,hx,hy,_,hg⟩
   ·omega
   ·omega
   ·obtain rfl:x=y:=by rw [hx] at hy;injection hy
    have:=ZaW (Tac hx)
    exact hI x om hg
theorem Gr.irr {a:Tm}:¬ Gr rk cm a a:=(ZlV (sizeTm a)).1 a (Tai _)
theorem Gr.trans {a b c:Tm} (h:Gr rk cm a b) (h':Gr rk cm b c):Gr rk cm a c:=(ZlV (sizeTm a+sizeTm b+sizeTm c)).2 a b c om om om h h'
end
end Go.Proofs.YtcgacanpeaiabaaGreatDoor
namespace Go.Proofs.YtcgacanpeaiabaaGreatDoor
open Go.RowKit
def rkF (rank:List Int) (op:Int):Int:=rank.getD op.toNat 0
def cmF (g:Sgn) (op:Int):Bool:=(g.ops[op.toNat]?.map (·.comm)).getD false
open Classical in
noncomputable def grB (g:Sgn) (rank:List Int) (a b:Tm):Bool:=decide (Gr (rkF rank) (cmF g) a b)
theorem ZbC {g:Sgn} {rank:List Int} {a b:Tm}:grB g rank a b=true ↔ Gr (rkF rank) (cmF g) a b:=by simp [grB]
theorem ZbZ {g:Sgn} {rank:List Int} {a b:Tm} (h:Gr (rkF rank) (cmF g) a b):grB g rank a b=true:=ZbC.2 h
theorem Zca {g:Sgn} {rank:List Int} {a b:Tm} (h:¬ Gr (rkF rank) (cmF g) a b):grB g rank a b=false:=by simpa [grB] using h
mutual
def occT (x:Tm):Tm->Bool
 | .mk op nm so args=>decide (Zas x (.mk op nm so args)=0) || ZkQ x args
def ZkQ (x:Tm):List Tm->Bool
 | []=>false
 | t::ts=>occT x t || ZkQ x ts
end
theorem Zkc (x:Tm):∀ (l:List Tm),ZkQ x l=l.any (occT x)
 | []=>rfl
 | t::ts=>by simp only [ZkQ,List.any_cons,Zkc x ts]
theorem Zju (x t:Tm):occT x t=(decide (Zas x t=0) || t.args.any (occT x)):=by
 obtain ⟨op,nm,so,args⟩:=t
 simp only [occT,Zkc,Tm.args]
theorem Zf6 {x t:Tm}:occT x t=true ↔ x=t∨∃ a∈t.args,occT x a=true:=by
 rw [Zju,Bool.or_eq_true,decide_eq_true_eq,Zbq,List.any_eq_true]
section
variable {rk:Int->Int} {cm:Int->Bool}
theorem Gr.no_var {a b:Tm} (h:a.args=[]) (hv:a.op=-1):¬ Gr rk cm a b:=fun hg=>by
 rcases ZdS.1 hg with ⟨t,ht,_⟩ | ⟨h1,_⟩
 ·rw [h] at ht;cases ht
 ·exact h1 hv
theorem ZlW {b:Tm} (hb:b.op=-1):∀ (n:Nat) (a:Tm),sizeTm a < n->((∃ t∈a.args,occT b t=true) ↔ Gr rk cm a b)
 | 0,a,h=>by omega
 | n+1,a,h=>by
  rw [ZdS]
  constructor
  ·rintro ⟨t,ht,ho⟩
   refine .inl ⟨t,ht,?_⟩
   rcases Zf6.1 ho with rfl | h2
   ·exact .inl rfl
   ·have:=ZaW ht
    exact .inr ((ZlW hb n t om).1 h2)
  ·rintro (⟨t,ht,rfl | hg⟩ | ⟨_,h2,_⟩)
   ·exact ⟨t,ht,Zf6.2 (.inl rfl)⟩
   ·have:=ZaW ht
    exact ⟨t,ht,Zf6.2 (.inr ((ZlW hb n t om).2 hg))⟩
   ·exact absurd hb h2
end
theorem Zug {rk:Int->Int} {cm:Int->Bool} {a b:Tm} (ha:a.op≠-1) (hb:b.op=-1):occT b a=true ↔ Gr rk cm a b:=by
 rw [<- ZlW hb _ a (Tan _),Zf6]
 constructor
 ·rintro (rfl | h)
  ·exact absurd hb ha
  ·exact h
 ·exact .inr
def ersT (y:Tm):List Tm->List Tm
 | []=>[]
 | x::l=>if Zas x y=0 then l else x::ersT y l
open Classical in
theorem Zpo (y z:Tm):∀ (l:List Tm),cntT z (ersT y l)=cntT z l - (if y=z then 1 else 0)
 | []=>by simp [ersT,cntT]
 | x::l=>by
  simp only [ersT]
  by_cases h:Zas x y=0
  ·rw [if_pos h]
   obtain rfl:=Zbq.1 h
   simp only [cntT];omega
  ·rw [if_neg h]
   have hne:x≠y:=fun e=>h (Zbq.2 e)
   simp only [cntT,Zpo y z l]
   by_cases e:y=z
   ·subst e;rw [if_neg hne,if_pos rfl];omega
   ·rw [if_neg e];omega
def Zbe (l m:List Tm):List Tm:=m.foldl (fun l y=>ersT y l) l
theorem ZlX (z:Tm):∀ (m l:List Tm),cntT z (Zbe l m)=cntT z l - cntT z m
 | [],l=>by simp [Zbe,cntT]
 | y::m,l=>by
  have:=ZlX z m (ersT y l)
  simp only [Zbe,List.foldl_cons] at this ⊢
  rw [this,Zpo]
  simp only [cntT];omega
theorem Zd3 {z:Tm} {l m:List Tm}:z∈Zbe l m ↔ cntT z m < cntT z l:=by
 rw [<- Zcp,ZlX];omega
theorem Zpp (y:Tm):∀ (l:List Tm),(ersT y l).length<=l.length
 | []=>Tai _
 | x::l=>by
  simp only [ersT]
  split
  ·simp
  ·have:=Zpp y l;simp only [Tag];omega
theorem Zf7:∀ (m l:List Tm),(Zbe l m).length<=l.length
 | [],l=>Tai _
 | y::m,l=>Tbb (Zf7 m (ersT y l)) (Zpp y l)
theorem Zpq {y z:Tm}:∀ {l:List Tm},z∈ersT y l->z∈l
 | x::l,h=>by
  simp only [ersT] at h
  split at h
  ·exact Tal _ h
  ·rcases Tbd.1 h with rfl | h
   ·exact Tas
   ·exact Tal _ (Zpq h)
theorem Zf8 {z:Tm}:∀ {m l:List Tm},z∈Zbe l m->z∈l
 | [],l,h=>h
 | y::m,l,h=>Zpq (Zf8 (m:=m) (l:=ersT y l) h)
theorem Zuh {y x:Tm}:∀ {l:List Tm} {k:Nat},l[k]?=some x->Zas x y=0->(∀ (j:Nat) u,j < k->l[j]?=some u->Zas u y≠0)->ersT y l=l.take k++l.drop (k+1)
 | w::l,0,h,hx,_=>by
  simp only [Tat,Taq] at h
  subst h
  simp [ersT,hx]
 | w::l,k+1,h,hx,hj=>by
  have h0:=hj 0 w om rfl
  rw [ersT,if_neg h0,Zuh (l:=l) (k:=k) (by simpa using h) hx fun j u hjk hu=>hj (j+1) u om (by simpa using hu)]
  simp
theorem Zui {y:Tm}:∀ {l:List Tm},(∀ (j:Nat) u,l[j]?=some u->Zas u y≠0)->ersT y l=l
 | [],_=>rfl
 | w::l,h=>by
  rw [ersT,if_neg (h 0 w rfl),Zui (l:=l) fun j u hu=>h (j+1) u (by simpa using hu)]
theorem Zuj {l m:List Tm} {i:Nat} {y:Tm} (h:m[i]?=some y):Zbe l (m.take (i+1))=ersT y (Zbe l (m.take i)):=by
 rw [List.take_add_one,h]
 simp [Zbe,List.foldl_append]
theorem Zvt {rk:Int->Int} {cm:Int->Bool} {l m:List Tm}:BagG rk cm l m ↔ (∀ u∈Zbe m l,∃ t∈Zbe l m,Gr rk cm t u)∧0 < (Zbe l m).length:=by
 unfold BagG
 constructor
 ·rintro ⟨h1,x,hx⟩
  refine ⟨fun u hu=>?_,List.length_pos_of_mem (Zd3.2 hx)⟩
  obtain ⟨t,h2,h3⟩:=h1 u (Zd3.1 hu)
  exact ⟨t,Zd3.2 h2,h3⟩
 ·rintro ⟨h1,h2⟩
  obtain ⟨x,hx⟩:=List.exists_mem_of_length_pos h2
  refine ⟨fun y hy=>?_,x,Zd3.1 hx⟩
  obtain ⟨t,h3,h4⟩:=h1 y (Zd3.2 hy)
  exact ⟨t,Zd3.1 h3,h4⟩
theorem ZfG (z:Tm):∀ (l m:List Tm),cntT z (l++m)=cntT z l+cntT z m
 | [],m=>by simp [cntT]
 | x::l,m=>by simp only [Taf,cntT,ZfG z l m];omega
open Classical in
theorem ZiW {z t:Tm} {l:List Tm} {i:Nat} (h:l[i]?=some t):cntT z (l.take (i+1))=cntT z (l.take i)+(if t=z then 1 else 0):=by
 rw [List.take_add_one,h,ZfG]
 simp [cntT]
open Classical in
theorem ZzO {z t:Tm} {l:List Tm} {k:Nat} (h:l[k]?=some t):cntT z (l.take k++l.drop (k+1))+(if t=z then 1 else 0)=cntT z l:=by
 obtain ⟨h1,h2⟩:=Tad.1 h
 have e:l=l.take k++(t::l.drop (k+1)):=by
  rw [<- h2,<- List.drop_eq_getElem_cons h1,Tbj]
 conv=>rhs;rw [e]
 rw [ZfG,ZfG]
 simp only [cntT]
 omega
structure LeftOk (a b:List Tm) (i:Nat) (R B:List Tm):Prop where
 le:i<=a.length
 cr:∀ z,cntT z R=cntT z (a.take i) - cntT z b
 cb:∀ z,cntT z B=cntT z b - cntT z (a.take i)
 rm:∀ x∈R,x∈a
 bm:∀ x∈B,x∈b
 rl:R.length<=i
 bl:B.length<=b.length
theorem LeftOk.start {a b:List Tm}:LeftOk a b 0 [] b:=⟨Taj _,fun z=>by simp [cntT],fun z=>by simp [cntT],fun x h=>absurd h (by simp),fun x h=>h,Tai _,Tai _⟩
theorem LeftOk.cut {a b:List Tm} {i k:Nat} {R B:List Tm} {t:Tm} (h:LeftOk a b i R B) (ht:a[i]?=some t) (hk:B[k]?=some t):LeftOk a b (i+1) R (B.take k++B.drop (k+1)):=by
 have hB:=Zcp.2 (Tac hk)
 have hi:=(Tad.1 ht).1
 refine ⟨hi,fun z=>?_,fun z=>?_,h.rm,fun x hx=>h.bm x ((Tbe.1 hx).elim List.mem_of_mem_take List.mem_of_mem_drop),Nat.le_succ_of_le h.rl,?_⟩
 ·rw [h.cr,ZiW ht]
  by_cases e:t=z
  ·subst e;have:=h.cb t;rw [if_pos rfl];omega
  ·rw [if_neg e];rfl
 ·have h1:=ZzO (z:=z) hk
  have h2:=h.cb z
  rw [ZiW ht]
  omega
 ·have:=h.bl
  simp only [Tae,Tav,List.length_drop]
  have:=(Tad.1 hk).1
  omega
theorem LeftOk.add {a b:List Tm} {i:Nat} {R B:List Tm} {t:Tm} (h:LeftOk a b i R B) (ht:a[i]?=some t) (hk:t ∉ B):LeftOk a b (i+1) (R++[t]) B:=by
 have hB:cntT t B=0:=Nat.eq_zero_of_not_pos fun q=>hk (Zcp.1 q)
 have hi:=(Tad.1 ht).1
 refine ⟨hi,fun z=>?_,fun z=>?_,fun x hx=>?_,h.bm,by have:=h.rl;simp;omega,h.bl⟩
 ·rw [ZfG,h.cr,ZiW ht]
  simp only [cntT]
  by_cases e:t=z
  ·subst e;have:=h.cb t;rw [if_pos rfl];omega
  ·rw [if_neg e];omega
 ·rw [h.cb,ZiW ht]
  by_cases e:t=z
  ·subst e;have:=h.cb t;rw [if_pos rfl];omega
  ·rw [if_neg e];rfl
 ·rcases Tbe.1 hx with hx | hx
  ·exact h.rm x hx
  ·rw [Tbg] at hx;subst hx;exact Tac ht
theorem LeftOk.done {rk:Int->Int} {cm:Int->Bool} {a b R B:List Tm} (h:LeftOk a b a.length R B):BagG rk cm a b ↔ (∀ u∈B,∃ t∈R,Gr rk cm t u)∧0 < R.length:=by
 have hr:∀ z,z∈R ↔ cntT z b < cntT z a:=fun z=>by rw [<- Zcp,h.cr,Tap];omega
 have hb:∀ z,z∈B ↔ cntT z a < cntT z b:=fun z=>by rw [<- Zcp,h.cb,Tap];omega
 unfold BagG
 constructor
 ·rintro ⟨h1,x,hx⟩
  refine ⟨fun u hu=>?_,List.length_pos_of_mem ((hr x).2 hx)⟩
  obtain ⟨t,h2,h3⟩:=h1 u ((hb u).1 hu)
  exact ⟨t,(hr t).2 h2,h3⟩
 ·rintro ⟨h1,h2⟩
  obtain ⟨x,hx⟩:=List.exists_mem_of_length_pos h2
  refine ⟨fun y hy=>?_,x,(hr x).1 hx⟩
  obtain ⟨t,h3,h4⟩:=h1 y ((hb y).2 hy)
  exact ⟨t,(hr t).1 h3,h4⟩
def Zce (rows:List (List C)) (r:List D) (pm:List Bk):Prop:=∃ v E,r=[.one (.lit v)]∧Zav (.lit v)=true∧pm=[.set E (fun w=>Own w (.sl rows) E v)]
def litC:C->Bool
 | .lit _=>true
 | _=>false
def litD:D->Bool
 | .one c=>litC c
 | .agg cs=>cs.all litC
 | _=>false
theorem ZhM {w:World} {S S':Nat->Prop}:∀ {cs:List C} {vs:List Value},cs.all litC=true->Zaa w S cs vs->Zaa w S' cs vs
 | [],[],_,_=>trivial
 | .lit x::cs,v::vs,hl,h=>by
  simp only [List.all_cons,Tar] at hl
  exact ⟨h.1,ZhM hl.2 h.2⟩
 | .sl _::_,_::_,hl,_=>by simp [litC] at hl
 | .ptr _::_,_::_,hl,_=>by simp [litC] at hl
 | .fn _ _::_,_::_,hl,_=>by simp [litC] at hl
 | [],_::_,_,h=>h.elim
 | _::_,[],_,h=>h.elim
theorem ZlY {w:World} {S S':Nat->Prop} {x:D} {v:Value} (hl:litD x=true) (h:DRel w S x v):DRel w S' x v:=by
 cases x with
 | one c=>cases c with
  | lit y=>exact h
  | _=>simp [litD,litC] at hl
 | agg cs=>obtain ⟨vs,h1,h2⟩:=h;exact ⟨vs,h1,ZhM hl h2⟩
 | clip _=>simp [litD] at hl
theorem ZgY {w:World} {S S':Nat->Prop}:∀ {r:List D} {vs:List Value},r.all litD=true->Zay w S r vs->Zay w S' r vs
 | [],[],_,_=>trivial
 | x::r,v::vs,hl,h=>by
  simp only [List.all_cons,Tar] at hl
  exact ⟨ZlY hl.1 h.1,ZgY hl.2 h.2⟩
 | [],_::_,_,h=>h.elim
 | _::_,[],_,h=>h.elim
theorem Zvu {w:World} {S S':Nat->Prop} {L:Lay}:∀ {r:List D} {v:Value},r.all litD=true->ARel w S L (retA r) v->ARel w S' L (retA r) v
 | [],_,_,h=>by obtain ⟨vs,h1,h2⟩:=h;exact ⟨vs,h1,ZgY rfl h2⟩
 | [x],v,hl,h=>by
  simp only [List.all_cons,List.all_nil,Bool.and_true] at hl
  exact ZlY (x:=x) (v:=v) hl h
 | x::y::z,_,hl,h=>by obtain ⟨vs,h1,h2⟩:=h;exact ⟨vs,h1,ZgY hl h2⟩
def Env.plus (e:Env) (E2:Nat->Prop) (G2:World->Prop):Env:=⟨e.P,fun b=>e.E b∨E2 b,fun w=>e.G w∧G2 w,e.D⟩
structure Fits (e:Env) (E2:Nat->Prop) (G2:World->Prop):Prop where
 st:ZbY E2 G2
 dj:∀ w,G2 w->∀ b,E2 b->¬ e.E b
section
variable {e:Env} {E2:Nat->Prop} {G2:World->Prop}
theorem Fits.ok (h:Fits e E2 G2) (he:e.Ok):(e.plus E2 G2).Ok:=⟨fun w w' hz hb ⟨h1,h2⟩=>⟨he.keep w w' hz (fun b hb'=>hb b (.inl hb')) h1,h.st w w' hz (fun b hb'=>hb b (.inr hb')) h2⟩,he.mixed⟩
theorem Kept.up {D:Prop} {E E':Nat->Prop} {B:Nat} {w w':World} (h:Kept D E B w w') (hE:∀ b,E b->E' b):Kept D E' B w w':=⟨h.os,h.tape,h.output,h.drawn,h.size,fun k hk hn=>h.block k hk fun q=>hn (hE k q)⟩
theorem Fits.keep (h:Fits e E2 G2) {E:Nat->Prop} {w w':World} (hk:Kept e.D E w.heap.size w w') (hE:∀ b,(e.plus E2 G2).E b->b < w.heap.size) (hG:G2 w) (hn:∀ b,E2 b->¬ E b):G2 w':=h.st w w' hk.size (fun b hb=>hk.block b (hE b (.inr hb)) (hn b hb)) hG
theorem Con.up (h2:Fits e E2 G2) {f:FuncId} {args r:List D} (h:Con e f args r):Con (e.plus E2 G2) f args r :=
 ⟨h.1,fun w S vs hS hE hG hvs=>(h.2 w S vs (fun b hb=>⟨(hS b hb).1,fun q=>(hS b hb).2 (.inl q)⟩) (fun b hb=>hE b (.inl hb)) hG.1 hvs).mono fun en w' ⟨v,h1,hk,hg,ha⟩=>⟨v,h1,hk.up fun _=>.inl,⟨hg,h2.keep hk hE hG.2 (h2.dj w hG.2)⟩,ha⟩⟩
theorem ConE.up (h2:Fits e E2 G2) {f:FuncId} {args:List D} {R:List D->Prop} (h:ConE e f args R):ConE (e.plus E2 G2) f args R :=
 ⟨h.1,fun w S vs hS hE hG hvs=>(h.2 w S vs (fun b hb=>⟨(hS b hb).1,fun q=>(hS b hb).2 (.inl q)⟩) (fun b hb=>hE b (.inl hb)) hG.1 hvs).mono fun en w' ⟨v,r,h1,hr,hk,hg,ha⟩=>⟨v,r,h1,hr,hk.up fun _=>.inl,⟨hg,h2.keep hk hE hG.2 (h2.dj w hG.2)⟩,ha⟩⟩
theorem ConR.up (h2:Fits e E2 G2) {f:FuncId} {args:List D} {ty sz:Nat} {rows:List (List C)} (h:ConR e f args ty sz rows):ConR (e.plus E2 G2) f args ty sz rows :=
 ⟨h.1,fun w S vs hS hE hG hvs=>(h.2 w S vs (fun b hb=>⟨(hS b hb).1,fun q=>(hS b hb).2 (.inl q)⟩) (fun b hb=>hE b (.inl hb)) hG.1 hvs).mono fun en w' ⟨v,h1,hk,hg,ha⟩=>⟨v,h1,hk.up fun _=>.inl,⟨hg,h2.keep hk hE hG.2 (h2.dj w hG.2)⟩,ha⟩⟩
theorem ConI.up (h2:Fits e E2 G2) {f:FuncId} {ty sz:Nat} {rows rows':List (List C)} {args r:List D} (h:ConI e f ty sz rows args rows' r):ConI (e.plus E2 G2) f ty sz rows args rows' r :=
 ⟨h.1,fun w S v0 vs hS hE h0 hG hb hvs=>(h.2 w S v0 vs (fun b hb=>⟨(hS b hb).1,fun q=>(hS b hb).2 (.inl q)⟩) (fun b hb=>hE b (.inl hb)) (fun g hg q=>h0 g hg (.inl q)) hG.1 hb hvs).mono fun en w' ⟨v,h1,hk,hg,ha⟩=>⟨v,h1,hk.up fun _ q=>q.elim (fun q=>.inl (.inl q)) .inr,⟨hg,h2.keep hk hE hG.2 fun b hb q=>q.elim (h2.dj w hG.2 b hb) fun q=>h0 b q (.inr hb)⟩,ha⟩⟩
theorem ConT.up (h2:Fits e E2 G2) {f:FuncId} {ty sz:Nat} {rows rows':List (List C)} {args:List D} (h:ConT e f ty sz rows args rows'):ConT (e.plus E2 G2) f ty sz rows args rows' :=
 ⟨h.1,fun w S v0 vs hS hE h0 hG hb hvs=>(h.2 w S v0 vs (fun b hb=>⟨(hS b hb).1,fun q=>(hS b hb).2 (.inl q)⟩) (fun b hb=>hE b (.inl hb)) (fun g hg q=>h0 g hg (.inl q)) hG.1 hb hvs).mono fun en w' ⟨v,h1,hk,hg,ha⟩=>⟨v,h1,hk.up fun _ q=>q.elim (fun q=>.inl (.inl q)) .inr,⟨hg,h2.keep hk hE hG.2 fun b hb q=>q.elim (h2.dj w hG.2 b hb) fun q=>h0 b q (.inr hb)⟩,ha⟩⟩
theorem ConP.up (h2:Fits e E2 G2) {f:FuncId} {args:List D} {pm:List Bk} {R:List D->List Bk->Prop} (h:ConP e f args pm R):ConP (e.plus E2 G2) f args pm R :=
 ⟨h.1,fun w S vs hS hE hG hpm hap hvs=>(h.2 w S vs (fun b hb=>⟨(hS b hb).1,fun q=>(hS b hb).2 (.inl q)⟩) (fun b hb=>hE b (.inl hb)) hG.1 (fun x hx=>⟨(hpm x hx).1,fun g hg q=>(hpm x hx).2 g hg (.inl q)⟩) hap hvs).mono fun en w' ⟨v,r,pm',h1,hr,hk,hg,ha⟩=>⟨v,r,pm',h1,hr,hk.up fun _ q=>q.elim (fun q=>.inl (.inl q)) .inr,⟨hg,h2.keep hk hE hG.2 fun b hb q=>q.elim (h2.dj w hG.2 b hb) fun ⟨x,hx,hxg⟩=>(hpm x hx).2 b hxg (.inr hb)⟩,ha⟩⟩
theorem Zvv {ι:Type} {G:ι->World->Prop} {ok:ι->Prop} (h2:Fits e E2 G2) (hst:∀ i,ZbY E2 (G i)) (ho:∀ w,G2 w->∃ i,ok i∧G i w) (hi:∀ w i,(∀ b,E2 b->¬ e.E b)->ok i->G i w->G2 w) {f:FuncId} {xs r:List D} (hb:Zbw e.P f=true)
  (h:∀ i,ok i->ConP e f xs [.set E2 (G i)] (fun r' pm=>r'=r∧∃ i',ok i'∧pm=[.set E2 (G i')])):Con (e.plus E2 G2) f xs r:=by
 refine ⟨hb,fun w S vs hS hE hG hvs=>?_⟩
 obtain ⟨i,hi1,hi2⟩:=ho w hG.2
 have hdj:=h2.dj w hG.2
 refine ((h i hi1).2 w S vs (fun b hb=>⟨(hS b hb).1,fun q=>(hS b hb).2 (.inl q)⟩) (fun b hb=>hE b (.inl hb)) hG.1 (fun x hx=>?_) ⟨fun y hy=>(by cases hy),trivial⟩ hvs).mono fun en w' ⟨v,r',pm,h1,⟨hr,i',hi1',hpm⟩,hk,hg,hp,_,ha⟩=>?_
 ·obtain rfl:=Tbg.1 hx
  exact ⟨⟨fun b hb=>⟨hE b (.inr hb),fun q=>(hS b q).2 (.inr hb)⟩,hi2,hst i⟩,fun g hg=>hdj g hg⟩
 ·subst hr hpm
  have hpb:∀ (G:World->Prop) (b:Nat),ZaR [.set E2 G] b ↔ E2 b:=fun G b=>⟨fun ⟨x,hx,hg⟩=>by obtain rfl:=Tbg.1 hx;exact hg,fun q=>⟨_,Tbg.2 rfl,q⟩⟩
  refine ⟨v,h1,hk.up fun b q=>q.elim .inl fun q=>.inr ((hpb _ b).1 q),⟨hg,hi w' i' hdj hi1' (hp _ (Tbg.2 rfl)).1.2.1⟩,ha.keep (Tai _) (fun _ _ _=>rfl) fun b hb=>?_⟩
  rcases hb.1 with q | q | q
  ·exact .inl q
  ·exact absurd ((hpb _ b).2 ((hpb _ b).1 q)) hb.2
  ·exact .inr q
end
theorem Zuk {e:Env} {f:FuncId} {r post:List D} {rows:List (List C)} {ty sz:Nat} {a:Option Addr} {cap:Nat} (h:Con e f (.one (.sl rows)::post) r) (hl:r.all litD=true) :
  ConP e f (.one (.lit (.slice a rows.length cap))::post) [.buf (some (a,cap)) ty sz rows] (fun r' q=>r'=r∧q=[.buf (some (a,cap)) ty sz rows]):=by
 refine ⟨h.1,fun w S vs hS hE hG hpm hap hvs=>?_⟩
 obtain ⟨h1,hdj⟩:=hpm _ (Tbg.2 rfl)
 have h1:ZaG w S ty sz rows (.slice a rows.length cap):=h1
 have hpb:∀ g,ZaR [.buf (some (a,cap)) ty sz rows] g ↔ vblk (.slice a rows.length cap)=some g:=fun g=>⟨fun ⟨x,hx,hg⟩=>by
  obtain rfl:=Tbg.1 hx
  exact hg,fun q=>⟨_,Tbg.2 rfl,q⟩⟩
 have hlt:∀ g,vblk (.slice a rows.length cap)=some g->g < w.heap.size∧¬ S g:=fun g hg=>by
  obtain ⟨_,_,h2⟩:=h1
  rcases h2 with ⟨_,a',h3⟩ | ⟨g',cap',cur,h3,h4,h5,h6,_⟩
  ·rw [h3] at hg;cases a' <;> simp [vblk] at hg
  ·rw [h3] at hg
   simp only [vblk] at hg
   have:g'=g:=by
    have hc:cap'≠0:=by omega
    simpa [hc] using hg
   subst this
   exact ⟨h5,h6⟩
 match vs,hvs with
 | v::vs,⟨hv,hvs⟩ =>
  have hv:v=.slice a rows.length cap:=hv
  subst hv
  have hd:Zay w (fun b=>S b∨vblk (.slice a rows.length cap)=some b) (.one (.sl rows)::post) (.slice a rows.length cap::vs):=⟨h1.rep,Zay.keep (Tai _) (fun _ _ _=>rfl) (fun b hb=>.inl hb) hvs⟩
  refine (h.2 w (fun b=>S b∨vblk (.slice a rows.length cap)=some b) _ (fun b hb=>hb.elim (hS b) fun q=>⟨(hlt b q).1,hdj b q⟩) hE hG hd).mono fun en w' ⟨v,q1,hk,hg,ha⟩=>?_
  ·refine ⟨v,r,_,q1,⟨rfl,rfl⟩,hk.up fun b q=>.inl q,hg,fun x hx=>?_,⟨fun y hy=>(by cases hy),trivial⟩,Zvu hl ha⟩
   obtain rfl:=Tbg.1 hx
   refine ⟨?_,fun g q=>.inl ((hpb g).2 q)⟩
   have hcell:∀ b o,S b->w'.cell? ⟨b,o,none⟩=w.cell? ⟨b,o,none⟩:=fun b o q=>by
    have:=hk.block b (hS b q).1 (hS b q).2
    simp only [World.cell?,this]
   exact h1.keep hk.size hcell (fun b q=>⟨.inl q,fun q2=>(hlt b ((hpb b).1 q2)).2 q⟩) fun g q=>⟨hk.block g (hlt g q).1 (hdj g q),fun q2=>q2.2 ((hpb g).2 q)⟩
def decN (n:Nat):List UInt8:=if n < 10 then [UInt8.ofNat (48+n)] else [UInt8.ofNat (48+n / 10),UInt8.ofNat (48+n % 10)]
def decB (i:Int):List UInt8:=if i < 0 then 45::decN (-i).toNat else decN i.toNat
mutual
def ZbH:Tm->List UInt8
 | .mk op nm so args=>decB op++((if op < 0 then 58::(nm.toList++58::decB so) else [])++40::(ZaQ args++[41]))
def ZaQ:List Tm->List UInt8
 | []=>[]
 | t::ts=>ZbH t++ZaQ ts
end
theorem Zqb (a b:List Tm):ZaQ (a++b)=ZaQ a++ZaQ b:=by
 induction a with
 | nil=>rfl
 | cons t ts ih=>simp only [Taf,ZaQ,ih,Tbc]
theorem Zd4 {P:UInt8->Prop}:∀ {l m:List UInt8} {c d:UInt8} {x y:List UInt8},(∀ b∈l,P b)->(∀ b∈m,P b)->¬ P c->¬ P d->l++c::x=m++d::y->l=m∧c=d∧x=y
 | [],[],c,d,x,y,_,_,_,_,h=>by simpa using h
 | [],b::m,c,d,x,y,_,hm,hc,_,h=>by
  simp only [Tah,Taf,List.cons.injEq] at h
  exact absurd (hm b Tas) (h.1 ▸ hc)
 | a::l,[],c,d,x,y,hl,_,_,hd,h=>by
  simp only [Tah,Taf,List.cons.injEq] at h
  exact absurd (hl a Tas) (h.1 ▸ hd)
 | a::l,b::m,c,d,x,y,hl,hm,hc,hd,h=>by
  simp only [Taf,List.cons.injEq] at h
  obtain ⟨h1,h2⟩:=Zd4 (fun b hb=>hl b (Tal _ hb)) (fun b hb=>hm b (Tal _ hb)) hc hd h.2
  exact ⟨by rw [h.1,h1],h2⟩
def NumB (b:UInt8):Prop:=b=45∨(48<=b.toNat∧b.toNat<=57)
instance (b:UInt8):Decidable (NumB b):=by unfold NumB;infer_instance
theorem ZzP:∀ i:Fin 15,∀ b∈decB ((i.val:Int) - 1),NumB b:=by decide
theorem ZzQ:∀ i j:Fin 15,decB ((i.val:Int) - 1)=decB ((j.val:Int) - 1)->i=j:=by decide
theorem Zhh {i:Int} (h0:-1<=i) (h1:i < 14):∀ b∈decB i,NumB b:=by
 have:=ZzP ⟨(i+1).toNat,by omega⟩
 rwa [show (((i+1).toNat:Nat):Int) - 1=i by omega] at this
theorem Zjv {i j:Int} (h0:-1<=i) (h1:i < 14) (h2:-1<=j) (h3:j < 14) (h:decB i=decB j):i=j:=by
 have:=ZzQ ⟨(i+1).toNat,by omega⟩ ⟨(j+1).toNat,by omega⟩ (by
  simp only
  rw [show (((i+1).toNat:Nat):Int) - 1=i by omega,show (((j+1).toNat:Nat):Int) - 1=j by omega];exact h)
 have:=congrArg Fin.val this
 simp only at this
 omega
theorem ZlZ:∀ i:Fin 15,(decB ((i.val:Int) - 1)).head?≠some 41∧decB ((i.val:Int) - 1)≠[]:=by decide
def NamB (s:ByteArray):Prop:=∀ b∈s.toList,Zb6 (b.toNat:Int)=true
mutual
def Zdc:Tm->Prop
 | .mk op nm so args=>-1<=op∧op < 14∧(op=-1->NamB nm∧0<=so∧so < 8)∧(op≠-1->nm=ByteArray.empty∧so=0)∧Zdn args
def Zdn:List Tm->Prop
 | []=>True
 | t::ts=>Zdc t∧Zdn ts
end
theorem toList_inj {a b:ByteArray} (h:a.toList=b.toList):a=b:=by
 rw [ByteArray.toList_eq,ByteArray.toList_eq] at h
 obtain ⟨x⟩:=a
 obtain ⟨y⟩:=b
 simp only at h
 rw [Array.toList_inj.1 h]
theorem ZdA:¬ NumB 40:=by decide
theorem Zfg:¬ NumB 58:=by decide
mutual
theorem Zhi:∀ (a b:Tm) (x y:List UInt8),Zdc a->Zdc b->ZbH a++x=ZbH b++y->a=b∧x=y
 | .mk op nm so args,.mk op' nm' so' args',x,y,ha,hb,h=>by
  simp only [Zdc] at ha hb
  obtain ⟨a1,a2,a3,a4,a5⟩:=ha
  obtain ⟨b1,b2,b3,b4,b5⟩:=hb
  simp only [ZbH,Tbc,Taf] at h
  have n1:=Zhh a1 a2
  have n2:=Zhh b1 b2
  have hfst:op=op'∧nm=nm'∧so=so'∧ZaQ args++([41]++x)=ZaQ args'++([41]++y):=by
   by_cases h1:op < 0
   ·rw [if_pos h1] at h
    by_cases h2:op' < 0
    ·rw [if_pos h2] at h
     simp only [Taf,Tbc] at h
     obtain ⟨e1,_,e2⟩:=Zd4 n1 n2 Zfg Zfg h
     have e1:=Zjv a1 a2 b1 b2 e1
     have o1:op=-1:=by omega
     have o2:op'=-1:=by omega
     obtain ⟨p1,p2,p3⟩:=a3 o1
     obtain ⟨q1,q2,q3⟩:=b3 o2
     obtain ⟨f1,_,f2⟩:=Zd4 (P:=fun b=>Zb6 (b.toNat:Int)=true) p1 q1 (by decide) (by decide) e2
     obtain ⟨g1,_,g2⟩:=Zd4 (Zhh om om) (Zhh om om) ZdA ZdA f2
     exact ⟨e1,toList_inj f1,Zjv om om om om g1,g2⟩
    ·rw [if_neg h2] at h
     simp only [Taf,Tah] at h
     obtain ⟨_,e,_⟩:=Zd4 n1 n2 Zfg ZdA h
     exact absurd e (by decide)
   ·rw [if_neg h1] at h
    by_cases h2:op' < 0
    ·rw [if_pos h2] at h
     simp only [Taf,Tah] at h
     obtain ⟨_,e,_⟩:=Zd4 n1 n2 ZdA Zfg h
     exact absurd e (by decide)
    ·rw [if_neg h2] at h
     simp only [Tah] at h
     obtain ⟨e1,_,e2⟩:=Zd4 n1 n2 ZdA ZdA h
     have e1:=Zjv a1 a2 b1 b2 e1
     obtain ⟨p1,p2⟩:=a4 om
     obtain ⟨q1,q2⟩:=b4 om
     exact ⟨e1,by rw [p1,q1],by rw [p2,q2],e2⟩
  obtain ⟨rfl,rfl,rfl,he⟩:=hfst
  obtain ⟨i1,i2⟩:=Zl0 args args' x y a5 b5 he
  exact ⟨by rw [i1],i2⟩
theorem Zl0:∀ (xs bs:List Tm) (x y:List UInt8),Zdn xs->Zdn bs->ZaQ xs++([41]++x)=ZaQ bs++([41]++y)->xs=bs∧x=y
 | [],[],x,y,_,_,h=>by simpa [ZaQ] using h
 | [],.mk op nm so args::bs,x,y,_,hb,h=>by
  exfalso
  simp only [Zdn,Zdc] at hb
  have:=ZlZ ⟨(op+1).toNat,by omega⟩
  rw [show (((op+1).toNat:Nat):Int) - 1=op by omega] at this
  simp only [ZaQ,ZbH,Tah,Tbc] at h
  cases hd:decB op with
  | nil=>exact this.2 hd
  | cons c l =>
   rw [hd] at h this
   simp only [Taf,List.cons.injEq] at h
   exact this.1 (by rw [<- h.1];rfl)
 | .mk op nm so args::xs,[],x,y,ha,_,h=>by
  exfalso
  simp only [Zdn,Zdc] at ha
  have:=ZlZ ⟨(op+1).toNat,by omega⟩
  rw [show (((op+1).toNat:Nat):Int) - 1=op by omega] at this
  simp only [ZaQ,ZbH,Tah,Tbc] at h
  cases hd:decB op with
  | nil=>exact this.2 hd
  | cons c l =>
   rw [hd] at h this
   simp only [Taf,List.cons.injEq] at h
   exact this.1 (by rw [h.1];rfl)
 | a::xs,b::bs,x,y,ha,hb,h=>by
  simp only [Zdn] at ha hb
  simp only [ZaQ,Tbc] at h
  obtain ⟨e1,e2⟩:=Zhi a b _ _ ha.1 hb.1 h
  obtain ⟨f1,f2⟩:=Zl0 xs bs x y ha.2 hb.2 e2
  exact ⟨by rw [e1,f1],f2⟩
end
theorem Zvw {s:ByteArray} (h:Za2 s=true):NamB s:=by
 unfold Za2 at h
 simp only [Tar] at h
 have hn:=h.2
 unfold ZaT at hn
 rw [List.all_eq_true] at hn
 intro b hb
 rw [ByteArray.toList_eq] at hb
 obtain ⟨i,hi,rfl⟩:=List.getElem_of_mem hb
 have hi':i < s.size:=by simpa using hi
 have:=hn i (List.mem_range'_1.2 ⟨Taj _,by omega⟩)
 simp only [Tar,ZgQ,dif_pos hi'] at this
 exact this.1
mutual
theorem ZcK {g:Sgn} (hg:SgnOk g):∀ (t:Tm),ZaD g t->Zdc t
 | .mk op nm so args,h=>by
  have h2:ZcN g args:=by simp only [ZaD] at h;exact h.2.1
  have h1:Zcc g (.mk op nm so args):=by simp only [ZaD] at h;exact h.1
  have hl:=hg.len
  have hn:=hg.sorts.n8
  refine ⟨?_,?_,?_,?_,Zkd hg args h2⟩
  ·rcases h1 with h | ⟨o,d,h⟩
   ·have:op=-1:=h.1
    omega
   ·have:0<=op:=h.lo
    omega
  ·rcases h1 with h | ⟨o,d,h⟩
   ·have:op=-1:=h.1
    omega
   ·have h0:0<=op:=h.lo
    have:g.ops[op.toNat]?=some o:=h.at'
    have:=(Tad.1 this).1
    omega
  ·intro ho
   rcases h1 with h | ⟨o,d,h⟩
   ·have h4:0<=so:=h.2.2.1
    have h5:so < g.sorts.names.length:=h.2.2.2.1
    exact ⟨Zvw h.2.1,h4,by omega⟩
   ·have:0<=op:=h.lo
    omega
  ·intro ho
   rcases h1 with h | ⟨o,d,h⟩
   ·have:op=-1:=h.1
    omega
   ·exact ⟨h.nm,h.so⟩
theorem Zkd {g:Sgn} (hg:SgnOk g):∀ (ts:List Tm),ZcN g ts->Zdn ts
 | [],_=>trivial
 | t::ts,h=>by
  simp only [ZcN] at h
  exact ⟨ZcK hg t h.1,Zkd hg ts h.2⟩
end
def keyS (t:Tm):ByteArray:=⟨(ZbH t).toArray⟩
theorem Zl1 {g:Sgn} (hg:SgnOk g) {a b:Tm} (ha:ZaD g a) (hb:ZaD g b) (h:(keyS a).toList=(keyS b).toList):a=b:=by
 rw [ByteArray.toList_eq,ByteArray.toList_eq] at h
 simp only [keyS] at h
 exact (Zhi a b [] [] (ZcK hg a ha) (ZcK hg b hb) (by rw [List.append_nil,List.append_nil];exact h)).1
def Zhj (P:Program) (s d:TypeId):Bool:=match P.underlying s,P.underlying d with
 | some (.slice e),some .string=>match P.underlying e with
  | some (.int .u8)=>true
  | _=>false
 | _,_=>false
section
variable {e:Env} {σ:St} {o:Oper} {K:St->Prop}
end
section
variable {P:Program} {w:World}
theorem Zul (ts:Array TypeId) (t ty e:TypeId) (i:TypeInfo) (z:Value) (h0:ts[0]?=some t) {t2:TypeId} (h1:ts[1]?=some t2) (ht2:P.underlying t2=some .string) (ht:P.underlying t=some (.slice e)) (hi:P.info? e=some i) (hz:i.zero=some z) (b:Option Addr) (sLen sCap:Nat) (olds:List Value) (x:Value) (n:Nat) (news:List Value)
  (hln:(Builtin.lenOf x).run P w=.ok n w) (hfo:(Builtin.firstCells i.size sLen (.slice b sLen sCap)).run P w.drew=.ok olds.toArray w.drew) (hf:(Builtin.firstCells i.size n x).run P w.drew=.ok news.toArray w.drew) (hg:sCap < sLen+n) (h63:((sLen+n:Nat):Int)<=9223372036854775807) (hfit:Builtin.nextslicecap (sLen+n) sCap * i.bytes<=281474976710656) :
  (Builtin.append_ ts ty #[.slice b sLen sCap,x]).run P w=.ok (.slice (some ⟨w.heap.size,0,none⟩) (sLen+n) (grownCap w (sLen+n) sCap e)) (w.drew.alloc (.cells (olds.toArray++news.toArray++Builtin.zeroCells z.cells (grownCap w (sLen+n) sCap e - (sLen+n))) e)):=by
 have hn:¬ (sLen+n<=sCap):=by omega
 have h63':¬ (9223372036854775807 < ((sLen:Int)+(n:Int))):=by omega
 have h48':¬ (281474976710656 < Builtin.nextslicecap (sLen+n) sCap * i.bytes):=by omega
 have e1:olds.toArray++(news.toArray++Builtin.zeroCells z.cells (grownCap w (sLen+n) sCap e - (sLen+n)))=(olds++news).toArray++Builtin.zeroCells z.cells (grownCap w (sLen+n) sCap e - (sLen+n)):=by
  apply Array.toList_inj.1;simp
 unfold grownCap at e1
 simp [Builtin.append_,h0,h1,run_underlying ht,run_underlying ht2,sizeOf,typeInfo,zeroValue,hi,hz,hln,hn,h63',h48',Question.forced,hf,hfo,newRow,grownCap,e1]
theorem Zum (ts:Array TypeId) (t ty e:TypeId) (i:TypeInfo) (h0:ts[0]?=some t) {t2:TypeId} (h1:ts[1]?=some t2) (ht2:P.underlying t2=some .string) (ht:P.underlying t=some (.slice e)) (hi:P.info? e=some i) (g sLen sCap:Nat) (cur:Array Value) (hg:w.heap[g]?=some (.cells cur e (0,0))) (x:Value) (n:Nat) (news:List Value)
  (hln:(Builtin.lenOf x).run P w=.ok n w) (hf:(Builtin.firstCells i.size n x).run P w=.ok news.toArray w) (hone:∀ u∈news,u.oneCell'=true) (hroom:sLen+n<=sCap) (hfit:sLen * i.size+news.length<=cur.size) :
  (Builtin.append_ ts ty #[.slice (some ⟨g,0,none⟩) sLen sCap,x]).run P w=.ok (.slice (some ⟨g,0,none⟩) (sLen+n) sCap) (w.setRow g (cur.toList.take (sLen * i.size)++news++cur.toList.drop (sLen * i.size+news.length)).toArray):=by
 have hst:=run_storeCells_at P g (sLen * i.size) e news 0 cur w hg (by simpa using hfit) hone
 simp only [Nat.add_zero] at hst
 simp [Builtin.append_,h0,h1,run_underlying ht,run_underlying ht2,sizeOf,typeInfo,hi,hln,hroom,hf,Addr.add_lit,hst]
theorem Zun (ts:Array TypeId) (t ty e:TypeId) (i:TypeInfo) (h0:ts[0]?=some t) {t2:TypeId} (h1:ts[1]?=some t2) (ht2:P.underlying t2=some .string) (ht:P.underlying t=some (.slice e)) (hi:P.info? e=some i) (b:Option Addr) (x:Value)
  (hln:(Builtin.lenOf x).run P w=.ok 0 w) (hf:(Builtin.firstCells i.size 0 x).run P w=.ok #[] w) :
  (Builtin.append_ ts ty #[.slice b 0 0,x]).run P w=.ok (.slice b 0 0) w:=by
 cases b <;> simp [Builtin.append_,h0,h1,run_underlying ht,run_underlying ht2,sizeOf,typeInfo,hi,hln,hf,storeCells]
end
section
variable {e:Env} {U:Nat->Prop} {w0:World} {S0:Nat->Prop} {nt:Nat} {σ:St} {a:Act} {w:World} {S:Nat->Prop} {L:Lay} {o:Oper}
theorem ZmL (he:e.Ok) (hC:Cls e U w0.heap.size S0 σ.m w S L) {ts:Array TypeId} {t ty:TypeId} {ety sz by':Nat} (h0:ts[0]?=some t) {t2:TypeId} (h1:ts[1]?=some t2) (ht2:e.P.underlying t2=some .string) (hb:ZaF e.P t=some (ety,sz,by')) {rows ys:List (List C)} {v u:Value}
  (hv:ZaG w S ety sz rows v∨(DRel w S (.clip rows) v∧(rows=[]∨ys≠[]))) (hrl:rowsLen sz rows) (hyl:rowsLen sz ys) (hle:rows.length+ys.length<=maxApp)
  (hy:∃ (news:List Value),(∀ w',(Builtin.lenOf u).run e.P w'=.ok ys.length w')∧Zaa w S ys.flatten news∧∀ (P:Program) (w':World),(∀ p,w'.cell? p=w.cell? p)->(Builtin.firstCells sz ys.length u).run P w'=.ok news.toArray w') :
  ∃ v' w',(Builtin.append_ ts ty #[v,u]).run e.P w=.ok v' w'∧ZaG w' S ety sz (rows++ys) v'∧∃ τ:Option Nat,Kept e.D (fun b=>τ=some b) w.heap.size w w'∧(∀ g,τ=some g->vblk v=some g∧ZaG w S ety sz rows v)∧(∀ g,vblk v'=some g->τ=some g∨w.heap.size<=g):=by
 obtain ⟨i,z,hu,hi,hz,hsz,hby,hzs,hs0,hb4⟩:=Zb8 hb
 obtain ⟨news,hln,hnews,hf⟩:=hy
 have hnl:news.length=ys.length * sz:=by rw [hnews.len,Zbi hyl]
 have hone:=Zc5 (Zg6 hyl) hnews
 have hm30:rows.length+ys.length<=1073741824:=hle
 have hbytes:(rows.length+ys.length) * i.bytes<=140737488355328:=by
  have h2:(rows.length+ys.length) * i.bytes<=1073741824 * 4096:=Nat.mul_le_mul hm30 om
  omega
 have hrl2:rowsLen sz (rows++ys):=hrl.append hyl
 have grow:∀ (b:Option Addr) (cap:Nat) (olds:List Value),v=.slice b rows.length cap->cap < rows.length+ys.length->Zaa w S rows.flatten olds->(∀ (P:Program) (w':World),(∀ p,w'.cell? p=w.cell? p)->(Builtin.firstCells sz rows.length v).run P w'=.ok olds.toArray w') ->
   ∃ v' w',(Builtin.append_ ts ty #[v,u]).run e.P w=.ok v' w'∧ZaG w' S ety sz (rows++ys) v'∧∃ τ:Option Nat,Kept e.D (fun b=>τ=some b) w.heap.size w w'∧(∀ g,τ=some g->vblk v=some g∧ZaG w S ety sz rows v)∧(∀ g,vblk v'=some g->τ=some g∨w.heap.size<=g):=by
  intro b cap olds hv hlt hol hfo
  have h63:rows.length+ys.length<=maxLen:=by unfold maxLen;omega
  have hrun:=Zul ts t ty ety i z h0 h1 ht2 hu hi hz b rows.length cap olds u ys.length news (hln w) (by rw [hsz,<- hv];exact hfo _ _ (Zfd w)) (by rw [hsz];exact hf _ _ (Zfd w)) hlt om (growslice_fits om hbytes)
  rw [<- hv] at hrun
  have hge:=grownCap_ge w (rows.length+ys.length) cap ety
  have hcm:=grownCap_le_maxLen w (rows.length+ys.length) cap ety h63
  generalize hcap:grownCap w (rows.length+ys.length) cap ety=nc at hrun hge hcm
  have hcl:olds.length=rows.length * sz:=by rw [hol.len,Zbi hrl]
  have hk:Kept e.D (fun b=>(none:Option Nat)=some b) w.heap.size w (w.drew.alloc (.cells (olds.toArray++news.toArray++Builtin.zeroCells z.cells (nc - (rows.length+ys.length))) ety)) :=
   ⟨rfl,rfl,rfl,fun _=>Nat.le_succ _,by simp,fun k hk _=>heap_alloc_old w.drew _ hk⟩
  have hheap:=heap_alloc_new w.drew (.cells (olds.toArray++news.toArray++Builtin.zeroCells z.cells (nc - (rows.length+ys.length))) ety)
  have hsW:(w.drew.alloc (.cells (olds.toArray++news.toArray++Builtin.zeroCells z.cells (nc - (rows.length+ys.length))) ety)).heap.size=w.heap.size+1:=by simp
  have e1:olds.toArray++news.toArray++Builtin.zeroCells z.cells (nc - (rows.length+ys.length))=((olds++news)++(Builtin.zeroCells z.cells (nc - (rows.length+ys.length))).toList).toArray:=by
   apply Array.toList_inj.1;simp
  rw [e1] at hrun hk hheap hsW
  generalize w.drew.alloc (.cells ((olds++news)++(Builtin.zeroCells z.cells (nc - (rows.length+ys.length))).toList).toArray ety)=W at hrun hk hheap hsW
  refine ⟨_,_,hrun,?_,none,hk,by simp,fun g hg=>?_⟩
  ·have hlen:rows.length+ys.length=(rows++ys).length:=by simp
   rw [hlen]
   refine Zgx (w:=w) (cells:=olds++news) (rest:=(Builtin.zeroCells z.cells (nc - (rows.length+ys.length))).toList) (n:=0) hs0 hrl2 hk.size (fun b o hs=>Za6 (hk.block b (hC.sin b hs).1 (by simp)) o) ?_ (by simp;omega) hcm om (g:=w.heap.size) om (fun hs=>by have:=(hC.sin _ hs).1;omega) ?_ ?_
   ·rw [List.flatten_append];exact Zaa.app hol hnews
   ·exact hheap
   ·simp only [Tae,Array.length_toList,size_zeroCells,hzs,hcl,hnl,<- Nat.add_mul]
    congr 1
    omega
  ·simp only [vblk] at hg
   split at hg
   ·cases hg
   ·injection hg with hg;exact .inr om
 have stay:∀ (b:Option Addr),rows=[]->ys=[]->v=.slice b 0 0->∃ v' w',(Builtin.append_ ts ty #[v,u]).run e.P w=.ok v' w'∧ZaG w' S ety sz (rows++ys) v'∧∃ τ:Option Nat,Kept e.D (fun b=>τ=some b) w.heap.size w w'∧(∀ g,τ=some g->vblk v=some g∧ZaG w S ety sz rows v)∧(∀ g,vblk v'=some g->τ=some g∨w.heap.size<=g):=by
  intro b hr hy hvb
  subst hr hy
  have hn0:news=[]:=Tao (by simpa using hnl)
  have hrun:=Zun (P:=e.P) (w:=w) ts t ty ety i h0 h1 ht2 hu hi b u (hln w) (by rw [hsz];have:=hf e.P w (fun _=>rfl);rw [hn0] at this;simpa using this)
  rw [hvb]
  refine ⟨_,_,hrun,⟨hs0,by simpa using rowsLen.nil,.inl ⟨by simp,b,rfl⟩⟩,none,Kept.refl _ _ _ _,by simp,fun g hg=>?_⟩
  cases b <;> simp [vblk] at hg
 rcases hv with hv | ⟨hv,hne⟩
 ·have hv0:=hv
  obtain ⟨_,_,h3⟩:=hv
  rcases h3 with ⟨hr,b,hvb⟩ | ⟨g,cap,cur,hvb,hc,hg,hs,hh,hlc,hm,hcs,hr⟩
  ·by_cases hy0:ys=[]
   ·exact stay b hr hy0 hvb
   ·have hyl0:0 < ys.length:=List.length_pos_iff.2 hy0
    subst hr
    refine grow b 0 [] hvb (by simpa using hyl0) (by simp [Zaa]) (fun P w' _=>?_)
    rw [hvb]
    cases b <;> simp [Builtin.firstCells,loadCells,loadCellsFrom]
  ·by_cases hroom:rows.length+ys.length<=cap
   ·have hfit:rows.length * i.size+news.length<=cur.size:=by rw [hnl,hsz,hcs,<- Nat.add_mul];exact Nat.mul_le_mul_right _ hroom
    have hrun:=Zum (P:=e.P) (w:=w) ts t ty ety i h0 h1 ht2 hu hi g rows.length cap cur hh u ys.length news (hln w) (by rw [hsz];exact hf _ _ (fun _=>rfl)) hone hroom hfit
    rw [<- hvb] at hrun
    rw [hsz] at hrun hfit
    have hput:=ZdC w g (rows.length * sz) ety news cur hh hfit
    have hheap:=setRow_heap w g cur (cur.toList.take (rows.length * sz)++news++cur.toList.drop (rows.length * sz+news.length)).toArray ety _ hh
    have hdr:(w.setRow g (cur.toList.take (rows.length * sz)++news++cur.toList.drop (rows.length * sz+news.length)).toArray).drawn=w.drawn:=ZcW _ _ _
    generalize hW:w.setRow g (cur.toList.take (rows.length * sz)++news++cur.toList.drop (rows.length * sz+news.length)).toArray=W at hrun hput hheap hdr
    have hszW:W.heap.size=w.heap.size:=hput.size
    have hkc:∀ b o,S b->W.cell? ⟨b,o,none⟩=w.cell? ⟨b,o,none⟩:=fun b o hsb=>Za6 (hput.other b (fun e=>hs (e ▸ hsb))) o
    refine ⟨_,_,hrun,⟨hs0,hrl2,.inr ⟨g,cap,_,by simp,hc,by omega,hs,hheap,by simpa using hroom,hm,by simp;omega,?_⟩⟩,some g,⟨hput.os,hput.tape,hput.output,fun _=>Nat.le_of_eq hdr.symm,by omega,fun b hb hE=>hput.other b (fun eq=>hE (by rw [eq]))⟩,fun q hq=>?_,fun q hq=>?_⟩
    ·apply Zai.of_flat
     rw [List.flatten_append]
     have r1:=Zac.keepAt (S':=S) om hkc (fun _ h=>h) g 0 rows.flatten (fun j hj=>hput.old _ (.inl (by rw [Zbi hrl] at hj;omega))) hr.flat
     refine Zac.append _ _ 0 r1 ?_
     rw [Zbi hrl,Nat.zero_add]
     exact Zac.of_vals _ news _ (Zaa.keep2 om hkc (fun _ h=>h) hnews) hput.new
    ·injection hq with hq;subst hq
     exact ⟨by rw [hvb];simp only [vblk];rw [if_neg om],hv0⟩
    ·simp only [vblk] at hq
     rw [if_neg om] at hq
     exact .inl hq
   ·obtain ⟨b',cap',olds,q1,_,_,q2,q3⟩:=Zgw hv0
    rw [hvb] at q1
    injection q1 with e1 e2 e3
    exact grow _ _ olds hvb om q2 q3
 ·obtain ⟨hrep,b,n,hvb⟩:=hv
  obtain ⟨b',cap',olds,q1,q2,q3,q4,q5⟩:=Zfc hrl hrep
  rw [hvb] at q1
  injection q1 with e1 e2 e3
  by_cases hy0:ys=[]
  ·have hr:rows=[]:=by
    rcases hne with h | h
    ·exact h
    ·exact absurd hy0 h
   refine stay b hr hy0 ?_
   rw [hvb]
   have:n=0:=by rw [e2,hr];rfl
   rw [this]
  ·have hyl0:0 < ys.length:=List.length_pos_iff.2 hy0
   exact grow b n olds (by rw [hvb,e2]) om q4 q5
end
def byR (s:ByteArray):List (List C):=s.data.toList.map fun b=>[.lit (.int .u8 b.toNat)]
theorem ZcO (s:ByteArray):(byR s).length=s.size:=by rw [byR,Taw,Array.length_toList];rfl
theorem Zl2 (s:ByteArray):rowsLen 1 (byR s):=fun r hr=>by
 obtain ⟨b,_,rfl⟩:=Tbf.1 hr
 exact ⟨rfl,rfl⟩
theorem Zhk (s t:ByteArray):byR s++byR t=byR (s++t):=by
 rw [byR,byR,byR,<- Tbr]
 congr 1
theorem Zvx (s:ByteArray):(byR s).flatten=(Lib.strCells s).map C.lit:=by
 rw [byR,Lib.strCells,List.map_map]
 induction s.data.toList with
 | nil=>rfl
 | cons b l ih=>simp only [Tbq,List.flatten_cons,ih,Taf,Tah];rfl
theorem ZgZ {w:World} {S:Nat->Prop}:∀ vs:List Value,Zaa w S (vs.map C.lit) vs
 | []=>by simp [Zaa]
 | v::vs=>by simp only [Tbq,Zaa,Rep];exact ⟨trivial,ZgZ vs⟩
section
variable {e:Env} {K:St->Prop} {ds:List (Option Nat)} {os:List Oper} {s:List (Nat × A)} {m:List (Nat × Bk)}
theorem Zuo {σ:St} {o:Oper} {x y:Operand} {t t2 ety by' k d:Nat} {rows:List (List C)} {oa:Option (Option Addr × Nat)} {str:ByteArray} (ho:o.op=.call ⟨.builtin .append,#[x,y],#[t,t2]⟩) (hdd:o.dst=some d) (hb:ZaF e.P t=some (ety,1,by')) (ht2:e.P.underlying t2=some .string)
  (hx:evA σ.s x=.buf k) (hm:gm σ.m k=some (.buf oa ety 1 rows)) (hy:evA σ.s y=.d (.one (.lit (.string str)))) (hle:rows.length+(byR str).length<=maxApp) (hK:K ⟨(d,.buf d)::Zao d (Zao k σ.s),(d,.buf none ety 1 (rows++byR str))::remM d (remM k σ.m)⟩):Zbc e o σ K:=by
 intro he U w0 S0 nt a w Q hd ⟨S,L,h⟩
 have hx':a.eval x=L.v k:=by have:=h.eval x;rw [hx] at this;exact this
 have hy':a.eval y=.string str:=by have:=h.eval y;rw [hy] at this;simpa [ARel,DRel,Rep] using this
 have ho':ZaG w S ety 1 rows (L.v k):=(h.cls.own k _ hm).2
 obtain ⟨v',w',hrun,hbuf,τ,hk,hτ,hblk⟩:=ZmL (ty:=o.type) (ts:=#[t,t2]) (v:=L.v k) (u:=.string str) he h.cls rfl rfl ht2 hb (.inl ho') ho'.2.1 (Zl2 str) hle
  ⟨Lib.strCells str,fun w'=>by simp [Builtin.lenOf,ZcO],by rw [Zvx];exact ZgZ _,fun P w' _=>by rw [ZcO];exact Lib.run_firstCells_string w' 1 str⟩
 unfold Oper.wp
 have hr2:(execOp a.eval o).run e.P w=.ok (.value v') w':=by
  simp [execOp,ho,resolve,invoke,builtin,hx',hy',hrun,Result.andThen]
 rw [hr2,Oper.upon_value,hdd]
 refine ⟨_,hK,h.born he (hd d hdd) (τ:=τ) (b':=0) (v':=v') (s1:=Zao k σ.s) (m1:=remM k σ.m) (fun _ h=>h) (fun _ h=>.inl h) (fun t=>?_) (fun k' x hx=>?_) (fun g hg=>?_) (fun k' x g hkd hx hg hb'=>?_) hk ?_ (fun g hg=>?_) (by simp [ARel])⟩
 ·rcases ZdW k t σ.s with ⟨h1,_⟩ | h1
  ·exact .inl h1
  ·exact .inr h1
 ·rw [ZaO] at hx
  split at hx
  ·cases hx
  ·exact hx
 ·have hg':=(hτ g hg).1
  exact ⟨(Own1.lt (k:=k) (L:=L) (bk:=.buf none ety 1 rows) ⟨by simp,ho'⟩ hg').2,h.cls.notE hm hg',h.cls.mine k _ g hm hg'⟩
 ·have hg':=(hτ g hg).1
  rw [ZaO] at hx
  split at hx
  ·cases hx
  ·rename_i hne'
   exact hne' (h.cls.inj k' k x _ g hx hm hb' hg')
 ·simp only [Own1,if_true];exact ⟨by simp,hbuf⟩
 ·simp only [ZaB,if_true] at hg
  exact hblk g hg
theorem Zke:∀ (l:List UInt8) (acc:ByteArray),(l.map fun b=>(b.toNat:Int)).foldl (fun r n=>r.push (UInt8.ofNat n.toNat)) acc=⟨acc.data++l.toArray⟩
 | [],acc=>by simp
 | b::l,acc=>by
  rw [Tbq,List.foldl_cons,Zke l]
  have hb:UInt8.ofNat ((b.toNat:Int)).toNat=b:=by simp
  rw [hb]
  simp [ByteArray.push]
theorem Zvy (s:ByteArray):(s.data.toList.map fun b=>(b.toNat:Int)).foldl (fun r n=>r.push (UInt8.ofNat n.toNat)) ByteArray.empty=s:=by
 rw [Zke]
 show (⟨#[]++s.data.toList.toArray⟩:ByteArray)=s
 simp
theorem ZmM {σ:St} {o:Oper} {t d:TypeId} {x:Operand} {k ety:Nat} {oa:Option (Option Addr × Nat)} {str:ByteArray} (ho:o.op=.convert t d x) (hx:evA σ.s x=.buf k) (hm:gm σ.m k=some (.buf oa ety 1 (byR str))) (ht:Zhj e.P t d=true) (hK:K ⟨setA σ.s o.dst (.d (.one (.lit (.string str)))),σ.m⟩):Zbc e o σ K:=by
 intro he U w0 S0 nt a w Q hd ⟨S,L,h⟩
 have hx':a.eval x=L.v k:=by have:=h.eval x;rw [hx] at this;exact this
 have ho':ZaG w S ety 1 (byR str) (L.v k):=(h.cls.own k _ hm).2
 have hrun:(convert t d (L.v k)).run e.P w=.ok (.string str) w:=by
  unfold Zhj at ht
  split at ht
  ·rename_i e1 h1 h2
   split at ht
   ·rename_i h3
    have key:∀ (b:Option Addr) (cap:Nat),L.v k=.slice b str.size cap->(∀ ad,b=some ad->(loadCells ad str.size).run e.P w=.ok ((str.data.toList.map fun b=>(b.toNat:Int)).map (Value.int .u8)).toArray w)->(b=none->str.size=0)->(convert t d (L.v k)).run e.P w=.ok (.string str) w:=fun b cap hv hl hn=>by
     rw [hv,run_convert_bytes_string w t d e1 b _ cap h1 h3 h2]
     cases b with
     | none =>
      have h0:=hn rfl
      have:str=ByteArray.empty:=by
       cases str with
       | mk data=>simp only [ByteArray.size] at h0;rw [Array.eq_empty_of_size_eq_zero h0];rfl
      rw [this]
      simp [Conv.bytesToString]
     | some ad =>
      rw [run_bytesToString w ad _ cap _ (hl ad rfl),Zvy]
    rcases ho'.2.2 with ⟨hr,b,hv⟩ | ⟨g,cap,cur,hv,hc,hg,hs,hh,hlc,hmx,hcs,hr⟩
    ·have h0:str.size=0:=by rw [<- ZcO,hr];rfl
     have hd0:str.data.toList=[]:=Tao (by rw [Array.length_toList];exact h0)
     refine key b 0 (by rw [hv,h0]) (fun ad _=>?_) (fun _=>h0)
     rw [h0,hd0]
     simp [loadCells,loadCellsFrom]
    ·rw [ZcO] at hv
     refine key _ cap hv (fun ad had=>?_) (fun hb=>by cases hb)
     injection had with had
     subst had
     have hl:=run_loadCells_list (P:=e.P) w ⟨g,0,none⟩ ((str.data.toList.map fun b=>(b.toNat:Int)).map (Value.int .u8)) (fun j u hj=>by
      rw [Tay,Tay] at hj
      obtain ⟨b,hb,rfl⟩:∃ b,str.data.toList[j]?=some b∧u=.int .u8 b.toNat:=by
       cases hq:str.data.toList[j]? with
       | none=>rw [hq] at hj;cases hj
       | some b=>rw [hq] at hj;injection hj with hj;exact ⟨b,rfl,hj.symm⟩
      have h1:=Zai.get (byR str) 0 j [.lit (.int .u8 b.toNat)] (k:=1) (fun z hz=>(Zl2 str z hz).1) hr (by rw [byR,Tay,hb];rfl)
      rw [Addr.add_at]
      simpa [Zac,Rep] using h1)
     rw [Taw,Taw,Array.length_toList] at hl
     exact hl
   ·cases ht
  ·cases ht
 unfold Oper.wp
 have hr2:(execOp a.eval o).run e.P w=.ok (.value (.string str)) w:=by
  simp [execOp,ho,hx',hrun,Result.andThen]
 rw [hr2,Oper.upon_value]
 exact ⟨_,hK,S,L,h.put (α:=.d (.one (.lit (.string str)))) (by simp [ARel,DRel,Rep]) hd⟩
theorem gSt {d t t2 ty ety by' k:Nat} {p:String} {ed:Array Edge} {x y:Operand} {rows:List (List C)} {oa:Option (Option Addr × Nat)} {str:ByteArray} {s2:List (Nat × A)} {m2:List (Nat × Bk)} (hle:rows.length+(byR str).length<=maxApp) (ht2:e.P.underlying t2=some .string) (hK:Runs e ds 0 os ⟨(d,.buf d)::s2,(d,.buf none ety 1 (rows++byR str))::m2⟩ K)
  (hb:ZaF e.P t=some (ety,1,by'):=by exact sfx) (hx:evA s x=.buf k:=by exact sfx) (hm:gm m k=some (.buf oa ety 1 rows):=by exact snx) (hy:evA s y=.d (.one (.lit (.string str))):=by exact sfx)
  (hs:Zao d (Zao k s)=s2:=by exact snv) (hr:remM d (remM k m)=m2:=by exact snv):Runs e ds 0 (⟨some d,.call ⟨.builtin .append,#[x,y],#[t,t2]⟩,ty,p,ed,none⟩::os) ⟨s,m⟩ K:=by
 subst hs hr
 simp only [Runs] at hK ⊢
 exact Zck rfl (Zuo rfl rfl hb ht2 hx hm hy hle hK)
theorem gTx {d t1 t2 ty ety k:Nat} {p:String} {ed:Array Edge} {x:Operand} {oa:Option (Option Addr × Nat)} (str:ByteArray) (ht:Zhj e.P t1 t2=true) (hK:Runs e ds 0 os ⟨(d,.d (.one (.lit (.string str))))::s,m⟩ K) (hx:evA s x=.buf k:=by exact sfx) (hm:gm m k=some (.buf oa ety 1 (byR str)):=by exact snx):Runs e ds 0 (⟨some d,.convert t1 t2 x,ty,p,ed,none⟩::os) ⟨s,m⟩ K:=by
 simp only [Runs] at hK ⊢
 exact Zck rfl (ZmM (o:=⟨some d,.convert t1 t2 x,ty,p,ed,none⟩) rfl hx hm ht hK)
end
theorem Up.get {l:List Tm} (h:Up l) {i j:Nat} {x y:Tm} (hij:i<=j) (hx:l[i]?=some x) (hy:l[j]?=some y):Zas x y<=0:=by
 rcases Nat.lt_or_ge i j with hl | hl
 ·obtain ⟨h1,rfl⟩:=Tad.1 hx
  obtain ⟨h2,rfl⟩:=Tad.1 hy
  exact List.pairwise_iff_getElem.1 h i j h1 h2 hl
 ·obtain rfl:i=j:=by omega
  rw [hx] at hy
  injection hy with hy
  subst hy
  rw [ZdQ];omega
theorem Zg0 {l:List Tm} {k:Nat} {x:Tm} (h:x∈l.take k):∃ i,i < k∧l[i]?=some x:=by
 obtain ⟨i,hi⟩:=Tbh h
 rw [List.getElem?_take] at hi
 split at hi
 ·exact ⟨i,by assumption,hi⟩
 ·cases hi
theorem Zg1 {l:List Tm} {k:Nat} {x:Tm} (h:x∈l.drop k):∃ i,k<=i∧l[i]?=some x:=by
 obtain ⟨i,hi⟩:=Tbh h
 rw [List.getElem?_drop] at hi
 exact ⟨k+i,by omega,hi⟩
theorem Up.append {l m:List Tm} (hl:Up l) (hm:Up m) (h:∀ x∈l,∀ y∈m,Zas x y<=0):Up (l++m):=List.pairwise_append.2 ⟨hl,hm,h⟩
theorem Up.left {l m:List Tm} (h:Up (l++m)):Up l:=(List.pairwise_append.1 h).1
theorem Up.take {l:List Tm} (h:Up l) (k:Nat):Up (l.take k):=List.Pairwise.sublist (List.take_sublist k l) h
theorem Up.drop {l:List Tm} (h:Up l) (k:Nat):Up (l.drop k):=List.Pairwise.sublist (List.drop_sublist k l) h
theorem Up.put {B:List Tm} {x:Tm} (hB:Up B) {s:Nat} (h1:0 < s->∃ y,B[s - 1]?=some y∧Zas y x<=0) (h2:s < B.length->∃ y,B[s]?=some y∧Zas x y<=0):Up (B.take s++x::B.drop s):=by
 have k2:∀ z∈B.drop s,Zas x z<=0:=fun z hz=>by
  obtain ⟨i,hi,hz⟩:=Zg1 hz
  have hl:=(Tad.1 hz).1
  obtain ⟨y,hy,hc⟩:=h2 om
  exact ZfF hc (hB.get hi hy hz)
 have k1:∀ z∈B.take s,Zas z x<=0:=fun z hz=>by
  obtain ⟨i,hi,hz⟩:=Zg0 hz
  obtain ⟨y,hy,hc⟩:=h1 om
  exact ZfF (hB.get om hz hy) hc
 refine (hB.take s).append (List.pairwise_cons.2 ⟨k2,hB.drop s⟩) fun z hz u hu=>?_
 rcases Tbd.1 hu with rfl | hu
 ·exact k1 z hz
 ·obtain ⟨i,hi,hz⟩:=Zg0 hz
  obtain ⟨j,hj,hu⟩:=Zg1 hu
  exact hB.get om hz hu
inductive Blks (k:Nat):List Tm->Prop where
 | last {l:List Tm} (hl:l.length<=k) (hu:Up l):Blks k l
 | cons {X r:List Tm} (hl:X.length=k) (hu:Up X) (hr:Blks k r):Blks k (X++r)
inductive Full (k:Nat):List Tm->Prop where
 | nil:Full k []
 | cons {X r:List Tm} (hl:X.length=k) (hu:Up X) (hr:Full k r):Full k (X++r)
theorem Full.snoc {k:Nat} {X Z:List Tm} (h:Full k X) (hl:Z.length=k) (hu:Up Z):Full k (X++Z):=by
 induction h with
 | nil=>have:=Full.cons hl hu Full.nil;rwa [List.append_nil] at this
 | cons h1 h2 _ ih=>rw [Tbc];exact .cons h1 h2 ih
theorem Blks.up {k:Nat} {l:List Tm} (h:Blks k l) (hl:l.length<=k):Up l:=by
 cases h with
 | last h1 h2=>exact h2
 | @cons X r h1 h2 h3 =>
  rw [Tae] at hl
  have:r=[]:=Tao om
  subst this
  rwa [List.append_nil]
theorem Blks.split {k:Nat} {l:List Tm} (h:Blks k l) (hl:k < l.length):∃ X r,l=X++r∧X.length=k∧Up X∧Blks k r:=by
 cases h with
 | last h1 h2=>omega
 | cons h1 h2 h3=>exact ⟨_,_,rfl,h1,h2,h3⟩
theorem Blks.two {k:Nat} {l:List Tm} (h:Blks k l) (hk:0 < k) (hl:2 * k<=l.length):∃ A B r,l=A++B++r∧A.length=k∧B.length=k∧Up A∧Up B∧Blks k r:=by
 obtain ⟨A,r,rfl,h1,h2,h3⟩:=h.split om
 rw [Tae] at hl
 rcases Nat.lt_or_ge k r.length with h4 | h4
 ·obtain ⟨B,r',rfl,h5,h6,h7⟩:=h3.split h4
  exact ⟨A,B,r',by rw [Tbc],h1,h5,h2,h6,h7⟩
 ·exact ⟨A,r,[],by rw [List.append_nil],h1,by omega,h2,h3.up h4,.last (by simp) List.Pairwise.nil⟩
section
variable {e:Env} {ops:Array Oper} {K:St->Prop}
end
section
variable {e:Env} {K:St->Prop} {mask:Nat} {Q:PX->St->Prop} {s:List (Nat × A)} {m:List (Nat × Bk)}
end
section
variable {e:Env} {K:St->Prop} {s:List (Nat × A)} {m:List (Nat × Bk)}
end
theorem ZzR (j:Int):Ziw j (some (.int .u64)) (some .i64)=some (.d (.one (.lit (.int .i64 (IntKind.i64.wrap j))))):=rfl
theorem toNat_one:Int.toNat 1=1:=rfl
def decS (i:Int):ByteArray:=⟨(decB i).toArray⟩
theorem Zup {i:Int} (h0:0<=i) (h1:i < 14):Con e0 322 [.one (.lit (.int .i64 i))] [.one (.lit (.string (decS i)))]:=by
 have h:i=0∨i=1∨i=2∨i=3∨i=4∨i=5∨i=6∨i=7∨i=8∨i=9∨i=10∨i=11∨i=12∨i=13:=by omega
 rcases h with rfl | rfl | rfl | rfl | rfl | rfl | rfl | rfl | rfl | rfl | rfl | rfl | rfl | rfl
 all_goals (
  have w1:IntKind.i64.wrap (0+1)=1:=by decide
  have w2:IntKind.i64.wrap (1+1)=2:=by decide
  have w3:IntKind.i64.wrap (2+1)=3:=by decide
  have w4:IntKind.i64.wrap (3+1)=4:=by decide
  have w5:IntKind.i64.wrap (4+1)=5:=by decide
  have w6:IntKind.i64.wrap (5+1)=6:=by decide
  have w7:IntKind.i64.wrap (6+1)=7:=by decide
  have w8:IntKind.i64.wrap (7+1)=8:=by decide
  have w9:IntKind.i64.wrap (8+1)=9:=by decide
  have wa:IntKind.i64.wrap (9+1)=10:=by decide
  have u0:IntKind.i64.wrap (10 * 2)=20:=by decide
  have u1:IntKind.i64.wrap (11 * 2)=22:=by decide
  have u2:IntKind.i64.wrap (12 * 2)=24:=by decide
  have u3:IntKind.i64.wrap (13 * 2)=26:=by decide
  have v0:IntKind.i64.wrap (20+2)=22:=by decide
  have v1:IntKind.i64.wrap (22+2)=24:=by decide
  have v2:IntKind.i64.wrap (24+2)=26:=by decide
  have v3:IntKind.i64.wrap (26+2)=28:=by decide
  refine gI (ts:=[.slot 2]) 21 Tryz.func322 ?_
  (have F:=ai @w1 (ai @w2 (ai @w3 (ai @w4 (ai @w5 (ai @w6 (ai @w7 (ai @w8 (ai @w9 (ai @wa (ai @u0 (ai @u1 (ai @u2 (ai @u3 (ai @v0 (ai @v1 (ai @v2 @v3))))))))))))))));refine gG ?_;exact gTd))
theorem Zzl (s:ByteArray):ZaE 1 (byR s)=true:=by
 unfold byR
 induction s.data.toList with
 | nil=>rfl
 | cons b l ih=>simp only [Tbq,ZfX,ih,Bool.and_true];rfl
def RBy (s:ByteArray) (r:List D) (pm:List Bk):Prop:=∃ a cap,r=[.one (.lit (.slice a (byR s).length cap))]∧pm=[.buf (some (a,cap)) 5 1 (byR s)]
theorem ZAh {P:Program} {t:TypeId} {a b:Int}:binT P .lss t (.int .u64 a) (.int .u64 b)=some (.bool (decide (a < b))):=rfl
theorem Zjw:ZcV (Tryz.prog.underlying 304)=some .u64:=by kernel_rfl
theorem ZAi:Tryz.prog.underlying 304=some (.int .u64):=by kernel_rfl
theorem Zpr:ZcV (Tryz.prog.underlying 2)=some .i64:=by kernel_rfl
theorem Zps:e0.P.underlying 9=some .string:=by kernel_rfl
theorem Zkf {i:Int} (h0:0<=i) (h1:i < 14) (s:ByteArray) (hl:s.size<=1000000) (a:Option Addr) (cap:Nat):ConP e0 304 [.one (.lit (.slice a (byR s).length cap)),.one (.lit (.int .u64 i)),.one (.lit (.int .i64 10))] [.buf (some (a,cap)) 5 1 (byR s)] (RBy (s++decS i)):=by
 have q1:(i < 100)=True:=eq_true om
 have w1:IntKind.i64.wrap i=i:=IntWalk.i64_in _ om
 have l1:(byR s).length+(byR (decS i)).length<=maxApp:=by
  rw [ZcO,ZcO]
  have:(decS i).size<=3:=by unfold decS decB decN;show (List.toArray _).size<=3;rw [List.size_toArray];split <;> split <;> simp
  unfold maxApp;omega
 refine gIP (ts:=[.slot 6]) [1000] 5575 Tryz.func304 ?_
 (have F:=ai @q1 (ai @ZAh @tmz);have NN:Zaj 3:=trivial;refine gGn ?_;clear F NN)
 refine gB ?_
 (have F:=ai @w1 (ai @Zjw (ai @ZAi (ai @ZlH (ai @ZzR @tmz))));refine gC (Zup h0 h1) ?_;clear F)
 refine gK 13 ?_
 refine (have F:=tmz;gSt l1 Zps ?_)
 rw [Zhk]
 refine gS 17 fun a2 cap2=>?_
 (have F:=@tmz;refine gR ?_;clear F)
 (have F:=@tmz;refine gG ?_;clear F)
 exact (have F:=tmz;gTP (R:=RBy (s++decS i)) [17] ⟨a2,cap2,rfl,rfl⟩)
theorem Zuq {i:Int} (h0:-1<=i) (h1:i < 14) (s:ByteArray) (hl:s.size<=100000) (a:Option Addr) (cap:Nat):ConP e0 276 [.one (.lit (.slice a (byR s).length cap)),.one (.lit (.int .i64 i)),.one (.lit (.int .i64 10))] [.buf (some (a,cap)) 5 1 (byR s)] (RBy (s++decS i)):=by
 refine gIP (ts:=[.slot 6]) [1000] 2247 Tryz.func276 ?_
 by_cases hn:i < 0
 ·obtain rfl:i=-1:=by omega
  have q1:((-1:Int) < 0)=True:=eq_true om
  have w1:IntKind.u64.wrap (-1)=18446744073709551615:=by decide
  have w2:IntKind.u64.wrap (0 - 18446744073709551615)=1:=by decide
  have l1:(byR s).length+1<=maxApp:=by rw [ZcO];unfold maxApp;omega
  have l2:ZaE 1 (byR s)=true:=Zzl s
  have e1:byR s++[[.lit (.int .u8 45)]]=byR (s++⟨#[45]⟩):=by rw [<- Zhk];rfl
  have e2:s++⟨#[45]⟩++decS 1=s++decS (-1):=by rw [ByteArray.append_assoc];rfl
  have cU:=fun a cap=>Zkf (i:=1) om om (s++⟨#[45]⟩) (by rw [ByteArray.size_append];show s.size+1<=_;omega) a cap
  rw [e2] at cU
  (have F:=ai @q1 (ai @w1 (ai @Zjw (ai @Zpr (ai @Zhd @tmz))));have NN:Zaj 3:=trivial;refine gGn ?_;clear F NN)
  refine gB ?_
  (have F:=ai @l1 (ai @l2 (ai @e1 @tmz));refine gR ?_;clear F)
  (have F:=ai @w2 (ai @Zz1 @tmz);have NN:Zaj 5:=trivial;refine gGn ?_;clear F NN)
  refine pS 0 fun a2 cap2=>?_
  refine gB ?_
  (have F:=@tmz;refine gCP [0] [1001] (cU a2 cap2) ?_;clear F)
  rintro r pm ⟨a3,cap3,rfl,rfl⟩
  simp only [setA,retA,zipM,Taf,Tah]
  (have F:=@tmz;refine gR ?_;clear F)
  (have F:=@tmz;refine gG ?_;clear F)
  exact (have F:=tmz;gTP (R:=RBy (s++decS (-1))) [1001] ⟨a3,cap3,rfl,rfl⟩)
 ·have q1:(i < 0)=False:=eq_false hn
  have w1:IntKind.u64.wrap i=i:=by
   have h:=@Int.emod_eq_of_lt
   unfold IntKind.wrap
   simp only [IntKind.signed,IntKind.bits]
   exact Int.emod_eq_of_lt om om
  have cU:=Zkf om h1 s om a cap
  (have F:=ai @q1 (ai @w1 (ai @Zjw (ai @Zpr (ai @Zhd @tmz))));have NN:Zaj 5:=trivial;refine gGn ?_;clear F NN)
  refine gB ?_
  (have F:=@tmz;refine gCP [1000] [1001] (cU) ?_;clear F)
  rintro r pm ⟨a3,cap3,rfl,rfl⟩
  simp only [setA,retA,zipM,Taf,Tah]
  (have F:=@tmz;refine gR ?_;clear F)
  (have F:=@tmz;refine gG ?_;clear F)
  exact (have F:=tmz;gTP (R:=RBy (s++decS i)) [1001] ⟨a3,cap3,rfl,rfl⟩)
theorem ZhN {i:Int} (h0:-1<=i) (h1:i < 14) (s:ByteArray) (hl:s.size<=100000) (a:Option Addr) (cap:Nat):ConP e0 212 [.one (.lit (.slice a (byR s).length cap)),.one (.lit (.int .i64 i)),.one (.lit (.int .i64 10))] [.buf (some (a,cap)) 5 1 (byR s)] (RBy (s++decS i)):=by
 refine gIP (ts:=[.slot 6]) [1000] 71 Tryz.func212 ?_
 (have F:=@tmz;have NN:Zaj 1:=trivial;refine gGn ?_;clear F NN)
 refine gB ?_
 (have F:=@tmz;refine gCP [1000] [1001] (Zuq h0 h1 s hl a cap) ?_;clear F)
 rintro r pm ⟨a3,cap3,rfl,rfl⟩
 simp only [setA,retA,zipM,Taf,Tah]
 (have F:=@tmz;refine gR ?_;clear F)
 (have F:=@tmz;refine gG ?_;clear F)
 exact (have F:=tmz;gTP (R:=RBy (s++decS i)) [1001] ⟨a3,cap3,rfl,rfl⟩)
def bs (l:List UInt8):ByteArray:=⟨l.toArray⟩
theorem ZiX (l m:List UInt8):bs l++bs m=bs (l++m):=by
 apply ByteArray.ext
 rw [ByteArray.data_append]
 simp [bs]
theorem Zhl (l:List UInt8):(bs l).size=l.length:=by show (List.toArray l).size=_;simp
theorem Zkg (s:ByteArray):bs s.toList=s:=by
 rw [ByteArray.toList_eq]
 unfold bs
 simp
theorem Zpt {i:Int} (h1:i < 100):(decB i).length<=3:=by
 unfold decB decN
 split <;> split <;> simp
mutual
theorem Zf9 {g:Sgn} (hg:SgnOk g):∀ (t:Tm),ZaD g t->(ZbH t).length<=22 * sizeTm t
 | .mk op nm so args,h=>by
  have h1:=Zkh hg args (by simp only [ZaD] at h;exact h.2.1)
  have hk:=ZcK hg _ h
  simp only [Zdc] at hk
  obtain ⟨k0,k1,k2,k3,_⟩:=hk
  have d1:=Zpt (i:=op) om
  simp only [ZbH,sizeTm,Tae,Tag,Tak]
  split
  ·have d2:=Zpt (i:=so) (by have:=(k2 om).2.2;omega)
   have hn:Za2 nm=true:=by
    rcases h.node with hv | ⟨o,d,hA⟩
    ·exact hv.2.1
    ·have:=hA.lo
     have:(Tm.mk op nm so args).op=op:=rfl
     omega
   have h4:¬ 12 < nm.size:=fun h=>by rw [Zb7 (.inr (.inl h))] at hn;cases hn
   have h5:nm.toList.length=nm.size:=by rw [ByteArray.toList_eq];exact Array.length_toList
   simp only [Tag,Tae]
   omega
  ·simp only [Tak]
   omega
theorem Zkh {g:Sgn} (hg:SgnOk g):∀ (ts:List Tm),ZcN g ts->(ZaQ ts).length<=22 * sizeTms ts
 | [],_=>by simp [ZaQ,sizeTms]
 | t::ts,h=>by
  simp only [ZcN] at h
  have h1:=Zf9 hg t h.1
  have h2:=Zkh hg ts h.2
  simp only [ZaQ,sizeTms,Tae]
  omega
end
theorem ZmN {l:List Tm} {i:Nat} {t:Tm} (h:l[i]?=some t):ZaQ (l.take (i+1))=ZaQ (l.take i)++ZbH t:=by
 rw [show l.take (i+1)=l.take i++[t] by simp [List.take_add_one,h],Zqb]
 simp [ZaQ]
theorem Zki:∀ (l:List Tm) (i:Nat),(ZaQ (l.take i)).length<=(ZaQ l).length
 | [],i=>by simp [ZaQ]
 | x::xs,0=>by simp [ZaQ]
 | x::xs,i+1=>by have:=Zki xs i;simp only [Taz,ZaQ,Tae];omega
theorem ZiY:∀ {ts:List Tm},Zdn ts->∀ t∈ts,Zdc t
 | _::_,h,t,ht=>by
  simp only [Zdn] at h
  rcases Tbd.1 ht with rfl | ht
  ·exact h.1
  ·exact ZiY h.2 t ht
def keyP (op:Int) (nm:ByteArray) (so:Int):List UInt8:=decB op++(if op < 0 then 58::(nm.toList++58::decB so) else [])
theorem ZzS (op:Int) (nm:ByteArray) (so:Int) (args:List Tm):ZbH (.mk op nm so args)=keyP op nm so++[40]++ZaQ args++[41]:=by
 simp [ZbH,keyP,Tbc]
theorem Zqc:Zat Tryz.prog 234=some .one:=by kernel_rfl
theorem Zzm:Zau Tryz.prog 234=some 1:=by kernel_rfl
theorem ZAD:Zaq Tryz.prog 234=some [.lit .nilFunc]:=by kernel_rfl
theorem ZAj:Zav (.lit .nilFunc)=true:=rfl
theorem ZAk {f:FuncId} {cs:List C}:Zav (.fn f cs)=true:=rfl
def ptrB (b:Nat):Value:=.pointer (some ⟨b,0,none⟩)
def RKey (bo bv:Nat) (f:FuncId) (s:ByteArray) (r:List D) (pm:List Bk):Prop:=∃ a cap,r=[]∧pm=[.var (some bo) [.lit (.slice a (byR s).length cap)],.buf (some (a,cap)) 5 1 (byR s),.var (some bv) [.fn f [.lit (ptrB bo),.lit (ptrB bv)]]]
theorem gTPk {X:Prop} {P:Program} {ts:List RS} {R:List D->List Bk->Prop} {σ:St} {r:List D} {pm:List Bk} (ks:List Nat) (hR:R r pm) (hx:ZkI P ts R .normal σ->X:=by first | exact fun h=>h | exact fun h=>⟨_,Wk.refl _,h⟩) (hr:resD P σ ts=some r:=by exact sfy) (hg:getM σ.m ks=some pm:=by exact sny) (hn:ks.Nodup:=by decide) (hp:pm.all pinned=true:=by simp only [pz,↓reduceIte,Nat.reduceEqDiff,Nat.reduceAdd,Nat.reduceSub,Nat.reduceMul,Nat.reduceLeDiff,Nat.reduceBEq,Tam,decide_true,decide_false,Int.reduceLE,Int.reduceToNat,Int.reduceLT,Int.reduceEq,eq_self,Nat.reduceShiftRight,Nat.reduceAnd,Nat.reduceBneDiff]):X :=
 hx ⟨r,ks,pm,hg,hn,hp,hR,ZfV hr⟩
theorem ZmO (t:Tm) (hk:Zdc t) (hsz:sizeTm t<=60) (l:List UInt8) (a:Option Addr) (cap bo bv:Nat) (hne:bo≠bv) (hl:l.length+(ZbH t).length<=90000)
  (h:∀ x∈t.args,∀ (l:List UInt8) (a:Option Addr) (cap:Nat),l.length+(ZbH x).length<=90000->ConP e0 211 [.agg (Zah x),.one (.lit (ptrB bo)),.one (.lit (ptrB bv))] [.var (some bo) [.lit (.slice a (byR (bs l)).length cap)],.buf (some (a,cap)) 5 1 (byR (bs l)),.var (some bv) [.fn 211 [.lit (ptrB bo),.lit (ptrB bv)]]] (RKey bo bv 211 (bs (l++ZbH x)))) :
  ConP e0 211 [.agg (Zah t),.one (.lit (ptrB bo)),.one (.lit (ptrB bv))] [.var (some bo) [.lit (.slice a (byR (bs l)).length cap)],.buf (some (a,cap)) 5 1 (byR (bs l)),.var (some bv) [.fn 211 [.lit (ptrB bo),.lit (ptrB bv)]]] (RKey bo bv 211 (bs (l++ZbH t))):=by
 obtain ⟨op,nm,so,args⟩:=t
 have hc:Zah (.mk op nm so args)=[.lit (.int .i64 op),.lit (.string nm),.lit (.int .i64 so),.sl (Zaf args)]:=by simp only [Zah]
 have hn1:(bo=bv)=False:=eq_false hne
 have hn2:(bv=bo)=False:=eq_false (fun e=>hne e.symm)
 simp only [Tm.args] at h
 have hsl:=Zby args
 simp only [sizeTm] at hsz
 simp only [ptrB] at h ⊢
 simp only [Zdc] at hk
 obtain ⟨k0,k1,k2,k3,k4⟩:=hk
 rw [ZzS] at hl ⊢
 simp only [Tae,Tag,Tak] at hl
 have rb:=fun l=>Zzl (bs l)
 have e0':bs l++decS op=bs (l++decB op):=ZiX _ _
 have c1:=ZhN k0 k1 (bs l) (by rw [Zhl];omega) a cap
 rw [e0'] at c1
 have hP:keyP op nm so=decB op++(if op < 0 then 58::(nm.toList++58::decB so) else []):=rfl
 have ap:=fun (l:List UInt8) (b:UInt8) (b':Int) (hb:b'=b.toNat)=>show byR (bs l)++[[.lit (.int .u8 b')]]=byR (bs (l++[b])) by rw [<- ZiX,<- Zhk,hb];rfl
 have ml:=fun (l:List UInt8) (hl:l.length<=90000)=>show ((byR (bs l)).length+1<=maxApp)=True from eq_true (by rw [ZcO,Zhl];unfold maxApp;omega)
 refine gIP (ts:=[]) [1001,1000,1002] 32212258863 Tryz.func211 ?_
 (have F:=@tmz;have NN:Zaj 1:=trivial;refine gGn ?_;clear F NN)
 refine gB ?_
 (have F:=ai @hc (ai @hn1 (ai @hn2 @tmz));refine gCP [1000] [1000] (c1) ?_;clear F)
 rintro r pm ⟨a1,cap1,rfl,rfl⟩
 simp only [setA,retA,zipM,Taf,Tah]
 (have F:=ai @hc (ai @hn1 (ai @hn2 @tmz));refine gR ?_;clear F)
 (have F:=ai @hc @tmz;refine gG ?_;clear F)
 refine gM (ι:=Option Addr × Nat) [] [1000,1001] (fun x=>[]) (fun x=>[(1001,.var (some bo) [.lit (.slice x.1 (byR (bs (l++keyP op nm so))).length x.2)]),(1000,.buf (some (x.1,x.2)) 5 1 (byR (bs (l++keyP op nm so))))]) (fun x=>True) ?_ (fun x hx=>Exists.intro _ (ai (Wk.refl _) ?_))
 ·by_cases ho:op < 0
  ·have q1:(op < 0)=True:=eq_true ho
   rw [if_pos ho] at hP
   obtain ⟨_,s0,s8⟩:=k2 om
   have hnm:(bs (l++decB op++[58]))++nm=bs (l++decB op++[58]++nm.toList):=by rw [<- Zkg nm,ZiX,Zkg]
   have e2:bs (l++decB op++[58]++nm.toList++[58])++decS so=bs (l++keyP op nm so):=by
    rw [hP]
    refine (ZiX _ _).trans ?_
    simp [Tbc]
   have hpl:=congrArg List.length hP
   simp only [Tae,Tag] at hpl
   have c2:=fun a cap=>ZhN (i:=so) om om (bs (l++decB op++[58]++nm.toList++[58])) (by rw [Zhl];simp only [Tae,Tag,Tak];omega) a cap
   rw [e2] at c2
   have m1:=ml (l++decB op) (by simp only [Tae];omega)
   have m2:=ml (l++decB op++[58]++nm.toList) (by simp only [Tae,Tag,Tak];omega)
   have m3:(byR (bs (l++decB op++[58]))).length+(byR nm).length<=maxApp:=by
    rw [ZcO,ZcO,Zhl]
    have:nm.size=nm.toList.length:=by rw [ByteArray.toList_eq];exact Array.length_toList.symm
    simp only [Tae,Tag,Tak]
    unfold maxApp
    omega
   have b1:=rb (l++decB op)
   have b2:=rb (l++decB op++[58]++nm.toList)
   have p1:=ap (l++decB op) 58 58 rfl
   have p2:=ap (l++decB op++[58]++nm.toList) 58 58 rfl
   clear hP hpl ap ml rb
   rw [decide_eq_true ho]
   (have F:=ai @hc @tmz;have NN:Zaj 3:=trivial;refine gGn ?_;clear F NN)
   refine gB ?_
   (have F:=ai @m1 (ai @b1 (ai @p1 (ai @hn1 (ai @hn2 @tmz))));refine gP 3 ?_;clear F)
   refine gS 15 fun a2 cap2=>?_
   (have F:=ai @hn1 (ai @hn2 @tmz);refine gR ?_;clear F)
   (have F:=@tmz;have NN:Zaj 4:=trivial;refine gGn ?_;clear F NN)
   refine gB ?_
   (have F:=ai @hc (ai @hn1 (ai @hn2 @tmz));refine gP 3 ?_;clear F)
   refine gK 16 ?_
   refine (have F:=tmz;gSt m3 Zps ?_)
   rw [Zhk,hnm]
   refine gS 19 fun a3 cap3=>?_
   (have F:=ai @hn1 (ai @hn2 @tmz);refine gR ?_;clear F)
   (have F:=@tmz;have NN:Zaj 5:=trivial;refine gGn ?_;clear F NN)
   refine gB ?_
   (have F:=ai @m2 (ai @b2 (ai @p2 (ai @hn1 (ai @hn2 @tmz))));refine gP 3 ?_;clear F)
   refine gS 22 fun a4 cap4=>?_
   (have F:=ai @hn1 (ai @hn2 @tmz);refine gR ?_;clear F)
   (have F:=@tmz;have NN:Zaj 6:=trivial;refine gGn ?_;clear F NN)
   refine gB ?_
   (have F:=ai @hc (ai @hn1 (ai @hn2 @tmz));refine gCP [22] [1000] (c2 a4 cap4) ?_;clear F)
   rintro r pm ⟨a5,cap5,rfl,rfl⟩
   simp only [setA,retA,zipM,Taf,Tah]
   (have F:=ai @hn1 (ai @hn2 @tmz);refine gR ?_;clear F)
   exact (have F:=tmz;⟨(a5,cap5),trivial,gw,gw⟩)
  ·have q1:(op < 0)=False:=eq_false ho
   rw [if_neg ho,List.append_nil] at hP
   rw [hP,decide_eq_false ho]
   (have F:=ai @hc @tmz;refine gG ?_;exact ⟨(a1,cap1),trivial,gw,gw⟩)
 obtain ⟨a2,cap2⟩:=x
 dsimp only
 have m1:=ml (l++keyP op nm so) (by simp only [Tae];omega)
 have b1:=rb (l++keyP op nm so)
 have p1:=ap (l++keyP op nm so) 40 40 rfl
 have e3:l++(keyP op nm so++[40]++ZaQ args++[41])=l++keyP op nm so++[40]++ZaQ args++[41]:=by simp [Tbc]
 rw [e3]
 have hP2:(l++keyP op nm so++[40]).length=l.length+(keyP op nm so).length+1:=by simp only [Tae,Tag,Tak]
 have hal:=Zki args
 (have F:=@tmz;have NN:Zaj 7:=trivial;refine gGn ?_;clear F NN)
 refine gB ?_
 (have F:=ai @m1 (ai @b1 (ai @p1 (ai @hn1 (ai @hn2 @tmz))));refine gP 3 ?_;clear F)
 refine gS 29 fun a3 cap3=>?_
 (have F:=ai @hn1 (ai @hn2 @tmz);refine gR ?_;clear F)
 clear m1 b1 p1 e3 hP c1 e0'
 generalize l++keyP op nm so++[40]=q at hP2 ⊢
 have hq0:q++ZaQ []=q:=by simp [ZaQ]
 (have F:=ai @hc @tmz;refine gG ?_;clear F)
 (have F:=@hq0;refine gL (ι:=Nat × Option Addr × Nat) [5,33,34] [29,1001,1002] (fun x=>[(33,.d (.one (.lit (.int .i64 (x.1:Int)))))]) (fun x=>[(1001,.var (some bo) [.lit (.slice x.2.1 (byR (bs (q++ZaQ (args.take x.1)))).length x.2.2)]),(29,.buf (some (x.2.1,x.2.2)) 5 1 (byR (bs (q++ZaQ (args.take x.1))))),(1002,.var (some bv) [.fn 211 [.lit (.pointer (some ⟨bo,0,none⟩)),.lit (.pointer (some ⟨bv,0,none⟩))]])]) (fun x=>x.1<=args.length) (fun x=>args.length - x.1) ((0,a3,cap3)) (Taj _) (fun x hx=>?_);clear F)
 obtain ⟨i,a4,cap4⟩:=x
 simp only at hx
 dsimp only
 by_cases hlt:i < args.length
 ·obtain ⟨b,hg⟩:∃ b,args[i]?=some b:=⟨_,Taa hlt⟩
  have q2:((i:Int) < (args.length:Int))=True:=eq_true om
  have q4:IntKind.i64.wrap ((i:Int)+1)=(i:Int)+1:=IntWalk.i64_in _ om
  have hvt:=ZmN hg
  have hle:=hal (i+1)
  rw [hvt,Tae] at hle
  have hcon:=h b (Tac hg) (q++ZaQ (args.take i)) a4 cap4 (by rw [Tae];omega)
  rw [Tbc,<- hvt] at hcon
  (have F:=ai @q2 (ai @hc (ai @ZaH (ai @Zcm (ai @hg @tmz))));refine gG ?_;clear F)
  refine gB ?_
  (have F:=ai @Zqc (ai @hn1 (ai @hn2 @tmz));refine gCP [1001,29,1002] [1001,29,1002] (hcon) ?_;clear F)
  rintro r pm ⟨a5,cap5,rfl,rfl⟩
  simp only [ptrB,setA,retA,zipM,Taf,Tah]
  (have F:=@tmz;refine gR ?_;clear F)
  (have F:=@q4;refine gG ?_;exact ⟨(i+1,a5,cap5),hlt,gw,gw,by omega⟩)
 ·obtain rfl:i=args.length:=by omega
  have q2:((args.length:Int) < (args.length:Int))=False:=eq_false om
  rw [Tap]
  have m1:=ml (q++ZaQ args) (by rw [Tae];omega)
  have b1:=rb (q++ZaQ args)
  have p1:=ap (q++ZaQ args) 41 41 rfl
  (have F:=@q2;have NN:Zaj 13:=trivial;refine gGn ?_;clear F NN)
  refine gB ?_
  (have F:=ai @m1 (ai @b1 (ai @p1 (ai @hn1 (ai @hn2 @tmz))));refine gP 3 ?_;clear F)
  refine gS 43 fun a5 cap5=>?_
  (have F:=ai @hn1 (ai @hn2 @tmz);refine gR ?_;clear F)
  exact (have F:=tmz;gTPk (R:=RKey bo bv 211 (bs (q++ZaQ args++[41]))) [1001,43,1002] ⟨a5,cap5,rfl,rfl⟩)
theorem Zqd (bo bv:Nat) (hne:bo≠bv) (n:Nat):∀ (t:Tm),sizeTm t < n->Zdc t->sizeTm t<=60->∀ (l:List UInt8) (a:Option Addr) (cap:Nat),l.length+(ZbH t).length<=90000->ConP e0 211 [.agg (Zah t),.one (.lit (ptrB bo)),.one (.lit (ptrB bv))] [.var (some bo) [.lit (.slice a (byR (bs l)).length cap)],.buf (some (a,cap)) 5 1 (byR (bs l)),.var (some bv) [.fn 211 [.lit (ptrB bo),.lit (ptrB bv)]]] (RKey bo bv 211 (bs (l++ZbH t))):=by
 induction n with
 | zero=>exact fun _ h=>by omega
 | succ n ih =>
  intro t hn hk hsz l a cap hl
  refine ZmO t hk hsz l a cap bo bv hne hl fun x hx l a cap hl2=>ih x ?_ ?_ ?_ l a cap hl2
  ·have:=Zbx hx
   rw [Zbd] at hn
   omega
  ·obtain ⟨op,nm,so,args⟩:=t
   simp only [Zdc] at hk
   exact ZiY hk.2.2.2.2 x hx
  ·have:=Zbx hx
   rw [Zbd] at hsz
   omega
theorem Zvz:Zhj e0.P 227 9=true:=by kernel_rfl
theorem Zkj {g:Sgn} (hg:SgnOk g) {t:Tm} (hf:ZaD g t) (hsz:sizeTm t<=60):Con e0 131 [.agg (Zah t)] [.one (.lit (.string (keyS t)))]:=by
 have hks:=Zf9 hg t hf
 have hby0:byR (bs [])=[]:=rfl
 refine gI (ts:=[.slot 2]) 31 Tryz.func131 ?_
 (have F:=@tmz;have NN:Zaj 1:=trivial;refine gGn ?_;clear F NN)
 refine gB ?_
 (have F:=@tmz;refine gP 1 ?_;clear F)
 refine gO 5 5 1 ?_
 refine gS 5 fun a cap=>?_
 (have F:=@tmz;refine gR ?_;clear F)
 (have F:=ai @ZAD (ai @Zzm @tmz);have NN:Zaj 3:=trivial;refine gGn ?_;clear F NN)
 refine pV 3 fun b3 hb3=>?_
 refine pV 4 fun b4 hb4=>?_
 have hne:b3≠b4:=fun e=>hb4 3 b3 _ (by decide) rfl e.symm
 clear hb3 hb4
 have hn1:(b3=b4)=False:=eq_false hne
 have hn2:(b4=b3)=False:=eq_false (fun e=>hne e.symm)
 (have F:=ai @Zqc (ai @Zzm (ai @ZAj (ai @ZAk (ai @hn1 (ai @hn2 @tmz)))));have NN:Zaj 4:=trivial;refine gGn ?_;clear F NN)
 refine gB ?_
 have hcon:=Zqd b3 b4 hne _ t (Tan _) (ZcK hg t hf) hsz [] a cap (by simp only [Tak];omega)
 simp only [ptrB,hby0,Tak,Tah] at hcon
 (have F:=ai @Zqc (ai @hn1 (ai @hn2 @tmz));refine gCP [3,5,4] [3,5,4] (hcon) ?_;clear F)
 rintro r pm ⟨a2,cap2,rfl,rfl⟩
 simp only [ptrB,setA,retA,zipM,Taf,Tah]
 (have F:=@tmz;refine gR ?_;clear F)
 refine Zh0 ?_
 refine gB ?_
 (have F:=ai @hn1 (ai @hn2 @tmz);refine gP 1 ?_;clear F)
 refine gK 10 ?_
 refine (have F:=tmz;gTx (k:=5) (bs (ZbH t)) Zvz ?_)
 (have F:=@tmz;refine gR ?_;clear F)
 (have F:=@tmz;refine gG ?_;exact gTd)
end Go.Proofs.YtcgacanpeaiabaaGreatDoor
