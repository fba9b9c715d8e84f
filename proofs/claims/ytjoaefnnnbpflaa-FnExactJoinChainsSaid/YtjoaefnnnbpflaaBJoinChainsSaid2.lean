/-
  Part of a proof.
-/
import Derived.Test.YtjoaefnnnbpflaaBJoinChainsSaid0
import Derived.Test.YtjoaefnnnbpflaaBJoinChainsSaid1
import Derived.Test.YtjoaefnnnbpflaaRows
set_option linter.unusedSimpArgs false
set_option linter.unusedVariables false
set_option maxHeartbeats 400000000
set_option maxRecDepth 100000
namespace Go.Proofs.Ytjoaefnnnbpflaa
open Go.RowKit
variable {r:List D} {row:List C} {us:List Value} {q:List Bk} {rows:List (List C)} {left:Int}
theorem ZbQ {r:List C} (h:Zao (Zac .chain) r):∃ (i0:Int) (t1:ByteArray) (i2:Int) (r3:List (List C)) (i4:Int) (t5:ByteArray) (i6:Int) (r7:List (List C)) (r8:List (List C)),r=[.lit (.int .i64 i0),.lit (.string t1),.lit (.int .i64 i2),.sl r3,.lit (.int .i64 i4),.lit (.string t5),.lit (.int .i64 i6),.sl r7,.sl r8]∧I64 i0∧t1.size<=maxLen∧I64 i2∧Zak (Zac .term) r3∧I64 i4∧t5.size<=maxLen∧I64 i6∧Zak (Zac .term) r7∧Zak (Zac .link) r8:=by
 obtain ⟨c0,c1,c2,c3,c4,c5,c6,c7,c8,rfl⟩:=len9 h.len;simp only [Zac,Zbj,occF,ZcK,sigF,Zcw,algF,Taf,Tah,redF,Zao,and_true] at h;obtain ⟨h0,h1,h2,h3,h4,h5,h6,h7,h8⟩:=h;obtain ⟨i0,rfl,g0⟩:=ZbS h0;obtain ⟨t1,rfl,g1⟩:=Zex h1;obtain ⟨i2,rfl,g2⟩:=ZbS h2;obtain ⟨r3,rfl,g3⟩:=ZbT h3;obtain ⟨i4,rfl,g4⟩:=ZbS h4;obtain ⟨t5,rfl,g5⟩:=Zex h5;obtain ⟨i6,rfl,g6⟩:=ZbS h6;obtain ⟨r7,rfl,g7⟩:=ZbT h7;obtain ⟨r8,rfl,g8⟩:=ZbT h8
 exact ⟨i0,t1,i2,r3,i4,t5,i6,r7,r8,rfl,g0,g1,g2,g3,g4,g5,g6,g7,g8⟩
theorem ZjN {i0:Int} {t1:ByteArray} {i2:Int} {r3:List (List C)} {i4:Int} {t5:ByteArray} {i6:Int} {r7:List (List C)} {r8:List (List C)} (g0:I64 i0) (g1:t1.size<=maxLen) (g2:I64 i2) (g3:Zak (Zac .term) r3) (g4:I64 i4) (g5:t5.size<=maxLen) (g6:I64 i6) (g7:Zak (Zac .term) r7) (g8:Zak (Zac .link) r8):Zao (Zac .chain) [.lit (.int .i64 i0),.lit (.string t1),.lit (.int .i64 i2),.sl r3,.lit (.int .i64 i4),.lit (.string t5),.lit (.int .i64 i6),.sl r7,.sl r8]:=by
 simp only [Zac,Zbj,occF,ZcK,sigF,Zcw,algF,Taf,Tah,redF,Zao,and_true];exact ⟨Zcf g0,Zey g1,Zcf g2,Zb3 g3,Zcf g4,Zey g5,Zcf g6,Zb3 g7,Zb3 g8⟩
mutual
inductive Chn
 | mk (frm to:Tm) (links:List Lnk)
inductive Lnk
 | mk (idx:Int) (occ:Occ) (conds:List Chn)
end
mutual
def ZaJ:Chn->List C
 | .mk a b ls=>Zab a++(Zab b++[.sl (Zag ls)])
def ZbB:Lnk->List C
 | .mk i o cs=>.lit (.int .i64 i)::(Za8 o++[.sl (ZaB cs)])
def ZaB:List Chn->List (List C)
 | []=>[]
 | c::cs=>ZaJ c::ZaB cs
def Zag:List Lnk->List (List C)
 | []=>[]
 | l::ls=>ZbB l::Zag ls
end
mutual
def Zce:Chn->Prop
 | .mk a b ls=>okTm a∧okTm b∧Zci ls
def ZfQ:Lnk->Prop
 | .mk i o cs=>I64 i∧Zre o∧Zd8 cs
def Zd8:List Chn->Prop
 | []=>True
 | c::cs=>Zce c∧Zd8 cs
def Zci:List Lnk->Prop
 | []=>True
 | l::ls=>ZfQ l∧Zci ls
end
def Chn.frm:Chn->Tm | .mk a _ _=>a
def Chn.to:Chn->Tm | .mk _ b _=>b
def Chn.links:Chn->List Lnk | .mk _ _ l=>l
def Lnk.idx:Lnk->Int | .mk i _ _=>i
def Lnk.occ:Lnk->Occ | .mk _ o _=>o
def Lnk.conds:Lnk->List Chn | .mk _ _ c=>c
theorem Zdh:∀ l,ZaB l=l.map ZaJ
 | []=>by simp only [ZaB,List.map_nil]
 | c::cs=>by simp only [ZaB,Tbl,Zdh cs]
theorem Zb7:∀ l,Zag l=l.map ZbB
 | []=>by simp only [Zag,List.map_nil]
 | c::cs=>by simp only [Zag,Tbl,Zb7 cs]
theorem ZbR (l:List Chn):(ZaB l).length=l.length:=by rw [Zdh,Tax]
theorem Za3 (l:List Lnk):(Zag l).length=l.length:=by rw [Zb7,Tax]
theorem ZcE (l:List Chn) (i:Nat):(ZaB l)[i]?=l[i]?.map ZaJ:=by rw [Zdh,Tay]
theorem ZcF (l:List Lnk) (i:Nat):(Zag l)[i]?=l[i]?.map ZbB:=by rw [Zb7,Tay]
theorem ZrC (n:Nat):(∀ row,Zay row < n->Zao (Zac .chain) row->∃ c,row=ZaJ c∧Zce c)∧(∀ rows,Zat rows < n->Zak (Zac .chain) rows->∃ cs,rows=ZaB cs∧Zd8 cs)∧(∀ row,Zay row < n->Zao (Zac .link) row->∃ c,row=ZbB c∧ZfQ c)∧(∀ rows,Zat rows < n->Zak (Zac .link) rows->∃ cs,rows=Zag cs∧Zci cs):=by
 induction n with
 | zero=>exact ⟨fun _ h=>absurd h om,fun _ h=>absurd h om,fun _ h=>absurd h om,fun _ h=>absurd h om⟩
 | succ n ih =>
  obtain ⟨ih1,ih2,ih3,ih4⟩:=ih;have h1:∀ row,Zay row < n+1->Zao (Zac .chain) row->∃ c,row=ZaJ c∧Zce c:=fun row hn hok=>by
   obtain ⟨i0,t1,i2,r3,i4,t5,i6,r7,r8,rfl,g0,g1,g2,g3,g4,g5,g6,g7,g8⟩:=ZbQ hok;simp only [Zay,Zbg] at hn;obtain ⟨a,rfl,ha⟩:=ZeF g3;obtain ⟨b,rfl,hb⟩:=ZeF g7;obtain ⟨ls,rfl,hl⟩:=ih4 _ om g8;exact ⟨.mk (.mk i0 t1 i2 a) (.mk i4 t5 i6 b) ls,by simp [ZaJ,Zab],by simp only [Zce,okTm];exact ⟨⟨g0,g1,g2,ha⟩,⟨g4,g5,g6,hb⟩,hl⟩⟩
  have h3:∀ row,Zay row < n+1->Zao (Zac .link) row->∃ c,row=ZbB c∧ZfQ c:=fun row hn hok=>by
   obtain ⟨i0,r1,r2,r3,r4,r5,rfl,g0,g1,g2,g3,g4,g5⟩:=ZcV hok;simp only [Zay,Zbg] at hn;obtain ⟨o,ho,hoo⟩:=ZrS (Zcs g1 g2 g3 g4);obtain ⟨cs,rfl,hc⟩:=ih2 _ om g5;refine ⟨.mk i0 o cs,?_,by simp only [ZfQ];exact ⟨g0,hoo,hc⟩⟩;simp only [ZbB,<- ho,Taf,Tah]
  refine ⟨h1,?_,h3,?_⟩
  ·intro rows
   induction rows with
   | nil=>exact fun _ _=>⟨[],by simp only [ZaB],by simp only [Zd8]⟩
   | cons r rs ihr =>
    intro hn hok;simp only [Zak] at hok;simp only [Zat] at hn;obtain ⟨c,rfl,hc⟩:=h1 r om hok.1;obtain ⟨cs,rfl,hcs⟩:=ihr om hok.2;exact ⟨c::cs,by simp only [ZaB],by simp only [Zd8];exact ⟨hc,hcs⟩⟩
  ·intro rows
   induction rows with
   | nil=>exact fun _ _=>⟨[],by simp only [Zag],by simp only [Zci]⟩
   | cons r rs ihr =>
    intro hn hok;simp only [Zak] at hok;simp only [Zat] at hn;obtain ⟨c,rfl,hc⟩:=h3 r om hok.1;obtain ⟨cs,rfl,hcs⟩:=ihr om hok.2;exact ⟨c::cs,by simp only [Zag],by simp only [Zci];exact ⟨hc,hcs⟩⟩
theorem Zo2 (h:Zao (Zac .chain) row):∃ c,row=ZaJ c∧Zce c:=(ZrC _).1 row (Tan _) h
def Zg5 (pm:List Bk) (l d:D):Prop:=l=d∨(∃ us row E,l=.agg (Zaf us)∧d=.agg row∧.set E (fun w=>Zae w row E us)∈pm)∨(∃ v rows E,l=.one (.lit v)∧d=.one (.sl rows)∧.set E (fun w=>Own w (.sl rows) E v)∈pm)
def ZfS (pm:List Bk):List D->List D->Prop
 | [],[]=>True
 | l::ls,d::ds=>Zg5 pm l d∧ZfS pm ls ds
 | _,_=>False
theorem Zg5.same {pm:List Bk} {d:D}:Zg5 pm d d:=.inl rfl
theorem Zg5.tree {pm:List Bk} {E:Nat->Prop} (h:.set E (fun w=>Zae w row E us)∈pm):Zg5 pm (.agg (Zaf us)) (.agg row):=.inr (.inl ⟨us,row,E,rfl,rfl,h⟩)
theorem ZfS.rel {pm:List Bk}:∀ {lits data:List D},ZfS pm lits data->∀ (w:World) (S:Nat->Prop) (vs:List Value),(∀ x∈pm,Zbk w S x)->ZaE w S lits vs->ZaE w (fun b=>S b∨ZaG pm b) data vs
 | [],[],_,w,S,[],_,_=>trivial
 | [],[],_,w,S,_::_,_,h=>h.elim
 | l::ls,d::ds,hr,w,S,[],_,h=>h.elim
 | l::ls,d::ds,⟨h1,h2⟩,w,S,v::vs,hp,⟨hv,hvs⟩=>by
  refine ⟨?_,ZfS.rel h2 w S vs hp hvs⟩;rcases h1 with rfl | ⟨us,row,E,rfl,rfl,hm⟩ | ⟨u,rows,E,rfl,rfl,hm⟩
  ·exact DRel.keep (Tai _) (fun _ _ _=>rfl) (fun b hb=>.inl hb) hv
  ·obtain ⟨vs',rfl,hr⟩:=hv;rw [Zer hr];obtain ⟨_,h3,_⟩:=hp _ hm;exact ⟨us,rfl,Zae.rep row E _ us (fun b hb=>.inr ⟨_,hm,hb⟩) h3⟩
  ·have hv:v=u:=hv;subst hv;obtain ⟨_,h3,_⟩:=hp _ hm;exact (Own.rep _ E v h3).mono fun b hb=>.inr ⟨_,hm,hb⟩
 | [],_::_,h,_,_,_,_,_=>h.elim
 | _::_,[],h,_,_,_,_,_=>h.elim
theorem Zlq {e:Env} {f:FuncId} {data lits:List D} {R:List D->List Bk->Prop} (pm:List Bk) (h:ConP e f data [] R) (hr:ZfS pm lits data) (hset:pm.all Zb5=true) (hR:∀ r q,R r q->r.all litD=true∧q.all Zb5=true):ConP e f lits pm (fun r q=>∃ q1,R r q1∧q=q1++pm) :=
 ZoR pm h hset hR hr.rel
theorem ZeL {e:Env} {f:FuncId} {data lits:List D} (pm:List Bk) (h:Con e f data r) (hr:ZfS pm lits data) (hset:pm.all Zb5=true) (hl:r.all litD=true):ConP e f lits pm (fun r' q=>r'=r∧q=pm):=by
 have hc:=Zlq pm (Zr3 h) hr hset (fun r' q ⟨h1,h2⟩=>by rw [h1,h2];exact ⟨hl,rfl⟩);refine ⟨hc.1,fun w S vs h1 h2 h3 h4 h5 h6=>(hc.2 w S vs h1 h2 h3 h4 h5 h6).mono ?_⟩;rintro en w' ⟨v,r',q,k1,⟨q1,⟨rfl,rfl⟩,rfl⟩,k3⟩;exact ⟨v,r',_,k1,⟨rfl,rfl⟩,k3⟩
theorem Zgd (us:List Value):(Zaf us).all litC=true:=by
 induction us with
 | nil=>rfl
 | cons u us ih=>simp only [Zaf,Tbl,List.all_cons,litC,Bool.true_and];exact ih
theorem Zbc.lits (h:Zbc row r q):r.all litD=true∧q.all Zb5=true:=by
 obtain ⟨us,E,rfl,_,_,rfl⟩:=h;exact ⟨by simp only [List.all_cons,List.all_nil,litD,Zgd];rfl,rfl⟩
theorem Za7.lits (h:Za7 rows r q):r.all litD=true∧q.all Zb5=true:=by
 obtain ⟨v,E,rfl,_,rfl⟩:=h;exact ⟨rfl,rfl⟩
def Zdi (row:List C) (b:Bool) (r:List D) (pm:List Bk):Prop:=∃ us E,r=[.agg (Zaf us),.one (.lit (.bool b))]∧us.length=row.length∧(Zaf us).all Zal=true∧pm=[.set E (fun w=>Zae w row E us)]
theorem Zdi.lits {b:Bool} (h:Zdi row b r q):r.all litD=true∧q.all Zb5=true:=by
 obtain ⟨us,E,rfl,_,_,rfl⟩:=h;exact ⟨by simp only [List.all_cons,List.all_nil,litD,Zgd];rfl,rfl⟩
def Zlr (rows:List (List C)) (b:Bool) (r:List D) (pm:List Bk):Prop:=∃ v E,r=[.one (.lit v),.one (.lit (.bool b))]∧Zal (.lit v)=true∧pm=[.set E (fun w=>Own w (.sl rows) E v)]
theorem Zlr.lits {b:Bool} (h:Zlr rows b r q):r.all litD=true∧q.all Zb5=true:=by
 obtain ⟨v,E,rfl,_,rfl⟩:=h;exact ⟨rfl,rfl⟩
section
variable {e:Env} {ops:Array Oper} {K:St->Prop}
def QN (e:Env) (U:Nat->Prop) (w0:World) (S0:Nat->Prop) (nt:Nat) (K:St->Prop):Exit->Act->World->Prop:=fun ex a w=>ex=.normal∧∃ σ',K σ'∧SimE e U w0 S0 nt σ' a w
def Ziw (e:Env) (ops:Array Oper) (K:St->Prop) (f:Nat) (listed:Array Bool) (σ:St):Prop :=
 e.Ok->∀ (U:Nat->Prop) (w0:World) (S0:Nat->Prop) (nt:Nat) (a:Act) (w:World),(∀ o∈ops.toList,∀ d,o.dst=some d->d < nt)->SimE e U w0 S0 nt σ a w->wpAny e.P .any ops (QN e U w0 S0 nt K) f listed a w
def Zsd (ops:Array Oper):Bool:=ops.toList.all fun o=>match o.op with
 | .select _ _=>false
 | _=>true
end
section
variable {e:Env} {K:St->Prop} {mask:Nat} {Q:PX->St->Prop} {s:List (Nat × A)} {m:List (Nat × Bk)}
theorem Zo7 {id:Nat} {ops:Array Oper} {σ:St} (hK:Ziw e ops (Zc7 mask Q) ops.size (Array.replicate ops.size false) σ):pwp e mask (.region id ops true) σ Q:=fun he U w0 S0 nt a w hok hs=>by
 obtain ⟨S,L,h1⟩:=hs.drew he;refine Code.wp_mono (fun ex a' w' hq=>?_) (wp_region_any he.mixed (hK he U w0 S0 nt a { w with drawn:=w.drawn+1 } (Zq5 hok) ⟨S,L,h1⟩));obtain ⟨rfl,σ',k1,k2⟩:=hq;exact ⟨_,k1,k2.weak (fun t=>ZiM mask t σ'.s) (fun _ _ h=>h)⟩
end
def addL (i:Nat):Nat->List Oper->List Oper
 | _,[]=>[]
 | 0,o::l=>{ o with after:=o.after.push ⟨i,.data⟩ }::l
 | k+1,o::l=>o::addL i k l
theorem Ze6 (i:Nat):∀ (k:Nat) (l:List Oper) (j:Nat),(addL i k l)[j]?=if j=k then l[j]?.map fun o=>{ o with after:=o.after.push ⟨i,.data⟩ } else l[j]?
 | k,[],j=>by simp [addL]
 | 0,o::l,0=>by simp [addL]
 | 0,o::l,j+1=>by simp [addL]
 | k+1,o::l,0=>by simp [addL]
 | k+1,o::l,j+1=>by simp [addL,Ze6 i k l j]
theorem Zjp (i:Nat):∀ (k:Nat) (l:List Oper),(addL i k l).length=l.length
 | k,[]=>by simp [addL]
 | 0,o::l=>by simp [addL]
 | k+1,o::l=>by simp [addL,Zjp i k l]
theorem Zjq (i:Nat):∀ (k:Nat) (l:List Oper),(addL i k l).map (·.dst)=l.map (·.dst)
 | k,[]=>by simp [addL]
 | 0,o::l=>by simp [addL]
 | k+1,o::l=>by simp [addL,Zjq i k l]
section
variable {P:Program} {l:List Oper} {i k:Nat} {oi ok:Oper}
theorem Zh2 {Q:Exit->Act->World->Prop} {j:Nat} {K:Act->World->Prop} {a:Act} {w:World}:wpOp P (addL i k l).toArray Q j K a w ↔ wpOp P l.toArray Q j K a w:=by
 have hb:∀ g:Nat,((addL i k l)[g]?).bind (fun x=>x.dst)=(l[g]?).bind fun x=>x.dst:=fun g=>by
  rw [Ze6];by_cases h:g=k
  ·rw [if_pos h];cases l[g]? <;> rfl
  ·rw [if_neg h]
 have hy:yielded (addL i k l).toArray a.tmps=yielded l.toArray a.tmps:=by
  funext g;unfold yielded;simp only [List.getElem?_toArray,hb]
 unfold wpOp;rw [hy];simp only [List.getElem?_toArray,Ze6];by_cases hjk:j=k
 ·rw [if_pos hjk]
  cases hj:l[j]? with
  | none=>exact Iff.rfl
  | some o=>exact Iff.rfl
 ·rw [if_neg hjk]
def ZrW (ops:Array Oper) (i:Nat):Bool:=(List.range ops.size).all fun j=>j==i || match ops[i]?,ops[j]? with
 | some oi,some oj=>oi.after.any (fun e=>Region.binds .any e && e.on==j) || (oj.after.any (fun e=>Region.binds .any e && e.on==i) || oi.apart ops oj)
 | _,_=>true
def Zix (ops:Array Oper) (i k:Nat):Bool:=Zsd ops && ZrW ops i && i != k && match ops[i]?,ops[k]? with
 | some oi,some ok=>(match oi with
  | ⟨some _,.extract _ _,_,_,_,none⟩=>true
  | _=>false) && oi.after.all fun e=>!Region.binds .any e || ok.after.any fun e'=>Region.binds .any e' && e'.on==e.on
 | _,_=>false
theorem Zl0 {Q:Exit->Act->World->Prop} (hQ:∀ ex a w,Q ex a w->ex=.normal) (hB:Zix l.toArray i k=true) :
  ∀ (f:Nat) (listed:Array Bool) (a:Act) (w:World),listed.size=l.length->wpAny P .any (addL i k l).toArray Q f listed a w->wpAny P .any l.toArray Q f listed a w:=by
 simp only [Zix,Tar,bne_iff_ne,ne_eq] at hB;obtain ⟨⟨⟨hsel,hap⟩,hik⟩,h4⟩:=hB;split at h4;rotate_left
 ·cases h4
 rename_i oi ok hoi hok;simp only [Tar] at h4;obtain ⟨h5,h6⟩:=h4;have hpre:∀ e∈oi.after,Region.binds .any e=true->∃ e'∈ok.after,Region.binds .any e'=true∧e'.on=e.on:=fun e he hb=>by
  have:=Array.all_eq_true_iff_forall_mem.1 h6 e he;simp only [hb,Bool.not_true,Bool.false_or,Array.any_eq_true',Tar,beq_iff_eq] at this;obtain ⟨e',q1,q2,q3⟩:=this;exact ⟨e',q1,q2,q3⟩
 have hrdy:∀ (listed:Array Bool) (j:Nat),j∈Region.ready .any (addL i k l).toArray listed ↔ j∈Region.ready .any l.toArray listed∧(j=k->listed.getD i false=true):=fun listed j=>by
  rw [mem_ready,mem_ready];simp only [List.getElem?_toArray,Ze6];by_cases hj:j=k
  ·subst hj;simp only [if_true,true_implies];constructor
   ·rintro ⟨q1,o,q2,q3⟩
    cases hl:l[j]? with
    | none=>rw [hl] at q2;cases q2
    | some o' =>
     rw [hl] at q2;injection q2 with q2
     subst q2;exact ⟨⟨q1,o',rfl,fun e he hb=>q3 e (by simp [he]) hb⟩,q3 ⟨i,.data⟩ (by simp) rfl⟩
   ·rintro ⟨⟨q1,o,q2,q3⟩,q4⟩;refine ⟨q1,_,by rw [q2];rfl,fun e he hb=>?_⟩;rcases Array.mem_push.1 he with he | he
    ·exact q3 e he hb
    ·subst he;exact q4
  ·simp [hj]
 have hun:∀ (listed:Array Bool),listed.size=l.length->k∈Region.ready .any l.toArray listed->i∈Region.ready .any l.toArray listed∨listed.getD i false=true:=fun listed hs hk=>by
  by_cases h:listed.getD i false=true
  ·exact .inr h
  ·left;rw [mem_ready] at hk ⊢;obtain ⟨_,o,q2,q3⟩:=hk;have:o=ok:=by rw [hok] at q2;injection q2 with q2;exact q2.symm
   subst this;have hlt:i < l.length:=by have:=(Tbh.1 hoi).1;simpa using this
   refine ⟨?_,oi,hoi,fun e he hb=>?_⟩
   ·have hl:i < listed.size:=om;rw [Zbq hl];simpa using h
   ·obtain ⟨e',r1,r2,r3⟩:=hpre e he hb;rw [<- r3];exact q3 e' r1 r2
 have hap':=hap;intro f
 induction f with
 | zero =>
  intro listed a w hs h;refine ⟨?_,h.2⟩;by_cases hk:k∈Region.ready .any l.toArray listed
  ·rcases hun listed hs hk with h1 | h1
   ·have:=(hrdy listed i).2 ⟨h1,fun e=>absurd e hik⟩;rw [h.1] at this
    cases this
   ·have:=(hrdy listed k).2 ⟨hk,fun _=>h1⟩;rw [h.1] at this
    cases this
  ·refine List.eq_nil_iff_forall_not_mem.2 fun j hj=>?_;have:=(hrdy listed j).2 ⟨hj,fun e=>absurd (e ▸ hj) hk⟩;rw [h.1] at this
   cases this
 | succ f ih =>
  intro listed a w hs h;by_cases hi:i∈Region.ready .any l.toArray listed
  ·have h1:=h.2 i ((hrdy listed i).2 ⟨hi,fun e=>absurd e hik⟩);rw [Zh2] at h1;have h1':∃ v,Yields P l.toArray oi v a∧wpAny P .any (addL i k l).toArray Q f (listed.setIfInBounds i true) (a.put oi.dst v) w:=by
    unfold wpOp at h1;simp only [hoi] at h1;split at h5;rotate_left
    ·cases h5
    rename_i d x n ty pos af;have hw:Region.wanted ⟨some d,.extract x n,ty,pos,af,none⟩ (yielded l.toArray a.tmps)=true:=by simp [Region.wanted]
    rw [if_pos hw] at h1;rcases h1 with h1 | ⟨_,b,w',h1⟩
    rotate_left
    ·have:=hQ _ _ _ h1;cases this
    unfold Oper.wp at h1
    cases hx:a.eval x with
    | tuple vs =>
     cases hv:vs[n]? with
     | some v =>
      have hrun:∀ w',(execOp a.eval ⟨some d,.extract x n,ty,pos,af,none⟩).run P w'=.ok (.value v) w':=fun w'=>by
       simp [execOp,Instr.extract,hx,hv]
      rw [hrun,Oper.upon_value] at h1;exact ⟨v,.inl ⟨hw,hrun⟩,h1⟩
     | none =>
      simp [execOp,Instr.extract,hx,hv,stuck,Oper.upon] at h1
    | _=>simp [execOp,Instr.extract,hx,stuck,Oper.upon] at h1
   obtain ⟨v,hv,h2⟩:=h1';refine wpAny_first (oi:=oi) (v:=v) hoi (fun j oj cs b hj hsl=>?_) (fun c a w hq=>?_) f listed a w (fun j oj hj hne hl hno=>?_) hi hv (ih _ _ _ (by simpa using hs) h2)
   ·have:=List.all_eq_true.1 hsel oj (Tac (by simpa using hj));rw [hsl] at this
    cases this
   ·have:=hQ _ _ _ hq;cases this
   ·have hjs:=(Tbh.1 hj).1;have:=List.all_eq_true.1 hap j (List.mem_range.2 hjs);simp only [hoi,hj,Bool.or_eq_true,beq_iff_eq,List.any_eq_true,Array.any_eq_true',Tar] at this;rcases this with h1 | h1 | h1 | h1
    ·exact absurd h1 hne
    ·obtain ⟨ed,h2,h3,h4⟩:=h1;obtain ⟨_,o,q2,q3⟩:=mem_ready.1 hi;rw [hoi] at q2;injection q2 with q2
     subst q2;have q4:=q3 ed h2 h3;rw [h4,<- Zbq (by simpa [hs] using hjs)] at q4;rw [hl] at q4
     cases q4
    ·obtain ⟨ed,h2,h3,h4⟩:=h1;exact absurd h4 (hno ed h2 h3)
    ·exact h1
  ·refine ⟨fun h0=>h.1 ?_,fun j hj=>?_⟩
   ·refine List.eq_nil_iff_forall_not_mem.2 fun j hj=>?_;have:=((hrdy listed j).1 hj).1;rw [h0] at this
    cases this
   ·have hj':j∈Region.ready .any (addL i k l).toArray listed:=(hrdy listed j).2 ⟨hj,fun e=>by
     subst e;rcases hun listed hs hj with h1 | h1
     ·exact absurd h1 hi
     ·exact h1⟩
    have h1:=h.2 j hj';rw [Zh2] at h1;exact wpOp_mono (fun a w h=>ih _ a w (by simpa using hs) h) h1
end
section
variable {e:Env} {K:St->Prop} {mask:Nat} {Q:PX->St->Prop} {s:List (Nat × A)} {m:List (Nat × Bk)}
theorem Zl1 {l:List Oper} {i k:Nat} {σ:St} (hB:Zix l.toArray i k=true) (h:Ziw e (addL i k l).toArray K l.length (Array.replicate l.length false) σ):Ziw e l.toArray K l.length (Array.replicate l.length false) σ:=by
 intro he U w0 S0 nt a w hd hs;refine Zl0 (fun ex a w hq=>hq.1) hB _ _ _ _ (by simp) (h he U w0 S0 nt a w (fun o ho d hdd=>?_) hs);have:some d∈(addL i k l).map (·.dst):=Tbf.2 ⟨o,by simpa using ho,hdd⟩;rw [Zjq] at this;obtain ⟨o',h1,h2⟩:=Tbf.1 this;exact hd o' (by simpa using h1) d h2
theorem ZjQ {l:List Oper} {p:Nat} {σ:St} (hAl:Zc9 l.toArray p=true) (hB:regB l.toArray (p+1)=true) (hp:Runs e (l.map (·.dst)) (p+1) l σ K):Ziw e l.toArray K l.length (Array.replicate l.length false) σ:=by
 intro he U w0 S0 nt a w hd hs;have:=Zd2 (ops:=l.toArray) he hAl hB (K:=K) (Q:=QN e U w0 S0 nt K) (fun a w σ' hK hs'=>⟨rfl,σ',hK,hs'⟩) hd hs (by simpa using hp);simpa using this
theorem gLt {id:Nat} {l l':List Oper} {ds:List (Option Nat)} (p i k:Nat) (hK:Runs e ds (p+1) l' ⟨s,m⟩ (Zc7 mask Q)) (hl:addL i k l=l':=by simp only [addL];exact rfl) (hds:l'.map (·.dst)=ds:=by simp only [Tbl,List.map_nil];exact rfl) (hc:Zix l.toArray i k=true:=by decide +kernel) (hA:Zc9 l'.toArray p=true:=by decide +kernel) (hr:regB l'.toArray (p+1)=true:=by decide +kernel):pwp e mask (.region id l.toArray true) ⟨s,m⟩ Q:=by
 subst hl hds;have h1:=Zl1 hc (by have:=ZjQ hA hr hK;rwa [Zjp] at this);exact Zo7 (ops:=l.toArray) (by simpa using h1)
end
theorem Zo8 {e:Env} {f:FuncId} {args:List D} {b:Bool} (h:ConP e f args [] (Zdi row b)):Con e f args [.agg row,.one (.lit (.bool b))]:=by
 refine ⟨h.1,fun w S vs hS hE hG hv=>(h.2 w S vs hS hE hG (fun x hx=>by cases hx) trivial hv).mono ?_⟩;rintro en w' ⟨v,r,pm',h1,⟨us,E,rfl,hl,hok,rfl⟩,h3,h4,h5,h6,h7⟩;obtain ⟨⟨q1,q2,q3⟩,p2⟩:=h5 _ Tas;obtain ⟨vs',hvs,hd⟩:=h7
 match vs',hd with
 | [u0,u1],⟨⟨us0,hu0,hr⟩,hb,_⟩ =>
  have e1:=Zdc hr;subst e1;refine ⟨v,h1,h3.noPin,h4,[u0,u1],hvs,⟨us0,hu0,Zae.rep _ _ _ _ (fun g hg=>.inr ⟨?_,(q1 g hg).1⟩) q2⟩,hb,trivial⟩;exact (p2 g hg).elim (fun ⟨x,hx,_⟩=>by cases hx) id
def Zct (f:FuncId) (rows:List (List C)):Prop:=∀ (k:Int) (E:Nat->Prop) (v:Value),0<=k->k+cntRows rows<=1000000000->ConP e0 f [.one (.lit v),.one (.lit (.int .i64 k))] [.set E (fun w=>Own w (.sl rows) E v)] (fun r pm=>∃ E',r=[.one (.lit (.int .i64 (k+cntRows rows)))]∧pm=[.set E' (fun w=>Own w (.sl (Zap k rows)) E' v)])
theorem ZbF (k:Int):Zap k []=[]:=by simp only [Zap]
theorem ZcG:cntRows []=0:=by simp only [cntRows]
theorem ZfT {α:Type} {l:List α} {i:Nat} (h:i < l.length) (x:α):(l.set i x)[i]?=some x:=by simp [h]
theorem Zax {α:Type} (l:List α) (i:Nat) (x:α):(l.set i x).length=l.length:=List.length_set
theorem Zaw {α:Type} (l:List α) (i:Nat) (x y:α):(l.set i x).set i y=l.set i y:=List.set_set ..
theorem Zea {α:Type} {l:List α} {i:Nat} {x:α} (h:i < l.length):(l.set i x).take (i+1)=l.take i++[x]:=by
 rw [Zbx (x:=x) (by simp [h]),List.take_set_of_le (Tai _)]
theorem Zeb {α:Type} (l:List α) (i:Nat) (x:α):(l.set i x).drop (i+1)=l.drop (i+1):=List.drop_set_of_lt om
theorem Zl2 (rows:List (List C)) (hok:Zak (Zac .term) rows) (h:∀ r∈rows,∀ i0 t1 i2 r3,r=[.lit (.int .i64 i0),.lit (.string t1),.lit (.int .i64 i2),.sl r3]->Zct 19 r3):Zct 19 rows:=by
 intro k E v hk hb;refine gIP (ts:=[.slot 4]) [1000] 563 Try.func19 ?_;refine fG @e0P ?_;by_cases hne:rows=[]
 ·subst hne;refine pEx [1000] [1000] Zfx ?_;rintro ⟨a,cap⟩ rfl;have F:=@hk;refine gL (ι:=Unit) [1,5,9] [] (fun x=>[(5,.d (.one (.lit (.int .i64 0)))),(1,.d (.one (.lit (.int .i64 k))))]) (fun x=>[]) (fun x=>True) (fun x=>0) (()) (trivial) (fun x hx=>?_);clear F;have q1:((0:Int) < 0)=False:=eq_false (by decide);have q2:((0:Int) < ((0:Nat):Int))=False:=eq_false (by decide);refine fG (ai @q1 @q2) ?_;have F:=hk
  refine gTP (R:=fun r pm=>∃ E',r=[.one (.lit (.int .i64 (k+(cntRows []:Nat))))]∧pm=[.set E' (fun w=>Own w (.sl (Zap k [])) E' (.slice a 0 cap))]) [1000] ⟨E,by simp only [cntRows,Int.natCast_zero,Int.add_zero];rfl,by simp only [Zap];rfl⟩
 ·have hrl:rowsLen 4 rows:=Zak.rowsLen hok;refine pEx [1000] [1000,1001] (ZeH hne hrl) ?_;rintro ⟨a,cap,ety,uss,E1⟩ ⟨rfl,hl,hmx⟩;simp only at hl ⊢;unfold maxLen at hmx;refine pE [] [1002] ZbK ?_;have F:=aj4 @ZbF @ZcG @Int.add_zero @Int.natCast_zero;refine gL (ι:=Nat × List (List Value) × (Nat->Prop) × (Nat->Prop)) [1,5,9] [1000,1001,1002] (fun x=>[(5,.d (.one (.lit (.int .i64 (x.1:Int))))),(1,.d (.one (.lit (.int .i64 (k+(cntRows (rows.take x.1):Nat))))))]) (fun x=>[(1000,.buf (some (a,cap)) ety 4 (x.2.1.map Zaf)),(1001,.set x.2.2.1 (fun w=>Zan w (rows.drop x.1) x.2.2.1 (x.2.1.drop x.1))),(1002,.set x.2.2.2 (fun w=>Zan w (Zap k (rows.take x.1)) x.2.2.2 (x.2.1.take x.1)))]) (fun x=>x.1<=rows.length∧x.2.1.length=rows.length) (fun x=>rows.length - x.1) ((0,uss,E1,fun _=>False)) (⟨Taj _,hl⟩) (fun x hx=>?_);clear F
  obtain ⟨i,us,E2,E3⟩:=x;obtain ⟨hi,hn⟩:=hx;simp only at hi hn;dsimp only;by_cases hlt:i < rows.length
  ·obtain ⟨r,hr⟩:∃ r,rows[i]?=some r:=⟨_,Taa hlt⟩;obtain ⟨u,hu⟩:∃ u,us[i]?=some u:=⟨_,Taa om⟩;obtain ⟨i0,t1,i2,r3,rfl,_,_,_,g3⟩:=ZbE (hok.get hr);have hm:=h _ (Tac hr) i0 t1 i2 r3 rfl;have hc1:cntRows (rows.take (i+1))=cntRows (rows.take i)+(3+cntRows r3):=by
    rw [Zbx hr,ZbV];simp only [ZbA,cntC];omega
   have hc2:=Zbo rows (i+1);rw [Zca hr,Zca hu];refine pEx [1001] [1001] (ZeI rfl) ?_;rintro ⟨⟩ hlit;obtain ⟨u3,rfl⟩:∃ u3,u=[.int .i64 i0,.string t1,.int .i64 i2,u3]:=by
    match u,hlit with
    | [_,_,_,u3],⟨rfl,rfl,rfl,_⟩=>exact ⟨u3,rfl⟩
   refine pEx (f:=fun (x:(Nat->Prop) × (Nat->Nat->Prop))=>[.set x.1 (fun w=>Zan w (rows.drop (i+1)) x.1 (us.drop (i+1))),.set (x.2 0) (fun w=>Own w (.sl r3) (x.2 0) u3)]) [1001] [1001,1003] (Zfy rfl) ?_;rintro ⟨E4,Es⟩ -;dsimp only;generalize hkk:k+(cntRows (rows.take i):Int)=kk;have q1:=lT i rows.length;have q2:i < rows.length:=hlt;have hs:∀ X:List C,((us.map Zaf).set i X)[i]?=some X:=fun X=>ZfT (by rw [Zar,hn];omega) X
   have w1:IntKind.i64.wrap (kk+1)=kk+1:=IntWalk.i64_in _ om;have w2:IntKind.i64.wrap (kk+1+1)=kk+1+1:=IntWalk.i64_in _ om;have w3:IntKind.i64.wrap (kk+1+1+1)=kk+1+1+1:=IntWalk.i64_in _ om;have w4:IntKind.i64.wrap ((i:Int)+1)=(i:Int)+1:=IntWalk.i64_in _ om;refine fB (aj13 @q1 @hl @hn @hu @ZcC @Zar @Zax @hs @w1 @w2 @w3 @q2 @Zaw) ?_;refine fC @q1 (Zbn (kk+1) om om) ?_;refine fR (aj9 @hl @hn @hu @ZcC @Zar @Zax @hs @q2 @Zaw) ?_
   refine fB (aj13 @q1 @hl @hn @hu @ZcC @Zar @Zax @hs @w1 @w2 @w3 @q2 @Zaw) ?_;have F:=aj13 @q1 @hl @hn @hu @ZcC @Zar @Zax @hs @w1 @w2 @w3 @q2 @Zaw;refine gCP [1003] [1003] (hm (kk+1+1+1) (Es 0) u3 om om) ?_;clear F;rintro r pm ⟨E5,rfl,rfl⟩;simp only [setA,retA,zipM,Taf,Tah];refine fR @q1 ?_;obtain ⟨E6,hre⟩:∃ E6,Za1 [.set E3 (fun w=>Zan w (Zap k (rows.take i)) E3 (us.take i)),.set E5 (fun w=>Own w (.sl (Zap (kk+1+1+1) r3)) E5 u3)] [.set E6 (fun w=>Zan w (Zap k (rows.take (i+1))) E6 ((us.set i [.int .i64 kk,.string (txt (kk+1)),.int .i64 (kk+1+1),u3]).take (i+1)))]:=by
    have hz:=Zfz (E:=E3) (done:=Zap k (rows.take i)) (ud:=us.take i) (cs:=[.lit (.int .i64 kk),.lit (.string (txt (kk+1))),.lit (.int .i64 (kk+1+1)),.sl (Zap (kk+1+1+1) r3)]) (us:=[.int .i64 kk,.string (txt (kk+1)),.int .i64 (kk+1+1),u3]) (Es:=fun _=>E5) rfl ⟨rfl,rfl,rfl,trivial⟩;rw [Zbx hr,ZcB,hkk,Zea om];simp only [ZbL,mkC,mkV,cntC,Int.natCast_one];exact ⟨_,hz⟩
   refine pE [1002,1003] [1002] hre ?_;have e1:((us.set i [.int .i64 kk,.string (txt (kk+1)),.int .i64 (kk+1+1),u3]).map Zaf)=(us.map Zaf).set i [.lit (.int .i64 kk),.lit (.string (txt (kk+1))),.lit (.int .i64 (kk+1+1)),.lit u3]:=by rw [List.map_set,ZcC]
   have e2:=Zeb us i [.int .i64 kk,.string (txt (kk+1)),.int .i64 (kk+1+1),u3];have e5:k+(cntRows (rows.take (i+1)):Int)=kk+1+1+1+(cntRows r3:Int):=by rw [hc1];omega
   have hn2:(us.set i [.int .i64 kk,.string (txt (kk+1)),.int .i64 (kk+1+1),u3]).length=rows.length:=by rw [Zax,hn]
   generalize us.set i [.int .i64 kk,.string (txt (kk+1)),.int .i64 (kk+1+1),u3]=us2 at e1 e2 hn2 ⊢;rw [<- e1,<- e2];have F:=aj3 @w4 @e5 @hl;refine gG ?_;exact ⟨(i+1,us2,E4,E6),⟨hlt,hn2⟩,gw,gw,om⟩
  ·obtain rfl:i=rows.length:=by omega
   have q1:=lF rows.length rows.length;rw [Tap,List.take_of_length_le (Nat.le_of_eq hn)];refine fG (aj3 @q1 @hl @hn) ?_;obtain ⟨E6,hre⟩:∃ E6,Za1 [.buf (some (a,cap)) ety 4 (us.map Zaf),.set E3 (fun w=>Zan w (Zap k rows) E3 us)] [.set E6 (fun w=>Own w (.sl (Zap k rows)) E6 (.slice a uss.length cap))]:=by
    rw [hl,<- hn];exact ⟨_,Zbi (fun w h=>h) (Own.stable _ _ _)⟩
   refine pE [1000,1002] [1000] hre ?_;have F:=hk;exact gTP (R:=fun r pm=>∃ E',r=[.one (.lit (.int .i64 (k+(cntRows rows:Nat))))]∧pm=[.set E' (fun w=>Own w (.sl (Zap k rows)) E' (.slice a uss.length cap))]) [1000] ⟨E6,rfl,rfl⟩
theorem ZjR (n:Nat):∀ rows,Zat rows < n->Zak (Zac .term) rows->Zct 19 rows:=by
 induction n with
 | zero=>exact fun _ h=>om
 | succ n ih =>
  intro rows hn hok;refine Zl2 rows hok fun r hr i0 t1 i2 r3 he=>?_;subst he;obtain ⟨i,hi⟩:=Tbg hr;have h1:=ZaV hi;obtain ⟨_,_,_,_,he,_,_,_,g3⟩:=ZbE (hok.get hi);injection he with _ he;injection he with _ he;injection he with _ he;injection he with he _;injection he with he;subst he
  simp only [Zay,Zbg] at h1;exact ih _ om g3
theorem ZbM (hok:Zak (Zac .term) rows):Zct 19 rows:=ZjR _ rows (Tan _) hok
def Zb8:Int->List C->List C
 | _,[]=>[]
 | k,.sl rows::cs=>.sl (Zap k rows)::Zb8 (k+cntRows rows) cs
 | k,c::cs=>c::Zb8 k cs
def cntTop:List C->Nat
 | []=>0
 | .sl rows::cs=>cntRows rows+cntTop cs
 | _::cs=>cntTop cs
def Zrm (f:FuncId) (row:List C):Prop:=∀ (k:Int) (E:Nat->Prop) (us:List Value),us.length=row.length->(Zaf us).all Zal=true->0<=k->k+cntTop row<=1000000000->ConP e0 f [.agg (Zaf us),.one (.lit (.int .i64 k))] [.set E (fun w=>Zae w row E us)] (fun r pm=>∃ E',r=[.one (.lit (.int .i64 (k+cntTop row)))]∧pm=[.set E' (fun w=>Zae w (Zb8 k row) E' us)])
theorem Zlt {E:Nat->Prop} {r:List C} (hp:r.all Zcv=true):ZeY (ι:=Unit) [.set E (fun w=>Zae w r E us)] (fun _=>ZcO r us) (fun _=>[.set E (fun w=>Zae w r E us)]):=fun w S h ha=>by
 obtain ⟨h1,h2,h3⟩:(∀ b,E b->b < w.heap.size∧¬ S b)∧Zae w r E us∧_:=h (.set E (fun w=>Zae w r E us)) (by simp);obtain ⟨Es,hl,_⟩:=Zd5 (S:=S) hp h2 h1;exact ⟨(),hl,h,ha,fun _ h=>h⟩
theorem Ze7 {E:Nat->Prop} {r:List C} (hp:r.all Zcv=true):ZeY (ι:=Nat->Nat->Prop) [.set E (fun w=>Zae w r E us)] (fun _=>True) (fun i=>ZaQ r us i):=fun w S h ha=>by
 obtain ⟨h1,h2,h3⟩:(∀ b,E b->b < w.heap.size∧¬ S b)∧Zae w r E us∧_:=h (.set E (fun w=>Zae w r E us)) (by simp);obtain ⟨Es,hl,q1,q2,q3⟩:=Zd5 (S:=S) hp h2 h1;exact ⟨Es,trivial,q1,q2,fun g hg=>⟨_,Tas,q3 g hg⟩⟩
theorem Ze8 {cs:List C} {Es:Nat->Nat->Prop} (hp:cs.all Zcv=true) (hl:ZcO cs us):Za1 (ZaQ cs us Es) [.set (ZaG (ZaQ cs us Es)) (fun w=>Zae w cs (ZaG (ZaQ cs us Es)) us)]:=fun w S h ha=>by
 have hv:=Zae.of_cells (w:=w) (S:=S) hp hl h ha;refine ⟨fun x hx=>?_,Zcz _,fun g ⟨x,hx,hg⟩=>?_⟩
 ·simp only [Tbd,List.not_mem_nil,or_false] at hx;subst hx;refine ⟨fun b ⟨y,hy,hg⟩=>?_,hv,Zae.stable _ _ _⟩;obtain ⟨E',G',rfl⟩:=Zdg y hy;exact (h _ hy).1 b hg
 ·simp only [Tbd,List.not_mem_nil,or_false] at hx;subst hx;exact hg
theorem ZfF (hok:Zao (Zac .term) row):Zrm 33 row:=by
 obtain ⟨i0,t1,i2,r3,rfl,_,_,_,g3⟩:=ZbE hok;intro k E us hl hc hk hb;obtain ⟨u0,u1,u2,u3,rfl⟩:=len4 hl;obtain ⟨k0,k1,k2,k3⟩:=okc4 hc;simp only [cntTop,Nat.add_zero] at hb ⊢;rw [ZcC];refine gIP (ts:=[.slot 4]) [1000] 23 Try.func33 ?_;refine pEx [1000] [1000] (Zlt rfl) ?_;rintro ⟨⟩ ⟨rfl,rfl,rfl,_⟩;refine pEx (f:=fun (x:Nat->Nat->Prop)=>[.set (x 0) (fun w=>Own w (.sl r3) (x 0) u3)]) [1000] [1000] (Ze7 rfl) ?_
 rintro Es -;refine fB (aj4 @k0 @k1 @k2 @k3) ?_;have F:=aj4 @k0 @k1 @k2 @k3;refine gCP [1000] [1000] (ZbM g3 k (Es 0) u3 hk hb) ?_;clear F;rintro r pm ⟨E5,rfl,rfl⟩;simp only [setA,retA,zipM,Taf,Tah];refine fR (aj4 @k0 @k1 @k2 @k3) ?_;refine fG (aj4 @k0 @k1 @k2 @k3) ?_
 obtain ⟨E6,hre⟩:∃ E6,Za1 [.set E5 (fun w=>Own w (.sl (Zap k r3)) E5 u3)] [.set E6 (fun w=>Zae w [.lit (.int .i64 i0),.lit (.string t1),.lit (.int .i64 i2),.sl (Zap k r3)] E6 [.int .i64 i0,.string t1,.int .i64 i2,u3])] :=
  ⟨_,Ze8 (cs:=[.lit (.int .i64 i0),.lit (.string t1),.lit (.int .i64 i2),.sl (Zap k r3)]) (us:=[.int .i64 i0,.string t1,.int .i64 i2,u3]) (Es:=fun _=>E5) rfl ⟨rfl,rfl,rfl,trivial⟩⟩
 refine pE [1000] [1000] hre ?_;have F:=hk;exact gTP (R:=fun r pm=>∃ E',r=[.one (.lit (.int .i64 (k+(cntRows r3:Nat))))]∧pm=[.set E' (fun w=>Zae w (Zb8 k [.lit (.int .i64 i0),.lit (.string t1),.lit (.int .i64 i2),.sl r3]) E' [.int .i64 i0,.string t1,.int .i64 i2,u3])]) [1000] ⟨E6,rfl,by simp only [Zb8];rfl⟩
def ZcW (f:FuncId) (rows:List (List C)):Prop:=∀ (k:Int),0<=k->k+cntRows rows<=1000000000->Con e0 f [.one (.sl (Zap k rows)),.one (.lit (.int .i64 k))] [.one (.lit (.int .i64 (k+cntRows rows)))]
theorem ZcX:∀ {rows:List (List C)} {i:Nat} {r:List C} (k:Int),rows[i]?=some r->(Zap k rows)[i]?=some (ZbL (k+cntRows (rows.take i)) r)
 | q::rows,0,r,k,h=>by simp at h;subst h;simp [Zap,cntRows]
 | q::rows,i+1,r,k,h=>by
  simp only [Tau] at h;simp only [Zap,Tau,Taz,cntRows];rw [ZcX _ h];congr 2;omega
 | [],_,_,_,h=>by simp at h
theorem ZrX {v:Value} {k:Int} (h:Zal (.lit v)=true):Zal (.lit (mkV k v))=true:=by
 cases v <;> first | rfl | exact h
theorem Zge:∀ (cs:List C) (k:Int),cs.all Zal=true->(ZbL k cs).all Zal=true
 | [],_,_=>by simp [ZbL]
 | c::cs,k,h=>by
  simp only [List.all_cons,Tar] at h;simp only [ZbL,List.all_cons,Tar];refine ⟨?_,Zge cs _ h.2⟩
  cases c with
  | lit v=>simp only [mkC];exact ZrX h.1
  | _=>simp [mkC,Zal]
theorem ZfU {n:Nat}:∀ {rows:List (List C)} (k:Int),rowsLen n rows->ZaC n (Zap k rows)=true
 | [],k,_=>by simp [Zap,ZaC]
 | r::rows,k,h=>by
  have h1:=h r Tas;have h2:=ZfU (k+ZbA r) (fun x hx=>h x (Tal _ hx):rowsLen n rows);unfold ZaC at h2 ⊢;simp only [Zap,List.all_cons,Tar];exact ⟨⟨by rw [Zh1,h1.1];exact beq_self_eq_true n,Zge _ _ h1.2⟩,h2⟩
theorem Zl3 (rows:List (List C)) (hok:Zak (Zac .term) rows) (hmx:rows.length<=1048576) (h:∀ r∈rows,∀ i0 t1 i2 r3,r=[.lit (.int .i64 i0),.lit (.string t1),.lit (.int .i64 i2),.sl r3]->ZcW 20 r3):ZcW 20 rows:=by
 intro k hk hb;have hrb:ZaC 4 (Zap k rows)=true:=ZfU k hok.rowsLen;have hml:=ZcS k rows;refine gI (ts:=[.slot 4]) 281612684362291 Try.func20 ?_;refine fG @e0P ?_;have F:=aj4 @ZbF @ZcG @Int.add_zero @Int.natCast_zero;refine gL (ι:=Nat) [1,4,5,9,18,28,37,48] [] (fun x=>[(5,.d (.one (.lit (.int .i64 (x:Int))))),(1,.d (.one (.lit (.int .i64 (k+(cntRows (rows.take x):Nat))))))]) (fun x=>[]) (fun x=>x<=rows.length) (fun x=>rows.length - x) (0) (Taj _) (fun x hx=>?_);clear F
 by_cases hlt:x < rows.length
 ·obtain ⟨r,hr⟩:∃ r,rows[x]?=some r:=⟨_,Taa hlt⟩;obtain ⟨i0,t1,i2,r3,rfl,_,_,_,g3⟩:=ZbE (hok.get hr);have hm:=h _ (Tac hr) i0 t1 i2 r3 rfl;have hc1:cntRows (rows.take (x+1))=cntRows (rows.take x)+(3+cntRows r3):=by
   rw [Zbx hr,ZbV];simp only [ZbA,cntC];omega
  have hc2:=Zbo rows (x+1);have hg:=ZcX k hr;simp only [ZbL,mkC,mkV,cntC,Int.natCast_one] at hg;have e5:k+(cntRows (rows.take (x+1)):Int)=k+(cntRows (rows.take x):Int)+1+1+1+(cntRows r3:Int):=by rw [hc1];omega
  have b1:k+(cntRows (rows.take x):Int)+3+cntRows r3<=1000000000:=om;have b0:0<=k+(cntRows (rows.take x):Int):=om;generalize k+(cntRows (rows.take x):Int)=kk at hg e5 b1 b0 ⊢;have q1:=lT x rows.length;have w1:IntKind.i64.wrap (kk+1)=kk+1:=IntWalk.i64_in _ om;have w2:IntKind.i64.wrap (kk+1+1)=kk+1+1:=IntWalk.i64_in _ om;have w3:IntKind.i64.wrap (kk+1+1+1)=kk+1+1+1:=IntWalk.i64_in _ om;have w4:IntKind.i64.wrap ((x:Int)+1)=(x:Int)+1:=IntWalk.i64_in _ om
  refine fB (aj6 @q1 @hml @hrb @hg @beq_self_eq_true.{0} @w1) ?_;refine fC (aj4 @q1 @hml @hrb @hg) (Zbn (kk+1) om om) ?_;refine fR (aj5 @q1 @hml @hrb @hg @beq_self_eq_true.{0}) ?_;refine fB (aj8 @q1 @hml @hrb @hg @beq_self_eq_true.{0} @w1 @w2 @w3) ?_;refine fC (aj4 @q1 @hml @hrb @hg) (hm (kk+1+1+1) om om) ?_;refine fR @q1 ?_;have q5:(kk+1+1+1+(cntRows r3:Int) < 0)=False:=eq_false om;have F:=aj3 @q5 @w4 @e5;refine gG ?_;exact ⟨x+1,hlt,gw,gw,om⟩
 ·obtain rfl:x=rows.length:=by omega
  have q1:=lF rows.length rows.length;rw [Tap];exact fD (ai @q1 @hml)
theorem ZjS (n:Nat):∀ rows,Zat rows < n->Zak (Zac .term) rows->rows.length+bulkRows rows<=1048576->ZcW 20 rows:=by
 induction n with
 | zero=>exact fun _ h=>om
 | succ n ih =>
  intro rows hn hok hB;refine Zl3 rows hok om fun r hr i0 t1 i2 r3 he=>?_;subst he;obtain ⟨i,hi⟩:=Tbg hr;have h1:=ZaV hi;have h2:=Za4 hi;obtain ⟨_,_,_,_,he,_,_,_,g3⟩:=ZbE (hok.get hi);injection he with _ he;injection he with _ he;injection he with _ he;injection he with he _;injection he with he;subst he
  simp only [Zay,Zbg] at h1;simp only [bulkRow,ZaT] at h2;exact ih _ om g3 om
theorem ZbN (hok:Zak (Zac .term) rows) (hB:rows.length+bulkRows rows<=1048576):ZcW 20 rows:=ZjS _ rows (Tan _) hok hB
theorem ZfG (hok:Zao (Zac .term) row) (hB:bulkRow row<=1048576) (k:Int) (hk:0<=k) (hb:k+cntTop row<=1000000000):Con e0 35 [.agg (Zb8 k row),.one (.lit (.int .i64 k))] [.one (.lit (.int .i64 (k+cntTop row)))]:=by
 obtain ⟨i0,t1,i2,r3,rfl,_,_,_,g3⟩:=ZbE hok;simp only [cntTop,Nat.add_zero] at hb ⊢;simp only [bulkRow,ZaT] at hB;simp only [Zb8];have q5:(k+(cntRows r3:Int) < 0)=False:=eq_false om;refine gI (ts:=[.slot 4]) 1047 Try.func35 ?_;refine fB @e0P ?_;refine fC @q5 (ZbN g3 om k hk hb) ?_;refine fR @q5 ?_;exact fD @q5
theorem Zgs (hok:Zak (Zac .binding) rows):Zct 44 rows:=by
 intro k E v hk hb;refine gIP (ts:=[.slot 4]) [1000] 563 Try.func44 ?_;refine fG @e0P ?_;by_cases hne:rows=[]
 ·subst hne;refine pEx [1000] [1000] Zfx ?_;rintro ⟨a,cap⟩ rfl;have F:=@hk;refine gL (ι:=Unit) [1,5,9] [] (fun x=>[(5,.d (.one (.lit (.int .i64 0)))),(1,.d (.one (.lit (.int .i64 k))))]) (fun x=>[]) (fun x=>True) (fun x=>0) (()) (trivial) (fun x hx=>?_);clear F;have q1:((0:Int) < 0)=False:=eq_false (by decide);have q2:((0:Int) < ((0:Nat):Int))=False:=eq_false (by decide);refine fG (ai @q1 @q2) ?_;have F:=hk
  refine gTP (R:=fun r pm=>∃ E',r=[.one (.lit (.int .i64 (k+(cntRows []:Nat))))]∧pm=[.set E' (fun w=>Own w (.sl (Zap k [])) E' (.slice a 0 cap))]) [1000] ⟨E,by simp only [cntRows,Int.natCast_zero,Int.add_zero];rfl,by simp only [Zap];rfl⟩
 ·have hrl:rowsLen 8 rows:=Zak.rowsLen hok;refine pEx [1000] [1000,1001] (ZeH hne hrl) ?_;rintro ⟨a,cap,ety,uss,E1⟩ ⟨rfl,hl,hmx⟩;simp only at hl ⊢;unfold maxLen at hmx;refine pE [] [1002] ZbK ?_;have F:=aj4 @ZbF @ZcG @Int.add_zero @Int.natCast_zero;refine gL (ι:=Nat × List (List Value) × (Nat->Prop) × (Nat->Prop)) [1,5,9] [1000,1001,1002] (fun x=>[(5,.d (.one (.lit (.int .i64 (x.1:Int))))),(1,.d (.one (.lit (.int .i64 (k+(cntRows (rows.take x.1):Nat))))))]) (fun x=>[(1000,.buf (some (a,cap)) ety 8 (x.2.1.map Zaf)),(1001,.set x.2.2.1 (fun w=>Zan w (rows.drop x.1) x.2.2.1 (x.2.1.drop x.1))),(1002,.set x.2.2.2 (fun w=>Zan w (Zap k (rows.take x.1)) x.2.2.2 (x.2.1.take x.1)))]) (fun x=>x.1<=rows.length∧x.2.1.length=rows.length) (fun x=>rows.length - x.1) ((0,uss,E1,fun _=>False)) (⟨Taj _,hl⟩) (fun x hx=>?_);clear F
  obtain ⟨i,us,E2,E3⟩:=x;obtain ⟨hi,hn⟩:=hx;simp only at hi hn;dsimp only;by_cases hlt:i < rows.length
  ·obtain ⟨r,hr⟩:∃ r,rows[i]?=some r:=⟨_,Taa hlt⟩;obtain ⟨u,hu⟩:∃ u,us[i]?=some u:=⟨_,Taa om⟩;obtain ⟨i0,t1,i2,r3,i4,t5,i6,r7,rfl,g0,g1,g2,g3,g4,g5,g6,g7⟩:=Zb2 (hok.get hr);have hm3:=ZbM g3;have hm7:=ZbM g7;have hc1:cntRows (rows.take (i+1))=cntRows (rows.take i)+(6+cntRows r3+cntRows r7):=by
    rw [Zbx hr,ZbV];simp only [ZbA,cntC];try omega
   have hc2:=Zbo rows (i+1);rw [Zca hr,Zca hu];refine pEx [1001] [1001] (ZeI rfl) ?_;rintro ⟨⟩ hlit;obtain ⟨u3,u7,rfl⟩:∃ u3 u7,u=[.int .i64 i0,.string t1,.int .i64 i2,u3,.int .i64 i4,.string t5,.int .i64 i6,u7]:=by
    match u,hlit with
    | [_,_,_,u3,_,_,_,u7],⟨rfl,rfl,rfl,rfl,rfl,rfl,_⟩=>exact ⟨u3,u7,rfl⟩
   refine pEx (f:=fun (x:(Nat->Prop) × (Nat->Nat->Prop))=>[.set x.1 (fun w=>Zan w (rows.drop (i+1)) x.1 (us.drop (i+1))),.set (x.2 0) (fun w=>Own w (.sl r3) (x.2 0) u3),.set (x.2 1) (fun w=>Own w (.sl r7) (x.2 1) u7)]) [1001] [1001,1003,1004] (Zfy rfl) ?_;rintro ⟨E4,Es⟩ -;dsimp only;have hkk0:0<=k+(cntRows (rows.take i):Int):=om;have hkk1:k+(cntRows (rows.take i):Int)+((6+cntRows r3+cntRows r7:Nat):Int)<=1000000000:=om
   generalize hkk:k+(cntRows (rows.take i):Int)=kk at hkk0 hkk1 ⊢;have q1:=lT i rows.length;have q2:i < rows.length:=hlt;have hs:∀ X:List C,((us.map Zaf).set i X)[i]?=some X:=fun X=>ZfT (by rw [Zar,hn];omega) X;have lr:Zaf [.int .i64 i0,.string t1,.int .i64 i2,u3,.int .i64 i4,.string t5,.int .i64 i6,u7]=[.lit (.int .i64 i0),.lit (.string t1),.lit (.int .i64 i2),.lit (u3),.lit (.int .i64 i4),.lit (.string t5),.lit (.int .i64 i6),.lit (u7)]:=rfl
   have w0:IntKind.i64.wrap (kk+1)=kk+1:=IntWalk.i64_in _ om;have w1:IntKind.i64.wrap (kk+1+1)=kk+1+1:=IntWalk.i64_in _ om;have w2:IntKind.i64.wrap (kk+1+1+1)=kk+1+1+1:=IntWalk.i64_in _ om;have w4:IntKind.i64.wrap (kk+1+1+1+(cntRows r3:Int)+1)=kk+1+1+1+(cntRows r3:Int)+1:=IntWalk.i64_in _ om;have w5:IntKind.i64.wrap (kk+1+1+1+(cntRows r3:Int)+1+1)=kk+1+1+1+(cntRows r3:Int)+1+1:=IntWalk.i64_in _ om
   have w6:IntKind.i64.wrap (kk+1+1+1+(cntRows r3:Int)+1+1+1)=kk+1+1+1+(cntRows r3:Int)+1+1+1:=IntWalk.i64_in _ om;have wi:IntKind.i64.wrap ((i:Int)+1)=(i:Int)+1:=IntWalk.i64_in _ om;refine fB (aj16 @q1 @hl @hn @hu @lr @Zar @Zax @hs @w0 @w1 @w2 @w4 @w5 @w6 @q2 @Zaw) ?_;refine fC (aj16 @q1 @hl @hn @hu @lr @Zar @Zax @hs @w0 @w1 @w2 @w4 @w5 @w6 @q2 @Zaw) (Zbn (kk+1) om om) ?_;refine fR (aj16 @q1 @hl @hn @hu @lr @Zar @Zax @hs @w0 @w1 @w2 @w4 @w5 @w6 @q2 @Zaw) ?_
   refine fB (aj16 @q1 @hl @hn @hu @lr @Zar @Zax @hs @w0 @w1 @w2 @w4 @w5 @w6 @q2 @Zaw) ?_;have F:=aj16 @q1 @hl @hn @hu @lr @Zar @Zax @hs @w0 @w1 @w2 @w4 @w5 @w6 @q2 @Zaw;refine gCP [1003] [1003] (hm3 (kk+1+1+1) (Es 0) u3 om om) ?_;clear F;rintro r pm ⟨F3,rfl,rfl⟩;simp only [setA,retA,zipM,Taf,Tah];refine fR (aj16 @q1 @hl @hn @hu @lr @Zar @Zax @hs @w0 @w1 @w2 @w4 @w5 @w6 @q2 @Zaw) ?_;refine fB (aj16 @q1 @hl @hn @hu @lr @Zar @Zax @hs @w0 @w1 @w2 @w4 @w5 @w6 @q2 @Zaw) ?_
   refine fC (aj16 @q1 @hl @hn @hu @lr @Zar @Zax @hs @w0 @w1 @w2 @w4 @w5 @w6 @q2 @Zaw) (Zbn (kk+1+1+1+(cntRows r3:Int)+1) om om) ?_;refine fR (aj16 @q1 @hl @hn @hu @lr @Zar @Zax @hs @w0 @w1 @w2 @w4 @w5 @w6 @q2 @Zaw) ?_;refine fB (aj16 @q1 @hl @hn @hu @lr @Zar @Zax @hs @w0 @w1 @w2 @w4 @w5 @w6 @q2 @Zaw) ?_;have F:=aj16 @q1 @hl @hn @hu @lr @Zar @Zax @hs @w0 @w1 @w2 @w4 @w5 @w6 @q2 @Zaw;refine gCP [1004] [1004] (hm7 (kk+1+1+1+(cntRows r3:Int)+1+1+1) (Es 1) u7 om om) ?_;clear F
   rintro r pm ⟨F7,rfl,rfl⟩;simp only [setA,retA,zipM,Taf,Tah];refine fR (aj16 @q1 @hl @hn @hu @lr @Zar @Zax @hs @w0 @w1 @w2 @w4 @w5 @w6 @q2 @Zaw) ?_;obtain ⟨E6,hre⟩:∃ E6,Za1 [.set E3 (fun w=>Zan w (Zap k (rows.take i)) E3 (us.take i)),.set F3 (fun w=>Own w (.sl (Zap (kk+1+1+1) r3)) F3 u3),.set F7 (fun w=>Own w (.sl (Zap (kk+1+1+1+(cntRows r3:Int)+1+1+1) r7)) F7 u7)] [.set E6 (fun w=>Zan w (Zap k (rows.take (i+1))) E6 ((us.set i [.int .i64 (kk),.string (txt (kk+1)),.int .i64 (kk+1+1),u3,.int .i64 (kk+1+1+1+(cntRows r3:Int)),.string (txt (kk+1+1+1+(cntRows r3:Int)+1)),.int .i64 (kk+1+1+1+(cntRows r3:Int)+1+1),u7]).take (i+1)))]:=by
    have hz:=Zfz (E:=E3) (done:=Zap k (rows.take i)) (ud:=us.take i) (cs:=[.lit (.int .i64 (kk)),.lit (.string (txt (kk+1))),.lit (.int .i64 (kk+1+1)),.sl (Zap (kk+1+1+1) r3),.lit (.int .i64 (kk+1+1+1+(cntRows r3:Int))),.lit (.string (txt (kk+1+1+1+(cntRows r3:Int)+1))),.lit (.int .i64 (kk+1+1+1+(cntRows r3:Int)+1+1)),.sl (Zap (kk+1+1+1+(cntRows r3:Int)+1+1+1) r7)]) (us:=[.int .i64 (kk),.string (txt (kk+1)),.int .i64 (kk+1+1),u3,.int .i64 (kk+1+1+1+(cntRows r3:Int)),.string (txt (kk+1+1+1+(cntRows r3:Int)+1)),.int .i64 (kk+1+1+1+(cntRows r3:Int)+1+1),u7]) (Es:=fun k=>match k with | 0=>F3 | _=>F7) rfl ⟨rfl,rfl,rfl,rfl,rfl,rfl,trivial⟩
    rw [Zbx hr,ZcB,hkk,Zea om];simp only [ZbL,mkC,mkV,cntC,Int.natCast_one];exact ⟨_,hz⟩
   refine pE [1002,1003,1004] [1002] hre ?_;have e1:((us.set i [.int .i64 (kk),.string (txt (kk+1)),.int .i64 (kk+1+1),u3,.int .i64 (kk+1+1+1+(cntRows r3:Int)),.string (txt (kk+1+1+1+(cntRows r3:Int)+1)),.int .i64 (kk+1+1+1+(cntRows r3:Int)+1+1),u7]).map Zaf)=(us.map Zaf).set i [.lit (.int .i64 (kk)),.lit (.string (txt (kk+1))),.lit (.int .i64 (kk+1+1)),.lit (u3),.lit (.int .i64 (kk+1+1+1+(cntRows r3:Int))),.lit (.string (txt (kk+1+1+1+(cntRows r3:Int)+1))),.lit (.int .i64 (kk+1+1+1+(cntRows r3:Int)+1+1)),.lit (u7)]:=by rw [List.map_set];rfl
   have e2:=Zeb us i [.int .i64 (kk),.string (txt (kk+1)),.int .i64 (kk+1+1),u3,.int .i64 (kk+1+1+1+(cntRows r3:Int)),.string (txt (kk+1+1+1+(cntRows r3:Int)+1)),.int .i64 (kk+1+1+1+(cntRows r3:Int)+1+1),u7];have e5:k+(cntRows (rows.take (i+1)):Int)=kk+1+1+1+(cntRows r3:Int)+1+1+1+(cntRows r7:Int):=by rw [hc1];omega
   have hn2:(us.set i [.int .i64 (kk),.string (txt (kk+1)),.int .i64 (kk+1+1),u3,.int .i64 (kk+1+1+1+(cntRows r3:Int)),.string (txt (kk+1+1+1+(cntRows r3:Int)+1)),.int .i64 (kk+1+1+1+(cntRows r3:Int)+1+1),u7]).length=rows.length:=by rw [Zax,hn]
   generalize us.set i [.int .i64 (kk),.string (txt (kk+1)),.int .i64 (kk+1+1),u3,.int .i64 (kk+1+1+1+(cntRows r3:Int)),.string (txt (kk+1+1+1+(cntRows r3:Int)+1)),.int .i64 (kk+1+1+1+(cntRows r3:Int)+1+1),u7]=us2 at e1 e2 hn2 ⊢;rw [<- e1,<- e2];have F:=aj10 @wi @e5 @hl @w0 @w1 @w2 @w4 @w5 @w6 @hn;refine gG ?_;exact ⟨(i+1,us2,E4,E6),⟨hlt,hn2⟩,gw,gw,om⟩
  ·obtain rfl:i=rows.length:=by omega
   have q1:=lF rows.length rows.length;rw [Tap,List.take_of_length_le (Nat.le_of_eq hn)];refine fG (aj3 @q1 @hl @hn) ?_;obtain ⟨E6,hre⟩:∃ E6,Za1 [.buf (some (a,cap)) ety 8 (us.map Zaf),.set E3 (fun w=>Zan w (Zap k rows) E3 us)] [.set E6 (fun w=>Own w (.sl (Zap k rows)) E6 (.slice a uss.length cap))]:=by
    rw [hl,<- hn];exact ⟨_,Zbi (fun w h=>h) (Own.stable _ _ _)⟩
   refine pE [1000,1002] [1000] hre ?_;have F:=hk;exact gTP (R:=fun r pm=>∃ E',r=[.one (.lit (.int .i64 (k+(cntRows rows:Nat))))]∧pm=[.set E' (fun w=>Own w (.sl (Zap k rows)) E' (.slice a uss.length cap))]) [1000] ⟨E6,rfl,rfl⟩
theorem Zgt (hok:Zak (Zac .binding) rows):Zct 44 rows:=Zgs hok
theorem Zlu (u0:Value):Zaf [u0]=[.lit u0]:=rfl
theorem Zo9 (hok:Zak (Zac .int) rows):Zct 43 rows:=by
 intro k E v hk hb;refine gIP (ts:=[.slot 4]) [1000] 563 Try.func43 ?_;refine fG @e0P ?_;by_cases hne:rows=[]
 ·subst hne;refine pEx [1000] [1000] Zfx ?_;rintro ⟨a,cap⟩ rfl;have F:=@hk;refine gL (ι:=Unit) [1,5,9] [] (fun x=>[(5,.d (.one (.lit (.int .i64 0)))),(1,.d (.one (.lit (.int .i64 k))))]) (fun x=>[]) (fun x=>True) (fun x=>0) (()) (trivial) (fun x hx=>?_);clear F;have q1:((0:Int) < 0)=False:=eq_false (by decide);have q2:((0:Int) < ((0:Nat):Int))=False:=eq_false (by decide);refine fG (ai @q1 @q2) ?_;have F:=hk
  refine gTP (R:=fun r pm=>∃ E',r=[.one (.lit (.int .i64 (k+(cntRows []:Nat))))]∧pm=[.set E' (fun w=>Own w (.sl (Zap k [])) E' (.slice a 0 cap))]) [1000] ⟨E,by simp only [cntRows,Int.natCast_zero,Int.add_zero];rfl,by simp only [Zap];rfl⟩
 ·have hrl:rowsLen 1 rows:=Zak.rowsLen hok;refine pEx [1000] [1000,1001] (ZeH hne hrl) ?_;rintro ⟨a,cap,ety,uss,E1⟩ ⟨rfl,hl,hmx⟩;simp only at hl ⊢;unfold maxLen at hmx;refine pE [] [1002] ZbK ?_;have F:=aj4 @ZbF @ZcG @Int.add_zero @Int.natCast_zero;refine gL (ι:=Nat × List (List Value) × (Nat->Prop) × (Nat->Prop)) [1,5,9] [1000,1001,1002] (fun x=>[(5,.d (.one (.lit (.int .i64 (x.1:Int))))),(1,.d (.one (.lit (.int .i64 (k+(cntRows (rows.take x.1):Nat))))))]) (fun x=>[(1000,.buf (some (a,cap)) ety 1 (x.2.1.map Zaf)),(1001,.set x.2.2.1 (fun w=>Zan w (rows.drop x.1) x.2.2.1 (x.2.1.drop x.1))),(1002,.set x.2.2.2 (fun w=>Zan w (Zap k (rows.take x.1)) x.2.2.2 (x.2.1.take x.1)))]) (fun x=>x.1<=rows.length∧x.2.1.length=rows.length) (fun x=>rows.length - x.1) ((0,uss,E1,fun _=>False)) (⟨Taj _,hl⟩) (fun x hx=>?_);clear F
  obtain ⟨i,us,E2,E3⟩:=x;obtain ⟨hi,hn⟩:=hx;simp only at hi hn;dsimp only;by_cases hlt:i < rows.length
  ·obtain ⟨r,hr⟩:∃ r,rows[i]?=some r:=⟨_,Taa hlt⟩;obtain ⟨u,hu⟩:∃ u,us[i]?=some u:=⟨_,Taa om⟩;obtain ⟨i0,rfl,_⟩:=ZdA (hok.get hr);have hc1:cntRows (rows.take (i+1))=cntRows (rows.take i)+1:=by
    rw [Zbx hr,ZbV];simp only [ZbA,cntC]
   have hc2:=Zbo rows (i+1);rw [Zca hr,Zca hu];refine pEx [1001] [1001] (ZeI rfl) ?_;rintro ⟨⟩ hlit;obtain rfl:u=[.int .i64 i0]:=by
    match u,hlit with
    | [_],⟨rfl,_⟩=>rfl
   refine pEx (f:=fun (x:(Nat->Prop) × (Nat->Nat->Prop))=>[.set x.1 (fun w=>Zan w (rows.drop (i+1)) x.1 (us.drop (i+1)))]) [1001] [1001] (Zfy rfl) ?_;rintro ⟨E4,Es⟩ -;dsimp only;generalize hkk:k+(cntRows (rows.take i):Int)=kk;have q1:=lT i rows.length;have q2:i < rows.length:=hlt;have w1:IntKind.i64.wrap (kk+1)=kk+1:=IntWalk.i64_in _ om;have w4:IntKind.i64.wrap ((i:Int)+1)=(i:Int)+1:=IntWalk.i64_in _ om
   refine fN 3 (aj9 @q1 @hl @hn @hu @Zlu @Zar @Zax @w1 @q2) ?_;obtain ⟨E6,hre⟩:∃ E6,Za1 [.set E3 (fun w=>Zan w (Zap k (rows.take i)) E3 (us.take i))] [.set E6 (fun w=>Zan w (Zap k (rows.take (i+1))) E6 ((us.set i [.int .i64 kk]).take (i+1)))]:=by
    have hz:=Zfz (E:=E3) (done:=Zap k (rows.take i)) (ud:=us.take i) (cs:=[.lit (.int .i64 kk)]) (us:=[.int .i64 kk]) (Es:=fun _ _=>False) rfl ⟨rfl,trivial⟩;rw [Zbx hr,ZcB,hkk,Zea om];simp only [ZbL,mkC,mkV];exact ⟨_,hz⟩
   refine pE [1002] [1002] hre ?_;have e1:((us.set i [.int .i64 kk]).map Zaf)=(us.map Zaf).set i [.lit (.int .i64 kk)]:=by rw [List.map_set,Zlu]
   have e2:=Zeb us i [.int .i64 kk];have e5:k+(cntRows (rows.take (i+1)):Int)=kk+1:=by rw [hc1];omega
   have hn2:(us.set i [.int .i64 kk]).length=rows.length:=by rw [Zax,hn]
   generalize us.set i [.int .i64 kk]=us2 at e1 e2 hn2 ⊢;rw [<- e1,<- e2];have F:=aj3 @w4 @e5 @hl;refine gG ?_;exact ⟨(i+1,us2,E4,E6),⟨hlt,hn2⟩,gw,gw,om⟩
  ·obtain rfl:i=rows.length:=by omega
   have q1:=lF rows.length rows.length;rw [Tap,List.take_of_length_le (Nat.le_of_eq hn)];refine fG (aj3 @q1 @hl @hn) ?_;obtain ⟨E6,hre⟩:∃ E6,Za1 [.buf (some (a,cap)) ety 1 (us.map Zaf),.set E3 (fun w=>Zan w (Zap k rows) E3 us)] [.set E6 (fun w=>Own w (.sl (Zap k rows)) E6 (.slice a uss.length cap))]:=by
    rw [hl,<- hn];exact ⟨_,Zbi (fun w h=>h) (Own.stable _ _ _)⟩
   refine pE [1000,1002] [1000] hre ?_;have F:=hk;exact gTP (R:=fun r pm=>∃ E',r=[.one (.lit (.int .i64 (k+(cntRows rows:Nat))))]∧pm=[.set E' (fun w=>Own w (.sl (Zap k rows)) E' (.slice a uss.length cap))]) [1000] ⟨E6,rfl,rfl⟩
theorem Zjr (hok:Zak (Zac .int) rows):Zct 43 rows:=Zo9 hok
theorem Zid (hok:Zak (Zac .link) rows) (HChain:∀ r,Zak (Zac .chain) r->Zat r < Zat rows->Zct 56 r):Zct 34 rows:=by
 intro k E v hk hb;refine gIP (ts:=[.slot 4]) [1000] 563 Try.func34 ?_;refine fG @e0P ?_;by_cases hne:rows=[]
 ·subst hne;refine pEx [1000] [1000] Zfx ?_;rintro ⟨a,cap⟩ rfl;have F:=@hk;refine gL (ι:=Unit) [1,5,9] [] (fun x=>[(5,.d (.one (.lit (.int .i64 0)))),(1,.d (.one (.lit (.int .i64 k))))]) (fun x=>[]) (fun x=>True) (fun x=>0) (()) (trivial) (fun x hx=>?_);clear F;have q1:((0:Int) < 0)=False:=eq_false (by decide);have q2:((0:Int) < ((0:Nat):Int))=False:=eq_false (by decide);refine fG (ai @q1 @q2) ?_;have F:=hk
  refine gTP (R:=fun r pm=>∃ E',r=[.one (.lit (.int .i64 (k+(cntRows []:Nat))))]∧pm=[.set E' (fun w=>Own w (.sl (Zap k [])) E' (.slice a 0 cap))]) [1000] ⟨E,by simp only [cntRows,Int.natCast_zero,Int.add_zero];rfl,by simp only [Zap];rfl⟩
 ·have hrl:rowsLen 6 rows:=Zak.rowsLen hok;refine pEx [1000] [1000,1001] (ZeH hne hrl) ?_;rintro ⟨a,cap,ety,uss,E1⟩ ⟨rfl,hl,hmx⟩;simp only at hl ⊢;unfold maxLen at hmx;refine pE [] [1002] ZbK ?_;have F:=aj4 @ZbF @ZcG @Int.add_zero @Int.natCast_zero;refine gL (ι:=Nat × List (List Value) × (Nat->Prop) × (Nat->Prop)) [1,5,9] [1000,1001,1002] (fun x=>[(5,.d (.one (.lit (.int .i64 (x.1:Int))))),(1,.d (.one (.lit (.int .i64 (k+(cntRows (rows.take x.1):Nat))))))]) (fun x=>[(1000,.buf (some (a,cap)) ety 6 (x.2.1.map Zaf)),(1001,.set x.2.2.1 (fun w=>Zan w (rows.drop x.1) x.2.2.1 (x.2.1.drop x.1))),(1002,.set x.2.2.2 (fun w=>Zan w (Zap k (rows.take x.1)) x.2.2.2 (x.2.1.take x.1)))]) (fun x=>x.1<=rows.length∧x.2.1.length=rows.length) (fun x=>rows.length - x.1) ((0,uss,E1,fun _=>False)) (⟨Taj _,hl⟩) (fun x hx=>?_);clear F
  obtain ⟨i,us,E2,E3⟩:=x;obtain ⟨hi,hn⟩:=hx;simp only at hi hn;dsimp only;by_cases hlt:i < rows.length
  ·obtain ⟨r,hr⟩:∃ r,rows[i]?=some r:=⟨_,Taa hlt⟩;obtain ⟨u,hu⟩:∃ u,us[i]?=some u:=⟨_,Taa om⟩;obtain ⟨i0,r1,r2,r3,r4,r5,rfl,g0,g1,g2,g3,g4,g5⟩:=ZcV (hok.get hr);have hnd:=ZaV hr;simp only [Zay,Zbg] at hnd;have hm5:=HChain r5 g5 om;have hm1:=Zjr g1;have hm2:=ZbM g2;have hm3:=ZbM g3;have hm4:=Zgt g4;have hc1:cntRows (rows.take (i+1))=cntRows (rows.take i)+(1+cntRows r1+cntRows r2+cntRows r3+cntRows r4+cntRows r5):=by
    rw [Zbx hr,ZbV];simp only [ZbA,cntC];try omega
   have hc2:=Zbo rows (i+1);rw [Zca hr,Zca hu];refine pEx [1001] [1001] (ZeI rfl) ?_;rintro ⟨⟩ hlit;obtain ⟨u1,u2,u3,u4,u5,rfl⟩:∃ u1 u2 u3 u4 u5,u=[.int .i64 i0,u1,u2,u3,u4,u5]:=by
    match u,hlit with
    | [_,u1,u2,u3,u4,u5],⟨rfl,_⟩=>exact ⟨u1,u2,u3,u4,u5,rfl⟩
   refine pEx (f:=fun (x:(Nat->Prop) × (Nat->Nat->Prop))=>[.set x.1 (fun w=>Zan w (rows.drop (i+1)) x.1 (us.drop (i+1))),.set (x.2 0) (fun w=>Own w (.sl r1) (x.2 0) u1),.set (x.2 1) (fun w=>Own w (.sl r2) (x.2 1) u2),.set (x.2 2) (fun w=>Own w (.sl r3) (x.2 2) u3),.set (x.2 3) (fun w=>Own w (.sl r4) (x.2 3) u4),.set (x.2 4) (fun w=>Own w (.sl r5) (x.2 4) u5)]) [1001] [1001,1003,1004,1005,1006,1007] (Zfy rfl) ?_
   rintro ⟨E4,Es⟩ -;dsimp only;have hkk0:0<=k+(cntRows (rows.take i):Int):=om;have hkk1:k+(cntRows (rows.take i):Int)+((1+cntRows r1+cntRows r2+cntRows r3+cntRows r4+cntRows r5:Nat):Int)<=1000000000:=om;generalize hkk:k+(cntRows (rows.take i):Int)=kk at hkk0 hkk1 ⊢;have q1:=lT i rows.length;have q2:i < rows.length:=hlt;have hs:∀ X:List C,((us.map Zaf).set i X)[i]?=some X:=fun X=>ZfT (by rw [Zar,hn];omega) X
   have lr:Zaf [.int .i64 i0,u1,u2,u3,u4,u5]=[.lit (.int .i64 i0),.lit (u1),.lit (u2),.lit (u3),.lit (u4),.lit (u5)]:=rfl;have w0:IntKind.i64.wrap (kk+1)=kk+1:=IntWalk.i64_in _ om;have wi:IntKind.i64.wrap ((i:Int)+1)=(i:Int)+1:=IntWalk.i64_in _ om;refine fB (aj11 @q1 @hl @hn @hu @lr @Zar @Zax @hs @w0 @q2 @Zaw) ?_;have F:=aj11 @q1 @hl @hn @hu @lr @Zar @Zax @hs @w0 @q2 @Zaw;refine gCP [1003] [1003] (hm1 (kk+1) (Es 0) u1 om om) ?_;clear F
   rintro r pm ⟨F1,rfl,rfl⟩;simp only [setA,retA,zipM,Taf,Tah];refine fR (aj11 @q1 @hl @hn @hu @lr @Zar @Zax @hs @w0 @q2 @Zaw) ?_;refine fB (aj11 @q1 @hl @hn @hu @lr @Zar @Zax @hs @w0 @q2 @Zaw) ?_;have F:=aj11 @q1 @hl @hn @hu @lr @Zar @Zax @hs @w0 @q2 @Zaw;refine gCP [1004] [1004] (hm2 (kk+1+(cntRows r1:Int)) (Es 1) u2 om om) ?_;clear F;rintro r pm ⟨F2,rfl,rfl⟩;simp only [setA,retA,zipM,Taf,Tah];refine fR (aj11 @q1 @hl @hn @hu @lr @Zar @Zax @hs @w0 @q2 @Zaw) ?_
   refine fB (aj11 @q1 @hl @hn @hu @lr @Zar @Zax @hs @w0 @q2 @Zaw) ?_;have F:=aj11 @q1 @hl @hn @hu @lr @Zar @Zax @hs @w0 @q2 @Zaw;refine gCP [1005] [1005] (hm3 (kk+1+(cntRows r1:Int)+(cntRows r2:Int)) (Es 2) u3 om om) ?_;clear F;rintro r pm ⟨F3,rfl,rfl⟩;simp only [setA,retA,zipM,Taf,Tah];refine fR (aj11 @q1 @hl @hn @hu @lr @Zar @Zax @hs @w0 @q2 @Zaw) ?_;refine fB (aj11 @q1 @hl @hn @hu @lr @Zar @Zax @hs @w0 @q2 @Zaw) ?_
   have F:=aj11 @q1 @hl @hn @hu @lr @Zar @Zax @hs @w0 @q2 @Zaw;refine gCP [1006] [1006] (hm4 (kk+1+(cntRows r1:Int)+(cntRows r2:Int)+(cntRows r3:Int)) (Es 3) u4 om om) ?_;clear F;rintro r pm ⟨F4,rfl,rfl⟩;simp only [setA,retA,zipM,Taf,Tah];refine fR (aj11 @q1 @hl @hn @hu @lr @Zar @Zax @hs @w0 @q2 @Zaw) ?_;refine fB (aj11 @q1 @hl @hn @hu @lr @Zar @Zax @hs @w0 @q2 @Zaw) ?_;have F:=aj11 @q1 @hl @hn @hu @lr @Zar @Zax @hs @w0 @q2 @Zaw;refine gCP [1007] [1007] (hm5 (kk+1+(cntRows r1:Int)+(cntRows r2:Int)+(cntRows r3:Int)+(cntRows r4:Int)) (Es 4) u5 om om) ?_;clear F
   rintro r pm ⟨F5,rfl,rfl⟩;simp only [setA,retA,zipM,Taf,Tah];refine fR (aj11 @q1 @hl @hn @hu @lr @Zar @Zax @hs @w0 @q2 @Zaw) ?_;obtain ⟨E6,hre⟩:∃ E6,Za1 [.set E3 (fun w=>Zan w (Zap k (rows.take i)) E3 (us.take i)),.set F1 (fun w=>Own w (.sl (Zap (kk+1) r1)) F1 u1),.set F2 (fun w=>Own w (.sl (Zap (kk+1+(cntRows r1:Int)) r2)) F2 u2),.set F3 (fun w=>Own w (.sl (Zap (kk+1+(cntRows r1:Int)+(cntRows r2:Int)) r3)) F3 u3),.set F4 (fun w=>Own w (.sl (Zap (kk+1+(cntRows r1:Int)+(cntRows r2:Int)+(cntRows r3:Int)) r4)) F4 u4),.set F5 (fun w=>Own w (.sl (Zap (kk+1+(cntRows r1:Int)+(cntRows r2:Int)+(cntRows r3:Int)+(cntRows r4:Int)) r5)) F5 u5)] [.set E6 (fun w=>Zan w (Zap k (rows.take (i+1))) E6 ((us.set i [.int .i64 (kk),u1,u2,u3,u4,u5]).take (i+1)))]:=by
    have hz:=Zfz (E:=E3) (done:=Zap k (rows.take i)) (ud:=us.take i) (cs:=[.lit (.int .i64 (kk)),.sl (Zap (kk+1) r1),.sl (Zap (kk+1+(cntRows r1:Int)) r2),.sl (Zap (kk+1+(cntRows r1:Int)+(cntRows r2:Int)) r3),.sl (Zap (kk+1+(cntRows r1:Int)+(cntRows r2:Int)+(cntRows r3:Int)) r4),.sl (Zap (kk+1+(cntRows r1:Int)+(cntRows r2:Int)+(cntRows r3:Int)+(cntRows r4:Int)) r5)]) (us:=[.int .i64 (kk),u1,u2,u3,u4,u5]) (Es:=fun k=>match k with | 0=>F1 | 1=>F2 | 2=>F3 | 3=>F4 | _=>F5) rfl ⟨rfl,trivial⟩
    rw [Zbx hr,ZcB,hkk,Zea om];simp only [ZbL,mkC,mkV,cntC,Int.natCast_one];exact ⟨_,hz⟩
   refine pE [1002,1003,1004,1005,1006,1007] [1002] hre ?_;have e1:((us.set i [.int .i64 (kk),u1,u2,u3,u4,u5]).map Zaf)=(us.map Zaf).set i [.lit (.int .i64 (kk)),.lit (u1),.lit (u2),.lit (u3),.lit (u4),.lit (u5)]:=by rw [List.map_set];rfl
   have e2:=Zeb us i [.int .i64 (kk),u1,u2,u3,u4,u5];have e5:k+(cntRows (rows.take (i+1)):Int)=kk+1+(cntRows r1:Int)+(cntRows r2:Int)+(cntRows r3:Int)+(cntRows r4:Int)+(cntRows r5:Int):=by rw [hc1];omega
   have hn2:(us.set i [.int .i64 (kk),u1,u2,u3,u4,u5]).length=rows.length:=by rw [Zax,hn]
   generalize us.set i [.int .i64 (kk),u1,u2,u3,u4,u5]=us2 at e1 e2 hn2 ⊢;rw [<- e1,<- e2];have F:=aj5 @wi @e5 @hl @w0 @hn;refine gG ?_;exact ⟨(i+1,us2,E4,E6),⟨hlt,hn2⟩,gw,gw,om⟩
  ·obtain rfl:i=rows.length:=by omega
   have q1:=lF rows.length rows.length;rw [Tap,List.take_of_length_le (Nat.le_of_eq hn)];refine fG (aj3 @q1 @hl @hn) ?_;obtain ⟨E6,hre⟩:∃ E6,Za1 [.buf (some (a,cap)) ety 6 (us.map Zaf),.set E3 (fun w=>Zan w (Zap k rows) E3 us)] [.set E6 (fun w=>Own w (.sl (Zap k rows)) E6 (.slice a uss.length cap))]:=by
    rw [hl,<- hn];exact ⟨_,Zbi (fun w h=>h) (Own.stable _ _ _)⟩
   refine pE [1000,1002] [1000] hre ?_;have F:=hk;exact gTP (R:=fun r pm=>∃ E',r=[.one (.lit (.int .i64 (k+(cntRows rows:Nat))))]∧pm=[.set E' (fun w=>Own w (.sl (Zap k rows)) E' (.slice a uss.length cap))]) [1000] ⟨E6,rfl,rfl⟩
theorem Zht (hok:Zak (Zac .chain) rows) (HLink:∀ r,Zak (Zac .link) r->Zat r < Zat rows->Zct 34 r):Zct 56 rows:=by
 intro k E v hk hb;refine gIP (ts:=[.slot 4]) [1000] 563 Try.func56 ?_;refine fG @e0P ?_;by_cases hne:rows=[]
 ·subst hne;refine pEx [1000] [1000] Zfx ?_;rintro ⟨a,cap⟩ rfl;have F:=@hk;refine gL (ι:=Unit) [1,5,9] [] (fun x=>[(5,.d (.one (.lit (.int .i64 0)))),(1,.d (.one (.lit (.int .i64 k))))]) (fun x=>[]) (fun x=>True) (fun x=>0) (()) (trivial) (fun x hx=>?_);clear F;have q1:((0:Int) < 0)=False:=eq_false (by decide);have q2:((0:Int) < ((0:Nat):Int))=False:=eq_false (by decide);refine fG (ai @q1 @q2) ?_;have F:=hk
  refine gTP (R:=fun r pm=>∃ E',r=[.one (.lit (.int .i64 (k+(cntRows []:Nat))))]∧pm=[.set E' (fun w=>Own w (.sl (Zap k [])) E' (.slice a 0 cap))]) [1000] ⟨E,by simp only [cntRows,Int.natCast_zero,Int.add_zero];rfl,by simp only [Zap];rfl⟩
 ·have hrl:rowsLen 9 rows:=Zak.rowsLen hok;refine pEx [1000] [1000,1001] (ZeH hne hrl) ?_;rintro ⟨a,cap,ety,uss,E1⟩ ⟨rfl,hl,hmx⟩;simp only at hl ⊢;unfold maxLen at hmx;refine pE [] [1002] ZbK ?_;have F:=aj4 @ZbF @ZcG @Int.add_zero @Int.natCast_zero;refine gL (ι:=Nat × List (List Value) × (Nat->Prop) × (Nat->Prop)) [1,5,9] [1000,1001,1002] (fun x=>[(5,.d (.one (.lit (.int .i64 (x.1:Int))))),(1,.d (.one (.lit (.int .i64 (k+(cntRows (rows.take x.1):Nat))))))]) (fun x=>[(1000,.buf (some (a,cap)) ety 9 (x.2.1.map Zaf)),(1001,.set x.2.2.1 (fun w=>Zan w (rows.drop x.1) x.2.2.1 (x.2.1.drop x.1))),(1002,.set x.2.2.2 (fun w=>Zan w (Zap k (rows.take x.1)) x.2.2.2 (x.2.1.take x.1)))]) (fun x=>x.1<=rows.length∧x.2.1.length=rows.length) (fun x=>rows.length - x.1) ((0,uss,E1,fun _=>False)) (⟨Taj _,hl⟩) (fun x hx=>?_);clear F
  obtain ⟨i,us,E2,E3⟩:=x;obtain ⟨hi,hn⟩:=hx;simp only at hi hn;dsimp only;by_cases hlt:i < rows.length
  ·obtain ⟨r,hr⟩:∃ r,rows[i]?=some r:=⟨_,Taa hlt⟩;obtain ⟨u,hu⟩:∃ u,us[i]?=some u:=⟨_,Taa om⟩;obtain ⟨i0,t1,i2,r3,i4,t5,i6,r7,r8,rfl,g0,g1,g2,g3,g4,g5,g6,g7,g8⟩:=ZbQ (hok.get hr);have hnd:=ZaV hr;simp only [Zay,Zbg] at hnd;have hm8:=HLink r8 g8 om;have hm3:=ZbM g3;have hm7:=ZbM g7;have hc1:cntRows (rows.take (i+1))=cntRows (rows.take i)+(6+cntRows r3+cntRows r7+cntRows r8):=by
    rw [Zbx hr,ZbV];simp only [ZbA,cntC];try omega
   have hc2:=Zbo rows (i+1);rw [Zca hr,Zca hu];refine pEx [1001] [1001] (ZeI rfl) ?_;rintro ⟨⟩ hlit;obtain ⟨u3,u7,u8,rfl⟩:∃ u3 u7 u8,u=[.int .i64 i0,.string t1,.int .i64 i2,u3,.int .i64 i4,.string t5,.int .i64 i6,u7,u8]:=by
    match u,hlit with
    | [_,_,_,u3,_,_,_,u7,u8],⟨rfl,rfl,rfl,rfl,rfl,rfl,_⟩=>exact ⟨u3,u7,u8,rfl⟩
   refine pEx (f:=fun (x:(Nat->Prop) × (Nat->Nat->Prop))=>[.set x.1 (fun w=>Zan w (rows.drop (i+1)) x.1 (us.drop (i+1))),.set (x.2 0) (fun w=>Own w (.sl r3) (x.2 0) u3),.set (x.2 1) (fun w=>Own w (.sl r7) (x.2 1) u7),.set (x.2 2) (fun w=>Own w (.sl r8) (x.2 2) u8)]) [1001] [1001,1003,1004,1005] (Zfy rfl) ?_;rintro ⟨E4,Es⟩ -;dsimp only;have hkk0:0<=k+(cntRows (rows.take i):Int):=om;have hkk1:k+(cntRows (rows.take i):Int)+((6+cntRows r3+cntRows r7+cntRows r8:Nat):Int)<=1000000000:=om
   generalize hkk:k+(cntRows (rows.take i):Int)=kk at hkk0 hkk1 ⊢;have q1:=lT i rows.length;have q2:i < rows.length:=hlt;have hs:∀ X:List C,((us.map Zaf).set i X)[i]?=some X:=fun X=>ZfT (by rw [Zar,hn];omega) X;have lr:Zaf [.int .i64 i0,.string t1,.int .i64 i2,u3,.int .i64 i4,.string t5,.int .i64 i6,u7,u8]=[.lit (.int .i64 i0),.lit (.string t1),.lit (.int .i64 i2),.lit (u3),.lit (.int .i64 i4),.lit (.string t5),.lit (.int .i64 i6),.lit (u7),.lit (u8)]:=rfl
   have w0:IntKind.i64.wrap (kk+1)=kk+1:=IntWalk.i64_in _ om;have w1:IntKind.i64.wrap (kk+1+1)=kk+1+1:=IntWalk.i64_in _ om;have w2:IntKind.i64.wrap (kk+1+1+1)=kk+1+1+1:=IntWalk.i64_in _ om;have w4:IntKind.i64.wrap (kk+1+1+1+(cntRows r3:Int)+1)=kk+1+1+1+(cntRows r3:Int)+1:=IntWalk.i64_in _ om;have w5:IntKind.i64.wrap (kk+1+1+1+(cntRows r3:Int)+1+1)=kk+1+1+1+(cntRows r3:Int)+1+1:=IntWalk.i64_in _ om
   have w6:IntKind.i64.wrap (kk+1+1+1+(cntRows r3:Int)+1+1+1)=kk+1+1+1+(cntRows r3:Int)+1+1+1:=IntWalk.i64_in _ om;have wi:IntKind.i64.wrap ((i:Int)+1)=(i:Int)+1:=IntWalk.i64_in _ om;refine fB (aj16 @q1 @hl @hn @hu @lr @Zar @Zax @hs @w0 @w1 @w2 @w4 @w5 @w6 @q2 @Zaw) ?_;refine fC (aj16 @q1 @hl @hn @hu @lr @Zar @Zax @hs @w0 @w1 @w2 @w4 @w5 @w6 @q2 @Zaw) (Zbn (kk+1) om om) ?_;refine fR (aj16 @q1 @hl @hn @hu @lr @Zar @Zax @hs @w0 @w1 @w2 @w4 @w5 @w6 @q2 @Zaw) ?_
   refine fB (aj16 @q1 @hl @hn @hu @lr @Zar @Zax @hs @w0 @w1 @w2 @w4 @w5 @w6 @q2 @Zaw) ?_;have F:=aj16 @q1 @hl @hn @hu @lr @Zar @Zax @hs @w0 @w1 @w2 @w4 @w5 @w6 @q2 @Zaw;refine gCP [1003] [1003] (hm3 (kk+1+1+1) (Es 0) u3 om om) ?_;clear F;rintro r pm ⟨F3,rfl,rfl⟩;simp only [setA,retA,zipM,Taf,Tah];refine fR (aj16 @q1 @hl @hn @hu @lr @Zar @Zax @hs @w0 @w1 @w2 @w4 @w5 @w6 @q2 @Zaw) ?_;refine fB (aj16 @q1 @hl @hn @hu @lr @Zar @Zax @hs @w0 @w1 @w2 @w4 @w5 @w6 @q2 @Zaw) ?_
   refine fC (aj16 @q1 @hl @hn @hu @lr @Zar @Zax @hs @w0 @w1 @w2 @w4 @w5 @w6 @q2 @Zaw) (Zbn (kk+1+1+1+(cntRows r3:Int)+1) om om) ?_;refine fR (aj16 @q1 @hl @hn @hu @lr @Zar @Zax @hs @w0 @w1 @w2 @w4 @w5 @w6 @q2 @Zaw) ?_;refine fB (aj16 @q1 @hl @hn @hu @lr @Zar @Zax @hs @w0 @w1 @w2 @w4 @w5 @w6 @q2 @Zaw) ?_;have F:=aj16 @q1 @hl @hn @hu @lr @Zar @Zax @hs @w0 @w1 @w2 @w4 @w5 @w6 @q2 @Zaw;refine gCP [1004] [1004] (hm7 (kk+1+1+1+(cntRows r3:Int)+1+1+1) (Es 1) u7 om om) ?_;clear F
   rintro r pm ⟨F7,rfl,rfl⟩;simp only [setA,retA,zipM,Taf,Tah];refine fR (aj16 @q1 @hl @hn @hu @lr @Zar @Zax @hs @w0 @w1 @w2 @w4 @w5 @w6 @q2 @Zaw) ?_;refine fB (aj16 @q1 @hl @hn @hu @lr @Zar @Zax @hs @w0 @w1 @w2 @w4 @w5 @w6 @q2 @Zaw) ?_;have F:=aj16 @q1 @hl @hn @hu @lr @Zar @Zax @hs @w0 @w1 @w2 @w4 @w5 @w6 @q2 @Zaw;refine gCP [1005] [1005] (hm8 (kk+1+1+1+(cntRows r3:Int)+1+1+1+(cntRows r7:Int)) (Es 2) u8 om om) ?_;clear F
   rintro r pm ⟨F8,rfl,rfl⟩;simp only [setA,retA,zipM,Taf,Tah];refine fR (aj16 @q1 @hl @hn @hu @lr @Zar @Zax @hs @w0 @w1 @w2 @w4 @w5 @w6 @q2 @Zaw) ?_;obtain ⟨E6,hre⟩:∃ E6,Za1 [.set E3 (fun w=>Zan w (Zap k (rows.take i)) E3 (us.take i)),.set F3 (fun w=>Own w (.sl (Zap (kk+1+1+1) r3)) F3 u3),.set F7 (fun w=>Own w (.sl (Zap (kk+1+1+1+(cntRows r3:Int)+1+1+1) r7)) F7 u7),.set F8 (fun w=>Own w (.sl (Zap (kk+1+1+1+(cntRows r3:Int)+1+1+1+(cntRows r7:Int)) r8)) F8 u8)] [.set E6 (fun w=>Zan w (Zap k (rows.take (i+1))) E6 ((us.set i [.int .i64 (kk),.string (txt (kk+1)),.int .i64 (kk+1+1),u3,.int .i64 (kk+1+1+1+(cntRows r3:Int)),.string (txt (kk+1+1+1+(cntRows r3:Int)+1)),.int .i64 (kk+1+1+1+(cntRows r3:Int)+1+1),u7,u8]).take (i+1)))]:=by
    have hz:=Zfz (E:=E3) (done:=Zap k (rows.take i)) (ud:=us.take i) (cs:=[.lit (.int .i64 (kk)),.lit (.string (txt (kk+1))),.lit (.int .i64 (kk+1+1)),.sl (Zap (kk+1+1+1) r3),.lit (.int .i64 (kk+1+1+1+(cntRows r3:Int))),.lit (.string (txt (kk+1+1+1+(cntRows r3:Int)+1))),.lit (.int .i64 (kk+1+1+1+(cntRows r3:Int)+1+1)),.sl (Zap (kk+1+1+1+(cntRows r3:Int)+1+1+1) r7),.sl (Zap (kk+1+1+1+(cntRows r3:Int)+1+1+1+(cntRows r7:Int)) r8)]) (us:=[.int .i64 (kk),.string (txt (kk+1)),.int .i64 (kk+1+1),u3,.int .i64 (kk+1+1+1+(cntRows r3:Int)),.string (txt (kk+1+1+1+(cntRows r3:Int)+1)),.int .i64 (kk+1+1+1+(cntRows r3:Int)+1+1),u7,u8]) (Es:=fun k=>match k with | 0=>F3 | 1=>F7 | _=>F8) rfl ⟨rfl,rfl,rfl,rfl,rfl,rfl,trivial⟩
    rw [Zbx hr,ZcB,hkk,Zea om];simp only [ZbL,mkC,mkV,cntC,Int.natCast_one];exact ⟨_,hz⟩
   refine pE [1002,1003,1004,1005] [1002] hre ?_;have e1:((us.set i [.int .i64 (kk),.string (txt (kk+1)),.int .i64 (kk+1+1),u3,.int .i64 (kk+1+1+1+(cntRows r3:Int)),.string (txt (kk+1+1+1+(cntRows r3:Int)+1)),.int .i64 (kk+1+1+1+(cntRows r3:Int)+1+1),u7,u8]).map Zaf)=(us.map Zaf).set i [.lit (.int .i64 (kk)),.lit (.string (txt (kk+1))),.lit (.int .i64 (kk+1+1)),.lit (u3),.lit (.int .i64 (kk+1+1+1+(cntRows r3:Int))),.lit (.string (txt (kk+1+1+1+(cntRows r3:Int)+1))),.lit (.int .i64 (kk+1+1+1+(cntRows r3:Int)+1+1)),.lit (u7),.lit (u8)]:=by rw [List.map_set];rfl
   have e2:=Zeb us i [.int .i64 (kk),.string (txt (kk+1)),.int .i64 (kk+1+1),u3,.int .i64 (kk+1+1+1+(cntRows r3:Int)),.string (txt (kk+1+1+1+(cntRows r3:Int)+1)),.int .i64 (kk+1+1+1+(cntRows r3:Int)+1+1),u7,u8];have e5:k+(cntRows (rows.take (i+1)):Int)=kk+1+1+1+(cntRows r3:Int)+1+1+1+(cntRows r7:Int)+(cntRows r8:Int):=by rw [hc1];omega
   have hn2:(us.set i [.int .i64 (kk),.string (txt (kk+1)),.int .i64 (kk+1+1),u3,.int .i64 (kk+1+1+1+(cntRows r3:Int)),.string (txt (kk+1+1+1+(cntRows r3:Int)+1)),.int .i64 (kk+1+1+1+(cntRows r3:Int)+1+1),u7,u8]).length=rows.length:=by rw [Zax,hn]
   generalize us.set i [.int .i64 (kk),.string (txt (kk+1)),.int .i64 (kk+1+1),u3,.int .i64 (kk+1+1+1+(cntRows r3:Int)),.string (txt (kk+1+1+1+(cntRows r3:Int)+1)),.int .i64 (kk+1+1+1+(cntRows r3:Int)+1+1),u7,u8]=us2 at e1 e2 hn2 ⊢;rw [<- e1,<- e2];have F:=aj10 @wi @e5 @hl @w0 @w1 @w2 @w4 @w5 @w6 @hn;refine gG ?_;exact ⟨(i+1,us2,E4,E6),⟨hlt,hn2⟩,gw,gw,om⟩
  ·obtain rfl:i=rows.length:=by omega
   have q1:=lF rows.length rows.length;rw [Tap,List.take_of_length_le (Nat.le_of_eq hn)];refine fG (aj3 @q1 @hl @hn) ?_;obtain ⟨E6,hre⟩:∃ E6,Za1 [.buf (some (a,cap)) ety 9 (us.map Zaf),.set E3 (fun w=>Zan w (Zap k rows) E3 us)] [.set E6 (fun w=>Own w (.sl (Zap k rows)) E6 (.slice a uss.length cap))]:=by
    rw [hl,<- hn];exact ⟨_,Zbi (fun w h=>h) (Own.stable _ _ _)⟩
   refine pE [1000,1002] [1000] hre ?_;have F:=hk;exact gTP (R:=fun r pm=>∃ E',r=[.one (.lit (.int .i64 (k+(cntRows rows:Nat))))]∧pm=[.set E' (fun w=>Own w (.sl (Zap k rows)) E' (.slice a uss.length cap))]) [1000] ⟨E6,rfl,rfl⟩
theorem Zjs (hok:Zak (Zac .int) rows) (hmx:rows.length<=1048576):ZcW 57 rows:=by
 intro k hk hb;have hrb:ZaC 1 (Zap k rows)=true:=ZfU k hok.rowsLen;have hml:=ZcS k rows;refine gI (ts:=[.slot 4]) 131635 Try.func57 ?_;refine fG @e0P ?_;have F:=aj4 @ZbF @ZcG @Int.add_zero @Int.natCast_zero;refine gL (ι:=Nat) [1,4,5,9,17] [] (fun x=>[(5,.d (.one (.lit (.int .i64 (x:Int))))),(1,.d (.one (.lit (.int .i64 (k+(cntRows (rows.take x):Nat))))))]) (fun x=>[]) (fun x=>x<=rows.length) (fun x=>rows.length - x) (0) (Taj _) (fun x hx=>?_);clear F
 by_cases hlt:x < rows.length
 ·obtain ⟨r,hr⟩:∃ r,rows[x]?=some r:=⟨_,Taa hlt⟩;obtain ⟨i0,rfl,_⟩:=ZdA (hok.get hr);have hc1:cntRows (rows.take (x+1))=cntRows (rows.take x)+1:=by
   rw [Zbx hr,ZbV];simp only [ZbA,cntC]
  have hc2:=Zbo rows (x+1);have hg:=ZcX k hr;simp only [ZbL,mkC,mkV,cntC,Int.natCast_one] at hg;have e5:k+(cntRows (rows.take (x+1)):Int)=k+(cntRows (rows.take x):Int)+1:=by rw [hc1];omega
  have b1:k+(cntRows (rows.take x):Int)+1<=1000000000:=om;have b0:0<=k+(cntRows (rows.take x):Int):=om;generalize k+(cntRows (rows.take x):Int)=kk at hg e5 b1 b0 ⊢;have q1:=lT x rows.length;have w1:IntKind.i64.wrap (kk+1)=kk+1:=IntWalk.i64_in _ om;have w4:IntKind.i64.wrap ((x:Int)+1)=(x:Int)+1:=IntWalk.i64_in _ om;have F:=aj8 @q1 @hml @hrb @hg @beq_self_eq_true.{0} @w1 @w4 @e5;refine gG ?_;exact ⟨x+1,hlt,gw,gw,om⟩
 ·obtain rfl:x=rows.length:=by omega
  have q1:=lF rows.length rows.length;rw [Tap];exact fD (ai @q1 @hml)
theorem Zgu (hok:Zak (Zac .binding) rows) (hmx:rows.length+bulkRows rows<=1048576):ZcW 58 rows:=by
 intro k hk hb;have hrb:ZaC 8 (Zap k rows)=true:=ZfU k hok.rowsLen;have hml:=ZcS k rows;refine gI (ts:=[.slot 4]) 9905940528262939097185124915 Try.func58 ?_;refine fG @e0P ?_;have F:=aj4 @ZbF @ZcG @Int.add_zero @Int.natCast_zero;refine gL (ι:=Nat) [1,4,5,9,19,30,40,52,60,71,81,93] [] (fun x=>[(5,.d (.one (.lit (.int .i64 (x:Int))))),(1,.d (.one (.lit (.int .i64 (k+(cntRows (rows.take x):Nat))))))]) (fun x=>[]) (fun x=>x<=rows.length) (fun x=>rows.length - x) (0) (Taj _) (fun x hx=>?_);clear F
 by_cases hlt:x < rows.length
 ·obtain ⟨r,hr⟩:∃ r,rows[x]?=some r:=⟨_,Taa hlt⟩;have hbr:=Za4 hr;obtain ⟨i0,t1,i2,r3,i4,t5,i6,r7,rfl,_,_,_,g3,_,_,_,g7⟩:=Zb2 (hok.get hr);simp only [bulkRow,ZaT] at hbr;have hm3:=ZbN g3 om;have hm7:=ZbN g7 om;have hc1:cntRows (rows.take (x+1))=cntRows (rows.take x)+(6+cntRows r3+cntRows r7):=by
   rw [Zbx hr,ZbV];simp only [ZbA,cntC];omega
  have hc2:=Zbo rows (x+1);have hg:=ZcX k hr;simp only [ZbL,mkC,mkV,cntC,Int.natCast_one] at hg;have e5:k+(cntRows (rows.take (x+1)):Int)=k+(cntRows (rows.take x):Int)+1+1+1+(cntRows r3:Int)+1+1+1+(cntRows r7:Int):=by rw [hc1];omega
  have b1:k+(cntRows (rows.take x):Int)+6+cntRows r3+cntRows r7<=1000000000:=om;have b0:0<=k+(cntRows (rows.take x):Int):=om;generalize k+(cntRows (rows.take x):Int)=kk at hg e5 b1 b0 ⊢;have q1:=lT x rows.length;have w1:IntKind.i64.wrap (kk+1)=kk+1:=IntWalk.i64_in _ om;have w2:IntKind.i64.wrap (kk+1+1)=kk+1+1:=IntWalk.i64_in _ om;have w3:IntKind.i64.wrap (kk+1+1+1)=kk+1+1+1:=IntWalk.i64_in _ om;have w4:IntKind.i64.wrap ((x:Int)+1)=(x:Int)+1:=IntWalk.i64_in _ om
  have q5:(kk+1+1+1+(cntRows r3:Int) < 0)=False:=eq_false om;refine fB (aj6 @q1 @hml @hrb @hg @beq_self_eq_true.{0} @w1) ?_;refine fC (aj4 @q1 @hml @hrb @hg) (Zbn (kk+1) om om) ?_;refine fR (aj5 @q1 @hml @hrb @hg @beq_self_eq_true.{0}) ?_;refine fB (aj8 @q1 @hml @hrb @hg @beq_self_eq_true.{0} @w1 @w2 @w3) ?_;refine fC (aj4 @q1 @hml @hrb @hg) (hm3 (kk+1+1+1) om om) ?_;refine fR @q1 ?_;generalize hj:kk+1+1+1+(cntRows r3:Int)=jj at hg e5 q5 ⊢
  have v1:IntKind.i64.wrap (jj+1)=jj+1:=IntWalk.i64_in _ om;have v2:IntKind.i64.wrap (jj+1+1)=jj+1+1:=IntWalk.i64_in _ om;have v3:IntKind.i64.wrap (jj+1+1+1)=jj+1+1+1:=IntWalk.i64_in _ om;have q6:(jj+1+1+1+(cntRows r7:Int) < 0)=False:=eq_false om;refine fB (aj7 @q1 @q5 @hml @hrb @hg @beq_self_eq_true.{0} @v1) ?_;refine fC (aj4 @q1 @hml @hrb @hg) (Zbn (jj+1) om om) ?_;refine fR (aj5 @q1 @hml @hrb @hg @beq_self_eq_true.{0}) ?_
  refine fB (aj8 @q1 @hml @hrb @hg @beq_self_eq_true.{0} @v1 @v2 @v3) ?_;refine fC (aj4 @q1 @hml @hrb @hg) (hm7 (jj+1+1+1) om om) ?_;refine fR @q1 ?_;have F:=aj3 @q6 @w4 @e5;refine gG ?_;exact ⟨x+1,hlt,gw,gw,om⟩
 ·obtain rfl:x=rows.length:=by omega
  have q1:=lF rows.length rows.length;rw [Tap];exact fD (ai @q1 @hml)
theorem Zie (hok:Zak (Zac .link) rows) (hmx:rows.length+bulkRows rows<=1048576) (HChain:∀ r,Zak (Zac .chain) r->r.length+bulkRows r<=1048576->Zat r < Zat rows->ZcW 59 r):ZcW 36 rows:=by
 intro k hk hb;have hrb:ZaC 6 (Zap k rows)=true:=ZfU k hok.rowsLen;have hml:=ZcS k rows;refine gI (ts:=[.slot 4]) 591449858863804973619 Try.func36 ?_;refine fG @e0P ?_;have F:=aj4 @ZbF @ZcG @Int.add_zero @Int.natCast_zero;refine gL (ι:=Nat) [1,4,5,9,18,30,40,50,60,69] [] (fun x=>[(5,.d (.one (.lit (.int .i64 (x:Int))))),(1,.d (.one (.lit (.int .i64 (k+(cntRows (rows.take x):Nat))))))]) (fun x=>[]) (fun x=>x<=rows.length) (fun x=>rows.length - x) (0) (Taj _) (fun x hx=>?_);clear F
 by_cases hlt:x < rows.length
 ·obtain ⟨r,hr⟩:∃ r,rows[x]?=some r:=⟨_,Taa hlt⟩;have hbr:=Za4 hr;have hnd:=ZaV hr;obtain ⟨i0,r1,r2,r3,r4,r5,rfl,g0,g1,g2,g3,g4,g5⟩:=ZcV (hok.get hr);simp only [bulkRow,ZaT] at hbr;simp only [Zay,Zbg] at hnd;have hm1:=Zjs g1 om;have hm2:=ZbN g2 om;have hm3:=ZbN g3 om;have hm4:=Zgu g4 om;have hm5:=HChain r5 g5 om om;have hc1:cntRows (rows.take (x+1))=cntRows (rows.take x)+(1+cntRows r1+cntRows r2+cntRows r3+cntRows r4+cntRows r5):=by
   rw [Zbx hr,ZbV];simp only [ZbA,cntC];try omega
  have hc2:=Zbo rows (x+1);have hg:=ZcX k hr;simp only [ZbL,mkC,mkV,cntC,Int.natCast_one] at hg;have e5:k+(cntRows (rows.take (x+1)):Int)=k+(cntRows (rows.take x):Int)+1+(cntRows r1:Int)+(cntRows r2:Int)+(cntRows r3:Int)+(cntRows r4:Int)+(cntRows r5:Int):=by rw [hc1];omega
  have b1:k+(cntRows (rows.take x):Int)+((1+cntRows r1+cntRows r2+cntRows r3+cntRows r4+cntRows r5:Nat):Int)<=1000000000:=om;have b0:0<=k+(cntRows (rows.take x):Int):=om;generalize k+(cntRows (rows.take x):Int)=kk at hg e5 b1 b0 ⊢;have q1:=lT x rows.length;have wx:IntKind.i64.wrap ((x:Int)+1)=(x:Int)+1:=IntWalk.i64_in _ om;have w0:IntKind.i64.wrap (kk+1)=kk+1:=IntWalk.i64_in _ om;have q1a:(kk+1+(cntRows r1:Int) < 0)=False:=eq_false om
  have q2a:(kk+1+(cntRows r1:Int)+(cntRows r2:Int) < 0)=False:=eq_false om;have q3a:(kk+1+(cntRows r1:Int)+(cntRows r2:Int)+(cntRows r3:Int) < 0)=False:=eq_false om;have q4a:(kk+1+(cntRows r1:Int)+(cntRows r2:Int)+(cntRows r3:Int)+(cntRows r4:Int) < 0)=False:=eq_false om;have q5a:(kk+1+(cntRows r1:Int)+(cntRows r2:Int)+(cntRows r3:Int)+(cntRows r4:Int)+(cntRows r5:Int) < 0)=False:=eq_false om;refine fB (aj11 @q1 @hml @hrb @hg @beq_self_eq_true.{0} @w0 @q1a @q2a @q3a @q4a @q5a) ?_
  refine fC (aj11 @q1 @hml @hrb @hg @beq_self_eq_true.{0} @w0 @q1a @q2a @q3a @q4a @q5a) (hm1 (kk+1) om om) ?_;refine fR (aj11 @q1 @hml @hrb @hg @beq_self_eq_true.{0} @w0 @q1a @q2a @q3a @q4a @q5a) ?_;refine fB (aj11 @q1 @hml @hrb @hg @beq_self_eq_true.{0} @w0 @q1a @q2a @q3a @q4a @q5a) ?_;refine fC (aj11 @q1 @hml @hrb @hg @beq_self_eq_true.{0} @w0 @q1a @q2a @q3a @q4a @q5a) (hm2 (kk+1+(cntRows r1:Int)) om om) ?_
  refine fR (aj11 @q1 @hml @hrb @hg @beq_self_eq_true.{0} @w0 @q1a @q2a @q3a @q4a @q5a) ?_;refine fB (aj11 @q1 @hml @hrb @hg @beq_self_eq_true.{0} @w0 @q1a @q2a @q3a @q4a @q5a) ?_;refine fC (aj11 @q1 @hml @hrb @hg @beq_self_eq_true.{0} @w0 @q1a @q2a @q3a @q4a @q5a) (hm3 (kk+1+(cntRows r1:Int)+(cntRows r2:Int)) om om) ?_;refine fR (aj11 @q1 @hml @hrb @hg @beq_self_eq_true.{0} @w0 @q1a @q2a @q3a @q4a @q5a) ?_
  refine fB (aj11 @q1 @hml @hrb @hg @beq_self_eq_true.{0} @w0 @q1a @q2a @q3a @q4a @q5a) ?_;refine fC (aj11 @q1 @hml @hrb @hg @beq_self_eq_true.{0} @w0 @q1a @q2a @q3a @q4a @q5a) (hm4 (kk+1+(cntRows r1:Int)+(cntRows r2:Int)+(cntRows r3:Int)) om om) ?_;refine fR (aj11 @q1 @hml @hrb @hg @beq_self_eq_true.{0} @w0 @q1a @q2a @q3a @q4a @q5a) ?_;refine fB (aj11 @q1 @hml @hrb @hg @beq_self_eq_true.{0} @w0 @q1a @q2a @q3a @q4a @q5a) ?_
  refine fC (aj11 @q1 @hml @hrb @hg @beq_self_eq_true.{0} @w0 @q1a @q2a @q3a @q4a @q5a) (hm5 (kk+1+(cntRows r1:Int)+(cntRows r2:Int)+(cntRows r3:Int)+(cntRows r4:Int)) om om) ?_;refine fR (aj11 @q1 @hml @hrb @hg @beq_self_eq_true.{0} @w0 @q1a @q2a @q3a @q4a @q5a) ?_;have F:=aj13 @wx @e5 @q1 @hml @hrb @hg @beq_self_eq_true.{0} @w0 @q1a @q2a @q3a @q4a @q5a;refine gG ?_;exact ⟨x+1,hlt,gw,gw,om⟩
 ·obtain rfl:x=rows.length:=by omega
  have q1:=lF rows.length rows.length;rw [Tap];exact fD (ai @q1 @hml)
theorem Zhu (hok:Zak (Zac .chain) rows) (hmx:rows.length+bulkRows rows<=1048576) (HLink:∀ r,Zak (Zac .link) r->r.length+bulkRows r<=1048576->Zat r < Zat rows->ZcW 36 r):ZcW 59 rows:=by
 intro k hk hb;have hrb:ZaC 9 (Zap k rows)=true:=ZfU k hok.rowsLen;have hml:=ZcS k rows;refine gI (ts:=[.slot 4]) 5080508341441180545083997946419 Try.func59 ?_;refine fG @e0P ?_;have F:=aj4 @ZbF @ZcG @Int.add_zero @Int.natCast_zero;refine gL (ι:=Nat) [1,4,5,9,19,30,40,52,60,71,81,93,102] [] (fun x=>[(5,.d (.one (.lit (.int .i64 (x:Int))))),(1,.d (.one (.lit (.int .i64 (k+(cntRows (rows.take x):Nat))))))]) (fun x=>[]) (fun x=>x<=rows.length) (fun x=>rows.length - x) (0) (Taj _) (fun x hx=>?_);clear F
 by_cases hlt:x < rows.length
 ·obtain ⟨r,hr⟩:∃ r,rows[x]?=some r:=⟨_,Taa hlt⟩;have hbr:=Za4 hr;have hnd:=ZaV hr;obtain ⟨i0,t1,i2,r3,i4,t5,i6,r7,r8,rfl,g0,g1,g2,g3,g4,g5,g6,g7,g8⟩:=ZbQ (hok.get hr);simp only [bulkRow,ZaT] at hbr;simp only [Zay,Zbg] at hnd;have hm3:=ZbN g3 om;have hm7:=ZbN g7 om;have hm8:=HLink r8 g8 om om;have hc1:cntRows (rows.take (x+1))=cntRows (rows.take x)+(6+cntRows r3+cntRows r7+cntRows r8):=by
   rw [Zbx hr,ZbV];simp only [ZbA,cntC];try omega
  have hc2:=Zbo rows (x+1);have hg:=ZcX k hr;simp only [ZbL,mkC,mkV,cntC,Int.natCast_one] at hg;have e5:k+(cntRows (rows.take (x+1)):Int)=k+(cntRows (rows.take x):Int)+1+1+1+(cntRows r3:Int)+1+1+1+(cntRows r7:Int)+(cntRows r8:Int):=by rw [hc1];omega
  have b1:k+(cntRows (rows.take x):Int)+((6+cntRows r3+cntRows r7+cntRows r8:Nat):Int)<=1000000000:=om;have b0:0<=k+(cntRows (rows.take x):Int):=om;generalize k+(cntRows (rows.take x):Int)=kk at hg e5 b1 b0 ⊢;have q1:=lT x rows.length;have wx:IntKind.i64.wrap ((x:Int)+1)=(x:Int)+1:=IntWalk.i64_in _ om;have w0:IntKind.i64.wrap (kk+1)=kk+1:=IntWalk.i64_in _ om;have w1:IntKind.i64.wrap (kk+1+1)=kk+1+1:=IntWalk.i64_in _ om
  have w2:IntKind.i64.wrap (kk+1+1+1)=kk+1+1+1:=IntWalk.i64_in _ om;have q3a:(kk+1+1+1+(cntRows r3:Int) < 0)=False:=eq_false om;have w4:IntKind.i64.wrap (kk+1+1+1+(cntRows r3:Int)+1)=kk+1+1+1+(cntRows r3:Int)+1:=IntWalk.i64_in _ om;have w5:IntKind.i64.wrap (kk+1+1+1+(cntRows r3:Int)+1+1)=kk+1+1+1+(cntRows r3:Int)+1+1:=IntWalk.i64_in _ om;have w6:IntKind.i64.wrap (kk+1+1+1+(cntRows r3:Int)+1+1+1)=kk+1+1+1+(cntRows r3:Int)+1+1+1:=IntWalk.i64_in _ om
  have q7a:(kk+1+1+1+(cntRows r3:Int)+1+1+1+(cntRows r7:Int) < 0)=False:=eq_false om;have q8a:(kk+1+1+1+(cntRows r3:Int)+1+1+1+(cntRows r7:Int)+(cntRows r8:Int) < 0)=False:=eq_false om;refine fB (aj14 @q1 @hml @hrb @hg @beq_self_eq_true.{0} @w0 @w1 @w2 @q3a @w4 @w5 @w6 @q7a @q8a) ?_;refine fC (aj14 @q1 @hml @hrb @hg @beq_self_eq_true.{0} @w0 @w1 @w2 @q3a @w4 @w5 @w6 @q7a @q8a) (Zbn (kk+1) om om) ?_
  refine fR (aj14 @q1 @hml @hrb @hg @beq_self_eq_true.{0} @w0 @w1 @w2 @q3a @w4 @w5 @w6 @q7a @q8a) ?_;refine fB (aj14 @q1 @hml @hrb @hg @beq_self_eq_true.{0} @w0 @w1 @w2 @q3a @w4 @w5 @w6 @q7a @q8a) ?_;refine fC (aj14 @q1 @hml @hrb @hg @beq_self_eq_true.{0} @w0 @w1 @w2 @q3a @w4 @w5 @w6 @q7a @q8a) (hm3 (kk+1+1+1) om om) ?_;refine fR (aj14 @q1 @hml @hrb @hg @beq_self_eq_true.{0} @w0 @w1 @w2 @q3a @w4 @w5 @w6 @q7a @q8a) ?_
  refine fB (aj14 @q1 @hml @hrb @hg @beq_self_eq_true.{0} @w0 @w1 @w2 @q3a @w4 @w5 @w6 @q7a @q8a) ?_;refine fC (aj14 @q1 @hml @hrb @hg @beq_self_eq_true.{0} @w0 @w1 @w2 @q3a @w4 @w5 @w6 @q7a @q8a) (Zbn (kk+1+1+1+(cntRows r3:Int)+1) om om) ?_;refine fR (aj14 @q1 @hml @hrb @hg @beq_self_eq_true.{0} @w0 @w1 @w2 @q3a @w4 @w5 @w6 @q7a @q8a) ?_;refine fB (aj14 @q1 @hml @hrb @hg @beq_self_eq_true.{0} @w0 @w1 @w2 @q3a @w4 @w5 @w6 @q7a @q8a) ?_
  refine fC (aj14 @q1 @hml @hrb @hg @beq_self_eq_true.{0} @w0 @w1 @w2 @q3a @w4 @w5 @w6 @q7a @q8a) (hm7 (kk+1+1+1+(cntRows r3:Int)+1+1+1) om om) ?_;refine fR (aj14 @q1 @hml @hrb @hg @beq_self_eq_true.{0} @w0 @w1 @w2 @q3a @w4 @w5 @w6 @q7a @q8a) ?_;refine fB (aj14 @q1 @hml @hrb @hg @beq_self_eq_true.{0} @w0 @w1 @w2 @q3a @w4 @w5 @w6 @q7a @q8a) ?_;refine fC (aj14 @q1 @hml @hrb @hg @beq_self_eq_true.{0} @w0 @w1 @w2 @q3a @w4 @w5 @w6 @q7a @q8a) (hm8 (kk+1+1+1+(cntRows r3:Int)+1+1+1+(cntRows r7:Int)) om om) ?_
  refine fR (aj14 @q1 @hml @hrb @hg @beq_self_eq_true.{0} @w0 @w1 @w2 @q3a @w4 @w5 @w6 @q7a @q8a) ?_;have F:=aj16 @wx @e5 @q1 @hml @hrb @hg @beq_self_eq_true.{0} @w0 @w1 @w2 @q3a @w4 @w5 @w6 @q7a @q8a;refine gG ?_;exact ⟨x+1,hlt,gw,gw,om⟩
 ·obtain rfl:x=rows.length:=by omega
  have q1:=lF rows.length rows.length;rw [Tap];exact fD (ai @q1 @hml)
theorem Zl4 (n:Nat):(∀ rows,Zat rows < n->Zak (Zac .chain) rows->Zct 56 rows)∧(∀ rows,Zat rows < n->Zak (Zac .link) rows->Zct 34 rows):=by
 induction n with
 | zero=>exact ⟨fun _ h=>om,fun _ h=>om⟩
 | succ n ih=>exact ⟨fun rows hn hok=>Zht hok fun r h1 h2=>ih.2 r om h1,fun rows hn hok=>Zid hok fun r h1 h2=>ih.1 r om h1⟩
theorem Zif (hok:Zak (Zac .link) rows):Zct 34 rows:=(Zl4 _).2 rows (Tan _) hok
theorem Zl5 (n:Nat):(∀ rows,Zat rows < n->Zak (Zac .chain) rows->rows.length+bulkRows rows<=1048576->ZcW 59 rows)∧(∀ rows,Zat rows < n->Zak (Zac .link) rows->rows.length+bulkRows rows<=1048576->ZcW 36 rows):=by
 induction n with
 | zero=>exact ⟨fun _ h=>om,fun _ h=>om⟩
 | succ n ih=>exact ⟨fun rows hn hok hB=>Zhu hok hB fun r h1 h3 h2=>ih.2 r om h1 h3,fun rows hn hok hB=>Zie hok hB fun r h1 h3 h2=>ih.1 r om h1 h3⟩
theorem Zig (hok:Zak (Zac .link) rows) (hB:rows.length+bulkRows rows<=1048576):ZcW 36 rows:=(Zl5 _).2 rows (Tan _) hok hB
theorem ZdE (hok:Zao (Zac .chain) row):Zrm 10 row:=by
 obtain ⟨i0,t1,i2,r3,i4,t5,i6,r7,r8,rfl,g0,g1,g2,g3,g4,g5,g6,g7,g8⟩:=ZbQ hok;intro kk E us hl hc hk hb;obtain ⟨u0,u1,u2,u3,u4,u5,u6,u7,u8,rfl⟩:=len9 hl;have kc:Zal (.lit u0)=true∧Zal (.lit u1)=true∧Zal (.lit u2)=true∧Zal (.lit u3)=true∧Zal (.lit u4)=true∧Zal (.lit u5)=true∧Zal (.lit u6)=true∧Zal (.lit u7)=true∧Zal (.lit u8)=true:=by simpa [Zaf,Tar,and_assoc] using hc
 obtain ⟨k0,k1,k2,k3,k4,k5,k6,k7,k8⟩:=kc;simp only [cntTop,Nat.add_zero] at hb ⊢;have lr:Zaf [u0,u1,u2,u3,u4,u5,u6,u7,u8]=[.lit u0,.lit u1,.lit u2,.lit u3,.lit u4,.lit u5,.lit u6,.lit u7,.lit u8]:=rfl;rw [lr];refine gIP (ts:=[.slot 4]) [1000] 23 Try.func10 ?_;refine pEx [1000] [1000] (Zlt rfl) ?_;rintro ⟨⟩ hlit;obtain ⟨rfl,rfl,rfl,rfl,rfl,rfl,_⟩:=hlit;refine pEx (f:=fun (x:Nat->Nat->Prop)=>[.set (x 0) (fun w=>Own w (.sl r3) (x 0) u3),.set (x 1) (fun w=>Own w (.sl r7) (x 1) u7),.set (x 2) (fun w=>Own w (.sl r8) (x 2) u8)]) [1000] [1003,1004,1005] (Ze7 rfl) ?_
 rintro Es -
 try dsimp only
 obtain ⟨G0,hre0⟩:∃ G,Za1 [.set (Es 0) (fun w=>Own w (.sl r3) (Es 0) u3)] [.set G (fun w=>Zae w [.lit (.int .i64 i0),.lit (.string t1),.lit (.int .i64 i2),.sl r3] G [.int .i64 i0,.string t1,.int .i64 i2,u3])]:=⟨_,Ze8 (cs:=[.lit (.int .i64 i0),.lit (.string t1),.lit (.int .i64 i2),.sl r3]) (us:=[.int .i64 i0,.string t1,.int .i64 i2,u3]) (Es:=fun k=>Es (k+0)) rfl ⟨rfl,rfl,rfl,trivial⟩⟩;refine pE [1003] [1003] hre0 ?_
 have lr0:Zaf [.int .i64 i0,.string t1,.int .i64 i2,u3]=[.lit (.int .i64 i0),.lit (.string t1),.lit (.int .i64 i2),.lit (u3)]:=rfl;have hm0:=ZfF (row:=[.lit (.int .i64 i0),.lit (.string t1),.lit (.int .i64 i2),.sl r3]) (Za5 g0 g1 g2 g3) (kk) G0 [.int .i64 i0,.string t1,.int .i64 i2,u3] rfl (by rw [lr0];simp only [List.all_cons,List.all_nil,k0,k1,k2,k3,Bool.and_self]) om (by simp only [cntTop];omega)
 rw [lr0] at hm0;simp only [cntTop,Zb8,Nat.add_zero,Int.natCast_add,<- Int.add_assoc] at hm0;refine fB (aj10 @lr @k0 @k1 @k2 @k3 @k4 @k5 @k6 @k7 @k8) ?_;have F:=aj10 @lr @k0 @k1 @k2 @k3 @k4 @k5 @k6 @k7 @k8;refine gCP [1003] [1003] (hm0) ?_;clear F;rintro r pm ⟨G0',rfl,rfl⟩;simp only [setA,retA,zipM,Taf,Tah];refine fR (aj10 @lr @k0 @k1 @k2 @k3 @k4 @k5 @k6 @k7 @k8) ?_;refine pEx (f:=fun (x:Nat->Nat->Prop)=>[.set (x 0) (fun w=>Own w (.sl (Zap (kk) r3)) (x 0) u3)]) [1003] [1003] (Ze7 (r:=[.lit (.int .i64 i0),.lit (.string t1),.lit (.int .i64 i2),.sl (Zap (kk) r3)]) rfl) ?_
 rintro Fs0 -
 try dsimp only
 obtain ⟨G1,hre1⟩:∃ G,Za1 [.set (Es 1) (fun w=>Own w (.sl r7) (Es 1) u7)] [.set G (fun w=>Zae w [.lit (.int .i64 i4),.lit (.string t5),.lit (.int .i64 i6),.sl r7] G [.int .i64 i4,.string t5,.int .i64 i6,u7])]:=⟨_,Ze8 (cs:=[.lit (.int .i64 i4),.lit (.string t5),.lit (.int .i64 i6),.sl r7]) (us:=[.int .i64 i4,.string t5,.int .i64 i6,u7]) (Es:=fun k=>Es (k+1)) rfl ⟨rfl,rfl,rfl,trivial⟩⟩;refine pE [1004] [1004] hre1 ?_
 have lr1:Zaf [.int .i64 i4,.string t5,.int .i64 i6,u7]=[.lit (.int .i64 i4),.lit (.string t5),.lit (.int .i64 i6),.lit (u7)]:=rfl;have hm1:=ZfF (row:=[.lit (.int .i64 i4),.lit (.string t5),.lit (.int .i64 i6),.sl r7]) (Za5 g4 g5 g6 g7) (kk+(cntRows r3:Int)) G1 [.int .i64 i4,.string t5,.int .i64 i6,u7] rfl (by rw [lr1];simp only [List.all_cons,List.all_nil,k4,k5,k6,k7,Bool.and_self]) om (by simp only [cntTop];omega)
 rw [lr1] at hm1;simp only [cntTop,Zb8,Nat.add_zero,Int.natCast_add,<- Int.add_assoc] at hm1;refine fB (aj10 @lr @k0 @k1 @k2 @k3 @k4 @k5 @k6 @k7 @k8) ?_;have F:=aj10 @lr @k0 @k1 @k2 @k3 @k4 @k5 @k6 @k7 @k8;refine gCP [1004] [1004] (hm1) ?_;clear F;rintro r pm ⟨G1',rfl,rfl⟩;simp only [setA,retA,zipM,Taf,Tah];refine fR (aj10 @lr @k0 @k1 @k2 @k3 @k4 @k5 @k6 @k7 @k8) ?_;refine pEx (f:=fun (x:Nat->Nat->Prop)=>[.set (x 0) (fun w=>Own w (.sl (Zap (kk+(cntRows r3:Int)) r7)) (x 0) u7)]) [1004] [1004] (Ze7 (r:=[.lit (.int .i64 i4),.lit (.string t5),.lit (.int .i64 i6),.sl (Zap (kk+(cntRows r3:Int)) r7)]) rfl) ?_
 rintro Fs1 -
 try dsimp only
 refine fB (aj10 @lr @k0 @k1 @k2 @k3 @k4 @k5 @k6 @k7 @k8) ?_;have F:=aj10 @lr @k0 @k1 @k2 @k3 @k4 @k5 @k6 @k7 @k8;refine gCP [1005] [1005] (Zif g8 (kk+(cntRows r3:Int)+(cntRows r7:Int)) (Es 2) u8 om om) ?_;clear F;rintro r pm ⟨F8,rfl,rfl⟩;simp only [setA,retA,zipM,Taf,Tah];refine fR (aj10 @lr @k0 @k1 @k2 @k3 @k4 @k5 @k6 @k7 @k8) ?_;refine fG (aj10 @lr @k0 @k1 @k2 @k3 @k4 @k5 @k6 @k7 @k8) ?_;obtain ⟨E6,hre⟩:∃ E6,Za1 [.set (Fs0 0) (fun w=>Own w (.sl (Zap (kk) r3)) (Fs0 0) u3),.set (Fs1 0) (fun w=>Own w (.sl (Zap (kk+(cntRows r3:Int)) r7)) (Fs1 0) u7),.set (F8) (fun w=>Own w (.sl (Zap (kk+(cntRows r3:Int)+(cntRows r7:Int)) r8)) (F8) u8)] [.set E6 (fun w=>Zae w [.lit (.int .i64 i0),.lit (.string t1),.lit (.int .i64 i2),.sl (Zap (kk) r3),.lit (.int .i64 i4),.lit (.string t5),.lit (.int .i64 i6),.sl (Zap (kk+(cntRows r3:Int)) r7),.sl (Zap (kk+(cntRows r3:Int)+(cntRows r7:Int)) r8)] E6 [.int .i64 i0,.string t1,.int .i64 i2,u3,.int .i64 i4,.string t5,.int .i64 i6,u7,u8])]:=⟨_,Ze8 (cs:=[.lit (.int .i64 i0),.lit (.string t1),.lit (.int .i64 i2),.sl (Zap (kk) r3),.lit (.int .i64 i4),.lit (.string t5),.lit (.int .i64 i6),.sl (Zap (kk+(cntRows r3:Int)) r7),.sl (Zap (kk+(cntRows r3:Int)+(cntRows r7:Int)) r8)]) (us:=[.int .i64 i0,.string t1,.int .i64 i2,u3,.int .i64 i4,.string t5,.int .i64 i6,u7,u8]) (Es:=fun k=>match k with | 0=>Fs0 0 | 1=>Fs1 0 | _=>F8) rfl ⟨rfl,rfl,rfl,rfl,rfl,rfl,trivial⟩⟩
 refine pE [1003,1004,1005] [1000] hre ?_;have F:=hk;have ee:kk+(cntRows r3:Int)+(cntRows r7:Int)+(cntRows r8:Int)=kk+((cntRows r3+(cntRows r7+(cntRows r8)):Nat):Int):=om;rw [ee];exact gTP (R:=fun r pm=>∃ E',r=[.one (.lit (.int .i64 (kk+((cntRows r3+(cntRows r7+(cntRows r8)):Nat):Int))))]∧pm=[.set E' (fun w=>Zae w (Zb8 kk [.lit (.int .i64 i0),.lit (.string t1),.lit (.int .i64 i2),.sl r3,.lit (.int .i64 i4),.lit (.string t5),.lit (.int .i64 i6),.sl r7,.sl r8]) E' [.int .i64 i0,.string t1,.int .i64 i2,u3,.int .i64 i4,.string t5,.int .i64 i6,u7,u8])]) [1000] ⟨E6,rfl,by simp only [Zb8,<- Int.add_assoc,Int.natCast_add];rfl⟩
theorem Zih (hok:Zao (Zac .chain) row) (hB:bulkRow row<=1048576) (kk:Int) (hk:0<=kk) (hb:kk+cntTop row<=1000000000):Con e0 11 [.agg (Zb8 kk row),.one (.lit (.int .i64 kk))] [.one (.lit (.int .i64 (kk+cntTop row)))]:=by
 obtain ⟨i0,t1,i2,r3,i4,t5,i6,r7,r8,rfl,g0,g1,g2,g3,g4,g5,g6,g7,g8⟩:=ZbQ hok;simp only [cntTop,Nat.add_zero] at hb ⊢;simp only [bulkRow,ZaT] at hB;simp only [Zb8];have ee:kk+((cntRows r3+(cntRows r7+(cntRows r8)):Nat):Int)=kk+(cntRows r3:Int)+(cntRows r7:Int)+(cntRows r8:Int):=om;rw [ee];have c0:=ZfG (row:=[.lit (.int .i64 i0),.lit (.string t1),.lit (.int .i64 i2),.sl r3]) (Za5 g0 g1 g2 g3) (by simp only [bulkRow,ZaT];omega) (kk) om (by simp only [cntTop];omega)
 simp only [Zb8,cntTop,Nat.add_zero] at c0;have q0:(kk+(cntRows r3:Int) < 0)=False:=eq_false om;have c1:=ZfG (row:=[.lit (.int .i64 i4),.lit (.string t5),.lit (.int .i64 i6),.sl r7]) (Za5 g4 g5 g6 g7) (by simp only [bulkRow,ZaT];omega) (kk+(cntRows r3:Int)) om (by simp only [cntTop];omega);simp only [Zb8,cntTop,Nat.add_zero] at c1;have q1:(kk+(cntRows r3:Int)+(cntRows r7:Int) < 0)=False:=eq_false om
 have c2:=Zig g8 om (kk+(cntRows r3:Int)+(cntRows r7:Int)) om om;have q2:(kk+(cntRows r3:Int)+(cntRows r7:Int)+(cntRows r8:Int) < 0)=False:=eq_false om;refine gI (ts:=[.slot 4]) 4260887 Try.func11 ?_;refine fB (aj3 @q0 @q1 @q2) ?_;refine fC (aj3 @q0 @q1 @q2) (c0) ?_;refine fR (aj3 @q0 @q1 @q2) ?_;refine fB (aj3 @q0 @q1 @q2) ?_;refine fC (aj3 @q0 @q1 @q2) (c1) ?_;refine fR (aj3 @q0 @q1 @q2) ?_;refine fB (aj3 @q0 @q1 @q2) ?_
 refine fC (aj3 @q0 @q1 @q2) (c2) ?_;refine fR (aj3 @q0 @q1 @q2) ?_;exact fD (aj3 @q0 @q1 @q2)
theorem Zh3 (t:TN):(Zac t).length<=16:=by cases t <;> decide
mutual
theorem ZrE:∀ (f:F) (c:C),okC f c->cntC c<=1+16 * ZaT c
 | f,.lit v,_=>by simp only [cntC];omega
 | .sl t,.sl rows,h=>by
  have:=Ze9 (Zac t) rows (Zh3 t) (by simpa [okC] using h);simp only [cntC,ZaT];omega
 | .int,.sl _,h=>by simp [okC] at h
 | .str,.sl _,h=>by simp [okC] at h
 | .bool,.sl _,h=>by simp [okC] at h
 | f,.ptr _,_=>by simp [cntC]
 | f,.fn _ _,_=>by simp [cntC]
theorem Ze9:∀ (fs:List F) (rows:List (List C)),fs.length<=16->Zak fs rows->cntRows rows<=16 * (rows.length+bulkRows rows)
 | fs,[],_,_=>by simp [cntRows]
 | fs,r::rs,hl,h=>by
  simp only [Zak] at h;have h1:=Zh4 fs r h.1;have h2:=Ze9 fs rs hl h.2;simp only [cntRows,bulkRows,Tag];omega
theorem Zh4:∀ (fs:List F) (cs:List C),Zao fs cs->ZbA cs<=fs.length+16 * bulkRow cs
 | [],[],_=>by simp [ZbA]
 | f::fs,c::cs,h=>by
  simp only [Zao] at h;have h1:=ZrE f c h.1;have h2:=Zh4 fs cs h.2;simp only [ZbA,bulkRow,Tag];omega
 | [],_::_,h=>by simp [Zao] at h
 | _::_,[],h=>by simp [Zao] at h
end
theorem Zeo:∀ (fs:List F) (cs:List C),Zao fs cs->cntTop cs<=16 * bulkRow cs
 | [],[],_=>by simp [cntTop]
 | f::fs,c::cs,h=>by
  simp only [Zao] at h;have h2:=Zeo fs cs h.2
  cases c with
  | lit v=>simp only [cntTop,bulkRow];omega
  | sl rows =>
   cases f with
   | sl t =>
    have:=Ze9 (Zac t) rows (Zh3 t) (by simpa [okC] using h.1);simp only [cntTop,bulkRow,ZaT];omega
   | _=>simp [okC] at h
  | ptr _=>simp only [cntTop,bulkRow];omega
  | fn _ _=>simp only [cntTop,bulkRow];omega
 | [],_::_,h=>by simp [Zao] at h
 | _::_,[],h=>by simp [Zao] at h
theorem Zgv {n:Nat} (h:us.length=n):(Zaf us).length=n∧(Zaf us).take n=Zaf us∧(Zaf us).drop n=[]:=by
 have hl:(Zaf us).length=n:=by unfold Zaf;rw [Tax];exact h
 exact ⟨hl,List.take_of_length_le (Nat.le_of_eq hl),List.drop_of_length_le (Nat.le_of_eq hl)⟩
theorem Zfd (hok:Zao (Zac .term) row) (HTerm:∀ (rows:List (List C)),Zat rows < Zay row->Zak (Zac .term) rows->∀ {left:Int},0<=left->left<=1048576->Con e0 46 [.one (.sl rows),.one (.lit (.int .i64 left))] [.one (.lit (.int .i64 (sub left (rows.length+bulkRows rows))))]) (h0:0<=left) (h1:left<=1048576):Con e0 21 [.agg row,.one (.lit (.int .i64 left))] [.one (.lit (.int .i64 (sub left (bulkRow row))))]:=by
 obtain ⟨i0,t1,i2,r3,rfl,g0,g1,g2,g3⟩:=ZbE hok;rw [show bulkRow [.lit (.int .i64 i0),.lit (.string t1),.lit (.int .i64 i2),.sl r3]=t1.size+(r3.length+bulkRows r3) by simp only [bulkRow,ZaT];omega];refine gI 133143 Try.func21 ?_;have hs:=g1;unfold maxLen at hs;have w:IntKind.i64.wrap (left - (t1.size:Int))=left - (t1.size:Int):=IntWalk.i64_in _ om;clear hs;by_cases q:left < (t1.size:Int)
 ·rw [ZaH om];have q':(left - (t1.size:Int) < 0)=True:=eq_true om;exact fT (ai @w @q')
 have q':(left - (t1.size:Int) < 0)=False:=eq_false om;refine fG (ai @w @q') ?_;obtain ⟨L0,e0⟩:∃ x,x=left - (t1.size:Int):=⟨_,rfl⟩;rw [<- e0];clear w q';refine fB @e0P ?_;refine fC @e0P (HTerm r3 (by simp only [Zay,Zbg];omega) g3 (left:=L0) om om) ?_;refine fR @e0P ?_;by_cases q:L0 < (((r3.length+bulkRows r3):Nat):Int)
 ·rw [ZaH (b:=(r3.length+bulkRows r3)) q]
  try rw [ZaH om]
  have q':=lT (-1) 0;exact fT @q'
 rw [ZaX (b:=(r3.length+bulkRows r3)) om];have q':(L0 - (((r3.length+bulkRows r3):Nat):Int) < 0)=False:=eq_false om;refine fG @q' ?_;obtain ⟨L1,e1⟩:∃ x,x=L0 - (((r3.length+bulkRows r3):Nat):Int):=⟨_,rfl⟩;rw [<- e1];clear q'
 try rw [ZaX om,show left - ((t1.size+(r3.length+bulkRows r3):Nat):Int)=L1 by omega]
 exact fT @e0P
theorem Zfe (hok:Zao (Zac .term) row) (HTerm:∀ (rows:List (List C)),Zat rows < Zay row->Zak (Zac .term) rows->Con e0 16 [.one (.sl rows),.one (.sl rows)] [.one (.lit (.bool true))]):Con e0 31 [.agg row,.agg row] [.one (.lit (.bool true))]:=by
 obtain ⟨i0,t1,i2,r3,rfl,g0,g1,g2,g3⟩:=ZbE hok;refine gI 34095647 Try.func31 ?_;refine fB (@beq_self_eq_true.{0}) ?_;refine fC @e0P (HTerm r3 (by simp only [Zay,Zbg];omega) g3) ?_;refine fR @e0P ?_;exact fT (@beq_self_eq_true.{0})
theorem ZeO (hok:Zao (Zac .term) row) (HTerm:∀ (rows:List (List C)),Zat rows < Zay row->Zak (Zac .term) rows->rows.length+bulkRows rows<=1048576->ConP e0 50 [.one (.sl rows)] [] (Za7 rows)) (hb:bulkRow row<=1048576):ConP e0 26 [.agg row] [] (Zbc row):=by
 obtain ⟨i0,t1,i2,r3,rfl,g0,g1,g2,g3⟩:=ZbE hok;simp only [bulkRow,ZaT] at hb;refine gIP (ts:=[.cell 2 31]) [] 15 Try.func26 ?_;refine fB @e0P ?_;have F:=@e0P;refine gCP [] [1000] (HTerm r3 (by simp only [Zay,Zbg];omega) g3 om) ?_;clear F;rintro r pm ⟨u3,E3,rfl,k3,rfl⟩;simp only [setA,retA,zipM,Taf,Tah];refine fR @k3 ?_;refine fG @k3 ?_;obtain ⟨E,hre⟩:∃ E,Za1 [.set E3 (fun w=>Own w (.sl r3) E3 u3)] [.set E (fun w=>Zae w [.lit (.int .i64 i0),.lit (.string t1),.lit (.int .i64 i2),.sl r3] E [.int .i64 i0,.string t1,.int .i64 i2,u3])]:=⟨_,ZcU [.lits [.int .i64 i0,.string t1,.int .i64 i2],.sl E3 r3 u3]⟩
 refine pE [1000] [1000] hre ?_;have hm:=Zbc.mk (row:=[.lit (.int .i64 i0),.lit (.string t1),.lit (.int .i64 i2),.sl r3]) (us:=[.int .i64 i0,.string t1,.int .i64 i2,u3]) (E:=E) rfl (by simp only [Zaf,Tbl,List.map_nil,List.all_cons,List.all_nil,Bool.and_true,Tar];exact ⟨rfl,rfl,rfl,k3⟩);exact (have F:=e0P;gTP (R:=Zbc [.lit (.int .i64 i0),.lit (.string t1),.lit (.int .i64 i2),.sl r3]) [1000] hm)
theorem Zhv (hok:Zak (Zac .term) rows) (h:∀ (i:Nat) r,rows[i]?=some r->∀ {left:Int},0<=left->left<=1048576->Con e0 21 [.agg r,.one (.lit (.int .i64 left))] [.one (.lit (.int .i64 (sub left (bulkRow r))))]) (h0:0<=left) (h1:left<=1048576):Con e0 46 [.one (.sl rows),.one (.lit (.int .i64 left))] [.one (.lit (.int .i64 (sub left (rows.length+bulkRows rows))))]:=by
 refine ZcD (by kernel_rfl) fun hm=>?_;unfold maxLen at hm;have w:IntKind.i64.wrap (left - (rows.length:Int))=left - (rows.length:Int):=IntWalk.i64_in _ om;have hrb:ZaC 4 rows=true:=ZaW.2 hok.rowsLen;refine gI 33589299 Try.func46 ?_;by_cases q:left < (rows.length:Int)
 ·rw [ZaH om];have q':(left - (rows.length:Int) < 0)=True:=eq_true om;exact fT (ai @w @q')
 have q':(left - (rows.length:Int) < 0)=False:=eq_false om;refine fG (ai @w @q') ?_;have F:=aj4 @tk0 @Zd7 @Int.natCast_zero @Int.sub_zero;refine gL (ι:=Nat) [1,4,5,15,25] [] (fun x=>[(5,.d (.one (.lit (.int .i64 (x:Int))))),(1,.d (.one (.lit (.int .i64 (left - (rows.length:Int) - (bulkRows (rows.take x):Int))))))]) (fun x=>[]) (fun x=>x<=rows.length∧0<=left - (rows.length:Int) - (bulkRows (rows.take x):Int)) (fun x=>rows.length - x) (0) (⟨Taj _,by simp [bulkRows];omega⟩) (fun x hx=>?_);clear F
 obtain ⟨hx,hl⟩:=hx;by_cases hlt:x < rows.length
 ·obtain ⟨r,hr⟩:∃ r,rows[x]?=some r:=⟨_,Taa hlt⟩;have hq:=hok.get hr;obtain ⟨ln,tk,dr⟩:=hq.take (n:=4) rfl;have okc:=hq.cells;have q1:=lT x rows.length;have wi:=Zbu (k:=x) om;have hbt:=Zdu hr;have hbl:=ZcL rows (x+1)
  skip
  have fe:=aj10 hr hlt Zbs hrb q1 okc ln tk dr (@Zaz C);obtain ⟨l,hle⟩:∃ l,l=left - (rows.length:Int) - (bulkRows (rows.take x):Int):=⟨_,rfl⟩;rw [<- hle];refine fB @fe ?_;refine fC @fe (h x _ hr (left:=l) om om) ?_;refine fR @fe ?_;by_cases q:l < ((bulkRow r:Nat):Int)
  ·rw [ZaH (b:=bulkRow r) q,ZaH om];have q':=lT (-1) 0;exact fT @q'
  rw [ZaX (b:=bulkRow r) om];have q':(l - ((bulkRow r:Nat):Int) < 0)=False:=eq_false om;have e:left - (rows.length:Int) - (bulkRows (rows.take (x+1)):Int)=l - ((bulkRow r:Nat):Int):=om;have F:=aj3 @q' @wi @e;refine gG ?_;exact ⟨x+1,⟨hlt,om⟩,gw,gw,om⟩
 ·obtain rfl:x=rows.length:=by omega
  have q1:=lF rows.length rows.length;rw [Tap] at hl ⊢;rw [ZaX om,show left - ((rows.length+bulkRows rows:Nat):Int)=left - (rows.length:Int) - (bulkRows rows:Int) by omega];exact fT @q1
theorem Zhw (hok:Zak (Zac .term) rows) (h:∀ (i:Nat) r,rows[i]?=some r->Con e0 31 [.agg r,.agg r] [.one (.lit (.bool true))]):Con e0 16 [.one (.sl rows),.one (.sl rows)] [.one (.lit (.bool true))]:=by
 refine ZcD (by kernel_rfl) fun hm=>?_;unfold maxLen at hm;have hrb:ZaC 4 rows=true:=ZaW.2 hok.rowsLen;refine gI 67126323 Try.func16 ?_;refine fG (@beq_self_eq_true.{0}) ?_;have F:=@e0P;refine gL (ι:=Nat) [4,5,14,26] [] (fun x=>[(5,.d (.one (.lit (.int .i64 (x:Int)))))]) (fun x=>[]) (fun x=>x<=rows.length) (fun x=>rows.length - x) (0) (Taj _) (fun x hx=>?_);clear F;by_cases hlt:x < rows.length
 ·obtain ⟨r,hr⟩:∃ r,rows[x]?=some r:=⟨_,Taa hlt⟩;have hq:=hok.get hr;obtain ⟨ln,tk,dr⟩:=hq.take (n:=4) rfl;have okc:=hq.cells;have q1:=lT x rows.length;have wi:=Zbu (k:=x) om;have fe:=aj10 hr hlt Zbs hrb q1 okc ln tk dr (@Zaz C);refine fB @fe ?_;refine fC @fe (h x _ hr) ?_;refine fR @fe ?_;have F:=@wi;refine gG ?_;exact ⟨x+1,hlt,gw,gw,om⟩
 ·obtain rfl:x=rows.length:=by omega
  have q1:=lF rows.length rows.length;exact fT @q1
theorem Zg7 (hok:Zak (Zac .term) rows) (h:∀ (i:Nat) r,rows[i]?=some r->bulkRow r<=1048576->ConP e0 26 [.agg r] [] (Zbc r)) (hb:rows.length+bulkRows rows<=1048576):ConP e0 50 [.one (.sl rows)] [] (Za7 rows):=by
 have hrb:ZaC 4 rows=true:=ZaW.2 hok.rowsLen;have hmx:((rows.length:Int)<=(maxApp:Int))=True:=eq_true (by unfold maxApp;omega);refine gIP (ts:=[.slot 2]) [] 2077 Try.func50 ?_;refine fG (ai @hmx @Tbn) ?_;refine pE [] [1000] ZbK ?_;have F:=aj3 @nla @Nat.sub_zero @tk0;refine gL (ι:=Nat × List (List Value) × (Nat->Prop)) [3,4,11] [3,1000] (fun x=>[(4,.d (.one (.lit (.int .i64 (x.1:Int))))),(3,.buf 3)]) (fun x=>[(3,.buf none 31 4 (x.2.1.map Zaf++List.replicate (rows.length - x.1) [C.lit (.int .i64 0),C.lit (.string .empty),C.lit (.int .i64 0),C.sl []])),(1000,.set x.2.2 (fun w=>Zan w (rows.take x.1) x.2.2 x.2.1))]) (fun x=>x.1<=rows.length∧x.2.1.length=x.1) (fun x=>rows.length - x.1) ((0,[],fun _=>False)) (⟨Taj _,rfl⟩) (fun x hx=>?_);clear F
 obtain ⟨i,uss,E⟩:=x;obtain ⟨hi,hn⟩:=hx;simp only at hi hn;dsimp only;by_cases hlt:i < rows.length
 ·obtain ⟨r,hr⟩:∃ r,rows[i]?=some r:=⟨_,Taa hlt⟩;have hq:=hok.get hr;obtain ⟨ln,tk,dr⟩:=hq.take (n:=4) rfl;have okc:=hq.cells;have q1:=lT i rows.length;have wi:=Zbu (k:=i) om;have fe:=aj10 hr hlt Zbs hrb q1 okc ln tk dr (@Zaz C);obtain ⟨k,hk⟩:∃ k,rows.length - i=k+1:=⟨rows.length - i - 1,om⟩;have hk2:rows.length - (i+1)=k:=om;rw [hk];have bl:(uss.map Zaf++List.replicate (k+1) [C.lit (.int .i64 0),C.lit (.string .empty),C.lit (.int .i64 0),C.sl []]).length=rows.length:=by simp;omega
  have bs:∀ X,(uss.map Zaf++List.replicate (k+1) [C.lit (.int .i64 0),C.lit (.string .empty),C.lit (.int .i64 0),C.sl []]).set i X=(uss.map Zaf++[X])++List.replicate k [C.lit (.int .i64 0),C.lit (.string .empty),C.lit (.int .i64 0),C.sl []]:=fun X=>ZeK _ _ _ _ _ (by simp [hn]);have bg:(uss.map Zaf++List.replicate (k+1) [C.lit (.int .i64 0),C.lit (.string .empty),C.lit (.int .i64 0),C.sl []])[i]?=some [C.lit (.int .i64 0),C.lit (.string .empty),C.lit (.int .i64 0),C.sl []]:=by rw [Tbj (by simp;omega),Tbk,if_pos (by simp;omega)]
  have hbr:=Za4 hr;refine fB (ai @fe @bl) ?_;have F:=ai @fe @bl;refine gCP [] [1001] (h i _ hr om) ?_;clear F;rintro r' pm ⟨us,E2,rfl,hu,hok2,rfl⟩;rw [ln] at hu;obtain ⟨u0,u1,u2,u3,rfl⟩:=len4 hu;have hok2:Zal (.lit u0)=true∧Zal (.lit u1)=true∧Zal (.lit u2)=true∧Zal (.lit u3)=true:=by simpa [Zaf,Tar,and_assoc] using hok2
  obtain ⟨k0,k1,k2,k3⟩:=hok2;have lr:Zaf [u0,u1,u2,u3]=[.lit u0,.lit u1,.lit u2,.lit u3]:=rfl;rw [lr];simp only [setA,retA,zipM,Taf,Tah];refine fR (aj8 @hlt @bl @bs @bg @k0 @k1 @k2 @k3) ?_;refine pE [1000,1001] [1000] (Zc3 (G':=fun w=>Zan w (rows.take (i+1)) (fun b=>E b∨E2 b) (uss++[[u0,u1,u2,u3]])) (fun w h1 h2 hd=>?_) (Zan.stable _ _ _)) ?_
  ·rw [tks hr];exact Zan.snoc h1 h2 (fun _ h=>.inl h) (fun _ h=>.inr h) hd
  have F:=aj5 @bs @wi @hk2 @lr ((@Tbm.{0,0}));refine gG ?_;exact ⟨(i+1,uss++[[u0,u1,u2,u3]],fun b=>E b∨E2 b),⟨hlt,by simp [hn]⟩,gw,gw,om⟩
 ·obtain rfl:i=rows.length:=by omega
  have q1:=lF rows.length rows.length;rw [Nat.sub_self,List.replicate_zero,List.append_nil,Tap];refine fG @q1 ?_;refine pS 2 fun a cap=>?_;refine pE [2,1000] [1000] (Zbi (fun w h=>h) (Own.stable _ _ _)) ?_;exact (have F:=e0P;gTP (R:=Za7 rows) [1000] ⟨.slice a uss.length cap,_,rfl,rfl,rfl⟩)
theorem Zg8 (n:Nat):(∀ rows,Zat rows < n->Zak (Zac .term) rows->∀ {left:Int},0<=left->left<=1048576->Con e0 46 [.one (.sl rows),.one (.lit (.int .i64 left))] [.one (.lit (.int .i64 (sub left (rows.length+bulkRows rows))))]):=by
 induction n with
 | zero=>exact fun rows h=>absurd h om
 | succ n ih =>
  exact fun rows hn hok {left} h0 h1=>Zhv hok (fun i r hr left h0 h1=>Zfd (hok.get hr) (fun rows2 h2 ok2=>ih rows2 (by have:=ZaV hr;omega) ok2) h0 h1) h0 h1
theorem Zgf (hok:Zak (Zac .term) rows) (h0:0<=left) (h1:left<=1048576):Con e0 46 [.one (.sl rows),.one (.lit (.int .i64 left))] [.one (.lit (.int .i64 (sub left (rows.length+bulkRows rows))))]:=(Zg8 _) rows (Tan _) hok h0 h1
theorem ZdQ (hok:Zao (Zac .term) row) (h0:0<=left) (h1:left<=1048576):Con e0 21 [.agg row,.one (.lit (.int .i64 left))] [.one (.lit (.int .i64 (sub left (bulkRow row))))]:=Zfd hok (fun rows _ ok=>(Zg8 _) rows (Tan _) ok) h0 h1
theorem Zg9 (n:Nat):(∀ rows,Zat rows < n->Zak (Zac .term) rows->Con e0 16 [.one (.sl rows),.one (.sl rows)] [.one (.lit (.bool true))]):=by
 induction n with
 | zero=>exact fun rows h=>absurd h om
 | succ n ih =>
  exact fun rows hn hok=>Zhw hok (fun i r hr=>Zfe (hok.get hr) (fun rows2 h2 ok2=>ih rows2 (by have:=ZaV hr;omega) ok2))
theorem Zgg (hok:Zak (Zac .term) rows):Con e0 16 [.one (.sl rows),.one (.sl rows)] [.one (.lit (.bool true))]:=(Zg9 _) rows (Tan _) hok
theorem ZdR (hok:Zao (Zac .term) row):Con e0 31 [.agg row,.agg row] [.one (.lit (.bool true))]:=Zfe hok (fun rows _ ok=>(Zg9 _) rows (Tan _) ok)
theorem Zha (n:Nat):(∀ rows,Zat rows < n->Zak (Zac .term) rows->rows.length+bulkRows rows<=1048576->ConP e0 50 [.one (.sl rows)] [] (Za7 rows)):=by
 induction n with
 | zero=>exact fun rows h=>absurd h om
 | succ n ih =>
  exact fun rows hn hok hb=>Zg7 hok (fun i r hr hb=>ZeO (hok.get hr) (fun rows2 h2 ok2=>ih rows2 (by have:=ZaV hr;omega) ok2) hb) hb
theorem ZfH (hok:Zak (Zac .term) rows) (hb:rows.length+bulkRows rows<=1048576):ConP e0 50 [.one (.sl rows)] [] (Za7 rows):=(Zha _) rows (Tan _) hok hb
theorem Zdt (hok:Zao (Zac .term) row) (hb:bulkRow row<=1048576):ConP e0 26 [.agg row] [] (Zbc row):=ZeO hok (fun rows _ ok=>(Zha _) rows (Tan _) ok) hb
theorem Zl6 (hok:Zak (Zac .int) rows) (h0:0<=left) (h1:left<=1048576):Con e0 75 [.one (.sl rows),.one (.lit (.int .i64 left))] [.one (.lit (.int .i64 (sub left (rows.length+bulkRows rows))))]:=by
 refine ZcD (by kernel_rfl) fun hm=>?_;unfold maxLen at hm;have w:IntKind.i64.wrap (left - (rows.length:Int))=left - (rows.length:Int):=IntWalk.i64_in _ om;rw [Zrk (fs:=Zac .int) (by rfl) hok,Nat.add_zero];refine gI 1043 Try.func75 ?_;by_cases q:left < (rows.length:Int)
 ·rw [ZaH om];have q':(left - (rows.length:Int) < 0)=True:=eq_true om;exact fT (ai @w @q')
 have q':(left - (rows.length:Int) < 0)=False:=eq_false om;rw [ZaX om];exact fT (ai @w @q')
theorem Zl7 (hok:Zak (Zac .int) rows):Con e0 81 [.one (.sl rows),.one (.sl rows)] [.one (.lit (.bool true))]:=by
 refine ZcD (by kernel_rfl) fun hm=>?_;unfold maxLen at hm;have hrb:ZaC 1 rows=true:=ZaW.2 hok.rowsLen;refine gI 33571891 Try.func81 ?_;refine fG (@beq_self_eq_true.{0}) ?_;have F:=@e0P;refine gL (ι:=Nat) [4,5,14,25] [] (fun x=>[(5,.d (.one (.lit (.int .i64 (x:Int)))))]) (fun x=>[]) (fun x=>x<=rows.length) (fun x=>rows.length - x) (0) (Taj _) (fun x hx=>?_);clear F;by_cases hlt:x < rows.length
 ·obtain ⟨r,hr⟩:∃ r,rows[x]?=some r:=⟨_,Taa hlt⟩;obtain ⟨x0,rfl,g0⟩:=ZdA (hok.get hr);have q1:=lT x rows.length;have wi:=Zbu (k:=x) om;have fe:=aj5 hr hlt Zbs hrb q1;have F:=aj3 @beq_self_eq_true.{0} @wi @fe;refine gG ?_;exact ⟨x+1,hlt,gw,gw,om⟩
 ·obtain rfl:x=rows.length:=by omega
  have q1:=lF rows.length rows.length;exact fT @q1
theorem ZjT (hok:Zak (Zac .int) rows) (hb:rows.length+bulkRows rows<=1048576):ConP e0 77 [.one (.sl rows)] [] (Za7 rows):=by
 have hrb:ZaC 1 rows=true:=ZaW.2 hok.rowsLen;have hmx:((rows.length:Int)<=(maxApp:Int))=True:=eq_true (by unfold maxApp;omega);refine gIP (ts:=[.slot 2]) [] 2077 Try.func77 ?_;refine fG (ai @hmx @Tbn) ?_;refine pE [] [1000] ZbK ?_;have F:=aj3 @nla @Nat.sub_zero @tk0;refine gL (ι:=Nat × List (List Value) × (Nat->Prop)) [3,4,11] [3,1000] (fun x=>[(4,.d (.one (.lit (.int .i64 (x.1:Int))))),(3,.buf 3)]) (fun x=>[(3,.buf none 3 1 (x.2.1.map Zaf++List.replicate (rows.length - x.1) [C.lit (.int .i64 0)])),(1000,.set x.2.2 (fun w=>Zan w (rows.take x.1) x.2.2 x.2.1))]) (fun x=>x.1<=rows.length∧x.2.1.length=x.1) (fun x=>rows.length - x.1) ((0,[],fun _=>False)) (⟨Taj _,rfl⟩) (fun x hx=>?_);clear F
 obtain ⟨i,uss,E⟩:=x;obtain ⟨hi,hn⟩:=hx;simp only at hi hn;dsimp only;by_cases hlt:i < rows.length
 ·obtain ⟨r,hr⟩:∃ r,rows[i]?=some r:=⟨_,Taa hlt⟩;obtain ⟨x0,rfl,g0⟩:=ZdA (hok.get hr);have q1:=lT i rows.length;have wi:=Zbu (k:=i) om;have fe:=aj5 hr hlt Zbs hrb q1;obtain ⟨k,hk⟩:∃ k,rows.length - i=k+1:=⟨rows.length - i - 1,om⟩;have hk2:rows.length - (i+1)=k:=om;rw [hk];have bl:(uss.map Zaf++List.replicate (k+1) [C.lit (.int .i64 0)]).length=rows.length:=by simp;omega
  have bs:∀ X,(uss.map Zaf++List.replicate (k+1) [C.lit (.int .i64 0)]).set i X=(uss.map Zaf++[X])++List.replicate k [C.lit (.int .i64 0)]:=fun X=>ZeK _ _ _ _ _ (by simp [hn]);have bg:(uss.map Zaf++List.replicate (k+1) [C.lit (.int .i64 0)])[i]?=some [C.lit (.int .i64 0)]:=by rw [Tbj (by simp;omega),Tbk,if_pos (by simp;omega)]
  refine pE [1000] [1000] (ZrL (G':=fun w=>Zan w (rows.take (i+1)) E (uss++[[.int .i64 x0]])) (fun w h=>?_) (Zan.stable _ _ _)) ?_
  ·rw [tks hr];exact Zan.snoc (S2:=fun _=>False) h (Zae.lits (us:=[.int .i64 x0])) (fun _ h=>h) (fun _ h=>h.elim) (fun _ _ h=>h)
  have F:=aj8 @fe @bl @bs @bg @wi @hk2 @Zsa ((@Tbm.{0,0}));refine gG ?_;exact ⟨(i+1,uss++[[.int .i64 x0]],E),⟨hlt,by simp [hn]⟩,gw,gw,om⟩
 ·obtain rfl:i=rows.length:=by omega
  have q1:=lF rows.length rows.length;rw [Nat.sub_self,List.replicate_zero,List.append_nil,Tap];refine fG @q1 ?_;refine pS 2 fun a cap=>?_;refine pE [2,1000] [1000] (Zbi (fun w h=>h) (Own.stable _ _ _)) ?_;exact (have F:=e0P;gTP (R:=Za7 rows) [1000] ⟨.slice a uss.length cap,_,rfl,rfl,rfl⟩)
theorem Zii (hok:Zao (Zac .binding) row) (h0:0<=left) (h1:left<=1048576):Con e0 85 [.agg row,.one (.lit (.int .i64 left))] [.one (.lit (.int .i64 (sub left (bulkRow row))))]:=by
 obtain ⟨i0,t1,i2,r3,i4,t5,i6,r7,rfl,g0,g1,g2,g3,g4,g5,g6,g7⟩:=Zb2 hok;rw [show bulkRow [.lit (.int .i64 i0),.lit (.string t1),.lit (.int .i64 i2),.sl r3,.lit (.int .i64 i4),.lit (.string t5),.lit (.int .i64 i6),.sl r7]=bulkRow [.lit (.int .i64 i0),.lit (.string t1),.lit (.int .i64 i2),.sl r3]+bulkRow [.lit (.int .i64 i4),.lit (.string t5),.lit (.int .i64 i6),.sl r7] by simp only [bulkRow,ZaT];omega]
 refine gI 66583 Try.func85 ?_;refine fB @e0P ?_;refine fC @e0P (ZdQ (Za5 g0 g1 g2 g3) (left:=left) om om) ?_;refine fR @e0P ?_;by_cases q:left < ((bulkRow [.lit (.int .i64 i0),.lit (.string t1),.lit (.int .i64 i2),.sl r3]:Nat):Int)
 ·rw [ZaH (b:=bulkRow [.lit (.int .i64 i0),.lit (.string t1),.lit (.int .i64 i2),.sl r3]) q]
  try rw [ZaH om]
  have q':=lT (-1) 0;exact fT @q'
 rw [ZaX (b:=bulkRow [.lit (.int .i64 i0),.lit (.string t1),.lit (.int .i64 i2),.sl r3]) om];have q':(left - ((bulkRow [.lit (.int .i64 i0),.lit (.string t1),.lit (.int .i64 i2),.sl r3]:Nat):Int) < 0)=False:=eq_false om;refine fG @q' ?_;obtain ⟨L0,e0⟩:∃ x,x=left - ((bulkRow [.lit (.int .i64 i0),.lit (.string t1),.lit (.int .i64 i2),.sl r3]:Nat):Int):=⟨_,rfl⟩;rw [<- e0];clear q';refine fB @e0P ?_;refine fC @e0P (ZdQ (Za5 g4 g5 g6 g7) (left:=L0) om om) ?_
 refine fR @e0P ?_;by_cases q:L0 < ((bulkRow [.lit (.int .i64 i4),.lit (.string t5),.lit (.int .i64 i6),.sl r7]:Nat):Int)
 ·rw [ZaH (b:=bulkRow [.lit (.int .i64 i4),.lit (.string t5),.lit (.int .i64 i6),.sl r7]) q]
  try rw [ZaH om]
  have q':=lT (-1) 0;exact fT @q'
 rw [ZaX (b:=bulkRow [.lit (.int .i64 i4),.lit (.string t5),.lit (.int .i64 i6),.sl r7]) om];have q':(L0 - ((bulkRow [.lit (.int .i64 i4),.lit (.string t5),.lit (.int .i64 i6),.sl r7]:Nat):Int) < 0)=False:=eq_false om;refine fG @q' ?_;obtain ⟨L1,e1⟩:∃ x,x=L0 - ((bulkRow [.lit (.int .i64 i4),.lit (.string t5),.lit (.int .i64 i6),.sl r7]:Nat):Int):=⟨_,rfl⟩;rw [<- e1];clear q'
 try rw [ZaX om,show left - ((bulkRow [.lit (.int .i64 i0),.lit (.string t1),.lit (.int .i64 i2),.sl r3]+bulkRow [.lit (.int .i64 i4),.lit (.string t5),.lit (.int .i64 i6),.sl r7]:Nat):Int)=L1 by omega]
 exact fT @e0P
theorem Zij (hok:Zao (Zac .binding) row):Con e0 97 [.agg row,.agg row] [.one (.lit (.bool true))]:=by
 obtain ⟨i0,t1,i2,r3,i4,t5,i6,r7,rfl,g0,g1,g2,g3,g4,g5,g6,g7⟩:=Zb2 hok;refine gI 66591 Try.func97 ?_;refine fB (@beq_self_eq_true.{0}) ?_;refine fC @e0P (ZdR (Za5 g0 g1 g2 g3)) ?_;refine fR @e0P ?_;refine fB (@beq_self_eq_true.{0}) ?_;refine fC @e0P (ZdR (Za5 g4 g5 g6 g7)) ?_;refine fR @e0P ?_;exact fT (@beq_self_eq_true.{0})
theorem Zhx (hok:Zao (Zac .binding) row) (hb:bulkRow row<=1048576):ConP e0 86 [.agg row] [] (Zbc row):=by
 obtain ⟨i0,t1,i2,r3,i4,t5,i6,r7,rfl,g0,g1,g2,g3,g4,g5,g6,g7⟩:=Zb2 hok;simp only [bulkRow,ZaT] at hb;refine gIP (ts:=[.cell 2 103]) [] 15 Try.func86 ?_;refine fB @e0P ?_;have F:=@e0P;refine gCP [] [1000] (Zdt (Za5 g0 g1 g2 g3) (by simp only [bulkRow,ZaT];omega)) ?_;clear F;rintro r pm ⟨us,E0,rfl,hu,hc,rfl⟩;obtain ⟨u0,u1,u2,u3,rfl⟩:=len4 hu;have hc:Zal (.lit u0)=true∧Zal (.lit u1)=true∧Zal (.lit u2)=true∧Zal (.lit u3)=true:=by simpa [Zaf,Tar,and_assoc] using hc
 obtain ⟨k0,k1,k2,k3⟩:=hc;have lr0:Zaf [u0,u1,u2,u3]=[.lit u0,.lit u1,.lit u2,.lit u3]:=rfl;rw [lr0];simp only [setA,retA,zipM,Taf,Tah];refine fR (aj4 @k0 @k1 @k2 @k3) ?_;refine fB @e0P ?_;have F:=@e0P;refine gCP [] [1001] (Zdt (Za5 g4 g5 g6 g7) (by simp only [bulkRow,ZaT];omega)) ?_;clear F;rintro r pm ⟨us,E4,rfl,hu,hc,rfl⟩;obtain ⟨u4,u5,u6,u7,rfl⟩:=len4 hu;have hc:Zal (.lit u4)=true∧Zal (.lit u5)=true∧Zal (.lit u6)=true∧Zal (.lit u7)=true:=by simpa [Zaf,Tar,and_assoc] using hc
 obtain ⟨k4,k5,k6,k7⟩:=hc;have lr4:Zaf [u4,u5,u6,u7]=[.lit u4,.lit u5,.lit u6,.lit u7]:=rfl;rw [lr4];simp only [setA,retA,zipM,Taf,Tah];refine fR (aj4 @k4 @k5 @k6 @k7) ?_;refine fG (aj8 @k0 @k1 @k2 @k3 @k4 @k5 @k6 @k7) ?_;obtain ⟨E,hre⟩:∃ E,Za1 [.set E0 (fun w=>Zae w [.lit (.int .i64 i0),.lit (.string t1),.lit (.int .i64 i2),.sl r3] E0 [u0,u1,u2,u3]),.set E4 (fun w=>Zae w [.lit (.int .i64 i4),.lit (.string t5),.lit (.int .i64 i6),.sl r7] E4 [u4,u5,u6,u7])] [.set E (fun w=>Zae w [.lit (.int .i64 i0),.lit (.string t1),.lit (.int .i64 i2),.sl r3,.lit (.int .i64 i4),.lit (.string t5),.lit (.int .i64 i6),.sl r7] E [u0,u1,u2,u3,u4,u5,u6,u7])]:=⟨_,ZcU [.st E0 [.lit (.int .i64 i0),.lit (.string t1),.lit (.int .i64 i2),.sl r3] [u0,u1,u2,u3],.st E4 [.lit (.int .i64 i4),.lit (.string t5),.lit (.int .i64 i6),.sl r7] [u4,u5,u6,u7]]⟩
 refine pE [1000,1001] [1000] hre ?_;have hm:=Zbc.mk (row:=[.lit (.int .i64 i0),.lit (.string t1),.lit (.int .i64 i2),.sl r3,.lit (.int .i64 i4),.lit (.string t5),.lit (.int .i64 i6),.sl r7]) (us:=[u0,u1,u2,u3,u4,u5,u6,u7]) (E:=E) rfl (by simp only [Zaf,Tbl,List.map_nil,List.all_cons,List.all_nil,Bool.and_true,Tar];exact ⟨k0,k1,k2,k3,k4,k5,k6,k7⟩);exact (have F:=e0P;gTP (R:=Zbc [.lit (.int .i64 i0),.lit (.string t1),.lit (.int .i64 i2),.sl r3,.lit (.int .i64 i4),.lit (.string t5),.lit (.int .i64 i6),.sl r7]) [1000] hm)
theorem Zhy (hok:Zak (Zac .binding) rows) (h0:0<=left) (h1:left<=1048576):Con e0 76 [.one (.sl rows),.one (.lit (.int .i64 left))] [.one (.lit (.int .i64 (sub left (rows.length+bulkRows rows))))]:=by
 refine ZcD (by kernel_rfl) fun hm=>?_;unfold maxLen at hm;have w:IntKind.i64.wrap (left - (rows.length:Int))=left - (rows.length:Int):=IntWalk.i64_in _ om;have hrb:ZaC 8 rows=true:=ZaW.2 hok.rowsLen;refine gI 33589299 Try.func76 ?_;by_cases q:left < (rows.length:Int)
 ·rw [ZaH om];have q':(left - (rows.length:Int) < 0)=True:=eq_true om;exact fT (ai @w @q')
 have q':(left - (rows.length:Int) < 0)=False:=eq_false om;refine fG (ai @w @q') ?_;have F:=aj4 @tk0 @Zd7 @Int.natCast_zero @Int.sub_zero;refine gL (ι:=Nat) [1,4,5,15,25] [] (fun x=>[(5,.d (.one (.lit (.int .i64 (x:Int))))),(1,.d (.one (.lit (.int .i64 (left - (rows.length:Int) - (bulkRows (rows.take x):Int))))))]) (fun x=>[]) (fun x=>x<=rows.length∧0<=left - (rows.length:Int) - (bulkRows (rows.take x):Int)) (fun x=>rows.length - x) (0) (⟨Taj _,by simp [bulkRows];omega⟩) (fun x hx=>?_);clear F
 obtain ⟨hx,hl⟩:=hx;by_cases hlt:x < rows.length
 ·obtain ⟨r,hr⟩:∃ r,rows[x]?=some r:=⟨_,Taa hlt⟩;have hq:=hok.get hr;obtain ⟨ln,tk,dr⟩:=hq.take (n:=8) rfl;have okc:=hq.cells;have q1:=lT x rows.length;have wi:=Zbu (k:=x) om;have hbt:=Zdu hr;have hbl:=ZcL rows (x+1)
  skip
  have fe:=aj10 hr hlt Zbs hrb q1 okc ln tk dr (@Zaz C);obtain ⟨l,hle⟩:∃ l,l=left - (rows.length:Int) - (bulkRows (rows.take x):Int):=⟨_,rfl⟩;rw [<- hle];refine fB @fe ?_;refine fC @fe (Zii hq (left:=l) om om) ?_;refine fR @fe ?_;by_cases q:l < ((bulkRow r:Nat):Int)
  ·rw [ZaH (b:=bulkRow r) q,ZaH om];have q':=lT (-1) 0;exact fT @q'
  rw [ZaX (b:=bulkRow r) om];have q':(l - ((bulkRow r:Nat):Int) < 0)=False:=eq_false om;have e:left - (rows.length:Int) - (bulkRows (rows.take (x+1)):Int)=l - ((bulkRow r:Nat):Int):=om;have F:=aj3 @q' @wi @e;refine gG ?_;exact ⟨x+1,⟨hlt,om⟩,gw,gw,om⟩
 ·obtain rfl:x=rows.length:=by omega
  have q1:=lF rows.length rows.length;rw [Tap] at hl ⊢;rw [ZaX om,show left - ((rows.length+bulkRows rows:Nat):Int)=left - (rows.length:Int) - (bulkRows rows:Int) by omega];exact fT @q1
theorem Zhz (hok:Zak (Zac .binding) rows):Con e0 82 [.one (.sl rows),.one (.sl rows)] [.one (.lit (.bool true))]:=by
 refine ZcD (by kernel_rfl) fun hm=>?_;unfold maxLen at hm;have hrb:ZaC 8 rows=true:=ZaW.2 hok.rowsLen;refine gI 67126323 Try.func82 ?_;refine fG (@beq_self_eq_true.{0}) ?_;have F:=@e0P;refine gL (ι:=Nat) [4,5,14,26] [] (fun x=>[(5,.d (.one (.lit (.int .i64 (x:Int)))))]) (fun x=>[]) (fun x=>x<=rows.length) (fun x=>rows.length - x) (0) (Taj _) (fun x hx=>?_);clear F;by_cases hlt:x < rows.length
 ·obtain ⟨r,hr⟩:∃ r,rows[x]?=some r:=⟨_,Taa hlt⟩;have hq:=hok.get hr;obtain ⟨ln,tk,dr⟩:=hq.take (n:=8) rfl;have okc:=hq.cells;have q1:=lT x rows.length;have wi:=Zbu (k:=x) om;have fe:=aj10 hr hlt Zbs hrb q1 okc ln tk dr (@Zaz C);refine fB @fe ?_;refine fC @fe (Zij hq) ?_;refine fR @fe ?_;have F:=@wi;refine gG ?_;exact ⟨x+1,hlt,gw,gw,om⟩
 ·obtain rfl:x=rows.length:=by omega
  have q1:=lF rows.length rows.length;exact fT @q1
theorem Zhb (hok:Zak (Zac .binding) rows) (hb:rows.length+bulkRows rows<=1048576):ConP e0 78 [.one (.sl rows)] [] (Za7 rows):=by
 have hrb:ZaC 8 rows=true:=ZaW.2 hok.rowsLen;have hmx:((rows.length:Int)<=(maxApp:Int))=True:=eq_true (by unfold maxApp;omega);refine gIP (ts:=[.slot 2]) [] 2077 Try.func78 ?_;refine fG (ai @hmx @Tbn) ?_;refine pE [] [1000] ZbK ?_;have F:=aj3 @nla @Nat.sub_zero @tk0;refine gL (ι:=Nat × List (List Value) × (Nat->Prop)) [3,4,11] [3,1000] (fun x=>[(4,.d (.one (.lit (.int .i64 (x.1:Int))))),(3,.buf 3)]) (fun x=>[(3,.buf none 103 8 (x.2.1.map Zaf++List.replicate (rows.length - x.1) [C.lit (.int .i64 0),C.lit (.string .empty),C.lit (.int .i64 0),C.sl [],C.lit (.int .i64 0),C.lit (.string .empty),C.lit (.int .i64 0),C.sl []])),(1000,.set x.2.2 (fun w=>Zan w (rows.take x.1) x.2.2 x.2.1))]) (fun x=>x.1<=rows.length∧x.2.1.length=x.1) (fun x=>rows.length - x.1) ((0,[],fun _=>False)) (⟨Taj _,rfl⟩) (fun x hx=>?_);clear F
 obtain ⟨i,uss,E⟩:=x;obtain ⟨hi,hn⟩:=hx;simp only at hi hn;dsimp only;by_cases hlt:i < rows.length
 ·obtain ⟨r,hr⟩:∃ r,rows[i]?=some r:=⟨_,Taa hlt⟩;have hq:=hok.get hr;obtain ⟨ln,tk,dr⟩:=hq.take (n:=8) rfl;have okc:=hq.cells;have q1:=lT i rows.length;have wi:=Zbu (k:=i) om;have fe:=aj10 hr hlt Zbs hrb q1 okc ln tk dr (@Zaz C);obtain ⟨k,hk⟩:∃ k,rows.length - i=k+1:=⟨rows.length - i - 1,om⟩;have hk2:rows.length - (i+1)=k:=om;rw [hk];have bl:(uss.map Zaf++List.replicate (k+1) [C.lit (.int .i64 0),C.lit (.string .empty),C.lit (.int .i64 0),C.sl [],C.lit (.int .i64 0),C.lit (.string .empty),C.lit (.int .i64 0),C.sl []]).length=rows.length:=by simp;omega
  have bs:∀ X,(uss.map Zaf++List.replicate (k+1) [C.lit (.int .i64 0),C.lit (.string .empty),C.lit (.int .i64 0),C.sl [],C.lit (.int .i64 0),C.lit (.string .empty),C.lit (.int .i64 0),C.sl []]).set i X=(uss.map Zaf++[X])++List.replicate k [C.lit (.int .i64 0),C.lit (.string .empty),C.lit (.int .i64 0),C.sl [],C.lit (.int .i64 0),C.lit (.string .empty),C.lit (.int .i64 0),C.sl []]:=fun X=>ZeK _ _ _ _ _ (by simp [hn])
  have bg:(uss.map Zaf++List.replicate (k+1) [C.lit (.int .i64 0),C.lit (.string .empty),C.lit (.int .i64 0),C.sl [],C.lit (.int .i64 0),C.lit (.string .empty),C.lit (.int .i64 0),C.sl []])[i]?=some [C.lit (.int .i64 0),C.lit (.string .empty),C.lit (.int .i64 0),C.sl [],C.lit (.int .i64 0),C.lit (.string .empty),C.lit (.int .i64 0),C.sl []]:=by rw [Tbj (by simp;omega),Tbk,if_pos (by simp;omega)]
  have hbr:=Za4 hr;refine fB (ai @fe @bl) ?_;have F:=ai @fe @bl;refine gCP [] [1001] (Zhx hq om) ?_;clear F;rintro r' pm ⟨us,E2,rfl,hu,hok2,rfl⟩;rw [ln] at hu;obtain ⟨u0,u1,u2,u3,u4,u5,u6,u7,rfl⟩:=len8 hu;have hok2:Zal (.lit u0)=true∧Zal (.lit u1)=true∧Zal (.lit u2)=true∧Zal (.lit u3)=true∧Zal (.lit u4)=true∧Zal (.lit u5)=true∧Zal (.lit u6)=true∧Zal (.lit u7)=true:=by simpa [Zaf,Tar,and_assoc] using hok2
  obtain ⟨k0,k1,k2,k3,k4,k5,k6,k7⟩:=hok2;have lr:Zaf [u0,u1,u2,u3,u4,u5,u6,u7]=[.lit u0,.lit u1,.lit u2,.lit u3,.lit u4,.lit u5,.lit u6,.lit u7]:=rfl;rw [lr];simp only [setA,retA,zipM,Taf,Tah];refine fR (aj12 @hlt @bl @bs @bg @k0 @k1 @k2 @k3 @k4 @k5 @k6 @k7) ?_;refine pE [1000,1001] [1000] (Zc3 (G':=fun w=>Zan w (rows.take (i+1)) (fun b=>E b∨E2 b) (uss++[[u0,u1,u2,u3,u4,u5,u6,u7]])) (fun w h1 h2 hd=>?_) (Zan.stable _ _ _)) ?_
  ·rw [tks hr];exact Zan.snoc h1 h2 (fun _ h=>.inl h) (fun _ h=>.inr h) hd
  have F:=aj5 @bs @wi @hk2 @lr ((@Tbm.{0,0}));refine gG ?_;exact ⟨(i+1,uss++[[u0,u1,u2,u3,u4,u5,u6,u7]],fun b=>E b∨E2 b),⟨hlt,by simp [hn]⟩,gw,gw,om⟩
 ·obtain rfl:i=rows.length:=by omega
  have q1:=lF rows.length rows.length;rw [Nat.sub_self,List.replicate_zero,List.append_nil,Tap];refine fG @q1 ?_;refine pS 2 fun a cap=>?_;refine pE [2,1000] [1000] (Zbi (fun w h=>h) (Own.stable _ _ _)) ?_;exact (have F:=e0P;gTP (R:=Za7 rows) [1000] ⟨.slice a uss.length cap,_,rfl,rfl,rfl⟩)
theorem Zgw (hok:Zao (Zac .occ) row) (h0:0<=left) (h1:left<=1048576):Con e0 60 [.agg row,.one (.lit (.int .i64 left))] [.one (.lit (.int .i64 (sub left (bulkRow row))))]:=by
 obtain ⟨r0,r1,r2,r3,rfl,g0,g1,g2,g3⟩:=Zcr hok;rw [show bulkRow [.sl r0,.sl r1,.sl r2,.sl r3]=(r0.length+bulkRows r0)+(r1.length+bulkRows r1)+(r2.length+bulkRows r2)+(r3.length+bulkRows r3) by simp only [bulkRow,ZaT];omega];refine gI 272696343 Try.func60 ?_;refine fB @e0P ?_;refine fC @e0P (Zl6 g0 (left:=left) om om) ?_;refine fR @e0P ?_;by_cases q:left < (((r0.length+bulkRows r0):Nat):Int)
 ·rw [ZaH (b:=(r0.length+bulkRows r0)) q]
  try rw [ZaH om]
  have q':=lT (-1) 0;exact fT @q'
 rw [ZaX (b:=(r0.length+bulkRows r0)) om];have q':(left - (((r0.length+bulkRows r0):Nat):Int) < 0)=False:=eq_false om;refine fG @q' ?_;obtain ⟨L0,e0⟩:∃ x,x=left - (((r0.length+bulkRows r0):Nat):Int):=⟨_,rfl⟩;rw [<- e0];clear q';refine fB @e0P ?_;refine fC @e0P (Zgf g1 (left:=L0) om om) ?_;refine fR @e0P ?_;by_cases q:L0 < (((r1.length+bulkRows r1):Nat):Int)
 ·rw [ZaH (b:=(r1.length+bulkRows r1)) q]
  try rw [ZaH om]
  have q':=lT (-1) 0;exact fT @q'
 rw [ZaX (b:=(r1.length+bulkRows r1)) om];have q':(L0 - (((r1.length+bulkRows r1):Nat):Int) < 0)=False:=eq_false om;refine fG @q' ?_;obtain ⟨L1,e1⟩:∃ x,x=L0 - (((r1.length+bulkRows r1):Nat):Int):=⟨_,rfl⟩;rw [<- e1];clear q';refine fB @e0P ?_;refine fC @e0P (Zgf g2 (left:=L1) om om) ?_;refine fR @e0P ?_;by_cases q:L1 < (((r2.length+bulkRows r2):Nat):Int)
 ·rw [ZaH (b:=(r2.length+bulkRows r2)) q]
  try rw [ZaH om]
  have q':=lT (-1) 0;exact fT @q'
 rw [ZaX (b:=(r2.length+bulkRows r2)) om];have q':(L1 - (((r2.length+bulkRows r2):Nat):Int) < 0)=False:=eq_false om;refine fG @q' ?_;obtain ⟨L2,e2⟩:∃ x,x=L1 - (((r2.length+bulkRows r2):Nat):Int):=⟨_,rfl⟩;rw [<- e2];clear q';refine fB @e0P ?_;refine fC @e0P (Zhy g3 (left:=L2) om om) ?_;refine fR @e0P ?_;by_cases q:L2 < (((r3.length+bulkRows r3):Nat):Int)
 ·rw [ZaH (b:=(r3.length+bulkRows r3)) q]
  try rw [ZaH om]
  have q':=lT (-1) 0;exact fT @q'
 rw [ZaX (b:=(r3.length+bulkRows r3)) om];have q':(L2 - (((r3.length+bulkRows r3):Nat):Int) < 0)=False:=eq_false om;refine fG @q' ?_;obtain ⟨L3,e3⟩:∃ x,x=L2 - (((r3.length+bulkRows r3):Nat):Int):=⟨_,rfl⟩;rw [<- e3];clear q'
 try rw [ZaX om,show left - (((r0.length+bulkRows r0)+(r1.length+bulkRows r1)+(r2.length+bulkRows r2)+(r3.length+bulkRows r3):Nat):Int)=L3 by omega]
 exact fT @e0P
theorem Zgx (hok:Zao (Zac .occ) row):Con e0 64 [.agg row,.agg row] [.one (.lit (.bool true))]:=by
 obtain ⟨r0,r1,r2,r3,rfl,g0,g1,g2,g3⟩:=Zcr hok;refine gI 272696351 Try.func64 ?_;refine fB (@beq_self_eq_true.{0}) ?_;refine fC @e0P (Zl7 g0) ?_;refine fR @e0P ?_;refine fB (@beq_self_eq_true.{0}) ?_;refine fC @e0P (Zgg g1) ?_;refine fR @e0P ?_;refine fB (@beq_self_eq_true.{0}) ?_;refine fC @e0P (Zgg g2) ?_;refine fR @e0P ?_;refine fB (@beq_self_eq_true.{0}) ?_;refine fC @e0P (Zhz g3) ?_;refine fR @e0P ?_
 exact fT (@beq_self_eq_true.{0})
theorem ZfW (hok:Zao (Zac .occ) row) (hb:bulkRow row<=1048576):ConP e0 61 [.agg row] [] (Zbc row):=by
 obtain ⟨r0,r1,r2,r3,rfl,g0,g1,g2,g3⟩:=Zcr hok;simp only [bulkRow,ZaT] at hb;refine gIP (ts:=[.cell 2 72]) [] 15 Try.func61 ?_;refine fB @e0P ?_;have F:=@e0P;refine gCP [] [1000] (ZjT g0 om) ?_;clear F;rintro r pm ⟨u0,E0,rfl,k0,rfl⟩;simp only [setA,retA,zipM,Taf,Tah];refine fR @k0 ?_;refine fB @e0P ?_;have F:=@e0P;refine gCP [] [1001] (ZfH g1 om) ?_;clear F;rintro r pm ⟨u1,E1,rfl,k1,rfl⟩;simp only [setA,retA,zipM,Taf,Tah]
 refine fR @k1 ?_;refine fB @e0P ?_;have F:=@e0P;refine gCP [] [1002] (ZfH g2 om) ?_;clear F;rintro r pm ⟨u2,E2,rfl,k2,rfl⟩;simp only [setA,retA,zipM,Taf,Tah];refine fR @k2 ?_;refine fB @e0P ?_;have F:=@e0P;refine gCP [] [1003] (Zhb g3 om) ?_;clear F;rintro r pm ⟨u3,E3,rfl,k3,rfl⟩;simp only [setA,retA,zipM,Taf,Tah];refine fR @k3 ?_;refine fG (aj4 @k0 @k1 @k2 @k3) ?_;obtain ⟨E,hre⟩:∃ E,Za1 [.set E0 (fun w=>Own w (.sl r0) E0 u0),.set E1 (fun w=>Own w (.sl r1) E1 u1),.set E2 (fun w=>Own w (.sl r2) E2 u2),.set E3 (fun w=>Own w (.sl r3) E3 u3)] [.set E (fun w=>Zae w [.sl r0,.sl r1,.sl r2,.sl r3] E [u0,u1,u2,u3])]:=⟨_,ZcU [.sl E0 r0 u0,.sl E1 r1 u1,.sl E2 r2 u2,.sl E3 r3 u3]⟩
 refine pE [1000,1001,1002,1003] [1000] hre ?_;have hm:=Zbc.mk (row:=[.sl r0,.sl r1,.sl r2,.sl r3]) (us:=[u0,u1,u2,u3]) (E:=E) rfl (by simp only [Zaf,Tbl,List.map_nil,List.all_cons,List.all_nil,Bool.and_true,Tar];exact ⟨k0,k1,k2,k3⟩);exact (have F:=e0P;gTP (R:=Zbc [.sl r0,.sl r1,.sl r2,.sl r3]) [1000] hm)
theorem ZeP (hok:Zao (Zac .chain) row) (HLink:∀ (rows:List (List C)),Zat rows < Zay row->Zak (Zac .link) rows->∀ {left:Int},0<=left->left<=1048576->Con e0 22 [.one (.sl rows),.one (.lit (.int .i64 left))] [.one (.lit (.int .i64 (sub left (rows.length+bulkRows rows))))]) (h0:0<=left) (h1:left<=1048576):Con e0 5 [.agg row,.one (.lit (.int .i64 left))] [.one (.lit (.int .i64 (sub left (bulkRow row))))]:=by
 obtain ⟨i0,t1,i2,r3,i4,t5,i6,r7,r8,rfl,g0,g1,g2,g3,g4,g5,g6,g7,g8⟩:=ZbQ hok;rw [show bulkRow [.lit (.int .i64 i0),.lit (.string t1),.lit (.int .i64 i2),.sl r3,.lit (.int .i64 i4),.lit (.string t5),.lit (.int .i64 i6),.sl r7,.sl r8]=bulkRow [.lit (.int .i64 i0),.lit (.string t1),.lit (.int .i64 i2),.sl r3]+bulkRow [.lit (.int .i64 i4),.lit (.string t5),.lit (.int .i64 i6),.sl r7]+(r8.length+bulkRows r8) by simp only [bulkRow,ZaT];omega]
 refine gI 4260887 Try.func5 ?_;refine fB @e0P ?_;refine fC @e0P (ZdQ (Za5 g0 g1 g2 g3) (left:=left) om om) ?_;refine fR @e0P ?_;by_cases q:left < ((bulkRow [.lit (.int .i64 i0),.lit (.string t1),.lit (.int .i64 i2),.sl r3]:Nat):Int)
 ·rw [ZaH (b:=bulkRow [.lit (.int .i64 i0),.lit (.string t1),.lit (.int .i64 i2),.sl r3]) q]
  try rw [ZaH om]
  have q':=lT (-1) 0;exact fT @q'
 rw [ZaX (b:=bulkRow [.lit (.int .i64 i0),.lit (.string t1),.lit (.int .i64 i2),.sl r3]) om];have q':(left - ((bulkRow [.lit (.int .i64 i0),.lit (.string t1),.lit (.int .i64 i2),.sl r3]:Nat):Int) < 0)=False:=eq_false om;refine fG @q' ?_;obtain ⟨L0,e0⟩:∃ x,x=left - ((bulkRow [.lit (.int .i64 i0),.lit (.string t1),.lit (.int .i64 i2),.sl r3]:Nat):Int):=⟨_,rfl⟩;rw [<- e0];clear q';refine fB @e0P ?_;refine fC @e0P (ZdQ (Za5 g4 g5 g6 g7) (left:=L0) om om) ?_
 refine fR @e0P ?_;by_cases q:L0 < ((bulkRow [.lit (.int .i64 i4),.lit (.string t5),.lit (.int .i64 i6),.sl r7]:Nat):Int)
 ·rw [ZaH (b:=bulkRow [.lit (.int .i64 i4),.lit (.string t5),.lit (.int .i64 i6),.sl r7]) q]
  try rw [ZaH om]
  have q':=lT (-1) 0;exact fT @q'
 rw [ZaX (b:=bulkRow [.lit (.int .i64 i4),.lit (.string t5),.lit (.int .i64 i6),.sl r7]) om];have q':(L0 - ((bulkRow [.lit (.int .i64 i4),.lit (.string t5),.lit (.int .i64 i6),.sl r7]:Nat):Int) < 0)=False:=eq_false om;refine fG @q' ?_;obtain ⟨L1,e1⟩:∃ x,x=L0 - ((bulkRow [.lit (.int .i64 i4),.lit (.string t5),.lit (.int .i64 i6),.sl r7]:Nat):Int):=⟨_,rfl⟩;rw [<- e1];clear q';refine fB @e0P ?_;refine fC @e0P (HLink r8 (by simp only [Zay,Zbg];omega) g8 (left:=L1) om om) ?_
 refine fR @e0P ?_;by_cases q:L1 < (((r8.length+bulkRows r8):Nat):Int)
 ·rw [ZaH (b:=(r8.length+bulkRows r8)) q]
  try rw [ZaH om]
  have q':=lT (-1) 0;exact fT @q'
 rw [ZaX (b:=(r8.length+bulkRows r8)) om];have q':(L1 - (((r8.length+bulkRows r8):Nat):Int) < 0)=False:=eq_false om;refine fG @q' ?_;obtain ⟨L2,e2⟩:∃ x,x=L1 - (((r8.length+bulkRows r8):Nat):Int):=⟨_,rfl⟩;rw [<- e2];clear q'
 try rw [ZaX om,show left - ((bulkRow [.lit (.int .i64 i0),.lit (.string t1),.lit (.int .i64 i2),.sl r3]+bulkRow [.lit (.int .i64 i4),.lit (.string t5),.lit (.int .i64 i6),.sl r7]+(r8.length+bulkRows r8):Nat):Int)=L2 by omega]
 exact fT @e0P
theorem ZeQ (hok:Zao (Zac .chain) row) (HLink:∀ (rows:List (List C)),Zat rows < Zay row->Zak (Zac .link) rows->Con e0 32 [.one (.sl rows),.one (.sl rows)] [.one (.lit (.bool true))]):Con e0 9 [.agg row,.agg row] [.one (.lit (.bool true))]:=by
 obtain ⟨i0,t1,i2,r3,i4,t5,i6,r7,r8,rfl,g0,g1,g2,g3,g4,g5,g6,g7,g8⟩:=ZbQ hok;refine gI 4260895 Try.func9 ?_;refine fB (@beq_self_eq_true.{0}) ?_;refine fC @e0P (ZdR (Za5 g0 g1 g2 g3)) ?_;refine fR @e0P ?_;refine fB (@beq_self_eq_true.{0}) ?_;refine fC @e0P (ZdR (Za5 g4 g5 g6 g7)) ?_;refine fR @e0P ?_;refine fB (@beq_self_eq_true.{0}) ?_;refine fC @e0P (HLink r8 (by simp only [Zay,Zbg];omega) g8) ?_
 refine fR @e0P ?_;exact fT (@beq_self_eq_true.{0})
theorem Zep (hok:Zao (Zac .chain) row) (HLink:∀ (rows:List (List C)),Zat rows < Zay row->Zak (Zac .link) rows->rows.length+bulkRows rows<=1048576->ConP e0 27 [.one (.sl rows)] [] (Za7 rows)) (hb:bulkRow row<=1048576):ConP e0 7 [.agg row] [] (Zbc row):=by
 obtain ⟨i0,t1,i2,r3,i4,t5,i6,r7,r8,rfl,g0,g1,g2,g3,g4,g5,g6,g7,g8⟩:=ZbQ hok;simp only [bulkRow,ZaT] at hb;refine gIP (ts:=[.cell 2 34]) [] 15 Try.func7 ?_;refine fB @e0P ?_;have F:=@e0P;refine gCP [] [1000] (Zdt (Za5 g0 g1 g2 g3) (by simp only [bulkRow,ZaT];omega)) ?_;clear F;rintro r pm ⟨us,E0,rfl,hu,hc,rfl⟩;obtain ⟨u0,u1,u2,u3,rfl⟩:=len4 hu;have hc:Zal (.lit u0)=true∧Zal (.lit u1)=true∧Zal (.lit u2)=true∧Zal (.lit u3)=true:=by simpa [Zaf,Tar,and_assoc] using hc
 obtain ⟨k0,k1,k2,k3⟩:=hc;have lr0:Zaf [u0,u1,u2,u3]=[.lit u0,.lit u1,.lit u2,.lit u3]:=rfl;rw [lr0];simp only [setA,retA,zipM,Taf,Tah];refine fR (aj4 @k0 @k1 @k2 @k3) ?_;refine fB @e0P ?_;have F:=@e0P;refine gCP [] [1001] (Zdt (Za5 g4 g5 g6 g7) (by simp only [bulkRow,ZaT];omega)) ?_;clear F;rintro r pm ⟨us,E4,rfl,hu,hc,rfl⟩;obtain ⟨u4,u5,u6,u7,rfl⟩:=len4 hu;have hc:Zal (.lit u4)=true∧Zal (.lit u5)=true∧Zal (.lit u6)=true∧Zal (.lit u7)=true:=by simpa [Zaf,Tar,and_assoc] using hc
 obtain ⟨k4,k5,k6,k7⟩:=hc;have lr4:Zaf [u4,u5,u6,u7]=[.lit u4,.lit u5,.lit u6,.lit u7]:=rfl;rw [lr4];simp only [setA,retA,zipM,Taf,Tah];refine fR (aj4 @k4 @k5 @k6 @k7) ?_;refine fB @e0P ?_;have F:=@e0P;refine gCP [] [1002] (HLink r8 (by simp only [Zay,Zbg];omega) g8 om) ?_;clear F;rintro r pm ⟨u8,E8,rfl,k8,rfl⟩;simp only [setA,retA,zipM,Taf,Tah];refine fR @k8 ?_;refine fG (aj9 @k8 @k0 @k1 @k2 @k3 @k4 @k5 @k6 @k7) ?_
 obtain ⟨E,hre⟩:∃ E,Za1 [.set E0 (fun w=>Zae w [.lit (.int .i64 i0),.lit (.string t1),.lit (.int .i64 i2),.sl r3] E0 [u0,u1,u2,u3]),.set E4 (fun w=>Zae w [.lit (.int .i64 i4),.lit (.string t5),.lit (.int .i64 i6),.sl r7] E4 [u4,u5,u6,u7]),.set E8 (fun w=>Own w (.sl r8) E8 u8)] [.set E (fun w=>Zae w [.lit (.int .i64 i0),.lit (.string t1),.lit (.int .i64 i2),.sl r3,.lit (.int .i64 i4),.lit (.string t5),.lit (.int .i64 i6),.sl r7,.sl r8] E [u0,u1,u2,u3,u4,u5,u6,u7,u8])]:=⟨_,ZcU [.st E0 [.lit (.int .i64 i0),.lit (.string t1),.lit (.int .i64 i2),.sl r3] [u0,u1,u2,u3],.st E4 [.lit (.int .i64 i4),.lit (.string t5),.lit (.int .i64 i6),.sl r7] [u4,u5,u6,u7],.sl E8 r8 u8]⟩
 refine pE [1000,1001,1002] [1000] hre ?_;have hm:=Zbc.mk (row:=[.lit (.int .i64 i0),.lit (.string t1),.lit (.int .i64 i2),.sl r3,.lit (.int .i64 i4),.lit (.string t5),.lit (.int .i64 i6),.sl r7,.sl r8]) (us:=[u0,u1,u2,u3,u4,u5,u6,u7,u8]) (E:=E) rfl (by simp only [Zaf,Tbl,List.map_nil,List.all_cons,List.all_nil,Bool.and_true,Tar];exact ⟨k0,k1,k2,k3,k4,k5,k6,k7,k8⟩);exact (have F:=e0P;gTP (R:=Zbc [.lit (.int .i64 i0),.lit (.string t1),.lit (.int .i64 i2),.sl r3,.lit (.int .i64 i4),.lit (.string t5),.lit (.int .i64 i6),.sl r7,.sl r8]) [1000] hm)
theorem Zik (hok:Zao (Zac .link) row) (HChain:∀ (rows:List (List C)),Zat rows < Zay row->Zak (Zac .chain) rows->∀ {left:Int},0<=left->left<=1048576->Con e0 65 [.one (.sl rows),.one (.lit (.int .i64 left))] [.one (.lit (.int .i64 (sub left (rows.length+bulkRows rows))))]) (h0:0<=left) (h1:left<=1048576):Con e0 47 [.agg row,.one (.lit (.int .i64 left))] [.one (.lit (.int .i64 (sub left (bulkRow row))))]:=by
 obtain ⟨i0,r1,r2,r3,r4,r5,rfl,g0,g1,g2,g3,g4,g5⟩:=ZcV hok;rw [show bulkRow [.lit (.int .i64 i0),.sl r1,.sl r2,.sl r3,.sl r4,.sl r5]=bulkRow [.sl r1,.sl r2,.sl r3,.sl r4]+(r5.length+bulkRows r5) by simp only [bulkRow,ZaT];omega];refine gI 66583 Try.func47 ?_;refine fB @e0P ?_;refine fC @e0P (Zgw (Zcs g1 g2 g3 g4) (left:=left) om om) ?_;refine fR @e0P ?_;by_cases q:left < ((bulkRow [.sl r1,.sl r2,.sl r3,.sl r4]:Nat):Int)
 ·rw [ZaH (b:=bulkRow [.sl r1,.sl r2,.sl r3,.sl r4]) q]
  try rw [ZaH om]
  have q':=lT (-1) 0;exact fT @q'
 rw [ZaX (b:=bulkRow [.sl r1,.sl r2,.sl r3,.sl r4]) om];have q':(left - ((bulkRow [.sl r1,.sl r2,.sl r3,.sl r4]:Nat):Int) < 0)=False:=eq_false om;refine fG @q' ?_;obtain ⟨L0,e0⟩:∃ x,x=left - ((bulkRow [.sl r1,.sl r2,.sl r3,.sl r4]:Nat):Int):=⟨_,rfl⟩;rw [<- e0];clear q';refine fB @e0P ?_;refine fC @e0P (HChain r5 (by simp only [Zay,Zbg];omega) g5 (left:=L0) om om) ?_;refine fR @e0P ?_;by_cases q:L0 < (((r5.length+bulkRows r5):Nat):Int)
 ·rw [ZaH (b:=(r5.length+bulkRows r5)) q]
  try rw [ZaH om]
  have q':=lT (-1) 0;exact fT @q'
 rw [ZaX (b:=(r5.length+bulkRows r5)) om];have q':(L0 - (((r5.length+bulkRows r5):Nat):Int) < 0)=False:=eq_false om;refine fG @q' ?_;obtain ⟨L1,e1⟩:∃ x,x=L0 - (((r5.length+bulkRows r5):Nat):Int):=⟨_,rfl⟩;rw [<- e1];clear q'
 try rw [ZaX om,show left - ((bulkRow [.sl r1,.sl r2,.sl r3,.sl r4]+(r5.length+bulkRows r5):Nat):Int)=L1 by omega]
 exact fT @e0P
theorem Zil (hok:Zao (Zac .link) row) (HChain:∀ (rows:List (List C)),Zat rows < Zay row->Zak (Zac .chain) rows->Con e0 74 [.one (.sl rows),.one (.sl rows)] [.one (.lit (.bool true))]):Con e0 55 [.agg row,.agg row] [.one (.lit (.bool true))]:=by
 obtain ⟨i0,r1,r2,r3,r4,r5,rfl,g0,g1,g2,g3,g4,g5⟩:=ZcV hok;refine gI 2130463 Try.func55 ?_;refine fB (@beq_self_eq_true.{0}) ?_;refine fC @e0P (Zgx (Zcs g1 g2 g3 g4)) ?_;refine fR @e0P ?_;refine fB (@beq_self_eq_true.{0}) ?_;refine fC @e0P (HChain r5 (by simp only [Zay,Zbg];omega) g5) ?_;refine fR @e0P ?_;exact fT (@beq_self_eq_true.{0})
theorem ZhA (hok:Zao (Zac .link) row) (HChain:∀ (rows:List (List C)),Zat rows < Zay row->Zak (Zac .chain) rows->rows.length+bulkRows rows<=1048576->ConP e0 67 [.one (.sl rows)] [] (Za7 rows)) (hb:bulkRow row<=1048576):ConP e0 51 [.agg row] [] (Zbc row):=by
 obtain ⟨i0,r1,r2,r3,r4,r5,rfl,g0,g1,g2,g3,g4,g5⟩:=ZcV hok;simp only [bulkRow,ZaT] at hb;refine gIP (ts:=[.cell 2 89]) [] 15 Try.func51 ?_;refine fB @e0P ?_;have F:=@e0P;refine gCP [] [1000] (ZfW (Zcs g1 g2 g3 g4) (by simp only [bulkRow,ZaT];omega)) ?_;clear F;rintro r pm ⟨us,E1,rfl,hu,hc,rfl⟩;obtain ⟨u1,u2,u3,u4,rfl⟩:=len4 hu;have hc:Zal (.lit u1)=true∧Zal (.lit u2)=true∧Zal (.lit u3)=true∧Zal (.lit u4)=true:=by simpa [Zaf,Tar,and_assoc] using hc
 obtain ⟨k1,k2,k3,k4⟩:=hc;have lr1:Zaf [u1,u2,u3,u4]=[.lit u1,.lit u2,.lit u3,.lit u4]:=rfl;rw [lr1];simp only [setA,retA,zipM,Taf,Tah];refine fR (aj4 @k1 @k2 @k3 @k4) ?_;refine fB @e0P ?_;have F:=@e0P;refine gCP [] [1001] (HChain r5 (by simp only [Zay,Zbg];omega) g5 om) ?_;clear F;rintro r pm ⟨u5,E5,rfl,k5,rfl⟩;simp only [setA,retA,zipM,Taf,Tah];refine fR @k5 ?_;refine fG (aj5 @k5 @k1 @k2 @k3 @k4) ?_
 obtain ⟨E,hre⟩:∃ E,Za1 [.set E1 (fun w=>Zae w [.sl r1,.sl r2,.sl r3,.sl r4] E1 [u1,u2,u3,u4]),.set E5 (fun w=>Own w (.sl r5) E5 u5)] [.set E (fun w=>Zae w [.lit (.int .i64 i0),.sl r1,.sl r2,.sl r3,.sl r4,.sl r5] E [.int .i64 i0,u1,u2,u3,u4,u5])]:=⟨_,ZcU [.lits [.int .i64 i0],.st E1 [.sl r1,.sl r2,.sl r3,.sl r4] [u1,u2,u3,u4],.sl E5 r5 u5]⟩;refine pE [1000,1001] [1000] hre ?_;have hm:=Zbc.mk (row:=[.lit (.int .i64 i0),.sl r1,.sl r2,.sl r3,.sl r4,.sl r5]) (us:=[.int .i64 i0,u1,u2,u3,u4,u5]) (E:=E) rfl (by simp only [Zaf,Tbl,List.map_nil,List.all_cons,List.all_nil,Bool.and_true,Tar];exact ⟨rfl,k1,k2,k3,k4,k5⟩)
 exact (have F:=e0P;gTP (R:=Zbc [.lit (.int .i64 i0),.sl r1,.sl r2,.sl r3,.sl r4,.sl r5]) [1000] hm)
theorem Zhc (hok:Zak (Zac .chain) rows) (h:∀ (i:Nat) r,rows[i]?=some r->∀ {left:Int},0<=left->left<=1048576->Con e0 5 [.agg r,.one (.lit (.int .i64 left))] [.one (.lit (.int .i64 (sub left (bulkRow r))))]) (h0:0<=left) (h1:left<=1048576):Con e0 65 [.one (.sl rows),.one (.lit (.int .i64 left))] [.one (.lit (.int .i64 (sub left (rows.length+bulkRows rows))))]:=by
 refine ZcD (by kernel_rfl) fun hm=>?_;unfold maxLen at hm;have w:IntKind.i64.wrap (left - (rows.length:Int))=left - (rows.length:Int):=IntWalk.i64_in _ om;have hrb:ZaC 9 rows=true:=ZaW.2 hok.rowsLen;refine gI 33589299 Try.func65 ?_;by_cases q:left < (rows.length:Int)
 ·rw [ZaH om];have q':(left - (rows.length:Int) < 0)=True:=eq_true om;exact fT (ai @w @q')
 have q':(left - (rows.length:Int) < 0)=False:=eq_false om;refine fG (ai @w @q') ?_;have F:=aj4 @tk0 @Zd7 @Int.natCast_zero @Int.sub_zero;refine gL (ι:=Nat) [1,4,5,15,25] [] (fun x=>[(5,.d (.one (.lit (.int .i64 (x:Int))))),(1,.d (.one (.lit (.int .i64 (left - (rows.length:Int) - (bulkRows (rows.take x):Int))))))]) (fun x=>[]) (fun x=>x<=rows.length∧0<=left - (rows.length:Int) - (bulkRows (rows.take x):Int)) (fun x=>rows.length - x) (0) (⟨Taj _,by simp [bulkRows];omega⟩) (fun x hx=>?_);clear F
 obtain ⟨hx,hl⟩:=hx;by_cases hlt:x < rows.length
 ·obtain ⟨r,hr⟩:∃ r,rows[x]?=some r:=⟨_,Taa hlt⟩;have hq:=hok.get hr;obtain ⟨ln,tk,dr⟩:=hq.take (n:=9) rfl;have okc:=hq.cells;have q1:=lT x rows.length;have wi:=Zbu (k:=x) om;have hbt:=Zdu hr;have hbl:=ZcL rows (x+1)
  skip
  have fe:=aj10 hr hlt Zbs hrb q1 okc ln tk dr (@Zaz C);obtain ⟨l,hle⟩:∃ l,l=left - (rows.length:Int) - (bulkRows (rows.take x):Int):=⟨_,rfl⟩;rw [<- hle];refine fB @fe ?_;refine fC @fe (h x _ hr (left:=l) om om) ?_;refine fR @fe ?_;by_cases q:l < ((bulkRow r:Nat):Int)
  ·rw [ZaH (b:=bulkRow r) q,ZaH om];have q':=lT (-1) 0;exact fT @q'
  rw [ZaX (b:=bulkRow r) om];have q':(l - ((bulkRow r:Nat):Int) < 0)=False:=eq_false om;have e:left - (rows.length:Int) - (bulkRows (rows.take (x+1)):Int)=l - ((bulkRow r:Nat):Int):=om;have F:=aj3 @q' @wi @e;refine gG ?_;exact ⟨x+1,⟨hlt,om⟩,gw,gw,om⟩
 ·obtain rfl:x=rows.length:=by omega
  have q1:=lF rows.length rows.length;rw [Tap] at hl ⊢;rw [ZaX om,show left - ((rows.length+bulkRows rows:Nat):Int)=left - (rows.length:Int) - (bulkRows rows:Int) by omega];exact fT @q1
theorem Zhd (hok:Zak (Zac .chain) rows) (h:∀ (i:Nat) r,rows[i]?=some r->Con e0 9 [.agg r,.agg r] [.one (.lit (.bool true))]):Con e0 74 [.one (.sl rows),.one (.sl rows)] [.one (.lit (.bool true))]:=by
 refine ZcD (by kernel_rfl) fun hm=>?_;unfold maxLen at hm;have hrb:ZaC 9 rows=true:=ZaW.2 hok.rowsLen;refine gI 67126323 Try.func74 ?_;refine fG (@beq_self_eq_true.{0}) ?_;have F:=@e0P;refine gL (ι:=Nat) [4,5,14,26] [] (fun x=>[(5,.d (.one (.lit (.int .i64 (x:Int)))))]) (fun x=>[]) (fun x=>x<=rows.length) (fun x=>rows.length - x) (0) (Taj _) (fun x hx=>?_);clear F;by_cases hlt:x < rows.length
 ·obtain ⟨r,hr⟩:∃ r,rows[x]?=some r:=⟨_,Taa hlt⟩;have hq:=hok.get hr;obtain ⟨ln,tk,dr⟩:=hq.take (n:=9) rfl;have okc:=hq.cells;have q1:=lT x rows.length;have wi:=Zbu (k:=x) om;have fe:=aj10 hr hlt Zbs hrb q1 okc ln tk dr (@Zaz C);refine fB @fe ?_;refine fC @fe (h x _ hr) ?_;refine fR @fe ?_;have F:=@wi;refine gG ?_;exact ⟨x+1,hlt,gw,gw,om⟩
 ·obtain rfl:x=rows.length:=by omega
  have q1:=lF rows.length rows.length;exact fT @q1
theorem Zgy (hok:Zak (Zac .chain) rows) (h:∀ (i:Nat) r,rows[i]?=some r->bulkRow r<=1048576->ConP e0 7 [.agg r] [] (Zbc r)) (hb:rows.length+bulkRows rows<=1048576):ConP e0 67 [.one (.sl rows)] [] (Za7 rows):=by
 have hrb:ZaC 9 rows=true:=ZaW.2 hok.rowsLen;have hmx:((rows.length:Int)<=(maxApp:Int))=True:=eq_true (by unfold maxApp;omega);refine gIP (ts:=[.slot 2]) [] 2077 Try.func67 ?_;refine fG (ai @hmx @Tbn) ?_;refine pE [] [1000] ZbK ?_;have F:=aj3 @nla @Nat.sub_zero @tk0;refine gL (ι:=Nat × List (List Value) × (Nat->Prop)) [3,4,11] [3,1000] (fun x=>[(4,.d (.one (.lit (.int .i64 (x.1:Int))))),(3,.buf 3)]) (fun x=>[(3,.buf none 34 9 (x.2.1.map Zaf++List.replicate (rows.length - x.1) [C.lit (.int .i64 0),C.lit (.string .empty),C.lit (.int .i64 0),C.sl [],C.lit (.int .i64 0),C.lit (.string .empty),C.lit (.int .i64 0),C.sl [],C.sl []])),(1000,.set x.2.2 (fun w=>Zan w (rows.take x.1) x.2.2 x.2.1))]) (fun x=>x.1<=rows.length∧x.2.1.length=x.1) (fun x=>rows.length - x.1) ((0,[],fun _=>False)) (⟨Taj _,rfl⟩) (fun x hx=>?_);clear F
 obtain ⟨i,uss,E⟩:=x;obtain ⟨hi,hn⟩:=hx;simp only at hi hn;dsimp only;by_cases hlt:i < rows.length
 ·obtain ⟨r,hr⟩:∃ r,rows[i]?=some r:=⟨_,Taa hlt⟩;have hq:=hok.get hr;obtain ⟨ln,tk,dr⟩:=hq.take (n:=9) rfl;have okc:=hq.cells;have q1:=lT i rows.length;have wi:=Zbu (k:=i) om;have fe:=aj10 hr hlt Zbs hrb q1 okc ln tk dr (@Zaz C);obtain ⟨k,hk⟩:∃ k,rows.length - i=k+1:=⟨rows.length - i - 1,om⟩;have hk2:rows.length - (i+1)=k:=om;rw [hk];have bl:(uss.map Zaf++List.replicate (k+1) [C.lit (.int .i64 0),C.lit (.string .empty),C.lit (.int .i64 0),C.sl [],C.lit (.int .i64 0),C.lit (.string .empty),C.lit (.int .i64 0),C.sl [],C.sl []]).length=rows.length:=by simp;omega
  have bs:∀ X,(uss.map Zaf++List.replicate (k+1) [C.lit (.int .i64 0),C.lit (.string .empty),C.lit (.int .i64 0),C.sl [],C.lit (.int .i64 0),C.lit (.string .empty),C.lit (.int .i64 0),C.sl [],C.sl []]).set i X=(uss.map Zaf++[X])++List.replicate k [C.lit (.int .i64 0),C.lit (.string .empty),C.lit (.int .i64 0),C.sl [],C.lit (.int .i64 0),C.lit (.string .empty),C.lit (.int .i64 0),C.sl [],C.sl []]:=fun X=>ZeK _ _ _ _ _ (by simp [hn])
  have bg:(uss.map Zaf++List.replicate (k+1) [C.lit (.int .i64 0),C.lit (.string .empty),C.lit (.int .i64 0),C.sl [],C.lit (.int .i64 0),C.lit (.string .empty),C.lit (.int .i64 0),C.sl [],C.sl []])[i]?=some [C.lit (.int .i64 0),C.lit (.string .empty),C.lit (.int .i64 0),C.sl [],C.lit (.int .i64 0),C.lit (.string .empty),C.lit (.int .i64 0),C.sl [],C.sl []]:=by rw [Tbj (by simp;omega),Tbk,if_pos (by simp;omega)]
  have hbr:=Za4 hr;refine fB (ai @fe @bl) ?_;have F:=ai @fe @bl;refine gCP [] [1001] (h i _ hr om) ?_;clear F;rintro r' pm ⟨us,E2,rfl,hu,hok2,rfl⟩;rw [ln] at hu;obtain ⟨u0,u1,u2,u3,u4,u5,u6,u7,u8,rfl⟩:=len9 hu;have hok2:Zal (.lit u0)=true∧Zal (.lit u1)=true∧Zal (.lit u2)=true∧Zal (.lit u3)=true∧Zal (.lit u4)=true∧Zal (.lit u5)=true∧Zal (.lit u6)=true∧Zal (.lit u7)=true∧Zal (.lit u8)=true:=by simpa [Zaf,Tar,and_assoc] using hok2
  obtain ⟨k0,k1,k2,k3,k4,k5,k6,k7,k8⟩:=hok2;have lr:Zaf [u0,u1,u2,u3,u4,u5,u6,u7,u8]=[.lit u0,.lit u1,.lit u2,.lit u3,.lit u4,.lit u5,.lit u6,.lit u7,.lit u8]:=rfl;rw [lr];simp only [setA,retA,zipM,Taf,Tah];refine fR (aj13 @hlt @bl @bs @bg @k0 @k1 @k2 @k3 @k4 @k5 @k6 @k7 @k8) ?_;refine pE [1000,1001] [1000] (Zc3 (G':=fun w=>Zan w (rows.take (i+1)) (fun b=>E b∨E2 b) (uss++[[u0,u1,u2,u3,u4,u5,u6,u7,u8]])) (fun w h1 h2 hd=>?_) (Zan.stable _ _ _)) ?_
  ·rw [tks hr];exact Zan.snoc h1 h2 (fun _ h=>.inl h) (fun _ h=>.inr h) hd
  have F:=aj5 @bs @wi @hk2 @lr ((@Tbm.{0,0}));refine gG ?_;exact ⟨(i+1,uss++[[u0,u1,u2,u3,u4,u5,u6,u7,u8]],fun b=>E b∨E2 b),⟨hlt,by simp [hn]⟩,gw,gw,om⟩
 ·obtain rfl:i=rows.length:=by omega
  have q1:=lF rows.length rows.length;rw [Nat.sub_self,List.replicate_zero,List.append_nil,Tap];refine fG @q1 ?_;refine pS 2 fun a cap=>?_;refine pE [2,1000] [1000] (Zbi (fun w h=>h) (Own.stable _ _ _)) ?_;exact (have F:=e0P;gTP (R:=Za7 rows) [1000] ⟨.slice a uss.length cap,_,rfl,rfl,rfl⟩)
theorem ZhB (hok:Zak (Zac .link) rows) (h:∀ (i:Nat) r,rows[i]?=some r->∀ {left:Int},0<=left->left<=1048576->Con e0 47 [.agg r,.one (.lit (.int .i64 left))] [.one (.lit (.int .i64 (sub left (bulkRow r))))]) (h0:0<=left) (h1:left<=1048576):Con e0 22 [.one (.sl rows),.one (.lit (.int .i64 left))] [.one (.lit (.int .i64 (sub left (rows.length+bulkRows rows))))]:=by
 refine ZcD (by kernel_rfl) fun hm=>?_;unfold maxLen at hm;have w:IntKind.i64.wrap (left - (rows.length:Int))=left - (rows.length:Int):=IntWalk.i64_in _ om;have hrb:ZaC 6 rows=true:=ZaW.2 hok.rowsLen;refine gI 33589299 Try.func22 ?_;by_cases q:left < (rows.length:Int)
 ·rw [ZaH om];have q':(left - (rows.length:Int) < 0)=True:=eq_true om;exact fT (ai @w @q')
 have q':(left - (rows.length:Int) < 0)=False:=eq_false om;refine fG (ai @w @q') ?_;have F:=aj4 @tk0 @Zd7 @Int.natCast_zero @Int.sub_zero;refine gL (ι:=Nat) [1,4,5,15,25] [] (fun x=>[(5,.d (.one (.lit (.int .i64 (x:Int))))),(1,.d (.one (.lit (.int .i64 (left - (rows.length:Int) - (bulkRows (rows.take x):Int))))))]) (fun x=>[]) (fun x=>x<=rows.length∧0<=left - (rows.length:Int) - (bulkRows (rows.take x):Int)) (fun x=>rows.length - x) (0) (⟨Taj _,by simp [bulkRows];omega⟩) (fun x hx=>?_);clear F
 obtain ⟨hx,hl⟩:=hx;by_cases hlt:x < rows.length
 ·obtain ⟨r,hr⟩:∃ r,rows[x]?=some r:=⟨_,Taa hlt⟩;have hq:=hok.get hr;obtain ⟨ln,tk,dr⟩:=hq.take (n:=6) rfl;have okc:=hq.cells;have q1:=lT x rows.length;have wi:=Zbu (k:=x) om;have hbt:=Zdu hr;have hbl:=ZcL rows (x+1)
  skip
  have fe:=aj10 hr hlt Zbs hrb q1 okc ln tk dr (@Zaz C);obtain ⟨l,hle⟩:∃ l,l=left - (rows.length:Int) - (bulkRows (rows.take x):Int):=⟨_,rfl⟩;rw [<- hle];refine fB @fe ?_;refine fC @fe (h x _ hr (left:=l) om om) ?_;refine fR @fe ?_;by_cases q:l < ((bulkRow r:Nat):Int)
  ·rw [ZaH (b:=bulkRow r) q,ZaH om];have q':=lT (-1) 0;exact fT @q'
  rw [ZaX (b:=bulkRow r) om];have q':(l - ((bulkRow r:Nat):Int) < 0)=False:=eq_false om;have e:left - (rows.length:Int) - (bulkRows (rows.take (x+1)):Int)=l - ((bulkRow r:Nat):Int):=om;have F:=aj3 @q' @wi @e;refine gG ?_;exact ⟨x+1,⟨hlt,om⟩,gw,gw,om⟩
 ·obtain rfl:x=rows.length:=by omega
  have q1:=lF rows.length rows.length;rw [Tap] at hl ⊢;rw [ZaX om,show left - ((rows.length+bulkRows rows:Nat):Int)=left - (rows.length:Int) - (bulkRows rows:Int) by omega];exact fT @q1
theorem ZhC (hok:Zak (Zac .link) rows) (h:∀ (i:Nat) r,rows[i]?=some r->Con e0 55 [.agg r,.agg r] [.one (.lit (.bool true))]):Con e0 32 [.one (.sl rows),.one (.sl rows)] [.one (.lit (.bool true))]:=by
 refine ZcD (by kernel_rfl) fun hm=>?_;unfold maxLen at hm;have hrb:ZaC 6 rows=true:=ZaW.2 hok.rowsLen;refine gI 67126323 Try.func32 ?_;refine fG (@beq_self_eq_true.{0}) ?_;have F:=@e0P;refine gL (ι:=Nat) [4,5,14,26] [] (fun x=>[(5,.d (.one (.lit (.int .i64 (x:Int)))))]) (fun x=>[]) (fun x=>x<=rows.length) (fun x=>rows.length - x) (0) (Taj _) (fun x hx=>?_);clear F;by_cases hlt:x < rows.length
 ·obtain ⟨r,hr⟩:∃ r,rows[x]?=some r:=⟨_,Taa hlt⟩;have hq:=hok.get hr;obtain ⟨ln,tk,dr⟩:=hq.take (n:=6) rfl;have okc:=hq.cells;have q1:=lT x rows.length;have wi:=Zbu (k:=x) om;have fe:=aj10 hr hlt Zbs hrb q1 okc ln tk dr (@Zaz C);refine fB @fe ?_;refine fC @fe (h x _ hr) ?_;refine fR @fe ?_;have F:=@wi;refine gG ?_;exact ⟨x+1,hlt,gw,gw,om⟩
 ·obtain rfl:x=rows.length:=by omega
  have q1:=lF rows.length rows.length;exact fT @q1
theorem Zhe (hok:Zak (Zac .link) rows) (h:∀ (i:Nat) r,rows[i]?=some r->bulkRow r<=1048576->ConP e0 51 [.agg r] [] (Zbc r)) (hb:rows.length+bulkRows rows<=1048576):ConP e0 27 [.one (.sl rows)] [] (Za7 rows):=by
 have hrb:ZaC 6 rows=true:=ZaW.2 hok.rowsLen;have hmx:((rows.length:Int)<=(maxApp:Int))=True:=eq_true (by unfold maxApp;omega);refine gIP (ts:=[.slot 2]) [] 2077 Try.func27 ?_;refine fG (ai @hmx @Tbn) ?_;refine pE [] [1000] ZbK ?_;have F:=aj3 @nla @Nat.sub_zero @tk0;refine gL (ι:=Nat × List (List Value) × (Nat->Prop)) [3,4,11] [3,1000] (fun x=>[(4,.d (.one (.lit (.int .i64 (x.1:Int))))),(3,.buf 3)]) (fun x=>[(3,.buf none 89 6 (x.2.1.map Zaf++List.replicate (rows.length - x.1) [C.lit (.int .i64 0),C.sl [],C.sl [],C.sl [],C.sl [],C.sl []])),(1000,.set x.2.2 (fun w=>Zan w (rows.take x.1) x.2.2 x.2.1))]) (fun x=>x.1<=rows.length∧x.2.1.length=x.1) (fun x=>rows.length - x.1) ((0,[],fun _=>False)) (⟨Taj _,rfl⟩) (fun x hx=>?_);clear F
 obtain ⟨i,uss,E⟩:=x;obtain ⟨hi,hn⟩:=hx;simp only at hi hn;dsimp only;by_cases hlt:i < rows.length
 ·obtain ⟨r,hr⟩:∃ r,rows[i]?=some r:=⟨_,Taa hlt⟩;have hq:=hok.get hr;obtain ⟨ln,tk,dr⟩:=hq.take (n:=6) rfl;have okc:=hq.cells;have q1:=lT i rows.length;have wi:=Zbu (k:=i) om;have fe:=aj10 hr hlt Zbs hrb q1 okc ln tk dr (@Zaz C);obtain ⟨k,hk⟩:∃ k,rows.length - i=k+1:=⟨rows.length - i - 1,om⟩;have hk2:rows.length - (i+1)=k:=om;rw [hk];have bl:(uss.map Zaf++List.replicate (k+1) [C.lit (.int .i64 0),C.sl [],C.sl [],C.sl [],C.sl [],C.sl []]).length=rows.length:=by simp;omega
  have bs:∀ X,(uss.map Zaf++List.replicate (k+1) [C.lit (.int .i64 0),C.sl [],C.sl [],C.sl [],C.sl [],C.sl []]).set i X=(uss.map Zaf++[X])++List.replicate k [C.lit (.int .i64 0),C.sl [],C.sl [],C.sl [],C.sl [],C.sl []]:=fun X=>ZeK _ _ _ _ _ (by simp [hn]);have bg:(uss.map Zaf++List.replicate (k+1) [C.lit (.int .i64 0),C.sl [],C.sl [],C.sl [],C.sl [],C.sl []])[i]?=some [C.lit (.int .i64 0),C.sl [],C.sl [],C.sl [],C.sl [],C.sl []]:=by rw [Tbj (by simp;omega),Tbk,if_pos (by simp;omega)]
  have hbr:=Za4 hr;refine fB (ai @fe @bl) ?_;have F:=ai @fe @bl;refine gCP [] [1001] (h i _ hr om) ?_;clear F;rintro r' pm ⟨us,E2,rfl,hu,hok2,rfl⟩;rw [ln] at hu;obtain ⟨u0,u1,u2,u3,u4,u5,rfl⟩:=len6 hu;have hok2:Zal (.lit u0)=true∧Zal (.lit u1)=true∧Zal (.lit u2)=true∧Zal (.lit u3)=true∧Zal (.lit u4)=true∧Zal (.lit u5)=true:=by simpa [Zaf,Tar,and_assoc] using hok2
  obtain ⟨k0,k1,k2,k3,k4,k5⟩:=hok2;have lr:Zaf [u0,u1,u2,u3,u4,u5]=[.lit u0,.lit u1,.lit u2,.lit u3,.lit u4,.lit u5]:=rfl;rw [lr];simp only [setA,retA,zipM,Taf,Tah];refine fR (aj10 @hlt @bl @bs @bg @k0 @k1 @k2 @k3 @k4 @k5) ?_;refine pE [1000,1001] [1000] (Zc3 (G':=fun w=>Zan w (rows.take (i+1)) (fun b=>E b∨E2 b) (uss++[[u0,u1,u2,u3,u4,u5]])) (fun w h1 h2 hd=>?_) (Zan.stable _ _ _)) ?_
  ·rw [tks hr];exact Zan.snoc h1 h2 (fun _ h=>.inl h) (fun _ h=>.inr h) hd
  have F:=aj5 @bs @wi @hk2 @lr ((@Tbm.{0,0}));refine gG ?_;exact ⟨(i+1,uss++[[u0,u1,u2,u3,u4,u5]],fun b=>E b∨E2 b),⟨hlt,by simp [hn]⟩,gw,gw,om⟩
 ·obtain rfl:i=rows.length:=by omega
  have q1:=lF rows.length rows.length;rw [Nat.sub_self,List.replicate_zero,List.append_nil,Tap];refine fG @q1 ?_;refine pS 2 fun a cap=>?_;refine pE [2,1000] [1000] (Zbi (fun w h=>h) (Own.stable _ _ _)) ?_;exact (have F:=e0P;gTP (R:=Za7 rows) [1000] ⟨.slice a uss.length cap,_,rfl,rfl,rfl⟩)
theorem ZjU (n:Nat):(∀ rows,Zat rows < n->Zak (Zac .chain) rows->∀ {left:Int},0<=left->left<=1048576->Con e0 65 [.one (.sl rows),.one (.lit (.int .i64 left))] [.one (.lit (.int .i64 (sub left (rows.length+bulkRows rows))))])∧(∀ rows,Zat rows < n->Zak (Zac .link) rows->∀ {left:Int},0<=left->left<=1048576->Con e0 22 [.one (.sl rows),.one (.lit (.int .i64 left))] [.one (.lit (.int .i64 (sub left (rows.length+bulkRows rows))))]):=by
 induction n with
 | zero=>exact ⟨fun rows h=>absurd h om,fun rows h=>absurd h om⟩
 | succ n ih =>
  exact ⟨fun rows hn hok {left} h0 h1=>Zhc hok (fun i r hr left h0 h1=>ZeP (hok.get hr) (fun rows2 h2 ok2=>ih.2 rows2 (by have:=ZaV hr;omega) ok2) h0 h1) h0 h1,
   fun rows hn hok {left} h0 h1=>ZhB hok (fun i r hr left h0 h1=>Zik (hok.get hr) (fun rows2 h2 ok2=>ih.1 rows2 (by have:=ZaV hr;omega) ok2) h0 h1) h0 h1⟩
theorem Zgh (hok:Zao (Zac .chain) row) (h0:0<=left) (h1:left<=1048576):Con e0 5 [.agg row,.one (.lit (.int .i64 left))] [.one (.lit (.int .i64 (sub left (bulkRow row))))]:=ZeP hok (fun rows _ ok=>(ZjU _).2 rows (Tan _) ok) h0 h1
theorem ZjV (n:Nat):(∀ rows,Zat rows < n->Zak (Zac .chain) rows->Con e0 74 [.one (.sl rows),.one (.sl rows)] [.one (.lit (.bool true))])∧(∀ rows,Zat rows < n->Zak (Zac .link) rows->Con e0 32 [.one (.sl rows),.one (.sl rows)] [.one (.lit (.bool true))]):=by
 induction n with
 | zero=>exact ⟨fun rows h=>absurd h om,fun rows h=>absurd h om⟩
 | succ n ih =>
  exact ⟨fun rows hn hok=>Zhd hok (fun i r hr=>ZeQ (hok.get hr) (fun rows2 h2 ok2=>ih.2 rows2 (by have:=ZaV hr;omega) ok2)),
   fun rows hn hok=>ZhC hok (fun i r hr=>Zil (hok.get hr) (fun rows2 h2 ok2=>ih.1 rows2 (by have:=ZaV hr;omega) ok2))⟩
theorem Zev (hok:Zao (Zac .chain) row):Con e0 9 [.agg row,.agg row] [.one (.lit (.bool true))]:=ZeQ hok (fun rows _ ok=>(ZjV _).2 rows (Tan _) ok)
theorem ZjW (n:Nat):(∀ rows,Zat rows < n->Zak (Zac .chain) rows->rows.length+bulkRows rows<=1048576->ConP e0 67 [.one (.sl rows)] [] (Za7 rows))∧(∀ rows,Zat rows < n->Zak (Zac .link) rows->rows.length+bulkRows rows<=1048576->ConP e0 27 [.one (.sl rows)] [] (Za7 rows)):=by
 induction n with
 | zero=>exact ⟨fun rows h=>absurd h om,fun rows h=>absurd h om⟩
 | succ n ih =>
  exact ⟨fun rows hn hok hb=>Zgy hok (fun i r hr hb=>Zep (hok.get hr) (fun rows2 h2 ok2=>ih.2 rows2 (by have:=ZaV hr;omega) ok2) hb) hb,
   fun rows hn hok hb=>Zhe hok (fun i r hr hb=>ZhA (hok.get hr) (fun rows2 h2 ok2=>ih.1 rows2 (by have:=ZaV hr;omega) ok2) hb) hb⟩
theorem Zec (hok:Zao (Zac .chain) row) (hb:bulkRow row<=1048576):ConP e0 7 [.agg row] [] (Zbc row):=Zep hok (fun rows _ ok=>(ZjW _).2 rows (Tan _) ok) hb
theorem Zgi (hok:Zao (Zac .chain) row) (hb:bulkRow row<=1048576):Con e0 7 [.agg row] [.agg row]:=ZpO (Zec hok hb)
end Go.Proofs.Ytjoaefnnnbpflaa
