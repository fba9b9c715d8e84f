/-
  Part of a proof: Tj, Bu, Gv, Gt, Bp, Kd, Ra, LBinding, Bb, Ap, Ky, By, Bs, Ow, Sb, Fi, Fj, Sw, Ka, Kb, Mo, Sr, Bg, Dq, Sk, Sj, Qw, Bx, Cf, LCondition, LEquation, LModule.
-/
import Derived.Test.YtffmjghcpgpfpaaGreatDoorBIsSortDecreasingCard0
import Derived.Test.YtffmjghcpgpfpaaGreatDoorBIsSortDecreasingCard1
import Derived.Test.YtffmjghcpgpfpaaGreatDoorBIsSortDecreasingCard2
import Derived.Test.YtffmjghcpgpfpaaGreatDoorRows
import Derived.Deep.RegionHeld3
import Derived.Lib.AppendStr
import Derived.Laws.BytesString
set_option linter.unusedSimpArgs false
set_option linter.unusedVariables false
set_option maxHeartbeats 400000000
set_option maxRecDepth 100000
namespace Go.Proofs.YtffmjghcpgpfpaaGreatDoor
open Go.RowKit
section
variable {g:Sgn}
open Classical in
noncomputable def Zej (g:Sgn) (op:Int) (args:List Tm):Bool:=decide (ZhN g op args)
theorem Zjo (hg:SgnOk g) {op:Int} {o:Opr} (ho:g.ops[op.toNat]?=some o) (hu:o.unit≠0) {a:Tm} (ha:ZaO g a) (hop:a.op=o.unit - 1):a=ZbL o:=by
 have hax:=hg.axs o (Tab ho)
 have hlo:=hax.lo
 obtain ⟨p,u,h⟩:=ha.node.app om
 obtain ⟨d,hd,_⟩:=hg.first ho
 have e:a.op.toNat=o.unit.toNat - 1:=by omega
 have hz:u.args.length=0:=by
  have h2:=hax.two (.inr (.inr hu)) d hd
  obtain ⟨d0,hd0⟩:∃ x,d.args[0]?=some x:=⟨_,Taa om⟩
  obtain ⟨d1,hd1⟩:∃ x,d.args[1]?=some x:=⟨_,Taa om⟩
  exact ((h2.2 d0 d1 hd0 hd1).2.2 hu p u (by rw [<- e];exact h.at') h.fst).1
 have has:p.assoc=false:=by
  cases hp:p.assoc with
  | false=>rfl
  | true =>
   have:=((hg.axs p (Tab h.at')).two (.inl hp) u h.fst).1
   omega
 have hl:=h.nas has
 have hnil:a.args=[]:=Tan om
 have hnm:=h.nm
 have hso:=h.so
 cases a with
 | mk x n s l =>
  simp only [Tm.args,Tm.name,Tm.sort,Tm.op] at *
  subst hnil hnm hso hop
  simp only [ZbL,if_neg hu]
theorem ZnY {o:Opr} (h0:0<=o.unit) (h1:o.unit<=14):okTm (ZbL o):=by
 rw [Zfi]
 simp only [ZbL,Tm.op,Tm.name,Tm.sort,Tm.args,Zaz,and_true]
 refine ⟨?_,by simp [maxLen],?_⟩
 ·unfold I64;split <;> omega
 ·unfold I64;omega
theorem Zr6 (hokg:Zdq g) (hg:SgnOk g) {t:Tm} {o:Opr} {d:Dcl} (hA:AppOk g t o d) (hF:∀ a∈t.args,ZaO g a) (hok:okTm t) (hb:sizeTm t<=big):Con e0 156 [.agg (Zav g),.agg (encTm t)] [.one (.lit (.bool (Zej g t.op t.args)))]:=by
 have hno:¬ ZhN g t.op t.args->Zej g t.op t.args=false:=fun h=>by simp [Zej,h]
 obtain ⟨k1,k2,k3,k4⟩:=Zfi.1 hok
 have hsz:=ZaX t
 have hal:=ZbN t.args
 unfold big at hb
 have h0:=hA.lo
 have ho:=hA.at'
 have hd:=hA.fst
 obtain ⟨d',hd',hr0,hr1,hargs⟩:=hg.first ho
 rw [hd] at hd'
 injection hd' with hd'
 subst hd'
 have hax:=hg.axs o (Tab ho)
 have hlo:=hax.lo
 have hhi:=hax.hi
 have hln:=hg.len
 have cK:=Zet hg.sorts
 rw [Za6] at cK
 have cUn:=Zl0 hg h0 ho
 rw [Zav] at cUn
 have hnoA:∀ (i:Nat) a,t.args[i]?=some a->¬ ArgOk g t.op o d t.args i a->Zej g t.op t.args=false:=fun i a ha h=>hno fun hR=>h (hR o d ho hd i a ha)
 refine gI 9903595872146772515857895423 Tryz.func156 ?_
 (have F:=ai @tmz (ai @ZaG (ai @h0 (ai @ho @Zaj)));refine gG ?_;clear F)
 refine gB ?_
 (have F:=@tmz;refine gC (cK) ?_;clear F)
 (have F:=@tmz;refine gR ?_;clear F)
 (have F:=@tmz;refine gG ?_;clear F)
 refine gB ?_
 (have F:=@tmz;refine gC (cUn) ?_;clear F)
 (have F:=@tmz;refine gR ?_;clear F)
 (have F:=@tmz;refine gG ?_;clear F)
 (have F:=@e0P;refine gL (ι:=Nat) [4,9,10,11,32,42,76,93] [] (fun i=>[(9,A.d (.one (.lit (.int .i64 i))))]) (fun i=>[]) (fun i=>i<=t.args.length∧∀ (j:Nat) a,j < i->t.args[j]?=some a->ArgOk g t.op o d t.args j a) (fun i=>t.args.length - i) (0) (⟨by omega,fun j a h=>absurd h om⟩) (fun i hi=>?_);clear F)
 obtain ⟨hil,hall⟩:=hi
 by_cases hl:i < t.args.length
 rotate_left
 ·have hl':¬ ((i:Int) < (t.args.length:Int)):=by omega
  have hT:Zej g t.op t.args=true:=by
   simp only [Zej,decide_eq_true_eq]
   intro o' d' ho' hd' j a hj
   rw [ho] at ho'
   injection ho' with ho'
   subst ho'
   rw [hd] at hd'
   injection hd' with hd'
   subst hd'
   exact hall j a (by have:=(Tac.1 hj).1;omega) hj
  (have F:=ai @tmz (ai @hl' @hT);refine gG ?_;exact gT)
 have hl':(i:Int) < (t.args.length:Int):=by omega
 obtain ⟨a,ha⟩:∃ a,t.args[i]?=some a:=⟨_,Taa hl⟩
 have hm:=Tab ha
 have hFa:=hF a hm
 have hw1:=Zap (k:=i) om
 obtain ⟨k,hk⟩:=Zhf hg ho hd hA.nas hl
 obtain ⟨hk0,hk1⟩:=hargs k (Tab hk)
 have hkd:=ZgI hg.sorts hk0 hk1
 have cKa:=Zgd hokg hg hFa.node
 rw [Zav] at cKa
 have cU:=Ze0 (k4.mem hm) (ZnY (o:=o) hlo om)
 have hUiff:o.unit≠0->(Zak a (ZbL o)=0 ↔ a.op=o.unit - 1):=fun hu=>by
  rw [ZeO]
  constructor
  ·rintro h;rw [h];simp [ZbL,Tm.op,hu]
  ·exact Zjo hg ho hu hFa
 generalize hU:decide (Zak a (ZbL o)=0)=U at cU
 have hnext:ZaS g a=((kd g.sorts k:Nat):Int)->(o.assoc=true->¬ a.op=t.op)->(o.unit≠0->U=false)->(o.comm=true->∀ (j:Nat) p,i=j+1->t.args[j]?=some p->Zak p a<=0)->i+1<=t.args.length∧∀ (j:Nat) a,j < i+1->t.args[j]?=some a->ArgOk g t.op o d t.args j a:=fun hkk hne hU' hc=>⟨by omega,fun j a' hj ha'=>by
  by_cases e:j=i
  ·subst e
   rw [ha] at ha'
   injection ha' with ha'
   subst ha'
   refine ⟨fun k' hk'=>?_,hne,fun h1 h2=>?_,hc⟩
   ·rw [hk] at hk'
    injection hk' with hk'
    subst hk'
    exact hkk
   ·have:=hU' h1
    rw [this] at hU
    simp only [decide_eq_false_iff_not] at hU
    exact hU ((hUiff h1).2 h2)
  ·exact hall j a' om ha'⟩
 have hkN:d.args[(argAt o i:Nat)]?=some k:=hk
 (have F:=ai @tmz (ai @hl' @ha);refine gG ?_;clear F)
 refine gM (ι:=Unit) [11] [] (fun u=>[(11,A.d (.one (.lit (.int .i64 (argAt o i:Nat)))))]) (fun u=>[]) (fun u=>True) ?_ (fun u hu=>Exists.intro _ (ai (Wk.refl _) ?_))
 ·rcases Bool.eq_false_or_eq_true o.assoc with hac | hac
  ·(have F:=ai @Zaj (ai @hac @Zj3);refine gG ?_;exact ⟨(),trivial,gw,gw⟩)
  ·(have F:=ai @Zaj (ai @hac (ai @Zj3 @if_false.{1}));refine gG ?_;exact ⟨(),trivial,gw,gw⟩)
 (have F:=@tmz;refine gG ?_;clear F)
 refine gM (ι:=Bool) [76] [] (fun x=>[(76,A.d (.one (.lit (.bool x))))]) (fun x=>[]) (fun x=>(x=true->Zej g t.op t.args=false)∧(x=false->ZaS g a=((kd g.sorts k:Nat):Int)∧(o.assoc=true->¬ a.op=t.op)∧(o.unit≠0->U=false))) ?_ (fun x hx=>Exists.intro _ (ai (Wk.refl _) ?_))
 ·refine gB ?_
  (have F:=@tmz;refine gC (cKa) ?_;clear F)
  by_cases hkk:ZaS g a=((kd g.sorts k:Nat):Int)
  rotate_left
  ·have hf:=hnoA i a ha fun h=>hkk (h.kind k hk)
   (have F:=ai @tmz (ai @Zaj (ai @hd (ai @ZaR (ai @hkN (ai @hk0 (ai @hkd (ai @Za4 @hkk)))))));refine gR ?_;clear F)
   (have F:=@tmz;refine gG ?_;exact ⟨true,⟨fun _=>hf,fun h=>by cases h⟩,gw,gw⟩)
  by_cases hN:o.assoc=true∧a.op=t.op
  ·have hf:=hnoA i a ha fun h=>h.nest hN.1 hN.2
   obtain ⟨hN1,hN2⟩:=hN
   (have F:=ai @tmz (ai @Zaj (ai @hd (ai @ZaR (ai @hkN (ai @hk0 (ai @hkd (ai @Za4 (ai @hkk (ai @hN1 @hN2)))))))));refine gR ?_;clear F)
   (have F:=ai @tmz @hN1;refine gG ?_;exact ⟨true,⟨fun _=>hf,fun h=>by cases h⟩,gw,gw⟩)
  have hne:o.assoc=true->¬ a.op=t.op:=fun h1 h2=>hN ⟨h1,h2⟩
  rcases Bool.eq_false_or_eq_true o.assoc with hac | hac
  all_goals (
   by_cases hu:o.unit=0
   ·(have F:=ai @tmz (ai @Zaj (ai @hd (ai @ZaR (ai @hkN (ai @hk0 (ai @hkd (ai @Za4 (ai @hkk (ai @hac (ai @hne @hu))))))))));refine gR ?_;clear F)
    (have F:=ai @tmz (ai @hac @hu);refine gG ?_;exact ⟨false,⟨fun h=>(by cases h),fun _=>⟨hkk,hne,fun h=>absurd hu h⟩⟩,gw,gw⟩)
   (have F:=ai @tmz (ai @Zaj (ai @hd (ai @ZaR (ai @hkN (ai @hk0 (ai @hkd (ai @Za4 (ai @hkk (ai @hac (ai @hne @hu))))))))));refine gC (cU) ?_;clear F)
   rcases Bool.eq_false_or_eq_true U with hub | hub
   ·have hf:=hnoA i a ha fun h=>by
     rw [hub] at hU
     simp only [decide_eq_true_eq] at hU
     exact h.unit hu ((hUiff hu).1 hU)
    (have F:=ai @tmz @hub;refine gR ?_;clear F)
    (have F:=ai @tmz (ai @hac @hu);refine gG ?_;exact ⟨true,⟨fun _=>hf,fun h=>by cases h⟩,gw,gw⟩)
   ·(have F:=ai @tmz @hub;refine gR ?_;clear F)
    (have F:=ai @tmz (ai @hac @hu);refine gG ?_;exact ⟨false,⟨fun h=>(by cases h),fun _=>⟨hkk,hne,fun _=>hub⟩⟩,gw,gw⟩))
 cases x with
 | true =>
  have hf:=hx.1 rfl
  (have F:=@hf;refine gG ?_;exact gT)
 | false =>
  obtain ⟨hkk,hne,hub⟩:=hx.2 rfl
  (have F:=@tmz;refine gG ?_;clear F)
  rcases Bool.eq_false_or_eq_true o.comm with hcm | hcm
  rotate_left
  ·have hq:=hnext hkk hne hub (fun h=>by rw [hcm] at h;cases h)
   (have F:=ai @hw1 (ai @tmz (ai @Zaj @hcm));refine gG ?_;exact ⟨i+1,hq,gw,gw,by omega⟩)
  rcases Nat.eq_zero_or_pos i with hi0 | hi0
  ·have hq:=hnext hkk hne hub (fun _ j p h=>by omega)
   have hi0':¬ ((0:Int) < (i:Int)):=by omega
   (have F:=ai @hw1 (ai @tmz (ai @Zaj (ai @hcm @hi0')));refine gG ?_;exact ⟨i+1,hq,gw,gw,by omega⟩)
  obtain ⟨j,hj⟩:∃ j,i=j+1:=⟨i - 1,by omega⟩
  obtain ⟨p,hp⟩:∃ p,t.args[j]?=some p:=⟨_,Taa om⟩
  have cC:=Zfx (k4.mem (Tab hp)) (k4.mem hm)
  have hgt0:(0:Int) < (i:Int):=by omega
  have hsub:IntKind.i64.wrap ((i:Int) - 1)=(j:Int):=ZaQ om om om
  refine gB ?_
  (have F:=ai @tmz (ai @Zaj (ai @hcm (ai @hgt0 (ai @hsub @hp))));refine gC (cC) ?_;clear F)
  by_cases hc:0 < Zak p a
  ·have hf:=hnoA i a ha fun h=>by have:=h.ord hcm j p hj hp;omega
   (have F:=ai @tmz @hc;refine gR ?_;clear F)
   (have F:=@hf;refine gG ?_;exact gT)
  ·have hq:=hnext hkk hne hub (fun _ j' p' h hp'=>by
    have:j'=j:=by omega
    subst this
    rw [hp] at hp'
    injection hp' with hp'
    subst hp'
    omega)
   (have F:=ai @tmz @hc;refine gR ?_;clear F)
   (have F:=ai @hw1 (ai @tmz (ai @Zaj @hcm));refine gG ?_;exact ⟨i+1,hq,gw,gw,by omega⟩)
theorem Zm2 (hokg:Zdq g) (hg:SgnOk g):∀ (n:Nat) (t:Tm),sizeTm t < n->okTm t->sizeTm t<=big->Con e0 96 [.agg (Zav g),.agg (encTm t)] [.one (.lit (.bool (ZbT g t)))]:=by
 intro n
 induction n with
 | zero=>intro t h;omega
 | succ n ih =>
  intro t hn hok hb
  have hno:¬ ZaO g t->ZbT g t=false:=Zjk
  obtain ⟨k1,k2,k3,k4⟩:=Zfi.1 hok
  have hsz:=ZaX t
  have hal:=ZbN t.args
  have cN:=Zv6 hg hok hb
  have hb':=hb
  unfold big at hb'
  rw [Zav] at cN
  have ih':=fun a h1 h2 h3=>ih a h1 h2 h3
  simp only [Zav] at ih'
  refine gI 16794175 Tryz.func96 ?_
  (have F:=ai @tmz @ZaG;refine gG ?_;clear F)
  refine gB ?_
  (have F:=@tmz;refine gC (cN) ?_;clear F)
  by_cases hN:Zex g t=true
  rotate_left
  ·have hf:=hno fun h=>hN (ZfA h.node)
   have hN':Zex g t=false:=by simpa using hN
   (have F:=ai @tmz @hN';refine gR ?_;clear F)
   (have F:=@hf;refine gG ?_;exact gT)
  have hNd:=Zv5.1 hN
  (have F:=ai @tmz @hN;refine gR ?_;clear F)
  (have F:=@tmz;refine gG ?_;clear F)
  (have F:=@e0P;refine gL (ι:=Nat) [4,5,14,24] [] (fun i=>[(5,A.d (.one (.lit (.int .i64 i))))]) (fun i=>[]) (fun i=>i<=t.args.length∧∀ (j:Nat) a,j < i->t.args[j]?=some a->ZaO g a) (fun i=>t.args.length - i) (0) (⟨by omega,fun j a h=>absurd h om⟩) (fun i hi=>?_);clear F)
  obtain ⟨hil,hall⟩:=hi
  by_cases hl:i < t.args.length
  rotate_left
  ·have hl':¬ ((i:Int) < (t.args.length:Int)):=by omega
   have hF:∀ a∈t.args,ZaO g a:=fun a ha=>by
    obtain ⟨j,hj⟩:=Tbk ha
    exact hall j a (by have:=(Tac.1 hj).1;omega) hj
   by_cases h1:t.op=-1
   ·have hT:=Zfz (g:=g) (t:=t) (Zbh.2 ⟨hNd,hF,.inl h1⟩)
    (have F:=ai @tmz (ai @hl' (ai @h1 @hT));refine gG ?_;exact gT)
   obtain ⟨o,d,hA⟩:=hNd.app h1
   have cR:=Zr6 hokg hg hA hF hok hb
   rw [Zav] at cR
   have e:Zej g t.op t.args=ZbT g t:=by
    unfold Zej ZbT
    congr 1
    rw [Zbh]
    exact propext ⟨fun h=>⟨hNd,hF,.inr h⟩,fun h=>h.2.2.resolve_left h1⟩
   (have F:=ai @tmz (ai @hl' @h1);refine gG ?_;clear F)
   refine gB ?_
   (have F:=ai @tmz @h1;refine gC (cR) ?_;clear F)
   (have F:=@tmz;refine gR ?_;clear F)
   (have F:=@e;refine gG ?_;exact gT)
  have hl':(i:Int) < (t.args.length:Int):=by omega
  obtain ⟨a,ha⟩:∃ a,t.args[i]?=some a:=⟨_,Taa hl⟩
  have hm:=Tab ha
  have hsa:=Zbb hm
  have hw1:=Zap (k:=i) om
  (have F:=ai @tmz (ai @hl' @ha);refine gG ?_;clear F)
  refine gB ?_
  (have F:=ai @tmz @ha;refine gC (ih' a om (k4.mem hm) (by unfold big;omega)) ?_;clear F)
  by_cases hfa:ZbT g a=true
  rotate_left
  ·have hf:=hno fun h=>hfa (Zfz ((Zbh.1 h).2.1 a hm))
   have hfa':ZbT g a=false:=by simpa using hfa
   (have F:=ai @tmz @hfa';refine gR ?_;clear F)
   (have F:=@hf;refine gG ?_;exact gT)
  have hq:i+1<=t.args.length∧∀ (j:Nat) a,j < i+1->t.args[j]?=some a->ZaO g a:=⟨by omega,fun j a' hj ha'=>by
   by_cases e:j=i
   ·subst e
    rw [ha] at ha'
    injection ha' with ha'
    subst ha'
    exact Zgc.1 hfa
   ·exact hall j a' om ha'⟩
  (have F:=ai @tmz @hfa;refine gR ?_;clear F)
  (have F:=ai @hw1 @tmz;refine gG ?_;exact ⟨i+1,hq,gw,gw,by omega⟩)
theorem Zl6 (hokg:Zdq g) (hg:SgnOk g) {t:Tm} (hok:okTm t) (hb:sizeTm t<=big):Con e0 96 [.agg (Zav g),.agg (encTm t)] [.one (.lit (.bool (ZbT g t)))]:=Zm2 hokg hg _ t (Tam _) hok hb
end
def Zbs (o:Opr) (op:Int) (a:Tm):List Tm:=if o.assoc=true∧a.op=op then a.args else if o.unit≠0∧a.op=o.unit - 1 then [] else [a]
def Zar (o:Opr) (op:Int) (xs:List Tm):List Tm:=xs.flatMap (Zbs o op)
def KArg (g:Sgn) (o:Opr) (d:Dcl) (i:Nat) (a:Tm):Prop:=∃ k,d.args[argAt o i]?=some k∧ZaS g a=kd g.sorts k
def srtO (o:Opr) (l:List Tm):List Tm:=if o.comm=true then Zat l else l
def appT (op:Int) (l:List Tm):Tm:=.mk op ByteArray.empty 0 l
def BigT (o:Opr) (op:Int) (l:List Tm):Prop:=(o.assoc=true∧7 < l.length)∨60 < sizeTm (appT op l)∨20 < depthTm (appT op l)
def ArB (o:Opr) (d:Dcl) (n:Nat):Prop:=(o.assoc=true∧n < 2)∨(o.assoc=false∧n≠d.args.length)
open Classical in
noncomputable def mkL (o:Opr) (op:Int) (l:List Tm):Option Tm:=if o.unit≠0∧l.length < 2 then some (l.headD (ZbL o)) else if BigT o op (srtO o l) then none else some (appT op (srtO o l))
open Classical in
noncomputable def mkO (g:Sgn) (o:Opr) (d:Dcl) (op:Int) (xs:List Tm):Option Tm:=if ArB o d xs.length then none else if ∀ (i:Nat) a,xs[i]?=some a->KArg g o d i a then mkL o op (Zar o op xs) else none
noncomputable def mkT (g:Sgn) (op:Int) (xs:List Tm):Option Tm:=match g.ops[op.toNat]? with
 | none=>none
 | some o=>match o.decls[0]? with
  | none=>none
  | some d=>mkO g o d op xs
theorem Zqn {g:Sgn} {op:Int} {o:Opr} {d:Dcl} (ho:g.ops[op.toNat]?=some o) (hd:o.decls[0]?=some d) (xs:List Tm):mkT g op xs=mkO g o d op xs:=by simp only [mkT,ho,hd]
theorem ZkA {o:Opr} {op:Int} {xs:List Tm} {i:Nat} {a:Tm} (h:xs[i]?=some a):Zar o op (xs.take (i+1))=Zar o op (xs.take i)++Zbs o op a:=by
 rw [Zch h];simp [Zar]
theorem Zhh (o:Opr) (op:Int) (xs:List Tm) (i:Nat):(Zar o op (xs.take i)).length<=(Zar o op xs).length:=by
 have:Zar o op xs=Zar o op (xs.take i)++Zar o op (xs.drop i):=by
  unfold Zar
  rw [<- List.flatMap_append,Tbm]
 rw [this,Tad];omega
theorem Zd8 (o:Opr) (l:List Tm):(srtO o l).Perm l:=by
 unfold srtO
 split
 ·exact Za5 l
 ·exact List.Perm.refl _
theorem ZkY (o:Opr) (l:List Tm):(srtO o l).length=l.length:=(Zd8 o l).length_eq
theorem ZgO {l m:List Tm} (h:l.Perm m):sizeTms l=sizeTms m:=by
 induction h with
 | nil=>rfl
 | cons x h ih=>simp only [sizeTms,ih]
 | swap x y l=>simp only [sizeTms];omega
 | trans h1 h2 a b=>rw [a,b]
theorem ZfV {l m:List Tm} (h:l.Perm m):depthTms l=depthTms m:=by
 induction h with
 | nil=>rfl
 | cons x h ih=>simp only [depthTms,ih]
 | swap x y l=>simp only [depthTms];omega
 | trans h1 h2 a b=>rw [a,b]
theorem Opr.two {g:Sgn} (hg:SgnOk g) {i:Nat} {o:Opr} {d:Dcl} (ho:g.ops[i]?=some o) (hd:o.decls[0]?=some d) (h:o.assoc=true∨o.comm=true∨o.unit≠0):∃ k1 k2,d.args=[k1,k2]∧kd g.sorts k1=kd g.sorts k2∧((o.assoc=true∨o.unit≠0)->kd g.sorts k1=kd g.sorts d.res):=by
 have h2:=(hg.axs o (Tab ho)).two h d hd
 obtain ⟨a,b,hab⟩:=Zp4 h2.1
 have h3:=h2.2 a b (by rw [hab];rfl) (by rw [hab];rfl)
 exact ⟨a,b,hab,h3.1,h3.2.1⟩
theorem ZAl {g:Sgn} (hg:SgnOk g) {i:Nat} {o:Opr} {d:Dcl} (ho:g.ops[i]?=some o) (hd:o.decls[0]?=some d) (hu:o.unit≠0):TermOk g (ZbL o)∧ZaS g (ZbL o)=kd g.sorts d.res:=by
 have hax:=hg.axs o (Tab ho)
 have hlo:=hax.lo
 have hhi:=hax.hi
 obtain ⟨k1,k2,hk,_⟩:=Opr.two hg ho hd (.inr (.inr hu))
 obtain ⟨p,hp⟩:∃ p,g.ops[o.unit.toNat - 1]?=some p:=⟨_,Taa om⟩
 obtain ⟨u,hfu,_⟩:=hg.first hp
 have h2:=((hax.two (.inr (.inr hu)) d hd).2 k1 k2 (by rw [hk];rfl) (by rw [hk];rfl)).2.2 hu p u hp hfu
 have e:ZbL o=.mk (o.unit - 1) ByteArray.empty 0 []:=by simp only [ZbL,if_neg hu]
 have hop:((o.unit - 1:Int)).toNat=o.unit.toNat - 1:=by omega
 have has:p.assoc=false:=by
  cases hpa:p.assoc with
  | false=>rfl
  | true=>have:=((hg.axs p (Tab hp)).two (.inl hpa) u hfu).1;omega
 have hA:AppOk g (ZbL o) p u:=by
  rw [e]
  exact ⟨by simp only [Tm.op];omega,by simp only [Tm.op];rw [hop];exact hp,hfu,rfl,rfl,fun h=>(by rw [has] at h;cases h),fun _=>by simp only [Tm.args,Taj];omega⟩
 refine ⟨⟨?_,?_,Zbh.2 ⟨.inr ⟨p,u,hA⟩,?_,.inr ?_⟩⟩,?_⟩
 ·rw [e];simp only [sizeTm,sizeTms];omega
 ·rw [e];simp only [depthTm,depthTms];omega
 ·rw [e];intro a ha;simp [Tm.args] at ha
 ·rw [e];intro o' d' _ _ j a ha;simp [Tm.args] at ha
 ·have hneg:¬ ((ZbL o).op=-1):=hA.op
  rw [ZaS,if_neg hneg,e]
  simp only [Tm.op]
  rw [Zif (by rw [hop];exact hp) hfu,h2.2]
structure FlOk (g:Sgn) (o:Opr) (op:Int) (b:Tm):Prop where
 form:ZaO g b
 size:sizeTm b<=60
 depth:depthTm b<=20
 nest:o.assoc=true->b.op≠op
 unit:o.unit≠0->b.op≠o.unit - 1
theorem ZHM {g:Sgn} (hg:SgnOk g) {op:Int} {o:Opr} {d:Dcl} (h0:0<=op) (ho:g.ops[op.toNat]?=some o) (hd:o.decls[0]?=some d) {a:Tm} (ha:TermOk g a):∀ b∈Zbs o op a,FlOk g o op b:=by
 intro b hb
 unfold Zbs at hb
 split at hb
 ·rename_i h
  obtain ⟨h1,h2⟩:=h
  obtain ⟨_,f2,f3⟩:=Zbh.1 ha.form
  have hR:=f3.resolve_left om
  rw [h2] at hR
  obtain ⟨j,hj⟩:=Tbk hb
  have hA:=hR o d ho hd j b hj
  have s1:=Zbb hb
  have s2:=Zjh hb
  have s3:=ha.size
  have s4:=ha.depth
  rw [ZaX] at s3
  rw [Zde] at s4
  exact ⟨f2 b hb,by omega,by omega,hA.nest,hA.unit⟩
 ·rename_i h
  split at hb
  ·simp at hb
  ·rename_i h'
   simp only [Tbj] at hb
   subst hb
   exact ⟨ha.form,ha.size,ha.depth,fun h1 h2=>h ⟨h1,h2⟩,fun h1 h2=>h' ⟨h1,h2⟩⟩
theorem ZAm {g:Sgn} (hg:SgnOk g) {op:Int} {o:Opr} {d:Dcl} (h0:0<=op) (ho:g.ops[op.toNat]?=some o) (hd:o.decls[0]?=some d) {xs:List Tm} (ha:∀ a∈xs,TermOk g a):∀ b∈Zar o op xs,FlOk g o op b:=by
 intro b hb
 obtain ⟨a,h1,h2⟩:=List.mem_flatMap.1 hb
 exact ZHM hg h0 ho hd (ha a h1) b h2
theorem ZGm {g:Sgn} (hg:SgnOk g) {op:Int} {o:Opr} {d:Dcl} {k1 k2:Int} (h0:0<=op) (ho:g.ops[op.toNat]?=some o) (hd:o.decls[0]?=some d) (hk:d.args=[k1,k2]) (hkk:kd g.sorts k1=kd g.sorts k2) {a:Tm} (ha:TermOk g a) {i:Nat} (hK:KArg g o d i a):∀ b∈Zbs o op a,ZaS g b=kd g.sorts k1:=by
 have hat:∀ (j:Nat) k,d.args[j]?=some k->kd g.sorts k=kd g.sorts k1:=fun j k h=>by
  rw [hk] at h
  match j,h with
  | 0,h=>simp only [Tas,Tap] at h;rw [h]
  | 1,h=>simp only [Tat,Tas,Tap] at h;rw [<- h,hkk]
  | j+2,h=>simp at h
 intro b hb
 unfold Zbs at hb
 split at hb
 ·rename_i h
  obtain ⟨h1,h2⟩:=h
  obtain ⟨_,f2,f3⟩:=Zbh.1 ha.form
  have hR:=f3.resolve_left om
  rw [h2] at hR
  obtain ⟨j,hj⟩:=Tbk hb
  exact (hR o d ho hd j b hj).kind k1 (by rw [argAt,if_pos h1,hk];rfl)
 ·split at hb
  ·simp at hb
  ·simp only [Tbj] at hb
   subst hb
   obtain ⟨k,h1,h2⟩:=hK
   rw [h2,hat _ _ h1]
theorem ZkB {g:Sgn} (hg:SgnOk g) {op:Int} {o:Opr} {d:Dcl} {k1 k2:Int} (h0:0<=op) (ho:g.ops[op.toNat]?=some o) (hd:o.decls[0]?=some d) (hk:d.args=[k1,k2]) (hkk:kd g.sorts k1=kd g.sorts k2) {xs:List Tm} (ha:∀ a∈xs,TermOk g a) (hK:∀ (i:Nat) a,xs[i]?=some a->KArg g o d i a):∀ b∈Zar o op xs,ZaS g b=kd g.sorts k1:=by
 intro b hb
 obtain ⟨a,h1,h2⟩:=List.mem_flatMap.1 hb
 obtain ⟨i,hi⟩:=Tbk h1
 exact ZGm hg h0 ho hd hk hkk (ha a h1) (hK i a hi) b h2
theorem ZAn {o:Opr} {op:Int} (has:o.assoc=false) (a:Tm):(Zbs o op a).length<=1∧((Zbs o op a).length=1->Zbs o op a=[a]):=by
 unfold Zbs
 rw [if_neg fun h=>by rw [has] at h;cases h.1]
 split <;> simp
theorem Zjp {o:Opr} {op:Int} (has:o.assoc=false):∀ (xs:List Tm),(Zar o op xs).length<=xs.length∧((Zar o op xs).length=xs.length->Zar o op xs=xs)
 | []=>⟨Tah _,fun _=>rfl⟩
 | a::xs=>by
  obtain ⟨i1,i2⟩:=Zjp (op:=op) has xs
  obtain ⟨j1,j2⟩:=ZAn (op:=op) has a
  have e:Zar o op (a::xs)=Zbs o op a++Zar o op xs:=rfl
  rw [e,Tad,Taf]
  refine ⟨by omega,fun h=>?_⟩
  rw [j2 om,i2 om];rfl
theorem ZkC {o:Opr} {op:Int} (has:o.assoc=false) (hu:o.unit=0) (xs:List Tm):Zar o op xs=xs:=by
 induction xs with
 | nil=>rfl
 | cons a xs ih =>
  have e:Zar o op (a::xs)=Zbs o op a++Zar o op xs:=rfl
  rw [e,ih]
  unfold Zbs
  rw [if_neg (fun h=>by rw [has] at h;cases h.1),if_neg fun h=>h.1 hu];rfl
theorem Zl7 {o:Opr} {op:Int} {g:Sgn} (hg:SgnOk g) (h0:0<=op) (ho:g.ops[op.toNat]?=some o) (hac:o.assoc=true) (hu:o.unit=0):∀ {xs:List Tm},(∀ a∈xs,TermOk g a)->xs.length<=(Zar o op xs).length
 | [],_=>Tah _
 | a::xs,ha=>by
  have ih:=Zl7 hg h0 ho hac hu (xs:=xs) fun x hx=>ha x (Tak _ hx)
  have e:Zar o op (a::xs)=Zbs o op a++Zar o op xs:=rfl
  rw [e,Tad,Taf]
  have:1<=(Zbs o op a).length:=by
   unfold Zbs
   split
   ·rename_i h
    obtain ⟨o',d',hA⟩:=(ha a Tar).form.node.app om
    have:o'=o:=by have:=hA.at';rw [h.2,ho] at this;injection this with this;exact this.symm
    subst this
    have:=(hA.asc hac).1
    omega
   ·rw [if_neg fun h=>h.1 hu];simp
  omega
theorem ZHa {g:Sgn} (hg:SgnOk g) {op:Int} {o:Opr} {d:Dcl} (h0:0<=op) (ho:g.ops[op.toNat]?=some o) (hd:o.decls[0]?=some d) {xs:List Tm} (ha:∀ a∈xs,TermOk g a) {t:Tm} (h:mkO g o d op xs=some t):TermOk g t∧ZaS g t=kd g.sorts d.res:=by
 unfold mkO at h
 split at h
 ·cases h
 rename_i hAr
 split at h
 rotate_left
 ·cases h
 rename_i hK
 have hfl:=ZAm hg h0 ho hd ha
 unfold mkL at h
 split at h
 ·rename_i hu
  obtain ⟨hu,hl⟩:=hu
  injection h with h
  have hU:=ZAl hg ho hd hu
  obtain ⟨k1,k2,hk,hkk,hkr⟩:=Opr.two hg ho hd (.inr (.inr hu))
  have hfk:=ZkB hg h0 ho hd hk hkk ha hK
  cases hf:Zar o op xs with
  | nil=>rw [hf] at h;simp only [List.headD] at h;subst h;exact hU
  | cons b bs =>
   rw [hf] at h hfl hfk
   simp only [List.headD] at h
   subst h
   have hb:=hfl b Tar
   exact ⟨⟨hb.size,hb.depth,hb.form⟩,by rw [hfk b Tar,hkr (.inr hu)]⟩
 ·rename_i hu
  split at h
  ·cases h
  rename_i hB
  injection h with h
  subst h
  have hB1:¬ (o.assoc=true∧7 < (srtO o (Zar o op xs)).length):=fun q=>hB (.inl q)
  have hB2:¬ 60 < sizeTm (appT op (srtO o (Zar o op xs))):=fun q=>hB (.inr (.inl q))
  have hB3:¬ 20 < depthTm (appT op (srtO o (Zar o op xs))):=fun q=>hB (.inr (.inr q))
  have hp:=Zd8 o (Zar o op xs)
  have hsl:=hp.length_eq
  have hmem:∀ b,b∈srtO o (Zar o op xs) ↔ b∈Zar o op xs:=fun b=>hp.mem_iff
  have hneg:¬ ((appT op (srtO o (Zar o op xs))).op=-1):=by simp only [appT,Tm.op];omega
  refine ⟨⟨by omega,by omega,Zbh.2 ⟨.inr ⟨o,d,h0,ho,hd,rfl,rfl,fun hac=>?_,fun has=>?_⟩,fun a hm=>(hfl a ((hmem a).1 hm)).form,.inr ?_⟩⟩,?_⟩
  ·simp only [appT,Tm.args]
   have:¬ (xs.length < 2):=fun q=>hAr (.inl ⟨hac,q⟩)
   by_cases hu0:o.unit=0
   ·have:=Zl7 hg h0 ho hac hu0 ha
    exact ⟨by omega,by have:¬ (7 < (srtO o (Zar o op xs)).length):=fun q=>hB1 ⟨hac,q⟩;omega⟩
   ·exact ⟨by have:¬ ((Zar o op xs).length < 2):=fun q=>hu ⟨hu0,q⟩;omega,by have:¬ (7 < (srtO o (Zar o op xs)).length):=fun q=>hB1 ⟨hac,q⟩;omega⟩
  ·simp only [appT,Tm.args]
   have hlen:xs.length=d.args.length:=Classical.byContradiction fun q=>hAr (.inr ⟨has,q⟩)
   rw [hsl]
   by_cases hu0:o.unit=0
   ·rw [ZkC has hu0,hlen]
   ·obtain ⟨k1,k2,hk,_⟩:=Opr.two hg ho hd (.inr (.inr hu0))
    have h1:=(Zjp (op:=op) has xs).1
    have:¬ ((Zar o op xs).length < 2):=fun q=>hu ⟨hu0,q⟩
    rw [hlen,hk] at h1
    rw [hk]
    simp only [Taf,Taj] at h1 ⊢
    omega
  ·intro o' d' ho' hd' i a hi
   simp only [appT,Tm.op] at ho'
   rw [ho] at ho'
   injection ho' with ho'
   subst ho'
   rw [hd] at hd'
   injection hd' with hd'
   subst hd'
   simp only [appT,Tm.args] at hi ⊢
   have hm:=Tab hi
   have hf:=hfl a ((hmem a).1 hm)
   refine ⟨fun k hk=>?_,hf.nest,hf.unit,fun hc j p hij hj=>?_⟩
   ·by_cases hax:o.assoc=true∨o.comm=true∨o.unit≠0
    ·obtain ⟨k1,k2,hka,hkk,_⟩:=Opr.two hg ho hd hax
     have hfk:=ZkB hg h0 ho hd hka hkk ha hK a ((hmem a).1 hm)
     rw [hfk]
     have:kd g.sorts k=kd g.sorts k1:=by
      generalize argAt o i=n at hk
      rw [hka] at hk
      match n,hk with
      | 0,hk=>simp only [Tas,Tap] at hk;rw [hk]
      | 1,hk=>simp only [Tat,Tas,Tap] at hk;rw [<- hk,hkk]
      | n+2,hk=>simp at hk
     rw [this]
    ·have has:o.assoc=false:=by cases h:o.assoc with | false=>rfl | true=>exact absurd (.inl h) hax
     have hc:o.comm=false:=by cases h:o.comm with | false=>rfl | true=>exact absurd (.inr (.inl h)) hax
     have hu0:o.unit=0:=Classical.byContradiction fun q=>hax (.inr (.inr q))
     rw [srtO,if_neg (by rw [hc];simp),ZkC has hu0] at hi
     obtain ⟨k',h1,h2⟩:=hK i a hi
     rw [hk] at h1
     injection h1 with h1
     rw [h2,h1]
   ·rw [srtO,if_pos hc] at hi hj
    exact (Zb9 _).get om hj hi
  ·rw [ZaS,if_neg hneg]
   simp only [appT,Tm.op]
   rw [Zif ho hd]
theorem ZaO.ok {g:Sgn} (hg:SgnOk g):∀ (n:Nat) (t:Tm),sizeTm t < n->ZaO g t->okTm t:=by
 intro n
 induction n with
 | zero=>intro t h;omega
 | succ n ih =>
  intro t hn hf
  obtain ⟨h1,h2,_⟩:=Zbh.1 hf
  have hargs:Zaz t.args:=by
   have:∀ l:List Tm,(∀ a∈l,okTm a)->Zaz l:=fun l=>by
    induction l with
    | nil=>intro _;trivial
    | cons x xs ih=>intro h;exact ⟨h x Tar,ih fun a ha=>h a (Tak _ ha)⟩
   refine this _ fun a ha=>ih a ?_ (h2 a ha)
   have:=Zbb ha
   rw [ZaX] at hn
   omega
  rw [Zfi]
  have hsn:g.sorts.names.length<=8:=hg.sorts.n8
  rcases h1 with hv | ⟨o,d,hA⟩
  ·obtain ⟨v1,v2,v3,v4,v5⟩:=hv
   have:t.name.size<=12:=by unfold Zbm at v2;simp only [Taq,decide_eq_true_eq] at v2;exact v2.1.1.1.2
   exact ⟨by unfold I64;omega,by unfold maxLen;omega,by unfold I64;omega,hargs⟩
  ·have h3:=hA.lo
   have h4:=(Tac.1 hA.at').1
   have h5:=hg.len
   rw [hA.nm,hA.so]
   exact ⟨by unfold I64;omega,by simp [maxLen],by unfold I64;omega,hargs⟩
theorem TermOk.ok {g:Sgn} (hg:SgnOk g) {t:Tm} (h:TermOk g t):okTm t:=ZaO.ok hg _ t (Tam _) h.form
end Go.Proofs.YtffmjghcpgpfpaaGreatDoor
namespace Go.Proofs.YtffmjghcpgpfpaaGreatDoor
theorem ZeH (m p:Nat) (a b:Bool):(2 * m+a.toNat) &&& (2 * p+b.toNat)=2 * (m &&& p)+(a && b).toNat:=by
 apply Nat.eq_of_testBit_eq
 intro i
 rw [Nat.testBit_and]
 cases i with
 | zero=>simp only [Nat.testBit_zero];cases a <;> cases b <;> simp [Nat.add_mod]
 | succ i =>
  simp only [Nat.testBit_succ]
  have h:∀ (n:Nat) (c:Bool),(2 * n+c.toNat) / 2=n:=fun n c=>by cases c <;> simp <;> omega
  rw [h,h,h,Nat.testBit_and]
theorem Zdy (n:Nat):∃ m,∃ a:Bool,n=2 * m+a.toNat:=by
 refine ⟨n / 2,decide (n % 2=1),?_⟩
 rcases Nat.mod_two_eq_zero_or_one n with h | h
 ·rw [h];simp;omega
 ·rw [h];simp;omega
theorem ZuK {m p:Nat} {a b:Bool}:2 * m+a.toNat=2 * p+b.toNat ↔ m=p∧a=b:=by
 constructor
 ·intro h;cases a <;> cases b <;> simp_all <;> omega
 ·rintro ⟨rfl,rfl⟩;rfl
theorem ZnZ {q m:Nat} (h:q &&& m=q):q<=m:=by rw [<- h];exact Nat.and_le_right
theorem Zqo:∀ (m p q:Nat),p &&& m=p->q &&& m=q->q < p->q<=(p - 1) &&& m:=by
 intro m
 induction m using Nat.strongRecOn with
 | ind m ih =>
 intro p q hp hq hlt
 by_cases hm:m=0
 ·subst hm;simp at hp hq;omega
 obtain ⟨m',a,rfl⟩:=Zdy m
 obtain ⟨p',b,rfl⟩:=Zdy p
 obtain ⟨q',c,rfl⟩:=Zdy q
 rw [ZeH,ZuK] at hp hq
 have hm':m' < 2 * m'+a.toNat:=by cases a <;> simp at hm ⊢ <;> omega
 cases b with
 | true =>
  have e:2 * p'+true.toNat - 1=2 * p'+false.toNat:=by simp
  rw [e,ZeH,hp.1]
  cases c <;> simp at hlt hq ⊢ <;> omega
 | false =>
  have hlt':q' < p':=by cases c <;> simp at hlt <;> omega
  have e:2 * p'+false.toNat - 1=2 * (p' - 1)+true.toNat:=by simp;omega
  rw [e,ZeH]
  have:=ih m' hm' p' q' hp.1 hq.1 hlt'
  have h2:=hq.2
  cases c <;> cases a <;> simp at h2 ⊢ <;> omega
open Classical in
noncomputable def ofB (P:Nat->Prop):Nat->Nat
 | 0=>0
 | n+1=>ofB P n ||| (if P n then 2 ^ n else 0)
theorem Zc9 (P:Nat->Prop):∀ (n i:Nat),(ofB P n).testBit i=true ↔ i < n∧P i
 | 0,i=>by simp [ofB]
 | n+1,i=>by
  rw [ofB,Nat.testBit_or,Bool.or_eq_true,Zc9 P n i]
  by_cases h:P n
  ·rw [if_pos h,Nat.testBit_two_pow]
   simp only [decide_eq_true_eq]
   constructor
   ·rintro (⟨h1,h2⟩ | rfl)
    ·exact ⟨by omega,h2⟩
    ·exact ⟨by omega,h⟩
   ·rintro ⟨h1,h2⟩
    by_cases h3:n=i
    ·exact .inr h3
    ·exact .inl ⟨by omega,h2⟩
  ·rw [if_neg h]
   simp only [Nat.zero_testBit,Tal,or_false]
   constructor
   ·rintro ⟨h1,h2⟩;exact ⟨by omega,h2⟩
   ·rintro ⟨h1,h2⟩
    by_cases h3:i=n
    ·subst h3;exact absurd h2 h
    ·exact ⟨by omega,h2⟩
theorem ZbW (P:Nat->Prop) (n:Nat):ofB P n < 2 ^ n:=by
 apply Nat.lt_pow_two_of_testBit
 intro i hi
 cases h:(ofB P n).testBit i with
 | false=>rfl
 | true=>have:=((Zc9 P n i).1 h).1;omega
theorem Zjq {v n i:Nat} (h:v < 2 ^ n) (hb:v.testBit i=true):i < n:=by
 apply Classical.byContradiction
 intro hc
 have:v < 2 ^ i:=Tbd h (Tbt (by decide) om)
 rw [Tbu this] at hb
 cases hb
theorem Zv7 {v u:Nat} (h:∀ i,v.testBit i=true ↔ u.testBit i=true):v=u:=by
 apply Nat.eq_of_testBit_eq
 intro i
 have:=h i
 cases h1:v.testBit i <;> cases h2:u.testBit i <;> simp_all
theorem Zjr {P:Nat->Prop} {n v:Nat} (hv:v < 2 ^ n) (h:∀ i,i < n->(v.testBit i=true ↔ P i)):v=ofB P n:=by
 apply Zv7
 intro i
 rw [Zc9]
 constructor
 ·intro hb
  have:=Zjq hv hb
  exact ⟨this,(h i this).1 hb⟩
 ·rintro ⟨h1,h2⟩;exact (h i h1).2 h2
theorem ZaZ {P Q:Nat->Prop} {n:Nat} (h:∀ i,i < n->(P i ↔ Q i)):ofB P n=ofB Q n :=
 Zjr (ZbW P n) fun i hi=>by rw [Zc9,h i hi];exact ⟨fun x=>x.2,fun x=>⟨hi,x⟩⟩
inductive BagB (R:Nat->Nat->Nat->Prop) (sets:List Nat):Nat->Nat->Prop
 | leaf {i b s:Nat}:sets[i]?=some s->s.testBit b=true->BagB R sets (2 ^ i) b
 | node {p q a c b:Nat}:p≠0->q≠0->p &&& q=0->BagB R sets p a->BagB R sets q c->R a c b->BagB R sets (p ||| q) b
inductive ChB (R:Nat->Nat->Nat->Prop) (sets:List Nat):Nat->Nat->Nat->Prop
 | leaf {i b s:Nat}:sets[i]?=some s->s.testBit b=true->ChB R sets i (i+1) b
 | node {i k j a c b:Nat}:i < k->k < j->ChB R sets i k a->ChB R sets k j c->R a c b->ChB R sets i j b
def Two (R:Nat->Nat->Nat->Prop) (s t b:Nat):Prop:=∃ a c,s.testBit a=true∧t.testBit c=true∧R a c b
theorem Zm3 (i j:Nat):(2 ^ i).testBit j=true ↔ i=j:=by rw [Nat.testBit_two_pow];simp
theorem ZkZ {p:Nat} (h:p≠0):∃ i,p.testBit i=true:=by
 apply Classical.byContradiction
 intro hc
 apply h
 apply Nat.eq_of_testBit_eq
 intro i
 cases hb:p.testBit i with
 | false=>simp
 | true=>exact absurd ⟨i,hb⟩ hc
theorem Zm4 {p q i:Nat} (h:p &&& q=0) (h1:p.testBit i=true) (h2:q.testBit i=true):False:=by
 have:=congrArg (fun x=>x.testBit i) h
 simp [h1,h2] at this
theorem Zv8 {p q i:Nat} (hp:p≠0) (hq:q≠0) (h:p &&& q=0):p ||| q≠2 ^ i:=by
 intro e
 obtain ⟨a,ha⟩:=ZkZ hp
 obtain ⟨c,hc⟩:=ZkZ hq
 have h1:(2 ^ i).testBit a=true:=by rw [<- e,Nat.testBit_or,ha];rfl
 have h2:(2 ^ i).testBit c=true:=by rw [<- e,Nat.testBit_or,hc];simp
 rw [Zm3] at h1 h2
 subst h1;subst h2
 exact Zm4 h ha hc
theorem Zk0 {R:Nat->Nat->Nat->Prop} {sets:List Nat} {i s b:Nat} (hs:sets[i]?=some s):BagB R sets (2 ^ i) b ↔ s.testBit b=true:=by
 constructor
 ·intro h
  generalize hm:2 ^ i=m at h
  cases h with
  | leaf h1 h2 =>
   have:=(Nat.pow_right_inj (by decide)).1 hm
   subst this
   rw [hs] at h1;injection h1 with h1;subst h1;exact h2
  | node h1 h2 h3 _ _ _=>exact absurd hm.symm (Zv8 h1 h2 h3)
 ·exact fun h=>.leaf hs h
theorem ZHb {p q:Nat} (h:p &&& q=0):(p ||| q) ^^^ p=q:=by
 apply Nat.eq_of_testBit_eq
 intro i
 rw [Nat.testBit_xor,Nat.testBit_or]
 cases h1:p.testBit i <;> cases h2:q.testBit i <;> simp
 exact absurd h1 (by intro h1;exact Zm4 h h1 h2)
theorem ZuL {p m:Nat} (h:p &&& m=p) {i:Nat} (hi:p.testBit i=true):m.testBit i=true:=by
 rw [<- h,Nat.testBit_and] at hi;simp at hi;exact hi.2
theorem ZuM {p m:Nat} (h:p &&& m=p):p &&& (m ^^^ p)=0∧p ||| (m ^^^ p)=m:=by
 constructor
 ·apply Nat.eq_of_testBit_eq
  intro i
  rw [Nat.testBit_and,Nat.testBit_xor]
  cases h1:p.testBit i with
  | false=>simp
  | true=>simp [ZuL h h1]
 ·apply Nat.eq_of_testBit_eq
  intro i
  rw [Nat.testBit_or,Nat.testBit_xor]
  cases h1:p.testBit i with
  | false=>simp
  | true=>simp [ZuL h h1]
theorem Zqp {p m:Nat} (h:p≠m):m ^^^ p≠0:=by
 intro e
 apply h
 apply Nat.eq_of_testBit_eq
 intro i
 have:=congrArg (fun x=>x.testBit i) e
 rw [Nat.testBit_xor] at this
 cases h1:p.testBit i <;> cases h2:m.testBit i <;> simp [h1,h2] at this ⊢
theorem Zqq {R:Nat->Nat->Nat->Prop} {sets:List Nat} {m b:Nat} (hm:∀ i,m≠2 ^ i):BagB R sets m b ↔ ∃ p,p≠0∧p≠m∧p &&& m=p∧∃ a c,BagB R sets p a∧BagB R sets (m ^^^ p) c∧R a c b:=by
 constructor
 ·intro h
  cases h with
  | leaf=>exact absurd rfl (hm _)
  | node h1 h2 h3 h4 h5 h6 =>
   rename_i p q a c
   refine ⟨p,h1,?_,?_,a,c,h4,?_,h6⟩
   ·intro e
    obtain ⟨i,hi⟩:=ZkZ h2
    exact Zm4 h3 (by rw [e,Nat.testBit_or,hi];simp) hi
   ·apply Nat.eq_of_testBit_eq;intro i;rw [Nat.testBit_and,Nat.testBit_or];cases p.testBit i <;> simp
   ·rw [ZHb h3];exact h5
 ·rintro ⟨p,h1,h2,h3,a,c,h4,h5,h6⟩
  have:=ZuM h3
  have h:=BagB.node h1 (Zqp h2) this.1 h4 h5 h6
  rw [this.2] at h
  exact h
theorem ZhQ {R:Nat->Nat->Nat->Prop} {sets:List Nat} {i s b:Nat} (hs:sets[i]?=some s):ChB R sets i (i+1) b ↔ s.testBit b=true:=by
 constructor
 ·intro h
  generalize hj:i+1=j at h
  cases h with
  | leaf h1 h2=>rw [hs] at h1;injection h1 with h1;subst h1;exact h2
  | node h1 h2 _ _ _=>omega
 ·exact fun h=>.leaf hs h
theorem ZuN {R:Nat->Nat->Nat->Prop} {sets:List Nat} {i j b:Nat} (hij:i+1 < j):ChB R sets i j b ↔ ∃ k,i < k∧k < j∧∃ a c,ChB R sets i k a∧ChB R sets k j c∧R a c b:=by
 constructor
 ·intro h
  cases h with
  | leaf=>omega
  | node h1 h2 h3 h4 h5=>exact ⟨_,h1,h2,_,_,h3,h4,h5⟩
 ·rintro ⟨k,h1,h2,a,c,h3,h4,h5⟩;exact .node h1 h2 h3 h4 h5
theorem ZHc {R:Nat->Nat->Nat->Prop} {s t b:Nat}:ChB R [s,t] 0 2 b ↔ Two R s t b:=by
 rw [ZuN om]
 constructor
 ·rintro ⟨k,h1,h2,a,c,h3,h4,h5⟩
  obtain rfl:k=1:=by omega
  exact ⟨a,c,(ZhQ (i:=0) rfl).1 h3,(ZhQ (i:=1) rfl).1 h4,h5⟩
 ·rintro ⟨a,c,h3,h4,h5⟩
  exact ⟨1,by omega,by omega,a,c,(ZhQ (i:=0) rfl).2 h3,(ZhQ (i:=1) rfl).2 h4,h5⟩
theorem ZAo:∀ i,3≠2 ^ i
 | 0=>by decide
 | 1=>by decide
 | i+2=>by rw [Nat.pow_succ];omega
theorem ZGn {R:Nat->Nat->Nat->Prop} {s t b:Nat}:BagB R [s,t] 3 b ↔ Two R s t b∨Two R t s b:=by
 rw [Zqq ZAo]
 have l0:∀ x,BagB R [s,t] 1 x ↔ s.testBit x=true:=fun x=>Zk0 (i:=0) rfl
 have l1:∀ x,BagB R [s,t] 2 x ↔ t.testBit x=true:=fun x=>Zk0 (i:=1) rfl
 constructor
 ·rintro ⟨p,h1,h2,h3,a,c,h4,h5,h6⟩
  have:=ZnZ h3
  rcases (by omega:p=1∨p=2) with rfl | rfl
  ·exact .inl ⟨a,c,(l0 a).1 h4,(l1 c).1 h5,h6⟩
  ·exact .inr ⟨a,c,(l1 a).1 h4,(l0 c).1 h5,h6⟩
 ·rintro (⟨a,c,h4,h5,h6⟩ | ⟨a,c,h4,h5,h6⟩)
  ·exact ⟨1,by decide,by decide,by decide,a,c,(l0 a).2 h4,(l1 c).2 h5,h6⟩
  ·exact ⟨2,by decide,by decide,by decide,a,c,(l1 a).2 h4,(l0 c).2 h5,h6⟩
end Go.Proofs.YtffmjghcpgpfpaaGreatDoor
namespace Go.Proofs.YtffmjghcpgpfpaaGreatDoor
open Go.RowKit
theorem ZfP (P Q:Nat->Prop) (n:Nat):ofB P n ||| ofB Q n=ofB (fun b=>P b∨Q b) n :=
 Zjr (Nat.or_lt_two_pow (ZbW P n) (ZbW Q n)) fun i hi=>by
  rw [Nat.testBit_or,Bool.or_eq_true,Zc9,Zc9]
  simp only [hi,true_and]
theorem ZgP {P:Nat->Prop} {n:Nat} (h:∀ i,i < n->¬ P i):ofB P n=0 :=
 (Zjr (Nat.pos_of_ne_zero (by have:=Nat.one_le_two_pow (n:=n);omega)) fun i hi=>by
  rw [Nat.zero_testBit]
  exact ⟨fun e=>(by cases e),fun e=>absurd e (h i hi)⟩).symm
theorem ZgQ {v n:Nat} (h:v < 2 ^ n):ofB (fun b=>v.testBit b=true) n=v:=(Zjr h fun i _=>Iff.rfl).symm
def upk (g:Sgn) (k:Int):Nat:=(up g.sorts).getD k.toNat 0
theorem ZhR {g:Sgn} (hs:SortsOk g.sorts) {k:Int} (h0:0<=k) (h1:k < g.sorts.names.length):(up g.sorts)[k.toNat]?=some (upk g k)∧upk g k < 2 ^ g.sorts.names.length :=
 (ZdT (SortsOk.subsIn hs.subs)).get om
def Zdi (g:Sgn) (o:Opr) (sets:List Nat) (b:Nat):Prop:=∃ d∈o.decls,(∀ (i:Nat) k s,d.args[i]?=some k->sets[i]?=some s->s.testBit k.toNat=true)∧(upk g d.res).testBit b=true
def Rel2 (g:Sgn) (o:Opr) (a c b:Nat):Prop:=∃ d∈o.decls,d.args.map Int.toNat=[a,c]∧(upk g d.res).testBit b=true
def AnyB (g:Sgn) (o:Opr) (sets:List Nat) (b:Nat):Prop:=Zdi g o sets b∨(o.comm=true∧Zdi g o sets.reverse b)
def AppB (g:Sgn) (o:Opr) (sets:List Nat) (b:Nat):Prop:=if o.assoc=true then (if o.comm=true then BagB (Rel2 g o) sets (2 ^ sets.length - 1) b else ChB (Rel2 g o) sets 0 sets.length b) else AnyB g o sets b
noncomputable def appS (g:Sgn) (o:Opr) (sets:List Nat):Nat:=ofB (AppB g o sets) g.sorts.names.length
mutual
noncomputable def sortsTm (g:Sgn):Tm->Nat
 | .mk op _ so args=>if op=-1 then upk g so else match g.ops[op.toNat]? with
  | none=>0
  | some o=>appS g o (Zij g args)
noncomputable def Zij (g:Sgn):List Tm->List Nat
 | []=>[]
 | t::ts=>sortsTm g t::Zij g ts
end
theorem Zjs (g:Sgn):∀ (l:List Tm),Zij g l=l.map (sortsTm g)
 | []=>rfl
 | t::ts=>by simp only [Zij,Tbv,Zjs g ts]
theorem ZdO {g:Sgn} {t:Tm} (h:t.op=-1):sortsTm g t=upk g t.sort:=by
 obtain ⟨op,nm,so,args⟩:=t
 simp only [Tm.op] at h
 simp only [sortsTm,if_pos h,Tm.sort]
theorem ZfB {g:Sgn} {t:Tm} {o:Opr} (h:t.op≠-1) (ho:g.ops[t.op.toNat]?=some o):sortsTm g t=appS g o (t.args.map (sortsTm g)):=by
 obtain ⟨op,nm,so,args⟩:=t
 simp only [Tm.op] at h ho
 simp only [sortsTm,if_neg h,ho,Tm.args,Zjs]
theorem Zek {g:Sgn} (hg:SgnOk g) {t:Tm} (ht:ZcI g t):sortsTm g t < 2 ^ g.sorts.names.length:=by
 rcases ht with hv | ⟨o,d,hA⟩
 ·rw [ZdO hv.1]
  exact (ZhR hg.sorts hv.2.2.1 hv.2.2.2.1).2
 ·rw [ZfB hA.op hA.at']
  exact ZbW _ _
theorem Rel2.lt {g:Sgn} (hg:SgnOk g) {o:Opr} (ho:o∈g.ops) {a c b:Nat} (h:Rel2 g o a c b):b < g.sorts.names.length:=by
 obtain ⟨d,hd,_,hb⟩:=h
 have hD:=hg.decls o ho
 obtain ⟨f,hf,_⟩:=hD.first
 have hd':=hD.all f hf d hd
 exact Zjq (ZhR hg.sorts hd'.res.1 hd'.res.2).2 hb
theorem ZeI {g:Sgn} {o:Opr} (h2:∀ d∈o.decls,d.args.length=2) {s t b:Nat}:Zdi g o [s,t] b ↔ Two (Rel2 g o) s t b:=by
 constructor
 ·rintro ⟨d,hd,h1,hb⟩
  obtain ⟨x,y,hxy⟩:=Zp4 (h2 d hd)
  rw [hxy] at h1
  exact ⟨x.toNat,y.toNat,h1 0 x s rfl rfl,h1 1 y t rfl rfl,d,hd,by rw [hxy];rfl,hb⟩
 ·rintro ⟨a,c,ha,hc,d,hd,he,hb⟩
  obtain ⟨x,y,hxy⟩:=Zp4 (h2 d hd)
  rw [hxy] at he
  simp only [Tbv,List.map_nil,List.cons.injEq,and_true] at he
  obtain ⟨rfl,rfl⟩:=he
  refine ⟨d,hd,fun i k u hk hu=>?_,hb⟩
  rw [hxy] at hk
  match i,hk,hu with
  | 0,hk,hu =>
   simp only [Tas,Tap] at hk hu
   subst hk;subst hu;exact ha
  | 1,hk,hu =>
   simp only [Tat,Tas,Tap] at hk hu
   subst hk;subst hu;exact hc
  | i+2,hk,hu=>simp at hk
theorem Opr.deg2 {g:Sgn} (hg:SgnOk g) {i:Nat} {o:Opr} (ho:g.ops[i]?=some o) (h:o.assoc=true∨o.comm=true∨o.unit≠0):∀ d∈o.decls,d.args.length=2:=by
 intro d hd
 have hm:=Tab ho
 have hD:=hg.decls o hm
 obtain ⟨f,hf,_⟩:=hD.first
 rw [(hD.all f hf d hd).len]
 exact ((hg.axs o hm).two h f hf).1
theorem ZGo {g:Sgn} (hg:SgnOk g) {i:Nat} {o:Opr} (ho:g.ops[i]?=some o) {sets:List Nat} (h:o.assoc=true->sets.length=2):ofB (AnyB g o sets) g.sorts.names.length=appS g o sets:=by
 unfold appS
 refine ZaZ fun b _=>?_
 unfold AppB
 cases ha:o.assoc with
 | false=>rw [if_neg (by simp)]
 | true =>
  rw [if_pos rfl]
  have h2:=Opr.deg2 hg ho (.inl ha)
  obtain ⟨s,t,hst⟩:∃ s t,sets=[s,t]:=by
   match sets,h ha with
   | [s,t],_=>exact ⟨s,t,rfl⟩
  subst hst
  unfold AnyB
  simp only [List.reverse_cons,List.reverse_nil,Tag,List.singleton_append]
  rw [ZeI h2,ZeI h2]
  cases hc:o.comm with
  | false =>
   rw [if_neg (by simp)]
   simp only [Taf,Taj]
   rw [ZHc]
   simp
  | true =>
   rw [if_pos rfl]
   simp only [Taf,Taj]
   rw [show 2 ^ (0+1+1) - 1=3 from rfl,ZGn]
   simp
theorem BagB.lt {R:Nat->Nat->Nat->Prop} {sets:List Nat} {N:Nat} (hs:∀ s∈sets,s < 2 ^ N) (hR:∀ a c b,R a c b->b < N) {m b:Nat} (h:BagB R sets m b):b < N:=by
 cases h with
 | leaf h1 h2=>exact Zjq (hs _ (Tab h1)) h2
 | node _ _ _ _ _ h=>exact hR _ _ _ h
theorem ChB.lt {R:Nat->Nat->Nat->Prop} {sets:List Nat} {N:Nat} (hs:∀ s∈sets,s < 2 ^ N) (hR:∀ a c b,R a c b->b < N) {i j b:Nat} (h:ChB R sets i j b):b < N:=by
 cases h with
 | leaf h1 h2=>exact Zjq (hs _ (Tab h1)) h2
 | node _ _ _ _ h=>exact hR _ _ _ h
def Ze2 (R:Nat->Nat->Nat->Prop) (sets:List Nat) (N m part b:Nat):Prop:=∃ p,part < p∧p≠0∧p≠m∧p &&& m=p∧Two R (ofB (BagB R sets p) N) (ofB (BagB R sets (m ^^^ p)) N) b
theorem Zj5 {R:Nat->Nat->Nat->Prop} {P Q:Nat->Prop} {N b:Nat} (hP:∀ b,P b->b < N) (hQ:∀ b,Q b->b < N):Two R (ofB P N) (ofB Q N) b ↔ ∃ a c,P a∧Q c∧R a c b:=by
 unfold Two
 constructor
 ·rintro ⟨a,c,h1,h2,h3⟩
  exact ⟨a,c,((Zc9 _ _ _).1 h1).2,((Zc9 _ _ _).1 h2).2,h3⟩
 ·rintro ⟨a,c,h1,h2,h3⟩
  exact ⟨a,c,(Zc9 _ _ _).2 ⟨hP a h1,h1⟩,(Zc9 _ _ _).2 ⟨hQ c h2,h2⟩,h3⟩
theorem Zl8 {R:Nat->Nat->Nat->Prop} {sets:List Nat} {N m:Nat} (hm:m≠0):ofB (Ze2 R sets N m ((m - 1) &&& m)) N=0:=ZgP fun b _ h=>by
 obtain ⟨p,h1,h2,h3,h4,_⟩:=h
 have h5:=ZnZ h4
 have:=Zqo m m p (Nat.and_self m) h4 om
 omega
theorem Zn0 {R:Nat->Nat->Nat->Prop} {sets:List Nat} {N m p b:Nat} (hp:p≠0) (hm:p≠m) (h:p &&& m=p):Ze2 R sets N m ((p - 1) &&& m) b ↔ Ze2 R sets N m p b∨Two R (ofB (BagB R sets p) N) (ofB (BagB R sets (m ^^^ p)) N) b:=by
 constructor
 ·rintro ⟨q,h1,h2,h3,h4,h5⟩
  by_cases hq:p < q
  ·exact .inl ⟨q,hq,h2,h3,h4,h5⟩
  ·by_cases e:q=p
   ·subst e;exact .inr h5
   ·have:=Zqo m p q h h4 om;omega
 ·have hlt:(p - 1) &&& m < p:=by have:(p - 1) &&& m<=p - 1:=Nat.and_le_left;omega
  rintro (⟨q,h1,h2,h3,h4,h5⟩ | h5)
  ·exact ⟨q,by omega,h2,h3,h4,h5⟩
  ·exact ⟨p,hlt,hp,hm,h,h5⟩
theorem Zqr {R:Nat->Nat->Nat->Prop} {sets:List Nat} {N m:Nat} (hs:∀ s∈sets,s < 2 ^ N) (hR:∀ a c b,R a c b->b < N) (hm:∀ i,m≠2 ^ i):ofB (Ze2 R sets N m 0) N=ofB (BagB R sets m) N:=ZaZ fun b _=>by
 rw [Zqq hm]
 unfold Ze2
 constructor
 ·rintro ⟨p,h1,h2,h3,h4,h5⟩
  obtain ⟨a,c,h6,h7,h8⟩:=(Zj5 (fun b hb=>BagB.lt hs hR hb) (fun b hb=>BagB.lt hs hR hb)).1 h5
  exact ⟨p,h2,h3,h4,a,c,h6,h7,h8⟩
 ·rintro ⟨p,h2,h3,h4,a,c,h6,h7,h8⟩
  exact ⟨p,by omega,h2,h3,h4,(Zj5 (fun b hb=>BagB.lt hs hR hb) (fun b hb=>BagB.lt hs hR hb)).2 ⟨a,c,h6,h7,h8⟩⟩
def CutB (R:Nat->Nat->Nat->Prop) (sets:List Nat) (N i j at' b:Nat):Prop:=∃ k,i < k∧k < at'∧k < j∧Two R (ofB (ChB R sets i k) N) (ofB (ChB R sets k j) N) b
theorem Zn1 {R:Nat->Nat->Nat->Prop} {sets:List Nat} {N i j:Nat}:ofB (CutB R sets N i j (i+1)) N=0:=ZgP fun b _ h=>by
 obtain ⟨k,h1,h2,_⟩:=h
 omega
theorem Zqs {R:Nat->Nat->Nat->Prop} {sets:List Nat} {N i j k b:Nat} (h1:i < k) (h2:k < j):CutB R sets N i j (k+1) b ↔ CutB R sets N i j k b∨Two R (ofB (ChB R sets i k) N) (ofB (ChB R sets k j) N) b:=by
 constructor
 ·rintro ⟨q,q1,q2,q3,q4⟩
  by_cases e:q=k
  ·subst e;exact .inr q4
  ·exact .inl ⟨q,q1,by omega,q3,q4⟩
 ·rintro (⟨q,q1,q2,q3,q4⟩ | h)
  ·exact ⟨q,q1,by omega,q3,q4⟩
  ·exact ⟨k,h1,by omega,h2,h⟩
theorem ZuO {R:Nat->Nat->Nat->Prop} {sets:List Nat} {N i j:Nat} (hs:∀ s∈sets,s < 2 ^ N) (hR:∀ a c b,R a c b->b < N) (hij:i+1 < j):ofB (CutB R sets N i j j) N=ofB (ChB R sets i j) N:=ZaZ fun b _=>by
 rw [ZuN hij]
 unfold CutB
 constructor
 ·rintro ⟨k,h1,h2,h3,h5⟩
  obtain ⟨a,c,h6,h7,h8⟩:=(Zj5 (fun b hb=>ChB.lt hs hR hb) (fun b hb=>ChB.lt hs hR hb)).1 h5
  exact ⟨k,h1,h2,a,c,h6,h7,h8⟩
 ·rintro ⟨k,h1,h2,a,c,h6,h7,h8⟩
  exact ⟨k,h1,h2,h2,(Zj5 (fun b hb=>ChB.lt hs hR hb) (fun b hb=>ChB.lt hs hR hb)).2 ⟨a,c,h6,h7,h8⟩⟩
theorem ZuP {R:Nat->Nat->Nat->Prop} {sets:List Nat} {N i s:Nat} (hs:sets[i]?=some s) (h:s < 2 ^ N):ofB (BagB R sets (2 ^ i)) N=s:=by
 rw [show ofB (BagB R sets (2 ^ i)) N=ofB (fun b=>s.testBit b=true) N from ZaZ fun b _=>Zk0 hs,ZgQ h]
theorem ZAp {R:Nat->Nat->Nat->Prop} {sets:List Nat} {N i s:Nat} (hs:sets[i]?=some s) (h:s < 2 ^ N):ofB (ChB R sets i (i+1)) N=s:=by
 rw [show ofB (ChB R sets i (i+1)) N=ofB (fun b=>s.testBit b=true) N from ZaZ fun b _=>ZhQ hs,ZgQ h]
inductive BagL (R:Nat->Nat->Nat->Prop):List Nat->Nat->Prop
 | leaf {s b:Nat}:s.testBit b=true->BagL R [s] b
 | node {L A B:List Nat} {a c b:Nat}:L.Perm (A++B)->BagL R A a->BagL R B c->R a c b->BagL R L b
def pick:List Nat->Nat->List Nat
 | [],_=>[]
 | s::l,m=>if m % 2=1 then s::pick l (m / 2) else pick l (m / 2)
theorem Zb6 (s:Nat) (l:List Nat) (m:Nat) (a:Bool):pick (s::l) (2 * m+a.toNat)=if a=true then s::pick l m else pick l m:=by
 cases a
 ·rw [pick,if_neg (by simp)];simp
 ·rw [pick,if_pos (by simp),if_pos rfl]
  congr 2
  simp;omega
theorem Zhi:∀ (l:List Nat),pick l 0=[]
 | []=>rfl
 | s::l=>by rw [pick,if_neg (by decide)];exact Zhi l
theorem Zqt:∀ {l:List Nat} {i s:Nat},l[i]?=some s->pick l (2 ^ i)=[s]
 | x::l,0,s,h=>by
  simp only [Tas,Tap] at h
  subst h
  rw [show 2 ^ 0=2 * 0+true.toNat from rfl,Zb6,if_pos rfl,Zhi]
 | x::l,i+1,s,h=>by
  simp only [Tat] at h
  rw [show 2 ^ (i+1)=2 * 2 ^ i+false.toNat by rw [Nat.pow_succ];simp;omega,Zb6,if_neg (by simp),Zqt h]
theorem ZAq (n:Nat):2 ^ (n+1) - 1=2 * (2 ^ n - 1)+true.toNat:=by
 have:=Nat.one_le_two_pow (n:=n)
 rw [Nat.pow_succ];simp;omega
theorem Zjt:∀ (l:List Nat),pick l (2 ^ l.length - 1)=l
 | []=>rfl
 | s::l=>by rw [Taf,ZAq,Zb6,if_pos rfl,Zjt l]
theorem Zl9 (m p:Nat) (a b:Bool):(2 * m+a.toNat) ||| (2 * p+b.toNat)=2 * (m ||| p)+(a || b).toNat:=by
 apply Nat.eq_of_testBit_eq
 intro i
 rw [Nat.testBit_or]
 cases i with
 | zero=>cases a <;> cases b <;> simp [Nat.testBit_zero] <;> omega
 | succ i =>
  rw [Nat.testBit_succ,Nat.testBit_succ,Nat.testBit_succ]
  have e:∀ (x:Nat) (c:Bool),(2 * x+c.toNat) / 2=x:=fun x c=>by cases c <;> simp <;> omega
  rw [e,e,e,Nat.testBit_or]
theorem ZuQ:∀ (l:List Nat) (p q:Nat),p &&& q=0->(pick l (p ||| q)).Perm (pick l p++pick l q)
 | [],_,_,_=>.nil
 | s::l,p,q,h=>by
  obtain ⟨p,a,rfl⟩:=Zdy p
  obtain ⟨q,b,rfl⟩:=Zdy q
  rw [ZeH,show 0=2 * 0+false.toNat from rfl,ZuK] at h
  have ih:=ZuQ l p q h.1
  rw [Zl9,Zb6,Zb6,Zb6]
  cases a <;> cases b
  ·simpa using ih
  ·simp only [Bool.false_or,if_pos rfl,Tal,if_false]
   exact (ih.cons s).trans Tbx.symm
  ·simpa using ih
  ·simp at h
theorem Zqu:∀ {l:List Nat} {m:Nat},m < 2 ^ l.length->pick l m=[]->m=0
 | [],m,h,_=>by simpa using h
 | s::l,m,h,hp=>by
  obtain ⟨m,a,rfl⟩:=Zdy m
  rw [Zb6] at hp
  rw [Taf,Nat.pow_succ] at h
  cases a
  ·have:=Zqu (l:=l) (m:=m) (by simp at h;omega) (by simpa using hp)
   subst this;rfl
  ·simp at hp
theorem Zqv:∀ {l:List Nat} {m s:Nat},m < 2 ^ l.length->pick l m=[s]->∃ i,l[i]?=some s∧m=2 ^ i
 | [],m,s,_,h=>by simp [pick] at h
 | x::l,m,s,h,hp=>by
  obtain ⟨m,a,rfl⟩:=Zdy m
  rw [Zb6] at hp
  rw [Taf,Nat.pow_succ] at h
  cases a
  ·obtain ⟨i,h1,h2⟩:=Zqv (l:=l) (m:=m) (s:=s) (by simp at h;omega) (by simpa using hp)
   exact ⟨i+1,by simpa using h1,by rw [h2,Nat.pow_succ];simp;omega⟩
  ·simp only [if_true,List.cons.injEq] at hp
   have:=Zqu (l:=l) (m:=m) (by simp at h;omega) hp.2
   subst this
   exact ⟨0,by simp [hp.1],rfl⟩
theorem Zgg:∀ {l:List Nat} {m:Nat} {A B:List Nat},m < 2 ^ l.length->(pick l m).Perm (A++B)->∃ p q,p &&& q=0∧p ||| q=m∧p < 2 ^ l.length∧q < 2 ^ l.length∧(pick l p).Perm A∧(pick l q).Perm B
 | [],m,A,B,h,hp=>by
  have e:m=0:=by simpa using h
  subst e
  have:=hp.length_eq
  simp only [pick,Taj,Tad] at this
  have hA:A=[]:=Tan om
  have hB:B=[]:=Tan om
  subst hA hB
  exact ⟨0,0,rfl,rfl,by simp,by simp,.nil,.nil⟩
 | s::l,m,A,B,h,hp=>by
  obtain ⟨m,a,rfl⟩:=Zdy m
  rw [Zb6] at hp
  rw [Taf,Nat.pow_succ] at h ⊢
  have hm:m < 2 ^ l.length:=by cases a <;> simp at h <;> omega
  cases a
  ·obtain ⟨p,q,h1,h2,h3,h4,h5,h6⟩:=Zgg (l:=l) hm (by simpa using hp)
   refine ⟨2 * p+false.toNat,2 * q+false.toNat,by rw [ZeH,h1];rfl,by rw [Zl9,h2];rfl,by simp;omega,by simp;omega,?_,?_⟩
   ·rw [Zb6];simpa using h5
   ·rw [Zb6];simpa using h6
  ·simp only [if_true] at hp
   have hs:s∈A++B:=hp.mem_iff.1 Tar
   rcases Tbh.1 hs with hs | hs
   ·obtain ⟨A1,A2,rfl⟩:=List.append_of_mem hs
    have hp2:(pick l m).Perm ((A1++A2)++B):=by
     have h7:(s::pick l m).Perm (s::((A1++A2)++B)):=hp.trans ((Tbx (a:=s) (l₁:=A1) (l₂:=A2)).append_right B)
     exact h7.cons_inv
    obtain ⟨p,q,h1,h2,h3,h4,h5,h6⟩:=Zgg (l:=l) hm hp2
    refine ⟨2 * p+true.toNat,2 * q+false.toNat,by rw [ZeH,h1];rfl,by rw [Zl9,h2];rfl,by simp;omega,by simp;omega,?_,?_⟩
    ·rw [Zb6,if_pos rfl];exact (h5.cons s).trans Tbx.symm
    ·rw [Zb6];simpa using h6
   ·obtain ⟨B1,B2,rfl⟩:=List.append_of_mem hs
    have hp2:(pick l m).Perm (A++(B1++B2)):=by
     have h7:(s::pick l m).Perm (s::(A++(B1++B2))):=hp.trans (((Tbx (a:=s) (l₁:=B1) (l₂:=B2)).append_left A).trans Tbx)
     exact h7.cons_inv
    obtain ⟨p,q,h1,h2,h3,h4,h5,h6⟩:=Zgg (l:=l) hm hp2
    refine ⟨2 * p+false.toNat,2 * q+true.toNat,by rw [ZeH,h1];rfl,by rw [Zl9,h2];rfl,by simp;omega,by simp;omega,?_,?_⟩
    ·rw [Zb6];simpa using h5
    ·rw [Zb6,if_pos rfl];exact (h6.cons s).trans Tbx.symm
section
variable {R:Nat->Nat->Nat->Prop}
theorem ZGp {L:List Nat} {m b:Nat} (h:BagB R L m b):BagL R (pick L m) b:=by
 induction h with
 | leaf h1 h2=>rw [Zqt h1];exact .leaf h2
 | node _ _ h3 _ _ h6 i1 i2=>exact .node (ZuQ L _ _ h3) i1 i2 h6
theorem BagL.ne {X:List Nat} {b:Nat} (h:BagL R X b):X≠[]:=by
 induction h with
 | leaf h=>simp
 | node hp _ _ _ i1 _ =>
  intro e
  subst e
  have:=hp.length_eq
  simp only [Taj,Tad] at this
  exact i1 (Tan om)
theorem BagL.to {X:List Nat} {b:Nat} (h:BagL R X b):∀ {L:List Nat} {m:Nat},X.Perm (pick L m)->m < 2 ^ L.length->BagB R L m b:=by
 induction h with
 | leaf h =>
  intro L m hp hm
  obtain ⟨i,h1,rfl⟩:=Zqv hm (List.perm_singleton.1 hp.symm)
  exact .leaf h1 h
 | node hp ha hb hr i1 i2 =>
  intro L m hq hm
  obtain ⟨p,q,h1,rfl,h3,h4,h5,h6⟩:=Zgg hm (hq.symm.trans hp)
  refine .node (fun e=>?_) (fun e=>?_) h1 (i1 h5.symm h3) (i2 h6.symm h4) hr
  ·subst e;rw [Zhi] at h5;exact ha.ne (List.nil_perm.1 h5)
  ·subst e;rw [Zhi] at h6;exact hb.ne (List.nil_perm.1 h6)
theorem Zqw {L L':List Nat} (h:L.Perm L') {b:Nat} (hb:BagB R L (2 ^ L.length - 1) b):BagB R L' (2 ^ L'.length - 1) b:=by
 have h1:=ZGp hb
 rw [Zjt] at h1
 exact h1.to (by rw [Zjt];exact h) (by have:=Nat.one_le_two_pow (n:=L'.length);omega)
end
theorem ZB8 {α:Type} {a b:α} {l:List α} (h:[a,b].Perm l):l=[a,b]∨l=[b,a]:=by
 have hl:=h.length_eq
 match l,hl with
 | [x,y],_ =>
  have hx:x∈[a,b]:=h.mem_iff.2 Tar
  rcases Tbg.1 hx with rfl | hx
  ·exact .inl (by rw [List.perm_singleton.1 (List.Perm.cons_inv h).symm])
  ·obtain rfl:x=b:=by simpa using hx
   have h2:[x,a].Perm [x,y]:=(List.Perm.swap a x []).trans h
   exact .inr (by rw [List.perm_singleton.1 (List.Perm.cons_inv h2).symm])
theorem ZAr {g:Sgn} {o:Opr} {l l':List Nat} (hc:o.comm=true) (h2:o.assoc=false->l.length=2) (h:l.Perm l'):appS g o l=appS g o l':=by
 unfold appS
 refine ZaZ fun b _=>?_
 unfold AppB
 cases ha:o.assoc with
 | true =>
  rw [if_pos rfl,if_pos hc,if_pos rfl,if_pos hc]
  exact ⟨Zqw h,Zqw h.symm⟩
 | false =>
  rw [if_neg (by simp),if_neg (by simp)]
  unfold AnyB
  match l,h2 ha with
  | [x,y],_ =>
   rcases ZB8 h with rfl | rfl
   ·exact Iff.rfl
   ·simp only [hc,true_and,List.reverse_cons,List.reverse_nil,Tag,List.singleton_append]
    exact Or.comm
theorem ZB9 {g:Sgn} {o:Opr} {l:List Tm} (f:Tm->Nat) (h2:o.comm=true->o.assoc=false->l.length=2):appS g o ((srtO o l).map f)=appS g o (l.map f):=by
 unfold srtO
 split
 ·rename_i hc
  exact (ZAr hc (fun ha=>by rw [Tax];exact h2 hc ha) ((Za5 l).symm.map f)).symm
 ·rfl
def Adj (subs:List (Int × Int)) (a b:Nat):Prop:=∃ p∈subs,(a=p.1.toNat∧b=p.2.toNat)∨(a=p.2.toNat∧b=p.1.toNat)
inductive Walk (subs:List (Int × Int)) (i:Nat):Nat->Nat->Prop
 | start:Walk subs i 0 i
 | next {r j k:Nat}:Walk subs i r j->Adj subs j k->Walk subs i (r+1) k
theorem Adj.symm {subs:List (Int × Int)} {a b:Nat}:Adj subs a b->Adj subs b a:=fun ⟨p,hp,h⟩=>⟨p,hp,h.elim (fun h=>.inr ⟨h.2,h.1⟩) fun h=>.inl ⟨h.2,h.1⟩⟩
def Wlk (subs:List (Int × Int)) (i j:Nat):Prop:=∃ r,Walk subs i r j
theorem Walk.cons {subs:List (Int × Int)} {i k r j:Nat} (ha:Adj subs i k) (h:Walk subs k r j):Walk subs i (r+1) j:=by
 induction h with
 | start=>exact .next .start ha
 | next _ hb ih=>exact .next ih hb
theorem Wlk.cons {subs:List (Int × Int)} {i k j:Nat} (ha:Adj subs i k) (h:Wlk subs k j):Wlk subs i j:=h.imp' (·+1) fun r h=>h.cons ha
theorem Wlk.symm {subs:List (Int × Int)} {i j:Nat}:Wlk subs i j->Wlk subs j i:=by
 rintro ⟨r,h⟩
 induction h with
 | start=>exact ⟨0,.start⟩
 | next _ hb ih=>exact Wlk.cons hb.symm ih
theorem Wlk.trans {subs:List (Int × Int)} {i j k:Nat} (h:Wlk subs i j) (h2:Wlk subs j k):Wlk subs i k:=by
 obtain ⟨r,h2⟩:=h2
 induction h2 with
 | start=>exact h
 | next _ hb ih=>exact ih.imp' (·+1) fun r h=>.next h hb
theorem Zik {l:List Nat} {i j v:Nat} (h:i < l.length):(l.set i v).getD j 0=if j=i then v else l.getD j 0:=by
 simp only [List.getD]
 by_cases e:j=i
 ·subst e;rw [Tbn h,if_pos rfl];rfl
 ·rw [Tbo (Ne.symm e),if_neg e]
section
variable {n:Nat} {subs:List (Int × Int)}
theorem Zk1 {l:List Nat} (h:KOk n l) {p:Int × Int} (hp:0<=p.1∧p.1 < n∧0<=p.2∧p.2 < n) (i:Nat):(kSub l p).getD i 0=if i=p.2.toNat∨i=p.1.toNat then min (l.getD p.1.toNat 0) (l.getD p.2.toNat 0) else l.getD i 0:=by
 unfold kSub
 rw [Zik (by rw [Tay,h.1];omega),Zik (by rw [h.1];omega)]
 by_cases e:i=p.2.toNat
 ·simp [e]
 ·by_cases e2:i=p.1.toNat
  ·simp [e2]
  ·simp [e,e2]
theorem ZuR {l:List Nat} (h:KOk n l) {p:Int × Int} (hp:0<=p.1∧p.1 < n∧0<=p.2∧p.2 < n) (i:Nat):(kSub l p).getD i 0<=l.getD i 0:=by
 rw [Zk1 h hp]
 split
 ·rename_i e;rcases e with rfl | rfl <;> omega
 ·exact Tah _
theorem Zk2:∀ {subs:List (Int × Int)} {l:List Nat},KOk n l->ZbP n subs->∀ i,(subs.foldl kSub l).getD i 0<=l.getD i 0
 | [],l,_,_,_=>Tah _
 | p::ps,l,h,hs,i=>by
  have hp:=hs p Tar
  exact Tbe (Zk2 (subs:=ps) (h.sub hp) (fun q hq=>hs q (Tak _ hq)) i) (ZuR h hp i)
theorem Zn2:∀ {subs:List (Int × Int)} {l:List Nat},KOk n l->ZbP n subs->∀ {i j},Adj subs i j->(subs.foldl kSub l).getD i 0<=l.getD j 0
 | [],l,_,_,i,j,⟨p,hp,_⟩=>by cases hp
 | p::ps,l,h,hs,i,j,⟨q,hq,e⟩=>by
  have hp:=hs p Tar
  have hs':ZbP n ps:=fun q hq=>hs q (Tak _ hq)
  rcases Tbg.1 hq with rfl | hq
  ·refine Tbe (Zk2 (subs:=ps) (h.sub hp) hs' i) ?_
   rw [Zk1 h hp]
   rcases e with ⟨rfl,rfl⟩ | ⟨rfl,rfl⟩
   ·rw [if_pos (.inr rfl)];omega
   ·rw [if_pos (.inl rfl)];omega
  ·exact Tbe (Zn2 (subs:=ps) (h.sub hp) hs' ⟨q,hq,e⟩) (ZuR h hp j)
theorem Zma (subs:List (Int × Int)):∀ (k:Nat) (l:List Nat),Zct subs (k+1) l=Zct subs k (subs.foldl kSub l)
 | 0,l=>rfl
 | k+1,l=>by rw [Zct,Zma subs k l];rfl
theorem Zqx (hs:ZbP n subs):∀ (k:Nat) {l:List Nat},KOk n l->∀ i,(Zct subs k l).getD i 0<=l.getD i 0
 | 0,l,_,_=>Tah _
 | k+1,l,h,i=>Tbe (Zk2 (KOk.iter hs k h) hs i) (Zqx hs k h i)
theorem Zmb (hs:ZbP n subs) {i:Nat}:∀ {r j:Nat},Walk subs i r j->∀ {k:Nat} {l:List Nat},KOk n l->r<=k->(Zct subs k l).getD i 0<=l.getD j 0
 | _,_,.start,k,l,h,_=>Zqx hs k h i
 | _,_,.next (r:=r) (j:=j') (k:=k') hw ha,k,l,h,hk=>by
  obtain ⟨m,rfl⟩:∃ m,k=m+1:=⟨k - 1,by omega⟩
  rw [Zma]
  exact Tbe (Zmb hs hw (h.foldl hs) om) (Zn2 h hs ha)
def KIn (n:Nat) (subs:List (Int × Int)) (l:List Nat):Prop:=∀ i,i < n->l.getD i 0 < n∧Wlk subs i (l.getD i 0)
theorem KIn.foldl {subs0:List (Int × Int)}:∀ {subs:List (Int × Int)} {l:List Nat},KOk n l->ZbP n subs->(∀ p∈subs,p∈subs0)->KIn n subs0 l->KIn n subs0 (subs.foldl kSub l)
 | [],l,_,_,_,h=>h
 | p::ps,l,hk,hs,hi,h=>by
  have hp:=hs p Tar
  refine KIn.foldl (subs:=ps) (hk.sub hp) (fun q hq=>hs q (Tak _ hq)) (fun q hq=>hi q (Tak _ hq)) fun i hin=>?_
  have h1:=h p.1.toNat om
  have h2:=h p.2.toNat om
  have hm:=hi p Tar
  rw [Zk1 hk hp]
  split
  ·rename_i e
   rcases Nat.le_total (l.getD p.1.toNat 0) (l.getD p.2.toNat 0) with hle | hle
   ·rw [Nat.min_eq_left hle]
    refine ⟨h1.1,?_⟩
    rcases e with rfl | rfl
    ·exact h1.2.cons ⟨p,hm,.inr ⟨rfl,rfl⟩⟩
    ·exact h1.2
   ·rw [Nat.min_eq_right hle]
    refine ⟨h2.1,?_⟩
    rcases e with rfl | rfl
    ·exact h2.2
    ·exact h2.2.cons ⟨p,hm,.inl ⟨rfl,rfl⟩⟩
  ·exact h i hin
theorem KIn.iter (hs:ZbP n subs):∀ (k:Nat) {l:List Nat},KOk n l->KIn n subs l->KIn n subs (Zct subs k l)
 | 0,l,_,h=>h
 | k+1,l,hk,h=>(KIn.iter hs k hk h).foldl (KOk.iter hs k hk) hs fun _ h=>h
theorem Zmc {n i:Nat} (h:i < n):(List.range n).getD i 0=i:=by simp [List.getD,h]
theorem Adj.lt (hs:ZbP n subs) {i j:Nat} (h:Adj subs i j):j < n:=by
 obtain ⟨p,hp,⟨_,rfl⟩ | ⟨_,rfl⟩⟩:=h
 ·have:=hs p hp;omega
 ·have:=hs p hp;omega
theorem Zv9 (hs:ZbP n subs) {i:Nat} (hi:i < n) {j:Nat} (h:Wlk subs i j):∃ r,r<=n∧Walk subs i r j:=by
 classical
 let R:Nat->Nat->Prop:=fun r x=>∃ q,q<=r∧Walk subs i q x
 let c:Nat->Nat:=fun r=>((List.range n).filter fun x=>decide (R r x)).length
 have hsub:∀ r,((List.range n).filter fun x=>decide (R r x))=(((List.range n).filter fun x=>decide (R (r+1) x)).filter fun x=>decide (R r x)):=fun r=>by
  rw [List.filter_filter]
  congr 1
  funext x
  by_cases h:R r x
  ·have:R (r+1) x:=h.imp fun q h=>⟨by omega,h.2⟩
   simp [h,this]
  ·simp [h]
 have hle:∀ r,c r<=c (r+1):=fun r=>by
  show (List.filter _ _).length<=_
  rw [hsub r]
  exact List.length_filter_le _ _
 have hlt:∀ r x,Walk subs i r x->x < n:=fun r x h=>by
  cases h with
  | start=>exact hi
  | next _ ha=>exact ha.lt hs
 have hst:∀ r,c (r+1)=c r->∀ x,R (r+1) x->R r x:=fun r e x hx=>by
  have h1:(((List.range n).filter fun x=>decide (R (r+1) x)).filter fun x=>decide (R r x)).length=((List.range n).filter fun x=>decide (R (r+1) x)).length:=by
   rw [<- hsub r];exact e.symm
  have h2:=List.length_filter_eq_length_iff.1 h1 x (by
   have hx':=hx
   obtain ⟨q,_,hq⟩:=hx'
   simp only [List.mem_filter,List.mem_range,decide_eq_true_eq]
   exact ⟨hlt q x hq,hx⟩)
  simpa using h2
 have hall:∀ r,(∀ x,R (r+1) x->R r x)->∀ q x,Walk subs i q x->R r x:=fun r hs q x hw=>by
  induction hw with
  | start=>exact ⟨0,Tai _,.start⟩
  | next _ ha ih =>
   obtain ⟨q,hq,hw⟩:=ih
   exact hs _ ⟨q+1,by omega,.next hw ha⟩
 have hgo:∀ r,r+1<=c r∨∃ r',r' < r∧∀ x,R (r'+1) x->R r' x:=fun r=>by
  induction r with
  | zero =>
   left
   have:i∈(List.range n).filter fun x=>decide (R 0 x):=by
    simp only [List.mem_filter,List.mem_range,decide_eq_true_eq]
    exact ⟨hi,0,Tah _,.start⟩
   exact List.length_pos_of_mem this
  | succ r ih =>
   rcases ih with ih | ⟨r',h1,h2⟩
   ·by_cases e:c (r+1)=c r
    ·exact .inr ⟨r,by omega,hst r e⟩
    ·have:=hle r;exact .inl om
   ·exact .inr ⟨r',by omega,h2⟩
 obtain ⟨q,hq⟩:=h
 rcases hgo n with h | ⟨r',h1,h2⟩
 ·have:c n<=n:=Tbe (List.length_filter_le _ _) (by simp)
  omega
 ·obtain ⟨q',hq',hw⟩:=hall r' h2 q j hq
  exact ⟨q',by omega,hw⟩
theorem Zwa {s:Srt} (hs:ZbP s.names.length s.subs) {i j:Nat} (hi:i < s.names.length) (hj:j < s.names.length) (h:Wlk s.subs i j):(kinds s).getD i 0=(kinds s).getD j 0:=by
 have key:∀ {i j:Nat},i < s.names.length->j < s.names.length->Wlk s.subs i j->(kinds s).getD j 0<=(kinds s).getD i 0:=fun {i j} hi hj h=>by
  have h1:=KIn.iter hs s.names.length (KOk.start _) (fun i hi=>by rw [Zmc hi];exact ⟨hi,0,.start⟩) i hi
  obtain ⟨r,hr,hw⟩:=Zv9 hs hj (h.symm.trans h1.2)
  have:=Zmb hs hw (KOk.start _) hr
  rw [Zmc h1.1] at this
  exact this
 exact Nat.le_antisymm (key hj hi h.symm) (key hi hj h)
theorem ZGq {s:Srt} (hs:ZbP s.names.length s.subs) {i j:Nat} (hi:i < s.names.length) (h:((up s).getD i 0).testBit j=true):Wlk s.subs i j:=by
 have hfold:∀ {subs:List (Int × Int)} {l:List Nat},UpOk s.names.length l->ZbP s.names.length subs->(∀ p∈subs,p∈s.subs)->(∀ i j,(l.getD i 0).testBit j=true->Wlk s.subs i j)->∀ i j,((subs.foldl Zc7 l).getD i 0).testBit j=true->Wlk s.subs i j:=fun {subs}=>by
  induction subs with
  | nil=>exact fun _ _ _ h=>h
  | cons p ps ih =>
   intro l hk hsb hi h
   have hp:=hsb p Tar
   refine ih (hk.sub hp) (fun q hq=>hsb q (Tak _ hq)) (fun q hq=>hi q (Tak _ hq)) fun i j hb=>?_
   unfold Zc7 at hb
   rw [Zik (by rw [hk.1];omega)] at hb
   split at hb
   ·rename_i e
    subst e
    rw [Nat.testBit_or,Bool.or_eq_true] at hb
    rcases hb with hb | hb
    ·exact h _ _ hb
    ·exact (h _ _ hb).cons ⟨p,hi p Tar,.inl ⟨rfl,rfl⟩⟩
   ·exact h i j hb
 have hiter:∀ k,∀ i j,((Zc2 s.subs k (up0 s.names.length)).getD i 0).testBit j=true->Wlk s.subs i j:=fun k=>by
  induction k with
  | zero =>
   intro i j h
   by_cases hin:i < s.names.length
   ·have e:(up0 s.names.length).getD i 0=2 ^ i:=by simp [up0,List.getD,hin]
    simp only [Zc2] at h
    rw [e,Nat.testBit_two_pow] at h
    have:i=j:=by simpa using h
    subst this
    exact ⟨0,.start⟩
   ·have e:(up0 s.names.length).getD i 0=0:=by simp [up0,List.getD,hin]
    simp only [Zc2] at h
    rw [e] at h;simp at h
  | succ k ih=>exact hfold (UpOk.iter hs k (UpOk.start _)) hs (fun _ h=>h) ih
 exact hiter _ i j h
end
theorem ZHN {g:Sgn} (hs:SortsOk g.sorts) {k j:Int} (h0:0<=k) (h1:k < g.sorts.names.length) (h2:0<=j) (h3:j < g.sorts.names.length) (h:(upk g k).testBit j.toNat=true):kd g.sorts k=kd g.sorts j :=
 Zwa (SortsOk.subsIn hs.subs) om om (ZGq (SortsOk.subsIn hs.subs) om h)
theorem Zmd {n i:Nat}:∀ {ks l:List Nat},l.length=n->(∀ k∈ks,k < n)->∀ k j,((downIn i l ks).getD k 0).testBit j=true ↔ (l.getD k 0).testBit j=true∨(k∈ks∧j=i)
 | [],l,_,_,k,j=>by simp [downIn]
 | q::ks,l,h,hk,k,j=>by
  have:=Zmd (i:=i) (n:=n) (ks:=ks) (l:=l.set q (l.getD q 0 ||| 2 ^ i)) (by rw [Tay];exact h) (fun k hk'=>hk k (Tak _ hk')) k j
  rw [show downIn i l (q::ks)=downIn i (l.set q (l.getD q 0 ||| 2 ^ i)) ks from rfl,this,Zik (by rw [h];exact hk q Tar)]
  by_cases e:k=q
  ·subst e
   rw [if_pos rfl,Nat.testBit_or,Bool.or_eq_true,Zm3]
   simp only [Tbg,true_or,true_and]
   constructor
   ·rintro ((h | h) | h)
    ·exact .inl h
    ·exact .inr h.symm
    ·exact .inr h.2
   ·rintro (h | h)
    ·exact .inl (.inl h)
    ·exact .inl (.inr h.symm)
  ·rw [if_neg e]
   simp only [Tbg,e,false_or]
theorem Zme {a k n:Nat} (ha:a < 2 ^ n) (hn:n<=16):k∈Zbq a ↔ a.testBit k=true:=by
 simp only [Zbq,ZbS,List.mem_filter,List.mem_range]
 refine ⟨fun h=>h.2,fun h=>⟨?_,h⟩⟩
 have:=Zjq ha h
 omega
theorem Zn3 {n:Nat} {u:List Nat} (hu:UpOk n u) (hn:n<=16):∀ (m:Nat),m<=n->∀ k j,((downs u m (List.replicate n 0)).getD k 0).testBit j=true ↔ j < m∧(u.getD j 0).testBit k=true
 | 0,_,k,j=>by
  have e:(List.replicate n 0).getD k 0=0:=by
   simp only [List.getD,Tbs];split <;> rfl
  simp only [downs]
  rw [e];simp
 | m+1,hm,k,j=>by
  have hl:(downs u m (List.replicate n 0)).length=n:=(UpOk.downs hu m om (UpOk.zeros n)).1
  rw [show downs u (m+1) (List.replicate n 0)=downIn m (downs u m (List.replicate n 0)) (Zbq (u.getD m 0)) from rfl,Zmd hl (Zje (hu.get om).2),Zn3 hu hn m om,Zme (hu.get (i:=m) om).2 hn]
  constructor
  ·rintro (h | ⟨h,rfl⟩)
   ·exact ⟨by omega,h.2⟩
   ·exact ⟨by omega,h⟩
  ·rintro ⟨h1,h2⟩
   by_cases e:j=m
   ·subst e;exact .inr ⟨h2,rfl⟩
   ·exact .inl ⟨by omega,h2⟩
def dnk (g:Sgn) (k:Int):Nat:=(down g.sorts).getD k.toNat 0
theorem Zj6 {g:Sgn} (hs:SortsOk g.sorts) {k:Int} (h0:0<=k) (h1:k < g.sorts.names.length):(down g.sorts)[k.toNat]?=some (dnk g k)∧dnk g k < 2 ^ g.sorts.names.length :=
 (ZmV (SortsOk.subsIn hs.subs)).get om
theorem ZhS {g:Sgn} (hs:SortsOk g.sorts) (k:Int) (j:Nat):(dnk g k).testBit j=true ↔ j < g.sorts.names.length∧(upk g j).testBit k.toNat=true:=by
 have:=hs.n8
 exact Zn3 (ZdT (SortsOk.subsIn hs.subs)) om _ (Tah _) k.toNat j
theorem TermOk.arg {g:Sgn} {t a:Tm} (h:TermOk g t) (ha:a∈t.args):TermOk g a:=by
 have s1:=Zbb ha
 have s2:=Zjh ha
 have s3:=h.size
 have s4:=h.depth
 rw [ZaX] at s3
 rw [Zde] at s4
 exact ⟨by omega,by omega,(Zbh.1 h.form).2.1 a ha⟩
theorem TermOk.app {g:Sgn} {t a:Tm} (h:TermOk g t) (ha:a∈t.args):∃ o d,AppOk g t o d:=by
 rcases h.form.node with hv | h
 ·rw [hv.2.2.2.2] at ha;cases ha
 ·exact h
theorem ZHd {g:Sgn} (hg:SgnOk g) {op:Int} (h0:0<=op) {xs:List Tm} (ha:∀ a∈xs,TermOk g a) {t:Tm} (h:mkT g op xs=some t):TermOk g t:=by
 unfold mkT at h
 cases ho:g.ops[op.toNat]? with
 | none=>rw [ho] at h;cases h
 | some o =>
  rw [ho] at h
  simp only at h
  cases hd:o.decls[0]? with
  | none=>rw [hd] at h;cases h
  | some d =>
   rw [hd] at h
   exact (ZHa hg h0 ho hd ha h).1
theorem Zqy {g:Sgn} {t:Tm} (h:TermOk g t):t.args.length<=60:=by
 have h1:=h.size
 rw [ZaX] at h1
 have:=ZbN t.args
 omega
structure Bd where
 var:Tm
 to:Tm
def Zb2 (b:Bd):List C:=encTm b.var++encTm b.to
def okBd (b:Bd):Prop:=okTm b.var∧okTm b.to
def Zwb (l:List Bd):Prop:=∀ b∈l,okBd b
def ZcJ (l:List Bd):List (List C):=l.map Zb2
theorem Zil (l:List Bd):(ZcJ l).length=l.length:=by simp [ZcJ]
theorem Zmf (l:List Bd) (i:Nat):(ZcJ l)[i]?=l[i]?.map Zb2:=by simp [ZcJ]
def Zbu:List Bd->Tm->Option Tm
 | [],_=>none
 | b::l,v=>if Zak b.var v=0 then some b.to else Zbu l v
mutual
noncomputable def apT (g:Sgn) (l:List Bd):Tm->Option Tm
 | .mk op nm so args=>if op=-1 then some ((Zbu l (.mk op nm so args)).getD (.mk op nm so args)) else (apTs g l args).bind (mkT g op)
noncomputable def apTs (g:Sgn) (l:List Bd):List Tm->Option (List Tm)
 | []=>some []
 | t::ts=>(apT g l t).bind fun u=>(apTs g l ts).map (u::·)
end
theorem Zgn {g:Sgn} {l:List Bd} {t:Tm} (h:t.op=-1):apT g l t=some ((Zbu l t).getD t):=by
 obtain ⟨op,nm,so,args⟩:=t
 simp only [Tm.op] at h
 simp only [apT,if_pos h]
theorem Zfk {g:Sgn} {l:List Bd} {t:Tm} (h:t.op≠-1):apT g l t=(apTs g l t.args).bind (mkT g t.op):=by
 obtain ⟨op,nm,so,args⟩:=t
 simp only [Tm.op] at h
 simp only [apT,if_neg h,Tm.op,Tm.args]
theorem Zju {g:Sgn} {l:List Bd} {t:Tm}:∀ (ts:List Tm),apTs g l (ts++[t])=(apTs g l ts).bind fun us=>(apT g l t).map fun u=>us++[u]
 | []=>by
  simp only [Tag,apTs,Option.bind_some]
  cases apT g l t <;> rfl
 | x::ts=>by
  simp only [Tae,apTs,Zju ts]
  cases apT g l x with
  | none=>rfl
  | some u =>
   simp only [Option.bind_some]
   cases apTs g l ts with
   | none=>rfl
   | some us =>
    simp only [Option.bind_some,Option.map_some]
    cases apT g l t <;> rfl
theorem Zim {g:Sgn} {l:List Bd}:∀ {ts us:List Tm},apTs g l ts=some us->us.length=ts.length
 | [],us,h=>by simp only [apTs,Tap] at h;subst h;rfl
 | t::ts,us,h=>by
  simp only [apTs] at h
  cases h1:apT g l t with
  | none=>rw [h1] at h;cases h
  | some u =>
   rw [h1] at h
   cases h2:apTs g l ts with
   | none=>rw [h2] at h;cases h
   | some vs =>
    rw [h2] at h
    simp only [Option.bind_some,Option.map_some,Tap] at h
    subst h
    simp only [Taf,Zim h2]
theorem Zjv {g:Sgn} {l:List Bd} {t:Tm}:∀ {ts:List Tm},t∈ts->apT g l t=none->apTs g l ts=none
 | x::ts,hm,h=>by
  simp only [apTs]
  rcases Tbg.1 hm with rfl | hm
  ·rw [h];rfl
  ·rw [Zjv hm h]
   cases apT g l x <;> rfl
theorem Zin {g:Sgn} {l:List Bd}:∀ {ts us:List Tm},apTs g l ts=some us->∀ u∈us,∃ t∈ts,apT g l t=some u
 | [],us,h,u,hu=>by simp only [apTs,Tap] at h;subst h;cases hu
 | t::ts,us,h,u,hu=>by
  simp only [apTs] at h
  cases h1:apT g l t with
  | none=>rw [h1] at h;cases h
  | some v =>
   rw [h1] at h
   cases h2:apTs g l ts with
   | none=>rw [h2] at h;cases h
   | some vs =>
    rw [h2] at h
    simp only [Option.bind_some,Option.map_some,Tap] at h
    subst h
    rcases Tbg.1 hu with rfl | hu
    ·exact ⟨t,Tar,h1⟩
    ·obtain ⟨x,hx,hxe⟩:=Zin h2 u hu
     exact ⟨x,Tak _ hx,hxe⟩
structure SbsAt (g:Sgn) (l:List Bd) (i:Nat) (y:Bd):Prop where
 var:ZbI g y.var
 ord:∀ (j:Nat) p,i=j+1->l[j]?=some p->Zak p.var y.var < 0
 to':TermOk g y.to
 srt:(sortsTm g y.to).testBit y.var.sort.toNat=true
structure SbsOk (g:Sgn) (l:List Bd):Prop where
 len:l.length<=8
 at':∀ (i:Nat) y,l[i]?=some y->SbsAt g l i y
theorem ZuS {g:Sgn} {v u:Tm}:∀ {l:List Bd},(∀ y∈l,TermOk g y.to)->Zbu l v=some u->TermOk g u
 | b::l,h,hu=>by
  simp only [Zbu] at hu
  split at hu
  ·injection hu with hu;subst hu;exact h b Tar
  ·exact ZuS (fun y hy=>h y (Tak _ hy)) hu
theorem SbsOk.to' {g:Sgn} {l:List Bd} (h:SbsOk g l):∀ y∈l,TermOk g y.to:=fun y hy=>by
 obtain ⟨i,hi⟩:=Tbk hy
 exact (h.at' i y hi).to'
theorem SbsOk.var {g:Sgn} {l:List Bd} (h:SbsOk g l):∀ y∈l,ZbI g y.var:=fun y hy=>by
 obtain ⟨i,hi⟩:=Tbk hy
 exact (h.at' i y hi).var
theorem ZfQ {g:Sgn} (hg:SgnOk g) {l:List Bd} (hl:∀ y∈l,TermOk g y.to):∀ (n:Nat) (t:Tm),sizeTm t < n->TermOk g t->∀ {u:Tm},apT g l t=some u->TermOk g u
 | 0,t,hn,_,_,_=>by omega
 | n+1,t,hn,ht,u,h=>by
  by_cases ho:t.op=-1
  ·rw [Zgn ho] at h
   simp only [Tap] at h
   subst h
   cases hk:Zbu l t with
   | none=>exact ht
   | some v=>exact ZuS hl hk
  ·rw [Zfk ho] at h
   cases h2:apTs g l t.args with
   | none=>rw [h2] at h;cases h
   | some us =>
    rw [h2] at h
    simp only [Option.bind_some] at h
    have h0:0<=t.op:=by
     rcases ht.form.node with hv | ⟨o,d,hA⟩
     ·exact absurd hv.1 ho
     ·exact hA.lo
    refine ZHd hg h0 (fun a ha=>?_) h
    obtain ⟨x,hx,hxe⟩:=Zin h2 a ha
    have:=Zbb hx
    rw [ZaX] at hn
    exact ZfQ hg hl n x om (ht.arg hx) hxe
def decN (n:Nat):List UInt8:=if n < 10 then [UInt8.ofNat (48+n)] else [UInt8.ofNat (48+n / 10),UInt8.ofNat (48+n % 10)]
def decB (i:Int):List UInt8:=if i < 0 then 45::decN (-i).toNat else decN i.toNat
mutual
def ZcR:Tm->List UInt8
 | .mk op nm so args=>decB op++((if op < 0 then 58::(nm.toList++58::decB so) else [])++40::(Zbe args++[41]))
def Zbe:List Tm->List UInt8
 | []=>[]
 | t::ts=>ZcR t++Zbe ts
end
theorem Zwc (a b:List Tm):Zbe (a++b)=Zbe a++Zbe b:=by
 induction a with
 | nil=>rfl
 | cons t ts ih=>simp only [Tae,Zbe,ih,Tbf]
theorem Zfl {P:UInt8->Prop}:∀ {l m:List UInt8} {c d:UInt8} {x y:List UInt8},(∀ b∈l,P b)->(∀ b∈m,P b)->¬ P c->¬ P d->l++c::x=m++d::y->l=m∧c=d∧x=y
 | [],[],c,d,x,y,_,_,_,_,h=>by simpa using h
 | [],b::m,c,d,x,y,_,hm,hc,_,h=>by
  simp only [Tag,Tae,List.cons.injEq] at h
  exact absurd (hm b Tar) (h.1 ▸ hc)
 | a::l,[],c,d,x,y,hl,_,_,hd,h=>by
  simp only [Tag,Tae,List.cons.injEq] at h
  exact absurd (hl a Tar) (h.1 ▸ hd)
 | a::l,b::m,c,d,x,y,hl,hm,hc,hd,h=>by
  simp only [Tae,List.cons.injEq] at h
  obtain ⟨h1,h2⟩:=Zfl (fun b hb=>hl b (Tak _ hb)) (fun b hb=>hm b (Tak _ hb)) hc hd h.2
  exact ⟨by rw [h.1,h1],h2⟩
def NumB (b:UInt8):Prop:=b=45∨(48<=b.toNat∧b.toNat<=57)
instance (b:UInt8):Decidable (NumB b):=by unfold NumB;infer_instance
theorem ZGr:∀ i:Fin 15,∀ b∈decB ((i.val:Int) - 1),NumB b:=by decide
theorem ZGs:∀ i j:Fin 15,decB ((i.val:Int) - 1)=decB ((j.val:Int) - 1)->i=j:=by decide
theorem Zj7 {i:Int} (h0:-1<=i) (h1:i < 14):∀ b∈decB i,NumB b:=by
 have:=ZGr ⟨(i+1).toNat,by omega⟩
 rwa [show (((i+1).toNat:Nat):Int) - 1=i by omega] at this
theorem Zm5 {i j:Int} (h0:-1<=i) (h1:i < 14) (h2:-1<=j) (h3:j < 14) (h:decB i=decB j):i=j:=by
 have:=ZGs ⟨(i+1).toNat,by omega⟩ ⟨(j+1).toNat,by omega⟩ (by
  simp only
  rw [show (((i+1).toNat:Nat):Int) - 1=i by omega,show (((j+1).toNat:Nat):Int) - 1=j by omega];exact h)
 have:=congrArg Fin.val this
 simp only at this
 omega
theorem Zqz:∀ i:Fin 15,(decB ((i.val:Int) - 1)).head?≠some 41∧decB ((i.val:Int) - 1)≠[]:=by decide
def NamB (s:ByteArray):Prop:=∀ b∈s.toList,ZcP (b.toNat:Int)=true
mutual
def Zel:Tm->Prop
 | .mk op nm so args=>-1<=op∧op < 14∧(op=-1->NamB nm∧0<=so∧so < 8)∧(op≠-1->nm=ByteArray.empty∧so=0)∧Zey args
def Zey:List Tm->Prop
 | []=>True
 | t::ts=>Zel t∧Zey ts
end
theorem toList_inj {a b:ByteArray} (h:a.toList=b.toList):a=b:=by
 rw [ByteArray.toList_eq,ByteArray.toList_eq] at h
 obtain ⟨x⟩:=a
 obtain ⟨y⟩:=b
 simp only at h
 rw [Array.toList_inj.1 h]
theorem ZeP:¬ NumB 40:=by decide
theorem Zhj:¬ NumB 58:=by decide
mutual
theorem ZuT:∀ (a b:Tm) (x y:List UInt8),Zel a->Zel b->ZcR a++x=ZcR b++y->a=b∧x=y
 | .mk op nm so args,.mk op' nm' so' args',x,y,ha,hb,h=>by
  simp only [Zel] at ha hb
  obtain ⟨a1,a2,a3,a4,a5⟩:=ha
  obtain ⟨b1,b2,b3,b4,b5⟩:=hb
  simp only [ZcR,Tbf,Tae] at h
  have n1:=Zj7 a1 a2
  have n2:=Zj7 b1 b2
  have hfst:op=op'∧nm=nm'∧so=so'∧Zbe args++([41]++x)=Zbe args'++([41]++y):=by
   by_cases h1:op < 0
   ·rw [if_pos h1] at h
    by_cases h2:op' < 0
    ·rw [if_pos h2] at h
     simp only [Tae,Tbf] at h
     obtain ⟨e1,_,e2⟩:=Zfl n1 n2 Zhj Zhj h
     have e1:=Zm5 a1 a2 b1 b2 e1
     have o1:op=-1:=by omega
     have o2:op'=-1:=by omega
     obtain ⟨p1,p2,p3⟩:=a3 o1
     obtain ⟨q1,q2,q3⟩:=b3 o2
     obtain ⟨f1,_,f2⟩:=Zfl (P:=fun b=>ZcP (b.toNat:Int)=true) p1 q1 (by decide) (by decide) e2
     obtain ⟨g1,_,g2⟩:=Zfl (Zj7 om om) (Zj7 om om) ZeP ZeP f2
     exact ⟨e1,toList_inj f1,Zm5 om om om om g1,g2⟩
    ·rw [if_neg h2] at h
     simp only [Tae,Tag] at h
     obtain ⟨_,e,_⟩:=Zfl n1 n2 Zhj ZeP h
     exact absurd e (by decide)
   ·rw [if_neg h1] at h
    by_cases h2:op' < 0
    ·rw [if_pos h2] at h
     simp only [Tae,Tag] at h
     obtain ⟨_,e,_⟩:=Zfl n1 n2 ZeP Zhj h
     exact absurd e (by decide)
    ·rw [if_neg h2] at h
     simp only [Tag] at h
     obtain ⟨e1,_,e2⟩:=Zfl n1 n2 ZeP ZeP h
     have e1:=Zm5 a1 a2 b1 b2 e1
     obtain ⟨p1,p2⟩:=a4 om
     obtain ⟨q1,q2⟩:=b4 om
     exact ⟨e1,by rw [p1,q1],by rw [p2,q2],e2⟩
  obtain ⟨rfl,rfl,rfl,he⟩:=hfst
  obtain ⟨i1,i2⟩:=ZqA args args' x y a5 b5 he
  exact ⟨by rw [i1],i2⟩
theorem ZqA:∀ (xs bs:List Tm) (x y:List UInt8),Zey xs->Zey bs->Zbe xs++([41]++x)=Zbe bs++([41]++y)->xs=bs∧x=y
 | [],[],x,y,_,_,h=>by simpa [Zbe] using h
 | [],.mk op nm so args::bs,x,y,_,hb,h=>by
  exfalso
  simp only [Zey,Zel] at hb
  have:=Zqz ⟨(op+1).toNat,by omega⟩
  rw [show (((op+1).toNat:Nat):Int) - 1=op by omega] at this
  simp only [Zbe,ZcR,Tag,Tbf] at h
  cases hd:decB op with
  | nil=>exact this.2 hd
  | cons c l =>
   rw [hd] at h this
   simp only [Tae,List.cons.injEq] at h
   exact this.1 (by rw [<- h.1];rfl)
 | .mk op nm so args::xs,[],x,y,ha,_,h=>by
  exfalso
  simp only [Zey,Zel] at ha
  have:=Zqz ⟨(op+1).toNat,by omega⟩
  rw [show (((op+1).toNat:Nat):Int) - 1=op by omega] at this
  simp only [Zbe,ZcR,Tag,Tbf] at h
  cases hd:decB op with
  | nil=>exact this.2 hd
  | cons c l =>
   rw [hd] at h this
   simp only [Tae,List.cons.injEq] at h
   exact this.1 (by rw [h.1];rfl)
 | a::xs,b::bs,x,y,ha,hb,h=>by
  simp only [Zey] at ha hb
  simp only [Zbe,Tbf] at h
  obtain ⟨e1,e2⟩:=ZuT a b _ _ ha.1 hb.1 h
  obtain ⟨f1,f2⟩:=ZqA xs bs x y ha.2 hb.2 e2
  exact ⟨by rw [e1,f1],f2⟩
end
theorem ZCa {s:ByteArray} (h:Zbm s=true):NamB s:=by
 unfold Zbm at h
 simp only [Taq] at h
 have hn:=h.2
 unfold Zbf at hn
 rw [List.all_eq_true] at hn
 intro b hb
 rw [ByteArray.toList_eq] at hb
 obtain ⟨i,hi,rfl⟩:=List.getElem_of_mem hb
 have hi':i < s.size:=by simpa using hi
 have:=hn i (List.mem_range'_1.2 ⟨Tai _,by omega⟩)
 simp only [Taq,Zjb,dif_pos hi'] at this
 exact this.1
mutual
theorem ZgR {g:Sgn} (hg:SgnOk g):∀ (t:Tm),ZaO g t->Zel t
 | .mk op nm so args,h=>by
  have h2:ZcD g args:=by simp only [ZaO] at h;exact h.2.1
  have h1:ZcI g (.mk op nm so args):=by simp only [ZaO] at h;exact h.1
  have hl:=hg.len
  have hn:=hg.sorts.n8
  refine ⟨?_,?_,?_,?_,Zn4 hg args h2⟩
  ·rcases h1 with h | ⟨o,d,h⟩
   ·have:op=-1:=h.1
    omega
   ·have:0<=op:=h.lo
    omega
  ·rcases h1 with h | ⟨o,d,h⟩
   ·have:op=-1:=h.1
    omega
   ·have h0:0<=op:=h.lo
    have:g.ops[op.toNat]?=some o:=h.at'
    have:=(Tac.1 this).1
    omega
  ·intro ho
   rcases h1 with h | ⟨o,d,h⟩
   ·have h4:0<=so:=h.2.2.1
    have h5:so < g.sorts.names.length:=h.2.2.2.1
    exact ⟨ZCa h.2.1,h4,by omega⟩
   ·have:0<=op:=h.lo
    omega
  ·intro ho
   rcases h1 with h | ⟨o,d,h⟩
   ·have:op=-1:=h.1
    omega
   ·exact ⟨h.nm,h.so⟩
theorem Zn4 {g:Sgn} (hg:SgnOk g):∀ (ts:List Tm),ZcD g ts->Zey ts
 | [],_=>trivial
 | t::ts,h=>by
  simp only [ZcD] at h
  exact ⟨ZgR hg t h.1,Zn4 hg ts h.2⟩
end
def keyS (t:Tm):ByteArray:=⟨(ZcR t).toArray⟩
theorem ZqB {g:Sgn} (hg:SgnOk g) {a b:Tm} (ha:ZaO g a) (hb:ZaO g b) (h:(keyS a).toList=(keyS b).toList):a=b:=by
 rw [ByteArray.toList_eq,ByteArray.toList_eq] at h
 simp only [keyS] at h
 exact (ZuT a b [] [] (ZgR hg a ha) (ZgR hg b hb) (by rw [List.append_nil,List.append_nil];exact h)).1
def Zj8 (P:Program) (s d:TypeId):Bool:=match P.underlying s,P.underlying d with
 | some (.slice e),some .string=>match P.underlying e with
  | some (.int .u8)=>true
  | _=>false
 | _,_=>false
section
variable {e:Env} {σ:St} {o:Oper} {K:St->Prop}
end
section
variable {P:Program} {w:World}
theorem ZAs (ts:Array TypeId) (t ty e:TypeId) (i:TypeInfo) (z:Value) (h0:ts[0]?=some t) {t2:TypeId} (h1:ts[1]?=some t2) (ht2:P.underlying t2=some .string) (ht:P.underlying t=some (.slice e)) (hi:P.info? e=some i) (hz:i.zero=some z) (b:Option Addr) (sLen sCap:Nat) (olds:List Value) (x:Value) (n:Nat) (news:List Value)
  (hln:(Builtin.lenOf x).run P w=.ok n w) (hfo:(Builtin.firstCells i.size sLen (.slice b sLen sCap)).run P w.drew=.ok olds.toArray w.drew) (hf:(Builtin.firstCells i.size n x).run P w.drew=.ok news.toArray w.drew) (hg:sCap < sLen+n) (h63:((sLen+n:Nat):Int)<=9223372036854775807) (hfit:Builtin.nextslicecap (sLen+n) sCap * i.bytes<=281474976710656) :
  (Builtin.append_ ts ty #[.slice b sLen sCap,x]).run P w=.ok (.slice (some ⟨w.heap.size,0,none⟩) (sLen+n) (grownCap w (sLen+n) sCap e)) (w.drew.alloc (.cells (olds.toArray++news.toArray++Builtin.zeroCells z.cells (grownCap w (sLen+n) sCap e - (sLen+n))) e)):=by
 have hn:¬ (sLen+n<=sCap):=by omega
 have h63':¬ (9223372036854775807 < ((sLen:Int)+(n:Int))):=by omega
 have h48':¬ (281474976710656 < Builtin.nextslicecap (sLen+n) sCap * i.bytes):=by omega
 have e1:olds.toArray++(news.toArray++Builtin.zeroCells z.cells (grownCap w (sLen+n) sCap e - (sLen+n)))=(olds++news).toArray++Builtin.zeroCells z.cells (grownCap w (sLen+n) sCap e - (sLen+n)):=by
  apply Array.toList_inj.1;simp
 unfold grownCap at e1
 simp [Builtin.append_,h0,h1,run_underlying ht,run_underlying ht2,sizeOf,typeInfo,zeroValue,hi,hz,hln,hn,h63',h48',Question.forced,hf,hfo,newRow,grownCap,e1]
theorem ZAt (ts:Array TypeId) (t ty e:TypeId) (i:TypeInfo) (h0:ts[0]?=some t) {t2:TypeId} (h1:ts[1]?=some t2) (ht2:P.underlying t2=some .string) (ht:P.underlying t=some (.slice e)) (hi:P.info? e=some i) (g sLen sCap:Nat) (cur:Array Value) (hg:w.heap[g]?=some (.cells cur e (0,0))) (x:Value) (n:Nat) (news:List Value)
  (hln:(Builtin.lenOf x).run P w=.ok n w) (hf:(Builtin.firstCells i.size n x).run P w=.ok news.toArray w) (hone:∀ u∈news,u.oneCell'=true) (hroom:sLen+n<=sCap) (hfit:sLen * i.size+news.length<=cur.size) :
  (Builtin.append_ ts ty #[.slice (some ⟨g,0,none⟩) sLen sCap,x]).run P w=.ok (.slice (some ⟨g,0,none⟩) (sLen+n) sCap) (w.setRow g (cur.toList.take (sLen * i.size)++news++cur.toList.drop (sLen * i.size+news.length)).toArray):=by
 have hst:=run_storeCells_at P g (sLen * i.size) e news 0 cur w hg (by simpa using hfit) hone
 simp only [Nat.add_zero] at hst
 simp [Builtin.append_,h0,h1,run_underlying ht,run_underlying ht2,sizeOf,typeInfo,hi,hln,hroom,hf,Addr.add_lit,hst]
theorem ZAu (ts:Array TypeId) (t ty e:TypeId) (i:TypeInfo) (h0:ts[0]?=some t) {t2:TypeId} (h1:ts[1]?=some t2) (ht2:P.underlying t2=some .string) (ht:P.underlying t=some (.slice e)) (hi:P.info? e=some i) (b:Option Addr) (x:Value)
  (hln:(Builtin.lenOf x).run P w=.ok 0 w) (hf:(Builtin.firstCells i.size 0 x).run P w=.ok #[] w) :
  (Builtin.append_ ts ty #[.slice b 0 0,x]).run P w=.ok (.slice b 0 0) w:=by
 cases b <;> simp [Builtin.append_,h0,h1,run_underlying ht,run_underlying ht2,sizeOf,typeInfo,hi,hln,hf,storeCells]
end
section
variable {e:Env} {U:Nat->Prop} {w0:World} {S0:Nat->Prop} {nt:Nat} {σ:St} {a:Act} {w:World} {S:Nat->Prop} {L:Lay} {o:Oper}
theorem Zr7 (he:e.Ok) (hC:Cls e U w0.heap.size S0 σ.m w S L) {ts:Array TypeId} {t ty:TypeId} {ety sz by':Nat} (h0:ts[0]?=some t) {t2:TypeId} (h1:ts[1]?=some t2) (ht2:e.P.underlying t2=some .string) (hb:Za1 e.P t=some (ety,sz,by')) {rows ys:List (List C)} {v u:Value}
  (hv:ZaP w S ety sz rows v∨(DRel w S (.clip rows) v∧(rows=[]∨ys≠[]))) (hrl:ZaN sz rows) (hyl:ZaN sz ys) (hle:rows.length+ys.length<=maxApp)
  (hy:∃ (news:List Value),(∀ w',(Builtin.lenOf u).run e.P w'=.ok ys.length w')∧Zaa w S ys.flatten news∧∀ (P:Program) (w':World),(∀ p,w'.cell? p=w.cell? p)->(Builtin.firstCells sz ys.length u).run P w'=.ok news.toArray w') :
  ∃ v' w',(Builtin.append_ ts ty #[v,u]).run e.P w=.ok v' w'∧ZaP w' S ety sz (rows++ys) v'∧∃ τ:Option Nat,Kept e.D (fun b=>τ=some b) w.heap.size w w'∧(∀ g,τ=some g->vblk v=some g∧ZaP w S ety sz rows v)∧(∀ g,vblk v'=some g->τ=some g∨w.heap.size<=g):=by
 obtain ⟨i,z,hu,hi,hz,hsz,hby,hzs,hs0,hb4⟩:=ZcT hb
 obtain ⟨news,hln,hnews,hf⟩:=hy
 have hnl:news.length=ys.length * sz:=by rw [hnews.len,ZbV hyl]
 have hone:=Zea (ZjT hyl) hnews
 have hm30:rows.length+ys.length<=1073741824:=hle
 have hbytes:(rows.length+ys.length) * i.bytes<=140737488355328:=by
  have h2:(rows.length+ys.length) * i.bytes<=1073741824 * 4096:=Nat.mul_le_mul hm30 om
  omega
 have hrl2:ZaN sz (rows++ys):=hrl.append hyl
 have grow:∀ (b:Option Addr) (cap:Nat) (olds:List Value),v=.slice b rows.length cap->cap < rows.length+ys.length->Zaa w S rows.flatten olds->(∀ (P:Program) (w':World),(∀ p,w'.cell? p=w.cell? p)->(Builtin.firstCells sz rows.length v).run P w'=.ok olds.toArray w') ->
   ∃ v' w',(Builtin.append_ ts ty #[v,u]).run e.P w=.ok v' w'∧ZaP w' S ety sz (rows++ys) v'∧∃ τ:Option Nat,Kept e.D (fun b=>τ=some b) w.heap.size w w'∧(∀ g,τ=some g->vblk v=some g∧ZaP w S ety sz rows v)∧(∀ g,vblk v'=some g->τ=some g∨w.heap.size<=g):=by
  intro b cap olds hv hlt hol hfo
  have h63:rows.length+ys.length<=maxLen:=by unfold maxLen;omega
  have hrun:=ZAs ts t ty ety i z h0 h1 ht2 hu hi hz b rows.length cap olds u ys.length news (hln w) (by rw [hsz,<- hv];exact hfo _ _ (Zg6 w)) (by rw [hsz];exact hf _ _ (Zg6 w)) hlt om (growslice_fits om hbytes)
  rw [<- hv] at hrun
  have hge:=grownCap_ge w (rows.length+ys.length) cap ety
  have hcm:=grownCap_le_maxLen w (rows.length+ys.length) cap ety h63
  generalize hcap:grownCap w (rows.length+ys.length) cap ety=nc at hrun hge hcm
  have hcl:olds.length=rows.length * sz:=by rw [hol.len,ZbV hrl]
  have hk:Kept e.D (fun b=>(none:Option Nat)=some b) w.heap.size w (w.drew.alloc (.cells (olds.toArray++news.toArray++Builtin.zeroCells z.cells (nc - (rows.length+ys.length))) ety)) :=
   ⟨rfl,rfl,rfl,fun _=>Nat.le_succ _,by simp,fun k hk _=>heap_alloc_old w.drew _ hk⟩
  have hheap:=heap_alloc_new w.drew (.cells (olds.toArray++news.toArray++Builtin.zeroCells z.cells (nc - (rows.length+ys.length))) ety)
  have hsW:(w.drew.alloc (.cells (olds.toArray++news.toArray++Builtin.zeroCells z.cells (nc - (rows.length+ys.length))) ety)).heap.size=w.heap.size+1:=by simp
  have e1:olds.toArray++news.toArray++Builtin.zeroCells z.cells (nc - (rows.length+ys.length))=((olds++news)++(Builtin.zeroCells z.cells (nc - (rows.length+ys.length))).toList).toArray:=by
   apply Array.toList_inj.1;simp
  rw [e1] at hrun hk hheap hsW
  generalize w.drew.alloc (.cells ((olds++news)++(Builtin.zeroCells z.cells (nc - (rows.length+ys.length))).toList).toArray ety)=W at hrun hk hheap hsW
  refine ⟨_,_,hrun,?_,none,hk,by simp,fun g hg=>?_⟩
  ·have hlen:rows.length+ys.length=(rows++ys).length:=by simp
   rw [hlen]
   refine ZiT (w:=w) (cells:=olds++news) (rest:=(Builtin.zeroCells z.cells (nc - (rows.length+ys.length))).toList) (n:=0) hs0 hrl2 hk.size (fun b o hs=>Zbv (hk.block b (hC.sin b hs).1 (by simp)) o) ?_ (by simp;omega) hcm om (g:=w.heap.size) om (fun hs=>by have:=(hC.sin _ hs).1;omega) ?_ ?_
   ·rw [List.flatten_append];exact Zaa.app hol hnews
   ·exact hheap
   ·simp only [Tad,Array.length_toList,size_zeroCells,hzs,hcl,hnl,<- Nat.add_mul]
    congr 1
    omega
  ·simp only [vblk] at hg
   split at hg
   ·cases hg
   ·injection hg with hg;exact .inr om
 have stay:∀ (b:Option Addr),rows=[]->ys=[]->v=.slice b 0 0->∃ v' w',(Builtin.append_ ts ty #[v,u]).run e.P w=.ok v' w'∧ZaP w' S ety sz (rows++ys) v'∧∃ τ:Option Nat,Kept e.D (fun b=>τ=some b) w.heap.size w w'∧(∀ g,τ=some g->vblk v=some g∧ZaP w S ety sz rows v)∧(∀ g,vblk v'=some g->τ=some g∨w.heap.size<=g):=by
  intro b hr hy hvb
  subst hr hy
  have hn0:news=[]:=Tan (by simpa using hnl)
  have hrun:=ZAu (P:=e.P) (w:=w) ts t ty ety i h0 h1 ht2 hu hi b u (hln w) (by rw [hsz];have:=hf e.P w (fun _=>rfl);rw [hn0] at this;simpa using this)
  rw [hvb]
  refine ⟨_,_,hrun,⟨hs0,by simpa using ZaN.nil,.inl ⟨by simp,b,rfl⟩⟩,none,Kept.refl _ _ _ _,by simp,fun g hg=>?_⟩
  cases b <;> simp [vblk] at hg
 rcases hv with hv | ⟨hv,hne⟩
 ·have hv0:=hv
  obtain ⟨_,_,h3⟩:=hv
  rcases h3 with ⟨hr,b,hvb⟩ | ⟨g,cap,cur,hvb,hc,hg,hs,hh,hlc,hm,hcs,hr⟩
  ·by_cases hy0:ys=[]
   ·exact stay b hr hy0 hvb
   ·have hyl0:0 < ys.length:=List.length_pos_iff.2 hy0
    subst hr
    refine grow b 0 [] hvb (by simpa using hyl0) (by simp [Zaa]) (fun P w' _=>?_)
    rw [hvb]
    cases b <;> simp [Builtin.firstCells,loadCells,loadCellsFrom]
  ·by_cases hroom:rows.length+ys.length<=cap
   ·have hfit:rows.length * i.size+news.length<=cur.size:=by rw [hnl,hsz,hcs,<- Nat.add_mul];exact Nat.mul_le_mul_right _ hroom
    have hrun:=ZAt (P:=e.P) (w:=w) ts t ty ety i h0 h1 ht2 hu hi g rows.length cap cur hh u ys.length news (hln w) (by rw [hsz];exact hf _ _ (fun _=>rfl)) hone hroom hfit
    rw [<- hvb] at hrun
    rw [hsz] at hrun hfit
    have hput:=Zd9 w g (rows.length * sz) ety news cur hh hfit
    have hheap:=setRow_heap w g cur (cur.toList.take (rows.length * sz)++news++cur.toList.drop (rows.length * sz+news.length)).toArray ety _ hh
    have hdr:(w.setRow g (cur.toList.take (rows.length * sz)++news++cur.toList.drop (rows.length * sz+news.length)).toArray).drawn=w.drawn:=ZdZ _ _ _
    generalize hW:w.setRow g (cur.toList.take (rows.length * sz)++news++cur.toList.drop (rows.length * sz+news.length)).toArray=W at hrun hput hheap hdr
    have hszW:W.heap.size=w.heap.size:=hput.size
    have hkc:∀ b o,S b->W.cell? ⟨b,o,none⟩=w.cell? ⟨b,o,none⟩:=fun b o hsb=>Zbv (hput.other b (fun e=>hs (e ▸ hsb))) o
    refine ⟨_,_,hrun,⟨hs0,hrl2,.inr ⟨g,cap,_,by simp,hc,by omega,hs,hheap,by simpa using hroom,hm,by simp;omega,?_⟩⟩,some g,⟨hput.os,hput.tape,hput.output,fun _=>Nat.le_of_eq hdr.symm,by omega,fun b hb hE=>hput.other b (fun eq=>hE (by rw [eq]))⟩,fun q hq=>?_,fun q hq=>?_⟩
    ·apply Zan.of_flat
     rw [List.flatten_append]
     have r1:=Zah.keepAt (S':=S) om hkc (fun _ h=>h) g 0 rows.flatten (fun j hj=>hput.old _ (.inl (by rw [ZbV hrl] at hj;omega))) hr.flat
     refine Zah.append _ _ 0 r1 ?_
     rw [ZbV hrl,Nat.zero_add]
     exact Zah.of_vals _ news _ (Zaa.keep2 om hkc (fun _ h=>h) hnews) hput.new
    ·injection hq with hq;subst hq
     exact ⟨by rw [hvb];simp only [vblk];rw [if_neg om],hv0⟩
    ·simp only [vblk] at hq
     rw [if_neg om] at hq
     exact .inl hq
   ·obtain ⟨b',cap',olds,q1,_,_,q2,q3⟩:=ZiS hv0
    rw [hvb] at q1
    injection q1 with e1 e2 e3
    exact grow _ _ olds hvb om q2 q3
 ·obtain ⟨hrep,b,n,hvb⟩:=hv
  obtain ⟨b',cap',olds,q1,q2,q3,q4,q5⟩:=Zg5 hrl hrep
  rw [hvb] at q1
  injection q1 with e1 e2 e3
  by_cases hy0:ys=[]
  ·have hr:rows=[]:=by
    rcases hne with h | h
    ·exact h
    ·exact absurd hy0 h
   refine stay b hr hy0 ?_
   rw [hvb]
   have:n=0:=by rw [e2,hr];rfl
   rw [this]
  ·have hyl0:0 < ys.length:=List.length_pos_iff.2 hy0
   exact grow b n olds (by rw [hvb,e2]) om q4 q5
end
def byR (s:ByteArray):List (List C):=s.data.toList.map fun b=>[.lit (.int .u8 b.toNat)]
theorem ZdP (s:ByteArray):(byR s).length=s.size:=by rw [byR,Tax,Array.length_toList];rfl
theorem ZqC (s:ByteArray):ZaN 1 (byR s):=fun r hr=>by
 obtain ⟨b,_,rfl⟩:=Tbi.1 hr
 exact ⟨rfl,rfl⟩
theorem Zj9 (s t:ByteArray):byR s++byR t=byR (s++t):=by
 rw [byR,byR,byR,<- Tbw]
 congr 1
theorem ZCb (s:ByteArray):(byR s).flatten=(Lib.strCells s).map C.lit:=by
 rw [byR,Lib.strCells,List.map_map]
 induction s.data.toList with
 | nil=>rfl
 | cons b l ih=>simp only [Tbv,List.flatten_cons,ih,Tae,Tag];rfl
theorem Zjw {w:World} {S:Nat->Prop}:∀ vs:List Value,Zaa w S (vs.map C.lit) vs
 | []=>by simp [Zaa]
 | v::vs=>by simp only [Tbv,Zaa,Rep];exact ⟨trivial,Zjw vs⟩
section
variable {e:Env} {K:St->Prop} {ds:List (Option Nat)} {os:List Oper} {s:List (Nat × A)} {m:List (Nat × Bk)}
theorem ZAv {σ:St} {o:Oper} {x y:Operand} {t t2 ety by' k d:Nat} {rows:List (List C)} {oa:Option (Option Addr × Nat)} {str:ByteArray} (ho:o.op=.call ⟨.builtin .append,#[x,y],#[t,t2]⟩) (hdd:o.dst=some d) (hb:Za1 e.P t=some (ety,1,by')) (ht2:e.P.underlying t2=some .string)
  (hx:evA σ.s x=.buf k) (hm:gm σ.m k=some (.buf oa ety 1 rows)) (hy:evA σ.s y=.d (.one (.lit (.string str)))) (hle:rows.length+(byR str).length<=maxApp) (hK:K ⟨(d,.buf d)::Zau d (Zau k σ.s),(d,.buf none ety 1 (rows++byR str))::remM d (remM k σ.m)⟩):ZbC e o σ K:=by
 intro he U w0 S0 nt a w Q hd ⟨S,L,h⟩
 have hx':a.eval x=L.v k:=by have:=h.eval x;rw [hx] at this;exact this
 have hy':a.eval y=.string str:=by have:=h.eval y;rw [hy] at this;simpa [ARel,DRel,Rep] using this
 have ho':ZaP w S ety 1 rows (L.v k):=(h.cls.own k _ hm).2
 obtain ⟨v',w',hrun,hbuf,τ,hk,hτ,hblk⟩:=Zr7 (ty:=o.type) (ts:=#[t,t2]) (v:=L.v k) (u:=.string str) he h.cls rfl rfl ht2 hb (.inl ho') ho'.2.1 (ZqC str) hle
  ⟨Lib.strCells str,fun w'=>by simp [Builtin.lenOf,ZdP],by rw [ZCb];exact Zjw _,fun P w' _=>by rw [ZdP];exact Lib.run_firstCells_string w' 1 str⟩
 unfold Oper.wp
 have hr2:(execOp a.eval o).run e.P w=.ok (.value v') w':=by
  simp [execOp,ho,resolve,invoke,builtin,hx',hy',hrun,Result.andThen]
 rw [hr2,Oper.upon_value,hdd]
 refine ⟨_,hK,h.born he (hd d hdd) (τ:=τ) (b':=0) (v':=v') (s1:=Zau k σ.s) (m1:=remM k σ.m) (fun _ h=>h) (fun _ h=>.inl h) (fun t=>?_) (fun k' x hx=>?_) (fun g hg=>?_) (fun k' x g hkd hx hg hb'=>?_) hk ?_ (fun g hg=>?_) (by simp [ARel])⟩
 ·rcases Zd0 k t σ.s with ⟨h1,_⟩ | h1
  ·exact .inl h1
  ·exact .inr h1
 ·rw [Za7] at hx
  split at hx
  ·cases hx
  ·exact hx
 ·have hg':=(hτ g hg).1
  exact ⟨(Own1.lt (k:=k) (L:=L) (bk:=.buf none ety 1 rows) ⟨by simp,ho'⟩ hg').2,h.cls.notE hm hg',h.cls.mine k _ g hm hg'⟩
 ·have hg':=(hτ g hg).1
  rw [Za7] at hx
  split at hx
  ·cases hx
  ·rename_i hne'
   exact hne' (h.cls.inj k' k x _ g hx hm hb' hg')
 ·simp only [Own1,if_true];exact ⟨by simp,hbuf⟩
 ·simp only [ZaB,if_true] at hg
  exact hblk g hg
theorem Zn5:∀ (l:List UInt8) (acc:ByteArray),(l.map fun b=>(b.toNat:Int)).foldl (fun r n=>r.push (UInt8.ofNat n.toNat)) acc=⟨acc.data++l.toArray⟩
 | [],acc=>by simp
 | b::l,acc=>by
  rw [Tbv,List.foldl_cons,Zn5 l]
  have hb:UInt8.ofNat ((b.toNat:Int)).toNat=b:=by simp
  rw [hb]
  simp [ByteArray.push]
theorem ZCc (s:ByteArray):(s.data.toList.map fun b=>(b.toNat:Int)).foldl (fun r n=>r.push (UInt8.ofNat n.toNat)) ByteArray.empty=s:=by
 rw [Zn5]
 show (⟨#[]++s.data.toList.toArray⟩:ByteArray)=s
 simp
theorem Zr8 {σ:St} {o:Oper} {t d:TypeId} {x:Operand} {k ety:Nat} {oa:Option (Option Addr × Nat)} {str:ByteArray} (ho:o.op=.convert t d x) (hx:evA σ.s x=.buf k) (hm:gm σ.m k=some (.buf oa ety 1 (byR str))) (ht:Zj8 e.P t d=true) (hK:K ⟨setA σ.s o.dst (.d (.one (.lit (.string str)))),σ.m⟩):ZbC e o σ K:=by
 intro he U w0 S0 nt a w Q hd ⟨S,L,h⟩
 have hx':a.eval x=L.v k:=by have:=h.eval x;rw [hx] at this;exact this
 have ho':ZaP w S ety 1 (byR str) (L.v k):=(h.cls.own k _ hm).2
 have hrun:(convert t d (L.v k)).run e.P w=.ok (.string str) w:=by
  unfold Zj8 at ht
  split at ht
  ·rename_i e1 h1 h2
   split at ht
   ·rename_i h3
    have key:∀ (b:Option Addr) (cap:Nat),L.v k=.slice b str.size cap->(∀ ad,b=some ad->(loadCells ad str.size).run e.P w=.ok ((str.data.toList.map fun b=>(b.toNat:Int)).map (Value.int .u8)).toArray w)->(b=none->str.size=0)->(convert t d (L.v k)).run e.P w=.ok (.string str) w:=fun b cap hv hl hn=>by
     rw [hv,run_convert_bytes_string w t d e1 b _ cap h1 h3 h2]
     cases b with
     | none =>
      have h0:=hn rfl
      have:str=ByteArray.empty:=by
       cases str with
       | mk data=>simp only [ByteArray.size] at h0;rw [Array.eq_empty_of_size_eq_zero h0];rfl
      rw [this]
      simp [Conv.bytesToString]
     | some ad =>
      rw [run_bytesToString w ad _ cap _ (hl ad rfl),ZCc]
    rcases ho'.2.2 with ⟨hr,b,hv⟩ | ⟨g,cap,cur,hv,hc,hg,hs,hh,hlc,hmx,hcs,hr⟩
    ·have h0:str.size=0:=by rw [<- ZdP,hr];rfl
     have hd0:str.data.toList=[]:=Tan (by rw [Array.length_toList];exact h0)
     refine key b 0 (by rw [hv,h0]) (fun ad _=>?_) (fun _=>h0)
     rw [h0,hd0]
     simp [loadCells,loadCellsFrom]
    ·rw [ZdP] at hv
     refine key _ cap hv (fun ad had=>?_) (fun hb=>by cases hb)
     injection had with had
     subst had
     have hl:=run_loadCells_list (P:=e.P) w ⟨g,0,none⟩ ((str.data.toList.map fun b=>(b.toNat:Int)).map (Value.int .u8)) (fun j u hj=>by
      rw [Taz,Taz] at hj
      obtain ⟨b,hb,rfl⟩:∃ b,str.data.toList[j]?=some b∧u=.int .u8 b.toNat:=by
       cases hq:str.data.toList[j]? with
       | none=>rw [hq] at hj;cases hj
       | some b=>rw [hq] at hj;injection hj with hj;exact ⟨b,rfl,hj.symm⟩
      have h1:=Zan.get (byR str) 0 j [.lit (.int .u8 b.toNat)] (k:=1) (fun z hz=>(ZqC str z hz).1) hr (by rw [byR,Taz,hb];rfl)
      rw [Addr.add_at]
      simpa [Zah,Rep] using h1)
     rw [Tax,Tax,Array.length_toList] at hl
     exact hl
   ·cases ht
  ·cases ht
 unfold Oper.wp
 have hr2:(execOp a.eval o).run e.P w=.ok (.value (.string str)) w:=by
  simp [execOp,ho,hx',hrun,Result.andThen]
 rw [hr2,Oper.upon_value]
 exact ⟨_,hK,S,L,h.put (α:=.d (.one (.lit (.string str)))) (by simp [ARel,DRel,Rep]) hd⟩
theorem gSt {d t t2 ty ety by' k:Nat} {p:String} {ed:Array Edge} {x y:Operand} {rows:List (List C)} {oa:Option (Option Addr × Nat)} {str:ByteArray} {s2:List (Nat × A)} {m2:List (Nat × Bk)} (hle:rows.length+(byR str).length<=maxApp) (ht2:e.P.underlying t2=some .string) (hK:Runs e ds 0 os ⟨(d,.buf d)::s2,(d,.buf none ety 1 (rows++byR str))::m2⟩ K)
  (hb:Za1 e.P t=some (ety,1,by'):=by exact sfx) (hx:evA s x=.buf k:=by exact sfx) (hm:gm m k=some (.buf oa ety 1 rows):=by exact snx) (hy:evA s y=.d (.one (.lit (.string str))):=by exact sfx)
  (hs:Zau d (Zau k s)=s2:=by exact snv) (hr:remM d (remM k m)=m2:=by exact snv):Runs e ds 0 (⟨some d,.call ⟨.builtin .append,#[x,y],#[t,t2]⟩,ty,p,ed,none⟩::os) ⟨s,m⟩ K:=by
 subst hs hr
 simp only [Runs] at hK ⊢
 exact ZcM rfl (ZAv rfl rfl hb ht2 hx hm hy hle hK)
theorem gTx {d t1 t2 ty ety k:Nat} {p:String} {ed:Array Edge} {x:Operand} {oa:Option (Option Addr × Nat)} (str:ByteArray) (ht:Zj8 e.P t1 t2=true) (hK:Runs e ds 0 os ⟨(d,.d (.one (.lit (.string str))))::s,m⟩ K) (hx:evA s x=.buf k:=by exact sfx) (hm:gm m k=some (.buf oa ety 1 (byR str)):=by exact snx):Runs e ds 0 (⟨some d,.convert t1 t2 x,ty,p,ed,none⟩::os) ⟨s,m⟩ K:=by
 simp only [Runs] at hK ⊢
 exact ZcM rfl (Zr8 (o:=⟨some d,.convert t1 t2 x,ty,p,ed,none⟩) rfl hx hm ht hK)
end
def Zcl (w:World):List (List C)->(Nat->Prop)->List (List Value)->Prop
 | [],_,[]=>True
 | r::rs,S,us::uss=>∃ S1 S2:Nat->Prop,(∀ x,S1 x->S x)∧(∀ x,S2 x->S x)∧(∀ x,S1 x->S2 x->False)∧Zai w r S1 us∧Zcl w rs S2 uss
 | _,_,_=>False
def Zdj (us:List Value):List C:=us.map .lit
section
variable {w w':World}
theorem Zcl.keep (hz:w.heap.size<=w'.heap.size):∀ (rows:List (List C)) (S S':Nat->Prop) (uss:List (List Value)),(∀ b,S b->w'.heap[b]?=w.heap[b]?)->(∀ b,S b->S' b)->Zcl w rows S uss->Zcl w' rows S' uss
 | [],_,_,[],_,_,_=>trivial
 | r::rs,S,S',us::uss,hk,hS,h=>by
  obtain ⟨S1,S2,h1,h2,hd,hr,hrs⟩:=h
  exact ⟨S1,S2,fun x hx=>hS x (h1 x hx),fun x hx=>hS x (h2 x hx),hd,Zai.keep hz r S1 S1 us (fun x hx=>hk x (h1 x hx)) (fun _ h=>h) hr,Zcl.keep hz rs S2 S2 uss (fun x hx=>hk x (h2 x hx)) (fun _ h=>h) hrs⟩
 | [],_,_,_::_,_,_,h=>h.elim
 | _::_,_,_,[],_,_,h=>h.elim
theorem Zcl.len:∀ {rows:List (List C)} {S:Nat->Prop} {uss:List (List Value)},Zcl w rows S uss->uss.length=rows.length
 | [],_,[],_=>rfl
 | r::rs,S,us::uss,⟨S1,S2,_,_,_,_,h⟩=>by simp [Zcl.len h]
theorem Zcl.snoc:∀ {rows:List (List C)} {r:List C} {S S1 S2:Nat->Prop} {uss:List (List Value)} {us:List Value},Zcl w rows S1 uss->Zai w r S2 us->(∀ x,S1 x->S x)->(∀ x,S2 x->S x)->(∀ x,S1 x->S2 x->False)->Zcl w (rows++[r]) S (uss++[us])
 | [],r,S,S1,S2,[],us,_,h2,i1,i2,hd=>⟨S2,fun _=>False,i2,fun _ h=>h.elim,fun _ _ h=>h,h2,trivial⟩
 | q::qs,r,S,S1,S2,vs::vss,us,⟨T1,T2,a1,a2,a3,a4,a5⟩,h2,i1,i2,hd =>
  ⟨T1,fun x=>T2 x∨S2 x,fun x hx=>i1 x (a1 x hx),fun x hx=>hx.elim (fun h=>i1 x (a2 x h)) (i2 x),fun x hx hy=>hy.elim (a3 x hx) (hd x (a1 x hx)),a4,
   Zcl.snoc a5 h2 (fun _ h=>.inl h) (fun _ h=>.inr h) (fun x hx hy=>hd x (a2 x hx) hy)⟩
 | [],_,_,_,_,_::_,_,h,_,_,_,_=>h.elim
 | _::_,_,_,_,_,[],_,h,_,_,_,_=>h.elim
theorem Zcl.get:∀ {rows:List (List C)} {S:Nat->Prop} {uss:List (List Value)} {i:Nat} {r:List C} {us:List Value},Zcl w rows S uss->rows[i]?=some r->uss[i]?=some us->Zai w r S us
 | r::rs,S,us::uss,0,r',us',⟨S1,S2,h1,_,_,h,_⟩,hr,hu=>by
  simp at hr hu;subst hr hu
  exact Zai.keep (Tah _) r S1 S us (fun _ _=>rfl) h1 h
 | r::rs,S,us::uss,i+1,r',us',⟨S1,S2,_,h2,_,_,h⟩,hr,hu =>
  Zai.keep (Tah _) r' S2 S us' (fun _ _=>rfl) h2 (Zcl.get h (by simpa using hr) (by simpa using hu))
 | [],_,_,_,_,_,_,hr,_=>by simp at hr
 | _::_,_,[],_,_,_,h,_,_=>h.elim
theorem Zcl.stable (rows:List (List C)) (E:Nat->Prop) (uss:List (List Value)):Zdz E (fun w=>Zcl w rows E uss):=fun w w' hz hk h=>Zcl.keep hz rows E E uss hk (fun _ h=>h) h
theorem Zai.stable (r:List C) (E:Nat->Prop) (us:List Value):Zdz E (fun w=>Zai w r E us):=fun w w' hz hk h=>Zai.keep hz r E E us hk (fun _ h=>h) h
theorem Own.stable (c:C) (E:Nat->Prop) (v:Value):Zdz E (fun w=>Own w c E v):=fun w w' hz hk h=>Own.keep hz c E E v hk (fun _ h=>h) h
theorem ZbO.open {b:Nat}:∀ {cs:List C} {S:Nat->Prop} {off:Nat},ZbO w b cs S off->∃ us,Zai w cs S us∧∀ j u,us[j]?=some u->w.cell? ⟨b,off+j,none⟩=some u
 | [],S,off,_=>⟨[],Zai.nil,fun j u h=>by simp at h⟩
 | c::cs,S,off,h=>by
  simp only [ZbO] at h
  obtain ⟨S1,S2,u,h1,h2,hd,hu,hc,hcs⟩:=h
  obtain ⟨us,k1,k2⟩:=ZbO.open hcs
  refine ⟨u::us,Zai.cons S1 S2 hc k1 h1 h2 hd,fun j v hj=>?_⟩
  cases j with
  | zero=>simp at hj;subst hj;exact hu
  | succ j=>have:=k2 j v (by simpa using hj);rw [<- this];congr 2;omega
theorem Zbj.open {b:Nat}:∀ {rows:List (List C)} {S:Nat->Prop} {off:Nat},Zbj w b rows S off->∃ uss,Zcl w rows S uss∧∀ T:Nat->Prop,Zan w T b off (uss.map Zdj)
 | [],S,off,_=>⟨[],trivial,fun T=>by simp [Zan]⟩
 | r::rs,S,off,h=>by
  simp only [Zbj] at h
  obtain ⟨S1,S2,h1,h2,hd,hr,hrs⟩:=h
  obtain ⟨us,k1,k2⟩:=ZbO.open hr
  obtain ⟨uss,k3,k4⟩:=Zbj.open hrs
  refine ⟨us::uss,⟨S1,S2,h1,h2,hd,k1,k3⟩,fun T=>?_⟩
  simp only [Tbv,Zan]
  refine ⟨Zah.of_vals _ us off (Zgx us) k2,?_⟩
  rw [show (Zdj us).length=r.length by simp [Zdj,k1.len]]
  exact k4 T
theorem Zai.cells:∀ {cs:List C} {S:Nat->Prop} {us:List Value},Zai w cs S us->cs.all ZaE=true->(Zdj us).all ZaE=true
 | [],_,[],_,_=>rfl
 | c::cs,S,u::us,h,hc=>by
  simp only [Zai] at h
  obtain ⟨S1,S2,_,_,_,h1,h2⟩:=h
  simp only [List.all_cons,Taq] at hc
  simp only [Zdj,Tbv,List.all_cons,Taq]
  exact ⟨ZfY (c:=c) hc.1 (Own.rep c S1 u h1),Zai.cells h2 hc.2⟩
 | [],_,_::_,h,_=>by simp [Zai] at h
 | _::_,_,[],h,_=>by simp [Zai] at h
theorem Own.open {T:Nat->Prop} {rows:List (List C)} {E:Nat->Prop} {a:Option Addr} {n cap sz:Nat} (hT:∀ b,E b->¬ T b) (hne:rows≠[]) (hrl:ZaN sz rows) (h:Own w (.sl rows) E (.slice a n cap)) :
  ∃ uss ety E',n=uss.length∧ZaP w T ety sz (uss.map Zdj) (.slice a uss.length cap)∧Zcl w rows E' uss∧(∀ b,E' b->E b∧vblk (.slice a uss.length cap)≠some b)∧∀ b,vblk (.slice a uss.length cap)=some b->E b:=by
 simp only [Own] at h
 obtain ⟨A,n',cap',hv,hn,hle,hmx,hb⟩:=h
 injection hv with e1 e2 e3
 subst e1 e2 e3
 have h0:0 < rows.length:=List.length_pos_iff.2 hne
 obtain ⟨b,off,S',rfl,hEb,hbl,⟨hfr,rfl,cur,ety,sz',hh,hcs,hz,hrs⟩,hS',hrows⟩:=hb om
 obtain ⟨uss,k1,k2⟩:=Zbj.open hrows
 have hl:=k1.len
 have hsz:sz'=sz:=by
  obtain ⟨r,hr⟩:=List.exists_mem_of_ne_nil _ hne
  rw [<- hrs r hr,(hrl r hr).1]
 subst hsz
 have hvb:vblk (.slice (some ⟨b,0,none⟩) uss.length cap)=some b:=by simp only [vblk];rw [if_neg om]
 have hrow:ZaN sz' (uss.map Zdj):=fun x hx=>by
  obtain ⟨us,hus,rfl⟩:=Tbi.1 hx
  obtain ⟨i,hi⟩:=Tbk hus
  have hil:=(Tac.1 hi).1
  obtain ⟨r,hr⟩:∃ r,rows[i]?=some r:=⟨_,Taa om⟩
  have hov:=k1.get hr hi
  have hrm:=hrl r (Tab hr)
  exact ⟨by simp only [Zdj,Tax];rw [hov.len];exact hrm.1,hov.cells hrm.2⟩
 refine ⟨uss,ety,S',by omega,⟨hz,hrow,.inr ⟨b,cap,cur,by simp,by omega,hbl,hT b hEb,hh,by simp only [Tax];omega,hmx,hcs,k2 T⟩⟩,k1,fun x hx=>⟨(hS' x hx).1,fun e=>?_⟩,fun x hx=>?_⟩
 ·rw [hvb] at e;injection e with e;exact (hS' x hx).2 e.symm
 ·rw [hvb] at hx;injection hx with hx;rw [<- hx];exact hEb
end
theorem ZGt (x:Bk):ZeA [x]:=⟨by simp,trivial⟩
def ZFH (row:List C) (r:List D) (pm:List Bk):Prop:=∃ us E,r=[.agg (Zdj us)]∧us.length=row.length∧(Zdj us).all ZaE=true∧pm=[.set E (fun w=>Zai w row E us)]
def ZAw (ety sz:Nat) (rows:List (List C)) (r:List D) (pm:List Bk):Prop:=∃ a cap uss E,r=[.one (.lit (.slice a uss.length cap))]∧uss.length=rows.length∧pm=[.buf (some (a,cap)) ety sz (uss.map Zdj),.set E (fun w=>Zcl w rows E uss)]
theorem ZFH.mk {row:List C} {us:List Value} {E:Nat->Prop} (h:us.length=row.length) (hok:(Zdj us).all ZaE=true):ZFH row [.agg (Zdj us)] [.set E (fun w=>Zai w row E us)]:=⟨us,E,rfl,h,hok,rfl⟩
theorem ZAw.mk {ety sz:Nat} {rows:List (List C)} {a:Option Addr} {cap:Nat} {uss:List (List Value)} {E:Nat->Prop} (h:uss.length=rows.length):ZAw ety sz rows [.one (.lit (.slice a uss.length cap))] [.buf (some (a,cap)) ety sz (uss.map Zdj),.set E (fun w=>Zcl w rows E uss)]:=⟨a,cap,uss,E,rfl,h,rfl⟩
theorem Zn6 {n:Nat}:∀ {rows:List (List C)} (l:Nat),ZaN n rows->(rows.take l).flatten=rows.flatten.take (l * n)
 | [],l,_=>by simp
 | r::rs,0,_=>by simp
 | r::rs,l+1,h=>by
  have h1:=(h r Tar).1
  have h2:=Zn6 (n:=n) l (fun x hx=>h x (Tak _ hx):ZaN n rs)
  simp only [Tbc,List.flatten_cons,h2]
  rw [show (l+1) * n=r.length+l * n by rw [h1,Nat.succ_mul,Nat.add_comm],List.take_length_add_append]
theorem Zn7 {n:Nat}:∀ {rows:List (List C)} (l:Nat),ZaN n rows->(rows.drop l).flatten=rows.flatten.drop (l * n)
 | [],l,_=>by simp
 | r::rs,0,_=>by simp
 | r::rs,l+1,h=>by
  have h1:=(h r Tar).1
  have h2:=Zn7 (n:=n) l (fun x hx=>h x (Tak _ hx):ZaN n rs)
  simp only [List.drop_succ_cons,List.flatten_cons,h2]
  rw [show (l+1) * n=r.length+l * n by rw [h1,Nat.succ_mul,Nat.add_comm],List.drop_length_add_append]
section
variable {e:Env} {U:Nat->Prop} {w0:World} {S0:Nat->Prop} {nt:Nat} {σ:St} {a:Act} {w:World} {S:Nat->Prop} {L:Lay}
theorem Sim.storeRows (h:Sim e U w0 S0 nt σ a w S L) (he:e.Ok) {o:Option (Option Addr × Nat)} {k l g ety sz:Nat} {rows news:List (List C)} {vs:List Value} (hm:gm σ.m k=some (.buf o ety sz rows)) (hg:vblk (L.v k)=some g) (hl:l+news.length<=rows.length) (hn:ZaN sz news) (hu:Zaa w S news.flatten vs) :
  ∃ w',(storeCells ⟨g,l * sz,none⟩ vs).run e.P w=.ok () w'∧SimE e U w0 S0 nt ⟨σ.s,(k,.buf o ety sz (rows.take l++news++rows.drop (l+news.length)))::remM k σ.m⟩ a w':=by
 obtain ⟨hb0,hs0,hrl,h3⟩:=h.cls.own k _ hm
 have hvl:=hu.len
 have h1:=ZjT hn
 rw [ZbV hn] at hvl
 rcases h3 with ⟨h3,p,h4⟩ | ⟨g',cap,cur,hv,hcp,hg1,hg2,hheap0,hlen,hcap,hcs,hrows⟩
 ·rw [h4] at hg;cases p <;> simp [vblk] at hg
 ·have hgg:g'=g:=by rw [hv] at hg;simp only [vblk] at hg;rw [if_neg om] at hg;injection hg
  subst hgg
  have hfl:=ZbV hrl
  have hin:l * sz+vs.length<=rows.length * sz:=by
   have:=Nat.mul_le_mul_right sz hl
   rw [Nat.add_mul] at this
   omega
  have hin2:rows.length * sz<=cap * sz:=Nat.mul_le_mul_right sz hlen
  have hst:=run_storeCells_at e.P g' (l * sz) ety vs 0 cur w hheap0 (by rw [hcs];omega) (Zea h1 hu)
  simp only [Nat.add_zero] at hst
  have hput:=Zd9 w g' (l * sz) ety vs cur hheap0 (by rw [hcs];omega)
  refine ⟨_,hst,?_⟩
  have hheap:=setRow_heap w g' cur (cur.toList.take (l * sz)++vs++cur.toList.drop (l * sz+vs.length)).toArray ety _ hheap0
  have hdr:(w.setRow g' (cur.toList.take (l * sz)++vs++cur.toList.drop (l * sz+vs.length)).toArray).drawn=w.drawn:=ZdZ _ _ _
  generalize hW:w.setRow g' (cur.toList.take (l * sz)++vs++cur.toList.drop (l * sz+vs.length)).toArray=W at hput hheap hdr ⊢
  have hsz:W.heap.size=w.heap.size:=hput.size
  have hkc:∀ b o,S b->W.cell? ⟨b,o,none⟩=w.cell? ⟨b,o,none⟩:=fun b o hs=>Zbv (hput.other b (fun e=>hg2 (e ▸ hs))) o
  have hbk:ZaB L k (.buf o ety sz rows) g':=hg
  have hln:(rows.take l++news++rows.drop (l+news.length)).length=rows.length:=by simp;omega
  have hown:Own1 W S L k (.buf o ety sz (rows.take l++news++rows.drop (l+news.length))):=by
   simp only [Own1]
   refine ⟨fun a ha=>by rw [hb0 a ha,hln],hs0,fun x hx=>?_,.inr ⟨g',cap,_,by rw [hv,hln],hcp,by omega,hg2,hheap,by rw [hln];exact hlen,hcap,by simp;omega,?_⟩⟩
   ·rcases Tbh.1 hx with hx | hx
    ·rcases Tbh.1 hx with hx | hx
     ·exact hrl x (List.mem_of_mem_take hx)
     ·exact hn x hx
    ·exact hrl x (List.mem_of_mem_drop hx)
   ·apply Zan.of_flat
    rw [List.flatten_append,List.flatten_append,Zn6 l hrl,Zn7 _ hrl]
    have hz:w.heap.size<=W.heap.size:=by omega
    have hf:=hrows.flat
    have r1:=Zah.keepAt (S':=S) hz hkc (fun _ h=>h) g' 0 (rows.flatten.take (l * sz)) (fun i hi=>hput.old _ (.inl (by simp at hi;omega))) (hf.take (l * sz))
    have r3:Zah W S g' (l * sz) news.flatten:=Zah.of_vals _ vs _ (Zaa.keep2 hz hkc (fun _ h=>h) hu) hput.new
    have r5:=Zah.keepAt (S':=S) hz hkc (fun _ h=>h) g' _ (rows.flatten.drop ((l+news.length) * sz)) (fun i hi=>hput.old _ (.inr (by rw [hvl];rw [Nat.add_mul];omega))) (hf.drop ((l+news.length) * sz))
    have l1:(rows.flatten.take (l * sz)).length=l * sz:=by rw [Tav,hfl];omega
    refine Zah.append _ _ 0 (Zah.append _ _ 0 r1 ?_) ?_
    ·rw [l1,Nat.zero_add];exact r3
    ·rw [Tad,l1,ZbV hn,<- Nat.add_mul]
     exact r5
  obtain ⟨t1,t2,t3⟩:=h.touch he (d:=k) (bk:=.buf o ety sz (rows.take l++news++rows.drop (l+news.length))) (m':=(k,.buf o ety sz (rows.take l++news++rows.drop (l+news.length)))::remM k σ.m) (w':=W) (L':=L) (τ:=some g') (fun _ h=>h) (fun _ h=>.inl h)
   (fun k' x hkd hx=>by simp only [gm,hkd,if_false,Za7] at hx;exact hx) (by simp [gm]) (fun _ _=>⟨rfl,rfl⟩)
   (fun q hq=>by injection hq with hq;subst hq;exact ⟨hg2,h.cls.notE hm hbk,h.cls.mine k _ _ hm hbk⟩)
   (fun k' x q hkd hx hq hb=>by
    injection hq with hq;subst hq
    simp only [gm,hkd,if_false,Za7] at hx
    exact hkd (h.cls.inj k' k x _ _ hx hm hb hbk))
   ⟨hput.os,hput.tape,hput.output,fun _=>Nat.le_of_eq hdr.symm,by omega,fun b hb hE=>hput.other b (fun eq=>hE (by rw [eq]))⟩ hown (fun q hq=>.inl (by rw [<- hq];exact hg.symm))
  exact ⟨S,L,t1,fun t=>t3 _ _ (fun _=>⟨rfl,rfl⟩) (h.rel t),h.size,h.defers,t2⟩
end
section
variable {e:Env} {σ:St} {o:Oper} {K:St->Prop}
theorem ZCd {t:TypeId} {x:Operand} {lo hi:Option Operand} (ho:o.op=.slice t x lo hi none) {k cap ety sz:Nat} {a:Option Addr} {rows:List (List C)} {l h:Int} (hx:nrm σ.m (evA σ.s x)=.buf k) (hm:gm σ.m k=some (.buf (some (a,cap)) ety sz rows)) (ht:Zbg e.P t=some sz)
  (hlo:loA (lo.map (evA σ.s))=some l) (hhi:hiA rows.length (hi.map (evA σ.s))=some h) (hb:0<=l∧l<=h∧h<=rows.length) (hK:K ⟨setA σ.s o.dst (.d (.one (.lit (sliced a l.toNat h.toNat cap sz)))),σ.m⟩):ZbC e o σ K:=by
 intro he U w0 S0 nt ac w Q hd ⟨S,L,h1⟩
 refine Oper.wp_mono (fun a' w' hs=>⟨_,hK,hs⟩) (ZeV h1 hd (ZaL fun w S L ρv hC hr=>?_))
 have hx':=Zci hC (hr x (by simp [ho,Op.operands]))
 rw [hx] at hx'
 have hx':ρv x=L.v k:=hx'
 obtain ⟨hpl,_,_,hbuf⟩:=hC.own k _ hm
 have hv:L.v k=.slice a rows.length cap:=hpl (a,cap) rfl
 have hcap:rows.length<=cap:=by
  rcases hbuf with ⟨h4,_⟩ | ⟨g,cap',cur,h4,_,_,_,_,h5,_⟩
  ·rw [h4];exact Tai _
  ·rw [hv] at h4;injection h4 with _ _ h4;rw [h4];exact h5
 have hel:∃ ety i,e.P.underlying t=some (.slice ety)∧e.P.info? ety=some i∧i.size=sz:=by
  unfold Zbg at ht
  split at ht
  ·rename_i ety hu
   simp only [Tau] at ht
   obtain ⟨i,hi,hs⟩:=ht
   exact ⟨ety,i,hu,hi,hs⟩
  ·cases ht
 obtain ⟨el,i,hu,hi',hsz⟩:=hel
 have hlo:=ZhY (w:=w) (S:=S) (L:=L) (ρv:=ρv) hlo (fun y hy=>hr y (by simp [ho,Op.operands,hy]))
 have hhi:=ZhZ (w:=w) (S:=S) (L:=L) (ρv:=ρv) hhi (fun y hy=>hr y (by simp [ho,Op.operands,hy]))
 refine ⟨sliced a l.toNat h.toNat cap sz,?_,by simp [ARel,DRel,Rep]⟩
 have hbnd:(Instr.sliceBounds true rows.length cap (lo.map ρv) (hi.map ρv) none).run e.P w=.ok (l.toNat,h.toNat,cap) w:=by
  have eh:(h.toNat:Int)=h:=Int.toNat_of_nonneg om
  have b1:0<=h:=by omega
  have b2:h<=(cap:Int):=by omega
  have b3:0<=l:=hb.1
  have b4:l<=h:=hb.2.1
  rcases hlo with ⟨rfl,rfl⟩ | e1 <;> rcases hhi with ⟨rfl,e2⟩ | e2
  ·simp [Instr.sliceBounds,e2,Result.andThen]
  ·simp [Instr.sliceBounds,e2,Result.andThen,run_sliceBound,b1,b2]
  ·have b5:l<=(rows.length:Int):=by omega
   simp [Instr.sliceBounds,e1,e2,Result.andThen,run_sliceBound,b3,b5]
  ·simp [Instr.sliceBounds,e1,e2,Result.andThen,run_sliceBound,b1,b2,b3,b4,eh]
 simp only [execOp,ho,Sem.run_bind,hx',hv,Instr.sliceAt,Instr.slice,underlying,run_program,Result.andThen_ok,hu,Sem.run_pure,Option.map_none,hbnd,sizeOf,typeInfo,hi',hsz,sliced]
theorem ZiI {U:Nat->Prop} {base:Nat} {S0:Nat->Prop} {t:TypeId} {x i:Operand} (ho:o.op=.indexAddr t x i) {k cap ety sz l h:Nat} {a:Option Addr} {rows:List (List C)} {j:Int} (hx:evA σ.s x=.d (.one (.lit (sliced a l h cap sz)))) (hi:evA σ.s i=.d (.one (.lit (.int .i64 j)))) (hm:gm σ.m k=some (.buf (some (a,cap)) ety sz rows)) (ht:Zbg e.P t=some sz)
  (hb:0<=j∧l+j < h∧h<=rows.length):Zbp e U base S0 σ.m o (evA σ.s) (.row k (l+j.toNat) sz 0):=by
 refine ZaL fun w S L ρv hC hr=>?_
 have hx':=hr x (by simp [ho,Op.operands])
 have hi':=hr i (by simp [ho,Op.operands])
 rw [hx] at hx'
 rw [hi] at hi'
 have hx':=Zbk hx'
 have hi':=Zbk hi'
 obtain ⟨hpl,_,_,hbuf⟩:=hC.own k _ hm
 have hv:L.v k=.slice a rows.length cap:=hpl (a,cap) rfl
 rcases hbuf with ⟨h4,_⟩ | ⟨g,cap',cur,h4,h6,_,_,_,h5,_⟩
 ·rw [h4] at hb;simp at hb;omega
 ·rw [hv] at h4
  injection h4 with h7 _ h8
  subst h7 h8
  have hlc:¬ cap=l:=by omega
  have hval:sliced (some ⟨g,0,none⟩) l h cap sz=.slice (some ⟨g,l * sz,none⟩) (h - l) (cap - l):=by
   simp only [sliced,hlc,if_false,Option.map_some,Addr.add_at,Nat.zero_add]
  refine ⟨.pointer (some ⟨g,(l+j.toNat) * sz+0,none⟩),?_,g,?_,rfl⟩
  ·unfold Zbg at ht
   split at ht
   ·rename_i el hu
    simp only [Tau] at ht
    obtain ⟨ii,hii,hn⟩:=ht
    have hlt:j < ((h - l:Nat):Int):=by omega
    have hj:=hb.1
    have e2:l * sz+j.toNat * sz=(l+j.toNat) * sz+0:=by rw [Nat.add_mul];rfl
    simp [execOp,ho,hi',hx',hval,Instr.indexAt,asIntOf,underlying,hu,sizeOf,typeInfo,hii,hn,Addr.add_at,hj,hlt,Result.andThen,e2]
   ·cases ht
  ·rw [hv];simp only [vblk];rw [if_neg om]
theorem ZqD {t:TypeId} {x i:Operand} (ho:o.op=.indexAddr t x i) {k cap ety sz l h:Nat} {a:Option Addr} {rows:List (List C)} {j:Int} (hx:evA σ.s x=.d (.one (.lit (sliced a l h cap sz)))) (hi:evA σ.s i=.d (.one (.lit (.int .i64 j)))) (hm:gm σ.m k=some (.buf (some (a,cap)) ety sz rows)) (ht:Zbg e.P t=some sz)
  (hb:0<=j∧l+j < h∧h<=rows.length) (hK:K ⟨setA σ.s o.dst (.row k (l+j.toNat) sz 0),σ.m⟩):ZbC e o σ K:=by
 intro he U w0 S0 nt ac w Q hd ⟨S,L,h1⟩
 exact Oper.wp_mono (fun a' w' hs=>⟨_,hK,hs⟩) (ZeV h1 hd (ZiI ho hx hi hm ht hb))
theorem ZoG {t:TypeId} {x i:Operand} (ho:o.op=.indexAddr t x i) {k cap ety sz l h:Nat} {a:Option Addr} {rows:List (List C)} {j:Int} (hx:evA σ.s x=.d (.one (.lit (sliced a l h cap sz)))) (hi:evA σ.s i=.d (.one (.lit (.int .i64 j)))) (hm:gm σ.m k=some (.buf (some (a,cap)) ety sz rows)) (ht:Zbg e.P t=some sz)
  (hb:0<=j∧l+j < h∧h<=rows.length) (hK:K ⟨setA σ.s o.dst (.row k (l+j.toNat) sz 0),σ.m⟩):ZeL e o σ K:=fun he=>⟨_,hK,fun U base S0=>ZiI ho hx hi hm ht hb⟩
theorem Zwd {x:Operand} {t:TypeId} (ho:o.op=.call ⟨.builtin .clear,#[x],#[t]⟩) {k cap ety sz by' l:Nat} {a:Option Addr} {rows:List (List C)} {z:List C} (hx:evA σ.s x=.d (.one (.lit (sliced a l rows.length cap sz)))) (hm:gm σ.m k=some (.buf (some (a,cap)) ety sz rows)) (ht:Za1 e.P t=some (ety,sz,by')) (hz:ZaC e.P ety=some z) (hzok:z.all ZaE=true) (hl:l < rows.length)
  (hK:K ⟨setA σ.s o.dst (.tup []),(k,.buf (some (a,cap)) ety sz (rows.take l++List.replicate (rows.length - l) z))::remM k σ.m⟩):ZbC e o σ K:=by
 intro he U w0 S0 nt ac w Q hd ⟨S,L,h1⟩
 have hx':=h1.eval x
 rw [hx] at hx'
 have hx':=Zbk hx'
 obtain ⟨hpl,hs0,_,hbuf⟩:=h1.cls.own k _ hm
 have hv:L.v k=.slice a rows.length cap:=hpl (a,cap) rfl
 obtain ⟨i,zv,hu,hi,hzz,hsz,hby,hzs,hs0,hb4⟩:=ZcT ht
 have hzc:z=zv.cells.toList.map toC:=by
  unfold ZaC at hz
  simp only [hi,Option.bind_some,hzz,Option.map_some,Tap] at hz
  exact hz.symm
 rcases hbuf with ⟨h4,_⟩ | ⟨g,cap',cur,h4,h6,_,_,_,h5,_⟩
 ·rw [h4] at hl;simp at hl
 ·rw [hv] at h4
  injection h4 with h7 _ h8
  subst h7 h8
  have hlc:¬ cap=l:=by omega
  have hval:sliced (some ⟨g,0,none⟩) l rows.length cap sz=.slice (some ⟨g,l * sz,none⟩) (rows.length - l) (cap - l):=by
   simp only [sliced,hlc,if_false,Option.map_some,Addr.add_at,Nat.zero_add]
  have hn:ZaN sz (List.replicate (rows.length - l) z):=fun r hr=>by
   rw [List.eq_of_mem_replicate hr]
   exact ⟨by rw [hzc];simp [hzs],hzok⟩
  have hu':Zaa w S (List.replicate (rows.length - l) z).flatten ((List.replicate (rows.length - l) zv).flatMap fun v=>v.cells.toList):=by rw [hzc];exact ZiU _
  obtain ⟨w',hst,hsim⟩:=h1.storeRows he (l:=l) (g:=g) hm (by rw [hv];simp only [vblk];rw [if_neg om]) (by simp;omega) hn hu'
  rw [Tbr,show l+(rows.length - l)=rows.length by omega,List.drop_length,List.append_nil] at hsim
  obtain ⟨S',L',hsim⟩:=hsim
  have hzc2:(Builtin.zeroCells zv.cells (rows.length - l)).toList=(List.replicate (rows.length - l) zv).flatMap fun v=>v.cells.toList:=by
   have:=Zlu zv sz hs0 hzs (rows.length - l)
   rw [<- this]
   simp [Builtin.zeroCells,madeCells,hzs]
  have hrun:(execOp ac.eval o).run e.P w=.ok (.value (.tuple #[])) w':=by
   have hne:¬ (rows.length - l=0):=by omega
   obtain ⟨q,hq⟩:∃ q,rows.length - l=q+1:=⟨rows.length - l - 1,by omega⟩
   rw [hq] at hst hzc2
   simp [execOp,ho,resolve,invoke,builtin,Builtin.clear_,hx',hval,hq,underlying,hu,zeroValue,hi,hzz,typeInfo,Result.andThen,hzc2,hst]
  unfold Oper.wp
  rw [hrun,Oper.upon_value]
  refine ⟨_,hK,S',L',hsim.put (α:=.tup []) (v:=.tuple #[]) ⟨[],rfl,trivial⟩ hd⟩
end
theorem ZAx {a:Option Addr} {cap ety sz:Nat} {rows:List (List C)} (m:Nat) (hm:m<=rows.length):ZlL [.buf (some (a,cap)) ety sz rows] [.buf (some (a,cap)) ety sz (rows.take m)]:=fun w S h ha=>by
 have hl:(rows.take m).length=m:=by rw [Tav];omega
 obtain ⟨h0,hrl,hc⟩:ZaP w S ety sz rows (.slice a rows.length cap):=h (.buf (some (a,cap)) ety sz rows) (by simp)
 have hb:∀ b,vblk (.slice a m cap)=some b ↔ vblk (.slice a rows.length cap)=some b:=fun b=>by cases a <;> simp [vblk]
 refine ⟨fun x hx=>?_,ZGt _,fun g ⟨x,hx,hg⟩=>?_⟩
 ·simp only [Tbg,List.not_mem_nil,or_false] at hx
  subst hx
  show ZaP w S ety sz (rows.take m) (.slice a (rows.take m).length cap)
  rw [hl]
  refine ⟨h0,fun r hr=>hrl r (List.mem_of_mem_take hr),?_⟩
  rcases hc with ⟨h4,p,h5⟩ | ⟨g,cap',cur,h4,h5,h6,h7,h8,h9,h10,h11,h12⟩
  ·subst h4
   simp only [Taj,Nat.le_zero_eq] at hm
   subst hm
   exact .inl ⟨by simp,p,by simpa using h5⟩
  ·injection h4 with e1 e2 e3
   subst e1 e3
   refine .inr ⟨g,cap,cur,by rw [hl],h5,h6,h7,h8,by rw [hl];omega,h10,h11,?_⟩
   have:=Zan.sub hrl h12 0 m
   simpa using this
 ·simp only [Tbg,List.not_mem_nil,or_false] at hx
  subst hx
  refine ⟨.buf (some (a,cap)) ety sz rows,by simp,?_⟩
  simp only [pblk,hl] at hg ⊢
  exact (hb g).1 hg
theorem gSub {e:Env} {K:St->Prop} {ds:List (Option Nat)} {os:List Oper} {d t ty cap ety sz:Nat} {p:String} {ed:Array Edge} {x:Operand} {lo hi:Option Operand} {s:List (Nat × A)} {m:List (Nat × Bk)} {a:Option Addr} {rows:List (List C)} (k l h:Nat) (hb:l<=h∧h<=rows.length) (hK:Runs e ds 0 os ⟨(d,.d (.one (.lit (sliced a l h cap sz))))::s,m⟩ K)
  (hx:nrm m (evA s x)=.buf k:=by exact sfx) (hm:gm m k=some (.buf (some (a,cap)) ety sz rows):=by exact snv) (ht:Zbg e.P t=some sz:=by exact snx)
  (hlo:loA (lo.map (evA s))=some (l:Int):=by exact sfx) (hhi:hiA rows.length (hi.map (evA s))=some (h:Int):=by exact sfx):Runs e ds 0 (⟨some d,.slice t x lo hi none,ty,p,ed,none⟩::os) ⟨s,m⟩ K:=by
 simp only [Runs] at hK ⊢
 exact ZcM rfl (ZCd (o:=⟨some d,.slice t x lo hi none,ty,p,ed,none⟩) rfl hx hm ht hlo hhi ⟨by omega,by omega,by omega⟩ (by simpa only [Tbz,setA] using hK))
theorem ZHO {e:Env} {K:St->Prop} {ds:List (Option Nat)} {os:List Oper} {d t ty cap ety sz l h:Nat} {p:String} {ed:Array Edge} {x i:Operand} {s:List (Nat × A)} {m:List (Nat × Bk)} {a:Option Addr} {rows:List (List C)} (k j:Nat) (hb:l+j < h∧h<=rows.length) (hK:Runs e ds 0 os ⟨(d,.row k (l+j) sz 0)::s,m⟩ K)
  (hx:evA s x=.d (.one (.lit (sliced a l h cap sz))):=by exact snx) (hi:evA s i=.d (.one (.lit (.int .i64 (j:Int)))):=by exact sfx) (hm:gm m k=some (.buf (some (a,cap)) ety sz rows):=by exact snv) (ht:Zbg e.P t=some sz:=by exact snx):Runs e ds 0 (⟨some d,.indexAddr t x i,ty,p,ed,none⟩::os) ⟨s,m⟩ K:=by
 simp only [Runs] at hK ⊢
 exact ZcM rfl (ZqD (o:=⟨some d,.indexAddr t x i,ty,p,ed,none⟩) rfl hx hi hm ht ⟨by omega,by omega,by omega⟩ (by simpa only [Tbz,setA] using hK))
theorem Zwe {e:Env} {ds:List (Option Nat)} {K:St->Prop} {n:Nat} {os:List Oper} {o:Oper} {σ:St} (hg:o.guard=none) (hal:isAl o=false) (h:ZeL e o σ (fun σ'=>Runs e ds n os σ' K)):Runs e ds (n+1) (o::os) σ K:=by
 simp only [Runs,hg]
 rw [if_neg (by simp [hal])]
 exact h
theorem ZAy {e:Env} {K:St->Prop} {ds:List (Option Nat)} {os:List Oper} {n d t ty cap ety sz l h:Nat} {p:String} {ed:Array Edge} {x i:Operand} {s:List (Nat × A)} {m:List (Nat × Bk)} {a:Option Addr} {rows:List (List C)} (k j:Nat) (hb:l+j < h∧h<=rows.length) (hK:Runs e ds n os ⟨(d,.row k (l+j) sz 0)::s,m⟩ K)
  (hx:evA s x=.d (.one (.lit (sliced a l h cap sz))):=by exact snx) (hi:evA s i=.d (.one (.lit (.int .i64 (j:Int)))):=by exact sfx) (hm:gm m k=some (.buf (some (a,cap)) ety sz rows):=by exact snv) (ht:Zbg e.P t=some sz:=by exact snx):Runs e ds (n+1) (⟨some d,.indexAddr t x i,ty,p,ed,none⟩::os) ⟨s,m⟩ K :=
 Zwe rfl rfl (ZoG (o:=⟨some d,.indexAddr t x i,ty,p,ed,none⟩) rfl hx hi hm ht ⟨by omega,by omega,by omega⟩ (by simpa only [Tbz,setA] using hK))
theorem ZHe {e:Env} {K:St->Prop} {ds:List (Option Nat)} {os:List Oper} {t ty cap ety sz by' l:Nat} {dd:Option Nat} {p:String} {ed:Array Edge} {x:Operand} {s s':List (Nat × A)} {m m':List (Nat × Bk)} {a:Option Addr} {rows:List (List C)} {z:List C} (k:Nat) (hl:l < rows.length) (hK:Runs e ds 0 os ⟨s',(k,.buf (some (a,cap)) ety sz (rows.take l++List.replicate (rows.length - l) z))::m'⟩ K)
  (hx:evA s x=.d (.one (.lit (sliced a l rows.length cap sz))):=by exact snv) (hm:gm m k=some (.buf (some (a,cap)) ety sz rows):=by exact snv) (ht:Za1 e.P t=some (ety,sz,by'):=by exact snx) (hz:ZaC e.P ety=some z:=by exact snx) (hzok:z.all ZaE=true:=by first | rfl | simp only [pz,↓reduceIte,Nat.reduceEqDiff,Nat.reduceAdd,Nat.reduceSub,Nat.reduceMul,Nat.reduceLeDiff,Nat.reduceBEq,Tal,decide_true,decide_false,Int.reduceLE,Int.reduceToNat,Int.reduceLT,Int.reduceEq,eq_self,Nat.reduceShiftRight,Nat.reduceAnd,Nat.reduceBneDiff])
  (hs:setA s dd (.tup [])=s':=by simp only [setA];exact rfl) (hr:remM k m=m':=by exact snv):Runs e ds 0 (⟨dd,.call ⟨.builtin .clear,#[x],#[t]⟩,ty,p,ed,none⟩::os) ⟨s,m⟩ K:=by
 subst hs hr
 simp only [Runs] at hK ⊢
 exact ZcM rfl (Zwd (o:=⟨dd,.call ⟨.builtin .clear,#[x],#[t]⟩,ty,p,ed,none⟩) rfl hx hm ht hz hzok hl hK)
theorem ZkD (a:Option Addr) (k cap sz:Nat):sliced a 0 k cap sz=.slice a k cap:=by
 cases a with
 | none=>simp [sliced]
 | some p =>
  have:p.add 0=p:=by cases p;simp [Addr.add]
  simp [sliced,this]
section
variable {e:Env} {ops:Array Oper} {K:St->Prop}
def QN (e:Env) (U:Nat->Prop) (w0:World) (S0:Nat->Prop) (nt:Nat) (K:St->Prop):Exit->Act->World->Prop:=fun ex a w=>ex=.normal∧∃ σ',K σ'∧SimE e U w0 S0 nt σ' a w
def ZcE (e:Env) (ops:Array Oper) (K:St->Prop) (f:Nat) (listed:Array Bool) (σ:St):Prop :=
 e.Ok->∀ (U:Nat->Prop) (w0:World) (S0:Nat->Prop) (nt:Nat) (a:Act) (w:World),(∀ o∈ops.toList,∀ d,o.dst=some d->d < nt)->SimE e U w0 S0 nt σ a w->wpAny e.P .any ops (QN e U w0 S0 nt K) f listed a w
theorem Zr9 {ds:List (Option Nat)} {f:Nat} {listed:Array Bool} {σ:St} (hds:ops.toList.map (·.dst)=ds) (h:ZcC e ds ops K f listed σ):ZcE e ops K f listed σ:=by
 subst hds
 exact fun he U w0 S0 nt a w hd hs=>ZkS he (fun a w σ' hK hs'=>⟨rfl,σ',hK,hs'⟩) hd f listed σ a w hs h
def Zjx (ops:Array Oper) (listed:Array Bool) (i:Nat):Bool:=(List.range ops.size).all fun j=>j==i || (listed.getD j true || match ops[i]?,ops[j]? with
 | some oi,some oj=>oj.after.any (fun e=>Region.binds .any e && e.on==i) || oi.apart ops oj
 | _,_=>true)
def Zio (ops:Array Oper):Bool:=ops.toList.all fun o=>match o.op with
 | .select _ _=>false
 | _=>true
theorem ZfC {f i d:Nat} {listed:Array Bool} {σ:St} {o:Oper} {α:A} (hi:ops[i]?=some o) (hdst:o.dst=some d) (hg:o.guard=none) (hsel:Zio ops=true) (hap:Zjx ops listed i=true) (hr:(Region.ready .any ops listed).contains i=true)
  (hp:e.Ok->∀ (U:Nat->Prop) (w0:World) (S0:Nat->Prop) (nt:Nat) (a:Act) (w:World) (S:Nat->Prop) (L:Lay),Sim e U w0 S0 nt σ a w S L->∃ v,(∀ w',(execOp a.eval o).run e.P w'=.ok (.value v) w')∧ARel w S L α v)
  (hK:ZcE e ops K f (listed.setIfInBounds i true) ⟨(d,α)::σ.s,σ.m⟩):ZcE e ops K (f+1) listed σ:=by
 intro he U w0 S0 nt a w hd ⟨S,L,h⟩
 obtain ⟨v,hv,hrel⟩:=hp he U w0 S0 nt a w S L h
 have hmem:o∈ops.toList:=Tab (by simpa using hi)
 refine wpAny_first (oi:=o) (v:=v) hi (fun j oj cs b hj hs=>?_) (fun c a w hq=>?_) f listed a w (fun j oj hj hne hl hno=>?_) ?_ ?_ ?_
 ·have:=List.all_eq_true.1 hsel oj (Tab (by simpa using hj))
  rw [hs] at this
  cases this
 ·have:=hq.1
  cases this
 ·have hjs:=(Tbl.1 hj).1
  have:=List.all_eq_true.1 hap j (List.mem_range.2 hjs)
  simp only [hi,hj,Bool.or_eq_true,beq_iff_eq,List.any_eq_true,Array.any_eq_true',Taq] at this
  rcases this with h1 | h1 | h1 | h1
  ·exact absurd h1 hne
  ·rw [hl] at h1;cases h1
  ·obtain ⟨ed,h2,h3,h4⟩:=h1
   exact absurd h4 (hno ed h2 h3)
  ·exact h1
 ·simpa using hr
 ·exact .inl ⟨by simp [Region.wanted,hg],hv⟩
 ·have h2:SimE e U w0 S0 nt ⟨(d,α)::σ.s,σ.m⟩ (a.put o.dst v) w:=⟨S,L,by
   have:=h.put (α:=α) hrel (hd o hmem)
   rwa [hdst,setA,<- hdst] at this⟩
  exact hK he U w0 S0 nt (a.put o.dst v) w hd h2
end
section
variable {e:Env} {K:St->Prop} {mask:Nat} {Q:PX->St->Prop} {s:List (Nat × A)} {m:List (Nat × Bk)}
theorem Zjy {id:Nat} {ops:Array Oper} {σ:St} (hK:ZcE e ops (ZcN mask Q) ops.size (Array.replicate ops.size false) σ):pwp e mask (.region id ops true) σ Q:=fun he U w0 S0 nt a w hok hs=>by
 obtain ⟨S,L,h1⟩:=hs.drew he
 refine Code.wp_mono (fun ex a' w' hq=>?_) (wp_region_any he.mixed (hK he U w0 S0 nt a { w with drawn:=w.drawn+1 } (Zo4 hok) ⟨S,L,h1⟩))
 obtain ⟨rfl,σ',k1,k2⟩:=hq
 exact ⟨_,k1,k2.weak (fun t=>Zh1 mask t σ'.s) (fun _ _ h=>h)⟩
theorem gF0 {id:Nat} {l:List Oper} (hK:ZcE e l.toArray (ZcN mask Q) l.length (Array.replicate l.length false) ⟨s,m⟩):pwp e mask (.region id l.toArray true) ⟨s,m⟩ Q:=Zjy (ops:=l.toArray) (by simpa using hK)
theorem gFT {ds:List (Option Nat)} {ops:Array Oper} {f:Nat} {listed:Array Bool} {σ:St} (h:ZcC e ds ops K f listed σ) (hds:ops.toList.map (·.dst)=ds:=by exact rfl):ZcE e ops K f listed σ:=Zr9 hds h
theorem gFm {ops:Array Oper} {f d ty:Nat} {p:String} {ed:Array Edge} {x:Operand} {α:A} {listed:Array Bool} (i:Nat) (hK:ZcE e ops K f (listed.setIfInBounds i true) ⟨(d,α)::s,m⟩)
  (hi:ops[i]?=some ⟨some d,.move x,ty,p,ed,none⟩:=by simp only [List.getElem?_toArray,Tat,Tas];exact rfl) (hx:evA s x=α:=by exact snv) (hsel:Zio ops=true:=by decide +kernel) (hap:Zjx ops listed i=true:=by decide +kernel) (hr:(Region.ready .any ops listed).contains i=true:=by decide +kernel):ZcE e ops K (f+1) listed ⟨s,m⟩:=by
 subst hx
 exact ZfC (o:=⟨some d,.move x,ty,p,ed,none⟩) hi rfl rfl hsel hap hr (fun _ U w0 S0 nt a w S L h=>⟨a.eval x,fun w2=>by simp [execOp],h.eval x⟩) hK
theorem gFs {ops:Array Oper} {f d t ty cap ety sz:Nat} {p:String} {ed:Array Edge} {x:Operand} {lo hi:Option Operand} {a:Option Addr} {rows:List (List C)} {listed:Array Bool} (i k l h:Nat) (hb:l<=h∧h<=rows.length) (hK:ZcE e ops K f (listed.setIfInBounds i true) ⟨(d,.d (.one (.lit (sliced a l h cap sz))))::s,m⟩)
  (hi':ops[i]?=some ⟨some d,.slice t x lo hi none,ty,p,ed,none⟩:=by simp only [List.getElem?_toArray,Tat,Tas];exact rfl)
  (hx:nrm m (evA s x)=.buf k:=by exact sfx) (hm:gm m k=some (.buf (some (a,cap)) ety sz rows):=by exact snv) (ht:Zbg e.P t=some sz:=by exact snx)
  (hlo:loA (lo.map (evA s))=some (l:Int):=by exact sfx) (hhi:hiA rows.length (hi.map (evA s))=some (h:Int):=by exact sfx)
  (hsel:Zio ops=true:=by decide +kernel) (hap:Zjx ops listed i=true:=by decide +kernel) (hr:(Region.ready .any ops listed).contains i=true:=by decide +kernel):ZcE e ops K (f+1) listed ⟨s,m⟩:=by
 refine ZfC (o:=⟨some d,.slice t x lo hi none,ty,p,ed,none⟩) hi' rfl rfl hsel hap hr (fun _ U w0 S0 nt ac w S L hS=>⟨sliced a l h cap sz,fun w'=>?_,by simp [ARel,DRel,Rep]⟩) hK
 have hx':=Zci hS.cls (hS.eval x)
 simp only at hx'
 rw [hx] at hx'
 have hx':ac.eval x=L.v k:=hx'
 obtain ⟨hpl,_,_,hbuf⟩:=hS.cls.own k _ hm
 have hv:L.v k=.slice a rows.length cap:=hpl (a,cap) rfl
 have hcap:rows.length<=cap:=by
  rcases hbuf with ⟨h4,_⟩ | ⟨g,cap',cur,h4,_,_,_,_,h5,_⟩
  ·rw [h4];exact Tai _
  ·rw [hv] at h4;injection h4 with _ _ h4;rw [h4];exact h5
 have hel:∃ ety i,e.P.underlying t=some (.slice ety)∧e.P.info? ety=some i∧i.size=sz:=by
  unfold Zbg at ht
  split at ht
  ·rename_i ety hu
   simp only [Tau] at ht
   obtain ⟨i,hi,hs⟩:=ht
   exact ⟨ety,i,hu,hi,hs⟩
  ·cases ht
 obtain ⟨el,inf,hu,hinf,hsz⟩:=hel
 have hlo:=ZhY (w:=w) (S:=S) (L:=L) (ρv:=ac.eval) hlo (fun y hy=>hS.eval y)
 have hhi:=ZhZ (w:=w) (S:=S) (L:=L) (ρv:=ac.eval) hhi (fun y hy=>hS.eval y)
 have hbnd:(Instr.sliceBounds true rows.length cap (lo.map ac.eval) (hi.map ac.eval) none).run e.P w'=.ok (l,h,cap) w':=by
  have b2:(h:Int)<=(cap:Int):=by omega
  have b5:(l:Int)<=(rows.length:Int):=by omega
  rcases hlo with ⟨rfl,e1⟩ | e1 <;> rcases hhi with ⟨rfl,e2⟩ | e2
  ·have e1:l=0:=by omega
   have e2:h=rows.length:=by omega
   subst e1 e2
   simp [Instr.sliceBounds,Result.andThen]
  ·have e1:l=0:=by omega
   subst e1
   simp [Instr.sliceBounds,e2,Result.andThen,run_sliceBound,b2]
  ·have e2:h=rows.length:=by omega
   subst e2
   simp [Instr.sliceBounds,e1,Result.andThen,run_sliceBound,b5]
  ·have b4:(l:Int)<=(h:Int):=by omega
   simp [Instr.sliceBounds,e1,e2,Result.andThen,run_sliceBound,b2,b4,hb.1]
 simp only [execOp,Sem.run_bind,hx',hv,Instr.sliceAt,Instr.slice,underlying,run_program,Result.andThen_ok,hu,Sem.run_pure,Option.map_none,hbnd,sizeOf,typeInfo,hinf,hsz,sliced]
end
section
variable {e:Env} {K:St->Prop} {s:List (Nat × A)} {m:List (Nat × Bk)}
theorem gFb {ops:Array Oper} {f d ty t t':Nat} {p:String} {ed:Array Edge} {op:BinOp} {x y:Operand} {a b v:Value} {listed:Array Bool} (i:Nat) (hK:ZcE e ops K f (listed.setIfInBounds i true) ⟨(d,.d (.one (.lit v)))::s,m⟩)
  (hi:ops[i]?=some ⟨some d,.binOp op t x y t',ty,p,ed,none⟩:=by simp only [List.getElem?_toArray,Tat,Tas];exact rfl) (hx:evA s x=.d (.one (.lit a)):=by exact snv) (hy:evA s y=.d (.one (.lit b)):=by exact snv) (hv:binT e.P op t a b=some v:=by exact sfv) (hsel:Zio ops=true:=by decide +kernel) (hap:Zjx ops listed i=true:=by decide +kernel) (hr:(Region.ready .any ops listed).contains i=true:=by decide +kernel):ZcE e ops K (f+1) listed ⟨s,m⟩:=by
 refine ZfC (o:=⟨some d,.binOp op t x y t',ty,p,ed,none⟩) hi rfl rfl hsel hap hr (fun _ U w0 S0 nt ac w S L h=>⟨v,fun w2=>?_,by simp [ARel,DRel,Rep]⟩) hK
 have h1:=h.eval x
 have h2:=h.eval y
 rw [hx] at h1
 rw [hy] at h2
 have h1:=Zbk h1
 have h2:=Zbk h2
 have:=Zpl (x:=x) (y:=y) hv w2
 simp only [execOp,h1,h2]
 rw [Sem.run_bind,this]
 rfl
theorem gFi {ops:Array Oper} {f d ty t k ety sz:Nat} {p:String} {ed:Array Edge} {x y:Operand} {o:Option (Option Addr × Nat)} {rows:List (List C)} {kk:IntKind} {listed:Array Bool} (i j:Nat) (hlt:j < rows.length) (hK:ZcE e ops K f (listed.setIfInBounds i true) ⟨(d,.row k j sz 0)::s,m⟩)
  (hi:ops[i]?=some ⟨some d,.indexAddr t x y,ty,p,ed,none⟩:=by simp only [List.getElem?_toArray,Tat,Tas];exact rfl) (hx:nrm m (evA s x)=.buf k:=by exact sfx) (hy:evA s y=.d (.one (.lit (.int kk (j:Int)))):=by exact snv) (hm:gm m k=some (.buf o ety sz rows):=by exact snv) (ht:Zbg e.P t=some sz:=by exact snx) (hsel:Zio ops=true:=by decide +kernel) (hap:Zjx ops listed i=true:=by decide +kernel) (hr:(Region.ready .any ops listed).contains i=true:=by decide +kernel):ZcE e ops K (f+1) listed ⟨s,m⟩:=by
 refine ZfC (o:=⟨some d,.indexAddr t x y,ty,p,ed,none⟩) hi rfl rfl hsel hap hr (fun _ U w0 S0 nt ac w S L h=>?_) hK
 have hx':=Zci h.cls (h.eval x)
 simp only at hx'
 rw [hx] at hx'
 have hx':ac.eval x=L.v k:=hx'
 have hy':=h.eval y
 rw [hy] at hy'
 have hy':=Zbk hy'
 obtain ⟨_,_,_,h4⟩:=h.cls.own k _ hm
 rcases h4 with ⟨h4,_⟩ | ⟨g,cap,cur,hv,hcp,_⟩
 ·rw [h4] at hlt;simp at hlt
 ·refine ⟨.pointer (some ⟨g,j * sz,none⟩),fun w2=>?_,g,?_,rfl⟩
  ·have:=ZiQ (P:=e.P) (j:=(j:Int)) ht (Int.natCast_nonneg _) (by rw [Tbz];exact hlt) (g:=g) (cap:=cap) (k:=kk) (w:=w2)
   rw [Tbz] at this
   simp [execOp,hy',hx',hv,this]
  ·rw [hv];simp only [vblk];rw [if_neg om]
end
def RBuf (a:Option Addr) (cap:Nat) (us:List Tm) (r:List D) (pm:List Bk):Prop:=r=[]∧pm=[.buf (some (a,cap)) 46 4 (Zab us)]
theorem Zaq (l:List Tm) (i:Nat) (t:Tm):(Zab l).set i (encTm t)=Zab (l.set i t):=by
 rw [Zbi,Zbi,List.map_set]
theorem gTPe {X:Prop} {P:Program} {ts:List RS} {R:List D->List Bk->Prop} {σ:St} {r:List D} {pm:List Bk} (ks:List Nat) (hR:R r pm) (hx:ZjV P ts R .normal σ->X:=by first | exact fun h=>h | exact fun h=>⟨_,Wk.refl _,h⟩) (hr:resD P σ ts=some r:=by exact sfy) (hg:getM σ.m ks=some pm:=by exact sny) (hn:ks.Nodup:=by decide) (hp:pm.all pinned=true:=by simp only [pz,↓reduceIte,Nat.reduceEqDiff,Nat.reduceAdd,Nat.reduceSub,Nat.reduceMul,Nat.reduceLeDiff,Nat.reduceBEq,Tal,decide_true,decide_false,Int.reduceLE,Int.reduceToNat,Int.reduceLT,Int.reduceEq,eq_self,Nat.reduceShiftRight,Nat.reduceAnd,Nat.reduceBneDiff]):X :=
 hx ⟨r,ks,pm,hg,hn,hp,hR,Zfe hr⟩
theorem Zka:ZdA (Tryz.prog.underlying 3)=some .i64:=by kernel_rfl
theorem Zip:Tryz.prog.underlying 168=some (.int .u64):=by kernel_rfl
theorem ZhT (j:Int):ZlD j (some (.int .u64)) (some .i64)=some (.d (.one (.lit (.int .i64 (IntKind.i64.wrap j))))):=rfl
theorem toNat_one:Int.toNat 1=1:=rfl
theorem Zkb (i j:Nat) (h:i+j < 4611686018427387904):∃ s m:Nat,IntKind.i64.wrap ((i:Int)+(j:Int))=(s:Int)∧IntKind.u64.wrap (s:Int)=(s:Int)∧(s:Int).fdiv (2 ^ (min 1 64))=(m:Int)∧IntKind.i64.wrap (m:Int)=(m:Int)∧m=(i+j) / 2:=by
 refine ⟨i+j,(i+j) / 2,ZaQ om om om,?_,?_,IntWalk.i64_in _ ⟨by omega,by omega⟩,rfl⟩
 ·simp only [IntKind.wrap,IntKind.signed,IntKind.bits]
  simp
  omega
 ·simp only [show min 1 64=1 from rfl,Int.pow_succ,Int.pow_zero,Int.one_mul]
  rw [Int.fdiv_eq_ediv_of_nonneg _ (by decide)]
  omega
theorem Zjz (P X Z Y Q:List Tm) (hl:X.length=Y.length) {A B n N:Nat} (hA:A=P.length) (hB:B=P.length+X.length+Z.length) (hn:n=X.length) (hN:N=P.length+X.length+Z.length+Y.length+Q.length) (hmx:N<=4000000) (a:Option Addr) (cap:Nat) :
  ConP e0 272 [.one (.lit (.slice a N cap)),.one (.lit (.int .i64 A)),.one (.lit (.int .i64 B)),.one (.lit (.int .i64 n)),.one (.fn 82 [])] [.buf (some (a,cap)) 46 4 (Zab (P++X++Z++Y++Q))] (RBuf a cap (P++Y++Z++X++Q)):=by
 refine gIP (ts:=[]) [1000] 9231 Tryz.func272 ?_
 (have F:=@tmz;refine gG ?_;clear F)
 (have F:=@tmz;refine gL (ι:=Nat × List Tm) [10,13] [1000] (fun x=>[(10,.d (.one (.lit (.int .i64 (x.1:Int)))))]) (fun x=>[(1000,.buf (some (a,cap)) 46 4 (Zab x.2))]) (fun x=>x.1<=n∧x.2=swR P X Z Y Q x.1) (fun x=>n - x.1) ((0,P++X++Z++Y++Q)) (⟨Tai _,(ZB6 P X Z Y Q).symm⟩) (fun x hx=>?_);clear F)
 obtain ⟨i,us⟩:=x
 obtain ⟨hi,hus⟩:=hx
 simp only at hi hus
 dsimp only
 by_cases hlt:i < n
 rotate_left
 ·obtain rfl:i=n:=by omega
  have q1:((i:Int) < (i:Int))=False:=eq_false om
  rw [hn,ZGj hl] at hus
  subst hus
  (have F:=ai @q1 @tmz;refine gG ?_;clear F)
  first | exact (have F:=@e0P;gTPe (R:=RBuf a cap (P++Y++Z++X++Q)) [1000] ⟨rfl,rfl⟩) | exact (have F:=@e0P;gTP (R:=RBuf a cap (P++Y++Z++X++Q)) [1000] ⟨rfl,rfl⟩)
 have q1:((i:Int) < (n:Int))=True:=eq_true om
 obtain ⟨x,hx⟩:∃ t,X[i]?=some t:=⟨_,Taa om⟩
 obtain ⟨y,hy⟩:∃ t,Y[i]?=some t:=⟨_,Taa om⟩
 obtain ⟨g1,g2,g3⟩:=ZGl (P:=P) (Z:=Z) (Q:=Q) hl hx hy
 have hul:us.length=N:=by rw [hus,ZGk i hl,hN]
 rw [<- hus] at g1 g2 g3
 rw [<- hB] at g2 g3
 rw [<- hA] at g1 g3
 obtain ⟨p,hp⟩:∃ p,p=A+i:=⟨_,rfl⟩
 obtain ⟨q,hq⟩:∃ q,q=B+i:=⟨_,rfl⟩
 rw [<- hp] at g1 g3
 rw [<- hq] at g2 g3
 have w1:IntKind.i64.wrap ((A:Int)+(i:Int))=(p:Int):=ZaQ om om om
 have w2:IntKind.i64.wrap ((B:Int)+(i:Int))=(q:Int):=ZaQ om om om
 have w3:=Zap (k:=i) om
 have l1:p < N:=by omega
 have l2:q < N:=by omega
 have hls:∀ k (t:Tm),(us.set k t).length=N:=fun k t=>by rw [Tay,hul]
 (have F:=ai @q1 @tmz;have NN:Zag 3:=trivial;refine gGn ?_;clear F NN)
 obtain ⟨z,g4⟩:∃ z,(us.set p y)[q]?=some z:=⟨_,Taa (by rw [Tay];omega)⟩
 refine gF0 ?_
 refine gFm 0 ?_
 refine gFm 1 ?_
 refine gFm 2 ?_
 refine (have F:=(ai q1 (ai w1 (ai w2 (ai l1 (ai l2 (ai hul (ai g1 (ai g2 (ai g4 (ai hls (ai @Zac (ai @Zaq tmz))))))))))));gFb 3 ?_)
 refine gFm 4 ?_
 refine gFm 5 ?_
 refine gFm 6 ?_
 refine (have F:=(ai q1 (ai w1 (ai w2 (ai l1 (ai l2 (ai hul (ai g1 (ai g2 (ai g4 (ai hls (ai @Zac (ai @Zaq tmz))))))))))));gFb 7 ?_)
 refine gFm 8 ?_
 refine gFm 9 ?_
 refine gFm 10 ?_
 refine (have F:=(ai q1 (ai w1 (ai w2 (ai l1 (ai l2 (ai hul (ai g1 (ai g2 (ai g4 (ai hls (ai @Zac (ai @Zaq tmz))))))))))));gFb 11 ?_)
 refine (have F:=(ai q1 (ai w1 (ai w2 (ai l1 (ai l2 (ai hul (ai g1 (ai g2 (ai g4 (ai hls (ai @Zac (ai @Zaq tmz))))))))))));gFi (rows:=Zab us) 12 q (by rw [Zac];omega) ?_)
 refine gFm 14 ?_
 refine gFm 15 ?_
 refine gFm 16 ?_
 refine (have F:=(ai q1 (ai w1 (ai w2 (ai l1 (ai l2 (ai hul (ai g1 (ai g2 (ai g4 (ai hls (ai @Zac (ai @Zaq tmz))))))))))));gFb 17 ?_)
 refine (have F:=(ai q1 (ai w1 (ai w2 (ai l1 (ai l2 (ai hul (ai g1 (ai g2 (ai g4 (ai hls (ai @Zac (ai @Zaq tmz))))))))))));gFi (rows:=Zab us) 18 p (by rw [Zac];omega) ?_)
 refine gFT ?_
 refine gO2 13 19 ?_ ?_
 ·refine (have F:=(ai q1 (ai w1 (ai w2 (ai l1 (ai l2 (ai hul (ai g1 (ai g2 (ai g4 (ai hls (ai @Zac (ai @Zaq tmz))))))))))));gO3 ?_)
  refine gO1 19 ?_
  refine (have F:=(ai q1 (ai w1 (ai w2 (ai l1 (ai l2 (ai hul (ai g1 (ai g2 (ai g4 (ai hls (ai @Zac (ai @Zaq tmz))))))))))));gO3 ?_)
  refine gO1 20 ?_
  refine (have F:=(ai q1 (ai w1 (ai w2 (ai l1 (ai l2 (ai hul (ai g1 (ai g2 (ai g4 (ai hls (ai @Zac (ai @Zaq tmz))))))))))));gO3 ?_)
  refine gO1 21 ?_
  refine (have F:=(ai q1 (ai w1 (ai w2 (ai l1 (ai l2 (ai hul (ai g1 (ai g2 (ai g4 (ai hls (ai @Zac (ai @Zaq tmz))))))))))));gO3 ?_)
  refine gO1 22 ?_
  refine (have F:=(ai q1 (ai w1 (ai w2 (ai l1 (ai l2 (ai hul (ai g1 (ai g2 (ai g4 (ai hls (ai @Zac (ai @Zaq tmz))))))))))));gO3 ?_)
  refine gO1 23 ?_
  refine (have F:=(ai q1 (ai w1 (ai w2 (ai l1 (ai l2 (ai hul (ai g1 (ai g2 (ai g4 (ai hls (ai @Zac (ai @Zaq tmz))))))))))));gO3 ?_)
  refine (have F:=tmz;gT0 ?_)
  refine Exists.intro _ (ai (Wk.refl _) ?_)
  rw [g3]
  (have F:=@w3;refine gG ?_;exact ⟨(i+1,swR P X Z Y Q (i+1)),⟨hlt,rfl⟩,gw,gw,by omega⟩)
 ·refine (have F:=(ai q1 (ai w1 (ai w2 (ai l1 (ai l2 (ai hul (ai g1 (ai g2 (ai g4 (ai hls (ai @Zac (ai @Zaq tmz))))))))))));gO3 ?_)
  refine gO1 13 ?_
  refine (have F:=(ai q1 (ai w1 (ai w2 (ai l1 (ai l2 (ai hul (ai g1 (ai g2 (ai g4 (ai hls (ai @Zac (ai @Zaq tmz))))))))))));gO3 ?_)
  refine gO1 20 ?_
  refine (have F:=(ai q1 (ai w1 (ai w2 (ai l1 (ai l2 (ai hul (ai g1 (ai g2 (ai g4 (ai hls (ai @Zac (ai @Zaq tmz))))))))))));gO3 ?_)
  refine gO1 21 ?_
  refine (have F:=(ai q1 (ai w1 (ai w2 (ai l1 (ai l2 (ai hul (ai g1 (ai g2 (ai g4 (ai hls (ai @Zac (ai @Zaq tmz))))))))))));gO3 ?_)
  refine gO1 22 ?_
  refine (have F:=(ai q1 (ai w1 (ai w2 (ai l1 (ai l2 (ai hul (ai g1 (ai g2 (ai g4 (ai hls (ai @Zac (ai @Zaq tmz))))))))))));gO3 ?_)
  refine gO1 23 ?_
  refine (have F:=(ai q1 (ai w1 (ai w2 (ai l1 (ai l2 (ai hul (ai g1 (ai g2 (ai g4 (ai hls (ai @Zac (ai @Zaq tmz))))))))))));gO3 ?_)
  refine (have F:=tmz;gT0 ?_)
  refine Exists.intro _ (ai (Wk.refl _) ?_)
  rw [g3]
  (have F:=@w3;refine gG ?_;exact ⟨(i+1,swR P X Z Y Q (i+1)),⟨hlt,rfl⟩,gw,gw,by omega⟩)
theorem ZCe (P X Y Q:List Tm) (hX:0 < X.length) (hY:0 < Y.length) {A M B N:Nat} (hA:A=P.length) (hM:M=P.length+X.length) (hB:B=P.length+X.length+Y.length) (hN:N=P.length+X.length+Y.length+Q.length) (hmx:N<=4000000) (a:Option Addr) (cap:Nat) :
  ConP e0 265 [.one (.lit (.slice a N cap)),.one (.lit (.int .i64 A)),.one (.lit (.int .i64 M)),.one (.lit (.int .i64 B)),.one (.fn 82 [])] [.buf (some (a,cap)) 46 4 (Zab (P++X++Y++Q))] (RBuf a cap (P++Y++X++Q)):=by
 have w1:IntKind.i64.wrap ((M:Int) - (A:Int))=(X.length:Int):=ZaQ om om om
 have w2:IntKind.i64.wrap ((B:Int) - (M:Int))=(Y.length:Int):=ZaQ om om om
 refine gIP (ts:=[]) [1000] 9440287 Tryz.func265 ?_
 (have F:=ai @w1 (ai @w2 @tmz);refine gG ?_;clear F)
 (have F:=@tmz;refine gL (ι:=(Nat × Nat) × List Tm) [10,11,20,23] [1000] (fun x=>[(10,.d (.one (.lit (.int .i64 (x.1.1:Int))))),(11,.d (.one (.lit (.int .i64 (x.1.2:Int)))))]) (fun x=>[(1000,.buf (some (a,cap)) 46 4 (Zab x.2))]) (fun x=>∃ P' X' Y' Q',x.2=P'++X'++Y'++Q'∧x.1.1=X'.length∧x.1.2=Y'.length∧P'.length+X'.length=M∧0 < X'.length∧0 < Y'.length∧P'++Y'++X'++Q'=P++Y++X++Q) (fun x=>x.1.1+x.1.2) (((X.length,Y.length),P++X++Y++Q)) (⟨P,X,Y,Q,rfl,rfl,rfl,hM.symm,hX,hY,rfl⟩) (fun x hx=>?_);clear F)
 obtain ⟨⟨i,j⟩,us⟩:=x
 obtain ⟨P',X',Y',Q',hus,hi,hj,hM',hX',hY',hT⟩:=hx
 simp only at hus hi hj
 dsimp only
 have hlen:=congrArg List.length hT
 simp only [Tad] at hlen
 obtain ⟨z,hz⟩:∃ z,z=P'.length:=⟨_,rfl⟩
 have w3:IntKind.i64.wrap ((M:Int) - (i:Int))=(z:Int):=ZaQ om om om
 by_cases hij:i=j
 ·have q1:((i:Int)=(j:Int))=True:=eq_true om
  have c:=Zjz P' X' [] Y' Q' om (A:=z) (B:=M) (n:=i) (N:=N) hz (by simp;omega) hi (by simp;omega) hmx a cap
  rw [List.append_nil,List.append_nil,hT,<- hus] at c
  (have F:=ai @q1 @tmz;have NN:Zag 8:=trivial;refine gGn ?_;clear F NN)
  refine gB ?_
  (have F:=ai @tmz @w3;refine gCP [1000] [1000] (c) ?_;clear F)
  rintro r pm ⟨rfl,rfl⟩
  simp only [setA,retA,zipM,Tae,Tag]
  (have F:=@tmz;refine gR ?_;clear F)
  (have F:=@tmz;refine gG ?_;clear F)
  first | exact (have F:=@e0P;gTPe (R:=RBuf a cap (P++Y++X++Q)) [1000] ⟨rfl,rfl⟩) | exact (have F:=@e0P;gTP (R:=RBuf a cap (P++Y++X++Q)) [1000] ⟨rfl,rfl⟩)
 have q1:((i:Int)=(j:Int))=False:=eq_false om
 by_cases hgt:j < i
 ·have q2:((j:Int) < (i:Int))=True:=eq_true om
  obtain ⟨d,hd⟩:∃ d,d=i - j:=⟨_,rfl⟩
  have w4:IntKind.i64.wrap ((i:Int) - (j:Int))=(d:Int):=ZaQ om om om
  have hX12:X'=X'.take j++X'.drop j:=(Tbm j X').symm
  have l1:(X'.take j).length=j:=by rw [Tav];omega
  have l2:(X'.drop j).length=d:=by rw [Taw];omega
  generalize X'.take j=X1 at hX12 l1
  generalize X'.drop j=X2 at hX12 l2
  subst hX12
  have c:=Zjz P' X1 X2 Y' Q' om (A:=z) (B:=M) (n:=j) (N:=N) hz (by simp at hM';omega) l1.symm (by simp at hlen;omega) hmx a cap
  rw [show P'++X1++X2++Y'++Q'=us by rw [hus];simp] at c
  (have F:=ai @q1 (ai @q2 @tmz);have NN:Zag 4:=trivial;refine gGn ?_;clear F NN)
  refine gB ?_
  (have F:=ai @tmz @w3;refine gCP [1000] [1000] (c) ?_;clear F)
  rintro r pm ⟨rfl,rfl⟩
  simp only [setA,retA,zipM,Tae,Tag]
  (have F:=@tmz;refine gR ?_;clear F)
  (have F:=@w4;refine gG ?_;exact ⟨((d,j),P'++Y'++X2++X1++Q'),⟨P'++Y',X2,X1,Q',rfl,l2.symm,l1.symm,by simp at hM' ⊢;omega,by omega,by omega,by rw [<- hT];simp⟩,gw,gw,by dsimp only;omega⟩)
 ·have q2:((j:Int) < (i:Int))=False:=eq_false om
  obtain ⟨d,hd⟩:∃ d,d=j - i:=⟨_,rfl⟩
  have w4:IntKind.i64.wrap ((j:Int) - (i:Int))=(d:Int):=ZaQ om om om
  obtain ⟨u,hu⟩:∃ u,u=M+j:=⟨_,rfl⟩
  obtain ⟨v,hv⟩:∃ v,v=M+d:=⟨_,rfl⟩
  have w5:IntKind.i64.wrap ((M:Int)+(j:Int))=(u:Int):=ZaQ om om om
  have w6:IntKind.i64.wrap ((u:Int) - (i:Int))=(v:Int):=ZaQ om om om
  have hY12:Y'=Y'.take d++Y'.drop d:=(Tbm d Y').symm
  have l1:(Y'.take d).length=d:=by rw [Tav];omega
  have l2:(Y'.drop d).length=i:=by rw [Taw];omega
  generalize Y'.take d=Y1 at hY12 l1
  generalize Y'.drop d=Y2 at hY12 l2
  subst hY12
  have c:=Zjz P' X' Y1 Y2 Q' om (A:=z) (B:=v) (n:=i) (N:=N) hz om hi (by simp at hlen;omega) hmx a cap
  rw [show P'++X'++Y1++Y2++Q'=us by rw [hus];simp] at c
  (have F:=ai @q1 (ai @q2 @tmz);have NN:Zag 6:=trivial;refine gGn ?_;clear F NN)
  refine gB ?_
  (have F:=ai @tmz (ai @w3 (ai @w5 @w6));refine gCP [1000] [1000] (c) ?_;clear F)
  rintro r pm ⟨rfl,rfl⟩
  simp only [setA,retA,zipM,Tae,Tag]
  (have F:=@tmz;refine gR ?_;clear F)
  (have F:=@w4;refine gG ?_;exact ⟨((i,d),P'++Y2++Y1++X'++Q'),⟨P',Y2,Y1,X'++Q',by simp,l2.symm,l1.symm,by omega,by omega,by omega,by rw [<- hT];simp⟩,gw,gw,by dsimp only;omega⟩)
def decS (i:Int):ByteArray:=⟨(decB i).toArray⟩
theorem ZAz {i:Int} (h0:0<=i) (h1:i < 14):Con e0 261 [.one (.lit (.int .i64 i))] [.one (.lit (.string (decS i)))]:=by
 have h:i=0∨i=1∨i=2∨i=3∨i=4∨i=5∨i=6∨i=7∨i=8∨i=9∨i=10∨i=11∨i=12∨i=13:=by omega
 rcases h with rfl | rfl | rfl | rfl | rfl | rfl | rfl | rfl | rfl | rfl | rfl | rfl | rfl | rfl
 all_goals (
  have w1:IntKind.i64.wrap (0+1)=1:=by decide
  have w2:IntKind.i64.wrap (1+1)=2:=by decide
  have w3:IntKind.i64.wrap (2+1)=3:=by decide
  have w4:IntKind.i64.wrap (3+1)=4:=by decide
  have w5:IntKind.i64.wrap (4+1)=5:=by decide
  have w6:IntKind.i64.wrap (5+1)=6:=by decide
  have w7:IntKind.i64.wrap (6+1)=7:=by decide
  have w8:IntKind.i64.wrap (7+1)=8:=by decide
  have w9:IntKind.i64.wrap (8+1)=9:=by decide
  have wa:IntKind.i64.wrap (9+1)=10:=by decide
  have u0:IntKind.i64.wrap (10 * 2)=20:=by decide
  have u1:IntKind.i64.wrap (11 * 2)=22:=by decide
  have u2:IntKind.i64.wrap (12 * 2)=24:=by decide
  have u3:IntKind.i64.wrap (13 * 2)=26:=by decide
  have v0:IntKind.i64.wrap (20+2)=22:=by decide
  have v1:IntKind.i64.wrap (22+2)=24:=by decide
  have v2:IntKind.i64.wrap (24+2)=26:=by decide
  have v3:IntKind.i64.wrap (26+2)=28:=by decide
  refine gI (ts:=[.slot 2]) 21 Tryz.func261 ?_
  (have F:=ai @w1 (ai @w2 (ai @w3 (ai @w4 (ai @w5 (ai @w6 (ai @w7 (ai @w8 (ai @w9 (ai @wa (ai @u0 (ai @u1 (ai @u2 (ai @u3 (ai @v0 (ai @v1 (ai @v2 @v3))))))))))))))));refine gG ?_;exact gTd))
theorem ZFI (s:ByteArray):ZaT 1 (byR s)=true:=by
 unfold byR
 induction s.data.toList with
 | nil=>rfl
 | cons b l ih=>simp only [Tbv,Zed,ih,Bool.and_true];rfl
def RBy (s:ByteArray) (r:List D) (pm:List Bk):Prop:=∃ a cap,r=[.one (.lit (.slice a (byR s).length cap))]∧pm=[.buf (some (a,cap)) 5 1 (byR s)]
theorem ZHf {P:Program} {t:TypeId} {a b:Int}:binT P .lss t (.int .u64 a) (.int .u64 b)=some (.bool (decide (a < b))):=rfl
theorem Zm6:ZdA (Tryz.prog.underlying 224)=some .u64:=by kernel_rfl
theorem ZHg:Tryz.prog.underlying 224=some (.int .u64):=by kernel_rfl
theorem ZuU:ZdA (Tryz.prog.underlying 2)=some .i64:=by kernel_rfl
theorem ZuV:e0.P.underlying 9=some .string:=by kernel_rfl
theorem Zn8 {i:Int} (h0:0<=i) (h1:i < 14) (s:ByteArray) (hl:s.size<=1000000) (a:Option Addr) (cap:Nat):ConP e0 247 [.one (.lit (.slice a (byR s).length cap)),.one (.lit (.int .u64 i)),.one (.lit (.int .i64 10))] [.buf (some (a,cap)) 5 1 (byR s)] (RBy (s++decS i)):=by
 have q1:(i < 100)=True:=eq_true om
 have w1:IntKind.i64.wrap i=i:=IntWalk.i64_in _ om
 have l1:(byR s).length+(byR (decS i)).length<=maxApp:=by
  rw [ZdP,ZdP]
  have:(decS i).size<=3:=by unfold decS decB decN;show (List.toArray _).size<=3;rw [List.size_toArray];split <;> split <;> simp
  unfold maxApp;omega
 refine gIP (ts:=[.slot 6]) [1000] 5575 Tryz.func247 ?_
 (have F:=ai @q1 (ai @ZHf @tmz);have NN:Zag 3:=trivial;refine gGn ?_;clear F NN)
 refine gB ?_
 (have F:=ai @w1 (ai @Zm6 (ai @ZHg (ai @ZfM (ai @ZhT @tmz))));refine gC (ZAz h0 h1) ?_;clear F)
 refine gK 13 ?_
 refine (have F:=tmz;gSt l1 ZuV ?_)
 rw [Zj9]
 refine gS 17 fun a2 cap2=>?_
 (have F:=@tmz;refine gR ?_;clear F)
 (have F:=@tmz;refine gG ?_;clear F)
 exact (have F:=tmz;gTP (R:=RBy (s++decS i)) [17] ⟨a2,cap2,rfl,rfl⟩)
theorem ZAA {i:Int} (h0:-1<=i) (h1:i < 14) (s:ByteArray) (hl:s.size<=100000) (a:Option Addr) (cap:Nat):ConP e0 223 [.one (.lit (.slice a (byR s).length cap)),.one (.lit (.int .i64 i)),.one (.lit (.int .i64 10))] [.buf (some (a,cap)) 5 1 (byR s)] (RBy (s++decS i)):=by
 refine gIP (ts:=[.slot 6]) [1000] 2247 Tryz.func223 ?_
 by_cases hn:i < 0
 ·obtain rfl:i=-1:=by omega
  have q1:((-1:Int) < 0)=True:=eq_true om
  have w1:IntKind.u64.wrap (-1)=18446744073709551615:=by decide
  have w2:IntKind.u64.wrap (0 - 18446744073709551615)=1:=by decide
  have l1:(byR s).length+1<=maxApp:=by rw [ZdP];unfold maxApp;omega
  have l2:ZaT 1 (byR s)=true:=ZFI s
  have e1:byR s++[[.lit (.int .u8 45)]]=byR (s++⟨#[45]⟩):=by rw [<- Zj9];rfl
  have e2:s++⟨#[45]⟩++decS 1=s++decS (-1):=by rw [ByteArray.append_assoc];rfl
  have cU:=fun a cap=>Zn8 (i:=1) om om (s++⟨#[45]⟩) (by rw [ByteArray.size_append];show s.size+1<=_;omega) a cap
  rw [e2] at cU
  (have F:=ai @q1 (ai @w1 (ai @Zm6 (ai @ZuU (ai @Zeg @tmz))));have NN:Zag 3:=trivial;refine gGn ?_;clear F NN)
  refine gB ?_
  (have F:=ai @l1 (ai @l2 (ai @e1 @tmz));refine gR ?_;clear F)
  (have F:=ai @w2 (ai @ZGW @tmz);have NN:Zag 5:=trivial;refine gGn ?_;clear F NN)
  refine pS 0 fun a2 cap2=>?_
  refine gB ?_
  (have F:=@tmz;refine gCP [0] [1001] (cU a2 cap2) ?_;clear F)
  rintro r pm ⟨a3,cap3,rfl,rfl⟩
  simp only [setA,retA,zipM,Tae,Tag]
  (have F:=@tmz;refine gR ?_;clear F)
  (have F:=@tmz;refine gG ?_;clear F)
  exact (have F:=tmz;gTP (R:=RBy (s++decS (-1))) [1001] ⟨a3,cap3,rfl,rfl⟩)
 ·have q1:(i < 0)=False:=eq_false hn
  have w1:IntKind.u64.wrap i=i:=by
   have h:=@Int.emod_eq_of_lt
   unfold IntKind.wrap
   simp only [IntKind.signed,IntKind.bits]
   exact Int.emod_eq_of_lt om om
  have cU:=Zn8 om h1 s om a cap
  (have F:=ai @q1 (ai @w1 (ai @Zm6 (ai @ZuU (ai @Zeg @tmz))));have NN:Zag 5:=trivial;refine gGn ?_;clear F NN)
  refine gB ?_
  (have F:=@tmz;refine gCP [1000] [1001] (cU) ?_;clear F)
  rintro r pm ⟨a3,cap3,rfl,rfl⟩
  simp only [setA,retA,zipM,Tae,Tag]
  (have F:=@tmz;refine gR ?_;clear F)
  (have F:=@tmz;refine gG ?_;clear F)
  exact (have F:=tmz;gTP (R:=RBy (s++decS i)) [1001] ⟨a3,cap3,rfl,rfl⟩)
theorem ZkE {i:Int} (h0:-1<=i) (h1:i < 14) (s:ByteArray) (hl:s.size<=100000) (a:Option Addr) (cap:Nat):ConP e0 170 [.one (.lit (.slice a (byR s).length cap)),.one (.lit (.int .i64 i)),.one (.lit (.int .i64 10))] [.buf (some (a,cap)) 5 1 (byR s)] (RBy (s++decS i)):=by
 refine gIP (ts:=[.slot 6]) [1000] 71 Tryz.func170 ?_
 (have F:=@tmz;have NN:Zag 1:=trivial;refine gGn ?_;clear F NN)
 refine gB ?_
 (have F:=@tmz;refine gCP [1000] [1001] (ZAA h0 h1 s hl a cap) ?_;clear F)
 rintro r pm ⟨a3,cap3,rfl,rfl⟩
 simp only [setA,retA,zipM,Tae,Tag]
 (have F:=@tmz;refine gR ?_;clear F)
 (have F:=@tmz;refine gG ?_;clear F)
 exact (have F:=tmz;gTP (R:=RBy (s++decS i)) [1001] ⟨a3,cap3,rfl,rfl⟩)
def bs (l:List UInt8):ByteArray:=⟨l.toArray⟩
theorem Zmg (l m:List UInt8):bs l++bs m=bs (l++m):=by
 apply ByteArray.ext
 rw [ByteArray.data_append]
 simp [bs]
theorem Zkc (l:List UInt8):(bs l).size=l.length:=by show (List.toArray l).size=_;simp
theorem Zn9 (s:ByteArray):bs s.toList=s:=by
 rw [ByteArray.toList_eq]
 unfold bs
 simp
theorem ZuW {i:Int} (h1:i < 100):(decB i).length<=3:=by
 unfold decB decN
 split <;> split <;> simp
mutual
theorem ZqE {g:Sgn} (hg:SgnOk g):∀ (t:Tm),ZaO g t->(ZcR t).length<=22 * sizeTm t
 | .mk op nm so args,h=>by
  have h1:=Zoa hg args (by simp only [ZaO] at h;exact h.2.1)
  have hk:=ZgR hg _ h
  simp only [Zel] at hk
  obtain ⟨k0,k1,k2,k3,_⟩:=hk
  have d1:=ZuW (i:=op) om
  simp only [ZcR,sizeTm,Tad,Taf,Taj]
  split
  ·have d2:=ZuW (i:=so) (by have:=(k2 om).2.2;omega)
   have hn:Zbm nm=true:=by
    rcases h.node with hv | ⟨o,d,hA⟩
    ·exact hv.2.1
    ·have:=hA.lo
     have:(Tm.mk op nm so args).op=op:=rfl
     omega
   have h4:¬ 12 < nm.size:=fun h=>by rw [Zcs (.inr (.inl h))] at hn;cases hn
   have h5:nm.toList.length=nm.size:=by rw [ByteArray.toList_eq];exact Array.length_toList
   simp only [Taf,Tad]
   omega
  ·simp only [Taj]
   omega
theorem Zoa {g:Sgn} (hg:SgnOk g):∀ (ts:List Tm),ZcD g ts->(Zbe ts).length<=22 * sizeTms ts
 | [],_=>by simp [Zbe,sizeTms]
 | t::ts,h=>by
  simp only [ZcD] at h
  have h1:=ZqE hg t h.1
  have h2:=Zoa hg ts h.2
  simp only [Zbe,sizeTms,Tad]
  omega
end
theorem Zsa {l:List Tm} {i:Nat} {t:Tm} (h:l[i]?=some t):Zbe (l.take (i+1))=Zbe (l.take i)++ZcR t:=by
 rw [show l.take (i+1)=l.take i++[t] by simp [List.take_add_one,h],Zwc]
 simp [Zbe]
theorem Zob:∀ (l:List Tm) (i:Nat),(Zbe (l.take i)).length<=(Zbe l).length
 | [],i=>by simp [Zbe]
 | x::xs,0=>by simp [Zbe]
 | x::xs,i+1=>by have:=Zob xs i;simp only [Tbc,Zbe,Tad];omega
theorem Zmh:∀ {ts:List Tm},Zey ts->∀ t∈ts,Zel t
 | _::_,h,t,ht=>by
  simp only [Zey] at h
  rcases Tbg.1 ht with rfl | ht
  ·exact h.1
  ·exact Zmh h.2 t ht
def keyP (op:Int) (nm:ByteArray) (so:Int):List UInt8:=decB op++(if op < 0 then 58::(nm.toList++58::decB so) else [])
theorem ZGu (op:Int) (nm:ByteArray) (so:Int) (args:List Tm):ZcR (.mk op nm so args)=keyP op nm so++[40]++Zbe args++[41]:=by
 simp [ZcR,keyP,Tbf]
theorem Zwf:ZaJ Tryz.prog 164=some .one:=by kernel_rfl
theorem ZFJ:ZaK Tryz.prog 164=some 1:=by kernel_rfl
theorem ZHP:ZaC Tryz.prog 164=some [.lit .nilFunc]:=by kernel_rfl
theorem ZHh:ZaE (.lit .nilFunc)=true:=rfl
theorem ZHi {f:FuncId} {cs:List C}:ZaE (.fn f cs)=true:=rfl
def ptrB (b:Nat):Value:=.pointer (some ⟨b,0,none⟩)
def RKey (bo bv:Nat) (f:FuncId) (s:ByteArray) (r:List D) (pm:List Bk):Prop:=∃ a cap,r=[]∧pm=[.var (some bo) [.lit (.slice a (byR s).length cap)],.buf (some (a,cap)) 5 1 (byR s),.var (some bv) [.fn f [.lit (ptrB bo),.lit (ptrB bv)]]]
theorem gTPk {X:Prop} {P:Program} {ts:List RS} {R:List D->List Bk->Prop} {σ:St} {r:List D} {pm:List Bk} (ks:List Nat) (hR:R r pm) (hx:ZjV P ts R .normal σ->X:=by first | exact fun h=>h | exact fun h=>⟨_,Wk.refl _,h⟩) (hr:resD P σ ts=some r:=by exact sfy) (hg:getM σ.m ks=some pm:=by exact sny) (hn:ks.Nodup:=by decide) (hp:pm.all pinned=true:=by simp only [pz,↓reduceIte,Nat.reduceEqDiff,Nat.reduceAdd,Nat.reduceSub,Nat.reduceMul,Nat.reduceLeDiff,Nat.reduceBEq,Tal,decide_true,decide_false,Int.reduceLE,Int.reduceToNat,Int.reduceLT,Int.reduceEq,eq_self,Nat.reduceShiftRight,Nat.reduceAnd,Nat.reduceBneDiff]):X :=
 hx ⟨r,ks,pm,hg,hn,hp,hR,Zfe hr⟩
theorem Zsb (t:Tm) (hk:Zel t) (hsz:sizeTm t<=60) (l:List UInt8) (a:Option Addr) (cap bo bv:Nat) (hne:bo≠bv) (hl:l.length+(ZcR t).length<=90000)
  (h:∀ x∈t.args,∀ (l:List UInt8) (a:Option Addr) (cap:Nat),l.length+(ZcR x).length<=90000->ConP e0 169 [.agg (encTm x),.one (.lit (ptrB bo)),.one (.lit (ptrB bv))] [.var (some bo) [.lit (.slice a (byR (bs l)).length cap)],.buf (some (a,cap)) 5 1 (byR (bs l)),.var (some bv) [.fn 169 [.lit (ptrB bo),.lit (ptrB bv)]]] (RKey bo bv 169 (bs (l++ZcR x)))) :
  ConP e0 169 [.agg (encTm t),.one (.lit (ptrB bo)),.one (.lit (ptrB bv))] [.var (some bo) [.lit (.slice a (byR (bs l)).length cap)],.buf (some (a,cap)) 5 1 (byR (bs l)),.var (some bv) [.fn 169 [.lit (ptrB bo),.lit (ptrB bv)]]] (RKey bo bv 169 (bs (l++ZcR t))):=by
 obtain ⟨op,nm,so,args⟩:=t
 have hc:encTm (.mk op nm so args)=[.lit (.int .i64 op),.lit (.string nm),.lit (.int .i64 so),.sl (Zab args)]:=by simp only [encTm]
 have hn1:(bo=bv)=False:=eq_false hne
 have hn2:(bv=bo)=False:=eq_false (fun e=>hne e.symm)
 simp only [Tm.args] at h
 have hsl:=ZbN args
 simp only [sizeTm] at hsz
 simp only [ptrB] at h ⊢
 simp only [Zel] at hk
 obtain ⟨k0,k1,k2,k3,k4⟩:=hk
 rw [ZGu] at hl ⊢
 simp only [Tad,Taf,Taj] at hl
 have rb:=fun l=>ZFI (bs l)
 have e0':bs l++decS op=bs (l++decB op):=Zmg _ _
 have c1:=ZkE k0 k1 (bs l) (by rw [Zkc];omega) a cap
 rw [e0'] at c1
 have hP:keyP op nm so=decB op++(if op < 0 then 58::(nm.toList++58::decB so) else []):=rfl
 have ap:=fun (l:List UInt8) (b:UInt8) (b':Int) (hb:b'=b.toNat)=>show byR (bs l)++[[.lit (.int .u8 b')]]=byR (bs (l++[b])) by rw [<- Zmg,<- Zj9,hb];rfl
 have ml:=fun (l:List UInt8) (hl:l.length<=90000)=>show ((byR (bs l)).length+1<=maxApp)=True from eq_true (by rw [ZdP,Zkc];unfold maxApp;omega)
 refine gIP (ts:=[]) [1001,1000,1002] 32212258863 Tryz.func169 ?_
 (have F:=@tmz;have NN:Zag 1:=trivial;refine gGn ?_;clear F NN)
 refine gB ?_
 (have F:=ai @hc (ai @hn1 (ai @hn2 @tmz));refine gCP [1000] [1000] (c1) ?_;clear F)
 rintro r pm ⟨a1,cap1,rfl,rfl⟩
 simp only [setA,retA,zipM,Tae,Tag]
 (have F:=ai @hc (ai @hn1 (ai @hn2 @tmz));refine gR ?_;clear F)
 (have F:=ai @hc @tmz;refine gG ?_;clear F)
 refine gM (ι:=Option Addr × Nat) [] [1000,1001] (fun x=>[]) (fun x=>[(1001,.var (some bo) [.lit (.slice x.1 (byR (bs (l++keyP op nm so))).length x.2)]),(1000,.buf (some (x.1,x.2)) 5 1 (byR (bs (l++keyP op nm so))))]) (fun x=>True) ?_ (fun x hx=>Exists.intro _ (ai (Wk.refl _) ?_))
 ·by_cases ho:op < 0
  ·have q1:(op < 0)=True:=eq_true ho
   rw [if_pos ho] at hP
   obtain ⟨_,s0,s8⟩:=k2 om
   have hnm:(bs (l++decB op++[58]))++nm=bs (l++decB op++[58]++nm.toList):=by rw [<- Zn9 nm,Zmg,Zn9]
   have e2:bs (l++decB op++[58]++nm.toList++[58])++decS so=bs (l++keyP op nm so):=by
    rw [hP]
    refine (Zmg _ _).trans ?_
    simp [Tbf]
   have hpl:=congrArg List.length hP
   simp only [Tad,Taf] at hpl
   have c2:=fun a cap=>ZkE (i:=so) om om (bs (l++decB op++[58]++nm.toList++[58])) (by rw [Zkc];simp only [Tad,Taf,Taj];omega) a cap
   rw [e2] at c2
   have m1:=ml (l++decB op) (by simp only [Tad];omega)
   have m2:=ml (l++decB op++[58]++nm.toList) (by simp only [Tad,Taf,Taj];omega)
   have m3:(byR (bs (l++decB op++[58]))).length+(byR nm).length<=maxApp:=by
    rw [ZdP,ZdP,Zkc]
    have:nm.size=nm.toList.length:=by rw [ByteArray.toList_eq];exact Array.length_toList.symm
    simp only [Tad,Taf,Taj]
    unfold maxApp
    omega
   have b1:=rb (l++decB op)
   have b2:=rb (l++decB op++[58]++nm.toList)
   have p1:=ap (l++decB op) 58 58 rfl
   have p2:=ap (l++decB op++[58]++nm.toList) 58 58 rfl
   clear hP hpl ap ml rb
   rw [decide_eq_true ho]
   (have F:=ai @hc @tmz;have NN:Zag 3:=trivial;refine gGn ?_;clear F NN)
   refine gB ?_
   (have F:=ai @m1 (ai @b1 (ai @p1 (ai @hn1 (ai @hn2 @tmz))));refine gP 3 ?_;clear F)
   refine gS 15 fun a2 cap2=>?_
   (have F:=ai @hn1 (ai @hn2 @tmz);refine gR ?_;clear F)
   (have F:=@tmz;have NN:Zag 4:=trivial;refine gGn ?_;clear F NN)
   refine gB ?_
   (have F:=ai @hc (ai @hn1 (ai @hn2 @tmz));refine gP 3 ?_;clear F)
   refine gK 16 ?_
   refine (have F:=tmz;gSt m3 ZuV ?_)
   rw [Zj9,hnm]
   refine gS 19 fun a3 cap3=>?_
   (have F:=ai @hn1 (ai @hn2 @tmz);refine gR ?_;clear F)
   (have F:=@tmz;have NN:Zag 5:=trivial;refine gGn ?_;clear F NN)
   refine gB ?_
   (have F:=ai @m2 (ai @b2 (ai @p2 (ai @hn1 (ai @hn2 @tmz))));refine gP 3 ?_;clear F)
   refine gS 22 fun a4 cap4=>?_
   (have F:=ai @hn1 (ai @hn2 @tmz);refine gR ?_;clear F)
   (have F:=@tmz;have NN:Zag 6:=trivial;refine gGn ?_;clear F NN)
   refine gB ?_
   (have F:=ai @hc (ai @hn1 (ai @hn2 @tmz));refine gCP [22] [1000] (c2 a4 cap4) ?_;clear F)
   rintro r pm ⟨a5,cap5,rfl,rfl⟩
   simp only [setA,retA,zipM,Tae,Tag]
   (have F:=ai @hn1 (ai @hn2 @tmz);refine gR ?_;clear F)
   exact (have F:=tmz;⟨(a5,cap5),trivial,gw,gw⟩)
  ·have q1:(op < 0)=False:=eq_false ho
   rw [if_neg ho,List.append_nil] at hP
   rw [hP,decide_eq_false ho]
   (have F:=ai @hc @tmz;refine gG ?_;exact ⟨(a1,cap1),trivial,gw,gw⟩)
 obtain ⟨a2,cap2⟩:=x
 dsimp only
 have m1:=ml (l++keyP op nm so) (by simp only [Tad];omega)
 have b1:=rb (l++keyP op nm so)
 have p1:=ap (l++keyP op nm so) 40 40 rfl
 have e3:l++(keyP op nm so++[40]++Zbe args++[41])=l++keyP op nm so++[40]++Zbe args++[41]:=by simp [Tbf]
 rw [e3]
 have hP2:(l++keyP op nm so++[40]).length=l.length+(keyP op nm so).length+1:=by simp only [Tad,Taf,Taj]
 have hal:=Zob args
 (have F:=@tmz;have NN:Zag 7:=trivial;refine gGn ?_;clear F NN)
 refine gB ?_
 (have F:=ai @m1 (ai @b1 (ai @p1 (ai @hn1 (ai @hn2 @tmz))));refine gP 3 ?_;clear F)
 refine gS 29 fun a3 cap3=>?_
 (have F:=ai @hn1 (ai @hn2 @tmz);refine gR ?_;clear F)
 clear m1 b1 p1 e3 hP c1 e0'
 generalize l++keyP op nm so++[40]=q at hP2 ⊢
 have hq0:q++Zbe []=q:=by simp [Zbe]
 (have F:=ai @hc @tmz;refine gG ?_;clear F)
 (have F:=@hq0;refine gL (ι:=Nat × Option Addr × Nat) [5,33,34] [29,1001,1002] (fun x=>[(33,.d (.one (.lit (.int .i64 (x.1:Int)))))]) (fun x=>[(1001,.var (some bo) [.lit (.slice x.2.1 (byR (bs (q++Zbe (args.take x.1)))).length x.2.2)]),(29,.buf (some (x.2.1,x.2.2)) 5 1 (byR (bs (q++Zbe (args.take x.1))))),(1002,.var (some bv) [.fn 169 [.lit (.pointer (some ⟨bo,0,none⟩)),.lit (.pointer (some ⟨bv,0,none⟩))]])]) (fun x=>x.1<=args.length) (fun x=>args.length - x.1) ((0,a3,cap3)) (Tai _) (fun x hx=>?_);clear F)
 obtain ⟨i,a4,cap4⟩:=x
 simp only at hx
 dsimp only
 by_cases hlt:i < args.length
 ·obtain ⟨b,hg⟩:∃ b,args[i]?=some b:=⟨_,Taa hlt⟩
  have q2:((i:Int) < (args.length:Int))=True:=eq_true om
  have q4:IntKind.i64.wrap ((i:Int)+1)=(i:Int)+1:=IntWalk.i64_in _ om
  have hvt:=Zsa hg
  have hle:=hal (i+1)
  rw [hvt,Tad] at hle
  have hcon:=h b (Tab hg) (q++Zbe (args.take i)) a4 cap4 (by rw [Tad];omega)
  rw [Tbf,<- hvt] at hcon
  (have F:=ai @q2 (ai @hc (ai @Zac (ai @ZbH (ai @hg @tmz))));refine gG ?_;clear F)
  refine gB ?_
  (have F:=ai @Zwf (ai @hn1 (ai @hn2 @tmz));refine gCP [1001,29,1002] [1001,29,1002] (hcon) ?_;clear F)
  rintro r pm ⟨a5,cap5,rfl,rfl⟩
  simp only [ptrB,setA,retA,zipM,Tae,Tag]
  (have F:=@tmz;refine gR ?_;clear F)
  (have F:=@q4;refine gG ?_;exact ⟨(i+1,a5,cap5),hlt,gw,gw,by omega⟩)
 ·obtain rfl:i=args.length:=by omega
  have q2:((args.length:Int) < (args.length:Int))=False:=eq_false om
  rw [Tao]
  have m1:=ml (q++Zbe args) (by rw [Tad];omega)
  have b1:=rb (q++Zbe args)
  have p1:=ap (q++Zbe args) 41 41 rfl
  (have F:=@q2;have NN:Zag 13:=trivial;refine gGn ?_;clear F NN)
  refine gB ?_
  (have F:=ai @m1 (ai @b1 (ai @p1 (ai @hn1 (ai @hn2 @tmz))));refine gP 3 ?_;clear F)
  refine gS 43 fun a5 cap5=>?_
  (have F:=ai @hn1 (ai @hn2 @tmz);refine gR ?_;clear F)
  exact (have F:=tmz;gTPk (R:=RKey bo bv 169 (bs (q++Zbe args++[41]))) [1001,43,1002] ⟨a5,cap5,rfl,rfl⟩)
theorem Zwg (bo bv:Nat) (hne:bo≠bv) (n:Nat):∀ (t:Tm),sizeTm t < n->Zel t->sizeTm t<=60->∀ (l:List UInt8) (a:Option Addr) (cap:Nat),l.length+(ZcR t).length<=90000->ConP e0 169 [.agg (encTm t),.one (.lit (ptrB bo)),.one (.lit (ptrB bv))] [.var (some bo) [.lit (.slice a (byR (bs l)).length cap)],.buf (some (a,cap)) 5 1 (byR (bs l)),.var (some bv) [.fn 169 [.lit (ptrB bo),.lit (ptrB bv)]]] (RKey bo bv 169 (bs (l++ZcR t))):=by
 induction n with
 | zero=>exact fun _ h=>by omega
 | succ n ih =>
  intro t hn hk hsz l a cap hl
  refine Zsb t hk hsz l a cap bo bv hne hl fun x hx l a cap hl2=>ih x ?_ ?_ ?_ l a cap hl2
  ·have:=Zbb hx
   rw [ZaX] at hn
   omega
  ·obtain ⟨op,nm,so,args⟩:=t
   simp only [Zel] at hk
   exact Zmh hk.2.2.2.2 x hx
  ·have:=Zbb hx
   rw [ZaX] at hsz
   omega
theorem ZCf:Zj8 e0.P 162 9=true:=by kernel_rfl
theorem ZAB {g:Sgn} (hg:SgnOk g) {t:Tm} (hf:ZaO g t) (hsz:sizeTm t<=60):Con e0 109 [.agg (encTm t)] [.one (.lit (.string (keyS t)))]:=by
 have hks:=ZqE hg t hf
 have hby0:byR (bs [])=[]:=rfl
 refine gI (ts:=[.slot 2]) 31 Tryz.func109 ?_
 (have F:=@tmz;have NN:Zag 1:=trivial;refine gGn ?_;clear F NN)
 refine gB ?_
 (have F:=@tmz;refine gP 1 ?_;clear F)
 refine gO 5 5 1 ?_
 refine gS 5 fun a cap=>?_
 (have F:=@tmz;refine gR ?_;clear F)
 (have F:=ai @ZHP (ai @ZFJ @tmz);have NN:Zag 3:=trivial;refine gGn ?_;clear F NN)
 refine pV 3 fun b3 hb3=>?_
 refine pV 4 fun b4 hb4=>?_
 have hne:b3≠b4:=fun e=>hb4 3 b3 _ (by decide) rfl e.symm
 clear hb3 hb4
 have hn1:(b3=b4)=False:=eq_false hne
 have hn2:(b4=b3)=False:=eq_false (fun e=>hne e.symm)
 (have F:=ai @Zwf (ai @ZFJ (ai @ZHh (ai @ZHi (ai @hn1 (ai @hn2 @tmz)))));have NN:Zag 4:=trivial;refine gGn ?_;clear F NN)
 refine gB ?_
 have hcon:=Zwg b3 b4 hne _ t (Tam _) (ZgR hg t hf) hsz [] a cap (by simp only [Taj];omega)
 simp only [ptrB,hby0,Taj,Tag] at hcon
 (have F:=ai @Zwf (ai @hn1 (ai @hn2 @tmz));refine gCP [3,5,4] [3,5,4] (hcon) ?_;clear F)
 rintro r pm ⟨a2,cap2,rfl,rfl⟩
 simp only [ptrB,setA,retA,zipM,Tae,Tag]
 (have F:=@tmz;refine gR ?_;clear F)
 refine Zd3 ?_
 refine gB ?_
 (have F:=ai @hn1 (ai @hn2 @tmz);refine gP 1 ?_;clear F)
 refine gK 10 ?_
 refine (have F:=tmz;gTx (k:=5) (bs (ZcR t)) ZCf ?_)
 (have F:=@tmz;refine gR ?_;clear F)
 (have F:=@tmz;refine gG ?_;exact gTd)
end Go.Proofs.YtffmjghcpgpfpaaGreatDoor
namespace Go.Proofs.YtffmjghcpgpfpaaGreatDoor
open Go.RowKit Go.MapKept Go.ChangeMaps
theorem Zmi {l:List (ByteArray × Value)} {k s:ByteArray} {v:Value}:ZbM (l++[(k,v)]) s=(ZbM l s).or (if s.toList=k.toList then some v else none):=by
 unfold ZbM
 rw [List.find?_append]
 cases h:l.find? fun p=>s.toList==p.1.toList with
 | some p=>simp
 | none =>
  by_cases e:s.toList=k.toList
  ·simp [List.find?,e]
  ·have e2:(s.toList==k.toList)=false:=beq_eq_false_iff_ne.2 e
   simp only [List.find?,e2,Option.or,if_neg e,Option.map_none]
def Memo (g:Sgn) (l:List (ByteArray × Value)):Prop:=∀ u,ZaO g u->∀ v,ZbM l (keyS u)=some v->v=.int .i64 (sortsTm g u:Nat)
def Grew (g:Sgn) (n:Nat) (l l':List (ByteArray × Value)):Prop:=∀ u,ZaO g u->n < sizeTm u->ZbM l (keyS u)=none->ZbM l' (keyS u)=none
theorem Grew.refl {g:Sgn} {n:Nat} {l:List (ByteArray × Value)}:Grew g n l l:=fun _ _ _ h=>h
theorem Grew.trans {g:Sgn} {n:Nat} {l l' l'':List (ByteArray × Value)} (h:Grew g n l l') (h':Grew g n l' l''):Grew g n l l'':=fun u hu hs h0=>h' u hu hs (h u hu hs h0)
theorem Grew.mono {g:Sgn} {n m:Nat} {l l':List (ByteArray × Value)} (h:Grew g n l l') (hn:n<=m):Grew g m l l':=fun u hu hs h0=>h u hu om h0
theorem Memo.nil {g:Sgn}:Memo g []:=fun u _ v h=>by simp [ZbM] at h
theorem Memo.snoc {g:Sgn} (hg:SgnOk g) {l:List (ByteArray × Value)} (h:Memo g l) {t:Tm} (ht:ZaO g t):Memo g (l++[(keyS t,.int .i64 (sortsTm g t:Nat))]):=by
 intro u hu v hv
 rw [Zmi] at hv
 cases hl:ZbM l (keyS u) with
 | some x =>
  rw [hl] at hv
  simp only [Option.some_or,Tap] at hv
  subst hv
  exact h u hu _ hl
 | none =>
  rw [hl,Option.none_or] at hv
  by_cases e:(keyS u).toList=(keyS t).toList
  ·rw [if_pos e] at hv
   obtain rfl:=ZqB hg hu ht e
   simpa using hv.symm
  ·rw [if_neg e] at hv;cases hv
theorem Grew.snoc {g:Sgn} (hg:SgnOk g) {l:List (ByteArray × Value)} {t:Tm} (ht:ZaO g t) {v:Value}:Grew g (sizeTm t) l (l++[(keyS t,v)]):=by
 intro u hu hs h0
 rw [Zmi,h0,Option.none_or,if_neg]
 intro e
 obtain rfl:=ZqB hg hu ht e
 omega
section
variable {e:Env} {K:St->Prop} {ds:List (Option Nat)} {os:List Oper} {s:List (Nat × A)} {m:List (Nat × Bk)}
theorem gLo {d t ty:Nat} {p:String} {ed:Array Edge} {x y:Operand} {b:Nat} {l:List (ByteArray × Value)} {k:ByteArray} {kt el:TypeId} {z v:Value} {f:Bool} (κ:Nat) (ht:e.P.underlying t=some (.map kt el)) (hk:e.P.underlying kt=some .string) (hz:∀ w,(zeroValue el).run e.P w=.ok z w) (hv:(ZbM l k).getD z=v) (hf:(ZbM l k).isSome=f)
  (hK:Runs e ds 0 os ⟨(d,.tup [.one (.lit v),.one (.lit (.bool f))])::s,m⟩ K) (hx:evA s x=.d (.one (.lit (.map (some b)))):=by exact sfx) (hy:evA s y=.d (.one (.lit (.string k))):=by exact sfx) (hm:gm m κ=some (mapB b l):=by exact snx):Runs e ds 0 (⟨some d,.lookup t x y true,ty,p,ed,none⟩::os) ⟨s,m⟩ K :=
 Zgb rfl (ZnP rfl ht hk hz hx hy hm (α:=.tup [.one (.lit v),.one (.lit (.bool f))]) (fun w S L=>by
  rw [hv,hf]
  exact ⟨[v,.bool f],rfl,by simp [ZaI,DRel,Rep]⟩) hK)
theorem Zgo:e0.P.underlying 146=some (.map 9 3):=by kernel_rfl
theorem ZAC:∀ w,(zeroValue 3).run e0.P w=.ok (.int .i64 0) w:=fun w=>by kernel_rfl
end
end Go.Proofs.YtffmjghcpgpfpaaGreatDoor
namespace Go.Proofs.YtffmjghcpgpfpaaGreatDoor
open Go.RowKit
theorem ZfR {e:Env} {f:FuncId} {a b:D} {rows:List (List C)} {r:List D} (h:Con e f [a,b,.one (.sl rows)] r):Con e f [a,b,.clip rows] r :=
 ⟨h.1,fun w S vs hS hE hG hv=>h.2 w S vs hS hE hG (by
  match vs,hv with
  | [x,y,z],hv=>exact ⟨hv.1,hv.2.1,hv.2.2.1.1,trivial⟩)⟩
def FitN (d:Dcl) (sets:List Nat) (n:Nat):Prop:=∀ (i:Nat) k s,i < n->d.args[i]?=some k->sets[i]?=some s->s.testBit k.toNat=true
theorem FitN.zero {d:Dcl} {sets:List Nat}:FitN d sets 0:=fun i k s h=>absurd h (Nat.not_lt_zero i)
theorem FitN.succ {d:Dcl} {sets:List Nat} {n:Nat} {k:Int} {s:Nat} (hk:d.args[n]?=some k) (hs:sets[n]?=some s):FitN d sets (n+1) ↔ FitN d sets n∧s.testBit k.toNat=true:=by
 constructor
 ·exact fun h=>⟨fun i k s hi=>h i k s om,h n k s om hk hs⟩
 ·rintro ⟨h1,h2⟩ i k' s' hi hk' hs'
  by_cases e:i=n
  ·subst e
   rw [hk] at hk'
   rw [hs] at hs'
   injection hk' with hk'
   injection hs' with hs'
   subst hk' hs'
   exact h2
  ·exact h1 i k' s' om hk' hs'
theorem FitN.full {d:Dcl} {sets:List Nat}:FitN d sets d.args.length ↔ ∀ (i:Nat) k s,d.args[i]?=some k->sets[i]?=some s->s.testBit k.toNat=true :=
 ⟨fun h i k s hk hs=>h i k s (Tac.1 hk).1 hk hs,fun h i k s _ hk hs=>h i k s hk hs⟩
def GvB (g:Sgn) (P:Dcl->Prop) (ds:List Dcl) (b:Nat):Prop:=∃ d∈ds,P d∧(upk g d.res).testBit b=true
theorem ZGv {g:Sgn} {P:Dcl->Prop} {N:Nat}:ofB (GvB g P []) N=0:=ZgP fun b _ h=>by
 obtain ⟨d,hd,_⟩:=h
 cases hd
theorem ZHj {g:Sgn} {P:Dcl->Prop} {N:Nat} {ds:List Dcl} {d:Dcl} (h:P d) (hu:upk g d.res < 2 ^ N):ofB (GvB g P (ds++[d])) N=ofB (GvB g P ds) N ||| upk g d.res:=by
 rw [<- ZgQ hu,ZfP]
 refine ZaZ fun b _=>?_
 constructor
 ·rintro ⟨x,hx,h1,h2⟩
  rcases Tbh.1 hx with hx | hx
  ·exact .inl ⟨x,hx,h1,h2⟩
  ·rw [Tbj.1 hx] at h2;exact .inr h2
 ·rintro (⟨x,hx,h1,h2⟩ | h2)
  ·exact ⟨x,List.mem_append_left _ hx,h1,h2⟩
  ·exact ⟨d,List.mem_append_right _ (Tbj.2 rfl),h,h2⟩
theorem ZHQ {g:Sgn} {P:Dcl->Prop} {N:Nat} {ds:List Dcl} {d:Dcl} (h:¬ P d):ofB (GvB g P (ds++[d])) N=ofB (GvB g P ds) N:=by
 refine ZaZ fun b _=>?_
 constructor
 ·rintro ⟨x,hx,h1,h2⟩
  rcases Tbh.1 hx with hx | hx
  ·exact ⟨x,hx,h1,h2⟩
  ·rw [Tbj.1 hx] at h1;exact absurd h1 h
 ·rintro ⟨x,hx,h1,h2⟩
  exact ⟨x,List.mem_append_left _ hx,h1,h2⟩
theorem ZHk {g:Sgn} {o:Opr} {sets:List Nat} {N:Nat}:ofB (GvB g (fun d=>FitN d sets d.args.length∨(o.comm=true∧FitN d sets.reverse d.args.length)) o.decls) N=ofB (AnyB g o sets) N:=by
 refine ZaZ fun b _=>?_
 unfold AnyB Zdi
 constructor
 ·rintro ⟨d,hd,h1,h2⟩
  rcases h1 with h1 | ⟨h0,h1⟩
  ·exact .inl ⟨d,hd,FitN.full.1 h1,h2⟩
  ·exact .inr ⟨h0,d,hd,FitN.full.1 h1,h2⟩
 ·rintro (⟨d,hd,h1,h2⟩ | ⟨h0,d,hd,h1,h2⟩)
  ·exact ⟨d,hd,.inl (FitN.full.2 h1),h2⟩
  ·exact ⟨d,hd,.inr ⟨h0,FitN.full.2 h1⟩,h2⟩
theorem Zbt {v N:Nat} (h:v < 2 ^ N) (hN:N<=8):v < 4611686018427387904:=by
 have:2 ^ N<=2 ^ 8:=Tbt om hN
 omega
section
variable {g:Sgn} {mc:C}
open Classical in
theorem ZhA (hg:SgnOk g) {op:Int} {o:Opr} (h0:0<=op) (ho:g.ops[op.toNat]?=some o) (sets:List Nat) (hlen:∀ d∈o.decls,d.args.length=sets.length) (hsl:sets.length<=3) (hs:∀ s∈sets,s < 2 ^ g.sorts.names.length):Con e0 175 [.one (.ptr (encX g mc)),.one (.lit (.int .i64 op)),.one (.sl (nR sets))] [.one (.lit (.int .i64 ((ofB (AnyB g o sets) g.sorts.names.length:Nat):Int)))]:=by
 have hN:=hg.sorts.n8
 have hD:=hg.decls o (Tab ho)
 have hdl:o.decls.length<=4:=hD.len4
 rw [<- ZHk]
 generalize hPd:(fun d=>FitN d sets d.args.length∨(o.comm=true∧FitN d sets.reverse d.args.length))=P
 have z0:ofB (GvB g P []) g.sorts.names.length=0:=ZGv
 have z1:((ofB (GvB g P []) g.sorts.names.length:Nat):Int)=0:=by rw [z0];rfl
 have hUl:(nR (up g.sorts)).length=g.sorts.names.length:=by rw [ZaF,Zqf hg.sorts]
 refine gI (ts:=[.slot 6]) 1180591620846512012743 Tryz.func175 ?_
 (have F:=ai @Zbd (ai @h0 (ai @ho (ai @Zaj @tmz)));refine gG ?_;clear F)
 (have F:=@tmz;refine gL (ι:=Nat × Nat) [8,10,11,12,13,14,26,27,33,34,35,36,70] [] (fun x=>[(26,A.d (.one (.lit (.int .i64 x.1)))),(8,A.d (.one (.lit (.int .i64 x.2))))]) (fun x=>[]) (fun x=>x.1<=o.decls.length∧x.2=ofB (GvB g P (o.decls.take x.1)) g.sorts.names.length) (fun x=>o.decls.length - x.1) ((0,0)) (⟨Tai _,z0.symm⟩) (fun x hx=>?_);clear F)
 obtain ⟨i,out⟩:=x
 obtain ⟨hi,hout⟩:=hx
 simp only at hi hout
 subst hout
 dsimp only
 have hob:ofB (GvB g P (o.decls.take i)) g.sorts.names.length < 2 ^ g.sorts.names.length:=ZbW _ _
 have hob62:=Zbt hob hN
 by_cases hlt:i < o.decls.length
 rotate_left
 ·obtain rfl:i=o.decls.length:=by omega
  have q1:((o.decls.length:Int) < (o.decls.length:Int))=False:=eq_false om
  rw [Tao]
  (have F:=ai @q1 @tmz;refine gG ?_;exact gTd)
 obtain ⟨d,hdi⟩:∃ d,o.decls[i]?=some d:=⟨_,Taa hlt⟩
 have hdm:=Tab hdi
 have hdl2:=hlen d hdm
 obtain ⟨f,hf,_⟩:=hg.first ho
 have hdo:=hD.all f hf d hdm
 have q1:((i:Int) < (o.decls.length:Int))=True:=eq_true om
 have hw1:=Zap (k:=i) om
 have hsnoc:o.decls.take (i+1)=o.decls.take i++[d]:=by simp [List.take_add_one,hdi]
 (have F:=ai @q1 (ai @hdi @tmz);have NN:Zag 6:=trivial;refine gGn ?_;clear F NN)
 refine Zam 4 (by decide +kernel) ?_
 intro ds hds
 simp only [List.map] at hds
 subst hds
 (have F:=ai @Zaj @tmz;refine gP 2 ?_;clear F)
 refine (have F:=tmz;gAq ?_)
 refine (have F:=tmz;gAq ?_)
 (have F:=@tmz;refine gR ?_;clear F)
 (have F:=ai @ZaR @tmz;refine gG ?_;clear F)
 (have F:=@tmz;refine gL (ι:=Nat × Bool × Bool) [11,12,13,14,35,36] [] (fun y=>[(35,A.d (.one (.lit (.int .i64 y.1)))),(11,A.d (.one (.lit (.bool y.2.1)))),(12,A.d (.one (.lit (.bool y.2.2))))]) (fun y=>[]) (fun y=>y.1<=d.args.length∧y.2.1=decide (FitN d sets y.1)∧y.2.2=decide (o.comm=true∧FitN d sets.reverse y.1)) (fun y=>d.args.length - y.1) ((0,true,o.comm)) (⟨Tai _,(decide_eq_true FitN.zero).symm,by cases o.comm <;> simp [FitN.zero]⟩) (fun y hy=>?_);clear F)
 obtain ⟨j,b1,b2⟩:=y
 obtain ⟨hj,hb1,hb2⟩:=hy
 simp only at hj hb1 hb2
 dsimp only
 by_cases hjl:j < d.args.length
 ·obtain ⟨k,hk⟩:∃ k,d.args[j]?=some k:=⟨_,Taa hjl⟩
  have hkr:=hdo.args k (Tab hk)
  obtain ⟨kn,rfl⟩:∃ kn:Nat,k=kn:=⟨k.toNat,by omega⟩
  obtain ⟨s,hsj⟩:∃ s,sets[j]?=some s:=⟨_,Taa om⟩
  obtain ⟨s',hsj'⟩:∃ s,sets[sets.length - 1 - j]?=some s:=⟨_,Taa om⟩
  have hrv:sets.reverse[j]?=some s':=by rw [List.getElem?_reverse om];exact hsj'
  have b62:=Zbt (hs s (Tab hsj)) hN
  have b62':=Zbt (hs s' (Tab hsj')) hN
  have q2:((j:Int) < (d.args.length:Int))=True:=eq_true om
  have hwj:=Zap (k:=j) om
  have r1:=ZaH hsj
  have r2:=ZaH hsj'
  have rl:=ZaF (l:=sets)
  have rr:=Zay (l:=sets)
  have h1:=Zga (k:=kn) om
  have h2:=ZjY (x:=s) (k:=kn) b62 om
  have h3:=ZjY (x:=s') (k:=kn) b62' om
  have w1:IntKind.i64.wrap ((sets.length:Int) - 1)=((sets.length - 1:Nat):Int):=ZaQ om om om
  have w2:IntKind.i64.wrap (((sets.length - 1:Nat):Int) - (j:Int))=((sets.length - 1 - j:Nat):Int):=ZaQ om om om
  have i1:(j < sets.length)=True:=eq_true om
  have i2:(sets.length - 1 - j < sets.length)=True:=eq_true om
  have hf1:=FitN.succ (n:=j) hk hsj
  have hf2:=FitN.succ (sets:=sets.reverse) (n:=j) hk hrv
  rw [show (kn:Int).toNat=kn from rfl] at hf1 hf2
  (have F:=ai @q2 (ai @hk (ai @Za4 @tmz));have NN:Zag 10:=trivial;refine gGn ?_;clear F NN)
  refine gM (ι:=Bool) [11] [] (fun b=>[(11,A.d (.one (.lit (.bool b))))]) (fun b=>[]) (fun b=>b=decide (FitN d sets (j+1))) ?_ (fun b hb=>Exists.intro _ (ai (Wk.refl _) ?_))
  ·cases b1 with
   | false =>
    have e:false=decide (FitN d sets (j+1)):=(decide_eq_false fun h=>by
     have:=hf1.1 h
     rw [decide_eq_true this.1] at hb1
     cases hb1).symm
    (have F:=@tmz;refine gG ?_;exact ⟨false,e,gw,gw⟩)
   | true =>
    have hb1':=of_decide_eq_true hb1.symm
    cases ht:tbit s kn with
    | false =>
     rw [ht] at h2
     have e:false=decide (FitN d sets (j+1)):=(decide_eq_false fun h=>by
      have:=(hf1.1 h).2
      rw [show s.testBit kn=false from ht] at this
      cases this).symm
     (have F:=ai @r1 (ai @rl (ai @rr (ai @h1 (ai @h2 (ai @i1 (ai @Zas @tmz))))));refine gG ?_;exact ⟨false,e,gw,gw⟩)
    | true =>
     rw [ht] at h2
     have e:true=decide (FitN d sets (j+1)):=(decide_eq_true (hf1.2 ⟨hb1',ht⟩)).symm
     (have F:=ai @r1 (ai @rl (ai @rr (ai @h1 (ai @h2 (ai @i1 (ai @Zas @tmz))))));refine gG ?_;exact ⟨true,e,gw,gw⟩)
  clear hb1
  (have F:=@tmz;have NN:Zag 11:=trivial;refine gGn ?_;clear F NN)
  refine gM (ι:=Bool) [12] [] (fun c=>[(12,A.d (.one (.lit (.bool c))))]) (fun c=>[]) (fun c=>c=decide (o.comm=true∧FitN d sets.reverse (j+1))) ?_ (fun c hc=>Exists.intro _ (ai (Wk.refl _) ?_))
  ·cases b2 with
   | false =>
    have e:false=decide (o.comm=true∧FitN d sets.reverse (j+1)):=(decide_eq_false fun h=>by
     have:=hf2.1 h.2
     rw [decide_eq_true ⟨h.1,this.1⟩] at hb2
     cases hb2).symm
    (have F:=@tmz;refine gG ?_;exact ⟨false,e,gw,gw⟩)
   | true =>
    have hb2':=of_decide_eq_true hb2.symm
    cases ht:tbit s' kn with
    | false =>
     rw [ht] at h3
     have e:false=decide (o.comm=true∧FitN d sets.reverse (j+1)):=(decide_eq_false fun h=>by
      have:=(hf2.1 h.2).2
      rw [show s'.testBit kn=false from ht] at this
      cases this).symm
     (have F:=ai @r2 (ai @rl (ai @rr (ai @w1 (ai @w2 (ai @h1 (ai @h3 (ai @i2 (ai @Zas @tmz))))))));refine gG ?_;exact ⟨false,e,gw,gw⟩)
    | true =>
     rw [ht] at h3
     have e:true=decide (o.comm=true∧FitN d sets.reverse (j+1)):=(decide_eq_true ⟨hb2'.1,hf2.2 ⟨hb2'.2,ht⟩⟩).symm
     (have F:=ai @r2 (ai @rl (ai @rr (ai @w1 (ai @w2 (ai @h1 (ai @h3 (ai @i2 (ai @Zas @tmz))))))));refine gG ?_;exact ⟨true,e,gw,gw⟩)
  (have F:=ai @hwj @tmz;refine gG ?_;exact ⟨(j+1,b,c),⟨hjl,hb,hc⟩,gw,gw,by omega⟩)
 ·obtain rfl:j=d.args.length:=by omega
  have q2:((d.args.length:Int) < (d.args.length:Int))=False:=eq_false om
  have hPi:P d ↔ FitN d sets d.args.length∨(o.comm=true∧FitN d sets.reverse d.args.length):=by rw [<- hPd]
  have hres:=ZhR hg.sorts hdo.res.1 hdo.res.2
  have ru:=ZnI hres.1
  have rr:=Zay (l:=up g.sorts)
  have ho2:=Zc8 hob62 (Zbt hres.2 hN)
  have hr0:=hdo.res.1
  have hr1:=hdo.res.2
  have hrl:(d.res.toNat < g.sorts.names.length)=True:=eq_true om
  by_cases hp:P d
  ·have hor:(b1 || b2)=true:=by
    rcases hPi.1 hp with h | h
    ·rw [hb1,decide_eq_true h];rfl
    ·rw [hb2,decide_eq_true h,Bool.or_true]
   have e:=ZHj (N:=g.sorts.names.length) (ds:=o.decls.take i) hp hres.2
   rw [<- hsnoc] at e
   rw [<- e] at ho2
   cases b1 with
   | true => 
    (have F:=ai @q2 (ai @Zbd (ai @ru (ai @Za4 (ai @hr0 (ai @ho2 (ai @hw1 @tmz))))));refine gG ?_;exact ⟨(i+1,ofB (GvB g P (o.decls.take (i+1))) g.sorts.names.length),⟨hlt,rfl⟩,gw,gw,by omega⟩)
   | false =>
    rw [Bool.false_or] at hor
    subst hor
    (have F:=ai @q2 (ai @Zbd (ai @ru (ai @Za4 (ai @hr0 (ai @ho2 (ai @hw1 @tmz))))));refine gG ?_;exact ⟨(i+1,ofB (GvB g P (o.decls.take (i+1))) g.sorts.names.length),⟨hlt,rfl⟩,gw,gw,by omega⟩)
  ·have h1:b1=false:=by rw [hb1];exact decide_eq_false fun h=>hp (hPi.2 (.inl h))
   have h2:b2=false:=by rw [hb2];exact decide_eq_false fun h=>hp (hPi.2 (.inr h))
   subst h1 h2
   have e:=ZHQ (g:=g) (N:=g.sorts.names.length) (ds:=o.decls.take i) hp
   rw [<- hsnoc] at e
   rw [<- e]
   (have F:=ai @q2 (ai @hw1 @tmz);refine gG ?_;exact ⟨(i+1,ofB (GvB g P (o.decls.take (i+1))) g.sorts.names.length),⟨hlt,rfl⟩,gw,gw,by omega⟩)
def ClB (g:Sgn) (v n b:Nat):Prop:=∃ k,k < n∧v.testBit k=true∧((up g.sorts).getD k 0).testBit b=true
theorem ZGw {v n N:Nat} (h:tbit v n=true) (hu:(up g.sorts).getD n 0 < 2 ^ N):ofB (ClB g v (n+1)) N=ofB (ClB g v n) N ||| (up g.sorts).getD n 0:=by
 rw [<- ZgQ hu,ZfP]
 refine ZaZ fun b _=>?_
 constructor
 ·rintro ⟨k,h1,h2,h3⟩
  by_cases e:k=n
  ·subst e;exact .inr h3
  ·exact .inl ⟨k,by omega,h2,h3⟩
 ·rintro (⟨k,h1,h2,h3⟩ | h3)
  ·exact ⟨k,by omega,h2,h3⟩
  ·exact ⟨n,by omega,h,h3⟩
theorem ZGx {v n N:Nat} (h:tbit v n=false):ofB (ClB g v (n+1)) N=ofB (ClB g v n) N:=by
 refine ZaZ fun b _=>?_
 constructor
 ·rintro ⟨k,h1,h2,h3⟩
  by_cases e:k=n
  ·subst e
   rw [show v.testBit k=false from h] at h2
   cases h2
  ·exact ⟨k,by omega,h2,h3⟩
 ·rintro ⟨k,h1,h2,h3⟩
  exact ⟨k,by omega,h2,h3⟩
theorem ZGy {v N:Nat}:ofB (ClB g v 0) N=0:=ZgP fun b _ h=>by
 obtain ⟨k,h1,_⟩:=h
 omega
theorem Zsc (hg:SgnOk g) {v:Nat} (hv:v < 2 ^ g.sorts.names.length):Con e0 260 [.one (.sl (nR (up g.sorts))),.one (.lit (.int .i64 (v:Int)))] [.one (.lit (.int .i64 ((ofB (ClB g v g.sorts.names.length) g.sorts.names.length:Nat):Int)))]:=by
 have hN:=hg.sorts.n8
 have hv62:=Zbt hv hN
 have hUl:(nR (up g.sorts)).length=g.sorts.names.length:=by rw [ZaF,Zqf hg.sorts]
 have z0:ofB (ClB g v 0) g.sorts.names.length=0:=ZGy
 have rr:=Zay (l:=up g.sorts)
 refine gI (ts:=[.slot 4]) 33907 Tryz.func260 ?_
 (have F:=@tmz;refine gG ?_;clear F)
 (have F:=@tmz;refine gL (ι:=Nat × Nat) [5,6,10,15] [] (fun x=>[(6,A.d (.one (.lit (.int .i64 x.1)))),(5,A.d (.one (.lit (.int .i64 x.2))))]) (fun x=>[]) (fun x=>x.1<=g.sorts.names.length∧x.2=ofB (ClB g v x.1) g.sorts.names.length) (fun x=>g.sorts.names.length - x.1) ((0,0)) (⟨Tai _,z0.symm⟩) (fun x hx=>?_);clear F)
 obtain ⟨i,out⟩:=x
 obtain ⟨hi,hout⟩:=hx
 simp only at hi hout
 subst hout
 dsimp only
 by_cases hlt:i < g.sorts.names.length
 rotate_left
 ·obtain rfl:i=g.sorts.names.length:=by omega
  have q1:((g.sorts.names.length:Int) < (g.sorts.names.length:Int))=False:=eq_false om
  (have F:=ai @q1 (ai @hUl @tmz);refine gG ?_;exact gTd)
 have q1:((i:Int) < (g.sorts.names.length:Int))=True:=eq_true om
 have hw1:=Zap (k:=i) om
 have hu:=(ZdT (SortsOk.subsIn hg.sorts.subs)).get hlt
 have ru:=ZaH hu.1
 have ho2:=Zc8 (Zbt (ZbW (ClB g v i) g.sorts.names.length) hN) (Zbt hu.2 hN)
 (have F:=ai @q1 (ai @hUl @tmz);have NN:Zag 5:=trivial;refine gGn ?_;clear F NN)
 refine gB ?_
 (have F:=@tmz;refine gC (ZeN (a:=v) (k:=i) hv62 om) ?_;clear F)
 cases ht:tbit v i with
 | false =>
  have e:=ZGx (g:=g) (N:=g.sorts.names.length) ht
  rw [<- e]
  (have F:=@tmz;refine gR ?_;clear F)
  (have F:=ai @hw1 @tmz;refine gG ?_;exact ⟨(i+1,ofB (ClB g v (i+1)) g.sorts.names.length),⟨hlt,rfl⟩,gw,gw,by omega⟩)
 | true =>
  have e:=ZGw ht hu.2
  rw [<- e] at ho2
  (have F:=@tmz;refine gR ?_;clear F)
  (have F:=ai @ru (ai @rr (ai @hUl (ai @hlt (ai @ho2 (ai @hw1 (ai @Zas @tmz))))));refine gG ?_;exact ⟨(i+1,ofB (ClB g v (i+1)) g.sorts.names.length),⟨hlt,rfl⟩,gw,gw,by omega⟩)
def RsB (P:Dcl->Prop) (ds:List Dcl) (b:Nat):Prop:=∃ d∈ds,P d∧d.res.toNat=b
theorem ZGz {P:Dcl->Prop} {N:Nat}:ofB (RsB P []) N=0:=ZgP fun b _ h=>by
 obtain ⟨d,hd,_⟩:=h
 cases hd
theorem ZHl {P:Dcl->Prop} {N:Nat} {ds:List Dcl} {d:Dcl} (h:P d) (hu:d.res.toNat < N):ofB (RsB P (ds++[d])) N=ofB (RsB P ds) N ||| 2 ^ d.res.toNat:=by
 have h2:2 ^ d.res.toNat < 2 ^ N:=Nat.pow_lt_pow_right om hu
 rw [<- ZgQ h2,ZfP]
 refine ZaZ fun b _=>?_
 rw [Zm3]
 constructor
 ·rintro ⟨x,hx,h1,h2⟩
  rcases Tbh.1 hx with hx | hx
  ·exact .inl ⟨x,hx,h1,h2⟩
  ·rw [Tbj.1 hx] at h2;exact .inr h2
 ·rintro (⟨x,hx,h1,h2⟩ | h2)
  ·exact ⟨x,List.mem_append_left _ hx,h1,h2⟩
  ·exact ⟨d,List.mem_append_right _ (Tbj.2 rfl),h,h2⟩
theorem ZHR {P:Dcl->Prop} {N:Nat} {ds:List Dcl} {d:Dcl} (h:¬ P d):ofB (RsB P (ds++[d])) N=ofB (RsB P ds) N:=by
 refine ZaZ fun b _=>?_
 constructor
 ·rintro ⟨x,hx,h1,h2⟩
  rcases Tbh.1 hx with hx | hx
  ·exact ⟨x,hx,h1,h2⟩
  ·rw [Tbj.1 hx] at h1;exact absurd h1 h
 ·rintro ⟨x,hx,h1,h2⟩
  exact ⟨x,List.mem_append_left _ hx,h1,h2⟩
theorem ZGA (hg:SgnOk g) {o:Opr} (hD:∀ d∈o.decls,0<=d.res∧d.res < g.sorts.names.length) (sets:List Nat):ofB (ClB g (ofB (RsB (fun d=>FitN d sets d.args.length) o.decls) g.sorts.names.length) g.sorts.names.length) g.sorts.names.length=ofB (Zdi g o sets) g.sorts.names.length:=by
 refine ZaZ fun b _=>?_
 unfold ClB Zdi
 constructor
 ·rintro ⟨k,h1,h2,h3⟩
  obtain ⟨h4,d,hd,h5,h6⟩:=(Zc9 _ _ _).1 h2
  refine ⟨d,hd,FitN.full.1 h5,?_⟩
  unfold upk
  rw [h6];exact h3
 ·rintro ⟨d,hd,h1,h2⟩
  have hr:=hD d hd
  exact ⟨d.res.toNat,by omega,(Zc9 _ _ _).2 ⟨by omega,d,hd,FitN.full.2 h1,rfl⟩,h2⟩
open Classical in
theorem Ziq (hg:SgnOk g) {o:Opr} (hm:o∈g.ops) (sets:List Nat) (hlen:∀ d∈o.decls,d.args.length=sets.length) (hsl:sets.length<=3) (hs:∀ s∈sets,s < 2 ^ g.sorts.names.length):Con e0 242 [.one (.sl (nR (up g.sorts))),.one (.sl (o.decls.map Zgz)),.one (.sl (nR sets))] [.one (.lit (.int .i64 ((ofB (Zdi g o sets) g.sorts.names.length:Nat):Int)))]:=by
 have hN:=hg.sorts.n8
 have hD:=hg.decls o hm
 have hdl:o.decls.length<=4:=hD.len4
 obtain ⟨f,hf⟩:∃ f,o.decls[0]?=some f:=⟨_,Taa (by have:=hD.len1;omega)⟩
 have hres:=fun d hd=>(hD.all f hf d hd).res
 rw [<- ZGA hg hres sets]
 generalize hPd:(fun d=>FitN d sets d.args.length)=P
 have z0:ofB (RsB P []) g.sorts.names.length=0:=ZGz
 have cC:=Zsc hg (ZbW (RsB P o.decls) g.sorts.names.length)
 refine gI (ts:=[.slot 6]) 549756880839 Tryz.func242 ?_
 (have F:=@tmz;refine gG ?_;clear F)
 (have F:=@tmz;refine gL (ι:=Nat × Nat) [7,8,9,10,14,20,39] [] (fun x=>[(8,A.d (.one (.lit (.int .i64 x.1)))),(7,A.d (.one (.lit (.int .i64 x.2))))]) (fun x=>[]) (fun x=>x.1<=o.decls.length∧x.2=ofB (RsB P (o.decls.take x.1)) g.sorts.names.length) (fun x=>o.decls.length - x.1) ((0,0)) (⟨Tai _,z0.symm⟩) (fun x hx=>?_);clear F)
 obtain ⟨i,out⟩:=x
 obtain ⟨hi,hout⟩:=hx
 simp only at hi hout
 subst hout
 dsimp only
 by_cases hlt:i < o.decls.length
 rotate_left
 ·obtain rfl:i=o.decls.length:=by omega
  have q1:((o.decls.length:Int) < (o.decls.length:Int))=False:=eq_false om
  rw [Tao]
  (have F:=ai @q1 @tmz;have NN:Zag 12:=trivial;refine gGn ?_;clear F NN)
  refine gB ?_
  (have F:=@tmz;refine gC (cC) ?_;clear F)
  (have F:=@tmz;refine gR ?_;clear F)
  (have F:=@tmz;refine gG ?_;exact gTd)
 obtain ⟨d,hdi⟩:∃ d,o.decls[i]?=some d:=⟨_,Taa hlt⟩
 have hdm:=Tab hdi
 have hdl2:=hlen d hdm
 have hdo:=hD.all f hf d hdm
 have q1:((i:Int) < (o.decls.length:Int))=True:=eq_true om
 have hw1:=Zap (k:=i) om
 have hsnoc:o.decls.take (i+1)=o.decls.take i++[d]:=by simp [List.take_add_one,hdi]
 have rl:=ZaF (l:=sets)
 have rr:=Zay (l:=sets)
 (have F:=ai @q1 @tmz;refine gG ?_;clear F)
 (have F:=@tmz;refine gL (ι:=Nat × Bool) [9,10,20] [] (fun y=>[(10,A.d (.one (.lit (.int .i64 y.1)))),(9,A.d (.one (.lit (.bool y.2))))]) (fun y=>[]) (fun y=>y.1<=sets.length∧y.2=decide (FitN d sets y.1)) (fun y=>sets.length - y.1) ((0,true)) (⟨Tai _,(decide_eq_true FitN.zero).symm⟩) (fun y hy=>?_);clear F)
 obtain ⟨j,b1⟩:=y
 obtain ⟨hj,hb1⟩:=hy
 simp only at hj hb1
 dsimp only
 by_cases hjl:j < sets.length
 ·obtain ⟨k,hk⟩:∃ k,d.args[j]?=some k:=⟨_,Taa om⟩
  have hkr:=hdo.args k (Tab hk)
  obtain ⟨kn,rfl⟩:∃ kn:Nat,k=kn:=⟨k.toNat,by omega⟩
  obtain ⟨s,hsj⟩:∃ s,sets[j]?=some s:=⟨_,Taa om⟩
  have b62:=Zbt (hs s (Tab hsj)) hN
  have q2:((j:Int) < (sets.length:Int))=True:=eq_true om
  have hwj:=Zap (k:=j) om
  have r1:=ZaH hsj
  have i1:(j < sets.length)=True:=eq_true om
  have i3:(j < d.args.length)=True:=eq_true om
  have hf1:=FitN.succ (n:=j) hk hsj
  rw [show (kn:Int).toNat=kn from rfl] at hf1
  (have F:=ai @q2 (ai @rl @tmz);have NN:Zag 9:=trivial;refine gGn ?_;clear F NN)
  refine gM (ι:=Bool) [9] [] (fun b=>[(9,A.d (.one (.lit (.bool b))))]) (fun b=>[]) (fun b=>b=decide (FitN d sets (j+1))) ?_ (fun b hb=>Exists.intro _ (ai (Wk.refl _) ?_))
  ·cases b1 with
   | false =>
    have e:false=decide (FitN d sets (j+1)):=(decide_eq_false fun h=>by
     have:=hf1.1 h
     rw [decide_eq_true this.1] at hb1
     cases hb1).symm
    (have F:=@tmz;refine gG ?_;exact ⟨false,e,gw,gw⟩)
   | true =>
    have hb1':=of_decide_eq_true hb1.symm
    have e:tbit s kn=decide (FitN d sets (j+1)):=by
     cases ht:tbit s kn with
     | false=>exact (decide_eq_false fun h=>by
       have:=(hf1.1 h).2
       rw [show s.testBit kn=false from ht] at this
       cases this).symm
     | true=>exact (decide_eq_true (hf1.2 ⟨hb1',ht⟩)).symm
    refine gB ?_
    (have F:=ai @r1 (ai @rl (ai @rr (ai @i1 (ai @i3 (ai @hdi (ai @hk (ai @ZaR (ai @Za4 (ai @Zas @tmz)))))))));refine gC (ZeN (a:=s) (k:=kn) b62 om) ?_;clear F)
    (have F:=@tmz;refine gR ?_;clear F)
    (have F:=@tmz;refine gG ?_;exact ⟨tbit s kn,e,gw,gw⟩)
  (have F:=ai @hwj @tmz;refine gG ?_;exact ⟨(j+1,b),⟨hjl,hb⟩,gw,gw,by omega⟩)
 ·obtain rfl:j=sets.length:=by omega
  have q2:((sets.length:Int) < (sets.length:Int))=False:=eq_false om
  have hPi:P d ↔ FitN d sets sets.length:=by rw [<- hPd,<- hdl2]
  have hr0:=hdo.res.1
  have hr1:=hdo.res.2
  obtain ⟨rn,hrn⟩:∃ rn:Nat,d.res=rn:=⟨d.res.toNat,by omega⟩
  have cB:=ZfN (k:=rn) om
  rw [<- hrn] at cB
  have ho2:=Zc8 (Zbt (ZbW (RsB P (o.decls.take i)) g.sorts.names.length) hN) (Zbt (v:=2 ^ rn) (N:=g.sorts.names.length) (Nat.pow_lt_pow_right om om) hN)
  cases b1 with
  | true =>
   have hp:P d:=hPi.2 (of_decide_eq_true hb1.symm)
   have e:=ZHl (N:=g.sorts.names.length) (ds:=o.decls.take i) hp om
   rw [<- hsnoc,show d.res.toNat=rn by omega] at e
   rw [<- e] at ho2
   (have F:=ai @q2 (ai @rl @tmz);have NN:Zag 11:=trivial;refine gGn ?_;clear F NN)
   refine gB ?_
   (have F:=ai @hdi (ai @ZaR @tmz);refine gC (cB) ?_;clear F)
   (have F:=ai @ho2 @tmz;refine gR ?_;clear F)
   (have F:=ai @hw1 @tmz;refine gG ?_;exact ⟨(i+1,ofB (RsB P (o.decls.take (i+1))) g.sorts.names.length),⟨hlt,rfl⟩,gw,gw,by omega⟩)
  | false =>
   have hp:¬ P d:=fun h=>by rw [decide_eq_true (hPi.1 h)] at hb1;cases hb1
   have e:=ZHR (N:=g.sorts.names.length) (ds:=o.decls.take i) hp
   rw [<- hsnoc] at e
   rw [<- e]
   (have F:=ai @q2 (ai @rl (ai @hw1 @tmz));refine gG ?_;exact ⟨(i+1,ofB (RsB P (o.decls.take (i+1))) g.sorts.names.length),⟨hlt,rfl⟩,gw,gw,by omega⟩)
theorem ZkF (hg:SgnOk g) {op:Int} {o:Opr} (h0:0<=op) (ho:g.ops[op.toNat]?=some o) (sets:List Nat) (hlen:∀ d∈o.decls,d.args.length=sets.length) (hsl:sets.length<=3) (hs:∀ s∈sets,s < 2 ^ g.sorts.names.length):Con e0 209 [.agg (Zav g),.one (.lit (.int .i64 op)),.one (.sl (nR sets))] [.one (.lit (.int .i64 ((ofB (Zdi g o sets) g.sorts.names.length:Nat):Int)))]:=by
 have cU:=Zfh hg.sorts.n8 hg.sorts.m16 (SortsOk.subsIn hg.sorts.subs)
 have cG:=Ziq hg (Tab ho) sets hlen hsl hs
 rw [Za6] at cU
 rw [Zav]
 refine gI (ts:=[.slot 6]) 79 Tryz.func209 ?_
 (have F:=@tmz;have NN:Zag 1:=trivial;refine gGn ?_;clear F NN)
 refine gB ?_
 (have F:=@tmz;refine gC (cU) ?_;clear F)
 (have F:=ai @h0 (ai @ho (ai @Zaj @tmz));refine gC (cG) ?_;clear F)
 (have F:=@tmz;refine gR ?_;clear F)
 (have F:=@tmz;refine gG ?_;exact gTd)
end
theorem ZqF {a b:Nat} (ha:a < 4611686018427387904) (hb:b < 4611686018427387904):bits .xor .i64 (a:Int) (b:Int)=((a ^^^ b:Nat):Int):=by
 have h:a ^^^ b < 2 ^ 62:=Nat.xor_lt_two_pow om om
 have e:(BitVec.ofInt IntKind.i64.bits (a:Int) ^^^ BitVec.ofInt IntKind.i64.bits (b:Int)).toNat=a ^^^ b:=by
  rw [BitVec.toNat_xor]
  show (BitVec.ofInt 64 (a:Int)).toNat ^^^ (BitVec.ofInt 64 (b:Int)).toNat=_
  rw [ZfL om,ZfL om]
 unfold bits
 show IntKind.i64.wrap _=_
 rw [e]
 exact ZgB om om
def Eith (R:Nat->Nat->Nat->Prop) (a c b:Nat):Prop:=R a c b∨R c a b
theorem ZCg {R:Nat->Nat->Nat->Prop} {sets:List Nat} {m b:Nat}:BagB (Eith R) sets m b ↔ BagB R sets m b:=by
 constructor
 ·intro h
  induction h with
  | leaf h1 h2=>exact .leaf h1 h2
  | node h1 h2 h3 _ _ h6 i1 i2 =>
   rcases h6 with h6 | h6
   ·exact .node h1 h2 h3 i1 i2 h6
   ·rw [Nat.or_comm]
    exact .node h2 h1 (by rw [Nat.and_comm];exact h3) i2 i1 h6
 ·intro h
  induction h with
  | leaf h1 h2=>exact .leaf h1 h2
  | node h1 h2 h3 _ _ h6 i1 i2=>exact .node h1 h2 h3 i1 i2 (.inl h6)
theorem ZCh {R:Nat->Nat->Nat->Prop} {s t b:Nat}:Two (Eith R) s t b ↔ Two R s t b∨Two R t s b:=by
 unfold Two Eith
 constructor
 ·rintro ⟨a,c,h1,h2,h3 | h3⟩
  ·exact .inl ⟨a,c,h1,h2,h3⟩
  ·exact .inr ⟨c,a,h2,h1,h3⟩
 ·rintro (⟨a,c,h1,h2,h3⟩ | ⟨a,c,h1,h2,h3⟩)
  ·exact ⟨a,c,h1,h2,.inl h3⟩
  ·exact ⟨c,a,h2,h1,.inr h3⟩
noncomputable def bvN (g:Sgn) (R:Nat->Nat->Nat->Prop) (sets:List Nat) (m:Nat):Nat:=ofB (BagB R sets m) g.sorts.names.length
theorem ZCi {g:Sgn} {R:Nat->Nat->Nat->Prop} {sets:List Nat} {m:Nat}:bvN g (Eith R) sets m=bvN g R sets m:=ZaZ fun b _=>ZCg
def BagT (g:Sgn) (R:Nat->Nat->Nat->Prop) (sets:List Nat) (M:Nat) (T:List Nat):Prop:=T.length=2 ^ sets.length∧∀ m,1<=m->m < 2 ^ sets.length->(m < M->T[m]?=some (bvN g R sets m))∧(M<=m->T[m]?=some 0)
section
variable {g:Sgn} {R:Nat->Nat->Nat->Prop} {sets:List Nat}
theorem BagT.start:BagT g R sets 1 (List.replicate (2 ^ sets.length) 0):=⟨by simp,fun m h1 h2=>⟨fun h=>by omega,fun _=>by rw [Tbs,if_pos h2]⟩⟩
theorem BagT.next {M:Nat} {T:List Nat} (h:BagT g R sets M T) (hM:M < 2 ^ sets.length):BagT g R sets (M+1) (T.set M (bvN g R sets M)):=by
 refine ⟨by rw [Tay,h.1],fun m h1 h2=>?_⟩
 by_cases e:m=M
 ·subst e
  exact ⟨fun _=>Tbn (by rw [h.1];exact h2),fun q=>by omega⟩
 ·rw [Tbo (Ne.symm e)]
  exact ⟨fun q=>(h.2 m h1 h2).1 om,fun q=>(h.2 m h1 h2).2 om⟩
theorem BagT.zero {M:Nat} {T:List Nat} (h:BagT g R sets M T) (h1:1<=M) (hM:M < 2 ^ sets.length):T.set M 0=T:=by
 have h2:=(h.2 M h1 hM).2 (Tah _)
 refine List.ext_getElem? fun q=>?_
 by_cases e:q=M
 ·subst e
  rw [Tbn (by rw [h.1];exact hM),h2]
 ·rw [Tbo (Ne.symm e)]
theorem ZuX:∀ (q:Nat),(2 ^ q - 1) &&& 2 ^ q=0:=fun q=>by
 refine Nat.eq_of_testBit_eq fun i=>?_
 rw [Nat.testBit_and,Nat.testBit_two_pow_sub_one,Nat.testBit_two_pow,Nat.zero_testBit]
 by_cases h:i < q
 ·simp [h];omega
 ·simp [h]
theorem ZuY {m:Nat} (hm:m≠0) (h:(m - 1) &&& m=0):∃ q,m=2 ^ q:=by
 refine ⟨Nat.log2 m,?_⟩
 have h1:=Nat.log2_self_le hm
 have h2:m < 2 ^ (Nat.log2 m+1):=(Nat.log2_lt hm).1 (Tam _)
 refine Classical.byContradiction fun hne=>?_
 have h3:(m - 1).testBit (Nat.log2 m)=true:=by
  have:=Tbu (x:=m - 1) (i:=Nat.log2 m)
  cases ht:(m - 1).testBit (Nat.log2 m) with
  | true=>rfl
  | false =>
   have h4:m - 1 < 2 ^ Nat.log2 m:=Nat.lt_pow_two_of_testBit _ fun i hi=>by
    rcases Nat.lt_or_eq_of_le hi with hi | hi
    ·exact Tbu (Tbd (by omega:m - 1 < 2 ^ (Nat.log2 m+1)) (Tbt om hi))
    ·rw [<- hi];exact ht
   omega
 have h5:m.testBit (Nat.log2 m)=true:=by
  cases ht:m.testBit (Nat.log2 m) with
  | true=>rfl
  | false =>
   have h4:m < 2 ^ Nat.log2 m:=Nat.lt_pow_two_of_testBit _ fun i hi=>by
    rcases Nat.lt_or_eq_of_le hi with hi | hi
    ·exact Tbu (Tbd h2 (Tbt om hi))
    ·rw [<- hi];exact ht
   omega
 have h6:=Nat.testBit_and (m - 1) m (Nat.log2 m)
 rw [h,h3,h5] at h6
 simp at h6
end
section
variable {w:World} {S:Nat->Prop} {a:Option Addr} {n cap:Nat} {rows:List (List C)}
def Ze3 (a:Option Addr) (n cap:Nat) (rows:List (List C)) (R:List (List C)):List (List C):=R.map fun r=>r.map (datC a n cap rows)
theorem ZjA {R:List (List C)}:(Ze3 a n cap rows R).length=R.length:=by simp [Ze3]
theorem Zwh {c:C} (h:ZaE c=true):ZaE (datC a n cap rows c)=true:=by
 unfold datC
 split
 ·split
  ·rfl
  ·exact h
 ·exact h
theorem ZCk {sz:Nat} {R:List (List C)} (h:ZaN sz R):ZaN sz (Ze3 a n cap rows R):=fun r hr=>by
 obtain ⟨r',hr',rfl⟩:=Tbi.1 hr
 obtain ⟨h1,h2⟩:=h r' hr'
 refine ⟨by rw [Tax];exact h1,?_⟩
 rw [List.all_map,List.all_eq_true]
 exact fun c hc=>Zwh (List.all_eq_true.1 h2 c hc)
theorem Zoc (hr:Rep w S (.sl rows) (.slice a n cap)) {b:Nat}:∀ {R:List (List C)} {off:Nat},Zan w S b off R->Zan w S b off (Ze3 a n cap rows R)
 | [],_,h=>h
 | r::R,off,h=>by
  simp only [Ze3,Tbv,Zan,Tax] at h ⊢
  exact ⟨ZkO hr h.1,Zoc hr h.2⟩
theorem ZCl (hr:Rep w S (.sl rows) (.slice a n cap)) {ety sz:Nat} {R:List (List C)} {v:Value} (h:ZaP w S ety sz R v):ZaP w S ety sz (Ze3 a n cap rows R) v:=by
 obtain ⟨h1,h2,h3⟩:=h
 refine ⟨h1,ZCk h2,?_⟩
 rcases h3 with ⟨h4,h5⟩ | ⟨g,cap',cur,h4,h5⟩
 ·exact .inl ⟨by rw [h4];rfl,h5⟩
 ·refine .inr ⟨g,cap',cur,by rw [ZjA];exact h4,?_⟩
  obtain ⟨q1,q2,q3,q4,q5,q6,q7,q8⟩:=h5
  exact ⟨q1,q2,q3,q4,by rw [ZjA];exact q5,q6,q7,Zoc hr q8⟩
end
section
variable {e:Env} {σ:St} {mask:Nat} {Q:PX->St->Prop}
theorem ZAE (k kb:Nat) (hne:kb≠k) {a:Option Addr} {cap ety sz ety' sz':Nat} {rows R:List (List C)} {o':Option (Option Addr × Nat)} (hm:gm σ.m k=some (.buf (some (a,cap)) ety sz rows)) (hb:gm σ.m kb=some (.buf o' ety' sz' R)) :
  Turn e σ (fun σ'=>σ'=⟨frzS k (.buf (some (a,cap)) ety sz rows) σ.s,(kb,.buf o' ety' sz' (Ze3 a rows.length cap rows R))::remM kb (remM k σ.m)⟩):=by
 intro he U w0 S0 nt ac w ⟨S,L,h⟩
 have ho:=h.cls.own k _ hm
 have hv:L.v k=.slice a rows.length cap:=ho.1 (a,cap) rfl
 have hrep:=ZaP.rep ho.2
 rw [hv] at hrep
 obtain ⟨S',L',h',hS'⟩:=h.freeze2 he hm
 have hr:Rep w S' (.sl rows) (.slice a rows.length cap):=hrep.mono fun b hb=>(hS' b).2 (hb.imp id (fun q=>by show vblk (L.v k)=some b;rw [hv];exact q))
 have hb':gm (remM k σ.m) kb=some (.buf o' ety' sz' R):=by rw [Za7,if_neg hne];exact hb
 have hob:=h'.cls.own kb _ hb'
 exact ⟨_,rfl,S',L',h'.cls.swap hb' (bk':=.buf o' ety' sz' (Ze3 a rows.length cap rows R)) ⟨fun p hp=>by rw [ZjA];exact hob.1 p hp,ZCl hr hob.2⟩ (fun g hg=>hg),h'.rel,h'.size,h'.defers,h'.kept⟩
theorem pDb {c:Code} {s s2:List (Nat × A)} {m m2:List (Nat × Bk)} {a:Option Addr} {cap ety sz ety' sz':Nat} {rows R:List (List C)} {o':Option (Option Addr × Nat)} (k kb:Nat) (hne:kb≠k) (hK:pwp e mask c ⟨s2,(kb,.buf o' ety' sz' (Ze3 a rows.length cap rows R))::m2⟩ Q)
  (hm:gm m k=some (.buf (some (a,cap)) ety sz rows):=by exact snv) (hb:gm m kb=some (.buf o' ety' sz' R):=by exact snv) (hs:frzS k (.buf (some (a,cap)) ety sz rows) s=s2:=by exact snv) (hr:remM kb (remM k m)=m2:=by exact snv):pwp e mask c ⟨s,m⟩ Q :=
 ZcF (ZAE k kb hne hm hb) fun σ' hσ=>by subst hσ;simp only [hs,hr];exact hK
end
section
variable {g:Sgn} {mc:C}
noncomputable def cvN (g:Sgn) (o:Opr) (sets:List Nat) (i j:Nat):Nat:=ofB (ChB (Rel2 g o) sets i j) g.sorts.names.length
noncomputable def chL (g:Sgn) (o:Opr) (sets:List Nat) (r:Nat):List Nat:=(List.range sets.length).map fun k=>if k < r then 0 else cvN g o sets r (k+1)
theorem Zkd {o:Opr} {sets:List Nat} {r:Nat}:(chL g o sets r).length=sets.length:=by simp [chL]
theorem Zu0 {o:Opr} {sets:List Nat} {r k:Nat} (h1:r<=k) (h2:k < sets.length):(chL g o sets r)[k]?=some (cvN g o sets r (k+1)):=by
 unfold chL
 rw [Taz,List.getElem?_range h2,Option.map_some,if_neg om]
def FilB (g:Sgn) (o:Opr) (sets:List Nat) (p k:Nat) (L:List Nat):Prop:=L.length=sets.length∧∀ j,j < sets.length->L[j]?=some (if j < p then 0 else if j < k then cvN g o sets p (j+1) else 0)
theorem FilB.all {o:Opr} {sets:List Nat} {p:Nat} {L:List Nat} (h:FilB g o sets p sets.length L):L=chL g o sets p:=by
 refine List.ext_getElem? fun j=>?_
 by_cases hj:j < sets.length
 ·rw [h.2 j hj]
  unfold chL
  rw [Taz,List.getElem?_range hj,Option.map_some]
  by_cases h1:j < p
  ·rw [if_pos h1,if_pos h1]
  ·rw [if_neg h1,if_neg h1,if_pos hj]
 ·rw [List.getElem?_eq_none (by rw [h.1];omega),List.getElem?_eq_none (by rw [Zkd];omega)]
theorem FilB.next {o:Opr} {sets:List Nat} {p k:Nat} {L:List Nat} (h:FilB g o sets p k L) (hp:p<=k) (hk:k < sets.length):FilB g o sets p (k+1) (L.set k (cvN g o sets p (k+1))):=by
 refine ⟨by rw [Tay,h.1],fun j hj=>?_⟩
 by_cases e:j=k
 ·subst e
  rw [Tbn (by rw [h.1];exact hj),if_neg om,if_pos om]
 ·rw [Tbo (Ne.symm e),h.2 j hj]
  by_cases h1:j < p
  ·rw [if_pos h1,if_pos h1]
  ·rw [if_neg h1,if_neg h1]
   by_cases h2:j < k
   ·rw [if_pos h2,if_pos om]
   ·rw [if_neg h2,if_neg om]
theorem FilB.zero {o:Opr} {sets:List Nat} {p k:Nat} {L:List Nat} (h:FilB g o sets p k L) (hp:p<=k) (hk:k < sets.length):L.set k 0=L:=by
 have h1:=h.2 k hk
 rw [if_neg om,if_neg om] at h1
 refine List.ext_getElem? fun j=>?_
 by_cases e:j=k
 ·subst e
  rw [Tbn (by rw [h.1];exact hk),h1]
 ·rw [Tbo (Ne.symm e)]
theorem FilB.start {o:Opr} {sets:List Nat} {p s:Nat} (hs:sets[p]?=some s) (h:s < 2 ^ g.sorts.names.length):FilB g o sets p (p+1) ((List.replicate sets.length 0).set p s):=by
 have hp:=(Tac.1 hs).1
 refine ⟨by simp,fun j hj=>?_⟩
 by_cases e:j=p
 ·subst e
  rw [Tbn (by simpa using hj),if_neg om,if_pos om]
  unfold cvN
  rw [ZAp hs h]
 ·rw [Tbo (Ne.symm e),Tbs,if_pos hj]
  by_cases h1:j < p
  ·rw [if_pos h1]
  ·rw [if_neg h1,if_neg om]
theorem ZGD (hg:SgnOk g) {i:Nat} {o:Opr} (ho:g.ops[i]?=some o) (ha:o.assoc=true) (hc:o.comm=false) {s t N:Nat}:ofB (AnyB g o [s,t]) N=ofB (fun b=>Two (Rel2 g o) s t b) N:=by
 refine ZaZ fun b _=>?_
 unfold AnyB
 rw [ZeI (Opr.deg2 hg ho (.inl ha)),hc]
 simp
def dRow (d:List Nat):List C:=[.sl (nR d)]
theorem ZAF:∀ d,dRow d=[.sl (nR d)]:=fun _=>rfl
theorem ZHn (n:Nat):(List.replicate n ([]:List Nat)).map dRow=List.replicate n [C.sl []]:=by
 rw [List.map_replicate];rfl
theorem ZAG (Ds:List (List Nat)):ZaT 1 (Ds.map dRow)=true:=Zdc (e:=dRow) (n:=1) (fun _=>rfl) Ds
theorem ZCm {a:Option Addr} {n cap:Nat} {L:List Nat} {Ds:List (List Nat)} {p:Nat}:Ze3 a n cap (nR L) ((Ds.map dRow).set p [.lit (.slice a n cap)])=(Ds.set p L).map dRow:=by
 have h1:∀ d,(dRow d).map (datC a n cap (nR L))=dRow d:=fun d=>rfl
 have h2:[C.lit (.slice a n cap)].map (datC a n cap (nR L))=dRow L:=by simp [datC,dRow]
 unfold Ze3
 rw [List.map_set,h2,List.map_set,List.map_map]
 congr 1
theorem ZHS {a:Option Addr} {n cap:Nat} {Ds:List (List Nat)} {p:Nat} (hok:ZaE (.lit (.slice a n cap))=true):ZaT 1 ((Ds.map dRow).set p [.lit (.slice a n cap)])=true:=by
 have h:=ZAG Ds
 unfold ZaT at h ⊢
 rw [List.all_eq_true] at h ⊢
 intro r hr
 rcases List.mem_or_eq_of_mem_set hr with h1 | h1
 ·exact h r h1
 ·subst h1
  simp [hok]
theorem Zm8 (hg:SgnOk g) {op:Int} {o:Opr} (h0:0<=op) (ho:g.ops[op.toNat]?=some o) (ha:o.assoc=true) (hc:o.comm=false) (sets:List Nat) (hn1:1<=sets.length) (hn7:sets.length<=7) (hs:∀ s∈sets,s < 2 ^ g.sorts.names.length):Con e0 177 [.one (.ptr (encX g mc)),.one (.lit (.int .i64 op)),.one (.sl (nR sets))] [.one (.lit (.int .i64 ((cvN g o sets 0 sets.length:Nat):Int)))]:=by
 have hN:=hg.sorts.n8
 have rl:=ZaF (l:=sets)
 have rr:=Zay (l:=sets)
 have hmx:((sets.length:Int)<=(maxApp:Int))=True:=eq_true (by unfold maxApp;omega)
 have hdeg:=Opr.deg2 hg ho (.inl ha)
 have hcv:∀ i j,cvN g o sets i j < 2 ^ g.sorts.names.length:=fun i j=>ZbW _ _
 have hRlt:=fun a c b (h:Rel2 g o a c b)=>Rel2.lt hg (Tab ho) h
 have w0:IntKind.i64.wrap ((sets.length:Int) - 1)=(sets.length:Int) - 1:=IntWalk.i64_in _ om
 refine gI (ts:=[.slot 6]) 142936512139207 Tryz.func177 ?_
 (have F:=ai @rl (ai @hmx (ai @Tbz (ai @w0 @tmz)));refine gG ?_;clear F)
 have hR0:=ZHn sets.length
 (have F:=ai @hR0 @tmz;refine gL (ι:=Nat × List (List Nat)) [8,9,10,11,19,41,47] [8] (fun x=>[(9,.d (.one (.lit (.int .i64 ((x.1:Int) - 1))))),(8,.buf 8)]) (fun x=>[(8,.buf none 29 1 (x.2.map dRow))]) (fun x=>x.1<=sets.length∧x.2.length=sets.length∧∀ r,x.1<=r->r < sets.length->x.2[r]?=some (chL g o sets r)) (fun x=>x.1) ((sets.length,List.replicate sets.length [])) (⟨Tah _,by simp,fun r h1 h2=>absurd h1 om⟩) (fun x hx=>?_);clear F)
 obtain ⟨x,Ds⟩:=x
 obtain ⟨hx,hDl,hD⟩:=hx
 simp only at hx hDl hD
 dsimp only
 have hDB:=ZAG Ds
 have hRl:(Ds.map dRow).length=sets.length:=by rw [Tax,hDl]
 cases x with
 | zero =>
  have q1:((0:Int)<=((0:Nat):Int) - 1)=False:=eq_false om
  have r0:=hD 0 (Tah _) om
  have cg:=ZaH (Zu0 (g:=g) (o:=o) (sets:=sets) (r:=0) (k:=sets.length - 1) om om)
  rw [show sets.length - 1+1=sets.length by omega] at cg
  have w1:IntKind.i64.wrap ((sets.length:Int) - 1)=((sets.length - 1:Nat):Int):=ZaQ om om om
  have cl:=ZaF (l:=chL g o sets 0)
  have cr:=Zay (l:=chL g o sets 0)
  rw [Zkd] at cl
  have i1:(0 < sets.length)=True:=eq_true om
  have i2:(sets.length - 1 < sets.length)=True:=eq_true om
  (have F:=ai @q1 (ai @r0 (ai @hDl (ai @hDB (ai @ZAF (ai @cg (ai @cl (ai @cr (ai @i1 (ai @i2 (ai @w1 (ai @Zas @tmz)))))))))));refine gG ?_;exact gTd)
 | succ p =>
 have hp:p < sets.length:=by omega
 have q1:((0:Int)<=((p+1:Nat):Int) - 1)=True:=eq_true om
 have hpc:((p+1:Nat):Int) - 1=(p:Int):=by omega
 rw [hpc] at q1 ⊢
 obtain ⟨s,hsp⟩:∃ s,sets[p]?=some s:=⟨_,Taa hp⟩
 have r1:=ZaH hsp
 have hw1:=Zap (k:=p) om
 have hwm:IntKind.i64.wrap ((p:Int) - 1)=(p:Int) - 1:=IntWalk.i64_in _ om
 have i1:(p < sets.length)=True:=eq_true hp
 have hFs:=FilB.start (g:=g) (o:=o) hsp (hs s (Tab hsp))
 have nl0:(nR (List.replicate sets.length 0)).length=sets.length:=by rw [ZaF,Tbr]
 have nr0:=Zay (l:=List.replicate sets.length 0)
 have ns0:=Zcf (l:=List.replicate sets.length 0) p s
 obtain ⟨z0,hz0⟩:∃ z,(List.replicate sets.length 0)[p]?=some z:=⟨_,Taa (by simpa using hp)⟩
 have ng0:=ZaH hz0
 (have F:=ai @q1 @tmz;have NN:Zag 6:=trivial;refine gGn ?_;clear F NN)
 refine gB ?_
 (have F:=ai @hmx (ai @Tbz (ai @nR_0 @tmz));refine gP 4 ?_;clear F)
 generalize List.replicate sets.length 0=L0 at nl0 nr0 ns0 ng0 hFs ⊢
 refine gS 25 fun a cap=>?_
 rw [nl0]
 have hB8:=ZHS (a:=a) (n:=sets.length) (cap:=cap) (Ds:=Ds) (p:=p) rfl
 have hl8:((Ds.map dRow).set p [.lit (.slice a sets.length cap)]).length=sets.length:=by rw [Tay,hRl]
 have hg8:((Ds.map dRow).set p [.lit (.slice a sets.length cap)])[p]?=some [.lit (.slice a sets.length cap)]:=Tbn (by rw [hRl];exact hp)
 have hr8:∀ r,p+1<=r->r < sets.length->((Ds.map dRow).set p [.lit (.slice a sets.length cap)])[r]?=some [.sl (nR (chL g o sets r))]:=fun r h1 h2=>by
  rw [Tbo om,Taz,hD r h1 h2];rfl
 have hd8:=fun L=>ZCm (a:=a) (n:=sets.length) (cap:=cap) (L:=L) (Ds:=Ds) (p:=p)
 obtain ⟨z,hz⟩:∃ z,Ds[p]?=some z:=⟨_,Taa om⟩
 (have F:=ai @hDl (ai @hDB (ai @hz (ai @ZAF (ai @i1 (ai @Zas @tmz)))));refine gR ?_;clear F)
 generalize (Ds.map dRow).set p [.lit (.slice a sets.length cap)]=R8 at hB8 hl8 hg8 hr8 hd8 ⊢
 (have F:=ai @hB8 (ai @hl8 (ai @hg8 (ai @nl0 (ai @nr0 (ai @ns0 (ai @ng0 (ai @r1 (ai @rl (ai @rr (ai @i1 (ai @hw1 (ai @Zas @tmz))))))))))));have NN:Zag 9:=trivial;refine gGn ?_;clear F NN)
 generalize L0.set p s=L1 at hFs ⊢
 clear nl0 nr0 ns0 ng0 hz0 hz
 (have F:=@tmz;refine gL (ι:=Nat × List Nat) [10,11,41,47] [25] (fun y=>[(10,A.d (.one (.lit (.int .i64 y.1))))]) (fun y=>[(25,.buf (some (a,cap)) 3 1 (nR y.2))]) (fun y=>p+1<=y.1∧y.1<=sets.length∧FilB g o sets p y.1 y.2) (fun y=>sets.length - y.1) ((p+1,L1)) (⟨Tah _,hp,hFs⟩) (fun y hy=>?_);clear F)
 clear hFs L1
 obtain ⟨k,L⟩:=y
 obtain ⟨hk1,hk2,hF⟩:=hy
 simp only at hk1 hk2 hF
 dsimp only
 by_cases hkl:k < sets.length
 rotate_left
 ·obtain rfl:k=sets.length:=by omega
  have hL:=hF.all
  subst hL
  have q2:((sets.length:Int) < (sets.length:Int))=False:=eq_false om
  have cl:=ZaF (l:=chL g o sets p)
  rw [Zkd] at cl
  have hd:=hd8 (chL g o sets p)
  (have F:=ai @q2 @tmz;have NN:Zag 5:=trivial;refine gGn ?_;clear F NN)
  refine pDb 25 8 (by decide) ?_
  rw [cl,hd]
  have hfin:p<=sets.length∧(Ds.set p (chL g o sets p)).length=sets.length∧∀ r,p<=r->r < sets.length->(Ds.set p (chL g o sets p))[r]?=some (chL g o sets r):=⟨by omega,by rw [Tay,hDl],fun r h1 h2=>by
   by_cases e:r=p
   ·subst e;exact Tbn om
   ·rw [Tbo om];exact hD r om h2⟩
  (have F:=ai @hwm @tmz;refine gG ?_;exact ⟨(p,Ds.set p (chL g o sets p)),hfin,gw,gw,by omega⟩)
 have q2:((k:Int) < (sets.length:Int))=True:=eq_true om
 have hwk:=Zap (k:=k) om
 have hz:=hF.zero om hkl
 have hzz:nR (L.set k 0)=nR L:=by rw [hz]
 (have F:=ai @q2 @tmz;refine gG ?_;clear F)
 (have F:=ai @hzz @tmz;refine gL (ι:=Nat × Nat) [11,47] [25] (fun z=>[(11,A.d (.one (.lit (.int .i64 z.1))))]) (fun z=>[(25,.buf (some (a,cap)) 3 1 (nR (L.set k z.2)))]) (fun z=>p<=z.1∧z.1<=k∧z.2=ofB (CutB (Rel2 g o) sets g.sorts.names.length p (k+1) (z.1+1)) g.sorts.names.length) (fun z=>k - z.1) ((p,0)) (⟨Tah _,by omega,Zn1.symm⟩) (fun z hz=>?_);clear F)
 obtain ⟨m,v⟩:=z
 obtain ⟨hm1,hm2,hv⟩:=hz
 simp only at hm1 hm2 hv
 subst hv
 dsimp only
 by_cases hmk:m < k
 rotate_left
 ·obtain rfl:m=k:=by omega
  have q3:((m:Int) < (m:Int))=False:=eq_false om
  have e:ofB (CutB (Rel2 g o) sets g.sorts.names.length p (m+1) (m+1)) g.sorts.names.length=cvN g o sets p (m+1):=ZuO hs hRlt om
  rw [e]
  (have F:=ai @q3 (ai @hwk @tmz);refine gG ?_;exact ⟨(m+1,L.set m (cvN g o sets p (m+1))),⟨by omega,hkl,hF.next om hkl⟩,gw,gw,by omega⟩)
 have q3:((m:Int) < (k:Int))=True:=eq_true om
 have hwm1:=Zap (k:=m) om
 have hLm:=hF.2 m om
 rw [if_neg om,if_pos hmk] at hLm
 have e:=fun b=>Zqs (R:=Rel2 g o) (sets:=sets) (N:=g.sorts.names.length) (i:=p) (j:=k+1) (k:=m+1) (b:=b) om om
 have e:ofB (CutB (Rel2 g o) sets g.sorts.names.length p (k+1) (m+1)) g.sorts.names.length ||| ofB (fun b=>Two (Rel2 g o) (cvN g o sets p (m+1)) (cvN g o sets (m+1) (k+1)) b) g.sorts.names.length=ofB (CutB (Rel2 g o) sets g.sorts.names.length p (k+1) (m+1+1)) g.sorts.names.length:=by
  rw [ZfP]
  exact ZaZ fun b _=>(e b).symm
 have cR:=ZhA (mc:=mc) hg h0 ho [cvN g o sets p (m+1),cvN g o sets (m+1) (k+1)] (fun d hd=>hdeg d hd) (by simp) (fun s hs=>by
  simp only [Tbg,List.not_mem_nil,or_false] at hs
  rcases hs with rfl | rfl <;> exact hcv _ _)
 rw [ZGD hg ho ha hc] at cR
 have cR:=ZfR cR
 have hor:=Zc8 (Zbt (ZbW (CutB (Rel2 g o) sets g.sorts.names.length p (k+1) (m+1)) g.sorts.names.length) hN) (Zbt (ZbW (fun b=>Two (Rel2 g o) (cvN g o sets p (m+1)) (cvN g o sets (m+1) (k+1)) b) g.sorts.names.length) hN)
 rw [e] at hor
 have hv62:=Zbt (ZbW (CutB (Rel2 g o) sets g.sorts.names.length p (k+1) (m+1)) g.sorts.names.length) hN
 clear e
 generalize ofB (fun b=>Two (Rel2 g o) (cvN g o sets p (m+1)) (cvN g o sets (m+1) (k+1)) b) g.sorts.names.length=tw at cR hor
 generalize ofB (CutB (Rel2 g o) sets g.sorts.names.length p (k+1) (m+1)) g.sorts.names.length=v at hor ⊢
 have nl:=ZaF (l:=L.set k v)
 rw [Tay,hF.1] at nl
 have nr:=Zay (l:=L.set k v)
 have g1:(nR (L.set k v))[k]?=some [.lit (.int .i64 v)]:=ZaH (Tbn (by rw [hF.1];exact hkl))
 have g2:(nR (L.set k v))[m]?=some [.lit (.int .i64 (cvN g o sets p (m+1)))]:=ZaH (by rw [Tbo om];exact hLm)
 have g3:=hr8 (m+1) om om
 have g4:=ZaH (Zu0 (g:=g) (o:=o) (sets:=sets) (r:=m+1) (k:=k) om hkl)
 have cl:=ZaF (l:=chL g o sets (m+1))
 rw [Zkd] at cl
 have cr:=Zay (l:=chL g o sets (m+1))
 have ns:=fun x=>Zcf (l:=L.set k v) k x
 simp only [List.set_set] at ns
 have i2:(k < sets.length)=True:=eq_true hkl
 have i3:(m < sets.length)=True:=eq_true om
 have i4:(m+1 < sets.length)=True:=eq_true om
 (have F:=ai @q3 @tmz;have NN:Zag 14:=trivial;refine gGn ?_;clear F NN)
 refine gB ?_
 (have F:=ai @hB8 (ai @hl8 (ai @hg8 (ai @nl (ai @nr (ai @g1 (ai @g2 (ai @g3 (ai @g4 (ai @cl (ai @cr (ai @i1 (ai @i2 (ai @i3 (ai @i4 (ai @hwm1 (ai @Zas @tmz))))))))))))))));refine gC (cR) ?_;clear F)
 (have F:=ai @nl (ai @nr (ai @g1 (ai @hor (ai @ns (ai @i2 (ai @Zas @tmz))))));refine gR ?_;clear F)
 (have F:=ai @hwm1 @tmz;refine gG ?_;exact ⟨(m+1,ofB (CutB (Rel2 g o) sets g.sorts.names.length p (k+1) (m+1+1)) g.sorts.names.length),⟨by omega,hmk,rfl⟩,gw,gw,by omega⟩)
end
theorem Zu1 {n i j i' j':Nat} (hj:j < n) (hj':j' < n) (h:i * n+j=i' * n+j'):i=i'∧j=j':=by
 have h1:(i * n+j) / n=i:=by rw [Nat.mul_comm,Nat.mul_add_div om,Nat.div_eq_of_lt hj,Nat.add_zero]
 have h2:(i' * n+j') / n=i':=by rw [Nat.mul_comm,Nat.mul_add_div om,Nat.div_eq_of_lt hj',Nat.add_zero]
 rw [h] at h1
 have e:i=i':=by rw [<- h1,h2]
 subst e
 exact ⟨rfl,by omega⟩
theorem Ze4 {n i j:Nat} (hi:i < n) (hj:j < n):i * n+j < n * n:=by
 have:(i+1) * n<=n * n:=Nat.mul_le_mul_right n hi
 rw [Nat.succ_mul] at this
 omega
section
variable {g:Sgn}
def TabB (g:Sgn) (o:Opr) (sets:List Nat) (P:Nat->Nat->Prop) (T:List Nat):Prop:=T.length=sets.length * sets.length∧∀ i j,i<=j->j < sets.length->(P i j->T[i * sets.length+j]?=some (cvN g o sets i (j+1)))∧(¬ P i j->T[i * sets.length+j]?=some 0)
theorem TabB.start {o:Opr} {sets:List Nat} {P:Nat->Nat->Prop} (h:∀ i j,i<=j->¬ P i j):TabB g o sets P (List.replicate (sets.length * sets.length) 0):=⟨by simp,fun i j h1 h2=>⟨fun hp=>absurd hp (h i j h1),fun _=>by
 rw [Tbs,if_pos (Ze4 om h2)]⟩⟩
theorem TabB.next {o:Opr} {sets:List Nat} {P P':Nat->Nat->Prop} {T:List Nat} (h:TabB g o sets P T) {i j:Nat} (hij:i<=j) (hj:j < sets.length) (h1:∀ i' j',i'<=j'->j' < sets.length->(P' i' j' ↔ P i' j'∨(i'=i∧j'=j))):TabB g o sets P' (T.set (i * sets.length+j) (cvN g o sets i (j+1))):=by
 refine ⟨by rw [Tay,h.1],fun i' j' q1 q2=>?_⟩
 have hl:=Ze4 (n:=sets.length) (i:=i) (j:=j) om hj
 by_cases e:i'=i∧j'=j
 ·obtain ⟨rfl,rfl⟩:=e
  exact ⟨fun _=>Tbn (by rw [h.1];exact hl),fun hn=>absurd ((h1 _ _ q1 q2).2 (.inr ⟨rfl,rfl⟩)) hn⟩
 ·have hne:i * sets.length+j≠i' * sets.length+j':=fun q=>e (by have:=Zu1 hj q2 q;exact ⟨this.1.symm,this.2.symm⟩)
  rw [Tbo hne]
  have h2:=h.2 i' j' q1 q2
  exact ⟨fun hp=>h2.1 (((h1 _ _ q1 q2).1 hp).resolve_right e),fun hn=>h2.2 fun hp=>hn ((h1 _ _ q1 q2).2 (.inl hp))⟩
theorem TabB.mono {o:Opr} {sets:List Nat} {P P':Nat->Nat->Prop} {T:List Nat} (h:TabB g o sets P T) (h1:∀ i j,i<=j->j < sets.length->(P' i j ↔ P i j)):TabB g o sets P' T:=⟨h.1,fun i j q1 q2=>by
 have h2:=h.2 i j q1 q2
 rw [h1 i j q1 q2];exact h2⟩
theorem TabB.zero {o:Opr} {sets:List Nat} {P:Nat->Nat->Prop} {T:List Nat} (h:TabB g o sets P T) {i j:Nat} (hij:i<=j) (hj:j < sets.length) (hn:¬ P i j):T.set (i * sets.length+j) 0=T:=by
 have h1:=(h.2 i j hij hj).2 hn
 have hl:=Ze4 (n:=sets.length) (i:=i) (j:=j) om hj
 refine List.ext_getElem? fun q=>?_
 by_cases e:q=i * sets.length+j
 ·subst e
  rw [Tbn (by rw [h.1];exact hl),h1]
 ·rw [Tbo (Ne.symm e)]
def szP (size i0:Nat) (i j:Nat):Prop:=j+1 < i+size∨(j+1=i+size∧i < i0)
theorem wmul {i n:Nat} (hi:i<=10) (hn:n<=10):IntKind.i64.wrap ((i:Int) * (n:Int))=((i * n:Nat):Int):=by
 have:i * n<=10 * 10:=Nat.mul_le_mul hi hn
 exact ZaQ (by simp) om om
theorem wadd {i n:Nat} (hi:i<=1000) (hn:n<=1000):IntKind.i64.wrap ((i:Int)+(n:Int))=((i+n:Nat):Int):=ZaQ (by simp) om om
theorem Zsd (hg:SgnOk g) {op:Int} {o:Opr} (h0:0<=op) (ho:g.ops[op.toNat]?=some o) (ha:o.assoc=true) (sets:List Nat) (hn1:1<=sets.length) (hn7:sets.length<=7) (hs:∀ s∈sets,s < 2 ^ g.sorts.names.length):Con e0 208 [.agg (Zav g),.one (.lit (.int .i64 op)),.one (.sl (nR sets))] [.one (.lit (.int .i64 ((cvN g o sets 0 sets.length:Nat):Int)))]:=by
 have hN:=hg.sorts.n8
 have rl:=ZaF (l:=sets)
 have rr:=Zay (l:=sets)
 have hnn:sets.length * sets.length<=7 * 7:=Nat.mul_le_mul hn7 hn7
 have hmx:(((sets.length * sets.length:Nat):Int)<=(maxApp:Int))=True:=eq_true (by unfold maxApp;omega)
 have hdeg:=Opr.deg2 hg ho (.inl ha)
 have hcv:∀ i j,cvN g o sets i j < 2 ^ g.sorts.names.length:=fun i j=>ZbW _ _
 have hRlt:=fun a c b (h:Rel2 g o a c b)=>Rel2.lt hg (Tab ho) h
 have wnn:=wmul (i:=sets.length) (n:=sets.length) om om
 have cU:=Zfh hg.sorts.n8 hg.sorts.m16 (SortsOk.subsIn hg.sorts.subs)
 have hT0:=TabB.start (g:=g) (o:=o) (sets:=sets) (P:=szP 1 0) fun i j h q=>by unfold szP at q;omega
 rw [Za6] at cU
 rw [Zav]
 refine gI (ts:=[.slot 6]) 36028870066978767 Tryz.func208 ?_
 (have F:=ai @rl @tmz;have NN:Zag 2:=trivial;refine gGn ?_;clear F NN)
 refine gB ?_
 (have F:=@tmz;refine gC (cU) ?_;clear F)
 (have F:=@tmz;refine gR ?_;clear F)
 (have F:=ai @rl (ai @wnn (ai @hmx (ai @Tbz (ai @nR_0 @tmz))));refine gG ?_;clear F)
 generalize List.replicate (sets.length * sets.length) 0=T0 at hT0 ⊢
 (have F:=@tmz;refine gL (ι:=Nat × List Nat) [9,10,11,12,13,25,32,36,55] [9] (fun x=>[(10,A.d (.one (.lit (.int .i64 x.1)))),(9,.buf 9)]) (fun x=>[(9,.buf none 3 1 (nR x.2))]) (fun x=>1<=x.1∧x.1<=sets.length+1∧TabB g o sets (szP x.1 0) x.2) (fun x=>sets.length+1 - x.1) ((1,T0)) (⟨Tah _,by omega,hT0⟩) (fun x hx=>?_);clear F)
 clear hT0 T0
 obtain ⟨size,T⟩:=x
 obtain ⟨hz1,hz2,hT⟩:=hx
 simp only at hz1 hz2 hT
 dsimp only
 have nl:=ZaF (l:=T)
 rw [hT.1] at nl
 have nr:=Zay (l:=T)
 by_cases hzl:size<=sets.length
 rotate_left
 ·obtain rfl:size=sets.length+1:=by omega
  have q1:(((sets.length+1:Nat):Int)<=(sets.length:Int))=False:=eq_false om
  have hg1:=((hT.2 0 (sets.length - 1) om om).1 (.inl om))
  rw [show 0 * sets.length+(sets.length - 1)=sets.length - 1 by omega,show sets.length - 1+1=sets.length by omega] at hg1
  have hg2:=ZaH hg1
  have w1:IntKind.i64.wrap ((sets.length:Int) - 1)=((sets.length - 1:Nat):Int):=ZaQ om om om
  have hle:sets.length * 1<=sets.length * sets.length:=Nat.mul_le_mul_left _ hn1
  have i1:(sets.length - 1 < sets.length * sets.length)=True:=eq_true om
  (have F:=ai @q1 (ai @nl (ai @nr (ai @hg2 (ai @w1 (ai @i1 (ai @Zas @tmz))))));refine gG ?_;exact gTd)
 have q1:((size:Int)<=(sets.length:Int))=True:=eq_true om
 have hws:=Zap (k:=size) om
 clear nl nr
 (have F:=ai @q1 @tmz;refine gG ?_;clear F)
 (have F:=@tmz;refine gL (ι:=Nat × List Nat) [9,11,12,13,32,36,55] [9] (fun y=>[(11,A.d (.one (.lit (.int .i64 y.1)))),(9,.buf 9)]) (fun y=>[(9,.buf none 3 1 (nR y.2))]) (fun y=>y.1+size<=sets.length+1∧TabB g o sets (szP size y.1) y.2) (fun y=>sets.length+1 - y.1) ((0,T)) (⟨by omega,hT⟩) (fun y hy=>?_);clear F)
 clear hT T
 obtain ⟨i,T⟩:=y
 obtain ⟨hi,hT⟩:=hy
 simp only at hi hT
 dsimp only
 have nl:=ZaF (l:=T)
 rw [hT.1] at nl
 have nr:=Zay (l:=T)
 have wis:=wadd (i:=i) (n:=size) om om
 by_cases hil:i+size<=sets.length
 rotate_left
 ·have q2:(((i+size:Nat):Int)<=(sets.length:Int))=False:=eq_false om
  have hT2:TabB g o sets (szP (size+1) 0) T:=hT.mono fun i' j' h1 h2=>by
   unfold szP
   omega
  (have F:=ai @q2 (ai @wis (ai @hws @tmz));refine gG ?_;exact ⟨(size+1,T),⟨by omega,by omega,hT2⟩,gw,gw,by omega⟩)
 have q2:(((i+size:Nat):Int)<=(sets.length:Int))=True:=eq_true om
 have hwi:=Zap (k:=i) om
 have wii:=wmul (i:=i) (n:=sets.length) om om
 have hlt:=Ze4 (n:=sets.length) (i:=i) (j:=i+size - 1) om om
 by_cases hs1:size=1
 ·subst hs1
  have q3:(((1:Nat):Int)=1)=True:=eq_true rfl
  obtain ⟨s,hsi⟩:∃ s,sets[i]?=some s:=⟨_,Taa om⟩
  have r1:=ZaH hsi
  have e:cvN g o sets i (i+1)=s:=by unfold cvN;exact ZAp hsi (hs s (Tab hsi))
  have hT2:TabB g o sets (szP 1 (i+1)) (T.set (i * sets.length+i) (cvN g o sets i (i+1))):=hT.next (Tah _) om fun i' j' h1 h2=>by
   unfold szP
   omega
  rw [e] at hT2
  have wa:=wadd (i:=i * sets.length) (n:=i) om om
  have ns:=Zcf (l:=T) (i * sets.length+i) s
  obtain ⟨z,hz⟩:∃ z,T[i * sets.length+i]?=some z:=⟨_,Taa (by rw [hT.1];exact Ze4 om om)⟩
  have ng:=ZaH hz
  have i1:(i < sets.length)=True:=eq_true om
  have i2:(i * sets.length+i < sets.length * sets.length)=True:=eq_true (Ze4 om om)
  (have F:=ai @q2 (ai @wis (ai @q3 (ai @wii (ai @wa (ai @r1 (ai @rl (ai @rr (ai @nl (ai @nr (ai @ns (ai @ng (ai @i1 (ai @i2 (ai @hwi (ai @Zas @tmz)))))))))))))));refine gG ?_;exact ⟨(i+1,T.set (i * sets.length+i) s),⟨by omega,hT2⟩,gw,gw,by omega⟩)
 have q3:((size:Int)=1)=False:=eq_false om
 obtain ⟨j,hj⟩:∃ j,j+1=i+size:=⟨i+size - 1,by omega⟩
 have wj:IntKind.i64.wrap (((i+size:Nat):Int) - 1)=(j:Int):=ZaQ om om om
 have hij:i < j:=by omega
 have hjn:j < sets.length:=by omega
 have hij2:i<=j:=by omega
 have hlt:=Ze4 (n:=sets.length) (i:=i) (j:=j) om hjn
 have waj:=wadd (i:=i * sets.length) (n:=j) om om
 have hz0:=hT.zero hij2 hjn (by unfold szP;omega)
 have hzz:nR (T.set (i * sets.length+j) 0)=nR T:=by rw [hz0]
 have hnx:TabB g o sets (szP size (i+1)) (T.set (i * sets.length+j) (cvN g o sets i (j+1))):=hT.next hij2 hjn fun i' j' h1 h2=>by
  unfold szP
  omega
 (have F:=ai @q2 (ai @wis (ai @q3 (ai @wj @tmz)));have NN:Zag 13:=trivial;refine gGn ?_;clear F NN)
 (have F:=@tmz;refine gG ?_;clear F)
 (have F:=ai @hzz @tmz;refine gL (ι:=Nat × Nat) [9,13,55] [9] (fun z=>[(13,A.d (.one (.lit (.int .i64 z.1)))),(9,.buf 9)]) (fun z=>[(9,.buf none 3 1 (nR (T.set (i * sets.length+j) z.2)))]) (fun z=>i<=z.1∧z.1<=j∧z.2=ofB (CutB (Rel2 g o) sets g.sorts.names.length i (j+1) (z.1+1)) g.sorts.names.length) (fun z=>j - z.1) ((i,0)) (⟨Tah _,by omega,Zn1.symm⟩) (fun z hz=>?_);clear F)
 obtain ⟨k,v⟩:=z
 obtain ⟨hk1,hk2,hv⟩:=hz
 simp only at hk1 hk2 hv
 subst hv
 dsimp only
 by_cases hkj:k < j
 rotate_left
 ·obtain rfl:k=j:=by omega
  have q4:((k:Int) < (k:Int))=False:=eq_false om
  have e:ofB (CutB (Rel2 g o) sets g.sorts.names.length i (k+1) (k+1)) g.sorts.names.length=cvN g o sets i (k+1):=ZuO hs hRlt om
  rw [e]
  (have F:=ai @q4 (ai @hwi @tmz);refine gG ?_;exact ⟨(i+1,T.set (i * sets.length+k) (cvN g o sets i (k+1))),⟨by omega,hnx⟩,gw,gw,by omega⟩)
 have q4:((k:Int) < (j:Int))=True:=eq_true om
 have hwk:=Zap (k:=k) om
 have hTk:=(hT.2 i k hk1 om).1 (by unfold szP;omega)
 have hTj:=(hT.2 (k+1) j om hjn).1 (by unfold szP;omega)
 have hltk:=Ze4 (n:=sets.length) (i:=i) (j:=k) om om
 have hltj:=Ze4 (n:=sets.length) (i:=k+1) (j:=j) om hjn
 have wak:=wadd (i:=i * sets.length) (n:=k) om om
 have wm2:=wmul (i:=k+1) (n:=sets.length) om om
 have wa2:=wadd (i:=(k+1) * sets.length) (n:=j) om om
 have e:=fun b=>Zqs (R:=Rel2 g o) (sets:=sets) (N:=g.sorts.names.length) (i:=i) (j:=j+1) (k:=k+1) (b:=b) om om
 have e:ofB (CutB (Rel2 g o) sets g.sorts.names.length i (j+1) (k+1)) g.sorts.names.length ||| ofB (fun b=>Two (Rel2 g o) (cvN g o sets i (k+1)) (cvN g o sets (k+1) (j+1)) b) g.sorts.names.length=ofB (CutB (Rel2 g o) sets g.sorts.names.length i (j+1) (k+1+1)) g.sorts.names.length:=by
  rw [ZfP]
  exact ZaZ fun b _=>(e b).symm
 have cR:=Ziq hg (Tab ho) [cvN g o sets i (k+1),cvN g o sets (k+1) (j+1)] (fun d hd=>hdeg d hd) (by simp) (fun s hs=>by
  simp only [Tbg,List.not_mem_nil,or_false] at hs
  rcases hs with rfl | rfl <;> exact hcv _ _)
 rw [show ofB (Zdi g o [cvN g o sets i (k+1),cvN g o sets (k+1) (j+1)]) g.sorts.names.length=ofB (fun b=>Two (Rel2 g o) (cvN g o sets i (k+1)) (cvN g o sets (k+1) (j+1)) b) g.sorts.names.length from ZaZ fun b _=>ZeI hdeg] at cR
 have cR:=ZfR cR
 have hor:=Zc8 (Zbt (ZbW (CutB (Rel2 g o) sets g.sorts.names.length i (j+1) (k+1)) g.sorts.names.length) hN) (Zbt (ZbW (fun b=>Two (Rel2 g o) (cvN g o sets i (k+1)) (cvN g o sets (k+1) (j+1)) b) g.sorts.names.length) hN)
 rw [e] at hor
 clear e
 generalize ofB (fun b=>Two (Rel2 g o) (cvN g o sets i (k+1)) (cvN g o sets (k+1) (j+1)) b) g.sorts.names.length=tw at cR hor
 generalize ofB (CutB (Rel2 g o) sets g.sorts.names.length i (j+1) (k+1)) g.sorts.names.length=v at hor ⊢
 have nl2:=ZaF (l:=T.set (i * sets.length+j) v)
 rw [Tay,hT.1] at nl2
 have nr2:=Zay (l:=T.set (i * sets.length+j) v)
 have ne1:i * sets.length+j≠i * sets.length+k:=by omega
 have ne2:i * sets.length+j≠(k+1) * sets.length+j:=fun q=>by have:=Zu1 hjn hjn q;omega
 have g1:(nR (T.set (i * sets.length+j) v))[i * sets.length+j]?=some [.lit (.int .i64 v)]:=ZaH (Tbn (by rw [hT.1];exact hlt))
 have g2:(nR (T.set (i * sets.length+j) v))[i * sets.length+k]?=some [.lit (.int .i64 (cvN g o sets i (k+1)))]:=ZaH (by rw [Tbo ne1];exact hTk)
 have g3:(nR (T.set (i * sets.length+j) v))[(k+1) * sets.length+j]?=some [.lit (.int .i64 (cvN g o sets (k+1) (j+1)))]:=ZaH (by rw [Tbo ne2];exact hTj)
 have ns:=fun x=>Zcf (l:=T.set (i * sets.length+j) v) (i * sets.length+j) x
 simp only [List.set_set] at ns
 have i1:(i * sets.length+j < sets.length * sets.length)=True:=eq_true hlt
 have i2:(i * sets.length+k < sets.length * sets.length)=True:=eq_true hltk
 have i3:((k+1) * sets.length+j < sets.length * sets.length)=True:=eq_true hltj
 clear nl nr
 (have F:=ai @q4 @tmz;have NN:Zag 16:=trivial;refine gGn ?_;clear F NN)
 refine gB ?_
 (have F:=ai @wii (ai @waj (ai @wak (ai @hwk (ai @wm2 (ai @wa2 (ai @nl2 (ai @nr2 (ai @g1 (ai @g2 (ai @g3 (ai @i1 (ai @i2 (ai @i3 (ai @h0 (ai @ho (ai @Zaj (ai @Zas @tmz)))))))))))))))));refine gC (cR) ?_;clear F)
 (have F:=ai @nl2 (ai @nr2 (ai @g1 (ai @hor (ai @ns (ai @i1 (ai @Zas @tmz))))));refine gR ?_;clear F)
 (have F:=ai @hwk @tmz;refine gG ?_;exact ⟨(k+1,ofB (CutB (Rel2 g o) sets g.sorts.names.length i (j+1) (k+1+1)) g.sorts.names.length),⟨by omega,hkj,rfl⟩,gw,gw,by omega⟩)
end
theorem Kept.all1 {D:Prop} {B:Nat} {w w':World} (h:Kept D e1.E B w w') (h1:e1.G w) (h2:e1.G w'):Kept D (fun _=>False) B w w':=⟨h.os,h.tape,h.output,h.drawn,h.size,fun k hk _=>by
 by_cases e:k=2
 ·have k1:ZcA w:=h1
  have k2:ZcA w':=h2
  subst e
  unfold ZcA at k1 k2
  exact k2.trans k1.symm
 ·exact h.block k hk e⟩
mutual
theorem Zoh:∀ t:Tm,sizeTm t<=Zae (encTm t)+1
 | .mk _ _ _ args=>by
  have:=Zmo args
  simp only [sizeTm,encTm,Zae,Zbr]
  omega
theorem Zmo:∀ ts:List Tm,sizeTms ts<=(Zab ts).length+Zaf (Zab ts)
 | []=>by simp [sizeTms]
 | t::ts=>by
  have h1:=Zoh t
  have h2:=Zmo ts
  simp only [sizeTms,Zab,Taf,Zaf]
  omega
end
theorem ZhC {t:Tm} (h:Zae (encTm t)<=1048576):sizeTm t<=big:=by
 have:=Zoh t
 unfold big
 omega
theorem Zk8 (a b:List C):Zae (a++b)=Zae a+Zae b:=by
 induction a with
 | nil=>simp [Zae]
 | cons x xs ih=>simp only [Tae,Zae,ih];omega
theorem Con.weaken {e:Env} {f:FuncId} {args args' r:List D} (h:Con e f args' r) (ha:∀ (w:World) (S:Nat->Prop) (vs:List Value),ZaI w S args vs->ZaI w S args' vs):Con e f args r :=
 ⟨h.1,fun w S vs h1 h2 h3 h4=>h.2 w S vs h1 h2 h3 (ha w S vs h4)⟩
theorem ZHU {P:Nat->Prop} (h:∃ n,P n):∃ n,P n∧∀ m,m < n->¬ P m:=by
 obtain ⟨n,hn⟩:=h
 induction n using Nat.strongRecOn with
 | _ n ih =>
  by_cases hx:∃ m,m < n∧P m
  ·obtain ⟨m,hm,hp⟩:=hx;exact ih m hm hp
  ·exact ⟨n,hn,fun m hm hp=>hx ⟨m,hm,hp⟩⟩
theorem ZoJ {ts:List Tm} {f:FuncId} {caps:List C} {P:Tm->Bool} (hl:ts.length<=big) (h:∀ a∈ts,Con e0 f (.agg (encTm a)::caps.map .one) [.one (.lit (.bool (P a)))]) :
  ∃ r:Int,(0<=r ↔ ts.any P=true)∧Con e0 225 [.one (.sl (Zab ts)),.one (.fn f caps)] [.one (.lit (.int .i64 r))]:=by
 unfold big at hl
 by_cases hA:ts.any P=true
 ·obtain ⟨k,hk,hbef⟩:∃ k:Nat,(∃ a,ts[k]?=some a∧P a=true)∧∀ (j:Nat) a,j < k->ts[j]?=some a->P a=false:=by
   have hex:∃ k:Nat,∃ a,ts[k]?=some a∧P a=true:=by
    obtain ⟨a,ha,hp⟩:=List.any_eq_true.1 hA
    obtain ⟨k,hk⟩:=Tbk ha
    exact ⟨k,a,hk,hp⟩
   obtain ⟨k,hk,hmin⟩:=ZHU hex
   refine ⟨k,hk,fun j a hj ha=>?_⟩
   cases hp:P a with
   | false=>rfl
   | true=>exact absurd ⟨a,ha,hp⟩ (hmin j hj)
  obtain ⟨a0,ha0,hp0⟩:=hk
  have hkl:=(Tac.1 ha0).1
  refine ⟨(k:Int),⟨fun _=>hA,fun _=>by omega⟩,?_⟩
  refine gI 66483 Tryz.func225 ?_
  (have F:=@tmz;refine gG ?_;clear F)
  (have F:=@e0P;refine gL (ι:=Nat) [4,5,8,9,16] [] (fun i=>[(8,A.d (.one (.lit (.int .i64 i))))]) (fun i=>[]) (fun i=>i<=k) (fun i=>k+1 - i) (0) om (fun i hi=>?_);clear F)
  have hl':(i:Int) < (ts.length:Int):=by omega
  obtain ⟨a,ha⟩:∃ a,ts[i]?=some a:=⟨_,Taa om⟩
  have hw1:=Zap (k:=i) om
  (have F:=ai @tmz @hl';refine gG ?_;clear F)
  refine gB ?_
  (have F:=ai @tmz @ha;refine gC (h a (Tab ha)) ?_;clear F)
  by_cases hik:i=k
  ·subst hik
   rw [ha] at ha0
   injection ha0 with ha0
   subst ha0
   (have F:=ai @tmz @hp0;refine gR ?_;clear F)
   (have F:=@tmz;refine gG ?_;exact gT)
  ·have hpf:=hbef i a om ha
   (have F:=ai @tmz @hpf;refine gR ?_;clear F)
   (have F:=ai @hw1 @tmz;refine gG ?_;exact ⟨i+1,by omega,gw,gw,by omega⟩)
 ·have hbef:∀ (j:Nat) a,ts[j]?=some a->P a=false:=fun j a ha=>by
   cases hp:P a with
   | false=>rfl
   | true=>exact absurd (List.any_eq_true.2 ⟨a,Tab ha,hp⟩) hA
  refine ⟨-1,⟨fun h=>by omega,fun h=>absurd h hA⟩,?_⟩
  refine gI 66483 Tryz.func225 ?_
  (have F:=@tmz;refine gG ?_;clear F)
  (have F:=@e0P;refine gL (ι:=Nat) [4,5,8,9,16] [] (fun i=>[(8,A.d (.one (.lit (.int .i64 i))))]) (fun i=>[]) (fun i=>i<=ts.length) (fun i=>ts.length - i) (0) om (fun i hi=>?_);clear F)
  by_cases hi':i < ts.length
  rotate_left
  ·have hl':¬ ((i:Int) < (ts.length:Int)):=by omega
   (have F:=ai @tmz @hl';refine gG ?_;exact gT)
  have hl':(i:Int) < (ts.length:Int):=by omega
  obtain ⟨a,ha⟩:∃ a,ts[i]?=some a:=⟨_,Taa om⟩
  have hw1:=Zap (k:=i) om
  have hpf:=hbef i a ha
  (have F:=ai @tmz @hl';refine gG ?_;clear F)
  refine gB ?_
  (have F:=ai @tmz @ha;refine gC (h a (Tab ha)) ?_;clear F)
  (have F:=ai @tmz @hpf;refine gR ?_;clear F)
  (have F:=ai @hw1 @tmz;refine gG ?_;exact ⟨i+1,by omega,gw,gw,by omega⟩)
theorem Zk9 {ts:List Tm} {f:FuncId} {caps:List C} {P:Tm->Bool} (hl:ts.length<=big) (h:∀ a∈ts,Con e0 f (.agg (encTm a)::caps.map .one) [.one (.lit (.bool (P a)))]) :
  Con e0 228 [.one (.sl (Zab ts)),.one (.fn f caps)] [.one (.lit (.bool (ts.any P)))]:=by
 obtain ⟨r,hr,c⟩:=ZoJ hl h
 refine gI 19 Tryz.func228 ?_
 (have F:=@tmz;refine gG ?_;clear F)
 refine gB ?_
 (have F:=@tmz;refine gC (c) ?_;clear F)
 have e:decide (0<=r)=ts.any P:=by
  rw [Bool.eq_iff_iff,decide_eq_true_iff];exact hr
 (have F:=@tmz;refine gR ?_;clear F)
 (have F:=@e;refine gG ?_;exact gT)
theorem ZdW {r:List C} (h:Zal (Zad .cond) r):∃ (i0:Int) (t1:ByteArray) (i2:Int) (r3:List (List C)) (i4:Int) (t5:ByteArray) (i6:Int) (r7:List (List C)),r=[.lit (.int .i64 i0),.lit (.string t1),.lit (.int .i64 i2),.sl r3,.lit (.int .i64 i4),.lit (.string t5),.lit (.int .i64 i6),.sl r7]∧I64 i0∧t1.size<=maxLen∧I64 i2∧Zao (Zad .term) r3∧I64 i4∧t5.size<=maxLen∧I64 i6∧Zao (Zad .term) r7:=by
 obtain ⟨c0,c1,c2,c3,c4,c5,c6,c7,rfl⟩:=len8 h.len
 simp only [Zad,Za2,occF,Zbc,sigF,ZaW,algF,Tae,Tag,Zal,and_true] at h
 obtain ⟨h0,h1,h2,h3,h4,h5,h6,h7⟩:=h
 obtain ⟨i0,rfl,g0⟩:=Zcp h0
 obtain ⟨t1,rfl,g1⟩:=Ze9 h1
 obtain ⟨i2,rfl,g2⟩:=Zcp h2
 obtain ⟨r3,rfl,g3⟩:=Zcm h3
 obtain ⟨i4,rfl,g4⟩:=Zcp h4
 obtain ⟨t5,rfl,g5⟩:=Ze9 h5
 obtain ⟨i6,rfl,g6⟩:=Zcp h6
 obtain ⟨r7,rfl,g7⟩:=Zcm h7
 exact ⟨i0,t1,i2,r3,i4,t5,i6,r7,rfl,g0,g1,g2,g3,g4,g5,g6,g7⟩
theorem Zds {w:World} {S:Nat->Prop} {i0:Int} {t1:ByteArray} {i2:Int} {r3:List (List C)} {i4:Int} {t5:ByteArray} {i6:Int} {r7:List (List C)} {us:List Value} (h:Zaa w S [.lit (.int .i64 i0),.lit (.string t1),.lit (.int .i64 i2),.sl r3,.lit (.int .i64 i4),.lit (.string t5),.lit (.int .i64 i6),.sl r7] us):∃ v3 v7,us=[.int .i64 i0,.string t1,.int .i64 i2,v3,.int .i64 i4,.string t5,.int .i64 i6,v7]∧Rep w S (.sl r3) v3∧Rep w S (.sl r7) v7:=by
 obtain ⟨u0,u1,u2,u3,u4,u5,u6,u7,rfl⟩:=len8 h.len
 simp only [Zaa,Rep.lit_iff,and_true] at h
 obtain ⟨rfl,rfl,rfl,e3,rfl,rfl,rfl,e7⟩:=h
 exact ⟨u3,u7,rfl,e3,e7⟩
def ZgV (row:List C):Prop:=∀ (S:Nat->Prop) (us:List Value) (left:Int) (w:World),Zal (Zad .cond) row->Zaa w S row us->0<=left->left<=1048576 ->
 Calls Tryz.prog 241 #[.agg us.toArray,.int .i64 left] w fun e w'=>e=.returned (.int .i64 (sub left (Zae row)))∧Below w.heap.size w w'
def ZgW (row:List C):Prop:=∀ (S S':Nat->Prop) (us us':List Value) (w:World),Zal (Zad .cond) row->Zaa w S row us->Zaa w S' row us' ->
 Calls Tryz.prog 245 #[.agg us.toArray,.agg us'.toArray] w fun e w'=>e=.returned (.bool true)∧Below w.heap.size w w'
def ZgX (row:List C):Prop:=∀ (S:Nat->Prop) (us:List Value) (w:World),Zal (Zad .cond) row->Zaa w S row us->Zae row<=1048576 ->
 Calls Tryz.prog 243 #[.agg us.toArray] w fun e w'=>∃ us':List Value,e=.returned (.agg us'.toArray)∧Zai w' row (fun x=>w.heap.size<=x∧x < w'.heap.size) us'∧Below w.heap.size w w'
def ZiJ (rows:List (List C)):Prop:=∀ (S:Nat->Prop) (v:Value) (left:Int) (w:World),Zao (Zad .cond) rows->Rep w S (.sl rows) v->0<=left->left<=1048576 ->
 Calls Tryz.prog 202 #[v,.int .i64 left] w fun e w'=>e=.returned (.int .i64 (sub left (rows.length+Zaf rows)))∧Below w.heap.size w w'
def ZiK (rows:List (List C)):Prop:=∀ (S S':Nat->Prop) (v v':Value) (w:World),Zao (Zad .cond) rows->Rep w S (.sl rows) v->Rep w S' (.sl rows) v' ->
 Calls Tryz.prog 215 #[v,v'] w fun e w'=>e=.returned (.bool true)∧Below w.heap.size w w'
def ZiL (rows:List (List C)):Prop:=∀ (S:Nat->Prop) (v:Value) (w:World),Zao (Zad .cond) rows->Rep w S (.sl rows) v->rows.length+Zaf rows<=1048576 ->
 Calls Tryz.prog 212 #[v] w fun e w'=>∃ v',e=.returned v'∧Own w' (.sl rows) (fun x=>w.heap.size<=x∧x < w'.heap.size) v'∧Below w.heap.size w w'
theorem Znb (row:List C):ZgV row:=by
 intro S us left w hok hv h0 h1
 obtain ⟨i0,t1,i2,r3,i4,t5,i6,r7,rfl,g0,g1,g2,g3,g4,g5,g6,g7⟩:=ZdW hok
 obtain ⟨v3,v7,rfl,e3,e7⟩:=Zds hv
 have HC0:=Lib.hid (Zf5 [.lit (.int .i64 i0),.lit (.string t1),.lit (.int .i64 i2),.sl r3])
 have HC4:=Lib.hid (Zf5 [.lit (.int .i64 i4),.lit (.string t5),.lit (.int .i64 i6),.sl r7])
 have HB:=Lib.hid (show Zae [.lit (.int .i64 i0),.lit (.string t1),.lit (.int .i64 i2),.sl r3,.lit (.int .i64 i4),.lit (.string t5),.lit (.int .i64 i6),.sl r7]=(Zae [.lit (.int .i64 i0),.lit (.string t1),.lit (.int .i64 i2),.sl r3])+(Zae [.lit (.int .i64 i4),.lit (.string t5),.lit (.int .i64 i6),.sl r7]) from by simp only [Zae,Zbr];omega)
 have G0:=Lib.hid g0
 have G1:=Lib.hid g1
 have G2:=Lib.hid g2
 have G3:=Lib.hid g3
 have G4:=Lib.hid g4
 have G5:=Lib.hid g5
 have G6:=Lib.hid g6
 have G7:=Lib.hid g7
 clear g0 g1 g2 g3 g4 g5 g6 g7 hok
 have E3:=Lib.hid e3
 have E7:=Lib.hid e7
 clear hv e3 e7
 generalize hrow:Zae [.lit (.int .i64 i0),.lit (.string t1),.lit (.int .i64 i2),.sl r3,.lit (.int .i64 i4),.lit (.string t5),.lit (.int .i64 i6),.sl r7]=total at HB ⊢
 clear hrow
 have hbw:=(Below.refl w.heap.size w).alloc (Tah _) (.cells #[.int .i64 i0,.string t1,.int .i64 i2,v3,.int .i64 i4,.string t5,.int .i64 i6,v7] 259)
 go_enter Tryz.func241,Tryz.ntmps241
 go_wp2_with fail
 by_cases q0:left < ((Zae [.lit (.int .i64 i0),.lit (.string t1),.lit (.int .i64 i2),.sl r3]):Nat)
 ·refine (HC0.out S _ _ _ (ZbD G0.out G1.out G2.out G3.out) (Zba (E3.out.below hbw)) om om).mono ?_
  rw [Zax om]
  rintro e w1 ⟨rfl,hb1⟩
  go_wp2
  go_ret
  exact ⟨Zaw (a:=-1) (Zax (by have:=HB.out;omega)).symm,hbw.trans (hb1.mono hbw.size)⟩
 refine (HC0.out S _ _ _ (ZbD G0.out G1.out G2.out G3.out) (Zba (E3.out.below hbw)) om om).mono ?_
 rw [Za0 om]
 rintro e w1 ⟨rfl,hb1⟩
 obtain ⟨hc1,hf1⟩:=Za8 hb1
 have hz1:w.heap.size < w1.heap.size:=(by have:=hb1.size;(try simp at this);omega)
 replace hbw:=hbw.trans (hb1.mono hbw.size)
 go_wp2_with fail
 by_cases q4:(left - (((Zae [.lit (.int .i64 i0),.lit (.string t1),.lit (.int .i64 i2),.sl r3]):Nat):Int)) < ((Zae [.lit (.int .i64 i4),.lit (.string t5),.lit (.int .i64 i6),.sl r7]):Nat)
 ·refine (HC4.out S _ _ _ (ZbD G4.out G5.out G6.out G7.out) (Zba (E7.out.below hbw)) om om).mono ?_
  rw [Zax om]
  rintro e w2 ⟨rfl,hb2⟩
  go_wp2
  go_ret
  exact ⟨Zaw (a:=-1) (Zax (by have:=HB.out;omega)).symm,hbw.trans (hb2.mono hbw.size)⟩
 refine (HC4.out S _ _ _ (ZbD G4.out G5.out G6.out G7.out) (Zba (E7.out.below hbw)) om om).mono ?_
 rw [Za0 om]
 rintro e w2 ⟨rfl,hb2⟩
 obtain ⟨hc2,hf2⟩:=Za8 hb2
 have hz2:w.heap.size < w2.heap.size:=(by have:=hb2.size;(try simp at this);omega)
 replace hbw:=hbw.trans (hb2.mono hbw.size)
 go_wp2
 go_ret
 exact ⟨Zaw (by have:=HB.out;rw [Za0 om];omega),hbw⟩
theorem Znc (row:List C):ZgW row:=by
 intro S S' us us' w hok hv hv'
 obtain ⟨i0,t1,i2,r3,i4,t5,i6,r7,rfl,g0,g1,g2,g3,g4,g5,g6,g7⟩:=ZdW hok
 obtain ⟨v3,v7,rfl,e3,e7⟩:=Zds hv
 obtain ⟨x3,x7,rfl,d3,d7⟩:=Zds hv'
 have HC0:=Lib.hid (Zf6 [.lit (.int .i64 i0),.lit (.string t1),.lit (.int .i64 i2),.sl r3])
 have HC4:=Lib.hid (Zf6 [.lit (.int .i64 i4),.lit (.string t5),.lit (.int .i64 i6),.sl r7])
 have G0:=Lib.hid g0
 have G1:=Lib.hid g1
 have G2:=Lib.hid g2
 have G3:=Lib.hid g3
 have G4:=Lib.hid g4
 have G5:=Lib.hid g5
 have G6:=Lib.hid g6
 have G7:=Lib.hid g7
 clear g0 g1 g2 g3 g4 g5 g6 g7 hok
 have E3:=Lib.hid e3
 have D3:=Lib.hid d3
 have E7:=Lib.hid e7
 have D7:=Lib.hid d7
 clear hv hv' e3 d3 e7 d7
 have hbw:=((Below.refl w.heap.size w).alloc (Tah _) (.cells #[.int .i64 i0,.string t1,.int .i64 i2,v3,.int .i64 i4,.string t5,.int .i64 i6,v7] 229)).alloc (by simp) (.cells #[.int .i64 i0,.string t1,.int .i64 i2,x3,.int .i64 i4,.string t5,.int .i64 i6,x7] 229)
 go_enter Tryz.func245,Tryz.ntmps245
 go_wp2_with fail
 refine (HC0.out S S' _ _ _ (ZbD G0.out G1.out G2.out G3.out) (Zba (E3.out.below hbw)) (Zba (D3.out.below hbw))).mono ?_
 rintro e w1 ⟨rfl,hb1⟩
 obtain ⟨hc1,hf1⟩:=Za8 hb1
 have hz1:w.heap.size+1 < w1.heap.size:=(by have:=hb1.size;(try simp at this);omega)
 have ha1:w.heap.size < w1.heap.size:=by omega
 replace hbw:=hbw.trans (hb1.mono hbw.size)
 go_wp2_with fail
 refine (HC4.out S S' _ _ _ (ZbD G4.out G5.out G6.out G7.out) (Zba (E7.out.below hbw)) (Zba (D7.out.below hbw))).mono ?_
 rintro e w2 ⟨rfl,hb2⟩
 obtain ⟨hc2,hf2⟩:=Za8 hb2
 have hz2:w.heap.size+1 < w2.heap.size:=(by have:=hb2.size;(try simp at this);omega)
 have ha2:w.heap.size < w2.heap.size:=by omega
 replace hbw:=hbw.trans (hb2.mono hbw.size)
 go_wp2
 go_ret
 exact ⟨rfl,hbw⟩
theorem Znd (row:List C):ZgX row:=by
 intro S us w hok hv hlen
 obtain ⟨i0,t1,i2,r3,i4,t5,i6,r7,rfl,g0,g1,g2,g3,g4,g5,g6,g7⟩:=ZdW hok
 obtain ⟨v3,v7,rfl,e3,e7⟩:=Zds hv
 have HC0:=Lib.hid (Zf7 [.lit (.int .i64 i0),.lit (.string t1),.lit (.int .i64 i2),.sl r3])
 have HC4:=Lib.hid (Zf7 [.lit (.int .i64 i4),.lit (.string t5),.lit (.int .i64 i6),.sl r7])
 have G0:=Lib.hid g0
 have G1:=Lib.hid g1
 have G2:=Lib.hid g2
 have G3:=Lib.hid g3
 have G4:=Lib.hid g4
 have G5:=Lib.hid g5
 have G6:=Lib.hid g6
 have G7:=Lib.hid g7
 clear g0 g1 g2 g3 g4 g5 g6 g7 hok
 have E3:=Lib.hid e3
 have E7:=Lib.hid e7
 clear hv e3 e7
 have hl0:(Zae [.lit (.int .i64 i0),.lit (.string t1),.lit (.int .i64 i2),.sl r3])<=1048576:=by
  have e:(Zae [.lit (.int .i64 i0),.lit (.string t1),.lit (.int .i64 i2),.sl r3])<=Zae [.lit (.int .i64 i0),.lit (.string t1),.lit (.int .i64 i2),.sl r3,.lit (.int .i64 i4),.lit (.string t5),.lit (.int .i64 i6),.sl r7]:=by simp only [Zae,Zbr];omega
  exact Tbe e hlen
 have hl4:(Zae [.lit (.int .i64 i4),.lit (.string t5),.lit (.int .i64 i6),.sl r7])<=1048576:=by
  have e:(Zae [.lit (.int .i64 i4),.lit (.string t5),.lit (.int .i64 i6),.sl r7])<=Zae [.lit (.int .i64 i0),.lit (.string t1),.lit (.int .i64 i2),.sl r3,.lit (.int .i64 i4),.lit (.string t5),.lit (.int .i64 i6),.sl r7]:=by simp only [Zae,Zbr];omega
  exact Tbe e hlen
 clear hlen
 go_enter Tryz.func243,Tryz.ntmps243
 go_wp2_with fail
 refine (HC0.out S _ _ (ZbD G0.out G1.out G2.out G3.out) (by exact Zba (E3.out.below (by repeat (first | refine Below.alloc ?_ (by simp;try omega) _ | exact Below.refl _ _)))) hl0).mono ?_
 rintro e w1 ⟨ys0,rfl,hown0,hb1⟩
 obtain ⟨y3,rfl,f3⟩:=ZbR (Zai.rep _ _ (fun _=>True) _ (fun _ _=>trivial) hown0)
 obtain ⟨A3,n3,cap3,rfl,_,_,_⟩:=f3.form
 clear f3
 have hz1:=hb1.size
 simp at hz1 hown0
 have HOWN0:=Lib.hid hown0
 clear hown0
 have hbw1:Below w.heap.size w w1:=Below.trans (by repeat (first | refine Below.alloc ?_ (by simp;try omega) _ | exact Below.refl _ _)) (hb1.mono (by simp;try omega))
 obtain ⟨hc1,hf1⟩:=Za8 hb1
 have ha1:w.heap.size < w1.heap.size:=by omega
 have hbb1:w.heap.size+1 < w1.heap.size:=by omega
 have hcc1:w.heap.size+1+1 < w1.heap.size:=by omega
 go_wp2_with fail
 refine (HC4.out S _ _ (ZbD G4.out G5.out G6.out G7.out) (by exact Zba (E7.out.below (by repeat (first | refine Below.setCell ?_ (by simp;try omega) _ | exact hbw1)))) hl4).mono ?_
 rintro e w2 ⟨ys4,rfl,hown4,hb2⟩
 obtain ⟨y7,rfl,f7⟩:=ZbR (Zai.rep _ _ (fun _=>True) _ (fun _ _=>trivial) hown4)
 obtain ⟨A7,n7,cap7,rfl,_,_,_⟩:=f7.form
 clear f7
 have hz2:=hb2.size
 simp at hz2 hown4
 have HOWN4:=Lib.hid hown4
 clear hown4
 have hbw2:Below w.heap.size w w2:=Below.trans (by repeat (first | refine Below.setCell ?_ (by simp;try omega) _ | exact hbw1)) (hb2.mono (by simp;try omega))
 obtain ⟨hc2,hf2⟩:=Za8 hb2
 have ha2:w.heap.size < w2.heap.size:=by omega
 have hbb2:w.heap.size+1 < w2.heap.size:=by omega
 have hcc2:w.heap.size+1+1 < w2.heap.size:=by omega
 go_wp2
 refine bodyPost_ret (v:=.agg #[.int .i64 i0,.string t1,.int .i64 i2,.slice A3 n3 cap3,.int .i64 i4,.string t5,.int .i64 i6,.slice A7 n7 cap7]) (by simp [results,Tryz.results243,go_sem,hc1,ha1,hbb1,hcc1,hc2,ha2,hbb2,hcc2]) rfl ⟨[.int .i64 i0,.string t1,.int .i64 i2,.slice A3 n3 cap3,.int .i64 i4,.string t5,.int .i64 i6,.slice A7 n7 cap7],rfl,?_,(by repeat (first | refine Below.setCell ?_ (by simp;try omega) _ | exact hbw2))⟩
 simp
 exact (Zai.append (cs:=[.lit (.int .i64 i0),.lit (.string t1),.lit (.int .i64 i2),.sl r3]) (ds:=[.lit (.int .i64 i4),.lit (.string t5),.lit (.int .i64 i6),.sl r7]) (us:=[.int .i64 i0,.string t1,.int .i64 i2,.slice A3 n3 cap3]) (vs:=[.int .i64 i4,.string t5,.int .i64 i6,.slice A7 n7 cap7]) (fun x=>w.heap.size+1+1+1<=x∧x < w1.heap.size) (fun x=>w1.heap.size<=x∧x < w2.heap.size) (HOWN0.out.same (by repeat (first | refine Same.trans ?_ (Same.setCell _ _ _ _ (by simp;try omega)) | refine Same.trans ?_ ((Same.below hb2).mono (fun x hx=>by simp at hx ⊢;omega)) | exact Same.refl _ _))) (Zai.append (cs:=[.lit (.int .i64 i4),.lit (.string t5),.lit (.int .i64 i6),.sl r7]) (ds:=[]) (us:=[.int .i64 i4,.string t5,.int .i64 i6,.slice A7 n7 cap7]) (vs:=[]) (fun x=>w1.heap.size<=x∧x < w2.heap.size) (fun x=>w2.heap.size<=x∧x < w2.heap.size) (HOWN4.out.same (by repeat (first | refine Same.trans ?_ (Same.setCell _ _ _ _ (by simp;try omega)) | exact Same.refl _ _))) Zai.nil (fun x hx=>⟨by omega,by omega⟩) (fun x hx=>⟨by omega,by omega⟩) (fun x hx hy=>by omega)) (fun x hx=>⟨by omega,by omega⟩) (fun x hx=>⟨by omega,by omega⟩) (fun x hx hy=>by omega))
theorem Zmq (row:List C):ZgV row:=Znb row
theorem Zmr (row:List C):ZgW row:=Znc row
theorem Zms (row:List C):ZgX row:=Znd row
theorem Zmt (rows:List (List C)) (h:∀ (i:Nat) r,rows[i]?=some r->ZgV r):ZiJ rows:=by
 intro S v left w hok hv h0 h1
 obtain ⟨A,m,cap,rfl,hm,hmc,hcm⟩:=hv.form
 have H:=Lib.hid h
 have HV:=Lib.hid hv
 have HM:=Lib.hid hm
 have HOK:=Lib.hid hok
 clear h hv hm hok
 unfold maxLen at hcm
 by_cases hlt:left - m < 0
 ·rw [Zax (by have:=HM.out;omega)]
  go_enter Tryz.func202,Tryz.ntmps202
  go_wp2
  go_ret
  exact ⟨rfl,Below.refl _ _⟩
 ·go_enter Tryz.func202,Tryz.ntmps202
  go_wp2
  go_loopw [1,5] (fun l i wr=>∃ k:Nat,k<=m∧i=.int .i64 k∧l=.int .i64 (left - m - (Zaf (rows.take k):Int))∧0<=left - m - (Zaf (rows.take k):Int)∧Below w.heap.size w wr) (fun _ i _=>m - (intOf i).toNat)
  case atStart=>exact ⟨0,Tai _,rfl,by simp [Zaf],by simp [Zaf];omega,Below.refl _ _⟩
  case round =>
   obtain ⟨k,hk,rfl,rfl,hl0,hb⟩:=hrel
   by_cases hkm:k < m
   ·obtain ⟨b,off,r,rfl,hS,hbz,hget,hokr,hrow⟩:=(HV.out.below hb).get HOK.out hkm
    obtain ⟨u0,u1,u2,u3,u4,u5,u6,u7,c0,c1,c2,c3,c4,c5,c6,c7,hvals⟩:=hrow.vals8 hokr.len
    have HT:=H.out k r hget
    have HVALS:=Lib.hid hvals
    have HOKR:=Lib.hid hokr
    have HBT:=Lib.hid (ZdX hget)
    have hle:=ZcX rows (k+1)
    clear hvals hokr hrow hget
    simp only [Zad,Za2,occF,Zbc,sigF,ZaW,algF,Tae,Tag,Taf,Taj,Nat.reduceAdd,Nat.mul_one] at c0 c1 c2 c3 c4 c5 c6 c7
    by_cases h2:left - m - (Zaf (rows.take k):Int) < Zae r
    ·go_wp2_with fail
     refine (HT S _ _ _ HOKR.out HVALS.out om om).mono ?_
     rw [Zax h2]
     rintro e w' ⟨rfl,hb2⟩
     go_wp2
     go_ret
     exact ⟨Zaw (a:=-1) (Zax (by have:=HBT.out;have:=HM.out;omega)).symm,hb.trans (hb2.mono hb.size)⟩
    ·go_wp2_with fail
     refine (HT S _ _ _ HOKR.out HVALS.out om om).mono ?_
     rw [Za0 om]
     rintro e w' ⟨rfl,hb2⟩
     go_wp2
     go_roundw
     case rel=>exact ⟨k+1,by omega,by go_num,by have:=HBT.out;congr 1;omega,by have:=HBT.out;omega,hb.trans (hb2.mono hb.size)⟩
     case measure=>simp [intOf];omega
   ·go_wp2
    go_ret
    have e:k=m:=by omega
    subst e
    have:rows.take k=rows:=List.take_of_length_le (by have:=HM.out;omega)
    rw [this] at hl0 ⊢
    exact ⟨Zaw (by have:=HM.out;rw [Za0 om];omega),hb⟩
theorem Zmu (rows:List (List C)) (h:∀ (i:Nat) r,rows[i]?=some r->ZgW r):ZiK rows:=by
 intro S S' v v' w hok hv hv'
 obtain ⟨A,m,cap,rfl,hm,hmc,hcm⟩:=hv.form
 obtain ⟨A',m',cap',rfl,hm',hmc',hcm'⟩:=hv'.form
 obtain rfl:m=m':=by omega
 have H:=Lib.hid h
 have HV:=Lib.hid hv
 have HV':=Lib.hid hv'
 have HM:=Lib.hid hm
 have HOK:=Lib.hid hok
 clear h hv hm hok hm' hv'
 unfold maxLen at hcm hcm'
 go_enter Tryz.func215,Tryz.ntmps215
 go_wp2
 go_loopw [5] (fun i wr=>∃ k:Nat,k<=m∧i=.int .i64 k∧Below w.heap.size w wr) (fun i _=>m - (intOf i).toNat)
 case atStart=>exact ⟨0,Tai _,rfl,Below.refl _ _⟩
 case round =>
  obtain ⟨k,hk,rfl,hb⟩:=hrel
  by_cases hkm:k < m
  ·obtain ⟨b,off,r,rfl,hS,hbz,hget,hokr,hrow⟩:=(HV.out.below hb).get HOK.out hkm
   obtain ⟨b',off',r',rfl,hS',hbz',hget',hokr',hrow'⟩:=(HV'.out.below hb).get HOK.out hkm
   obtain rfl:r=r':=by rw [hget] at hget';exact Option.some.inj hget'
   obtain ⟨u0,u1,u2,u3,u4,u5,u6,u7,c0,c1,c2,c3,c4,c5,c6,c7,hvals⟩:=hrow.vals8 hokr.len
   obtain ⟨x0,x1,x2,x3,x4,x5,x6,x7,d0,d1,d2,d3,d4,d5,d6,d7,hvals'⟩:=hrow'.vals8 hokr.len
   have HT:=H.out k r hget
   have HVALS:=Lib.hid hvals
   have HVALS':=Lib.hid hvals'
   have HOKR:=Lib.hid hokr
   clear hvals hvals' hokr hokr' hrow hrow' hget hget'
   simp only [Zad,Za2,occF,Zbc,sigF,ZaW,algF,Tae,Tag,Taf,Taj,Nat.reduceAdd,Nat.mul_one] at c0 c1 c2 c3 c4 c5 c6 c7 d0 d1 d2 d3 d4 d5 d6 d7
   have k0:(0:Int)<=(k:Int):=by omega
   have k1:(k:Int) < (m:Int):=by omega
   go_wp2_with fail
   go_region_held3 (fun w'=>∀ b o,b < wr.heap.size->w'.cell? ⟨b,o,none⟩=wr.cell? ⟨b,o,none⟩) (first | go_keep | exact fun b o h=>hb2.cell (p:=⟨b,o,none⟩) h) (first | (go_at_call 245;refine (HT S S' _ _ _ HOKR.out (HVALS.out.below (Below.refl _ _).drew) (HVALS'.out.below (Below.refl _ _).drew)).mono ?_;rintro e w' ⟨rfl,hb2⟩))
   go_wp2
   go_roundw
   case rel=>exact ⟨k+1,by omega,by go_num,hb.trans ((Below.refl _ _).drew.trans (hb2.mono hb.size))⟩
   case measure=>simp [intOf];omega
  ·go_wp2
   go_ret
   exact ⟨rfl,hb⟩
theorem Zne:(Tryz.prog.info? 229).map (fun i=>(i.zero,i.size,i.bytes))=some (some (.agg #[.int .i64 0,.string .empty,.int .i64 0,.slice none 0 0,.int .i64 0,.string .empty,.int .i64 0,.slice none 0 0]),8,112):=by kernel_rfl
theorem Zmv (rows:List (List C)) (h:∀ (i:Nat) r,rows[i]?=some r->ZgX r):ZiL rows:=by
 intro S v w hok hv hlen
 obtain ⟨A,m,cap,rfl,hm,hmc,hcm⟩:=hv.form
 obtain ⟨i0,hi,hz0,hz1,hz2⟩:=info_parts Zne
 have H:=Lib.hid h
 have HV:=Lib.hid hv
 have HM:=Lib.hid hm
 have HOK:=Lib.hid hok
 have hml:m<=1048576:=by omega
 clear h hv hm hok
 unfold maxLen at hcm
 have hmk:=run_make (P:=Tryz.prog) w 122 229 i0 _ Tryz.underlying122 hi hz0 .i64 .i64 (m:Int) (m:Int) om om (by rw [hz2];omega) om
 go_enter Tryz.func212,Tryz.ntmps212
 go_wp2
 clear hmk
 go_loopw [4] (fun i wr=>∃ k:Nat,k<=m∧i=.int .i64 k∧ZbA w w.heap.size 229 m 8 rows k wr) (fun i _=>m - (intOf i).toNat)
 case atStart=>exact ⟨0,Tai _,rfl,ZbA.start (size_madeCells _ _)⟩
 case round =>
  obtain ⟨k,hk,rfl,hfill⟩:=hrel
  have hb:=hfill.1
  by_cases hkm:k < m
  ·obtain ⟨b,off,r,rfl,hS,hbz,hget,hokr,hrow⟩:=(HV.out.below hb).get HOK.out hkm
   obtain ⟨u0,u1,u2,u3,u4,u5,u6,u7,c0,c1,c2,c3,c4,c5,c6,c7,hvals⟩:=hrow.vals8 hokr.len
   have HT:=H.out k r hget
   have HVALS:=Lib.hid hvals
   have HOKR:=Lib.hid hokr
   have HGET:=Lib.hid hget
   have HF:=Lib.hid hfill
   have hbg:=Zco hget
   clear hvals hokr hrow hget hfill
   simp only [Zad,Za2,occF,Zbc,sigF,ZaW,algF,Tae,Tag,Taf,Taj,Nat.reduceAdd,Nat.mul_one] at c0 c1 c2 c3 c4 c5 c6 c7
   go_wp2_with fail
   refine (HT S _ _ HOKR.out HVALS.out om).mono ?_
   rintro e w2 ⟨us,rfl,hown,hb2⟩
   have hone:=HOKR.out.one (Zai.rep _ _ (fun _=>True) _ (fun _ _=>trivial) hown)
   obtain ⟨y0,y1,y2,y3,y4,y5,y6,y7,rfl⟩:=len8 (hown.len.trans HOKR.out.len)
   have HOWN:=Lib.hid hown
   have HONE:=Lib.hid hone
   obtain ⟨cur,hcur,hcs⟩:=HF.out.row hb2
   have HCUR:=Lib.hid hcur
   have HCS:=Lib.hid hcs
   clear hown hone hcur hcs
   go_wp2_with (refine ZbX rfl 229 _ _ rfl w.heap.size (k * 8) rfl [y0,y1,y2,y3,y4,y5,y6,y7] rfl i0 hi hz1 229 cur HCUR.out (by have:=HCS.out;simp only [Taf,Taj];omega) HONE.out ?_;intro w3 hput)
   go_roundw
   case rel=>exact ⟨k+1,by omega,by go_num,HF.out.step (fs:=Zad .cond) HOK.out HGET.out hb2 HOWN.out hput⟩
   case measure=>simp [intOf];omega
  ·go_wp2
   go_ret
   have e:k=m:=by omega
   subst e
   exact ⟨_,rfl,hfill.done HM.out (by unfold maxLen;omega) (by decide) HOK.out.lens⟩
theorem Zla (rows:List (List C)):ZiJ rows:=Zmt rows (fun _ r _=>Zmq r)
theorem Zlb (rows:List (List C)):ZiK rows:=Zmu rows (fun _ r _=>Zmr r)
theorem Zlc (rows:List (List C)):ZiL rows:=Zmv rows (fun _ r _=>Zms r)
theorem Zem {r:List C} (h:Zal (Zad .eqn) r):∃ (i0:Int) (t1:ByteArray) (i2:Int) (r3:List (List C)) (i4:Int) (t5:ByteArray) (i6:Int) (r7:List (List C)) (r8:List (List C)),r=[.lit (.int .i64 i0),.lit (.string t1),.lit (.int .i64 i2),.sl r3,.lit (.int .i64 i4),.lit (.string t5),.lit (.int .i64 i6),.sl r7,.sl r8]∧I64 i0∧t1.size<=maxLen∧I64 i2∧Zao (Zad .term) r3∧I64 i4∧t5.size<=maxLen∧I64 i6∧Zao (Zad .term) r7∧Zao (Zad .cond) r8:=by
 obtain ⟨c0,c1,c2,c3,c4,c5,c6,c7,c8,rfl⟩:=len9 h.len
 simp only [Zad,Za2,occF,Zbc,sigF,ZaW,algF,Tae,Tag,Zal,and_true] at h
 obtain ⟨h0,h1,h2,h3,h4,h5,h6,h7,h8⟩:=h
 obtain ⟨i0,rfl,g0⟩:=Zcp h0
 obtain ⟨t1,rfl,g1⟩:=Ze9 h1
 obtain ⟨i2,rfl,g2⟩:=Zcp h2
 obtain ⟨r3,rfl,g3⟩:=Zcm h3
 obtain ⟨i4,rfl,g4⟩:=Zcp h4
 obtain ⟨t5,rfl,g5⟩:=Ze9 h5
 obtain ⟨i6,rfl,g6⟩:=Zcp h6
 obtain ⟨r7,rfl,g7⟩:=Zcm h7
 obtain ⟨r8,rfl,g8⟩:=Zcm h8
 exact ⟨i0,t1,i2,r3,i4,t5,i6,r7,r8,rfl,g0,g1,g2,g3,g4,g5,g6,g7,g8⟩
theorem ZdF {w:World} {S:Nat->Prop} {i0:Int} {t1:ByteArray} {i2:Int} {r3:List (List C)} {i4:Int} {t5:ByteArray} {i6:Int} {r7:List (List C)} {r8:List (List C)} {us:List Value} (h:Zaa w S [.lit (.int .i64 i0),.lit (.string t1),.lit (.int .i64 i2),.sl r3,.lit (.int .i64 i4),.lit (.string t5),.lit (.int .i64 i6),.sl r7,.sl r8] us):∃ v3 v7 v8,us=[.int .i64 i0,.string t1,.int .i64 i2,v3,.int .i64 i4,.string t5,.int .i64 i6,v7,v8]∧Rep w S (.sl r3) v3∧Rep w S (.sl r7) v7∧Rep w S (.sl r8) v8:=by
 obtain ⟨u0,u1,u2,u3,u4,u5,u6,u7,u8,rfl⟩:=len9 h.len
 simp only [Zaa,Rep.lit_iff,and_true] at h
 obtain ⟨rfl,rfl,rfl,e3,rfl,rfl,rfl,e7,e8⟩:=h
 exact ⟨u3,u7,u8,rfl,e3,e7,e8⟩
def ZhD (row:List C):Prop:=∀ (S:Nat->Prop) (us:List Value) (left:Int) (w:World),Zal (Zad .eqn) row->Zaa w S row us->0<=left->left<=1048576 ->
 Calls Tryz.prog 136 #[.agg us.toArray,.int .i64 left] w fun e w'=>e=.returned (.int .i64 (sub left (Zae row)))∧Below w.heap.size w w'
def ZhE (row:List C):Prop:=∀ (S S':Nat->Prop) (us us':List Value) (w:World),Zal (Zad .eqn) row->Zaa w S row us->Zaa w S' row us' ->
 Calls Tryz.prog 147 #[.agg us.toArray,.agg us'.toArray] w fun e w'=>e=.returned (.bool true)∧Below w.heap.size w w'
def ZhF (row:List C):Prop:=∀ (S:Nat->Prop) (us:List Value) (w:World),Zal (Zad .eqn) row->Zaa w S row us->Zae row<=1048576 ->
 Calls Tryz.prog 143 #[.agg us.toArray] w fun e w'=>∃ us':List Value,e=.returned (.agg us'.toArray)∧Zai w' row (fun x=>w.heap.size<=x∧x < w'.heap.size) us'∧Below w.heap.size w w'
def ZjG (rows:List (List C)):Prop:=∀ (S:Nat->Prop) (v:Value) (left:Int) (w:World),Zao (Zad .eqn) rows->Rep w S (.sl rows) v->0<=left->left<=1048576 ->
 Calls Tryz.prog 84 #[v,.int .i64 left] w fun e w'=>e=.returned (.int .i64 (sub left (rows.length+Zaf rows)))∧Below w.heap.size w w'
def ZjH (rows:List (List C)):Prop:=∀ (S S':Nat->Prop) (v v':Value) (w:World),Zao (Zad .eqn) rows->Rep w S (.sl rows) v->Rep w S' (.sl rows) v' ->
 Calls Tryz.prog 90 #[v,v'] w fun e w'=>e=.returned (.bool true)∧Below w.heap.size w w'
def ZjI (rows:List (List C)):Prop:=∀ (S:Nat->Prop) (v:Value) (w:World),Zao (Zad .eqn) rows->Rep w S (.sl rows) v->rows.length+Zaf rows<=1048576 ->
 Calls Tryz.prog 87 #[v] w fun e w'=>∃ v',e=.returned v'∧Own w' (.sl rows) (fun x=>w.heap.size<=x∧x < w'.heap.size) v'∧Below w.heap.size w w'
theorem ZoM (row:List C):ZhD row:=by
 intro S us left w hok hv h0 h1
 obtain ⟨i0,t1,i2,r3,i4,t5,i6,r7,r8,rfl,g0,g1,g2,g3,g4,g5,g6,g7,g8⟩:=Zem hok
 obtain ⟨v3,v7,v8,rfl,e3,e7,e8⟩:=ZdF hv
 have HC0:=Lib.hid (Zf5 [.lit (.int .i64 i0),.lit (.string t1),.lit (.int .i64 i2),.sl r3])
 have HC4:=Lib.hid (Zf5 [.lit (.int .i64 i4),.lit (.string t5),.lit (.int .i64 i6),.sl r7])
 have HC8:=Lib.hid (Zla r8)
 have HB:=Lib.hid (show Zae [.lit (.int .i64 i0),.lit (.string t1),.lit (.int .i64 i2),.sl r3,.lit (.int .i64 i4),.lit (.string t5),.lit (.int .i64 i6),.sl r7,.sl r8]=(Zae [.lit (.int .i64 i0),.lit (.string t1),.lit (.int .i64 i2),.sl r3])+(Zae [.lit (.int .i64 i4),.lit (.string t5),.lit (.int .i64 i6),.sl r7])+(r8.length+Zaf r8) from by simp only [Zae,Zbr];omega)
 have G0:=Lib.hid g0
 have G1:=Lib.hid g1
 have G2:=Lib.hid g2
 have G3:=Lib.hid g3
 have G4:=Lib.hid g4
 have G5:=Lib.hid g5
 have G6:=Lib.hid g6
 have G7:=Lib.hid g7
 have G8:=Lib.hid g8
 clear g0 g1 g2 g3 g4 g5 g6 g7 g8 hok
 have E3:=Lib.hid e3
 have E7:=Lib.hid e7
 have E8:=Lib.hid e8
 clear hv e3 e7 e8
 generalize hrow:Zae [.lit (.int .i64 i0),.lit (.string t1),.lit (.int .i64 i2),.sl r3,.lit (.int .i64 i4),.lit (.string t5),.lit (.int .i64 i6),.sl r7,.sl r8]=total at HB ⊢
 clear hrow
 have hbw:=(Below.refl w.heap.size w).alloc (Tah _) (.cells #[.int .i64 i0,.string t1,.int .i64 i2,v3,.int .i64 i4,.string t5,.int .i64 i6,v7,v8] 176)
 go_enter Tryz.func136,Tryz.ntmps136
 go_wp2_with fail
 by_cases q0:left < ((Zae [.lit (.int .i64 i0),.lit (.string t1),.lit (.int .i64 i2),.sl r3]):Nat)
 ·refine (HC0.out S _ _ _ (ZbD G0.out G1.out G2.out G3.out) (Zba (E3.out.below hbw)) om om).mono ?_
  rw [Zax om]
  rintro e w1 ⟨rfl,hb1⟩
  go_wp2
  go_ret
  exact ⟨Zaw (a:=-1) (Zax (by have:=HB.out;omega)).symm,hbw.trans (hb1.mono hbw.size)⟩
 refine (HC0.out S _ _ _ (ZbD G0.out G1.out G2.out G3.out) (Zba (E3.out.below hbw)) om om).mono ?_
 rw [Za0 om]
 rintro e w1 ⟨rfl,hb1⟩
 obtain ⟨hc1,hf1⟩:=Za8 hb1
 have hz1:w.heap.size < w1.heap.size:=(by have:=hb1.size;(try simp at this);omega)
 replace hbw:=hbw.trans (hb1.mono hbw.size)
 go_wp2_with fail
 by_cases q4:(left - (((Zae [.lit (.int .i64 i0),.lit (.string t1),.lit (.int .i64 i2),.sl r3]):Nat):Int)) < ((Zae [.lit (.int .i64 i4),.lit (.string t5),.lit (.int .i64 i6),.sl r7]):Nat)
 ·refine (HC4.out S _ _ _ (ZbD G4.out G5.out G6.out G7.out) (Zba (E7.out.below hbw)) om om).mono ?_
  rw [Zax om]
  rintro e w2 ⟨rfl,hb2⟩
  go_wp2
  go_ret
  exact ⟨Zaw (a:=-1) (Zax (by have:=HB.out;omega)).symm,hbw.trans (hb2.mono hbw.size)⟩
 refine (HC4.out S _ _ _ (ZbD G4.out G5.out G6.out G7.out) (Zba (E7.out.below hbw)) om om).mono ?_
 rw [Za0 om]
 rintro e w2 ⟨rfl,hb2⟩
 obtain ⟨hc2,hf2⟩:=Za8 hb2
 have hz2:w.heap.size < w2.heap.size:=(by have:=hb2.size;(try simp at this);omega)
 replace hbw:=hbw.trans (hb2.mono hbw.size)
 go_wp2_with fail
 by_cases q8:((left - (((Zae [.lit (.int .i64 i0),.lit (.string t1),.lit (.int .i64 i2),.sl r3]):Nat):Int)) - (((Zae [.lit (.int .i64 i4),.lit (.string t5),.lit (.int .i64 i6),.sl r7]):Nat):Int)) < ((r8.length+Zaf r8):Nat)
 ·refine (HC8.out S _ _ _ G8.out (E8.out.below hbw) om om).mono ?_
  rw [Zax om]
  rintro e w3 ⟨rfl,hb3⟩
  go_wp2
  go_ret
  exact ⟨Zaw (a:=-1) (Zax (by have:=HB.out;omega)).symm,hbw.trans (hb3.mono hbw.size)⟩
 refine (HC8.out S _ _ _ G8.out (E8.out.below hbw) om om).mono ?_
 rw [Za0 om]
 rintro e w3 ⟨rfl,hb3⟩
 obtain ⟨hc3,hf3⟩:=Za8 hb3
 have hz3:w.heap.size < w3.heap.size:=(by have:=hb3.size;(try simp at this);omega)
 replace hbw:=hbw.trans (hb3.mono hbw.size)
 go_wp2
 go_ret
 exact ⟨Zaw (by have:=HB.out;rw [Za0 om];omega),hbw⟩
theorem ZoN (row:List C):ZhE row:=by
 intro S S' us us' w hok hv hv'
 obtain ⟨i0,t1,i2,r3,i4,t5,i6,r7,r8,rfl,g0,g1,g2,g3,g4,g5,g6,g7,g8⟩:=Zem hok
 obtain ⟨v3,v7,v8,rfl,e3,e7,e8⟩:=ZdF hv
 obtain ⟨x3,x7,x8,rfl,d3,d7,d8⟩:=ZdF hv'
 have HC0:=Lib.hid (Zf6 [.lit (.int .i64 i0),.lit (.string t1),.lit (.int .i64 i2),.sl r3])
 have HC4:=Lib.hid (Zf6 [.lit (.int .i64 i4),.lit (.string t5),.lit (.int .i64 i6),.sl r7])
 have HC8:=Lib.hid (Zlb r8)
 have G0:=Lib.hid g0
 have G1:=Lib.hid g1
 have G2:=Lib.hid g2
 have G3:=Lib.hid g3
 have G4:=Lib.hid g4
 have G5:=Lib.hid g5
 have G6:=Lib.hid g6
 have G7:=Lib.hid g7
 have G8:=Lib.hid g8
 clear g0 g1 g2 g3 g4 g5 g6 g7 g8 hok
 have E3:=Lib.hid e3
 have D3:=Lib.hid d3
 have E7:=Lib.hid e7
 have D7:=Lib.hid d7
 have E8:=Lib.hid e8
 have D8:=Lib.hid d8
 clear hv hv' e3 d3 e7 d7 e8 d8
 have hbw:=((Below.refl w.heap.size w).alloc (Tah _) (.cells #[.int .i64 i0,.string t1,.int .i64 i2,v3,.int .i64 i4,.string t5,.int .i64 i6,v7,v8] 124)).alloc (by simp) (.cells #[.int .i64 i0,.string t1,.int .i64 i2,x3,.int .i64 i4,.string t5,.int .i64 i6,x7,x8] 124)
 go_enter Tryz.func147,Tryz.ntmps147
 go_wp2_with fail
 refine (HC0.out S S' _ _ _ (ZbD G0.out G1.out G2.out G3.out) (Zba (E3.out.below hbw)) (Zba (D3.out.below hbw))).mono ?_
 rintro e w1 ⟨rfl,hb1⟩
 obtain ⟨hc1,hf1⟩:=Za8 hb1
 have hz1:w.heap.size+1 < w1.heap.size:=(by have:=hb1.size;(try simp at this);omega)
 have ha1:w.heap.size < w1.heap.size:=by omega
 replace hbw:=hbw.trans (hb1.mono hbw.size)
 go_wp2_with fail
 refine (HC4.out S S' _ _ _ (ZbD G4.out G5.out G6.out G7.out) (Zba (E7.out.below hbw)) (Zba (D7.out.below hbw))).mono ?_
 rintro e w2 ⟨rfl,hb2⟩
 obtain ⟨hc2,hf2⟩:=Za8 hb2
 have hz2:w.heap.size+1 < w2.heap.size:=(by have:=hb2.size;(try simp at this);omega)
 have ha2:w.heap.size < w2.heap.size:=by omega
 replace hbw:=hbw.trans (hb2.mono hbw.size)
 go_wp2_with fail
 refine (HC8.out S S' _ _ _ G8.out (E8.out.below hbw) (D8.out.below hbw)).mono ?_
 rintro e w3 ⟨rfl,hb3⟩
 obtain ⟨hc3,hf3⟩:=Za8 hb3
 have hz3:w.heap.size+1 < w3.heap.size:=(by have:=hb3.size;(try simp at this);omega)
 have ha3:w.heap.size < w3.heap.size:=by omega
 replace hbw:=hbw.trans (hb3.mono hbw.size)
 go_wp2
 go_ret
 exact ⟨rfl,hbw⟩
theorem ZoO (row:List C):ZhF row:=by
 intro S us w hok hv hlen
 obtain ⟨i0,t1,i2,r3,i4,t5,i6,r7,r8,rfl,g0,g1,g2,g3,g4,g5,g6,g7,g8⟩:=Zem hok
 obtain ⟨v3,v7,v8,rfl,e3,e7,e8⟩:=ZdF hv
 have HC0:=Lib.hid (Zf7 [.lit (.int .i64 i0),.lit (.string t1),.lit (.int .i64 i2),.sl r3])
 have HC4:=Lib.hid (Zf7 [.lit (.int .i64 i4),.lit (.string t5),.lit (.int .i64 i6),.sl r7])
 have HC8:=Lib.hid (Zlc r8)
 have G0:=Lib.hid g0
 have G1:=Lib.hid g1
 have G2:=Lib.hid g2
 have G3:=Lib.hid g3
 have G4:=Lib.hid g4
 have G5:=Lib.hid g5
 have G6:=Lib.hid g6
 have G7:=Lib.hid g7
 have G8:=Lib.hid g8
 clear g0 g1 g2 g3 g4 g5 g6 g7 g8 hok
 have E3:=Lib.hid e3
 have E7:=Lib.hid e7
 have E8:=Lib.hid e8
 clear hv e3 e7 e8
 have hl0:(Zae [.lit (.int .i64 i0),.lit (.string t1),.lit (.int .i64 i2),.sl r3])<=1048576:=by
  have e:(Zae [.lit (.int .i64 i0),.lit (.string t1),.lit (.int .i64 i2),.sl r3])<=Zae [.lit (.int .i64 i0),.lit (.string t1),.lit (.int .i64 i2),.sl r3,.lit (.int .i64 i4),.lit (.string t5),.lit (.int .i64 i6),.sl r7,.sl r8]:=by simp only [Zae,Zbr];omega
  exact Tbe e hlen
 have hl4:(Zae [.lit (.int .i64 i4),.lit (.string t5),.lit (.int .i64 i6),.sl r7])<=1048576:=by
  have e:(Zae [.lit (.int .i64 i4),.lit (.string t5),.lit (.int .i64 i6),.sl r7])<=Zae [.lit (.int .i64 i0),.lit (.string t1),.lit (.int .i64 i2),.sl r3,.lit (.int .i64 i4),.lit (.string t5),.lit (.int .i64 i6),.sl r7,.sl r8]:=by simp only [Zae,Zbr];omega
  exact Tbe e hlen
 have hl8:(r8.length+Zaf r8)<=1048576:=by
  have e:(r8.length+Zaf r8)<=Zae [.lit (.int .i64 i0),.lit (.string t1),.lit (.int .i64 i2),.sl r3,.lit (.int .i64 i4),.lit (.string t5),.lit (.int .i64 i6),.sl r7,.sl r8]:=by simp only [Zae,Zbr];omega
  exact Tbe e hlen
 clear hlen
 go_enter Tryz.func143,Tryz.ntmps143
 go_wp2_with fail
 refine (HC0.out S _ _ (ZbD G0.out G1.out G2.out G3.out) (by exact Zba (E3.out.below (by repeat (first | refine Below.alloc ?_ (by simp;try omega) _ | exact Below.refl _ _)))) hl0).mono ?_
 rintro e w1 ⟨ys0,rfl,hown0,hb1⟩
 obtain ⟨y3,rfl,f3⟩:=ZbR (Zai.rep _ _ (fun _=>True) _ (fun _ _=>trivial) hown0)
 obtain ⟨A3,n3,cap3,rfl,_,_,_⟩:=f3.form
 clear f3
 have hz1:=hb1.size
 simp at hz1 hown0
 have HOWN0:=Lib.hid hown0
 clear hown0
 have hbw1:Below w.heap.size w w1:=Below.trans (by repeat (first | refine Below.alloc ?_ (by simp;try omega) _ | exact Below.refl _ _)) (hb1.mono (by simp;try omega))
 obtain ⟨hc1,hf1⟩:=Za8 hb1
 have ha1:w.heap.size < w1.heap.size:=by omega
 have hbb1:w.heap.size+1 < w1.heap.size:=by omega
 have hcc1:w.heap.size+1+1 < w1.heap.size:=by omega
 go_wp2_with fail
 refine (HC4.out S _ _ (ZbD G4.out G5.out G6.out G7.out) (by exact Zba (E7.out.below (by repeat (first | refine Below.setCell ?_ (by simp;try omega) _ | exact hbw1)))) hl4).mono ?_
 rintro e w2 ⟨ys4,rfl,hown4,hb2⟩
 obtain ⟨y7,rfl,f7⟩:=ZbR (Zai.rep _ _ (fun _=>True) _ (fun _ _=>trivial) hown4)
 obtain ⟨A7,n7,cap7,rfl,_,_,_⟩:=f7.form
 clear f7
 have hz2:=hb2.size
 simp at hz2 hown4
 have HOWN4:=Lib.hid hown4
 clear hown4
 have hbw2:Below w.heap.size w w2:=Below.trans (by repeat (first | refine Below.setCell ?_ (by simp;try omega) _ | exact hbw1)) (hb2.mono (by simp;try omega))
 obtain ⟨hc2,hf2⟩:=Za8 hb2
 have ha2:w.heap.size < w2.heap.size:=by omega
 have hbb2:w.heap.size+1 < w2.heap.size:=by omega
 have hcc2:w.heap.size+1+1 < w2.heap.size:=by omega
 go_wp2_with fail
 refine (HC8.out S _ _ G8.out (by exact E8.out.below (by repeat (first | refine Below.setCell ?_ (by simp;try omega) _ | exact hbw2))) hl8).mono ?_
 rintro e w3 ⟨y8,rfl,hown8,hb3⟩
 obtain ⟨A8,n8,cap8,rfl,_,_,_⟩:=(Own.rep _ _ _ hown8).form
 have hz3:=hb3.size
 simp at hz3 hown8
 have HOWN8:=Lib.hid hown8
 clear hown8
 have hbw3:Below w.heap.size w w3:=Below.trans (by repeat (first | refine Below.setCell ?_ (by simp;try omega) _ | exact hbw2)) (hb3.mono (by simp;try omega))
 obtain ⟨hc3,hf3⟩:=Za8 hb3
 have ha3:w.heap.size < w3.heap.size:=by omega
 have hbb3:w.heap.size+1 < w3.heap.size:=by omega
 have hcc3:w.heap.size+1+1 < w3.heap.size:=by omega
 go_wp2
 refine bodyPost_ret (v:=.agg #[.int .i64 i0,.string t1,.int .i64 i2,.slice A3 n3 cap3,.int .i64 i4,.string t5,.int .i64 i6,.slice A7 n7 cap7,.slice A8 n8 cap8]) (by simp [results,Tryz.results143,go_sem,hc1,ha1,hbb1,hcc1,hc2,ha2,hbb2,hcc2,hc3,ha3,hbb3,hcc3]) rfl ⟨[.int .i64 i0,.string t1,.int .i64 i2,.slice A3 n3 cap3,.int .i64 i4,.string t5,.int .i64 i6,.slice A7 n7 cap7,.slice A8 n8 cap8],rfl,?_,(by repeat (first | refine Below.setCell ?_ (by simp;try omega) _ | exact hbw3))⟩
 simp
 exact (Zai.append (cs:=[.lit (.int .i64 i0),.lit (.string t1),.lit (.int .i64 i2),.sl r3]) (ds:=[.lit (.int .i64 i4),.lit (.string t5),.lit (.int .i64 i6),.sl r7,.sl r8]) (us:=[.int .i64 i0,.string t1,.int .i64 i2,.slice A3 n3 cap3]) (vs:=[.int .i64 i4,.string t5,.int .i64 i6,.slice A7 n7 cap7,.slice A8 n8 cap8]) (fun x=>w.heap.size+1+1+1<=x∧x < w1.heap.size) (fun x=>w1.heap.size<=x∧x < w3.heap.size) (HOWN0.out.same (by repeat (first | refine Same.trans ?_ (Same.setCell _ _ _ _ (by simp;try omega)) | refine Same.trans ?_ ((Same.below hb2).mono (fun x hx=>by simp at hx ⊢;omega)) | refine Same.trans ?_ ((Same.below hb3).mono (fun x hx=>by simp at hx ⊢;omega)) | exact Same.refl _ _))) (Zai.append (cs:=[.lit (.int .i64 i4),.lit (.string t5),.lit (.int .i64 i6),.sl r7]) (ds:=[.sl r8]) (us:=[.int .i64 i4,.string t5,.int .i64 i6,.slice A7 n7 cap7]) (vs:=[.slice A8 n8 cap8]) (fun x=>w1.heap.size<=x∧x < w2.heap.size) (fun x=>w2.heap.size<=x∧x < w3.heap.size) (HOWN4.out.same (by repeat (first | refine Same.trans ?_ (Same.setCell _ _ _ _ (by simp;try omega)) | refine Same.trans ?_ ((Same.below hb3).mono (fun x hx=>by simp at hx ⊢;omega)) | exact Same.refl _ _))) (Zai.cons (fun x=>w2.heap.size<=x∧x < w3.heap.size) (fun x=>w3.heap.size<=x∧x < w3.heap.size) (HOWN8.out.same (by repeat (first | refine Same.trans ?_ (Same.setCell _ _ _ _ (by simp;try omega)) | exact Same.refl _ _))) Zai.nil (fun x hx=>⟨by omega,by omega⟩) (fun x hx=>⟨by omega,by omega⟩) (fun x hx hy=>by omega)) (fun x hx=>⟨by omega,by omega⟩) (fun x hx=>⟨by omega,by omega⟩) (fun x hx hy=>by omega)) (fun x hx=>⟨by omega,by omega⟩) (fun x hx=>⟨by omega,by omega⟩) (fun x hx hy=>by omega))
theorem Znf (row:List C):ZhD row:=ZoM row
theorem Zng (row:List C):ZhE row:=ZoN row
theorem Znh (row:List C):ZhF row:=ZoO row
theorem Zni (rows:List (List C)) (h:∀ (i:Nat) r,rows[i]?=some r->ZhD r):ZjG rows:=by
 intro S v left w hok hv h0 h1
 obtain ⟨A,m,cap,rfl,hm,hmc,hcm⟩:=hv.form
 have H:=Lib.hid h
 have HV:=Lib.hid hv
 have HM:=Lib.hid hm
 have HOK:=Lib.hid hok
 clear h hv hm hok
 unfold maxLen at hcm
 by_cases hlt:left - m < 0
 ·rw [Zax (by have:=HM.out;omega)]
  go_enter Tryz.func84,Tryz.ntmps84
  go_wp2
  go_ret
  exact ⟨rfl,Below.refl _ _⟩
 ·go_enter Tryz.func84,Tryz.ntmps84
  go_wp2
  go_loopw [1,5] (fun l i wr=>∃ k:Nat,k<=m∧i=.int .i64 k∧l=.int .i64 (left - m - (Zaf (rows.take k):Int))∧0<=left - m - (Zaf (rows.take k):Int)∧Below w.heap.size w wr) (fun _ i _=>m - (intOf i).toNat)
  case atStart=>exact ⟨0,Tai _,rfl,by simp [Zaf],by simp [Zaf];omega,Below.refl _ _⟩
  case round =>
   obtain ⟨k,hk,rfl,rfl,hl0,hb⟩:=hrel
   by_cases hkm:k < m
   ·obtain ⟨b,off,r,rfl,hS,hbz,hget,hokr,hrow⟩:=(HV.out.below hb).get HOK.out hkm
    obtain ⟨u0,u1,u2,u3,u4,u5,u6,u7,u8,c0,c1,c2,c3,c4,c5,c6,c7,c8,hvals⟩:=hrow.vals9 hokr.len
    have HT:=H.out k r hget
    have HVALS:=Lib.hid hvals
    have HOKR:=Lib.hid hokr
    have HBT:=Lib.hid (ZdX hget)
    have hle:=ZcX rows (k+1)
    clear hvals hokr hrow hget
    simp only [Zad,Za2,occF,Zbc,sigF,ZaW,algF,Tae,Tag,Taf,Taj,Nat.reduceAdd,Nat.mul_one] at c0 c1 c2 c3 c4 c5 c6 c7 c8
    by_cases h2:left - m - (Zaf (rows.take k):Int) < Zae r
    ·go_wp2_with fail
     refine (HT S _ _ _ HOKR.out HVALS.out om om).mono ?_
     rw [Zax h2]
     rintro e w' ⟨rfl,hb2⟩
     go_wp2
     go_ret
     exact ⟨Zaw (a:=-1) (Zax (by have:=HBT.out;have:=HM.out;omega)).symm,hb.trans (hb2.mono hb.size)⟩
    ·go_wp2_with fail
     refine (HT S _ _ _ HOKR.out HVALS.out om om).mono ?_
     rw [Za0 om]
     rintro e w' ⟨rfl,hb2⟩
     go_wp2
     go_roundw
     case rel=>exact ⟨k+1,by omega,by go_num,by have:=HBT.out;congr 1;omega,by have:=HBT.out;omega,hb.trans (hb2.mono hb.size)⟩
     case measure=>simp [intOf];omega
   ·go_wp2
    go_ret
    have e:k=m:=by omega
    subst e
    have:rows.take k=rows:=List.take_of_length_le (by have:=HM.out;omega)
    rw [this] at hl0 ⊢
    exact ⟨Zaw (by have:=HM.out;rw [Za0 om];omega),hb⟩
theorem Znj (rows:List (List C)) (h:∀ (i:Nat) r,rows[i]?=some r->ZhE r):ZjH rows:=by
 intro S S' v v' w hok hv hv'
 obtain ⟨A,m,cap,rfl,hm,hmc,hcm⟩:=hv.form
 obtain ⟨A',m',cap',rfl,hm',hmc',hcm'⟩:=hv'.form
 obtain rfl:m=m':=by omega
 have H:=Lib.hid h
 have HV:=Lib.hid hv
 have HV':=Lib.hid hv'
 have HM:=Lib.hid hm
 have HOK:=Lib.hid hok
 clear h hv hm hok hm' hv'
 unfold maxLen at hcm hcm'
 go_enter Tryz.func90,Tryz.ntmps90
 go_wp2
 go_loopw [5] (fun i wr=>∃ k:Nat,k<=m∧i=.int .i64 k∧Below w.heap.size w wr) (fun i _=>m - (intOf i).toNat)
 case atStart=>exact ⟨0,Tai _,rfl,Below.refl _ _⟩
 case round =>
  obtain ⟨k,hk,rfl,hb⟩:=hrel
  by_cases hkm:k < m
  ·obtain ⟨b,off,r,rfl,hS,hbz,hget,hokr,hrow⟩:=(HV.out.below hb).get HOK.out hkm
   obtain ⟨b',off',r',rfl,hS',hbz',hget',hokr',hrow'⟩:=(HV'.out.below hb).get HOK.out hkm
   obtain rfl:r=r':=by rw [hget] at hget';exact Option.some.inj hget'
   obtain ⟨u0,u1,u2,u3,u4,u5,u6,u7,u8,c0,c1,c2,c3,c4,c5,c6,c7,c8,hvals⟩:=hrow.vals9 hokr.len
   obtain ⟨x0,x1,x2,x3,x4,x5,x6,x7,x8,d0,d1,d2,d3,d4,d5,d6,d7,d8,hvals'⟩:=hrow'.vals9 hokr.len
   have HT:=H.out k r hget
   have HVALS:=Lib.hid hvals
   have HVALS':=Lib.hid hvals'
   have HOKR:=Lib.hid hokr
   clear hvals hvals' hokr hokr' hrow hrow' hget hget'
   simp only [Zad,Za2,occF,Zbc,sigF,ZaW,algF,Tae,Tag,Taf,Taj,Nat.reduceAdd,Nat.mul_one] at c0 c1 c2 c3 c4 c5 c6 c7 c8 d0 d1 d2 d3 d4 d5 d6 d7 d8
   have k0:(0:Int)<=(k:Int):=by omega
   have k1:(k:Int) < (m:Int):=by omega
   go_wp2_with fail
   go_region_held3 (fun w'=>∀ b o,b < wr.heap.size->w'.cell? ⟨b,o,none⟩=wr.cell? ⟨b,o,none⟩) (first | go_keep | exact fun b o h=>hb2.cell (p:=⟨b,o,none⟩) h) (first | (go_at_call 147;refine (HT S S' _ _ _ HOKR.out (HVALS.out.below (Below.refl _ _).drew) (HVALS'.out.below (Below.refl _ _).drew)).mono ?_;rintro e w' ⟨rfl,hb2⟩))
   go_wp2
   go_roundw
   case rel=>exact ⟨k+1,by omega,by go_num,hb.trans ((Below.refl _ _).drew.trans (hb2.mono hb.size))⟩
   case measure=>simp [intOf];omega
  ·go_wp2
   go_ret
   exact ⟨rfl,hb⟩
theorem ZoP:(Tryz.prog.info? 124).map (fun i=>(i.zero,i.size,i.bytes))=some (some (.agg #[.int .i64 0,.string .empty,.int .i64 0,.slice none 0 0,.int .i64 0,.string .empty,.int .i64 0,.slice none 0 0,.slice none 0 0]),9,136):=by kernel_rfl
theorem Znk (rows:List (List C)) (h:∀ (i:Nat) r,rows[i]?=some r->ZhF r):ZjI rows:=by
 intro S v w hok hv hlen
 obtain ⟨A,m,cap,rfl,hm,hmc,hcm⟩:=hv.form
 obtain ⟨i0,hi,hz0,hz1,hz2⟩:=info_parts ZoP
 have H:=Lib.hid h
 have HV:=Lib.hid hv
 have HM:=Lib.hid hm
 have HOK:=Lib.hid hok
 have hml:m<=1048576:=by omega
 clear h hv hm hok
 unfold maxLen at hcm
 have hmk:=run_make (P:=Tryz.prog) w 73 124 i0 _ Tryz.underlying73 hi hz0 .i64 .i64 (m:Int) (m:Int) om om (by rw [hz2];omega) om
 go_enter Tryz.func87,Tryz.ntmps87
 go_wp2
 clear hmk
 go_loopw [4] (fun i wr=>∃ k:Nat,k<=m∧i=.int .i64 k∧ZbA w w.heap.size 124 m 9 rows k wr) (fun i _=>m - (intOf i).toNat)
 case atStart=>exact ⟨0,Tai _,rfl,ZbA.start (size_madeCells _ _)⟩
 case round =>
  obtain ⟨k,hk,rfl,hfill⟩:=hrel
  have hb:=hfill.1
  by_cases hkm:k < m
  ·obtain ⟨b,off,r,rfl,hS,hbz,hget,hokr,hrow⟩:=(HV.out.below hb).get HOK.out hkm
   obtain ⟨u0,u1,u2,u3,u4,u5,u6,u7,u8,c0,c1,c2,c3,c4,c5,c6,c7,c8,hvals⟩:=hrow.vals9 hokr.len
   have HT:=H.out k r hget
   have HVALS:=Lib.hid hvals
   have HOKR:=Lib.hid hokr
   have HGET:=Lib.hid hget
   have HF:=Lib.hid hfill
   have hbg:=Zco hget
   clear hvals hokr hrow hget hfill
   simp only [Zad,Za2,occF,Zbc,sigF,ZaW,algF,Tae,Tag,Taf,Taj,Nat.reduceAdd,Nat.mul_one] at c0 c1 c2 c3 c4 c5 c6 c7 c8
   go_wp2_with fail
   refine (HT S _ _ HOKR.out HVALS.out om).mono ?_
   rintro e w2 ⟨us,rfl,hown,hb2⟩
   have hone:=HOKR.out.one (Zai.rep _ _ (fun _=>True) _ (fun _ _=>trivial) hown)
   obtain ⟨y0,y1,y2,y3,y4,y5,y6,y7,y8,rfl⟩:=len9 (hown.len.trans HOKR.out.len)
   have HOWN:=Lib.hid hown
   have HONE:=Lib.hid hone
   obtain ⟨cur,hcur,hcs⟩:=HF.out.row hb2
   have HCUR:=Lib.hid hcur
   have HCS:=Lib.hid hcs
   clear hown hone hcur hcs
   go_wp2_with (refine ZbX rfl 124 _ _ rfl w.heap.size (k * 9) rfl [y0,y1,y2,y3,y4,y5,y6,y7,y8] rfl i0 hi hz1 124 cur HCUR.out (by have:=HCS.out;simp only [Taf,Taj];omega) HONE.out ?_;intro w3 hput)
   go_roundw
   case rel=>exact ⟨k+1,by omega,by go_num,HF.out.step (fs:=Zad .eqn) HOK.out HGET.out hb2 HOWN.out hput⟩
   case measure=>simp [intOf];omega
  ·go_wp2
   go_ret
   have e:k=m:=by omega
   subst e
   exact ⟨_,rfl,hfill.done HM.out (by unfold maxLen;omega) (by decide) HOK.out.lens⟩
theorem Zhk (rows:List (List C)):ZjG rows:=Zni rows (fun _ r _=>Znf r)
theorem Zhl (rows:List (List C)):ZjH rows:=Znj rows (fun _ r _=>Zng r)
theorem Zhm (rows:List (List C)):ZjI rows:=Znk rows (fun _ r _=>Znh r)
theorem Ze5 {r:List C} (h:Zal (ZaW) r):∃ (r0:List (List C)) (r1:List (List C)) (r2:List (List C)) (r3:List (List C)) (r4:List (List C)),r=[.sl r0,.sl r1,.sl r2,.sl r3,.sl r4]∧Zao (Zad .str) r0∧Zao (Zad .sub) r1∧Zao (Zad .op) r2∧Zao (Zad .eqn) r3∧Zao (Zad .eqn) r4:=by
 obtain ⟨c0,c1,c2,c3,c4,rfl⟩:=len5 h.len
 simp only [Zad,Za2,occF,Zbc,sigF,ZaW,algF,Tae,Tag,Zal,and_true] at h
 obtain ⟨h0,h1,h2,h3,h4⟩:=h
 obtain ⟨r0,rfl,g0⟩:=Zcm h0
 obtain ⟨r1,rfl,g1⟩:=Zcm h1
 obtain ⟨r2,rfl,g2⟩:=Zcm h2
 obtain ⟨r3,rfl,g3⟩:=Zcm h3
 obtain ⟨r4,rfl,g4⟩:=Zcm h4
 exact ⟨r0,r1,r2,r3,r4,rfl,g0,g1,g2,g3,g4⟩
theorem Zen {w:World} {S:Nat->Prop} {r0:List (List C)} {r1:List (List C)} {r2:List (List C)} {r3:List (List C)} {r4:List (List C)} {us:List Value} (h:Zaa w S [.sl r0,.sl r1,.sl r2,.sl r3,.sl r4] us):∃ v0 v1 v2 v3 v4,us=[v0,v1,v2,v3,v4]∧Rep w S (.sl r0) v0∧Rep w S (.sl r1) v1∧Rep w S (.sl r2) v2∧Rep w S (.sl r3) v3∧Rep w S (.sl r4) v4:=by
 obtain ⟨u0,u1,u2,u3,u4,rfl⟩:=len5 h.len
 simp only [Zaa,Rep.lit_iff,and_true] at h
 obtain ⟨e0,e1,e2,e3,e4⟩:=h
 exact ⟨u0,u1,u2,u3,u4,rfl,e0,e1,e2,e3,e4⟩
def Zol (row:List C):Prop:=∀ (S:Nat->Prop) (us:List Value) (left:Int) (w:World),Zal (ZaW) row->Zaa w S row us->0<=left->left<=1048576 ->
 Calls Tryz.prog 35 #[.agg us.toArray,.int .i64 left] w fun e w'=>e=.returned (.int .i64 (sub left (Zae row)))∧Below w.heap.size w w'
def Zom (row:List C):Prop:=∀ (S S':Nat->Prop) (us us':List Value) (w:World),Zal (ZaW) row->Zaa w S row us->Zaa w S' row us' ->
 Calls Tryz.prog 39 #[.agg us.toArray,.agg us'.toArray] w fun e w'=>e=.returned (.bool true)∧Below w.heap.size w w'
def Zon (row:List C):Prop:=∀ (S:Nat->Prop) (us:List Value) (w:World),Zal (ZaW) row->Zaa w S row us->Zae row<=1048576 ->
 Calls Tryz.prog 37 #[.agg us.toArray] w fun e w'=>∃ us':List Value,e=.returned (.agg us'.toArray)∧Zai w' row (fun x=>w.heap.size<=x∧x < w'.heap.size) us'∧Below w.heap.size w w'
theorem Zsk (row:List C):Zol row:=by
 intro S us left w hok hv h0 h1
 obtain ⟨r0,r1,r2,r3,r4,rfl,g0,g1,g2,g3,g4⟩:=Ze5 hok
 obtain ⟨v0,v1,v2,v3,v4,rfl,e0,e1,e2,e3,e4⟩:=Zen hv
 have HC0:=Lib.hid (ZlG [.sl r0,.sl r1,.sl r2])
 have HC3:=Lib.hid (Zhk r3)
 have HC4:=Lib.hid (Zhk r4)
 have HB:=Lib.hid (show Zae [.sl r0,.sl r1,.sl r2,.sl r3,.sl r4]=(Zae [.sl r0,.sl r1,.sl r2])+(r3.length+Zaf r3)+(r4.length+Zaf r4) from by simp only [Zae,Zbr];omega)
 have G0:=Lib.hid g0
 have G1:=Lib.hid g1
 have G2:=Lib.hid g2
 have G3:=Lib.hid g3
 have G4:=Lib.hid g4
 clear g0 g1 g2 g3 g4 hok
 have E0:=Lib.hid e0
 have E1:=Lib.hid e1
 have E2:=Lib.hid e2
 have E3:=Lib.hid e3
 have E4:=Lib.hid e4
 clear hv e0 e1 e2 e3 e4
 generalize hrow:Zae [.sl r0,.sl r1,.sl r2,.sl r3,.sl r4]=total at HB ⊢
 clear hrow
 have hbw:=(Below.refl w.heap.size w).alloc (Tah _) (.cells #[v0,v1,v2,v3,v4] 70)
 go_enter Tryz.func35,Tryz.ntmps35
 go_wp2_with fail
 by_cases q0:left < ((Zae [.sl r0,.sl r1,.sl r2]):Nat)
 ·refine (HC0.out S _ _ _ (Zdb G0.out G1.out G2.out) (Zc0 (E0.out.below hbw) (E1.out.below hbw) (E2.out.below hbw)) om om).mono ?_
  rw [Zax om]
  rintro e w1 ⟨rfl,hb1⟩
  go_wp2
  go_ret
  exact ⟨Zaw (a:=-1) (Zax (by have:=HB.out;omega)).symm,hbw.trans (hb1.mono hbw.size)⟩
 refine (HC0.out S _ _ _ (Zdb G0.out G1.out G2.out) (Zc0 (E0.out.below hbw) (E1.out.below hbw) (E2.out.below hbw)) om om).mono ?_
 rw [Za0 om]
 rintro e w1 ⟨rfl,hb1⟩
 obtain ⟨hc1,hf1⟩:=Za8 hb1
 have hz1:w.heap.size < w1.heap.size:=(by have:=hb1.size;(try simp at this);omega)
 replace hbw:=hbw.trans (hb1.mono hbw.size)
 go_wp2_with fail
 by_cases q3:(left - (((Zae [.sl r0,.sl r1,.sl r2]):Nat):Int)) < ((r3.length+Zaf r3):Nat)
 ·refine (HC3.out S _ _ _ G3.out (E3.out.below hbw) om om).mono ?_
  rw [Zax om]
  rintro e w2 ⟨rfl,hb2⟩
  go_wp2
  go_ret
  exact ⟨Zaw (a:=-1) (Zax (by have:=HB.out;omega)).symm,hbw.trans (hb2.mono hbw.size)⟩
 refine (HC3.out S _ _ _ G3.out (E3.out.below hbw) om om).mono ?_
 rw [Za0 om]
 rintro e w2 ⟨rfl,hb2⟩
 obtain ⟨hc2,hf2⟩:=Za8 hb2
 have hz2:w.heap.size < w2.heap.size:=(by have:=hb2.size;(try simp at this);omega)
 replace hbw:=hbw.trans (hb2.mono hbw.size)
 go_wp2_with fail
 by_cases q4:((left - (((Zae [.sl r0,.sl r1,.sl r2]):Nat):Int)) - (((r3.length+Zaf r3):Nat):Int)) < ((r4.length+Zaf r4):Nat)
 ·refine (HC4.out S _ _ _ G4.out (E4.out.below hbw) om om).mono ?_
  rw [Zax om]
  rintro e w3 ⟨rfl,hb3⟩
  go_wp2
  go_ret
  exact ⟨Zaw (a:=-1) (Zax (by have:=HB.out;omega)).symm,hbw.trans (hb3.mono hbw.size)⟩
 refine (HC4.out S _ _ _ G4.out (E4.out.below hbw) om om).mono ?_
 rw [Za0 om]
 rintro e w3 ⟨rfl,hb3⟩
 obtain ⟨hc3,hf3⟩:=Za8 hb3
 have hz3:w.heap.size < w3.heap.size:=(by have:=hb3.size;(try simp at this);omega)
 replace hbw:=hbw.trans (hb3.mono hbw.size)
 go_wp2
 go_ret
 exact ⟨Zaw (by have:=HB.out;rw [Za0 om];omega),hbw⟩
theorem Zsl (row:List C):Zom row:=by
 intro S S' us us' w hok hv hv'
 obtain ⟨r0,r1,r2,r3,r4,rfl,g0,g1,g2,g3,g4⟩:=Ze5 hok
 obtain ⟨v0,v1,v2,v3,v4,rfl,e0,e1,e2,e3,e4⟩:=Zen hv
 obtain ⟨x0,x1,x2,x3,x4,rfl,d0,d1,d2,d3,d4⟩:=Zen hv'
 have HC0:=Lib.hid (ZlH [.sl r0,.sl r1,.sl r2])
 have HC3:=Lib.hid (Zhl r3)
 have HC4:=Lib.hid (Zhl r4)
 have G0:=Lib.hid g0
 have G1:=Lib.hid g1
 have G2:=Lib.hid g2
 have G3:=Lib.hid g3
 have G4:=Lib.hid g4
 clear g0 g1 g2 g3 g4 hok
 have E0:=Lib.hid e0
 have D0:=Lib.hid d0
 have E1:=Lib.hid e1
 have D1:=Lib.hid d1
 have E2:=Lib.hid e2
 have D2:=Lib.hid d2
 have E3:=Lib.hid e3
 have D3:=Lib.hid d3
 have E4:=Lib.hid e4
 have D4:=Lib.hid d4
 clear hv hv' e0 d0 e1 d1 e2 d2 e3 d3 e4 d4
 have hbw:=((Below.refl w.heap.size w).alloc (Tah _) (.cells #[v0,v1,v2,v3,v4] 75)).alloc (by simp) (.cells #[x0,x1,x2,x3,x4] 75)
 go_enter Tryz.func39,Tryz.ntmps39
 go_wp2_with fail
 refine (HC0.out S S' _ _ _ (Zdb G0.out G1.out G2.out) (Zc0 (E0.out.below hbw) (E1.out.below hbw) (E2.out.below hbw)) (Zc0 (D0.out.below hbw) (D1.out.below hbw) (D2.out.below hbw))).mono ?_
 rintro e w1 ⟨rfl,hb1⟩
 obtain ⟨hc1,hf1⟩:=Za8 hb1
 have hz1:w.heap.size+1 < w1.heap.size:=(by have:=hb1.size;(try simp at this);omega)
 have ha1:w.heap.size < w1.heap.size:=by omega
 replace hbw:=hbw.trans (hb1.mono hbw.size)
 go_wp2_with fail
 refine (HC3.out S S' _ _ _ G3.out (E3.out.below hbw) (D3.out.below hbw)).mono ?_
 rintro e w2 ⟨rfl,hb2⟩
 obtain ⟨hc2,hf2⟩:=Za8 hb2
 have hz2:w.heap.size+1 < w2.heap.size:=(by have:=hb2.size;(try simp at this);omega)
 have ha2:w.heap.size < w2.heap.size:=by omega
 replace hbw:=hbw.trans (hb2.mono hbw.size)
 go_wp2_with fail
 refine (HC4.out S S' _ _ _ G4.out (E4.out.below hbw) (D4.out.below hbw)).mono ?_
 rintro e w3 ⟨rfl,hb3⟩
 obtain ⟨hc3,hf3⟩:=Za8 hb3
 have hz3:w.heap.size+1 < w3.heap.size:=(by have:=hb3.size;(try simp at this);omega)
 have ha3:w.heap.size < w3.heap.size:=by omega
 replace hbw:=hbw.trans (hb3.mono hbw.size)
 go_wp2
 go_ret
 exact ⟨rfl,hbw⟩
theorem Zsm (row:List C):Zon row:=by
 intro S us w hok hv hlen
 obtain ⟨r0,r1,r2,r3,r4,rfl,g0,g1,g2,g3,g4⟩:=Ze5 hok
 obtain ⟨v0,v1,v2,v3,v4,rfl,e0,e1,e2,e3,e4⟩:=Zen hv
 have HC0:=Lib.hid (ZlI [.sl r0,.sl r1,.sl r2])
 have HC3:=Lib.hid (Zhm r3)
 have HC4:=Lib.hid (Zhm r4)
 have G0:=Lib.hid g0
 have G1:=Lib.hid g1
 have G2:=Lib.hid g2
 have G3:=Lib.hid g3
 have G4:=Lib.hid g4
 clear g0 g1 g2 g3 g4 hok
 have E0:=Lib.hid e0
 have E1:=Lib.hid e1
 have E2:=Lib.hid e2
 have E3:=Lib.hid e3
 have E4:=Lib.hid e4
 clear hv e0 e1 e2 e3 e4
 have hl0:(Zae [.sl r0,.sl r1,.sl r2])<=1048576:=by
  have e:(Zae [.sl r0,.sl r1,.sl r2])<=Zae [.sl r0,.sl r1,.sl r2,.sl r3,.sl r4]:=by simp only [Zae,Zbr];omega
  exact Tbe e hlen
 have hl3:(r3.length+Zaf r3)<=1048576:=by
  have e:(r3.length+Zaf r3)<=Zae [.sl r0,.sl r1,.sl r2,.sl r3,.sl r4]:=by simp only [Zae,Zbr];omega
  exact Tbe e hlen
 have hl4:(r4.length+Zaf r4)<=1048576:=by
  have e:(r4.length+Zaf r4)<=Zae [.sl r0,.sl r1,.sl r2,.sl r3,.sl r4]:=by simp only [Zae,Zbr];omega
  exact Tbe e hlen
 clear hlen
 go_enter Tryz.func37,Tryz.ntmps37
 go_wp2_with fail
 refine (HC0.out S _ _ (Zdb G0.out G1.out G2.out) (by exact Zc0 (E0.out.below (by repeat (first | refine Below.alloc ?_ (by simp;try omega) _ | exact Below.refl _ _))) (E1.out.below (by repeat (first | refine Below.alloc ?_ (by simp;try omega) _ | exact Below.refl _ _))) (E2.out.below (by repeat (first | refine Below.alloc ?_ (by simp;try omega) _ | exact Below.refl _ _)))) hl0).mono ?_
 rintro e w1 ⟨ys0,rfl,hown0,hb1⟩
 obtain ⟨y0,y1,y2,rfl,f0,f1,f2⟩:=ZcG (Zai.rep _ _ (fun _=>True) _ (fun _ _=>trivial) hown0)
 obtain ⟨A0,n0,cap0,rfl,_,_,_⟩:=f0.form
 clear f0
 obtain ⟨A1,n1,cap1,rfl,_,_,_⟩:=f1.form
 clear f1
 obtain ⟨A2,n2,cap2,rfl,_,_,_⟩:=f2.form
 clear f2
 have hz1:=hb1.size
 simp at hz1 hown0
 have HOWN0:=Lib.hid hown0
 clear hown0
 have hbw1:Below w.heap.size w w1:=Below.trans (by repeat (first | refine Below.alloc ?_ (by simp;try omega) _ | exact Below.refl _ _)) (hb1.mono (by simp;try omega))
 obtain ⟨hc1,hf1⟩:=Za8 hb1
 have ha1:w.heap.size < w1.heap.size:=by omega
 have hbb1:w.heap.size+1 < w1.heap.size:=by omega
 have hcc1:w.heap.size+1+1 < w1.heap.size:=by omega
 go_wp2_with fail
 refine (HC3.out S _ _ G3.out (by exact E3.out.below (by repeat (first | refine Below.setCell ?_ (by simp;try omega) _ | exact hbw1))) hl3).mono ?_
 rintro e w2 ⟨y3,rfl,hown3,hb2⟩
 obtain ⟨A3,n3,cap3,rfl,_,_,_⟩:=(Own.rep _ _ _ hown3).form
 have hz2:=hb2.size
 simp at hz2 hown3
 have HOWN3:=Lib.hid hown3
 clear hown3
 have hbw2:Below w.heap.size w w2:=Below.trans (by repeat (first | refine Below.setCell ?_ (by simp;try omega) _ | exact hbw1)) (hb2.mono (by simp;try omega))
 obtain ⟨hc2,hf2⟩:=Za8 hb2
 have ha2:w.heap.size < w2.heap.size:=by omega
 have hbb2:w.heap.size+1 < w2.heap.size:=by omega
 have hcc2:w.heap.size+1+1 < w2.heap.size:=by omega
 go_wp2_with fail
 refine (HC4.out S _ _ G4.out (by exact E4.out.below (by repeat (first | refine Below.setCell ?_ (by simp;try omega) _ | exact hbw2))) hl4).mono ?_
 rintro e w3 ⟨y4,rfl,hown4,hb3⟩
 obtain ⟨A4,n4,cap4,rfl,_,_,_⟩:=(Own.rep _ _ _ hown4).form
 have hz3:=hb3.size
 simp at hz3 hown4
 have HOWN4:=Lib.hid hown4
 clear hown4
 have hbw3:Below w.heap.size w w3:=Below.trans (by repeat (first | refine Below.setCell ?_ (by simp;try omega) _ | exact hbw2)) (hb3.mono (by simp;try omega))
 obtain ⟨hc3,hf3⟩:=Za8 hb3
 have ha3:w.heap.size < w3.heap.size:=by omega
 have hbb3:w.heap.size+1 < w3.heap.size:=by omega
 have hcc3:w.heap.size+1+1 < w3.heap.size:=by omega
 go_wp2
 refine bodyPost_ret (v:=.agg #[.slice A0 n0 cap0,.slice A1 n1 cap1,.slice A2 n2 cap2,.slice A3 n3 cap3,.slice A4 n4 cap4]) (by simp [results,Tryz.results37,go_sem,hc1,ha1,hbb1,hcc1,hc2,ha2,hbb2,hcc2,hc3,ha3,hbb3,hcc3]) rfl ⟨[.slice A0 n0 cap0,.slice A1 n1 cap1,.slice A2 n2 cap2,.slice A3 n3 cap3,.slice A4 n4 cap4],rfl,?_,(by repeat (first | refine Below.setCell ?_ (by simp;try omega) _ | exact hbw3))⟩
 simp
 exact (Zai.append (cs:=[.sl r0,.sl r1,.sl r2]) (ds:=[.sl r3,.sl r4]) (us:=[.slice A0 n0 cap0,.slice A1 n1 cap1,.slice A2 n2 cap2]) (vs:=[.slice A3 n3 cap3,.slice A4 n4 cap4]) (fun x=>w.heap.size+1+1+1<=x∧x < w1.heap.size) (fun x=>w1.heap.size<=x∧x < w3.heap.size) (HOWN0.out.same (by repeat (first | refine Same.trans ?_ (Same.setCell _ _ _ _ (by simp;try omega)) | refine Same.trans ?_ ((Same.below hb2).mono (fun x hx=>by simp at hx ⊢;omega)) | refine Same.trans ?_ ((Same.below hb3).mono (fun x hx=>by simp at hx ⊢;omega)) | exact Same.refl _ _))) (Zai.cons (fun x=>w1.heap.size<=x∧x < w2.heap.size) (fun x=>w2.heap.size<=x∧x < w3.heap.size) (HOWN3.out.same (by repeat (first | refine Same.trans ?_ (Same.setCell _ _ _ _ (by simp;try omega)) | refine Same.trans ?_ ((Same.below hb3).mono (fun x hx=>by simp at hx ⊢;omega)) | exact Same.refl _ _))) (Zai.cons (fun x=>w2.heap.size<=x∧x < w3.heap.size) (fun x=>w3.heap.size<=x∧x < w3.heap.size) (HOWN4.out.same (by repeat (first | refine Same.trans ?_ (Same.setCell _ _ _ _ (by simp;try omega)) | exact Same.refl _ _))) Zai.nil (fun x hx=>⟨by omega,by omega⟩) (fun x hx=>⟨by omega,by omega⟩) (fun x hx hy=>by omega)) (fun x hx=>⟨by omega,by omega⟩) (fun x hx=>⟨by omega,by omega⟩) (fun x hx hy=>by omega)) (fun x hx=>⟨by omega,by omega⟩) (fun x hx=>⟨by omega,by omega⟩) (fun x hx hy=>by omega))
theorem Zq7 (row:List C):Zol row:=Zsk row
theorem Zq8 (row:List C):Zom row:=Zsl row
theorem Zq9 (row:List C):Zon row:=Zsm row
end Go.Proofs.YtffmjghcpgpfpaaGreatDoor
