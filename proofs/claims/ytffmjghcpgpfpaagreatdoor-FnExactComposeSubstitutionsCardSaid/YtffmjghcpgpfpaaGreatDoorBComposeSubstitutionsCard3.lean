/-
  Part of a proof: Tj, Bu, Ra, LBinding, Bb, Gv, Gt, Ap, Ow, Sb, Fi, Fj, Sw, Sw2, Sw3, Sw4, Zt, Bw, As, Ot, Sc, Lc, Sf, Bf, Rl, Rk, M6, Ky, By, Bs, Ka.
-/
import Derived.Test.YtffmjghcpgpfpaaGreatDoorBComposeSubstitutionsCard0
import Derived.Test.YtffmjghcpgpfpaaGreatDoorBComposeSubstitutionsCard1
import Derived.Test.YtffmjghcpgpfpaaGreatDoorBComposeSubstitutionsCard2
import Derived.Test.YtffmjghcpgpfpaaGreatDoorRows
import Derived.Deep.RegionHeld3
import Derived.Lib.AppendStr
import Derived.Laws.BytesString
set_option linter.unusedSimpArgs false
set_option linter.unusedVariables false
set_option maxHeartbeats 400000000
namespace Go.Proofs.YtffmjghcpgpfpaaGreatDoor
open Go.RowKit
section
variable {g:Sgn}
open Classical in
noncomputable def Zej (g:Sgn) (op:Int) (args:List Tm):Bool:=decide (ZjU g op args)
theorem Zjn (hg:SgnOk g) {op:Int} {o:Opr} (ho:g.ops[op.toNat]?=some o) (hu:o.unit≠0) {a:Tm} (ha:ZaM g a) (hop:a.op=o.unit - 1):a=ZbH o:=by
 have hax:=hg.axs o (List.mem_of_getElem? ho)
 have hlo:=hax.lo
 obtain ⟨p,u,h⟩:=ha.node.app om
 obtain ⟨d,hd,_⟩:=hg.first ho
 have e:a.op.toNat=o.unit.toNat - 1:=by omega
 have hz:u.args.length=0:=by
  have h2:=hax.two (.inr (.inr hu)) d hd
  obtain ⟨d0,hd0⟩:∃ x,d.args[0]?=some x:=⟨_,List.getElem?_eq_getElem om⟩
  obtain ⟨d1,hd1⟩:∃ x,d.args[1]?=some x:=⟨_,List.getElem?_eq_getElem om⟩
  exact ((h2.2 d0 d1 hd0 hd1).2.2 hu p u (by rw [<- e];exact h.at') h.fst).1
 have has:p.assoc=false:=by
  cases hp:p.assoc with
  | false=>rfl
  | true =>
   have:=((hg.axs p (List.mem_of_getElem? h.at')).two (.inl hp) u h.fst).1
   omega
 have hl:=h.nas has
 have hnil:a.args=[]:=List.eq_nil_of_length_eq_zero om
 have hnm:=h.nm
 have hso:=h.so
 cases a with
 | mk x n s l =>
  simp only [Tm.args,Tm.name,Tm.sort,Tm.op] at *
  subst hnil hnm hso hop
  simp only [ZbH,if_neg hu]
theorem ZnI {o:Opr} (h0:0<=o.unit) (h1:o.unit<=14):okTm (ZbH o):=by
 rw [Zfq]
 simp only [ZbH,Tm.op,Tm.name,Tm.sort,Tm.args,ZbA,and_true]
 refine ⟨?_,by simp [maxLen],?_⟩
 ·unfold I64;split <;> omega
 ·unfold I64;omega
set_option maxRecDepth 100000 in
theorem Zrf (hokg:Zdq g) (hg:SgnOk g) {t:Tm} {o:Opr} {d:Dcl} (hA:AppOk g t o d) (hF:∀ a∈t.args,ZaM g a) (hok:okTm t) (hb:sizeTm t<=big):Con e0 156 [.agg (ZaA g),.agg (Zae t)] [.one (.lit (.bool (Zej g t.op t.args)))]:=by
 have hno:¬ ZjU g t.op t.args->Zej g t.op t.args=false:=fun h=>by simp [Zej,h]
 obtain ⟨k1,k2,k3,k4⟩:=Zfq.1 hok
 have hsz:=Zbg t
 have hal:=ZbL t.args
 unfold big at hb
 have h0:=hA.lo
 have ho:=hA.at'
 have hd:=hA.fst
 obtain ⟨d',hd',hr0,hr1,hargs⟩:=hg.first ho
 rw [hd] at hd'
 injection hd' with hd'
 subst hd'
 have hax:=hg.axs o (List.mem_of_getElem? ho)
 have hlo:=hax.lo
 have hhi:=hax.hi
 have hln:=hg.len
 have cK:=Zev hg.sorts
 rw [Zbc] at cK
 have cUn:=Zl5 hg h0 ho
 rw [ZaA] at cUn
 have hnoA:∀ (i:Nat) a,t.args[i]?=some a->¬ ArgOk g t.op o d t.args i a->Zej g t.op t.args=false:=fun i a ha h=>hno fun hR=>h (hR o d ho hd i a ha)
 refine gI 9903595872146772515857895423 Tryz.func156 ?_
 (have F:=ai @tmz (ai @Zcd (ai @h0 (ai @ho @Zaj)));refine gG ?_;clear F)
 refine gB ?_
 (have F:=@tmz;refine gC (cK) ?_;clear F)
 (have F:=@tmz;refine gR ?_;clear F)
 (have F:=@tmz;refine gG ?_;clear F)
 refine gB ?_
 (have F:=@tmz;refine gC (cUn) ?_;clear F)
 (have F:=@tmz;refine gR ?_;clear F)
 (have F:=@tmz;refine gG ?_;clear F)
 (have F:=@e0P;refine gL (ι:=Nat) [4,9,10,11,32,42,76,93] [] (fun i=>[(9,A.d (.one (.lit (.int .i64 i))))]) (fun i=>[]) (fun i=>i<=t.args.length∧∀ (j:Nat) a,j < i->t.args[j]?=some a->ArgOk g t.op o d t.args j a) (fun i=>t.args.length - i) (0) (⟨by omega,fun j a h=>absurd h om⟩) (fun i hi=>?_);clear F)
 obtain ⟨hil,hall⟩:=hi
 by_cases hl:i < t.args.length
 rotate_left
 ·have hl':¬ ((i:Int) < (t.args.length:Int)):=by omega
  have hT:Zej g t.op t.args=true:=by
   simp only [Zej,decide_eq_true_eq]
   intro o' d' ho' hd' j a hj
   rw [ho] at ho'
   injection ho' with ho'
   subst ho'
   rw [hd] at hd'
   injection hd' with hd'
   subst hd'
   exact hall j a (by have:=(List.getElem?_eq_some_iff.1 hj).1;omega) hj
  (have F:=ai @tmz (ai @hl' @hT);refine gG ?_;exact gT)
 have hl':(i:Int) < (t.args.length:Int):=by omega
 obtain ⟨a,ha⟩:∃ a,t.args[i]?=some a:=⟨_,List.getElem?_eq_getElem hl⟩
 have hm:=List.mem_of_getElem? ha
 have hFa:=hF a hm
 have hw1:=Zay (k:=i) om
 obtain ⟨k,hk⟩:=Zhe hg ho hd hA.nas hl
 obtain ⟨hk0,hk1⟩:=hargs k (List.mem_of_getElem? hk)
 have hkd:=ZgS hg.sorts hk0 hk1
 have cKa:=Zl4 hokg hg hFa.node
 rw [ZaA] at cKa
 have cU:=Zil (k4.mem hm) (ZnI (o:=o) hlo om)
 have hUiff:o.unit≠0->(Zak a (ZbH o)=0 ↔ a.op=o.unit - 1):=fun hu=>by
  rw [Zjl]
  constructor
  ·rintro h;rw [h];simp [ZbH,Tm.op,hu]
  ·exact Zjn hg ho hu hFa
 generalize hU:decide (Zak a (ZbH o)=0)=U at cU
 have hnext:ZbP g a=((kd g.sorts k:Nat):Int)->(o.assoc=true->¬ a.op=t.op)->(o.unit≠0->U=false)->(o.comm=true->∀ (j:Nat) p,i=j+1->t.args[j]?=some p->Zak p a<=0)->i+1<=t.args.length∧∀ (j:Nat) a,j < i+1->t.args[j]?=some a->ArgOk g t.op o d t.args j a:=fun hkk hne hU' hc=>⟨by omega,fun j a' hj ha'=>by
  by_cases e:j=i
  ·subst e
   rw [ha] at ha'
   injection ha' with ha'
   subst ha'
   refine ⟨fun k' hk'=>?_,hne,fun h1 h2=>?_,hc⟩
   ·rw [hk] at hk'
    injection hk' with hk'
    subst hk'
    exact hkk
   ·have:=hU' h1
    rw [this] at hU
    simp only [decide_eq_false_iff_not] at hU
    exact hU ((hUiff h1).2 h2)
  ·exact hall j a' om ha'⟩
 have hkN:d.args[(argAt o i:Nat)]?=some k:=hk
 (have F:=ai @tmz (ai @hl' @ha);refine gG ?_;clear F)
 refine gM (ι:=Unit) [11] [] (fun u=>[(11,A.d (.one (.lit (.int .i64 (argAt o i:Nat)))))]) (fun u=>[]) (fun u=>True) ?_ (fun u hu=>Exists.intro _ (ai (Wk.refl _) ?_))
 ·rcases Bool.eq_false_or_eq_true o.assoc with hac | hac
  ·(have F:=ai @Zaj (ai @hac @ZjT);refine gG ?_;exact ⟨(),trivial,gw,gw⟩)
  ·(have F:=ai @Zaj (ai @hac (ai @ZjT @if_false.{1}));refine gG ?_;exact ⟨(),trivial,gw,gw⟩)
 (have F:=@tmz;refine gG ?_;clear F)
 refine gM (ι:=Bool) [76] [] (fun x=>[(76,A.d (.one (.lit (.bool x))))]) (fun x=>[]) (fun x=>(x=true->Zej g t.op t.args=false)∧(x=false->ZbP g a=((kd g.sorts k:Nat):Int)∧(o.assoc=true->¬ a.op=t.op)∧(o.unit≠0->U=false))) ?_ (fun x hx=>Exists.intro _ (ai (Wk.refl _) ?_))
 ·refine gB ?_
  (have F:=@tmz;refine gC (cKa) ?_;clear F)
  by_cases hkk:ZbP g a=((kd g.sorts k:Nat):Int)
  rotate_left
  ·have hf:=hnoA i a ha fun h=>hkk (h.kind k hk)
   (have F:=ai @tmz (ai @Zaj (ai @hd (ai @ZaS (ai @hkN (ai @hk0 (ai @hkd (ai @Za4 @hkk)))))));refine gR ?_;clear F)
   (have F:=@tmz;refine gG ?_;exact ⟨true,⟨fun _=>hf,fun h=>by cases h⟩,gw,gw⟩)
  by_cases hN:o.assoc=true∧a.op=t.op
  ·have hf:=hnoA i a ha fun h=>h.nest hN.1 hN.2
   obtain ⟨hN1,hN2⟩:=hN
   (have F:=ai @tmz (ai @Zaj (ai @hd (ai @ZaS (ai @hkN (ai @hk0 (ai @hkd (ai @Za4 (ai @hkk (ai @hN1 @hN2)))))))));refine gR ?_;clear F)
   (have F:=ai @tmz @hN1;refine gG ?_;exact ⟨true,⟨fun _=>hf,fun h=>by cases h⟩,gw,gw⟩)
  have hne:o.assoc=true->¬ a.op=t.op:=fun h1 h2=>hN ⟨h1,h2⟩
  rcases Bool.eq_false_or_eq_true o.assoc with hac | hac
  all_goals (
   by_cases hu:o.unit=0
   ·(have F:=ai @tmz (ai @Zaj (ai @hd (ai @ZaS (ai @hkN (ai @hk0 (ai @hkd (ai @Za4 (ai @hkk (ai @hac (ai @hne @hu))))))))));refine gR ?_;clear F)
    (have F:=ai @tmz (ai @hac @hu);refine gG ?_;exact ⟨false,⟨fun h=>(by cases h),fun _=>⟨hkk,hne,fun h=>absurd hu h⟩⟩,gw,gw⟩)
   (have F:=ai @tmz (ai @Zaj (ai @hd (ai @ZaS (ai @hkN (ai @hk0 (ai @hkd (ai @Za4 (ai @hkk (ai @hac (ai @hne @hu))))))))));refine gC (cU) ?_;clear F)
   rcases Bool.eq_false_or_eq_true U with hub | hub
   ·have hf:=hnoA i a ha fun h=>by
     rw [hub] at hU
     simp only [decide_eq_true_eq] at hU
     exact h.unit hu ((hUiff hu).1 hU)
    (have F:=ai @tmz @hub;refine gR ?_;clear F)
    (have F:=ai @tmz (ai @hac @hu);refine gG ?_;exact ⟨true,⟨fun _=>hf,fun h=>by cases h⟩,gw,gw⟩)
   ·(have F:=ai @tmz @hub;refine gR ?_;clear F)
    (have F:=ai @tmz (ai @hac @hu);refine gG ?_;exact ⟨false,⟨fun h=>(by cases h),fun _=>⟨hkk,hne,fun _=>hub⟩⟩,gw,gw⟩))
 cases x with
 | true =>
  have hf:=hx.1 rfl
  (have F:=@hf;refine gG ?_;exact gT)
 | false =>
  obtain ⟨hkk,hne,hub⟩:=hx.2 rfl
  (have F:=@tmz;refine gG ?_;clear F)
  rcases Bool.eq_false_or_eq_true o.comm with hcm | hcm
  rotate_left
  ·have hq:=hnext hkk hne hub (fun h=>by rw [hcm] at h;cases h)
   (have F:=ai @hw1 (ai @tmz (ai @Zaj @hcm));refine gG ?_;exact ⟨i+1,hq,gw,gw,by omega⟩)
  rcases Nat.eq_zero_or_pos i with hi0 | hi0
  ·have hq:=hnext hkk hne hub (fun _ j p h=>by omega)
   have hi0':¬ ((0:Int) < (i:Int)):=by omega
   (have F:=ai @hw1 (ai @tmz (ai @Zaj (ai @hcm @hi0')));refine gG ?_;exact ⟨i+1,hq,gw,gw,by omega⟩)
  obtain ⟨j,hj⟩:∃ j,i=j+1:=⟨i - 1,by omega⟩
  obtain ⟨p,hp⟩:∃ p,t.args[j]?=some p:=⟨_,List.getElem?_eq_getElem om⟩
  have cC:=Zew (k4.mem (List.mem_of_getElem? hp)) (k4.mem hm)
  have hgt0:(0:Int) < (i:Int):=by omega
  have hsub:IntKind.i64.wrap ((i:Int) - 1)=(j:Int):=ZaV om om om
  refine gB ?_
  (have F:=ai @tmz (ai @Zaj (ai @hcm (ai @hgt0 (ai @hsub @hp))));refine gC (cC) ?_;clear F)
  by_cases hc:0 < Zak p a
  ·have hf:=hnoA i a ha fun h=>by have:=h.ord hcm j p hj hp;omega
   (have F:=ai @tmz @hc;refine gR ?_;clear F)
   (have F:=@hf;refine gG ?_;exact gT)
  ·have hq:=hnext hkk hne hub (fun _ j' p' h hp'=>by
    have:j'=j:=by omega
    subst this
    rw [hp] at hp'
    injection hp' with hp'
    subst hp'
    omega)
   (have F:=ai @tmz @hc;refine gR ?_;clear F)
   (have F:=ai @hw1 (ai @tmz (ai @Zaj @hcm));refine gG ?_;exact ⟨i+1,hq,gw,gw,by omega⟩)
set_option maxRecDepth 100000 in
theorem Zm0 (hokg:Zdq g) (hg:SgnOk g):∀ (n:Nat) (t:Tm),sizeTm t < n->okTm t->sizeTm t<=big->Con e0 96 [.agg (ZaA g),.agg (Zae t)] [.one (.lit (.bool (ZbX g t)))]:=by
 intro n
 induction n with
 | zero=>intro t h;omega
 | succ n ih =>
  intro t hn hok hb
  have hno:¬ ZaM g t->ZbX g t=false:=Zjj
  obtain ⟨k1,k2,k3,k4⟩:=Zfq.1 hok
  have hsz:=Zbg t
  have hal:=ZbL t.args
  have cN:=Zu2 hg hok hb
  have hb':=hb
  unfold big at hb'
  rw [ZaA] at cN
  have ih':=fun a h1 h2 h3=>ih a h1 h2 h3
  simp only [ZaA] at ih'
  refine gI 16794175 Tryz.func96 ?_
  (have F:=ai @tmz @Zcd;refine gG ?_;clear F)
  refine gB ?_
  (have F:=@tmz;refine gC (cN) ?_;clear F)
  by_cases hN:ZeA g t=true
  rotate_left
  ·have hf:=hno fun h=>hN (ZfL h.node)
   have hN':ZeA g t=false:=by simpa using hN
   (have F:=ai @tmz @hN';refine gR ?_;clear F)
   (have F:=@hf;refine gG ?_;exact gT)
  have hNd:=Zu1.1 hN
  (have F:=ai @tmz @hN;refine gR ?_;clear F)
  (have F:=@tmz;refine gG ?_;clear F)
  (have F:=@e0P;refine gL (ι:=Nat) [4,5,14,24] [] (fun i=>[(5,A.d (.one (.lit (.int .i64 i))))]) (fun i=>[]) (fun i=>i<=t.args.length∧∀ (j:Nat) a,j < i->t.args[j]?=some a->ZaM g a) (fun i=>t.args.length - i) (0) (⟨by omega,fun j a h=>absurd h om⟩) (fun i hi=>?_);clear F)
  obtain ⟨hil,hall⟩:=hi
  by_cases hl:i < t.args.length
  rotate_left
  ·have hl':¬ ((i:Int) < (t.args.length:Int)):=by omega
   have hF:∀ a∈t.args,ZaM g a:=fun a ha=>by
    obtain ⟨j,hj⟩:=List.getElem?_of_mem ha
    exact hall j a (by have:=(List.getElem?_eq_some_iff.1 hj).1;omega) hj
   by_cases h1:t.op=-1
   ·have hT:=ZfJ (g:=g) (t:=t) (Zbj.2 ⟨hNd,hF,.inl h1⟩)
    (have F:=ai @tmz (ai @hl' (ai @h1 @hT));refine gG ?_;exact gT)
   obtain ⟨o,d,hA⟩:=hNd.app h1
   have cR:=Zrf hokg hg hA hF hok hb
   rw [ZaA] at cR
   have e:Zej g t.op t.args=ZbX g t:=by
    unfold Zej ZbX
    congr 1
    rw [Zbj]
    exact propext ⟨fun h=>⟨hNd,hF,.inr h⟩,fun h=>h.2.2.resolve_left h1⟩
   (have F:=ai @tmz (ai @hl' @h1);refine gG ?_;clear F)
   refine gB ?_
   (have F:=ai @tmz @h1;refine gC (cR) ?_;clear F)
   (have F:=@tmz;refine gR ?_;clear F)
   (have F:=@e;refine gG ?_;exact gT)
  have hl':(i:Int) < (t.args.length:Int):=by omega
  obtain ⟨a,ha⟩:∃ a,t.args[i]?=some a:=⟨_,List.getElem?_eq_getElem hl⟩
  have hm:=List.mem_of_getElem? ha
  have hsa:=Zbt hm
  have hw1:=Zay (k:=i) om
  (have F:=ai @tmz (ai @hl' @ha);refine gG ?_;clear F)
  refine gB ?_
  (have F:=ai @tmz @ha;refine gC (ih' a om (k4.mem hm) (by unfold big;omega)) ?_;clear F)
  by_cases hfa:ZbX g a=true
  rotate_left
  ·have hf:=hno fun h=>hfa (ZfJ ((Zbj.1 h).2.1 a hm))
   have hfa':ZbX g a=false:=by simpa using hfa
   (have F:=ai @tmz @hfa';refine gR ?_;clear F)
   (have F:=@hf;refine gG ?_;exact gT)
  have hq:i+1<=t.args.length∧∀ (j:Nat) a,j < i+1->t.args[j]?=some a->ZaM g a:=⟨by omega,fun j a' hj ha'=>by
   by_cases e:j=i
   ·subst e
    rw [ha] at ha'
    injection ha' with ha'
    subst ha'
    exact Zl1.1 hfa
   ·exact hall j a' om ha'⟩
  (have F:=ai @tmz @hfa;refine gR ?_;clear F)
  (have F:=ai @hw1 @tmz;refine gG ?_;exact ⟨i+1,hq,gw,gw,by omega⟩)
theorem Zu3 (hokg:Zdq g) (hg:SgnOk g) {t:Tm} (hok:okTm t) (hb:sizeTm t<=big):Con e0 96 [.agg (ZaA g),.agg (Zae t)] [.one (.lit (.bool (ZbX g t)))]:=Zm0 hokg hg _ t (Nat.lt_succ_self _) hok hb
set_option maxRecDepth 100000 in
theorem ZhP (hokg:Zdq g) {t:Tm} (hok:okTm t) (hb:sizeTm t<=big):Con e0 44 [.agg (ZaA g),.agg (Zae t)] [.one (.lit (.bool (ZbJ g && Zb3 g t)))]:=by
 have cS:=Zkm hokg
 rw [ZaA] at cS
 refine gI 31 Tryz.func44 ?_
 (have F:=ai @tmz @Zcd;refine gG ?_;clear F)
 refine gB ?_
 (have F:=@tmz;refine gC (cS) ?_;clear F)
 by_cases hs:ZbJ g=true
 rotate_left
 ·have hs':ZbJ g=false:=by simpa using hs
  (have F:=ai @tmz @hs';refine gR ?_;clear F)
  (have F:=@hs';refine gG ?_;exact gT)
 have hg:=ZeX.1 hs
 have cF:=Zu3 hokg hg hok hb
 rw [ZaA] at cF
 (have F:=ai @tmz @hs;refine gC (Zkt hb) ?_;clear F)
 by_cases h1:sizeTm t<=60∧depthTm t<=20
 rotate_left
 ·have hf:Zb3 g t=false:=Zjk fun h=>h1 ⟨h.size,h.depth⟩
  have h1':decide (sizeTm t<=60∧depthTm t<=20)=false:=by simp only [decide_eq_false_iff_not];exact h1
  (have F:=ai @tmz (ai @h1' @hs);refine gR ?_;clear F)
  (have F:=ai @hs @hf;refine gG ?_;exact gT)
 have h1':decide (sizeTm t<=60∧depthTm t<=20)=true:=by simp only [decide_eq_true_eq];exact h1
 have e:=Zko (g:=g) h1.1 h1.2
 (have F:=ai @tmz (ai @h1' @hs);refine gC (cF) ?_;clear F)
 (have F:=ai @tmz (ai @h1' @hs);refine gR ?_;clear F)
 (have F:=ai @hs @e;refine gG ?_;exact gT)
end
def Zbq (o:Opr) (op:Int) (a:Tm):List Tm:=if o.assoc=true∧a.op=op then a.args else if o.unit≠0∧a.op=o.unit - 1 then [] else [a]
def Zax (o:Opr) (op:Int) (xs:List Tm):List Tm:=xs.flatMap (Zbq o op)
def KArg (g:Sgn) (o:Opr) (d:Dcl) (i:Nat) (a:Tm):Prop:=∃ k,d.args[argAt o i]?=some k∧ZbP g a=kd g.sorts k
def srtO (o:Opr) (l:List Tm):List Tm:=if o.comm=true then Zaz l else l
def appT (op:Int) (l:List Tm):Tm:=.mk op ByteArray.empty 0 l
def BigT (o:Opr) (op:Int) (l:List Tm):Prop:=(o.assoc=true∧7 < l.length)∨60 < sizeTm (appT op l)∨20 < depthTm (appT op l)
def ArB (o:Opr) (d:Dcl) (n:Nat):Prop:=(o.assoc=true∧n < 2)∨(o.assoc=false∧n≠d.args.length)
open Classical in
noncomputable def mkL (o:Opr) (op:Int) (l:List Tm):Option Tm:=if o.unit≠0∧l.length < 2 then some (l.headD (ZbH o)) else if BigT o op (srtO o l) then none else some (appT op (srtO o l))
open Classical in
noncomputable def mkO (g:Sgn) (o:Opr) (d:Dcl) (op:Int) (xs:List Tm):Option Tm:=if ArB o d xs.length then none else if ∀ (i:Nat) a,xs[i]?=some a->KArg g o d i a then mkL o op (Zax o op xs) else none
noncomputable def mkT (g:Sgn) (op:Int) (xs:List Tm):Option Tm:=match g.ops[op.toNat]? with
 | none=>none
 | some o=>match o.decls[0]? with
  | none=>none
  | some d=>mkO g o d op xs
theorem Zy4 {g:Sgn} {op:Int} {o:Opr} {d:Dcl} (ho:g.ops[op.toNat]?=some o) (hd:o.decls[0]?=some d) (xs:List Tm):mkT g op xs=mkO g o d op xs:=by simp only [mkT,ho,hd]
theorem Zku {o:Opr} {op:Int} {xs:List Tm} {i:Nat} {a:Tm} (h:xs[i]?=some a):Zax o op (xs.take (i+1))=Zax o op (xs.take i)++Zbq o op a:=by
 rw [Zci h];simp [Zax]
theorem Zhf (o:Opr) (op:Int) (xs:List Tm) (i:Nat):(Zax o op (xs.take i)).length<=(Zax o op xs).length:=by
 have:Zax o op xs=Zax o op (xs.take i)++Zax o op (xs.drop i):=by
  unfold Zax
  rw [<- List.flatMap_append,List.take_append_drop]
 rw [this,List.length_append];omega
theorem Zf0 (o:Opr) (l:List Tm):(srtO o l).Perm l:=by
 unfold srtO
 split
 ·exact Zbn l
 ·exact List.Perm.refl _
theorem ZpX (o:Opr) (l:List Tm):(srtO o l).length=l.length:=(Zf0 o l).length_eq
theorem Zjo {l m:List Tm} (h:l.Perm m):sizeTms l=sizeTms m:=by
 induction h with
 | nil=>rfl
 | cons x h ih=>simp only [sizeTms,ih]
 | swap x y l=>simp only [sizeTms];omega
 | trans h1 h2 a b=>rw [a,b]
theorem ZiJ {l m:List Tm} (h:l.Perm m):depthTms l=depthTms m:=by
 induction h with
 | nil=>rfl
 | cons x h ih=>simp only [depthTms,ih]
 | swap x y l=>simp only [depthTms];omega
 | trans h1 h2 a b=>rw [a,b]
theorem Opr.two {g:Sgn} (hg:SgnOk g) {i:Nat} {o:Opr} {d:Dcl} (ho:g.ops[i]?=some o) (hd:o.decls[0]?=some d) (h:o.assoc=true∨o.comm=true∨o.unit≠0):∃ k1 k2,d.args=[k1,k2]∧kd g.sorts k1=kd g.sorts k2∧((o.assoc=true∨o.unit≠0)->kd g.sorts k1=kd g.sorts d.res):=by
 have h2:=(hg.axs o (List.mem_of_getElem? ho)).two h d hd
 obtain ⟨a,b,hab⟩:=ZpG h2.1
 have h3:=h2.2 a b (by rw [hab];rfl) (by rw [hab];rfl)
 exact ⟨a,b,hab,h3.1,h3.2.1⟩
theorem Zy5 {g:Sgn} (hg:SgnOk g) {i:Nat} {o:Opr} {d:Dcl} (ho:g.ops[i]?=some o) (hd:o.decls[0]?=some d) (hu:o.unit≠0):TermOk g (ZbH o)∧ZbP g (ZbH o)=kd g.sorts d.res:=by
 have hax:=hg.axs o (List.mem_of_getElem? ho)
 have hlo:=hax.lo
 have hhi:=hax.hi
 obtain ⟨k1,k2,hk,_⟩:=Opr.two hg ho hd (.inr (.inr hu))
 obtain ⟨p,hp⟩:∃ p,g.ops[o.unit.toNat - 1]?=some p:=⟨_,List.getElem?_eq_getElem om⟩
 obtain ⟨u,hfu,_⟩:=hg.first hp
 have h2:=((hax.two (.inr (.inr hu)) d hd).2 k1 k2 (by rw [hk];rfl) (by rw [hk];rfl)).2.2 hu p u hp hfu
 have e:ZbH o=.mk (o.unit - 1) ByteArray.empty 0 []:=by simp only [ZbH,if_neg hu]
 have hop:((o.unit - 1:Int)).toNat=o.unit.toNat - 1:=by omega
 have has:p.assoc=false:=by
  cases hpa:p.assoc with
  | false=>rfl
  | true=>have:=((hg.axs p (List.mem_of_getElem? hp)).two (.inl hpa) u hfu).1;omega
 have hA:AppOk g (ZbH o) p u:=by
  rw [e]
  exact ⟨by simp only [Tm.op];omega,by simp only [Tm.op];rw [hop];exact hp,hfu,rfl,rfl,fun h=>(by rw [has] at h;cases h),fun _=>by simp only [Tm.args,List.length_nil];omega⟩
 refine ⟨⟨?_,?_,Zbj.2 ⟨.inr ⟨p,u,hA⟩,?_,.inr ?_⟩⟩,?_⟩
 ·rw [e];simp only [sizeTm,sizeTms];omega
 ·rw [e];simp only [depthTm,depthTms];omega
 ·rw [e];intro a ha;simp [Tm.args] at ha
 ·rw [e];intro o' d' _ _ j a ha;simp [Tm.args] at ha
 ·have hneg:¬ ((ZbH o).op=-1):=hA.op
  rw [ZbP,if_neg hneg,e]
  simp only [Tm.op]
  rw [Zij (by rw [hop];exact hp) hfu,h2.2]
structure FlOk (g:Sgn) (o:Opr) (op:Int) (b:Tm):Prop where
 form:ZaM g b
 size:sizeTm b<=60
 depth:depthTm b<=20
 nest:o.assoc=true->b.op≠op
 unit:o.unit≠0->b.op≠o.unit - 1
theorem ZFO {g:Sgn} (hg:SgnOk g) {op:Int} {o:Opr} {d:Dcl} (h0:0<=op) (ho:g.ops[op.toNat]?=some o) (hd:o.decls[0]?=some d) {a:Tm} (ha:TermOk g a):∀ b∈Zbq o op a,FlOk g o op b:=by
 intro b hb
 unfold Zbq at hb
 split at hb
 ·rename_i h
  obtain ⟨h1,h2⟩:=h
  obtain ⟨_,f2,f3⟩:=Zbj.1 ha.form
  have hR:=f3.resolve_left om
  rw [h2] at hR
  obtain ⟨j,hj⟩:=List.getElem?_of_mem hb
  have hA:=hR o d ho hd j b hj
  have s1:=Zbt hb
  have s2:=Zjg hb
  have s3:=ha.size
  have s4:=ha.depth
  rw [Zbg] at s3
  rw [Zgl] at s4
  exact ⟨f2 b hb,by omega,by omega,hA.nest,hA.unit⟩
 ·rename_i h
  split at hb
  ·simp at hb
  ·rename_i h'
   simp only [List.mem_singleton] at hb
   subst hb
   exact ⟨ha.form,ha.size,ha.depth,fun h1 h2=>h ⟨h1,h2⟩,fun h1 h2=>h' ⟨h1,h2⟩⟩
theorem Zy6 {g:Sgn} (hg:SgnOk g) {op:Int} {o:Opr} {d:Dcl} (h0:0<=op) (ho:g.ops[op.toNat]?=some o) (hd:o.decls[0]?=some d) {xs:List Tm} (ha:∀ a∈xs,TermOk g a):∀ b∈Zax o op xs,FlOk g o op b:=by
 intro b hb
 obtain ⟨a,h1,h2⟩:=List.mem_flatMap.1 hb
 exact ZFO hg h0 ho hd (ha a h1) b h2
theorem ZEE {g:Sgn} (hg:SgnOk g) {op:Int} {o:Opr} {d:Dcl} {k1 k2:Int} (h0:0<=op) (ho:g.ops[op.toNat]?=some o) (hd:o.decls[0]?=some d) (hk:d.args=[k1,k2]) (hkk:kd g.sorts k1=kd g.sorts k2) {a:Tm} (ha:TermOk g a) {i:Nat} (hK:KArg g o d i a):∀ b∈Zbq o op a,ZbP g b=kd g.sorts k1:=by
 have hat:∀ (j:Nat) k,d.args[j]?=some k->kd g.sorts k=kd g.sorts k1:=fun j k h=>by
  rw [hk] at h
  match j,h with
  | 0,h=>simp only [List.getElem?_cons_zero,Option.some.injEq] at h;rw [h]
  | 1,h=>simp only [List.getElem?_cons_succ,List.getElem?_cons_zero,Option.some.injEq] at h;rw [<- h,hkk]
  | j+2,h=>simp at h
 intro b hb
 unfold Zbq at hb
 split at hb
 ·rename_i h
  obtain ⟨h1,h2⟩:=h
  obtain ⟨_,f2,f3⟩:=Zbj.1 ha.form
  have hR:=f3.resolve_left om
  rw [h2] at hR
  obtain ⟨j,hj⟩:=List.getElem?_of_mem hb
  exact (hR o d ho hd j b hj).kind k1 (by rw [argAt,if_pos h1,hk];rfl)
 ·split at hb
  ·simp at hb
  ·simp only [List.mem_singleton] at hb
   subst hb
   obtain ⟨k,h1,h2⟩:=hK
   rw [h2,hat _ _ h1]
theorem Zkv {g:Sgn} (hg:SgnOk g) {op:Int} {o:Opr} {d:Dcl} {k1 k2:Int} (h0:0<=op) (ho:g.ops[op.toNat]?=some o) (hd:o.decls[0]?=some d) (hk:d.args=[k1,k2]) (hkk:kd g.sorts k1=kd g.sorts k2) {xs:List Tm} (ha:∀ a∈xs,TermOk g a) (hK:∀ (i:Nat) a,xs[i]?=some a->KArg g o d i a):∀ b∈Zax o op xs,ZbP g b=kd g.sorts k1:=by
 intro b hb
 obtain ⟨a,h1,h2⟩:=List.mem_flatMap.1 hb
 obtain ⟨i,hi⟩:=List.getElem?_of_mem h1
 exact ZEE hg h0 ho hd hk hkk (ha a h1) (hK i a hi) b h2
theorem Zy7 {o:Opr} {op:Int} (has:o.assoc=false) (a:Tm):(Zbq o op a).length<=1∧((Zbq o op a).length=1->Zbq o op a=[a]):=by
 unfold Zbq
 rw [if_neg fun h=>by rw [has] at h;cases h.1]
 split <;> simp
theorem Zjp {o:Opr} {op:Int} (has:o.assoc=false):∀ (xs:List Tm),(Zax o op xs).length<=xs.length∧((Zax o op xs).length=xs.length->Zax o op xs=xs)
 | []=>⟨Nat.le_refl _,fun _=>rfl⟩
 | a::xs=>by
  obtain ⟨i1,i2⟩:=Zjp (op:=op) has xs
  obtain ⟨j1,j2⟩:=Zy7 (op:=op) has a
  have e:Zax o op (a::xs)=Zbq o op a++Zax o op xs:=rfl
  rw [e,List.length_append,List.length_cons]
  refine ⟨by omega,fun h=>?_⟩
  rw [j2 om,i2 om];rfl
theorem Zkw {o:Opr} {op:Int} (has:o.assoc=false) (hu:o.unit=0) (xs:List Tm):Zax o op xs=xs:=by
 induction xs with
 | nil=>rfl
 | cons a xs ih =>
  have e:Zax o op (a::xs)=Zbq o op a++Zax o op xs:=rfl
  rw [e,ih]
  unfold Zbq
  rw [if_neg (fun h=>by rw [has] at h;cases h.1),if_neg fun h=>h.1 hu];rfl
theorem Zmb {o:Opr} {op:Int} {g:Sgn} (hg:SgnOk g) (h0:0<=op) (ho:g.ops[op.toNat]?=some o) (hac:o.assoc=true) (hu:o.unit=0):∀ {xs:List Tm},(∀ a∈xs,TermOk g a)->xs.length<=(Zax o op xs).length
 | [],_=>Nat.le_refl _
 | a::xs,ha=>by
  have ih:=Zmb hg h0 ho hac hu (xs:=xs) fun x hx=>ha x (List.mem_cons_of_mem _ hx)
  have e:Zax o op (a::xs)=Zbq o op a++Zax o op xs:=rfl
  rw [e,List.length_append,List.length_cons]
  have:1<=(Zbq o op a).length:=by
   unfold Zbq
   split
   ·rename_i h
    obtain ⟨o',d',hA⟩:=(ha a List.mem_cons_self).form.node.app om
    have:o'=o:=by have:=hA.at';rw [h.2,ho] at this;injection this with this;exact this.symm
    subst this
    have:=(hA.asc hac).1
    omega
   ·rw [if_neg fun h=>h.1 hu];simp
  omega
theorem ZFm {g:Sgn} (hg:SgnOk g) {op:Int} {o:Opr} {d:Dcl} (h0:0<=op) (ho:g.ops[op.toNat]?=some o) (hd:o.decls[0]?=some d) {xs:List Tm} (ha:∀ a∈xs,TermOk g a) {t:Tm} (h:mkO g o d op xs=some t):TermOk g t∧ZbP g t=kd g.sorts d.res:=by
 unfold mkO at h
 split at h
 ·cases h
 rename_i hAr
 split at h
 rotate_left
 ·cases h
 rename_i hK
 have hfl:=Zy6 hg h0 ho hd ha
 unfold mkL at h
 split at h
 ·rename_i hu
  obtain ⟨hu,hl⟩:=hu
  injection h with h
  have hU:=Zy5 hg ho hd hu
  obtain ⟨k1,k2,hk,hkk,hkr⟩:=Opr.two hg ho hd (.inr (.inr hu))
  have hfk:=Zkv hg h0 ho hd hk hkk ha hK
  cases hf:Zax o op xs with
  | nil=>rw [hf] at h;simp only [List.headD] at h;subst h;exact hU
  | cons b bs =>
   rw [hf] at h hfl hfk
   simp only [List.headD] at h
   subst h
   have hb:=hfl b List.mem_cons_self
   exact ⟨⟨hb.size,hb.depth,hb.form⟩,by rw [hfk b List.mem_cons_self,hkr (.inr hu)]⟩
 ·rename_i hu
  split at h
  ·cases h
  rename_i hB
  injection h with h
  subst h
  have hB1:¬ (o.assoc=true∧7 < (srtO o (Zax o op xs)).length):=fun q=>hB (.inl q)
  have hB2:¬ 60 < sizeTm (appT op (srtO o (Zax o op xs))):=fun q=>hB (.inr (.inl q))
  have hB3:¬ 20 < depthTm (appT op (srtO o (Zax o op xs))):=fun q=>hB (.inr (.inr q))
  have hp:=Zf0 o (Zax o op xs)
  have hsl:=hp.length_eq
  have hmem:∀ b,b∈srtO o (Zax o op xs) ↔ b∈Zax o op xs:=fun b=>hp.mem_iff
  have hneg:¬ ((appT op (srtO o (Zax o op xs))).op=-1):=by simp only [appT,Tm.op];omega
  refine ⟨⟨by omega,by omega,Zbj.2 ⟨.inr ⟨o,d,h0,ho,hd,rfl,rfl,fun hac=>?_,fun has=>?_⟩,fun a hm=>(hfl a ((hmem a).1 hm)).form,.inr ?_⟩⟩,?_⟩
  ·simp only [appT,Tm.args]
   have:¬ (xs.length < 2):=fun q=>hAr (.inl ⟨hac,q⟩)
   by_cases hu0:o.unit=0
   ·have:=Zmb hg h0 ho hac hu0 ha
    exact ⟨by omega,by have:¬ (7 < (srtO o (Zax o op xs)).length):=fun q=>hB1 ⟨hac,q⟩;omega⟩
   ·exact ⟨by have:¬ ((Zax o op xs).length < 2):=fun q=>hu ⟨hu0,q⟩;omega,by have:¬ (7 < (srtO o (Zax o op xs)).length):=fun q=>hB1 ⟨hac,q⟩;omega⟩
  ·simp only [appT,Tm.args]
   have hlen:xs.length=d.args.length:=Classical.byContradiction fun q=>hAr (.inr ⟨has,q⟩)
   rw [hsl]
   by_cases hu0:o.unit=0
   ·rw [Zkw has hu0,hlen]
   ·obtain ⟨k1,k2,hk,_⟩:=Opr.two hg ho hd (.inr (.inr hu0))
    have h1:=(Zjp (op:=op) has xs).1
    have:¬ ((Zax o op xs).length < 2):=fun q=>hu ⟨hu0,q⟩
    rw [hlen,hk] at h1
    rw [hk]
    simp only [List.length_cons,List.length_nil] at h1 ⊢
    omega
  ·intro o' d' ho' hd' i a hi
   simp only [appT,Tm.op] at ho'
   rw [ho] at ho'
   injection ho' with ho'
   subst ho'
   rw [hd] at hd'
   injection hd' with hd'
   subst hd'
   simp only [appT,Tm.args] at hi ⊢
   have hm:=List.mem_of_getElem? hi
   have hf:=hfl a ((hmem a).1 hm)
   refine ⟨fun k hk=>?_,hf.nest,hf.unit,fun hc j p hij hj=>?_⟩
   ·by_cases hax:o.assoc=true∨o.comm=true∨o.unit≠0
    ·obtain ⟨k1,k2,hka,hkk,_⟩:=Opr.two hg ho hd hax
     have hfk:=Zkv hg h0 ho hd hka hkk ha hK a ((hmem a).1 hm)
     rw [hfk]
     have:kd g.sorts k=kd g.sorts k1:=by
      generalize argAt o i=n at hk
      rw [hka] at hk
      match n,hk with
      | 0,hk=>simp only [List.getElem?_cons_zero,Option.some.injEq] at hk;rw [hk]
      | 1,hk=>simp only [List.getElem?_cons_succ,List.getElem?_cons_zero,Option.some.injEq] at hk;rw [<- hk,hkk]
      | n+2,hk=>simp at hk
     rw [this]
    ·have has:o.assoc=false:=by cases h:o.assoc with | false=>rfl | true=>exact absurd (.inl h) hax
     have hc:o.comm=false:=by cases h:o.comm with | false=>rfl | true=>exact absurd (.inr (.inl h)) hax
     have hu0:o.unit=0:=Classical.byContradiction fun q=>hax (.inr (.inr q))
     rw [srtO,if_neg (by rw [hc];simp),Zkw has hu0] at hi
     obtain ⟨k',h1,h2⟩:=hK i a hi
     rw [hk] at h1
     injection h1 with h1
     rw [h2,h1]
   ·rw [srtO,if_pos hc] at hi hj
    exact (Zcz _).get om hj hi
  ·rw [ZbP,if_neg hneg]
   simp only [appT,Tm.op]
   rw [Zij ho hd]
theorem ZaM.ok {g:Sgn} (hg:SgnOk g):∀ (n:Nat) (t:Tm),sizeTm t < n->ZaM g t->okTm t:=by
 intro n
 induction n with
 | zero=>intro t h;omega
 | succ n ih =>
  intro t hn hf
  obtain ⟨h1,h2,_⟩:=Zbj.1 hf
  have hargs:ZbA t.args:=by
   have:∀ l:List Tm,(∀ a∈l,okTm a)->ZbA l:=fun l=>by
    induction l with
    | nil=>intro _;trivial
    | cons x xs ih=>intro h;exact ⟨h x List.mem_cons_self,ih fun a ha=>h a (List.mem_cons_of_mem _ ha)⟩
   refine this _ fun a ha=>ih a ?_ (h2 a ha)
   have:=Zbt ha
   rw [Zbg] at hn
   omega
  rw [Zfq]
  have hsn:g.sorts.names.length<=8:=hg.sorts.n8
  rcases h1 with hv | ⟨o,d,hA⟩
  ·obtain ⟨v1,v2,v3,v4,v5⟩:=hv
   have:t.name.size<=12:=by unfold Zbm at v2;simp only [Bool.and_eq_true,decide_eq_true_eq] at v2;exact v2.1.1.1.2
   exact ⟨by unfold I64;omega,by unfold maxLen;omega,by unfold I64;omega,hargs⟩
  ·have h3:=hA.lo
   have h4:=(List.getElem?_eq_some_iff.1 hA.at').1
   have h5:=hg.len
   rw [hA.nm,hA.so]
   exact ⟨by unfold I64;omega,by simp [maxLen],by unfold I64;omega,hargs⟩
theorem TermOk.ok {g:Sgn} (hg:SgnOk g) {t:Tm} (h:TermOk g t):okTm t:=ZaM.ok hg _ t (Nat.lt_succ_self _) h.form
theorem TermOk.arg {g:Sgn} {t a:Tm} (h:TermOk g t) (ha:a∈t.args):TermOk g a:=by
 have s1:=Zbt ha
 have s2:=Zjg ha
 have s3:=h.size
 have s4:=h.depth
 rw [Zbg] at s3
 rw [Zgl] at s4
 exact ⟨by omega,by omega,(Zbj.1 h.form).2.1 a ha⟩
theorem TermOk.app {g:Sgn} {t a:Tm} (h:TermOk g t) (ha:a∈t.args):∃ o d,AppOk g t o d:=by
 rcases h.form.node with hv | h
 ·rw [hv.2.2.2.2] at ha;cases ha
 ·exact h
theorem ZFn {g:Sgn} (hg:SgnOk g) {op:Int} (h0:0<=op) {xs:List Tm} (ha:∀ a∈xs,TermOk g a) {t:Tm} (h:mkT g op xs=some t):TermOk g t:=by
 unfold mkT at h
 cases ho:g.ops[op.toNat]? with
 | none=>rw [ho] at h;cases h
 | some o =>
  rw [ho] at h
  simp only at h
  cases hd:o.decls[0]? with
  | none=>rw [hd] at h;cases h
  | some d =>
   rw [hd] at h
   exact (ZFm hg h0 ho hd ha h).1
theorem ZpY {g:Sgn} {t:Tm} (h:TermOk g t):t.args.length<=60:=by
 have h1:=h.size
 rw [Zbg] at h1
 have:=ZbL t.args
 omega
theorem Zc8 {r:List C} (h:Zao (Zab .binding) r):∃ (i0:Int) (t1:ByteArray) (i2:Int) (r3:List (List C)) (i4:Int) (t5:ByteArray) (i6:Int) (r7:List (List C)),r=[.lit (.int .i64 i0),.lit (.string t1),.lit (.int .i64 i2),.sl r3,.lit (.int .i64 i4),.lit (.string t5),.lit (.int .i64 i6),.sl r7]∧I64 i0∧t1.size<=maxLen∧I64 i2∧Zam (Zab .term) r3∧I64 i4∧t5.size<=maxLen∧I64 i6∧Zam (Zab .term) r7:=by
 obtain ⟨c0,c1,c2,c3,c4,c5,c6,c7,rfl⟩:=len8 h.len
 simp only [Zab,Za7,occF,Zbh,sigF,Zbz,algF,List.cons_append,List.nil_append,Zao,and_true] at h
 obtain ⟨h0,h1,h2,h3,h4,h5,h6,h7⟩:=h
 obtain ⟨i0,rfl,g0⟩:=Zdv h0
 obtain ⟨t1,rfl,g1⟩:=ZhD h1
 obtain ⟨i2,rfl,g2⟩:=Zdv h2
 obtain ⟨r3,rfl,g3⟩:=Zd0 h3
 obtain ⟨i4,rfl,g4⟩:=Zdv h4
 obtain ⟨t5,rfl,g5⟩:=ZhD h5
 obtain ⟨i6,rfl,g6⟩:=Zdv h6
 obtain ⟨r7,rfl,g7⟩:=Zd0 h7
 exact ⟨i0,t1,i2,r3,i4,t5,i6,r7,rfl,g0,g1,g2,g3,g4,g5,g6,g7⟩
theorem Zoi {i0:Int} {t1:ByteArray} {i2:Int} {r3:List (List C)} {i4:Int} {t5:ByteArray} {i6:Int} {r7:List (List C)} (g0:I64 i0) (g1:t1.size<=maxLen) (g2:I64 i2) (g3:Zam (Zab .term) r3) (g4:I64 i4) (g5:t5.size<=maxLen) (g6:I64 i6) (g7:Zam (Zab .term) r7):Zao (Zab .binding) [.lit (.int .i64 i0),.lit (.string t1),.lit (.int .i64 i2),.sl r3,.lit (.int .i64 i4),.lit (.string t5),.lit (.int .i64 i6),.sl r7]:=by
 simp only [Zab,Za7,occF,Zbh,sigF,Zbz,algF,List.cons_append,List.nil_append,Zao,and_true]
 exact ⟨Zgz g0,Zld g1,Zgz g2,Zh1 g3,Zgz g4,Zld g5,Zgz g6,Zh1 g7⟩
theorem ZdZ {w:World} {S:Nat->Prop} {i0:Int} {t1:ByteArray} {i2:Int} {r3:List (List C)} {i4:Int} {t5:ByteArray} {i6:Int} {r7:List (List C)} {us:List Value} (h:Zaa w S [.lit (.int .i64 i0),.lit (.string t1),.lit (.int .i64 i2),.sl r3,.lit (.int .i64 i4),.lit (.string t5),.lit (.int .i64 i6),.sl r7] us):∃ v3 v7,us=[.int .i64 i0,.string t1,.int .i64 i2,v3,.int .i64 i4,.string t5,.int .i64 i6,v7]∧Rep w S (.sl r3) v3∧Rep w S (.sl r7) v7:=by
 obtain ⟨u0,u1,u2,u3,u4,u5,u6,u7,rfl⟩:=len8 h.len
 simp only [Zaa,Rep.lit_iff,and_true] at h
 obtain ⟨rfl,rfl,rfl,e3,rfl,rfl,rfl,e7⟩:=h
 exact ⟨u3,u7,rfl,e3,e7⟩
def Zio (row:List C):Prop:=∀ (S:Nat->Prop) (us:List Value) (left:Int) (w:World),Zao (Zab .binding) row->Zaa w S row us->0<=left->left<=1048576 ->
 Calls Tryz.prog 57 #[.agg us.toArray,.int .i64 left] w fun e w'=>e=.returned (.int .i64 (sub left (bulkRow row)))∧Below w.heap.size w w'
def Zip (row:List C):Prop:=∀ (S S':Nat->Prop) (us us':List Value) (w:World),Zao (Zab .binding) row->Zaa w S row us->Zaa w S' row us' ->
 Calls Tryz.prog 63 #[.agg us.toArray,.agg us'.toArray] w fun e w'=>e=.returned (.bool true)∧Below w.heap.size w w'
def Ziq (row:List C):Prop:=∀ (S:Nat->Prop) (us:List Value) (w:World),Zao (Zab .binding) row->Zaa w S row us->bulkRow row<=1048576 ->
 Calls Tryz.prog 59 #[.agg us.toArray] w fun e w'=>∃ us':List Value,e=.returned (.agg us'.toArray)∧Zad w' row (fun x=>w.heap.size<=x∧x < w'.heap.size) us'∧Below w.heap.size w w'
def Zkx (rows:List (List C)):Prop:=∀ (S:Nat->Prop) (v:Value) (left:Int) (w:World),Zam (Zab .binding) rows->Rep w S (.sl rows) v->0<=left->left<=1048576 ->
 Calls Tryz.prog 19 #[v,.int .i64 left] w fun e w'=>e=.returned (.int .i64 (sub left (rows.length+Zac rows)))∧Below w.heap.size w w'
def Zky (rows:List (List C)):Prop:=∀ (S S':Nat->Prop) (v v':Value) (w:World),Zam (Zab .binding) rows->Rep w S (.sl rows) v->Rep w S' (.sl rows) v' ->
 Calls Tryz.prog 23 #[v,v'] w fun e w'=>e=.returned (.bool true)∧Below w.heap.size w w'
def Zkz (rows:List (List C)):Prop:=∀ (S:Nat->Prop) (v:Value) (w:World),Zam (Zab .binding) rows->Rep w S (.sl rows) v->rows.length+Zac rows<=1048576 ->
 Calls Tryz.prog 21 #[v] w fun e w'=>∃ v',e=.returned v'∧Own w' (.sl rows) (fun x=>w.heap.size<=x∧x < w'.heap.size) v'∧Below w.heap.size w w'
theorem ZpZ (row:List C):Zio row:=by
 intro S us left w hok hv h0 h1
 obtain ⟨i0,t1,i2,r3,i4,t5,i6,r7,rfl,g0,g1,g2,g3,g4,g5,g6,g7⟩:=Zc8 hok
 obtain ⟨v3,v7,rfl,e3,e7⟩:=ZdZ hv
 have HC0:=Lib.hid (ZlI [.lit (.int .i64 i0),.lit (.string t1),.lit (.int .i64 i2),.sl r3])
 have HC4:=Lib.hid (ZlI [.lit (.int .i64 i4),.lit (.string t5),.lit (.int .i64 i6),.sl r7])
 have HB:=Lib.hid (show bulkRow [.lit (.int .i64 i0),.lit (.string t1),.lit (.int .i64 i2),.sl r3,.lit (.int .i64 i4),.lit (.string t5),.lit (.int .i64 i6),.sl r7]=(bulkRow [.lit (.int .i64 i0),.lit (.string t1),.lit (.int .i64 i2),.sl r3])+(bulkRow [.lit (.int .i64 i4),.lit (.string t5),.lit (.int .i64 i6),.sl r7]) from by simp only [bulkRow,ZbT];omega)
 have G0:=Lib.hid g0
 have G1:=Lib.hid g1
 have G2:=Lib.hid g2
 have G3:=Lib.hid g3
 have G4:=Lib.hid g4
 have G5:=Lib.hid g5
 have G6:=Lib.hid g6
 have G7:=Lib.hid g7
 clear g0 g1 g2 g3 g4 g5 g6 g7 hok
 have E3:=Lib.hid e3
 have E7:=Lib.hid e7
 clear hv e3 e7
 generalize hrow:bulkRow [.lit (.int .i64 i0),.lit (.string t1),.lit (.int .i64 i2),.sl r3,.lit (.int .i64 i4),.lit (.string t5),.lit (.int .i64 i6),.sl r7]=total at HB ⊢
 clear hrow
 have hbw:=(Below.refl w.heap.size w).alloc (Nat.le_refl _) (.cells #[.int .i64 i0,.string t1,.int .i64 i2,v3,.int .i64 i4,.string t5,.int .i64 i6,v7] 100)
 go_enter Tryz.func57,Tryz.ntmps57
 go_wp2_with fail
 by_cases q0:left < ((bulkRow [.lit (.int .i64 i0),.lit (.string t1),.lit (.int .i64 i2),.sl r3]):Nat)
 ·refine (HC0.out S _ _ _ (ZcP G0.out G1.out G2.out G3.out) (Zcf (E3.out.below hbw)) om om).mono ?_
  rw [ZaW om]
  rintro e w1 ⟨rfl,hb1⟩
  go_wp2
  go_ret
  exact ⟨ZaF (a:=-1) (ZaW (by have:=HB.out;omega)).symm,hbw.trans (hb1.mono hbw.size)⟩
 refine (HC0.out S _ _ _ (ZcP G0.out G1.out G2.out G3.out) (Zcf (E3.out.below hbw)) om om).mono ?_
 rw [Zbe om]
 rintro e w1 ⟨rfl,hb1⟩
 obtain ⟨hc1,hf1⟩:=ZbU hb1
 have hz1:w.heap.size < w1.heap.size:=(by have:=hb1.size;(try simp at this);omega)
 replace hbw:=hbw.trans (hb1.mono hbw.size)
 go_wp2_with fail
 by_cases q4:(left - (((bulkRow [.lit (.int .i64 i0),.lit (.string t1),.lit (.int .i64 i2),.sl r3]):Nat):Int)) < ((bulkRow [.lit (.int .i64 i4),.lit (.string t5),.lit (.int .i64 i6),.sl r7]):Nat)
 ·refine (HC4.out S _ _ _ (ZcP G4.out G5.out G6.out G7.out) (Zcf (E7.out.below hbw)) om om).mono ?_
  rw [ZaW om]
  rintro e w2 ⟨rfl,hb2⟩
  go_wp2
  go_ret
  exact ⟨ZaF (a:=-1) (ZaW (by have:=HB.out;omega)).symm,hbw.trans (hb2.mono hbw.size)⟩
 refine (HC4.out S _ _ _ (ZcP G4.out G5.out G6.out G7.out) (Zcf (E7.out.below hbw)) om om).mono ?_
 rw [Zbe om]
 rintro e w2 ⟨rfl,hb2⟩
 obtain ⟨hc2,hf2⟩:=ZbU hb2
 have hz2:w.heap.size < w2.heap.size:=(by have:=hb2.size;(try simp at this);omega)
 replace hbw:=hbw.trans (hb2.mono hbw.size)
 go_wp2
 go_ret
 exact ⟨ZaF (by have:=HB.out;rw [Zbe om];omega),hbw⟩
theorem Zp0 (row:List C):Zip row:=by
 intro S S' us us' w hok hv hv'
 obtain ⟨i0,t1,i2,r3,i4,t5,i6,r7,rfl,g0,g1,g2,g3,g4,g5,g6,g7⟩:=Zc8 hok
 obtain ⟨v3,v7,rfl,e3,e7⟩:=ZdZ hv
 obtain ⟨x3,x7,rfl,d3,d7⟩:=ZdZ hv'
 have HC0:=Lib.hid (ZlJ [.lit (.int .i64 i0),.lit (.string t1),.lit (.int .i64 i2),.sl r3])
 have HC4:=Lib.hid (ZlJ [.lit (.int .i64 i4),.lit (.string t5),.lit (.int .i64 i6),.sl r7])
 have G0:=Lib.hid g0
 have G1:=Lib.hid g1
 have G2:=Lib.hid g2
 have G3:=Lib.hid g3
 have G4:=Lib.hid g4
 have G5:=Lib.hid g5
 have G6:=Lib.hid g6
 have G7:=Lib.hid g7
 clear g0 g1 g2 g3 g4 g5 g6 g7 hok
 have E3:=Lib.hid e3
 have D3:=Lib.hid d3
 have E7:=Lib.hid e7
 have D7:=Lib.hid d7
 clear hv hv' e3 d3 e7 d7
 have hbw:=((Below.refl w.heap.size w).alloc (Nat.le_refl _) (.cells #[.int .i64 i0,.string t1,.int .i64 i2,v3,.int .i64 i4,.string t5,.int .i64 i6,v7] 102)).alloc (by simp) (.cells #[.int .i64 i0,.string t1,.int .i64 i2,x3,.int .i64 i4,.string t5,.int .i64 i6,x7] 102)
 go_enter Tryz.func63,Tryz.ntmps63
 go_wp2_with fail
 refine (HC0.out S S' _ _ _ (ZcP G0.out G1.out G2.out G3.out) (Zcf (E3.out.below hbw)) (Zcf (D3.out.below hbw))).mono ?_
 rintro e w1 ⟨rfl,hb1⟩
 obtain ⟨hc1,hf1⟩:=ZbU hb1
 have hz1:w.heap.size+1 < w1.heap.size:=(by have:=hb1.size;(try simp at this);omega)
 have ha1:w.heap.size < w1.heap.size:=by omega
 replace hbw:=hbw.trans (hb1.mono hbw.size)
 go_wp2_with fail
 refine (HC4.out S S' _ _ _ (ZcP G4.out G5.out G6.out G7.out) (Zcf (E7.out.below hbw)) (Zcf (D7.out.below hbw))).mono ?_
 rintro e w2 ⟨rfl,hb2⟩
 obtain ⟨hc2,hf2⟩:=ZbU hb2
 have hz2:w.heap.size+1 < w2.heap.size:=(by have:=hb2.size;(try simp at this);omega)
 have ha2:w.heap.size < w2.heap.size:=by omega
 replace hbw:=hbw.trans (hb2.mono hbw.size)
 go_wp2
 go_ret
 exact ⟨rfl,hbw⟩
theorem Zp1 (row:List C):Ziq row:=by
 intro S us w hok hv hlen
 obtain ⟨i0,t1,i2,r3,i4,t5,i6,r7,rfl,g0,g1,g2,g3,g4,g5,g6,g7⟩:=Zc8 hok
 obtain ⟨v3,v7,rfl,e3,e7⟩:=ZdZ hv
 have HC0:=Lib.hid (ZlK [.lit (.int .i64 i0),.lit (.string t1),.lit (.int .i64 i2),.sl r3])
 have HC4:=Lib.hid (ZlK [.lit (.int .i64 i4),.lit (.string t5),.lit (.int .i64 i6),.sl r7])
 have G0:=Lib.hid g0
 have G1:=Lib.hid g1
 have G2:=Lib.hid g2
 have G3:=Lib.hid g3
 have G4:=Lib.hid g4
 have G5:=Lib.hid g5
 have G6:=Lib.hid g6
 have G7:=Lib.hid g7
 clear g0 g1 g2 g3 g4 g5 g6 g7 hok
 have E3:=Lib.hid e3
 have E7:=Lib.hid e7
 clear hv e3 e7
 have hl0:(bulkRow [.lit (.int .i64 i0),.lit (.string t1),.lit (.int .i64 i2),.sl r3])<=1048576:=by
  have e:(bulkRow [.lit (.int .i64 i0),.lit (.string t1),.lit (.int .i64 i2),.sl r3])<=bulkRow [.lit (.int .i64 i0),.lit (.string t1),.lit (.int .i64 i2),.sl r3,.lit (.int .i64 i4),.lit (.string t5),.lit (.int .i64 i6),.sl r7]:=by simp only [bulkRow,ZbT];omega
  exact Nat.le_trans e hlen
 have hl4:(bulkRow [.lit (.int .i64 i4),.lit (.string t5),.lit (.int .i64 i6),.sl r7])<=1048576:=by
  have e:(bulkRow [.lit (.int .i64 i4),.lit (.string t5),.lit (.int .i64 i6),.sl r7])<=bulkRow [.lit (.int .i64 i0),.lit (.string t1),.lit (.int .i64 i2),.sl r3,.lit (.int .i64 i4),.lit (.string t5),.lit (.int .i64 i6),.sl r7]:=by simp only [bulkRow,ZbT];omega
  exact Nat.le_trans e hlen
 clear hlen
 go_enter Tryz.func59,Tryz.ntmps59
 go_wp2_with fail
 refine (HC0.out S _ _ (ZcP G0.out G1.out G2.out G3.out) (by exact Zcf (E3.out.below (by repeat (first | refine Below.alloc ?_ (by simp;try omega) _ | exact Below.refl _ _)))) hl0).mono ?_
 rintro e w1 ⟨ys0,rfl,hown0,hb1⟩
 obtain ⟨y3,rfl,f3⟩:=Zb9 (Zad.rep _ _ (fun _=>True) _ (fun _ _=>trivial) hown0)
 obtain ⟨A3,n3,cap3,rfl,_,_,_⟩:=f3.form
 clear f3
 have hz1:=hb1.size
 simp at hz1 hown0
 have HOWN0:=Lib.hid hown0
 clear hown0
 have hbw1:Below w.heap.size w w1:=Below.trans (by repeat (first | refine Below.alloc ?_ (by simp;try omega) _ | exact Below.refl _ _)) (hb1.mono (by simp;try omega))
 obtain ⟨hc1,hf1⟩:=ZbU hb1
 have ha1:w.heap.size < w1.heap.size:=by omega
 have hbb1:w.heap.size+1 < w1.heap.size:=by omega
 have hcc1:w.heap.size+1+1 < w1.heap.size:=by omega
 go_wp2_with fail
 refine (HC4.out S _ _ (ZcP G4.out G5.out G6.out G7.out) (by exact Zcf (E7.out.below (by repeat (first | refine Below.setCell ?_ (by simp;try omega) _ | exact hbw1)))) hl4).mono ?_
 rintro e w2 ⟨ys4,rfl,hown4,hb2⟩
 obtain ⟨y7,rfl,f7⟩:=Zb9 (Zad.rep _ _ (fun _=>True) _ (fun _ _=>trivial) hown4)
 obtain ⟨A7,n7,cap7,rfl,_,_,_⟩:=f7.form
 clear f7
 have hz2:=hb2.size
 simp at hz2 hown4
 have HOWN4:=Lib.hid hown4
 clear hown4
 have hbw2:Below w.heap.size w w2:=Below.trans (by repeat (first | refine Below.setCell ?_ (by simp;try omega) _ | exact hbw1)) (hb2.mono (by simp;try omega))
 obtain ⟨hc2,hf2⟩:=ZbU hb2
 have ha2:w.heap.size < w2.heap.size:=by omega
 have hbb2:w.heap.size+1 < w2.heap.size:=by omega
 have hcc2:w.heap.size+1+1 < w2.heap.size:=by omega
 go_wp2
 refine bodyPost_ret (v:=.agg #[.int .i64 i0,.string t1,.int .i64 i2,.slice A3 n3 cap3,.int .i64 i4,.string t5,.int .i64 i6,.slice A7 n7 cap7]) (by simp [results,Tryz.results59,go_sem,hc1,ha1,hbb1,hcc1,hc2,ha2,hbb2,hcc2]) rfl ⟨[.int .i64 i0,.string t1,.int .i64 i2,.slice A3 n3 cap3,.int .i64 i4,.string t5,.int .i64 i6,.slice A7 n7 cap7],rfl,?_,(by repeat (first | refine Below.setCell ?_ (by simp;try omega) _ | exact hbw2))⟩
 simp
 exact (Zad.append (cs:=[.lit (.int .i64 i0),.lit (.string t1),.lit (.int .i64 i2),.sl r3]) (ds:=[.lit (.int .i64 i4),.lit (.string t5),.lit (.int .i64 i6),.sl r7]) (us:=[.int .i64 i0,.string t1,.int .i64 i2,.slice A3 n3 cap3]) (vs:=[.int .i64 i4,.string t5,.int .i64 i6,.slice A7 n7 cap7]) (fun x=>w.heap.size+1+1+1<=x∧x < w1.heap.size) (fun x=>w1.heap.size<=x∧x < w2.heap.size) (HOWN0.out.same (by repeat (first | refine Same.trans ?_ (Same.setCell _ _ _ _ (by simp;try omega)) | refine Same.trans ?_ ((Same.below hb2).mono (fun x hx=>by simp at hx ⊢;omega)) | exact Same.refl _ _))) (Zad.append (cs:=[.lit (.int .i64 i4),.lit (.string t5),.lit (.int .i64 i6),.sl r7]) (ds:=[]) (us:=[.int .i64 i4,.string t5,.int .i64 i6,.slice A7 n7 cap7]) (vs:=[]) (fun x=>w1.heap.size<=x∧x < w2.heap.size) (fun x=>w2.heap.size<=x∧x < w2.heap.size) (HOWN4.out.same (by repeat (first | refine Same.trans ?_ (Same.setCell _ _ _ _ (by simp;try omega)) | exact Same.refl _ _))) Zad.nil (fun x hx=>⟨by omega,by omega⟩) (fun x hx=>⟨by omega,by omega⟩) (fun x hx hy=>by omega)) (fun x hx=>⟨by omega,by omega⟩) (fun x hx=>⟨by omega,by omega⟩) (fun x hx hy=>by omega))
theorem Zoj (row:List C):Zio row:=ZpZ row
theorem Zok (row:List C):Zip row:=Zp0 row
theorem Zol (row:List C):Ziq row:=Zp1 row
theorem Zom (rows:List (List C)) (h:∀ (i:Nat) r,rows[i]?=some r->Zio r):Zkx rows:=by
 intro S v left w hok hv h0 h1
 obtain ⟨A,m,cap,rfl,hm,hmc,hcm⟩:=hv.form
 have H:=Lib.hid h
 have HV:=Lib.hid hv
 have HM:=Lib.hid hm
 have HOK:=Lib.hid hok
 clear h hv hm hok
 unfold maxLen at hcm
 by_cases hlt:left - m < 0
 ·rw [ZaW (by have:=HM.out;omega)]
  go_enter Tryz.func19,Tryz.ntmps19
  go_wp2
  go_ret
  exact ⟨rfl,Below.refl _ _⟩
 ·go_enter Tryz.func19,Tryz.ntmps19
  go_wp2
  go_loopw [1,5] (fun l i wr=>∃ k:Nat,k<=m∧i=.int .i64 k∧l=.int .i64 (left - m - (Zac (rows.take k):Int))∧0<=left - m - (Zac (rows.take k):Int)∧Below w.heap.size w wr) (fun _ i _=>m - (intOf i).toNat)
  case atStart=>exact ⟨0,Nat.zero_le _,rfl,by simp [Zac],by simp [Zac];omega,Below.refl _ _⟩
  case round =>
   obtain ⟨k,hk,rfl,rfl,hl0,hb⟩:=hrel
   by_cases hkm:k < m
   ·obtain ⟨b,off,r,rfl,hS,hbz,hget,hokr,hrow⟩:=(HV.out.below hb).get HOK.out hkm
    obtain ⟨u0,u1,u2,u3,u4,u5,u6,u7,c0,c1,c2,c3,c4,c5,c6,c7,hvals⟩:=hrow.vals8 hokr.len
    have HT:=H.out k r hget
    have HVALS:=Lib.hid hvals
    have HOKR:=Lib.hid hokr
    have HBT:=Lib.hid (ZeT hget)
    have hle:=Zdu rows (k+1)
    clear hvals hokr hrow hget
    simp only [Zab,Za7,occF,Zbh,sigF,Zbz,algF,List.cons_append,List.nil_append,List.length_cons,List.length_nil,Nat.reduceAdd,Nat.mul_one] at c0 c1 c2 c3 c4 c5 c6 c7
    by_cases h2:left - m - (Zac (rows.take k):Int) < bulkRow r
    ·go_wp2_with fail
     refine (HT S _ _ _ HOKR.out HVALS.out om om).mono ?_
     rw [ZaW h2]
     rintro e w' ⟨rfl,hb2⟩
     go_wp2
     go_ret
     exact ⟨ZaF (a:=-1) (ZaW (by have:=HBT.out;have:=HM.out;omega)).symm,hb.trans (hb2.mono hb.size)⟩
    ·go_wp2_with fail
     refine (HT S _ _ _ HOKR.out HVALS.out om om).mono ?_
     rw [Zbe om]
     rintro e w' ⟨rfl,hb2⟩
     go_wp2
     go_roundw
     case rel=>exact ⟨k+1,by omega,by go_num,by have:=HBT.out;congr 1;omega,by have:=HBT.out;omega,hb.trans (hb2.mono hb.size)⟩
     case measure=>simp [intOf];omega
   ·go_wp2
    go_ret
    have e:k=m:=by omega
    subst e
    have:rows.take k=rows:=List.take_of_length_le (by have:=HM.out;omega)
    rw [this] at hl0 ⊢
    exact ⟨ZaF (by have:=HM.out;rw [Zbe om];omega),hb⟩
theorem Zon (rows:List (List C)) (h:∀ (i:Nat) r,rows[i]?=some r->Zip r):Zky rows:=by
 intro S S' v v' w hok hv hv'
 obtain ⟨A,m,cap,rfl,hm,hmc,hcm⟩:=hv.form
 obtain ⟨A',m',cap',rfl,hm',hmc',hcm'⟩:=hv'.form
 obtain rfl:m=m':=by omega
 have H:=Lib.hid h
 have HV:=Lib.hid hv
 have HV':=Lib.hid hv'
 have HM:=Lib.hid hm
 have HOK:=Lib.hid hok
 clear h hv hm hok hm' hv'
 unfold maxLen at hcm hcm'
 go_enter Tryz.func23,Tryz.ntmps23
 go_wp2
 go_loopw [5] (fun i wr=>∃ k:Nat,k<=m∧i=.int .i64 k∧Below w.heap.size w wr) (fun i _=>m - (intOf i).toNat)
 case atStart=>exact ⟨0,Nat.zero_le _,rfl,Below.refl _ _⟩
 case round =>
  obtain ⟨k,hk,rfl,hb⟩:=hrel
  by_cases hkm:k < m
  ·obtain ⟨b,off,r,rfl,hS,hbz,hget,hokr,hrow⟩:=(HV.out.below hb).get HOK.out hkm
   obtain ⟨b',off',r',rfl,hS',hbz',hget',hokr',hrow'⟩:=(HV'.out.below hb).get HOK.out hkm
   obtain rfl:r=r':=by rw [hget] at hget';exact Option.some.inj hget'
   obtain ⟨u0,u1,u2,u3,u4,u5,u6,u7,c0,c1,c2,c3,c4,c5,c6,c7,hvals⟩:=hrow.vals8 hokr.len
   obtain ⟨x0,x1,x2,x3,x4,x5,x6,x7,d0,d1,d2,d3,d4,d5,d6,d7,hvals'⟩:=hrow'.vals8 hokr.len
   have HT:=H.out k r hget
   have HVALS:=Lib.hid hvals
   have HVALS':=Lib.hid hvals'
   have HOKR:=Lib.hid hokr
   clear hvals hvals' hokr hokr' hrow hrow' hget hget'
   simp only [Zab,Za7,occF,Zbh,sigF,Zbz,algF,List.cons_append,List.nil_append,List.length_cons,List.length_nil,Nat.reduceAdd,Nat.mul_one] at c0 c1 c2 c3 c4 c5 c6 c7 d0 d1 d2 d3 d4 d5 d6 d7
   have k0:(0:Int)<=(k:Int):=by omega
   have k1:(k:Int) < (m:Int):=by omega
   go_wp2_with fail
   go_region_held3 (fun w'=>∀ b o,b < wr.heap.size->w'.cell? ⟨b,o,none⟩=wr.cell? ⟨b,o,none⟩) (first | go_keep | exact fun b o h=>hb2.cell (p:=⟨b,o,none⟩) h) (first | (go_at_call 63;refine (HT S S' _ _ _ HOKR.out (HVALS.out.below (Below.refl _ _).drew) (HVALS'.out.below (Below.refl _ _).drew)).mono ?_;rintro e w' ⟨rfl,hb2⟩))
   go_wp2
   go_roundw
   case rel=>exact ⟨k+1,by omega,by go_num,hb.trans ((Below.refl _ _).drew.trans (hb2.mono hb.size))⟩
   case measure=>simp [intOf];omega
  ·go_wp2
   go_ret
   exact ⟨rfl,hb⟩
theorem Zp2:(Tryz.prog.info? 102).map (fun i=>(i.zero,i.size,i.bytes))=some (some (.agg #[.int .i64 0,.string .empty,.int .i64 0,.slice none 0 0,.int .i64 0,.string .empty,.int .i64 0,.slice none 0 0]),8,112):=by kernel_rfl
theorem Zoo (rows:List (List C)) (h:∀ (i:Nat) r,rows[i]?=some r->Ziq r):Zkz rows:=by
 intro S v w hok hv hlen
 obtain ⟨A,m,cap,rfl,hm,hmc,hcm⟩:=hv.form
 obtain ⟨i0,hi,hz0,hz1,hz2⟩:=info_parts Zp2
 have H:=Lib.hid h
 have HV:=Lib.hid hv
 have HM:=Lib.hid hm
 have HOK:=Lib.hid hok
 have hml:m<=1048576:=by omega
 clear h hv hm hok
 unfold maxLen at hcm
 have hmk:=run_make (P:=Tryz.prog) w 55 102 i0 _ Tryz.underlying55 hi hz0 .i64 .i64 (m:Int) (m:Int) om om (by rw [hz2];omega) om
 go_enter Tryz.func21,Tryz.ntmps21
 go_wp2
 clear hmk
 go_loopw [4] (fun i wr=>∃ k:Nat,k<=m∧i=.int .i64 k∧ZbF w w.heap.size 102 m 8 rows k wr) (fun i _=>m - (intOf i).toNat)
 case atStart=>exact ⟨0,Nat.zero_le _,rfl,ZbF.start (size_madeCells _ _)⟩
 case round =>
  obtain ⟨k,hk,rfl,hfill⟩:=hrel
  have hb:=hfill.1
  by_cases hkm:k < m
  ·obtain ⟨b,off,r,rfl,hS,hbz,hget,hokr,hrow⟩:=(HV.out.below hb).get HOK.out hkm
   obtain ⟨u0,u1,u2,u3,u4,u5,u6,u7,c0,c1,c2,c3,c4,c5,c6,c7,hvals⟩:=hrow.vals8 hokr.len
   have HT:=H.out k r hget
   have HVALS:=Lib.hid hvals
   have HOKR:=Lib.hid hokr
   have HGET:=Lib.hid hget
   have HF:=Lib.hid hfill
   have hbg:=ZcZ hget
   clear hvals hokr hrow hget hfill
   simp only [Zab,Za7,occF,Zbh,sigF,Zbz,algF,List.cons_append,List.nil_append,List.length_cons,List.length_nil,Nat.reduceAdd,Nat.mul_one] at c0 c1 c2 c3 c4 c5 c6 c7
   go_wp2_with fail
   refine (HT S _ _ HOKR.out HVALS.out om).mono ?_
   rintro e w2 ⟨us,rfl,hown,hb2⟩
   have hone:=HOKR.out.one (Zad.rep _ _ (fun _=>True) _ (fun _ _=>trivial) hown)
   obtain ⟨y0,y1,y2,y3,y4,y5,y6,y7,rfl⟩:=len8 (hown.len.trans HOKR.out.len)
   have HOWN:=Lib.hid hown
   have HONE:=Lib.hid hone
   obtain ⟨cur,hcur,hcs⟩:=HF.out.row hb2
   have HCUR:=Lib.hid hcur
   have HCS:=Lib.hid hcs
   clear hown hone hcur hcs
   go_wp2_with (refine Zcb rfl 102 _ _ rfl w.heap.size (k * 8) rfl [y0,y1,y2,y3,y4,y5,y6,y7] rfl i0 hi hz1 102 cur HCUR.out (by have:=HCS.out;simp only [List.length_cons,List.length_nil];omega) HONE.out ?_;intro w3 hput)
   go_roundw
   case rel=>exact ⟨k+1,by omega,by go_num,HF.out.step (fs:=Zab .binding) HOK.out HGET.out hb2 HOWN.out hput⟩
   case measure=>simp [intOf];omega
  ·go_wp2
   go_ret
   have e:k=m:=by omega
   subst e
   exact ⟨_,rfl,hfill.done HM.out (by unfold maxLen;omega) (by decide) HOK.out.lens⟩
theorem Zm1 (rows:List (List C)):Zkx rows:=Zom rows (fun _ r _=>Zoj r)
theorem Zm2 (rows:List (List C)):Zky rows:=Zon rows (fun _ r _=>Zok r)
theorem ZhQ (rows:List (List C)):Zkz rows:=Zoo rows (fun _ r _=>Zol r)
structure Bd where
 var:Tm
 to:Tm
def ZaR (b:Bd):List C:=Zae b.var++Zae b.to
def okBd (b:Bd):Prop:=okTm b.var∧okTm b.to
def ZcS (l:List Bd):Prop:=∀ b∈l,okBd b
def Zal (l:List Bd):List (List C):=l.map ZaR
theorem Zrg {b:Bd} (h:okBd b):Zao (Zab .binding) (ZaR b):=by
 obtain ⟨⟨o,n,s,a⟩,⟨o',n',s',a'⟩⟩:=b
 simp only [okBd,okTm] at h
 simp only [ZaR,Zae,List.cons_append,List.nil_append]
 exact Zoi h.1.1 h.1.2.1 h.1.2.2.1 (Zdg a h.1.2.2.2) h.2.1 h.2.2.1 h.2.2.2.1 (Zdg a' h.2.2.2.2)
theorem ZiK:∀ {l:List Bd},ZcS l->Zam (Zab .binding) (Zal l)
 | [],_=>by simp [Zal,Zam]
 | b::l,h=>by
  simp only [Zal,List.map_cons,Zam]
  exact ⟨Zrg (h b (by simp)),ZiK (fun m hm=>h m (by simp [hm]))⟩
theorem Zp3:∀ {rows:List (List C)},Zam (Zab .binding) rows->∃ l,rows=Zal l∧ZcS l
 | [],_=>⟨[],by simp [Zal],by simp [ZcS]⟩
 | r::rs,h=>by
  simp only [Zam] at h
  obtain ⟨i0,t1,i2,r3,i4,t5,i6,r7,rfl,g0,g1,g2,g3,g4,g5,g6,g7⟩:=Zc8 h.1
  obtain ⟨l,rfl,hl⟩:=Zp3 h.2
  obtain ⟨a,rfl,ha⟩:=ZyI g3
  obtain ⟨a',rfl,ha'⟩:=ZyI g7
  refine ⟨⟨.mk i0 t1 i2 a,.mk i4 t5 i6 a'⟩::l,by simp [Zal,ZaR,Zae],fun m hm=>?_⟩
  rcases List.mem_cons.1 hm with rfl | hm
  ·exact ⟨by simp only [okTm];exact ⟨g0,g1,g2,ha⟩,by simp only [okTm];exact ⟨g4,g5,g6,ha'⟩⟩
  ·exact hl m hm
theorem Zbd (l:List Bd):(Zal l).length=l.length:=by simp [Zal]
theorem Zca (l:List Bd) (i:Nat):(Zal l)[i]?=l[i]?.map ZaR:=by simp [Zal]
end Go.Proofs.YtffmjghcpgpfpaaGreatDoor
namespace Go.Proofs.YtffmjghcpgpfpaaGreatDoor
theorem ZkX (m p:Nat) (a b:Bool):(2 * m+a.toNat) &&& (2 * p+b.toNat)=2 * (m &&& p)+(a && b).toNat:=by
 apply Nat.eq_of_testBit_eq
 intro i
 rw [Nat.testBit_and]
 cases i with
 | zero=>simp only [Nat.testBit_zero];cases a <;> cases b <;> simp [Nat.add_mod]
 | succ i =>
  simp only [Nat.testBit_succ]
  have h:∀ (n:Nat) (c:Bool),(2 * n+c.toNat) / 2=n:=fun n c=>by cases c <;> simp <;> omega
  rw [h,h,h,Nat.testBit_and]
theorem Zjq (n:Nat):∃ m,∃ a:Bool,n=2 * m+a.toNat:=by
 refine ⟨n / 2,decide (n % 2=1),?_⟩
 rcases Nat.mod_two_eq_zero_or_one n with h | h
 ·rw [h];simp;omega
 ·rw [h];simp;omega
theorem ZEF {m p:Nat} {a b:Bool}:2 * m+a.toNat=2 * p+b.toNat ↔ m=p∧a=b:=by
 constructor
 ·intro h;cases a <;> cases b <;> simp_all <;> omega
 ·rintro ⟨rfl,rfl⟩;rfl
theorem ZnJ {q m:Nat} (h:q &&& m=q):q<=m:=by rw [<- h];exact Nat.and_le_right
theorem Zp4:∀ (m p q:Nat),p &&& m=p->q &&& m=q->q < p->q<=(p - 1) &&& m:=by
 intro m
 induction m using Nat.strongRecOn with
 | ind m ih =>
 intro p q hp hq hlt
 by_cases hm:m=0
 ·subst hm;simp at hp hq;omega
 obtain ⟨m',a,rfl⟩:=Zjq m
 obtain ⟨p',b,rfl⟩:=Zjq p
 obtain ⟨q',c,rfl⟩:=Zjq q
 rw [ZkX,ZEF] at hp hq
 have hm':m' < 2 * m'+a.toNat:=by cases a <;> simp at hm ⊢ <;> omega
 cases b with
 | true =>
  have e:2 * p'+true.toNat - 1=2 * p'+false.toNat:=by simp
  rw [e,ZkX,hp.1]
  cases c <;> simp at hlt hq ⊢ <;> omega
 | false =>
  have hlt':q' < p':=by cases c <;> simp at hlt <;> omega
  have e:2 * p'+false.toNat - 1=2 * (p' - 1)+true.toNat:=by simp;omega
  rw [e,ZkX]
  have:=ih m' hm' p' q' hp.1 hq.1 hlt'
  have h2:=hq.2
  cases c <;> cases a <;> simp at h2 ⊢ <;> omega
open Classical in
noncomputable def ofB (P:Nat->Prop):Nat->Nat
 | 0=>0
 | n+1=>ofB P n ||| (if P n then 2 ^ n else 0)
theorem Zc9 (P:Nat->Prop):∀ (n i:Nat),(ofB P n).testBit i=true ↔ i < n∧P i
 | 0,i=>by simp [ofB]
 | n+1,i=>by
  rw [ofB,Nat.testBit_or,Bool.or_eq_true,Zc9 P n i]
  by_cases h:P n
  ·rw [if_pos h,Nat.testBit_two_pow]
   simp only [decide_eq_true_eq]
   constructor
   ·rintro (⟨h1,h2⟩ | rfl)
    ·exact ⟨by omega,h2⟩
    ·exact ⟨by omega,h⟩
   ·rintro ⟨h1,h2⟩
    by_cases h3:n=i
    ·exact .inr h3
    ·exact .inl ⟨by omega,h2⟩
  ·rw [if_neg h]
   simp only [Nat.zero_testBit,Bool.false_eq_true,or_false]
   constructor
   ·rintro ⟨h1,h2⟩;exact ⟨by omega,h2⟩
   ·rintro ⟨h1,h2⟩
    by_cases h3:i=n
    ·subst h3;exact absurd h2 h
    ·exact ⟨by omega,h2⟩
theorem ZbY (P:Nat->Prop) (n:Nat):ofB P n < 2 ^ n:=by
 apply Nat.lt_pow_two_of_testBit
 intro i hi
 cases h:(ofB P n).testBit i with
 | false=>rfl
 | true=>have:=((Zc9 P n i).1 h).1;omega
theorem Zmc {v n i:Nat} (h:v < 2 ^ n) (hb:v.testBit i=true):i < n:=by
 apply Classical.byContradiction
 intro hc
 have:v < 2 ^ i:=Nat.lt_of_lt_of_le h (Nat.pow_le_pow_right (by decide) om)
 rw [Nat.testBit_lt_two_pow this] at hb
 cases hb
theorem Zu4 {v u:Nat} (h:∀ i,v.testBit i=true ↔ u.testBit i=true):v=u:=by
 apply Nat.eq_of_testBit_eq
 intro i
 have:=h i
 cases h1:v.testBit i <;> cases h2:u.testBit i <;> simp_all
theorem Zmd {P:Nat->Prop} {n v:Nat} (hv:v < 2 ^ n) (h:∀ i,i < n->(v.testBit i=true ↔ P i)):v=ofB P n:=by
 apply Zu4
 intro i
 rw [Zc9]
 constructor
 ·intro hb
  have:=Zmc hv hb
  exact ⟨this,(h i this).1 hb⟩
 ·rintro ⟨h1,h2⟩;exact (h i h1).2 h2
theorem Za0 {P Q:Nat->Prop} {n:Nat} (h:∀ i,i < n->(P i ↔ Q i)):ofB P n=ofB Q n :=
 Zmd (ZbY P n) fun i hi=>by rw [Zc9,h i hi];exact ⟨fun x=>x.2,fun x=>⟨hi,x⟩⟩
inductive BagB (R:Nat->Nat->Nat->Prop) (sets:List Nat):Nat->Nat->Prop
 | leaf {i b s:Nat}:sets[i]?=some s->s.testBit b=true->BagB R sets (2 ^ i) b
 | node {p q a c b:Nat}:p≠0->q≠0->p &&& q=0->BagB R sets p a->BagB R sets q c->R a c b->BagB R sets (p ||| q) b
inductive ChB (R:Nat->Nat->Nat->Prop) (sets:List Nat):Nat->Nat->Nat->Prop
 | leaf {i b s:Nat}:sets[i]?=some s->s.testBit b=true->ChB R sets i (i+1) b
 | node {i k j a c b:Nat}:i < k->k < j->ChB R sets i k a->ChB R sets k j c->R a c b->ChB R sets i j b
def Two (R:Nat->Nat->Nat->Prop) (s t b:Nat):Prop:=∃ a c,s.testBit a=true∧t.testBit c=true∧R a c b
theorem ZtP (i j:Nat):(2 ^ i).testBit j=true ↔ i=j:=by rw [Nat.testBit_two_pow];simp
theorem ZkY {p:Nat} (h:p≠0):∃ i,p.testBit i=true:=by
 apply Classical.byContradiction
 intro hc
 apply h
 apply Nat.eq_of_testBit_eq
 intro i
 cases hb:p.testBit i with
 | false=>simp
 | true=>exact absurd ⟨i,hb⟩ hc
theorem Zm3 {p q i:Nat} (h:p &&& q=0) (h1:p.testBit i=true) (h2:q.testBit i=true):False:=by
 have:=congrArg (fun x=>x.testBit i) h
 simp [h1,h2] at this
theorem Zu5 {p q i:Nat} (hp:p≠0) (hq:q≠0) (h:p &&& q=0):p ||| q≠2 ^ i:=by
 intro e
 obtain ⟨a,ha⟩:=ZkY hp
 obtain ⟨c,hc⟩:=ZkY hq
 have h1:(2 ^ i).testBit a=true:=by rw [<- e,Nat.testBit_or,ha];rfl
 have h2:(2 ^ i).testBit c=true:=by rw [<- e,Nat.testBit_or,hc];simp
 rw [ZtP] at h1 h2
 subst h1;subst h2
 exact Zm3 h ha hc
theorem ZkZ {R:Nat->Nat->Nat->Prop} {sets:List Nat} {i s b:Nat} (hs:sets[i]?=some s):BagB R sets (2 ^ i) b ↔ s.testBit b=true:=by
 constructor
 ·intro h
  generalize hm:2 ^ i=m at h
  cases h with
  | leaf h1 h2 =>
   have:=(Nat.pow_right_inj (by decide)).1 hm
   subst this
   rw [hs] at h1;injection h1 with h1;subst h1;exact h2
  | node h1 h2 h3 _ _ _=>exact absurd hm.symm (Zu5 h1 h2 h3)
 ·exact fun h=>.leaf hs h
theorem ZFo {p q:Nat} (h:p &&& q=0):(p ||| q) ^^^ p=q:=by
 apply Nat.eq_of_testBit_eq
 intro i
 rw [Nat.testBit_xor,Nat.testBit_or]
 cases h1:p.testBit i <;> cases h2:q.testBit i <;> simp
 exact absurd h1 (by intro h1;exact Zm3 h h1 h2)
theorem ZtQ {p m:Nat} (h:p &&& m=p) {i:Nat} (hi:p.testBit i=true):m.testBit i=true:=by
 rw [<- h,Nat.testBit_and] at hi;simp at hi;exact hi.2
theorem ZtR {p m:Nat} (h:p &&& m=p):p &&& (m ^^^ p)=0∧p ||| (m ^^^ p)=m:=by
 constructor
 ·apply Nat.eq_of_testBit_eq
  intro i
  rw [Nat.testBit_and,Nat.testBit_xor]
  cases h1:p.testBit i with
  | false=>simp
  | true=>simp [ZtQ h h1]
 ·apply Nat.eq_of_testBit_eq
  intro i
  rw [Nat.testBit_or,Nat.testBit_xor]
  cases h1:p.testBit i with
  | false=>simp
  | true=>simp [ZtQ h h1]
theorem Zp5 {p m:Nat} (h:p≠m):m ^^^ p≠0:=by
 intro e
 apply h
 apply Nat.eq_of_testBit_eq
 intro i
 have:=congrArg (fun x=>x.testBit i) e
 rw [Nat.testBit_xor] at this
 cases h1:p.testBit i <;> cases h2:m.testBit i <;> simp [h1,h2] at this ⊢
theorem Zp6 {R:Nat->Nat->Nat->Prop} {sets:List Nat} {m b:Nat} (hm:∀ i,m≠2 ^ i):BagB R sets m b ↔ ∃ p,p≠0∧p≠m∧p &&& m=p∧∃ a c,BagB R sets p a∧BagB R sets (m ^^^ p) c∧R a c b:=by
 constructor
 ·intro h
  cases h with
  | leaf=>exact absurd rfl (hm _)
  | node h1 h2 h3 h4 h5 h6 =>
   rename_i p q a c
   refine ⟨p,h1,?_,?_,a,c,h4,?_,h6⟩
   ·intro e
    obtain ⟨i,hi⟩:=ZkY h2
    exact Zm3 h3 (by rw [e,Nat.testBit_or,hi];simp) hi
   ·apply Nat.eq_of_testBit_eq;intro i;rw [Nat.testBit_and,Nat.testBit_or];cases p.testBit i <;> simp
   ·rw [ZFo h3];exact h5
 ·rintro ⟨p,h1,h2,h3,a,c,h4,h5,h6⟩
  have:=ZtR h3
  have h:=BagB.node h1 (Zp5 h2) this.1 h4 h5 h6
  rw [this.2] at h
  exact h
theorem ZhR {R:Nat->Nat->Nat->Prop} {sets:List Nat} {i s b:Nat} (hs:sets[i]?=some s):ChB R sets i (i+1) b ↔ s.testBit b=true:=by
 constructor
 ·intro h
  generalize hj:i+1=j at h
  cases h with
  | leaf h1 h2=>rw [hs] at h1;injection h1 with h1;subst h1;exact h2
  | node h1 h2 _ _ _=>omega
 ·exact fun h=>.leaf hs h
theorem ZtS {R:Nat->Nat->Nat->Prop} {sets:List Nat} {i j b:Nat} (hij:i+1 < j):ChB R sets i j b ↔ ∃ k,i < k∧k < j∧∃ a c,ChB R sets i k a∧ChB R sets k j c∧R a c b:=by
 constructor
 ·intro h
  cases h with
  | leaf=>omega
  | node h1 h2 h3 h4 h5=>exact ⟨_,h1,h2,_,_,h3,h4,h5⟩
 ·rintro ⟨k,h1,h2,a,c,h3,h4,h5⟩;exact .node h1 h2 h3 h4 h5
theorem ZFp {R:Nat->Nat->Nat->Prop} {s t b:Nat}:ChB R [s,t] 0 2 b ↔ Two R s t b:=by
 rw [ZtS om]
 constructor
 ·rintro ⟨k,h1,h2,a,c,h3,h4,h5⟩
  obtain rfl:k=1:=by omega
  exact ⟨a,c,(ZhR (i:=0) rfl).1 h3,(ZhR (i:=1) rfl).1 h4,h5⟩
 ·rintro ⟨a,c,h3,h4,h5⟩
  exact ⟨1,by omega,by omega,a,c,(ZhR (i:=0) rfl).2 h3,(ZhR (i:=1) rfl).2 h4,h5⟩
theorem Zy8:∀ i,3≠2 ^ i
 | 0=>by decide
 | 1=>by decide
 | i+2=>by rw [Nat.pow_succ];omega
theorem ZEG {R:Nat->Nat->Nat->Prop} {s t b:Nat}:BagB R [s,t] 3 b ↔ Two R s t b∨Two R t s b:=by
 rw [Zp6 Zy8]
 have l0:∀ x,BagB R [s,t] 1 x ↔ s.testBit x=true:=fun x=>ZkZ (i:=0) rfl
 have l1:∀ x,BagB R [s,t] 2 x ↔ t.testBit x=true:=fun x=>ZkZ (i:=1) rfl
 constructor
 ·rintro ⟨p,h1,h2,h3,a,c,h4,h5,h6⟩
  have:=ZnJ h3
  rcases (by omega:p=1∨p=2) with rfl | rfl
  ·exact .inl ⟨a,c,(l0 a).1 h4,(l1 c).1 h5,h6⟩
  ·exact .inr ⟨a,c,(l1 a).1 h4,(l0 c).1 h5,h6⟩
 ·rintro (⟨a,c,h4,h5,h6⟩ | ⟨a,c,h4,h5,h6⟩)
  ·exact ⟨1,by decide,by decide,by decide,a,c,(l0 a).2 h4,(l1 c).2 h5,h6⟩
  ·exact ⟨2,by decide,by decide,by decide,a,c,(l1 a).2 h4,(l0 c).2 h5,h6⟩
end Go.Proofs.YtffmjghcpgpfpaaGreatDoor
namespace Go.Proofs.YtffmjghcpgpfpaaGreatDoor
open Go.RowKit
theorem Zf1 (P Q:Nat->Prop) (n:Nat):ofB P n ||| ofB Q n=ofB (fun b=>P b∨Q b) n :=
 Zmd (Nat.or_lt_two_pow (ZbY P n) (ZbY Q n)) fun i hi=>by
  rw [Nat.testBit_or,Bool.or_eq_true,Zc9,Zc9]
  simp only [hi,true_and]
theorem ZgW {P:Nat->Prop} {n:Nat} (h:∀ i,i < n->¬ P i):ofB P n=0 :=
 (Zmd (Nat.pos_of_ne_zero (by have:=Nat.one_le_two_pow (n:=n);omega)) fun i hi=>by
  rw [Nat.zero_testBit]
  exact ⟨fun e=>(by cases e),fun e=>absurd e (h i hi)⟩).symm
theorem ZgX {v n:Nat} (h:v < 2 ^ n):ofB (fun b=>v.testBit b=true) n=v:=(Zmd h fun i _=>Iff.rfl).symm
def upk (g:Sgn) (k:Int):Nat:=(up g.sorts).getD k.toNat 0
theorem ZhS {g:Sgn} (hs:SortsOk g.sorts) {k:Int} (h0:0<=k) (h1:k < g.sorts.names.length):(up g.sorts)[k.toNat]?=some (upk g k)∧upk g k < 2 ^ g.sorts.names.length :=
 (ZfE (SortsOk.subsIn hs.subs)).get om
def Zdj (g:Sgn) (o:Opr) (sets:List Nat) (b:Nat):Prop:=∃ d∈o.decls,(∀ (i:Nat) k s,d.args[i]?=some k->sets[i]?=some s->s.testBit k.toNat=true)∧(upk g d.res).testBit b=true
def Rel2 (g:Sgn) (o:Opr) (a c b:Nat):Prop:=∃ d∈o.decls,d.args.map Int.toNat=[a,c]∧(upk g d.res).testBit b=true
def AnyB (g:Sgn) (o:Opr) (sets:List Nat) (b:Nat):Prop:=Zdj g o sets b∨(o.comm=true∧Zdj g o sets.reverse b)
def AppB (g:Sgn) (o:Opr) (sets:List Nat) (b:Nat):Prop:=if o.assoc=true then (if o.comm=true then BagB (Rel2 g o) sets (2 ^ sets.length - 1) b else ChB (Rel2 g o) sets 0 sets.length b) else AnyB g o sets b
noncomputable def appS (g:Sgn) (o:Opr) (sets:List Nat):Nat:=ofB (AppB g o sets) g.sorts.names.length
mutual
noncomputable def sortsTm (g:Sgn):Tm->Nat
 | .mk op _ so args=>if op=-1 then upk g so else match g.ops[op.toNat]? with
  | none=>0
  | some o=>appS g o (Zir g args)
noncomputable def Zir (g:Sgn):List Tm->List Nat
 | []=>[]
 | t::ts=>sortsTm g t::Zir g ts
end
theorem Zjr (g:Sgn):∀ (l:List Tm),Zir g l=l.map (sortsTm g)
 | []=>rfl
 | t::ts=>by simp only [Zir,List.map_cons,Zjr g ts]
theorem Zhx {g:Sgn} {t:Tm} (h:t.op=-1):sortsTm g t=upk g t.sort:=by
 obtain ⟨op,nm,so,args⟩:=t
 simp only [Tm.op] at h
 simp only [sortsTm,if_pos h,Tm.sort]
theorem Zhy {g:Sgn} {t:Tm} {o:Opr} (h:t.op≠-1) (ho:g.ops[t.op.toNat]?=some o):sortsTm g t=appS g o (t.args.map (sortsTm g)):=by
 obtain ⟨op,nm,so,args⟩:=t
 simp only [Tm.op] at h ho
 simp only [sortsTm,if_neg h,ho,Tm.args,Zjr]
theorem Zek {g:Sgn} (hg:SgnOk g) {t:Tm} (ht:ZcL g t):sortsTm g t < 2 ^ g.sorts.names.length:=by
 rcases ht with hv | ⟨o,d,hA⟩
 ·rw [Zhx hv.1]
  exact (ZhS hg.sorts hv.2.2.1 hv.2.2.2.1).2
 ·rw [Zhy hA.op hA.at']
  exact ZbY _ _
theorem Rel2.lt {g:Sgn} (hg:SgnOk g) {o:Opr} (ho:o∈g.ops) {a c b:Nat} (h:Rel2 g o a c b):b < g.sorts.names.length:=by
 obtain ⟨d,hd,_,hb⟩:=h
 have hD:=hg.decls o ho
 obtain ⟨f,hf,_⟩:=hD.first
 have hd':=hD.all f hf d hd
 exact Zmc (ZhS hg.sorts hd'.res.1 hd'.res.2).2 hb
theorem ZeO {g:Sgn} {o:Opr} (h2:∀ d∈o.decls,d.args.length=2) {s t b:Nat}:Zdj g o [s,t] b ↔ Two (Rel2 g o) s t b:=by
 constructor
 ·rintro ⟨d,hd,h1,hb⟩
  obtain ⟨x,y,hxy⟩:=ZpG (h2 d hd)
  rw [hxy] at h1
  exact ⟨x.toNat,y.toNat,h1 0 x s rfl rfl,h1 1 y t rfl rfl,d,hd,by rw [hxy];rfl,hb⟩
 ·rintro ⟨a,c,ha,hc,d,hd,he,hb⟩
  obtain ⟨x,y,hxy⟩:=ZpG (h2 d hd)
  rw [hxy] at he
  simp only [List.map_cons,List.map_nil,List.cons.injEq,and_true] at he
  obtain ⟨rfl,rfl⟩:=he
  refine ⟨d,hd,fun i k u hk hu=>?_,hb⟩
  rw [hxy] at hk
  match i,hk,hu with
  | 0,hk,hu =>
   simp only [List.getElem?_cons_zero,Option.some.injEq] at hk hu
   subst hk;subst hu;exact ha
  | 1,hk,hu =>
   simp only [List.getElem?_cons_succ,List.getElem?_cons_zero,Option.some.injEq] at hk hu
   subst hk;subst hu;exact hc
  | i+2,hk,hu=>simp at hk
theorem Opr.deg2 {g:Sgn} (hg:SgnOk g) {i:Nat} {o:Opr} (ho:g.ops[i]?=some o) (h:o.assoc=true∨o.comm=true∨o.unit≠0):∀ d∈o.decls,d.args.length=2:=by
 intro d hd
 have hm:=List.mem_of_getElem? ho
 have hD:=hg.decls o hm
 obtain ⟨f,hf,_⟩:=hD.first
 rw [(hD.all f hf d hd).len]
 exact ((hg.axs o hm).two h f hf).1
theorem ZEH {g:Sgn} (hg:SgnOk g) {i:Nat} {o:Opr} (ho:g.ops[i]?=some o) {sets:List Nat} (h:o.assoc=true->sets.length=2):ofB (AnyB g o sets) g.sorts.names.length=appS g o sets:=by
 unfold appS
 refine Za0 fun b _=>?_
 unfold AppB
 cases ha:o.assoc with
 | false=>rw [if_neg (by simp)]
 | true =>
  rw [if_pos rfl]
  have h2:=Opr.deg2 hg ho (.inl ha)
  obtain ⟨s,t,hst⟩:∃ s t,sets=[s,t]:=by
   match sets,h ha with
   | [s,t],_=>exact ⟨s,t,rfl⟩
  subst hst
  unfold AnyB
  simp only [List.reverse_cons,List.reverse_nil,List.nil_append,List.singleton_append]
  rw [ZeO h2,ZeO h2]
  cases hc:o.comm with
  | false =>
   rw [if_neg (by simp)]
   simp only [List.length_cons,List.length_nil]
   rw [ZFp]
   simp
  | true =>
   rw [if_pos rfl]
   simp only [List.length_cons,List.length_nil]
   rw [show 2 ^ (0+1+1) - 1=3 from rfl,ZEG]
   simp
theorem BagB.lt {R:Nat->Nat->Nat->Prop} {sets:List Nat} {N:Nat} (hs:∀ s∈sets,s < 2 ^ N) (hR:∀ a c b,R a c b->b < N) {m b:Nat} (h:BagB R sets m b):b < N:=by
 cases h with
 | leaf h1 h2=>exact Zmc (hs _ (List.mem_of_getElem? h1)) h2
 | node _ _ _ _ _ h=>exact hR _ _ _ h
theorem ChB.lt {R:Nat->Nat->Nat->Prop} {sets:List Nat} {N:Nat} (hs:∀ s∈sets,s < 2 ^ N) (hR:∀ a c b,R a c b->b < N) {i j b:Nat} (h:ChB R sets i j b):b < N:=by
 cases h with
 | leaf h1 h2=>exact Zmc (hs _ (List.mem_of_getElem? h1)) h2
 | node _ _ _ _ h=>exact hR _ _ _ h
def Zff (R:Nat->Nat->Nat->Prop) (sets:List Nat) (N m part b:Nat):Prop:=∃ p,part < p∧p≠0∧p≠m∧p &&& m=p∧Two R (ofB (BagB R sets p) N) (ofB (BagB R sets (m ^^^ p)) N) b
theorem ZjV {R:Nat->Nat->Nat->Prop} {P Q:Nat->Prop} {N b:Nat} (hP:∀ b,P b->b < N) (hQ:∀ b,Q b->b < N):Two R (ofB P N) (ofB Q N) b ↔ ∃ a c,P a∧Q c∧R a c b:=by
 unfold Two
 constructor
 ·rintro ⟨a,c,h1,h2,h3⟩
  exact ⟨a,c,((Zc9 _ _ _).1 h1).2,((Zc9 _ _ _).1 h2).2,h3⟩
 ·rintro ⟨a,c,h1,h2,h3⟩
  exact ⟨a,c,(Zc9 _ _ _).2 ⟨hP a h1,h1⟩,(Zc9 _ _ _).2 ⟨hQ c h2,h2⟩,h3⟩
theorem Zme {R:Nat->Nat->Nat->Prop} {sets:List Nat} {N m:Nat} (hm:m≠0):ofB (Zff R sets N m ((m - 1) &&& m)) N=0:=ZgW fun b _ h=>by
 obtain ⟨p,h1,h2,h3,h4,_⟩:=h
 have h5:=ZnJ h4
 have:=Zp4 m m p (Nat.and_self m) h4 om
 omega
theorem ZnK {R:Nat->Nat->Nat->Prop} {sets:List Nat} {N m p b:Nat} (hp:p≠0) (hm:p≠m) (h:p &&& m=p):Zff R sets N m ((p - 1) &&& m) b ↔ Zff R sets N m p b∨Two R (ofB (BagB R sets p) N) (ofB (BagB R sets (m ^^^ p)) N) b:=by
 constructor
 ·rintro ⟨q,h1,h2,h3,h4,h5⟩
  by_cases hq:p < q
  ·exact .inl ⟨q,hq,h2,h3,h4,h5⟩
  ·by_cases e:q=p
   ·subst e;exact .inr h5
   ·have:=Zp4 m p q h h4 om;omega
 ·have hlt:(p - 1) &&& m < p:=by have:(p - 1) &&& m<=p - 1:=Nat.and_le_left;omega
  rintro (⟨q,h1,h2,h3,h4,h5⟩ | h5)
  ·exact ⟨q,by omega,h2,h3,h4,h5⟩
  ·exact ⟨p,hlt,hp,hm,h,h5⟩
theorem Zp7 {R:Nat->Nat->Nat->Prop} {sets:List Nat} {N m:Nat} (hs:∀ s∈sets,s < 2 ^ N) (hR:∀ a c b,R a c b->b < N) (hm:∀ i,m≠2 ^ i):ofB (Zff R sets N m 0) N=ofB (BagB R sets m) N:=Za0 fun b _=>by
 rw [Zp6 hm]
 unfold Zff
 constructor
 ·rintro ⟨p,h1,h2,h3,h4,h5⟩
  obtain ⟨a,c,h6,h7,h8⟩:=(ZjV (fun b hb=>BagB.lt hs hR hb) (fun b hb=>BagB.lt hs hR hb)).1 h5
  exact ⟨p,h2,h3,h4,a,c,h6,h7,h8⟩
 ·rintro ⟨p,h2,h3,h4,a,c,h6,h7,h8⟩
  exact ⟨p,by omega,h2,h3,h4,(ZjV (fun b hb=>BagB.lt hs hR hb) (fun b hb=>BagB.lt hs hR hb)).2 ⟨a,c,h6,h7,h8⟩⟩
def CutB (R:Nat->Nat->Nat->Prop) (sets:List Nat) (N i j at' b:Nat):Prop:=∃ k,i < k∧k < at'∧k < j∧Two R (ofB (ChB R sets i k) N) (ofB (ChB R sets k j) N) b
theorem ZnL {R:Nat->Nat->Nat->Prop} {sets:List Nat} {N i j:Nat}:ofB (CutB R sets N i j (i+1)) N=0:=ZgW fun b _ h=>by
 obtain ⟨k,h1,h2,_⟩:=h
 omega
theorem Zp8 {R:Nat->Nat->Nat->Prop} {sets:List Nat} {N i j k b:Nat} (h1:i < k) (h2:k < j):CutB R sets N i j (k+1) b ↔ CutB R sets N i j k b∨Two R (ofB (ChB R sets i k) N) (ofB (ChB R sets k j) N) b:=by
 constructor
 ·rintro ⟨q,q1,q2,q3,q4⟩
  by_cases e:q=k
  ·subst e;exact .inr q4
  ·exact .inl ⟨q,q1,by omega,q3,q4⟩
 ·rintro (⟨q,q1,q2,q3,q4⟩ | h)
  ·exact ⟨q,q1,by omega,q3,q4⟩
  ·exact ⟨k,h1,by omega,h2,h⟩
theorem ZtT {R:Nat->Nat->Nat->Prop} {sets:List Nat} {N i j:Nat} (hs:∀ s∈sets,s < 2 ^ N) (hR:∀ a c b,R a c b->b < N) (hij:i+1 < j):ofB (CutB R sets N i j j) N=ofB (ChB R sets i j) N:=Za0 fun b _=>by
 rw [ZtS hij]
 unfold CutB
 constructor
 ·rintro ⟨k,h1,h2,h3,h5⟩
  obtain ⟨a,c,h6,h7,h8⟩:=(ZjV (fun b hb=>ChB.lt hs hR hb) (fun b hb=>ChB.lt hs hR hb)).1 h5
  exact ⟨k,h1,h2,a,c,h6,h7,h8⟩
 ·rintro ⟨k,h1,h2,a,c,h6,h7,h8⟩
  exact ⟨k,h1,h2,h2,(ZjV (fun b hb=>ChB.lt hs hR hb) (fun b hb=>ChB.lt hs hR hb)).2 ⟨a,c,h6,h7,h8⟩⟩
theorem ZtU {R:Nat->Nat->Nat->Prop} {sets:List Nat} {N i s:Nat} (hs:sets[i]?=some s) (h:s < 2 ^ N):ofB (BagB R sets (2 ^ i)) N=s:=by
 rw [show ofB (BagB R sets (2 ^ i)) N=ofB (fun b=>s.testBit b=true) N from Za0 fun b _=>ZkZ hs,ZgX h]
theorem Zy9 {R:Nat->Nat->Nat->Prop} {sets:List Nat} {N i s:Nat} (hs:sets[i]?=some s) (h:s < 2 ^ N):ofB (ChB R sets i (i+1)) N=s:=by
 rw [show ofB (ChB R sets i (i+1)) N=ofB (fun b=>s.testBit b=true) N from Za0 fun b _=>ZhR hs,ZgX h]
def Zb1:List Bd->Tm->Option Tm
 | [],_=>none
 | b::l,v=>if Zak b.var v=0 then some b.to else Zb1 l v
mutual
noncomputable def apT (g:Sgn) (l:List Bd):Tm->Option Tm
 | .mk op nm so args=>if op=-1 then some ((Zb1 l (.mk op nm so args)).getD (.mk op nm so args)) else (apTs g l args).bind (mkT g op)
noncomputable def apTs (g:Sgn) (l:List Bd):List Tm->Option (List Tm)
 | []=>some []
 | t::ts=>(apT g l t).bind fun u=>(apTs g l ts).map (u::·)
end
theorem ZjW {g:Sgn} {l:List Bd} {t:Tm} (h:t.op=-1):apT g l t=some ((Zb1 l t).getD t):=by
 obtain ⟨op,nm,so,args⟩:=t
 simp only [Tm.op] at h
 simp only [apT,if_pos h]
theorem Zgu {g:Sgn} {l:List Bd} {t:Tm} (h:t.op≠-1):apT g l t=(apTs g l t.args).bind (mkT g t.op):=by
 obtain ⟨op,nm,so,args⟩:=t
 simp only [Tm.op] at h
 simp only [apT,if_neg h,Tm.op,Tm.args]
theorem Zjs {g:Sgn} {l:List Bd} {t:Tm}:∀ (ts:List Tm),apTs g l (ts++[t])=(apTs g l ts).bind fun us=>(apT g l t).map fun u=>us++[u]
 | []=>by
  simp only [List.nil_append,apTs,Option.bind_some]
  cases apT g l t <;> rfl
 | x::ts=>by
  simp only [List.cons_append,apTs,Zjs ts]
  cases apT g l x with
  | none=>rfl
  | some u =>
   simp only [Option.bind_some]
   cases apTs g l ts with
   | none=>rfl
   | some us =>
    simp only [Option.bind_some,Option.map_some]
    cases apT g l t <;> rfl
theorem Zk0 {g:Sgn} {l:List Bd}:∀ {ts us:List Tm},apTs g l ts=some us->us.length=ts.length
 | [],us,h=>by simp only [apTs,Option.some.injEq] at h;subst h;rfl
 | t::ts,us,h=>by
  simp only [apTs] at h
  cases h1:apT g l t with
  | none=>rw [h1] at h;cases h
  | some u =>
   rw [h1] at h
   cases h2:apTs g l ts with
   | none=>rw [h2] at h;cases h
   | some vs =>
    rw [h2] at h
    simp only [Option.bind_some,Option.map_some,Option.some.injEq] at h
    subst h
    simp only [List.length_cons,Zk0 h2]
theorem Zjt {g:Sgn} {l:List Bd} {t:Tm}:∀ {ts:List Tm},t∈ts->apT g l t=none->apTs g l ts=none
 | x::ts,hm,h=>by
  simp only [apTs]
  rcases List.mem_cons.1 hm with rfl | hm
  ·rw [h];rfl
  ·rw [Zjt hm h]
   cases apT g l x <;> rfl
theorem Zis {g:Sgn} {l:List Bd}:∀ {ts us:List Tm},apTs g l ts=some us->∀ u∈us,∃ t∈ts,apT g l t=some u
 | [],us,h,u,hu=>by simp only [apTs,Option.some.injEq] at h;subst h;cases hu
 | t::ts,us,h,u,hu=>by
  simp only [apTs] at h
  cases h1:apT g l t with
  | none=>rw [h1] at h;cases h
  | some v =>
   rw [h1] at h
   cases h2:apTs g l ts with
   | none=>rw [h2] at h;cases h
   | some vs =>
    rw [h2] at h
    simp only [Option.bind_some,Option.map_some,Option.some.injEq] at h
    subst h
    rcases List.mem_cons.1 hu with rfl | hu
    ·exact ⟨t,List.mem_cons_self,h1⟩
    ·obtain ⟨x,hx,hxe⟩:=Zis h2 u hu
     exact ⟨x,List.mem_cons_of_mem _ hx,hxe⟩
structure SbsAt (g:Sgn) (l:List Bd) (i:Nat) (y:Bd):Prop where
 var:Zc5 g y.var
 ord:∀ (j:Nat) p,i=j+1->l[j]?=some p->Zak p.var y.var < 0
 to':TermOk g y.to
 srt:(sortsTm g y.to).testBit y.var.sort.toNat=true
structure SbsOk (g:Sgn) (l:List Bd):Prop where
 len:l.length<=8
 at':∀ (i:Nat) y,l[i]?=some y->SbsAt g l i y
open Classical in
noncomputable def ZbQ (g:Sgn) (l:List Bd):Bool:=decide (SbsOk g l)
theorem Zmf {g:Sgn} {l:List Bd} (h:SbsOk g l):ZbQ g l=true:=by simp [ZbQ,h]
theorem ZfM {g:Sgn} {l:List Bd} (h:¬ SbsOk g l):ZbQ g l=false:=by simp [ZbQ,h]
theorem ZtV {g:Sgn} {v u:Tm}:∀ {l:List Bd},(∀ y∈l,TermOk g y.to)->Zb1 l v=some u->TermOk g u
 | b::l,h,hu=>by
  simp only [Zb1] at hu
  split at hu
  ·injection hu with hu;subst hu;exact h b List.mem_cons_self
  ·exact ZtV (fun y hy=>h y (List.mem_cons_of_mem _ hy)) hu
theorem SbsOk.to' {g:Sgn} {l:List Bd} (h:SbsOk g l):∀ y∈l,TermOk g y.to:=fun y hy=>by
 obtain ⟨i,hi⟩:=List.getElem?_of_mem hy
 exact (h.at' i y hi).to'
theorem SbsOk.var {g:Sgn} {l:List Bd} (h:SbsOk g l):∀ y∈l,Zc5 g y.var:=fun y hy=>by
 obtain ⟨i,hi⟩:=List.getElem?_of_mem hy
 exact (h.at' i y hi).var
theorem ZhT {g:Sgn} (hg:SgnOk g) {l:List Bd} (hl:∀ y∈l,TermOk g y.to):∀ (n:Nat) (t:Tm),sizeTm t < n->TermOk g t->∀ {u:Tm},apT g l t=some u->TermOk g u
 | 0,t,hn,_,_,_=>by omega
 | n+1,t,hn,ht,u,h=>by
  by_cases ho:t.op=-1
  ·rw [ZjW ho] at h
   simp only [Option.some.injEq] at h
   subst h
   cases hk:Zb1 l t with
   | none=>exact ht
   | some v=>exact ZtV hl hk
  ·rw [Zgu ho] at h
   cases h2:apTs g l t.args with
   | none=>rw [h2] at h;cases h
   | some us =>
    rw [h2] at h
    simp only [Option.bind_some] at h
    have h0:0<=t.op:=by
     rcases ht.form.node with hv | ⟨o,d,hA⟩
     ·exact absurd hv.1 ho
     ·exact hA.lo
    refine ZFn hg h0 (fun a ha=>?_) h
    obtain ⟨x,hx,hxe⟩:=Zis h2 a ha
    have:=Zbt hx
    rw [Zbg] at hn
    exact ZhT hg hl n x om (ht.arg hx) hxe
def Zat (w:World):List (List C)->(Nat->Prop)->List (List Value)->Prop
 | [],_,[]=>True
 | r::rs,S,us::uss=>∃ S1 S2:Nat->Prop,(∀ x,S1 x->S x)∧(∀ x,S2 x->S x)∧(∀ x,S1 x->S2 x->False)∧Zad w r S1 us∧Zat w rs S2 uss
 | _,_,_=>False
def Zap (us:List Value):List C:=us.map .lit
section
variable {w w':World}
theorem Zat.keep (hz:w.heap.size<=w'.heap.size):∀ (rows:List (List C)) (S S':Nat->Prop) (uss:List (List Value)),(∀ b,S b->w'.heap[b]?=w.heap[b]?)->(∀ b,S b->S' b)->Zat w rows S uss->Zat w' rows S' uss
 | [],_,_,[],_,_,_=>trivial
 | r::rs,S,S',us::uss,hk,hS,h=>by
  obtain ⟨S1,S2,h1,h2,hd,hr,hrs⟩:=h
  exact ⟨S1,S2,fun x hx=>hS x (h1 x hx),fun x hx=>hS x (h2 x hx),hd,Zad.keep hz r S1 S1 us (fun x hx=>hk x (h1 x hx)) (fun _ h=>h) hr,Zat.keep hz rs S2 S2 uss (fun x hx=>hk x (h2 x hx)) (fun _ h=>h) hrs⟩
 | [],_,_,_::_,_,_,h=>h.elim
 | _::_,_,_,[],_,_,h=>h.elim
theorem Zat.len:∀ {rows:List (List C)} {S:Nat->Prop} {uss:List (List Value)},Zat w rows S uss->uss.length=rows.length
 | [],_,[],_=>rfl
 | r::rs,S,us::uss,⟨S1,S2,_,_,_,_,h⟩=>by simp [Zat.len h]
theorem Zat.snoc:∀ {rows:List (List C)} {r:List C} {S S1 S2:Nat->Prop} {uss:List (List Value)} {us:List Value},Zat w rows S1 uss->Zad w r S2 us->(∀ x,S1 x->S x)->(∀ x,S2 x->S x)->(∀ x,S1 x->S2 x->False)->Zat w (rows++[r]) S (uss++[us])
 | [],r,S,S1,S2,[],us,_,h2,i1,i2,hd=>⟨S2,fun _=>False,i2,fun _ h=>h.elim,fun _ _ h=>h,h2,trivial⟩
 | q::qs,r,S,S1,S2,vs::vss,us,⟨T1,T2,a1,a2,a3,a4,a5⟩,h2,i1,i2,hd =>
  ⟨T1,fun x=>T2 x∨S2 x,fun x hx=>i1 x (a1 x hx),fun x hx=>hx.elim (fun h=>i1 x (a2 x h)) (i2 x),fun x hx hy=>hy.elim (a3 x hx) (hd x (a1 x hx)),a4,
   Zat.snoc a5 h2 (fun _ h=>.inl h) (fun _ h=>.inr h) (fun x hx hy=>hd x (a2 x hx) hy)⟩
 | [],_,_,_,_,_::_,_,h,_,_,_,_=>h.elim
 | _::_,_,_,_,_,[],_,h,_,_,_,_=>h.elim
theorem Zat.get:∀ {rows:List (List C)} {S:Nat->Prop} {uss:List (List Value)} {i:Nat} {r:List C} {us:List Value},Zat w rows S uss->rows[i]?=some r->uss[i]?=some us->Zad w r S us
 | r::rs,S,us::uss,0,r',us',⟨S1,S2,h1,_,_,h,_⟩,hr,hu=>by
  simp at hr hu;subst hr hu
  exact Zad.keep (Nat.le_refl _) r S1 S us (fun _ _=>rfl) h1 h
 | r::rs,S,us::uss,i+1,r',us',⟨S1,S2,_,h2,_,_,h⟩,hr,hu =>
  Zad.keep (Nat.le_refl _) r' S2 S us' (fun _ _=>rfl) h2 (Zat.get h (by simpa using hr) (by simpa using hu))
 | [],_,_,_,_,_,_,hr,_=>by simp at hr
 | _::_,_,[],_,_,_,h,_,_=>h.elim
theorem Zat.stable (rows:List (List C)) (E:Nat->Prop) (uss:List (List Value)):Zc0 E (fun w=>Zat w rows E uss):=fun w w' hz hk h=>Zat.keep hz rows E E uss hk (fun _ h=>h) h
theorem Zad.stable (r:List C) (E:Nat->Prop) (us:List Value):Zc0 E (fun w=>Zad w r E us):=fun w w' hz hk h=>Zad.keep hz r E E us hk (fun _ h=>h) h
theorem Own.stable (c:C) (E:Nat->Prop) (v:Value):Zc0 E (fun w=>Own w c E v):=fun w w' hz hk h=>Own.keep hz c E E v hk (fun _ h=>h) h
theorem Zhz {S:Nat->Prop}:∀ {us vs:List Value},Zaa w S (Zap us) vs->vs=us
 | [],[],_=>rfl
 | u::us,v::vs,h=>by
  simp only [Zap,List.map_cons,Zaa,Rep] at h
  rw [h.1,Zhz h.2]
 | [],_::_,h=>by simp [Zap,Zaa] at h
 | _::_,[],h=>by simp [Zap,Zaa] at h
theorem Za3.close {b:Nat} {T:Nat->Prop}:∀ {rows:List (List C)} {uss:List (List Value)} {S:Nat->Prop} {off:Nat},Zar w T b off (uss.map Zap)->Zat w rows S uss->Za3 w b rows S off
 | [],[],_,_,_,_=>by simp [Za3]
 | r::rs,us::uss,S,off,hr,⟨S1,S2,h1,h2,hd,hv,hvs⟩=>by
  simp only [List.map_cons,Zar] at hr
  simp only [Za3]
  obtain ⟨vs,q1,q2⟩:=hr.1.vals
  have e:=Zhz q1
  subst e
  have hl:(Zap vs).length=r.length:=by simp [Zap,Zad.len hv]
  refine ⟨S1,S2,h1,h2,hd,ZbD.of_vals r S1 vs off hv q2,?_⟩
  rw [<- hl]
  exact Za3.close hr.2 hvs
 | [],_::_,_,_,_,h=>h.elim
 | _::_,[],_,_,_,h=>h.elim
theorem Own.close {T:Nat->Prop} {ety sz:Nat} {rows:List (List C)} {uss:List (List Value)} {E:Nat->Prop} {a:Option Addr} {cap:Nat} (hb:ZaO w T ety sz (uss.map Zap) (.slice a uss.length cap)) (hv:Zat w rows E uss) (hd:∀ b,vblk (.slice a uss.length cap)=some b->¬ E b) :
  Own w (.sl rows) (fun b=>vblk (.slice a uss.length cap)=some b∨E b) (.slice a uss.length cap):=by
 have hlen:=hv.len
 obtain ⟨h1,h2,h3⟩:=hb
 simp only [Own]
 rcases h3 with ⟨h4,a',h5⟩ | ⟨g,cap',cur,h5,hc,hg,hs,hh,hl,hm,hcs,hr⟩
 ·injection h5 with e1 e2 e3
  subst e1 e3
  have hu0:uss=[]:=by simpa using h4
  exact ⟨a,uss.length,0,rfl,hlen.symm,by rw [hu0];exact Nat.le_refl _,by decide,fun h=>absurd h (by decide)⟩
 ·injection h5 with e1 e2 e3
  subst e1 e3
  have hvb:vblk (.slice (some ⟨g,0,none⟩) uss.length cap)=some g:=by simp only [vblk];rw [if_neg om]
  simp only [List.length_map] at hl
  refine ⟨_,uss.length,cap,rfl,hlen.symm,hl,hm,fun h0=>⟨g,0,E,rfl,.inl hvb,hg,⟨fun o=>frozen_of_row w g o cur ety hh,rfl,cur,ety,sz,hh,hcs,h1,fun r hr0=>?_⟩,fun x hx=>⟨.inr hx,fun e=>hd g hvb (e ▸ hx)⟩,Za3.close hr hv⟩⟩
  obtain ⟨i,hi⟩:=List.getElem?_of_mem hr0
  have hil:=(List.getElem?_eq_some_iff.1 hi).1
  obtain ⟨us,hu⟩:∃ us,uss[i]?=some us:=⟨_,List.getElem?_eq_getElem om⟩
  have hq:=(h2 (Zap us) (List.mem_map.2 ⟨us,List.mem_of_getElem? hu,rfl⟩)).1
  have hq2:=Zad.len (hv.get hi hu)
  simp only [Zap,List.length_map] at hq
  omega
theorem ZbD.open {b:Nat}:∀ {cs:List C} {S:Nat->Prop} {off:Nat},ZbD w b cs S off->∃ us,Zad w cs S us∧∀ j u,us[j]?=some u->w.cell? ⟨b,off+j,none⟩=some u
 | [],S,off,_=>⟨[],Zad.nil,fun j u h=>by simp at h⟩
 | c::cs,S,off,h=>by
  simp only [ZbD] at h
  obtain ⟨S1,S2,u,h1,h2,hd,hu,hc,hcs⟩:=h
  obtain ⟨us,k1,k2⟩:=ZbD.open hcs
  refine ⟨u::us,Zad.cons S1 S2 hc k1 h1 h2 hd,fun j v hj=>?_⟩
  cases j with
  | zero=>simp at hj;subst hj;exact hu
  | succ j=>have:=k2 j v (by simpa using hj);rw [<- this];congr 2;omega
theorem Za3.open {b:Nat}:∀ {rows:List (List C)} {S:Nat->Prop} {off:Nat},Za3 w b rows S off->∃ uss,Zat w rows S uss∧∀ T:Nat->Prop,Zar w T b off (uss.map Zap)
 | [],S,off,_=>⟨[],trivial,fun T=>by simp [Zar]⟩
 | r::rs,S,off,h=>by
  simp only [Za3] at h
  obtain ⟨S1,S2,h1,h2,hd,hr,hrs⟩:=h
  obtain ⟨us,k1,k2⟩:=ZbD.open hr
  obtain ⟨uss,k3,k4⟩:=Za3.open hrs
  refine ⟨us::uss,⟨S1,S2,h1,h2,hd,k1,k3⟩,fun T=>?_⟩
  simp only [List.map_cons,Zar]
  refine ⟨Zai.of_vals _ us off (Ze6 us) k2,?_⟩
  rw [show (Zap us).length=r.length by simp [Zap,k1.len]]
  exact k4 T
theorem Zad.cells:∀ {cs:List C} {S:Nat->Prop} {us:List Value},Zad w cs S us->cs.all Zaw=true->(Zap us).all Zaw=true
 | [],_,[],_,_=>rfl
 | c::cs,S,u::us,h,hc=>by
  simp only [Zad] at h
  obtain ⟨S1,S2,_,_,_,h1,h2⟩:=h
  simp only [List.all_cons,Bool.and_eq_true] at hc
  simp only [Zap,List.map_cons,List.all_cons,Bool.and_eq_true]
  exact ⟨Ze4 (c:=c) hc.1 (Own.rep c S1 u h1),Zad.cells h2 hc.2⟩
 | [],_,_::_,h,_=>by simp [Zad] at h
 | _::_,_,[],h,_=>by simp [Zad] at h
theorem Own.open {T:Nat->Prop} {rows:List (List C)} {E:Nat->Prop} {a:Option Addr} {n cap sz:Nat} (hT:∀ b,E b->¬ T b) (hne:rows≠[]) (hrl:rowsLen sz rows) (h:Own w (.sl rows) E (.slice a n cap)) :
  ∃ uss ety E',n=uss.length∧ZaO w T ety sz (uss.map Zap) (.slice a uss.length cap)∧Zat w rows E' uss∧(∀ b,E' b->E b∧vblk (.slice a uss.length cap)≠some b)∧∀ b,vblk (.slice a uss.length cap)=some b->E b:=by
 simp only [Own] at h
 obtain ⟨A,n',cap',hv,hn,hle,hmx,hb⟩:=h
 injection hv with e1 e2 e3
 subst e1 e2 e3
 have h0:0 < rows.length:=List.length_pos_iff.2 hne
 obtain ⟨b,off,S',rfl,hEb,hbl,⟨hfr,rfl,cur,ety,sz',hh,hcs,hz,hrs⟩,hS',hrows⟩:=hb om
 obtain ⟨uss,k1,k2⟩:=Za3.open hrows
 have hl:=k1.len
 have hsz:sz'=sz:=by
  obtain ⟨r,hr⟩:=List.exists_mem_of_ne_nil _ hne
  rw [<- hrs r hr,(hrl r hr).1]
 subst hsz
 have hvb:vblk (.slice (some ⟨b,0,none⟩) uss.length cap)=some b:=by simp only [vblk];rw [if_neg om]
 have hrow:rowsLen sz' (uss.map Zap):=fun x hx=>by
  obtain ⟨us,hus,rfl⟩:=List.mem_map.1 hx
  obtain ⟨i,hi⟩:=List.getElem?_of_mem hus
  have hil:=(List.getElem?_eq_some_iff.1 hi).1
  obtain ⟨r,hr⟩:∃ r,rows[i]?=some r:=⟨_,List.getElem?_eq_getElem om⟩
  have hov:=k1.get hr hi
  have hrm:=hrl r (List.mem_of_getElem? hr)
  exact ⟨by simp only [Zap,List.length_map];rw [hov.len];exact hrm.1,hov.cells hrm.2⟩
 refine ⟨uss,ety,S',by omega,⟨hz,hrow,.inr ⟨b,cap,cur,by simp,by omega,hbl,hT b hEb,hh,by simp only [List.length_map];omega,hmx,hcs,k2 T⟩⟩,k1,fun x hx=>⟨(hS' x hx).1,fun e=>?_⟩,fun x hx=>?_⟩
 ·rw [hvb] at e;injection e with e;exact (hS' x hx).2 e.symm
 ·rw [hvb] at hx;injection hx with hx;rw [<- hx];exact hEb
end
theorem Zel (x:Bk):ZcE [x]:=⟨by simp,trivial⟩
theorem ZcI:ZbG [] [.set (fun _=>False) (fun w=>Zat w [] (fun _=>False) [])]:=fun w S _ _ =>
 ⟨fun x hx=>by simp at hx;subst hx;exact ⟨fun b h=>h.elim,trivial,Zat.stable _ _ _⟩,Zel _,fun g ⟨x,hx,hg⟩=>by simp at hx;subst hx;exact hg.elim⟩
theorem Zp9 {E E2:Nat->Prop} {G G2 G':World->Prop} (hG:∀ w,G w->G2 w->(∀ b,E b->E2 b->False)->G' w) (hst:Zc0 (fun b=>E b∨E2 b) G'):ZbG [.set E G,.set E2 G2] [.set (fun b=>E b∨E2 b) G']:=fun w S h ha=>by
 have h1:=h (.set E G) (by simp)
 have h2:=h (.set E2 G2) (by simp)
 refine ⟨fun x hx=>?_,Zel _,fun g ⟨x,hx,hg⟩=>?_⟩
 ·simp at hx;subst hx
  exact ⟨fun b hb=>hb.elim (h1.1 b) (h2.1 b),hG w h1.2.1 h2.2.1 (fun b q1 q2=>ha.1 (.set E2 G2) (by simp) b q1 q2),hst⟩
 ·simp at hx;subst hx
  rcases hg with hg | hg
  ·exact ⟨.set E G,by simp,hg⟩
  ·exact ⟨.set E2 G2,by simp,hg⟩
theorem Zdk {a:Option Addr} {cap ety sz:Nat} {uss:List (List Value)} {rows:List (List C)} {E:Nat->Prop} {G':World->Prop} (hG:∀ w,Own w (.sl rows) (fun b=>vblk (.slice a uss.length cap)=some b∨E b) (.slice a uss.length cap)->G' w) (hst:Zc0 (fun b=>vblk (.slice a uss.length cap)=some b∨E b) G') :
  ZbG [.buf (some (a,cap)) ety sz (uss.map Zap),.set E (fun w=>Zat w rows E uss)] [.set (fun b=>vblk (.slice a uss.length cap)=some b∨E b) G']:=fun w S h ha=>by
 have h1:ZaO w S ety sz (uss.map Zap) (.slice a (uss.map Zap).length cap):=h (.buf (some (a,cap)) ety sz (uss.map Zap)) (by simp)
 have h2:=h (.set E (fun w=>Zat w rows E uss)) (by simp)
 have hd:=ha.1 (.set E (fun w=>Zat w rows E uss)) (by simp)
 rw [List.length_map] at h1
 simp only [pblk,List.length_map] at hd
 refine ⟨fun x hx=>?_,Zel _,fun g ⟨x,hx,hg⟩=>?_⟩
 ·simp at hx;subst hx
  refine ⟨fun b hb=>?_,hG w (Own.close h1 h2.2.1 hd),hst⟩
  rcases hb with hb | hb
  ·exact Own1.lt (L:=⟨fun _=>0,fun _=>.slice a uss.length cap⟩) (k:=0) (bk:=.buf none ety sz (uss.map Zap)) ⟨by simp,h1⟩ hb
  ·exact h2.1 b hb
 ·simp at hx;subst hx
  rcases hg with hg | hg
  ·exact ⟨.buf (some (a,cap)) ety sz (uss.map Zap),by simp,by simp only [pblk,List.length_map];exact hg⟩
  ·exact ⟨.set E (fun w=>Zat w rows E uss),by simp,hg⟩
def ZeL (row:List C) (r:List D) (pm:List Bk):Prop:=∃ us E,r=[.agg (Zap us)]∧us.length=row.length∧(Zap us).all Zaw=true∧pm=[.set E (fun w=>Zad w row E us)]
def Zju (ety sz:Nat) (rows:List (List C)) (r:List D) (pm:List Bk):Prop:=∃ a cap uss E,r=[.one (.lit (.slice a uss.length cap))]∧uss.length=rows.length∧pm=[.buf (some (a,cap)) ety sz (uss.map Zap),.set E (fun w=>Zat w rows E uss)]
theorem ZeL.mk {row:List C} {us:List Value} {E:Nat->Prop} (h:us.length=row.length) (hok:(Zap us).all Zaw=true):ZeL row [.agg (Zap us)] [.set E (fun w=>Zad w row E us)]:=⟨us,E,rfl,h,hok,rfl⟩
theorem Zju.mk {ety sz:Nat} {rows:List (List C)} {a:Option Addr} {cap:Nat} {uss:List (List Value)} {E:Nat->Prop} (h:uss.length=rows.length):Zju ety sz rows [.one (.lit (.slice a uss.length cap))] [.buf (some (a,cap)) ety sz (uss.map Zap),.set E (fun w=>Zat w rows E uss)]:=⟨a,cap,uss,E,rfl,h,rfl⟩
section
variable {e:Env} {U:Nat->Prop} {w0:World} {S0:Nat->Prop} {nt:Nat} {σ:St} {a:Act} {w:World} {S:Nat->Prop} {L:Lay}
end
section
variable {e:Env} {σ:St} {o:Oper} {K:St->Prop}
theorem ZAB {t:TypeId} {x:Operand} {lo hi:Option Operand} (ho:o.op=.slice t x lo hi none) {k cap ety sz:Nat} {a:Option Addr} {rows:List (List C)} {l h:Int} (hx:nrm σ.m (evA σ.s x)=.buf k) (hm:gm σ.m k=some (.buf (some (a,cap)) ety sz rows)) (ht:Zbp e.P t=some sz)
  (hlo:loA (lo.map (evA σ.s))=some l) (hhi:hiA rows.length (hi.map (evA σ.s))=some h) (hb:0<=l∧l<=h∧h<=rows.length) (hK:K ⟨setA σ.s o.dst (.d (.one (.lit (sliced a l.toNat h.toNat cap sz)))),σ.m⟩):ZbM e o σ K:=by
 intro he U w0 S0 nt ac w Q hd ⟨S,L,h1⟩
 refine Oper.wp_mono (fun a' w' hs=>⟨_,hK,hs⟩) (Ze8 h1 hd (ZaJ fun w S L ρv hC hr=>?_))
 have hx':=Zck hC (hr x (by simp [ho,Op.operands]))
 rw [hx] at hx'
 have hx':ρv x=L.v k:=hx'
 obtain ⟨hpl,_,_,hbuf⟩:=hC.own k _ hm
 have hv:L.v k=.slice a rows.length cap:=hpl (a,cap) rfl
 have hcap:rows.length<=cap:=by
  rcases hbuf with ⟨h4,_⟩ | ⟨g,cap',cur,h4,_,_,_,_,h5,_⟩
  ·rw [h4];exact Nat.zero_le _
  ·rw [hv] at h4;injection h4 with _ _ h4;rw [h4];exact h5
 have hel:∃ ety i,e.P.underlying t=some (.slice ety)∧e.P.info? ety=some i∧i.size=sz:=by
  unfold Zbp at ht
  split at ht
  ·rename_i ety hu
   simp only [Option.map_eq_some_iff] at ht
   obtain ⟨i,hi,hs⟩:=ht
   exact ⟨ety,i,hu,hi,hs⟩
  ·cases ht
 obtain ⟨el,i,hu,hi',hsz⟩:=hel
 have hlo:=Zh6 (w:=w) (S:=S) (L:=L) (ρv:=ρv) hlo (fun y hy=>hr y (by simp [ho,Op.operands,hy]))
 have hhi:=Zh7 (w:=w) (S:=S) (L:=L) (ρv:=ρv) hhi (fun y hy=>hr y (by simp [ho,Op.operands,hy]))
 refine ⟨sliced a l.toNat h.toNat cap sz,?_,by simp [ARel,DRel,Rep]⟩
 have hbnd:(Instr.sliceBounds true rows.length cap (lo.map ρv) (hi.map ρv) none).run e.P w=.ok (l.toNat,h.toNat,cap) w:=by
  have eh:(h.toNat:Int)=h:=Int.toNat_of_nonneg om
  have b1:0<=h:=by omega
  have b2:h<=(cap:Int):=by omega
  have b3:0<=l:=hb.1
  have b4:l<=h:=hb.2.1
  rcases hlo with ⟨rfl,rfl⟩ | e1 <;> rcases hhi with ⟨rfl,e2⟩ | e2
  ·simp [Instr.sliceBounds,e2,Result.andThen]
  ·simp [Instr.sliceBounds,e2,Result.andThen,run_sliceBound,b1,b2]
  ·have b5:l<=(rows.length:Int):=by omega
   simp [Instr.sliceBounds,e1,e2,Result.andThen,run_sliceBound,b3,b5]
  ·simp [Instr.sliceBounds,e1,e2,Result.andThen,run_sliceBound,b1,b2,b3,b4,eh]
 simp only [execOp,ho,Sem.run_bind,hx',hv,Instr.sliceAt,Instr.slice,underlying,run_program,Result.andThen_ok,hu,Sem.run_pure,Option.map_none,hbnd,sizeOf,typeInfo,hi',hsz,sliced]
end
theorem ZFq {a:Option Addr} {cap ety sz:Nat} {rows:List (List C)} (m:Nat) (hm:m<=rows.length):ZbG [.buf (some (a,cap)) ety sz rows] [.buf (some (a,cap)) ety sz (rows.take m)]:=fun w S h ha=>by
 have hl:(rows.take m).length=m:=by rw [List.length_take];omega
 obtain ⟨h0,hrl,hc⟩:ZaO w S ety sz rows (.slice a rows.length cap):=h (.buf (some (a,cap)) ety sz rows) (by simp)
 have hb:∀ b,vblk (.slice a m cap)=some b ↔ vblk (.slice a rows.length cap)=some b:=fun b=>by cases a <;> simp [vblk]
 refine ⟨fun x hx=>?_,Zel _,fun g ⟨x,hx,hg⟩=>?_⟩
 ·simp only [List.mem_cons,List.not_mem_nil,or_false] at hx
  subst hx
  show ZaO w S ety sz (rows.take m) (.slice a (rows.take m).length cap)
  rw [hl]
  refine ⟨h0,fun r hr=>hrl r (List.mem_of_mem_take hr),?_⟩
  rcases hc with ⟨h4,p,h5⟩ | ⟨g,cap',cur,h4,h5,h6,h7,h8,h9,h10,h11,h12⟩
  ·subst h4
   simp only [List.length_nil,Nat.le_zero_eq] at hm
   subst hm
   exact .inl ⟨by simp,p,by simpa using h5⟩
  ·injection h4 with e1 e2 e3
   subst e1 e3
   refine .inr ⟨g,cap,cur,by rw [hl],h5,h6,h7,h8,by rw [hl];omega,h10,h11,?_⟩
   have:=Zar.sub hrl h12 0 m
   simpa using this
 ·simp only [List.mem_cons,List.not_mem_nil,or_false] at hx
  subst hx
  refine ⟨.buf (some (a,cap)) ety sz rows,by simp,?_⟩
  simp only [pblk,hl] at hg ⊢
  exact (hb g).1 hg
theorem gSub {e:Env} {K:St->Prop} {ds:List (Option Nat)} {os:List Oper} {d t ty cap ety sz:Nat} {p:String} {ed:Array Edge} {x:Operand} {lo hi:Option Operand} {s:List (Nat × A)} {m:List (Nat × Bk)} {a:Option Addr} {rows:List (List C)} (k l h:Nat) (hb:l<=h∧h<=rows.length) (hK:Runs e ds 0 os ⟨(d,.d (.one (.lit (sliced a l h cap sz))))::s,m⟩ K)
  (hx:nrm m (evA s x)=.buf k:=by exact sfx) (hm:gm m k=some (.buf (some (a,cap)) ety sz rows):=by exact snv) (ht:Zbp e.P t=some sz:=by exact snx)
  (hlo:loA (lo.map (evA s))=some (l:Int):=by exact sfx) (hhi:hiA rows.length (hi.map (evA s))=some (h:Int):=by exact sfx):Runs e ds 0 (⟨some d,.slice t x lo hi none,ty,p,ed,none⟩::os) ⟨s,m⟩ K:=by
 simp only [Runs] at hK ⊢
 exact Zdc rfl (ZAB (o:=⟨some d,.slice t x lo hi none,ty,p,ed,none⟩) rfl hx hm ht hlo hhi ⟨by omega,by omega,by omega⟩ (by simpa only [Int.toNat_natCast,setA] using hK))
theorem Zrh (a:Option Addr) (k cap sz:Nat):sliced a 0 k cap sz=.slice a k cap:=by
 cases a with
 | none=>simp [sliced]
 | some p =>
  have:p.add 0=p:=by cases p;simp [Addr.add]
  simp [sliced,this]
section
variable {e:Env} {ops:Array Oper} {K:St->Prop}
def QN (e:Env) (U:Nat->Prop) (w0:World) (S0:Nat->Prop) (nt:Nat) (K:St->Prop):Exit->Act->World->Prop:=fun ex a w=>ex=.normal∧∃ σ',K σ'∧SimE e U w0 S0 nt σ' a w
def ZcJ (e:Env) (ops:Array Oper) (K:St->Prop) (f:Nat) (listed:Array Bool) (σ:St):Prop :=
 e.Ok->∀ (U:Nat->Prop) (w0:World) (S0:Nat->Prop) (nt:Nat) (a:Act) (w:World),(∀ o∈ops.toList,∀ d,o.dst=some d->d < nt)->SimE e U w0 S0 nt σ a w->wpAny e.P .any ops (QN e U w0 S0 nt K) f listed a w
theorem Zri {ds:List (Option Nat)} {f:Nat} {listed:Array Bool} {σ:St} (hds:ops.toList.map (·.dst)=ds) (h:ZdY e ds ops K f listed σ):ZcJ e ops K f listed σ:=by
 subst hds
 exact fun he U w0 S0 nt a w hd hs=>ZkR he (fun a w σ' hK hs'=>⟨rfl,σ',hK,hs'⟩) hd f listed σ a w hs h
def Zjv (ops:Array Oper) (listed:Array Bool) (i:Nat):Bool:=(List.range ops.size).all fun j=>j==i || (listed.getD j true || match ops[i]?,ops[j]? with
 | some oi,some oj=>oj.after.any (fun e=>Region.binds .any e && e.on==i) || oi.apart ops oj
 | _,_=>true)
def Zit (ops:Array Oper):Bool:=ops.toList.all fun o=>match o.op with
 | .select _ _=>false
 | _=>true
theorem ZfN {f i d:Nat} {listed:Array Bool} {σ:St} {o:Oper} {α:A} (hi:ops[i]?=some o) (hdst:o.dst=some d) (hg:o.guard=none) (hsel:Zit ops=true) (hap:Zjv ops listed i=true) (hr:(Region.ready .any ops listed).contains i=true)
  (hp:e.Ok->∀ (U:Nat->Prop) (w0:World) (S0:Nat->Prop) (nt:Nat) (a:Act) (w:World) (S:Nat->Prop) (L:Lay),Sim e U w0 S0 nt σ a w S L->∃ v,(∀ w',(execOp a.eval o).run e.P w'=.ok (.value v) w')∧ARel w S L α v)
  (hK:ZcJ e ops K f (listed.setIfInBounds i true) ⟨(d,α)::σ.s,σ.m⟩):ZcJ e ops K (f+1) listed σ:=by
 intro he U w0 S0 nt a w hd ⟨S,L,h⟩
 obtain ⟨v,hv,hrel⟩:=hp he U w0 S0 nt a w S L h
 have hmem:o∈ops.toList:=List.mem_of_getElem? (by simpa using hi)
 refine wpAny_first (oi:=o) (v:=v) hi (fun j oj cs b hj hs=>?_) (fun c a w hq=>?_) f listed a w (fun j oj hj hne hl hno=>?_) ?_ ?_ ?_
 ·have:=List.all_eq_true.1 hsel oj (List.mem_of_getElem? (by simpa using hj))
  rw [hs] at this
  cases this
 ·have:=hq.1
  cases this
 ·have hjs:=(Array.getElem?_eq_some_iff.1 hj).1
  have:=List.all_eq_true.1 hap j (List.mem_range.2 hjs)
  simp only [hi,hj,Bool.or_eq_true,beq_iff_eq,List.any_eq_true,Array.any_eq_true',Bool.and_eq_true] at this
  rcases this with h1 | h1 | h1 | h1
  ·exact absurd h1 hne
  ·rw [hl] at h1;cases h1
  ·obtain ⟨ed,h2,h3,h4⟩:=h1
   exact absurd h4 (hno ed h2 h3)
  ·exact h1
 ·simpa using hr
 ·exact .inl ⟨by simp [Region.wanted,hg],hv⟩
 ·have h2:SimE e U w0 S0 nt ⟨(d,α)::σ.s,σ.m⟩ (a.put o.dst v) w:=⟨S,L,by
   have:=h.put (α:=α) hrel (hd o hmem)
   rwa [hdst,setA,<- hdst] at this⟩
  exact hK he U w0 S0 nt (a.put o.dst v) w hd h2
end
section
variable {e:Env} {K:St->Prop} {mask:Nat} {Q:PX->St->Prop} {s:List (Nat × A)} {m:List (Nat × Bk)}
theorem Zjw {id:Nat} {ops:Array Oper} {σ:St} (hK:ZcJ e ops (ZdG mask Q) ops.size (Array.replicate ops.size false) σ):pwp e mask (.region id ops true) σ Q:=fun he U w0 S0 nt a w hok hs=>by
 obtain ⟨S,L,h1⟩:=hs.drew he
 refine Code.wp_mono (fun ex a' w' hq=>?_) (wp_region_any he.mixed (hK he U w0 S0 nt a { w with drawn:=w.drawn+1 } (ZoH hok) ⟨S,L,h1⟩))
 obtain ⟨rfl,σ',k1,k2⟩:=hq
 exact ⟨_,k1,k2.weak (fun t=>Zo1 mask t σ'.s) (fun _ _ h=>h)⟩
theorem gF0 {id:Nat} {l:List Oper} (hK:ZcJ e l.toArray (ZdG mask Q) l.length (Array.replicate l.length false) ⟨s,m⟩):pwp e mask (.region id l.toArray true) ⟨s,m⟩ Q:=Zjw (ops:=l.toArray) (by simpa using hK)
theorem gFT {ds:List (Option Nat)} {ops:Array Oper} {f:Nat} {listed:Array Bool} {σ:St} (h:ZdY e ds ops K f listed σ) (hds:ops.toList.map (·.dst)=ds:=by exact rfl):ZcJ e ops K f listed σ:=Zri hds h
theorem gFm {ops:Array Oper} {f d ty:Nat} {p:String} {ed:Array Edge} {x:Operand} {α:A} {listed:Array Bool} (i:Nat) (hK:ZcJ e ops K f (listed.setIfInBounds i true) ⟨(d,α)::s,m⟩)
  (hi:ops[i]?=some ⟨some d,.move x,ty,p,ed,none⟩:=by simp only [List.getElem?_toArray,List.getElem?_cons_succ,List.getElem?_cons_zero];exact rfl) (hx:evA s x=α:=by exact snv) (hsel:Zit ops=true:=by decide +kernel) (hap:Zjv ops listed i=true:=by decide +kernel) (hr:(Region.ready .any ops listed).contains i=true:=by decide +kernel):ZcJ e ops K (f+1) listed ⟨s,m⟩:=by
 subst hx
 exact ZfN (o:=⟨some d,.move x,ty,p,ed,none⟩) hi rfl rfl hsel hap hr (fun _ U w0 S0 nt a w S L h=>⟨a.eval x,fun w2=>by simp [execOp],h.eval x⟩) hK
theorem gFs {ops:Array Oper} {f d t ty cap ety sz:Nat} {p:String} {ed:Array Edge} {x:Operand} {lo hi:Option Operand} {a:Option Addr} {rows:List (List C)} {listed:Array Bool} (i k l h:Nat) (hb:l<=h∧h<=rows.length) (hK:ZcJ e ops K f (listed.setIfInBounds i true) ⟨(d,.d (.one (.lit (sliced a l h cap sz))))::s,m⟩)
  (hi':ops[i]?=some ⟨some d,.slice t x lo hi none,ty,p,ed,none⟩:=by simp only [List.getElem?_toArray,List.getElem?_cons_succ,List.getElem?_cons_zero];exact rfl)
  (hx:nrm m (evA s x)=.buf k:=by exact sfx) (hm:gm m k=some (.buf (some (a,cap)) ety sz rows):=by exact snv) (ht:Zbp e.P t=some sz:=by exact snx)
  (hlo:loA (lo.map (evA s))=some (l:Int):=by exact sfx) (hhi:hiA rows.length (hi.map (evA s))=some (h:Int):=by exact sfx)
  (hsel:Zit ops=true:=by decide +kernel) (hap:Zjv ops listed i=true:=by decide +kernel) (hr:(Region.ready .any ops listed).contains i=true:=by decide +kernel):ZcJ e ops K (f+1) listed ⟨s,m⟩:=by
 refine ZfN (o:=⟨some d,.slice t x lo hi none,ty,p,ed,none⟩) hi' rfl rfl hsel hap hr (fun _ U w0 S0 nt ac w S L hS=>⟨sliced a l h cap sz,fun w'=>?_,by simp [ARel,DRel,Rep]⟩) hK
 have hx':=Zck hS.cls (hS.eval x)
 simp only at hx'
 rw [hx] at hx'
 have hx':ac.eval x=L.v k:=hx'
 obtain ⟨hpl,_,_,hbuf⟩:=hS.cls.own k _ hm
 have hv:L.v k=.slice a rows.length cap:=hpl (a,cap) rfl
 have hcap:rows.length<=cap:=by
  rcases hbuf with ⟨h4,_⟩ | ⟨g,cap',cur,h4,_,_,_,_,h5,_⟩
  ·rw [h4];exact Nat.zero_le _
  ·rw [hv] at h4;injection h4 with _ _ h4;rw [h4];exact h5
 have hel:∃ ety i,e.P.underlying t=some (.slice ety)∧e.P.info? ety=some i∧i.size=sz:=by
  unfold Zbp at ht
  split at ht
  ·rename_i ety hu
   simp only [Option.map_eq_some_iff] at ht
   obtain ⟨i,hi,hs⟩:=ht
   exact ⟨ety,i,hu,hi,hs⟩
  ·cases ht
 obtain ⟨el,inf,hu,hinf,hsz⟩:=hel
 have hlo:=Zh6 (w:=w) (S:=S) (L:=L) (ρv:=ac.eval) hlo (fun y hy=>hS.eval y)
 have hhi:=Zh7 (w:=w) (S:=S) (L:=L) (ρv:=ac.eval) hhi (fun y hy=>hS.eval y)
 have hbnd:(Instr.sliceBounds true rows.length cap (lo.map ac.eval) (hi.map ac.eval) none).run e.P w'=.ok (l,h,cap) w':=by
  have b2:(h:Int)<=(cap:Int):=by omega
  have b5:(l:Int)<=(rows.length:Int):=by omega
  rcases hlo with ⟨rfl,e1⟩ | e1 <;> rcases hhi with ⟨rfl,e2⟩ | e2
  ·have e1:l=0:=by omega
   have e2:h=rows.length:=by omega
   subst e1 e2
   simp [Instr.sliceBounds,Result.andThen]
  ·have e1:l=0:=by omega
   subst e1
   simp [Instr.sliceBounds,e2,Result.andThen,run_sliceBound,b2]
  ·have e2:h=rows.length:=by omega
   subst e2
   simp [Instr.sliceBounds,e1,Result.andThen,run_sliceBound,b5]
  ·have b4:(l:Int)<=(h:Int):=by omega
   simp [Instr.sliceBounds,e1,e2,Result.andThen,run_sliceBound,b2,b4,hb.1]
 simp only [execOp,Sem.run_bind,hx',hv,Instr.sliceAt,Instr.slice,underlying,run_program,Result.andThen_ok,hu,Sem.run_pure,Option.map_none,hbnd,sizeOf,typeInfo,hinf,hsz,sliced]
end
section
variable {e:Env} {K:St->Prop} {s:List (Nat × A)} {m:List (Nat × Bk)}
theorem gFb {ops:Array Oper} {f d ty t t':Nat} {p:String} {ed:Array Edge} {op:BinOp} {x y:Operand} {a b v:Value} {listed:Array Bool} (i:Nat) (hK:ZcJ e ops K f (listed.setIfInBounds i true) ⟨(d,.d (.one (.lit v)))::s,m⟩)
  (hi:ops[i]?=some ⟨some d,.binOp op t x y t',ty,p,ed,none⟩:=by simp only [List.getElem?_toArray,List.getElem?_cons_succ,List.getElem?_cons_zero];exact rfl) (hx:evA s x=.d (.one (.lit a)):=by exact snv) (hy:evA s y=.d (.one (.lit b)):=by exact snv) (hv:binT e.P op t a b=some v:=by exact sfv) (hsel:Zit ops=true:=by decide +kernel) (hap:Zjv ops listed i=true:=by decide +kernel) (hr:(Region.ready .any ops listed).contains i=true:=by decide +kernel):ZcJ e ops K (f+1) listed ⟨s,m⟩:=by
 refine ZfN (o:=⟨some d,.binOp op t x y t',ty,p,ed,none⟩) hi rfl rfl hsel hap hr (fun _ U w0 S0 nt ac w S L h=>⟨v,fun w2=>?_,by simp [ARel,DRel,Rep]⟩) hK
 have h1:=h.eval x
 have h2:=h.eval y
 rw [hx] at h1
 rw [hy] at h2
 have h1:=Zbr h1
 have h2:=Zbr h2
 have:=ZoW (x:=x) (y:=y) hv w2
 simp only [execOp,h1,h2]
 rw [Sem.run_bind,this]
 rfl
theorem gFi {ops:Array Oper} {f d ty t k ety sz:Nat} {p:String} {ed:Array Edge} {x y:Operand} {o:Option (Option Addr × Nat)} {rows:List (List C)} {kk:IntKind} {listed:Array Bool} (i j:Nat) (hlt:j < rows.length) (hK:ZcJ e ops K f (listed.setIfInBounds i true) ⟨(d,.row k j sz 0)::s,m⟩)
  (hi:ops[i]?=some ⟨some d,.indexAddr t x y,ty,p,ed,none⟩:=by simp only [List.getElem?_toArray,List.getElem?_cons_succ,List.getElem?_cons_zero];exact rfl) (hx:nrm m (evA s x)=.buf k:=by exact sfx) (hy:evA s y=.d (.one (.lit (.int kk (j:Int)))):=by exact snv) (hm:gm m k=some (.buf o ety sz rows):=by exact snv) (ht:Zbp e.P t=some sz:=by exact snx) (hsel:Zit ops=true:=by decide +kernel) (hap:Zjv ops listed i=true:=by decide +kernel) (hr:(Region.ready .any ops listed).contains i=true:=by decide +kernel):ZcJ e ops K (f+1) listed ⟨s,m⟩:=by
 refine ZfN (o:=⟨some d,.indexAddr t x y,ty,p,ed,none⟩) hi rfl rfl hsel hap hr (fun _ U w0 S0 nt ac w S L h=>?_) hK
 have hx':=Zck h.cls (h.eval x)
 simp only at hx'
 rw [hx] at hx'
 have hx':ac.eval x=L.v k:=hx'
 have hy':=h.eval y
 rw [hy] at hy'
 have hy':=Zbr hy'
 obtain ⟨_,_,_,h4⟩:=h.cls.own k _ hm
 rcases h4 with ⟨h4,_⟩ | ⟨g,cap,cur,hv,hcp,_⟩
 ·rw [h4] at hlt;simp at hlt
 ·refine ⟨.pointer (some ⟨g,j * sz,none⟩),fun w2=>?_,g,?_,rfl⟩
  ·have:=ZiS (P:=e.P) (j:=(j:Int)) ht (Int.natCast_nonneg _) (by rw [Int.toNat_natCast];exact hlt) (g:=g) (cap:=cap) (k:=kk) (w:=w2)
   rw [Int.toNat_natCast] at this
   simp [execOp,hy',hx',hv,this]
  ·rw [hv];simp only [vblk];rw [if_neg om]
end
def RBuf (a:Option Addr) (cap:Nat) (us:List Tm) (r:List D) (pm:List Bk):Prop:=r=[]∧pm=[.buf (some (a,cap)) 46 4 (Zaf us)]
theorem Zav (l:List Tm) (i:Nat) (t:Tm):(Zaf l).set i (Zae t)=Zaf (l.set i t):=by
 rw [ZbW,ZbW,List.map_set]
theorem gTPe {X:Prop} {P:Program} {ts:List RS} {R:List D->List Bk->Prop} {σ:St} {r:List D} {pm:List Bk} (ks:List Nat) (hR:R r pm) (hx:Zlr P ts R .normal σ->X:=by first | exact fun h=>h | exact fun h=>⟨_,Wk.refl _,h⟩) (hr:resD P σ ts=some r:=by exact sfy) (hg:getM σ.m ks=some pm:=by exact sny) (hn:ks.Nodup:=by decide) (hp:pm.all pinned=true:=by simp only [pz,↓reduceIte,Nat.reduceEqDiff,Nat.reduceAdd,Nat.reduceSub,Nat.reduceMul,Nat.reduceLeDiff,Nat.reduceBEq,Bool.false_eq_true,decide_true,decide_false,Int.reduceLE,Int.reduceToNat,Int.reduceLT,Int.reduceEq,eq_self,Nat.reduceShiftRight,Nat.reduceAnd,Nat.reduceBneDiff]):X :=
 hx ⟨r,ks,pm,hg,hn,hp,hR,ZgH hr⟩
theorem ZjX:ZdC (Tryz.prog.underlying 3)=some .i64:=by kernel_rfl
theorem Ziu:Tryz.prog.underlying 168=some (.int .u64):=by kernel_rfl
theorem ZhU (j:Int):ZlA j (some (.int .u64)) (some .i64)=some (.d (.one (.lit (.int .i64 (IntKind.i64.wrap j))))):=rfl
theorem toNat_one:Int.toNat 1=1:=rfl
theorem ZjY (i j:Nat) (h:i+j < 4611686018427387904):∃ s m:Nat,IntKind.i64.wrap ((i:Int)+(j:Int))=(s:Int)∧IntKind.u64.wrap (s:Int)=(s:Int)∧(s:Int).fdiv (2 ^ (min 1 64))=(m:Int)∧IntKind.i64.wrap (m:Int)=(m:Int)∧m=(i+j) / 2:=by
 refine ⟨i+j,(i+j) / 2,ZaV om om om,?_,?_,IntWalk.i64_in _ ⟨by omega,by omega⟩,rfl⟩
 ·simp only [IntKind.wrap,IntKind.signed,IntKind.bits]
  simp
  omega
 ·simp only [show min 1 64=1 from rfl,Int.pow_succ,Int.pow_zero,Int.one_mul]
  rw [Int.fdiv_eq_ediv_of_nonneg _ (by decide)]
  omega
set_option maxRecDepth 100000 in
theorem Zjx (P X Z Y Q:List Tm) (hl:X.length=Y.length) {A B n N:Nat} (hA:A=P.length) (hB:B=P.length+X.length+Z.length) (hn:n=X.length) (hN:N=P.length+X.length+Z.length+Y.length+Q.length) (hmx:N<=4000000) (a:Option Addr) (cap:Nat) :
  ConP e0 272 [.one (.lit (.slice a N cap)),.one (.lit (.int .i64 A)),.one (.lit (.int .i64 B)),.one (.lit (.int .i64 n)),.one (.fn 82 [])] [.buf (some (a,cap)) 46 4 (Zaf (P++X++Z++Y++Q))] (RBuf a cap (P++Y++Z++X++Q)):=by
 refine gIP (ts:=[]) [1000] 9231 Tryz.func272 ?_
 (have F:=@tmz;refine gG ?_;clear F)
 (have F:=@tmz;refine gL (ι:=Nat × List Tm) [10,13] [1000] (fun x=>[(10,.d (.one (.lit (.int .i64 (x.1:Int)))))]) (fun x=>[(1000,.buf (some (a,cap)) 46 4 (Zaf x.2))]) (fun x=>x.1<=n∧x.2=swR P X Z Y Q x.1) (fun x=>n - x.1) ((0,P++X++Z++Y++Q)) (⟨Nat.zero_le _,(ZAz P X Z Y Q).symm⟩) (fun x hx=>?_);clear F)
 obtain ⟨i,us⟩:=x
 obtain ⟨hi,hus⟩:=hx
 simp only at hi hus
 dsimp only
 by_cases hlt:i < n
 rotate_left
 ·obtain rfl:i=n:=by omega
  have q1:((i:Int) < (i:Int))=False:=eq_false om
  rw [hn,ZEB hl] at hus
  subst hus
  (have F:=ai @q1 @tmz;refine gG ?_;clear F)
  first | exact (have F:=@e0P;gTPe (R:=RBuf a cap (P++Y++Z++X++Q)) [1000] ⟨rfl,rfl⟩) | exact (have F:=@e0P;gTP (R:=RBuf a cap (P++Y++Z++X++Q)) [1000] ⟨rfl,rfl⟩)
 have q1:((i:Int) < (n:Int))=True:=eq_true om
 obtain ⟨x,hx⟩:∃ t,X[i]?=some t:=⟨_,List.getElem?_eq_getElem om⟩
 obtain ⟨y,hy⟩:∃ t,Y[i]?=some t:=⟨_,List.getElem?_eq_getElem om⟩
 obtain ⟨g1,g2,g3⟩:=ZED (P:=P) (Z:=Z) (Q:=Q) hl hx hy
 have hul:us.length=N:=by rw [hus,ZEC i hl,hN]
 rw [<- hus] at g1 g2 g3
 rw [<- hB] at g2 g3
 rw [<- hA] at g1 g3
 obtain ⟨p,hp⟩:∃ p,p=A+i:=⟨_,rfl⟩
 obtain ⟨q,hq⟩:∃ q,q=B+i:=⟨_,rfl⟩
 rw [<- hp] at g1 g3
 rw [<- hq] at g2 g3
 have w1:IntKind.i64.wrap ((A:Int)+(i:Int))=(p:Int):=ZaV om om om
 have w2:IntKind.i64.wrap ((B:Int)+(i:Int))=(q:Int):=ZaV om om om
 have w3:=Zay (k:=i) om
 have l1:p < N:=by omega
 have l2:q < N:=by omega
 have hls:∀ k (t:Tm),(us.set k t).length=N:=fun k t=>by rw [List.length_set,hul]
 (have F:=ai @q1 @tmz;have NN:Zah 3:=trivial;refine gGn ?_;clear F NN)
 obtain ⟨z,g4⟩:∃ z,(us.set p y)[q]?=some z:=⟨_,List.getElem?_eq_getElem (by rw [List.length_set];omega)⟩
 refine gF0 ?_
 refine gFm 0 ?_
 refine gFm 1 ?_
 refine gFm 2 ?_
 refine (have F:=(ai q1 (ai w1 (ai w2 (ai l1 (ai l2 (ai hul (ai g1 (ai g2 (ai g4 (ai hls (ai @Zag (ai @Zav tmz))))))))))));gFb 3 ?_)
 refine gFm 4 ?_
 refine gFm 5 ?_
 refine gFm 6 ?_
 refine (have F:=(ai q1 (ai w1 (ai w2 (ai l1 (ai l2 (ai hul (ai g1 (ai g2 (ai g4 (ai hls (ai @Zag (ai @Zav tmz))))))))))));gFb 7 ?_)
 refine gFm 8 ?_
 refine gFm 9 ?_
 refine gFm 10 ?_
 refine (have F:=(ai q1 (ai w1 (ai w2 (ai l1 (ai l2 (ai hul (ai g1 (ai g2 (ai g4 (ai hls (ai @Zag (ai @Zav tmz))))))))))));gFb 11 ?_)
 refine (have F:=(ai q1 (ai w1 (ai w2 (ai l1 (ai l2 (ai hul (ai g1 (ai g2 (ai g4 (ai hls (ai @Zag (ai @Zav tmz))))))))))));gFi (rows:=Zaf us) 12 q (by rw [Zag];omega) ?_)
 refine gFm 14 ?_
 refine gFm 15 ?_
 refine gFm 16 ?_
 refine (have F:=(ai q1 (ai w1 (ai w2 (ai l1 (ai l2 (ai hul (ai g1 (ai g2 (ai g4 (ai hls (ai @Zag (ai @Zav tmz))))))))))));gFb 17 ?_)
 refine (have F:=(ai q1 (ai w1 (ai w2 (ai l1 (ai l2 (ai hul (ai g1 (ai g2 (ai g4 (ai hls (ai @Zag (ai @Zav tmz))))))))))));gFi (rows:=Zaf us) 18 p (by rw [Zag];omega) ?_)
 refine gFT ?_
 refine gO2 13 19 ?_ ?_
 ·refine (have F:=(ai q1 (ai w1 (ai w2 (ai l1 (ai l2 (ai hul (ai g1 (ai g2 (ai g4 (ai hls (ai @Zag (ai @Zav tmz))))))))))));gO3 ?_)
  refine gO1 19 ?_
  refine (have F:=(ai q1 (ai w1 (ai w2 (ai l1 (ai l2 (ai hul (ai g1 (ai g2 (ai g4 (ai hls (ai @Zag (ai @Zav tmz))))))))))));gO3 ?_)
  refine gO1 20 ?_
  refine (have F:=(ai q1 (ai w1 (ai w2 (ai l1 (ai l2 (ai hul (ai g1 (ai g2 (ai g4 (ai hls (ai @Zag (ai @Zav tmz))))))))))));gO3 ?_)
  refine gO1 21 ?_
  refine (have F:=(ai q1 (ai w1 (ai w2 (ai l1 (ai l2 (ai hul (ai g1 (ai g2 (ai g4 (ai hls (ai @Zag (ai @Zav tmz))))))))))));gO3 ?_)
  refine gO1 22 ?_
  refine (have F:=(ai q1 (ai w1 (ai w2 (ai l1 (ai l2 (ai hul (ai g1 (ai g2 (ai g4 (ai hls (ai @Zag (ai @Zav tmz))))))))))));gO3 ?_)
  refine gO1 23 ?_
  refine (have F:=(ai q1 (ai w1 (ai w2 (ai l1 (ai l2 (ai hul (ai g1 (ai g2 (ai g4 (ai hls (ai @Zag (ai @Zav tmz))))))))))));gO3 ?_)
  refine (have F:=tmz;gT0 ?_)
  refine Exists.intro _ (ai (Wk.refl _) ?_)
  rw [g3]
  (have F:=@w3;refine gG ?_;exact ⟨(i+1,swR P X Z Y Q (i+1)),⟨hlt,rfl⟩,gw,gw,by omega⟩)
 ·refine (have F:=(ai q1 (ai w1 (ai w2 (ai l1 (ai l2 (ai hul (ai g1 (ai g2 (ai g4 (ai hls (ai @Zag (ai @Zav tmz))))))))))));gO3 ?_)
  refine gO1 13 ?_
  refine (have F:=(ai q1 (ai w1 (ai w2 (ai l1 (ai l2 (ai hul (ai g1 (ai g2 (ai g4 (ai hls (ai @Zag (ai @Zav tmz))))))))))));gO3 ?_)
  refine gO1 20 ?_
  refine (have F:=(ai q1 (ai w1 (ai w2 (ai l1 (ai l2 (ai hul (ai g1 (ai g2 (ai g4 (ai hls (ai @Zag (ai @Zav tmz))))))))))));gO3 ?_)
  refine gO1 21 ?_
  refine (have F:=(ai q1 (ai w1 (ai w2 (ai l1 (ai l2 (ai hul (ai g1 (ai g2 (ai g4 (ai hls (ai @Zag (ai @Zav tmz))))))))))));gO3 ?_)
  refine gO1 22 ?_
  refine (have F:=(ai q1 (ai w1 (ai w2 (ai l1 (ai l2 (ai hul (ai g1 (ai g2 (ai g4 (ai hls (ai @Zag (ai @Zav tmz))))))))))));gO3 ?_)
  refine gO1 23 ?_
  refine (have F:=(ai q1 (ai w1 (ai w2 (ai l1 (ai l2 (ai hul (ai g1 (ai g2 (ai g4 (ai hls (ai @Zag (ai @Zav tmz))))))))))));gO3 ?_)
  refine (have F:=tmz;gT0 ?_)
  refine Exists.intro _ (ai (Wk.refl _) ?_)
  rw [g3]
  (have F:=@w3;refine gG ?_;exact ⟨(i+1,swR P X Z Y Q (i+1)),⟨hlt,rfl⟩,gw,gw,by omega⟩)
set_option maxRecDepth 100000 in
theorem ZAC (P X Y Q:List Tm) (hX:0 < X.length) (hY:0 < Y.length) {A M B N:Nat} (hA:A=P.length) (hM:M=P.length+X.length) (hB:B=P.length+X.length+Y.length) (hN:N=P.length+X.length+Y.length+Q.length) (hmx:N<=4000000) (a:Option Addr) (cap:Nat) :
  ConP e0 265 [.one (.lit (.slice a N cap)),.one (.lit (.int .i64 A)),.one (.lit (.int .i64 M)),.one (.lit (.int .i64 B)),.one (.fn 82 [])] [.buf (some (a,cap)) 46 4 (Zaf (P++X++Y++Q))] (RBuf a cap (P++Y++X++Q)):=by
 have w1:IntKind.i64.wrap ((M:Int) - (A:Int))=(X.length:Int):=ZaV om om om
 have w2:IntKind.i64.wrap ((B:Int) - (M:Int))=(Y.length:Int):=ZaV om om om
 refine gIP (ts:=[]) [1000] 9440287 Tryz.func265 ?_
 (have F:=ai @w1 (ai @w2 @tmz);refine gG ?_;clear F)
 (have F:=@tmz;refine gL (ι:=(Nat × Nat) × List Tm) [10,11,20,23] [1000] (fun x=>[(10,.d (.one (.lit (.int .i64 (x.1.1:Int))))),(11,.d (.one (.lit (.int .i64 (x.1.2:Int)))))]) (fun x=>[(1000,.buf (some (a,cap)) 46 4 (Zaf x.2))]) (fun x=>∃ P' X' Y' Q',x.2=P'++X'++Y'++Q'∧x.1.1=X'.length∧x.1.2=Y'.length∧P'.length+X'.length=M∧0 < X'.length∧0 < Y'.length∧P'++Y'++X'++Q'=P++Y++X++Q) (fun x=>x.1.1+x.1.2) (((X.length,Y.length),P++X++Y++Q)) (⟨P,X,Y,Q,rfl,rfl,rfl,hM.symm,hX,hY,rfl⟩) (fun x hx=>?_);clear F)
 obtain ⟨⟨i,j⟩,us⟩:=x
 obtain ⟨P',X',Y',Q',hus,hi,hj,hM',hX',hY',hT⟩:=hx
 simp only at hus hi hj
 dsimp only
 have hlen:=congrArg List.length hT
 simp only [List.length_append] at hlen
 obtain ⟨z,hz⟩:∃ z,z=P'.length:=⟨_,rfl⟩
 have w3:IntKind.i64.wrap ((M:Int) - (i:Int))=(z:Int):=ZaV om om om
 by_cases hij:i=j
 ·have q1:((i:Int)=(j:Int))=True:=eq_true om
  have c:=Zjx P' X' [] Y' Q' om (A:=z) (B:=M) (n:=i) (N:=N) hz (by simp;omega) hi (by simp;omega) hmx a cap
  rw [List.append_nil,List.append_nil,hT,<- hus] at c
  (have F:=ai @q1 @tmz;have NN:Zah 8:=trivial;refine gGn ?_;clear F NN)
  refine gB ?_
  (have F:=ai @tmz @w3;refine gCP [1000] [1000] (c) ?_;clear F)
  rintro r pm ⟨rfl,rfl⟩
  simp only [setA,retA,zipM,List.cons_append,List.nil_append]
  (have F:=@tmz;refine gR ?_;clear F)
  (have F:=@tmz;refine gG ?_;clear F)
  first | exact (have F:=@e0P;gTPe (R:=RBuf a cap (P++Y++X++Q)) [1000] ⟨rfl,rfl⟩) | exact (have F:=@e0P;gTP (R:=RBuf a cap (P++Y++X++Q)) [1000] ⟨rfl,rfl⟩)
 have q1:((i:Int)=(j:Int))=False:=eq_false om
 by_cases hgt:j < i
 ·have q2:((j:Int) < (i:Int))=True:=eq_true om
  obtain ⟨d,hd⟩:∃ d,d=i - j:=⟨_,rfl⟩
  have w4:IntKind.i64.wrap ((i:Int) - (j:Int))=(d:Int):=ZaV om om om
  have hX12:X'=X'.take j++X'.drop j:=(List.take_append_drop j X').symm
  have l1:(X'.take j).length=j:=by rw [List.length_take];omega
  have l2:(X'.drop j).length=d:=by rw [List.length_drop];omega
  generalize X'.take j=X1 at hX12 l1
  generalize X'.drop j=X2 at hX12 l2
  subst hX12
  have c:=Zjx P' X1 X2 Y' Q' om (A:=z) (B:=M) (n:=j) (N:=N) hz (by simp at hM';omega) l1.symm (by simp at hlen;omega) hmx a cap
  rw [show P'++X1++X2++Y'++Q'=us by rw [hus];simp] at c
  (have F:=ai @q1 (ai @q2 @tmz);have NN:Zah 4:=trivial;refine gGn ?_;clear F NN)
  refine gB ?_
  (have F:=ai @tmz @w3;refine gCP [1000] [1000] (c) ?_;clear F)
  rintro r pm ⟨rfl,rfl⟩
  simp only [setA,retA,zipM,List.cons_append,List.nil_append]
  (have F:=@tmz;refine gR ?_;clear F)
  (have F:=@w4;refine gG ?_;exact ⟨((d,j),P'++Y'++X2++X1++Q'),⟨P'++Y',X2,X1,Q',rfl,l2.symm,l1.symm,by simp at hM' ⊢;omega,by omega,by omega,by rw [<- hT];simp⟩,gw,gw,by dsimp only;omega⟩)
 ·have q2:((j:Int) < (i:Int))=False:=eq_false om
  obtain ⟨d,hd⟩:∃ d,d=j - i:=⟨_,rfl⟩
  have w4:IntKind.i64.wrap ((j:Int) - (i:Int))=(d:Int):=ZaV om om om
  obtain ⟨u,hu⟩:∃ u,u=M+j:=⟨_,rfl⟩
  obtain ⟨v,hv⟩:∃ v,v=M+d:=⟨_,rfl⟩
  have w5:IntKind.i64.wrap ((M:Int)+(j:Int))=(u:Int):=ZaV om om om
  have w6:IntKind.i64.wrap ((u:Int) - (i:Int))=(v:Int):=ZaV om om om
  have hY12:Y'=Y'.take d++Y'.drop d:=(List.take_append_drop d Y').symm
  have l1:(Y'.take d).length=d:=by rw [List.length_take];omega
  have l2:(Y'.drop d).length=i:=by rw [List.length_drop];omega
  generalize Y'.take d=Y1 at hY12 l1
  generalize Y'.drop d=Y2 at hY12 l2
  subst hY12
  have c:=Zjx P' X' Y1 Y2 Q' om (A:=z) (B:=v) (n:=i) (N:=N) hz om hi (by simp at hlen;omega) hmx a cap
  rw [show P'++X'++Y1++Y2++Q'=us by rw [hus];simp] at c
  (have F:=ai @q1 (ai @q2 @tmz);have NN:Zah 6:=trivial;refine gGn ?_;clear F NN)
  refine gB ?_
  (have F:=ai @tmz (ai @w3 (ai @w5 @w6));refine gCP [1000] [1000] (c) ?_;clear F)
  rintro r pm ⟨rfl,rfl⟩
  simp only [setA,retA,zipM,List.cons_append,List.nil_append]
  (have F:=@tmz;refine gR ?_;clear F)
  (have F:=@w4;refine gG ?_;exact ⟨((i,d),P'++Y2++Y1++X'++Q'),⟨P',Y2,Y1,X'++Q',by simp,l2.symm,l1.symm,by omega,by omega,by omega,by rw [<- hT];simp⟩,gw,gw,by dsimp only;omega⟩)
theorem Zm4 {M:List Tm} {k:Nat} {x:Tm} (h:M[k]?=some x):M.take k++[x]=M.take (k+1):=(Zci h).symm
set_option maxRecDepth 100000 in
theorem Zqa (P M Q:List Tm) {A B N:Nat} (hA:A=P.length) (hB:B=P.length+M.length) (hN:N=P.length+M.length+Q.length) (hmx:N<=4000000) (a:Option Addr) (cap:Nat) :
  ConP e0 250 [.one (.lit (.slice a N cap)),.one (.lit (.int .i64 A)),.one (.lit (.int .i64 B)),.one (.fn 82 [])] [.buf (some (a,cap)) 46 4 (Zaf (P++M++Q))] (RBuf a cap (P++Zaz M++Q)):=by
 have wA:=Zay (k:=A) om
 obtain ⟨A1,hA1⟩:∃ A1,A1=A+1:=⟨_,rfl⟩
 rw [<- hA1] at wA
 have h0:P++M++Q=P++Zaz (M.take (A1 - A))++(M.drop (A1 - A)++Q):=by
  have:Zaz (M.take 1)=M.take 1:=Zez (by cases M with | nil=>exact List.Pairwise.nil | cons x M=>simp only [List.take_succ_cons,List.take_zero];exact List.pairwise_singleton _ _)
  rw [hA1,Nat.add_sub_cancel_left,this]
  simp only [List.append_assoc]
  rw [<- List.append_assoc (M.take 1),List.take_append_drop]
 refine gIP (ts:=[]) [1000] 17179886351 Tryz.func250 ?_
 (have F:=ai @wA @tmz;refine gG ?_;clear F)
 (have F:=@tmz;refine gL (ι:=Nat × List Tm) [8,9,14,34] [1000] (fun x=>[(8,.d (.one (.lit (.int .i64 (x.1:Int)))))]) (fun x=>[(1000,.buf (some (a,cap)) 46 4 (Zaf x.2))]) (fun x=>A1<=x.1∧(x.1<=B∨x.1=A1)∧x.2=P++Zaz (M.take (x.1 - A))++(M.drop (x.1 - A)++Q)) (fun x=>B+1 - x.1) ((A1,P++M++Q)) (⟨Nat.le_refl _,.inr rfl,h0⟩) (fun x hx=>?_);clear F)
 obtain ⟨i,us⟩:=x
 obtain ⟨hi1,hi2,hus⟩:=hx
 simp only at hi1 hi2 hus
 dsimp only
 by_cases hlt:i < B
 rotate_left
 ·have q1:((i:Int) < (B:Int))=False:=eq_false om
  have e1:M.take (i - A)=M:=List.take_of_length_le om
  have e2:M.drop (i - A)=[]:=List.drop_of_length_le om
  rw [e1,e2,List.nil_append] at hus
  subst hus
  (have F:=ai @q1 @tmz;refine gG ?_;clear F)
  first | exact (have F:=@e0P;gTPe (R:=RBuf a cap (P++Zaz M++Q)) [1000] ⟨rfl,rfl⟩) | exact (have F:=@e0P;gTP (R:=RBuf a cap (P++Zaz M++Q)) [1000] ⟨rfl,rfl⟩)
 have q1:((i:Int) < (B:Int))=True:=eq_true om
 obtain ⟨k,hk⟩:∃ k,k=i - A:=⟨_,rfl⟩
 rw [<- hk] at hus
 obtain ⟨x,hx⟩:∃ t,M[k]?=some t:=⟨_,List.getElem?_eq_getElem om⟩
 have hL:(Zaz (M.take k)).length=k:=by rw [ZcR,List.length_take];omega
 rw [Zdz hx] at hus
 have wi:=Zay (k:=i) om
 have hR:(M.drop (k+1)++Q).length+i+1=N:=by rw [List.length_append,List.length_drop];omega
 have hnext:∀ M1 M2,M1++M2=Zaz (M.take k)->(∀ y∈M2,Zak x y<=0)->(∀ y,M1.getLast?=some y->Zak y x<=0)->P++M1++x::(M2++(M.drop (k+1)++Q))=P++Zaz (M.take (i+1 - A))++(M.drop (i+1 - A)++Q):=fun M1 M2 e h2 h1=>by
  have:=ZpT e h2 h1
  rw [Zm4 hx] at this
  rw [show i+1 - A=k+1 by omega,<- this]
  simp
 obtain ⟨T,hT⟩:∃ T,T=P++Zaz (M.take (i+1 - A))++(M.drop (i+1 - A)++Q):=⟨_,rfl⟩
 rw [<- hT] at hnext
 (have F:=ai @q1 @tmz;refine gG ?_;clear F)
 (have F:=@tmz;refine gL (ι:=Nat × List Tm) [9,34] [1000] (fun z=>[(9,.d (.one (.lit (.int .i64 (z.1:Int)))))]) (fun z=>[(1000,.buf (some (a,cap)) 46 4 (Zaf z.2))]) (fun z=>∃ M1 M2,z.2=P++M1++x::(M2++(M.drop (k+1)++Q))∧z.1=A+M1.length∧M1++M2=Zaz (M.take k)∧∀ y∈M2,Zak x y<=0) (fun z=>z.1) ((i,us)) (⟨Zaz (M.take k),[],by rw [hus];simp,by rw [hL];omega,List.append_nil _,fun y h=>by simp at h⟩) (fun z hz=>?_);clear F)
 obtain ⟨j,vs⟩:=z
 obtain ⟨M1,M2,hvs,hj,he,h2⟩:=hz
 simp only at hvs hj
 dsimp only
 have hml:M1.length+M2.length=k:=by rw [<- List.length_append,he,hL]
 have hvl:vs.length=N:=by rw [hvs];simp only [List.length_append,List.length_cons] at hR ⊢;omega
 rcases List.eq_nil_or_concat M1 with h1 | ⟨M0,y,h1⟩
 ·subst h1
  have hn:=hnext [] M2 he h2 (fun y h=>by simp at h)
  obtain rfl:j=A:=by simpa using hj
  have q2:((j:Int) < (j:Int))=False:=eq_false om
  rw [hn] at hvs
  subst hvs
  (have F:=ai @q2 @tmz;refine gG ?_;clear F)
  (have F:=@wi;refine gG ?_;exact ⟨(i+1,vs),⟨by omega,.inl hlt,hT⟩,gw,gw,by omega⟩)
 ·rw [List.concat_eq_append] at h1
  subst h1
  simp only [List.length_append,List.length_cons,List.length_nil] at hj hml
  obtain ⟨p,hp⟩:∃ p,p=A+M0.length:=⟨_,rfl⟩
  have hjp:j=p+1:=by omega
  have q2:((A:Int) < (j:Int))=True:=eq_true om
  have w1:IntKind.i64.wrap ((j:Int) - 1)=(p:Int):=ZaV om om om
  have hPl:(P++M0).length=p:=by rw [List.length_append];omega
  have hvs2:vs=(P++M0)++y::x::(M2++(M.drop (k+1)++Q)):=by rw [hvs];simp
  have g1:vs[p]?=some y:=by rw [hvs2];exact ZhO hPl
  have g2:vs[j]?=some x:=by rw [hvs2,hjp];exact ZmY hPl
  have l1:p < N:=by omega
  have l2:j < N:=by omega
  (have F:=ai @q2 @tmz;refine gG ?_;clear F)
  refine gB ?_
  (have F:=ai @q2 (ai @tmz (ai @g1 (ai @g2 (ai @w1 (ai @l1 (ai @l2 (ai @hvl @Zag)))))));refine gC (ZlG (Zfo x y)) ?_;clear F)
  by_cases hc:Zak x y < 0
  ·have z1:(Zak x y < 0)=True:=eq_true hc
   obtain ⟨U,hU⟩:∃ U,U=(P++M0)++x::y::(M2++(M.drop (k+1)++Q)):=⟨_,rfl⟩
   have g3:(vs.set j y).set p x=U:=by rw [hU,hvs2,hjp];exact ZtO hPl
   have hls:∀ q (t:Tm),(vs.set q t).length=N:=fun q t=>by rw [List.length_set,hvl]
   (have F:=ai @z1 (ai @q2 @tmz);refine gR ?_;clear F)
   have hM2:∀ u∈y::M2,Zak x u<=0:=fun u hu=>by
    rcases List.mem_cons.1 hu with rfl | hu
    ·omega
    ·exact h2 u hu
   obtain ⟨z,g4⟩:∃ z,(vs.set j y)[p]?=some z:=⟨_,List.getElem?_eq_getElem (by rw [List.length_set];omega)⟩
   (have F:=ai @z1 @tmz;have NN:Zah 6:=trivial;refine gGn ?_;clear F NN)
   refine gF0 ?_
   refine gFm 0 ?_
   refine gFm 1 ?_
   refine gFm 2 ?_
   refine gFm 3 ?_
   refine (have F:=(ai w1 (ai l1 (ai l2 (ai hvl (ai g1 (ai g2 (ai g4 (ai hls (ai @Zag (ai @Zav tmz))))))))));gFb 4 ?_)
   refine gFm 5 ?_
   refine gFm 6 ?_
   refine (have F:=(ai w1 (ai l1 (ai l2 (ai hvl (ai g1 (ai g2 (ai g4 (ai hls (ai @Zag (ai @Zav tmz))))))))));gFb 7 ?_)
   refine (have F:=(ai w1 (ai l1 (ai l2 (ai hvl (ai g1 (ai g2 (ai g4 (ai hls (ai @Zag (ai @Zav tmz))))))))));gFi (rows:=Zaf vs) 8 p (by rw [Zag];omega) ?_)
   refine gFm 10 ?_
   refine gFm 11 ?_
   refine (have F:=(ai w1 (ai l1 (ai l2 (ai hvl (ai g1 (ai g2 (ai g4 (ai hls (ai @Zag (ai @Zav tmz))))))))));gFi (rows:=Zaf vs) 12 j (by rw [Zag];omega) ?_)
   refine gFT ?_
   refine gO2 9 13 ?_ ?_
   ·refine (have F:=(ai w1 (ai l1 (ai l2 (ai hvl (ai g1 (ai g2 (ai g4 (ai hls (ai @Zag (ai @Zav tmz))))))))));gO3 ?_)
    refine gO1 13 ?_
    refine (have F:=(ai w1 (ai l1 (ai l2 (ai hvl (ai g1 (ai g2 (ai g4 (ai hls (ai @Zag (ai @Zav tmz))))))))));gO3 ?_)
    refine gO1 14 ?_
    refine (have F:=(ai w1 (ai l1 (ai l2 (ai hvl (ai g1 (ai g2 (ai g4 (ai hls (ai @Zag (ai @Zav tmz))))))))));gO3 ?_)
    refine gO1 15 ?_
    refine (have F:=(ai w1 (ai l1 (ai l2 (ai hvl (ai g1 (ai g2 (ai g4 (ai hls (ai @Zag (ai @Zav tmz))))))))));gO3 ?_)
    refine gO1 16 ?_
    refine (have F:=(ai w1 (ai l1 (ai l2 (ai hvl (ai g1 (ai g2 (ai g4 (ai hls (ai @Zag (ai @Zav tmz))))))))));gO3 ?_)
    refine gO1 17 ?_
    refine (have F:=(ai w1 (ai l1 (ai l2 (ai hvl (ai g1 (ai g2 (ai g4 (ai hls (ai @Zag (ai @Zav tmz))))))))));gO3 ?_)
    refine (have F:=tmz;gT0 ?_)
    refine Exists.intro _ (ai (Wk.refl _) ?_)
    rw [g3]
    (have F:=@w1;refine gG ?_;exact ⟨(p,U),⟨M0,y::M2,by rw [hU];simp,hp,by rw [<- he];simp,hM2⟩,gw,gw,by omega⟩)
   ·refine (have F:=(ai w1 (ai l1 (ai l2 (ai hvl (ai g1 (ai g2 (ai g4 (ai hls (ai @Zag (ai @Zav tmz))))))))));gO3 ?_)
    refine gO1 9 ?_
    refine (have F:=(ai w1 (ai l1 (ai l2 (ai hvl (ai g1 (ai g2 (ai g4 (ai hls (ai @Zag (ai @Zav tmz))))))))));gO3 ?_)
    refine gO1 14 ?_
    refine (have F:=(ai w1 (ai l1 (ai l2 (ai hvl (ai g1 (ai g2 (ai g4 (ai hls (ai @Zag (ai @Zav tmz))))))))));gO3 ?_)
    refine gO1 15 ?_
    refine (have F:=(ai w1 (ai l1 (ai l2 (ai hvl (ai g1 (ai g2 (ai g4 (ai hls (ai @Zag (ai @Zav tmz))))))))));gO3 ?_)
    refine gO1 16 ?_
    refine (have F:=(ai w1 (ai l1 (ai l2 (ai hvl (ai g1 (ai g2 (ai g4 (ai hls (ai @Zag (ai @Zav tmz))))))))));gO3 ?_)
    refine gO1 17 ?_
    refine (have F:=(ai w1 (ai l1 (ai l2 (ai hvl (ai g1 (ai g2 (ai g4 (ai hls (ai @Zag (ai @Zav tmz))))))))));gO3 ?_)
    refine (have F:=tmz;gT0 ?_)
    refine Exists.intro _ (ai (Wk.refl _) ?_)
    rw [g3]
    (have F:=@w1;refine gG ?_;exact ⟨(p,U),⟨M0,y::M2,by rw [hU];simp,hp,by rw [<- he];simp,hM2⟩,gw,gw,by omega⟩)
  ·have z1:(Zak x y < 0)=False:=eq_false hc
   have hn:=hnext (M0++[y]) M2 he h2 (fun u h=>by
    simp only [List.getLast?_append,List.getLast?_singleton,Option.some_or,Option.some.injEq] at h
    subst h
    exact ZoJ hc)
   rw [hn] at hvs
   subst hvs
   (have F:=ai @z1 (ai @q2 @tmz);refine gR ?_;clear F)
   (have F:=ai @z1 @tmz;refine gG ?_;clear F)
   (have F:=@wi;refine gG ?_;exact ⟨(i+1,vs),⟨by omega,.inl hlt,hT⟩,gw,gw,by omega⟩)
theorem Zu6 {P A B Q:List Tm} {i k:Nat} {x:Tm} (h:A[i]?=some x) (hk:k=P.length+i):(P++A++B++Q)[k]?=some x:=by
 have hi:=(List.getElem?_eq_some_iff.1 h).1
 subst hk
 rw [List.append_assoc,List.append_assoc,List.getElem?_append_right om,Nat.add_sub_cancel_left,List.getElem?_append_left hi,h]
theorem Zu7 {P A B Q:List Tm} {i k:Nat} {x:Tm} (h:B[i]?=some x) (hk:k=P.length+A.length+i):(P++A++B++Q)[k]?=some x:=by
 have hi:=(List.getElem?_eq_some_iff.1 h).1
 subst hk
 rw [List.append_assoc,List.getElem?_append_right (by rw [List.length_append];omega),List.length_append,Nat.add_sub_cancel_left,List.getElem?_append_left hi,h]
theorem Zqb {B:List Tm} {x:Tm} (hB:Up B) {s:Nat} (h1:0 < s->∃ y,B[s - 1]?=some y∧Zak y x<=0) (h2:s < B.length->∃ y,B[s]?=some y∧Zak x y<=0):Zaz ([x]++B)=B.take s++x::B.drop s:=(ZfZ (ZAx s) (hB.put h1 h2)).symm
def SymL (A B:List Tm) (lo mid st i:Nat):Prop:=st < i->∃ u v,A[i - 1 - lo]?=some u∧B[mid - i]?=some v∧Zak u v<=0
def SymR (A B:List Tm) (lo mid r0 j:Nat):Prop:=j < r0->∃ u v,B[mid - 1 - j]?=some u∧A[j - lo]?=some v∧Zak u v<=0
set_option maxRecDepth 100000 in
theorem Zqc:∀ (n:Nat) (P A B Q:List Tm),A.length+B.length<=n->0 < A.length->0 < B.length->Up A->Up B->∀ {lo mi hi N:Nat},lo=P.length->mi=P.length+A.length->hi=P.length+A.length+B.length->N=P.length+A.length+B.length+Q.length->N<=4000000->∀ (a:Option Addr) (cap:Nat),
  ConP e0 251 [.one (.lit (.slice a N cap)),.one (.lit (.int .i64 lo)),.one (.lit (.int .i64 mi)),.one (.lit (.int .i64 hi)),.one (.fn 82 [])] [.buf (some (a,cap)) 46 4 (Zaf (P++A++B++Q))] (RBuf a cap (P++Zaz (A++B)++Q)):=by
 intro n
 induction n with
 | zero=>intro P A B Q h1 h2;omega
 | succ n ih =>
 intro P A B Q hsz hA0 hB0 hA hB lo mi hi N hlo hmi hhi hN hmx a cap
 have hU:∃ U,U=P++A++B++Q:=⟨_,rfl⟩
 obtain ⟨U,hU⟩:=hU
 have hUl:U.length=N:=by rw [hU];simp only [List.length_append];omega
 rw [<- hU]
 have w0:IntKind.i64.wrap ((mi:Int) - (lo:Int))=(A.length:Int):=ZaV om om om
 have w1:IntKind.i64.wrap ((hi:Int) - (mi:Int))=(B.length:Int):=ZaV om om om
 refine gIP (ts:=[]) [1000] 13164839976634628298295110780136696778032692856359452003713154079 Tryz.func251 ?_
 by_cases hA1:A.length=1
 ·have q1:((A.length:Int)=1)=True:=eq_true om
  obtain ⟨x,hx⟩:∃ x,A=[x]:=List.length_eq_one_iff.1 hA1
  have gx:U[lo]?=some x:=by rw [hU];exact Zu6 (i:=0) (by rw [hx];rfl) om
  have l0:lo < N:=by omega
  (have F:=ai @w0 (ai @q1 @tmz);refine gG ?_;clear F)
  clear q1
  (have F:=@tmz;refine gL (ι:=Nat × Nat) [10,11,12,33,50] [] (fun z=>[(10,.d (.one (.lit (.int .i64 (z.1:Int))))),(11,.d (.one (.lit (.int .i64 (z.2:Int)))))]) (fun z=>[]) (fun z=>mi<=z.1∧z.1<=z.2∧z.2<=hi∧(mi < z.1->∃ y,B[z.1 - mi - 1]?=some y∧Zak y x<=0)∧(z.2 < hi->∃ y,B[z.2 - mi]?=some y∧Zak x y<=0)) (fun z=>z.2 - z.1) ((mi,hi)) (⟨Nat.le_refl _,by omega,Nat.le_refl _,fun h=>by omega,fun h=>by omega⟩) (fun z hz=>?_);clear F)
  obtain ⟨i,j⟩:=z
  obtain ⟨h1,h2,h3,h4,h5⟩:=hz
  simp only at h1 h2 h3 h4 h5
  dsimp only
  by_cases hij:i < j
  ·have q2:((i:Int) < (j:Int))=True:=eq_true om
   obtain ⟨s,h,u1,u2,u3,u4,hh⟩:=ZjY i j om
   obtain ⟨y,hy⟩:∃ y,B[h - mi]?=some y:=⟨_,List.getElem?_eq_getElem om⟩
   have gy:U[h]?=some y:=by rw [hU];exact Zu7 hy om
   have lh:h < N:=by omega
   have wh:=Zay (k:=h) om
   (have F:=ai @q2 (ai @u1 (ai @u2 (ai @u3 (ai @u4 (ai @ZfX (ai @ZjX (ai @Zfp (ai @Ziu (ai @Zee (ai @ZhU (ai @toNat_one (ai @ZlC @tmz))))))))))));refine gG ?_;clear F)
   refine gB ?_
   (have F:=ai @tmz (ai @gx (ai @gy (ai @l0 (ai @lh (ai @hUl @Zag)))));refine gC (ZlG (Zfo y x)) ?_;clear F)
   by_cases hc:Zak y x < 0
   ·have z1:(Zak y x < 0)=True:=eq_true hc
    (have F:=ai @z1 @tmz;refine gR ?_;clear F)
    (have F:=ai @z1 @wh;refine gG ?_;exact ⟨(h+1,j),⟨by omega,by omega,h3,fun _=>⟨y,by rw [<- hy];congr 1;omega,by omega⟩,h5⟩,gw,gw,by omega⟩)
   ·have z1:(Zak y x < 0)=False:=eq_false hc
    (have F:=ai @z1 @tmz;refine gR ?_;clear F)
    (have F:=@z1;refine gG ?_;exact ⟨(i,h),⟨h1,by omega,by omega,h4,fun _=>⟨y,hy,ZoJ hc⟩⟩,gw,gw,by omega⟩)
  have q2:((i:Int) < (j:Int))=False:=eq_false om
  obtain rfl:i=j:=by omega
  obtain ⟨e,he⟩:∃ e,i=e+1:=⟨i - 1,by omega⟩
  have w2:IntKind.i64.wrap ((i:Int) - 1)=(e:Int):=ZaV om om om
  have hout:Zaz (A++B)=B.take (e - lo)++x::B.drop (e - lo):=by
   rw [hx]
   exact Zqb hB (fun h=>by obtain ⟨y,hy,hc⟩:=h4 om;exact ⟨y,by rw [<- hy];congr 1;omega,hc⟩) (fun h=>by obtain ⟨y,hy,hc⟩:=h5 om;exact ⟨y,by rw [<- hy];congr 1;omega,hc⟩)
  rw [hout]
  (have F:=ai @q2 @tmz;refine gG ?_;clear F)
  (have F:=@tmz;refine gL (ι:=Nat × List Tm) [13,58] [1000] (fun z=>[(13,.d (.one (.lit (.int .i64 (z.1:Int)))))]) (fun z=>[(1000,.buf (some (a,cap)) 46 4 (Zaf z.2))]) (fun z=>lo<=z.1∧z.1<=e∧z.2=P++B.take (z.1 - lo)++x::(B.drop (z.1 - lo)++Q)) (fun z=>e - z.1) ((lo,U)) (⟨Nat.le_refl _,by omega,by rw [hU,hx,Nat.sub_self];simp⟩) (fun z hz=>?_);clear F)
  obtain ⟨k,us⟩:=z
  obtain ⟨k1,k2,hus⟩:=hz
  simp only at k1 k2 hus
  dsimp only
  by_cases hk:k < e
  ·have q3:((k:Int) < (e:Int))=True:=eq_true om
   obtain ⟨y,hy⟩:∃ y,B[k - lo]?=some y:=⟨_,List.getElem?_eq_getElem om⟩
   have hPl:(P++B.take (k - lo)).length=k:=by rw [List.length_append,List.length_take];omega
   rw [Zdz hy] at hus
   have g1:us[k]?=some x:=by rw [hus];exact ZhO hPl
   have g2:us[k+1]?=some y:=by rw [hus];exact ZmY hPl
   obtain ⟨V,hV⟩:∃ V,V=P++B.take (k+1 - lo)++x::(B.drop (k+1 - lo)++Q):=⟨_,rfl⟩
   have g3:(us.set k y).set (k+1) x=V:=by
    rw [hV,hus,List.cons_append,ZAy hPl,show k+1 - lo=k - lo+1 by omega,Zci hy];simp
   have hul:us.length=N:=by rw [hus];simp only [List.length_append,List.length_cons,List.length_take,List.length_drop];omega
   obtain ⟨k',hk'⟩:∃ k',k'=k+1:=⟨_,rfl⟩
   rw [<- hk'] at g2 g3 hV
   have wk:IntKind.i64.wrap ((k:Int)+1)=(k':Int):=ZaV om om om
   have l1:k < N:=by omega
   have l2:k' < N:=by omega
   have hls:∀ q (t:Tm),(us.set q t).length=N:=fun q t=>by rw [List.length_set,hul]
   obtain ⟨z,g4⟩:∃ z,(us.set k y)[k']?=some z:=⟨_,List.getElem?_eq_getElem (by rw [List.length_set];omega)⟩
   (have F:=ai @q3 (ai @w2 @tmz);have NN:Zah 11:=trivial;refine gGn ?_;clear F NN)
   refine gF0 ?_
   refine gFm 0 ?_
   refine gFm 1 ?_
   refine gFm 2 ?_
   refine gFm 3 ?_
   refine (have F:=(ai wk (ai l1 (ai l2 (ai hul (ai g1 (ai g2 (ai g4 (ai hls (ai @Zag (ai @Zav tmz))))))))));gFb 4 ?_)
   refine gFm 5 ?_
   refine gFm 6 ?_
   refine (have F:=(ai wk (ai l1 (ai l2 (ai hul (ai g1 (ai g2 (ai g4 (ai hls (ai @Zag (ai @Zav tmz))))))))));gFb 7 ?_)
   refine (have F:=(ai wk (ai l1 (ai l2 (ai hul (ai g1 (ai g2 (ai g4 (ai hls (ai @Zag (ai @Zav tmz))))))))));gFi (rows:=Zaf us) 8 k' (by rw [Zag];omega) ?_)
   refine gFm 10 ?_
   refine gFm 11 ?_
   refine (have F:=(ai wk (ai l1 (ai l2 (ai hul (ai g1 (ai g2 (ai g4 (ai hls (ai @Zag (ai @Zav tmz))))))))));gFi (rows:=Zaf us) 12 k (by rw [Zag];omega) ?_)
   refine gFT ?_
   refine gO2 9 13 ?_ ?_
   ·refine (have F:=(ai wk (ai l1 (ai l2 (ai hul (ai g1 (ai g2 (ai g4 (ai hls (ai @Zag (ai @Zav tmz))))))))));gO3 ?_)
    refine gO1 13 ?_
    refine (have F:=(ai wk (ai l1 (ai l2 (ai hul (ai g1 (ai g2 (ai g4 (ai hls (ai @Zag (ai @Zav tmz))))))))));gO3 ?_)
    refine gO1 14 ?_
    refine (have F:=(ai wk (ai l1 (ai l2 (ai hul (ai g1 (ai g2 (ai g4 (ai hls (ai @Zag (ai @Zav tmz))))))))));gO3 ?_)
    refine gO1 15 ?_
    refine (have F:=(ai wk (ai l1 (ai l2 (ai hul (ai g1 (ai g2 (ai g4 (ai hls (ai @Zag (ai @Zav tmz))))))))));gO3 ?_)
    refine gO1 16 ?_
    refine (have F:=(ai wk (ai l1 (ai l2 (ai hul (ai g1 (ai g2 (ai g4 (ai hls (ai @Zag (ai @Zav tmz))))))))));gO3 ?_)
    refine gO1 17 ?_
    refine (have F:=(ai wk (ai l1 (ai l2 (ai hul (ai g1 (ai g2 (ai g4 (ai hls (ai @Zag (ai @Zav tmz))))))))));gO3 ?_)
    refine (have F:=tmz;gT0 ?_)
    refine Exists.intro _ (ai (Wk.refl _) ?_)
    rw [g3]
    (have F:=@wk;refine gG ?_;exact ⟨(k',V),⟨by omega,by omega,hV⟩,gw,gw,by omega⟩)
   ·refine (have F:=(ai wk (ai l1 (ai l2 (ai hul (ai g1 (ai g2 (ai g4 (ai hls (ai @Zag (ai @Zav tmz))))))))));gO3 ?_)
    refine gO1 9 ?_
    refine (have F:=(ai wk (ai l1 (ai l2 (ai hul (ai g1 (ai g2 (ai g4 (ai hls (ai @Zag (ai @Zav tmz))))))))));gO3 ?_)
    refine gO1 14 ?_
    refine (have F:=(ai wk (ai l1 (ai l2 (ai hul (ai g1 (ai g2 (ai g4 (ai hls (ai @Zag (ai @Zav tmz))))))))));gO3 ?_)
    refine gO1 15 ?_
    refine (have F:=(ai wk (ai l1 (ai l2 (ai hul (ai g1 (ai g2 (ai g4 (ai hls (ai @Zag (ai @Zav tmz))))))))));gO3 ?_)
    refine gO1 16 ?_
    refine (have F:=(ai wk (ai l1 (ai l2 (ai hul (ai g1 (ai g2 (ai g4 (ai hls (ai @Zag (ai @Zav tmz))))))))));gO3 ?_)
    refine gO1 17 ?_
    refine (have F:=(ai wk (ai l1 (ai l2 (ai hul (ai g1 (ai g2 (ai g4 (ai hls (ai @Zag (ai @Zav tmz))))))))));gO3 ?_)
    refine (have F:=tmz;gT0 ?_)
    refine Exists.intro _ (ai (Wk.refl _) ?_)
    rw [g3]
    (have F:=@wk;refine gG ?_;exact ⟨(k',V),⟨by omega,by omega,hV⟩,gw,gw,by omega⟩)
  have q3:((k:Int) < (e:Int))=False:=eq_false om
  obtain rfl:k=e:=by omega
  subst hus
  rw [show P++B.take (k - lo)++x::(B.drop (k - lo)++Q)=P++(B.take (k - lo)++x::B.drop (k - lo))++Q by simp]
  (have F:=ai @q3 (ai @w2 @tmz);refine gG ?_;clear F)
  first | exact (have F:=@e0P;gTPe (R:=RBuf a cap (P++(B.take (k - lo)++x::B.drop (k - lo))++Q)) [1000] ⟨rfl,rfl⟩) | exact (have F:=@e0P;gTP (R:=RBuf a cap (P++(B.take (k - lo)++x::B.drop (k - lo))++Q)) [1000] ⟨rfl,rfl⟩)
 have q1:((A.length:Int)=1)=False:=eq_false om
 by_cases hB1:B.length=1
 ·have q1':((B.length:Int)=1)=True:=eq_true om
  obtain ⟨x,hx⟩:∃ x,B=[x]:=List.length_eq_one_iff.1 hB1
  have gx:U[mi]?=some x:=by rw [hU];exact Zu7 (i:=0) (by rw [hx];rfl) om
  have l0:mi < N:=by omega
  (have F:=ai @w0 (ai @w1 (ai @q1 (ai @q1' @tmz)));refine gG ?_;clear F)
  clear q1 q1'
  (have F:=@tmz;refine gL (ι:=Nat × Nat) [14,15,16,85,103] [] (fun z=>[(14,.d (.one (.lit (.int .i64 (z.1:Int))))),(15,.d (.one (.lit (.int .i64 (z.2:Int)))))]) (fun z=>[]) (fun z=>lo<=z.1∧z.1<=z.2∧z.2<=mi∧(lo < z.1->∃ y,A[z.1 - lo - 1]?=some y∧Zak y x<=0)∧(z.2 < mi->∃ y,A[z.2 - lo]?=some y∧Zak x y<=0)) (fun z=>z.2 - z.1) ((lo,mi)) (⟨Nat.le_refl _,by omega,Nat.le_refl _,fun h=>by omega,fun h=>by omega⟩) (fun z hz=>?_);clear F)
  obtain ⟨i,j⟩:=z
  obtain ⟨h1,h2,h3,h4,h5⟩:=hz
  simp only at h1 h2 h3 h4 h5
  dsimp only
  by_cases hij:i < j
  ·have q2:((i:Int) < (j:Int))=True:=eq_true om
   obtain ⟨s,h,u1,u2,u3,u4,hh⟩:=ZjY i j om
   obtain ⟨y,hy⟩:∃ y,A[h - lo]?=some y:=⟨_,List.getElem?_eq_getElem om⟩
   have gy:U[h]?=some y:=by rw [hU];exact Zu6 hy om
   have lh:h < N:=by omega
   have wh:=Zay (k:=h) om
   (have F:=ai @q2 (ai @u1 (ai @u2 (ai @u3 (ai @u4 (ai @ZfX (ai @ZjX (ai @Zfp (ai @Ziu (ai @Zee (ai @ZhU (ai @toNat_one (ai @ZlC @tmz))))))))))));refine gG ?_;clear F)
   refine gB ?_
   (have F:=ai @tmz (ai @gx (ai @gy (ai @l0 (ai @lh (ai @hUl @Zag)))));refine gC (ZlG (Zfo x y)) ?_;clear F)
   by_cases hc:Zak x y < 0
   ·have z1:(Zak x y < 0)=True:=eq_true hc
    (have F:=ai @z1 @tmz;refine gR ?_;clear F)
    (have F:=@z1;refine gG ?_;exact ⟨(i,h),⟨h1,by omega,by omega,h4,fun _=>⟨y,hy,by omega⟩⟩,gw,gw,by omega⟩)
   ·have z1:(Zak x y < 0)=False:=eq_false hc
    (have F:=ai @z1 @tmz;refine gR ?_;clear F)
    (have F:=ai @z1 @wh;refine gG ?_;exact ⟨(h+1,j),⟨by omega,by omega,h3,fun _=>⟨y,by rw [<- hy];congr 1;omega,ZoJ hc⟩,h5⟩,gw,gw,by omega⟩)
  have q2:((i:Int) < (j:Int))=False:=eq_false om
  obtain rfl:i=j:=by omega
  have hout:Zaz (A++B)=A.take (i - lo)++x::A.drop (i - lo):=by
   rw [hx,ZpS (List.perm_append_comm (l₁:=A) (l₂:=[x]))]
   exact Zqb hA (fun h=>by obtain ⟨y,hy,hc⟩:=h4 om;exact ⟨y,hy,hc⟩) (fun h=>by obtain ⟨y,hy,hc⟩:=h5 om;exact ⟨y,hy,hc⟩)
  rw [hout]
  (have F:=ai @q2 @tmz;refine gG ?_;clear F)
  (have F:=@tmz;refine gL (ι:=Nat × List Tm) [17,110] [1000] (fun z=>[(17,.d (.one (.lit (.int .i64 (z.1:Int)))))]) (fun z=>[(1000,.buf (some (a,cap)) 46 4 (Zaf z.2))]) (fun z=>i<=z.1∧z.1<=mi∧z.2=P++A.take (z.1 - lo)++x::(A.drop (z.1 - lo)++Q)) (fun z=>z.1) ((mi,U)) (⟨h3,Nat.le_refl _,by rw [hU,hx,show mi - lo=A.length by omega,List.take_length,List.drop_length];simp⟩) (fun z hz=>?_);clear F)
  obtain ⟨k,us⟩:=z
  obtain ⟨k1,k2,hus⟩:=hz
  simp only at k1 k2 hus
  dsimp only
  by_cases hk:i < k
  ·have q3:((i:Int) < (k:Int))=True:=eq_true om
   obtain ⟨p,hp⟩:∃ p,k=p+1:=⟨k - 1,by omega⟩
   obtain ⟨y,hy⟩:∃ y,A[p - lo]?=some y:=⟨_,List.getElem?_eq_getElem om⟩
   have hPl:(P++A.take (p - lo)).length=p:=by rw [List.length_append,List.length_take];omega
   have hus2:us=(P++A.take (p - lo))++y::x::(A.drop (k - lo)++Q):=by rw [hus,show k - lo=p - lo+1 by omega,Zci hy];simp
   have g1:us[p]?=some y:=by rw [hus2];exact ZhO hPl
   have g2:us[k]?=some x:=by rw [hus2,hp];exact ZmY hPl
   obtain ⟨V,hV⟩:∃ V,V=P++A.take (p - lo)++x::(A.drop (p - lo)++Q):=⟨_,rfl⟩
   have g3:(us.set k y).set p x=V:=by
    rw [hV,hus2,hp,ZtO hPl,Zdz hy,show p+1 - lo=p - lo+1 by omega];simp
   have hul:us.length=N:=by rw [hus];simp only [List.length_append,List.length_cons,List.length_take,List.length_drop];omega
   have wk:IntKind.i64.wrap ((k:Int) - 1)=(p:Int):=ZaV om om om
   have l1:k < N:=by omega
   have l2:p < N:=by omega
   have hls:∀ q (t:Tm),(us.set q t).length=N:=fun q t=>by rw [List.length_set,hul]
   obtain ⟨z,g4⟩:∃ z,(us.set k y)[p]?=some z:=⟨_,List.getElem?_eq_getElem (by rw [List.length_set];omega)⟩
   (have F:=ai @q3 @tmz;have NN:Zah 23:=trivial;refine gGn ?_;clear F NN)
   refine gF0 ?_
   refine gFm 0 ?_
   refine gFm 1 ?_
   refine gFm 2 ?_
   refine gFm 3 ?_
   refine (have F:=(ai wk (ai l1 (ai l2 (ai hul (ai g1 (ai g2 (ai g4 (ai hls (ai @Zag (ai @Zav tmz))))))))));gFb 4 ?_)
   refine gFm 5 ?_
   refine gFm 6 ?_
   refine (have F:=(ai wk (ai l1 (ai l2 (ai hul (ai g1 (ai g2 (ai g4 (ai hls (ai @Zag (ai @Zav tmz))))))))));gFb 7 ?_)
   refine (have F:=(ai wk (ai l1 (ai l2 (ai hul (ai g1 (ai g2 (ai g4 (ai hls (ai @Zag (ai @Zav tmz))))))))));gFi (rows:=Zaf us) 8 p (by rw [Zag];omega) ?_)
   refine gFm 10 ?_
   refine gFm 11 ?_
   refine (have F:=(ai wk (ai l1 (ai l2 (ai hul (ai g1 (ai g2 (ai g4 (ai hls (ai @Zag (ai @Zav tmz))))))))));gFi (rows:=Zaf us) 12 k (by rw [Zag];omega) ?_)
   refine gFT ?_
   refine gO2 9 13 ?_ ?_
   ·refine (have F:=(ai wk (ai l1 (ai l2 (ai hul (ai g1 (ai g2 (ai g4 (ai hls (ai @Zag (ai @Zav tmz))))))))));gO3 ?_)
    refine gO1 13 ?_
    refine (have F:=(ai wk (ai l1 (ai l2 (ai hul (ai g1 (ai g2 (ai g4 (ai hls (ai @Zag (ai @Zav tmz))))))))));gO3 ?_)
    refine gO1 14 ?_
    refine (have F:=(ai wk (ai l1 (ai l2 (ai hul (ai g1 (ai g2 (ai g4 (ai hls (ai @Zag (ai @Zav tmz))))))))));gO3 ?_)
    refine gO1 15 ?_
    refine (have F:=(ai wk (ai l1 (ai l2 (ai hul (ai g1 (ai g2 (ai g4 (ai hls (ai @Zag (ai @Zav tmz))))))))));gO3 ?_)
    refine gO1 16 ?_
    refine (have F:=(ai wk (ai l1 (ai l2 (ai hul (ai g1 (ai g2 (ai g4 (ai hls (ai @Zag (ai @Zav tmz))))))))));gO3 ?_)
    refine gO1 17 ?_
    refine (have F:=(ai wk (ai l1 (ai l2 (ai hul (ai g1 (ai g2 (ai g4 (ai hls (ai @Zag (ai @Zav tmz))))))))));gO3 ?_)
    refine (have F:=tmz;gT0 ?_)
    refine Exists.intro _ (ai (Wk.refl _) ?_)
    rw [g3]
    (have F:=@wk;refine gG ?_;exact ⟨(p,V),⟨by omega,by omega,hV⟩,gw,gw,by omega⟩)
   ·refine (have F:=(ai wk (ai l1 (ai l2 (ai hul (ai g1 (ai g2 (ai g4 (ai hls (ai @Zag (ai @Zav tmz))))))))));gO3 ?_)
    refine gO1 9 ?_
    refine (have F:=(ai wk (ai l1 (ai l2 (ai hul (ai g1 (ai g2 (ai g4 (ai hls (ai @Zag (ai @Zav tmz))))))))));gO3 ?_)
    refine gO1 14 ?_
    refine (have F:=(ai wk (ai l1 (ai l2 (ai hul (ai g1 (ai g2 (ai g4 (ai hls (ai @Zag (ai @Zav tmz))))))))));gO3 ?_)
    refine gO1 15 ?_
    refine (have F:=(ai wk (ai l1 (ai l2 (ai hul (ai g1 (ai g2 (ai g4 (ai hls (ai @Zag (ai @Zav tmz))))))))));gO3 ?_)
    refine gO1 16 ?_
    refine (have F:=(ai wk (ai l1 (ai l2 (ai hul (ai g1 (ai g2 (ai g4 (ai hls (ai @Zag (ai @Zav tmz))))))))));gO3 ?_)
    refine gO1 17 ?_
    refine (have F:=(ai wk (ai l1 (ai l2 (ai hul (ai g1 (ai g2 (ai g4 (ai hls (ai @Zag (ai @Zav tmz))))))))));gO3 ?_)
    refine (have F:=tmz;gT0 ?_)
    refine Exists.intro _ (ai (Wk.refl _) ?_)
    rw [g3]
    (have F:=@wk;refine gG ?_;exact ⟨(p,V),⟨by omega,by omega,hV⟩,gw,gw,by omega⟩)
  have q3:((i:Int) < (k:Int))=False:=eq_false om
  obtain rfl:i=k:=by omega
  subst hus
  rw [show P++A.take (i - lo)++x::(A.drop (i - lo)++Q)=P++(A.take (i - lo)++x::A.drop (i - lo))++Q by simp]
  (have F:=ai @q3 @tmz;refine gG ?_;clear F)
  first | exact (have F:=@e0P;gTPe (R:=RBuf a cap (P++(A.take (i - lo)++x::A.drop (i - lo))++Q)) [1000] ⟨rfl,rfl⟩) | exact (have F:=@e0P;gTP (R:=RBuf a cap (P++(A.take (i - lo)++x::A.drop (i - lo))++Q)) [1000] ⟨rfl,rfl⟩)
 have q1':((B.length:Int)=1)=False:=eq_false om
 obtain ⟨s0,mid,u1,u2,u3,u4,hmid⟩:=ZjY lo hi om
 obtain ⟨nn,hnn⟩:∃ nn,nn=mid+mi:=⟨_,rfl⟩
 obtain ⟨p,hp⟩:∃ p,nn=p+1:=⟨nn - 1,by omega⟩
 have w2:IntKind.i64.wrap ((mid:Int)+(mi:Int))=(nn:Int):=ZaV om om om
 have w3:IntKind.i64.wrap ((nn:Int) - 1)=(p:Int):=ZaV om om om
 (have F:=ai @w0 (ai @w1 (ai @q1 (ai @q1' (ai @u1 (ai @u2 (ai @u3 (ai @u4 (ai @ZfX (ai @ZjX (ai @Zfp (ai @Ziu (ai @Zee (ai @ZhU (ai @toNat_one (ai @ZlC (ai @w2 @tmz))))))))))))))));refine gG ?_;clear F)
 clear q1 q1' u1 u2 u3 u4
 refine gM (ι:=Nat × Nat) [20,21] [] (fun z=>[(20,.d (.one (.lit (.int .i64 (z.1:Int))))),(21,.d (.one (.lit (.int .i64 (z.2:Int)))))]) (fun z=>[]) (fun z=>mid < mi∧z.1+hi=nn∧z.2=mid∨mi<=mid∧z.1=lo∧z.2=mi) ?_ (fun z hz=>Exists.intro _ (ai (Wk.refl _) ?_))
 ·by_cases hgt:mid < mi
  ·have q2:decide ((mid:Int) < (mi:Int))=true:=decide_eq_true om
   have w4:IntKind.i64.wrap ((nn:Int) - (hi:Int))=((nn - hi:Nat):Int):=ZaV om om om
   generalize hv:nn - hi=v at w4
   have q2':(mid < mi)=True:=eq_true hgt
   (have F:=ai @q2 (ai @q2' (ai @w4 @tmz));refine gG ?_;exact ⟨(v,mid),.inl ⟨hgt,by simp only;omega,rfl⟩,gw,gw⟩)
  ·have q2:decide ((mid:Int) < (mi:Int))=false:=decide_eq_false om
   have q2':(mi<=mid)=True:=eq_true om
   (have F:=ai @q2 (ai @q2' @tmz);refine gG ?_;exact ⟨(lo,mi),.inr ⟨by omega,rfl,rfl⟩,gw,gw⟩)
 obtain ⟨st,r0⟩:=z
 simp only at hz
 dsimp only
 (have F:=ai @w3 @tmz;refine gG ?_;clear F)
 (have F:=@tmz;refine gL (ι:=Nat × Nat) [20,21,23,151,171] [] (fun z=>[(20,.d (.one (.lit (.int .i64 (z.1:Int))))),(21,.d (.one (.lit (.int .i64 (z.2:Int)))))]) (fun z=>[]) (fun z=>st<=z.1∧z.1<=z.2∧z.2<=r0∧SymL A B lo mid st z.1∧SymR A B lo mid r0 z.2) (fun z=>z.2 - z.1) ((st,r0)) (⟨Nat.le_refl _,by omega,Nat.le_refl _,fun h=>by omega,fun h=>by omega⟩) (fun z hz=>?_);clear F)
 obtain ⟨i,j⟩:=z
 rename_i hcase
 obtain ⟨h1,h2,h3,h4,h5⟩:=hz
 simp only at h1 h2 h3 h4 h5
 dsimp only
 by_cases hij:i < j
 ·have q2:((i:Int) < (j:Int))=True:=eq_true om
  obtain ⟨s,c,u1,u2,u3,u4,hc⟩:=ZjY i j om
  obtain ⟨y,hy⟩:∃ y,A[c - lo]?=some y:=⟨_,List.getElem?_eq_getElem om⟩
  obtain ⟨x,hx⟩:∃ x,B[mid - 1 - c]?=some x:=⟨_,List.getElem?_eq_getElem om⟩
  obtain ⟨d,hd⟩:∃ d,d+c=p:=⟨p - c,by omega⟩
  have gy:U[c]?=some y:=by rw [hU];exact Zu6 hy om
  have gx:U[d]?=some x:=by rw [hU];exact Zu7 hx om
  have lc:c < N:=by omega
  have ld:d < N:=by omega
  have wc:=Zay (k:=c) om
  have wd:IntKind.i64.wrap ((p:Int) - (c:Int))=(d:Int):=ZaV om om om
  (have F:=ai @q2 (ai @u1 (ai @u2 (ai @u3 (ai @u4 (ai @ZfX (ai @ZjX (ai @Zfp (ai @Ziu (ai @Zee (ai @ZhU (ai @toNat_one (ai @ZlC @tmz))))))))))));refine gG ?_;clear F)
  refine gB ?_
  (have F:=ai @tmz (ai @gx (ai @gy (ai @lc (ai @ld (ai @wd (ai @hUl @Zag))))));refine gC (ZlG (Zfo x y)) ?_;clear F)
  by_cases hcc:Zak x y < 0
  ·have z1:(Zak x y < 0)=True:=eq_true hcc
   (have F:=ai @z1 @tmz;refine gR ?_;clear F)
   (have F:=@z1;refine gG ?_;exact ⟨(i,c),⟨h1,by omega,by omega,h4,fun _=>⟨x,y,hx,hy,by omega⟩⟩,gw,gw,by omega⟩)
  ·have z1:(Zak x y < 0)=False:=eq_false hcc
   (have F:=ai @z1 @tmz;refine gR ?_;clear F)
   (have F:=ai @z1 @wc;refine gG ?_;exact ⟨(c+1,j),⟨by omega,by omega,h3,fun _=>⟨y,x,by rw [<- hy];congr 1,by rw [<- hx];congr 1;omega,ZoJ hcc⟩,h5⟩,gw,gw,by omega⟩)
 have q2:((i:Int) < (j:Int))=False:=eq_false om
 obtain rfl:i=j:=by omega
 have hcut:=ZEA hA hB (s:=i - lo) (e:=mid - i) (fun e1 e2=>by
  obtain ⟨u,v,k1,k2,k3⟩:=h4 om
  exact ⟨u,v,by rw [<- k1];congr 1;omega,k2,k3⟩) (fun e1 e2=>by
  obtain ⟨u,v,k1,k2,k3⟩:=h5 om
  exact ⟨u,v,by rw [<- k1];congr 1;omega,k2,k3⟩)
 have eA:A=A.take (i - lo)++A.drop (i - lo):=(List.take_append_drop _ _).symm
 have eB:B=B.take (mid - i)++B.drop (mid - i):=(List.take_append_drop _ _).symm
 have lA1:(A.take (i - lo)).length=i - lo:=by rw [List.length_take];omega
 have lA2:(A.drop (i - lo)).length=mi - i:=by rw [List.length_drop];omega
 have lB1:(B.take (mid - i)).length=mid - i:=by rw [List.length_take];omega
 have lB2:(B.drop (mid - i)).length=hi+i - mi - mid:=by rw [List.length_drop];omega
 have uA1:=hA.take (i - lo)
 have uA2:=hA.drop (i - lo)
 have uB1:=hB.take (mid - i)
 have uB2:=hB.drop (mid - i)
 generalize A.take (i - lo)=A1 at hcut eA lA1 uA1
 generalize A.drop (i - lo)=A2 at hcut eA lA2 uA2
 generalize B.take (mid - i)=B1 at hcut eB lB1 uB1
 generalize B.drop (mid - i)=B2 at hcut eB lB2 uB2
 have hsort:=Zu0 hcut
 rw [<- eA,<- eB] at hsort
 rw [<- hsort]
 obtain ⟨ed,hed⟩:∃ ed,ed+i=nn:=⟨nn - i,by omega⟩
 have w5:IntKind.i64.wrap ((nn:Int) - (i:Int))=(ed:Int):=ZaV om om om
 clear h4 h5 hcut hsort hA hB
 (have F:=ai @q2 (ai @w5 @tmz);refine gG ?_;clear F)
 refine gM (ι:=Bool) [185] [] (fun b=>[(185,.d (.one (.lit (.bool b))))]) (fun b=>[]) (fun b=>b=decide (i < mi∧mi < ed)) ?_ (fun b hb=>Exists.intro _ (ai (Wk.refl _) ?_))
 ·by_cases hr1:i < mi
  ·have q3:((i:Int) < (mi:Int))=True:=eq_true om
   by_cases hr2:mi < ed
   ·have q4:((mi:Int) < (ed:Int))=True:=eq_true om
    (have F:=ai @q3 (ai @q4 @tmz);refine gG ?_;exact ⟨true,(decide_eq_true (ai hr1 hr2)).symm,gw,gw⟩)
   ·have q4:((mi:Int) < (ed:Int))=False:=eq_false om
    (have F:=ai @q3 (ai @q4 @tmz);refine gG ?_;exact ⟨false,(decide_eq_false fun h=>hr2 h.2).symm,gw,gw⟩)
  ·have q3:((i:Int) < (mi:Int))=False:=eq_false om
   (have F:=ai @q3 @tmz;refine gG ?_;exact ⟨false,(decide_eq_false fun h=>hr1 h.1).symm,gw,gw⟩)
 subst hb
 refine gM (ι:=Unit) [] [1000] (fun z=>[]) (fun z=>[(1000,.buf (some (a,cap)) 46 4 (Zaf (P++A1++B1++(A2++B2++Q))))]) (fun z=>True) ?_ (fun z hz=>Exists.intro _ (ai (Wk.refl _) ?_))
 ·by_cases hr:i < mi∧mi < ed
  ·rw [decide_eq_true hr]
   obtain ⟨hr1,hr2⟩:=hr
   have c:=ZAC (P++A1) A2 B1 (B2++Q) om om (A:=i) (M:=mi) (B:=ed) (N:=N) (by rw [List.length_append];omega) (by rw [List.length_append];omega) (by rw [List.length_append];omega) (by rw [List.length_append,List.length_append];omega) hmx a cap
   rw [show P++A1++A2++B1++(B2++Q)=U by rw [hU,eA,eB];simp,show P++A1++B1++A2++(B2++Q)=P++A1++B1++(A2++B2++Q) by simp] at c
   generalize P++A1++B1++(A2++B2++Q)=V at c ⊢
   (have F:=@tmz;have NN:Zah 40:=trivial;refine gGn ?_;clear F NN)
   refine gB ?_
   (have F:=@tmz;refine gCP [1000] [1000] (c) ?_;clear F)
   rintro r pm ⟨rfl,rfl⟩
   simp only [setA,retA,zipM,List.cons_append,List.nil_append]
   (have F:=@tmz;refine gR ?_;clear F)
   exact ⟨(),trivial,gw,gw⟩
  ·have hUU:U=P++A1++B1++(A2++B2++Q):=by
    rw [hU,eA,eB]
    rcases (show mi<=i∨mid<=i by omega) with h | h
    ·have:A2=[]:=List.eq_nil_of_length_eq_zero om
     subst this;simp
    ·have:B1=[]:=List.eq_nil_of_length_eq_zero om
     subst this;simp
   rw [<- hUU,decide_eq_false hr]
   (have F:=@tmz;refine gG ?_;exact ⟨(),trivial,gw,gw⟩)
 clear hU hUl U
 refine ZdH ?_
 refine ZdH ?_
 refine gM (ι:=Bool) [199] [] (fun b=>[(199,.d (.one (.lit (.bool b))))]) (fun b=>[]) (fun b=>b=decide (lo < i∧i < mid)) ?_ (fun b hb=>Exists.intro _ (ai (Wk.refl _) ?_))
 ·by_cases hr1:lo < i
  ·have q3:((lo:Int) < (i:Int))=True:=eq_true om
   by_cases hr2:i < mid
   ·have q4:((i:Int) < (mid:Int))=True:=eq_true om
    (have F:=ai @q3 (ai @q4 @tmz);refine gG ?_;exact ⟨true,(decide_eq_true (ai hr1 hr2)).symm,gw,gw⟩)
   ·have q4:((i:Int) < (mid:Int))=False:=eq_false om
    (have F:=ai @q3 (ai @q4 @tmz);refine gG ?_;exact ⟨false,(decide_eq_false fun h=>hr2 h.2).symm,gw,gw⟩)
  ·have q3:((lo:Int) < (i:Int))=False:=eq_false om
   (have F:=ai @q3 @tmz;refine gG ?_;exact ⟨false,(decide_eq_false fun h=>hr1 h.1).symm,gw,gw⟩)
 subst hb
 refine gM (ι:=Unit) [] [1000] (fun z=>[]) (fun z=>[(1000,.buf (some (a,cap)) 46 4 (Zaf (P++Zaz (A1++B1)++(A2++B2++Q))))]) (fun z=>True) ?_ (fun z hz=>Exists.intro _ (ai (Wk.refl _) ?_))
 ·by_cases hr:lo < i∧i < mid
  ·rw [decide_eq_true hr]
   obtain ⟨hr1,hr2⟩:=hr
   have c:=ih P A1 B1 (A2++B2++Q) om om om uA1 uB1 (lo:=lo) (mi:=i) (hi:=mid) (N:=N) hlo om om (by simp only [List.length_append];omega) hmx a cap
   generalize P++Zaz (A1++B1)++(A2++B2++Q)=V at c ⊢
   generalize P++A1++B1++(A2++B2++Q)=V' at c ⊢
   (have F:=@tmz;have NN:Zah 42:=trivial;refine gGn ?_;clear F NN)
   refine gB ?_
   (have F:=@tmz;refine gCP [1000] [1000] (c) ?_;clear F)
   rintro r pm ⟨rfl,rfl⟩
   simp only [setA,retA,zipM,List.cons_append,List.nil_append]
   (have F:=@tmz;refine gR ?_;clear F)
   exact ⟨(),trivial,gw,gw⟩
  ·have hs:Zaz (A1++B1)=A1++B1:=by
    rcases (show i<=lo∨mid<=i by omega) with h | h
    ·have:A1=[]:=List.eq_nil_of_length_eq_zero om
     subst this;exact Zez uB1
    ·have:B1=[]:=List.eq_nil_of_length_eq_zero om
     subst this;rw [List.append_nil];exact Zez uA1
   rw [hs,<- List.append_assoc P,decide_eq_false hr]
   generalize P++A1++B1++(A2++B2++Q)=V
   (have F:=@tmz;refine gG ?_;exact ⟨(),trivial,gw,gw⟩)
 have hsl:(Zaz (A1++B1)).length=mid - lo:=by rw [ZcR,List.length_append];omega
 generalize Zaz (A1++B1)=S1 at hsl ⊢
 rw [show P++S1++(A2++B2++Q)=P++S1++A2++B2++Q by simp,show P++(S1++Zaz (A2++B2))++Q=P++S1++Zaz (A2++B2)++Q by simp]
 refine ZdH ?_
 refine gM (ι:=Bool) [213] [] (fun b=>[(213,.d (.one (.lit (.bool b))))]) (fun b=>[]) (fun b=>b=decide (mid < ed∧ed < hi)) ?_ (fun b hb=>Exists.intro _ (ai (Wk.refl _) ?_))
 ·by_cases hr1:mid < ed
  ·have q3:((mid:Int) < (ed:Int))=True:=eq_true om
   by_cases hr2:ed < hi
   ·have q4:((ed:Int) < (hi:Int))=True:=eq_true om
    (have F:=ai @q3 (ai @q4 @tmz);refine gG ?_;exact ⟨true,(decide_eq_true (ai hr1 hr2)).symm,gw,gw⟩)
   ·have q4:((ed:Int) < (hi:Int))=False:=eq_false om
    (have F:=ai @q3 (ai @q4 @tmz);refine gG ?_;exact ⟨false,(decide_eq_false fun h=>hr2 h.2).symm,gw,gw⟩)
  ·have q3:((mid:Int) < (ed:Int))=False:=eq_false om
   (have F:=ai @q3 @tmz;refine gG ?_;exact ⟨false,(decide_eq_false fun h=>hr1 h.1).symm,gw,gw⟩)
 subst hb
 by_cases hr:mid < ed∧ed < hi
 ·rw [decide_eq_true hr]
  obtain ⟨hr1,hr2⟩:=hr
  have c:=ih (P++S1) A2 B2 Q om om om uA2 uB2 (lo:=mid) (mi:=ed) (hi:=hi) (N:=N) (by rw [List.length_append];omega) (by rw [List.length_append];omega) (by rw [List.length_append];omega) (by simp only [List.length_append];omega) hmx a cap
  generalize P++S1++Zaz (A2++B2)++Q=V at c ⊢
  generalize P++S1++A2++B2++Q=V' at c ⊢
  (have F:=@tmz;have NN:Zah 44:=trivial;refine gGn ?_;clear F NN)
  refine gB ?_
  (have F:=@tmz;refine gCP [1000] [1000] (c) ?_;clear F)
  rintro r pm ⟨rfl,rfl⟩
  simp only [setA,retA,zipM,List.cons_append,List.nil_append]
  (have F:=@tmz;refine gR ?_;clear F)
  first | exact (have F:=@e0P;gTPe (R:=RBuf a cap V) [1000] ⟨rfl,rfl⟩) | exact (have F:=@e0P;gTP (R:=RBuf a cap V) [1000] ⟨rfl,rfl⟩)
 ·have hs:Zaz (A2++B2)=A2++B2:=by
   rcases (show ed<=mid∨hi<=ed by omega) with h | h
   ·have:A2=[]:=List.eq_nil_of_length_eq_zero om
    subst this;exact Zez uB2
   ·have:B2=[]:=List.eq_nil_of_length_eq_zero om
    subst this;rw [List.append_nil];exact Zez uA2
  rw [hs,<- List.append_assoc (P++S1),decide_eq_false hr]
  generalize P++S1++A2++B2++Q=V
  (have F:=@tmz;refine gG ?_;clear F)
  first | exact (have F:=@e0P;gTPe (R:=RBuf a cap V) [1000] ⟨rfl,rfl⟩) | exact (have F:=@e0P;gTP (R:=RBuf a cap V) [1000] ⟨rfl,rfl⟩)
theorem Zqd {X A B r ts:List Tm} (h:(X++A++r).Perm ts) (hB:B.Perm A):(X++B++r).Perm ts:=((List.Perm.append_left X hB).append_right r).trans h
set_option maxRecDepth 100000 in
theorem Zqe (ts:List Tm) {N:Nat} (hN:N=ts.length) (hmx:N<=4000000) (a:Option Addr) (cap:Nat) :
  ConP e0 232 [.one (.lit (.slice a N cap)),.one (.lit (.int .i64 N)),.one (.fn 82 [])] [.buf (some (a,cap)) 46 4 (Zaf ts)] (RBuf a cap (Zaz ts)):=by
 refine gIP (ts:=[]) [1000] 18014433942971335 Tryz.func232 ?_
 (have F:=@tmz;refine gG ?_;clear F)
 (have F:=@tmz;refine gL (ι:=(Nat × Nat) × List Tm) [7,8,13] [1000] (fun z=>[(7,.d (.one (.lit (.int .i64 (z.1.1:Int))))),(8,.d (.one (.lit (.int .i64 (z.1.2:Int)))))]) (fun z=>[(1000,.buf (some (a,cap)) 46 4 (Zaf z.2))]) (fun z=>z.1.2=z.1.1+20∧z.1.1<=N∧∃ X,z.2=X++ts.drop z.1.1∧X.length=z.1.1∧Full 20 X∧X.Perm (ts.take z.1.1)) (fun z=>N - z.1.1) (((0,20),ts)) (⟨rfl,Nat.zero_le _,[],rfl,rfl,.nil,List.Perm.refl _⟩) (fun z hz=>?_);clear F)
 obtain ⟨⟨i,j⟩,us⟩:=z
 obtain ⟨hj,hi,X,hus,hX,hF,hp⟩:=hz
 simp only at hj hi hus hX hp
 dsimp only
 by_cases hlt:j<=N
 ·have q1:((j:Int)<=(N:Int))=True:=eq_true om
  have hd:ts.drop i=(ts.drop i).take 20++ts.drop j:=by rw [hj,<- List.drop_drop,List.take_append_drop]
  have hl:((ts.drop i).take 20).length=20:=by rw [List.length_take,List.length_drop];omega
  have ht:ts.take j=ts.take i++(ts.drop i).take 20:=by rw [hj,List.take_add]
  have c:=Zqa X ((ts.drop i).take 20) (ts.drop j) (A:=i) (B:=j) (N:=N) hX.symm om (by rw [List.length_drop];omega) hmx a cap
  rw [List.append_assoc X,<- hd,<- hus] at c
  have wj:IntKind.i64.wrap ((j:Int)+20)=((j+20:Nat):Int):=ZaV om om om
  obtain ⟨V,hV⟩:∃ V,V=X++Zaz ((ts.drop i).take 20)++ts.drop j:=⟨_,rfl⟩
  rw [<- hV] at c
  obtain ⟨j',hj'⟩:∃ j',j'=j+20:=⟨_,rfl⟩
  rw [<- hj'] at wj
  (have F:=ai @q1 @tmz;have NN:Zah 3:=trivial;refine gGn ?_;clear F NN)
  refine gB ?_
  (have F:=@tmz;refine gCP [1000] [1000] (c) ?_;clear F)
  rintro r pm ⟨rfl,rfl⟩
  simp only [setA,retA,zipM,List.cons_append,List.nil_append]
  (have F:=@tmz;refine gR ?_;clear F)
  (have F:=@wj;refine gG ?_;exact ⟨((j,j'),V),⟨hj',hlt,X++Zaz ((ts.drop i).take 20),hV,by rw [List.length_append,ZcR];simp only;omega,hF.snoc (by rw [ZcR];exact hl) (Zcz _),by simp only;rw [ht];exact hp.append (Zbn _)⟩,gw,gw,by dsimp only;omega⟩)
 have q1:((j:Int)<=(N:Int))=False:=eq_false om
 have c:=Zqa X (ts.drop i) [] (A:=i) (B:=N) (N:=N) hX.symm (by rw [List.length_drop];omega) (by rw [List.length_drop];simp;omega) hmx a cap
 rw [List.append_nil,List.append_nil,<- hus] at c
 have hB:Blks 20 (X++Zaz (ts.drop i)):=hF.blks (by rw [ZcR,List.length_drop];omega) (Zcz _)
 have hP:(X++Zaz (ts.drop i)).Perm ts:=by
  have:=hp.append (Zbn (ts.drop i))
  rwa [List.take_append_drop] at this
 generalize X++Zaz (ts.drop i)=vs at c hB hP
 (have F:=ai @q1 @tmz;have NN:Zah 6:=trivial;refine gGn ?_;clear F NN)
 refine gB ?_
 (have F:=@tmz;refine gCP [1000] [1000] (c) ?_;clear F)
 rintro r pm ⟨rfl,rfl⟩
 simp only [setA,retA,zipM,List.cons_append,List.nil_append]
 (have F:=@tmz;refine gR ?_;clear F)
 clear c q1 hus hF hp us X hX hi hj
 (have F:=@tmz;refine gG ?_;clear F)
 (have F:=@tmz;refine gL (ι:=Nat × List Tm) [6,7,8,9,30,35,54] [1000] (fun z=>[(6,.d (.one (.lit (.int .i64 (z.1:Int)))))]) (fun z=>[(1000,.buf (some (a,cap)) 46 4 (Zaf z.2))]) (fun z=>0 < z.1∧z.1<=8000000∧Blks z.1 z.2∧z.2.Perm ts) (fun z=>N - z.1) ((20,vs)) (⟨by omega,by omega,hB,hP⟩) (fun z hz=>?_);clear F)
 clear hB hP vs hlt i j
 obtain ⟨k,us⟩:=z
 obtain ⟨hk0,hk8,hB,hP⟩:=hz
 simp only at hk0 hk8 hB hP
 dsimp only
 by_cases hlt:k < N
 rotate_left
 ·have q1:((k:Int) < (N:Int))=False:=eq_false om
  have e:us=Zaz ts:=ZfZ hP (hB.up (by rw [hP.length_eq];omega))
  subst e
  (have F:=ai @q1 @tmz;refine gG ?_;clear F)
  first | exact (have F:=@e0P;gTPe (R:=RBuf a cap (Zaz ts)) [1000] ⟨rfl,rfl⟩) | exact (have F:=@e0P;gTP (R:=RBuf a cap (Zaz ts)) [1000] ⟨rfl,rfl⟩)
 have q1:((k:Int) < (N:Int))=True:=eq_true om
 obtain ⟨k2,hk2⟩:∃ k2,k2=2 * k:=⟨_,rfl⟩
 have w1:IntKind.i64.wrap (2 * (k:Int))=(k2:Int):=ZaV om om om
 have w2:IntKind.i64.wrap ((k:Int) * 2)=(k2:Int):=ZaV om om om
 (have F:=ai @q1 (ai @w1 @tmz);refine gG ?_;clear F)
 (have F:=@tmz;refine gL (ι:=(Nat × Nat) × List Tm) [7,8,35] [1000] (fun z=>[(7,.d (.one (.lit (.int .i64 (z.1.1:Int))))),(8,.d (.one (.lit (.int .i64 (z.1.2:Int)))))]) (fun z=>[(1000,.buf (some (a,cap)) 46 4 (Zaf z.2))]) (fun z=>z.1.2=z.1.1+k2∧z.1.1<=N∧∃ X Y,z.2=X++Y∧X.length=z.1.1∧Full k2 X∧Blks k Y∧(X++Y).Perm ts) (fun z=>N - z.1.1) (((0,k2),us)) (⟨(Nat.zero_add _).symm,Nat.zero_le _,[],us,rfl,rfl,.nil,hB,hP⟩) (fun z hz=>?_);clear F)
 obtain ⟨⟨i,j⟩,vs⟩:=z
 obtain ⟨hj,hi,X,Y,hvs,hX,hF,hY,hp⟩:=hz
 simp only at hj hi hvs hX
 dsimp only
 have hpl:=hp.length_eq
 rw [List.length_append] at hpl
 obtain ⟨m,hm⟩:∃ m,m=i+k:=⟨_,rfl⟩
 have w3:IntKind.i64.wrap ((i:Int)+(k:Int))=(m:Int):=ZaV om om om
 by_cases hjl:j<=N
 ·have q2:((j:Int)<=(N:Int))=True:=eq_true om
  obtain ⟨A,B,r,hY',hA,hB',uA,uB,hr⟩:=hY.two hk0 om
  have hYl:=congrArg List.length hY'
  simp only [List.length_append] at hYl
  have c:=Zqc _ X A B r (Nat.le_refl _) om om uA uB (lo:=i) (mi:=m) (hi:=j) (N:=N) hX.symm om om om hmx a cap
  have e1:X++A++B++r=vs:=by rw [hvs,hY'];simp
  rw [e1] at c
  have hp2:(X++Zaz (A++B)++r).Perm ts:=Zqd (A:=A++B) (by rw [<- List.append_assoc,e1,hvs];exact hp) (Zbn _)
  obtain ⟨V,hV⟩:∃ V,V=X++Zaz (A++B)++r:=⟨_,rfl⟩
  rw [<- hV] at c
  obtain ⟨j',hj'⟩:∃ j',j'=j+k2:=⟨_,rfl⟩
  have wj:IntKind.i64.wrap ((j:Int)+(k2:Int))=(j':Int):=ZaV om om om
  (have F:=ai @q2 @tmz;have NN:Zah 10:=trivial;refine gGn ?_;clear F NN)
  refine gB ?_
  (have F:=ai @tmz @w3;refine gCP [1000] [1000] (c) ?_;clear F)
  rintro r' pm ⟨rfl,rfl⟩
  simp only [setA,retA,zipM,List.cons_append,List.nil_append]
  (have F:=@tmz;refine gR ?_;clear F)
  (have F:=ai @w1 @wj;refine gG ?_;exact ⟨((j,j'),V),⟨hj',hjl,X++Zaz (A++B),r,hV,by simp only;rw [List.length_append,ZcR,List.length_append];omega,hF.snoc (by rw [ZcR,List.length_append];omega) (Zcz _),hr,hp2⟩,gw,gw,by dsimp only;omega⟩)
 have q2:((j:Int)<=(N:Int))=False:=eq_false om
 by_cases hmn:m < N
 ·have q3:((m:Int) < (N:Int))=True:=eq_true om
  obtain ⟨A,B,hY',hA,uA,hB'⟩:=hY.split om
  have hYl:=congrArg List.length hY'
  simp only [List.length_append] at hYl
  have uB:=hB'.up om
  have c:=Zqc _ X A B [] (Nat.le_refl _) om om uA uB (lo:=i) (mi:=m) (hi:=N) (N:=N) hX.symm om om (by simp only [List.length_nil];omega) hmx a cap
  have e1:X++A++B++[]=vs:=by rw [hvs,hY'];simp
  rw [e1] at c
  have hp2:(X++Zaz (A++B)++[]).Perm ts:=Zqd (A:=A++B) (by rw [<- List.append_assoc,e1,hvs];exact hp) (Zbn _)
  rw [List.append_nil] at hp2
  obtain ⟨V,hV⟩:∃ V,V=X++Zaz (A++B):=⟨_,rfl⟩
  rw [List.append_nil,<- hV] at c
  (have F:=ai @q2 (ai @q3 (ai @w3 @tmz));have NN:Zah 15:=trivial;refine gGn ?_;clear F NN)
  refine gB ?_
  (have F:=@tmz;refine gCP [1000] [1000] (c) ?_;clear F)
  rintro r' pm ⟨rfl,rfl⟩
  simp only [setA,retA,zipM,List.cons_append,List.nil_append]
  (have F:=@tmz;refine gR ?_;clear F)
  (have F:=@w2;refine gG ?_;exact ⟨(k2,V),⟨by omega,by omega,by rw [hV];exact hF.blks (by rw [ZcR,List.length_append];omega) (Zcz _),by rw [hV];exact hp2⟩,gw,gw,by omega⟩)
 have q3:((m:Int) < (N:Int))=False:=eq_false om
 (have F:=ai @q2 (ai @q3 (ai @w2 @w3));refine gG ?_;exact ⟨(k2,vs),⟨by omega,by omega,by rw [hvs];exact hF.blks om (hY.up om),by rw [hvs];exact hp⟩,gw,gw,by omega⟩)
set_option maxRecDepth 100000 in
theorem Zrj (ts:List Tm) (hmx:ts.length<=4000000) (a:Option Addr) (cap:Nat) :
  ConP e0 179 [.one (.lit (.slice a ts.length cap)),.one (.fn 82 [])] [.buf (some (a,cap)) 46 4 (Zaf ts)] (RBuf a cap (Zaz ts)):=by
 refine gIP (ts:=[]) [1000] 3 Tryz.func179 ?_
 refine gB ?_
 (have F:=@tmz;refine gCP [1000] [1000] (Zqe ts rfl hmx a cap) ?_;clear F)
 rintro r pm ⟨rfl,rfl⟩
 simp only [setA,retA,zipM,List.cons_append,List.nil_append]
 (have F:=@tmz;refine gR ?_;clear F)
 (have F:=@tmz;refine gG ?_;clear F)
 first | exact (have F:=@e0P;gTPe (R:=RBuf a cap (Zaz ts)) [1000] ⟨rfl,rfl⟩) | exact (have F:=@e0P;gTP (R:=RBuf a cap (Zaz ts)) [1000] ⟨rfl,rfl⟩)
def zTm:Tm:=.mk 0 ByteArray.empty 0 []
theorem Zmg:Zae zTm=[.lit (.int .i64 0),.lit (.string ByteArray.empty),.lit (.int .i64 0),.sl []]:=by simp [zTm,Zae,Zaf]
theorem ZdL:Zaf []=[]:=by simp [Zaf]
theorem Zjy {g:Sgn} {o:Opr} {op:Int}:∀ {xs:List Tm},(∀ a∈xs,TermOk g a)->(Zax o op xs).length<=60 * xs.length∧sizeTms (Zax o op xs)<=60 * xs.length∧depthTms (Zax o op xs)<=20
 | [],_=>⟨Nat.le_refl _,Nat.le_refl _,by simp [Zax,depthTms]⟩
 | a::xs,h=>by
  obtain ⟨i1,i2,i3⟩:=Zjy (o:=o) (op:=op) fun x hx=>h x (List.mem_cons_of_mem _ hx)
  have ha:=h a List.mem_cons_self
  have e:Zax o op (a::xs)=Zbq o op a++Zax o op xs:=rfl
  have s1:=ha.size
  have s2:=ha.depth
  rw [Zbg] at s1
  rw [Zgl] at s2
  have sl:=ZbL a.args
  have hf:(Zbq o op a).length<=60∧sizeTms (Zbq o op a)<=60∧depthTms (Zbq o op a)<=20:=by
   unfold Zbq
   split
   ·exact ⟨by omega,by omega,by omega⟩
   ·split
    ·exact ⟨by simp,by simp [sizeTms],by simp [depthTms]⟩
    ·refine ⟨by simp,?_,?_⟩
     ·have:=ha.size;simp only [sizeTms];omega
     ·have:=ha.depth;simp only [depthTms];omega
  have happ:∀ (l m:List Tm),sizeTms (l++m)=sizeTms l+sizeTms m∧depthTms (l++m)=max (depthTms l) (depthTms m):=fun l m=>by
   induction l with
   | nil=>simp [sizeTms,depthTms]
   | cons x l ih=>simp only [List.cons_append,sizeTms,depthTms,ih.1,ih.2];omega
  rw [e,List.length_append,(happ _ _).1,(happ _ _).2,List.length_cons]
  omega
section
variable {g:Sgn} {mc:C}
set_option maxRecDepth 100000 in
theorem Zu8 (hg:SgnOk g) {op:Int} {o:Opr} (h0:0<=op) (ho:g.ops[op.toNat]?=some o) (hu:o.unit≠0):Con e0 178 [.one (.ptr (encX g mc)),.one (.lit (.int .i64 op))] [.agg (Zae (ZbH o))]:=by
 have hax:=hg.axs o (List.mem_of_getElem? ho)
 have hlo:=hax.lo
 have hhi:=hax.hi
 have hln:=hg.len
 have hw:IntKind.i64.wrap (o.unit - 1)=o.unit - 1:=ZaV rfl om om
 have em:Zae (ZbH o)=[.lit (.int .i64 (o.unit - 1)),.lit (.string ByteArray.empty),.lit (.int .i64 0),.sl []]:=by simp only [ZbH,if_neg hu,Zae,Zaf]
 refine gI (ts:=[.cell 4 46]) 19 Tryz.func178 ?_
 (have F:=ai @Za8 (ai @h0 (ai @ho (ai @Zaj (ai @hw (ai @em @tmz)))));refine gG ?_;exact gTd)
open Classical in
set_option maxRecDepth 100000 in
theorem Zza (hg:SgnOk g) {op:Int} {o:Opr} {d:Dcl} (h0:0<=op) (ho:g.ops[op.toNat]?=some o) (hd:o.decls[0]?=some d) (xs:List Tm) (ha:∀ a∈xs,TermOk g a) (hl:xs.length<=1000):Con e0 118 [.one (.ptr (encX g mc)),.one (.lit (.int .i64 op)),.one (.sl (Zaf xs))] [.agg (Zae ((mkO g o d op xs).getD zTm)),.one (.lit (.bool (mkO g o d op xs).isSome))]:=by
 have hz:=Zmg
 have hfb:=Zjy (o:=o) (op:=op) ha
 refine gI (ts:=[.cell 6 46,.slot 7]) 85070612101775940130758990405381922759 Tryz.func118 ?_
 by_cases hAr:ArB o d xs.length
 ·rw [show mkO g o d op xs=none by unfold mkO;rw [if_pos hAr]]
  rcases hAr with ⟨h1,h2⟩ | ⟨h1,h2⟩
  ·have q1:((xs.length:Int) < 2)=True:=eq_true om
   (have F:=ai @Za8 (ai @h0 (ai @ho (ai @Zaj (ai @h1 (ai @q1 (ai @hz @tmz))))));refine gG ?_;exact gTd)
  ·have q1:((xs.length:Int)=(d.args.length:Int))=False:=eq_false om
   (have F:=ai @Za8 (ai @h0 (ai @ho (ai @Zaj (ai @h1 (ai @hd (ai @ZaS (ai @q1 (ai @hz @tmz))))))));refine gG ?_;exact gTd)
 (have F:=ai @tmz (ai @Za8 (ai @h0 (ai @ho @Zaj)));refine gG ?_;clear F)
 refine gM (ι:=Unit) [43] [] (fun u=>[(43,A.d (.one (.lit (.bool false))))]) (fun u=>[]) (fun u=>True) ?_ (fun u hu=>Exists.intro _ (ai (Wk.refl _) ?_))
 ·cases ha:o.assoc with
  | true =>
   have c1:((xs.length:Int) < 2)=False:=eq_false fun c=>hAr (.inl ⟨ha,by omega⟩)
   (have F:=ai @tmz (ai @Zaj (ai @ha @c1));refine gG ?_;exact ⟨(),trivial,gw,gw⟩)
  | false =>
   have c3:((xs.length:Int)=(d.args.length:Int))=True:=eq_true (by have:¬ (xs.length≠d.args.length):=fun c=>hAr (.inr ⟨ha,c⟩);omega)
   (have F:=ai @tmz (ai @Zaj (ai @ha (ai @hd (ai @ZaS @c3))));refine gG ?_;exact ⟨(),trivial,gw,gw⟩)
 have hnas:o.assoc=false->xs.length=d.args.length:=fun h=>Classical.byContradiction fun c=>hAr (.inr ⟨h,c⟩)
 have hfl0:Zax o op []=[]:=rfl
 (have F:=@tmz;refine gG ?_;clear F)
 (have F:=ai @hfl0 (ai @ZdL @tmz);refine gL (ι:=Nat) [7,9,10,11,48,49,60,62,75] [9] (fun i=>[(48,A.d (.one (.lit (.int .i64 i)))),(9,.buf 9)]) (fun i=>[(9,.buf none 46 4 (Zaf (Zax o op (xs.take i))))]) (fun i=>i<=xs.length∧∀ (j:Nat) a,j < i->xs[j]?=some a->KArg g o d j a) (fun i=>xs.length - i) (0) (⟨Nat.zero_le _,fun j a h=>absurd h om⟩) (fun i hi=>?_);clear F)
 obtain ⟨hi,hall⟩:=hi
 by_cases hlt:i < xs.length
 ·obtain ⟨a,hai⟩:∃ a,xs[i]?=some a:=⟨_,List.getElem?_eq_getElem hlt⟩
  have hT:=ha a (List.mem_of_getElem? hai)
  have q1:((i:Int) < (xs.length:Int))=True:=eq_true om
  have hw1:=Zay (k:=i) om
  obtain ⟨k,hk⟩:=Zhe hg ho hd hnas hlt
  have hst:=Zku (o:=o) (op:=op) hai
  have hle:=Zhf o op xs (i+1)
  rw [hst,List.length_append] at hle
  (have F:=ai @q1 (ai @hai @tmz);have NN:Zah 8:=trivial;refine gGn ?_;clear F NN)
  refine gB ?_
  (have F:=@tmz;refine gC (Zl2 hg hT.form.node) ?_;clear F)
  (have F:=@tmz;refine gC (Zkn hg h0 ho hd hk) ?_;clear F)
  by_cases hkd:ZbP g a=((kd g.sorts k:Nat):Int)
  rotate_left
  ·have e:mkO g o d op xs=none:=by
    unfold mkO
    rw [if_neg hAr,if_neg fun h=>by
     obtain ⟨k',hk',he⟩:=h i a hai
     rw [hk] at hk'
     injection hk' with hk'
     subst hk'
     exact hkd he]
   rw [e]
   (have F:=ai @tmz @hkd;refine gR ?_;clear F)
   (have F:=ai @hz @tmz;refine gG ?_;exact gTd)
  have hnext:i+1<=xs.length∧∀ (j:Nat) a,j < i+1->xs[j]?=some a->KArg g o d j a:=⟨hlt,fun j a' hj ha'=>by
   by_cases e:j=i
   ·subst e
    rw [hai] at ha'
    injection ha' with ha'
    subst ha'
    exact ⟨k,hk,hkd⟩
   ·exact hall j a' om ha'⟩
  have l1:ZaX 4 (Zaf (Zax o op (xs.take i)))=true:=Zgh _
  have l5:ZaX 4 (Zaf a.args)=true:=Zgh _
  by_cases hN:o.assoc=true∧a.op=op
  ·have e:Zbq o op a=a.args:=by unfold Zbq;rw [if_pos hN]
   rw [e] at hst hle
   have l3:((Zax o op (xs.take i)).length+a.args.length<=maxApp)=True:=eq_true (by unfold maxApp;omega)
   have l4:Zaf (Zax o op (xs.take i))++Zaf a.args=Zaf (Zax o op (xs.take (i+1))):=by rw [hst,Zei]
   obtain ⟨hN1,hN2⟩:=hN
   have q2:(a.op=op)=True:=eq_true hN2
   (have F:=ai @tmz @hkd;refine gR ?_;clear F)
   (have F:=ai @tmz (ai @Zaj (ai @hN1 (ai @q2 (ai @l1 (ai @l5 (ai @l3 (ai @l4 @hw1)))))));refine gG ?_;exact ⟨i+1,hnext,gw,gw,by omega⟩)
  ·have cU:=Zl3 (mc:=mc) hg h0 ho a
   have hne:o.assoc=true->(a.op=op)=False:=fun h1=>eq_false fun h2=>hN ⟨h1,h2⟩
   (have F:=ai @tmz @hkd;refine gR ?_;clear F)
   (have F:=ai @tmz (ai @Zaj @hne);have NN:Zah 12:=trivial;refine gGn ?_;clear F NN)
   by_cases hU:o.unit≠0∧a.op=o.unit - 1
   ·have e:Zbq o op a=[]:=by unfold Zbq;rw [if_neg hN,if_pos hU]
    rw [e,List.append_nil] at hst
    rw [decide_eq_true hU] at cU
    rw [<- hst]
    rcases Bool.eq_false_or_eq_true o.assoc with hac | hac
    ·have hq:=hne hac
     (have F:=ai @tmz (ai @Zaj (ai @hac @hq));have NN:Zah 12:=trivial;refine gGn ?_;clear F NN)
     refine gB ?_
     (have F:=@tmz;refine gC (cU) ?_;clear F)
     (have F:=@tmz;refine gR ?_;clear F)
     (have F:=ai @tmz (ai @hac @hw1);refine gG ?_;exact ⟨i+1,hnext,gw,gw,by omega⟩)
    ·(have F:=ai @tmz (ai @Zaj @hac);have NN:Zah 12:=trivial;refine gGn ?_;clear F NN)
     refine gB ?_
     (have F:=@tmz;refine gC (cU) ?_;clear F)
     (have F:=@tmz;refine gR ?_;clear F)
     (have F:=ai @tmz (ai @hac @hw1);refine gG ?_;exact ⟨i+1,hnext,gw,gw,by omega⟩)
   ·have e:Zbq o op a=[a]:=by unfold Zbq;rw [if_neg hN,if_neg hU]
    rw [e] at hst hle
    rw [decide_eq_false hU] at cU
    have l3:((Zax o op (xs.take i)).length+1<=maxApp)=True:=eq_true (by simp only [List.length_cons,List.length_nil] at hle;unfold maxApp;omega)
    have l4:Zaf (Zax o op (xs.take i))++[Zae a]=Zaf (Zax o op (xs.take (i+1))):=by rw [hst,Zei,Zma]
    rcases Bool.eq_false_or_eq_true o.assoc with hac | hac
    ·have hq:=hne hac
     (have F:=ai @tmz (ai @Zaj (ai @hac @hq));have NN:Zah 12:=trivial;refine gGn ?_;clear F NN)
     refine gB ?_
     (have F:=@tmz;refine gC (cU) ?_;clear F)
     (have F:=@tmz;refine gR ?_;clear F)
     (have F:=ai @tmz (ai @hac (ai @l1 (ai @l3 (ai @l4 @hw1))));refine gG ?_;exact ⟨i+1,hnext,gw,gw,by omega⟩)
    ·(have F:=ai @tmz (ai @Zaj @hac);have NN:Zah 12:=trivial;refine gGn ?_;clear F NN)
     refine gB ?_
     (have F:=@tmz;refine gC (cU) ?_;clear F)
     (have F:=@tmz;refine gR ?_;clear F)
     (have F:=ai @tmz (ai @hac (ai @l1 (ai @l3 (ai @l4 @hw1))));refine gG ?_;exact ⟨i+1,hnext,gw,gw,by omega⟩)
 ·obtain rfl:i=xs.length:=by omega
  have q1:((xs.length:Int) < (xs.length:Int))=False:=eq_false om
  rw [List.take_length]
  have hm:mkO g o d op xs=mkL o op (Zax o op xs):=by
   unfold mkO
   rw [if_neg hAr,if_pos fun j a h=>hall j a (List.getElem?_eq_some_iff.1 h).1 h]
  rw [hm]
  clear hm hall hnas
  generalize hL:Zax o op xs=L at hfb ⊢
  obtain ⟨b1,b2,b3⟩:=hfb
  have hax:=hg.axs o (List.mem_of_getElem? ho)
  have hlo:=hax.lo
  have cUn:=fun hu=>Zu8 (mc:=mc) hg h0 ho hu
  by_cases hu:o.unit≠0∧L.length < 2
  ·have e:mkL o op L=some (L.headD (ZbH o)):=by unfold mkL;rw [if_pos hu]
   rw [e]
   obtain ⟨hu1,hu2⟩:=hu
   have q2:(o.unit=0)=False:=eq_false hu1
   have q3:((L.length:Int) < 2)=True:=eq_true om
   cases L with
   | nil =>
    have z1:(((0:Nat):Int) < 2)=True:=eq_true om
    have z2:(((0:Nat):Int)=1)=False:=eq_false om
    (have F:=ai @q1 (ai @Zaj (ai @q2 (ai @z1 (ai @z2 @tmz))));have NN:Zah 18:=trivial;refine gGn ?_;clear F NN)
    refine gB ?_
    (have F:=@tmz;refine gC (cUn hu1) ?_;clear F)
    (have F:=@tmz;refine gR ?_;clear F)
    (have F:=@tmz;refine gG ?_;exact gTd)
   | cons b bs =>
    have hb:bs=[]:=List.eq_nil_of_length_eq_zero (by simp only [List.length_cons] at hu2;omega)
    subst hb
    have z1:(((0+1:Nat):Int) < 2)=True:=eq_true om
    have z2:(((0+1:Nat):Int)=1)=True:=eq_true om
    have z3:(((1:Nat):Int) < 2)=True:=eq_true om
    have z4:(((1:Nat):Int)=1)=True:=eq_true om
    have q5:([b]:List Tm)[0]?=some b:=rfl
    have z5:(0 < 0+1)=True:=eq_true om
    have z6:((0:Nat) < 1)=True:=eq_true om
    have z7:Int.toNat 0=0:=rfl
    have q6:(0 < [b].length)=True:=eq_true (by simp)
    (have F:=ai @q1 (ai @Zaj (ai @q2 (ai @q3 (ai @z1 (ai @z2 (ai @z3 (ai @z4 (ai @z5 (ai @z6 (ai @z7 (ai @q5 (ai @q6 @tmz))))))))))));refine gG ?_;exact gTd)
  ·have hml:mkL o op L=if BigT o op (srtO o L) then none else some (appT op (srtO o L)):=by unfold mkL;rw [if_neg hu]
   rw [hml]
   clear hml cUn
   (have F:=ai @q1 @tmz;refine gG ?_;clear F)
   refine gM (ι:=Unit) [93] [] (fun u=>[(93,A.d (.one (.lit (.bool false))))]) (fun u=>[]) (fun u=>True) ?_ (fun u hu=>Exists.intro _ (ai (Wk.refl _) ?_))
   ·by_cases hu0:o.unit=0
    ·have q2:(o.unit=0)=True:=eq_true hu0
     (have F:=ai @Zaj (ai @q2 @tmz);refine gG ?_;exact ⟨(),trivial,gw,gw⟩)
    ·have q2:(o.unit=0)=False:=eq_false hu0
     have q3:((L.length:Int) < 2)=False:=eq_false fun h=>hu ⟨hu0,by omega⟩
     (have F:=ai @Zaj (ai @q2 (ai @q3 @tmz));refine gG ?_;exact ⟨(),trivial,gw,gw⟩)
   (have F:=@tmz;have NN:Zah 19:=trivial;refine gGn ?_;clear F NN)
   refine pS 9 fun a cap=>?_
   refine gB ?_
   (have F:=ai @Zaj @tmz;refine gR ?_;clear F)
   refine gM (ι:=Unit) [] [9] (fun u=>[]) (fun u=>[(9,.buf (some (a,cap)) 46 4 (Zaf (srtO o L)))]) (fun u=>True) ?_ (fun u hu=>Exists.intro _ (ai (Wk.refl _) ?_))
   ·cases hcm:o.comm with
    | true =>
     rw [show srtO o L=Zaz L by unfold srtO;rw [if_pos hcm]]
     (have F:=ai @hcm @tmz;have NN:Zah 20:=trivial;refine gGn ?_;clear F NN)
     refine gB ?_
     (have F:=@tmz;refine gCP [9] [9] (Zrj L om a cap) ?_;clear F)
     rintro r pm ⟨rfl,rfl⟩
     simp only [setA,retA,zipM,List.cons_append,List.nil_append]
     (have F:=@tmz;refine gR ?_;clear F)
     exact (have F:=tmz;⟨(),trivial,gw,gw⟩)
    | false =>
     rw [show srtO o L=L by unfold srtO;rw [if_neg (by rw [hcm];simp)]]
     (have F:=ai @hcm @tmz;refine gG ?_;exact ⟨(),trivial,gw,gw⟩)
   have hSl:=ZpX o L
   have sz1:=Zjo (Zf0 o L)
   have dz1:=ZiJ (Zf0 o L)
   generalize srtO o L=S at hSl sz1 dz1 ⊢
   rw [<- hSl,<- Zag S]
   refine pD 9 [9] [] ?_
   have em:Zae (appT op S)=[.lit (.int .i64 op),.lit (.string ByteArray.empty),.lit (.int .i64 0),.sl (Zaf S)]:=by simp only [appT,Zae]
   have zs:sizeTm (appT op S)=1+sizeTms S:=by rw [Zbg];rfl
   have zd:depthTm (appT op S)=1+depthTms S:=by rw [Zgl];rfl
   have c1:=Zjh (t:=appT op S) (by unfold big;omega)
   have c2:=ZiI (t:=appT op S) (by unfold big;omega)
   rw [em] at c1 c2
   (have F:=@tmz;have NN:Zah 22:=trivial;refine gGn ?_;clear F NN)
   by_cases h7:o.assoc=true∧7 < S.length
   ·rw [if_pos (show BigT o op S from .inl h7)]
    obtain ⟨hac,h7⟩:=h7
    have q2:(7 < (S.length:Int))=True:=eq_true om
    (have F:=ai @Zaj (ai @hac (ai @q2 (ai @hz @tmz)));refine gG ?_;exact gTd)
   have hac:o.assoc=true->(7 < (S.length:Int))=False:=fun h=>eq_false fun q=>h7 ⟨h,by omega⟩
   rcases Bool.eq_false_or_eq_true o.assoc with ha' | ha'
   ·have q2:=hac ha'
    refine gB ?_
    (have F:=ai @Zaj (ai @ha' (ai @q2 @tmz));refine gC (c1) ?_;clear F)
    by_cases hs:60 < sizeTm (appT op S)
    ·have z1:((60:Int) < (sizeTm (appT op S):Int))=True:=eq_true om
     rw [if_pos (show BigT o op S from .inr (.inl hs))]
     (have F:=ai @z1 @tmz;refine gR ?_;clear F)
     (have F:=ai @hz @tmz;refine gG ?_;exact gTd)
    have z1:((60:Int) < (sizeTm (appT op S):Int))=False:=eq_false om
    (have F:=ai @z1 @tmz;refine gC (c2) ?_;clear F)
    by_cases hd2:20 < depthTm (appT op S)
    ·have z2:((20:Int) < (depthTm (appT op S):Int))=True:=eq_true om
     rw [if_pos (show BigT o op S from .inr (.inr hd2))]
     (have F:=ai @z2 @tmz;refine gR ?_;clear F)
     (have F:=ai @hz @tmz;refine gG ?_;exact gTd)
    have z2:((20:Int) < (depthTm (appT op S):Int))=False:=eq_false om
    rw [if_neg (show ¬ BigT o op S from fun h=>h.elim h7 (fun h=>h.elim hs hd2))]
    (have F:=ai @z2 @tmz;refine gR ?_;clear F)
    (have F:=ai @em @tmz;refine gG ?_;exact gTd)
   ·refine gB ?_
    (have F:=ai @Zaj (ai @ha' @tmz);refine gC (c1) ?_;clear F)
    by_cases hs:60 < sizeTm (appT op S)
    ·have z1:((60:Int) < (sizeTm (appT op S):Int))=True:=eq_true om
     rw [if_pos (show BigT o op S from .inr (.inl hs))]
     (have F:=ai @z1 @tmz;refine gR ?_;clear F)
     (have F:=ai @hz @tmz;refine gG ?_;exact gTd)
    have z1:((60:Int) < (sizeTm (appT op S):Int))=False:=eq_false om
    (have F:=ai @z1 @tmz;refine gC (c2) ?_;clear F)
    by_cases hd2:20 < depthTm (appT op S)
    ·have z2:((20:Int) < (depthTm (appT op S):Int))=True:=eq_true om
     rw [if_pos (show BigT o op S from .inr (.inr hd2))]
     (have F:=ai @z2 @tmz;refine gR ?_;clear F)
     (have F:=ai @hz @tmz;refine gG ?_;exact gTd)
    have z2:((20:Int) < (depthTm (appT op S):Int))=False:=eq_false om
    rw [if_neg (show ¬ BigT o op S from fun h=>h.elim h7 (fun h=>h.elim hs hd2))]
    (have F:=ai @z2 @tmz;refine gR ?_;clear F)
    (have F:=ai @em @tmz;refine gG ?_;exact gTd)
end
section
variable {w:World} {S:Nat->Prop}
theorem Zu9 {rows:List (List C)} {ety sz cap l h:Nat} {a:Option Addr} (hb:ZaO w S ety sz rows (.slice a rows.length cap)) (hl:l<=h∧h<=rows.length):∃ (b:Option Addr) (c:Nat) (news:List Value),sliced a l h cap sz=.slice b ((rows.take h).drop l).length c∧Zaa w S ((rows.take h).drop l).flatten news∧∀ (P:Program) (w':World),(∀ p,w'.cell? p=w.cell? p)->(Builtin.firstCells sz ((rows.take h).drop l).length (sliced a l h cap sz)).run P w'=.ok news.toArray w':=by
 have hln:((rows.take h).drop l).length=h - l:=by rw [List.length_drop,List.length_take];omega
 obtain ⟨h1,hrl,h3⟩:=hb
 by_cases he:h=l
 ·have e0:((rows.take h).drop l).length=0:=by omega
  have e1:(rows.take h).drop l=[]:=List.eq_nil_of_length_eq_zero e0
  refine ⟨_,_,[],by rw [hln];exact rfl,by rw [e1];simp [Zaa],fun P w' _=>?_⟩
  rw [e0]
  simp only [sliced,he,Nat.sub_self]
  split
  ·cases a <;> simp [Builtin.firstCells,loadCells,loadCellsFrom]
  ·cases a <;> simp [Builtin.firstCells,loadCells,loadCellsFrom]
 ·rcases h3 with ⟨h4,p,h5⟩ | ⟨g,cap',cur,h4,h5,h6,h7,h8,h9,h10,h11,h12⟩
  ·rw [h4] at hl;simp only [List.length_nil] at hl;omega
  ·injection h4 with e1 e2 e3
   subst e1 e3
   have hlc:¬ cap=l:=by omega
   have hval:sliced (some ⟨g,0,none⟩) l h cap sz=.slice (some ⟨g,l * sz,none⟩) (h - l) (cap - l):=by
    simp only [sliced,hlc,if_false,Option.map_some,Addr.add_at,Nat.zero_add]
   have hr:=Zar.sub hrl h12 l h
   rw [Nat.zero_add] at hr
   obtain ⟨news,q5,q6⟩:=hr.flat.vals
   have hsl:rowsLen sz ((rows.take h).drop l):=fun r hr=>hrl r (List.mem_of_mem_take (List.mem_of_mem_drop hr))
   rw [hval]
   refine ⟨_,_,news,by rw [hln],q5,fun P w' hw=>?_⟩
   exact run_firstCells_some w' sz _ _ _ _ news (by rw [q5.len,Zcc hsl]) (fun j u hj=>by rw [hw,Addr.add_at];exact q6 j u hj)
end
section
variable {e:Env} {K:St->Prop} {ds:List (Option Nat)} {os:List Oper} {s:List (Nat × A)} {m:List (Nat × Bk)}
theorem Zrk {σ:St} {o:Oper} {x y:Operand} {t ety ety' sz by' k j d l h cap:Nat} {a0:Option Addr} {rows rj:List (List C)} {oa:Option (Option Addr × Nat)} (ho:o.op=.call ⟨.builtin .append,#[x,y],#[t,t]⟩) (hdd:o.dst=some d) (hb:Za6 e.P t=some (ety,sz,by'))
  (hx:evA σ.s x=.buf k) (hm:gm σ.m k=some (.buf oa ety sz rows)) (hy:evA σ.s y=.d (.one (.lit (sliced a0 l h cap sz)))) (hj:gm σ.m j=some (.buf (some (a0,cap)) ety' sz rj)) (hlh:l<=h∧h<=rj.length) (hle:rows.length+rj.length<=maxApp)
  (hK:K ⟨(d,.buf d)::Zau d (Zau k σ.s),(d,.buf none ety sz (rows++(rj.take h).drop l))::remM d (remM k σ.m)⟩):ZbM e o σ K:=by
 intro he U w0 S0 nt a w Q hd ⟨S,L,h0⟩
 have hx':a.eval x=L.v k:=by have:=h0.eval x;rw [hx] at this;exact this
 have hy':=h0.eval y
 rw [hy] at hy'
 have hy':=Zbr hy'
 have ho':ZaO w S ety sz rows (L.v k):=(h0.cls.own k _ hm).2
 obtain ⟨hpl,hbj⟩:=h0.cls.own j _ hj
 have hvj:L.v j=.slice a0 rj.length cap:=hpl (a0,cap) rfl
 rw [hvj] at hbj
 obtain ⟨yb,yc,news,y1,y2,y3⟩:=Zu9 hbj hlh
 have hln:((rj.take h).drop l).length=h - l:=by rw [List.length_drop,List.length_take];omega
 have hsl:rowsLen sz ((rj.take h).drop l):=fun r hr=>hbj.2.1 r (List.mem_of_mem_take (List.mem_of_mem_drop hr))
 obtain ⟨v',w',hrun,hbuf,τ,hk,hτ,hblk⟩:=Zge (ty:=o.type) (ts:=#[t,t]) (v:=L.v k) (u:=sliced a0 l h cap sz) he h0.cls rfl rfl hb (.inl ho') ho'.2.1 hsl om ⟨yb,yc,news,y1,y2,y3⟩
 unfold Oper.wp
 have hr2:(execOp a.eval o).run e.P w=.ok (.value v') w':=by
  simp [execOp,ho,resolve,invoke,builtin,hx',hy',hrun,Result.andThen]
 rw [hr2,Oper.upon_value,hdd]
 refine ⟨_,hK,h0.born he (hd d hdd) (τ:=τ) (b':=0) (v':=v') (s1:=Zau k σ.s) (m1:=remM k σ.m) (fun _ h=>h) (fun _ h=>.inl h) (fun t=>?_) (fun k' x hx=>?_) (fun g hg=>?_) (fun k' x g hkd hx hg hb'=>?_) hk ?_ (fun g hg=>?_) (by simp [ARel])⟩
 ·rcases Zd2 k t σ.s with ⟨h1,_⟩ | h1
  ·exact .inl h1
  ·exact .inr h1
 ·rw [ZaT] at hx
  split at hx
  ·cases hx
  ·exact hx
 ·have hg':=(hτ g hg).1
  exact ⟨(Own1.lt (k:=k) (L:=L) (bk:=.buf none ety sz rows) ⟨by simp,ho'⟩ hg').2,h0.cls.notE hm hg',h0.cls.mine k _ g hm hg'⟩
 ·have hg':=(hτ g hg).1
  rw [ZaT] at hx
  split at hx
  ·cases hx
  ·rename_i hne'
   exact hne' (h0.cls.inj k' k x _ g hx hm hb' hg')
 ·simp only [Own1,if_true];exact ⟨by simp,hbuf⟩
 ·simp only [ZaE,if_true] at hg
  exact hblk g hg
theorem gAps {d t ty ety ety' by' sz l h cap:Nat} {p:String} {ed:Array Edge} {x y:Operand} {rows rj:List (List C)} {oa:Option (Option Addr × Nat)} {a0:Option Addr} {s2:List (Nat × A)} {m2:List (Nat × Bk)} (k j:Nat) (hlh:l<=h∧h<=rj.length) (hle:rows.length+rj.length<=maxApp) (hK:Runs e ds 0 os ⟨(d,.buf d)::s2,(d,.buf none ety sz (rows++(rj.take h).drop l))::m2⟩ K)
  (hb:Za6 e.P t=some (ety,sz,by'):=by exact sfx) (hx:evA s x=.buf k:=by exact sfx) (hm:gm m k=some (.buf oa ety sz rows):=by exact snx) (hy:evA s y=.d (.one (.lit (sliced a0 l h cap sz))):=by exact snx) (hj:gm m j=some (.buf (some (a0,cap)) ety' sz rj):=by exact snx)
  (hs:Zau d (Zau k s)=s2:=by exact snv) (hr:remM d (remM k m)=m2:=by exact snv):Runs e ds 0 (⟨some d,.call ⟨.builtin .append,#[x,y],#[t,t]⟩,ty,p,ed,none⟩::os) ⟨s,m⟩ K:=by
 subst hs hr
 simp only [Runs] at hK ⊢
 exact Zdc rfl (Zrk rfl rfl hb hx hm hy hj hlh hle hK)
end
theorem okc4 {u0 u1 u2 u3:Value} (h:(Zap [u0,u1,u2,u3]).all Zaw=true):Zaw (.lit u0)=true∧Zaw (.lit u1)=true∧Zaw (.lit u2)=true∧Zaw (.lit u3)=true:=by
 simpa [Zap,Bool.and_eq_true,and_assoc] using h
theorem ZhA (ts:List Tm) {i:Nat} {t:Tm} (h:ts[i]?=some t):Zaf (ts.take (i+1))=Zaf (ts.take i)++[Zae t]:=by
 simp only [ZbW,List.take_add_one,h,Option.toList,List.map_append,List.map_cons,List.map_nil]
theorem ZdA (u0 u1 u2 u3:Value):Zap [u0,u1,u2,u3]=[.lit u0,.lit u1,.lit u2,.lit u3]:=rfl
theorem ZaG (uss:List (List Value)):(uss.map Zap).length=uss.length:=List.length_map ..
def tmsB (ts:List Tm):Prop:=ts.length+Zac (Zaf ts)<=1048576
theorem Zk1 (ts:List Tm) (hB:tmsB ts) (h:∀ t∈ts,ConP e0 67 [.agg (Zae t)] [] (ZeL (Zae t))):ConP e0 122 [.one (.sl (Zaf ts))] [] (Zju 46 4 (Zaf ts)):=by
 have hl:ts.length<=1048576:=Nat.le_trans (Nat.le_add_right _ _) hB
 refine gIP (ts:=[.slot 2]) [] 1005 Tryz.func122 ?_
 (have F:=@e0P;refine gG ?_;clear F)
 refine pE [] [1000] ZcI ?_
 (have F:=ai @Zag @ZdL;refine gL (ι:=Nat × List (List Value) × (Nat->Prop)) [3,5,8,9] [3,1000] (fun x=>[(8,.d (.one (.lit (.int .i64 (x.1:Int))))),(3,.buf 3)]) (fun x=>[(3,.buf none 46 4 (x.2.1.map Zap)),(1000,.set x.2.2 (fun w=>Zat w (Zaf (ts.take x.1)) x.2.2 x.2.1))]) (fun x=>x.1<=ts.length∧x.2.1.length=x.1) (fun x=>ts.length - x.1) ((0,[],fun _=>False)) (⟨Nat.zero_le _,rfl⟩) (fun x hx=>?_);clear F)
 obtain ⟨i,uss,E⟩:=x
 obtain ⟨hi,hn⟩:=hx
 simp only at hi hn
 by_cases hlt:i < ts.length
 ·have hg:ts[i]?=some ts[i]:=List.getElem?_eq_getElem hlt
  have hc:=h ts[i] (List.getElem_mem hlt)
  generalize ts[i]=t at hg hc
  have q1:((i:Int) < (ts.length:Int))=True:=eq_true om
  (have F:=ai @Zag (ai @ZbS (ai @q1 (ai @hg @tmz)));refine gG ?_;clear F)
  refine gB ?_
  (have F:=@tmz;refine gCP [] [1001] (hc) ?_;clear F)
  rintro r pm ⟨us,E2,rfl,hu,hok,rfl⟩
  rw [ZhJ] at hu
  obtain ⟨u0,u1,u2,u3,rfl⟩:=len4 hu
  obtain ⟨k0,k1,k2,k3⟩:=okc4 hok
  have q3:IntKind.i64.wrap ((i:Int)+1)=(i:Int)+1:=IntWalk.i64_in _ om
  have q2:i+1<=maxApp:=by unfold maxApp;omega
  simp only [ZdA,setA,retA,zipM,List.cons_append,List.nil_append]
  (have F:=ai @ZdA (ai @ZaG (ai @hn (ai @q2 (ai @k0 (ai @k1 (ai @k2 @k3))))));refine gR ?_;clear F)
  refine pE [1000,1001] [1000] (Zp9 (G':=fun w=>Zat w (Zaf (ts.take (i+1))) (fun b=>E b∨E2 b) (uss++[[u0,u1,u2,u3]])) (fun w h1 h2 hd=>?_) (Zat.stable _ _ _)) ?_
  ·rw [ZhA ts hg];exact Zat.snoc h1 h2 (fun _ h=>.inl h) (fun _ h=>.inr h) hd
  (have F:=ai @ZdA (ai @q3 (ai @Zag ((@List.map_append.{0,0}))));refine gG ?_;exact ⟨(i+1,uss++[[u0,u1,u2,u3]],fun b=>E b∨E2 b),⟨hlt,by simp [hn]⟩,gw,gw,by omega⟩)
 ·obtain rfl:i=ts.length:=by omega
  have q1:((ts.length:Int) < (ts.length:Int))=False:=eq_false om
  (have F:=ai @Zag @q1;refine gG ?_;clear F)
  rw [List.take_length]
  refine pS 2 fun a cap=>?_
  refine gTP [2,1000] (Zju.mk (by rw [hn,Zag]))
theorem ZFr {w:World} {op so:Int} {nm:ByteArray} {args:List Tm} {E:Nat->Prop} {v:Value} (h:Own w (.sl (Zaf args)) E v):Zad w (Zae (.mk op nm so args)) E [.int .i64 op,.string nm,.int .i64 so,v]:=by
 simp only [Zae,Zad]
 refine ⟨fun _=>False,E,fun _ h=>h.elim,fun _ h=>h,fun _ h _=>h,by simp [Own],fun _=>False,E,fun _ h=>h.elim,fun _ h=>h,fun _ h _=>h,by simp [Own],fun _=>False,E,fun _ h=>h.elim,fun _ h=>h,fun _ h _=>h,by simp [Own],E,fun _=>False,fun _ h=>h,fun _ h=>h.elim,fun _ _ h=>h,h,trivial⟩
theorem Zmh (t:Tm) (h:ConP e0 122 [.one (.sl (Zaf t.args))] [] (Zju 46 4 (Zaf t.args))):ConP e0 67 [.agg (Zae t)] [] (ZeL (Zae t)):=by
 obtain ⟨op,nm,so,args⟩:=t
 have hc:Zae (.mk op nm so args)=[.lit (.int .i64 op),.lit (.string nm),.lit (.int .i64 so),.sl (Zaf args)]:=by simp only [Zae]
 simp only [Tm.args] at h
 refine gIP (ts:=[.cell 2 46]) [] 7 Tryz.func67 ?_
 (have F:=@hc;refine gG ?_;clear F)
 refine gB ?_
 (have F:=@hc;refine gCP [] [1000,1001] (h) ?_;clear F)
 rintro r pm ⟨a,cap,uss,E,rfl,hu,rfl⟩
 simp only [setA,retA,zipM,List.cons_append,List.nil_append]
 (have F:=@hc;refine gR ?_;clear F)
 (have F:=@hc;refine gG ?_;clear F)
 refine pE [1000,1001] [1000] (Zdk (G':=fun w=>Zad w (Zae (.mk op nm so args)) (fun b=>vblk (.slice a uss.length cap)=some b∨E b) [.int .i64 op,.string nm,.int .i64 so,.slice a uss.length cap]) (fun w h=>ZFr h) (Zad.stable _ _ _)) ?_
 have hm:=ZeL.mk (row:=Zae (.mk op nm so args)) (us:=[.int .i64 op,.string nm,.int .i64 so,.slice a uss.length cap]) (E:=fun b=>vblk (.slice a uss.length cap)=some b∨E b) (by rw [hc];rfl) rfl
 rw [ZdA] at hm
 exact (have F:=hc;gTP [1000] hm)
theorem ZAD (n:Nat):(∀ t:Tm,ZbE (Zae t) < n->bulkRow (Zae t)<=1048576->ConP e0 67 [.agg (Zae t)] [] (ZeL (Zae t))):=by
 induction n with
 | zero=>exact fun _ h=>by omega
 | succ n ih =>
  intro t hn hb
  obtain ⟨op,nm,so,args⟩:=t
  simp only [Zae,ZbE,Zep,bulkRow,ZbT] at hn hb
  refine Zmh _ (Zk1 args (by unfold tmsB;have:=Zag args;omega) fun a ha=>?_)
  obtain ⟨i,hi⟩:=List.getElem?_of_mem ha
  have hi':(Zaf args)[i]?=some (Zae a):=by rw [ZbS,hi];rfl
  have h1:=Zda hi'
  have h2:=ZcZ hi'
  exact ih a om om
theorem Zjz (t:Tm) (hb:bulkRow (Zae t)<=1048576):ConP e0 67 [.agg (Zae t)] [] (ZeL (Zae t)):=ZAD _ t (Nat.lt_succ_self _) hb
theorem ZEI (pm:List Bk):ZbG pm pm:=fun w S h1 h2=>⟨h1,h2,fun _ h=>h⟩
theorem ZAE {ts:List Tm} {i:Nat} (h:i<=ts.length):(Zaf (ts.take i)).length=i:=by rw [Zag,List.length_take];omega
theorem Zop (t:Tm) (hB:tmsB t.args) (h:∀ a∈t.args,Con e0 66 [.agg (Zae a)] [.agg (Zae a)]):Con e0 66 [.agg (Zae t)] [.agg (Zae t)]:=by
 obtain ⟨op,nm,so,args⟩:=t
 have hc:Zae (.mk op nm so args)=[.lit (.int .i64 op),.lit (.string nm),.lit (.int .i64 so),.sl (Zaf args)]:=by simp only [Zae]
 simp only [Tm.args] at h hB
 have hl:args.length<=1048576:=Nat.le_trans (Nat.le_add_right _ _) hB
 refine gI (ts:=[.cell 2 46]) 65567 Tryz.func66 ?_
 (have F:=@hc;have NN:Zah 1:=trivial;refine gGn ?_;clear F NN)
 refine gB ?_
 refine gP 6 ?_
 refine gX ?_
 (have F:=@hc;refine gR ?_;clear F)
 refine pN 1000 46 4 ?_
 (have F:=@hc;refine gG ?_;clear F)
 (have F:=ai @hc @ZdL;refine gL (ι:=Nat × Option Addr × Nat) [4,16] [3,1000] (fun x=>[(4,.d (.one (.lit (.int .i64 (x.1:Int)))))]) (fun x=>[(1000,.buf (some (x.2.1,x.2.2)) 46 4 (Zaf (args.take x.1))),(3,.var none [.lit (.int .i64 op),.lit (.string nm),.lit (.int .i64 so),.lit (.slice x.2.1 x.1 x.2.2)])]) (fun x=>x.1<=args.length) (fun x=>args.length - x.1) ((0,none,0)) (Nat.zero_le _) (fun x hx=>?_);clear F)
 obtain ⟨i,p,cap⟩:=x
 simp only at hx
 by_cases hlt:i < args.length
 ·have hg:args[i]?=some args[i]:=List.getElem?_eq_getElem hlt
  have hcon:=h args[i] (List.getElem_mem hlt)
  generalize args[i]=a at hg hcon
  have q1:((i:Int) < (args.length:Int))=True:=eq_true om
  have q4:IntKind.i64.wrap ((i:Int)+1)=(i:Int)+1:=IntWalk.i64_in _ om
  have q2:i+1<=maxApp:=by unfold maxApp;omega
  have q3:=ZAE hx
  have q5:(args.take i).length=i:=by rw [List.length_take];omega
  (have F:=ai @hc (ai @Zag (ai @ZbS (ai @q1 (ai @hg @tmz))));refine gG ?_;clear F)
  refine gB ?_
  (have F:=ai @tmz (ai @ZbS @hg);refine gC (hcon) ?_;clear F)
  (have F:=ai @tmz (ai @q2 (ai @q3 @q5));refine gP 3 ?_;clear F)
  refine gS 28 fun p2 cap2=>?_
  (have F:=ai @tmz (ai @q3 @q5);refine gR ?_;clear F)
  refine pE [28] [1000] (ZEI _) ?_
  rw [<- ZhA args hg]
  (have F:=ai @hc @q4;refine gG ?_;exact ⟨(i+1,p2,cap2),hlt,gw,gw,by omega⟩)
 ·obtain rfl:i=args.length:=by omega
  have q1:((args.length:Int) < (args.length:Int))=False:=eq_false om
  rw [List.take_length]
  (have F:=ai @hc (ai @Zag @q1);refine gG ?_;clear F)
  refine pD 1000 [] [2] ?_ (hs:=by exact snv)
  (have F:=ai @hc @Zag;refine gG ?_;exact gTd)
theorem Zzb (n:Nat):(∀ t:Tm,ZbE (Zae t) < n->bulkRow (Zae t)<=1048576->Con e0 66 [.agg (Zae t)] [.agg (Zae t)]):=by
 induction n with
 | zero=>exact fun _ h=>by omega
 | succ n ih =>
  intro t hn hb
  obtain ⟨op,nm,so,args⟩:=t
  simp only [Zae,ZbE,Zep,bulkRow,ZbT] at hn hb
  refine Zop _ (by unfold tmsB;simp only [Tm.args];have:=Zag args;omega) fun a ha=>?_
  simp only [Tm.args] at ha
  obtain ⟨i,hi⟩:=List.getElem?_of_mem ha
  have hi':(Zaf args)[i]?=some (Zae a):=by rw [ZbS,hi];rfl
  have h1:=Zda hi'
  have h2:=ZcZ hi'
  exact ih a om om
theorem Zgm (t:Tm) (hb:bulkRow (Zae t)<=1048576):Con e0 66 [.agg (Zae t)] [.agg (Zae t)]:=Zzb _ t (Nat.lt_succ_self _) hb
theorem Zva {ts:List Tm} {i:Nat} {t:Tm} (h:ts[i]?=some t):Zaf (ts.take i)++[Zae t]=Zaf (ts.take (i+1)):=(ZhA ts h).symm
set_option maxRecDepth 100000 in
theorem ZjA (ts:List Tm) (hB:tmsB ts):Con e0 185 [.one (.sl (Zaf ts))] [.one (.sl (Zaf ts))]:=by
 unfold tmsB at hB
 refine gI (ts:=[.slot 2]) 541 Tryz.func185 ?_
 (have F:=@tmz;refine gG ?_;clear F)
 (have F:=@ZdL;refine gL (ι:=Nat) [3,4,9] [3] (fun i=>[(4,A.d (.one (.lit (.int .i64 i)))),(3,.buf 3)]) (fun i=>[(3,.buf none 46 4 (Zaf (ts.take i)))]) (fun i=>i<=ts.length) (fun i=>ts.length - i) (0) (Nat.zero_le _) (fun i hi=>?_);clear F)
 by_cases hlt:i < ts.length
 rotate_left
 ·obtain rfl:i=ts.length:=by omega
  have q2:((ts.length:Int) < (ts.length:Int))=False:=eq_false om
  rw [List.take_length]
  (have F:=ai @q2 @tmz;refine gG ?_;clear F)
  (have F:=@tmz;refine gG ?_;exact gTz [2])
 obtain ⟨t,ht⟩:∃ b,ts[i]?=some b:=⟨_,List.getElem?_eq_getElem hlt⟩
 have q2:((i:Int) < (ts.length:Int))=True:=eq_true om
 have q4:=Zay (k:=i) om
 have hi':(Zaf ts)[i]?=some (Zae t):=by rw [ZbS,ht];rfl
 have hbt:=ZcZ hi'
 have cc:=Zgm t om
 have l1:ZaX 4 (Zaf (ts.take i))=true:=Zgh _
 have l2:((Zaf (ts.take i)).length+1<=maxApp)=True:=eq_true (by rw [Zag,List.length_take];unfold maxApp;omega)
 have l3:((ts.take i).length+1<=maxApp)=True:=eq_true (by rw [List.length_take];unfold maxApp;omega)
 have l4:min i ts.length+1<=maxApp:=by unfold maxApp;omega
 have e:=Zva ht
 (have F:=ai @q2 @tmz;refine gG ?_;clear F)
 refine gB ?_
 (have F:=ai @q2 (ai @ht @tmz);refine gC (cc) ?_;clear F)
 (have F:=ai @l1 (ai @l2 (ai @l3 @tmz));refine gR ?_;clear F)
 (have F:=ai @q4 @e;refine gG ?_;exact ⟨i+1,hlt,gw,gw,by omega⟩)
theorem ZAF:Zaf (Zaz [])=[]:=by simp [Zaz,Zaf]
theorem Zvb {l:List Tm} (h:ZbA l):ZbA (Zaz l):=by
 have:∀ {ts:List Tm},ZbA ts ↔ ∀ t∈ts,okTm t:=fun {ts}=>by
  induction ts with
  | nil=>simp [ZbA]
  | cons t ts ih=>simp [ZbA,ih]
 exact this.2 fun a ha=>this.1 h a ((Zbn l).mem_iff.1 ha)
theorem Zrl {l:List Tm} (h:ZbA l) (k:Nat):ZbA (l.take k):=by
 have:∀ {ts:List Tm},ZbA ts ↔ ∀ t∈ts,okTm t:=fun {ts}=>by
  induction ts with
  | nil=>simp [ZbA]
  | cons t ts ih=>simp [ZbA,ih]
 exact this.2 fun a ha=>this.1 h a (List.mem_of_mem_take ha)
set_option maxRecDepth 100000 in
theorem Zqf (ts:List Tm) (hok:ZbA ts) (hB:tmsB ts):Con e0 184 [.one (.sl (Zaf ts))] [.one (.sl (Zaf (Zaz ts)))]:=by
 have hB0:=hB
 unfold tmsB at hB
 have hcc:=ZjA (Zaz ts) (by
  have h1:=(Zbn ts).length_eq
  have h2:Zac (Zaf (Zaz ts))=Zac (Zaf ts):=by
   have:∀ {l m:List Tm},l.Perm m->Zac (Zaf l)=Zac (Zaf m):=fun h=>by
    induction h with
    | nil=>rfl
    | cons x h ih=>simp only [Zaf,Zac,ih]
    | swap x y l=>simp only [Zaf,Zac];omega
    | trans h1 h2 a b=>rw [a,b]
   exact this (Zbn ts)
  unfold tmsB;omega)
 refine gI (ts:=[.slot 2]) 1073743997 Tryz.func184 ?_
 (have F:=@tmz;refine gG ?_;clear F)
 (have F:=ai @ZAF @tmz;refine gL (ι:=Nat) [3,4,5,6,11,30] [3] (fun i=>[(4,A.d (.one (.lit (.int .i64 i)))),(3,.buf 3)]) (fun i=>[(3,.buf none 46 4 (Zaf (Zaz (ts.take i))))]) (fun i=>i<=ts.length) (fun i=>ts.length - i) (0) (Nat.zero_le _) (fun i hi=>?_);clear F)
 by_cases hlt:i < ts.length
 rotate_left
 ·obtain rfl:i=ts.length:=by omega
  have q2:((ts.length:Int) < (ts.length:Int))=False:=eq_false om
  rw [List.take_length]
  (have F:=ai @q2 @tmz;have NN:Zah 10:=trivial;refine gGn ?_;clear F NN)
  refine pS 3 fun a cap=>?_
  refine pD 3 [3] [] ?_
  refine gB ?_
  (have F:=@tmz;refine gC (hcc) ?_;clear F)
  (have F:=@tmz;refine gR ?_;clear F)
  (have F:=@tmz;refine gG ?_;exact gTd)
 obtain ⟨x,hx⟩:∃ b,ts[i]?=some b:=⟨_,List.getElem?_eq_getElem hlt⟩
 have q2:((i:Int) < (ts.length:Int))=True:=eq_true om
 have q4:=Zay (k:=i) om
 have hxo:=hok.mem (List.mem_of_getElem? hx)
 obtain ⟨M,hM⟩:∃ M,M=Zaz (ts.take i):=⟨_,rfl⟩
 have hMl:M.length=i:=by rw [hM,ZcR,List.length_take];omega
 have hMo:ZbA M:=by rw [hM];exact Zvb (Zrl hok i)
 have hMr:ts.take (i+1)=ts.take i++[x]:=Zci hx
 rw [<- hM]
 (have F:=ai @q2 (ai @hMl @tmz);have NN:Zah 5:=trivial;refine gGn ?_;clear F NN)
 refine gB ?_
 (have F:=ai @hMl @tmz;refine gR ?_;clear F)
 refine ZdH ?_
 refine gM (ι:=Nat) [5] [] (fun k=>[(5,A.d (.one (.lit (.int .i64 k))))]) (fun k=>[]) (fun k=>k<=i∧(∀ y∈M.drop k,Zak x y<=0)∧(0 < k->∃ y,M[k - 1]?=some y∧Zak y x<=0)) ?_ (fun k hk=>Exists.intro _ (ai (Wk.refl _) ?_))
 ·(have F:=@tmz;refine gG ?_;clear F)
  (have F:=@tmz;refine gL (ι:=Nat) [5,30] [] (fun k=>[(5,A.d (.one (.lit (.int .i64 k))))]) (fun k=>[]) (fun k=>k<=i∧∀ y∈M.drop k,Zak x y<=0) (fun k=>k) (i) (⟨Nat.le_refl _,by rw [<- hMl,List.drop_length];intro y hy;cases hy⟩) (fun k hk=>?_);clear F)
  obtain ⟨hk,h2⟩:=hk
  by_cases hk0:k=0
  ·have q0:(0 < (k:Int))=False:=eq_false om
   (have F:=ai @q0 @tmz;refine gG ?_;exact ⟨k,⟨hk,h2,fun h=>by omega⟩,gw,gw⟩)
  obtain ⟨j,rfl⟩:∃ j,k=j+1:=⟨k - 1,by omega⟩
  obtain ⟨y,hy⟩:∃ y,M[j]?=some y:=⟨_,List.getElem?_eq_getElem om⟩
  have q5:(0 < ((j+1:Nat):Int))=True:=eq_true om
  have wj:IntKind.i64.wrap (((j+1:Nat):Int) - 1)=(j:Int):=ZaV om om om
  have lj:j < i:=by omega
  have hdr:M.drop j=y::M.drop (j+1):=Zdz hy
  generalize hk1:j+1=k1 at q5 wj h2 hk hdr ⊢
  (have F:=@tmz;refine gG ?_;clear F)
  refine gB ?_
  (have F:=ai @q5 (ai @wj (ai @hy (ai @hx (ai @hMl (ai @lj (ai @Zas @tmz))))));refine gC (Zew (hMo.mem (List.mem_of_getElem? hy)) hxo) ?_;clear F)
  by_cases hc:0 < Zak y x
  ·have z:=eq_true hc
   (have F:=@z;refine gR ?_;clear F)
   have h2':∀ u∈M.drop j,Zak x u<=0:=fun u hu=>by
    rw [hdr] at hu
    rcases List.mem_cons.1 hu with rfl | hu
    ·rw [ZbR u x];omega
    ·exact h2 u hu
   (have F:=ai @z @wj;refine gG ?_;exact ⟨j,⟨by omega,h2'⟩,gw,gw,by omega⟩)
  have z:=eq_false hc
  (have F:=@z;refine gR ?_;clear F)
  (have F:=ai @z @tmz;refine gG ?_;exact ⟨k1,⟨hk,h2,fun _=>⟨y,by rw [<- hk1,Nat.add_sub_cancel];exact hy,by omega⟩⟩,gw,gw⟩)
 obtain ⟨hk,h2,h1⟩:=hk
 have hMs:M.take k++x::M.drop k=Zaz (ts.take (i+1)):=by
  rw [hMr]
  refine ZpT (by rw [List.take_append_drop,hM]) h2 fun y hy=>?_
  have hk0:0 < k:=by
   rcases Nat.eq_zero_or_pos k with h | h
   ·subst h;simp at hy
   ·exact h
  obtain ⟨z,hz,hc⟩:=h1 hk0
  rw [List.getLast?_eq_getElem?,List.length_take,hMl,Nat.min_eq_left hk,List.getElem?_take,if_pos om,hz] at hy
  injection hy with hy
  subst hy
  exact hc
 have hdl:((Zaf M).take (Zaf M).length).drop k=Zaf (M.drop k):=by rw [List.take_length,Zre]
 (have F:=@tmz;have NN:Zah 8:=trivial;refine gGn ?_;clear F NN)
 refine pS 3 fun a cap=>?_
 refine gB ?_
 (have F:=@tmz;refine gP 3 ?_;clear F)
 have hkl:k<=(Zaf M).length:=by rw [Zag];omega
 refine (have F:=ai hMl tmz;gSub 3 k (Zaf M).length ⟨hkl,Nat.le_refl _⟩ ?_)
 refine gO 33 46 4 ?_
 refine (have F:=tmz;gAps (rows:=[]) (rj:=Zaf M) 33 3 ⟨hkl,Nat.le_refl _⟩ (by rw [Zag];simp only [List.length_nil,maxApp];omega) ?_)
 rw [hdl,List.nil_append]
 (have F:=@tmz;refine gR ?_;clear F)
 (have F:=@tmz;have NN:Zah 9:=trivial;refine gGn ?_;clear F NN)
 have hcl:(Zaf M).take k=Zaf (M.take k):=Zrd _ _
 have htl:(M.take k).length=k:=by rw [List.length_take];omega
 refine gF0 ?_
 refine gFm 0 ?_
 refine gFm 1 ?_
 refine (have F:=ai hMl tmz;gFs 2 3 0 k ⟨Nat.zero_le _,hkl⟩ ?_)
 rw [Zrh]
 refine gFm 3 ?_
 refine gFm 4 ?_
 refine gFm 9 ?_
 refine gFT ?_
 have l1:(k+1<=maxApp)=True:=eq_true (by unfold maxApp;omega)
 have l2:((M.take k).length+1+(M.drop k).length<=maxApp)=True:=eq_true (by rw [htl,List.length_drop];unfold maxApp;omega)
 have e1:Zaf (M.take k)++[Zae x]=Zaf (M.take k++[x]):=by rw [Zei];rfl
 have e2:Zaf (M.take k++[x])++Zaf (M.drop k)=Zaf (Zaz (ts.take (i+1))):=by rw [<- Zei,<- hMs];simp
 refine gO1 5 ?_
 refine (have F:=ai q2 (ai hx (ai Zas tmz));gO3 ?_)
 refine gO1 6 ?_
 refine (have F:=ai hx tmz;gO3 ?_)
 refine gO1 7 ?_
 refine (have F:=tmz;gO3 ?_)
 refine gO1 8 ?_
 refine gE [3] [3] (ZFq k hkl) ?_
 rw [hcl]
 refine (have F:=ai htl (ai l1 (ai e1 tmz));gO3 ?_)
 refine gO1 10 ?_
 refine (have F:=ai l2 (ai e2 tmz);gO3 ?_)
 refine gO1 11 ?_
 refine (have F:=tmz;gO3 ?_)
 refine (have F:=tmz;gT0 ?_)
 refine Exists.intro _ (ai (Wk.refl _) ?_)
 (have F:=@q4;refine gG ?_;exact ⟨i+1,hlt,gw,gw,by omega⟩)
theorem Zzc {ts:List Tm}:ZbA ts ↔ ∀ t∈ts,okTm t:=by
 induction ts with
 | nil=>simp [ZbA]
 | cons t ts ih=>simp [ZbA,ih]
theorem ZEJ (op so:Int) (nm:ByteArray) (args:List Tm):bulkRow (Zae (.mk op nm so args))=nm.size+(args.length+Zac (Zaf args)):=by
 simp only [Zae,bulkRow,ZbT,Zag];omega
section
variable {g:Sgn}
mutual
theorem Zhg:∀ {t:Tm},ZaM g t->bulkRow (Zae t)+1<=13 * sizeTm t
 | .mk op nm so args,h=>by
  have h1:=Ziv (Zhu.2 (Zbj.1 h).2.1)
  simp only [Tm.args] at h1
  rw [ZEJ]
  simp only [sizeTm]
  rcases h.node with hv | ⟨o,d,hA⟩
  ·have h2:Zbm nm=true:=hv.2.1
   have h3:args=[]:=hv.2.2.2.2
   subst h3
   have h4:¬ 12 < nm.size:=fun h=>by rw [Zcs (.inr (.inl h))] at h2;cases h2
   simp only [Zaf,Zac,sizeTms,List.length_nil]
   omega
  ·have h2:nm=ByteArray.empty:=hA.nm
   subst h2
   have:ByteArray.empty.size=0:=rfl
   omega
theorem Ziv:∀ {ts:List Tm},Zc7 g ts->Zac (Zaf ts)+ts.length<=13 * sizeTms ts
 | [],_=>by simp [Zaf,Zac]
 | t::ts,h=>by
  simp only [Zc7] at h
  have h1:=Zhg h.1
  have h2:=Ziv h.2
  simp only [Zaf,Zac,sizeTms,List.length_cons]
  omega
end
end
def addL (i:Nat):Nat->List Oper->List Oper
 | _,[]=>[]
 | 0,o::l=>{ o with after:=o.after.push ⟨i,.data⟩ }::l
 | k+1,o::l=>o::addL i k l
theorem ZgY (i:Nat):∀ (k:Nat) (l:List Oper) (j:Nat),(addL i k l)[j]?=if j=k then l[j]?.map fun o=>{ o with after:=o.after.push ⟨i,.data⟩ } else l[j]?
 | k,[],j=>by simp [addL]
 | 0,o::l,0=>by simp [addL]
 | 0,o::l,j+1=>by simp [addL]
 | k+1,o::l,0=>by simp [addL]
 | k+1,o::l,j+1=>by simp [addL,ZgY i k l j]
theorem Zk2 (i:Nat):∀ (k:Nat) (l:List Oper),(addL i k l).length=l.length
 | k,[]=>by simp [addL]
 | 0,o::l=>by simp [addL]
 | k+1,o::l=>by simp [addL,Zk2 i k l]
theorem Zk3 (i:Nat):∀ (k:Nat) (l:List Oper),(addL i k l).map (·.dst)=l.map (·.dst)
 | k,[]=>by simp [addL]
 | 0,o::l=>by simp [addL]
 | k+1,o::l=>by simp [addL,Zk3 i k l]
section
variable {P:Program} {l:List Oper} {i k:Nat} {oi ok:Oper}
theorem Zhh {Q:Exit->Act->World->Prop} {j:Nat} {K:Act->World->Prop} {a:Act} {w:World}:wpOp P (addL i k l).toArray Q j K a w ↔ wpOp P l.toArray Q j K a w:=by
 have hb:∀ g:Nat,((addL i k l)[g]?).bind (fun x=>x.dst)=(l[g]?).bind fun x=>x.dst:=fun g=>by
  rw [ZgY]
  by_cases h:g=k
  ·rw [if_pos h];cases l[g]? <;> rfl
  ·rw [if_neg h]
 have hy:yielded (addL i k l).toArray a.tmps=yielded l.toArray a.tmps:=by
  funext g
  unfold yielded
  simp only [List.getElem?_toArray,hb]
 unfold wpOp
 rw [hy]
 simp only [List.getElem?_toArray,ZgY]
 by_cases hjk:j=k
 ·rw [if_pos hjk]
  cases hj:l[j]? with
  | none=>exact Iff.rfl
  | some o=>exact Iff.rfl
 ·rw [if_neg hjk]
def Zzd (ops:Array Oper) (i:Nat):Bool:=(List.range ops.size).all fun j=>j==i || match ops[i]?,ops[j]? with
 | some oi,some oj=>oi.after.any (fun e=>Region.binds .any e && e.on==j) || (oj.after.any (fun e=>Region.binds .any e && e.on==i) || oi.apart ops oj)
 | _,_=>true
def ZoK (ops:Array Oper) (i k:Nat):Bool:=Zit ops && Zzd ops i && i != k && match ops[i]?,ops[k]? with
 | some oi,some ok=>(match oi with
  | ⟨some _,.extract _ _,_,_,_,none⟩=>true
  | _=>false) && oi.after.all fun e=>!Region.binds .any e || ok.after.any fun e'=>Region.binds .any e' && e'.on==e.on
 | _,_=>false
theorem Zvc {Q:Exit->Act->World->Prop} (hQ:∀ ex a w,Q ex a w->ex=.normal) (hB:ZoK l.toArray i k=true) :
  ∀ (f:Nat) (listed:Array Bool) (a:Act) (w:World),listed.size=l.length->wpAny P .any (addL i k l).toArray Q f listed a w->wpAny P .any l.toArray Q f listed a w:=by
 simp only [ZoK,Bool.and_eq_true,bne_iff_ne,ne_eq] at hB
 obtain ⟨⟨⟨hsel,hap⟩,hik⟩,h4⟩:=hB
 split at h4
 rotate_left
 ·cases h4
 rename_i oi ok hoi hok
 simp only [Bool.and_eq_true] at h4
 obtain ⟨h5,h6⟩:=h4
 have hpre:∀ e∈oi.after,Region.binds .any e=true->∃ e'∈ok.after,Region.binds .any e'=true∧e'.on=e.on:=fun e he hb=>by
  have:=Array.all_eq_true_iff_forall_mem.1 h6 e he
  simp only [hb,Bool.not_true,Bool.false_or,Array.any_eq_true',Bool.and_eq_true,beq_iff_eq] at this
  obtain ⟨e',q1,q2,q3⟩:=this
  exact ⟨e',q1,q2,q3⟩
 have hrdy:∀ (listed:Array Bool) (j:Nat),j∈Region.ready .any (addL i k l).toArray listed ↔ j∈Region.ready .any l.toArray listed∧(j=k->listed.getD i false=true):=fun listed j=>by
  rw [mem_ready,mem_ready]
  simp only [List.getElem?_toArray,ZgY]
  by_cases hj:j=k
  ·subst hj
   simp only [if_true,true_implies]
   constructor
   ·rintro ⟨q1,o,q2,q3⟩
    cases hl:l[j]? with
    | none=>rw [hl] at q2;cases q2
    | some o' =>
     rw [hl] at q2
     injection q2 with q2
     subst q2
     exact ⟨⟨q1,o',rfl,fun e he hb=>q3 e (by simp [he]) hb⟩,q3 ⟨i,.data⟩ (by simp) rfl⟩
   ·rintro ⟨⟨q1,o,q2,q3⟩,q4⟩
    refine ⟨q1,_,by rw [q2];rfl,fun e he hb=>?_⟩
    rcases Array.mem_push.1 he with he | he
    ·exact q3 e he hb
    ·subst he;exact q4
  ·simp [hj]
 have hun:∀ (listed:Array Bool),listed.size=l.length->k∈Region.ready .any l.toArray listed->i∈Region.ready .any l.toArray listed∨listed.getD i false=true:=fun listed hs hk=>by
  by_cases h:listed.getD i false=true
  ·exact .inr h
  ·left
   rw [mem_ready] at hk ⊢
   obtain ⟨_,o,q2,q3⟩:=hk
   have:o=ok:=by rw [hok] at q2;injection q2 with q2;exact q2.symm
   subst this
   have hlt:i < l.length:=by have:=(Array.getElem?_eq_some_iff.1 hoi).1;simpa using this
   refine ⟨?_,oi,hoi,fun e he hb=>?_⟩
   ·have hl:i < listed.size:=by omega
    rw [Zby hl]
    simpa using h
   ·obtain ⟨e',r1,r2,r3⟩:=hpre e he hb
    rw [<- r3]
    exact q3 e' r1 r2
 have hap':=hap
 intro f
 induction f with
 | zero =>
  intro listed a w hs h
  refine ⟨?_,h.2⟩
  by_cases hk:k∈Region.ready .any l.toArray listed
  ·rcases hun listed hs hk with h1 | h1
   ·have:=(hrdy listed i).2 ⟨h1,fun e=>absurd e hik⟩
    rw [h.1] at this
    cases this
   ·have:=(hrdy listed k).2 ⟨hk,fun _=>h1⟩
    rw [h.1] at this
    cases this
  ·refine List.eq_nil_iff_forall_not_mem.2 fun j hj=>?_
   have:=(hrdy listed j).2 ⟨hj,fun e=>absurd (e ▸ hj) hk⟩
   rw [h.1] at this
   cases this
 | succ f ih =>
  intro listed a w hs h
  by_cases hi:i∈Region.ready .any l.toArray listed
  ·have h1:=h.2 i ((hrdy listed i).2 ⟨hi,fun e=>absurd e hik⟩)
   rw [Zhh] at h1
   have h1':∃ v,Yields P l.toArray oi v a∧wpAny P .any (addL i k l).toArray Q f (listed.setIfInBounds i true) (a.put oi.dst v) w:=by
    unfold wpOp at h1
    simp only [hoi] at h1
    split at h5
    rotate_left
    ·cases h5
    rename_i d x n ty pos af
    have hw:Region.wanted ⟨some d,.extract x n,ty,pos,af,none⟩ (yielded l.toArray a.tmps)=true:=by simp [Region.wanted]
    rw [if_pos hw] at h1
    rcases h1 with h1 | ⟨_,b,w',h1⟩
    rotate_left
    ·have:=hQ _ _ _ h1;cases this
    unfold Oper.wp at h1
    cases hx:a.eval x with
    | tuple vs =>
     cases hv:vs[n]? with
     | some v =>
      have hrun:∀ w',(execOp a.eval ⟨some d,.extract x n,ty,pos,af,none⟩).run P w'=.ok (.value v) w':=fun w'=>by
       simp [execOp,Instr.extract,hx,hv]
      rw [hrun,Oper.upon_value] at h1
      exact ⟨v,.inl ⟨hw,hrun⟩,h1⟩
     | none =>
      simp [execOp,Instr.extract,hx,hv,stuck,Oper.upon] at h1
    | _=>simp [execOp,Instr.extract,hx,stuck,Oper.upon] at h1
   obtain ⟨v,hv,h2⟩:=h1'
   refine wpAny_first (oi:=oi) (v:=v) hoi (fun j oj cs b hj hsl=>?_) (fun c a w hq=>?_) f listed a w (fun j oj hj hne hl hno=>?_) hi hv (ih _ _ _ (by simpa using hs) h2)
   ·have:=List.all_eq_true.1 hsel oj (List.mem_of_getElem? (by simpa using hj))
    rw [hsl] at this
    cases this
   ·have:=hQ _ _ _ hq;cases this
   ·have hjs:=(Array.getElem?_eq_some_iff.1 hj).1
    have:=List.all_eq_true.1 hap j (List.mem_range.2 hjs)
    simp only [hoi,hj,Bool.or_eq_true,beq_iff_eq,List.any_eq_true,Array.any_eq_true',Bool.and_eq_true] at this
    rcases this with h1 | h1 | h1 | h1
    ·exact absurd h1 hne
    ·obtain ⟨ed,h2,h3,h4⟩:=h1
     obtain ⟨_,o,q2,q3⟩:=mem_ready.1 hi
     rw [hoi] at q2
     injection q2 with q2
     subst q2
     have q4:=q3 ed h2 h3
     rw [h4,<- Zby (by simpa [hs] using hjs)] at q4
     rw [hl] at q4
     cases q4
    ·obtain ⟨ed,h2,h3,h4⟩:=h1
     exact absurd h4 (hno ed h2 h3)
    ·exact h1
  ·refine ⟨fun h0=>h.1 ?_,fun j hj=>?_⟩
   ·refine List.eq_nil_iff_forall_not_mem.2 fun j hj=>?_
    have:=((hrdy listed j).1 hj).1
    rw [h0] at this
    cases this
   ·have hj':j∈Region.ready .any (addL i k l).toArray listed:=(hrdy listed j).2 ⟨hj,fun e=>by
     subst e
     rcases hun listed hs hj with h1 | h1
     ·exact absurd h1 hi
     ·exact h1⟩
    have h1:=h.2 j hj'
    rw [Zhh] at h1
    exact wpOp_mono (fun a w h=>ih _ a w (by simpa using hs) h) h1
end
section
variable {e:Env} {K:St->Prop} {mask:Nat} {Q:PX->St->Prop} {s:List (Nat × A)} {m:List (Nat × Bk)}
theorem Zvd {l:List Oper} {i k:Nat} {σ:St} (hB:ZoK l.toArray i k=true) (h:ZcJ e (addL i k l).toArray K l.length (Array.replicate l.length false) σ):ZcJ e l.toArray K l.length (Array.replicate l.length false) σ:=by
 intro he U w0 S0 nt a w hd hs
 refine Zvc (fun ex a w hq=>hq.1) hB _ _ _ _ (by simp) (h he U w0 S0 nt a w (fun o ho d hdd=>?_) hs)
 have:some d∈(addL i k l).map (·.dst):=List.mem_map.2 ⟨o,by simpa using ho,hdd⟩
 rw [Zk3] at this
 obtain ⟨o',h1,h2⟩:=List.mem_map.1 this
 exact hd o' (by simpa using h1) d h2
theorem Zrm {l:List Oper} {p:Nat} {σ:St} (hAl:ZeN l.toArray p=true) (hB:regB l.toArray (p+1)=true) (hp:Runs e (l.map (·.dst)) (p+1) l σ K):ZcJ e l.toArray K l.length (Array.replicate l.length false) σ:=by
 intro he U w0 S0 nt a w hd hs
 have:=ZgG (ops:=l.toArray) he hAl hB (K:=K) (Q:=QN e U w0 S0 nt K) (fun a w σ' hK hs'=>⟨rfl,σ',hK,hs'⟩) hd hs (by simpa using hp)
 simpa using this
theorem gLt {id:Nat} {l l':List Oper} {ds:List (Option Nat)} (p i k:Nat) (hK:Runs e ds (p+1) l' ⟨s,m⟩ (ZdG mask Q)) (hl:addL i k l=l':=by simp only [addL];exact rfl) (hds:l'.map (·.dst)=ds:=by simp only [List.map_cons,List.map_nil];exact rfl) (hc:ZoK l.toArray i k=true:=by decide +kernel) (hA:ZeN l'.toArray p=true:=by decide +kernel) (hr:regB l'.toArray (p+1)=true:=by decide +kernel):pwp e mask (.region id l.toArray true) ⟨s,m⟩ Q:=by
 subst hl hds
 have h1:=Zvd hc (by have:=Zrm hA hr hK;rwa [Zk2] at this)
 exact Zjw (ops:=l.toArray) (by simpa using h1)
end
def ZD1 (ops:Array Oper) (ok:Oper):List Nat:=(ok.after.toList.filter fun e=>Region.binds .any e).flatMap fun e=>e.on::match ops[e.on]? with
 | some o=>(o.after.toList.filter fun e=>Region.binds .any e).map (·.on)
 | none=>[]
def ZoL (ops:Array Oper) (i k:Nat):Bool:=Zit ops && Zzd ops i && i != k && match ops[i]?,ops[k]? with
 | some oi,some ok=>(match oi with
  | ⟨some _,.pick _ _ _,_,_,_,none⟩=>true
  | _=>false) && oi.after.all fun e=>!Region.binds .any e || (ZD1 ops ok).contains e.on
 | _,_=>false
section
variable {P:Program} {l:List Oper} {i k:Nat}
def ZhV (l:List Oper) (listed:Array Bool):Prop:=∀ (j:Nat) o,listed.getD j false=true->l[j]?=some o->∀ e∈o.after,Region.binds .any e=true->listed.getD e.on false=true
theorem ZhV.put {listed:Array Bool} {j:Nat} (hc:ZhV l listed) (hj:j∈Region.ready .any l.toArray listed):ZhV l (listed.setIfInBounds j true):=by
 intro q o hq ho e he hb
 obtain ⟨_,o',h2,h3⟩:=mem_ready.1 hj
 have hmono:∀ t,listed.getD t false=true->(listed.setIfInBounds j true).getD t false=true:=fun t ht=>by
  by_cases htj:t=j
  ·subst htj
   simp only [Array.getD_eq_getD_getElem?,Array.getElem?_setIfInBounds] at ht ⊢
   cases hl:listed[t]? with
   | none=>rw [hl] at ht;cases ht
   | some b =>
    have:t < listed.size:=(Array.getElem?_eq_some_iff.1 hl).1
    simp [this]
  ·rw [getD_set_ne false (Ne.symm htj)];exact ht
 by_cases hqj:q=j
 ·subst hqj
  have:o'=o:=by
   rw [List.getElem?_toArray,ho] at h2
   injection h2 with h2
   exact h2.symm
  subst this
  exact hmono _ (h3 e he hb)
 ·rw [getD_set_ne false (Ne.symm hqj)] at hq
  exact hmono _ (hc q o hq ho e he hb)
theorem Zrn {Q:Exit->Act->World->Prop} (hQ:∀ ex a w,Q ex a w->ex=.normal) (hB:ZoL l.toArray i k=true) :
  ∀ (f:Nat) (listed:Array Bool) (a:Act) (w:World),listed.size=l.length->ZhV l listed->wpAny P .any (addL i k l).toArray Q f listed a w->wpAny P .any l.toArray Q f listed a w:=by
 simp only [ZoL,Bool.and_eq_true,bne_iff_ne,ne_eq] at hB
 obtain ⟨⟨⟨hsel,hap⟩,hik⟩,h4⟩:=hB
 split at h4
 rotate_left
 ·cases h4
 rename_i oi ok hoi hok
 simp only [Bool.and_eq_true] at h4
 obtain ⟨h5,h6⟩:=h4
 have hrdy:∀ (listed:Array Bool) (j:Nat),j∈Region.ready .any (addL i k l).toArray listed ↔ j∈Region.ready .any l.toArray listed∧(j=k->listed.getD i false=true):=fun listed j=>by
  rw [mem_ready,mem_ready]
  simp only [List.getElem?_toArray,ZgY]
  by_cases hj:j=k
  ·subst hj
   simp only [if_true,true_implies]
   constructor
   ·rintro ⟨q1,o,q2,q3⟩
    cases hl:l[j]? with
    | none=>rw [hl] at q2;cases q2
    | some o' =>
     rw [hl] at q2
     injection q2 with q2
     subst q2
     exact ⟨⟨q1,o',rfl,fun e he hb=>q3 e (by simp [he]) hb⟩,q3 ⟨i,.data⟩ (by simp) rfl⟩
   ·rintro ⟨⟨q1,o,q2,q3⟩,q4⟩
    refine ⟨q1,_,by rw [q2];rfl,fun e he hb=>?_⟩
    rcases Array.mem_push.1 he with he | he
    ·exact q3 e he hb
    ·subst he;exact q4
  ·simp [hj]
 have hun:∀ (listed:Array Bool),listed.size=l.length->ZhV l listed->k∈Region.ready .any l.toArray listed->i∈Region.ready .any l.toArray listed∨listed.getD i false=true:=fun listed hs hcl hk=>by
  by_cases h:listed.getD i false=true
  ·exact .inr h
  ·left
   rw [mem_ready] at hk ⊢
   obtain ⟨_,o,q2,q3⟩:=hk
   have:o=ok:=by rw [hok] at q2;injection q2 with q2;exact q2.symm
   subst this
   have hlt:i < l.length:=by have:=(Array.getElem?_eq_some_iff.1 hoi).1;simpa using this
   refine ⟨?_,oi,hoi,fun e he hb=>?_⟩
   ·have hl:i < listed.size:=by omega
    rw [Zby hl]
    simpa using h
   ·have:=Array.all_eq_true_iff_forall_mem.1 h6 e he
    simp only [hb,Bool.not_true,Bool.false_or,List.contains_eq_mem,decide_eq_true_eq,ZD1,List.mem_flatMap,List.mem_filter,List.mem_cons] at this
    obtain ⟨e',⟨r1,r2⟩,r3⟩:=this
    have hl':=q3 e' (Array.mem_toList_iff.1 r1) r2
    rcases r3 with r3 | r3
    ·rw [r3];exact hl'
    ·cases ho':l.toArray[e'.on]? with
     | none=>rw [ho'] at r3;simp at r3
     | some o' =>
      rw [ho'] at r3
      simp only [List.mem_map,List.mem_filter] at r3
      obtain ⟨e2,⟨r4,r5⟩,r6⟩:=r3
      rw [<- r6]
      exact hcl e'.on o' hl' (by simpa using ho') e2 (Array.mem_toList_iff.1 r4) r5
 intro f
 induction f with
 | zero =>
  intro listed a w hs hcl h
  refine ⟨?_,h.2⟩
  by_cases hk:k∈Region.ready .any l.toArray listed
  ·rcases hun listed hs hcl hk with h1 | h1
   ·have:=(hrdy listed i).2 ⟨h1,fun e=>absurd e hik⟩
    rw [h.1] at this
    cases this
   ·have:=(hrdy listed k).2 ⟨hk,fun _=>h1⟩
    rw [h.1] at this
    cases this
  ·refine List.eq_nil_iff_forall_not_mem.2 fun j hj=>?_
   have:=(hrdy listed j).2 ⟨hj,fun e=>absurd (e ▸ hj) hk⟩
   rw [h.1] at this
   cases this
 | succ f ih =>
  intro listed a w hs hcl h
  by_cases hi:i∈Region.ready .any l.toArray listed
  ·have h1:=h.2 i ((hrdy listed i).2 ⟨hi,fun e=>absurd e hik⟩)
   rw [Zhh] at h1
   have h1':∃ v,Yields P l.toArray oi v a∧wpAny P .any (addL i k l).toArray Q f (listed.setIfInBounds i true) (a.put oi.dst v) w:=by
    unfold wpOp at h1
    simp only [hoi] at h1
    split at h5
    rotate_left
    ·cases h5
    rename_i d x y z ty pos af
    have hw:Region.wanted ⟨some d,.pick x y z,ty,pos,af,none⟩ (yielded l.toArray a.tmps)=true:=by simp [Region.wanted]
    rw [if_pos hw] at h1
    rcases h1 with h1 | ⟨_,b,w',h1⟩
    rotate_left
    ·have:=hQ _ _ _ h1;cases this
    unfold Oper.wp at h1
    cases hx:a.eval x with
    | bool b =>
     have hrun:∀ w',(execOp a.eval ⟨some d,.pick x y z,ty,pos,af,none⟩).run P w'=.ok (.value (if b then a.eval y else a.eval z)) w':=fun w'=>by
      cases b <;> simp [execOp,hx,asBool]
     rw [hrun,Oper.upon_value] at h1
     exact ⟨_,.inl ⟨hw,hrun⟩,h1⟩
    | _=>simp [execOp,hx,asBool,stuck,Oper.upon,Result.andThen] at h1
   obtain ⟨v,hv,h2⟩:=h1'
   refine wpAny_first (oi:=oi) (v:=v) hoi (fun j oj cs b hj hsl=>?_) (fun c a w hq=>?_) f listed a w (fun j oj hj hne hl hno=>?_) hi hv (ih _ _ _ (by simpa using hs) (hcl.put hi) h2)
   ·have:=List.all_eq_true.1 hsel oj (List.mem_of_getElem? (by simpa using hj))
    rw [hsl] at this
    cases this
   ·have:=hQ _ _ _ hq;cases this
   ·have hjs:=(Array.getElem?_eq_some_iff.1 hj).1
    have:=List.all_eq_true.1 hap j (List.mem_range.2 hjs)
    simp only [hoi,hj,Bool.or_eq_true,beq_iff_eq,List.any_eq_true,Array.any_eq_true',Bool.and_eq_true] at this
    rcases this with h1 | h1 | h1 | h1
    ·exact absurd h1 hne
    ·obtain ⟨ed,h2,h3,h4⟩:=h1
     obtain ⟨_,o,q2,q3⟩:=mem_ready.1 hi
     rw [hoi] at q2
     injection q2 with q2
     subst q2
     have q4:=q3 ed h2 h3
     rw [h4,<- Zby (by simpa [hs] using hjs)] at q4
     rw [hl] at q4
     cases q4
    ·obtain ⟨ed,h2,h3,h4⟩:=h1
     exact absurd h4 (hno ed h2 h3)
    ·exact h1
  ·refine ⟨fun h0=>h.1 ?_,fun j hj=>?_⟩
   ·refine List.eq_nil_iff_forall_not_mem.2 fun j hj=>?_
    have:=((hrdy listed j).1 hj).1
    rw [h0] at this
    cases this
   ·have hj':j∈Region.ready .any (addL i k l).toArray listed:=(hrdy listed j).2 ⟨hj,fun e=>by
     subst e
     rcases hun listed hs hcl hj with h1 | h1
     ·exact absurd h1 hi
     ·exact h1⟩
    have h1:=h.2 j hj'
    rw [Zhh] at h1
    exact wpOp_mono (fun a w h=>ih _ a w (by simpa using hs) (hcl.put hj) h) h1
end
section
variable {e:Env} {K:St->Prop} {mask:Nat} {Q:PX->St->Prop} {s:List (Nat × A)} {m:List (Nat × Bk)}
theorem Zro {l:List Oper} {i k:Nat} {σ:St} (hB:ZoL l.toArray i k=true) (h:ZcJ e (addL i k l).toArray K l.length (Array.replicate l.length false) σ):ZcJ e l.toArray K l.length (Array.replicate l.length false) σ:=by
 intro he U w0 S0 nt a w hd hs
 refine Zrn (fun ex a w hq=>hq.1) hB _ _ _ _ (by simp) (fun j o hj=>by rw [getD_replicate_false] at hj;cases hj) (h he U w0 S0 nt a w (fun o ho d hdd=>?_) hs)
 have:some d∈(addL i k l).map (·.dst):=List.mem_map.2 ⟨o,by simpa using ho,hdd⟩
 rw [Zk3] at this
 obtain ⟨o',h1,h2⟩:=List.mem_map.1 this
 exact hd o' (by simpa using h1) d h2
theorem Zmi (he:e.Ok) {U:Nat->Prop} {w0:World} {S0:Nat->Prop} {nt:Nat} {ops:Array Oper} {n:Nat} (hB:regB ops n=true) (hna:∀ o,(ops.toList.take n).getLast?=some o->isAl o=false) {Q:Exit->Act->World->Prop} (hQ:∀ a w σ',K σ'->SimE e U w0 S0 nt σ' a w->Q .normal a w) {σ:St} {a:Act} {w:World}
  (hd:∀ o∈ops.toList,∀ d,o.dst=some d->d < nt) (h:SimE e U w0 S0 nt σ a w) (hp:Runs e (ops.toList.map (·.dst)) n ops.toList σ K):wpAny e.P .any ops Q ops.size (Array.replicate ops.size false) a w:=by
 simp only [regB,Bool.and_eq_true,Bool.or_eq_true,decide_eq_true_eq] at hB
 obtain ⟨⟨⟨hH,hn⟩,hs⟩,hsq⟩:=hB
 obtain ⟨S,L,h1⟩:=h
 have hsplit:ops.toList=ops.toList.take n++ops.toList.drop n:=(List.take_append_drop n _).symm
 have hlen:(ops.toList.take n).length=n:=by simp;omega
 have hp':Runs e (ops.toList.map (·.dst)) ((ops.toList.take n).length+0) (ops.toList.take n++ops.toList.drop n) σ K:=by rw [<- hsplit,hlen];exact hp
 obtain ⟨αs,hal,hch,hrest⟩:=Ze9 (U:=U) he w0.heap.size S0 ops.toList (ops.toList.drop n) 0 (ops.toList.take n) σ (fun _=>hna) hp'
 rw [hlen] at hal
 have inv0:InvA e U w0 S0 nt σ.m ops n σ.s αs L (Array.replicate ops.size false) a w S :=
  ⟨⟨by simp,fun j oj _ hl=>(by rw [getD_replicate_false] at hl;cases hl),fun t _ ht=>getD_in (by simpa using ht) (getD_replicate_false _ _)⟩,h1.size,h1.defers,h1.cls,h1.kept,fun t _=>h1.rel t,fun i o d α _ hl=>(by rw [getD_replicate_false] at hl;cases hl)⟩
 have H:=ZdS (e:=e) (L:=L) (Q:=Q) he hH hn (fun hlt=>by
   rcases hs with hs | hs
   ·omega
   ·exact hs) hsq (fun i o d hi ho hdd=>hd o (List.mem_iff_getElem?.2 ⟨i,by simpa using ho⟩) d hdd) hal hch (Zhn hH Q) (fun _ _ _ _ _ _ _ _ _ _ _ _ _ _=>trivial) (fun listed a' w' S' hI _ hall=>?_) n _ a _ S inv0 trivial ?_
 ·rw [show n+(ops.size - n)=ops.size by omega] at H
  exact H
 ·have hsim:SimE e U w0 S0 nt ⟨after σ.s (ops.toList.take n) αs,σ.m⟩ a' w':=by
   refine ⟨S',L,hI.cls,fun t=>?_,hI.size,hI.defers,hI.kept⟩
   by_cases hex:∃ (j:Nat) (p:Oper),j < n∧ops[j]?=some p∧p.dst=some t
   ·obtain ⟨j,p,hj,hp,hpt⟩:=hex
    obtain ⟨p',d',hP⟩:=Zcr.get hH hj
    have hpp:p'=p:=by have:=hP.op;rw [hp] at this;injection this with this;exact this.symm
    subst hpp
    have hdt:d'=t:=by have:=hP.dst;rw [hpt] at this;injection this with this;exact this.symm
    subst hdt
    obtain ⟨α,hα⟩:∃ α,αs[j]?=some α:=⟨αs[j],List.getElem?_eq_getElem om⟩
    show ARel w' S' L (gs (after σ.s (ops.toList.take n) αs) d') _
    rw [ZdR (ops.toList.take n) αs σ.s j p' α (by rw [List.getElem?_take,if_pos hj];simpa using hp) hα hpt (fun k q hk hq=>by
     rw [List.getElem?_take] at hq
     split at hq
     ·exact (hP.dep k q om (by simpa using hq)).1 hk
     ·cases hq)]
    exact hI.done j p' d' α hj (hall j hj) hp hpt hα
   ·have hno:∀ (j:Nat) (p:Oper),j < n->ops[j]?=some p->p.dst≠some t:=fun j p hj hp hd=>hex ⟨j,p,hj,hp,hd⟩
    show ARel w' S' L (gs (after σ.s (ops.toList.take n) αs) t) _
    rw [Zc1 _ _ _ (fun p hp=>by
     obtain ⟨j,hj⟩:=List.mem_iff_getElem?.1 hp
     rw [List.getElem?_take] at hj
     split at hj
     ·exact hno j p om (by simpa using hj)
     ·cases hj)]
    exact hI.out t hno
  have:=ZmH he ops.toList hQ (ops.toList.drop n) _ a' w' (fun o ho=>hd o (List.mem_of_mem_drop ho)) hsim hrest
  simpa using this
 ·rw [List.countP_eq_length.2]
  ·simp
  ·intro i hi
   have hi':=List.mem_range.1 hi
   have hsz:i < (Array.replicate ops.size false).size:=by simp;omega
   rw [Zby hsz,getD_replicate_false]
   rfl
theorem Zve {l:List Oper} {n:Nat} {σ:St} (hB:regB l.toArray n=true) (hna:∀ o,(l.take n).getLast?=some o->isAl o=false) (hp:Runs e (l.map (·.dst)) n l σ K):ZcJ e l.toArray K l.length (Array.replicate l.length false) σ:=by
 intro he U w0 S0 nt a w hd hs
 have:=Zmi (ops:=l.toArray) (n:=n) he hB (by simpa using hna) (K:=K) (Q:=QN e U w0 S0 nt K) (fun a w σ' hK hs'=>⟨rfl,σ',hK,hs'⟩) hd hs (by simpa using hp)
 simpa using this
def Zze (l:List Oper) (n:Nat):Bool:=match (l.take n).getLast? with
 | some o=>!isAl o
 | none=>true
theorem gLp {id:Nat} {l l':List Oper} {ds:List (Option Nat)} (n i k:Nat) (hK:Runs e ds n l' ⟨s,m⟩ (ZdG mask Q)) (hl:addL i k l=l':=by simp only [addL];exact rfl) (hds:l'.map (·.dst)=ds:=by simp only [List.map_cons,List.map_nil];exact rfl) (hc:ZoL l.toArray i k=true:=by decide +kernel) (hA:Zze l' n=true:=by decide +kernel) (hr:regB l'.toArray n=true:=by decide +kernel):pwp e mask (.region id l.toArray true) ⟨s,m⟩ Q:=by
 subst hl hds
 have h1:=Zro hc (by have:=Zve hr (fun o ho=>by unfold Zze at hA;rw [ho] at hA;simpa using hA) hK;rwa [Zk2] at this)
 exact Zjw (ops:=l.toArray) (by simpa using h1)
end
end Go.Proofs.YtffmjghcpgpfpaaGreatDoor
namespace Go.Proofs.YtffmjghcpgpfpaaGreatDoor
open Go.RowKit
open Classical in
noncomputable def mk6 (g:Sgn) (o:Opr) (d:Dcl) (op:Int) (xs:List Tm):Tm:=(mkO g o d op xs).getD (if ¬ ArB o d xs.length∧∀ (i:Nat) a,xs[i]?=some a->KArg g o d i a then appT op (srtO o (Zax o op xs)) else zTm)
theorem Zqg {g:Sgn} {o:Opr} {op:Int} {xs:List Tm} (h:∀ a∈xs,TermOk g a):∀ b∈Zax o op xs,ZaM g b:=by
 intro b hb
 obtain ⟨a,h1,h2⟩:=List.mem_flatMap.1 hb
 have hf:=(h a h1).form
 unfold Zbq at h2
 split at h2
 ·exact (Zbj.1 hf).2.1 b h2
 ·split at h2
  ·cases h2
  ·rw [List.mem_singleton.1 h2];exact hf
theorem ZnM:∀ (l m:List Tm),sizeTms (l++m)=sizeTms l+sizeTms m
 | [],m=>by simp [sizeTms]
 | x::l,m=>by simp only [List.cons_append,sizeTms,ZnM l m];omega
theorem Zk4 {g:Sgn} {o:Opr} {op:Int}:∀ {xs:List Tm},(∀ a∈xs,TermOk g a)->sizeTms (Zax o op xs)<=60 * xs.length
 | [],_=>by simp [Zax,sizeTms]
 | a::xs,h=>by
  have ih:=Zk4 (o:=o) (op:=op) (xs:=xs) fun x hx=>h x (List.mem_cons_of_mem _ hx)
  have ha:=(h a List.mem_cons_self).size
  have e:Zax o op (a::xs)=Zbq o op a++Zax o op xs:=rfl
  have hz:=Zbg a
  have hf:sizeTms (Zbq o op a)<=sizeTm a:=by
   unfold Zbq
   split
   ·omega
   ·split
    ·simp [sizeTms]
    ·simp [sizeTms]
  rw [e,ZnM,List.length_cons]
  omega
theorem ZEK {g:Sgn} {o:Opr} {op:Int} {xs:List Tm} (h:∀ a∈xs,TermOk g a) (hl:xs.length<=1000):tmsB (Zax o op xs):=by
 have h1:=Ziv (Zhu.2 (Zqg (o:=o) (op:=op) h))
 have h2:=Zk4 (o:=o) (op:=op) h
 unfold tmsB
 omega
theorem Zvf {l m:List Tm} (h:l.Perm m):Zac (Zaf l)=Zac (Zaf m):=by
 induction h with
 | nil=>rfl
 | cons x h ih=>simp only [Zaf,Zac,ih]
 | swap x y l=>simp only [Zaf,Zac];omega
 | trans h1 h2 a b=>rw [a,b]
section
variable {g:Sgn}
open Classical in
set_option maxRecDepth 100000 in
theorem Zvg (hokg:Zdq g) (hg:SgnOk g) {op:Int} {o:Opr} {d:Dcl} (h0:0<=op) (ho:g.ops[op.toNat]?=some o) (hd:o.decls[0]?=some d) (xs:List Tm) (ha:∀ a∈xs,TermOk g a) (hl:xs.length<=1000):Con e0 121 [.agg (ZaA g),.one (.lit (.int .i64 op)),.one (.sl (Zaf xs))] [.agg (Zae (mk6 g o d op xs)),.one (.lit (.bool (mkO g o d op xs).isSome))]:=by
 have hz:=Zmg
 have hfb:=ZEK (o:=o) (op:=op) ha hl
 have hfo:ZbA (Zax o op xs):=Zzc.2 fun b hb=>ZaM.ok hg _ b (Nat.lt_succ_self _) (Zqg ha b hb)
 have hfs:=Zk4 (o:=o) (op:=op) ha
 have hax:=hg.axs o (List.mem_of_getElem? ho)
 have hlo:=hax.lo
 have hhi:=hax.hi
 have hln:=hg.len
 obtain ⟨d',hd',hr0,hr1,hargs⟩:=hg.first ho
 rw [hd] at hd'
 injection hd' with hd'
 subst hd'
 have cK:=Zev hg.sorts
 rw [Zbc] at cK
 have cUn:=Zl5 hg h0 ho
 rw [ZaA] at cUn
 have cA:=ZfH hd
 rw [Zb2] at cA
 have hB:mkO g o d op xs=if ArB o d xs.length then none else if ∀ (i:Nat) a,xs[i]?=some a->KArg g o d i a then mkL o op (Zax o op xs) else none:=rfl
 have hM:mk6 g o d op xs=(mkO g o d op xs).getD (if ¬ ArB o d xs.length∧∀ (i:Nat) a,xs[i]?=some a->KArg g o d i a then appT op (srtO o (Zax o op xs)) else zTm):=rfl
 have har2:o.assoc=true->d.args.length=2:=fun h=>by
  obtain ⟨k1,k2,hk,_⟩:=Opr.two hg ho hd (.inl h)
  rw [hk];rfl
 refine gI (ts:=[.cell 6 46,.slot 7]) 691281634562849416457226259614436229071 Tryz.func121 ?_
 (have F:=ai @tmz (ai @Zcd (ai @h0 (ai @ho @Zaj)));have NN:Zah 2:=trivial;refine gGn ?_;clear F NN)
 refine gB ?_
 (have F:=@tmz;refine gC (cK) ?_;clear F)
 (have F:=@tmz;refine gR ?_;clear F)
 (have F:=@tmz;have NN:Zah 3:=trivial;refine gGn ?_;clear F NN)
 refine gM (ι:=Bool) [38] [] (fun b=>[(38,A.d (.one (.lit (.bool b))))]) (fun b=>[]) (fun b=>b=decide (ArB o d xs.length)) ?_ (fun b hb=>Exists.intro _ (ai (Wk.refl _) ?_))
 ·refine gB ?_
  (have F:=ai @tmz @Zaj;refine gC (cA) ?_;clear F)
  by_cases q:xs.length=d.args.length
  ·have q1:((xs.length:Int)=(d.args.length:Int))=True:=eq_true om
   have hA:¬ ArB o d xs.length:=fun h=>h.elim (fun h=>by have:=har2 h.1;omega) fun h=>h.2 q
   (have F:=ai @q1 @tmz;refine gR ?_;clear F)
   (have F:=@tmz;refine gG ?_;exact ⟨false,(decide_eq_false hA).symm,gw,gw⟩)
  have q1:((xs.length:Int)=(d.args.length:Int))=False:=eq_false om
  cases hac:o.assoc with
  | false =>
   have hA:ArB o d xs.length:=.inr ⟨hac,q⟩
   (have F:=ai @q1 (ai @hac @tmz);refine gR ?_;clear F)
   (have F:=@tmz;refine gG ?_;exact ⟨true,(decide_eq_true hA).symm,gw,gw⟩)
  | true =>
  by_cases q2:xs.length < 2
  ·have hA:ArB o d xs.length:=.inl ⟨hac,q2⟩
   have q3:((2:Int)<=(xs.length:Int))=False:=eq_false om
   (have F:=ai @q1 (ai @hac (ai @q3 @tmz));refine gR ?_;clear F)
   (have F:=@tmz;refine gG ?_;exact ⟨true,(decide_eq_true hA).symm,gw,gw⟩)
  ·have hA:¬ ArB o d xs.length:=fun h=>h.elim (fun h=>q2 h.2) fun h=>by rw [hac] at h;cases h.1
   have q3:((2:Int)<=(xs.length:Int))=True:=eq_true om
   (have F:=ai @q1 (ai @hac (ai @q3 @tmz));refine gR ?_;clear F)
   (have F:=@tmz;refine gG ?_;exact ⟨false,(decide_eq_false hA).symm,gw,gw⟩)
 by_cases hAr:ArB o d xs.length
 ·rw [decide_eq_true hAr] at hb
  subst hb
  rw [if_pos hAr] at hB
  rw [hB,if_neg fun h=>h.1 hAr] at hM
  rw [hM,hB]
  (have F:=ai @hz @tmz;refine gG ?_;exact gTd)
 rw [decide_eq_false hAr] at hb
 subst hb
 rw [if_neg hAr] at hB
 have hnas:o.assoc=false->xs.length=d.args.length:=fun h=>Classical.byContradiction fun c=>hAr (.inr ⟨h,c⟩)
 have hfl0:Zax o op []=[]:=rfl
 (have F:=@tmz;have NN:Zah 5:=trivial;refine gGn ?_;clear F NN)
 refine gB ?_
 (have F:=@tmz;refine gC (cUn) ?_;clear F)
 (have F:=@tmz;refine gR ?_;clear F)
 (have F:=@tmz;refine gG ?_;clear F)
 (have F:=ai @hfl0 (ai @ZdL @tmz);refine gL (ι:=Nat) [7,12,13,14,50,55,73,82,92] [12] (fun i=>[(13,A.d (.one (.lit (.int .i64 i)))),(12,.buf 12)]) (fun i=>[(12,.buf none 46 4 (Zaf (Zax o op (xs.take i))))]) (fun i=>i<=xs.length∧∀ (j:Nat) a,j < i->xs[j]?=some a->KArg g o d j a) (fun i=>xs.length - i) (0) (⟨Nat.zero_le _,fun j a h=>absurd h om⟩) (fun i hi=>?_);clear F)
 obtain ⟨hi,hall⟩:=hi
 by_cases hlt:i < xs.length
 ·obtain ⟨a,hai⟩:∃ a,xs[i]?=some a:=⟨_,List.getElem?_eq_getElem hlt⟩
  have hT:=ha a (List.mem_of_getElem? hai)
  have q1:((i:Int) < (xs.length:Int))=True:=eq_true om
  have hw1:=Zay (k:=i) om
  obtain ⟨k,hk⟩:=Zhe hg ho hd hnas hlt
  obtain ⟨hk0,hk1⟩:=hargs k (List.mem_of_getElem? hk)
  have hkd:=ZgS hg.sorts hk0 hk1
  have hkN:d.args[(argAt o i:Nat)]?=some k:=hk
  have cKa:=Zl4 hokg hg hT.form.node
  rw [ZaA] at cKa
  have cU:=Zil (hT.ok hg) (ZnI (o:=o) hlo om)
  have hUiff:o.unit≠0->(Zak a (ZbH o)=0 ↔ a.op=o.unit - 1):=fun hu=>by
   rw [Zjl]
   constructor
   ·rintro h;rw [h];simp [ZbH,Tm.op,hu]
   ·exact Zjn hg ho hu hT.form
  generalize hU:decide (Zak a (ZbH o)=0)=U at cU
  have hst:=Zku (o:=o) (op:=op) hai
  have hle:=Zhf o op xs (i+1)
  rw [hst,List.length_append] at hle
  have hfl:=ZbL (Zax o op xs)
  have hnext:ZbP g a=((kd g.sorts k:Nat):Int)->i+1<=xs.length∧∀ (j:Nat) a,j < i+1->xs[j]?=some a->KArg g o d j a:=fun hkk=>⟨hlt,fun j a' hj ha'=>by
   by_cases e:j=i
   ·subst e
    rw [hai] at ha'
    injection ha' with ha'
    subst ha'
    exact ⟨k,hk,hkk⟩
   ·exact hall j a' om ha'⟩
  (have F:=ai @q1 @tmz;refine gG ?_;clear F)
  refine gM (ι:=Unit) [14] [] (fun u=>[(14,A.d (.one (.lit (.int .i64 (argAt o i:Nat)))))]) (fun u=>[]) (fun u=>True) ?_ (fun u hu=>Exists.intro _ (ai (Wk.refl _) ?_))
  ·rcases Bool.eq_false_or_eq_true o.assoc with hac | hac
   ·(have F:=ai @Zaj (ai @hac @ZjT);refine gG ?_;exact ⟨(),trivial,gw,gw⟩)
   ·(have F:=ai @Zaj (ai @hac (ai @ZjT @if_false.{1}));refine gG ?_;exact ⟨(),trivial,gw,gw⟩)
  (have F:=@tmz;have NN:Zah 13:=trivial;refine gGn ?_;clear F NN)
  refine gB ?_
  (have F:=ai @hai @tmz;refine gC (cKa) ?_;clear F)
  by_cases hkk:ZbP g a=((kd g.sorts k:Nat):Int)
  rotate_left
  ·have hno:¬ ∀ (i:Nat) a,xs[i]?=some a->KArg g o d i a:=fun h=>by
    obtain ⟨k',hk',he⟩:=h i a hai
    rw [hk] at hk'
    injection hk' with hk'
    subst hk'
    exact hkk he
   rw [if_neg hno] at hB
   rw [hB,if_neg fun h=>hno h.2] at hM
   rw [hM,hB]
   (have F:=ai @tmz (ai @Zaj (ai @hd (ai @ZaS (ai @hkN (ai @hk0 (ai @hkd (ai @Za4 @hkk)))))));refine gR ?_;clear F)
   (have F:=ai @hz @tmz;refine gG ?_;exact gTd)
  have hnext:=hnext hkk
  have l1:ZaX 4 (Zaf (Zax o op (xs.take i)))=true:=Zgh _
  have l5:ZaX 4 (Zaf a.args)=true:=Zgh _
  (have F:=ai @tmz (ai @Zaj (ai @hd (ai @ZaS (ai @hkN (ai @hk0 (ai @hkd (ai @Za4 @hkk)))))));refine gR ?_;clear F)
  (have F:=@tmz;have NN:Zah 16:=trivial;refine gGn ?_;clear F NN)
  refine gM (ι:=Bool) [82] [] (fun b=>[(82,A.d (.one (.lit (.bool b))))]) (fun b=>[]) (fun b=>b=decide (o.unit≠0∧a.op=o.unit - 1)) ?_ (fun b hb=>Exists.intro _ (ai (Wk.refl _) ?_))
  ·by_cases hu:o.unit=0
   ·(have F:=ai @hu @tmz;refine gG ?_;exact ⟨false,(decide_eq_false fun h=>h.1 hu).symm,gw,gw⟩)
   ·refine gB ?_
    (have F:=ai @hu (ai @hai @tmz);refine gC (cU) ?_;clear F)
    (have F:=@tmz;refine gR ?_;clear F)
    have e:U=decide (o.unit≠0∧a.op=o.unit - 1):=by
     rw [<- hU]
     exact decide_eq_decide.2 ⟨fun h=>⟨hu,(hUiff hu).1 h⟩,fun h=>(hUiff hu).2 h.2⟩
    (have F:=ai @hu @tmz;refine gG ?_;exact ⟨U,e,gw,gw⟩)
  by_cases hUn:o.unit≠0∧a.op=o.unit - 1
  ·rw [decide_eq_true hUn] at hb
   subst hb
   have hN:¬ (o.assoc=true∧a.op=op):=fun h=>by
    have e:(ZbH o).args=[]:=by unfold ZbH;rfl
    have e2:=Zjn hg ho hUn.1 hT.form hUn.2
    obtain ⟨o',d',hA⟩:=hT.form.node.app om
    have:o'=o:=by have:=hA.at';rw [h.2,ho] at this;injection this with this;exact this.symm
    subst this
    have:=(hA.asc h.1).1
    rw [e2,e] at this
    simp at this
   have e:Zbq o op a=[]:=by unfold Zbq;rw [if_neg hN,if_pos hUn]
   rw [e,List.append_nil] at hst
   rw [<- hst]
   (have F:=ai @tmz @hw1;refine gG ?_;exact ⟨i+1,hnext,gw,gw,by omega⟩)
  rw [decide_eq_false hUn] at hb
  subst hb
  by_cases hN:o.assoc=true∧a.op=op
  ·have e:Zbq o op a=a.args:=by unfold Zbq;rw [if_pos hN]
   rw [e] at hst hle
   have l3:((Zax o op (xs.take i)).length+a.args.length<=maxApp)=True:=eq_true (by unfold maxApp;omega)
   have l4:Zaf (Zax o op (xs.take i))++Zaf a.args=Zaf (Zax o op (xs.take (i+1))):=by rw [hst,Zei]
   obtain ⟨hN1,hN2⟩:=hN
   have q2:(a.op=op)=True:=eq_true hN2
   (have F:=ai @tmz (ai @hai (ai @Zaj (ai @hN1 (ai @q2 (ai @l1 (ai @l5 (ai @l3 (ai @l4 @hw1))))))));refine gG ?_;exact ⟨i+1,hnext,gw,gw,by omega⟩)
  ·have e:Zbq o op a=[a]:=by unfold Zbq;rw [if_neg hN,if_neg hUn]
   rw [e] at hst hle
   have l3:((Zax o op (xs.take i)).length+1<=maxApp)=True:=eq_true (by simp only [List.length_cons,List.length_nil] at hle;unfold maxApp;omega)
   have l4:Zaf (Zax o op (xs.take i))++[Zae a]=Zaf (Zax o op (xs.take (i+1))):=by rw [hst,Zei,Zma]
   rcases Bool.eq_false_or_eq_true o.assoc with hac | hac
   ·have hq:(a.op=op)=False:=eq_false fun h=>hN ⟨hac,h⟩
    (have F:=ai @tmz (ai @hai (ai @Zaj (ai @hac (ai @hq (ai @l1 (ai @l3 (ai @l4 @hw1)))))));refine gG ?_;exact ⟨i+1,hnext,gw,gw,by omega⟩)
   ·(have F:=ai @tmz (ai @hai (ai @Zaj (ai @hac (ai @l1 (ai @l3 (ai @l4 @hw1))))));refine gG ?_;exact ⟨i+1,hnext,gw,gw,by omega⟩)
 ·obtain rfl:i=xs.length:=by omega
  have q1:((xs.length:Int) < (xs.length:Int))=False:=eq_false om
  rw [List.take_length]
  have hAll:∀ (i:Nat) a,xs[i]?=some a->KArg g o d i a:=fun j a h=>hall j a (List.getElem?_eq_some_iff.1 h).1 h
  rw [if_pos hAll] at hB
  rw [hB,if_pos ⟨hAr,hAll⟩] at hM
  rw [hM,hB]
  clear hM hB hall hAll hnas
  generalize hL:Zax o op xs=L at hfb hfo hfs ⊢
  have hLb:L.length+Zac (Zaf L)<=1048576:=hfb
  (have F:=ai @q1 @tmz;have NN:Zah 19:=trivial;refine gGn ?_;clear F NN)
  refine pS 12 fun a cap=>?_
  refine pD 12 [12] [] ?_
  by_cases hu:o.unit≠0∧L.length < 2
  ·have e:mkL o op L=some (L.headD (ZbH o)):=by unfold mkL;rw [if_pos hu]
   rw [e]
   obtain ⟨hu1,hu2⟩:=hu
   have q2:(o.unit=0)=False:=eq_false hu1
   cases L with
   | nil =>
    have z2:(((0:Nat):Int)=0)=True:=eq_true om
    (have F:=ai @q1 (ai @Zaj (ai @q2 (ai @z2 @tmz)));refine gG ?_;exact gTd)
   | cons b bs =>
    have hbs:bs=[]:=List.eq_nil_of_length_eq_zero (by simp only [List.length_cons] at hu2;omega)
    subst hbs
    have hbb:bulkRow (Zae b)<=1048576:=by simp only [Zaf,Zac] at hLb;omega
    have z1:(((0+1:Nat):Int)=0)=False:=eq_false om
    have z2:(((0+1:Nat):Int)=1)=True:=eq_true om
    have z3:(((1:Nat):Int)=0)=False:=eq_false om
    have z4:(((1:Nat):Int)=1)=True:=eq_true om
    have q5:([b]:List Tm)[0]?=some b:=rfl
    have z5:(0 < 0+1)=True:=eq_true om
    have z6:((0:Nat) < 1)=True:=eq_true om
    have z7:Int.toNat 0=0:=rfl
    (have F:=ai @q1 (ai @Zaj (ai @q2 (ai @z1 (ai @z2 (ai @z3 (ai @z4 (ai @z5 (ai @z6 (ai @z7 (ai @q5 @tmz))))))))));have NN:Zah 22:=trivial;refine gGn ?_;clear F NN)
    refine gB ?_
    (have F:=ai @z5 (ai @z6 (ai @z7 (ai @q5 @tmz)));refine gC (Zgm b hbb) ?_;clear F)
    (have F:=@tmz;refine gR ?_;clear F)
    (have F:=@tmz;refine gG ?_;exact gTd)
  ·have hml:mkL o op L=if BigT o op (srtO o L) then none else some (appT op (srtO o L)):=by unfold mkL;rw [if_neg hu]
   rw [hml]
   clear hml cUn cK cA
   have hSl:=ZpX o L
   have hSp:=Zf0 o L
   have sz1:=Zjo hSp
   have dz1:=ZiJ hSp
   have sl1:=ZbL L
   have cSo:=Zqf L hfo hfb
   refine gM (ι:=Unit) [116] [] (fun v=>[(116,A.d (.one (.lit (.bool false))))]) (fun v=>[]) (fun v=>True) ?_ (fun v hv=>Exists.intro _ (ai (Wk.refl _) ?_))
   ·by_cases hu0:o.unit=0
    ·have q2:(o.unit=0)=True:=eq_true hu0
     (have F:=ai @q2 @tmz;refine gG ?_;exact ⟨(),trivial,gw,gw⟩)
    ·have q2:(o.unit=0)=False:=eq_false hu0
     have q3:((L.length:Int)=0)=False:=eq_false fun h=>hu ⟨hu0,by omega⟩
     (have F:=ai @q2 (ai @q3 @tmz);refine gG ?_;exact ⟨(),trivial,gw,gw⟩)
   (have F:=@tmz;have NN:Zah 21:=trivial;refine gGn ?_;clear F NN)
   refine gM (ι:=Unit) [123] [] (fun v=>[(123,A.d (.one (.lit (.bool false))))]) (fun v=>[]) (fun v=>True) ?_ (fun v hv=>Exists.intro _ (ai (Wk.refl _) ?_))
   ·by_cases hu0:o.unit=0
    ·have q2:(o.unit=0)=True:=eq_true hu0
     (have F:=ai @q2 @tmz;refine gG ?_;exact ⟨(),trivial,gw,gw⟩)
    ·have q2:(o.unit=0)=False:=eq_false hu0
     have q3:((L.length:Int)=1)=False:=eq_false fun h=>hu ⟨hu0,by omega⟩
     (have F:=ai @q2 (ai @q3 @tmz);refine gG ?_;exact ⟨(),trivial,gw,gw⟩)
   (have F:=@tmz;have NN:Zah 23:=trivial;refine gGn ?_;clear F NN)
   refine gB ?_
   (have F:=ai @Zaj @tmz;refine gR ?_;clear F)
   refine gM (ι:=Unit) [12] [] (fun v=>[(12,.d (.one (.sl (Zaf (srtO o L)))))]) (fun v=>[]) (fun v=>True) ?_ (fun v hv=>Exists.intro _ (ai (Wk.refl _) ?_))
   ·cases hcm:o.comm with
    | true =>
     rw [show srtO o L=Zaz L by unfold srtO;rw [if_pos hcm]]
     (have F:=ai @hcm @tmz;have NN:Zah 24:=trivial;refine gGn ?_;clear F NN)
     refine gB ?_
     (have F:=@tmz;refine gC (cSo) ?_;clear F)
     (have F:=@tmz;refine gR ?_;clear F)
     (have F:=@tmz;refine gG ?_;exact ⟨(),trivial,gw,gw⟩)
    | false =>
     rw [show srtO o L=L by unfold srtO;rw [if_neg (by rw [hcm];simp)]]
     (have F:=ai @hcm @tmz;refine gG ?_;exact ⟨(),trivial,gw,gw⟩)
   have hSB:tmsB (srtO o L):=by
    unfold tmsB at hfb ⊢
    rw [Zvf hSp,hSl];exact hfb
   generalize srtO o L=S at hSl sz1 dz1 hSB ⊢
   have em:Zae (appT op S)=[.lit (.int .i64 op),.lit (.string ByteArray.empty),.lit (.int .i64 0),.sl (Zaf S)]:=by simp only [appT,Zae]
   have zs:sizeTm (appT op S)=1+sizeTms S:=by rw [Zbg];rfl
   have c1:=Zkt (t:=appT op S) (by unfold big;omega)
   rw [em] at c1
   (have F:=@tmz;have NN:Zah 25:=trivial;refine gGn ?_;clear F NN)
   refine gB ?_
   (have F:=@tmz;refine gC (ZjA S hSB) ?_;clear F)
   (have F:=@tmz;refine gR ?_;clear F)
   (have F:=@tmz;have NN:Zah 26:=trivial;refine gGn ?_;clear F NN)
   by_cases h7:o.assoc=true∧7 < S.length
   ·rw [if_pos (show BigT o op S from .inl h7)]
    obtain ⟨hac,h7⟩:=h7
    have q2:((S.length:Int)<=7)=False:=eq_false om
    refine gLp 13 12 13 ?_
    (have F:=ai @hac (ai @q2 @tmz);refine gR ?_;clear F)
    (have F:=ai @hz (ai @em @tmz);refine gG ?_;exact gTd)
   have hac:o.assoc=true->((S.length:Int)<=7)=True:=fun h=>eq_true (Int.not_lt.1 fun q=>h7 ⟨h,by omega⟩)
   have hres:(if BigT o op S then none else some (appT op S)).isSome=decide (sizeTm (appT op S)<=60∧depthTm (appT op S)<=20):=by
    by_cases hbg:BigT o op S
    ·rw [if_pos hbg]
     refine (decide_eq_false fun h=>?_).symm
     rcases hbg with h | h | h
     ·exact h7 h
     ·omega
     ·omega
    ·rw [if_neg hbg]
     refine (decide_eq_true ⟨?_,?_⟩).symm
     ·exact Nat.not_lt.1 fun h=>hbg (.inr (.inl h))
     ·exact Nat.not_lt.1 fun h=>hbg (.inr (.inr h))
   have hgd:(if BigT o op S then none else some (appT op S)).getD (appT op S)=appT op S:=by
    split <;> rfl
   rw [hres,hgd,em]
   rcases Bool.eq_false_or_eq_true o.assoc with ha' | ha'
   ·have q2:=hac ha'
    refine gLp 13 12 13 ?_
    (have F:=ai @ha' (ai @q2 @tmz);refine gC (c1) ?_;clear F)
    (have F:=@tmz;refine gR ?_;clear F)
    (have F:=@tmz;refine gG ?_;exact gTd)
   ·refine gLp 13 12 13 ?_
    (have F:=ai @ha' @tmz;refine gC (c1) ?_;clear F)
    (have F:=@tmz;refine gR ?_;clear F)
    (have F:=@tmz;refine gG ?_;exact gTd)
end
end Go.Proofs.YtffmjghcpgpfpaaGreatDoor
namespace Go.Proofs.YtffmjghcpgpfpaaGreatDoor
open Go.RowKit
def decN (n:Nat):List UInt8:=if n < 10 then [UInt8.ofNat (48+n)] else [UInt8.ofNat (48+n / 10),UInt8.ofNat (48+n % 10)]
def decB (i:Int):List UInt8:=if i < 0 then 45::decN (-i).toNat else decN i.toNat
mutual
def ZcT:Tm->List UInt8
 | .mk op nm so args=>decB op++((if op < 0 then 58::(nm.toList++58::decB so) else [])++40::(Za9 args++[41]))
def Za9:List Tm->List UInt8
 | []=>[]
 | t::ts=>ZcT t++Za9 ts
end
theorem Zvh (a b:List Tm):Za9 (a++b)=Za9 a++Za9 b:=by
 induction a with
 | nil=>rfl
 | cons t ts ih=>simp only [List.cons_append,Za9,ih,List.append_assoc]
theorem Zfs {P:UInt8->Prop}:∀ {l m:List UInt8} {c d:UInt8} {x y:List UInt8},(∀ b∈l,P b)->(∀ b∈m,P b)->¬ P c->¬ P d->l++c::x=m++d::y->l=m∧c=d∧x=y
 | [],[],c,d,x,y,_,_,_,_,h=>by simpa using h
 | [],b::m,c,d,x,y,_,hm,hc,_,h=>by
  simp only [List.nil_append,List.cons_append,List.cons.injEq] at h
  exact absurd (hm b List.mem_cons_self) (h.1 ▸ hc)
 | a::l,[],c,d,x,y,hl,_,_,hd,h=>by
  simp only [List.nil_append,List.cons_append,List.cons.injEq] at h
  exact absurd (hl a List.mem_cons_self) (h.1 ▸ hd)
 | a::l,b::m,c,d,x,y,hl,hm,hc,hd,h=>by
  simp only [List.cons_append,List.cons.injEq] at h
  obtain ⟨h1,h2⟩:=Zfs (fun b hb=>hl b (List.mem_cons_of_mem _ hb)) (fun b hb=>hm b (List.mem_cons_of_mem _ hb)) hc hd h.2
  exact ⟨by rw [h.1,h1],h2⟩
def NumB (b:UInt8):Prop:=b=45∨(48<=b.toNat∧b.toNat<=57)
instance (b:UInt8):Decidable (NumB b):=by unfold NumB;infer_instance
theorem ZEL:∀ i:Fin 15,∀ b∈decB ((i.val:Int) - 1),NumB b:=by decide
theorem ZEM:∀ i j:Fin 15,decB ((i.val:Int) - 1)=decB ((j.val:Int) - 1)->i=j:=by decide
theorem ZjZ {i:Int} (h0:-1<=i) (h1:i < 14):∀ b∈decB i,NumB b:=by
 have:=ZEL ⟨(i+1).toNat,by omega⟩
 rwa [show (((i+1).toNat:Nat):Int) - 1=i by omega] at this
theorem Zm5 {i j:Int} (h0:-1<=i) (h1:i < 14) (h2:-1<=j) (h3:j < 14) (h:decB i=decB j):i=j:=by
 have:=ZEM ⟨(i+1).toNat,by omega⟩ ⟨(j+1).toNat,by omega⟩ (by
  simp only
  rw [show (((i+1).toNat:Nat):Int) - 1=i by omega,show (((j+1).toNat:Nat):Int) - 1=j by omega];exact h)
 have:=congrArg Fin.val this
 simp only at this
 omega
theorem Zqh:∀ i:Fin 15,(decB ((i.val:Int) - 1)).head?≠some 41∧decB ((i.val:Int) - 1)≠[]:=by decide
def NamB (s:ByteArray):Prop:=∀ b∈s.toList,ZcQ (b.toNat:Int)=true
mutual
def Zem:Tm->Prop
 | .mk op nm so args=>-1<=op∧op < 14∧(op=-1->NamB nm∧0<=so∧so < 8)∧(op≠-1->nm=ByteArray.empty∧so=0)∧ZeB args
def ZeB:List Tm->Prop
 | []=>True
 | t::ts=>Zem t∧ZeB ts
end
theorem toList_inj {a b:ByteArray} (h:a.toList=b.toList):a=b:=by
 rw [ByteArray.toList_eq,ByteArray.toList_eq] at h
 obtain ⟨x⟩:=a
 obtain ⟨y⟩:=b
 simp only at h
 rw [Array.toList_inj.1 h]
theorem ZeY:¬ NumB 40:=by decide
theorem Zhi:¬ NumB 58:=by decide
mutual
theorem ZtW:∀ (a b:Tm) (x y:List UInt8),Zem a->Zem b->ZcT a++x=ZcT b++y->a=b∧x=y
 | .mk op nm so args,.mk op' nm' so' args',x,y,ha,hb,h=>by
  simp only [Zem] at ha hb
  obtain ⟨a1,a2,a3,a4,a5⟩:=ha
  obtain ⟨b1,b2,b3,b4,b5⟩:=hb
  simp only [ZcT,List.append_assoc,List.cons_append] at h
  have n1:=ZjZ a1 a2
  have n2:=ZjZ b1 b2
  have hfst:op=op'∧nm=nm'∧so=so'∧Za9 args++([41]++x)=Za9 args'++([41]++y):=by
   by_cases h1:op < 0
   ·rw [if_pos h1] at h
    by_cases h2:op' < 0
    ·rw [if_pos h2] at h
     simp only [List.cons_append,List.append_assoc] at h
     obtain ⟨e1,_,e2⟩:=Zfs n1 n2 Zhi Zhi h
     have e1:=Zm5 a1 a2 b1 b2 e1
     have o1:op=-1:=by omega
     have o2:op'=-1:=by omega
     obtain ⟨p1,p2,p3⟩:=a3 o1
     obtain ⟨q1,q2,q3⟩:=b3 o2
     obtain ⟨f1,_,f2⟩:=Zfs (P:=fun b=>ZcQ (b.toNat:Int)=true) p1 q1 (by decide) (by decide) e2
     obtain ⟨g1,_,g2⟩:=Zfs (ZjZ om om) (ZjZ om om) ZeY ZeY f2
     exact ⟨e1,toList_inj f1,Zm5 om om om om g1,g2⟩
    ·rw [if_neg h2] at h
     simp only [List.cons_append,List.nil_append] at h
     obtain ⟨_,e,_⟩:=Zfs n1 n2 Zhi ZeY h
     exact absurd e (by decide)
   ·rw [if_neg h1] at h
    by_cases h2:op' < 0
    ·rw [if_pos h2] at h
     simp only [List.cons_append,List.nil_append] at h
     obtain ⟨_,e,_⟩:=Zfs n1 n2 ZeY Zhi h
     exact absurd e (by decide)
    ·rw [if_neg h2] at h
     simp only [List.nil_append] at h
     obtain ⟨e1,_,e2⟩:=Zfs n1 n2 ZeY ZeY h
     have e1:=Zm5 a1 a2 b1 b2 e1
     obtain ⟨p1,p2⟩:=a4 om
     obtain ⟨q1,q2⟩:=b4 om
     exact ⟨e1,by rw [p1,q1],by rw [p2,q2],e2⟩
  obtain ⟨rfl,rfl,rfl,he⟩:=hfst
  obtain ⟨i1,i2⟩:=Zqi args args' x y a5 b5 he
  exact ⟨by rw [i1],i2⟩
theorem Zqi:∀ (xs bs:List Tm) (x y:List UInt8),ZeB xs->ZeB bs->Za9 xs++([41]++x)=Za9 bs++([41]++y)->xs=bs∧x=y
 | [],[],x,y,_,_,h=>by simpa [Za9] using h
 | [],.mk op nm so args::bs,x,y,_,hb,h=>by
  exfalso
  simp only [ZeB,Zem] at hb
  have:=Zqh ⟨(op+1).toNat,by omega⟩
  rw [show (((op+1).toNat:Nat):Int) - 1=op by omega] at this
  simp only [Za9,ZcT,List.nil_append,List.append_assoc] at h
  cases hd:decB op with
  | nil=>exact this.2 hd
  | cons c l =>
   rw [hd] at h this
   simp only [List.cons_append,List.cons.injEq] at h
   exact this.1 (by rw [<- h.1];rfl)
 | .mk op nm so args::xs,[],x,y,ha,_,h=>by
  exfalso
  simp only [ZeB,Zem] at ha
  have:=Zqh ⟨(op+1).toNat,by omega⟩
  rw [show (((op+1).toNat:Nat):Int) - 1=op by omega] at this
  simp only [Za9,ZcT,List.nil_append,List.append_assoc] at h
  cases hd:decB op with
  | nil=>exact this.2 hd
  | cons c l =>
   rw [hd] at h this
   simp only [List.cons_append,List.cons.injEq] at h
   exact this.1 (by rw [h.1];rfl)
 | a::xs,b::bs,x,y,ha,hb,h=>by
  simp only [ZeB] at ha hb
  simp only [Za9,List.append_assoc] at h
  obtain ⟨e1,e2⟩:=ZtW a b _ _ ha.1 hb.1 h
  obtain ⟨f1,f2⟩:=Zqi xs bs x y ha.2 hb.2 e2
  exact ⟨by rw [e1,f1],f2⟩
end
theorem ZAG {s:ByteArray} (h:Zbm s=true):NamB s:=by
 unfold Zbm at h
 simp only [Bool.and_eq_true] at h
 have hn:=h.2
 unfold Zba at hn
 rw [List.all_eq_true] at hn
 intro b hb
 rw [ByteArray.toList_eq] at hb
 obtain ⟨i,hi,rfl⟩:=List.getElem_of_mem hb
 have hi':i < s.size:=by simpa using hi
 have:=hn i (List.mem_range'_1.2 ⟨Nat.zero_le _,by omega⟩)
 simp only [Bool.and_eq_true,Zjc,dif_pos hi'] at this
 exact this.1
mutual
theorem ZgZ {g:Sgn} (hg:SgnOk g):∀ (t:Tm),ZaM g t->Zem t
 | .mk op nm so args,h=>by
  have h2:Zc7 g args:=by simp only [ZaM] at h;exact h.2.1
  have h1:ZcL g (.mk op nm so args):=by simp only [ZaM] at h;exact h.1
  have hl:=hg.len
  have hn:=hg.sorts.n8
  refine ⟨?_,?_,?_,?_,ZnN hg args h2⟩
  ·rcases h1 with h | ⟨o,d,h⟩
   ·have:op=-1:=h.1
    omega
   ·have:0<=op:=h.lo
    omega
  ·rcases h1 with h | ⟨o,d,h⟩
   ·have:op=-1:=h.1
    omega
   ·have h0:0<=op:=h.lo
    have:g.ops[op.toNat]?=some o:=h.at'
    have:=(List.getElem?_eq_some_iff.1 this).1
    omega
  ·intro ho
   rcases h1 with h | ⟨o,d,h⟩
   ·have h4:0<=so:=h.2.2.1
    have h5:so < g.sorts.names.length:=h.2.2.2.1
    exact ⟨ZAG h.2.1,h4,by omega⟩
   ·have:0<=op:=h.lo
    omega
  ·intro ho
   rcases h1 with h | ⟨o,d,h⟩
   ·have:op=-1:=h.1
    omega
   ·exact ⟨h.nm,h.so⟩
theorem ZnN {g:Sgn} (hg:SgnOk g):∀ (ts:List Tm),Zc7 g ts->ZeB ts
 | [],_=>trivial
 | t::ts,h=>by
  simp only [Zc7] at h
  exact ⟨ZgZ hg t h.1,ZnN hg ts h.2⟩
end
def keyS (t:Tm):ByteArray:=⟨(ZcT t).toArray⟩
theorem Zqj {g:Sgn} (hg:SgnOk g) {a b:Tm} (ha:ZaM g a) (hb:ZaM g b) (h:(keyS a).toList=(keyS b).toList):a=b:=by
 rw [ByteArray.toList_eq,ByteArray.toList_eq] at h
 simp only [keyS] at h
 exact (ZtW a b [] [] (ZgZ hg a ha) (ZgZ hg b hb) (by rw [List.append_nil,List.append_nil];exact h)).1
def Zft (P:Program) (s d:TypeId):Bool:=match P.underlying s,P.underlying d with
 | some (.slice e),some .string=>match P.underlying e with
  | some (.int .u8)=>true
  | _=>false
 | _,_=>false
def ZhW (b:Int):ByteArray:=ByteArray.empty.push (UInt8.ofNat b.toNat)
section
variable {e:Env} {σ:St} {o:Oper} {K:St->Prop}
theorem Zzf {s d:TypeId} {x:Operand} {b:Int} (ho:o.op=.convert s d x) (hx:evA σ.s x=.d (.clip [[.lit (.int .u8 b)]])) (ht:Zft e.P s d=true) (hK:K ⟨setA σ.s o.dst (.d (.one (.lit (.string (ZhW b))))),σ.m⟩):ZbM e o σ K:=by
 intro he U w0 S0 nt a w Q hd ⟨S,L,h⟩
 refine Oper.wp_mono (fun a' w' hs=>⟨_,hK,hs⟩) (Ze8 h hd (ZaJ fun w S L ρv hC hr=>?_))
 have hx':=hr x (by simp [ho,Op.operands])
 rw [hx] at hx'
 obtain ⟨⟨A,n,cap,hv,hn,_,_,hb⟩,_⟩:=hx'
 simp only [List.length_cons,List.length_nil,Nat.zero_add] at hn
 subst hn
 obtain ⟨g,off,rfl,_,_,hrow⟩:=hb (by decide)
 simp only [Zar,Zai,Rep,and_true] at hrow
 obtain ⟨u,hc,rfl⟩:=hrow
 have hl:=run_loadCells_list (P:=e.P) w ⟨g,off,none⟩ [.int .u8 b] (fun j u hj=>by
  cases j with
  | zero=>simp at hj;subst hj;rw [Addr.add_at];exact hc
  | succ j=>simp at hj)
 unfold Zft at ht
 split at ht
 ·rename_i e1 h1 h2
  split at ht
  ·rename_i h3
   refine ⟨.string (ZhW b),?_,by simp [ARel,DRel,Rep]⟩
   simp only [List.length_cons,List.length_nil,Nat.zero_add] at hl
   simp [execOp,ho,hv,convert,underlying,h1,h2,h3,Conv.bytesToString,hl,ZhW,Result.andThen]
  ·cases ht
 ·cases ht
end
theorem gY {e:Env} {K:St->Prop} {ds:List (Option Nat)} {os:List Oper} {d t1 t2 ty:Nat} {p:String} {ed:Array Edge} {x:Operand} {s:List (Nat × A)} {m:List (Nat × Bk)} {b:Int} (hK:Runs e ds 0 os ⟨(d,.d (.one (.lit (.string (ZhW b)))))::s,m⟩ K)
  (hx:evA s x=.d (.clip [[.lit (.int .u8 b)]]):=by exact snx) (ht:Zft e.P t1 t2=true:=by kernel_rfl):Runs e ds 0 (⟨some d,.convert t1 t2 x,ty,p,ed,none⟩::os) ⟨s,m⟩ K:=by
 simp only [Runs] at hK ⊢
 exact Zdc rfl (Zzf (o:=⟨some d,.convert t1 t2 x,ty,p,ed,none⟩) rfl hx ht hK)
section
variable {P:Program} {w:World}
theorem Zzg (ts:Array TypeId) (t ty e:TypeId) (i:TypeInfo) (z:Value) (h0:ts[0]?=some t) {t2:TypeId} (h1:ts[1]?=some t2) (ht2:P.underlying t2=some .string) (ht:P.underlying t=some (.slice e)) (hi:P.info? e=some i) (hz:i.zero=some z) (b:Option Addr) (sLen sCap:Nat) (olds:List Value) (x:Value) (n:Nat) (news:List Value)
  (hln:(Builtin.lenOf x).run P w=.ok n w) (hfo:(Builtin.firstCells i.size sLen (.slice b sLen sCap)).run P w.drew=.ok olds.toArray w.drew) (hf:(Builtin.firstCells i.size n x).run P w.drew=.ok news.toArray w.drew) (hg:sCap < sLen+n) (h63:((sLen+n:Nat):Int)<=9223372036854775807) (hfit:Builtin.nextslicecap (sLen+n) sCap * i.bytes<=281474976710656) :
  (Builtin.append_ ts ty #[.slice b sLen sCap,x]).run P w=.ok (.slice (some ⟨w.heap.size,0,none⟩) (sLen+n) (grownCap w (sLen+n) sCap e)) (w.drew.alloc (.cells (olds.toArray++news.toArray++Builtin.zeroCells z.cells (grownCap w (sLen+n) sCap e - (sLen+n))) e)):=by
 have hn:¬ (sLen+n<=sCap):=by omega
 have h63':¬ (9223372036854775807 < ((sLen:Int)+(n:Int))):=by omega
 have h48':¬ (281474976710656 < Builtin.nextslicecap (sLen+n) sCap * i.bytes):=by omega
 have e1:olds.toArray++(news.toArray++Builtin.zeroCells z.cells (grownCap w (sLen+n) sCap e - (sLen+n)))=(olds++news).toArray++Builtin.zeroCells z.cells (grownCap w (sLen+n) sCap e - (sLen+n)):=by
  apply Array.toList_inj.1;simp
 unfold grownCap at e1
 simp [Builtin.append_,h0,h1,run_underlying ht,run_underlying ht2,sizeOf,typeInfo,zeroValue,hi,hz,hln,hn,h63',h48',Question.forced,hf,hfo,newRow,grownCap,e1]
theorem Zzh (ts:Array TypeId) (t ty e:TypeId) (i:TypeInfo) (h0:ts[0]?=some t) {t2:TypeId} (h1:ts[1]?=some t2) (ht2:P.underlying t2=some .string) (ht:P.underlying t=some (.slice e)) (hi:P.info? e=some i) (g sLen sCap:Nat) (cur:Array Value) (hg:w.heap[g]?=some (.cells cur e (0,0))) (x:Value) (n:Nat) (news:List Value)
  (hln:(Builtin.lenOf x).run P w=.ok n w) (hf:(Builtin.firstCells i.size n x).run P w=.ok news.toArray w) (hone:∀ u∈news,u.oneCell'=true) (hroom:sLen+n<=sCap) (hfit:sLen * i.size+news.length<=cur.size) :
  (Builtin.append_ ts ty #[.slice (some ⟨g,0,none⟩) sLen sCap,x]).run P w=.ok (.slice (some ⟨g,0,none⟩) (sLen+n) sCap) (w.setRow g (cur.toList.take (sLen * i.size)++news++cur.toList.drop (sLen * i.size+news.length)).toArray):=by
 have hst:=run_storeCells_at P g (sLen * i.size) e news 0 cur w hg (by simpa using hfit) hone
 simp only [Nat.add_zero] at hst
 simp [Builtin.append_,h0,h1,run_underlying ht,run_underlying ht2,sizeOf,typeInfo,hi,hln,hroom,hf,Addr.add_lit,hst]
theorem Zzi (ts:Array TypeId) (t ty e:TypeId) (i:TypeInfo) (h0:ts[0]?=some t) {t2:TypeId} (h1:ts[1]?=some t2) (ht2:P.underlying t2=some .string) (ht:P.underlying t=some (.slice e)) (hi:P.info? e=some i) (b:Option Addr) (x:Value)
  (hln:(Builtin.lenOf x).run P w=.ok 0 w) (hf:(Builtin.firstCells i.size 0 x).run P w=.ok #[] w) :
  (Builtin.append_ ts ty #[.slice b 0 0,x]).run P w=.ok (.slice b 0 0) w:=by
 cases b <;> simp [Builtin.append_,h0,h1,run_underlying ht,run_underlying ht2,sizeOf,typeInfo,hi,hln,hf,storeCells]
end
section
variable {e:Env} {U:Nat->Prop} {w0:World} {S0:Nat->Prop} {nt:Nat} {σ:St} {a:Act} {w:World} {S:Nat->Prop} {L:Lay} {o:Oper}
theorem Zrp (he:e.Ok) (hC:Cls e U w0.heap.size S0 σ.m w S L) {ts:Array TypeId} {t ty:TypeId} {ety sz by':Nat} (h0:ts[0]?=some t) {t2:TypeId} (h1:ts[1]?=some t2) (ht2:e.P.underlying t2=some .string) (hb:Za6 e.P t=some (ety,sz,by')) {rows ys:List (List C)} {v u:Value}
  (hv:ZaO w S ety sz rows v∨(DRel w S (.clip rows) v∧(rows=[]∨ys≠[]))) (hrl:rowsLen sz rows) (hyl:rowsLen sz ys) (hle:rows.length+ys.length<=maxApp)
  (hy:∃ (news:List Value),(∀ w',(Builtin.lenOf u).run e.P w'=.ok ys.length w')∧Zaa w S ys.flatten news∧∀ (P:Program) (w':World),(∀ p,w'.cell? p=w.cell? p)->(Builtin.firstCells sz ys.length u).run P w'=.ok news.toArray w') :
  ∃ v' w',(Builtin.append_ ts ty #[v,u]).run e.P w=.ok v' w'∧ZaO w' S ety sz (rows++ys) v'∧∃ τ:Option Nat,Kept e.D (fun b=>τ=some b) w.heap.size w w'∧(∀ g,τ=some g->vblk v=some g∧ZaO w S ety sz rows v)∧(∀ g,vblk v'=some g->τ=some g∨w.heap.size<=g):=by
 obtain ⟨i,z,hu,hi,hz,hsz,hby,hzs,hs0,hb4⟩:=ZdQ hb
 obtain ⟨news,hln,hnews,hf⟩:=hy
 have hnl:news.length=ys.length * sz:=by rw [hnews.len,Zcc hyl]
 have hone:=Ze5 (ZmA hyl) hnews
 have hm30:rows.length+ys.length<=1073741824:=hle
 have hbytes:(rows.length+ys.length) * i.bytes<=140737488355328:=by
  have h2:(rows.length+ys.length) * i.bytes<=1073741824 * 4096:=Nat.mul_le_mul hm30 om
  omega
 have hrl2:rowsLen sz (rows++ys):=hrl.append hyl
 have grow:∀ (b:Option Addr) (cap:Nat) (olds:List Value),v=.slice b rows.length cap->cap < rows.length+ys.length->Zaa w S rows.flatten olds->(∀ (P:Program) (w':World),(∀ p,w'.cell? p=w.cell? p)->(Builtin.firstCells sz rows.length v).run P w'=.ok olds.toArray w') ->
   ∃ v' w',(Builtin.append_ ts ty #[v,u]).run e.P w=.ok v' w'∧ZaO w' S ety sz (rows++ys) v'∧∃ τ:Option Nat,Kept e.D (fun b=>τ=some b) w.heap.size w w'∧(∀ g,τ=some g->vblk v=some g∧ZaO w S ety sz rows v)∧(∀ g,vblk v'=some g->τ=some g∨w.heap.size<=g):=by
  intro b cap olds hv hlt hol hfo
  have h63:rows.length+ys.length<=maxLen:=by unfold maxLen;omega
  have hrun:=Zzg ts t ty ety i z h0 h1 ht2 hu hi hz b rows.length cap olds u ys.length news (hln w) (by rw [hsz,<- hv];exact hfo _ _ (Zg7 w)) (by rw [hsz];exact hf _ _ (Zg7 w)) hlt om (growslice_fits om hbytes)
  rw [<- hv] at hrun
  have hge:=grownCap_ge w (rows.length+ys.length) cap ety
  have hcm:=grownCap_le_maxLen w (rows.length+ys.length) cap ety h63
  generalize hcap:grownCap w (rows.length+ys.length) cap ety=nc at hrun hge hcm
  have hcl:olds.length=rows.length * sz:=by rw [hol.len,Zcc hrl]
  have hk:Kept e.D (fun b=>(none:Option Nat)=some b) w.heap.size w (w.drew.alloc (.cells (olds.toArray++news.toArray++Builtin.zeroCells z.cells (nc - (rows.length+ys.length))) ety)) :=
   ⟨rfl,rfl,rfl,fun _=>Nat.le_succ _,by simp,fun k hk _=>heap_alloc_old w.drew _ hk⟩
  have hheap:=heap_alloc_new w.drew (.cells (olds.toArray++news.toArray++Builtin.zeroCells z.cells (nc - (rows.length+ys.length))) ety)
  have hsW:(w.drew.alloc (.cells (olds.toArray++news.toArray++Builtin.zeroCells z.cells (nc - (rows.length+ys.length))) ety)).heap.size=w.heap.size+1:=by simp
  have e1:olds.toArray++news.toArray++Builtin.zeroCells z.cells (nc - (rows.length+ys.length))=((olds++news)++(Builtin.zeroCells z.cells (nc - (rows.length+ys.length))).toList).toArray:=by
   apply Array.toList_inj.1;simp
  rw [e1] at hrun hk hheap hsW
  generalize w.drew.alloc (.cells ((olds++news)++(Builtin.zeroCells z.cells (nc - (rows.length+ys.length))).toList).toArray ety)=W at hrun hk hheap hsW
  refine ⟨_,_,hrun,?_,none,hk,by simp,fun g hg=>?_⟩
  ·have hlen:rows.length+ys.length=(rows++ys).length:=by simp
   rw [hlen]
   refine ZiV (w:=w) (cells:=olds++news) (rest:=(Builtin.zeroCells z.cells (nc - (rows.length+ys.length))).toList) (n:=0) hs0 hrl2 hk.size (fun b o hs=>Zbx (hk.block b (hC.sin b hs).1 (by simp)) o) ?_ (by simp;omega) hcm om (g:=w.heap.size) om (fun hs=>by have:=(hC.sin _ hs).1;omega) ?_ ?_
   ·rw [List.flatten_append];exact Zaa.app hol hnews
   ·exact hheap
   ·simp only [List.length_append,Array.length_toList,size_zeroCells,hzs,hcl,hnl,<- Nat.add_mul]
    congr 1
    omega
  ·simp only [vblk] at hg
   split at hg
   ·cases hg
   ·injection hg with hg;exact .inr om
 have stay:∀ (b:Option Addr),rows=[]->ys=[]->v=.slice b 0 0->∃ v' w',(Builtin.append_ ts ty #[v,u]).run e.P w=.ok v' w'∧ZaO w' S ety sz (rows++ys) v'∧∃ τ:Option Nat,Kept e.D (fun b=>τ=some b) w.heap.size w w'∧(∀ g,τ=some g->vblk v=some g∧ZaO w S ety sz rows v)∧(∀ g,vblk v'=some g->τ=some g∨w.heap.size<=g):=by
  intro b hr hy hvb
  subst hr hy
  have hn0:news=[]:=List.eq_nil_of_length_eq_zero (by simpa using hnl)
  have hrun:=Zzi (P:=e.P) (w:=w) ts t ty ety i h0 h1 ht2 hu hi b u (hln w) (by rw [hsz];have:=hf e.P w (fun _=>rfl);rw [hn0] at this;simpa using this)
  rw [hvb]
  refine ⟨_,_,hrun,⟨hs0,by simpa using rowsLen.nil,.inl ⟨by simp,b,rfl⟩⟩,none,Kept.refl _ _ _ _,by simp,fun g hg=>?_⟩
  cases b <;> simp [vblk] at hg
 rcases hv with hv | ⟨hv,hne⟩
 ·have hv0:=hv
  obtain ⟨_,_,h3⟩:=hv
  rcases h3 with ⟨hr,b,hvb⟩ | ⟨g,cap,cur,hvb,hc,hg,hs,hh,hlc,hm,hcs,hr⟩
  ·by_cases hy0:ys=[]
   ·exact stay b hr hy0 hvb
   ·have hyl0:0 < ys.length:=List.length_pos_iff.2 hy0
    subst hr
    refine grow b 0 [] hvb (by simpa using hyl0) (by simp [Zaa]) (fun P w' _=>?_)
    rw [hvb]
    cases b <;> simp [Builtin.firstCells,loadCells,loadCellsFrom]
  ·by_cases hroom:rows.length+ys.length<=cap
   ·have hfit:rows.length * i.size+news.length<=cur.size:=by rw [hnl,hsz,hcs,<- Nat.add_mul];exact Nat.mul_le_mul_right _ hroom
    have hrun:=Zzh (P:=e.P) (w:=w) ts t ty ety i h0 h1 ht2 hu hi g rows.length cap cur hh u ys.length news (hln w) (by rw [hsz];exact hf _ _ (fun _=>rfl)) hone hroom hfit
    rw [<- hvb] at hrun
    rw [hsz] at hrun hfit
    have hput:=Ze0 w g (rows.length * sz) ety news cur hh hfit
    have hheap:=setRow_heap w g cur (cur.toList.take (rows.length * sz)++news++cur.toList.drop (rows.length * sz+news.length)).toArray ety _ hh
    have hdr:(w.setRow g (cur.toList.take (rows.length * sz)++news++cur.toList.drop (rows.length * sz+news.length)).toArray).drawn=w.drawn:=Ze7 _ _ _
    generalize hW:w.setRow g (cur.toList.take (rows.length * sz)++news++cur.toList.drop (rows.length * sz+news.length)).toArray=W at hrun hput hheap hdr
    have hszW:W.heap.size=w.heap.size:=hput.size
    have hkc:∀ b o,S b->W.cell? ⟨b,o,none⟩=w.cell? ⟨b,o,none⟩:=fun b o hsb=>Zbx (hput.other b (fun e=>hs (e ▸ hsb))) o
    refine ⟨_,_,hrun,⟨hs0,hrl2,.inr ⟨g,cap,_,by simp,hc,by omega,hs,hheap,by simpa using hroom,hm,by simp;omega,?_⟩⟩,some g,⟨hput.os,hput.tape,hput.output,fun _=>Nat.le_of_eq hdr.symm,by omega,fun b hb hE=>hput.other b (fun eq=>hE (by rw [eq]))⟩,fun q hq=>?_,fun q hq=>?_⟩
    ·apply Zar.of_flat
     rw [List.flatten_append]
     have r1:=Zai.keepAt (S':=S) om hkc (fun _ h=>h) g 0 rows.flatten (fun j hj=>hput.old _ (.inl (by rw [Zcc hrl] at hj;omega))) hr.flat
     refine Zai.append _ _ 0 r1 ?_
     rw [Zcc hrl,Nat.zero_add]
     exact Zai.of_vals _ news _ (Zaa.keep2 om hkc (fun _ h=>h) hnews) hput.new
    ·injection hq with hq;subst hq
     exact ⟨by rw [hvb];simp only [vblk];rw [if_neg om],hv0⟩
    ·simp only [vblk] at hq
     rw [if_neg om] at hq
     exact .inl hq
   ·obtain ⟨b',cap',olds,q1,_,_,q2,q3⟩:=ZiU hv0
    rw [hvb] at q1
    injection q1 with e1 e2 e3
    exact grow _ _ olds hvb om q2 q3
 ·obtain ⟨hrep,b,n,hvb⟩:=hv
  obtain ⟨b',cap',olds,q1,q2,q3,q4,q5⟩:=Zg6 hrl hrep
  rw [hvb] at q1
  injection q1 with e1 e2 e3
  by_cases hy0:ys=[]
  ·have hr:rows=[]:=by
    rcases hne with h | h
    ·exact h
    ·exact absurd hy0 h
   refine stay b hr hy0 ?_
   rw [hvb]
   have:n=0:=by rw [e2,hr];rfl
   rw [this]
  ·have hyl0:0 < ys.length:=List.length_pos_iff.2 hy0
   exact grow b n olds (by rw [hvb,e2]) om q4 q5
end
def byR (s:ByteArray):List (List C):=s.data.toList.map fun b=>[.lit (.int .u8 b.toNat)]
theorem ZdT (s:ByteArray):(byR s).length=s.size:=by rw [byR,List.length_map,Array.length_toList];rfl
theorem Zqk (s:ByteArray):rowsLen 1 (byR s):=fun r hr=>by
 obtain ⟨b,_,rfl⟩:=List.mem_map.1 hr
 exact ⟨rfl,rfl⟩
theorem Zj0 (s t:ByteArray):byR s++byR t=byR (s++t):=by
 rw [byR,byR,byR,<- List.map_append]
 congr 1
theorem ZAH (s:ByteArray):(byR s).flatten=(Lib.strCells s).map C.lit:=by
 rw [byR,Lib.strCells,List.map_map]
 induction s.data.toList with
 | nil=>rfl
 | cons b l ih=>simp only [List.map_cons,List.flatten_cons,ih,List.cons_append,List.nil_append];rfl
theorem ZjB {w:World} {S:Nat->Prop}:∀ vs:List Value,Zaa w S (vs.map C.lit) vs
 | []=>by simp [Zaa]
 | v::vs=>by simp only [List.map_cons,Zaa,Rep];exact ⟨trivial,ZjB vs⟩
section
variable {e:Env} {K:St->Prop} {ds:List (Option Nat)} {os:List Oper} {s:List (Nat × A)} {m:List (Nat × Bk)}
theorem Zzj {σ:St} {o:Oper} {x y:Operand} {t t2 ety by' k d:Nat} {rows:List (List C)} {oa:Option (Option Addr × Nat)} {str:ByteArray} (ho:o.op=.call ⟨.builtin .append,#[x,y],#[t,t2]⟩) (hdd:o.dst=some d) (hb:Za6 e.P t=some (ety,1,by')) (ht2:e.P.underlying t2=some .string)
  (hx:evA σ.s x=.buf k) (hm:gm σ.m k=some (.buf oa ety 1 rows)) (hy:evA σ.s y=.d (.one (.lit (.string str)))) (hle:rows.length+(byR str).length<=maxApp) (hK:K ⟨(d,.buf d)::Zau d (Zau k σ.s),(d,.buf none ety 1 (rows++byR str))::remM d (remM k σ.m)⟩):ZbM e o σ K:=by
 intro he U w0 S0 nt a w Q hd ⟨S,L,h⟩
 have hx':a.eval x=L.v k:=by have:=h.eval x;rw [hx] at this;exact this
 have hy':a.eval y=.string str:=by have:=h.eval y;rw [hy] at this;simpa [ARel,DRel,Rep] using this
 have ho':ZaO w S ety 1 rows (L.v k):=(h.cls.own k _ hm).2
 obtain ⟨v',w',hrun,hbuf,τ,hk,hτ,hblk⟩:=Zrp (ty:=o.type) (ts:=#[t,t2]) (v:=L.v k) (u:=.string str) he h.cls rfl rfl ht2 hb (.inl ho') ho'.2.1 (Zqk str) hle
  ⟨Lib.strCells str,fun w'=>by simp [Builtin.lenOf,ZdT],by rw [ZAH];exact ZjB _,fun P w' _=>by rw [ZdT];exact Lib.run_firstCells_string w' 1 str⟩
 unfold Oper.wp
 have hr2:(execOp a.eval o).run e.P w=.ok (.value v') w':=by
  simp [execOp,ho,resolve,invoke,builtin,hx',hy',hrun,Result.andThen]
 rw [hr2,Oper.upon_value,hdd]
 refine ⟨_,hK,h.born he (hd d hdd) (τ:=τ) (b':=0) (v':=v') (s1:=Zau k σ.s) (m1:=remM k σ.m) (fun _ h=>h) (fun _ h=>.inl h) (fun t=>?_) (fun k' x hx=>?_) (fun g hg=>?_) (fun k' x g hkd hx hg hb'=>?_) hk ?_ (fun g hg=>?_) (by simp [ARel])⟩
 ·rcases Zd2 k t σ.s with ⟨h1,_⟩ | h1
  ·exact .inl h1
  ·exact .inr h1
 ·rw [ZaT] at hx
  split at hx
  ·cases hx
  ·exact hx
 ·have hg':=(hτ g hg).1
  exact ⟨(Own1.lt (k:=k) (L:=L) (bk:=.buf none ety 1 rows) ⟨by simp,ho'⟩ hg').2,h.cls.notE hm hg',h.cls.mine k _ g hm hg'⟩
 ·have hg':=(hτ g hg).1
  rw [ZaT] at hx
  split at hx
  ·cases hx
  ·rename_i hne'
   exact hne' (h.cls.inj k' k x _ g hx hm hb' hg')
 ·simp only [Own1,if_true];exact ⟨by simp,hbuf⟩
 ·simp only [ZaE,if_true] at hg
  exact hblk g hg
theorem ZnO:∀ (l:List UInt8) (acc:ByteArray),(l.map fun b=>(b.toNat:Int)).foldl (fun r n=>r.push (UInt8.ofNat n.toNat)) acc=⟨acc.data++l.toArray⟩
 | [],acc=>by simp
 | b::l,acc=>by
  rw [List.map_cons,List.foldl_cons,ZnO l]
  have hb:UInt8.ofNat ((b.toNat:Int)).toNat=b:=by simp
  rw [hb]
  simp [ByteArray.push]
theorem ZAI (s:ByteArray):(s.data.toList.map fun b=>(b.toNat:Int)).foldl (fun r n=>r.push (UInt8.ofNat n.toNat)) ByteArray.empty=s:=by
 rw [ZnO]
 show (⟨#[]++s.data.toList.toArray⟩:ByteArray)=s
 simp
theorem Zrq {σ:St} {o:Oper} {t d:TypeId} {x:Operand} {k ety:Nat} {oa:Option (Option Addr × Nat)} {str:ByteArray} (ho:o.op=.convert t d x) (hx:evA σ.s x=.buf k) (hm:gm σ.m k=some (.buf oa ety 1 (byR str))) (ht:Zft e.P t d=true) (hK:K ⟨setA σ.s o.dst (.d (.one (.lit (.string str)))),σ.m⟩):ZbM e o σ K:=by
 intro he U w0 S0 nt a w Q hd ⟨S,L,h⟩
 have hx':a.eval x=L.v k:=by have:=h.eval x;rw [hx] at this;exact this
 have ho':ZaO w S ety 1 (byR str) (L.v k):=(h.cls.own k _ hm).2
 have hrun:(convert t d (L.v k)).run e.P w=.ok (.string str) w:=by
  unfold Zft at ht
  split at ht
  ·rename_i e1 h1 h2
   split at ht
   ·rename_i h3
    have key:∀ (b:Option Addr) (cap:Nat),L.v k=.slice b str.size cap->(∀ ad,b=some ad->(loadCells ad str.size).run e.P w=.ok ((str.data.toList.map fun b=>(b.toNat:Int)).map (Value.int .u8)).toArray w)->(b=none->str.size=0)->(convert t d (L.v k)).run e.P w=.ok (.string str) w:=fun b cap hv hl hn=>by
     rw [hv,run_convert_bytes_string w t d e1 b _ cap h1 h3 h2]
     cases b with
     | none =>
      have h0:=hn rfl
      have:str=ByteArray.empty:=by
       cases str with
       | mk data=>simp only [ByteArray.size] at h0;rw [Array.eq_empty_of_size_eq_zero h0];rfl
      rw [this]
      simp [Conv.bytesToString]
     | some ad =>
      rw [run_bytesToString w ad _ cap _ (hl ad rfl),ZAI]
    rcases ho'.2.2 with ⟨hr,b,hv⟩ | ⟨g,cap,cur,hv,hc,hg,hs,hh,hlc,hmx,hcs,hr⟩
    ·have h0:str.size=0:=by rw [<- ZdT,hr];rfl
     have hd0:str.data.toList=[]:=List.eq_nil_of_length_eq_zero (by rw [Array.length_toList];exact h0)
     refine key b 0 (by rw [hv,h0]) (fun ad _=>?_) (fun _=>h0)
     rw [h0,hd0]
     simp [loadCells,loadCellsFrom]
    ·rw [ZdT] at hv
     refine key _ cap hv (fun ad had=>?_) (fun hb=>by cases hb)
     injection had with had
     subst had
     have hl:=run_loadCells_list (P:=e.P) w ⟨g,0,none⟩ ((str.data.toList.map fun b=>(b.toNat:Int)).map (Value.int .u8)) (fun j u hj=>by
      rw [List.getElem?_map,List.getElem?_map] at hj
      obtain ⟨b,hb,rfl⟩:∃ b,str.data.toList[j]?=some b∧u=.int .u8 b.toNat:=by
       cases hq:str.data.toList[j]? with
       | none=>rw [hq] at hj;cases hj
       | some b=>rw [hq] at hj;injection hj with hj;exact ⟨b,rfl,hj.symm⟩
      have h1:=Zar.get (byR str) 0 j [.lit (.int .u8 b.toNat)] (k:=1) (fun z hz=>(Zqk str z hz).1) hr (by rw [byR,List.getElem?_map,hb];rfl)
      rw [Addr.add_at]
      simpa [Zai,Rep] using h1)
     rw [List.length_map,List.length_map,Array.length_toList] at hl
     exact hl
   ·cases ht
  ·cases ht
 unfold Oper.wp
 have hr2:(execOp a.eval o).run e.P w=.ok (.value (.string str)) w:=by
  simp [execOp,ho,hx',hrun,Result.andThen]
 rw [hr2,Oper.upon_value]
 exact ⟨_,hK,S,L,h.put (α:=.d (.one (.lit (.string str)))) (by simp [ARel,DRel,Rep]) hd⟩
theorem gSt {d t t2 ty ety by' k:Nat} {p:String} {ed:Array Edge} {x y:Operand} {rows:List (List C)} {oa:Option (Option Addr × Nat)} {str:ByteArray} {s2:List (Nat × A)} {m2:List (Nat × Bk)} (hle:rows.length+(byR str).length<=maxApp) (ht2:e.P.underlying t2=some .string) (hK:Runs e ds 0 os ⟨(d,.buf d)::s2,(d,.buf none ety 1 (rows++byR str))::m2⟩ K)
  (hb:Za6 e.P t=some (ety,1,by'):=by exact sfx) (hx:evA s x=.buf k:=by exact sfx) (hm:gm m k=some (.buf oa ety 1 rows):=by exact snx) (hy:evA s y=.d (.one (.lit (.string str))):=by exact sfx)
  (hs:Zau d (Zau k s)=s2:=by exact snv) (hr:remM d (remM k m)=m2:=by exact snv):Runs e ds 0 (⟨some d,.call ⟨.builtin .append,#[x,y],#[t,t2]⟩,ty,p,ed,none⟩::os) ⟨s,m⟩ K:=by
 subst hs hr
 simp only [Runs] at hK ⊢
 exact Zdc rfl (Zzj rfl rfl hb ht2 hx hm hy hle hK)
theorem gTx {d t1 t2 ty ety k:Nat} {p:String} {ed:Array Edge} {x:Operand} {oa:Option (Option Addr × Nat)} (str:ByteArray) (ht:Zft e.P t1 t2=true) (hK:Runs e ds 0 os ⟨(d,.d (.one (.lit (.string str))))::s,m⟩ K) (hx:evA s x=.buf k:=by exact sfx) (hm:gm m k=some (.buf oa ety 1 (byR str)):=by exact snx):Runs e ds 0 (⟨some d,.convert t1 t2 x,ty,p,ed,none⟩::os) ⟨s,m⟩ K:=by
 simp only [Runs] at hK ⊢
 exact Zdc rfl (Zrq (o:=⟨some d,.convert t1 t2 x,ty,p,ed,none⟩) rfl hx hm ht hK)
end
def decS (i:Int):ByteArray:=⟨(decB i).toArray⟩
set_option maxRecDepth 100000 in
theorem Zzk {i:Int} (h0:0<=i) (h1:i < 14):Con e0 261 [.one (.lit (.int .i64 i))] [.one (.lit (.string (decS i)))]:=by
 have h:i=0∨i=1∨i=2∨i=3∨i=4∨i=5∨i=6∨i=7∨i=8∨i=9∨i=10∨i=11∨i=12∨i=13:=by omega
 rcases h with rfl | rfl | rfl | rfl | rfl | rfl | rfl | rfl | rfl | rfl | rfl | rfl | rfl | rfl
 all_goals (
  have w1:IntKind.i64.wrap (0+1)=1:=by decide
  have w2:IntKind.i64.wrap (1+1)=2:=by decide
  have w3:IntKind.i64.wrap (2+1)=3:=by decide
  have w4:IntKind.i64.wrap (3+1)=4:=by decide
  have w5:IntKind.i64.wrap (4+1)=5:=by decide
  have w6:IntKind.i64.wrap (5+1)=6:=by decide
  have w7:IntKind.i64.wrap (6+1)=7:=by decide
  have w8:IntKind.i64.wrap (7+1)=8:=by decide
  have w9:IntKind.i64.wrap (8+1)=9:=by decide
  have wa:IntKind.i64.wrap (9+1)=10:=by decide
  have u0:IntKind.i64.wrap (10 * 2)=20:=by decide
  have u1:IntKind.i64.wrap (11 * 2)=22:=by decide
  have u2:IntKind.i64.wrap (12 * 2)=24:=by decide
  have u3:IntKind.i64.wrap (13 * 2)=26:=by decide
  have v0:IntKind.i64.wrap (20+2)=22:=by decide
  have v1:IntKind.i64.wrap (22+2)=24:=by decide
  have v2:IntKind.i64.wrap (24+2)=26:=by decide
  have v3:IntKind.i64.wrap (26+2)=28:=by decide
  refine gI (ts:=[.slot 2]) 21 Tryz.func261 ?_
  (have F:=ai @w1 (ai @w2 (ai @w3 (ai @w4 (ai @w5 (ai @w6 (ai @w7 (ai @w8 (ai @w9 (ai @wa (ai @u0 (ai @u1 (ai @u2 (ai @u3 (ai @v0 (ai @v1 (ai @v2 @v3))))))))))))))));refine gG ?_;exact gTd))
theorem ZD2 (s:ByteArray):ZaX 1 (byR s)=true:=by
 unfold byR
 induction s.data.toList with
 | nil=>rfl
 | cons b l ih=>simp only [List.map_cons,Zib,ih,Bool.and_true];rfl
def RBy (s:ByteArray) (r:List D) (pm:List Bk):Prop:=∃ a cap,r=[.one (.lit (.slice a (byR s).length cap))]∧pm=[.buf (some (a,cap)) 5 1 (byR s)]
theorem ZFs {P:Program} {t:TypeId} {a b:Int}:binT P .lss t (.int .u64 a) (.int .u64 b)=some (.bool (decide (a < b))):=rfl
theorem Zm6:ZdC (Tryz.prog.underlying 224)=some .u64:=by kernel_rfl
theorem ZFt:Tryz.prog.underlying 224=some (.int .u64):=by kernel_rfl
theorem ZtX:ZdC (Tryz.prog.underlying 2)=some .i64:=by kernel_rfl
theorem ZtY:e0.P.underlying 9=some .string:=by kernel_rfl
set_option maxRecDepth 100000 in
theorem ZnP {i:Int} (h0:0<=i) (h1:i < 14) (s:ByteArray) (hl:s.size<=1000000) (a:Option Addr) (cap:Nat):ConP e0 247 [.one (.lit (.slice a (byR s).length cap)),.one (.lit (.int .u64 i)),.one (.lit (.int .i64 10))] [.buf (some (a,cap)) 5 1 (byR s)] (RBy (s++decS i)):=by
 have q1:(i < 100)=True:=eq_true om
 have w1:IntKind.i64.wrap i=i:=IntWalk.i64_in _ om
 have l1:(byR s).length+(byR (decS i)).length<=maxApp:=by
  rw [ZdT,ZdT]
  have:(decS i).size<=3:=by unfold decS decB decN;show (List.toArray _).size<=3;rw [List.size_toArray];split <;> split <;> simp
  unfold maxApp;omega
 refine gIP (ts:=[.slot 6]) [1000] 5575 Tryz.func247 ?_
 (have F:=ai @q1 (ai @ZFs @tmz);have NN:Zah 3:=trivial;refine gGn ?_;clear F NN)
 refine gB ?_
 (have F:=ai @w1 (ai @Zm6 (ai @ZFt (ai @ZfX (ai @ZhU @tmz))));refine gC (Zzk h0 h1) ?_;clear F)
 refine gK 13 ?_
 refine (have F:=tmz;gSt l1 ZtY ?_)
 rw [Zj0]
 refine gS 17 fun a2 cap2=>?_
 (have F:=@tmz;refine gR ?_;clear F)
 (have F:=@tmz;refine gG ?_;clear F)
 exact (have F:=tmz;gTP (R:=RBy (s++decS i)) [17] ⟨a2,cap2,rfl,rfl⟩)
set_option maxRecDepth 100000 in
theorem Zzl {i:Int} (h0:-1<=i) (h1:i < 14) (s:ByteArray) (hl:s.size<=100000) (a:Option Addr) (cap:Nat):ConP e0 223 [.one (.lit (.slice a (byR s).length cap)),.one (.lit (.int .i64 i)),.one (.lit (.int .i64 10))] [.buf (some (a,cap)) 5 1 (byR s)] (RBy (s++decS i)):=by
 refine gIP (ts:=[.slot 6]) [1000] 2247 Tryz.func223 ?_
 by_cases hn:i < 0
 ·obtain rfl:i=-1:=by omega
  have q1:((-1:Int) < 0)=True:=eq_true om
  have w1:IntKind.u64.wrap (-1)=18446744073709551615:=by decide
  have w2:IntKind.u64.wrap (0 - 18446744073709551615)=1:=by decide
  have l1:(byR s).length+1<=maxApp:=by rw [ZdT];unfold maxApp;omega
  have l2:ZaX 1 (byR s)=true:=ZD2 s
  have e1:byR s++[[.lit (.int .u8 45)]]=byR (s++⟨#[45]⟩):=by rw [<- Zj0];rfl
  have e2:s++⟨#[45]⟩++decS 1=s++decS (-1):=by rw [ByteArray.append_assoc];rfl
  have cU:=fun a cap=>ZnP (i:=1) om om (s++⟨#[45]⟩) (by rw [ByteArray.size_append];show s.size+1<=_;omega) a cap
  rw [e2] at cU
  (have F:=ai @q1 (ai @w1 (ai @Zm6 (ai @ZtX (ai @Zee @tmz))));have NN:Zah 3:=trivial;refine gGn ?_;clear F NN)
  refine gB ?_
  (have F:=ai @l1 (ai @l2 (ai @e1 @tmz));refine gR ?_;clear F)
  (have F:=ai @w2 (ai @ZFa @tmz);have NN:Zah 5:=trivial;refine gGn ?_;clear F NN)
  refine pS 0 fun a2 cap2=>?_
  refine gB ?_
  (have F:=@tmz;refine gCP [0] [1001] (cU a2 cap2) ?_;clear F)
  rintro r pm ⟨a3,cap3,rfl,rfl⟩
  simp only [setA,retA,zipM,List.cons_append,List.nil_append]
  (have F:=@tmz;refine gR ?_;clear F)
  (have F:=@tmz;refine gG ?_;clear F)
  exact (have F:=tmz;gTP (R:=RBy (s++decS (-1))) [1001] ⟨a3,cap3,rfl,rfl⟩)
 ·have q1:(i < 0)=False:=eq_false hn
  have w1:IntKind.u64.wrap i=i:=by
   have h:=@Int.emod_eq_of_lt
   unfold IntKind.wrap
   simp only [IntKind.signed,IntKind.bits]
   exact Int.emod_eq_of_lt om om
  have cU:=ZnP om h1 s om a cap
  (have F:=ai @q1 (ai @w1 (ai @Zm6 (ai @ZtX (ai @Zee @tmz))));have NN:Zah 5:=trivial;refine gGn ?_;clear F NN)
  refine gB ?_
  (have F:=@tmz;refine gCP [1000] [1001] (cU) ?_;clear F)
  rintro r pm ⟨a3,cap3,rfl,rfl⟩
  simp only [setA,retA,zipM,List.cons_append,List.nil_append]
  (have F:=@tmz;refine gR ?_;clear F)
  (have F:=@tmz;refine gG ?_;clear F)
  exact (have F:=tmz;gTP (R:=RBy (s++decS i)) [1001] ⟨a3,cap3,rfl,rfl⟩)
set_option maxRecDepth 100000 in
theorem ZkA {i:Int} (h0:-1<=i) (h1:i < 14) (s:ByteArray) (hl:s.size<=100000) (a:Option Addr) (cap:Nat):ConP e0 170 [.one (.lit (.slice a (byR s).length cap)),.one (.lit (.int .i64 i)),.one (.lit (.int .i64 10))] [.buf (some (a,cap)) 5 1 (byR s)] (RBy (s++decS i)):=by
 refine gIP (ts:=[.slot 6]) [1000] 71 Tryz.func170 ?_
 (have F:=@tmz;have NN:Zah 1:=trivial;refine gGn ?_;clear F NN)
 refine gB ?_
 (have F:=@tmz;refine gCP [1000] [1001] (Zzl h0 h1 s hl a cap) ?_;clear F)
 rintro r pm ⟨a3,cap3,rfl,rfl⟩
 simp only [setA,retA,zipM,List.cons_append,List.nil_append]
 (have F:=@tmz;refine gR ?_;clear F)
 (have F:=@tmz;refine gG ?_;clear F)
 exact (have F:=tmz;gTP (R:=RBy (s++decS i)) [1001] ⟨a3,cap3,rfl,rfl⟩)
end Go.Proofs.YtffmjghcpgpfpaaGreatDoor
