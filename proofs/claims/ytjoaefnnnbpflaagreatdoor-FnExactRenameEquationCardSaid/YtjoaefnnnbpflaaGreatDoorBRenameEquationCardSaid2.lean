/-
  Part of a proof.
-/
import Derived.Test.YtjoaefnnnbpflaaGreatDoorBRenameEquationCardSaid0
import Derived.Test.YtjoaefnnnbpflaaGreatDoorBRenameEquationCardSaid1
import Derived.Test.YtjoaefnnnbpflaaGreatDoorRows
import Derived.Lib.AppendStr
import Derived.Laws.BytesString
set_option linter.unusedSimpArgs false
set_option linter.unusedVariables false
set_option maxHeartbeats 400000000
set_option maxRecDepth 100000
namespace Go.Proofs.YtjoaefnnnbpflaaGreatDoor
open Go.RowKit
def Zdw (l:List ByteArray):List (ByteArray × Value):=l.map fun x=>(x,.bool true)
theorem ZlI (l:List ByteArray) (s:ByteArray):ZbR (Zdw l) s=if Zbl l s then some (.bool true) else none:=by
 induction l with
 | nil=>rfl
 | cons x xs ih =>
  simp only [ZbR,Zdw,Zbl,Tbt,List.any_cons] at ih ⊢;by_cases h:(s.toList==x.toList)=true
  ·rw [List.find?_cons_of_pos (by exact h)];simp [h]
  ·rw [List.find?_cons_of_neg (by exact h),ih];simp [h]
theorem Ztx {l:List ByteArray} {i:Nat} {x:ByteArray} (h:l[i]?=some x):Zdw (l.take i)++[(x,.bool true)]=Zdw (l.take (i+1)):=by
 rw [List.take_add_one,h,Zdw,Zdw,Tbu];rfl
theorem ZgA:∀ x,Zd6 x=[.lit (.string x)]:=fun _=>rfl
theorem Zgi:e0.P.underlying 153=some (.map 9 4):=by kernel_rfl
theorem Zhy:e0.P.underlying 9=some .string:=by kernel_rfl
theorem ZjP:∀ w,(zeroValue 4).run e0.P w=.ok (.bool false) w:=fun w=>by kernel_rfl
theorem ZBj:Zdw []=[]∧∀ l:List ByteArray,Zdw (l.take 0)=[]:=⟨rfl,fun _=>rfl⟩
section
variable {s:Srt}
theorem ZiC (hok:ZlB s):Con e0 98 [.agg (Zbr s)] [.one (.lit (.bool (ZbV s)))]:=by
 have hno:¬ SortsOk s->ZbV s=false:=ZfO;have cU:=fun h1 h2 h3 h4=>ZiB (s:=s) h1 h2 h3 h4;have hrs:=Zi0 s.names;rw [Zbr] at cU ⊢;refine gI 41538379337072913235836183427157855 Tryz.func98 ?_;by_cases h1:1<=s.names.length;rotate_left
 ·have hf:=hno fun h=>h1 h.n1;have z1:=lT s.names.length 1;exact fT (ai @z1 @hf)
 have z1:=lF s.names.length 1;by_cases h8:s.names.length<=8;rotate_left
 ·have hf:=hno fun h=>h8 h.n8;have z2:=lT 8 s.names.length;exact fT (aj3 @z1 @z2 @hf)
 have z2:=lF 8 s.names.length;by_cases h16:s.subs.length<=16;rotate_left
 ·have hf:=hno fun h=>h16 h.m16;have z3:=lT 16 s.subs.length;exact fT (aj4 @z1 @z2 @z3 @hf)
 have z3:=lF 16 s.subs.length;refine fN 4 (aj3 @z1 @z2 @z3) ?_;refine gB ?_;refine gMk fun b=>?_;refine fR @e0P ?_;refine fG @e0P ?_;have F:=@ZBj;refine gL (ι:=Nat) [2,6,31,32,42] [27] (fun i=>[(31,A.d (.one (.lit (.int .i64 i))))]) (fun i=>[(27,mapB b (Zdw (s.names.take i)))]) (fun i=>i<=s.names.length∧∀ j,j < i->Zi2 s.names j) (fun i=>s.names.length - i) (0) (⟨Taj _,fun j h=>absurd h om⟩) (fun i hi=>?_);clear F
 obtain ⟨hil,hall⟩:=hi;by_cases hlt:i < s.names.length
 ·have q1:(i:Int) < (s.names.length:Int):=om;obtain ⟨x,hx⟩:∃ x,s.names[i]?=some x:=⟨_,Taa hlt⟩;have hw:=Zau (k:=i) om;have hfs:=ZlI (s.names.take i) x;have hbad:¬ (ZaG x=true∧Zbl (s.names.take i) x=false)->ZbV s=false:=fun h=>hno fun hs=>h (hs.names i hlt x hx);have cN:=Ze5 (hok.1 x (Tac hx));refine fN 8 (aj3 @q1 @hx @ZgA) ?_;refine gB ?_;have F:=@e0P;refine gP 2 ?_;clear F
  cases hh:Zbl (s.names.take i) x with
  | true =>
   rw [hh] at hfs hbad;have hf:=hbad fun h=>by cases h.2
   refine (have F:=e0P;gLk 27 Zgi Zhy ZjP (v:=.bool true) (by rw [hfs];rfl) ?_);refine fR @e0P ?_;exact fT @hf
  | false =>
  rw [hh] at hfs hbad;refine (have F:=e0P;gLk 27 Zgi Zhy ZjP (v:=.bool false) (by rw [hfs];rfl) ?_);refine fC @e0P (cN) ?_
  cases hn:ZaG x with
  | false =>
   have hf:=hbad fun h=>by rw [hn] at h;cases h.1
   refine fR @e0P ?_;exact fT @hf
  | true =>
  have hq:i+1<=s.names.length∧∀ j,j < i+1->Zi2 s.names j:=⟨hlt,fun j hj=>by
   by_cases e:j=i
   ·subst e;intro y hy;rw [hx] at hy;injection hy with hy
    subst hy;exact ⟨hn,hh⟩
   ·exact hall j om⟩
  have hsn:=Ztx hx;refine fR @e0P ?_;refine fN 10 @e0P ?_;refine gB ?_;have F:=@e0P;refine gP 2 ?_;clear F;refine (have F:=e0P;gUp 27 Zgi Zhy (by rw [hfs];rfl) ?_);rw [hsn];refine fR @e0P ?_;have F:=@hw;refine gG ?_;exact ⟨i+1,hq,gw,gw,om⟩
 obtain rfl:i=s.names.length:=by omega
 have q1:¬ ((s.names.length:Int) < (s.names.length:Int)):=om;refine fG @q1 ?_;have F:=@e0P;refine gL (ι:=Nat) [2,8,49,50,79] [] (fun k=>[(49,A.d (.one (.lit (.int .i64 k))))]) (fun k=>[]) (fun k=>k<=s.subs.length∧∀ (j:Nat) p,j < k->s.subs[j]?=some p->Zfv s.names.length p) (fun k=>s.subs.length - k) (0) (⟨Taj _,fun j p h=>absurd h om⟩) (fun k hk=>?_);clear F;obtain ⟨hkl,hsub⟩:=hk;by_cases hlk:k < s.subs.length
 ·have q2:(k:Int) < (s.subs.length:Int):=om;obtain ⟨p,hp⟩:∃ x,s.subs[k]?=some x:=⟨_,Taa hlk⟩;have hw:=Zau (k:=k) om;have hbad:¬ Zfv s.names.length p->ZbV s=false:=fun h=>hno fun hs=>h (hs.subs p (Tac hp));by_cases c1:p.1 < 0
  ·have hf:=hbad fun h=>by have:=h.1;omega
   exact fT (aj5 @q2 @hp @Zci @c1 @hf)
  by_cases c2:(s.names.length:Int)<=p.1
  ·have hf:=hbad fun h=>by have:=h.2.1;omega
   exact fT (aj6 @q2 @hp @Zci @c1 @c2 @hf)
  by_cases c3:p.2 < 0
  ·have hf:=hbad fun h=>by have:=h.2.2.1;omega
   exact fT (aj7 @q2 @hp @Zci @c1 @c2 @c3 @hf)
  by_cases c4:(s.names.length:Int)<=p.2
  ·have hf:=hbad fun h=>by have:=h.2.2.2.1;omega
   exact fT (aj8 @q2 @hp @Zci @c1 @c2 @c3 @c4 @hf)
  by_cases c5:p.1=p.2
  ·have hf:=hbad fun h=>h.2.2.2.2 c5;have c5:(p.1=p.2)=True:=eq_true c5;exact fT (aj9 @q2 @hp @Zci @c1 @c2 @c3 @c4 @c5 @hf)
  have hq:k+1<=s.subs.length∧∀ (j:Nat) p,j < k+1->s.subs[j]?=some p->Zfv s.names.length p:=⟨hlk,fun j p' hj hp'=>by
   by_cases e:j=k
   ·subst e;rw [hp] at hp';injection hp' with hp'
    subst hp';exact ⟨om,om,om,om,c5⟩
   ·exact hsub j p' om hp'⟩
  have F:=aj9 @q2 @hp @Zci @c1 @c2 @c3 @c4 @c5 @hw;refine gG ?_;exact ⟨k+1,hq,gw,gw,om⟩
 obtain rfl:k=s.subs.length:=by omega
 have q2:¬ ((s.subs.length:Int) < (s.subs.length:Int)):=om;have hsubs:∀ p∈s.subs,Zfv s.names.length p:=fun p hp=>by obtain ⟨j,hj⟩:=Tbk hp;exact hsub j p (Tad.1 hj).1 hj
 have hSI:=SortsOk.subsIn hsubs;have hU:=ZhX hSI;have hyes:(∀ i k,i < s.names.length->k < s.names.length->Zc6 (up s) i k)->ZbV s=true:=fun h=>Ze3 ⟨h1,h8,h16,fun i hi=>hall i hi,hsubs,h⟩;have hno2:∀ i k,i < s.names.length->k < s.names.length->¬ Zc6 (up s) i k->ZbV s=false:=fun i k h1 h2 h3=>hno fun h=>h3 (h.pairs i k h1 h2);have lU:=ZbO (l:=up s);rw [hU.1] at lU;have rU:=ZbQ (l:=up s);refine fB @q2 ?_
 refine fC @e0P (cU h1 h8 h16 hSI) ?_;refine fR @e0P ?_;generalize up s=u at hU hyes hno2 lU rU ⊢;have hpw:∀ i,i < s.names.length->u[i]?=some (u.getD i 0)∧u.getD i 0 < 4611686018427387904:=fun i hi=>by
  obtain ⟨g1,g2⟩:=hU.get hi;exact ⟨g1,Nat.lt_trans g2 (Zgx om)⟩
 refine fG @lU ?_;have F:=@e0P;refine gL (ι:=Nat) [2,10,11,85,86,89,90,91,115] [] (fun i=>[(85,A.d (.one (.lit (.int .i64 i))))]) (fun i=>[]) (fun i=>i<=s.names.length∧∀ i' k,i' < i->k < s.names.length->Zc6 u i' k) (fun i=>s.names.length - i) (0) (⟨Taj _,fun i' k h=>absurd h om⟩) (fun i hi=>?_);clear F;obtain ⟨hil,hpi⟩:=hi;by_cases hlt:i < s.names.length;rotate_left
 ·have q3:¬ ((i:Int) < (s.names.length:Int)):=om;have ht:=hyes fun i' k h1 h2=>hpi i' k om h2;exact fT (ai @q3 @ht)
 have q3:(i:Int) < (s.names.length:Int):=om;have hwi:=Zau (k:=i) om;obtain ⟨gi,bi⟩:=hpw i hlt;refine fG (ai @q3 @lU) ?_;have F:=@e0P;refine gL (ι:=Nat) [2,11,90,91,115] [] (fun k=>[(90,A.d (.one (.lit (.int .i64 k))))]) (fun k=>[]) (fun k=>k<=s.names.length∧∀ k',k' < k->Zc6 u i k') (fun k=>s.names.length - k) (0) (⟨Taj _,fun k h=>absurd h om⟩) (fun k hk=>?_);clear F;obtain ⟨hkl,hpk⟩:=hk;have hwk:=Zau (k:=k) om
 by_cases hlk:k < s.names.length;rotate_left
 ·have q4:¬ ((k:Int) < (s.names.length:Int)):=om;have hq:i+1<=s.names.length∧∀ i' k,i' < i+1->k < s.names.length->Zc6 u i' k:=⟨hlt,fun i' k' h h2=>by
   by_cases e:i'=i
   ·subst e;exact hpk k' om
   ·exact hpi i' k' om h2⟩
  have F:=ai @q4 @hwi;refine gG ?_;exact ⟨i+1,hq,gw,gw,om⟩
 have q4:(k:Int) < (s.names.length:Int):=om;obtain ⟨gk,bk⟩:=hpw k hlk;have nx:Zc6 u i k->k+1<=s.names.length∧∀ k',k' < k+1->Zc6 u i k':=fun h=>⟨hlk,fun k' h2=>by
  by_cases e:k'=k
  ·subst e;exact h
  ·exact hpk k' om⟩
 have si:=ZjO (k:=i) om;have sk:=ZjO (k:=k) om;have a1:=Ztv (x:=u.getD i 0) (k:=k) bi om;have a2:=Ztv (x:=u.getD k 0) (k:=i) bk om;have r1:=Zcb gi;have r2:=Zcb gk;by_cases hik:i=k
 ·have z4:((i:Int)=(k:Int))=True:=eq_true om;have hq:=nx fun h=>h.1 hik;have F:=aj3 @q4 @z4 @hwk;refine gG ?_;exact ⟨k+1,hq,gw,gw,om⟩
 have z4:((i:Int)=(k:Int))=False:=eq_false om
 cases b1:tbit (u.getD i 0) k with
 | false =>
  rw [b1] at a1;have hq:=nx fun h=>by have:=h.2.1;rw [show (u.getD i 0).testBit k=false from b1] at this;cases this
  have F:=aj8 @q4 @z4 @sk @a1 @r1 @rU @ZaC @hwk;refine gG ?_;exact ⟨k+1,hq,gw,gw,om⟩
 | true =>
 rw [b1] at a1
 cases b2:tbit (u.getD k 0) i with
 | false =>
  rw [b2] at a2;have hq:=nx fun h=>by have:=h.2.2;rw [show (u.getD k 0).testBit i=false from b2] at this;cases this
  have F:=aj11 @q4 @z4 @sk @si @a1 @a2 @r1 @r2 @rU @ZaC @hwk;refine gG ?_;exact ⟨k+1,hq,gw,gw,om⟩
 | true =>
  rw [b2] at a2;have hf:=hno2 i k hlt hlk fun h=>h ⟨hik,b1,b2⟩;exact fT (aj11 @q4 @z4 @sk @si @a1 @a2 @r1 @r2 @rU @ZaC @hf)
end
theorem Zd7 (x lo hi:Int):Con e0 118 [.one (.lit (.int .i64 x)),.one (.lit (.int .i64 lo)),.one (.lit (.int .i64 hi))] [.one (.lit (.bool (decide (lo<=x∧x<=hi))))]:=by
 refine gI 71 Tryz.func118 ?_;by_cases h1:lo<=x
 ·by_cases h2:x<=hi
  ·exact fT (ai @h1 @h2)
  ·exact fT (ai @h1 @h2)
 ·exact fT @h1
theorem Zxl {l:List ByteArray} (s:ByteArray) (hl:l.length<=1048576):Con e0 117 [.one (.sl (l.map Zd6)),.one (.lit (.string s))] [.one (.lit (.bool (Zbl l s)))]:=by
 have hr:=Zi0 l;refine gI 131635 Tryz.func117 ?_;refine fG @e0P ?_;have F:=@e0P;refine gL (ι:=Nat) [4,5,9,17] [] (fun i=>[(5,A.d (.one (.lit (.int .i64 i))))]) (fun i=>[]) (fun i=>i<=l.length∧Zbl l s=Zbl (l.drop i) s) (fun i=>l.length - i) (0) (⟨Taj _,rfl⟩) (fun i hi=>?_);clear F;obtain ⟨hil,he⟩:=hi;rw [he];by_cases hlt:i < l.length;rotate_left
 ·have q1:¬ ((i:Int) < (l.length:Int)):=om;have ht:Zbl (l.drop i) s=false:=by rw [List.drop_eq_nil_of_le om];rfl
  exact fT (ai @q1 @ht)
 have q1:(i:Int) < (l.length:Int):=om;obtain ⟨x,hx⟩:∃ x,l[i]?=some x:=⟨_,Taa hlt⟩;have hw:=Zau (k:=i) om;have hst:=ZqM (s:=s) hx
 cases hb:(x.toList==s.toList) with
 | true =>
  have ht:Zbl (l.drop i) s=true:=by rw [hst,hb];rfl
  exact fT (aj6 @q1 @hr @hx @ZgA @hb @ht)
 | false =>
  have hq:Zbl (l.drop i) s=Zbl (l.drop (i+1)) s:=by rw [hst,hb,Bool.false_or]
  have F:=aj6 @q1 @hr @hx @ZgA @hb @hw;refine gG ?_;exact ⟨i+1,⟨hlt,hq⟩,gw,gw,om⟩
section
variable {s:Srt}
theorem Zn4 (hok:ZlB s):Con e0 83 [.agg (Zbr s)] [.one (.lit (.bool (ZbV s)))]:=by
 have hno:¬ SortsOk s->ZbV s=false:=ZfO;have cU:=fun h2 h3 h4=>ZyY (s:=s) h2 h3 h4;have hrs:=Zi0 s.names;rw [Zbr] at cU ⊢;refine gI 21267982750773439247570160629959360767 Tryz.func83 ?_;by_cases h1:1<=s.names.length;rotate_left
 ·have hf:=hno fun h=>h1 h.n1;have z1:=lT s.names.length 1;exact fT (ai @z1 @hf)
 have z1:=lF s.names.length 1;by_cases h8:s.names.length<=8;rotate_left
 ·have hf:=hno fun h=>h8 h.n8;have z2:=lT 8 s.names.length;exact fT (aj3 @z1 @z2 @hf)
 have z2:=lF 8 s.names.length;by_cases h16:s.subs.length<=16;rotate_left
 ·have hf:=hno fun h=>h16 h.m16;have z3:=lT 16 s.subs.length;exact fT (aj4 @z1 @z2 @z3 @hf)
 have z3:=lF 16 s.subs.length;have hw1n:IntKind.i64.wrap ((s.names.length:Int) - 1)=(s.names.length:Int) - 1:=IntWalk.i64_in _ om;refine fG (aj3 @z1 @z2 @z3) ?_;have F:=@e0P;refine gL (ι:=Nat) [2,3,28,49] [] (fun i=>[(3,A.d (.one (.lit (.int .i64 i))))]) (fun i=>[]) (fun i=>i<=s.names.length∧∀ j,j < i->Zi2 s.names j) (fun i=>s.names.length - i) (0) (⟨Taj _,fun j h=>absurd h om⟩) (fun i hi=>?_);clear F
 obtain ⟨hil,hall⟩:=hi;by_cases hlt:i < s.names.length
 ·have q1:(i:Int) < (s.names.length:Int):=om;obtain ⟨x,hx⟩:∃ x,s.names[i]?=some x:=⟨_,Taa hlt⟩;have hw:=Zau (k:=i) om;have hbad:¬ (ZaG x=true∧Zbl (s.names.take i) x=false)->ZbV s=false:=fun h=>hno fun hs=>h (hs.names i hlt x hx);have cN:=Ze6 (hok.1 x (Tac hx));have cH:=Zxl (l:=s.names.take i) x (by rw [Taw];omega);rw [List.map_take] at cH;have z4:((i:Int)<=(s.names.length:Int))=True:=eq_true om;refine fB @q1 ?_
  refine fC (aj3 @hrs @hx @ZgA) (cN) ?_
  cases hn:ZaG x with
  | false =>
   have hf:=hbad fun h=>by rw [hn] at h;cases h.1
   refine fR @e0P ?_;exact fT @hf
  | true =>
  refine fC (aj5 @hrs @hx @ZgA @z4 @ZaC) (cH) ?_
  cases hh:Zbl (s.names.take i) x with
  | true =>
   have hf:=hbad fun h=>by rw [hh] at h;cases h.2
   refine fR @e0P ?_;exact fT @hf
  | false =>
  have hq:i+1<=s.names.length∧∀ j,j < i+1->Zi2 s.names j:=⟨hlt,fun j hj=>by
   by_cases e:j=i
   ·subst e;intro y hy;rw [hx] at hy;injection hy with hy
    subst hy;exact ⟨hn,hh⟩
   ·exact hall j om⟩
  refine fR @e0P ?_;have F:=@hw;refine gG ?_;exact ⟨i+1,hq,gw,gw,om⟩
 obtain rfl:i=s.names.length:=by omega
 have q1:¬ ((s.names.length:Int) < (s.names.length:Int)):=om;refine fG @q1 ?_;have F:=@e0P;refine gL (ι:=Nat) [2,4,54,97] [] (fun k=>[(4,A.d (.one (.lit (.int .i64 k))))]) (fun k=>[]) (fun k=>k<=s.subs.length∧∀ (j:Nat) p,j < k->s.subs[j]?=some p->Zfv s.names.length p) (fun k=>s.subs.length - k) (0) (⟨Taj _,fun j p h=>absurd h om⟩) (fun k hk=>?_);clear F;obtain ⟨hkl,hsub⟩:=hk;by_cases hlk:k < s.subs.length
 ·have q2:(k:Int) < (s.subs.length:Int):=om;obtain ⟨p,hp⟩:∃ x,s.subs[k]?=some x:=⟨_,Taa hlk⟩;have hw:=Zau (k:=k) om;have hbad:¬ Zfv s.names.length p->ZbV s=false:=fun h=>hno fun hs=>h (hs.subs p (Tac hp));have hrb:=Zpe s.subs;refine fB @q2 ?_;refine fC (aj4 @hrb @hp @Zci @hw1n) (Zd7 p.1 0 ((s.names.length:Int) - 1)) ?_;by_cases c1:0<=p.1∧p.1<=(s.names.length:Int) - 1;rotate_left
  ·have hf:=hbad fun h=>c1 ⟨h.1,by have:=h.2.1;omega⟩;have y1:decide (0<=p.1∧p.1<=(s.names.length:Int) - 1)=false:=decide_eq_false c1;refine fR @y1 ?_;exact fT @hf
  have y1:decide (0<=p.1∧p.1<=(s.names.length:Int) - 1)=true:=decide_eq_true c1;refine fC (aj5 @hrb @hp @Zci @hw1n @y1) (Zd7 p.2 0 ((s.names.length:Int) - 1)) ?_;by_cases c2:0<=p.2∧p.2<=(s.names.length:Int) - 1;rotate_left
  ·have hf:=hbad fun h=>c2 ⟨h.2.2.1,by have:=h.2.2.2.1;omega⟩;have y2:decide (0<=p.2∧p.2<=(s.names.length:Int) - 1)=false:=decide_eq_false c2;refine fR (ai @y1 @y2) ?_;exact fT @hf
  have y2:decide (0<=p.2∧p.2<=(s.names.length:Int) - 1)=true:=decide_eq_true c2;by_cases c5:p.1=p.2
  ·have hf:=hbad fun h=>h.2.2.2.2 c5;have y5:(p.1=p.2)=True:=eq_true c5;refine fR (aj6 @y1 @y2 @hrb @hp @Zci @y5) ?_;exact fT @hf
  have y5:(p.1=p.2)=False:=eq_false c5;have hq:k+1<=s.subs.length∧∀ (j:Nat) p,j < k+1->s.subs[j]?=some p->Zfv s.names.length p:=⟨hlk,fun j p' hj hp'=>by
   by_cases e:j=k
   ·subst e;rw [hp] at hp';injection hp' with hp'
    subst hp';exact ⟨om,om,om,om,c5⟩
   ·exact hsub j p' om hp'⟩
  refine fR (aj6 @y1 @y2 @hrb @hp @Zci @y5) ?_;have F:=@hw;refine gG ?_;exact ⟨k+1,hq,gw,gw,om⟩
 obtain rfl:k=s.subs.length:=by omega
 have q2:¬ ((s.subs.length:Int) < (s.subs.length:Int)):=om;have hsubs:∀ p∈s.subs,Zfv s.names.length p:=fun p hp=>by obtain ⟨j,hj⟩:=Tbk hp;exact hsub j p (Tad.1 hj).1 hj
 have hSI:=SortsOk.subsIn hsubs;have hU:=ZhX hSI;have hyes:(∀ i k,i < s.names.length->k < i->Zc6 (up s) i k)->ZbV s=true:=fun h=>Ze3 ⟨h1,h8,h16,fun i hi=>hall i hi,hsubs,fun i k hi hk hb=>by
  rcases Nat.lt_trichotomy i k with h2 | h2 | h2
  ·exact h k i hk h2 ⟨fun e=>hb.1 e.symm,hb.2.2,hb.2.1⟩
  ·exact hb.1 h2
  ·exact h i k hi h2 hb⟩
 have hno2:∀ i k,i < s.names.length->k < s.names.length->¬ Zc6 (up s) i k->ZbV s=false:=fun i k h1 h2 h3=>hno fun h=>h3 (h.pairs i k h1 h2);have lU:=ZbO (l:=up s);rw [hU.1] at lU;have rU:=ZbQ (l:=up s);refine fB @q2 ?_;refine fC @e0P (cU h8 h16 hSI) ?_;refine fR @e0P ?_;generalize up s=u at hU hyes hno2 lU rU ⊢;have hpw:∀ i,i < s.names.length->u[i]?=some (u.getD i 0)∧u.getD i 0 < 4611686018427387904:=fun i hi=>by
  obtain ⟨g1,g2⟩:=hU.get hi;exact ⟨g1,Nat.lt_trans g2 (Zgx om)⟩
 refine fG @lU ?_;have F:=@e0P;refine gL (ι:=Nat) [2,6,7,103,108,124] [] (fun i=>[(6,A.d (.one (.lit (.int .i64 i))))]) (fun i=>[]) (fun i=>i<=s.names.length∧∀ i' k,i' < i->k < i'->Zc6 u i' k) (fun i=>s.names.length - i) (0) (⟨Taj _,fun i' k h=>absurd h om⟩) (fun i hi=>?_);clear F;obtain ⟨hil,hpi⟩:=hi;by_cases hlt:i < s.names.length;rotate_left
 ·have q3:¬ ((i:Int) < (s.names.length:Int)):=om;have ht:=hyes fun i' k h1 h2=>hpi i' k om h2;exact fT (aj3 @q3 @lU @ht)
 have q3:(i:Int) < (s.names.length:Int):=om;have hwi:=Zau (k:=i) om;obtain ⟨gi,bi⟩:=hpw i hlt;refine fG (ai @q3 @lU) ?_;have F:=@e0P;refine gL (ι:=Nat) [2,7,108,124] [] (fun k=>[(7,A.d (.one (.lit (.int .i64 k))))]) (fun k=>[]) (fun k=>k<=i∧∀ k',k' < k->Zc6 u i k') (fun k=>i - k) (0) (⟨Taj _,fun k h=>absurd h om⟩) (fun k hk=>?_);clear F;obtain ⟨hkl,hpk⟩:=hk;have hwk:=Zau (k:=k) om;by_cases hlk:k < i
 rotate_left
 ·have q4:=lF k i;have hq:i+1<=s.names.length∧∀ i' k,i' < i+1->k < i'->Zc6 u i' k:=⟨hlt,fun i' k' h h2=>by
   by_cases e:i'=i
   ·subst e;exact hpk k' om
   ·exact hpi i' k' om h2⟩
  have F:=ai @q4 @hwi;refine gG ?_;exact ⟨i+1,hq,gw,gw,om⟩
 have q4:=lT k i;obtain ⟨gk,bk⟩:=hpw k om;have nx:Zc6 u i k->k+1<=i∧∀ k',k' < k+1->Zc6 u i k':=fun h=>⟨hlk,fun k' h2=>by
  by_cases e:k'=k
  ·subst e;exact h
  ·exact hpk k' om⟩
 have r1:=Zcb gi;have r2:=Zcb gk;refine fB @q4 ?_;refine fC (ai @rU @r1) (Znp (a:=u.getD i 0) (k:=k) bi om) ?_
 cases b1:tbit (u.getD i 0) k with
 | false =>
  have hq:=nx fun h=>by have:=h.2.1;rw [show (u.getD i 0).testBit k=false from b1] at this;cases this
  refine fR @e0P ?_;have F:=@hwk;refine gG ?_;exact ⟨k+1,hq,gw,gw,om⟩
 | true =>
 refine fC (ai @rU @r2) (Znp (a:=u.getD k 0) (k:=i) bk om) ?_
 cases b2:tbit (u.getD k 0) i with
 | false =>
  have hq:=nx fun h=>by have:=h.2.2;rw [show (u.getD k 0).testBit i=false from b2] at this;cases this
  refine fR @e0P ?_;have F:=@hwk;refine gG ?_;exact ⟨k+1,hq,gw,gw,om⟩
 | true =>
  have hf:=hno2 i k hlt om fun h=>h ⟨om,b1,b2⟩;refine fR @e0P ?_;exact fT @hf
end
def Zd8 (s:Srt):List C:=[.sl (nR (up s)),.sl (nR (down s)),.sl (nR (kinds s))]
theorem Zh3:∀ s,Zd8 s=[.sl (nR (up s)),.sl (nR (down s)),.sl (nR (kinds s))]:=fun _=>rfl
section
variable {s:Srt}
theorem kdg (hs:SortsOk s) {k:Int} (h:0<=k∧k < s.names.length):(nR (kinds s))[k.toNat]?=some [.lit (.int .i64 (kd s k:Nat))]:=by
 have hk:=ZhZ (SortsOk.subsIn hs.subs);have hl:k.toNat < (kinds s).length:=by rw [hk.1];omega
 rw [Zcb (Taa hl),kd,List.getD_eq_getElem?_getD,Taa hl];rfl
theorem ZBY (hs:SortsOk s):(nR (kinds s)).length=s.names.length:=by rw [ZbO,(ZhZ (SortsOk.subsIn hs.subs)).1]
theorem Zy1 (hs:SortsOk s) (k:Int):Con e0 132 [.agg (Zd8 s),.one (.lit (.int .i64 k))] [.one (.lit (.bool (decide (0<=k∧k < s.names.length))))]:=by
 have hl:(nR (up s)).length=s.names.length:=by rw [ZbO,(ZhX (SortsOk.subsIn hs.subs)).1]
 rw [Zd8];refine gI 23 Tryz.func132 ?_;by_cases h0:0<=k
 ·by_cases h1:k < s.names.length
  ·exact fT (aj3 @h0 @hl @h1)
  ·exact fT (aj3 @h0 @hl @h1)
 ·exact fT @h0
theorem Zxm {l:List Int} {p:Int->Prop} {j:Nat} {c:Int} (hc:l[j]?=some c) (h:∀ (i:Nat) (c:Int),i < j->l[i]?=some c->p c) (hp:p c):∀ (i:Nat) (c:Int),i < j+1->l[i]?=some c->p c:=fun i c' hi hc'=>by
 by_cases hij:i=j
 ·subst hij;rw [hc] at hc';injection hc' with hc';subst hc';exact hp
 ·exact h i c' om hc'
theorem ZlJ {f d:Dcl} {i:Nat} {a:Int} (ha:d.args[i]?=some a) (hall:∀ (i':Nat) a,i' < i->d.args[i']?=some a->(0<=a∧a < s.names.length)∧∀ b,f.args[i']?=some b->kd s a=kd s b) (h1:0<=a∧a < s.names.length) (h2:∀ b,f.args[i]?=some b->kd s a=kd s b) :
  ∀ (i':Nat) a,i' < i+1->d.args[i']?=some a->(0<=a∧a < s.names.length)∧∀ b,f.args[i']?=some b->kd s a=kd s b:=fun i' a' h ha'=>by
 by_cases e:i'=i
 ·subst e;rw [ha] at ha';injection ha' with ha'
  subst ha';exact ⟨h1,h2⟩
 ·exact hall i' a' om ha'
theorem Znr {f d:Dcl} (h1:d.args.length=f.args.length) (h2:0<=d.res∧d.res < s.names.length) (h3:kd s d.res=kd s f.res) (hall:∀ (i':Nat) a,i' < d.args.length->d.args[i']?=some a->(0<=a∧a < s.names.length)∧∀ b,f.args[i']?=some b->kd s a=kd s b):DeclOk s f d :=
 ⟨h1,h2,fun k hk=>by obtain ⟨i,hi⟩:=Tbk hk;exact (hall i k (Tad.1 hi).1 hi).1,h3,fun i a b ha hb=>(hall i a (Tad.1 ha).1 ha).2 b hb⟩
theorem ZlK {l:List Dcl} {P:Dcl->Prop} {j:Nat} {d:Dcl} (hd:l[j]?=some d) (hall:∀ (j':Nat) d,j' < j->l[j']?=some d->P d) (h:P d):∀ (j':Nat) d,j' < j+1->l[j']?=some d->P d:=fun j' d' hj hd'=>by
 by_cases e:j'=j
 ·subst e;rw [hd] at hd';injection hd' with hd'
  subst hd';exact h
 ·exact hall j' d' om hd'
theorem Zn5 (hs:SortsOk s) (o:Opr):Con e0 96 [.agg (Zd8 s),.agg (ZbZ o)] [.one (.lit (.bool (Zcn s o)))]:=by
 have hno:¬ DeclsOk s o->Zcn s o=false:=ZiA;have cH:=Zy1 hs;have rK:=ZbQ (l:=kinds s);rw [Zd8] at cH ⊢;rw [ZbZ];refine gI 83076759175850041743779962279694015 Tryz.func96 ?_;by_cases h1:1<=o.decls.length;rotate_left
 ·have hf:=hno fun h=>h1 h.len1;have z1:=lT o.decls.length 1;exact fT (ai @z1 @hf)
 have z1:=lF o.decls.length 1;by_cases h4:o.decls.length<=4;rotate_left
 ·have hf:=hno fun h=>h4 h.len4;have z2:=lT 4 o.decls.length;exact fT (aj3 @z1 @z2 @hf)
 have z2:=lF 4 o.decls.length;obtain ⟨f,hf0⟩:∃ f,o.decls[0]?=some f:=⟨_,Taa om⟩;have hfm:=Tac hf0;by_cases h3:f.args.length<=3;rotate_left
 ·have hf:=hno fun h=>h3 (h.ar f hf0);have z3:=lT 3 f.args.length;exact fT (aj6 @z1 @z2 @hf0 @ZaV @z3 @hf)
 have z3:=lF 3 f.args.length;refine fB (aj5 @z1 @z2 @hf0 @ZaV @z3) ?_;refine fC @e0P (cH f.res) ?_;by_cases hr:0<=f.res∧f.res < (s.names.length:Int);rotate_left
 ·have hf:=hno fun h=>hr (h.all f hf0 f hfm).res;have y1:decide (0<=f.res∧f.res < (s.names.length:Int))=false:=decide_eq_false hr;refine fR @y1 ?_;exact fT @hf
 have y1:decide (0<=f.res∧f.res < (s.names.length:Int))=true:=decide_eq_true hr;have gr:=kdg hs hr;have ir:=hr.1;refine fR @y1 ?_;refine fG @e0P ?_;have F:=@e0P;refine gL (ι:=Nat) [4,7,43,44,50] [] (fun i=>[(43,A.d (.one (.lit (.int .i64 i))))]) (fun i=>[]) (fun i=>i<=f.args.length∧∀ (i':Nat) k,i' < i->f.args[i']?=some k->0<=k∧k < s.names.length) (fun i=>f.args.length - i) (0) (⟨Taj _,fun i' k h=>absurd h om⟩) (fun i hi=>?_);clear F
 obtain ⟨hil,hfa⟩:=hi;by_cases hlt:i < f.args.length
 ·have q1:(i:Int) < (f.args.length:Int):=om;obtain ⟨k,hk⟩:∃ k,f.args[i]?=some k:=⟨_,Taa hlt⟩;have hw:=Zau (k:=i) om;refine fB (aj3 @q1 @hk @Zbf) ?_;refine fC @e0P (cH k) ?_;by_cases hkr:0<=k∧k < (s.names.length:Int);rotate_left
  ·have hf:=hno fun h=>hkr ((h.all f hf0 f hfm).args k (Tac hk));have y2:decide (0<=k∧k < (s.names.length:Int))=false:=decide_eq_false hkr;refine fR @y2 ?_;exact fT @hf
  have y2:decide (0<=k∧k < (s.names.length:Int))=true:=decide_eq_true hkr;have hq:i+1<=f.args.length∧_:=⟨hlt,Zxm hk hfa hkr⟩;refine fR @y2 ?_;have F:=@hw;refine gG ?_;exact ⟨i+1,hq,gw,gw,om⟩
 obtain rfl:i=f.args.length:=by omega
 have q1:¬ ((f.args.length:Int) < (f.args.length:Int)):=om;refine fG @q1 ?_;have F:=@e0P;refine gL (ι:=Nat) [4,9,10,11,55,56,87,89,90,91,92,116] [] (fun j=>[(55,A.d (.one (.lit (.int .i64 j))))]) (fun j=>[]) (fun j=>j<=o.decls.length∧∀ (j':Nat) d,j' < j->o.decls[j']?=some d->DeclOk s f d) (fun j=>o.decls.length - j) (0) (⟨Taj _,fun j' d h=>absurd h om⟩) (fun j hj=>?_);clear F;obtain ⟨hjl,hdo⟩:=hj;by_cases hlj:j < o.decls.length
 rotate_left
 ·have q2:¬ ((j:Int) < (o.decls.length:Int)):=om;have ht:=Ze4 (s:=s) (o:=o) ⟨h1,h4,fun f' h=>by rw [hf0] at h;injection h with h;subst h;exact h3,fun f' h d hd=>by
   rw [hf0] at h;injection h with h;subst h
   obtain ⟨j',hj'⟩:=Tbk hd;exact hdo j' d (by have:=(Tad.1 hj').1;omega) hj'⟩
  exact fT (ai @q2 @ht)
 have q2:(j:Int) < (o.decls.length:Int):=om;obtain ⟨d,hd⟩:∃ d,o.decls[j]?=some d:=⟨_,Taa hlj⟩;have hdm:=Tac hd;have hwj:=Zau (k:=j) om;have hbad:¬ DeclOk s f d->Zcn s o=false:=fun h=>hno fun hD=>h (hD.all f hf0 d hdm);by_cases hdl:d.args.length=f.args.length;rotate_left
 ·have hf:=hbad fun h=>hdl h.len;have y3:((d.args.length:Int)=(f.args.length:Int))=False:=eq_false om;exact fT (aj5 @q2 @hd @ZaV @y3 @hf)
 have y3:((d.args.length:Int)=(f.args.length:Int))=True:=eq_true om;refine fB (aj3 @q2 @hd @ZaV) ?_;refine fC @y3 (cH d.res) ?_;by_cases hdr:0<=d.res∧d.res < (s.names.length:Int);rotate_left
 ·have hf:=hbad fun h=>hdr h.res;have y4:decide (0<=d.res∧d.res < (s.names.length:Int))=false:=decide_eq_false hdr;refine fR (ai @y3 @y4) ?_;exact fT @hf
 have y4:decide (0<=d.res∧d.res < (s.names.length:Int))=true:=decide_eq_true hdr;have gd:=kdg hs hdr;have id':=hdr.1;have jd:=hdr.2;by_cases hkr:kd s d.res=kd s f.res;rotate_left
 ·have hf:=hbad fun h=>hkr h.kres;have y5:((kd s d.res:Int)=(kd s f.res:Int))=False:=eq_false om;refine fR (aj9 @y3 @y4 @gr @gd @ir @id' @jd @rK @y5) ?_;exact fT @hf
 have y5:((kd s d.res:Int)=(kd s f.res:Int))=True:=eq_true om;refine fR (aj9 @y3 @y4 @gr @gd @ir @id' @jd @rK @y5) ?_;refine fG @e0P ?_;have F:=@e0P;refine gL (ι:=Nat) [4,10,11,91,92,116] [] (fun i=>[(91,A.d (.one (.lit (.int .i64 i))))]) (fun i=>[]) (fun i=>i<=d.args.length∧∀ (i':Nat) a,i' < i->d.args[i']?=some a->(0<=a∧a < s.names.length)∧∀ b,f.args[i']?=some b->kd s a=kd s b) (fun i=>d.args.length - i) (0) (⟨Taj _,fun i' a h=>absurd h om⟩) (fun i hi=>?_);clear F
 obtain ⟨hil2,hka⟩:=hi;by_cases hlt:i < d.args.length;rotate_left
 ·obtain rfl:i=d.args.length:=by omega
  have q3:¬ ((d.args.length:Int) < (d.args.length:Int)):=om;have hq:j+1<=o.decls.length∧_:=⟨hlj,ZlK hd hdo (Znr hdl hdr hkr hka)⟩;have F:=ai @q3 @hwj;refine gG ?_;exact ⟨j+1,hq,gw,gw,om⟩
 have q3:(i:Int) < (d.args.length:Int):=om;obtain ⟨a,ha⟩:∃ k,d.args[i]?=some k:=⟨_,Taa hlt⟩;obtain ⟨b,hb⟩:∃ k,f.args[i]?=some k:=⟨_,Taa om⟩;have hw:=Zau (k:=i) om;have hbr:=hfa i b om hb;have gb:=kdg hs hbr;have ib:=hbr.1;refine fB (aj3 @q3 @ha @Zbf) ?_;refine fC @e0P (cH a) ?_;by_cases har:0<=a∧a < (s.names.length:Int);rotate_left
 ·have hf:=hbad fun h=>har (h.args a (Tac ha));have y6:decide (0<=a∧a < (s.names.length:Int))=false:=decide_eq_false har;refine fR @y6 ?_;exact fT @hf
 have y6:decide (0<=a∧a < (s.names.length:Int))=true:=decide_eq_true har;have ga:=kdg hs har;have ia:=har.1;have ja:=har.2;by_cases hkk:kd s a=kd s b;rotate_left
 ·have hf:=hbad fun h=>hkk (h.kargs i a b ha hb);have y7:((kd s a:Int)=(kd s b:Int))=False:=eq_false om;refine fR (aj10 @y6 @ga @gb @ia @ja @ib @hb @Zbf @rK @y7) ?_;exact fT @hf
 have y7:((kd s a:Int)=(kd s b:Int))=True:=eq_true om;have hq:i+1<=d.args.length∧_:=⟨hlt,ZlJ (f:=f) ha hka har fun b' hb'=>by rw [hb] at hb';injection hb' with hb';subst hb';exact hkk⟩;refine fR (aj10 @y6 @ga @gb @ia @ja @ib @hb @Zbf @rK @y7) ?_;have F:=@hw;refine gG ?_;exact ⟨i+1,hq,gw,gw,om⟩
theorem ZqQ {g:Sgn} (hs:SortsOk g.sorts) (o:Opr):Con e0 84 [.agg (ZaN g),.agg (ZbZ o)] [.one (.lit (.bool (Zcn g.sorts o)))]:=by
 have hno:¬ DeclsOk g.sorts o->Zcn g.sorts o=false:=ZiA;have cK:=Zeq hs;rw [show (Zb0 (kinds g.sorts)).map Zb1=nR (kinds g.sorts) from rfl] at cK;have rK:=ZbQ (l:=kinds g.sorts);have lK:=ZBY hs;have n1:=hs.n1;have n8:=hs.n8;have hw1n:IntKind.i64.wrap ((g.sorts.names.length:Int) - 1)=(g.sorts.names.length:Int) - 1:=IntWalk.i64_in _ om;rw [Zbr] at cK;rw [ZaN,ZbZ];refine gI 1298708039934125393111688421573631 Tryz.func84 ?_
 by_cases h1:1<=o.decls.length;rotate_left
 ·have hf:=hno fun h=>h1 h.len1;have z1:=lT o.decls.length 1;exact fT (ai @z1 @hf)
 have z1:=lF o.decls.length 1;by_cases h4:o.decls.length<=4;rotate_left
 ·have hf:=hno fun h=>h4 h.len4;have z2:=lT 4 o.decls.length;exact fT (aj3 @z1 @z2 @hf)
 have z2:=lF 4 o.decls.length;obtain ⟨f,hf0⟩:∃ f,o.decls[0]?=some f:=⟨_,Taa om⟩;have hfm:=Tac hf0;by_cases h3:f.args.length<=3;rotate_left
 ·have hf:=hno fun h=>h3 (h.ar f hf0);have z3:=lT 3 f.args.length;exact fT (aj6 @z1 @z2 @hf0 @ZaV @z3 @hf)
 have z3:=lF 3 f.args.length;refine fB (aj5 @z1 @z2 @hf0 @ZaV @z3) ?_;refine fC @e0P (cK) ?_;refine fR @e0P ?_;refine fG (ai @hf0 @ZaV) ?_;have F:=@e0P;refine gL (ι:=Nat) [4,7,8,9,40,63,68,99,110] [] (fun j=>[(7,A.d (.one (.lit (.int .i64 j))))]) (fun j=>[]) (fun j=>j<=o.decls.length∧∀ (j':Nat) d,j' < j->o.decls[j']?=some d->DeclOk g.sorts f d) (fun j=>o.decls.length - j) (0) (⟨Taj _,fun j' d h=>absurd h om⟩) (fun j hj=>?_);clear F
 obtain ⟨hjl,hdo⟩:=hj;by_cases hlj:j < o.decls.length;rotate_left
 ·have q2:¬ ((j:Int) < (o.decls.length:Int)):=om;have ht:=Ze4 (s:=g.sorts) (o:=o) ⟨h1,h4,fun f' h=>by rw [hf0] at h;injection h with h;subst h;exact h3,fun f' h d hd=>by
   rw [hf0] at h;injection h with h;subst h
   obtain ⟨j',hj'⟩:=Tbk hd;exact hdo j' d (by have:=(Tad.1 hj').1;omega) hj'⟩
  exact fT (ai @q2 @ht)
 have q2:(j:Int) < (o.decls.length:Int):=om;obtain ⟨d,hd⟩:∃ d,o.decls[j]?=some d:=⟨_,Taa hlj⟩;have hdm:=Tac hd;have hwj:=Zau (k:=j) om;have hbad:¬ DeclOk g.sorts f d->Zcn g.sorts o=false:=fun h=>hno fun hD=>h (hD.all f hf0 d hdm);have hj0:d=f∨DeclOk g.sorts f f:=by
  rcases Nat.eq_zero_or_pos j with h | h
  ·subst h;rw [hf0] at hd;injection hd with hd;exact .inl hd.symm
  ·exact .inr (hdo 0 f h hf0)
 by_cases hdl:d.args.length=f.args.length;rotate_left
 ·have hf:=hbad fun h=>hdl h.len;have y3:((d.args.length:Int)=(f.args.length:Int))=False:=eq_false om;exact fT (aj5 @q2 @hd @ZaV @y3 @hf)
 have y3:((d.args.length:Int)=(f.args.length:Int))=True:=eq_true om;refine fB (aj3 @q2 @hd @ZaV) ?_;refine fC (aj3 @y3 @lK @hw1n) (Zd7 d.res 0 ((g.sorts.names.length:Int) - 1)) ?_;by_cases hdr:0<=d.res∧d.res < (g.sorts.names.length:Int);rotate_left
 ·have hf:=hbad fun h=>hdr h.res;have y4:decide (0<=d.res∧d.res<=(g.sorts.names.length:Int) - 1)=false:=decide_eq_false om;refine fR (ai @y3 @y4) ?_;exact fT @hf
 have y4:decide (0<=d.res∧d.res<=(g.sorts.names.length:Int) - 1)=true:=decide_eq_true om;have gd:=kdg hs hdr;have id':=hdr.1;have hfr:0<=f.res∧f.res < (g.sorts.names.length:Int):=by
  rcases hj0 with h | h
  ·rw [<- h];exact hdr
  ·exact h.res
 have gr:=kdg hs hfr;have ir:=hfr.1;refine fR (ai @y3 @y4) ?_;refine fG @e0P ?_;have F:=@e0P;refine gL (ι:=Nat) [4,9,68,99] [] (fun i=>[(9,A.d (.one (.lit (.int .i64 i))))]) (fun i=>[]) (fun i=>i<=d.args.length∧∀ (i':Nat) a,i' < i->d.args[i']?=some a->(0<=a∧a < g.sorts.names.length)∧∀ b,f.args[i']?=some b->kd g.sorts a=kd g.sorts b) (fun i=>d.args.length - i) (0) (⟨Taj _,fun i' a h=>absurd h om⟩) (fun i hi=>?_);clear F
 obtain ⟨hil2,hka⟩:=hi;by_cases hlt:i < d.args.length;rotate_left
 ·obtain rfl:i=d.args.length:=by omega
  have q3:¬ ((d.args.length:Int) < (d.args.length:Int)):=om;by_cases hkr:kd g.sorts d.res=kd g.sorts f.res;rotate_left
  ·have hf:=hbad fun h=>hkr h.kres;have y5:((kd g.sorts d.res:Int)=(kd g.sorts f.res:Int))=False:=eq_false om;exact fT (aj8 @q3 @gr @gd @ir @id' @rK @y5 @hf)
  have y5:((kd g.sorts d.res:Int)=(kd g.sorts f.res:Int))=True:=eq_true om;have hq:j+1<=o.decls.length∧_:=⟨hlj,ZlK hd hdo (Znr hdl hdr hkr hka)⟩;have F:=aj8 @q3 @gr @gd @ir @id' @rK @y5 @hwj;refine gG ?_;exact ⟨j+1,hq,gw,gw,om⟩
 have q3:(i:Int) < (d.args.length:Int):=om;obtain ⟨a,ha⟩:∃ k,d.args[i]?=some k:=⟨_,Taa hlt⟩;obtain ⟨b,hb⟩:∃ k,f.args[i]?=some k:=⟨_,Taa om⟩;have hw:=Zau (k:=i) om;refine fB @q3 ?_;refine fC (aj4 @ha @Zbf @lK @hw1n) (Zd7 a 0 ((g.sorts.names.length:Int) - 1)) ?_;by_cases har:0<=a∧a < (g.sorts.names.length:Int);rotate_left
 ·have hf:=hbad fun h=>har (h.args a (Tac ha));have y6:decide (0<=a∧a<=(g.sorts.names.length:Int) - 1)=false:=decide_eq_false om;refine fR @y6 ?_;exact fT @hf
 have y6:decide (0<=a∧a<=(g.sorts.names.length:Int) - 1)=true:=decide_eq_true om;have y8:(a<=(g.sorts.names.length:Int) - 1)=True:=eq_true om;have ga:=kdg hs har;have ia:=har.1;have hbr:0<=b∧b < (g.sorts.names.length:Int):=by
  rcases hj0 with h | h
  ·rw [<- h,ha] at hb;injection hb with hb;rw [<- hb];exact har
  ·exact h.args b (Tac hb)
 have gb:=kdg hs hbr;have ib:=hbr.1;by_cases hkk:kd g.sorts a=kd g.sorts b;rotate_left
 ·have hf:=hbad fun h=>hkk (h.kargs i a b ha hb);have y7:((kd g.sorts a:Int)=(kd g.sorts b:Int))=False:=eq_false om;refine fR (aj11 @y6 @y8 @ga @gb @ia @ib @ha @hb @Zbf @rK @y7) ?_;exact fT @hf
 have y7:((kd g.sorts a:Int)=(kd g.sorts b:Int))=True:=eq_true om;have hq:i+1<=d.args.length∧_:=⟨hlt,ZlJ (f:=f) ha hka har fun b' hb'=>by rw [hb] at hb';injection hb' with hb';subst hb';exact hkk⟩;refine fR (aj11 @y6 @y8 @ga @gb @ia @ib @ha @hb @Zbf @rK @y7) ?_;have F:=@hw;refine gG ?_;exact ⟨i+1,hq,gw,gw,om⟩
end
theorem Zfx {o:Opr} {d:Dcl} (hd:o.decls[0]?=some d):Con e0 122 [.agg (ZbZ o)] [.one (.lit (.int .i64 d.args.length))]:=by
 refine gI 7 Tryz.func122 ?_;exact fT (aj3 @Zan @hd @ZaV)
section
variable {g:Sgn} {o:Opr}
theorem ZjQ {d:Dcl} (hd:o.decls[0]?=some d) (h1:0<=o.unit) (h2:o.unit<=g.ops.length) (h3:d.args.length=2) {a b:Int} (ha:d.args[0]?=some a) (hb:d.args[1]?=some b) (hk:kd g.sorts a=kd g.sorts b) (hr:¬ ((o.assoc=true∨o.unit≠0)∧kd g.sorts a≠kd g.sorts d.res))
  (hu:o.unit≠0->∀ (p:Opr) (u:Dcl),g.ops[o.unit.toNat - 1]?=some p->p.decls[0]?=some u->u.args.length=0∧kd g.sorts u.res=kd g.sorts d.res):AxOk g o :=
 ⟨h1,h2,fun _ d' hd'=>by
  rw [hd] at hd';injection hd' with hd';subst hd'
  refine ⟨h3,fun a' b' ha' hb'=>?_⟩;rw [ha] at ha';injection ha' with ha';subst ha'
  rw [hb] at hb';injection hb' with hb';subst hb'
  exact ⟨hk,fun h=>Classical.byContradiction fun hn=>hr ⟨h,hn⟩,hu⟩⟩
theorem Zpr (h:o.assoc=false∧o.comm=false∧o.unit=0):AxOk g o:=⟨by rw [h.2.2];exact Int.le_refl _,by rw [h.2.2];omega,fun h2=>by
 rcases h2 with h2 | h2 | h2
 ·rw [h.1] at h2;cases h2
 ·rw [h.2.1] at h2;cases h2
 ·exact absurd h.2.2 h2⟩
theorem ZsQ (h:¬ (o.assoc=false∧o.comm=false∧o.unit=0)):o.assoc=true∨o.comm=true∨o.unit≠0:=by
 by_cases h1:o.assoc=true
 ·exact .inl h1
 by_cases h2:o.comm=true
 ·exact .inr (.inl h2)
 exact .inr (.inr fun h3=>h ⟨by simpa using h1,by simpa using h2,h3⟩)
theorem ZmJ (hs:SortsOk g.sorts) (hall:∀ p∈g.ops,DeclsOk g.sorts p) (ho:o∈g.ops) (hol:g.ops.length<=14):Con e0 97 [.agg (Zd8 g.sorts),.agg (ZaN g),.agg (ZbZ o)] [.one (.lit (.bool (axOk g o)))]:=by
 have hno:¬ AxOk g o->axOk g o=false:=ZlG;have rK:=ZbQ (l:=kinds g.sorts);obtain ⟨d,hd,hdd⟩:=(hall o ho).first;have gr:=kdg hs hdd.res;have ir:=hdd.res.1;rw [Zd8,ZaN,ZbZ];refine gI 87042659588714057177760255 Tryz.func97 ?_;by_cases h1:0<=o.unit;rotate_left
 ·have hf:=hno fun h=>h1 h.lo;have z1:(o.unit < 0)=True:=eq_true om;exact fT (ai @z1 @hf)
 have z1:(o.unit < 0)=False:=eq_false om;by_cases h2:o.unit<=g.ops.length;rotate_left
 ·have hf:=hno fun h=>h2 h.hi;have z2:=lT g.ops.length o.unit;exact fT (aj3 @z1 @z2 @hf)
 have z2:=lF g.ops.length o.unit;by_cases hp:o.assoc=false∧o.comm=false∧o.unit=0
 ·have ht:=ZdG (Zpr (g:=g) hp);obtain ⟨p1,p2,p3⟩:=hp;have p3:(o.unit=0)=True:=eq_true p3;exact fT (aj6 @z1 @z2 @p1 @p2 @p3 @ht)
 have hnd:=ZsQ hp;refine fN 3 (ai @z1 @z2) ?_;refine gM (ι:=Unit) [32] [] (fun v=>[(32,A.d (.one (.lit (.bool false))))]) (fun v=>[]) (fun v=>True) ?_ (fun v hv=>Exists.intro _ (ai (Wk.refl _) ?_))
 ·cases q1:o.assoc with
  | true=>(have F:=@q1;refine gG ?_;exact ⟨(),trivial,gw,gw⟩)
  | false =>
  cases q2:o.comm with
  | true=>(have F:=ai @q1 @q2;refine gG ?_;exact ⟨(),trivial,gw,gw⟩)
  | false =>
   have q3:(o.unit=0)=False:=eq_false fun h=>hp ⟨q1,q2,h⟩;have F:=aj3 @q1 @q2 @q3;refine gG ?_;exact ⟨(),trivial,gw,gw⟩
 clear hv;by_cases h3:d.args.length=2;rotate_left
 ·have hf:=hno fun h=>h3 (h.two hnd d hd).1;have z3:((d.args.length:Int)=2)=False:=eq_false om;exact fT (aj4 @hd @ZaV @z3 @hf)
 have z3:((d.args.length:Int)=2)=True:=eq_true om;obtain ⟨a,ha⟩:∃ k,d.args[0]?=some k:=⟨_,Taa om⟩;obtain ⟨b,hb⟩:∃ k,d.args[1]?=some k:=⟨_,Taa om⟩;have har:=hdd.args a (Tac ha);have hbr:=hdd.args b (Tac hb);have ga:=kdg hs har;have gb:=kdg hs hbr;have ia:=har.1;have ib:=hbr.1;by_cases hk:kd g.sorts a=kd g.sorts b;rotate_left
 ·have hf:=hno fun h=>hk ((h.two hnd d hd).2 a b ha hb).1;have z4:((kd g.sorts a:Int)=(kd g.sorts b:Int))=False:=eq_false om;exact fT (aj13 @hd @ZaV @z3 @ha @hb @Zbf @ga @gb @ia @ib @rK @z4 @hf)
 have z4:((kd g.sorts a:Int)=(kd g.sorts b:Int))=True:=eq_true om;refine fN 8 (aj12 @hd @ZaV @z3 @ha @hb @Zbf @ga @gb @ia @ib @rK @z4) ?_;refine gM (ι:=Bool) [83] [] (fun v=>[(83,A.d (.one (.lit (.bool v))))]) (fun v=>[]) (fun v=>(v=true->((o.assoc=true∨o.unit≠0)∧kd g.sorts a≠kd g.sorts d.res))∧(v=false->¬ ((o.assoc=true∨o.unit≠0)∧kd g.sorts a≠kd g.sorts d.res))) ?_ (fun v hv=>Exists.intro _ (ai (Wk.refl _) ?_))
 ·cases q1:o.assoc with
  | true =>
   by_cases hr:kd g.sorts a=kd g.sorts d.res
   ·have z5:((kd g.sorts a:Int)=(kd g.sorts d.res:Int))=True:=eq_true om;have F:=aj9 @q1 @ha @Zbf @ga @gr @ia @ir @rK @z5;refine gG ?_;exact ⟨false,⟨fun h=>(by cases h),fun _ h=>h.2 hr⟩,gw,gw⟩
   ·have z5:((kd g.sorts a:Int)=(kd g.sorts d.res:Int))=False:=eq_false om;have F:=aj9 @q1 @ha @Zbf @ga @gr @ia @ir @rK @z5;refine gG ?_;exact ⟨true,⟨fun _=>⟨.inl rfl,hr⟩,fun h=>(by cases h)⟩,gw,gw⟩
  | false =>
  by_cases q3:o.unit=0
  ·have z6:(o.unit=0)=True:=eq_true q3;have F:=ai @q1 @z6;refine gG ?_;exact ⟨false,⟨fun h=>(by cases h),fun _ h=>h.1.elim (fun h=>(by cases h)) fun h=>h q3⟩,gw,gw⟩
  ·have z6:(o.unit=0)=False:=eq_false q3;by_cases hr:kd g.sorts a=kd g.sorts d.res
   ·have z5:((kd g.sorts a:Int)=(kd g.sorts d.res:Int))=True:=eq_true om;have F:=aj10 @q1 @z6 @ha @Zbf @ga @gr @ia @ir @rK @z5;refine gG ?_;exact ⟨false,⟨fun h=>(by cases h),fun _ h=>h.2 hr⟩,gw,gw⟩
   ·have z5:((kd g.sorts a:Int)=(kd g.sorts d.res:Int))=False:=eq_false om;have F:=aj10 @q1 @z6 @ha @Zbf @ga @gr @ia @ir @rK @z5;refine gG ?_;exact ⟨true,⟨fun _=>⟨.inr q3,hr⟩,fun h=>(by cases h)⟩,gw,gw⟩
 obtain ⟨hv1,hv2⟩:=hv
 cases v with
 | true =>
  have hf:=hno fun h=>(hv1 rfl).2 (((h.two hnd d hd).2 a b ha hb).2.1 (hv1 rfl).1);exact fT @hf
 | false =>
 have hr:=hv2 rfl;by_cases q3:o.unit=0
 ·have z6:(o.unit=0)=True:=eq_true q3;have ht:=ZdG (ZjQ hd h1 h2 h3 ha hb hk hr fun h=>absurd q3 h);exact fT (ai @z6 @ht)
 have z6:(o.unit=0)=False:=eq_false q3;have hsub:IntKind.i64.wrap (o.unit - 1)=((o.unit.toNat - 1:Nat):Int):=Za4 om om om;obtain ⟨p,hp⟩:∃ p,g.ops[o.unit.toNat - 1]?=some p:=⟨_,Taa om⟩;obtain ⟨u,hu,huu⟩:=(hall p (Tac hp)).first;have gu':=kdg hs huu.res;have iu:=huu.res.1;have key:(u.args.length=0∧kd g.sorts u.res=kd g.sorts d.res)->axOk g o=true:=fun h=>ZdG (ZjQ hd h1 h2 h3 ha hb hk hr fun _ p' u' hp' hu'=>by
  rw [hp] at hp';injection hp' with hp';subst hp'
  rw [hu] at hu';injection hu' with hu';subst hu'
  exact h)
 have keyn:¬ (u.args.length=0∧kd g.sorts u.res=kd g.sorts d.res)->axOk g o=false:=fun h=>hno fun hA=>h (((hA.two hnd d hd).2 a b ha hb).2.2 q3 p u hp hu);by_cases hl0:u.args.length=0;rotate_left
 ·have hf:=keyn fun h=>hl0 h.1;have z7:((u.args.length:Int)=0)=False:=eq_false om;exact fT (aj9 @z6 @hsub @hp @Zan @hu @ZaV @ZaC @z7 @hf)
 have z7:((u.args.length:Int)=0)=True:=eq_true om;by_cases hku:kd g.sorts u.res=kd g.sorts d.res
 ·have ht:=key ⟨hl0,hku⟩;have z8:((kd g.sorts u.res:Int)=(kd g.sorts d.res:Int))=True:=eq_true om;exact fT (aj15 @z6 @hsub @hp @Zan @hu @ZaV @ZaC @z7 @gu' @gr @iu @ir @rK @z8 @ht)
 ·have hf:=keyn fun h=>hku h.2;have z8:((kd g.sorts u.res:Int)=(kd g.sorts d.res:Int))=False:=eq_false om;exact fT (aj15 @z6 @hsub @hp @Zan @hu @ZaV @ZaC @z7 @gu' @gr @iu @ir @rK @z8 @hf)
theorem Zps (hs:SortsOk g.sorts) (hall:∀ p∈g.ops,DeclsOk g.sorts p) {k:Nat} (hk0:g.ops[k]?=some o) (hol:g.ops.length<=14):Con e0 85 [.agg (ZaN g),.one (.lit (.int .i64 k))] [.one (.lit (.bool (axOk g o)))]:=by
 have hno:¬ AxOk g o->axOk g o=false:=ZlG;have ho:=Tac hk0;have hkl:=(Tad.1 hk0).1;have cK:=Zeq hs;rw [show (Zb0 (kinds g.sorts)).map Zb1=nR (kinds g.sorts) from rfl] at cK;have rK:=ZbQ (l:=kinds g.sorts);obtain ⟨d,hd,hdd⟩:=(hall o ho).first;have cA:=Zfx hd;have gr:=kdg hs hdd.res;have ir:=hdd.res.1;rw [Zbr] at cK;rw [ZbZ] at cA;rw [ZaN];refine gI 174085318024508800717819895 Tryz.func85 ?_;by_cases hp:o.assoc=false∧o.comm=false∧o.unit=0
 ·have ht:=ZdG (Zpr (g:=g) hp);obtain ⟨p1,p2,p3⟩:=hp;have p3:(o.unit=0)=True:=eq_true p3;exact fT (aj6 @hk0 @Zan @p1 @p2 @p3 @ht)
 have hnd:=ZsQ hp;refine fN 2 (ai @hk0 @Zan) ?_;refine gM (ι:=Unit) [29] [] (fun v=>[(29,A.d (.one (.lit (.bool false))))]) (fun v=>[]) (fun v=>True) ?_ (fun v hv=>Exists.intro _ (ai (Wk.refl _) ?_))
 ·cases q1:o.assoc with
  | true=>(have F:=@q1;refine gG ?_;exact ⟨(),trivial,gw,gw⟩)
  | false =>
  cases q2:o.comm with
  | true=>(have F:=ai @q1 @q2;refine gG ?_;exact ⟨(),trivial,gw,gw⟩)
  | false =>
   have q3:(o.unit=0)=False:=eq_false fun h=>hp ⟨q1,q2,h⟩;have F:=aj3 @q1 @q2 @q3;refine gG ?_;exact ⟨(),trivial,gw,gw⟩
 clear hv;refine fB @e0P ?_;refine fC @e0P (cA) ?_;by_cases h3:d.args.length=2;rotate_left
 ·have hf:=hno fun h=>h3 (h.two hnd d hd).1;have z3:((d.args.length:Int)=2)=False:=eq_false om;refine fR @z3 ?_;exact fT @hf
 have z3:((d.args.length:Int)=2)=True:=eq_true om;refine fC @z3 (Zd7 o.unit 0 (g.ops.length:Int)) ?_;by_cases h12:0<=o.unit∧o.unit<=(g.ops.length:Int);rotate_left
 ·have hf:=hno fun h=>h12 ⟨h.lo,h.hi⟩;have z1:decide (0<=o.unit∧o.unit<=(g.ops.length:Int))=false:=decide_eq_false h12;refine fR (ai @z3 @z1) ?_;exact fT @hf
 have z1:decide (0<=o.unit∧o.unit<=(g.ops.length:Int))=true:=decide_eq_true h12;obtain ⟨h1,h2⟩:=h12;obtain ⟨a,ha⟩:∃ k,d.args[0]?=some k:=⟨_,Taa om⟩;obtain ⟨b,hb⟩:∃ k,d.args[1]?=some k:=⟨_,Taa om⟩;have har:=hdd.args a (Tac ha);have hbr:=hdd.args b (Tac hb);have ga:=kdg hs har;have gb:=kdg hs hbr;have ia:=har.1;have ib:=hbr.1;refine fR (ai @z3 @z1) ?_;refine fB @e0P ?_;refine fC @e0P (cK) ?_;refine fR @e0P ?_
 refine fN 8 (ai @hd @ZaV) ?_;refine Zaq 22 (by decide +kernel) ?_;intro ds hds;simp only [List.map] at hds;subst hds;refine (have F:=aj10 ha hb Zbf ga gb gr ia ib ir rK;gP 19 ?_);refine (have F:=ia;gAq ?_);refine (have F:=ia;gAq ?_);refine (have F:=ia;gAq ?_);refine fR @e0P ?_;refine fN 9 @e0P ?_;refine gM (ι:=Bool) [84] [] (fun v=>[(84,A.d (.one (.lit (.bool v))))]) (fun v=>[]) (fun v=>(v=true->kd g.sorts a≠kd g.sorts b∨((o.assoc=true∨o.unit≠0)∧kd g.sorts a≠kd g.sorts d.res))∧(v=false->kd g.sorts a=kd g.sorts b∧¬ ((o.assoc=true∨o.unit≠0)∧kd g.sorts a≠kd g.sorts d.res))) ?_ (fun v hv=>Exists.intro _ (ai (Wk.refl _) ?_))
 ·by_cases hk:kd g.sorts a=kd g.sorts b;rotate_left
  ·have z4:((kd g.sorts a:Int)=(kd g.sorts b:Int))=False:=eq_false om;have F:=@z4;refine gG ?_;exact ⟨true,⟨fun _=>.inl hk,fun h=>(by cases h)⟩,gw,gw⟩
  have z4:((kd g.sorts a:Int)=(kd g.sorts b:Int))=True:=eq_true om
  cases q1:o.assoc with
  | true =>
   by_cases hr:kd g.sorts a=kd g.sorts d.res
   ·have z5:((kd g.sorts a:Int)=(kd g.sorts d.res:Int))=True:=eq_true om;have F:=aj4 @q1 @Zan @z4 @z5;refine gG ?_;exact ⟨false,⟨fun h=>(by cases h),fun _=>⟨hk,fun h=>h.2 hr⟩⟩,gw,gw⟩
   ·have z5:((kd g.sorts a:Int)=(kd g.sorts d.res:Int))=False:=eq_false om;have F:=aj4 @q1 @Zan @z4 @z5;refine gG ?_;exact ⟨true,⟨fun _=>.inr ⟨.inl rfl,hr⟩,fun h=>(by cases h)⟩,gw,gw⟩
  | false =>
  by_cases q3:o.unit=0
  ·have z6:=lF 0 o.unit;have F:=aj4 @q1 @Zan @z4 @z6;refine gG ?_;exact ⟨false,⟨fun h=>(by cases h),fun _=>⟨hk,fun h=>h.1.elim (fun h=>(by cases h)) fun h=>h q3⟩⟩,gw,gw⟩
  ·have z6:=lT 0 o.unit;by_cases hr:kd g.sorts a=kd g.sorts d.res
   ·have z5:((kd g.sorts a:Int)=(kd g.sorts d.res:Int))=True:=eq_true om;have F:=aj5 @q1 @Zan @z4 @z6 @z5;refine gG ?_;exact ⟨false,⟨fun h=>(by cases h),fun _=>⟨hk,fun h=>h.2 hr⟩⟩,gw,gw⟩
   ·have z5:((kd g.sorts a:Int)=(kd g.sorts d.res:Int))=False:=eq_false om;have F:=aj5 @q1 @Zan @z4 @z6 @z5;refine gG ?_;exact ⟨true,⟨fun _=>.inr ⟨.inr q3,hr⟩,fun h=>(by cases h)⟩,gw,gw⟩
 obtain ⟨hv1,hv2⟩:=hv
 cases v with
 | true =>
  have hf:=hno fun h=>(hv1 rfl).elim (fun h'=>h' ((h.two hnd d hd).2 a b ha hb).1) fun h'=>h'.2 (((h.two hnd d hd).2 a b ha hb).2.1 h'.1);exact fT @hf
 | false =>
 obtain ⟨hk,hr⟩:=hv2 rfl;by_cases q3:o.unit=0
 ·have z6:(o.unit=0)=True:=eq_true q3;have ht:=ZdG (ZjQ hd h1 h2 h3 ha hb hk hr fun h=>absurd q3 h);exact fT (aj3 @Zan @z6 @ht)
 have z6:(o.unit=0)=False:=eq_false q3;have hsub:IntKind.i64.wrap (o.unit - 1)=((o.unit.toNat - 1:Nat):Int):=Za4 om om om;obtain ⟨p,hp⟩:∃ p,g.ops[o.unit.toNat - 1]?=some p:=⟨_,Taa om⟩;obtain ⟨u,hu,huu⟩:=(hall p (Tac hp)).first;have cP:=Zfx hu;rw [ZbZ] at cP;have gu':=kdg hs huu.res;have iu:=huu.res.1;have key:(u.args.length=0∧kd g.sorts u.res=kd g.sorts d.res)->axOk g o=true:=fun h=>ZdG (ZjQ hd h1 h2 h3 ha hb hk hr fun _ p' u' hp' hu'=>by
  rw [hp] at hp';injection hp' with hp';subst hp'
  rw [hu] at hu';injection hu' with hu';subst hu'
  exact h)
 have keyn:¬ (u.args.length=0∧kd g.sorts u.res=kd g.sorts d.res)->axOk g o=false:=fun h=>hno fun hA=>h (((hA.two hnd d hd).2 a b ha hb).2.2 q3 p u hp hu);refine fB (aj5 @z6 @hsub @hp @Zan @ZaC) ?_;refine fC @e0P (cP) ?_;by_cases hl0:u.args.length=0;rotate_left
 ·have hf:=keyn fun h=>hl0 h.1;have z7:((u.args.length:Int)=0)=False:=eq_false om;refine fR @z7 ?_;exact fT @hf
 have z7:((u.args.length:Int)=0)=True:=eq_true om;by_cases hku:kd g.sorts u.res=kd g.sorts d.res
 ·have ht:=key ⟨hl0,hku⟩;have z8:((kd g.sorts u.res:Int)=(kd g.sorts d.res:Int))=True:=eq_true om;refine fR (aj7 @z7 @hu @ZaV @gu' @iu @rK @z8) ?_;exact fT @ht
 ·have hf:=keyn fun h=>hku h.2;have z8:((kd g.sorts u.res:Int)=(kd g.sorts d.res:Int))=False:=eq_false om;refine fR (aj7 @z7 @hu @ZaV @gu' @iu @rK @z8) ?_;exact fT @hf
end
theorem Zfy (a b:List Tm):sizeTms (a++b)=sizeTms a+sizeTms b:=by
 induction a with
 | nil=>simp [sizeTms]
 | cons x xs ih=>simp only [Taf,sizeTms,ih];omega
theorem Zbu {ts:List Tm} {t:Tm} (h:t∈ts):sizeTm t<=sizeTms ts:=by
 induction ts with
 | nil=>cases h
 | cons x xs ih =>
  simp only [sizeTms];rcases Tbg.1 h with rfl | h
  ·omega
  ·have:=ih h;omega
theorem Zpt {ts:List Tm} {i:Nat} {t:Tm} (h:ts[i]?=some t):sizeTms (ts.take (i+1))=sizeTms (ts.take i)+sizeTm t:=by
 rw [ZcA h,Zfy];simp [sizeTms]
theorem Zpu (ts:List Tm) (i:Nat):sizeTms (ts.take i)<=sizeTms ts:=by
 have:=Zfy (ts.take i) (ts.drop i);rw [Tbm] at this;omega
theorem ZbB (ts:List Tm):ts.length<=sizeTms ts:=by
 induction ts with
 | nil=>simp [sizeTms]
 | cons x xs ih=>cases x;simp only [Tag,sizeTms,sizeTm];omega
mutual
def depthTm:Tm->Nat
 | .mk _ _ _ a=>1+depthTms a
def depthTms:List Tm->Nat
 | []=>0
 | t::ts=>max (depthTm t) (depthTms ts)
end
mutual
theorem ZlL:∀ t:Tm,depthTm t<=sizeTm t
 | .mk _ _ _ a=>by
  have:=Zfz a;simp only [depthTm,sizeTm];omega
theorem Zfz:∀ ts:List Tm,depthTms ts<=sizeTms ts
 | []=>by simp [depthTms]
 | t::ts=>by
  have:=ZlL t;have:=Zfz ts;simp only [depthTms,sizeTms];omega
end
theorem Zpv (a b:List Tm):depthTms (a++b)=max (depthTms a) (depthTms b):=by
 induction a with
 | nil=>simp [depthTms]
 | cons x xs ih=>simp only [Taf,depthTms,ih];omega
theorem ZiD {ts:List Tm} {i:Nat} {t:Tm} (h:ts[i]?=some t):depthTms (ts.take (i+1))=max (depthTms (ts.take i)) (depthTm t):=by
 rw [ZcA h,Zpv];simp [depthTms]
theorem Zi4 {ts:List Tm} {t:Tm} (h:t∈ts):depthTm t<=depthTms ts:=by
 induction ts with
 | nil=>cases h
 | cons x xs ih =>
  simp only [depthTms];rcases Tbg.1 h with rfl | h
  ·omega
  ·have:=ih h;omega
theorem ZmK:∀ op nm so args,Zab (.mk op nm so args)=[.lit (.int .i64 op),.lit (.string nm),.lit (.int .i64 so),.sl (Zaa args)]:=fun _ _ _ _=>by rw [Zab]
theorem Zy2:∀ op nm so args,sizeTm (.mk op nm so args)=1+sizeTms args:=fun _ _ _ _=>by rw [sizeTm]
theorem Zns:∀ op nm so args,depthTm (.mk op nm so args)=1+depthTms args:=fun _ _ _ _=>by rw [depthTm]
theorem Znt:sizeTms []=0:=by rw [sizeTms]
theorem ZlM:depthTms []=0:=by rw [depthTms]
def big:Nat:=4611686018427387904
theorem ZkJ:∀ (n:Nat) (t:Tm),sizeTm t < n->sizeTm t<=big->Con e0 101 [.agg (Zab t)] [.one (.lit (.int .i64 (sizeTm t)))]:=by
 intro n
 induction n with
 | zero=>intro t h;omega
 | succ n ih =>
  intro t hn hb;obtain ⟨op,nm,so,args⟩:=t;simp only [sizeTm,big] at hn hb;have hal:=ZbB args;refine gI 1967 Tryz.func101 ?_;refine fG (ai @ZmK @tmz) ?_;have F:=@Znt;refine gL (ι:=Nat) [3,5,9,10] [] (fun i=>[(9,A.d (.one (.lit (.int .i64 i)))),(3,A.d (.one (.lit (.int .i64 ((1+sizeTms (args.take i):Nat):Int)))))]) (fun i=>[]) (fun i=>i<=args.length) (fun i=>args.length - i) (0) om (fun i hi=>?_);clear F
  by_cases hl:i < args.length;rotate_left
  ·have hl':¬ ((i:Int) < (args.length:Int)):=om;have e:args.take i=args:=List.take_of_length_le om;exact fT (aj3 @hl' @e @Zy2)
  have hl':(i:Int) < (args.length:Int):=om;obtain ⟨a,ha⟩:∃ a,args[i]?=some a:=⟨_,Taa hl⟩;have hs:=Zpt ha;have ht:=Zpu args (i+1);have hm:=Zbu (Tac ha);have hw:IntKind.i64.wrap (((1+sizeTms (args.take i):Nat):Int)+(sizeTm a:Int))=((1+sizeTms (args.take (i+1)):Nat):Int):=Za4 om om om;have hw1:=Zau (k:=i) om;refine fB (aj3 @hl' @tmz @ha) ?_;refine fC @tmz (ih a om (by unfold big;omega)) ?_;refine fR @hw ?_
  have F:=aj3 @hw1 @hw @tmz;refine gG ?_;exact ⟨i+1,om,gw,gw,om⟩
theorem Zi5 {t:Tm} (h:sizeTm t<=big):Con e0 101 [.agg (Zab t)] [.one (.lit (.int .i64 (sizeTm t)))]:=ZkJ _ t (Tan _) h
theorem Zj7:∀ (n:Nat) (t:Tm),sizeTm t < n->sizeTm t<=big->Con e0 102 [.agg (Zab t)] [.one (.lit (.int .i64 (depthTm t)))]:=by
 intro n
 induction n with
 | zero=>intro t h;omega
 | succ n ih =>
  intro t hn hb;obtain ⟨op,nm,so,args⟩:=t;simp only [sizeTm,big] at hn hb;have hal:=ZbB args;have hds:=Zfz args;refine gI 1967 Tryz.func102 ?_;refine fG (ai @ZmK @tmz) ?_;have F:=@ZlM;refine gL (ι:=Nat) [3,5,9,10] [] (fun i=>[(9,A.d (.one (.lit (.int .i64 i)))),(3,A.d (.one (.lit (.int .i64 ((depthTms (args.take i):Nat):Int)))))]) (fun i=>[]) (fun i=>i<=args.length) (fun i=>args.length - i) (0) om (fun i hi=>?_);clear F
  by_cases hl:i < args.length;rotate_left
  ·have hl':¬ ((i:Int) < (args.length:Int)):=om;have e:args.take i=args:=List.take_of_length_le om;have hw:IntKind.i64.wrap ((depthTms args:Int)+1)=((1+depthTms args:Nat):Int):=Za4 om om om;exact fT (aj4 @hl' @e @hw @Zns)
  have hl':(i:Int) < (args.length:Int):=om;obtain ⟨a,ha⟩:∃ a,args[i]?=some a:=⟨_,Taa hl⟩;have hs:=ZiD ha;have hm:=Zbu (Tac ha);have hw:(if (depthTm a:Int) > (depthTms (args.take i):Int) then (depthTm a:Int) else (depthTms (args.take i):Int))=((depthTms (args.take (i+1)):Nat):Int):=by
   split <;> omega
  have hw1:=Zau (k:=i) om;refine fB (aj3 @hl' @tmz @ha) ?_;refine fC @tmz (ih a om (by unfold big;omega)) ?_;refine fR @hw ?_;have F:=aj3 @hw1 @hw @tmz;refine gG ?_;exact ⟨i+1,om,gw,gw,om⟩
theorem ZiE {t:Tm} (h:sizeTm t<=big):Con e0 102 [.agg (Zab t)] [.one (.lit (.int .i64 (depthTm t)))]:=Zj7 _ t (Tan _) h
theorem Zxn (a b:Int):Con e0 148 [.one (.lit (.int .i64 a)),.one (.lit (.int .i64 b))] [.one (.lit (.int .i64 (max a b)))]:=by
 refine gI 147 Tryz.func148 ?_;by_cases h:b < a
 ·have e:max a b=a:=om;exact fT (ai @h @e)
 ·have e:max a b=b:=om;exact fT (ai @h @e)
theorem Zj8:∀ (n:Nat) (t:Tm),sizeTm t < n->sizeTm t<=big->Con e0 124 [.agg (Zab t)] [.one (.lit (.int .i64 (depthTm t)))]:=by
 intro n
 induction n with
 | zero=>intro t h;omega
 | succ n ih =>
  intro t hn hb;obtain ⟨op,nm,so,args⟩:=t;simp only [sizeTm,big] at hn hb;have hal:=ZbB args;have hds:=Zfz args;refine gI 543 Tryz.func124 ?_;refine fG (ai @ZmK @tmz) ?_;have F:=@ZlM;refine gL (ι:=Nat) [3,4,9] [] (fun i=>[(4,A.d (.one (.lit (.int .i64 i)))),(3,A.d (.one (.lit (.int .i64 ((depthTms (args.take i):Nat):Int)))))]) (fun i=>[]) (fun i=>i<=args.length) (fun i=>args.length - i) (0) om (fun i hi=>?_);clear F
  by_cases hl:i < args.length;rotate_left
  ·have hl':¬ ((i:Int) < (args.length:Int)):=om;have e:args.take i=args:=List.take_of_length_le om;have hw:IntKind.i64.wrap ((depthTms args:Int)+1)=((1+depthTms args:Nat):Int):=Za4 om om om;exact fT (aj5 @hl' @e @hw @Zns @tmz)
  have hl':(i:Int) < (args.length:Int):=om;obtain ⟨a,ha⟩:∃ a,args[i]?=some a:=⟨_,Taa hl⟩;have hs:=ZiD ha;have hm:=Zbu (Tac ha);have hw:max (depthTms (args.take i):Int) (depthTm a:Int)=((depthTms (args.take (i+1)):Nat):Int):=om;have hw1:=Zau (k:=i) om;refine fB (aj3 @hl' @tmz @ha) ?_;refine fC (ai @tmz @ha) (ih a om (by unfold big;omega)) ?_;refine fC @tmz (Zxn _ _) ?_;refine fR @hw ?_;have F:=aj3 @hw1 @hw @tmz;refine gG ?_;exact ⟨i+1,om,gw,gw,om⟩
theorem Zn6 {t:Tm} (h:sizeTm t<=big):Con e0 124 [.agg (Zab t)] [.one (.lit (.int .i64 (depthTm t)))]:=Zj8 _ t (Tan _) h
def Lks (sb:List (Nat × A)) (mb:List (Nat × Bk)) (σ:St):Prop:=(∀ p∈sb,gs σ.s p.1=p.2)∧∀ p∈mb,gm σ.m p.1=some p.2
def keyB (k:Nat):A->Bool
 | .ref k' _=>k'==k
 | .buf k'=>k'==k
 | .row k' _ _ _=>k'==k
 | _=>false
def Zez (d:Nat) (sb:List (Nat × A)) (mb:List (Nat × Bk)):Bool:=sb.all (fun p=>p.1 != d && !keyB d p.2) && mb.all (fun p=>p.1 != d)
theorem ZeA (k t:Nat):∀ (s:List (Nat × A)),keyB k (gs s t)=false->gs (Zav k s) t=gs s t
 | [],_=>rfl
 | (t',x)::r,h=>by
  have ih:=ZeA k t r;by_cases ht:t=t'
  ·cases x <;> simp_all [Zav,gs,keyB]
  ·have h2:keyB k (gs r t)=false:=by simpa [gs,ht] using h
   have h3:=ih h2;clear h ih
   cases x <;> simp [Zav,gs,ht,h3]
theorem Zxo {d:Nat} {a:Option Addr} {n cap:Nat} {x:A} (h:keyB d x=false):litB d a n cap x=x:=by
 cases x <;> simp_all [litB,keyB]
section
variable {sb sb':List (Nat × A)} {mb mb':List (Nat × Bk)} {s:List (Nat × A)} {m:List (Nat × Bk)} {d:Nat} {α:A} {bk:Bk} {σ:St}
theorem Lks.app (h:Lks sb mb σ) (h':Lks sb' mb' σ):Lks (sb++sb') (mb++mb') σ :=
 ⟨fun p hp=>(Tbh.1 hp).elim (h.1 p) (h'.1 p),fun p hp=>(Tbh.1 hp).elim (h.2 p) (h'.2 p)⟩
theorem Lks.born (h:Lks sb mb ⟨s,m⟩) (hf:Zez d sb mb=true):Lks sb mb ⟨(d,α)::Zav d s,(d,bk)::remM d m⟩:=by
 simp only [Zez,Tar,List.all_eq_true,bne_iff_ne,ne_eq,Bool.not_eq_true'] at hf;refine ⟨fun p hp=>?_,fun p hp=>?_⟩
 ·have h1:=hf.1 p hp;have h2:=h.1 p hp;simp only [gs,h1.1,if_false];rw [ZeA _ _ _ (by rw [h2];exact h1.2)];exact h2
 ·have h1:=hf.2 p hp;simp only [gm,h1,if_false,ZaX];exact h.2 p hp
theorem Lks.pin (h:Lks sb mb ⟨s,m⟩) (hf:Zez d sb mb=true) {a:Option Addr} {n cap:Nat}:Lks sb mb ⟨(d,α)::mapS (litB d a n cap) (Zav d s),(d,bk)::remM d (remM d m)⟩:=by
 simp only [Zez,Tar,List.all_eq_true,bne_iff_ne,ne_eq,Bool.not_eq_true'] at hf;refine ⟨fun p hp=>?_,fun p hp=>?_⟩
 ·have h1:=hf.1 p hp;have h2:=h.1 p hp;simp only [gs,h1.1,if_false];rw [ZjJ rfl,ZeA _ _ _ (by rw [h2];exact h1.2),h2];exact Zxo h1.2
 ·have h1:=hf.2 p hp;simp only [gm,h1,if_false,ZaX];exact h.2 p hp
theorem Lks.slot (h:Lks sb mb ⟨s,m⟩) (hf:sb.all (fun p=>p.1 != d)=true):Lks sb mb ⟨(d,α)::s,m⟩:=by
 simp only [List.all_eq_true,bne_iff_ne,ne_eq] at hf;refine ⟨fun p hp=>?_,h.2⟩;simp only [gs,hf p hp,if_false];exact h.1 p hp
theorem Lks.own (h:Lks sb mb ⟨s,m⟩) (hf:mb.all (fun p=>p.1 != d)=true):Lks sb mb ⟨s,(d,bk)::remM d m⟩:=by
 simp only [List.all_eq_true,bne_iff_ne,ne_eq] at hf;refine ⟨h.1,fun p hp=>?_⟩;simp only [gm,hf p hp,if_false,ZaX];exact h.2 p hp
theorem ZlN:∀ {sb:List (Nat × A)} (t:Nat),(∀ p∈sb,gs σ.s p.1=p.2)->gs sb t=gs σ.s t∨gs sb t=.undef
 | [],t,_=>.inr rfl
 | (t',x)::r,t,h=>by
  simp only [gs];by_cases ht:t=t'
  ·have:=h (t',x) (by simp);rw [if_pos ht,ht];exact .inl this.symm
  ·rw [if_neg ht];exact ZlN t fun p hp=>h p (by simp [hp])
theorem ZlO:∀ {mb:List (Nat × Bk)} (t:Nat) (bk:Bk),(∀ p∈mb,gm σ.m p.1=some p.2)->gm mb t=some bk->gm σ.m t=some bk
 | [],t,bk,_,h=>by simp [gm] at h
 | (t',x)::r,t,bk,h,hg=>by
  simp only [gm] at hg;by_cases ht:t=t'
  ·rw [if_pos ht] at hg;injection hg with hg
   have:=h (t',x) (by simp);rw [ht,this,hg]
  ·rw [if_neg ht] at hg;exact ZlO t bk (fun p hp=>h p (by simp [hp])) hg
end
section
variable {e:Env} {mask:Nat} {Q:PX->St->Prop} {ds:List (Option Nat)}
theorem ZlP {os:List Oper} {σ:St} {K K':St->Prop} (h:Runs e ds 0 os σ K) (hk:∀ σ',K σ'->K' σ'):Runs e ds 0 os σ K':=by
 simp only [Runs] at h ⊢;exact fun he U w0 S0 nt a w ops Q hds hd hQ hs=>h he U w0 S0 nt a w ops Q hds hd (fun a w σ' k1 k2=>hQ a w σ' (hk σ' k1) k2) hs
def ZjR (l:List Oper):Bool:=(List.range l.length).all fun i=>match l[i]? with
 | none=>true
 | some o=>o.guard.isNone && o.after.toList.all fun e=>!Region.binds .any e || decide (e.on < i)
def ZdR (o:Oper):List Nat:=(o.after.toList.filter fun e=>Region.binds .any e).map (·.on)
def ZbD (L:List Oper) (j:Nat):List Nat:=match L[j]? with
 | some o=>ZdR o
 | none=>[]
def ZgB (e:Env) (ds:List (Option Nat)) (L:List Oper) (B:St->Prop) (P:Nat->St->Prop):Nat->List Oper->Prop
 | _,[]=>True
 | i,o::os=>(∀ s m,B ⟨s,m⟩->(∀ j∈ZdR o,P j ⟨s,m⟩)->Runs e ds 0 [o] ⟨s,m⟩ (fun σ'=>B σ'∧P i σ'∧∀ j,j≠i->i ∉ ZbD L j->P j ⟨s,m⟩->P j σ'))∧ZgB e ds L B P (i+1) os
theorem ZgB.get {L:List Oper} {B:St->Prop} {P:Nat->St->Prop}:∀ {l:List Oper} {k i:Nat} {o:Oper},ZgB e ds L B P k l->l[i]?=some o->∀ s m,B ⟨s,m⟩->(∀ j∈ZdR o,P j ⟨s,m⟩)->Runs e ds 0 [o] ⟨s,m⟩ (fun σ'=>B σ'∧P (k+i) σ'∧∀ j,j≠k+i->k+i ∉ ZbD L j->P j ⟨s,m⟩->P j σ')
 | [],k,i,o,_,h=>by simp at h
 | x::l,k,0,o,h,ho=>by
  simp only [Tat,Taq] at ho;subst ho;exact h.1
 | x::l,k,i+1,o,h,ho=>by
  have:=ZgB.get (l:=l) (k:=k+1) (i:=i) (o:=o) h.2 (by simpa using ho);rw [show k+1+i=k+(i+1) by omega] at this;exact this
theorem Zty {l:List Oper} {K B:St->Prop} {P:Nat->St->Prop} (hb:ZjR l=true) (hstep:ZgB e ds l B P 0 l) (hK:∀ s m,B ⟨s,m⟩->(∀ i,i < l.length->P i ⟨s,m⟩)->K ⟨s,m⟩) :
  ∀ (f:Nat) (listed:Array Bool) (σ:St),listed.size=l.length->(List.range l.length).countP (fun i=>!listed.getD i true)=f->B σ->(∀ j,listed.getD j false=true->P j σ∧∀ q∈ZbD l j,listed.getD q false=true)->Zcz e ds l.toArray K f listed σ:=by
 have hback:∀ i o,l[i]?=some o->o.guard=none∧∀ e∈o.after,Region.binds .any e=true->e.on < i:=fun i o ho=>by
  have h1:=List.all_eq_true.1 hb i (List.mem_range.2 (Tad.1 ho).1);rw [ho] at h1;simp only [Tar,Option.isNone_iff_eq_none,List.all_eq_true,Bool.or_eq_true,Bool.not_eq_true',decide_eq_true_eq] at h1;refine ⟨h1.1,fun e he hbe=>?_⟩;rcases h1.2 e (Array.mem_toList_iff.2 he) with h2 | h2
  ·rw [hbe] at h2;cases h2
  ·exact h2
 have hfirst:∀ (listed:Array Bool),listed.size=l.length->Region.ready .any l.toArray listed=[]->∀ i,i < l.length->listed.getD i false=true:=fun listed hsz h0 i=>by
  induction i using Nat.strongRecOn with
  | _ i ih =>
   intro hi;rw [<- Zbw (by omega:i < listed.size)]
   cases hun:listed.getD i true with
   | true=>rfl
   | false =>
   obtain ⟨o,ho⟩:∃ o,l[i]?=some o:=⟨_,Taa hi⟩;have:=(mem_ready (ops:=l.toArray) (md:=.any)).2 ⟨hun,o,by simpa using ho,fun e he hbe=>ih e.on ((hback i o ho).2 e he hbe) (by have:=(hback i o ho).2 e he hbe;omega)⟩;rw [h0] at this
   cases this
 intro f
 induction f with
 | zero =>
  intro listed σ hsz hc hB hP;have hall:∀ i,i < l.length->listed.getD i true=true:=fun i hi=>by
   have:=List.countP_eq_zero.1 hc i (List.mem_range.2 hi);simpa using this
  refine ⟨?_,hK σ.s σ.m hB fun i hi=>(hP i (by rw [<- Zbw om];exact hall i hi)).1⟩
  cases hr:Region.ready .any l.toArray listed with
  | nil=>rfl
  | cons i r =>
   have hi:i∈Region.ready .any l.toArray listed:=by rw [hr];simp
   obtain ⟨hun,oi,hoi,_⟩:=mem_ready.1 hi;have hil:i < l.length:=by
    have:=(Tbl.1 hoi).1;simpa using this
   rw [hall i hil] at hun
   cases hun
 | succ f ih =>
  intro listed σ hsz hc hB hP;refine ⟨fun h0=>hK σ.s σ.m hB fun i hi=>(hP i (hfirst listed hsz h0 i hi)).1,fun i hi=>?_⟩;obtain ⟨hun,o,hoi,hall⟩:=mem_ready.1 hi;have ho:l[i]?=some o:=by simpa using hoi
  have hil:i < l.length:=(Tad.1 ho).1;have hls:i < listed.size:=om;refine ⟨o,hoi,(hback i o ho).1,ZdC (hback i o ho).1 ?_⟩;have h1:=ZgB.get hstep ho σ.s σ.m hB fun j hj=>by
   simp only [ZdR,Tbi,List.mem_filter] at hj;obtain ⟨e,⟨he,hbe⟩,rfl⟩:=hj;exact (hP e.on (hall e (Array.mem_toList_iff.1 he) hbe)).1
  rw [Nat.zero_add] at h1;refine ZlP h1 fun σ' ⟨k1,k2,k3⟩=>ih _ σ' (by simpa using hsz) ?_ k1 fun j hj=>?_
  ·have h1:(List.range l.length).countP (fun j=>!(listed.setIfInBounds i true).getD j true)+1=(List.range l.length).countP (fun j=>!listed.getD j true):=by
    have hperm:=List.perm_cons_erase (List.mem_range.2 hil);rw [hperm.countP_eq,hperm.countP_eq,List.countP_cons,List.countP_cons];have hcong:((List.range l.length).erase i).countP (fun j=>!(listed.setIfInBounds i true).getD j true)=((List.range l.length).erase i).countP (fun j=>!listed.getD j true):=by
     refine List.countP_congr fun j hj=>?_;have hne:j≠i:=fun e=>by
      subst e;exact List.Nodup.not_mem_erase (List.nodup_range) hj
     rw [getD_set_ne true (Ne.symm hne)]
    rw [hcong,hun];simp [hls]
   omega
  ·by_cases hji:j=i
   ·subst hji;refine ⟨k2,fun q hq=>?_⟩;have hda:ZbD l j=ZdR o:=by unfold ZbD;rw [ho]
    rw [hda] at hq;simp only [ZdR,Tbi,List.mem_filter] at hq;obtain ⟨e,⟨he,hbe⟩,rfl⟩:=hq;have hlt:=(hback j o ho).2 e (Array.mem_toList_iff.1 he) hbe;rw [getD_set_ne false om];exact hall e (Array.mem_toList_iff.1 he) hbe
   ·rw [getD_set_ne false (Ne.symm hji)] at hj;obtain ⟨p1,p2⟩:=hP j hj;have hni:i ∉ ZbD l j:=fun hm=>by
     have h2:=p2 i hm;rw [<- Zbw hls,hun] at h2
     cases h2
    refine ⟨k3 j hji hni p1,fun q hq=>?_⟩;by_cases hqi:q=i
    ·subst hqi;exact absurd hq hni
    ·rw [getD_set_ne false (Ne.symm hqi)];exact p2 q hq
theorem gGd {id:Nat} {l:List Oper} {s:List (Nat × A)} {m:List (Nat × Bk)} (B:St->Prop) (P:Nat->St->Prop) (hB:B ⟨s,m⟩) (hS:ZgB e (l.map (·.dst)) l B P 0 l) (hK:∀ s' m',B ⟨s',m'⟩->(∀ i,i < l.length->P i ⟨s',m'⟩)->∃ sf mf,Lks sf mf ⟨s',m'⟩∧Q .normal ⟨sf,mf⟩)
  (hb:ZjR l=true:=by decide +kernel) (hT:regT l.toArray 0=true:=by decide +kernel):pwp e mask (.region id l.toArray true) ⟨s,m⟩ Q:=fun he U w0 S0 nt a w hok hs=>by
 refine Zh0 he hT (K:=fun σ'=>∃ sf mf,Lks sf mf σ'∧Q .normal ⟨sf,mf⟩) (fun a w σ' ⟨sf,mf,h1,h2⟩ h3=>⟨⟨sf,mf⟩,h2,h3.weak (fun t=>ZlN t h1.1) (fun t bk=>ZlO t bk h1.2)⟩) (ZjN hok) hs ?_;simp only [List.take_zero,Runs]
 have:=Zty (K:=fun σ'=>∃ sf mf,Lks sf mf σ'∧Q .normal ⟨sf,mf⟩) hb hS hK l.length (Zbg l.length 0) ⟨s,m⟩ (by simp [Zbg]) (by
  rw [List.countP_eq_length.2]
  ·simp
  ·intro i hi;have hi':=List.mem_range.1 hi;simp [Zbg,hi']) hB (fun j hj=>by
   have h0:(Zbg l.length 0).getD j false=false:=by
    by_cases hjl:j < l.length
    ·simp [Zbg,hjl]
    ·simp [Zbg,hjl]
   rw [h0] at hj
   cases hj)
 simpa using this
def PG {X:Type} (S:X->Nat->List (Nat × A)) (M:X->Nat->List (Nat × Bk)) (i:Nat) (σ:St):Prop:=∃ x,Lks (S x i) (M x i) σ
section
variable {X:Type} {S:X->Nat->List (Nat × A)} {M:X->Nat->List (Nat × Bk)} {d i:Nat} {L:List Oper} {s:List (Nat × A)} {m:List (Nat × Bk)} {α:A} {bk:Bk}
theorem PG.slot (hf:∀ j,j≠i->i ∉ ZbD L j->∀ x,(S x j).all (fun p=>p.1 != d)=true):∀ j,j≠i->i ∉ ZbD L j->PG S M j ⟨s,m⟩->PG S M j ⟨(d,α)::s,m⟩:=fun j h1 h2 ⟨x,h⟩=>⟨x,h.slot (hf j h1 h2 x)⟩
theorem PG.born (hf:∀ j,j≠i->i ∉ ZbD L j->∀ x,Zez d (S x j) (M x j)=true):∀ j,j≠i->i ∉ ZbD L j->PG S M j ⟨s,m⟩->PG S M j ⟨(d,α)::Zav d s,(d,bk)::remM d m⟩:=fun j h1 h2 ⟨x,h⟩=>⟨x,h.born (hf j h1 h2 x)⟩
theorem PG.pin (hf:∀ j,j≠i->i ∉ ZbD L j->∀ x,Zez d (S x j) (M x j)=true) {a:Option Addr} {n cap:Nat}:∀ j,j≠i->i ∉ ZbD L j->PG S M j ⟨s,m⟩->PG S M j ⟨(d,α)::mapS (litB d a n cap) (Zav d s),(d,bk)::remM d (remM d m)⟩:=fun j h1 h2 ⟨x,h⟩=>⟨x,h.pin (hf j h1 h2 x)⟩
end
end
theorem Ztz {e:Env} {σ:St} {k k' ety ety' sz sz' cap cap':Nat} {ad ad':Option Addr} {rows rows':List (List C)} (hne:k≠k') (h:gm σ.m k=some (.buf (some (ad,cap)) ety sz rows)) (h':gm σ.m k'=some (.buf (some (ad',cap')) ety' sz' rows')) (hr:0 < rows.length) (hr':0 < rows'.length):Turn e σ (fun σ'=>σ'=σ∧ad≠ad'):=fun he U w0 S0 nt act w hs=>by
 refine ⟨σ,⟨rfl,fun e=>?_⟩,hs⟩;obtain ⟨S,L,h1⟩:=hs;have key:∀ {k ety sz cap:Nat} {ad:Option Addr} {rows:List (List C)},gm σ.m k=some (.buf (some (ad,cap)) ety sz rows)->0 < rows.length->∃ g,vblk (L.v k)=some g∧ad=some ⟨g,0,none⟩:=fun {k ety sz cap ad rows} h hr=>by
  obtain ⟨o1,o2⟩:=h1.cls.own k _ h;have o1:=o1 _ rfl;rcases o2.2.2 with ⟨h3,_⟩ | ⟨g,cap2,cur,hv,hc,_⟩
  ·rw [h3] at hr;simp at hr
  ·refine ⟨g,by rw [hv];simp [vblk];omega,?_⟩;rw [o1] at hv;injection hv with hv _ _
 obtain ⟨g,v1,e1⟩:=key h hr;obtain ⟨g',v2,e2⟩:=key h' hr';rw [e1,e2] at e;injection e with e
 injection e with e _ _
 rw [<- e] at v2;exact hne (h1.cls.inj k k' _ _ g h h' v1 v2)
theorem pA {e:Env} {mask:Nat} {Q:PX->St->Prop} {c:Code} {s:List (Nat × A)} {m:List (Nat × Bk)} {ety ety' sz sz' cap cap':Nat} {ad ad':Option Addr} {rows rows':List (List C)} (k k':Nat) (hK:ad≠ad'->pwp e mask c ⟨s,m⟩ Q) (hr:0 < rows.length) (hr':0 < rows'.length) (hne:k≠k':=by decide) (h:gm m k=some (.buf (some (ad,cap)) ety sz rows):=by exact snv) (h':gm m k'=some (.buf (some (ad',cap')) ety' sz' rows'):=by exact snv):pwp e mask c ⟨s,m⟩ Q :=
 Zdn (Ztz hne h h' hr hr') fun σ' ⟨hσ,ha⟩=>by subst hσ;exact hK ha
def ordS (s:Srt) (f:(Nat->Option Addr × Nat) × C × C × C):Nat->List (Nat × A)
 | 0=>[(20,.d (.agg (Zbr s)))]
 | 1=>[(21,.d (.one (.sl (nR (up s)))))]
 | 2=>[(22,.d (.one (.lit (.int .i64 s.names.length))))]
 | 3=>[(23,.d (.one (.lit (.slice (f.1 23).1 s.names.length (f.1 23).2))))]
 | 4=>[(24,.d (.one (.lit (.int .i64 s.names.length))))]
 | 5=>[(25,.d (.one (.lit (.slice (f.1 25).1 s.names.length (f.1 25).2))))]
 | 6=>[(26,.d (.agg [.sl (nR (up s)),.lit (.slice (f.1 23).1 s.names.length (f.1 23).2),.lit (.slice (f.1 25).1 s.names.length (f.1 25).2)]))]
 | 7=>[(5,.ref 5 0)]
 | 8=>[(5,.ref 5 0)]
 | _=>[]
def ordM (s:Srt) (f:(Nat->Option Addr × Nat) × C × C × C):Nat->List (Nat × Bk)
 | 3=>[(23,.buf (some (f.1 23)) 3 1 (nR (List.replicate s.names.length 0)))]
 | 5=>[(25,.buf (some (f.1 25)) 3 1 (nR (List.replicate s.names.length 0)))]
 | 6=>[(23,.buf (some (f.1 23)) 3 1 (nR (List.replicate s.names.length 0))),(25,.buf (some (f.1 25)) 3 1 (nR (List.replicate s.names.length 0)))]
 | 7=>[(5,.var none [f.2.1,f.2.2.1,f.2.2.2])]
 | 8=>[(5,.var none [.sl (nR (up s)),.lit (.slice (f.1 23).1 s.names.length (f.1 23).2),.lit (.slice (f.1 25).1 s.names.length (f.1 25).2)]),(23,.buf (some (f.1 23)) 3 1 (nR (List.replicate s.names.length 0))),(25,.buf (some (f.1 25)) 3 1 (nR (List.replicate s.names.length 0)))]
 | _=>[]
theorem ZCr:(∀ (u l:List Nat),downs u 0 l=l)∧∀ n,Zd2 n 0=List.replicate n 0:=⟨fun _ _=>rfl,fun n=>by simp [Zd2]⟩
theorem ZBZ (i:Nat) (l:List Nat):downIn i l []=l:=rfl
theorem Zxp {ks:List Nat} {j k:Nat} (h:ks[j]?=some k) (i:Nat) (l:List Nat):downIn i l (ks.take (j+1))=(downIn i l (ks.take j)).set k ((downIn i l (ks.take j)).getD k 0 ||| 2 ^ i):=ZhY h l
def ZlQ (s:Srt):List (Nat × A):=[(1,.ref 1 0),(2,.ref 2 0),(3,.d (.one (.lit (.bool false)))),(4,.d (.one (.lit (.int .i64 s.names.length))))]
def Zoy (s:Srt):List (Nat × Bk):=[(1,.var none (Zbr s)),(2,.var none [.sl [],.sl [],.sl []])]
def ordB (s:Srt) (σ:St):Prop:=Lks (ZlQ s) (Zoy s) σ
section
variable {s:Srt}
theorem ZkK (hok:ZlB s) (hs:¬ SortsOk s):Con e0 62 [.agg (Zbr s)] [.agg [.sl [],.sl [],.sl []],.one (.lit (.bool false))]:=by
 have cI:=ZiC hok;rw [ZfO hs,Zbr] at cI;rw [Zbr];refine gI (ts:=[.cell 2 116,.slot 3]) 569543224310601128703 Tryz.func62 ?_;refine fB @e0P ?_;refine fC @e0P (cI) ?_;refine fR @e0P ?_;exact fD @e0P
theorem Zi6 (hok:ZlB s) (hs:SortsOk s):Con e0 62 [.agg (Zbr s)] [.agg (Zd8 s),.one (.lit (.bool true))]:=by
 have cI:=ZiC hok;have hSI:=SortsOk.subsIn hs.subs;have cA:=ZiB hs.n1 hs.n8 hs.m16 hSI;rw [Ze3 hs] at cI;rw [Zbr] at cI ⊢;refine gI (ts:=[.cell 2 116,.slot 3]) 569543224310601128703 Tryz.func62 ?_;refine fB @e0P ?_;refine fC @e0P (cI) ?_;refine fR @e0P ?_;refine fN 4 @e0P ?_;have hmx:((s.names.length:Int)<=(maxApp:Int))=True:=eq_true (by have:=hs.n8;unfold maxApp;omega);refine gGd (ordB s) (PG (ordS s) (ordM s)) ⟨by simp [ZlQ,gs],by simp [Zoy,gm,Zbr]⟩ ⟨?_,?_,?_,?_,?_,?_,?_,?_,?_,trivial⟩ ?_
 rotate_right
 all_goals (intro s' m' hB)
 all_goals (have g1:gs s' 1=.ref 1 0:=hB.1 (1,.ref 1 0) (by simp [ZlQ]))
 all_goals (have g4:gs s' 4=.d (.one (.lit (.int .i64 s.names.length))):=hB.1 (4,_) (by simp [ZlQ]))
 all_goals (have k1:gm m' 1=some (.var none [.sl (s.names.map Zd6),.sl (s.subs.map Zen)]):=hB.2 (1,_) (by simp [Zoy,Zbr]))
 ·intro hP;clear g1 g4 k1;obtain ⟨f,h⟩:=hP 8 (by decide);refine ⟨_,_,h.app hB,?_⟩;generalize hp:f.1 23=p;generalize hq:f.1 25=q;obtain ⟨a3,c3⟩:=p;obtain ⟨a5,c5⟩:=q;simp only [ordS,ordM,ZlQ,Zoy,Taf,Tah,Zbr,hp,hq];clear hp hq h hB hP s' m' f;refine ⟨_,Wk.refl _,?_⟩;have hU:=ZhX hSI;have lU:=ZbO (l:=up s);rw [hU.1] at lU;have h8:=hs.n8;have rU:=ZbQ (l:=up s);refine fN 5 @e0P ?_;have hn1:=hs.n1;have l00:0 < (nR (List.replicate s.names.length 0)).length:=by rw [ZbO,List.length_replicate];omega
  refine pA 23 25 (fun hne=>?_) l00 l00;have hn5:∀ p,(a5=a3∧p)=False:=fun p=>eq_false fun e=>hne e.1.symm;refine fG @lU ?_;have F:=@ZCr;refine gL (ι:=Nat) [6,7,9,30,31,36,37,38,39] [23,25] (fun i=>[(30,A.d (.one (.lit (.int .i64 i))))]) (fun i=>[(23,.buf (some (a3,c3)) 3 1 (nR (downs (up s) i (List.replicate s.names.length 0)))),(25,.buf (some (a5,c5)) 3 1 (nR (Zd2 s.names.length i)))]) (fun i=>i<=s.names.length) (fun i=>s.names.length - i) (0) (Taj _) (fun i hi=>?_);clear F
  have hDi:=UpOk.downs hU i (l:=List.replicate s.names.length 0) hi (UpOk.zeros _);have lK:=ZbO (l:=Zd2 s.names.length i);rw [Znk hi] at lK;by_cases hlt:i < s.names.length
  ·have q1:(i:Int) < (s.names.length:Int):=om;have hw:=Zau (k:=i) om;obtain ⟨gi,bi⟩:=hU.get hlt;have r1:=Zcb gi;have p256:2 ^ s.names.length<=256:=Tbe (Tbs om h8) (by decide);have cL:=Ztw (a:=(up s).getD i 0) om;have hdn:downs (up s) (i+1) (List.replicate s.names.length 0)=downIn i (downs (up s) i (List.replicate s.names.length 0)) (Zep ((up s).getD i 0)):=rfl;have hks:=Znj bi;have lks:=ZbO (l:=Zep ((up s).getD i 0))
   have rks:=ZbQ (l:=Zep ((up s).getD i 0));have hks16:(Zep ((up s).getD i 0)).length<=64:=Tbe (ZlF _ _) (by decide);have hsh:=ZjO (k:=i) om;refine fB (aj4 @q1 @lU @r1 @rU) ?_;refine fC @e0P (cL) ?_;refine fR @lks ?_;generalize Zep ((up s).getD i 0)=ks at hdn hks lks rks hks16 ⊢;generalize downs (up s) i (List.replicate s.names.length 0)=l at hdn hDi ⊢;refine fG @lks ?_;have F:=@ZBZ;refine gL (ι:=Nat) [9,38,39] [23] (fun j=>[(38,A.d (.one (.lit (.int .i64 j))))]) (fun j=>[(23,.buf (some (a3,c3)) 3 1 (nR (downIn i l (ks.take j))))]) (fun j=>j<=ks.length) (fun j=>ks.length - j) (0) (Taj _) (fun j hj=>?_);clear F
   by_cases hlj:j < ks.length
   ·have q2:(j:Int) < (ks.length:Int):=om;have hwj:=Zau (k:=j) om;obtain ⟨k,hk⟩:∃ k,ks[j]?=some k:=⟨_,Taa hlj⟩;have hkn:=hks k (Tac hk);have r2:=Zcb hk;have hst:=Zxp hk i l;have hV:=UpOk.downIn hlt hDi (ks:=ks.take j) fun q hq=>hks q (List.mem_of_mem_take hq);generalize downIn i l (ks.take j)=v at hst hV ⊢;obtain ⟨gk,bk⟩:=hV.get hkn;have r3:=Zcb gk;have l3:=ZbO (l:=v);rw [hV.1] at l3;have l4:=ZbQ (l:=v)
    have l5:=Ze7 (l:=v) k (v.getD k 0 ||| 2 ^ i);have p2:2 ^ i < 4611686018427387904:=Zgx om;have hor:=ZmG (a:=v.getD k 0) (b:=2 ^ i) om p2;have F:=aj14 @q2 @r2 @rks @lks @r3 @l3 @l4 @l5 @hsh @hor @hkn @ZaC @hwj @hst;refine gG ?_;exact ⟨j+1,hlj,gw,gw,om⟩
   obtain rfl:j=ks.length:=by omega
   have q2:¬ ((ks.length:Int) < (ks.length:Int)):=om;rw [Tap,<- hdn];have l6:=ZbQ (l:=Zd2 s.names.length i);have l7:=Ze7 (l:=Zd2 s.names.length i) i i;rw [Zxc hlt] at l7;obtain ⟨y,gy⟩:∃ y,(Zd2 s.names.length i)[i]?=some y:=⟨_,Taa (by rw [Znk hi];exact hlt)⟩;have r5:=Zcb gy;have F:=aj9 @q2 @hn5 @lK @l6 @l7 @r5 @hlt @hw @ZaC;refine gG ?_;exact ⟨i+1,hlt,gw,gw,om⟩
  obtain rfl:i=s.names.length:=by omega
  have q1:¬ ((s.names.length:Int) < (s.names.length:Int)):=om;rw [Zxd,show downs (up s) s.names.length (List.replicate s.names.length 0)=down s from rfl];clear hDi lK;have hK:=KOk.start s.names.length;refine fG @q1 ?_;have F:=@ZsP;refine gL (ι:=Nat) [11,12,62,63,65,66,67,68] [25] (fun j=>[(62,A.d (.one (.lit (.int .i64 j))))]) (fun j=>[(25,.buf (some (a5,c5)) 3 1 (nR (Zdv s.subs j (List.range s.names.length))))]) (fun j=>j<=s.names.length) (fun j=>s.names.length - j) (0) (Taj _) (fun j hj=>?_);clear F
  have hKj:=KOk.iter hSI j hK;have l0:=ZbO (l:=Zdv s.subs j (List.range s.names.length));rw [hKj.1] at l0;by_cases hlj:j < s.names.length;rotate_left
  ·obtain rfl:j=s.names.length:=by omega
   have q2:¬ ((s.names.length:Int) < (s.names.length:Int)):=om;rw [show Zdv s.subs s.names.length (List.range s.names.length)=kinds s from rfl];refine fN 25 @q2 ?_;have lD:=ZbO (l:=down s);rw [(ZBf hSI).1] at lD;have lK:=ZbO (l:=kinds s);rw [(ZhZ hSI).1] at lK;refine pD 23 [] [5] ?_ (hr:=by simp only [pz,↓reduceIte,Nat.reduceEqDiff,Nat.reduceAdd,Nat.reduceSub,Nat.reduceMul,Nat.reduceLeDiff,Nat.reduceBEq,Tam,decide_true,decide_false,Int.reduceLE,Int.reduceToNat,Int.reduceLT,Int.reduceEq,eq_self,Nat.reduceShiftRight,Nat.reduceAnd,Nat.reduceBneDiff,lD,hn5,if_false];exact rfl)
   refine pD 25 [] [5] ?_ (hr:=by simp only [pz,↓reduceIte,Nat.reduceEqDiff,Nat.reduceAdd,Nat.reduceSub,Nat.reduceMul,Nat.reduceLeDiff,Nat.reduceBEq,Tam,decide_true,decide_false,Int.reduceLE,Int.reduceToNat,Int.reduceLT,Int.reduceEq,eq_self,Nat.reduceShiftRight,Nat.reduceAnd,Nat.reduceBneDiff,lK,hn5,if_false];exact rfl);exact fD @Zh3
  have q2:(j:Int) < (s.names.length:Int):=om;have hwj:=Zau (k:=j) om;have hnx:Zdv s.subs (j+1) (List.range s.names.length)=s.subs.foldl kSub (Zdv s.subs j (List.range s.names.length)):=rfl;generalize Zdv s.subs j (List.range s.names.length)=u at hKj hnx l0 ⊢;refine fG (ai @l0 @q2) ?_;have hm16:=hs.m16;have F:=@Zxi;refine gL (ι:=Nat) [11,12,67,68] [25] (fun i=>[(67,A.d (.one (.lit (.int .i64 i))))]) (fun i=>[(25,.buf (some (a5,c5)) 3 1 (nR ((s.subs.take i).foldl kSub u)))]) (fun i=>i<=s.subs.length) (fun i=>s.subs.length - i) (0) (Taj _) (fun i hi=>?_);clear F
  by_cases hli:i < s.subs.length;rotate_left
  ·obtain rfl:i=s.subs.length:=by omega
   have q3:¬ ((s.subs.length:Int) < (s.subs.length:Int)):=om;rw [Tap,<- hnx];have F:=ai @q3 @hwj;refine gG ?_;exact ⟨j+1,hlj,gw,gw,om⟩
  have q3:(i:Int) < (s.subs.length:Int):=om;have hwi:=Zau (k:=i) om;obtain ⟨p,hp⟩:∃ p,s.subs[i]?=some p:=⟨_,Taa hli⟩;have hps:=hSI p (Tac hp);have hst:=Znq hp u;have hUi:=KOk.foldl hKj (hSI.take i);generalize (s.subs.take i).foldl kSub u=v at hUi hst ⊢;obtain ⟨g1,b1⟩:=hUi.get (i:=p.1.toNat) om;obtain ⟨g2,b2⟩:=hUi.get (i:=p.2.toNat) om;have l1:=Zcb g1;have l2:=Zcb g2;have l3:=ZbO (l:=v);rw [hUi.1] at l3
  have l4:=ZbQ (l:=v);have hmin:(if (v.getD p.2.toNat 0:Int) < (v.getD p.1.toNat 0:Int) then (v.getD p.2.toNat 0:Int) else (v.getD p.1.toNat 0:Int))=((min (v.getD p.1.toNat 0) (v.getD p.2.toNat 0):Nat):Int):=by
   split <;> omega
  generalize hmn:min (v.getD p.1.toNat 0) (v.getD p.2.toNat 0)=mn at hmin hst;have l5:=Ze7 (l:=v) p.1.toNat mn;have l6:=Ze7 (l:=v.set p.1.toNat mn) p.2.toNat mn;have l7:=ZbO (l:=v.set p.1.toNat mn);rw [Taz,hUi.1] at l7;have l8:=ZbQ (l:=v.set p.1.toNat mn);obtain ⟨x9,g9⟩:∃ x,(v.set p.1.toNat mn)[p.2.toNat]?=some x:=⟨_,Taa (by rw [Taz,hUi.1];omega)⟩;have l9:=Zcb g9;have i1:0<=p.1:=hps.1;have i2:0<=p.2:=hps.2.2.1
  have i3:p.1.toNat < s.names.length:=om;have i4:p.2.toNat < s.names.length:=om;have hst:(s.subs.take (i+1)).foldl kSub u=(v.set p.1.toNat mn).set p.2.toNat mn:=by rw [hst];unfold kSub;rw [hmn]
  have F:=aj16 @q3 @hp @Zci @hn5 @l1 @l2 @l3 @l4 @l5 @l6 @l7 @l8 @l9 @i1 @i2 (aj5 @i3 @i4 @hmin @hwi @hst);refine gG ?_;exact ⟨i+1,hli,gw,gw,om⟩
 ·intro _;refine (have F:=ai g1 k1;gO3 ?_);exact ⟨hB.slot rfl,⟨(fun _=>(none,0),.sl [],.sl [],.sl []),by simp [ordS,gs,Zbr],by simp [ordM]⟩,PG.slot (by intro j h1 h2 x;rcases j with _ | _ | _ | _ | _ | _ | _ | _ | _ | j <;> first | rfl | exact absurd rfl h1 | exact absurd (by decide) h2)⟩
 ·intro hP;obtain ⟨f,h0,_⟩:=hP 0 (by decide);have g20:gs s' 20=.d (.agg (Zbr s)):=h0 (_,_) (by simp [ordS]);refine (have F:=g20;gC cA ?_);refine ZbK ?_;exact ⟨hB.slot rfl,⟨(fun _=>(none,0),.sl [],.sl [],.sl []),by simp [ordS,gs],by simp [ordM]⟩,PG.slot (by intro j h1 h2 x;rcases j with _ | _ | _ | _ | _ | _ | _ | _ | _ | j <;> first | rfl | exact absurd rfl h1 | exact absurd (by decide) h2)⟩
 ·intro _;refine (have F:=g4;gO3 ?_);exact ⟨hB.slot rfl,⟨(fun _=>(none,0),.sl [],.sl [],.sl []),by simp [ordS,gs],by simp [ordM]⟩,PG.slot (by intro j h1 h2 x;rcases j with _ | _ | _ | _ | _ | _ | _ | _ | _ | j <;> first | rfl | exact absurd rfl h1 | exact absurd (by decide) h2)⟩
 ·intro hP;obtain ⟨f,h0,_⟩:=hP 2 (by decide);have g22:gs s' 22=.d (.one (.lit (.int .i64 s.names.length))):=h0 (_,_) (by simp [ordS]);refine (have F:=aj4 g22 hmx @Tbx @ZmH;gP 1 ?_);refine gS 23 fun a cap=>?_;refine ZbK ?_;exact ⟨hB.pin rfl,⟨(fun _=>(a,cap),.sl [],.sl [],.sl []),by simp [ordS,gs],by simp [ordM,gm,nR_0]⟩,PG.pin (by intro j h1 h2 x;rcases j with _ | _ | _ | _ | _ | _ | _ | _ | _ | j <;> first | rfl | exact absurd rfl h1 | exact absurd (by decide) h2)⟩
 ·intro _;refine (have F:=g4;gO3 ?_);exact ⟨hB.slot rfl,⟨(fun _=>(none,0),.sl [],.sl [],.sl []),by simp [ordS,gs],by simp [ordM]⟩,PG.slot (by intro j h1 h2 x;rcases j with _ | _ | _ | _ | _ | _ | _ | _ | _ | j <;> first | rfl | exact absurd rfl h1 | exact absurd (by decide) h2)⟩
 ·intro hP;obtain ⟨f,h0,_⟩:=hP 4 (by decide);have g24:gs s' 24=.d (.one (.lit (.int .i64 s.names.length))):=h0 (_,_) (by simp [ordS]);refine (have F:=aj4 g24 hmx @Tbx @ZmH;gP 1 ?_);refine gS 25 fun a cap=>?_;refine ZbK ?_;exact ⟨hB.pin rfl,⟨(fun _=>(a,cap),.sl [],.sl [],.sl []),by simp [ordS,gs],by simp [ordM,gm,nR_0]⟩,PG.pin (by intro j h1 h2 x;rcases j with _ | _ | _ | _ | _ | _ | _ | _ | _ | j <;> first | rfl | exact absurd rfl h1 | exact absurd (by decide) h2)⟩
 ·intro hP;obtain ⟨f1,h1,_⟩:=hP 1 (by decide);obtain ⟨f3,h3,h3'⟩:=hP 3 (by decide);obtain ⟨f5,h5,h5'⟩:=hP 5 (by decide);have g21:gs s' 21=.d (.one (.sl (nR (up s)))):=h1 (_,_) (by simp [ordS]);have g23:gs s' 23=.d (.one (.lit (.slice (f3.1 23).1 s.names.length (f3.1 23).2))):=h3 (_,_) (by simp [ordS]);have g25:gs s' 25=.d (.one (.lit (.slice (f5.1 25).1 s.names.length (f5.1 25).2))):=h5 (_,_) (by simp [ordS])
  have k23:=h3' (23,_) (by simp [ordM];rfl);have k25:=h5' (25,_) (by simp [ordM];rfl);refine (have F:=aj3 g21 g23 g25;gO3 ?_);exact ⟨hB.slot rfl,⟨(fun k=>if k=23 then f3.1 23 else f5.1 25,.sl [],.sl [],.sl []),by simp [ordS,gs],by simp [ordM];exact ⟨k23,k25⟩⟩,PG.slot (by intro j h1 h2 x;rcases j with _ | _ | _ | _ | _ | _ | _ | _ | _ | j <;> first | rfl | exact absurd rfl h1 | exact absurd (by decide) h2)⟩
 ·intro _;refine (have F:=g4;gO3 ?_);exact ⟨hB.born rfl,⟨(fun _=>(none,0),.sl [],.sl [],.sl []),by simp [ordS,gs],by simp [ordM,gm]⟩,PG.born (by intro j h1 h2 x;rcases j with _ | _ | _ | _ | _ | _ | _ | _ | _ | j <;> first | rfl | exact absurd rfl h1 | exact absurd (by decide) h2)⟩
 ·intro hP;obtain ⟨f6,h6,h6'⟩:=hP 6 (by decide);obtain ⟨f7,h7,h7'⟩:=hP 7 (by decide);have g26:gs s' 26=.d (.agg [.sl (nR (up s)),.lit (.slice (f6.1 23).1 s.names.length (f6.1 23).2),.lit (.slice (f6.1 25).1 s.names.length (f6.1 25).2)]):=h6 (_,_) (by simp [ordS]);have g5:gs s' 5=.ref 5 0:=h7 (_,_) (by simp [ordS]);have k5:gm m' 5=some (.var none [f7.2.1,f7.2.2.1,f7.2.2.2]):=h7' (_,_) (by simp [ordM])
  have k23:=h6' (23,_) (by simp [ordM];rfl);have k25:=h6' (25,_) (by simp [ordM];rfl);refine (have F:=aj3 g26 g5 k5;gO3 ?_);refine ⟨hB.own rfl,⟨f6,by simp [ordS,g5],by simp [ordM,gm,ZaX];exact ⟨k23,k25⟩⟩,?_⟩;intro j q1 q2 ⟨x,q⟩;rcases j with _ | _ | _ | _ | _ | _ | _ | _ | _ | j
  all_goals first
   | exact ⟨x,q.own rfl⟩
   | exact absurd rfl q1
   | exact ⟨(fun _=>(none,0),.sl (nR (up s)),.lit (.slice (f6.1 23).1 s.names.length (f6.1 23).2),.lit (.slice (f6.1 25).1 s.names.length (f6.1 25).2)),by simp [ordS,g5],by simp [ordM,gm]⟩
end
section
variable {g:Sgn}
theorem ZqR {k:Nat} {o:Opr} (h:g.ops[k]?=some o):Zdw (Zby (g.ops.take k))++[(o.name,.bool true)]=Zdw (Zby (g.ops.take (k+1))):=by
 rw [Zi3 h,Zdw,Zdw,Tbu];rfl
theorem ZqS {l:List Opr} {i k m:Nat} (h:i=k+m) {s:ByteArray} (hs:Zbl (Zby (l.take k)) s=true):Zbl (Zby (l.take i)) s=true:=by
 subst h;rw [List.take_add,Zby,Tbu];unfold Zbl at hs ⊢;rw [List.any_append];rw [Zby] at hs;rw [hs,Bool.true_or]
theorem Zy3 (l:List Opr):Zdw (Zby (l.take 0))=[]∧Zdw (Zby [])=[]:=⟨rfl,rfl⟩
theorem Zkl (hg:Zdt g):Con e0 61 [.agg (ZaN g)] [.one (.lit (.bool (ZcX g)))]:=by
 have hno:¬ SgnOk g->ZcX g=false:=Zhe;rw [ZaN];refine gI 9358620764179268287 Tryz.func61 ?_;by_cases hs:SortsOk g.sorts;rotate_left
 ·have cO:=ZkK hg.1 hs;have hf:=hno fun h=>hs h.sorts;rw [Zbr] at cO;refine fB @e0P ?_;refine fC @e0P (cO) ?_;refine fR @e0P ?_;exact fT @hf
 have cO:=Zi6 hg.1 hs;rw [Zbr] at cO;refine fB @e0P ?_;refine fC @e0P (cO) ?_;refine fR @Zh3 ?_;by_cases h14:g.ops.length<=14;rotate_left
 ·have z1:=lT 14 g.ops.length;have hf:=hno fun h=>h14 h.len;exact fT (ai @z1 @hf)
 have z1:=lF 14 g.ops.length;refine fN 4 @z1 ?_;refine gB ?_;refine gMk fun b=>?_;refine fR @e0P ?_;refine fG @e0P ?_;have F:=((Zy3 g.ops));refine gL (ι:=Nat) [2,7,28,29,47] [24] (fun i=>[(28,A.d (.one (.lit (.int .i64 i))))]) (fun i=>[(24,mapB b (Zdw (Zby (g.ops.take i))))]) (fun i=>i<=g.ops.length∧(∀ (j:Nat) (o:Opr),j < i->g.ops[j]?=some o->ZaG o.name=true∧Zbl (Zby (g.ops.take j)) o.name=false)∧(∀ o∈g.ops.take i,DeclsOk g.sorts o)) (fun i=>g.ops.length - i) (0) (⟨Taj _,fun j o h=>absurd h om,fun o h=>by simp at h⟩) (fun i hi=>?_);clear F
 obtain ⟨hil,hnm,hdc⟩:=hi;by_cases hlt:i < g.ops.length
 ·have q1:(i:Int) < (g.ops.length:Int):=om;obtain ⟨o,ho⟩:∃ o,g.ops[i]?=some o:=⟨_,Taa hlt⟩;have hom:=Tac ho;have hw:=Zau (k:=i) om;have hfs:=ZlI (Zby (g.ops.take i)) o.name;have hbad:¬ (ZaG o.name=true∧Zbl (Zby (g.ops.take i)) o.name=false)->ZcX g=false:=fun h=>hno fun hs=>h (hs.names i o ho);have hbad2:Zcn g.sorts o=false->ZcX g=false:=fun h=>hno fun hs=>by rw [Ze4 (hs.decls o hom)] at h;cases h
  have cN:=Ze5 (hg.2 o hom).1;have cD:=Zn5 hs o;rw [ZbZ,Zd8] at cD;refine fN 8 (aj3 @q1 @ho @Zan) ?_;refine gB ?_;have F:=@e0P;refine gP 3 ?_;clear F
  cases hh:Zbl (Zby (g.ops.take i)) o.name with
  | true =>
   rw [hh] at hfs hbad;have hf:=hbad fun h=>by cases h.2
   refine (have F:=e0P;gLk 24 Zgi Zhy ZjP (v:=.bool true) (by rw [hfs];rfl) ?_);refine fR @e0P ?_;exact fT @hf
  | false =>
  rw [hh] at hfs hbad;refine (have F:=e0P;gLk 24 Zgi Zhy ZjP (v:=.bool false) (by rw [hfs];rfl) ?_);refine fC @e0P (cN) ?_
  cases hn:ZaG o.name with
  | false =>
   have hf:=hbad fun h=>by rw [hn] at h;cases h.1
   refine fR @e0P ?_;exact fT @hf
  | true =>
  refine fC @Zh3 (cD) ?_
  cases hd:Zcn g.sorts o with
  | false =>
   have hf:=hbad2 hd;refine fR @e0P ?_;exact fT @hf
  | true =>
  have hq:i+1<=g.ops.length∧(∀ (j:Nat) (o:Opr),j < i+1->g.ops[j]?=some o->ZaG o.name=true∧Zbl (Zby (g.ops.take j)) o.name=false)∧(∀ o∈g.ops.take (i+1),DeclsOk g.sorts o):=⟨hlt,fun j o' hj ho'=>by
   by_cases e:j=i
   ·subst e;rw [ho] at ho';injection ho' with ho'
    subst ho';exact ⟨hn,hh⟩
   ·exact hnm j o' om ho',fun o' ho'=>by
   rw [ZcA ho] at ho';rcases Tbh.1 ho' with h | h
   ·exact hdc o' h
   ·rw [Tbj.1 h];exact Zkj.1 hd⟩
  have hsn:=ZqR ho;refine fR @e0P ?_;refine fN 10 @e0P ?_;refine gB ?_;have F:=@e0P;refine gP 3 ?_;clear F;refine (have F:=e0P;gUp 24 Zgi Zhy (by rw [hfs];rfl) ?_);rw [hsn];refine fR @e0P ?_;have F:=@hw;refine gG ?_;exact ⟨i+1,hq,gw,gw,om⟩
 obtain rfl:i=g.ops.length:=by omega
 have q1:¬ ((g.ops.length:Int) < (g.ops.length:Int)):=om;rw [Tap] at hdc;have hnames:∀ (i:Nat) (o:Opr),g.ops[i]?=some o->ZaG o.name=true∧Zbl (Zby (g.ops.take i)) o.name=false:=fun i o ho=>hnm i o (Tad.1 ho).1 ho;refine fG @q1 ?_;have F:=@e0P;refine gL (ι:=Nat) [2,9,55,56,63] [] (fun k=>[(55,A.d (.one (.lit (.int .i64 k))))]) (fun k=>[]) (fun k=>k<=g.ops.length∧∀ o∈g.ops.take k,AxOk g o) (fun k=>g.ops.length - k) (0) (⟨Taj _,fun o h=>by simp at h⟩) (fun k hk=>?_);clear F
 obtain ⟨hkl,hax⟩:=hk;by_cases hlk:k < g.ops.length;rotate_left
 ·obtain rfl:k=g.ops.length:=by omega
  rw [Tap] at hax;have q2:¬ ((g.ops.length:Int) < (g.ops.length:Int)):=om;have ht:=Zf4 ⟨hs,h14,hnames,hdc,hax⟩;exact fT (ai @q2 @ht)
 have q2:(k:Int) < (g.ops.length:Int):=om;obtain ⟨o,ho⟩:∃ o,g.ops[k]?=some o:=⟨_,Taa hlk⟩;have hom:=Tac ho;have hw:=Zau (k:=k) om;have cA:=ZmJ hs hdc hom h14;rw [ZbZ,Zd8,ZaN] at cA;refine fB (aj3 @q2 @ho @Zan) ?_;refine fC @Zh3 (cA) ?_
 cases ha:axOk g o with
 | false =>
  have hf:=hno fun h=>by rw [ZdG (h.axs o hom)] at ha;cases ha
  refine fR @e0P ?_;exact fT @hf
 | true =>
 have hq:k+1<=g.ops.length∧∀ o∈g.ops.take (k+1),AxOk g o:=⟨hlk,fun o' ho'=>by
  rw [ZcA ho] at ho';rcases Tbh.1 ho' with h | h
  ·exact hax o' h
  ·rw [Tbj.1 h];exact Zpm.1 ha⟩
 refine fR @e0P ?_;have F:=@hw;refine gG ?_;exact ⟨k+1,hq,gw,gw,om⟩
theorem ZqT (hg:Zdt g):Con e0 47 [.agg (ZaN g)] [.one (.lit (.bool (ZcX g)))]:=by
 have hno:¬ SgnOk g->ZcX g=false:=Zhe;have cS:=Zn4 hg.1;rw [Zbr] at cS;rw [ZaN];refine gI 599807422667317870655 Tryz.func47 ?_;refine fB @e0P ?_;refine fC @e0P (cS) ?_
 cases hss:ZbV g.sorts with
 | false =>
  have hf:=hno fun h=>by rw [Ze3 h.sorts] at hss;cases hss
  refine fR @e0P ?_;exact fT @hf
 | true =>
 have hs:=ZqL.1 hss;by_cases h14:g.ops.length<=14;rotate_left
 ·have z1:=lT 14 g.ops.length;have hf:=hno fun h=>h14 h.len;refine fR @z1 ?_;exact fT @hf
 have z1:=lF 14 g.ops.length;refine fR @z1 ?_;refine fG @e0P ?_;have F:=@e0P;refine gL (ι:=Nat) [2,3,4,20,40,43,58] [] (fun i=>[(3,A.d (.one (.lit (.int .i64 i))))]) (fun i=>[]) (fun i=>i<=g.ops.length∧(∀ (j:Nat) (o:Opr),j < i->g.ops[j]?=some o->ZaG o.name=true∧Zbl (Zby (g.ops.take j)) o.name=false)∧(∀ o∈g.ops.take i,DeclsOk g.sorts o)) (fun i=>g.ops.length - i) (0) (⟨Taj _,fun j o h=>absurd h om,fun o h=>by simp at h⟩) (fun i hi=>?_);clear F
 obtain ⟨hil,hnm,hdc⟩:=hi;by_cases hlt:i < g.ops.length
 ·have q1:(i:Int) < (g.ops.length:Int):=om;obtain ⟨o,ho⟩:∃ o,g.ops[i]?=some o:=⟨_,Taa hlt⟩;have hom:=Tac ho;have hw:=Zau (k:=i) om;have hbad:¬ (ZaG o.name=true∧Zbl (Zby (g.ops.take i)) o.name=false)->ZcX g=false:=fun h=>hno fun hs=>h (hs.names i o ho);have hbad2:Zcn g.sorts o=false->ZcX g=false:=fun h=>hno fun hs=>by rw [Ze4 (hs.decls o hom)] at h;cases h
  have cN:=Ze6 (hg.2 o hom).1;have cD:=ZqQ (g:=g) hs o;rw [ZbZ,ZaN] at cD;refine fB @q1 ?_;refine fC (ai @ho @Zan) (cN) ?_
  cases hn:ZaG o.name with
  | false =>
   have hf:=hbad fun h=>by rw [hn] at h;cases h.1
   refine fR @e0P ?_;exact fT @hf
  | true =>
  refine fC (ai @ho @Zan) (cD) ?_
  cases hd:Zcn g.sorts o with
  | false =>
   have hf:=hbad2 hd;refine fR @e0P ?_;exact fT @hf
  | true =>
  refine fR @e0P ?_;refine fG @e0P ?_;have F:=@e0P;refine gL (ι:=Nat) [2,4,43,58] [] (fun k=>[(4,A.d (.one (.lit (.int .i64 k))))]) (fun k=>[]) (fun k=>k<=i∧Zbl (Zby (g.ops.take k)) o.name=false) (fun k=>i - k) (0) (⟨Taj _,rfl⟩) (fun k hk=>?_);clear F;obtain ⟨hkl,hseen⟩:=hk;by_cases hlk:k < i
  ·have q2:(k:Int) < (i:Int):=om;obtain ⟨p,hp⟩:∃ o,g.ops[k]?=some o:=⟨_,Taa om⟩;have hw2:=Zau (k:=k) om;have hsn:=ZqN (Zby (g.ops.take k)) p.name o.name;rw [hseen,Bool.false_or,ZsM,<- Zi3 hp] at hsn
   cases hb:(p.name.toList==o.name.toList) with
   | true =>
    rw [hb] at hsn;have hbp:(p.name.toList==o.name.toList)=true:=hb;have hf:=hbad fun h=>by
     obtain ⟨m,hm⟩:∃ m,i=k+1+m:=⟨i - (k+1),om⟩;have h2:=h.2;rw [ZqS hm hsn] at h2
     cases h2
    exact fT (aj6 @q2 @ho @hp @Zan @hb @hf)
   | false =>
    rw [hb] at hsn;have F:=aj6 @q2 @ho @hp @Zan @hb @hw2;refine gG ?_;exact ⟨k+1,⟨hlk,hsn⟩,gw,gw,om⟩
  obtain rfl:k=i:=by omega
  have q2:=lF k k;have hq:k+1<=g.ops.length∧(∀ (j:Nat) (o:Opr),j < k+1->g.ops[j]?=some o->ZaG o.name=true∧Zbl (Zby (g.ops.take j)) o.name=false)∧(∀ o∈g.ops.take (k+1),DeclsOk g.sorts o):=⟨hlt,fun j o' hj ho'=>by
   by_cases e:j=k
   ·subst e;rw [ho] at ho';injection ho' with ho'
    subst ho';exact ⟨hn,hseen⟩
   ·exact hnm j o' om ho',fun o' ho'=>by
   rw [ZcA ho] at ho';rcases Tbh.1 ho' with h | h
   ·exact hdc o' h
   ·rw [Tbj.1 h];exact Zkj.1 hd⟩
  have F:=ai @q2 @hw;refine gG ?_;exact ⟨k+1,hq,gw,gw,om⟩
 obtain rfl:i=g.ops.length:=by omega
 have q1:¬ ((g.ops.length:Int) < (g.ops.length:Int)):=om;rw [Tap] at hdc;have hnames:∀ (i:Nat) (o:Opr),g.ops[i]?=some o->ZaG o.name=true∧Zbl (Zby (g.ops.take i)) o.name=false:=fun i o ho=>hnm i o (Tad.1 ho).1 ho;refine fG @q1 ?_;have F:=@e0P;refine gL (ι:=Nat) [2,5,63,69] [] (fun k=>[(5,A.d (.one (.lit (.int .i64 k))))]) (fun k=>[]) (fun k=>k<=g.ops.length∧∀ o∈g.ops.take k,AxOk g o) (fun k=>g.ops.length - k) (0) (⟨Taj _,fun o h=>by simp at h⟩) (fun k hk=>?_);clear F
 obtain ⟨hkl,hax⟩:=hk;by_cases hlk:k < g.ops.length;rotate_left
 ·obtain rfl:k=g.ops.length:=by omega
  rw [Tap] at hax;have q2:¬ ((g.ops.length:Int) < (g.ops.length:Int)):=om;have ht:=Zf4 ⟨hs,h14,hnames,hdc,hax⟩;exact fT (ai @q2 @ht)
 have q2:(k:Int) < (g.ops.length:Int):=om;obtain ⟨o,ho⟩:∃ o,g.ops[k]?=some o:=⟨_,Taa hlk⟩;have hom:=Tac ho;have hw:=Zau (k:=k) om;have cA:=Zps hs hdc ho h14;rw [ZaN] at cA;refine fB @q2 ?_;refine fC @e0P (cA) ?_
 cases ha:axOk g o with
 | false =>
  have hf:=hno fun h=>by rw [ZdG (h.axs o hom)] at ha;cases ha
  refine fR @e0P ?_;exact fT @hf
 | true =>
 have hq:k+1<=g.ops.length∧∀ o∈g.ops.take (k+1),AxOk g o:=⟨hlk,fun o' ho'=>by
  rw [ZcA ho] at ho';rcases Tbh.1 ho' with h | h
  ·exact hax o' h
  ·rw [Tbj.1 h];exact Zpm.1 ha⟩
 refine fR @e0P ?_;have F:=@hw;refine gG ?_;exact ⟨k+1,hq,gw,gw,om⟩
end
theorem Zeg (s:ByteArray):(s.toList==ByteArray.toList { data:=#[] })=decide (s=ByteArray.empty):=by
 rw [Bool.eq_iff_iff,beq_iff_eq,decide_eq_true_iff,ByteArray.toList_eq,ByteArray.toList_eq];constructor
 ·intro h
  cases s with
  | mk d =>
   have:d=#[]:=by apply Array.toList_inj.1;exact h
   rw [this];rfl
 ·rintro rfl;rfl
def encX (g:Sgn) (mc:C):List C:=[.sl ((Zb0 (up g.sorts)).map Zb1),.sl ((Zb0 (down g.sorts)).map Zb1),.sl ((Zb0 (kinds g.sorts)).map Zb1),.sl (g.sorts.names.map Zd6),.sl (g.sorts.subs.map Zen),.sl (g.ops.map ZbZ),mc]
theorem Zcr:∀ (g:Sgn) (mc:C),encX g mc=[.sl ((Zb0 (up g.sorts)).map Zb1),.sl ((Zb0 (down g.sorts)).map Zb1),.sl ((Zb0 (kinds g.sorts)).map Zb1),.sl (g.sorts.names.map Zd6),.sl (g.sorts.subs.map Zen),.sl (g.ops.map ZbZ),mc]:=fun _ _=>rfl
theorem ZB0 {s:Srt} (h:SortsOk s):(up s).length=s.names.length:=(ZhX (SortsOk.subsIn h.subs)).1
theorem ZgC {s:Srt} (h:SortsOk s) {k:Int} (h0:0<=k) (h1:k < s.names.length):(Zb0 (kinds s))[k.toNat]?=some ((kd s k:Nat):Int):=by
 have hk:=ZhZ (SortsOk.subsIn h.subs);have hl:k.toNat < (kinds s).length:=by rw [hk.1];omega
 unfold Zb0 kd;rw [Tba,Taa hl];simp [List.getD,Taa hl]
def ZbI (g:Sgn) (t:Tm):Prop:=t.op=-1∧ZaG t.name=true∧0<=t.sort∧t.sort < g.sorts.names.length∧t.args=[]
open Classical in
noncomputable def Zh4 (g:Sgn) (t:Tm):Bool:=decide (ZbI g t)
structure AppOk (g:Sgn) (t:Tm) (o:Opr) (d:Dcl):Prop where
 lo:0<=t.op
 at':g.ops[t.op.toNat]?=some o
 fst:o.decls[0]?=some d
 nm:t.name=ByteArray.empty
 so:t.sort=0
 asc:o.assoc=true->2<=t.args.length∧t.args.length<=7
 nas:o.assoc=false->t.args.length=d.args.length
def Zc7 (g:Sgn) (t:Tm):Prop:=ZbI g t∨∃ o d,AppOk g t o d
def ZtA (g:Sgn) (op:Int):Int:=((g.ops[op.toNat]?.bind (·.decls[0]?)).map (·.res)).getD 0
def ZaO (g:Sgn) (t:Tm):Int:=if t.op=-1 then kd g.sorts t.sort else kd g.sorts (ZtA g t.op)
def argAt (o:Opr) (i:Nat):Nat:=if o.assoc=true then 0 else i
theorem ZjS:∀ (o:Opr) (i:Nat),argAt o i=if o.assoc=true then 0 else i:=fun _ _=>rfl
structure ArgOk (g:Sgn) (op:Int) (o:Opr) (d:Dcl) (args:List Tm) (i:Nat) (a:Tm):Prop where
 kind:∀ k,d.args[argAt o i]?=some k->ZaO g a=kd g.sorts k
 nest:o.assoc=true->a.op≠op
 unit:o.unit≠0->a.op≠o.unit - 1
 ord:o.comm=true->∀ (j:Nat) p,i=j+1->args[j]?=some p->Zah p a<=0
def Zhz (g:Sgn) (op:Int) (args:List Tm):Prop:=∀ o d,g.ops[op.toNat]?=some o->o.decls[0]?=some d->∀ (i:Nat) a,args[i]?=some a->ArgOk g op o d args i a
mutual
def ZaI (g:Sgn):Tm->Prop
 | .mk op nm so args=>Zc7 g (.mk op nm so args)∧Zda g args∧(op=-1∨Zhz g op args)
def Zda (g:Sgn):List Tm->Prop
 | []=>True
 | t::ts=>ZaI g t∧Zda g ts
end
theorem Zhf {g:Sgn} {ts:List Tm}:Zda g ts ↔ ∀ a∈ts,ZaI g a:=by
 induction ts with
 | nil=>simp [Zda]
 | cons t ts ih=>simp [Zda,ih]
theorem Zbd {g:Sgn} {t:Tm}:ZaI g t ↔ Zc7 g t∧(∀ a∈t.args,ZaI g a)∧(t.op=-1∨Zhz g t.op t.args):=by
 cases t
 simp only [ZaI,Zhf,Tm.args,Tm.op]
theorem ZaI.node {g:Sgn} {t:Tm} (h:ZaI g t):Zc7 g t:=(Zbd.1 h).1
open Classical in
noncomputable def ZbM (g:Sgn) (t:Tm):Bool:=decide (ZaI g t)
theorem ZfA {g:Sgn} {t:Tm} (h:ZaI g t):ZbM g t=true:=by simp [ZbM,h]
theorem Zi7 {g:Sgn} {t:Tm} (h:¬ ZaI g t):ZbM g t=false:=by simp [ZbM,h]
theorem Zf5 {g:Sgn} {t:Tm}:ZbM g t=true ↔ ZaI g t:=by simp [ZbM]
theorem SgnOk.first {g:Sgn} (h:SgnOk g) {i:Nat} {o:Opr} (ho:g.ops[i]?=some o):∃ d,o.decls[0]?=some d∧(0:Int)<=d.res∧d.res < (g.sorts.names.length:Int)∧∀ k:Int,k∈d.args->0<=k∧k < (g.sorts.names.length:Int):=by
 have hm:=Tac ho;obtain ⟨d,hd,hD⟩:=(h.decls o hm).first;exact ⟨d,hd,hD.res.1,hD.res.2,hD.args⟩
theorem Zh5 {g:Sgn} {op:Int} {o:Opr} {d:Dcl} (ho:g.ops[op.toNat]?=some o) (hd:o.decls[0]?=some d):ZtA g op=d.res:=by simp [ZtA,ho,hd]
theorem AppOk.op {g:Sgn} {t:Tm} {o:Opr} {d:Dcl} (h:AppOk g t o d):t.op≠-1:=by have:=h.lo;omega
section
variable {g:Sgn} {mc:C}
theorem ZBk (hg:SgnOk g) (k:Int):Con e0 132 [.agg [.sl ((Zb0 (up g.sorts)).map Zb1),.sl ((Zb0 (down g.sorts)).map Zb1),.sl ((Zb0 (kinds g.sorts)).map Zb1)],.one (.lit (.int .i64 k))] [.one (.lit (.bool (decide (0<=k∧k < g.sorts.names.length))))]:=by
 have hl:=ZB0 hg.sorts;refine gI 23 Tryz.func132 ?_;by_cases h0:0<=k
 ·have e:decide (0<=k∧k < (g.sorts.names.length:Int))=decide (k < (g.sorts.names.length:Int)):=by simp [h0]
  rw [e];exact fT (aj3 @h0 @Zni @hl)
 ·have e:decide (0<=k∧k < (g.sorts.names.length:Int))=false:=by simp [h0]
  rw [e];exact fT @h0
theorem Zh6 (hg:SgnOk g) {t:Tm} (ht:Zc7 g t):Con e0 64 [.one (.ptr (encX g mc)),.agg (Zab t)] [.one (.lit (.int .i64 (ZaO g t)))]:=by
 refine gI 155 Tryz.func64 ?_;rcases ht with ⟨h1,h2,h3,h4,h5⟩ | ⟨o,d,h⟩
 ·have hn:(-1:Int) < 0:=om;have hk:=ZgC hg.sorts h3 h4;have e:ZaO g t=kd g.sorts t.sort:=by simp [ZaO,h1]
  exact fT (aj8 @tmz @h1 @hn @Zcr @h3 @hk @Zbf @e)
 ·have hn:¬ (t.op < 0):=by have:=h.lo;omega
  obtain ⟨d',hd',hr0,hr1,_⟩:=hg.first h.at';rw [h.fst] at hd';injection hd' with hd'
  subst hd';have hk:=ZgC hg.sorts hr0 hr1;have e:ZaO g t=kd g.sorts d.res:=by simp [ZaO,h.op,Zh5 h.at' h.fst]
  have hlo:=h.lo;have hat:=h.at';have hfst:=h.fst;exact fT (aj12 @tmz @hn @Zcr @hlo @hat @Zan @hfst @ZaV @hr0 @hk @Zbf @e)
theorem Zkm (hg:SgnOk g) {op:Int} {i:Nat} {o:Opr} {d:Dcl} {k:Int} (h0:0<=op) (ho:g.ops[op.toNat]?=some o) (hd:o.decls[0]?=some d) (hk:d.args[argAt o i]?=some k):Con e0 135 [.one (.ptr (encX g mc)),.one (.lit (.int .i64 op)),.one (.lit (.int .i64 i))] [.one (.lit (.int .i64 (kd g.sorts k)))]:=by
 obtain ⟨d',hd',_,_,hk0⟩:=hg.first ho;rw [hd] at hd';injection hd' with hd'
 subst hd';obtain ⟨k0,k1⟩:=hk0 k (Tac hk);have hkd:=ZgC hg.sorts k0 k1;refine gI 131271 Tryz.func135 ?_;unfold argAt at hk
 cases ha:o.assoc with
 | true =>
  rw [ha] at hk;simp only [↓reduceIte] at hk;exact fT (aj11 @Zcr @h0 @ho @Zan @ha @hd @ZaV @hk @k0 @hkd @Zbf)
 | false =>
  rw [ha] at hk;simp only [Tam,↓reduceIte] at hk;exact fT (aj11 @Zcr @h0 @ho @Zan @ha @hd @ZaV @hk @k0 @hkd @Zbf)
theorem ZlR (hg:SgnOk g) {op:Int} {o:Opr} (h0:0<=op) (ho:g.ops[op.toNat]?=some o) (t:Tm):Con e0 136 [.one (.ptr (encX g mc)),.one (.lit (.int .i64 op)),.agg (Zab t)] [.one (.lit (.bool (decide (o.unit≠0∧t.op=o.unit - 1))))]:=by
 have hax:=hg.axs o (Tac ho);have hlo:=hax.lo;have hhi:=hax.hi;have hln:=hg.len;have hw:IntKind.i64.wrap (o.unit - 1)=o.unit - 1:=Za4 rfl om om;refine gI 103 Tryz.func136 ?_;by_cases hu:o.unit=0
 ·have e:decide (o.unit≠0∧t.op=o.unit - 1)=false:=by simp [hu]
  rw [e];exact fT (aj6 @Zcr @tmz @h0 @ho @Zan @hu)
 ·have e:decide (o.unit≠0∧t.op=o.unit - 1)=decide (t.op=o.unit - 1):=by simp [hu]
  rw [e];exact fT (aj7 @Zcr @tmz @h0 @ho @Zan @hu @hw)
theorem ZmL (hg:SgnOk g) {t:Tm} (hs:t.name.size<=maxLen):Con e0 134 [.one (.ptr (encX g mc)),.agg (Zab t)] [.one (.lit (.bool (Zh4 g t)))]:=by
 have hno:¬ ZbI g t->Zh4 g t=false:=fun h=>by simp [Zh4,h]
 refine gI 27 Tryz.func134 ?_;refine fG @tmz ?_;by_cases h1:t.op=-1;rotate_left
 ·have hf:=hno fun h=>h1 h.1;exact fT (aj3 @tmz @h1 @hf)
 refine gB ?_;refine fC (ai @tmz @h1) (Ze5 hs) ?_;by_cases h2:ZaG t.name=true;rotate_left
 ·have hf:=hno fun h=>h2 h.2.1;have h2':ZaG t.name=false:=by simpa using h2
  refine fR (ai @tmz @h2') ?_;exact fT (ai @tmz @hf)
 refine fC (aj3 @tmz @h2 @Zcr) (ZBk hg t.sort) ?_;by_cases h3:0<=t.sort∧t.sort < g.sorts.names.length;rotate_left
 ·have hf:=hno fun h=>h3 ⟨h.2.2.1,h.2.2.2.1⟩;have h3':decide (0<=t.sort∧t.sort < (g.sorts.names.length:Int))=false:=by simp only [decide_eq_false_iff_not];exact h3
  refine fR (ai @tmz @h3') ?_;exact fT (ai @tmz @hf)
 have h3':decide (0<=t.sort∧t.sort < (g.sorts.names.length:Int))=true:=by simp only [decide_eq_true_eq];exact h3
 by_cases h4:t.args=[]
 ·have hT:Zh4 g t=true:=by simp only [Zh4,decide_eq_true_eq];exact ⟨h1,h2,h3.1,h3.2,h4⟩
  refine fR (aj3 @tmz @h3' @h4) ?_;exact fT (ai @tmz @hT)
 ·have hf:=hno fun h=>h4 h.2.2.2.2;have h4':¬ ((t.args.length:Int)=0):=by
   intro h;apply h4;apply Tao;omega
  refine fR (aj3 @tmz @h3' @h4') ?_;exact fT (ai @tmz @hf)
end
theorem Zff {t:Tm}:okTm t ↔ I64 t.op∧t.name.size<=maxLen∧I64 t.sort∧Zax t.args:=by cases t;simp only [okTm,Tm.op,Tm.name,Tm.sort,Tm.args]
theorem Za3 (t:Tm):sizeTm t=1+sizeTms t.args:=by cases t;simp only [sizeTm,Tm.args]
theorem Zdg (t:Tm):depthTm t=1+depthTms t.args:=by cases t;simp only [depthTm,Tm.args]
theorem ZtB {g:Sgn} {t:Tm} (h:t.op=-1):ZbM g t=Zh4 g t:=by
 unfold ZbM Zh4;congr 1;rw [Zbd];apply propext;constructor
 ·rintro ⟨h1 | ⟨o,d,h1⟩,_⟩
  ·exact h1
  ·have:=h1.lo;omega
 ·intro h1;exact ⟨.inl h1,fun a ha=>(by rw [h1.2.2.2.2] at ha;cases ha),.inl h⟩
theorem Zc7.app {g:Sgn} {t:Tm} (h:Zc7 g t) (hop:t.op≠-1):∃ o d,AppOk g t o d:=by
 rcases h with h | h
 ·exact absurd h.1 hop
 ·exact h
theorem ZgZ {g:Sgn} (hg:SgnOk g) {i:Nat} {o:Opr} {d:Dcl} {n j:Nat} (ho:g.ops[i]?=some o) (hd:o.decls[0]?=some d) (nas:o.assoc=false->n=d.args.length) (hj:j < n):∃ k,d.args[argAt o j]?=some k:=by
 unfold argAt
 cases ha:o.assoc with
 | true =>
  have h2:=((hg.axs o (Tac ho)).two (.inl ha) d hd).1;exact ⟨_,Taa (by simp only [↓reduceIte];omega)⟩
 | false=>exact ⟨_,Taa (by simp only [Tam,↓reduceIte];have:=nas ha;omega)⟩
section
variable {g:Sgn} {mc:C}
theorem ZkL (hg:SgnOk g):∀ (n:Nat) (t:Tm),sizeTm t < n->okTm t->sizeTm t<=big->Con e0 103 [.one (.ptr (encX g mc)),.agg (Zab t)] [.one (.lit (.bool (ZbM g t)))]:=by
 intro n
 induction n with
 | zero=>intro t h;omega
 | succ n ih =>
  intro t hn hok hb;have hno:¬ ZaI g t->ZbM g t=false:=Zi7;obtain ⟨k1,k2,k3,k4⟩:=Zff.1 hok;have hsz:=Za3 t;have hal:=ZbB t.args;unfold big at hb;refine gI 43556142965880125627826793391928073259515 Tryz.func103 ?_;by_cases h1:t.op=-1
  ·have e:=ZtB (g:=g) h1;rw [e];refine fB (ai @tmz @h1) ?_;refine fC (ai @tmz @h1) (ZmL hg k2) ?_;refine fR @tmz ?_;exact fT @tmz
  by_cases h2:t.op < 0
  ·have hf:=hno fun h=>by
    obtain ⟨o,d,h⟩:=h.node.app h1;have:=h.lo;omega
   exact fT (aj4 @tmz @h1 @h2 @hf)
  by_cases h3:(g.ops.length:Int)<=t.op
  ·have hf:=hno fun h=>by
    obtain ⟨o,d,h⟩:=h.node.app h1;have:=(Tad.1 h.at').1;omega
   exact fT (aj6 @tmz @h1 @h2 @h3 @Zcr @hf)
  by_cases h4:t.name=ByteArray.empty;rotate_left
  ·have hf:=hno fun h=>by
    obtain ⟨o,d,h⟩:=h.node.app h1;exact h4 h.nm
   exact fT (aj8 @tmz @h1 @h2 @h3 @Zcr @Zeg @h4 @hf)
  by_cases h5:t.sort=0;rotate_left
  ·have hf:=hno fun h=>by
    obtain ⟨o,d,h⟩:=h.node.app h1;exact h5 h.so
   exact fT (aj9 @tmz @h1 @h2 @h3 @Zcr @Zeg @h4 @h5 @hf)
  have h0:0<=t.op:=om;obtain ⟨o,ho⟩:∃ o,g.ops[t.op.toNat]?=some o:=⟨_,Taa om⟩;obtain ⟨d,hd,hr0,hr1,hargs⟩:=hg.first ho;have hgt:ZaI g t->AppOk g t o d:=fun h=>by
   obtain ⟨o',d',h⟩:=h.node.app h1;have e1:=h.at';rw [ho] at e1;injection e1 with e1
   subst e1;have e2:=h.fst;rw [hd] at e2;injection e2 with e2
   subst e2;exact h
  by_cases hW:(o.assoc=true->2<=t.args.length∧t.args.length<=7)∧(o.assoc=false->t.args.length=d.args.length);rotate_left
  ·have hf:=hno fun h=>hW ⟨(hgt h).asc,(hgt h).nas⟩
   cases ha:o.assoc with
   | true =>
    by_cases c1:t.args.length < 2
    ·have c1':(t.args.length:Int) < 2:=om;exact fT (aj14 @tmz @h1 @h2 @h3 @Zcr @Zeg @h4 @h5 @h0 @ho @Zan @ha @c1' @hf)
    ·have c1':¬ ((t.args.length:Int) < 2):=om;have c2:(7:Int) < (t.args.length:Int):=by
      by_cases c2:t.args.length<=7
      ·exact absurd ⟨fun _=>⟨om,c2⟩,fun h=>by rw [ha] at h;cases h⟩ hW
      ·omega
     exact fT (aj15 @tmz @h1 @h2 @h3 @Zcr @Zeg @h4 @h5 @h0 @ho @Zan @ha @c1' @c2 @hf)
   | false =>
    have c3:¬ ((t.args.length:Int)=(d.args.length:Int)):=fun c=>hW ⟨fun h=>(by rw [ha] at h;cases h),fun _=>om⟩;exact fT (aj16 @tmz @h1 @h2 @h3 @Zcr @Zeg @h4 @h5 @h0 @ho @Zan @ha @hd @ZaV @c3 @hf)
  have hA:AppOk g t o d:=⟨h0,ho,hd,h4,h5,hW.1,hW.2⟩;refine fG (aj11 @tmz @h1 @h2 @h3 @Zcr @Zeg @h4 @h5 @h0 @ho @Zan) ?_;refine gM (ι:=Unit) [75] [] (fun u=>[(75,A.d (.one (.lit (.bool false))))]) (fun u=>[]) (fun u=>True) ?_ (fun u hu=>Exists.intro _ (ai (Wk.refl _) ?_))
  ·cases ha:o.assoc with
   | true =>
    have c:=hW.1 ha;have c1':¬ ((t.args.length:Int) < 2):=om;have c2:¬ ((7:Int) < (t.args.length:Int)):=om;have F:=aj5 @tmz @Zan @ha @c1' @c2;refine gG ?_;exact ⟨(),trivial,gw,gw⟩
   | false =>
    have c3:((t.args.length:Int)=(d.args.length:Int)):=by have:=hW.2 ha;omega
    have F:=aj6 @tmz @Zan @ha @hd @ZaV @c3;refine gG ?_;exact ⟨(),trivial,gw,gw⟩
  refine fG @tmz ?_;have F:=@e0P;refine gL (ι:=Nat) [4,7,8,79,80,135] [] (fun i=>[(79,A.d (.one (.lit (.int .i64 i))))]) (fun i=>[]) (fun i=>i<=t.args.length∧∀ (j:Nat) a,j < i->t.args[j]?=some a->ZaI g a∧ArgOk g t.op o d t.args j a) (fun i=>t.args.length - i) (0) (⟨om,fun j a h=>absurd h om⟩) (fun i hi=>?_);clear F;obtain ⟨hil,hall⟩:=hi;by_cases hl:i < t.args.length;rotate_left
  ·have hl':¬ ((i:Int) < (t.args.length:Int)):=om;have hT:=ZfA (Zbd.2 ⟨.inr ⟨o,d,hA⟩,fun a ha=>by
     obtain ⟨j,hj⟩:=Tbk ha;exact (hall j a (by have:=(Tad.1 hj).1;omega) hj).1,.inr fun o' d' ho' hd' j a hj=>by
     rw [ho] at ho';injection ho' with ho'
     subst ho';rw [hd] at hd';injection hd' with hd'
     subst hd';exact (hall j a (by have:=(Tad.1 hj).1;omega) hj).2⟩)
   exact fT (ai @hl' @hT)
  have hl':(i:Int) < (t.args.length:Int):=om;obtain ⟨a,ha⟩:∃ a,t.args[i]?=some a:=⟨_,Taa hl⟩;have hm:=Tac ha;have hsa:=Zbu hm;have hw1:=Zau (k:=i) om;have hnoA:¬ ArgOk g t.op o d t.args i a->ZbM g t=false:=fun h=>hno fun hF=>by
   obtain ⟨_,_,h3⟩:=Zbd.1 hF;rcases h3 with h3 | h3
   ·exact h1 h3
   ·exact h (h3 o d ho hd i a ha)
  obtain ⟨k,hk⟩:=ZgZ hg ho hd hA.nas hl;refine fB (aj3 @hl' @tmz @ha) ?_;refine fC @tmz (ih a om (k4.mem hm) (by unfold big;omega)) ?_;by_cases hfa:ZbM g a=true;rotate_left
  ·have hf:=hno fun h=>hfa (ZfA ((Zbd.1 h).2.1 a hm));have hfa':ZbM g a=false:=by simpa using hfa
   refine fR (ai @tmz @hfa') ?_;exact fT @hf
  have hFa:=Zf5.1 hfa;refine fC (ai @tmz @hfa) (Zh6 hg hFa.node) ?_;refine fC @tmz (Zkm hg h0 ho hd hk) ?_;by_cases hkd:ZaO g a=((kd g.sorts k:Nat):Int);rotate_left
  ·have hf:=hnoA fun h=>hkd (h.kind k hk);refine fR (ai @tmz @hkd) ?_;exact fT @hf
  by_cases hN:o.assoc=true∧a.op=t.op
  ·have hf:=hnoA fun h=>h.nest hN.1 hN.2;obtain ⟨hN1,hN2⟩:=hN;refine fR (aj5 @tmz @hkd @Zan @hN1 @hN2) ?_;exact fT @hf
  have hne:o.assoc=true->¬ a.op=t.op:=fun h1 h2=>hN ⟨h1,h2⟩;have cU:=ZlR (mc:=mc) hg h0 ho a;generalize hU:decide (o.unit≠0∧a.op=o.unit - 1)=U at cU;have hnext:(U=false)->(o.comm=true->∀ (j:Nat) p,i=j+1->t.args[j]?=some p->Zah p a<=0)->i+1<=t.args.length∧∀ (j:Nat) a,j < i+1->t.args[j]?=some a->ZaI g a∧ArgOk g t.op o d t.args j a:=fun hU' hc=>⟨om,fun j a' hj ha'=>by
   by_cases e:j=i
   ·subst e;rw [ha] at ha';injection ha' with ha'
    subst ha';refine ⟨hFa,fun k' hk'=>?_,fun h1 h2=>hN ⟨h1,h2⟩,fun h1 h2=>?_,hc⟩
    ·rw [hk] at hk';injection hk' with hk'
     subst hk';exact hkd
    ·rw [hU'] at hU;simp only [decide_eq_false_iff_not] at hU;exact hU ⟨h1,h2⟩
   ·exact hall j a' om ha'⟩
  rcases Bool.eq_false_or_eq_true o.assoc with hac | hac
  all_goals (
   refine fC (aj5 @tmz @hkd @Zan @hac @hne) (cU) ?_;rcases Bool.eq_false_or_eq_true U with hu | hu
   ·have hf:=hnoA fun h=>by
     rw [hu] at hU;simp only [decide_eq_true_eq] at hU;exact h.unit hU.1 hU.2
    refine fR (ai @tmz @hu) ?_;exact fT @hf
   rcases Bool.eq_false_or_eq_true o.comm with hcm | hcm
   rotate_left
   ·have hq:=hnext hu (fun h=>by rw [hcm] at h;cases h);refine fR (aj4 @tmz @hu @Zan @hcm) ?_;have F:=aj5 @hw1 @tmz @Zan @hcm @hac;refine gG ?_;exact ⟨i+1,hq,gw,gw,om⟩
   rcases Nat.eq_zero_or_pos i with hi0 | hi0
   ·have hq:=hnext hu (fun _ j p h=>om);have hi0':¬ ((0:Int) < (i:Int)):=om;refine fR (aj5 @tmz @hu @Zan @hcm @hi0') ?_;have F:=aj5 @hw1 @tmz @Zan @hcm @hac;refine gG ?_;exact ⟨i+1,hq,gw,gw,om⟩
   obtain ⟨j,rfl⟩:∃ j,i=j+1:=⟨i - 1,om⟩;obtain ⟨p,hp⟩:∃ p,t.args[j]?=some p:=⟨_,Taa om⟩;have cC:=ZqJ (k4.mem (Tac hp)) (k4.mem hm);have hgt0:(0:Int) < ((j+1:Nat):Int):=om;have hsub:IntKind.i64.wrap (((j+1:Nat):Int) - 1)=(j:Int):=Za4 om om om;refine fC (aj7 @tmz @hu @Zan @hcm @hgt0 @hsub @hp) (cC) ?_;by_cases hc:0 < Zah p a
   ·have hf:=hnoA fun h=>by have:=h.ord hcm j p rfl hp;omega
    refine fR (ai @tmz @hc) ?_;exact fT @hf
   ·have hq:=hnext hu (fun _ j' p' h hp'=>by
     have:j'=j:=om;subst this;rw [hp] at hp';injection hp' with hp'
     subst hp';omega)
    refine fR (ai @tmz @hc) ?_
    (have F:=aj5 @hw1 @tmz @Zan @hcm @hac;refine gG ?_;exact ⟨j+1+1,hq,gw,gw,om⟩))
theorem Zpw (hg:SgnOk g) {t:Tm} (hok:okTm t) (hb:sizeTm t<=big):Con e0 103 [.one (.ptr (encX g mc)),.agg (Zab t)] [.one (.lit (.bool (ZbM g t)))]:=ZkL hg _ t (Tan _) hok hb
structure TermOk (g:Sgn) (t:Tm):Prop where
 size:sizeTm t<=60
 depth:depthTm t<=20
 form:ZaI g t
open Classical in
noncomputable def Zb3 (g:Sgn) (t:Tm):Bool:=decide (TermOk g t)
theorem ZgD {g:Sgn} {t:Tm} (h:¬ TermOk g t):Zb3 g t=false:=by simp [Zb3,h]
theorem Zeh {g:Sgn} {t:Tm}:Zb3 g t=true ↔ TermOk g t:=by simp [Zb3]
theorem Zhg {g:Sgn} {t:Tm} (h1:sizeTm t<=60) (h2:depthTm t<=20):ZbM g t=Zb3 g t:=by
 unfold ZbM Zb3;congr 1;exact propext ⟨fun h=>⟨h1,h2,h⟩,fun h=>h.form⟩
theorem ZqU (hg:SgnOk g) {t:Tm} (hok:okTm t) (hb:sizeTm t<=big):Con e0 63 [.one (.ptr (encX g mc)),.agg (Zab t)] [.one (.lit (.bool (Zb3 g t)))]:=by
 have hno:¬ TermOk g t->Zb3 g t=false:=ZgD;refine gI 27 Tryz.func63 ?_;refine fB @tmz ?_;refine fC @tmz (Zi5 hb) ?_;by_cases h1:sizeTm t<=60;rotate_left
 ·have h1':¬ ((sizeTm t:Int)<=60):=om;have hf:=hno fun h=>h1 h.size;refine fR (ai @tmz @h1') ?_;exact fT @hf
 have h1':((sizeTm t:Int)<=60):=om;refine fC (ai @tmz @h1') (ZiE hb) ?_;by_cases h2:depthTm t<=20;rotate_left
 ·have h2':¬ ((depthTm t:Int)<=20):=om;have hf:=hno fun h=>h2 h.depth;refine fR (ai @tmz @h2') ?_;exact fT @hf
 have h2':((depthTm t:Int)<=20):=om;refine fC (ai @tmz @h2') (Zpw hg hok hb) ?_;have e:=Zhg (g:=g) h1 h2;refine fR @tmz ?_;exact fT @e
end
mutual
theorem Ze8:∀ {a b:Tm},Zah a b=0->a=b
 | .mk o n s x,.mk o' n' s' x',h=>by
  simp only [Zah,ZaP] at h;split at h
  ·rename_i h1;split at h
   ·rename_i h2;split at h
    ·rename_i h3;split at h
     ·rename_i h4;rw [Zc1.1 h1,Zfu.1 h2,Zc1.1 h3,Zkn h4]
     ·contradiction
    ·contradiction
   ·contradiction
  ·contradiction
theorem Zkn:∀ {a b:List Tm},ZaK a b=0->a=b
 | [],[],_=>rfl
 | [],_::_,h=>by simp [ZaK] at h
 | _::_,[],h=>by simp [ZaK] at h
 | x::xs,y::ys,h=>by
  simp only [ZaK,ZaP] at h;split at h
  ·rename_i h1;split at h
   ·rename_i h2;rw [Ze8 h1,Zkn h2]
   ·contradiction
  ·contradiction
end
mutual
theorem Zdh:∀ (a:Tm),Zah a a=0
 | .mk o n s x=>by simp only [Zah,ZaP,Zc1.2 (rfl:o=o),Zc1.2 (rfl:s=s),Zfu.2 (rfl:n=n),Zko x,if_true]
theorem Zko:∀ (a:List Tm),ZaK a a=0
 | []=>rfl
 | x::xs=>by simp only [ZaK,ZaP,Zdh x,Zko xs,if_true]
end
theorem ZeR {a b:Tm}:Zah a b=0 ↔ a=b:=⟨Ze8,fun h=>h ▸ Zdh a⟩
theorem Zei {a b:Tm} (ha:okTm a) (hb:okTm b):Con e0 90 [.agg (Zab a),.agg (Zab b)] [.one (.lit (.bool (decide (Zah a b=0))))]:=by
 refine gI 31 Tryz.func90 ?_;refine fB @tmz ?_;refine fC @tmz (Zeo ha hb) ?_;refine fR @tmz ?_;exact fT @tmz
section
variable {g:Sgn}
theorem ZmM (hok:Zdt g) (hg:¬ SgnOk g):Con e0 27 [.agg (ZaN g)] [.one (.lit (.pointer none)),.one (.lit (.bool false))]:=by
 have hs:ZcX g=false:=Zhe hg;have c:=Zkl hok;rw [hs,ZaN] at c;refine gI 287 Tryz.func27 ?_;refine fB @Zay ?_;refine fC @Zay (c) ?_;refine fR @Zay ?_;exact fT @Zay
def algR (g:Sgn) (r:List D):Prop:=∃ b:Nat,r=[.one (.ptr (encX g (.lit (.map (some b))))),.one (.lit (.bool true))]
theorem ZqV (hok:Zdt g) (hg:SgnOk g):ConE e0 27 [.agg (ZaN g)] (algR g):=by
 have hs:ZcX g=true:=Zf4 hg;have c:=Zkl hok;rw [hs,ZaN] at c;have c2:=Zi6 hok.1 hg.sorts;rw [Zbr,Zd8] at c2;refine gIE 287 Tryz.func27 ?_;refine fB @Zay ?_;refine fC @Zay (c) ?_;refine fR @Zay ?_;refine fB @Zay ?_;refine fC @Zay (c2) ?_;refine fR @Zay ?_;refine fB @Zay ?_;refine ZyD (by simp only [pz,↓reduceIte,Nat.reduceEqDiff,Nat.reduceAdd,Nat.reduceSub,Nat.reduceMul,Nat.reduceLeDiff,Nat.reduceBEq,Tam,decide_true,decide_false,Int.reduceLE,Int.reduceToNat,Int.reduceLT,Int.reduceEq,eq_self,Nat.reduceShiftRight,Nat.reduceAnd,Nat.reduceBneDiff,ZuK];exact rfl) fun b=>?_
 refine fR @ZjL ?_;refine Zfe (ZCm [19] _ ⟨b,rfl⟩ (by exact snv) ?_);simp [Zco,resA,Zbe,gs,encX,nR]
theorem Zf6 (hok:Zdt g) (hg:SgnOk g) {t:Tm} (ht:Zc7 g t):Con e0 88 [.agg (ZaN g),.agg (Zab t)] [.one (.lit (.int .i64 (ZaO g t)))]:=by
 have c2:=Zeq hg.sorts;rw [Zbr] at c2;refine gI 2111 Tryz.func88 ?_;refine fB (ai @tmz @Zay) ?_;refine fC @Zay (c2) ?_;refine fR @Zay ?_;rcases ht with ⟨h1,h2,h3,h4,h5⟩ | ⟨o,d,h⟩
 ·have hk:=ZgC hg.sorts h3 h4;have e:ZaO g t=kd g.sorts t.sort:=by simp [ZaO,h1]
  exact fT (aj6 @tmz @h1 @h3 @hk @Zbf @e)
 ·have hn:=h.op;obtain ⟨d',hd',hr0,hr1,_⟩:=hg.first h.at';rw [h.fst] at hd';injection hd' with hd'
  subst hd';have hk:=ZgC hg.sorts hr0 hr1;have e:ZaO g t=kd g.sorts d.res:=by simp [ZaO,h.op,Zh5 h.at' h.fst]
  have hlo:=h.lo;have hat:=h.at';have hfst:=h.fst;exact fT (aj11 @tmz @hn @hlo @hat @Zan @hfst @ZaV @hr0 @hk @Zbf @e)
def ZbH (o:Opr):Tm:=.mk (if o.unit=0 then 0 else o.unit - 1) .empty 0 []
theorem ZlS (hg:SgnOk g) {op:Int} {o:Opr} (h0:0<=op) (ho:g.ops[op.toNat]?=some o):Con e0 128 [.agg (ZaN g),.one (.lit (.int .i64 op))] [.agg (Zab (ZbH o)),.one (.lit (.bool (!decide (o.unit=0))))]:=by
 have hax:=hg.axs o (Tac ho);have hlo:=hax.lo;have hhi:=hax.hi;have hln:=hg.len;have hw:IntKind.i64.wrap (o.unit - 1)=o.unit - 1:=Za4 rfl om om;refine gI 4151 Tryz.func128 ?_;by_cases hu:o.unit=0
 ·refine fG (aj5 @Zay @h0 @ho @Zan @hu) ?_;refine Zfe (Zlt ?_);simp [Zco,resA,Zbe,gs,hu,ZbH,Zab,Zaa,gm,ptrA,varA,e0P,pz,tt_0,tt_1]
 ·refine fG (aj6 @Zay @h0 @ho @Zan @hu @hw) ?_;refine Zfe (Zlt ?_);simp [Zco,resA,Zbe,gs,hu,ZbH,Zab,Zaa,gm,ptrA,varA,e0P,pz]
end
def Tri (a b c:Int):Prop:=((a<=0->b<=0->c<=0)∧(a < 0->b<=0->c < 0)∧(a<=0->b < 0->c < 0))∧((0<=a->0<=b->0<=c)∧(0 < a->0<=b->0 < c)∧(0<=a->0 < b->0 < c))
theorem ZlT (p q:Int):ZaP [p,q]=if p=0 then q else p:=by
 simp only [ZaP];split
 ·split <;> simp_all
 ·rfl
theorem Zxq (p q r s:Int):ZaP [p,q,r,s]=ZaP [p,ZaP [q,ZaP [r,s]]]:=by
 simp only [ZlT,ZaP];by_cases h1:p=0 <;> by_cases h2:q=0 <;> by_cases h3:r=0 <;> by_cases h4:s=0 <;> simp [h1,h2,h3,h4]
theorem Tri.lex {a b c a' b' c':Int} (h:Tri a b c) (h':Tri a' b' c'):Tri (ZaP [a,a']) (ZaP [b,b']) (ZaP [c,c']):=by
 simp only [ZlT];unfold Tri at *;by_cases h1:a=0
 ·by_cases h2:b=0
  ·by_cases h3:c=0
   ·simp only [h1,h2,h3,if_true];exact h'
   ·omega
  ·by_cases h3:c=0
   ·omega
   ·simp only [h1,h2,h3,if_true,if_false];omega
 ·by_cases h2:b=0
  ·by_cases h3:c=0
   ·omega
   ·simp only [h1,h2,h3,if_true,if_false];omega
  ·by_cases h3:c=0
   ·simp only [h1,h2,h3,if_true,if_false];omega
   ·simp only [h1,h2,h3,if_false];omega
theorem Zer (p q:Int):ZaP [-p,-q]=-ZaP [p,q]:=by
 simp only [ZlT];by_cases h:p=0
 ·simp [h]
 ·have:¬ -p=0:=om;simp [h,this]
theorem Zh7 (a b c:Int):Tri (ZaW a b) (ZaW b c) (ZaW a c):=by
 unfold Tri ZaW;by_cases h1:a < b <;> by_cases h2:b < c <;> by_cases h3:a < c <;> by_cases h4:b < a <;> by_cases h5:c < b <;> by_cases h6:c < a <;> simp only [h1,h2,h3,h4,h5,h6,if_true,if_false] <;> omega
theorem Zh8 (a b:Int):ZaW b a=-ZaW a b:=by
 unfold ZaW;by_cases h1:a < b <;> by_cases h2:b < a <;> simp only [h1,h2,if_true,if_false] <;> omega
theorem Zhh (x y:UInt8) (xs ys:List UInt8):Lib.compareBytes (x::xs) (y::ys)=ZaP [ZaW x.toNat y.toNat,Lib.compareBytes xs ys]:=by
 rw [ZlT];simp only [Lib.compareBytes,ZaW,UInt8.lt_iff_toNat_lt];by_cases h1:x.toNat < y.toNat
 ·have:((x.toNat:Int) < y.toNat):=om;simp [h1,this]
 ·have h1':¬ ((x.toNat:Int) < y.toNat):=om;by_cases h2:y.toNat < x.toNat
  ·have:((y.toNat:Int) < x.toNat):=om;simp [h1,h2,h1',this]
  ·have:¬ ((y.toNat:Int) < x.toNat):=om;simp [h1,h2,h1',this]
theorem Znu:∀ (a b c:List UInt8),Tri (Lib.compareBytes a b) (Lib.compareBytes b c) (Lib.compareBytes a c)
 | [],[],[]=>by simp [Lib.compareBytes,Tri]
 | [],[],_::_=>by simp [Lib.compareBytes,Tri]
 | [],_::_,[]=>by simp [Lib.compareBytes,Tri]
 | [],y::ys,z::zs=>by
  have:Lib.compareBytes [] (y::ys)=-1:=rfl;have h2:Lib.compareBytes [] (z::zs)=-1:=rfl;rw [this,h2];unfold Tri;omega
 | _::_,[],[]=>by simp [Lib.compareBytes,Tri]
 | x::xs,[],z::zs=>by
  have:Lib.compareBytes (x::xs) []=1:=rfl;have h2:Lib.compareBytes [] (z::zs)=-1:=rfl;rw [this,h2];unfold Tri;omega
 | x::xs,y::ys,[]=>by
  have:Lib.compareBytes (x::xs) []=1:=rfl;have h2:Lib.compareBytes (y::ys) []=1:=rfl;rw [this,h2];unfold Tri;omega
 | x::xs,y::ys,z::zs=>by
  simp only [Zhh];exact (Zh7 _ _ _).lex (Znu xs ys zs)
theorem Znv:∀ (a b:List UInt8),Lib.compareBytes b a=-Lib.compareBytes a b
 | [],[]=>rfl
 | [],_::_=>rfl
 | _::_,[]=>rfl
 | x::xs,y::ys=>by rw [Zhh,Zhh,Zh8,Znv xs ys,Zer]
mutual
theorem Zcc:∀ (a b:Tm),Zah b a=-Zah a b
 | .mk o n s a,.mk o' n' s' a'=>by
  simp only [Zah,Zxq];rw [Zh8 o o',Zh8 s s',ZlU a a',show Zb2 n' n=-Zb2 n n' from Znv _ _,Zer,Zer,Zer]
theorem ZlU:∀ (a b:List Tm),ZaK b a=-ZaK a b
 | [],[]=>by simp [ZaK]
 | [],_::_=>by simp [ZaK]
 | _::_,[]=>by simp [ZaK]
 | x::xs,y::ys=>by
  simp only [ZaK];rw [Zcc x y,ZlU xs ys,Zer]
end
mutual
theorem Zi8:∀ (a b c:Tm),Tri (Zah a b) (Zah b c) (Zah a c)
 | .mk o n s a,.mk o' n' s' a',.mk o'' n'' s'' a''=>by
  simp only [Zah,Zxq];exact (Zh7 _ _ _).lex ((Znu _ _ _).lex ((Zh7 _ _ _).lex (ZlV a a' a'')))
theorem ZlV:∀ (a b c:List Tm),Tri (ZaK a b) (ZaK b c) (ZaK a c)
 | [],[],[]=>by simp [ZaK,Tri]
 | [],[],_::_=>by simp [ZaK,Tri]
 | [],_::_,[]=>by simp [ZaK,Tri]
 | [],_::_,_::_=>by simp only [ZaK];unfold Tri;omega
 | _::_,[],[]=>by simp [ZaK,Tri]
 | _::_,[],_::_=>by simp only [ZaK];unfold Tri;omega
 | _::_,_::_,[]=>by simp only [ZaK];unfold Tri;omega
 | x::xs,y::ys,z::zs=>by
  simp only [ZaK];exact (Zi8 x y z).lex (ZlV xs ys zs)
end
theorem ZdD {a b c:Tm} (h1:Zah a b < 0) (h2:Zah b c < 0):Zah a c < 0:=(Zi8 a b c).1.2.1 h1 om
theorem ZbW {a b c:Tm} (h1:Zah a b<=0) (h2:Zah b c<=0):Zah a c<=0:=(Zi8 a b c).1.1 h1 h2
def Asc (l:List Tm):Prop:=l.Pairwise fun a b=>Zah a b < 0
theorem Asc.ext {l l':List Tm} (h:Asc l) (h':Asc l') (hm:∀ t,t∈l ↔ t∈l'):l=l':=by
 induction l generalizing l' with
 | nil =>
  cases l' with
  | nil=>rfl
  | cons y ys=>exact absurd ((hm y).2 (by simp)) (by simp)
 | cons x xs ih =>
  cases l' with
  | nil=>exact absurd ((hm x).1 (by simp)) (by simp)
  | cons y ys =>
   have h1:=List.pairwise_cons.1 h;have h2:=List.pairwise_cons.1 h';have e:x=y:=by
    rcases Tbg.1 ((hm x).1 (by simp)) with e | hx
    ·exact e
    ·rcases Tbg.1 ((hm y).2 (by simp)) with e | hy
     ·exact e.symm
     ·have a1:=h1.1 y hy;have a2:=h2.1 x hx;rw [Zcc x y] at a2;omega
   subst e;refine congrArg (x::·) (ih h1.2 h2.2 fun t=>⟨fun ht=>?_,fun ht=>?_⟩)
   ·rcases Tbg.1 ((hm t).1 (Tal _ ht)) with e | h3
    ·subst e;have:=h1.1 t ht;rw [Zdh] at this;omega
    ·exact h3
   ·rcases Tbg.1 ((hm t).2 (Tal _ ht)) with e | h3
    ·subst e;have:=h2.1 t ht;rw [Zdh] at this;omega
    ·exact h3
def Zbo (t:Tm):List Tm->List Tm
 | []=>[t]
 | x::xs=>if Zah x t < 0 then x::Zbo t xs else if Zah x t=0 then x::xs else t::x::xs
theorem Zi9 {t u:Tm}:∀ {l:List Tm},u∈Zbo t l ↔ u=t∨u∈l
 | []=>by simp [Zbo]
 | x::xs=>by
  simp only [Zbo];split
  ·simp only [Tbg,Zi9 (l:=xs)];constructor
   ·rintro (h | h | h) <;> simp [h]
   ·rintro (h | h | h) <;> simp [h]
  ·split
   ·rename_i h0;have e:=Ze8 h0;simp only [Tbg];constructor
    ·exact fun h=>.inr h
    ·rintro (h | h)
     ·exact .inl (by rw [h,e])
     ·exact h
   ·simp only [Tbg]
theorem Asc.ins {t:Tm}:∀ {l:List Tm},Asc l->Asc (Zbo t l)
 | [],_=>by simp [Zbo,Asc]
 | x::xs,h=>by
  have h1:=List.pairwise_cons.1 h;simp only [Zbo];split
  ·rename_i hx;refine List.pairwise_cons.2 ⟨fun u hu=>?_,Asc.ins h1.2⟩;rcases Zi9.1 hu with e | hu
   ·rw [e];exact hx
   ·exact h1.1 u hu
  ·split
   ·exact h
   ·rename_i h2 h3;have h4:Zah t x < 0:=by rw [Zcc x t];omega
    refine List.pairwise_cons.2 ⟨fun u hu=>?_,h⟩;rcases Tbg.1 hu with e | hu
    ·rw [e];exact h4
    ·exact ZdD h4 (h1.1 u hu)
def Zdi (l:List Tm):List Tm:=l.foldl (fun r t=>Zbo t r) []
theorem Znw {l r:List Tm} (h:Asc r):Asc (l.foldl (fun r t=>Zbo t r) r)∧∀ u,u∈l.foldl (fun r t=>Zbo t r) r ↔ u∈l∨u∈r:=by
 induction l generalizing r with
 | nil=>exact ⟨h,fun u=>by simp⟩
 | cons x xs ih =>
  have:=ih (r:=Zbo x r) h.ins;refine ⟨this.1,fun u=>?_⟩;rw [List.foldl_cons,this.2,Zi9,Tbg];constructor
  ·rintro (h | h | h)
   ·exact .inl (.inr h)
   ·exact .inl (.inl h)
   ·exact .inr h
  ·rintro ((h | h) | h)
   ·exact .inr (.inl h)
   ·exact .inl h
   ·exact .inr (.inr h)
theorem Zh9 (l:List Tm):Asc (Zdi l):=(Znw List.Pairwise.nil).1
theorem Zia {l:List Tm} {u:Tm}:u∈Zdi l ↔ u∈l:=by
 have:=(Znw (l:=l) (r:=[]) List.Pairwise.nil).2 u;simpa [Zdi] using this
theorem Zxr {l l':List Tm} (h:Asc l') (hm:∀ t,t∈l' ↔ t∈l):Zdi l=l':=(Zh9 l).ext h fun t=>Zia.trans (hm t).symm
mutual
def Zbp:Tm->List Tm
 | .mk op nm so args=>if op=-1 then [.mk (-1) nm so []] else Zbb args
def Zbb:List Tm->List Tm
 | []=>[]
 | t::ts=>Zbp t++Zbb ts
end
def Zb4 (t:Tm):List Tm:=Zdi (Zbp t)
def zTm0:Tm:=.mk 0 ByteArray.empty 0 []
def ddT:Option Tm->List Tm->List Tm
 | _,[]=>[]
 | none,x::xs=>x::ddT (some x) xs
 | some y,x::xs=>if Zah x y=0 then ddT (some x) xs else x::ddT (some x) xs
def Zg0:Option Tm->List Tm->Option Tm
 | p,[]=>p
 | _,x::xs=>Zg0 (some x) xs
theorem ZkM:∀ (p:Option Tm) (l:List Tm) (x:Tm),ddT p (l++[x])=match Zg0 p l with
  | none=>ddT p l++[x]
  | some y=>if Zah x y=0 then ddT p l else ddT p l++[x]
 | none,[],x=>rfl
 | some y,[],x=>by simp only [Tah,ddT,Zg0]
 | none,a::l,x=>by
  simp only [Taf,ddT,Zg0,ZkM (some a) l x];split
  ·rfl
  ·split <;> rfl
 | some y,a::l,x=>by
  simp only [Taf,ddT,Zg0,ZkM (some a) l x];split
  ·rfl
  ·split
   ·rfl
   ·split <;> rfl
theorem ZlW:∀ (p:Option Tm) (l:List Tm) (i:Nat) (y:Tm),l[i]?=some y->Zg0 p (l.take (i+1))=some y
 | p,[],i,y,h=>by simp at h
 | p,x::xs,0,y,h=>by simp at h;subst h;simp [Zg0]
 | p,x::xs,i+1,y,h=>by
  simp only [Tbc,Zg0];exact ZlW (some x) xs i y (by simpa using h)
theorem Zpx {l:List Tm} {i:Nat} {x y:Tm} (hx:l[i+1]?=some x) (hy:l[i]?=some y):ddT none (l.take (i+2))=if Zah x y=0 then ddT none (l.take (i+1)) else ddT none (l.take (i+1))++[x]:=by
 have e:l.take (i+2)=l.take (i+1)++[x]:=by simp [List.take_add_one,hx]
 rw [e,ZkM,ZlW none l i y hy]
theorem ZBl {l:List Tm} {x:Tm} (hx:l[0]?=some x):ddT none (l.take 1)=[x]:=by
 cases l with
 | nil=>simp at hx
 | cons a l=>simp at hx;subst hx;simp [ddT]
def Up (l:List Tm):Prop:=l.Pairwise fun a b=>Zah a b<=0
theorem Zxs:∀ (l:List Tm) (y:Tm),Up l->(∀ x∈l,Zah y x<=0)->Asc (ddT (some y) l)∧(∀ z∈ddT (some y) l,Zah y z < 0)∧∀ z,(z=y∨z∈ddT (some y) l) ↔ (z=y∨z∈l)
 | [],y,_,_=>⟨List.Pairwise.nil,fun z h=>by simp [ddT] at h,fun z=>by simp [ddT]⟩
 | x::xs,y,hu,hy=>by
  have h1:=List.pairwise_cons.1 hu;have hyx:=hy x Tas;obtain ⟨k1,k2,k3⟩:=Zxs xs x h1.2 h1.1;simp only [ddT];by_cases h0:Zah x y=0
  ·rw [if_pos h0];have e:=Ze8 h0;subst e;exact ⟨k1,k2,fun z=>by rw [k3 z];simp⟩
  ·rw [if_neg h0];have hlt:Zah y x < 0:=by rw [Zcc x y] at hyx ⊢;omega
   refine ⟨List.pairwise_cons.2 ⟨k2,k1⟩,fun z hz=>?_,fun z=>?_⟩
   ·rcases Tbg.1 hz with rfl | hz
    ·exact hlt
    ·exact ZdD hlt (k2 z hz)
   ·have:=k3 z;simp only [Tbg];rw [this]
theorem Zy4 {l:List Tm} (h:Up l):ddT none l=Zdi l:=by
 cases l with
 | nil=>rfl
 | cons x xs =>
  have h1:=List.pairwise_cons.1 h;obtain ⟨k1,k2,k3⟩:=Zxs xs x h1.2 h1.1;simp only [ddT];refine (Zxr (List.pairwise_cons.2 ⟨k2,k1⟩) fun t=>?_).symm;simp only [Tbg];exact k3 t
def Zaw (l:List Tm):List Tm:=l.mergeSort fun a b=>decide (Zah a b<=0)
theorem Za9 (l:List Tm):(Zaw l).Perm l:=List.mergeSort_perm l _
theorem Zcd (l:List Tm):Up (Zaw l):=by
 have h:=List.pairwise_mergeSort (le:=fun a b=>decide (Zah a b<=0)) (fun a b c h1 h2=>by simp only [decide_eq_true_eq] at *;exact ZbW h1 h2) (fun a b=>by
  simp only [Bool.or_eq_true,decide_eq_true_eq];have:=Zcc a b;omega) l
 exact h.imp fun h=>by simpa using h
theorem ZjT:∀ {l l':List Tm},Up l->Up l'->l.Perm l'->l=l'
 | [],l',_,_,h=>by have:=h.length_eq;cases l' with | nil=>rfl | cons _ _=>simp at this
 | x::xs,[],_,_,h=>by have:=h.length_eq;simp at this
 | x::xs,y::ys,h1,h2,h=>by
  have p1:=List.pairwise_cons.1 h1;have p2:=List.pairwise_cons.1 h2;have hx:x∈y::ys:=h.mem_iff.1 Tas;have hy:y∈x::xs:=h.mem_iff.2 Tas;have e:x=y:=by
   rcases Tbg.1 hx with e | hx
   ·exact e
   ·rcases Tbg.1 hy with e | hy
    ·exact e.symm
    ·have a1:=p2.1 x hx;have a2:=p1.1 y hy;refine Ze8 ?_;rw [Zcc x y] at a1;omega
  subst e;rw [ZjT p1.2 p2.2 h.cons_inv]
theorem ZqW {l l':List Tm} (h:l.Perm l'):Zdi l=Zdi l':=(Zh9 l).ext (Zh9 l') fun t=>by rw [Zia,Zia,h.mem_iff]
mutual
theorem Znx:∀ {a b:Tm},Zab a=Zab b->a=b
 | .mk o n s a,.mk o' n' s' a',h=>by
  simp only [Zab,List.cons.injEq,C.lit.injEq,C.sl.injEq,Value.int.injEq,Value.string.injEq,true_and,and_true] at h;obtain ⟨rfl,rfl,rfl,h⟩:=h;rw [ZlX h]
theorem ZlX:∀ {a b:List Tm},Zaa a=Zaa b->a=b
 | [],[],_=>rfl
 | [],_::_,h=>by simp [Zaa] at h
 | _::_,[],h=>by simp [Zaa] at h
 | x::xs,y::ys,h=>by
  simp only [Zaa,List.cons.injEq] at h;rw [Znx h.1,ZlX h.2]
end
open Classical in
noncomputable def unT (r:List C):Tm:=if h:∃ t,r=Zab t then h.choose else zTm0
theorem ZsR (t:Tm):unT (Zab t)=t:=by
 have h:∃ t',Zab t=Zab t':=⟨t,rfl⟩;unfold unT;rw [dif_pos h];exact (Znx h.choose_spec).symm
theorem ZBm (l:List Tm):(Zaa l).map unT=l:=by
 rw [Zbm,List.map_map]
 conv=>rhs;rw [<- List.map_id l]
 exact List.map_congr_left fun t _=>ZsR t
theorem ZdW (l:List Tm) (k:Nat):(Zaa l).take k=Zaa (l.take k):=by rw [Zbm,Zbm,List.map_take]
theorem Zes (l:List Tm) (k:Nat):(Zaa l).drop k=Zaa (l.drop k):=by rw [Zbm,Zbm,List.map_drop]
theorem Zb6 (a b:List Tm):Zaa (a++b)=Zaa a++Zaa b:=by rw [Zbm,Zbm,Zbm,Tbu]
theorem Ze9 (t:Tm):Zaa [t]=[Zab t]:=by simp [Zaa]
theorem ZgE (a b:Tm):Con e0 108 [.agg (Zab a),.agg (Zab b)] [.one (.lit (.bool (decide (Zah a b=0))))]:=by
 refine gI (ts:=[.slot 4]) 31 Tryz.func108 ?_;refine fB @tmz ?_;refine fC @tmz (ZjM (ZeH a b)) ?_;refine fR @tmz ?_;exact fD @tmz
theorem ZfK {l m:List Tm} (hp:m.Perm l) (hu:Up m):m=Zaw l:=ZjT hu (Zcd l) (hp.trans (Za9 l).symm)
theorem Zet {l:List Tm} (hu:Up l):Zaw l=l:=(ZfK (List.Perm.refl _) hu).symm
theorem ZcY (l:List Tm):(Zaw l).length=l.length:=(Za9 l).length_eq
theorem Zpy {l m:List Tm} (h:l.Perm m):Zaw l=Zaw m:=ZjT (Zcd l) (Zcd m) ((Za9 l).trans (h.trans (Za9 m).symm))
theorem Up.get {l:List Tm} (h:Up l) {i j:Nat} {x y:Tm} (hij:i<=j) (hx:l[i]?=some x) (hy:l[j]?=some y):Zah x y<=0:=by
 rcases Nat.lt_or_ge i j with hl | hl
 ·obtain ⟨h1,rfl⟩:=Tad.1 hx;obtain ⟨h2,rfl⟩:=Tad.1 hy;exact List.pairwise_iff_getElem.1 h i j h1 h2 hl
 ·obtain rfl:i=j:=by omega
  rw [hx] at hy;injection hy with hy
  subst hy;rw [Zdh];omega
theorem ZgF {l:List Tm} {k:Nat} {x:Tm} (h:x∈l.take k):∃ i,i < k∧l[i]?=some x:=by
 obtain ⟨i,hi⟩:=Tbk h;rw [List.getElem?_take] at hi;split at hi
 ·exact ⟨i,by assumption,hi⟩
 ·cases hi
theorem ZgG {l:List Tm} {k:Nat} {x:Tm} (h:x∈l.drop k):∃ i,k<=i∧l[i]?=some x:=by
 obtain ⟨i,hi⟩:=Tbk h;rw [Tbb] at hi;exact ⟨k+i,om,hi⟩
theorem Zoz {x y:Tm} (h:¬ Zah x y < 0):Zah y x<=0:=by rw [Zcc x y];omega
theorem Up.append {l m:List Tm} (hl:Up l) (hm:Up m) (h:∀ x∈l,∀ y∈m,Zah x y<=0):Up (l++m):=List.pairwise_append.2 ⟨hl,hm,h⟩
theorem Up.left {l m:List Tm} (h:Up (l++m)):Up l:=(List.pairwise_append.1 h).1
theorem Up.take {l:List Tm} (h:Up l) (k:Nat):Up (l.take k):=List.Pairwise.sublist (List.take_sublist k l) h
theorem Up.drop {l:List Tm} (h:Up l) (k:Nat):Up (l.drop k):=List.Pairwise.sublist (List.drop_sublist k l) h
theorem Up.put {B:List Tm} {x:Tm} (hB:Up B) {s:Nat} (h1:0 < s->∃ y,B[s - 1]?=some y∧Zah y x<=0) (h2:s < B.length->∃ y,B[s]?=some y∧Zah x y<=0):Up (B.take s++x::B.drop s):=by
 have k2:∀ z∈B.drop s,Zah x z<=0:=fun z hz=>by
  obtain ⟨i,hi,hz⟩:=ZgG hz;have hl:=(Tad.1 hz).1;obtain ⟨y,hy,hc⟩:=h2 om;exact ZbW hc (hB.get hi hy hz)
 have k1:∀ z∈B.take s,Zah z x<=0:=fun z hz=>by
  obtain ⟨i,hi,hz⟩:=ZgF hz;obtain ⟨y,hy,hc⟩:=h1 om;exact ZbW (hB.get om hz hy) hc
 refine (hB.take s).append (List.pairwise_cons.2 ⟨k2,hB.drop s⟩) fun z hz u hu=>?_;rcases Tbg.1 hu with rfl | hu
 ·exact k1 z hz
 ·obtain ⟨i,hi,hz⟩:=ZgF hz;obtain ⟨j,hj,hu⟩:=ZgG hu;exact hB.get om hz hu
theorem Zy5 {B:List Tm} {x:Tm} (s:Nat):(B.take s++x::B.drop s).Perm (x::B):=by
 refine Tbv.trans ?_;rw [Tbm]
theorem ZBn {A B:List Tm} (hA:Up A) (hB:Up B) {s e:Nat} (h1:e < B.length->0 < s->∃ x y,A[s - 1]?=some x∧B[e]?=some y∧Zah x y<=0) (h2:0 < e->s < A.length->∃ x y,B[e - 1]?=some x∧A[s]?=some y∧Zah x y<=0):∀ x∈A.take s++B.take e,∀ y∈A.drop s++B.drop e,Zah x y<=0:=by
 intro x hx y hy;rcases Tbh.1 hx with hx | hx <;> rcases Tbh.1 hy with hy | hy <;> obtain ⟨i,hi,hx⟩:=ZgF hx <;> obtain ⟨j,hj,hy⟩:=ZgG hy
 ·exact hA.get om hx hy
 ·have hl:=(Tad.1 hy).1;obtain ⟨u,v,hu,hv,huv⟩:=h1 om om;exact ZbW (ZbW (hA.get om hx hu) huv) (hB.get hj hv hy)
 ·have hl:=(Tad.1 hy).1;obtain ⟨u,v,hu,hv,huv⟩:=h2 om om;exact ZbW (ZbW (hB.get om hx hu) huv) (hA.get hj hv hy)
 ·exact hB.get om hx hy
theorem ZtC {A1 A2 B1 B2:List Tm} (h:∀ x∈A1++B1,∀ y∈A2++B2,Zah x y<=0):Zaw (A1++B1)++Zaw (A2++B2)=Zaw ((A1++A2)++(B1++B2)):=by
 refine ZfK ?_ ((Zcd _).append (Zcd _) fun x hx y hy=>h x ((Za9 _).mem_iff.1 hx) y ((Za9 _).mem_iff.1 hy));refine ((Za9 _).append (Za9 _)).trans ?_;rw [Tbf,Tbf];refine List.Perm.append_left _ ?_;rw [<- Tbf,<- Tbf];exact List.Perm.append_right _ List.perm_append_comm
inductive Blks (k:Nat):List Tm->Prop where
 | last {l:List Tm} (hl:l.length<=k) (hu:Up l):Blks k l
 | cons {X r:List Tm} (hl:X.length=k) (hu:Up X) (hr:Blks k r):Blks k (X++r)
inductive Full (k:Nat):List Tm->Prop where
 | nil:Full k []
 | cons {X r:List Tm} (hl:X.length=k) (hu:Up X) (hr:Full k r):Full k (X++r)
theorem Full.snoc {k:Nat} {X Z:List Tm} (h:Full k X) (hl:Z.length=k) (hu:Up Z):Full k (X++Z):=by
 induction h with
 | nil=>have:=Full.cons hl hu Full.nil;rwa [List.append_nil] at this
 | cons h1 h2 _ ih=>rw [Tbf];exact .cons h1 h2 ih
theorem Full.blks {k:Nat} {X Z:List Tm} (h:Full k X) (hl:Z.length<=k) (hu:Up Z):Blks k (X++Z):=by
 induction h with
 | nil=>exact .last hl hu
 | cons h1 h2 _ ih=>rw [Tbf];exact .cons h1 h2 ih
theorem Blks.up {k:Nat} {l:List Tm} (h:Blks k l) (hl:l.length<=k):Up l:=by
 cases h with
 | last h1 h2=>exact h2
 | @cons X r h1 h2 h3 =>
  rw [Tae] at hl;have:r=[]:=Tao om;subst this
  rwa [List.append_nil]
theorem Blks.split {k:Nat} {l:List Tm} (h:Blks k l) (hl:k < l.length):∃ X r,l=X++r∧X.length=k∧Up X∧Blks k r:=by
 cases h with
 | last h1 h2=>omega
 | cons h1 h2 h3=>exact ⟨_,_,rfl,h1,h2,h3⟩
theorem Blks.two {k:Nat} {l:List Tm} (h:Blks k l) (hk:0 < k) (hl:2 * k<=l.length):∃ A B r,l=A++B++r∧A.length=k∧B.length=k∧Up A∧Up B∧Blks k r:=by
 obtain ⟨A,r,rfl,h1,h2,h3⟩:=h.split om;rw [Tae] at hl;rcases Nat.lt_or_ge k r.length with h4 | h4
 ·obtain ⟨B,r',rfl,h5,h6,h7⟩:=h3.split h4;exact ⟨A,B,r',by rw [Tbf],h1,h5,h2,h6,h7⟩
 ·exact ⟨A,r,[],by rw [List.append_nil],h1,om,h2,h3.up h4,.last (by simp) List.Pairwise.nil⟩
theorem ZhA {A B:List Tm} {x y:Tm} {k:Nat} (h:A.length=k):(A++x::B).set k y=A++y::B:=by
 subst h;rw [List.set_append_right _ _ (Tai _),Nat.sub_self,List.set_cons_zero]
theorem ZhB {A B:List Tm} {x:Tm} {k:Nat} (h:A.length=k):(A++x::B)[k]?=some x:=by
 subst h;rw [Tbq (Tai _),Nat.sub_self,Tat]
theorem ZsS {A B:List Tm} {x y:Tm} {k:Nat} (h:A.length=k):((A++y::x::B).set (k+1) y).set k x=A++x::y::B:=by
 have e1:(A++y::x::B).set (k+1) y=A++y::y::B:=by
  have:=ZhA (A:=A++[y]) (B:=B) (x:=x) (y:=y) (k:=k+1) (by simp [h]);simpa using this
 rw [e1,ZhA h]
theorem Zy6 {A B:List Tm} {x y:Tm} {k:Nat} (h:A.length=k):((A++y::x::B).set k x).set (k+1) y=A++x::y::B:=by
 have e1:(A++x::x::B).set (k+1) y=A++x::y::B:=by
  have:=ZhA (A:=A++[x]) (B:=B) (x:=x) (y:=y) (k:=k+1) (by simp [h]);simpa using this
 rw [ZhA h,e1]
theorem ZmN {A B:List Tm} {x y:Tm} {k:Nat} (h:A.length=k):(A++y::x::B)[k+1]?=some x:=by
 have:=ZhB (A:=A++[y]) (B:=B) (x:=x) (k:=k+1) (by simp [h]);simpa using this
theorem ZdE {l:List Tm} {i:Nat} {x:Tm} (h:l[i]?=some x):l.drop i=x::l.drop (i+1):=by
 obtain ⟨h1,rfl⟩:=Tad.1 h;exact List.drop_eq_getElem_cons h1
theorem Zcj {l:List Tm} {i:Nat} {x:Tm} (h:l[i]?=some x):l.take (i+1)=l.take i++[x]:=by
 rw [List.take_add_one,h];rfl
def swR (P X Z Y Q:List Tm) (i:Nat):List Tm:=P++(Y.take i++X.drop i)++Z++(X.take i++Y.drop i)++Q
theorem Zy7 (P X Z Y Q:List Tm):swR P X Z Y Q 0=P++X++Z++Y++Q:=by simp [swR]
theorem ZBo {P X Z Y Q:List Tm} (h:X.length=Y.length):swR P X Z Y Q X.length=P++Y++Z++X++Q:=by
 unfold swR;rw [Tap,List.drop_length,h,Tap,List.drop_length];simp
theorem ZBp {P X Z Y Q:List Tm} (i:Nat) (h:X.length=Y.length):(swR P X Z Y Q i).length=P.length+X.length+Z.length+Y.length+Q.length:=by
 simp only [swR,Tae,Taw,Tax];omega
theorem ZBq {P X Z Y Q:List Tm} {i:Nat} {x y:Tm} (h:X.length=Y.length) (hx:X[i]?=some x) (hy:Y[i]?=some y) :
  (swR P X Z Y Q i)[P.length+i]?=some x∧(swR P X Z Y Q i)[P.length+X.length+Z.length+i]?=some y∧((swR P X Z Y Q i).set (P.length+i) y).set (P.length+X.length+Z.length+i) x=swR P X Z Y Q (i+1):=by
 have hi:=(Tad.1 hx).1;have hi':=(Tad.1 hy).1;have e:swR P X Z Y Q i=(P++Y.take i)++x::(X.drop (i+1)++Z++X.take i++y::(Y.drop (i+1)++Q)):=by
  unfold swR;rw [ZdE hx,ZdE hy];simp
 have e2:swR P X Z Y Q i=((P++Y.take i)++x::(X.drop (i+1)++Z++X.take i))++y::(Y.drop (i+1)++Q):=by rw [e];simp
 have l1:(P++Y.take i).length=P.length+i:=by simp;omega
 have l2:∀ z:Tm,((P++Y.take i)++z::(X.drop (i+1)++Z++X.take i)).length=P.length+X.length+Z.length+i:=fun z=>by simp;omega
 refine ⟨by rw [e];exact ZhB l1,by rw [e2];exact ZhB (l2 x),?_⟩;rw [e,ZhA l1];rw [show (P++Y.take i)++y::(X.drop (i+1)++Z++X.take i++y::(Y.drop (i+1)++Q))=((P++Y.take i)++y::(X.drop (i+1)++Z++X.take i))++y::(Y.drop (i+1)++Q) by simp,ZhA (l2 y)];unfold swR;rw [Zcj hy,Zcj hx];simp
theorem Zy8 {M1 M2:List Tm} {x:Tm} (h:Up (M1++M2)) (h2:∀ y∈M2,Zah x y<=0) (h1:∀ y,M1.getLast?=some y->Zah y x<=0):Up (M1++x::M2):=by
 obtain ⟨u1,u2,u3⟩:=List.pairwise_append.1 h;refine Up.append u1 (List.pairwise_cons.2 ⟨h2,u2⟩) fun z hz u hu=>?_;rcases Tbg.1 hu with rfl | hu
 ·obtain ⟨M0,y,rfl⟩:∃ M0 y,M1=M0++[y]:=⟨M1.dropLast,M1.getLast (List.ne_nil_of_mem hz),(List.dropLast_concat_getLast _).symm⟩;have hy:=h1 y (by simp);rcases Tbh.1 hz with hz | hz
  ·exact ZbW ((List.pairwise_append.1 u1).2.2 z hz y (by simp)) hy
  ·simp only [Tbj] at hz;subst hz;exact hy
 ·exact u3 z hz u hu
theorem Zpz {M1 M2 L:List Tm} {x:Tm} (e:M1++M2=Zaw L) (h2:∀ y∈M2,Zah x y<=0) (h1:∀ y,M1.getLast?=some y->Zah y x<=0):M1++x::M2=Zaw (L++[x]):=by
 have hu:Up (M1++M2):=by rw [e];exact Zcd _
 refine ZfK ?_ (Zy8 hu h2 h1);refine Tbv.trans ?_;rw [e];exact ((Za9 L).cons x).trans (List.perm_append_comm (l₁:=[x]) (l₂:=L))
mutual
def Zdj:Tm->Int->Int
 | .mk _ _ _ args,l=>Zbt args (l - 1)
def Zbt:List Tm->Int->Int
 | [],l=>l
 | t::ts,l=>if 0<=l then Zbt ts (Zdj t l) else l
end
theorem Zxt:∀ l,Zbt [] l=l:=fun _=>by rw [Zbt]
mutual
theorem Zkp:∀ (t:Tm) (l:Int),0<=l->(-1<=Zdj t l∧Zdj t l<=l∧((sizeTm t:Int)<=l->Zdj t l=l - sizeTm t)∧(l < sizeTm t->Zdj t l < 0))
 | .mk _ _ _ args,l,hl=>by
  have:=ZgH args (l - 1) om;simp only [Zdj,sizeTm];refine ⟨this.1,om,fun h=>?_,fun h=>?_⟩
  ·have:=this.2.2.1 om;omega
  ·by_cases h1:0<=l - 1
   ·exact this.2.2.2 om
   ·have h2:=this.2.1;omega
theorem ZgH:∀ (ts:List Tm) (l:Int),-1<=l->(-1<=Zbt ts l∧Zbt ts l<=l∧((sizeTms ts:Int)<=l->Zbt ts l=l - sizeTms ts)∧(l < sizeTms ts->Zbt ts l < 0))
 | [],l,hl=>by simp only [Zbt,sizeTms];omega
 | t::ts,l,hl=>by
  simp only [Zbt,sizeTms];by_cases h0:0<=l
  ·rw [if_pos h0];have h1:=Zkp t l h0;have h2:=ZgH ts (Zdj t l) h1.1;refine ⟨h2.1,om,fun h=>?_,fun h=>?_⟩
   ·have e1:=h1.2.2.1 om;have e2:=h2.2.2.1 om;omega
   ·by_cases h3:(sizeTm t:Int)<=l
    ·have e1:=h1.2.2.1 h3;exact h2.2.2.2 om
    ·have e1:=h1.2.2.2 om;omega
  ·rw [if_neg h0];have:=ZbB ts;refine ⟨hl,Int.le_refl _,fun h=>om,fun h=>om⟩
end
theorem Zkq {ts:List Tm} {l:Int} (h:¬ 0<=l):Zbt ts l=l:=by
 cases ts with
 | nil=>rfl
 | cons t ts=>simp only [Zbt,if_neg h]
theorem Zhi:∀ (a b:List Tm) (l:Int),Zbt (a++b) l=Zbt b (Zbt a l)
 | [],b,l=>rfl
 | t::ts,b,l=>by
  simp only [Taf,Zbt];by_cases h:0<=l
  ·rw [if_pos h,if_pos h,Zhi]
  ·rw [if_neg h,if_neg h,Zkq h]
theorem ZpA {ts:List Tm} {i:Nat} {t:Tm} {l:Int} (h:ts[i]?=some t) (h0:0<=Zbt (ts.take i) l):Zbt (ts.take (i+1)) l=Zdj t (Zbt (ts.take i) l):=by
 rw [ZcA h,Zhi];simp only [Zbt,if_pos h0]
theorem ZpB {ts:List Tm} {i:Nat} {l:Int} (h0:¬ 0<=Zbt (ts.take i) l):Zbt ts l=Zbt (ts.take i) l:=by
 conv=>lhs;rw [<- Tbm i ts]
 rw [Zhi,Zkq h0]
theorem Zxu (t:Tm) (l:Int):Zdj t l=Zbt t.args (l - 1):=by cases t;simp only [Zdj,Tm.args]
theorem ZmO:∀ (n:Nat) (t:Tm) (l:Int),sizeTm t < n->sizeTm t<=big->0<=l->l<=60->Con e0 123 [.agg (Zab t),.one (.lit (.int .i64 l))] [.one (.lit (.int .i64 (Zdj t l)))]:=by
 intro n
 induction n with
 | zero=>intro t l h;omega
 | succ n ih =>
  intro t l hn hb hl0 hl1;have hsz:=Za3 t;have hal:=ZbB t.args;unfold big at hb;have hw:IntKind.i64.wrap (l - 1)=l - 1:=Za4 rfl om om;rw [Zxu];refine gI 65591 Tryz.func123 ?_;refine fG (ai @tmz @hw) ?_;have F:=@Zxt;refine gL (ι:=Nat) [1,5,16] [] (fun i=>[(5,A.d (.one (.lit (.int .i64 i)))),(1,A.d (.one (.lit (.int .i64 (Zbt (t.args.take i) (l - 1))))))]) (fun i=>[]) (fun i=>i<=t.args.length) (fun i=>t.args.length - i) (0) om (fun i hi=>?_);clear F
  have hsp:=ZgH (t.args.take i) (l - 1) om;by_cases hl:i < t.args.length;rotate_left
  ·have hl':¬ ((i:Int) < (t.args.length:Int)):=om;have e:t.args.take i=t.args:=List.take_of_length_le om;exact fT (aj3 @hl' @e @tmz)
  have hl':(i:Int) < (t.args.length:Int):=om;by_cases h0:0<=Zbt (t.args.take i) (l - 1);rotate_left
  ·have e:=ZpB h0;exact fT (aj4 @hl' @h0 @e @tmz)
  obtain ⟨a,ha⟩:∃ a,t.args[i]?=some a:=⟨_,Taa hl⟩;have hm:=Zbu (Tac ha);have hw1:=Zau (k:=i) om;have hs:=ZpA ha h0;refine fB (aj4 @hl' @h0 @tmz @ha) ?_;refine fC (ai @tmz @ha) (ih a _ om (by unfold big;omega) h0 om) ?_;refine fR @tmz ?_;have F:=aj3 @hw1 @hs @tmz;refine gG ?_;exact ⟨i+1,om,gw,gw,om⟩
theorem Zny {t:Tm}:0<=Zdj t 60 ↔ sizeTm t<=60:=by
 have:=Zkp t 60 om;by_cases h:sizeTm t<=60
 ·have:=this.2.2.1 om;omega
 ·have:=this.2.2.2 om;omega
theorem Zhj {t:Tm} (hb:sizeTm t<=big):Con e0 86 [.agg (Zab t)] [.one (.lit (.bool (decide (sizeTm t<=60∧depthTm t<=20))))]:=by
 refine gI 7 Tryz.func86 ?_;refine fB @tmz ?_;refine fC @tmz (ZmO _ t 60 (Tan _) hb om om) ?_;by_cases h1:sizeTm t<=60;rotate_left
 ·have h1':¬ (0<=Zdj t 60):=fun h=>h1 (Zny.1 h);refine fR (ai @tmz @h1') ?_;exact fT @h1
 have h1':(0<=Zdj t 60):=Zny.2 h1;refine fC (ai @tmz @h1') (Zn6 hb) ?_;by_cases h2:depthTm t<=20
 ·have h2':((depthTm t:Int)<=20):=om;refine fR (ai @tmz @h2') ?_;exact fT (ai @h1 @h2)
 ·have h2':¬ ((depthTm t:Int)<=20):=om;refine fR (ai @tmz @h2') ?_;exact fT (ai @h1 @h2)
section
variable {g:Sgn}
open Classical in
noncomputable def Zeu (g:Sgn) (t:Tm):Bool:=decide (Zc7 g t)
theorem ZfB {t:Tm} (h:Zc7 g t):Zeu g t=true:=by simp [Zeu,h]
theorem ZpC {t:Tm} (h:¬ Zc7 g t):Zeu g t=false:=by simp [Zeu,h]
theorem ZtD {t:Tm}:Zeu g t=true ↔ Zc7 g t:=by simp [Zeu]
theorem ZtE (hg:SgnOk g) {t:Tm} (hok:okTm t) (hb:sizeTm t<=big):Con e0 125 [.agg (ZaN g),.agg (Zab t)] [.one (.lit (.bool (Zeu g t)))]:=by
 have hno:¬ Zc7 g t->Zeu g t=false:=ZpC;obtain ⟨k1,k2,k3,k4⟩:=Zff.1 hok;have hsz:=Za3 t;have hal:=ZbB t.args;have hn8:=hg.sorts.n8;have hn1:=hg.sorts.n1;have hln:=hg.len;unfold big at hb;have hwn:IntKind.i64.wrap ((g.sorts.names.length:Int) - 1)=(g.sorts.names.length:Int) - 1:=Za4 rfl om om;have hwo:IntKind.i64.wrap ((g.ops.length:Int) - 1)=(g.ops.length:Int) - 1:=Za4 rfl om om;refine gI 9444733036108034605695 Tryz.func125 ?_
 by_cases h1:t.op=-1
 ·have hV:Zc7 g t->ZbI g t:=fun h=>by
   rcases h with h | ⟨o,d,h⟩
   ·exact h
   ·exact absurd h1 h.op
  refine fB (aj3 @tmz @Zay @h1) ?_;refine fC @tmz (Ze6 k2) ?_;by_cases h2:ZaG t.name=true;rotate_left
  ·have h2':ZaG t.name=false:=by simpa using h2
   have hf:=hno fun h=>h2 (hV h).2.1;refine fR (ai @tmz @h2') ?_;exact fT @hf
  refine fC (aj3 @tmz @h2 @hwn) (Zd7 _ _ _) ?_;by_cases h3:0<=t.sort∧t.sort < g.sorts.names.length;rotate_left
  ·have h3':decide (0<=t.sort∧t.sort<=(g.sorts.names.length:Int) - 1)=false:=by simp only [decide_eq_false_iff_not];omega
   have hf:=hno fun h=>h3 ⟨(hV h).2.2.1,(hV h).2.2.2.1⟩;refine fR (ai @tmz @h3') ?_;exact fT @hf
  have h3':decide (0<=t.sort∧t.sort<=(g.sorts.names.length:Int) - 1)=true:=by simp only [decide_eq_true_eq];omega
  by_cases h4:t.args=[]
  ·have hT:=ZfB (g:=g) (.inl ⟨h1,h2,h3.1,h3.2,h4⟩);refine fR (aj3 @tmz @h3' @h4) ?_;exact fT @hT
  ·have hf:=hno fun h=>h4 (hV h).2.2.2.2;have h4':¬ ((t.args.length:Int)=0):=by
    intro h;apply h4;apply Tao;omega
   refine fR (aj3 @tmz @h3' @h4') ?_;exact fT @hf
 refine fB (aj3 @tmz @Zay @h1) ?_;refine fC (ai @tmz @hwo) (Zd7 _ _ _) ?_;by_cases h2:0<=t.op∧t.op < g.ops.length;rotate_left
 ·have h2':decide (0<=t.op∧t.op<=(g.ops.length:Int) - 1)=false:=by simp only [decide_eq_false_iff_not];omega
  have hf:=hno fun h=>by
   obtain ⟨o,d,h⟩:=h.app h1;have:=(Tad.1 h.at').1;have:=h.lo;omega
  refine fR (ai @tmz @h2') ?_;exact fT @hf
 have h2':decide (0<=t.op∧t.op<=(g.ops.length:Int) - 1)=true:=by simp only [decide_eq_true_eq];omega
 by_cases h4:t.name=ByteArray.empty;rotate_left
 ·have hf:=hno fun h=>by
   obtain ⟨o,d,h⟩:=h.app h1;exact h4 h.nm
  refine fR (aj4 @tmz @h2' @Zeg @h4) ?_;exact fT @hf
 by_cases h5:t.sort=0;rotate_left
 ·have hf:=hno fun h=>by
   obtain ⟨o,d,h⟩:=h.app h1;exact h5 h.so
  refine fR (aj5 @tmz @h2' @Zeg @h4 @h5) ?_;exact fT @hf
 have h0:=h2.1;obtain ⟨o,ho⟩:∃ o,g.ops[t.op.toNat]?=some o:=⟨_,Taa om⟩;obtain ⟨d,hd,hr0,hr1,hargs⟩:=hg.first ho;have hgt:Zc7 g t->AppOk g t o d:=fun h=>by
  obtain ⟨o',d',h⟩:=h.app h1;have e1:=h.at';rw [ho] at e1;injection e1 with e1
  subst e1;have e2:=h.fst;rw [hd] at e2;injection e2 with e2
  subst e2;exact h
 have cA:=Zfx hd;rw [ZbZ] at cA;refine fR (aj5 @tmz @h2' @Zeg @h4 @h5) ?_;refine fG (aj4 @tmz @h0 @ho @Zan) ?_
 cases ha:o.assoc with
 | false =>
  rw [ha] at cA;refine gB ?_;refine fC (ai @tmz @ha) (cA) ?_;by_cases c:t.args.length=d.args.length
  ·have hT:=ZfB (g:=g) (.inr ⟨o,d,h0,ho,hd,h4,h5,fun h=>(by rw [ha] at h;cases h),fun _=>c⟩);have c':((t.args.length:Int)=(d.args.length:Int)):=om;refine fR (aj3 @tmz @c' @ha) ?_;exact fT @hT
  ·have hf:=hno fun h=>c ((hgt h).nas ha);have c':¬ ((t.args.length:Int)=(d.args.length:Int)):=om;refine fR (aj3 @tmz @c' @ha) ?_;exact fT @hf
 | true =>
  refine gB ?_;refine fC (ai @tmz @ha) (Zd7 _ _ _) ?_;by_cases c:2<=t.args.length∧t.args.length<=7
  ·have hT:=ZfB (g:=g) (.inr ⟨o,d,h0,ho,hd,h4,h5,fun _=>c,fun h=>(by rw [ha] at h;cases h)⟩);have c':decide ((2:Int)<=(t.args.length:Int)∧(t.args.length:Int)<=7)=true:=by simp only [decide_eq_true_eq];omega
   refine fR (aj3 @tmz @c' @ha) ?_;exact fT @hT
  ·have hf:=hno fun h=>c ((hgt h).asc ha);have c':decide ((2:Int)<=(t.args.length:Int)∧(t.args.length:Int)<=7)=false:=by simp only [decide_eq_false_iff_not];omega
   refine fR (aj3 @tmz @c' @ha) ?_;exact fT @hf
end
section
variable {g:Sgn}
open Classical in
noncomputable def Zej (g:Sgn) (op:Int) (args:List Tm):Bool:=decide (Zhz g op args)
theorem Zja (hg:SgnOk g) {op:Int} {o:Opr} (ho:g.ops[op.toNat]?=some o) (hu:o.unit≠0) {a:Tm} (ha:ZaI g a) (hop:a.op=o.unit - 1):a=ZbH o:=by
 have hax:=hg.axs o (Tac ho);have hlo:=hax.lo;obtain ⟨p,u,h⟩:=ha.node.app om;obtain ⟨d,hd,_⟩:=hg.first ho;have e:a.op.toNat=o.unit.toNat - 1:=om;have hz:u.args.length=0:=by
  have h2:=hax.two (.inr (.inr hu)) d hd;obtain ⟨d0,hd0⟩:∃ x,d.args[0]?=some x:=⟨_,Taa om⟩;obtain ⟨d1,hd1⟩:∃ x,d.args[1]?=some x:=⟨_,Taa om⟩;exact ((h2.2 d0 d1 hd0 hd1).2.2 hu p u (by rw [<- e];exact h.at') h.fst).1
 have has:p.assoc=false:=by
  cases hp:p.assoc with
  | false=>rfl
  | true =>
   have:=((hg.axs p (Tac h.at')).two (.inl hp) u h.fst).1;omega
 have hl:=h.nas has;have hnil:a.args=[]:=Tao om;have hnm:=h.nm;have hso:=h.so
 cases a with
 | mk x n s l =>
  simp only [Tm.args,Tm.name,Tm.sort,Tm.op] at *;subst hnil hnm hso hop;simp only [ZbH,if_neg hu]
theorem Znz {o:Opr} (h0:0<=o.unit) (h1:o.unit<=14):okTm (ZbH o):=by
 rw [Zff];simp only [ZbH,Tm.op,Tm.name,Tm.sort,Tm.args,Zax,and_true];refine ⟨?_,by simp [maxLen],?_⟩
 ·unfold I64;split <;> omega
 ·unfold I64;omega
theorem ZqX (hokg:Zdt g) (hg:SgnOk g) {t:Tm} {o:Opr} {d:Dcl} (hA:AppOk g t o d) (hF:∀ a∈t.args,ZaI g a) (hok:okTm t) (hb:sizeTm t<=big):Con e0 126 [.agg (ZaN g),.agg (Zab t)] [.one (.lit (.bool (Zej g t.op t.args)))]:=by
 have hno:¬ Zhz g t.op t.args->Zej g t.op t.args=false:=fun h=>by simp [Zej,h]
 obtain ⟨k1,k2,k3,k4⟩:=Zff.1 hok;have hsz:=Za3 t;have hal:=ZbB t.args;unfold big at hb;have h0:=hA.lo;have ho:=hA.at';have hd:=hA.fst;obtain ⟨d',hd',hr0,hr1,hargs⟩:=hg.first ho;rw [hd] at hd';injection hd' with hd'
 subst hd';have hax:=hg.axs o (Tac ho);have hlo:=hax.lo;have hhi:=hax.hi;have hln:=hg.len;have cK:=Zeq hg.sorts;rw [Zbr] at cK;have cUn:=ZlS hg h0 ho;rw [ZaN] at cUn;have hnoA:∀ (i:Nat) a,t.args[i]?=some a->¬ ArgOk g t.op o d t.args i a->Zej g t.op t.args=false:=fun i a ha h=>hno fun hR=>h (hR o d ho hd i a ha);refine gI 9903595872146772515857895423 Tryz.func126 ?_;refine fB (aj5 @tmz @Zay @h0 @ho @Zan) ?_
 refine fC @tmz (cK) ?_;refine fR @tmz ?_;refine fB @tmz ?_;refine fC @tmz (cUn) ?_;refine fR @tmz ?_;refine fG @tmz ?_;have F:=@e0P;refine gL (ι:=Nat) [4,9,10,11,32,42,76,93] [] (fun i=>[(9,A.d (.one (.lit (.int .i64 i))))]) (fun i=>[]) (fun i=>i<=t.args.length∧∀ (j:Nat) a,j < i->t.args[j]?=some a->ArgOk g t.op o d t.args j a) (fun i=>t.args.length - i) (0) (⟨om,fun j a h=>absurd h om⟩) (fun i hi=>?_);clear F
 obtain ⟨hil,hall⟩:=hi;by_cases hl:i < t.args.length;rotate_left
 ·have hl':¬ ((i:Int) < (t.args.length:Int)):=om;have hT:Zej g t.op t.args=true:=by
   simp only [Zej,decide_eq_true_eq];intro o' d' ho' hd' j a hj;rw [ho] at ho';injection ho' with ho'
   subst ho';rw [hd] at hd';injection hd' with hd'
   subst hd';exact hall j a (by have:=(Tad.1 hj).1;omega) hj
  exact fT (aj3 @tmz @hl' @hT)
 have hl':(i:Int) < (t.args.length:Int):=om;obtain ⟨a,ha⟩:∃ a,t.args[i]?=some a:=⟨_,Taa hl⟩;have hm:=Tac ha;have hFa:=hF a hm;have hw1:=Zau (k:=i) om;obtain ⟨k,hk⟩:=ZgZ hg ho hd hA.nas hl;obtain ⟨hk0,hk1⟩:=hargs k (Tac hk);have hkd:=ZgC hg.sorts hk0 hk1;have cKa:=Zf6 hokg hg hFa.node;rw [ZaN] at cKa;have cU:=Zei (k4.mem hm) (Znz (o:=o) hlo om);have hUiff:o.unit≠0->(Zah a (ZbH o)=0 ↔ a.op=o.unit - 1):=fun hu=>by
  rw [ZeR];constructor
  ·rintro h;rw [h];simp [ZbH,Tm.op,hu]
  ·exact Zja hg ho hu hFa
 generalize hU:decide (Zah a (ZbH o)=0)=U at cU;have hnext:ZaO g a=((kd g.sorts k:Nat):Int)->(o.assoc=true->¬ a.op=t.op)->(o.unit≠0->U=false)->(o.comm=true->∀ (j:Nat) p,i=j+1->t.args[j]?=some p->Zah p a<=0)->i+1<=t.args.length∧∀ (j:Nat) a,j < i+1->t.args[j]?=some a->ArgOk g t.op o d t.args j a:=fun hkk hne hU' hc=>⟨om,fun j a' hj ha'=>by
  by_cases e:j=i
  ·subst e;rw [ha] at ha';injection ha' with ha'
   subst ha';refine ⟨fun k' hk'=>?_,hne,fun h1 h2=>?_,hc⟩
   ·rw [hk] at hk';injection hk' with hk'
    subst hk';exact hkk
   ·have:=hU' h1;rw [this] at hU;simp only [decide_eq_false_iff_not] at hU;exact hU ((hUiff h1).2 h2)
  ·exact hall j a' om ha'⟩
 have hkN:d.args[(argAt o i:Nat)]?=some k:=hk;refine fG (aj3 @tmz @hl' @ha) ?_;refine gM (ι:=Unit) [11] [] (fun u=>[(11,A.d (.one (.lit (.int .i64 (argAt o i:Nat)))))]) (fun u=>[]) (fun u=>True) ?_ (fun u hu=>Exists.intro _ (ai (Wk.refl _) ?_))
 ·rcases Bool.eq_false_or_eq_true o.assoc with hac | hac
  ·have F:=aj3 @Zan @hac @ZjS;refine gG ?_;exact ⟨(),trivial,gw,gw⟩
  ·have F:=aj4 @Zan @hac @ZjS @if_false.{1};refine gG ?_;exact ⟨(),trivial,gw,gw⟩
 refine fG @tmz ?_;refine gM (ι:=Bool) [76] [] (fun x=>[(76,A.d (.one (.lit (.bool x))))]) (fun x=>[]) (fun x=>(x=true->Zej g t.op t.args=false)∧(x=false->ZaO g a=((kd g.sorts k:Nat):Int)∧(o.assoc=true->¬ a.op=t.op)∧(o.unit≠0->U=false))) ?_ (fun x hx=>Exists.intro _ (ai (Wk.refl _) ?_))
 ·refine gB ?_;refine fC @tmz (cKa) ?_;by_cases hkk:ZaO g a=((kd g.sorts k:Nat):Int);rotate_left
  ·have hf:=hnoA i a ha fun h=>hkk (h.kind k hk);refine fR (aj9 @tmz @Zan @hd @ZaV @hkN @hk0 @hkd @Zbf @hkk) ?_;have F:=@tmz;refine gG ?_;exact ⟨true,⟨fun _=>hf,fun h=>by cases h⟩,gw,gw⟩
  by_cases hN:o.assoc=true∧a.op=t.op
  ·have hf:=hnoA i a ha fun h=>h.nest hN.1 hN.2;obtain ⟨hN1,hN2⟩:=hN;refine fR (aj11 @tmz @Zan @hd @ZaV @hkN @hk0 @hkd @Zbf @hkk @hN1 @hN2) ?_;have F:=ai @tmz @hN1;refine gG ?_;exact ⟨true,⟨fun _=>hf,fun h=>by cases h⟩,gw,gw⟩
  have hne:o.assoc=true->¬ a.op=t.op:=fun h1 h2=>hN ⟨h1,h2⟩;rcases Bool.eq_false_or_eq_true o.assoc with hac | hac
  all_goals (
   by_cases hu:o.unit=0
   ·refine fR (aj12 @tmz @Zan @hd @ZaV @hkN @hk0 @hkd @Zbf @hkk @hac @hne @hu) ?_;have F:=aj3 @tmz @hac @hu;refine gG ?_;exact ⟨false,⟨fun h=>(by cases h),fun _=>⟨hkk,hne,fun h=>absurd hu h⟩⟩,gw,gw⟩
   refine fC (aj12 @tmz @Zan @hd @ZaV @hkN @hk0 @hkd @Zbf @hkk @hac @hne @hu) (cU) ?_;rcases Bool.eq_false_or_eq_true U with hub | hub
   ·have hf:=hnoA i a ha fun h=>by
     rw [hub] at hU;simp only [decide_eq_true_eq] at hU;exact h.unit hu ((hUiff hu).1 hU)
    refine fR (ai @tmz @hub) ?_;have F:=aj3 @tmz @hac @hu;refine gG ?_;exact ⟨true,⟨fun _=>hf,fun h=>by cases h⟩,gw,gw⟩
   ·refine fR (ai @tmz @hub) ?_
    (have F:=aj3 @tmz @hac @hu;refine gG ?_;exact ⟨false,⟨fun h=>(by cases h),fun _=>⟨hkk,hne,fun _=>hub⟩⟩,gw,gw⟩))
 cases x with
 | true =>
  have hf:=hx.1 rfl;exact fT @hf
 | false =>
  obtain ⟨hkk,hne,hub⟩:=hx.2 rfl;refine fG @tmz ?_;rcases Bool.eq_false_or_eq_true o.comm with hcm | hcm
  rotate_left
  ·have hq:=hnext hkk hne hub (fun h=>by rw [hcm] at h;cases h);have F:=aj4 @hw1 @tmz @Zan @hcm;refine gG ?_;exact ⟨i+1,hq,gw,gw,om⟩
  rcases Nat.eq_zero_or_pos i with hi0 | hi0
  ·have hq:=hnext hkk hne hub (fun _ j p h=>om);have hi0':¬ ((0:Int) < (i:Int)):=om;have F:=aj5 @hw1 @tmz @Zan @hcm @hi0';refine gG ?_;exact ⟨i+1,hq,gw,gw,om⟩
  obtain ⟨j,hj⟩:∃ j,i=j+1:=⟨i - 1,om⟩;obtain ⟨p,hp⟩:∃ p,t.args[j]?=some p:=⟨_,Taa om⟩;have cC:=Zeo (k4.mem (Tac hp)) (k4.mem hm);have hgt0:(0:Int) < (i:Int):=om;have hsub:IntKind.i64.wrap ((i:Int) - 1)=(j:Int):=Za4 om om om;refine gB ?_;refine fC (aj6 @tmz @Zan @hcm @hgt0 @hsub @hp) (cC) ?_;by_cases hc:0 < Zah p a
  ·have hf:=hnoA i a ha fun h=>by have:=h.ord hcm j p hj hp;omega
   refine fR (ai @tmz @hc) ?_;exact fT @hf
  ·have hq:=hnext hkk hne hub (fun _ j' p' h hp'=>by
    have:j'=j:=om;subst this;rw [hp] at hp';injection hp' with hp'
    subst hp';omega)
   refine fR (ai @tmz @hc) ?_;have F:=aj4 @hw1 @tmz @Zan @hcm;refine gG ?_;exact ⟨i+1,hq,gw,gw,om⟩
theorem ZmP (hokg:Zdt g) (hg:SgnOk g):∀ (n:Nat) (t:Tm),sizeTm t < n->okTm t->sizeTm t<=big->Con e0 87 [.agg (ZaN g),.agg (Zab t)] [.one (.lit (.bool (ZbM g t)))]:=by
 intro n
 induction n with
 | zero=>intro t h;omega
 | succ n ih =>
  intro t hn hok hb;have hno:¬ ZaI g t->ZbM g t=false:=Zi7;obtain ⟨k1,k2,k3,k4⟩:=Zff.1 hok;have hsz:=Za3 t;have hal:=ZbB t.args;have cN:=ZtE hg hok hb;have hb':=hb;unfold big at hb';rw [ZaN] at cN;have ih':=fun a h1 h2 h3=>ih a h1 h2 h3;simp only [ZaN] at ih';refine gI 16794175 Tryz.func87 ?_;refine fB (ai @tmz @Zay) ?_;refine fC @tmz (cN) ?_;by_cases hN:Zeu g t=true;rotate_left
  ·have hf:=hno fun h=>hN (ZfB h.node);have hN':Zeu g t=false:=by simpa using hN
   refine fR (ai @tmz @hN') ?_;exact fT @hf
  have hNd:=ZtD.1 hN;refine fR (ai @tmz @hN) ?_;refine fG @tmz ?_;have F:=@e0P;refine gL (ι:=Nat) [4,5,14,24] [] (fun i=>[(5,A.d (.one (.lit (.int .i64 i))))]) (fun i=>[]) (fun i=>i<=t.args.length∧∀ (j:Nat) a,j < i->t.args[j]?=some a->ZaI g a) (fun i=>t.args.length - i) (0) (⟨om,fun j a h=>absurd h om⟩) (fun i hi=>?_);clear F;obtain ⟨hil,hall⟩:=hi;by_cases hl:i < t.args.length;rotate_left
  ·have hl':¬ ((i:Int) < (t.args.length:Int)):=om;have hF:∀ a∈t.args,ZaI g a:=fun a ha=>by
    obtain ⟨j,hj⟩:=Tbk ha;exact hall j a (by have:=(Tad.1 hj).1;omega) hj
   by_cases h1:t.op=-1
   ·have hT:=ZfA (g:=g) (t:=t) (Zbd.2 ⟨hNd,hF,.inl h1⟩);exact fT (aj4 @tmz @hl' @h1 @hT)
   obtain ⟨o,d,hA⟩:=hNd.app h1;have cR:=ZqX hokg hg hA hF hok hb;rw [ZaN] at cR;have e:Zej g t.op t.args=ZbM g t:=by
    unfold Zej ZbM;congr 1;rw [Zbd];exact propext ⟨fun h=>⟨hNd,hF,.inr h⟩,fun h=>h.2.2.resolve_left h1⟩
   refine fB (aj3 @tmz @hl' @h1) ?_;refine fC (ai @tmz @h1) (cR) ?_;refine fR @tmz ?_;exact fT @e
  have hl':(i:Int) < (t.args.length:Int):=om;obtain ⟨a,ha⟩:∃ a,t.args[i]?=some a:=⟨_,Taa hl⟩;have hm:=Tac ha;have hsa:=Zbu hm;have hw1:=Zau (k:=i) om;refine fB (aj3 @tmz @hl' @ha) ?_;refine fC (ai @tmz @ha) (ih' a om (k4.mem hm) (by unfold big;omega)) ?_;by_cases hfa:ZbM g a=true;rotate_left
  ·have hf:=hno fun h=>hfa (ZfA ((Zbd.1 h).2.1 a hm));have hfa':ZbM g a=false:=by simpa using hfa
   refine fR (ai @tmz @hfa') ?_;exact fT @hf
  have hq:i+1<=t.args.length∧∀ (j:Nat) a,j < i+1->t.args[j]?=some a->ZaI g a:=⟨om,fun j a' hj ha'=>by
   by_cases e:j=i
   ·subst e;rw [ha] at ha';injection ha' with ha'
    subst ha';exact Zf5.1 hfa
   ·exact hall j a' om ha'⟩
  refine fR (ai @tmz @hfa) ?_;have F:=ai @hw1 @tmz;refine gG ?_;exact ⟨i+1,hq,gw,gw,om⟩
theorem ZlY (hokg:Zdt g) (hg:SgnOk g) {t:Tm} (hok:okTm t) (hb:sizeTm t<=big):Con e0 87 [.agg (ZaN g),.agg (Zab t)] [.one (.lit (.bool (ZbM g t)))]:=ZmP hokg hg _ t (Tan _) hok hb
end
def Zbq (o:Opr) (op:Int) (a:Tm):List Tm:=if o.assoc=true∧a.op=op then a.args else if o.unit≠0∧a.op=o.unit - 1 then [] else [a]
def Zat (o:Opr) (op:Int) (xs:List Tm):List Tm:=xs.flatMap (Zbq o op)
def KArg (g:Sgn) (o:Opr) (d:Dcl) (i:Nat) (a:Tm):Prop:=∃ k,d.args[argAt o i]?=some k∧ZaO g a=kd g.sorts k
def srtO (o:Opr) (l:List Tm):List Tm:=if o.comm=true then Zaw l else l
def appT (op:Int) (l:List Tm):Tm:=.mk op ByteArray.empty 0 l
def BigT (o:Opr) (op:Int) (l:List Tm):Prop:=(o.assoc=true∧7 < l.length)∨60 < sizeTm (appT op l)∨20 < depthTm (appT op l)
def ArB (o:Opr) (d:Dcl) (n:Nat):Prop:=(o.assoc=true∧n < 2)∨(o.assoc=false∧n≠d.args.length)
open Classical in
noncomputable def mkL (o:Opr) (op:Int) (l:List Tm):Option Tm:=if o.unit≠0∧l.length < 2 then some (l.headD (ZbH o)) else if BigT o op (srtO o l) then none else some (appT op (srtO o l))
open Classical in
noncomputable def mkO (g:Sgn) (o:Opr) (d:Dcl) (op:Int) (xs:List Tm):Option Tm:=if ArB o d xs.length then none else if ∀ (i:Nat) a,xs[i]?=some a->KArg g o d i a then mkL o op (Zat o op xs) else none
noncomputable def mkT (g:Sgn) (op:Int) (xs:List Tm):Option Tm:=match g.ops[op.toNat]? with
 | none=>none
 | some o=>match o.decls[0]? with
  | none=>none
  | some d=>mkO g o d op xs
theorem ZpD {g:Sgn} {op:Int} {o:Opr} {d:Dcl} (ho:g.ops[op.toNat]?=some o) (hd:o.decls[0]?=some d) (xs:List Tm):mkT g op xs=mkO g o d op xs:=by simp only [mkT,ho,hd]
theorem Zkr {o:Opr} {op:Int} {xs:List Tm} {i:Nat} {a:Tm} (h:xs[i]?=some a):Zat o op (xs.take (i+1))=Zat o op (xs.take i)++Zbq o op a:=by
 rw [Zcj h];simp [Zat]
theorem Zg1 (o:Opr) (op:Int) (xs:List Tm) (i:Nat):(Zat o op (xs.take i)).length<=(Zat o op xs).length:=by
 have:Zat o op xs=Zat o op (xs.take i)++Zat o op (xs.drop i):=by
  unfold Zat;rw [<- List.flatMap_append,Tbm]
 rw [this,Tae];omega
theorem Zd9 (o:Opr) (l:List Tm):(srtO o l).Perm l:=by
 unfold srtO;split
 ·exact Za9 l
 ·exact List.Perm.refl _
theorem ZkN (o:Opr) (l:List Tm):(srtO o l).length=l.length:=(Zd9 o l).length_eq
theorem ZgI {l m:List Tm} (h:l.Perm m):sizeTms l=sizeTms m:=by
 induction h with
 | nil=>rfl
 | cons x h ih=>simp only [sizeTms,ih]
 | swap x y l=>simp only [sizeTms];omega
 | trans h1 h2 a b=>rw [a,b]
theorem ZfP {l m:List Tm} (h:l.Perm m):depthTms l=depthTms m:=by
 induction h with
 | nil=>rfl
 | cons x h ih=>simp only [depthTms,ih]
 | swap x y l=>simp only [depthTms];omega
 | trans h1 h2 a b=>rw [a,b]
theorem Opr.two {g:Sgn} (hg:SgnOk g) {i:Nat} {o:Opr} {d:Dcl} (ho:g.ops[i]?=some o) (hd:o.decls[0]?=some d) (h:o.assoc=true∨o.comm=true∨o.unit≠0):∃ k1 k2,d.args=[k1,k2]∧kd g.sorts k1=kd g.sorts k2∧((o.assoc=true∨o.unit≠0)->kd g.sorts k1=kd g.sorts d.res):=by
 have h2:=(hg.axs o (Tac ho)).two h d hd;obtain ⟨a,b,hab⟩:=ZBW h2.1;have h3:=h2.2 a b (by rw [hab];rfl) (by rw [hab];rfl);exact ⟨a,b,hab,h3.1,h3.2.1⟩
theorem Zxv {g:Sgn} (hg:SgnOk g) {i:Nat} {o:Opr} {d:Dcl} (ho:g.ops[i]?=some o) (hd:o.decls[0]?=some d) (hu:o.unit≠0):TermOk g (ZbH o)∧ZaO g (ZbH o)=kd g.sorts d.res:=by
 have hax:=hg.axs o (Tac ho);have hlo:=hax.lo;have hhi:=hax.hi;obtain ⟨k1,k2,hk,_⟩:=Opr.two hg ho hd (.inr (.inr hu));obtain ⟨p,hp⟩:∃ p,g.ops[o.unit.toNat - 1]?=some p:=⟨_,Taa om⟩;obtain ⟨u,hfu,_⟩:=hg.first hp;have h2:=((hax.two (.inr (.inr hu)) d hd).2 k1 k2 (by rw [hk];rfl) (by rw [hk];rfl)).2.2 hu p u hp hfu;have e:ZbH o=.mk (o.unit - 1) ByteArray.empty 0 []:=by simp only [ZbH,if_neg hu]
 have hop:((o.unit - 1:Int)).toNat=o.unit.toNat - 1:=om;have has:p.assoc=false:=by
  cases hpa:p.assoc with
  | false=>rfl
  | true=>have:=((hg.axs p (Tac hp)).two (.inl hpa) u hfu).1;omega
 have hA:AppOk g (ZbH o) p u:=by
  rw [e];exact ⟨by simp only [Tm.op];omega,by simp only [Tm.op];rw [hop];exact hp,hfu,rfl,rfl,fun h=>(by rw [has] at h;cases h),fun _=>by simp only [Tm.args,Tak];omega⟩
 refine ⟨⟨?_,?_,Zbd.2 ⟨.inr ⟨p,u,hA⟩,?_,.inr ?_⟩⟩,?_⟩
 ·rw [e];simp only [sizeTm,sizeTms];omega
 ·rw [e];simp only [depthTm,depthTms];omega
 ·rw [e];intro a ha;simp [Tm.args] at ha
 ·rw [e];intro o' d' _ _ j a ha;simp [Tm.args] at ha
 ·have hneg:¬ ((ZbH o).op=-1):=hA.op;rw [ZaO,if_neg hneg,e];simp only [Tm.op];rw [Zh5 (by rw [hop];exact hp) hfu,h2.2]
structure FlOk (g:Sgn) (o:Opr) (op:Int) (b:Tm):Prop where
 form:ZaI g b
 size:sizeTm b<=60
 depth:depthTm b<=20
 nest:o.assoc=true->b.op≠op
 unit:o.unit≠0->b.op≠o.unit - 1
theorem ZCs {g:Sgn} (hg:SgnOk g) {op:Int} {o:Opr} {d:Dcl} (h0:0<=op) (ho:g.ops[op.toNat]?=some o) (hd:o.decls[0]?=some d) {a:Tm} (ha:TermOk g a):∀ b∈Zbq o op a,FlOk g o op b:=by
 intro b hb;unfold Zbq at hb;split at hb
 ·rename_i h;obtain ⟨h1,h2⟩:=h;obtain ⟨_,f2,f3⟩:=Zbd.1 ha.form;have hR:=f3.resolve_left om;rw [h2] at hR;obtain ⟨j,hj⟩:=Tbk hb;have hA:=hR o d ho hd j b hj;have s1:=Zbu hb;have s2:=Zi4 hb;have s3:=ha.size;have s4:=ha.depth;rw [Za3] at s3;rw [Zdg] at s4;exact ⟨f2 b hb,om,om,hA.nest,hA.unit⟩
 ·rename_i h;split at hb
  ·simp at hb
  ·rename_i h';simp only [Tbj] at hb;subst hb;exact ⟨ha.form,ha.size,ha.depth,fun h1 h2=>h ⟨h1,h2⟩,fun h1 h2=>h' ⟨h1,h2⟩⟩
theorem Zxw {g:Sgn} (hg:SgnOk g) {op:Int} {o:Opr} {d:Dcl} (h0:0<=op) (ho:g.ops[op.toNat]?=some o) (hd:o.decls[0]?=some d) {xs:List Tm} (ha:∀ a∈xs,TermOk g a):∀ b∈Zat o op xs,FlOk g o op b:=by
 intro b hb;obtain ⟨a,h1,h2⟩:=List.mem_flatMap.1 hb;exact ZCs hg h0 ho hd (ha a h1) b h2
theorem ZBr {g:Sgn} (hg:SgnOk g) {op:Int} {o:Opr} {d:Dcl} {k1 k2:Int} (h0:0<=op) (ho:g.ops[op.toNat]?=some o) (hd:o.decls[0]?=some d) (hk:d.args=[k1,k2]) (hkk:kd g.sorts k1=kd g.sorts k2) {a:Tm} (ha:TermOk g a) {i:Nat} (hK:KArg g o d i a):∀ b∈Zbq o op a,ZaO g b=kd g.sorts k1:=by
 have hat:∀ (j:Nat) k,d.args[j]?=some k->kd g.sorts k=kd g.sorts k1:=fun j k h=>by
  rw [hk] at h
  match j,h with
  | 0,h=>simp only [Tat,Taq] at h;rw [h]
  | 1,h=>simp only [Tau,Tat,Taq] at h;rw [<- h,hkk]
  | j+2,h=>simp at h
 intro b hb;unfold Zbq at hb;split at hb
 ·rename_i h;obtain ⟨h1,h2⟩:=h;obtain ⟨_,f2,f3⟩:=Zbd.1 ha.form;have hR:=f3.resolve_left om;rw [h2] at hR;obtain ⟨j,hj⟩:=Tbk hb;exact (hR o d ho hd j b hj).kind k1 (by rw [argAt,if_pos h1,hk];rfl)
 ·split at hb
  ·simp at hb
  ·simp only [Tbj] at hb;subst hb;obtain ⟨k,h1,h2⟩:=hK;rw [h2,hat _ _ h1]
theorem Zks {g:Sgn} (hg:SgnOk g) {op:Int} {o:Opr} {d:Dcl} {k1 k2:Int} (h0:0<=op) (ho:g.ops[op.toNat]?=some o) (hd:o.decls[0]?=some d) (hk:d.args=[k1,k2]) (hkk:kd g.sorts k1=kd g.sorts k2) {xs:List Tm} (ha:∀ a∈xs,TermOk g a) (hK:∀ (i:Nat) a,xs[i]?=some a->KArg g o d i a):∀ b∈Zat o op xs,ZaO g b=kd g.sorts k1:=by
 intro b hb;obtain ⟨a,h1,h2⟩:=List.mem_flatMap.1 hb;obtain ⟨i,hi⟩:=Tbk h1;exact ZBr hg h0 ho hd hk hkk (ha a h1) (hK i a hi) b h2
theorem Zxx {o:Opr} {op:Int} (has:o.assoc=false) (a:Tm):(Zbq o op a).length<=1∧((Zbq o op a).length=1->Zbq o op a=[a]):=by
 unfold Zbq;rw [if_neg fun h=>by rw [has] at h;cases h.1];split <;> simp
theorem Zjb {o:Opr} {op:Int} (has:o.assoc=false):∀ (xs:List Tm),(Zat o op xs).length<=xs.length∧((Zat o op xs).length=xs.length->Zat o op xs=xs)
 | []=>⟨Tai _,fun _=>rfl⟩
 | a::xs=>by
  obtain ⟨i1,i2⟩:=Zjb (op:=op) has xs;obtain ⟨j1,j2⟩:=Zxx (op:=op) has a;have e:Zat o op (a::xs)=Zbq o op a++Zat o op xs:=rfl;rw [e,Tae,Tag];refine ⟨om,fun h=>?_⟩;rw [j2 om,i2 om];rfl
theorem Zkt {o:Opr} {op:Int} (has:o.assoc=false) (hu:o.unit=0) (xs:List Tm):Zat o op xs=xs:=by
 induction xs with
 | nil=>rfl
 | cons a xs ih =>
  have e:Zat o op (a::xs)=Zbq o op a++Zat o op xs:=rfl;rw [e,ih];unfold Zbq;rw [if_neg (fun h=>by rw [has] at h;cases h.1),if_neg fun h=>h.1 hu];rfl
theorem ZlZ {o:Opr} {op:Int} {g:Sgn} (hg:SgnOk g) (h0:0<=op) (ho:g.ops[op.toNat]?=some o) (hac:o.assoc=true) (hu:o.unit=0):∀ {xs:List Tm},(∀ a∈xs,TermOk g a)->xs.length<=(Zat o op xs).length
 | [],_=>Tai _
 | a::xs,ha=>by
  have ih:=ZlZ hg h0 ho hac hu (xs:=xs) fun x hx=>ha x (Tal _ hx);have e:Zat o op (a::xs)=Zbq o op a++Zat o op xs:=rfl;rw [e,Tae,Tag];have:1<=(Zbq o op a).length:=by
   unfold Zbq;split
   ·rename_i h;obtain ⟨o',d',hA⟩:=(ha a Tas).form.node.app om;have:o'=o:=by have:=hA.at';rw [h.2,ho] at this;injection this with this;exact this.symm
    subst this;have:=(hA.asc hac).1;omega
   ·rw [if_neg fun h=>h.1 hu];simp
  omega
theorem ZB1 {g:Sgn} (hg:SgnOk g) {op:Int} {o:Opr} {d:Dcl} (h0:0<=op) (ho:g.ops[op.toNat]?=some o) (hd:o.decls[0]?=some d) {xs:List Tm} (ha:∀ a∈xs,TermOk g a) {t:Tm} (h:mkO g o d op xs=some t):TermOk g t∧ZaO g t=kd g.sorts d.res:=by
 unfold mkO at h;split at h
 ·cases h
 rename_i hAr;split at h;rotate_left
 ·cases h
 rename_i hK;have hfl:=Zxw hg h0 ho hd ha;unfold mkL at h;split at h
 ·rename_i hu;obtain ⟨hu,hl⟩:=hu;injection h with h
  have hU:=Zxv hg ho hd hu;obtain ⟨k1,k2,hk,hkk,hkr⟩:=Opr.two hg ho hd (.inr (.inr hu));have hfk:=Zks hg h0 ho hd hk hkk ha hK
  cases hf:Zat o op xs with
  | nil=>rw [hf] at h;simp only [List.headD] at h;subst h;exact hU
  | cons b bs =>
   rw [hf] at h hfl hfk;simp only [List.headD] at h;subst h;have hb:=hfl b Tas;exact ⟨⟨hb.size,hb.depth,hb.form⟩,by rw [hfk b Tas,hkr (.inr hu)]⟩
 ·rename_i hu;split at h
  ·cases h
  rename_i hB;injection h with h
  subst h;have hB1:¬ (o.assoc=true∧7 < (srtO o (Zat o op xs)).length):=fun q=>hB (.inl q);have hB2:¬ 60 < sizeTm (appT op (srtO o (Zat o op xs))):=fun q=>hB (.inr (.inl q));have hB3:¬ 20 < depthTm (appT op (srtO o (Zat o op xs))):=fun q=>hB (.inr (.inr q));have hp:=Zd9 o (Zat o op xs);have hsl:=hp.length_eq;have hmem:∀ b,b∈srtO o (Zat o op xs) ↔ b∈Zat o op xs:=fun b=>hp.mem_iff;have hneg:¬ ((appT op (srtO o (Zat o op xs))).op=-1):=by simp only [appT,Tm.op];omega
  refine ⟨⟨om,om,Zbd.2 ⟨.inr ⟨o,d,h0,ho,hd,rfl,rfl,fun hac=>?_,fun has=>?_⟩,fun a hm=>(hfl a ((hmem a).1 hm)).form,.inr ?_⟩⟩,?_⟩
  ·simp only [appT,Tm.args];have:¬ (xs.length < 2):=fun q=>hAr (.inl ⟨hac,q⟩);by_cases hu0:o.unit=0
   ·have:=ZlZ hg h0 ho hac hu0 ha;exact ⟨om,by have:¬ (7 < (srtO o (Zat o op xs)).length):=fun q=>hB1 ⟨hac,q⟩;omega⟩
   ·exact ⟨by have:¬ ((Zat o op xs).length < 2):=fun q=>hu ⟨hu0,q⟩;omega,by have:¬ (7 < (srtO o (Zat o op xs)).length):=fun q=>hB1 ⟨hac,q⟩;omega⟩
  ·simp only [appT,Tm.args];have hlen:xs.length=d.args.length:=Classical.byContradiction fun q=>hAr (.inr ⟨has,q⟩);rw [hsl];by_cases hu0:o.unit=0
   ·rw [Zkt has hu0,hlen]
   ·obtain ⟨k1,k2,hk,_⟩:=Opr.two hg ho hd (.inr (.inr hu0));have h1:=(Zjb (op:=op) has xs).1;have:¬ ((Zat o op xs).length < 2):=fun q=>hu ⟨hu0,q⟩;rw [hlen,hk] at h1;rw [hk];simp only [Tag,Tak] at h1 ⊢;omega
  ·intro o' d' ho' hd' i a hi;simp only [appT,Tm.op] at ho';rw [ho] at ho';injection ho' with ho'
   subst ho';rw [hd] at hd';injection hd' with hd'
   subst hd';simp only [appT,Tm.args] at hi ⊢;have hm:=Tac hi;have hf:=hfl a ((hmem a).1 hm);refine ⟨fun k hk=>?_,hf.nest,hf.unit,fun hc j p hij hj=>?_⟩
   ·by_cases hax:o.assoc=true∨o.comm=true∨o.unit≠0
    ·obtain ⟨k1,k2,hka,hkk,_⟩:=Opr.two hg ho hd hax;have hfk:=Zks hg h0 ho hd hka hkk ha hK a ((hmem a).1 hm);rw [hfk];have:kd g.sorts k=kd g.sorts k1:=by
      generalize argAt o i=n at hk;rw [hka] at hk
      match n,hk with
      | 0,hk=>simp only [Tat,Taq] at hk;rw [hk]
      | 1,hk=>simp only [Tau,Tat,Taq] at hk;rw [<- hk,hkk]
      | n+2,hk=>simp at hk
     rw [this]
    ·have has:o.assoc=false:=by cases h:o.assoc with | false=>rfl | true=>exact absurd (.inl h) hax
     have hc:o.comm=false:=by cases h:o.comm with | false=>rfl | true=>exact absurd (.inr (.inl h)) hax
     have hu0:o.unit=0:=Classical.byContradiction fun q=>hax (.inr (.inr q));rw [srtO,if_neg (by rw [hc];simp),Zkt has hu0] at hi;obtain ⟨k',h1,h2⟩:=hK i a hi;rw [hk] at h1;injection h1 with h1
     rw [h2,h1]
   ·rw [srtO,if_pos hc] at hi hj;exact (Zcd _).get om hj hi
  ·rw [ZaO,if_neg hneg];simp only [appT,Tm.op];rw [Zh5 ho hd]
theorem ZaI.ok {g:Sgn} (hg:SgnOk g):∀ (n:Nat) (t:Tm),sizeTm t < n->ZaI g t->okTm t:=by
 intro n
 induction n with
 | zero=>intro t h;omega
 | succ n ih =>
  intro t hn hf;obtain ⟨h1,h2,_⟩:=Zbd.1 hf;have hargs:Zax t.args:=by
   have:∀ l:List Tm,(∀ a∈l,okTm a)->Zax l:=fun l=>by
    induction l with
    | nil=>intro _;trivial
    | cons x xs ih=>intro h;exact ⟨h x Tas,ih fun a ha=>h a (Tal _ ha)⟩
   refine this _ fun a ha=>ih a ?_ (h2 a ha);have:=Zbu ha;rw [Za3] at hn;omega
  rw [Zff];have hsn:g.sorts.names.length<=8:=hg.sorts.n8;rcases h1 with hv | ⟨o,d,hA⟩
  ·obtain ⟨v1,v2,v3,v4,v5⟩:=hv;have:t.name.size<=12:=by unfold ZaG at v2;simp only [Tar,decide_eq_true_eq] at v2;exact v2.1.1.1.2
   exact ⟨by unfold I64;omega,by unfold maxLen;omega,by unfold I64;omega,hargs⟩
  ·have h3:=hA.lo;have h4:=(Tad.1 hA.at').1;have h5:=hg.len;rw [hA.nm,hA.so];exact ⟨by unfold I64;omega,by simp [maxLen],by unfold I64;omega,hargs⟩
theorem TermOk.ok {g:Sgn} (hg:SgnOk g) {t:Tm} (h:TermOk g t):okTm t:=ZaI.ok hg _ t (Tan _) h.form
end Go.Proofs.YtjoaefnnnbpflaaGreatDoor
namespace Go.Proofs.YtjoaefnnnbpflaaGreatDoor
theorem ZkO (m p:Nat) (a b:Bool):(2 * m+a.toNat) &&& (2 * p+b.toNat)=2 * (m &&& p)+(a && b).toNat:=by
 apply Nat.eq_of_testBit_eq;intro i;rw [Nat.testBit_and]
 cases i with
 | zero=>simp only [Nat.testBit_zero];cases a <;> cases b <;> simp [Nat.add_mod]
 | succ i =>
  simp only [Nat.testBit_succ];have h:∀ (n:Nat) (c:Bool),(2 * n+c.toNat) / 2=n:=fun n c=>by cases c <;> simp <;> omega
  rw [h,h,h,Nat.testBit_and]
theorem Zjc (n:Nat):∃ m,∃ a:Bool,n=2 * m+a.toNat:=by
 refine ⟨n / 2,decide (n % 2=1),?_⟩;rcases Nat.mod_two_eq_zero_or_one n with h | h
 ·rw [h];simp;omega
 ·rw [h];simp;omega
open Classical in
noncomputable def ofB (P:Nat->Prop):Nat->Nat
 | 0=>0
 | n+1=>ofB P n ||| (if P n then 2 ^ n else 0)
theorem ZjU (P:Nat->Prop):∀ (n i:Nat),(ofB P n).testBit i=true ↔ i < n∧P i
 | 0,i=>by simp [ofB]
 | n+1,i=>by
  rw [ofB,Nat.testBit_or,Bool.or_eq_true,ZjU P n i];by_cases h:P n
  ·rw [if_pos h,Nat.testBit_two_pow];simp only [decide_eq_true_eq];constructor
   ·rintro (⟨h1,h2⟩ | rfl)
    ·exact ⟨om,h2⟩
    ·exact ⟨om,h⟩
   ·rintro ⟨h1,h2⟩;by_cases h3:n=i
    ·exact .inr h3
    ·exact .inl ⟨om,h2⟩
  ·rw [if_neg h];simp only [Nat.zero_testBit,Tam,or_false];constructor
   ·rintro ⟨h1,h2⟩;exact ⟨om,h2⟩
   ·rintro ⟨h1,h2⟩;by_cases h3:i=n
    ·subst h3;exact absurd h2 h
    ·exact ⟨om,h2⟩
theorem ZB2 (P:Nat->Prop) (n:Nat):ofB P n < 2 ^ n:=by
 apply Nat.lt_pow_two_of_testBit;intro i hi
 cases h:(ofB P n).testBit i with
 | false=>rfl
 | true=>have:=((ZjU P n i).1 h).1;omega
theorem Zl0 {v n i:Nat} (h:v < 2 ^ n) (hb:v.testBit i=true):i < n:=by
 apply Classical.byContradiction;intro hc;have:v < 2 ^ i:=Tbd h (Tbs (by decide) om);rw [Nat.testBit_lt_two_pow this] at hb
 cases hb
theorem ZtF {v u:Nat} (h:∀ i,v.testBit i=true ↔ u.testBit i=true):v=u:=by
 apply Nat.eq_of_testBit_eq;intro i;have:=h i
 cases h1:v.testBit i <;> cases h2:u.testBit i <;> simp_all
theorem Zxy {P:Nat->Prop} {n v:Nat} (hv:v < 2 ^ n) (h:∀ i,i < n->(v.testBit i=true ↔ P i)):v=ofB P n:=by
 apply ZtF;intro i;rw [ZjU];constructor
 ·intro hb;have:=Zl0 hv hb;exact ⟨this,(h i this).1 hb⟩
 ·rintro ⟨h1,h2⟩;exact (h i h1).2 h2
theorem Zxz {P Q:Nat->Prop} {n:Nat} (h:∀ i,i < n->(P i ↔ Q i)):ofB P n=ofB Q n :=
 Zxy (ZB2 P n) fun i hi=>by rw [ZjU,h i hi];exact ⟨fun x=>x.2,fun x=>⟨hi,x⟩⟩
inductive BagB (R:Nat->Nat->Nat->Prop) (sets:List Nat):Nat->Nat->Prop
 | leaf {i b s:Nat}:sets[i]?=some s->s.testBit b=true->BagB R sets (2 ^ i) b
 | node {p q a c b:Nat}:p≠0->q≠0->p &&& q=0->BagB R sets p a->BagB R sets q c->R a c b->BagB R sets (p ||| q) b
inductive ChB (R:Nat->Nat->Nat->Prop) (sets:List Nat):Nat->Nat->Nat->Prop
 | leaf {i b s:Nat}:sets[i]?=some s->s.testBit b=true->ChB R sets i (i+1) b
 | node {i k j a c b:Nat}:i < k->k < j->ChB R sets i k a->ChB R sets k j c->R a c b->ChB R sets i j b
theorem ZBs {R:Nat->Nat->Nat->Prop} {sets:List Nat} {i s b:Nat} (hs:sets[i]?=some s):ChB R sets i (i+1) b ↔ s.testBit b=true:=by
 constructor
 ·intro h;generalize hj:i+1=j at h
  cases h with
  | leaf h1 h2=>rw [hs] at h1;injection h1 with h1;subst h1;exact h2
  | node h1 h2 _ _ _=>omega
 ·exact fun h=>.leaf hs h
end Go.Proofs.YtjoaefnnnbpflaaGreatDoor
namespace Go.Proofs.YtjoaefnnnbpflaaGreatDoor
open Go.RowKit
theorem Zy9 {v n:Nat} (h:v < 2 ^ n):ofB (fun b=>v.testBit b=true) n=v:=(Zxy h fun i _=>Iff.rfl).symm
def upk (g:Sgn) (k:Int):Nat:=(up g.sorts).getD k.toNat 0
theorem ZBt {g:Sgn} (hs:SortsOk g.sorts) {k:Int} (h0:0<=k) (h1:k < g.sorts.names.length):(up g.sorts)[k.toNat]?=some (upk g k)∧upk g k < 2 ^ g.sorts.names.length :=
 (ZhX (SortsOk.subsIn hs.subs)).get om
def ZAP (g:Sgn) (o:Opr) (sets:List Nat) (b:Nat):Prop:=∃ d∈o.decls,(∀ (i:Nat) k s,d.args[i]?=some k->sets[i]?=some s->s.testBit k.toNat=true)∧(upk g d.res).testBit b=true
def Rel2 (g:Sgn) (o:Opr) (a c b:Nat):Prop:=∃ d∈o.decls,d.args.map Int.toNat=[a,c]∧(upk g d.res).testBit b=true
def AnyB (g:Sgn) (o:Opr) (sets:List Nat) (b:Nat):Prop:=ZAP g o sets b∨(o.comm=true∧ZAP g o sets.reverse b)
def AppB (g:Sgn) (o:Opr) (sets:List Nat) (b:Nat):Prop:=if o.assoc=true then (if o.comm=true then BagB (Rel2 g o) sets (2 ^ sets.length - 1) b else ChB (Rel2 g o) sets 0 sets.length b) else AnyB g o sets b
noncomputable def appS (g:Sgn) (o:Opr) (sets:List Nat):Nat:=ofB (AppB g o sets) g.sorts.names.length
mutual
noncomputable def sortsTm (g:Sgn):Tm->Nat
 | .mk op _ so args=>if op=-1 then upk g so else match g.ops[op.toNat]? with
  | none=>0
  | some o=>appS g o (ZpE g args)
noncomputable def ZpE (g:Sgn):List Tm->List Nat
 | []=>[]
 | t::ts=>sortsTm g t::ZpE g ts
end
theorem Rel2.lt {g:Sgn} (hg:SgnOk g) {o:Opr} (ho:o∈g.ops) {a c b:Nat} (h:Rel2 g o a c b):b < g.sorts.names.length:=by
 obtain ⟨d,hd,_,hb⟩:=h;have hD:=hg.decls o ho;obtain ⟨f,hf,_⟩:=hD.first;have hd':=hD.all f hf d hd;exact Zl0 (ZBt hg.sorts hd'.res.1 hd'.res.2).2 hb
theorem Opr.deg2 {g:Sgn} (hg:SgnOk g) {i:Nat} {o:Opr} (ho:g.ops[i]?=some o) (h:o.assoc=true∨o.comm=true∨o.unit≠0):∀ d∈o.decls,d.args.length=2:=by
 intro d hd;have hm:=Tac ho;have hD:=hg.decls o hm;obtain ⟨f,hf,_⟩:=hD.first;rw [(hD.all f hf d hd).len];exact ((hg.axs o hm).two h f hf).1
theorem BagB.lt {R:Nat->Nat->Nat->Prop} {sets:List Nat} {N:Nat} (hs:∀ s∈sets,s < 2 ^ N) (hR:∀ a c b,R a c b->b < N) {m b:Nat} (h:BagB R sets m b):b < N:=by
 cases h with
 | leaf h1 h2=>exact Zl0 (hs _ (Tac h1)) h2
 | node _ _ _ _ _ h=>exact hR _ _ _ h
theorem ChB.lt {R:Nat->Nat->Nat->Prop} {sets:List Nat} {N:Nat} (hs:∀ s∈sets,s < 2 ^ N) (hR:∀ a c b,R a c b->b < N) {i j b:Nat} (h:ChB R sets i j b):b < N:=by
 cases h with
 | leaf h1 h2=>exact Zl0 (hs _ (Tac h1)) h2
 | node _ _ _ _ h=>exact hR _ _ _ h
theorem ZB3 {R:Nat->Nat->Nat->Prop} {sets:List Nat} {N i s:Nat} (hs:sets[i]?=some s) (h:s < 2 ^ N):ofB (ChB R sets i (i+1)) N=s:=by
 rw [show ofB (ChB R sets i (i+1)) N=ofB (fun b=>s.testBit b=true) N from Zxz fun b _=>ZBs hs,Zy9 h]
inductive BagL (R:Nat->Nat->Nat->Prop):List Nat->Nat->Prop
 | leaf {s b:Nat}:s.testBit b=true->BagL R [s] b
 | node {L A B:List Nat} {a c b:Nat}:L.Perm (A++B)->BagL R A a->BagL R B c->R a c b->BagL R L b
def pick:List Nat->Nat->List Nat
 | [],_=>[]
 | s::l,m=>if m % 2=1 then s::pick l (m / 2) else pick l (m / 2)
theorem ZdK (s:Nat) (l:List Nat) (m:Nat) (a:Bool):pick (s::l) (2 * m+a.toNat)=if a=true then s::pick l m else pick l m:=by
 cases a
 ·rw [pick,if_neg (by simp)];simp
 ·rw [pick,if_pos (by simp),if_pos rfl];congr 2;simp;omega
theorem Zjd:∀ (l:List Nat),pick l 0=[]
 | []=>rfl
 | s::l=>by rw [pick,if_neg (by decide)];exact Zjd l
theorem ZpF (m p:Nat) (a b:Bool):(2 * m+a.toNat) ||| (2 * p+b.toNat)=2 * (m ||| p)+(a || b).toNat:=by
 apply Nat.eq_of_testBit_eq;intro i;rw [Nat.testBit_or]
 cases i with
 | zero=>cases a <;> cases b <;> simp [Nat.testBit_zero] <;> omega
 | succ i =>
  rw [Nat.testBit_succ,Nat.testBit_succ,Nat.testBit_succ];have e:∀ (x:Nat) (c:Bool),(2 * x+c.toNat) / 2=x:=fun x c=>by cases c <;> simp <;> omega
  rw [e,e,e,Nat.testBit_or]
theorem ZpG:∀ {l:List Nat} {m:Nat},m < 2 ^ l.length->pick l m=[]->m=0
 | [],m,h,_=>by simpa using h
 | s::l,m,h,hp=>by
  obtain ⟨m,a,rfl⟩:=Zjc m;rw [ZdK] at hp;rw [Tag,Nat.pow_succ] at h
  cases a
  ·have:=ZpG (l:=l) (m:=m) (by simp at h;omega) (by simpa using hp);subst this;rfl
  ·simp at hp
theorem ZpH:∀ {l:List Nat} {m s:Nat},m < 2 ^ l.length->pick l m=[s]->∃ i,l[i]?=some s∧m=2 ^ i
 | [],m,s,_,h=>by simp [pick] at h
 | x::l,m,s,h,hp=>by
  obtain ⟨m,a,rfl⟩:=Zjc m;rw [ZdK] at hp;rw [Tag,Nat.pow_succ] at h
  cases a
  ·obtain ⟨i,h1,h2⟩:=ZpH (l:=l) (m:=m) (s:=s) (by simp at h;omega) (by simpa using hp);exact ⟨i+1,by simpa using h1,by rw [h2,Nat.pow_succ];simp;omega⟩
  ·simp only [if_true,List.cons.injEq] at hp;have:=ZpG (l:=l) (m:=m) (by simp at h;omega) hp.2;subst this;exact ⟨0,by simp [hp.1],rfl⟩
theorem Zf7:∀ {l:List Nat} {m:Nat} {A B:List Nat},m < 2 ^ l.length->(pick l m).Perm (A++B)->∃ p q,p &&& q=0∧p ||| q=m∧p < 2 ^ l.length∧q < 2 ^ l.length∧(pick l p).Perm A∧(pick l q).Perm B
 | [],m,A,B,h,hp=>by
  have e:m=0:=by simpa using h
  subst e;have:=hp.length_eq;simp only [pick,Tak,Tae] at this;have hA:A=[]:=Tao om;have hB:B=[]:=Tao om;subst hA hB;exact ⟨0,0,rfl,rfl,by simp,by simp,.nil,.nil⟩
 | s::l,m,A,B,h,hp=>by
  obtain ⟨m,a,rfl⟩:=Zjc m;rw [ZdK] at hp;rw [Tag,Nat.pow_succ] at h ⊢;have hm:m < 2 ^ l.length:=by cases a <;> simp at h <;> omega
  cases a
  ·obtain ⟨p,q,h1,h2,h3,h4,h5,h6⟩:=Zf7 (l:=l) hm (by simpa using hp);refine ⟨2 * p+false.toNat,2 * q+false.toNat,by rw [ZkO,h1];rfl,by rw [ZpF,h2];rfl,by simp;omega,by simp;omega,?_,?_⟩
   ·rw [ZdK];simpa using h5
   ·rw [ZdK];simpa using h6
  ·simp only [if_true] at hp;have hs:s∈A++B:=hp.mem_iff.1 Tas;rcases Tbh.1 hs with hs | hs
   ·obtain ⟨A1,A2,rfl⟩:=List.append_of_mem hs;have hp2:(pick l m).Perm ((A1++A2)++B):=by
     have h7:(s::pick l m).Perm (s::((A1++A2)++B)):=hp.trans ((Tbv (a:=s) (l₁:=A1) (l₂:=A2)).append_right B);exact h7.cons_inv
    obtain ⟨p,q,h1,h2,h3,h4,h5,h6⟩:=Zf7 (l:=l) hm hp2;refine ⟨2 * p+true.toNat,2 * q+false.toNat,by rw [ZkO,h1];rfl,by rw [ZpF,h2];rfl,by simp;omega,by simp;omega,?_,?_⟩
    ·rw [ZdK,if_pos rfl];exact (h5.cons s).trans Tbv.symm
    ·rw [ZdK];simpa using h6
   ·obtain ⟨B1,B2,rfl⟩:=List.append_of_mem hs;have hp2:(pick l m).Perm (A++(B1++B2)):=by
     have h7:(s::pick l m).Perm (s::(A++(B1++B2))):=hp.trans (((Tbv (a:=s) (l₁:=B1) (l₂:=B2)).append_left A).trans Tbv);exact h7.cons_inv
    obtain ⟨p,q,h1,h2,h3,h4,h5,h6⟩:=Zf7 (l:=l) hm hp2;refine ⟨2 * p+false.toNat,2 * q+true.toNat,by rw [ZkO,h1];rfl,by rw [ZpF,h2];rfl,by simp;omega,by simp;omega,?_,?_⟩
    ·rw [ZdK];simpa using h5
    ·rw [ZdK,if_pos rfl];exact (h6.cons s).trans Tbv.symm
section
variable {R:Nat->Nat->Nat->Prop}
theorem BagL.ne {X:List Nat} {b:Nat} (h:BagL R X b):X≠[]:=by
 induction h with
 | leaf h=>simp
 | node hp _ _ _ i1 _ =>
  intro e;subst e;have:=hp.length_eq;simp only [Tak,Tae] at this;exact i1 (Tao om)
theorem BagL.to {X:List Nat} {b:Nat} (h:BagL R X b):∀ {L:List Nat} {m:Nat},X.Perm (pick L m)->m < 2 ^ L.length->BagB R L m b:=by
 induction h with
 | leaf h =>
  intro L m hp hm;obtain ⟨i,h1,rfl⟩:=ZpH hm (List.perm_singleton.1 hp.symm);exact .leaf h1 h
 | node hp ha hb hr i1 i2 =>
  intro L m hq hm;obtain ⟨p,q,h1,rfl,h3,h4,h5,h6⟩:=Zf7 hm (hq.symm.trans hp);refine .node (fun e=>?_) (fun e=>?_) h1 (i1 h5.symm h3) (i2 h6.symm h4) hr
  ·subst e;rw [Zjd] at h5;exact ha.ne (List.nil_perm.1 h5)
  ·subst e;rw [Zjd] at h6;exact hb.ne (List.nil_perm.1 h6)
end
def Adj (subs:List (Int × Int)) (a b:Nat):Prop:=∃ p∈subs,(a=p.1.toNat∧b=p.2.toNat)∨(a=p.2.toNat∧b=p.1.toNat)
inductive Walk (subs:List (Int × Int)) (i:Nat):Nat->Nat->Prop
 | start:Walk subs i 0 i
 | next {r j k:Nat}:Walk subs i r j->Adj subs j k->Walk subs i (r+1) k
theorem Adj.symm {subs:List (Int × Int)} {a b:Nat}:Adj subs a b->Adj subs b a:=fun ⟨p,hp,h⟩=>⟨p,hp,h.elim (fun h=>.inr ⟨h.2,h.1⟩) fun h=>.inl ⟨h.2,h.1⟩⟩
def Wlk (subs:List (Int × Int)) (i j:Nat):Prop:=∃ r,Walk subs i r j
theorem Walk.cons {subs:List (Int × Int)} {i k r j:Nat} (ha:Adj subs i k) (h:Walk subs k r j):Walk subs i (r+1) j:=by
 induction h with
 | start=>exact .next .start ha
 | next _ hb ih=>exact .next ih hb
theorem Wlk.cons {subs:List (Int × Int)} {i k j:Nat} (ha:Adj subs i k) (h:Wlk subs k j):Wlk subs i j:=h.imp' (·+1) fun r h=>h.cons ha
theorem Wlk.symm {subs:List (Int × Int)} {i j:Nat}:Wlk subs i j->Wlk subs j i:=by
 rintro ⟨r,h⟩
 induction h with
 | start=>exact ⟨0,.start⟩
 | next _ hb ih=>exact Wlk.cons hb.symm ih
theorem Wlk.trans {subs:List (Int × Int)} {i j k:Nat} (h:Wlk subs i j) (h2:Wlk subs j k):Wlk subs i k:=by
 obtain ⟨r,h2⟩:=h2
 induction h2 with
 | start=>exact h
 | next _ hb ih=>exact ih.imp' (·+1) fun r h=>.next h hb
theorem ZpI {l:List Nat} {i j v:Nat} (h:i < l.length):(l.set i v).getD j 0=if j=i then v else l.getD j 0:=by
 simp only [List.getD];by_cases e:j=i
 ·subst e;rw [Tbn h,if_pos rfl];rfl
 ·rw [Tbo (Ne.symm e),if_neg e]
section
variable {n:Nat} {subs:List (Int × Int)}
theorem Zza {l:List Nat} (h:KOk n l) {p:Int × Int} (hp:0<=p.1∧p.1 < n∧0<=p.2∧p.2 < n) (i:Nat):(kSub l p).getD i 0=if i=p.2.toNat∨i=p.1.toNat then min (l.getD p.1.toNat 0) (l.getD p.2.toNat 0) else l.getD i 0:=by
 unfold kSub;rw [ZpI (by rw [Taz,h.1];omega),ZpI (by rw [h.1];omega)];by_cases e:i=p.2.toNat
 ·simp [e]
 ·by_cases e2:i=p.1.toNat
  ·simp [e2]
  ·simp [e,e2]
def KIn (n:Nat) (subs:List (Int × Int)) (l:List Nat):Prop:=∀ i,i < n->l.getD i 0 < n∧Wlk subs i (l.getD i 0)
theorem KIn.foldl {subs0:List (Int × Int)}:∀ {subs:List (Int × Int)} {l:List Nat},KOk n l->ZcD n subs->(∀ p∈subs,p∈subs0)->KIn n subs0 l->KIn n subs0 (subs.foldl kSub l)
 | [],l,_,_,_,h=>h
 | p::ps,l,hk,hs,hi,h=>by
  have hp:=hs p Tas;refine KIn.foldl (subs:=ps) (hk.sub hp) (fun q hq=>hs q (Tal _ hq)) (fun q hq=>hi q (Tal _ hq)) fun i hin=>?_;have h1:=h p.1.toNat om;have h2:=h p.2.toNat om;have hm:=hi p Tas;rw [Zza hk hp];split
  ·rename_i e;rcases Nat.le_total (l.getD p.1.toNat 0) (l.getD p.2.toNat 0) with hle | hle
   ·rw [Nat.min_eq_left hle];refine ⟨h1.1,?_⟩;rcases e with rfl | rfl
    ·exact h1.2.cons ⟨p,hm,.inr ⟨rfl,rfl⟩⟩
    ·exact h1.2
   ·rw [Nat.min_eq_right hle];refine ⟨h2.1,?_⟩;rcases e with rfl | rfl
    ·exact h2.2
    ·exact h2.2.cons ⟨p,hm,.inl ⟨rfl,rfl⟩⟩
  ·exact h i hin
theorem KIn.iter (hs:ZcD n subs):∀ (k:Nat) {l:List Nat},KOk n l->KIn n subs l->KIn n subs (Zdv subs k l)
 | 0,l,_,h=>h
 | k+1,l,hk,h=>(KIn.iter hs k hk h).foldl (KOk.iter hs k hk) hs fun _ h=>h
theorem Adj.lt (hs:ZcD n subs) {i j:Nat} (h:Adj subs i j):j < n:=by
 obtain ⟨p,hp,⟨_,rfl⟩ | ⟨_,rfl⟩⟩:=h
 ·have:=hs p hp;omega
 ·have:=hs p hp;omega
end
theorem TermOk.arg {g:Sgn} {t a:Tm} (h:TermOk g t) (ha:a∈t.args):TermOk g a:=by
 have s1:=Zbu ha;have s2:=Zi4 ha;have s3:=h.size;have s4:=h.depth;rw [Za3] at s3;rw [Zdg] at s4;exact ⟨om,om,(Zbd.1 h.form).2.1 a ha⟩
theorem TermOk.app {g:Sgn} {t a:Tm} (h:TermOk g t) (ha:a∈t.args):∃ o d,AppOk g t o d:=by
 rcases h.form.node with hv | h
 ·rw [hv.2.2.2.2] at ha;cases ha
 ·exact h
theorem ZB4 {g:Sgn} (hg:SgnOk g) {op:Int} (h0:0<=op) {xs:List Tm} (ha:∀ a∈xs,TermOk g a) {t:Tm} (h:mkT g op xs=some t):TermOk g t:=by
 unfold mkT at h
 cases ho:g.ops[op.toNat]? with
 | none=>rw [ho] at h;cases h
 | some o =>
  rw [ho] at h;simp only at h
  cases hd:o.decls[0]? with
  | none=>rw [hd] at h;cases h
  | some d =>
   rw [hd] at h;exact (ZB1 hg h0 ho hd ha h).1
theorem ZpJ {g:Sgn} {t:Tm} (h:TermOk g t):t.args.length<=60:=by
 have h1:=h.size;rw [Za3] at h1;have:=ZbB t.args;omega
structure Bd where
 var:Tm
 to:Tm
def ZbP (b:Bd):List C:=Zab b.var++Zab b.to
def okBd (b:Bd):Prop:=okTm b.var∧okTm b.to
def Zl1 (l:List Bd):Prop:=∀ b∈l,okBd b
def ZaL (l:List Bd):List (List C):=l.map ZbP
theorem ZdL (l:List Bd):(ZaL l).length=l.length:=by simp [ZaL]
theorem Zf8 (l:List Bd) (i:Nat):(ZaL l)[i]?=l[i]?.map ZbP:=by simp [ZaL]
def ZaU:List Bd->Tm->Option Tm
 | [],_=>none
 | b::l,v=>if Zah b.var v=0 then some b.to else ZaU l v
mutual
noncomputable def apT (g:Sgn) (l:List Bd):Tm->Option Tm
 | .mk op nm so args=>if op=-1 then some ((ZaU l (.mk op nm so args)).getD (.mk op nm so args)) else (apTs g l args).bind (mkT g op)
noncomputable def apTs (g:Sgn) (l:List Bd):List Tm->Option (List Tm)
 | []=>some []
 | t::ts=>(apT g l t).bind fun u=>(apTs g l ts).map (u::·)
end
theorem ZhC {g:Sgn} {l:List Bd} {t:Tm} (h:t.op=-1):apT g l t=some ((ZaU l t).getD t):=by
 obtain ⟨op,nm,so,args⟩:=t;simp only [Tm.op] at h;simp only [apT,if_pos h]
theorem Zfg {g:Sgn} {l:List Bd} {t:Tm} (h:t.op≠-1):apT g l t=(apTs g l t.args).bind (mkT g t.op):=by
 obtain ⟨op,nm,so,args⟩:=t;simp only [Tm.op] at h;simp only [apT,if_neg h,Tm.op,Tm.args]
theorem Zje {g:Sgn} {l:List Bd} {t:Tm}:∀ (ts:List Tm),apTs g l (ts++[t])=(apTs g l ts).bind fun us=>(apT g l t).map fun u=>us++[u]
 | []=>by
  simp only [Tah,apTs,Option.bind_some]
  cases apT g l t <;> rfl
 | x::ts=>by
  simp only [Taf,apTs,Zje ts]
  cases apT g l x with
  | none=>rfl
  | some u =>
   simp only [Option.bind_some]
   cases apTs g l ts with
   | none=>rfl
   | some us =>
    simp only [Option.bind_some,Option.map_some]
    cases apT g l t <;> rfl
theorem Zib {g:Sgn} {l:List Bd}:∀ {ts us:List Tm},apTs g l ts=some us->us.length=ts.length
 | [],us,h=>by simp only [apTs,Taq] at h;subst h;rfl
 | t::ts,us,h=>by
  simp only [apTs] at h
  cases h1:apT g l t with
  | none=>rw [h1] at h;cases h
  | some u =>
   rw [h1] at h
   cases h2:apTs g l ts with
   | none=>rw [h2] at h;cases h
   | some vs =>
    rw [h2] at h;simp only [Option.bind_some,Option.map_some,Taq] at h;subst h;simp only [Tag,Zib h2]
theorem Zjf {g:Sgn} {l:List Bd} {t:Tm}:∀ {ts:List Tm},t∈ts->apT g l t=none->apTs g l ts=none
 | x::ts,hm,h=>by
  simp only [apTs];rcases Tbg.1 hm with rfl | hm
  ·rw [h];rfl
  ·rw [Zjf hm h]
   cases apT g l x <;> rfl
theorem Zic {g:Sgn} {l:List Bd}:∀ {ts us:List Tm},apTs g l ts=some us->∀ u∈us,∃ t∈ts,apT g l t=some u
 | [],us,h,u,hu=>by simp only [apTs,Taq] at h;subst h;cases hu
 | t::ts,us,h,u,hu=>by
  simp only [apTs] at h
  cases h1:apT g l t with
  | none=>rw [h1] at h;cases h
  | some v =>
   rw [h1] at h
   cases h2:apTs g l ts with
   | none=>rw [h2] at h;cases h
   | some vs =>
    rw [h2] at h;simp only [Option.bind_some,Option.map_some,Taq] at h;subst h;rcases Tbg.1 hu with rfl | hu
    ·exact ⟨t,Tas,h1⟩
    ·obtain ⟨x,hx,hxe⟩:=Zic h2 u hu;exact ⟨x,Tal _ hx,hxe⟩
structure SbsAt (g:Sgn) (l:List Bd) (i:Nat) (y:Bd):Prop where
 var:ZbI g y.var
 ord:∀ (j:Nat) p,i=j+1->l[j]?=some p->Zah p.var y.var < 0
 to':TermOk g y.to
 srt:(sortsTm g y.to).testBit y.var.sort.toNat=true
structure SbsOk (g:Sgn) (l:List Bd):Prop where
 len:l.length<=8
 at':∀ (i:Nat) y,l[i]?=some y->SbsAt g l i y
theorem ZsT {g:Sgn} {v u:Tm}:∀ {l:List Bd},(∀ y∈l,TermOk g y.to)->ZaU l v=some u->TermOk g u
 | b::l,h,hu=>by
  simp only [ZaU] at hu;split at hu
  ·injection hu with hu;subst hu;exact h b Tas
  ·exact ZsT (fun y hy=>h y (Tal _ hy)) hu
theorem SbsOk.to' {g:Sgn} {l:List Bd} (h:SbsOk g l):∀ y∈l,TermOk g y.to:=fun y hy=>by
 obtain ⟨i,hi⟩:=Tbk hy;exact (h.at' i y hi).to'
theorem SbsOk.var {g:Sgn} {l:List Bd} (h:SbsOk g l):∀ y∈l,ZbI g y.var:=fun y hy=>by
 obtain ⟨i,hi⟩:=Tbk hy;exact (h.at' i y hi).var
theorem Zl2 {g:Sgn} (hg:SgnOk g) {l:List Bd} (hl:∀ y∈l,TermOk g y.to):∀ (n:Nat) (t:Tm),sizeTm t < n->TermOk g t->∀ {u:Tm},apT g l t=some u->TermOk g u
 | 0,t,hn,_,_,_=>om
 | n+1,t,hn,ht,u,h=>by
  by_cases ho:t.op=-1
  ·rw [ZhC ho] at h;simp only [Taq] at h;subst h
   cases hk:ZaU l t with
   | none=>exact ht
   | some v=>exact ZsT hl hk
  ·rw [Zfg ho] at h
   cases h2:apTs g l t.args with
   | none=>rw [h2] at h;cases h
   | some us =>
    rw [h2] at h;simp only [Option.bind_some] at h;have h0:0<=t.op:=by
     rcases ht.form.node with hv | ⟨o,d,hA⟩
     ·exact absurd hv.1 ho
     ·exact hA.lo
    refine ZB4 hg h0 (fun a ha=>?_) h;obtain ⟨x,hx,hxe⟩:=Zic h2 a ha;have:=Zbu hx;rw [Za3] at hn;exact Zl2 hg hl n x om (ht.arg hx) hxe
def decN (n:Nat):List UInt8:=if n < 10 then [UInt8.ofNat (48+n)] else [UInt8.ofNat (48+n / 10),UInt8.ofNat (48+n % 10)]
def decB (i:Int):List UInt8:=if i < 0 then 45::decN (-i).toNat else decN i.toNat
mutual
def Zid:Tm->List UInt8
 | .mk op nm so args=>decB op++((if op < 0 then 58::(nm.toList++58::decB so) else [])++40::(Zev args++[41]))
def Zev:List Tm->List UInt8
 | []=>[]
 | t::ts=>Zid t++Zev ts
end
theorem Zfh {P:UInt8->Prop}:∀ {l m:List UInt8} {c d:UInt8} {x y:List UInt8},(∀ b∈l,P b)->(∀ b∈m,P b)->¬ P c->¬ P d->l++c::x=m++d::y->l=m∧c=d∧x=y
 | [],[],c,d,x,y,_,_,_,_,h=>by simpa using h
 | [],b::m,c,d,x,y,_,hm,hc,_,h=>by
  simp only [Tah,Taf,List.cons.injEq] at h;exact absurd (hm b Tas) (h.1 ▸ hc)
 | a::l,[],c,d,x,y,hl,_,_,hd,h=>by
  simp only [Tah,Taf,List.cons.injEq] at h;exact absurd (hl a Tas) (h.1 ▸ hd)
 | a::l,b::m,c,d,x,y,hl,hm,hc,hd,h=>by
  simp only [Taf,List.cons.injEq] at h;obtain ⟨h1,h2⟩:=Zfh (fun b hb=>hl b (Tal _ hb)) (fun b hb=>hm b (Tal _ hb)) hc hd h.2;exact ⟨by rw [h.1,h1],h2⟩
def NumB (b:UInt8):Prop:=b=45∨(48<=b.toNat∧b.toNat<=57)
instance (b:UInt8):Decidable (NumB b):=by unfold NumB;infer_instance
theorem ZBu:∀ i:Fin 15,∀ b∈decB ((i.val:Int) - 1),NumB b:=by decide
theorem ZBv:∀ i j:Fin 15,decB ((i.val:Int) - 1)=decB ((j.val:Int) - 1)->i=j:=by decide
theorem ZjV {i:Int} (h0:-1<=i) (h1:i < 14):∀ b∈decB i,NumB b:=by
 have:=ZBu ⟨(i+1).toNat,om⟩
 rwa [show (((i+1).toNat:Nat):Int) - 1=i by omega] at this
theorem ZmQ {i j:Int} (h0:-1<=i) (h1:i < 14) (h2:-1<=j) (h3:j < 14) (h:decB i=decB j):i=j:=by
 have:=ZBv ⟨(i+1).toNat,om⟩ ⟨(j+1).toNat,om⟩ (by
  simp only;rw [show (((i+1).toNat:Nat):Int) - 1=i by omega,show (((j+1).toNat:Nat):Int) - 1=j by omega];exact h)
 have:=congrArg Fin.val this;simp only at this;omega
theorem ZpK:∀ i:Fin 15,(decB ((i.val:Int) - 1)).head?≠some 41∧decB ((i.val:Int) - 1)≠[]:=by decide
def NamB (s:ByteArray):Prop:=∀ b∈s.toList,Zcp (b.toNat:Int)=true
mutual
def Zie:Tm->Prop
 | .mk op nm so args=>-1<=op∧op < 14∧(op=-1->NamB nm∧0<=so∧so < 8)∧(op≠-1->nm=ByteArray.empty∧so=0)∧ZfL args
def ZfL:List Tm->Prop
 | []=>True
 | t::ts=>Zie t∧ZfL ts
end
theorem toList_inj {a b:ByteArray} (h:a.toList=b.toList):a=b:=by
 rw [ByteArray.toList_eq,ByteArray.toList_eq] at h;obtain ⟨x⟩:=a;obtain ⟨y⟩:=b;simp only at h;rw [Array.toList_inj.1 h]
theorem ZeS:¬ NumB 40:=by decide
theorem Zg2:¬ NumB 58:=by decide
mutual
theorem ZsU:∀ (a b:Tm) (x y:List UInt8),Zie a->Zie b->Zid a++x=Zid b++y->a=b∧x=y
 | .mk op nm so args,.mk op' nm' so' args',x,y,ha,hb,h=>by
  simp only [Zie] at ha hb;obtain ⟨a1,a2,a3,a4,a5⟩:=ha;obtain ⟨b1,b2,b3,b4,b5⟩:=hb;simp only [Zid,Tbf,Taf] at h;have n1:=ZjV a1 a2;have n2:=ZjV b1 b2;have hfst:op=op'∧nm=nm'∧so=so'∧Zev args++([41]++x)=Zev args'++([41]++y):=by
   by_cases h1:op < 0
   ·rw [if_pos h1] at h;by_cases h2:op' < 0
    ·rw [if_pos h2] at h;simp only [Taf,Tbf] at h;obtain ⟨e1,_,e2⟩:=Zfh n1 n2 Zg2 Zg2 h;have e1:=ZmQ a1 a2 b1 b2 e1;have o1:op=-1:=om;have o2:op'=-1:=om;obtain ⟨p1,p2,p3⟩:=a3 o1;obtain ⟨q1,q2,q3⟩:=b3 o2;obtain ⟨f1,_,f2⟩:=Zfh (P:=fun b=>Zcp (b.toNat:Int)=true) p1 q1 (by decide) (by decide) e2;obtain ⟨g1,_,g2⟩:=Zfh (ZjV om om) (ZjV om om) ZeS ZeS f2;exact ⟨e1,toList_inj f1,ZmQ om om om om g1,g2⟩
    ·rw [if_neg h2] at h;simp only [Taf,Tah] at h;obtain ⟨_,e,_⟩:=Zfh n1 n2 Zg2 ZeS h;exact absurd e (by decide)
   ·rw [if_neg h1] at h;by_cases h2:op' < 0
    ·rw [if_pos h2] at h;simp only [Taf,Tah] at h;obtain ⟨_,e,_⟩:=Zfh n1 n2 ZeS Zg2 h;exact absurd e (by decide)
    ·rw [if_neg h2] at h;simp only [Tah] at h;obtain ⟨e1,_,e2⟩:=Zfh n1 n2 ZeS ZeS h;have e1:=ZmQ a1 a2 b1 b2 e1;obtain ⟨p1,p2⟩:=a4 om;obtain ⟨q1,q2⟩:=b4 om;exact ⟨e1,by rw [p1,q1],by rw [p2,q2],e2⟩
  obtain ⟨rfl,rfl,rfl,he⟩:=hfst;obtain ⟨i1,i2⟩:=ZpL args args' x y a5 b5 he;exact ⟨by rw [i1],i2⟩
theorem ZpL:∀ (xs bs:List Tm) (x y:List UInt8),ZfL xs->ZfL bs->Zev xs++([41]++x)=Zev bs++([41]++y)->xs=bs∧x=y
 | [],[],x,y,_,_,h=>by simpa [Zev] using h
 | [],.mk op nm so args::bs,x,y,_,hb,h=>by
  exfalso;simp only [ZfL,Zie] at hb;have:=ZpK ⟨(op+1).toNat,om⟩;rw [show (((op+1).toNat:Nat):Int) - 1=op by omega] at this;simp only [Zev,Zid,Tah,Tbf] at h
  cases hd:decB op with
  | nil=>exact this.2 hd
  | cons c l =>
   rw [hd] at h this;simp only [Taf,List.cons.injEq] at h;exact this.1 (by rw [<- h.1];rfl)
 | .mk op nm so args::xs,[],x,y,ha,_,h=>by
  exfalso;simp only [ZfL,Zie] at ha;have:=ZpK ⟨(op+1).toNat,om⟩;rw [show (((op+1).toNat:Nat):Int) - 1=op by omega] at this;simp only [Zev,Zid,Tah,Tbf] at h
  cases hd:decB op with
  | nil=>exact this.2 hd
  | cons c l =>
   rw [hd] at h this;simp only [Taf,List.cons.injEq] at h;exact this.1 (by rw [h.1];rfl)
 | a::xs,b::bs,x,y,ha,hb,h=>by
  simp only [ZfL] at ha hb;simp only [Zev,Tbf] at h;obtain ⟨e1,e2⟩:=ZsU a b _ _ ha.1 hb.1 h;obtain ⟨f1,f2⟩:=ZpL xs bs x y ha.2 hb.2 e2;exact ⟨by rw [e1,f1],f2⟩
end
theorem Zzb {s:ByteArray} (h:ZaG s=true):NamB s:=by
 unfold ZaG at h;simp only [Tar] at h;have hn:=h.2;unfold ZaY at hn;rw [List.all_eq_true] at hn;intro b hb;rw [ByteArray.toList_eq] at hb;obtain ⟨i,hi,rfl⟩:=List.getElem_of_mem hb;have hi':i < s.size:=by simpa using hi
 have:=hn i (List.mem_range'_1.2 ⟨Taj _,om⟩);simp only [Tar,Zgy,dif_pos hi'] at this;exact this.1
mutual
theorem ZkP {g:Sgn} (hg:SgnOk g):∀ (t:Tm),ZaI g t->Zie t
 | .mk op nm so args,h=>by
  have h2:Zda g args:=by simp only [ZaI] at h;exact h.2.1
  have h1:Zc7 g (.mk op nm so args):=by simp only [ZaI] at h;exact h.1
  have hl:=hg.len;have hn:=hg.sorts.n8;refine ⟨?_,?_,?_,?_,ZnA hg args h2⟩
  ·rcases h1 with h | ⟨o,d,h⟩
   ·have:op=-1:=h.1;omega
   ·have:0<=op:=h.lo;omega
  ·rcases h1 with h | ⟨o,d,h⟩
   ·have:op=-1:=h.1;omega
   ·have h0:0<=op:=h.lo;have:g.ops[op.toNat]?=some o:=h.at';have:=(Tad.1 this).1;omega
  ·intro ho;rcases h1 with h | ⟨o,d,h⟩
   ·have h4:0<=so:=h.2.2.1;have h5:so < g.sorts.names.length:=h.2.2.2.1;exact ⟨Zzb h.2.1,h4,om⟩
   ·have:0<=op:=h.lo;omega
  ·intro ho;rcases h1 with h | ⟨o,d,h⟩
   ·have:op=-1:=h.1;omega
   ·exact ⟨h.nm,h.so⟩
theorem ZnA {g:Sgn} (hg:SgnOk g):∀ (ts:List Tm),Zda g ts->ZfL ts
 | [],_=>trivial
 | t::ts,h=>by
  simp only [Zda] at h;exact ⟨ZkP hg t h.1,ZnA hg ts h.2⟩
end
def keyS (t:Tm):ByteArray:=⟨(Zid t).toArray⟩
theorem ZpM {g:Sgn} (hg:SgnOk g) {a b:Tm} (ha:ZaI g a) (hb:ZaI g b) (h:(keyS a).toList=(keyS b).toList):a=b:=by
 rw [ByteArray.toList_eq,ByteArray.toList_eq] at h;simp only [keyS] at h;exact (ZsU a b [] [] (ZkP hg a ha) (ZkP hg b hb) (by rw [List.append_nil,List.append_nil];exact h)).1
def ZmR (P:Program) (s d:TypeId):Bool:=match P.underlying s,P.underlying d with
 | some (.slice e),some .string=>match P.underlying e with
  | some (.int .u8)=>true
  | _=>false
 | _,_=>false
def ZhD (b:Int):ByteArray:=ByteArray.empty.push (UInt8.ofNat b.toNat)
section
variable {e:Env} {σ:St} {o:Oper} {K:St->Prop}
theorem ZxA {s d:TypeId} {x:Operand} {b:Int} (ho:o.op=.convert s d x) (hx:evA σ.s x=.d (.clip [[.lit (.int .u8 b)]])) (ht:ZmR e.P s d=true) (hK:K ⟨setA σ.s o.dst (.d (.one (.lit (.string (ZhD b))))),σ.m⟩):ZbC e o σ K:=by
 intro he U w0 S0 nt a w Q hd ⟨S,L,h⟩;refine Oper.wp_mono (fun a' w' hs=>⟨_,hK,hs⟩) (Zed h hd (ZaD fun w S L ρv hC hr=>?_));have hx':=hr x (by simp [ho,Op.operands]);rw [hx] at hx';obtain ⟨⟨A,n,cap,hv,hn,_,_,hb⟩,_⟩:=hx';simp only [Tag,Tak,Nat.zero_add] at hn;subst hn;obtain ⟨g,off,rfl,_,_,hrow⟩:=hb (by decide);simp only [Zar,Zai,Rep,and_true] at hrow;obtain ⟨u,hc,rfl⟩:=hrow;have hl:=run_loadCells_list (P:=e.P) w ⟨g,off,none⟩ [.int .u8 b] (fun j u hj=>by
  cases j with
  | zero=>simp at hj;subst hj;rw [Addr.add_at];exact hc
  | succ j=>simp at hj)
 unfold ZmR at ht;split at ht
 ·rename_i e1 h1 h2;split at ht
  ·rename_i h3;refine ⟨.string (ZhD b),?_,by simp [ARel,DRel,Rep]⟩;simp only [Tag,Tak,Nat.zero_add] at hl;simp [execOp,ho,hv,convert,underlying,h1,h2,h3,Conv.bytesToString,hl,ZhD,Result.andThen]
  ·cases ht
 ·cases ht
end
theorem gY {e:Env} {K:St->Prop} {ds:List (Option Nat)} {os:List Oper} {d t1 t2 ty:Nat} {p:String} {ed:Array Edge} {x:Operand} {s:List (Nat × A)} {m:List (Nat × Bk)} {b:Int} (hK:Runs e ds 0 os ⟨(d,.d (.one (.lit (.string (ZhD b)))))::s,m⟩ K)
  (hx:evA s x=.d (.clip [[.lit (.int .u8 b)]]):=by exact snx) (ht:ZmR e.P t1 t2=true:=by kernel_rfl):Runs e ds 0 (⟨some d,.convert t1 t2 x,ty,p,ed,none⟩::os) ⟨s,m⟩ K:=by
 simp only [Runs] at hK ⊢;exact Zdd rfl (ZxA (o:=⟨some d,.convert t1 t2 x,ty,p,ed,none⟩) rfl hx ht hK)
section
variable {P:Program} {w:World}
end
section
variable {e:Env} {U:Nat->Prop} {w0:World} {S0:Nat->Prop} {nt:Nat} {σ:St} {a:Act} {w:World} {S:Nat->Prop} {L:Lay} {o:Oper}
end
section
variable {e:Env} {K:St->Prop} {ds:List (Option Nat)} {os:List Oper} {s:List (Nat × A)} {m:List (Nat × Bk)}
end
def Zap (w:World):List (List C)->(Nat->Prop)->List (List Value)->Prop
 | [],_,[]=>True
 | r::rs,S,us::uss=>∃ S1 S2:Nat->Prop,(∀ x,S1 x->S x)∧(∀ x,S2 x->S x)∧(∀ x,S1 x->S2 x->False)∧Zae w r S1 us∧Zap w rs S2 uss
 | _,_,_=>False
def Zag (us:List Value):List C:=us.map .lit
section
variable {w w':World}
theorem Zap.keep (hz:w.heap.size<=w'.heap.size):∀ (rows:List (List C)) (S S':Nat->Prop) (uss:List (List Value)),(∀ b,S b->w'.heap[b]?=w.heap[b]?)->(∀ b,S b->S' b)->Zap w rows S uss->Zap w' rows S' uss
 | [],_,_,[],_,_,_=>trivial
 | r::rs,S,S',us::uss,hk,hS,h=>by
  obtain ⟨S1,S2,h1,h2,hd,hr,hrs⟩:=h;exact ⟨S1,S2,fun x hx=>hS x (h1 x hx),fun x hx=>hS x (h2 x hx),hd,Zae.keep hz r S1 S1 us (fun x hx=>hk x (h1 x hx)) (fun _ h=>h) hr,Zap.keep hz rs S2 S2 uss (fun x hx=>hk x (h2 x hx)) (fun _ h=>h) hrs⟩
 | [],_,_,_::_,_,_,h=>h.elim
 | _::_,_,_,[],_,_,h=>h.elim
theorem Zap.len:∀ {rows:List (List C)} {S:Nat->Prop} {uss:List (List Value)},Zap w rows S uss->uss.length=rows.length
 | [],_,[],_=>rfl
 | r::rs,S,us::uss,⟨S1,S2,_,_,_,_,h⟩=>by simp [Zap.len h]
theorem Zap.snoc:∀ {rows:List (List C)} {r:List C} {S S1 S2:Nat->Prop} {uss:List (List Value)} {us:List Value},Zap w rows S1 uss->Zae w r S2 us->(∀ x,S1 x->S x)->(∀ x,S2 x->S x)->(∀ x,S1 x->S2 x->False)->Zap w (rows++[r]) S (uss++[us])
 | [],r,S,S1,S2,[],us,_,h2,i1,i2,hd=>⟨S2,fun _=>False,i2,fun _ h=>h.elim,fun _ _ h=>h,h2,trivial⟩
 | q::qs,r,S,S1,S2,vs::vss,us,⟨T1,T2,a1,a2,a3,a4,a5⟩,h2,i1,i2,hd =>
  ⟨T1,fun x=>T2 x∨S2 x,fun x hx=>i1 x (a1 x hx),fun x hx=>hx.elim (fun h=>i1 x (a2 x h)) (i2 x),fun x hx hy=>hy.elim (a3 x hx) (hd x (a1 x hx)),a4,
   Zap.snoc a5 h2 (fun _ h=>.inl h) (fun _ h=>.inr h) (fun x hx hy=>hd x (a2 x hx) hy)⟩
 | [],_,_,_,_,_::_,_,h,_,_,_,_=>h.elim
 | _::_,_,_,_,_,[],_,h,_,_,_,_=>h.elim
theorem Zap.get:∀ {rows:List (List C)} {S:Nat->Prop} {uss:List (List Value)} {i:Nat} {r:List C} {us:List Value},Zap w rows S uss->rows[i]?=some r->uss[i]?=some us->Zae w r S us
 | r::rs,S,us::uss,0,r',us',⟨S1,S2,h1,_,_,h,_⟩,hr,hu=>by
  simp at hr hu;subst hr hu;exact Zae.keep (Tai _) r S1 S us (fun _ _=>rfl) h1 h
 | r::rs,S,us::uss,i+1,r',us',⟨S1,S2,_,h2,_,_,h⟩,hr,hu =>
  Zae.keep (Tai _) r' S2 S us' (fun _ _=>rfl) h2 (Zap.get h (by simpa using hr) (by simpa using hu))
 | [],_,_,_,_,_,_,hr,_=>by simp at hr
 | _::_,_,[],_,_,_,h,_,_=>h.elim
theorem Zap.stable (rows:List (List C)) (E:Nat->Prop) (uss:List (List Value)):Zdl E (fun w=>Zap w rows E uss):=fun w w' hz hk h=>Zap.keep hz rows E E uss hk (fun _ h=>h) h
theorem Zae.stable (r:List C) (E:Nat->Prop) (us:List Value):Zdl E (fun w=>Zae w r E us):=fun w w' hz hk h=>Zae.keep hz r E E us hk (fun _ h=>h) h
theorem Own.stable (c:C) (E:Nat->Prop) (v:Value):Zdl E (fun w=>Own w c E v):=fun w w' hz hk h=>Own.keep hz c E E v hk (fun _ h=>h) h
theorem Zhk {S:Nat->Prop}:∀ {us vs:List Value},Zac w S (Zag us) vs->vs=us
 | [],[],_=>rfl
 | u::us,v::vs,h=>by
  simp only [Zag,Tbt,Zac,Rep] at h;rw [h.1,Zhk h.2]
 | [],_::_,h=>by simp [Zag,Zac] at h
 | _::_,[],h=>by simp [Zag,Zac] at h
theorem Za0.close {b:Nat} {T:Nat->Prop}:∀ {rows:List (List C)} {uss:List (List Value)} {S:Nat->Prop} {off:Nat},Zar w T b off (uss.map Zag)->Zap w rows S uss->Za0 w b rows S off
 | [],[],_,_,_,_=>by simp [Za0]
 | r::rs,us::uss,S,off,hr,⟨S1,S2,h1,h2,hd,hv,hvs⟩=>by
  simp only [Tbt,Zar] at hr;simp only [Za0];obtain ⟨vs,q1,q2⟩:=hr.1.vals;have e:=Zhk q1;subst e;have hl:(Zag vs).length=r.length:=by simp [Zag,Zae.len hv]
  refine ⟨S1,S2,h1,h2,hd,ZbF.of_vals r S1 vs off hv q2,?_⟩;rw [<- hl];exact Za0.close hr.2 hvs
 | [],_::_,_,_,_,h=>h.elim
 | _::_,[],_,_,_,h=>h.elim
theorem Own.close {T:Nat->Prop} {ety sz:Nat} {rows:List (List C)} {uss:List (List Value)} {E:Nat->Prop} {a:Option Addr} {cap:Nat} (hb:Za5 w T ety sz (uss.map Zag) (.slice a uss.length cap)) (hv:Zap w rows E uss) (hd:∀ b,vblk (.slice a uss.length cap)=some b->¬ E b) :
  Own w (.sl rows) (fun b=>vblk (.slice a uss.length cap)=some b∨E b) (.slice a uss.length cap):=by
 have hlen:=hv.len;obtain ⟨h1,h2,h3⟩:=hb;simp only [Own];rcases h3 with ⟨h4,a',h5⟩ | ⟨g,cap',cur,h5,hc,hg,hs,hh,hl,hm,hcs,hr⟩
 ·injection h5 with e1 e2 e3
  subst e1 e3;have hu0:uss=[]:=by simpa using h4
  exact ⟨a,uss.length,0,rfl,hlen.symm,by rw [hu0];exact Tai _,by decide,fun h=>absurd h (by decide)⟩
 ·injection h5 with e1 e2 e3
  subst e1 e3;have hvb:vblk (.slice (some ⟨g,0,none⟩) uss.length cap)=some g:=by simp only [vblk];rw [if_neg om]
  simp only [Tay] at hl;refine ⟨_,uss.length,cap,rfl,hlen.symm,hl,hm,fun h0=>⟨g,0,E,rfl,.inl hvb,hg,⟨fun o=>frozen_of_row w g o cur ety hh,rfl,cur,ety,sz,hh,hcs,h1,fun r hr0=>?_⟩,fun x hx=>⟨.inr hx,fun e=>hd g hvb (e ▸ hx)⟩,Za0.close hr hv⟩⟩;obtain ⟨i,hi⟩:=Tbk hr0;have hil:=(Tad.1 hi).1;obtain ⟨us,hu⟩:∃ us,uss[i]?=some us:=⟨_,Taa om⟩;have hq:=(h2 (Zag us) (Tbi.2 ⟨us,Tac hu,rfl⟩)).1;have hq2:=Zae.len (hv.get hi hu)
  simp only [Zag,Tay] at hq;omega
theorem ZbF.open {b:Nat}:∀ {cs:List C} {S:Nat->Prop} {off:Nat},ZbF w b cs S off->∃ us,Zae w cs S us∧∀ j u,us[j]?=some u->w.cell? ⟨b,off+j,none⟩=some u
 | [],S,off,_=>⟨[],Zae.nil,fun j u h=>by simp at h⟩
 | c::cs,S,off,h=>by
  simp only [ZbF] at h;obtain ⟨S1,S2,u,h1,h2,hd,hu,hc,hcs⟩:=h;obtain ⟨us,k1,k2⟩:=ZbF.open hcs;refine ⟨u::us,Zae.cons S1 S2 hc k1 h1 h2 hd,fun j v hj=>?_⟩
  cases j with
  | zero=>simp at hj;subst hj;exact hu
  | succ j=>have:=k2 j v (by simpa using hj);rw [<- this];congr 2;omega
theorem Za0.open {b:Nat}:∀ {rows:List (List C)} {S:Nat->Prop} {off:Nat},Za0 w b rows S off->∃ uss,Zap w rows S uss∧∀ T:Nat->Prop,Zar w T b off (uss.map Zag)
 | [],S,off,_=>⟨[],trivial,fun T=>by simp [Zar]⟩
 | r::rs,S,off,h=>by
  simp only [Za0] at h;obtain ⟨S1,S2,h1,h2,hd,hr,hrs⟩:=h;obtain ⟨us,k1,k2⟩:=ZbF.open hr;obtain ⟨uss,k3,k4⟩:=Za0.open hrs;refine ⟨us::uss,⟨S1,S2,h1,h2,hd,k1,k3⟩,fun T=>?_⟩;simp only [Tbt,Zar];refine ⟨Zai.of_vals _ us off (Zgs us) k2,?_⟩;rw [show (Zag us).length=r.length by simp [Zag,k1.len]];exact k4 T
theorem Zae.cells:∀ {cs:List C} {S:Nat->Prop} {us:List Value},Zae w cs S us->cs.all Zaj=true->(Zag us).all Zaj=true
 | [],_,[],_,_=>rfl
 | c::cs,S,u::us,h,hc=>by
  simp only [Zae] at h;obtain ⟨S1,S2,_,_,_,h1,h2⟩:=h;simp only [List.all_cons,Tar] at hc;simp only [Zag,Tbt,List.all_cons,Tar];exact ⟨ZfY (c:=c) hc.1 (Own.rep c S1 u h1),Zae.cells h2 hc.2⟩
 | [],_,_::_,h,_=>by simp [Zae] at h
 | _::_,_,[],h,_=>by simp [Zae] at h
theorem Own.open {T:Nat->Prop} {rows:List (List C)} {E:Nat->Prop} {a:Option Addr} {n cap sz:Nat} (hT:∀ b,E b->¬ T b) (hne:rows≠[]) (hrl:rowsLen sz rows) (h:Own w (.sl rows) E (.slice a n cap)) :
  ∃ uss ety E',n=uss.length∧Za5 w T ety sz (uss.map Zag) (.slice a uss.length cap)∧Zap w rows E' uss∧(∀ b,E' b->E b∧vblk (.slice a uss.length cap)≠some b)∧∀ b,vblk (.slice a uss.length cap)=some b->E b:=by
 simp only [Own] at h;obtain ⟨A,n',cap',hv,hn,hle,hmx,hb⟩:=h;injection hv with e1 e2 e3
 subst e1 e2 e3;have h0:0 < rows.length:=List.length_pos_iff.2 hne;obtain ⟨b,off,S',rfl,hEb,hbl,⟨hfr,rfl,cur,ety,sz',hh,hcs,hz,hrs⟩,hS',hrows⟩:=hb om;obtain ⟨uss,k1,k2⟩:=Za0.open hrows;have hl:=k1.len;have hsz:sz'=sz:=by
  obtain ⟨r,hr⟩:=List.exists_mem_of_ne_nil _ hne;rw [<- hrs r hr,(hrl r hr).1]
 subst hsz;have hvb:vblk (.slice (some ⟨b,0,none⟩) uss.length cap)=some b:=by simp only [vblk];rw [if_neg om]
 have hrow:rowsLen sz' (uss.map Zag):=fun x hx=>by
  obtain ⟨us,hus,rfl⟩:=Tbi.1 hx;obtain ⟨i,hi⟩:=Tbk hus;have hil:=(Tad.1 hi).1;obtain ⟨r,hr⟩:∃ r,rows[i]?=some r:=⟨_,Taa om⟩;have hov:=k1.get hr hi;have hrm:=hrl r (Tac hr);exact ⟨by simp only [Zag,Tay];rw [hov.len];exact hrm.1,hov.cells hrm.2⟩
 refine ⟨uss,ety,S',om,⟨hz,hrow,.inr ⟨b,cap,cur,by simp,om,hbl,hT b hEb,hh,by simp only [Tay];omega,hmx,hcs,k2 T⟩⟩,k1,fun x hx=>⟨(hS' x hx).1,fun e=>?_⟩,fun x hx=>?_⟩
 ·rw [hvb] at e;injection e with e;exact (hS' x hx).2 e.symm
 ·rw [hvb] at hx;injection hx with hx;rw [<- hx];exact hEb
end
theorem ZdX (x:Bk):Zcw [x]:=⟨by simp,trivial⟩
theorem Zcv:Za2 [] [.set (fun _=>False) (fun w=>Zap w [] (fun _=>False) [])]:=fun w S _ _ =>
 ⟨fun x hx=>by simp at hx;subst hx;exact ⟨fun b h=>h.elim,trivial,Zap.stable _ _ _⟩,ZdX _,fun g ⟨x,hx,hg⟩=>by simp at hx;subst hx;exact hg.elim⟩
theorem ZgJ {E E2:Nat->Prop} {G G2 G':World->Prop} (hG:∀ w,G w->G2 w->(∀ b,E b->E2 b->False)->G' w) (hst:Zdl (fun b=>E b∨E2 b) G'):Za2 [.set E G,.set E2 G2] [.set (fun b=>E b∨E2 b) G']:=fun w S h ha=>by
 have h1:=h (.set E G) (by simp);have h2:=h (.set E2 G2) (by simp);refine ⟨fun x hx=>?_,ZdX _,fun g ⟨x,hx,hg⟩=>?_⟩
 ·simp at hx;subst hx;exact ⟨fun b hb=>hb.elim (h1.1 b) (h2.1 b),hG w h1.2.1 h2.2.1 (fun b q1 q2=>ha.1 (.set E2 G2) (by simp) b q1 q2),hst⟩
 ·simp at hx;subst hx;rcases hg with hg | hg
  ·exact ⟨.set E G,by simp,hg⟩
  ·exact ⟨.set E2 G2,by simp,hg⟩
theorem ZxB {E:Nat->Prop} {G G':World->Prop} (hG:∀ w,G w->G' w) (hst:Zdl E G'):Za2 [.set E G] [.set E G']:=fun w S h ha=>by
 have h1:=h (.set E G) (by simp);refine ⟨fun x hx=>?_,ZdX _,fun g ⟨x,hx,hg⟩=>?_⟩
 ·simp at hx;subst hx;exact ⟨h1.1,hG w h1.2.1,hst⟩
 ·simp at hx;subst hx;exact ⟨.set E G,by simp,hg⟩
theorem Zb7 {a:Option Addr} {cap ety sz:Nat} {uss:List (List Value)} {rows:List (List C)} {E:Nat->Prop} {G':World->Prop} (hG:∀ w,Own w (.sl rows) (fun b=>vblk (.slice a uss.length cap)=some b∨E b) (.slice a uss.length cap)->G' w) (hst:Zdl (fun b=>vblk (.slice a uss.length cap)=some b∨E b) G') :
  Za2 [.buf (some (a,cap)) ety sz (uss.map Zag),.set E (fun w=>Zap w rows E uss)] [.set (fun b=>vblk (.slice a uss.length cap)=some b∨E b) G']:=fun w S h ha=>by
 have h1:Za5 w S ety sz (uss.map Zag) (.slice a (uss.map Zag).length cap):=h (.buf (some (a,cap)) ety sz (uss.map Zag)) (by simp);have h2:=h (.set E (fun w=>Zap w rows E uss)) (by simp);have hd:=ha.1 (.set E (fun w=>Zap w rows E uss)) (by simp);rw [Tay] at h1;simp only [pblk,Tay] at hd;refine ⟨fun x hx=>?_,ZdX _,fun g ⟨x,hx,hg⟩=>?_⟩
 ·simp at hx;subst hx;refine ⟨fun b hb=>?_,hG w (Own.close h1 h2.2.1 hd),hst⟩;rcases hb with hb | hb
  ·exact Own1.lt (L:=⟨fun _=>0,fun _=>.slice a uss.length cap⟩) (k:=0) (bk:=.buf none ety sz (uss.map Zag)) ⟨by simp,h1⟩ hb
  ·exact h2.1 b hb
 ·simp at hx;subst hx;rcases hg with hg | hg
  ·exact ⟨.buf (some (a,cap)) ety sz (uss.map Zag),by simp,by simp only [pblk,Tay];exact hg⟩
  ·exact ⟨.set E (fun w=>Zap w rows E uss),by simp,hg⟩
def Zbv (row:List C) (r:List D) (pm:List Bk):Prop:=∃ us E,r=[.agg (Zag us)]∧us.length=row.length∧(Zag us).all Zaj=true∧pm=[.set E (fun w=>Zae w row E us)]
def Zjg (ety sz:Nat) (rows:List (List C)) (r:List D) (pm:List Bk):Prop:=∃ a cap uss E,r=[.one (.lit (.slice a uss.length cap))]∧uss.length=rows.length∧pm=[.buf (some (a,cap)) ety sz (uss.map Zag),.set E (fun w=>Zap w rows E uss)]
theorem Zbv.mk {row:List C} {us:List Value} {E:Nat->Prop} (h:us.length=row.length) (hok:(Zag us).all Zaj=true):Zbv row [.agg (Zag us)] [.set E (fun w=>Zae w row E us)]:=⟨us,E,rfl,h,hok,rfl⟩
theorem Zjg.mk {ety sz:Nat} {rows:List (List C)} {a:Option Addr} {cap:Nat} {uss:List (List Value)} {E:Nat->Prop} (h:uss.length=rows.length):Zjg ety sz rows [.one (.lit (.slice a uss.length cap))] [.buf (some (a,cap)) ety sz (uss.map Zag),.set E (fun w=>Zap w rows E uss)]:=⟨a,cap,uss,E,rfl,h,rfl⟩
theorem ZnB {n:Nat}:∀ {rows:List (List C)} (l:Nat),rowsLen n rows->(rows.take l).flatten=rows.flatten.take (l * n)
 | [],l,_=>by simp
 | r::rs,0,_=>by simp
 | r::rs,l+1,h=>by
  have h1:=(h r Tas).1;have h2:=ZnB (n:=n) l (fun x hx=>h x (Tal _ hx):rowsLen n rs);simp only [Tbc,List.flatten_cons,h2];rw [show (l+1) * n=r.length+l * n by rw [h1,Nat.succ_mul,Nat.add_comm],List.take_length_add_append]
theorem ZnC {n:Nat}:∀ {rows:List (List C)} (l:Nat),rowsLen n rows->(rows.drop l).flatten=rows.flatten.drop (l * n)
 | [],l,_=>by simp
 | r::rs,0,_=>by simp
 | r::rs,l+1,h=>by
  have h1:=(h r Tas).1;have h2:=ZnC (n:=n) l (fun x hx=>h x (Tal _ hx):rowsLen n rs);simp only [List.drop_succ_cons,List.flatten_cons,h2];rw [show (l+1) * n=r.length+l * n by rw [h1,Nat.succ_mul,Nat.add_comm],List.drop_length_add_append]
section
variable {e:Env} {U:Nat->Prop} {w0:World} {S0:Nat->Prop} {nt:Nat} {σ:St} {a:Act} {w:World} {S:Nat->Prop} {L:Lay}
theorem Sim.storeRows (h:Sim e U w0 S0 nt σ a w S L) (he:e.Ok) {o:Option (Option Addr × Nat)} {k l g ety sz:Nat} {rows news:List (List C)} {vs:List Value} (hm:gm σ.m k=some (.buf o ety sz rows)) (hg:vblk (L.v k)=some g) (hl:l+news.length<=rows.length) (hn:rowsLen sz news) (hu:Zac w S news.flatten vs) :
  ∃ w',(storeCells ⟨g,l * sz,none⟩ vs).run e.P w=.ok () w'∧SimE e U w0 S0 nt ⟨σ.s,(k,.buf o ety sz (rows.take l++news++rows.drop (l+news.length)))::remM k σ.m⟩ a w':=by
 obtain ⟨hb0,hs0,hrl,h3⟩:=h.cls.own k _ hm;have hvl:=hu.len;have h1:=Zmu hn;rw [Zch hn] at hvl;rcases h3 with ⟨h3,p,h4⟩ | ⟨g',cap,cur,hv,hcp,hg1,hg2,hheap0,hlen,hcap,hcs,hrows⟩
 ·rw [h4] at hg;cases p <;> simp [vblk] at hg
 ·have hgg:g'=g:=by rw [hv] at hg;simp only [vblk] at hg;rw [if_neg om] at hg;injection hg
  subst hgg;have hfl:=Zch hrl;have hin:l * sz+vs.length<=rows.length * sz:=by
   have:=Nat.mul_le_mul_right sz hl;rw [Nat.add_mul] at this;omega
  have hin2:rows.length * sz<=cap * sz:=Nat.mul_le_mul_right sz hlen;have hst:=run_storeCells_at e.P g' (l * sz) ety vs 0 cur w hheap0 (by rw [hcs];omega) (ZeZ h1 hu);simp only [Nat.add_zero] at hst;have hput:=ZfW w g' (l * sz) ety vs cur hheap0 (by rw [hcs];omega);refine ⟨_,hst,?_⟩;have hheap:=setRow_heap w g' cur (cur.toList.take (l * sz)++vs++cur.toList.drop (l * sz+vs.length)).toArray ety _ hheap0
  have hdr:(w.setRow g' (cur.toList.take (l * sz)++vs++cur.toList.drop (l * sz+vs.length)).toArray).drawn=w.drawn:=Ze0 _ _ _;generalize hW:w.setRow g' (cur.toList.take (l * sz)++vs++cur.toList.drop (l * sz+vs.length)).toArray=W at hput hheap hdr ⊢;have hsz:W.heap.size=w.heap.size:=hput.size;have hkc:∀ b o,S b->W.cell? ⟨b,o,none⟩=w.cell? ⟨b,o,none⟩:=fun b o hs=>ZbG (hput.other b (fun e=>hg2 (e ▸ hs))) o
  have hbk:ZaF L k (.buf o ety sz rows) g':=hg;have hln:(rows.take l++news++rows.drop (l+news.length)).length=rows.length:=by simp;omega
  have hown:Own1 W S L k (.buf o ety sz (rows.take l++news++rows.drop (l+news.length))):=by
   simp only [Own1];refine ⟨fun a ha=>by rw [hb0 a ha,hln],hs0,fun x hx=>?_,.inr ⟨g',cap,_,by rw [hv,hln],hcp,om,hg2,hheap,by rw [hln];exact hlen,hcap,by simp;omega,?_⟩⟩
   ·rcases Tbh.1 hx with hx | hx
    ·rcases Tbh.1 hx with hx | hx
     ·exact hrl x (List.mem_of_mem_take hx)
     ·exact hn x hx
    ·exact hrl x (List.mem_of_mem_drop hx)
   ·apply Zar.of_flat;rw [List.flatten_append,List.flatten_append,ZnB l hrl,ZnC _ hrl];have hz:w.heap.size<=W.heap.size:=om;have hf:=hrows.flat;have r1:=Zai.keepAt (S':=S) hz hkc (fun _ h=>h) g' 0 (rows.flatten.take (l * sz)) (fun i hi=>hput.old _ (.inl (by simp at hi;omega))) (hf.take (l * sz));have r3:Zai W S g' (l * sz) news.flatten:=Zai.of_vals _ vs _ (Zac.keep2 hz hkc (fun _ h=>h) hu) hput.new
    have r5:=Zai.keepAt (S':=S) hz hkc (fun _ h=>h) g' _ (rows.flatten.drop ((l+news.length) * sz)) (fun i hi=>hput.old _ (.inr (by rw [hvl];rw [Nat.add_mul];omega))) (hf.drop ((l+news.length) * sz));have l1:(rows.flatten.take (l * sz)).length=l * sz:=by rw [Taw,hfl];omega
    refine Zai.append _ _ 0 (Zai.append _ _ 0 r1 ?_) ?_
    ·rw [l1,Nat.zero_add];exact r3
    ·rw [Tae,l1,Zch hn,<- Nat.add_mul];exact r5
  obtain ⟨t1,t2,t3⟩:=h.touch he (d:=k) (bk:=.buf o ety sz (rows.take l++news++rows.drop (l+news.length))) (m':=(k,.buf o ety sz (rows.take l++news++rows.drop (l+news.length)))::remM k σ.m) (w':=W) (L':=L) (τ:=some g') (fun _ h=>h) (fun _ h=>.inl h)
   (fun k' x hkd hx=>by simp only [gm,hkd,if_false,ZaX] at hx;exact hx) (by simp [gm]) (fun _ _=>⟨rfl,rfl⟩)
   (fun q hq=>by injection hq with hq;subst hq;exact ⟨hg2,h.cls.notE hm hbk,h.cls.mine k _ _ hm hbk⟩)
   (fun k' x q hkd hx hq hb=>by
    injection hq with hq;subst hq
    simp only [gm,hkd,if_false,ZaX] at hx;exact hkd (h.cls.inj k' k x _ _ hx hm hb hbk))
   ⟨hput.os,hput.tape,hput.output,fun _=>Nat.le_of_eq hdr.symm,om,fun b hb hE=>hput.other b (fun eq=>hE (by rw [eq]))⟩ hown (fun q hq=>.inl (by rw [<- hq];exact hg.symm))
  exact ⟨S,L,t1,fun t=>t3 _ _ (fun _=>⟨rfl,rfl⟩) (h.rel t),h.size,h.defers,t2⟩
end
section
variable {e:Env} {σ:St} {o:Oper} {K:St->Prop}
theorem ZxC {U:Nat->Prop} {base:Nat} {S0:Nat->Prop} {t:TypeId} {x:Operand} {lo hi:Option Operand} (ho:o.op=.slice t x lo hi none) {k cap ety sz:Nat} {a:Option Addr} {rows:List (List C)} {l h:Int} (hx:nrm σ.m (evA σ.s x)=.buf k) (hm:gm σ.m k=some (.buf (some (a,cap)) ety sz rows)) (ht:Zbn e.P t=some sz)
  (hlo:loA (lo.map (evA σ.s))=some l) (hhi:hiA rows.length (hi.map (evA σ.s))=some h) (hb:0<=l∧l<=h∧h<=rows.length):Zbi e U base S0 σ.m o (evA σ.s) (.d (.one (.lit (sliced a l.toNat h.toNat cap sz)))):=by
 refine ZaD fun w S L ρv hC hr=>?_;have hx':=Zct hC (hr x (by simp [ho,Op.operands]));rw [hx] at hx';have hx':ρv x=L.v k:=hx';obtain ⟨hpl,_,_,hbuf⟩:=hC.own k _ hm;have hv:L.v k=.slice a rows.length cap:=hpl (a,cap) rfl;have hcap:rows.length<=cap:=by
  rcases hbuf with ⟨h4,_⟩ | ⟨g,cap',cur,h4,_,_,_,_,h5,_⟩
  ·rw [h4];exact Taj _
  ·rw [hv] at h4;injection h4 with _ _ h4;rw [h4];exact h5
 have hel:∃ ety i,e.P.underlying t=some (.slice ety)∧e.P.info? ety=some i∧i.size=sz:=by
  unfold Zbn at ht;split at ht
  ·rename_i ety hu;simp only [Tav] at ht;obtain ⟨i,hi,hs⟩:=ht;exact ⟨ety,i,hu,hi,hs⟩
  ·cases ht
 obtain ⟨el,i,hu,hi',hsz⟩:=hel;have hlo:=ZhN (w:=w) (S:=S) (L:=L) (ρv:=ρv) hlo (fun y hy=>hr y (by simp [ho,Op.operands,hy]));have hhi:=ZhO (w:=w) (S:=S) (L:=L) (ρv:=ρv) hhi (fun y hy=>hr y (by simp [ho,Op.operands,hy]));refine ⟨sliced a l.toNat h.toNat cap sz,?_,by simp [ARel,DRel,Rep]⟩;have hbnd:(Instr.sliceBounds true rows.length cap (lo.map ρv) (hi.map ρv) none).run e.P w=.ok (l.toNat,h.toNat,cap) w:=by
  have eh:(h.toNat:Int)=h:=Int.toNat_of_nonneg om;have b1:0<=h:=om;have b2:h<=(cap:Int):=om;have b3:0<=l:=hb.1;have b4:l<=h:=hb.2.1;rcases hlo with ⟨rfl,rfl⟩ | e1 <;> rcases hhi with ⟨rfl,e2⟩ | e2
  ·simp [Instr.sliceBounds,e2,Result.andThen]
  ·simp [Instr.sliceBounds,e2,Result.andThen,run_sliceBound,b1,b2]
  ·have b5:l<=(rows.length:Int):=om;simp [Instr.sliceBounds,e1,e2,Result.andThen,run_sliceBound,b3,b5]
  ·simp [Instr.sliceBounds,e1,e2,Result.andThen,run_sliceBound,b1,b2,b3,b4,eh]
 simp only [execOp,ho,Sem.run_bind,hx',hv,Instr.sliceAt,Instr.slice,underlying,run_program,Result.andThen_ok,hu,Sem.run_pure,Option.map_none,hbnd,sizeOf,typeInfo,hi',hsz,sliced]
theorem Zzc {t:TypeId} {x:Operand} {lo hi:Option Operand} (ho:o.op=.slice t x lo hi none) {k cap ety sz:Nat} {a:Option Addr} {rows:List (List C)} {l h:Int} (hx:nrm σ.m (evA σ.s x)=.buf k) (hm:gm σ.m k=some (.buf (some (a,cap)) ety sz rows)) (ht:Zbn e.P t=some sz)
  (hlo:loA (lo.map (evA σ.s))=some l) (hhi:hiA rows.length (hi.map (evA σ.s))=some h) (hb:0<=l∧l<=h∧h<=rows.length) (hK:K ⟨setA σ.s o.dst (.d (.one (.lit (sliced a l.toNat h.toNat cap sz)))),σ.m⟩):ZbC e o σ K:=by
 intro he U w0 S0 nt ac w Q hd ⟨S,L,h1⟩;exact Oper.wp_mono (fun a' w' hs=>⟨_,hK,hs⟩) (Zed h1 hd (ZxC ho hx hm ht hlo hhi hb))
theorem ZiF {U:Nat->Prop} {base:Nat} {S0:Nat->Prop} {t:TypeId} {x i:Operand} (ho:o.op=.indexAddr t x i) {k cap ety sz l h:Nat} {a:Option Addr} {rows:List (List C)} {j:Int} (hx:evA σ.s x=.d (.one (.lit (sliced a l h cap sz)))) (hi:evA σ.s i=.d (.one (.lit (.int .i64 j)))) (hm:gm σ.m k=some (.buf (some (a,cap)) ety sz rows)) (ht:Zbn e.P t=some sz)
  (hb:0<=j∧l+j < h∧h<=rows.length):Zbi e U base S0 σ.m o (evA σ.s) (.row k (l+j.toNat) sz 0):=by
 refine ZaD fun w S L ρv hC hr=>?_;have hx':=hr x (by simp [ho,Op.operands]);have hi':=hr i (by simp [ho,Op.operands]);rw [hx] at hx';rw [hi] at hi';have hx':=Zbj hx';have hi':=Zbj hi';obtain ⟨hpl,_,_,hbuf⟩:=hC.own k _ hm;have hv:L.v k=.slice a rows.length cap:=hpl (a,cap) rfl;rcases hbuf with ⟨h4,_⟩ | ⟨g,cap',cur,h4,h6,_,_,_,h5,_⟩
 ·rw [h4] at hb;simp at hb;omega
 ·rw [hv] at h4;injection h4 with h7 _ h8
  subst h7 h8;have hlc:¬ cap=l:=om;have hval:sliced (some ⟨g,0,none⟩) l h cap sz=.slice (some ⟨g,l * sz,none⟩) (h - l) (cap - l):=by
   simp only [sliced,hlc,if_false,Option.map_some,Addr.add_at,Nat.zero_add]
  refine ⟨.pointer (some ⟨g,(l+j.toNat) * sz+0,none⟩),?_,g,?_,rfl⟩
  ·unfold Zbn at ht;split at ht
   ·rename_i el hu;simp only [Tav] at ht;obtain ⟨ii,hii,hn⟩:=ht;have hlt:j < ((h - l:Nat):Int):=om;have hj:=hb.1;have e2:l * sz+j.toNat * sz=(l+j.toNat) * sz+0:=by rw [Nat.add_mul];rfl
    simp [execOp,ho,hi',hx',hval,Instr.indexAt,asIntOf,underlying,hu,sizeOf,typeInfo,hii,hn,Addr.add_at,hj,hlt,Result.andThen,e2]
   ·cases ht
  ·rw [hv];simp only [vblk];rw [if_neg om]
theorem ZpN {t:TypeId} {x i:Operand} (ho:o.op=.indexAddr t x i) {k cap ety sz l h:Nat} {a:Option Addr} {rows:List (List C)} {j:Int} (hx:evA σ.s x=.d (.one (.lit (sliced a l h cap sz)))) (hi:evA σ.s i=.d (.one (.lit (.int .i64 j)))) (hm:gm σ.m k=some (.buf (some (a,cap)) ety sz rows)) (ht:Zbn e.P t=some sz)
  (hb:0<=j∧l+j < h∧h<=rows.length) (hK:K ⟨setA σ.s o.dst (.row k (l+j.toNat) sz 0),σ.m⟩):ZbC e o σ K:=by
 intro he U w0 S0 nt ac w Q hd ⟨S,L,h1⟩;exact Oper.wp_mono (fun a' w' hs=>⟨_,hK,hs⟩) (Zed h1 hd (ZiF ho hx hi hm ht hb))
theorem Zn7 {t:TypeId} {x i:Operand} (ho:o.op=.indexAddr t x i) {k cap ety sz l h:Nat} {a:Option Addr} {rows:List (List C)} {j:Int} (hx:evA σ.s x=.d (.one (.lit (sliced a l h cap sz)))) (hi:evA σ.s i=.d (.one (.lit (.int .i64 j)))) (hm:gm σ.m k=some (.buf (some (a,cap)) ety sz rows)) (ht:Zbn e.P t=some sz)
  (hb:0<=j∧l+j < h∧h<=rows.length) (hK:K ⟨setA σ.s o.dst (.row k (l+j.toNat) sz 0),σ.m⟩):ZeO e o σ K:=fun he=>⟨_,hK,fun U base S0=>ZiF ho hx hi hm ht hb⟩
theorem ZtG {x:Operand} {t:TypeId} (ho:o.op=.call ⟨.builtin .clear,#[x],#[t]⟩) {k cap ety sz by' l:Nat} {a:Option Addr} {rows:List (List C)} {z:List C} (hx:evA σ.s x=.d (.one (.lit (sliced a l rows.length cap sz)))) (hm:gm σ.m k=some (.buf (some (a,cap)) ety sz rows)) (ht:Zbh e.P t=some (ety,sz,by')) (hz:ZaM e.P ety=some z) (hzok:z.all Zaj=true) (hl:l < rows.length)
  (hK:K ⟨setA σ.s o.dst (.tup []),(k,.buf (some (a,cap)) ety sz (rows.take l++List.replicate (rows.length - l) z))::remM k σ.m⟩):ZbC e o σ K:=by
 intro he U w0 S0 nt ac w Q hd ⟨S,L,h1⟩;have hx':=h1.eval x;rw [hx] at hx';have hx':=Zbj hx';obtain ⟨hpl,hs0,_,hbuf⟩:=h1.cls.own k _ hm;have hv:L.v k=.slice a rows.length cap:=hpl (a,cap) rfl;obtain ⟨i,zv,hu,hi,hzz,hsz,hby,hzs,hs0,hb4⟩:=ZdU ht;have hzc:z=zv.cells.toList.map toC:=by
  unfold ZaM at hz;simp only [hi,Option.bind_some,hzz,Option.map_some,Taq] at hz;exact hz.symm
 rcases hbuf with ⟨h4,_⟩ | ⟨g,cap',cur,h4,h6,_,_,_,h5,_⟩
 ·rw [h4] at hl;simp at hl
 ·rw [hv] at h4;injection h4 with h7 _ h8
  subst h7 h8;have hlc:¬ cap=l:=om;have hval:sliced (some ⟨g,0,none⟩) l rows.length cap sz=.slice (some ⟨g,l * sz,none⟩) (rows.length - l) (cap - l):=by
   simp only [sliced,hlc,if_false,Option.map_some,Addr.add_at,Nat.zero_add]
  have hn:rowsLen sz (List.replicate (rows.length - l) z):=fun r hr=>by
   rw [List.eq_of_mem_replicate hr];exact ⟨by rw [hzc];simp [hzs],hzok⟩
  have hu':Zac w S (List.replicate (rows.length - l) z).flatten ((List.replicate (rows.length - l) zv).flatMap fun v=>v.cells.toList):=by rw [hzc];exact ZiN _
  obtain ⟨w',hst,hsim⟩:=h1.storeRows he (l:=l) (g:=g) hm (by rw [hv];simp only [vblk];rw [if_neg om]) (by simp;omega) hn hu';rw [List.length_replicate,show l+(rows.length - l)=rows.length by omega,List.drop_length,List.append_nil] at hsim;obtain ⟨S',L',hsim⟩:=hsim;have hzc2:(Builtin.zeroCells zv.cells (rows.length - l)).toList=(List.replicate (rows.length - l) zv).flatMap fun v=>v.cells.toList:=by
   have:=Zlo zv sz hs0 hzs (rows.length - l);rw [<- this];simp [Builtin.zeroCells,madeCells,hzs]
  have hrun:(execOp ac.eval o).run e.P w=.ok (.value (.tuple #[])) w':=by
   have hne:¬ (rows.length - l=0):=om;obtain ⟨q,hq⟩:∃ q,rows.length - l=q+1:=⟨rows.length - l - 1,om⟩;rw [hq] at hst hzc2;simp [execOp,ho,resolve,invoke,builtin,Builtin.clear_,hx',hval,hq,underlying,hu,zeroValue,hi,hzz,typeInfo,Result.andThen,hzc2,hst]
  unfold Oper.wp;rw [hrun,Oper.upon_value];refine ⟨_,hK,S',L',hsim.put (α:=.tup []) (v:=.tuple #[]) ⟨[],rfl,trivial⟩ hd⟩
end
theorem ZxD {a:Option Addr} {cap ety sz:Nat} {rows:List (List C)} (m:Nat) (hm:m<=rows.length):Za2 [.buf (some (a,cap)) ety sz rows] [.buf (some (a,cap)) ety sz (rows.take m)]:=fun w S h ha=>by
 have hl:(rows.take m).length=m:=by rw [Taw];omega
 obtain ⟨h0,hrl,hc⟩:Za5 w S ety sz rows (.slice a rows.length cap):=h (.buf (some (a,cap)) ety sz rows) (by simp);have hb:∀ b,vblk (.slice a m cap)=some b ↔ vblk (.slice a rows.length cap)=some b:=fun b=>by cases a <;> simp [vblk]
 refine ⟨fun x hx=>?_,ZdX _,fun g ⟨x,hx,hg⟩=>?_⟩
 ·simp only [Tbg,List.not_mem_nil,or_false] at hx;subst hx;show Za5 w S ety sz (rows.take m) (.slice a (rows.take m).length cap);rw [hl];refine ⟨h0,fun r hr=>hrl r (List.mem_of_mem_take hr),?_⟩;rcases hc with ⟨h4,p,h5⟩ | ⟨g,cap',cur,h4,h5,h6,h7,h8,h9,h10,h11,h12⟩
  ·subst h4;simp only [Tak,Nat.le_zero_eq] at hm;subst hm;exact .inl ⟨by simp,p,by simpa using h5⟩
  ·injection h4 with e1 e2 e3
   subst e1 e3;refine .inr ⟨g,cap,cur,by rw [hl],h5,h6,h7,h8,by rw [hl];omega,h10,h11,?_⟩;have:=Zar.sub hrl h12 0 m;simpa using this
 ·simp only [Tbg,List.not_mem_nil,or_false] at hx;subst hx;refine ⟨.buf (some (a,cap)) ety sz rows,by simp,?_⟩;simp only [pblk,hl] at hg ⊢;exact (hb g).1 hg
theorem gSub {e:Env} {K:St->Prop} {ds:List (Option Nat)} {os:List Oper} {d t ty cap ety sz:Nat} {p:String} {ed:Array Edge} {x:Operand} {lo hi:Option Operand} {s:List (Nat × A)} {m:List (Nat × Bk)} {a:Option Addr} {rows:List (List C)} (k l h:Nat) (hb:l<=h∧h<=rows.length) (hK:Runs e ds 0 os ⟨(d,.d (.one (.lit (sliced a l h cap sz))))::s,m⟩ K)
  (hx:nrm m (evA s x)=.buf k:=by exact sfx) (hm:gm m k=some (.buf (some (a,cap)) ety sz rows):=by exact snv) (ht:Zbn e.P t=some sz:=by exact snx)
  (hlo:loA (lo.map (evA s))=some (l:Int):=by exact sfx) (hhi:hiA rows.length (hi.map (evA s))=some (h:Int):=by exact sfx):Runs e ds 0 (⟨some d,.slice t x lo hi none,ty,p,ed,none⟩::os) ⟨s,m⟩ K:=by
 simp only [Runs] at hK ⊢;exact Zdd rfl (Zzc (o:=⟨some d,.slice t x lo hi none,ty,p,ed,none⟩) rfl hx hm ht hlo hhi ⟨om,om,om⟩ (by simpa only [Tbx,setA] using hK))
theorem ZCt {e:Env} {K:St->Prop} {ds:List (Option Nat)} {os:List Oper} {d t ty cap ety sz l h:Nat} {p:String} {ed:Array Edge} {x i:Operand} {s:List (Nat × A)} {m:List (Nat × Bk)} {a:Option Addr} {rows:List (List C)} (k j:Nat) (hb:l+j < h∧h<=rows.length) (hK:Runs e ds 0 os ⟨(d,.row k (l+j) sz 0)::s,m⟩ K)
  (hx:evA s x=.d (.one (.lit (sliced a l h cap sz))):=by exact snx) (hi:evA s i=.d (.one (.lit (.int .i64 (j:Int)))):=by exact sfx) (hm:gm m k=some (.buf (some (a,cap)) ety sz rows):=by exact snv) (ht:Zbn e.P t=some sz:=by exact snx):Runs e ds 0 (⟨some d,.indexAddr t x i,ty,p,ed,none⟩::os) ⟨s,m⟩ K:=by
 simp only [Runs] at hK ⊢;exact Zdd rfl (ZpN (o:=⟨some d,.indexAddr t x i,ty,p,ed,none⟩) rfl hx hi hm ht ⟨om,om,om⟩ (by simpa only [Tbx,setA] using hK))
theorem ZtH {e:Env} {ds:List (Option Nat)} {K:St->Prop} {n:Nat} {os:List Oper} {o:Oper} {σ:St} (hg:o.guard=none) (hal:isAl o=false) (h:ZeO e o σ (fun σ'=>Runs e ds n os σ' K)):Runs e ds (n+1) (o::os) σ K:=by
 simp only [Runs,hg];rw [if_neg (by simp [hal])];exact h
theorem ZxE {e:Env} {K:St->Prop} {ds:List (Option Nat)} {os:List Oper} {n d t ty cap ety sz l h:Nat} {p:String} {ed:Array Edge} {x i:Operand} {s:List (Nat × A)} {m:List (Nat × Bk)} {a:Option Addr} {rows:List (List C)} (k j:Nat) (hb:l+j < h∧h<=rows.length) (hK:Runs e ds n os ⟨(d,.row k (l+j) sz 0)::s,m⟩ K)
  (hx:evA s x=.d (.one (.lit (sliced a l h cap sz))):=by exact snx) (hi:evA s i=.d (.one (.lit (.int .i64 (j:Int)))):=by exact sfx) (hm:gm m k=some (.buf (some (a,cap)) ety sz rows):=by exact snv) (ht:Zbn e.P t=some sz:=by exact snx):Runs e ds (n+1) (⟨some d,.indexAddr t x i,ty,p,ed,none⟩::os) ⟨s,m⟩ K :=
 ZtH rfl rfl (Zn7 (o:=⟨some d,.indexAddr t x i,ty,p,ed,none⟩) rfl hx hi hm ht ⟨om,om,om⟩ (by simpa only [Tbx,setA] using hK))
theorem ZB5 {e:Env} {K:St->Prop} {ds:List (Option Nat)} {os:List Oper} {t ty cap ety sz by' l:Nat} {dd:Option Nat} {p:String} {ed:Array Edge} {x:Operand} {s s':List (Nat × A)} {m m':List (Nat × Bk)} {a:Option Addr} {rows:List (List C)} {z:List C} (k:Nat) (hl:l < rows.length) (hK:Runs e ds 0 os ⟨s',(k,.buf (some (a,cap)) ety sz (rows.take l++List.replicate (rows.length - l) z))::m'⟩ K)
  (hx:evA s x=.d (.one (.lit (sliced a l rows.length cap sz))):=by exact snv) (hm:gm m k=some (.buf (some (a,cap)) ety sz rows):=by exact snv) (ht:Zbh e.P t=some (ety,sz,by'):=by exact snx) (hz:ZaM e.P ety=some z:=by exact snx) (hzok:z.all Zaj=true:=by first | rfl | exact sny)
  (hs:setA s dd (.tup [])=s':=by simp only [setA];exact rfl) (hr:remM k m=m':=by exact snv):Runs e ds 0 (⟨dd,.call ⟨.builtin .clear,#[x],#[t]⟩,ty,p,ed,none⟩::os) ⟨s,m⟩ K:=by
 subst hs hr;simp only [Runs] at hK ⊢;exact Zdd rfl (ZtG (o:=⟨dd,.call ⟨.builtin .clear,#[x],#[t]⟩,ty,p,ed,none⟩) rfl hx hm ht hz hzok hl hK)
theorem Zku (a:Option Addr) (k cap sz:Nat):sliced a 0 k cap sz=.slice a k cap:=by
 cases a with
 | none=>simp [sliced]
 | some p =>
  have:p.add 0=p:=by cases p;simp [Addr.add]
  simp [sliced,this]
section
variable {e:Env} {ops:Array Oper} {K:St->Prop}
def QN (e:Env) (U:Nat->Prop) (w0:World) (S0:Nat->Prop) (nt:Nat) (K:St->Prop):Exit->Act->World->Prop:=fun ex a w=>ex=.normal∧∃ σ',K σ'∧SimE e U w0 S0 nt σ' a w
def ZcM (e:Env) (ops:Array Oper) (K:St->Prop) (f:Nat) (listed:Array Bool) (σ:St):Prop :=
 e.Ok->∀ (U:Nat->Prop) (w0:World) (S0:Nat->Prop) (nt:Nat) (a:Act) (w:World),(∀ o∈ops.toList,∀ d,o.dst=some d->d < nt)->SimE e U w0 S0 nt σ a w->wpAny e.P .any ops (QN e U w0 S0 nt K) f listed a w
theorem ZqY {ds:List (Option Nat)} {f:Nat} {listed:Array Bool} {σ:St} (hds:ops.toList.map (·.dst)=ds) (h:Zcz e ds ops K f listed σ):ZcM e ops K f listed σ:=by
 subst hds;exact fun he U w0 S0 nt a w hd hs=>ZkH he (fun a w σ' hK hs'=>⟨rfl,σ',hK,hs'⟩) hd f listed σ a w hs h
def Zjh (ops:Array Oper) (listed:Array Bool) (i:Nat):Bool:=(List.range ops.size).all fun j=>j==i || (listed.getD j true || match ops[i]?,ops[j]? with
 | some oi,some oj=>oj.after.any (fun e=>Region.binds .any e && e.on==i) || oi.apart ops oj
 | _,_=>true)
def Zif (ops:Array Oper):Bool:=ops.toList.all fun o=>match o.op with
 | .select _ _=>false
 | _=>true
theorem ZfC {f i d:Nat} {listed:Array Bool} {σ:St} {o:Oper} {α:A} (hi:ops[i]?=some o) (hdst:o.dst=some d) (hg:o.guard=none) (hsel:Zif ops=true) (hap:Zjh ops listed i=true) (hr:(Region.ready .any ops listed).contains i=true)
  (hp:e.Ok->∀ (U:Nat->Prop) (w0:World) (S0:Nat->Prop) (nt:Nat) (a:Act) (w:World) (S:Nat->Prop) (L:Lay),Sim e U w0 S0 nt σ a w S L->∃ v,(∀ w',(execOp a.eval o).run e.P w'=.ok (.value v) w')∧ARel w S L α v)
  (hK:ZcM e ops K f (listed.setIfInBounds i true) ⟨(d,α)::σ.s,σ.m⟩):ZcM e ops K (f+1) listed σ:=by
 intro he U w0 S0 nt a w hd ⟨S,L,h⟩;obtain ⟨v,hv,hrel⟩:=hp he U w0 S0 nt a w S L h;have hmem:o∈ops.toList:=Tac (by simpa using hi);refine wpAny_first (oi:=o) (v:=v) hi (fun j oj cs b hj hs=>?_) (fun c a w hq=>?_) f listed a w (fun j oj hj hne hl hno=>?_) ?_ ?_ ?_
 ·have:=List.all_eq_true.1 hsel oj (Tac (by simpa using hj));rw [hs] at this
  cases this
 ·have:=hq.1
  cases this
 ·have hjs:=(Tbl.1 hj).1;have:=List.all_eq_true.1 hap j (List.mem_range.2 hjs);simp only [hi,hj,Bool.or_eq_true,beq_iff_eq,List.any_eq_true,Array.any_eq_true',Tar] at this;rcases this with h1 | h1 | h1 | h1
  ·exact absurd h1 hne
  ·rw [hl] at h1;cases h1
  ·obtain ⟨ed,h2,h3,h4⟩:=h1;exact absurd h4 (hno ed h2 h3)
  ·exact h1
 ·simpa using hr
 ·exact .inl ⟨by simp [Region.wanted,hg],hv⟩
 ·have h2:SimE e U w0 S0 nt ⟨(d,α)::σ.s,σ.m⟩ (a.put o.dst v) w:=⟨S,L,by
   have:=h.put (α:=α) hrel (hd o hmem)
   rwa [hdst,setA,<- hdst] at this⟩
  exact hK he U w0 S0 nt (a.put o.dst v) w hd h2
end
section
variable {e:Env} {K:St->Prop} {mask:Nat} {Q:PX->St->Prop} {s:List (Nat × A)} {m:List (Nat × Bk)}
theorem Zji {id:Nat} {ops:Array Oper} {σ:St} (hK:ZcM e ops (ZcT mask Q) ops.size (Array.replicate ops.size false) σ):pwp e mask (.region id ops true) σ Q:=fun he U w0 S0 nt a w hok hs=>by
 obtain ⟨S,L,h1⟩:=hs.drew he;refine Code.wp_mono (fun ex a' w' hq=>?_) (wp_region_any he.mixed (hK he U w0 S0 nt a { w with drawn:=w.drawn+1 } (ZjN hok) ⟨S,L,h1⟩));obtain ⟨rfl,σ',k1,k2⟩:=hq;exact ⟨_,k1,k2.weak (fun t=>ZhR mask t σ'.s) (fun _ _ h=>h)⟩
theorem gF0 {id:Nat} {l:List Oper} (hK:ZcM e l.toArray (ZcT mask Q) l.length (Array.replicate l.length false) ⟨s,m⟩):pwp e mask (.region id l.toArray true) ⟨s,m⟩ Q:=Zji (ops:=l.toArray) (by simpa using hK)
theorem gFT {ds:List (Option Nat)} {ops:Array Oper} {f:Nat} {listed:Array Bool} {σ:St} (h:Zcz e ds ops K f listed σ) (hds:ops.toList.map (·.dst)=ds:=by exact rfl):ZcM e ops K f listed σ:=ZqY hds h
theorem gFm {ops:Array Oper} {f d ty:Nat} {p:String} {ed:Array Edge} {x:Operand} {α:A} {listed:Array Bool} (i:Nat) (hK:ZcM e ops K f (listed.setIfInBounds i true) ⟨(d,α)::s,m⟩)
  (hi:ops[i]?=some ⟨some d,.move x,ty,p,ed,none⟩:=by simp only [List.getElem?_toArray,Tau,Tat];exact rfl) (hx:evA s x=α:=by exact snv) (hsel:Zif ops=true:=by decide +kernel) (hap:Zjh ops listed i=true:=by decide +kernel) (hr:(Region.ready .any ops listed).contains i=true:=by decide +kernel):ZcM e ops K (f+1) listed ⟨s,m⟩:=by
 subst hx;exact ZfC (o:=⟨some d,.move x,ty,p,ed,none⟩) hi rfl rfl hsel hap hr (fun _ U w0 S0 nt a w S L h=>⟨a.eval x,fun w2=>by simp [execOp],h.eval x⟩) hK
theorem gFs {ops:Array Oper} {f d t ty cap ety sz:Nat} {p:String} {ed:Array Edge} {x:Operand} {lo hi:Option Operand} {a:Option Addr} {rows:List (List C)} {listed:Array Bool} (i k l h:Nat) (hb:l<=h∧h<=rows.length) (hK:ZcM e ops K f (listed.setIfInBounds i true) ⟨(d,.d (.one (.lit (sliced a l h cap sz))))::s,m⟩)
  (hi':ops[i]?=some ⟨some d,.slice t x lo hi none,ty,p,ed,none⟩:=by simp only [List.getElem?_toArray,Tau,Tat];exact rfl)
  (hx:nrm m (evA s x)=.buf k:=by exact sfx) (hm:gm m k=some (.buf (some (a,cap)) ety sz rows):=by exact snv) (ht:Zbn e.P t=some sz:=by exact snx)
  (hlo:loA (lo.map (evA s))=some (l:Int):=by exact sfx) (hhi:hiA rows.length (hi.map (evA s))=some (h:Int):=by exact sfx)
  (hsel:Zif ops=true:=by decide +kernel) (hap:Zjh ops listed i=true:=by decide +kernel) (hr:(Region.ready .any ops listed).contains i=true:=by decide +kernel):ZcM e ops K (f+1) listed ⟨s,m⟩:=by
 refine ZfC (o:=⟨some d,.slice t x lo hi none,ty,p,ed,none⟩) hi' rfl rfl hsel hap hr (fun _ U w0 S0 nt ac w S L hS=>⟨sliced a l h cap sz,fun w'=>?_,by simp [ARel,DRel,Rep]⟩) hK;have hx':=Zct hS.cls (hS.eval x);simp only at hx';rw [hx] at hx';have hx':ac.eval x=L.v k:=hx';obtain ⟨hpl,_,_,hbuf⟩:=hS.cls.own k _ hm;have hv:L.v k=.slice a rows.length cap:=hpl (a,cap) rfl;have hcap:rows.length<=cap:=by
  rcases hbuf with ⟨h4,_⟩ | ⟨g,cap',cur,h4,_,_,_,_,h5,_⟩
  ·rw [h4];exact Taj _
  ·rw [hv] at h4;injection h4 with _ _ h4;rw [h4];exact h5
 have hel:∃ ety i,e.P.underlying t=some (.slice ety)∧e.P.info? ety=some i∧i.size=sz:=by
  unfold Zbn at ht;split at ht
  ·rename_i ety hu;simp only [Tav] at ht;obtain ⟨i,hi,hs⟩:=ht;exact ⟨ety,i,hu,hi,hs⟩
  ·cases ht
 obtain ⟨el,inf,hu,hinf,hsz⟩:=hel;have hlo:=ZhN (w:=w) (S:=S) (L:=L) (ρv:=ac.eval) hlo (fun y hy=>hS.eval y);have hhi:=ZhO (w:=w) (S:=S) (L:=L) (ρv:=ac.eval) hhi (fun y hy=>hS.eval y);have hbnd:(Instr.sliceBounds true rows.length cap (lo.map ac.eval) (hi.map ac.eval) none).run e.P w'=.ok (l,h,cap) w':=by
  have b2:(h:Int)<=(cap:Int):=om;have b5:(l:Int)<=(rows.length:Int):=om;rcases hlo with ⟨rfl,e1⟩ | e1 <;> rcases hhi with ⟨rfl,e2⟩ | e2
  ·have e1:l=0:=om;have e2:h=rows.length:=om;subst e1 e2;simp [Instr.sliceBounds,Result.andThen]
  ·have e1:l=0:=om;subst e1;simp [Instr.sliceBounds,e2,Result.andThen,run_sliceBound,b2]
  ·have e2:h=rows.length:=om;subst e2;simp [Instr.sliceBounds,e1,Result.andThen,run_sliceBound,b5]
  ·have b4:(l:Int)<=(h:Int):=om;simp [Instr.sliceBounds,e1,e2,Result.andThen,run_sliceBound,b2,b4,hb.1]
 simp only [execOp,Sem.run_bind,hx',hv,Instr.sliceAt,Instr.slice,underlying,run_program,Result.andThen_ok,hu,Sem.run_pure,Option.map_none,hbnd,sizeOf,typeInfo,hinf,hsz,sliced]
end
section
variable {e:Env} {K:St->Prop} {s:List (Nat × A)} {m:List (Nat × Bk)}
theorem gFb {ops:Array Oper} {f d ty t t':Nat} {p:String} {ed:Array Edge} {op:BinOp} {x y:Operand} {a b v:Value} {listed:Array Bool} (i:Nat) (hK:ZcM e ops K f (listed.setIfInBounds i true) ⟨(d,.d (.one (.lit v)))::s,m⟩)
  (hi:ops[i]?=some ⟨some d,.binOp op t x y t',ty,p,ed,none⟩:=by simp only [List.getElem?_toArray,Tau,Tat];exact rfl) (hx:evA s x=.d (.one (.lit a)):=by exact snv) (hy:evA s y=.d (.one (.lit b)):=by exact snv) (hv:binT e.P op t a b=some v:=by exact sfv) (hsel:Zif ops=true:=by decide +kernel) (hap:Zjh ops listed i=true:=by decide +kernel) (hr:(Region.ready .any ops listed).contains i=true:=by decide +kernel):ZcM e ops K (f+1) listed ⟨s,m⟩:=by
 refine ZfC (o:=⟨some d,.binOp op t x y t',ty,p,ed,none⟩) hi rfl rfl hsel hap hr (fun _ U w0 S0 nt ac w S L h=>⟨v,fun w2=>?_,by simp [ARel,DRel,Rep]⟩) hK;have h1:=h.eval x;have h2:=h.eval y;rw [hx] at h1;rw [hy] at h2;have h1:=Zbj h1;have h2:=Zbj h2;have:=ZoN (x:=x) (y:=y) hv w2;simp only [execOp,h1,h2];rw [Sem.run_bind,this];rfl
theorem gFi {ops:Array Oper} {f d ty t k ety sz:Nat} {p:String} {ed:Array Edge} {x y:Operand} {o:Option (Option Addr × Nat)} {rows:List (List C)} {kk:IntKind} {listed:Array Bool} (i j:Nat) (hlt:j < rows.length) (hK:ZcM e ops K f (listed.setIfInBounds i true) ⟨(d,.row k j sz 0)::s,m⟩)
  (hi:ops[i]?=some ⟨some d,.indexAddr t x y,ty,p,ed,none⟩:=by simp only [List.getElem?_toArray,Tau,Tat];exact rfl) (hx:nrm m (evA s x)=.buf k:=by exact sfx) (hy:evA s y=.d (.one (.lit (.int kk (j:Int)))):=by exact snv) (hm:gm m k=some (.buf o ety sz rows):=by exact snv) (ht:Zbn e.P t=some sz:=by exact snx) (hsel:Zif ops=true:=by decide +kernel) (hap:Zjh ops listed i=true:=by decide +kernel) (hr:(Region.ready .any ops listed).contains i=true:=by decide +kernel):ZcM e ops K (f+1) listed ⟨s,m⟩:=by
 refine ZfC (o:=⟨some d,.indexAddr t x y,ty,p,ed,none⟩) hi rfl rfl hsel hap hr (fun _ U w0 S0 nt ac w S L h=>?_) hK;have hx':=Zct h.cls (h.eval x);simp only at hx';rw [hx] at hx';have hx':ac.eval x=L.v k:=hx';have hy':=h.eval y;rw [hy] at hy';have hy':=Zbj hy';obtain ⟨_,_,_,h4⟩:=h.cls.own k _ hm;rcases h4 with ⟨h4,_⟩ | ⟨g,cap,cur,hv,hcp,_⟩
 ·rw [h4] at hlt;simp at hlt
 ·refine ⟨.pointer (some ⟨g,j * sz,none⟩),fun w2=>?_,g,?_,rfl⟩
  ·have:=ZiK (P:=e.P) (j:=(j:Int)) ht (Int.natCast_nonneg _) (by rw [Tbx];exact hlt) (g:=g) (cap:=cap) (k:=kk) (w:=w2);rw [Tbx] at this;simp [execOp,hy',hx',hv,this]
  ·rw [hv];simp only [vblk];rw [if_neg om]
end
def RBuf (a:Option Addr) (cap:Nat) (us:List Tm) (r:List D) (pm:List Bk):Prop:=r=[]∧pm=[.buf (some (a,cap)) 39 4 (Zaa us)]
theorem Zas (l:List Tm) (i:Nat) (t:Tm):(Zaa l).set i (Zab t)=Zaa (l.set i t):=by
 rw [Zbm,Zbm,List.map_set]
theorem gTPe {X:Prop} {P:Program} {ts:List RS} {R:List D->List Bk->Prop} {σ:St} {r:List D} {pm:List Bk} (ks:List Nat) (hR:R r pm) (hx:Zlq P ts R .normal σ->X:=by first | exact fun h=>h | exact fun h=>⟨_,Wk.refl _,h⟩) (hr:resD P σ ts=some r:=by exact sfy) (hg:getM σ.m ks=some pm:=by exact sny) (hn:ks.Nodup:=by decide) (hp:pm.all pinned=true:=by exact sny):X :=
 hx ⟨r,ks,pm,hg,hn,hp,hR,Zgu hr⟩
theorem ZjW:ZeC (Tryz.prog.underlying 3)=some .i64:=by kernel_rfl
theorem Zig:Tryz.prog.underlying 184=some (.int .u64):=by kernel_rfl
theorem ZjX (j:Int):Zlx j (some (.int .u64)) (some .i64)=some (.d (.one (.lit (.int .i64 (IntKind.i64.wrap j))))):=rfl
theorem toNat_one:Int.toNat 1=1:=rfl
theorem ZjY (i j:Nat) (h:i+j < 4611686018427387904):∃ s m:Nat,IntKind.i64.wrap ((i:Int)+(j:Int))=(s:Int)∧IntKind.u64.wrap (s:Int)=(s:Int)∧(s:Int).fdiv (2 ^ (min 1 64))=(m:Int)∧IntKind.i64.wrap (m:Int)=(m:Int)∧m=(i+j) / 2:=by
 refine ⟨i+j,(i+j) / 2,Za4 om om om,?_,?_,IntWalk.i64_in _ ⟨om,om⟩,rfl⟩
 ·simp only [IntKind.wrap,IntKind.signed,IntKind.bits];simp;omega
 ·simp only [show min 1 64=1 from rfl,Int.pow_succ,Int.pow_zero,Int.one_mul];rw [Int.fdiv_eq_ediv_of_nonneg _ (by decide)];omega
theorem Zjj (P X Z Y Q:List Tm) (hl:X.length=Y.length) {A B n N:Nat} (hA:A=P.length) (hB:B=P.length+X.length+Z.length) (hn:n=X.length) (hN:N=P.length+X.length+Z.length+Y.length+Q.length) (hmx:N<=4000000) (a:Option Addr) (cap:Nat) :
  ConP e0 189 [.one (.lit (.slice a N cap)),.one (.lit (.int .i64 A)),.one (.lit (.int .i64 B)),.one (.lit (.int .i64 n)),.one (.fn 137 [])] [.buf (some (a,cap)) 39 4 (Zaa (P++X++Z++Y++Q))] (RBuf a cap (P++Y++Z++X++Q)):=by
 refine gIP (ts:=[]) [1000] 9231 Tryz.func189 ?_;refine fG @tmz ?_;have F:=@tmz;refine gL (ι:=Nat × List Tm) [10,13] [1000] (fun x=>[(10,.d (.one (.lit (.int .i64 (x.1:Int)))))]) (fun x=>[(1000,.buf (some (a,cap)) 39 4 (Zaa x.2))]) (fun x=>x.1<=n∧x.2=swR P X Z Y Q x.1) (fun x=>n - x.1) ((0,P++X++Z++Y++Q)) (⟨Taj _,(Zy7 P X Z Y Q).symm⟩) (fun x hx=>?_);clear F;obtain ⟨i,us⟩:=x;obtain ⟨hi,hus⟩:=hx;simp only at hi hus
 dsimp only;by_cases hlt:i < n;rotate_left
 ·obtain rfl:i=n:=by omega
  have q1:=lF i i;rw [hn,ZBo hl] at hus;subst hus;refine fG (ai @q1 @tmz) ?_
  first | exact (have F:=@e0P;gTPe (R:=RBuf a cap (P++Y++Z++X++Q)) [1000] ⟨rfl,rfl⟩) | exact (have F:=@e0P;gTP (R:=RBuf a cap (P++Y++Z++X++Q)) [1000] ⟨rfl,rfl⟩)
 have q1:=lT i n;obtain ⟨x,hx⟩:∃ t,X[i]?=some t:=⟨_,Taa om⟩;obtain ⟨y,hy⟩:∃ t,Y[i]?=some t:=⟨_,Taa om⟩;obtain ⟨g1,g2,g3⟩:=ZBq (P:=P) (Z:=Z) (Q:=Q) hl hx hy;have hul:us.length=N:=by rw [hus,ZBp i hl,hN]
 rw [<- hus] at g1 g2 g3;rw [<- hB] at g2 g3;rw [<- hA] at g1 g3;obtain ⟨p,hp⟩:∃ p,p=A+i:=⟨_,rfl⟩;obtain ⟨q,hq⟩:∃ q,q=B+i:=⟨_,rfl⟩;rw [<- hp] at g1 g3;rw [<- hq] at g2 g3;have w1:IntKind.i64.wrap ((A:Int)+(i:Int))=(p:Int):=Za4 om om om;have w2:IntKind.i64.wrap ((B:Int)+(i:Int))=(q:Int):=Za4 om om om;have w3:=Zau (k:=i) om;have l1:p < N:=om;have l2:q < N:=om;have hls:∀ k (t:Tm),(us.set k t).length=N:=fun k t=>by rw [Taz,hul]
 refine fN 3 (ai @q1 @tmz) ?_;obtain ⟨z,g4⟩:∃ z,(us.set p y)[q]?=some z:=⟨_,Taa (by rw [Taz];omega)⟩;refine gF0 ?_;refine gFm 0 ?_;refine gFm 1 ?_;refine gFm 2 ?_;refine (have F:=(aj13 q1 w1 w2 l1 l2 hul g1 g2 g4 hls @Zad @Zas tmz);gFb 3 ?_);refine gFm 4 ?_;refine gFm 5 ?_;refine gFm 6 ?_;refine (have F:=(aj13 q1 w1 w2 l1 l2 hul g1 g2 g4 hls @Zad @Zas tmz);gFb 7 ?_);refine gFm 8 ?_;refine gFm 9 ?_
 refine gFm 10 ?_;refine (have F:=(aj13 q1 w1 w2 l1 l2 hul g1 g2 g4 hls @Zad @Zas tmz);gFb 11 ?_);refine (have F:=(aj13 q1 w1 w2 l1 l2 hul g1 g2 g4 hls @Zad @Zas tmz);gFi (rows:=Zaa us) 12 q (by rw [Zad];omega) ?_);refine gFm 14 ?_;refine gFm 15 ?_;refine gFm 16 ?_;refine (have F:=(aj13 q1 w1 w2 l1 l2 hul g1 g2 g4 hls @Zad @Zas tmz);gFb 17 ?_);refine (have F:=(aj13 q1 w1 w2 l1 l2 hul g1 g2 g4 hls @Zad @Zas tmz);gFi (rows:=Zaa us) 18 p (by rw [Zad];omega) ?_)
 refine gFT ?_;refine gO2 13 19 ?_ ?_
 ·refine (have F:=(aj13 q1 w1 w2 l1 l2 hul g1 g2 g4 hls @Zad @Zas tmz);gO3 ?_);refine gO1 19 ?_;refine (have F:=(aj13 q1 w1 w2 l1 l2 hul g1 g2 g4 hls @Zad @Zas tmz);gO3 ?_);refine gO1 20 ?_;refine (have F:=(aj13 q1 w1 w2 l1 l2 hul g1 g2 g4 hls @Zad @Zas tmz);gO3 ?_);refine gO1 21 ?_;refine (have F:=(aj13 q1 w1 w2 l1 l2 hul g1 g2 g4 hls @Zad @Zas tmz);gO3 ?_);refine gO1 22 ?_;refine (have F:=(aj13 q1 w1 w2 l1 l2 hul g1 g2 g4 hls @Zad @Zas tmz);gO3 ?_)
  refine gO1 23 ?_;refine (have F:=(aj13 q1 w1 w2 l1 l2 hul g1 g2 g4 hls @Zad @Zas tmz);gO3 ?_);refine (have F:=tmz;gT0 ?_);refine Exists.intro _ (ai (Wk.refl _) ?_);rw [g3];have F:=@w3;refine gG ?_;exact ⟨(i+1,swR P X Z Y Q (i+1)),⟨hlt,rfl⟩,gw,gw,om⟩
 ·refine (have F:=(aj13 q1 w1 w2 l1 l2 hul g1 g2 g4 hls @Zad @Zas tmz);gO3 ?_);refine gO1 13 ?_;refine (have F:=(aj13 q1 w1 w2 l1 l2 hul g1 g2 g4 hls @Zad @Zas tmz);gO3 ?_);refine gO1 20 ?_;refine (have F:=(aj13 q1 w1 w2 l1 l2 hul g1 g2 g4 hls @Zad @Zas tmz);gO3 ?_);refine gO1 21 ?_;refine (have F:=(aj13 q1 w1 w2 l1 l2 hul g1 g2 g4 hls @Zad @Zas tmz);gO3 ?_);refine gO1 22 ?_;refine (have F:=(aj13 q1 w1 w2 l1 l2 hul g1 g2 g4 hls @Zad @Zas tmz);gO3 ?_)
  refine gO1 23 ?_;refine (have F:=(aj13 q1 w1 w2 l1 l2 hul g1 g2 g4 hls @Zad @Zas tmz);gO3 ?_);refine (have F:=tmz;gT0 ?_);refine Exists.intro _ (ai (Wk.refl _) ?_);rw [g3];have F:=@w3;refine gG ?_;exact ⟨(i+1,swR P X Z Y Q (i+1)),⟨hlt,rfl⟩,gw,gw,om⟩
theorem Zzd (P X Y Q:List Tm) (hX:0 < X.length) (hY:0 < Y.length) {A M B N:Nat} (hA:A=P.length) (hM:M=P.length+X.length) (hB:B=P.length+X.length+Y.length) (hN:N=P.length+X.length+Y.length+Q.length) (hmx:N<=4000000) (a:Option Addr) (cap:Nat) :
  ConP e0 183 [.one (.lit (.slice a N cap)),.one (.lit (.int .i64 A)),.one (.lit (.int .i64 M)),.one (.lit (.int .i64 B)),.one (.fn 137 [])] [.buf (some (a,cap)) 39 4 (Zaa (P++X++Y++Q))] (RBuf a cap (P++Y++X++Q)):=by
 have w1:IntKind.i64.wrap ((M:Int) - (A:Int))=(X.length:Int):=Za4 om om om;have w2:IntKind.i64.wrap ((B:Int) - (M:Int))=(Y.length:Int):=Za4 om om om;refine gIP (ts:=[]) [1000] 9440287 Tryz.func183 ?_;refine fG (aj3 @w1 @w2 @tmz) ?_;have F:=@tmz;refine gL (ι:=(Nat × Nat) × List Tm) [10,11,20,23] [1000] (fun x=>[(10,.d (.one (.lit (.int .i64 (x.1.1:Int))))),(11,.d (.one (.lit (.int .i64 (x.1.2:Int)))))]) (fun x=>[(1000,.buf (some (a,cap)) 39 4 (Zaa x.2))]) (fun x=>∃ P' X' Y' Q',x.2=P'++X'++Y'++Q'∧x.1.1=X'.length∧x.1.2=Y'.length∧P'.length+X'.length=M∧0 < X'.length∧0 < Y'.length∧P'++Y'++X'++Q'=P++Y++X++Q) (fun x=>x.1.1+x.1.2) (((X.length,Y.length),P++X++Y++Q)) (⟨P,X,Y,Q,rfl,rfl,rfl,hM.symm,hX,hY,rfl⟩) (fun x hx=>?_);clear F
 obtain ⟨⟨i,j⟩,us⟩:=x;obtain ⟨P',X',Y',Q',hus,hi,hj,hM',hX',hY',hT⟩:=hx;simp only at hus hi hj;dsimp only;have hlen:=congrArg List.length hT;simp only [Tae] at hlen;obtain ⟨z,hz⟩:∃ z,z=P'.length:=⟨_,rfl⟩;have w3:IntKind.i64.wrap ((M:Int) - (i:Int))=(z:Int):=Za4 om om om;by_cases hij:i=j
 ·have q1:((i:Int)=(j:Int))=True:=eq_true om;have c:=Zjj P' X' [] Y' Q' om (A:=z) (B:=M) (n:=i) (N:=N) hz (by simp;omega) hi (by simp;omega) hmx a cap;rw [List.append_nil,List.append_nil,hT,<- hus] at c;refine fN 8 (ai @q1 @tmz) ?_;refine gB ?_;have F:=ai @tmz @w3;refine gCP [1000] [1000] (c) ?_;clear F;rintro r pm ⟨rfl,rfl⟩;simp only [setA,retA,zipM,Taf,Tah];refine fR @tmz ?_;refine fG @tmz ?_
  first | exact (have F:=@e0P;gTPe (R:=RBuf a cap (P++Y++X++Q)) [1000] ⟨rfl,rfl⟩) | exact (have F:=@e0P;gTP (R:=RBuf a cap (P++Y++X++Q)) [1000] ⟨rfl,rfl⟩)
 have q1:((i:Int)=(j:Int))=False:=eq_false om;by_cases hgt:j < i
 ·have q2:=lT j i;obtain ⟨d,hd⟩:∃ d,d=i - j:=⟨_,rfl⟩;have w4:IntKind.i64.wrap ((i:Int) - (j:Int))=(d:Int):=Za4 om om om;have hX12:X'=X'.take j++X'.drop j:=(Tbm j X').symm;have l1:(X'.take j).length=j:=by rw [Taw];omega
  have l2:(X'.drop j).length=d:=by rw [Tax];omega
  generalize X'.take j=X1 at hX12 l1;generalize X'.drop j=X2 at hX12 l2;subst hX12;have c:=Zjj P' X1 X2 Y' Q' om (A:=z) (B:=M) (n:=j) (N:=N) hz (by simp at hM';omega) l1.symm (by simp at hlen;omega) hmx a cap;rw [show P'++X1++X2++Y'++Q'=us by rw [hus];simp] at c;refine fN 4 (aj3 @q1 @q2 @tmz) ?_;refine gB ?_;have F:=ai @tmz @w3;refine gCP [1000] [1000] (c) ?_;clear F;rintro r pm ⟨rfl,rfl⟩;simp only [setA,retA,zipM,Taf,Tah]
  refine fR @tmz ?_;have F:=@w4;refine gG ?_;exact ⟨((d,j),P'++Y'++X2++X1++Q'),⟨P'++Y',X2,X1,Q',rfl,l2.symm,l1.symm,by simp at hM' ⊢;omega,om,om,by rw [<- hT];simp⟩,gw,gw,by dsimp only;omega⟩
 ·have q2:=lF j i;obtain ⟨d,hd⟩:∃ d,d=j - i:=⟨_,rfl⟩;have w4:IntKind.i64.wrap ((j:Int) - (i:Int))=(d:Int):=Za4 om om om;obtain ⟨u,hu⟩:∃ u,u=M+j:=⟨_,rfl⟩;obtain ⟨v,hv⟩:∃ v,v=M+d:=⟨_,rfl⟩;have w5:IntKind.i64.wrap ((M:Int)+(j:Int))=(u:Int):=Za4 om om om;have w6:IntKind.i64.wrap ((u:Int) - (i:Int))=(v:Int):=Za4 om om om;have hY12:Y'=Y'.take d++Y'.drop d:=(Tbm d Y').symm;have l1:(Y'.take d).length=d:=by rw [Taw];omega
  have l2:(Y'.drop d).length=i:=by rw [Tax];omega
  generalize Y'.take d=Y1 at hY12 l1;generalize Y'.drop d=Y2 at hY12 l2;subst hY12;have c:=Zjj P' X' Y1 Y2 Q' om (A:=z) (B:=v) (n:=i) (N:=N) hz om hi (by simp at hlen;omega) hmx a cap;rw [show P'++X'++Y1++Y2++Q'=us by rw [hus];simp] at c;refine fN 6 (aj3 @q1 @q2 @tmz) ?_;refine gB ?_;have F:=aj4 @tmz @w3 @w5 @w6;refine gCP [1000] [1000] (c) ?_;clear F;rintro r pm ⟨rfl,rfl⟩;simp only [setA,retA,zipM,Taf,Tah]
  refine fR @tmz ?_;have F:=@w4;refine gG ?_;exact ⟨((i,d),P'++Y2++Y1++X'++Q'),⟨P',Y2,Y1,X'++Q',by simp,l2.symm,l1.symm,om,om,om,by rw [<- hT];simp⟩,gw,gw,by dsimp only;omega⟩
def bs (l:List UInt8):ByteArray:=⟨l.toArray⟩
end Go.Proofs.YtjoaefnnnbpflaaGreatDoor
namespace Go.Proofs.YtjoaefnnnbpflaaGreatDoor
open Go.RowKit Go.MapKept Go.ChangeMaps
theorem Zl3 {l:List (ByteArray × Value)} {k s:ByteArray} {v:Value}:ZbR (l++[(k,v)]) s=(ZbR l s).or (if s.toList=k.toList then some v else none):=by
 unfold ZbR;rw [List.find?_append]
 cases h:l.find? fun p=>s.toList==p.1.toList with
 | some p=>simp
 | none =>
  by_cases e:s.toList=k.toList
  ·simp [List.find?,e]
  ·have e2:(s.toList==k.toList)=false:=beq_eq_false_iff_ne.2 e;simp only [List.find?,e2,Option.or,if_neg e,Option.map_none]
def Memo (g:Sgn) (l:List (ByteArray × Value)):Prop:=∀ u,ZaI g u->∀ v,ZbR l (keyS u)=some v->v=.int .i64 (sortsTm g u:Nat)
def Grew (g:Sgn) (n:Nat) (l l':List (ByteArray × Value)):Prop:=∀ u,ZaI g u->n < sizeTm u->ZbR l (keyS u)=none->ZbR l' (keyS u)=none
theorem Grew.refl {g:Sgn} {n:Nat} {l:List (ByteArray × Value)}:Grew g n l l:=fun _ _ _ h=>h
theorem Grew.trans {g:Sgn} {n:Nat} {l l' l'':List (ByteArray × Value)} (h:Grew g n l l') (h':Grew g n l' l''):Grew g n l l'':=fun u hu hs h0=>h' u hu hs (h u hu hs h0)
theorem Grew.mono {g:Sgn} {n m:Nat} {l l':List (ByteArray × Value)} (h:Grew g n l l') (hn:n<=m):Grew g m l l':=fun u hu hs h0=>h u hu om h0
theorem Memo.nil {g:Sgn}:Memo g []:=fun u _ v h=>by simp [ZbR] at h
theorem Memo.snoc {g:Sgn} (hg:SgnOk g) {l:List (ByteArray × Value)} (h:Memo g l) {t:Tm} (ht:ZaI g t):Memo g (l++[(keyS t,.int .i64 (sortsTm g t:Nat))]):=by
 intro u hu v hv;rw [Zl3] at hv
 cases hl:ZbR l (keyS u) with
 | some x =>
  rw [hl] at hv;simp only [Option.some_or,Taq] at hv;subst hv;exact h u hu _ hl
 | none =>
  rw [hl,Option.none_or] at hv;by_cases e:(keyS u).toList=(keyS t).toList
  ·rw [if_pos e] at hv;obtain rfl:=ZpM hg hu ht e;simpa using hv.symm
  ·rw [if_neg e] at hv;cases hv
theorem Grew.snoc {g:Sgn} (hg:SgnOk g) {l:List (ByteArray × Value)} {t:Tm} (ht:ZaI g t) {v:Value}:Grew g (sizeTm t) l (l++[(keyS t,v)]):=by
 intro u hu hs h0;rw [Zl3,h0,Option.none_or,if_neg];intro e;obtain rfl:=ZpM hg hu ht e;omega
section
variable {e:Env} {K:St->Prop} {ds:List (Option Nat)} {os:List Oper} {s:List (Nat × A)} {m:List (Nat × Bk)}
end
end Go.Proofs.YtjoaefnnnbpflaaGreatDoor
namespace Go.Proofs.YtjoaefnnnbpflaaGreatDoor
open Go.RowKit
def FitN (d:Dcl) (sets:List Nat) (n:Nat):Prop:=∀ (i:Nat) k s,i < n->d.args[i]?=some k->sets[i]?=some s->s.testBit k.toNat=true
theorem FitN.zero {d:Dcl} {sets:List Nat}:FitN d sets 0:=fun i k s h=>absurd h (Nat.not_lt_zero i)
theorem FitN.succ {d:Dcl} {sets:List Nat} {n:Nat} {k:Int} {s:Nat} (hk:d.args[n]?=some k) (hs:sets[n]?=some s):FitN d sets (n+1) ↔ FitN d sets n∧s.testBit k.toNat=true:=by
 constructor
 ·exact fun h=>⟨fun i k s hi=>h i k s om,h n k s om hk hs⟩
 ·rintro ⟨h1,h2⟩ i k' s' hi hk' hs';by_cases e:i=n
  ·subst e;rw [hk] at hk';rw [hs] at hs';injection hk' with hk'
   injection hs' with hs'
   subst hk' hs';exact h2
  ·exact h1 i k' s' om hk' hs'
section
variable {g:Sgn} {mc:C}
end
noncomputable def bvN (g:Sgn) (R:Nat->Nat->Nat->Prop) (sets:List Nat) (m:Nat):Nat:=ofB (BagB R sets m) g.sorts.names.length
def BagT (g:Sgn) (R:Nat->Nat->Nat->Prop) (sets:List Nat) (M:Nat) (T:List Nat):Prop:=T.length=2 ^ sets.length∧∀ m,1<=m->m < 2 ^ sets.length->(m < M->T[m]?=some (bvN g R sets m))∧(M<=m->T[m]?=some 0)
section
variable {g:Sgn} {R:Nat->Nat->Nat->Prop} {sets:List Nat}
theorem BagT.start:BagT g R sets 1 (List.replicate (2 ^ sets.length) 0):=⟨by simp,fun m h1 h2=>⟨fun h=>om,fun _=>by rw [Tbr,if_pos h2]⟩⟩
theorem BagT.next {M:Nat} {T:List Nat} (h:BagT g R sets M T) (hM:M < 2 ^ sets.length):BagT g R sets (M+1) (T.set M (bvN g R sets M)):=by
 refine ⟨by rw [Taz,h.1],fun m h1 h2=>?_⟩;by_cases e:m=M
 ·subst e;exact ⟨fun _=>Tbn (by rw [h.1];exact h2),fun q=>om⟩
 ·rw [Tbo (Ne.symm e)];exact ⟨fun q=>(h.2 m h1 h2).1 om,fun q=>(h.2 m h1 h2).2 om⟩
theorem BagT.zero {M:Nat} {T:List Nat} (h:BagT g R sets M T) (h1:1<=M) (hM:M < 2 ^ sets.length):T.set M 0=T:=by
 have h2:=(h.2 M h1 hM).2 (Tai _);refine List.ext_getElem? fun q=>?_;by_cases e:q=M
 ·subst e;rw [Tbn (by rw [h.1];exact hM),h2]
 ·rw [Tbo (Ne.symm e)]
end
section
variable {w:World} {S:Nat->Prop} {a:Option Addr} {n cap:Nat} {rows:List (List C)}
end
section
variable {e:Env} {σ:St} {mask:Nat} {Q:PX->St->Prop}
end
section
variable {g:Sgn} {mc:C}
noncomputable def cvN (g:Sgn) (o:Opr) (sets:List Nat) (i j:Nat):Nat:=ofB (ChB (Rel2 g o) sets i j) g.sorts.names.length
noncomputable def chL (g:Sgn) (o:Opr) (sets:List Nat) (r:Nat):List Nat:=(List.range sets.length).map fun k=>if k < r then 0 else cvN g o sets r (k+1)
theorem ZBw {o:Opr} {sets:List Nat} {r:Nat}:(chL g o sets r).length=sets.length:=by simp [chL]
def FilB (g:Sgn) (o:Opr) (sets:List Nat) (p k:Nat) (L:List Nat):Prop:=L.length=sets.length∧∀ j,j < sets.length->L[j]?=some (if j < p then 0 else if j < k then cvN g o sets p (j+1) else 0)
theorem FilB.all {o:Opr} {sets:List Nat} {p:Nat} {L:List Nat} (h:FilB g o sets p sets.length L):L=chL g o sets p:=by
 refine List.ext_getElem? fun j=>?_;by_cases hj:j < sets.length
 ·rw [h.2 j hj];unfold chL;rw [Tba,List.getElem?_range hj,Option.map_some];by_cases h1:j < p
  ·rw [if_pos h1,if_pos h1]
  ·rw [if_neg h1,if_neg h1,if_pos hj]
 ·rw [List.getElem?_eq_none (by rw [h.1];omega),List.getElem?_eq_none (by rw [ZBw];omega)]
theorem FilB.next {o:Opr} {sets:List Nat} {p k:Nat} {L:List Nat} (h:FilB g o sets p k L) (hp:p<=k) (hk:k < sets.length):FilB g o sets p (k+1) (L.set k (cvN g o sets p (k+1))):=by
 refine ⟨by rw [Taz,h.1],fun j hj=>?_⟩;by_cases e:j=k
 ·subst e;rw [Tbn (by rw [h.1];exact hj),if_neg om,if_pos om]
 ·rw [Tbo (Ne.symm e),h.2 j hj];by_cases h1:j < p
  ·rw [if_pos h1,if_pos h1]
  ·rw [if_neg h1,if_neg h1];by_cases h2:j < k
   ·rw [if_pos h2,if_pos om]
   ·rw [if_neg h2,if_neg om]
theorem FilB.zero {o:Opr} {sets:List Nat} {p k:Nat} {L:List Nat} (h:FilB g o sets p k L) (hp:p<=k) (hk:k < sets.length):L.set k 0=L:=by
 have h1:=h.2 k hk;rw [if_neg om,if_neg om] at h1;refine List.ext_getElem? fun j=>?_;by_cases e:j=k
 ·subst e;rw [Tbn (by rw [h.1];exact hk),h1]
 ·rw [Tbo (Ne.symm e)]
theorem FilB.start {o:Opr} {sets:List Nat} {p s:Nat} (hs:sets[p]?=some s) (h:s < 2 ^ g.sorts.names.length):FilB g o sets p (p+1) ((List.replicate sets.length 0).set p s):=by
 have hp:=(Tad.1 hs).1;refine ⟨by simp,fun j hj=>?_⟩;by_cases e:j=p
 ·subst e;rw [Tbn (by simpa using hj),if_neg om,if_pos om];unfold cvN;rw [ZB3 hs h]
 ·rw [Tbo (Ne.symm e),Tbr,if_pos hj];by_cases h1:j < p
  ·rw [if_pos h1]
  ·rw [if_neg h1,if_neg om]
end
theorem ZBx {n i j i' j':Nat} (hj:j < n) (hj':j' < n) (h:i * n+j=i' * n+j'):i=i'∧j=j':=by
 have h1:(i * n+j) / n=i:=by rw [Nat.mul_comm,Nat.mul_add_div om,Nat.div_eq_of_lt hj,Nat.add_zero]
 have h2:(i' * n+j') / n=i':=by rw [Nat.mul_comm,Nat.mul_add_div om,Nat.div_eq_of_lt hj',Nat.add_zero]
 rw [h] at h1;have e:i=i':=by rw [<- h1,h2]
 subst e;exact ⟨rfl,om⟩
theorem ZpO {n i j:Nat} (hi:i < n) (hj:j < n):i * n+j < n * n:=by
 have:(i+1) * n<=n * n:=Nat.mul_le_mul_right n hi;rw [Nat.succ_mul] at this;omega
section
variable {g:Sgn}
def TabB (g:Sgn) (o:Opr) (sets:List Nat) (P:Nat->Nat->Prop) (T:List Nat):Prop:=T.length=sets.length * sets.length∧∀ i j,i<=j->j < sets.length->(P i j->T[i * sets.length+j]?=some (cvN g o sets i (j+1)))∧(¬ P i j->T[i * sets.length+j]?=some 0)
theorem TabB.start {o:Opr} {sets:List Nat} {P:Nat->Nat->Prop} (h:∀ i j,i<=j->¬ P i j):TabB g o sets P (List.replicate (sets.length * sets.length) 0):=⟨by simp,fun i j h1 h2=>⟨fun hp=>absurd hp (h i j h1),fun _=>by
 rw [Tbr,if_pos (ZpO om h2)]⟩⟩
theorem TabB.next {o:Opr} {sets:List Nat} {P P':Nat->Nat->Prop} {T:List Nat} (h:TabB g o sets P T) {i j:Nat} (hij:i<=j) (hj:j < sets.length) (h1:∀ i' j',i'<=j'->j' < sets.length->(P' i' j' ↔ P i' j'∨(i'=i∧j'=j))):TabB g o sets P' (T.set (i * sets.length+j) (cvN g o sets i (j+1))):=by
 refine ⟨by rw [Taz,h.1],fun i' j' q1 q2=>?_⟩;have hl:=ZpO (n:=sets.length) (i:=i) (j:=j) om hj;by_cases e:i'=i∧j'=j
 ·obtain ⟨rfl,rfl⟩:=e;exact ⟨fun _=>Tbn (by rw [h.1];exact hl),fun hn=>absurd ((h1 _ _ q1 q2).2 (.inr ⟨rfl,rfl⟩)) hn⟩
 ·have hne:i * sets.length+j≠i' * sets.length+j':=fun q=>e (by have:=ZBx hj q2 q;exact ⟨this.1.symm,this.2.symm⟩);rw [Tbo hne];have h2:=h.2 i' j' q1 q2;exact ⟨fun hp=>h2.1 (((h1 _ _ q1 q2).1 hp).resolve_right e),fun hn=>h2.2 fun hp=>hn ((h1 _ _ q1 q2).2 (.inl hp))⟩
theorem TabB.mono {o:Opr} {sets:List Nat} {P P':Nat->Nat->Prop} {T:List Nat} (h:TabB g o sets P T) (h1:∀ i j,i<=j->j < sets.length->(P' i j ↔ P i j)):TabB g o sets P' T:=⟨h.1,fun i j q1 q2=>by
 have h2:=h.2 i j q1 q2;rw [h1 i j q1 q2];exact h2⟩
theorem TabB.zero {o:Opr} {sets:List Nat} {P:Nat->Nat->Prop} {T:List Nat} (h:TabB g o sets P T) {i j:Nat} (hij:i<=j) (hj:j < sets.length) (hn:¬ P i j):T.set (i * sets.length+j) 0=T:=by
 have h1:=(h.2 i j hij hj).2 hn;have hl:=ZpO (n:=sets.length) (i:=i) (j:=j) om hj;refine List.ext_getElem? fun q=>?_;by_cases e:q=i * sets.length+j
 ·subst e;rw [Tbn (by rw [h.1];exact hl),h1]
 ·rw [Tbo (Ne.symm e)]
end
def putB:List Bd->Bd->List Bd
 | [],y=>[y]
 | x::l,y=>if Zah x.var y.var < 0 then x::putB l y else y::x::l
def srtB (l:List Bd):List Bd:=l.foldl putB []
def UpB (l:List Bd):Prop:=l.Pairwise fun x y=>Zah x.var y.var < 0
theorem ZxF (l:List Bd) (y:Bd):srtB (l++[y])=putB (srtB l) y:=by simp [srtB,List.foldl_append]
theorem ZsV {y:Bd}:∀ {l:List Bd} {i:Nat},i<=l.length->(∀ (j:Nat) x,j < i->l[j]?=some x->Zah x.var y.var < 0)->(∀ x,l[i]?=some x->¬ Zah x.var y.var < 0)->putB l y=l.take i++y::l.drop i
 | [],i,hi,_,_=>by simp at hi;subst hi;rfl
 | x::l,0,_,_,h2=>by simp [putB,h2 x rfl]
 | x::l,i+1,hi,h1,h2=>by
  have h0:=h1 0 x om rfl;simp only [putB,if_pos h0,Tbc,List.drop_succ_cons,Taf];rw [ZsV (by simpa using hi) (fun j z hj hz=>h1 (j+1) z om (by simpa using hz)) (fun z hz=>h2 z (by simpa using hz))]
theorem Zg3 (y:Bd):∀ l,(putB l y).Perm (y::l)
 | []=>.refl _
 | x::l=>by
  simp only [putB];split
  ·exact ((Zg3 y l).cons x).trans (.swap y x l)
  ·exact .refl _
theorem Zg4 (l:List Bd):(srtB l).Perm l:=by
 have:∀ (l m:List Bd),(l.foldl putB m).Perm (l++m):=fun l=>by
  induction l with
  | nil=>exact fun m=>.refl _
  | cons x l ih =>
   intro m;refine (ih (putB m x)).trans ?_;refine ((Zg3 x m).append_left l).trans ?_;simp
 simpa [srtB] using this l []
theorem ZsW {y:Bd}:∀ {l:List Bd},UpB l->(∀ x∈l,Zah x.var y.var≠0)->UpB (putB l y)
 | [],_,_=>by simp [putB,UpB]
 | x::l,h,hn=>by
  obtain ⟨h1,h2⟩:=List.pairwise_cons.1 h;simp only [putB];split
  ·next hlt =>
   refine List.pairwise_cons.2 ⟨fun z hz=>?_,ZsW h2 fun z hz=>hn z (Tal _ hz)⟩;rcases Tbg.1 ((Zg3 y l).mem_iff.1 hz) with rfl | hz
   ·exact hlt
   ·exact h1 z hz
  ·next hge =>
   have hx:=hn x Tas;have hyx:Zah y.var x.var < 0:=by rw [Zcc];omega
   refine List.pairwise_cons.2 ⟨fun z hz=>?_,h⟩;rcases Tbg.1 hz with rfl | hz
   ·exact hyx
   ·exact ZdD hyx (h1 z hz)
def Zih (l:List Bd):Prop:=l.Pairwise fun x y=>Zah x.var y.var≠0
theorem ZBy {l:List Bd} (h:Zih l):UpB (srtB l):=by
 have:∀ (l m:List Bd),UpB m->Zih l->(∀ x∈m,∀ y∈l,Zah x.var y.var≠0)->UpB (l.foldl putB m):=fun l=>by
  induction l with
  | nil=>exact fun m h _ _=>h
  | cons x l ih =>
   intro m hm hd hx;obtain ⟨d1,d2⟩:=List.pairwise_cons.1 hd;refine ih _ (ZsW hm fun z hz=>hx z hz x Tas) d2 fun z hz y hy=>?_;rcases Tbg.1 ((Zg3 x m).mem_iff.1 hz) with rfl | hz
   ·exact d1 y hy
   ·exact hx z hz y (Tal _ hy)
 exact this l [] List.Pairwise.nil h (fun x hx=>by cases hx)
section
variable {g:Sgn}
theorem SbsOk.up {l:List Bd} (h:SbsOk g l):UpB l:=by
 refine List.pairwise_iff_getElem.2 fun i j hi hj hij=>?_;have key:∀ (n:Nat) (i:Nat) (hi:i+(n+1) < l.length),Zah (l[i]'om).var (l[i+(n+1)]).var < 0:=fun n=>by
  induction n with
  | zero=>exact fun i hi=>(h.at' (i+1) _ (Taa hi)).ord i _ rfl (Taa om)
  | succ n ih=>exact fun i hi=>ZdD (ih i om) ((h.at' (i+(n+1+1)) _ (Taa hi)).ord (i+(n+1)) _ rfl (Taa om))
 have:=key (j - i - 1) i om;have e:i+(j - i - 1+1)=j:=om;simpa only [e] using this
end
def dig (n:Nat):ByteArray:=ZhD (IntKind.u8.wrap (IntKind.i64.wrap (48+(n:Int).tmod 10)))
def txtL (n:Nat) (acc:ByteArray):ByteArray:=if h:n=0 then acc else txtL (n / 10) (dig n++acc)
termination_by n
decreasing_by omega
def txt (k:Int):ByteArray:=if k<=0 then ⟨#[109,48]⟩ else ⟨#[109]⟩++txtL k.toNat ByteArray.empty
theorem Zl6 (acc:ByteArray):txtL 0 acc=acc:=by rw [txtL];simp
theorem Zl7 {n:Nat} (h:n≠0) (acc:ByteArray):txtL n acc=txtL (n / 10) (dig n++acc):=by rw [txtL];simp [h]
theorem Zil (n:Nat):(dig n).size=1:=rfl
theorem ZcF (k:Int) (hk:k<=1000000000) (hk0:0<=k):Con e0 78 [.one (.lit (.int .i64 k))] [.one (.lit (.string (txt k)))]:=by
 by_cases h0:k<=0
 ·have h:txt k=⟨#[109,48]⟩:=by unfold txt;rw [if_pos h0]
  have q1:(k<=0)=True:=eq_true h0;rw [h];refine gI (ts:=[.slot 2]) 173 Tryz.func78 ?_;exact fD @q1
 ·have h:txt k=⟨#[109]⟩++txtL k.toNat ByteArray.empty:=by unfold txt;rw [if_neg h0]
  have q1:(k<=0)=False:=eq_false h0;rw [h];obtain ⟨n,rfl⟩:∃ n:Nat,k=n:=⟨k.toNat,om⟩;rw [Tbx];refine gI (ts:=[.slot 2]) 173 Tryz.func78 ?_;refine fG @q1 ?_;have F:=@q1;refine gL (ι:=Nat × ByteArray) [0,3,7] [] (fun x=>[(0,.d (.one (.lit (.int .i64 (x.1:Int))))),(3,.d (.one (.lit (.string x.2))))]) (fun x=>[]) (fun x=>txtL n ByteArray.empty=txtL x.1 x.2∧x.2.size+x.1<=n) (fun x=>x.1) ((n,⟨#[]⟩)) (⟨rfl,by show 0+n<=n;omega⟩) (fun x hx=>?_);clear F
  obtain ⟨j,acc⟩:=x;obtain ⟨h1,h2⟩:=hx;simp only at h1 h2;rw [h1];clear h1;by_cases hj:j=0
  ·subst hj;have q2:(((0:Nat):Int) > 0)=False:=eq_false om;rw [Zl6];have q5:((ByteArray.mk #[109]).size+acc.size<=9223372036854775807)=True:=eq_true (by show 1+acc.size<=_;omega);exact fD (ai @q2 @q5)
  ·have q2:((j:Int) > 0)=True:=eq_true om;rw [Zl7 hj];have q3:IntKind.i64.wrap ((j:Int).tdiv 10)=((j / 10:Nat):Int):=by rw [show (j:Int).tdiv 10=((j / 10:Nat):Int) from by rw [Int.ofNat_tdiv];rfl];exact IntWalk.i64_in _ om
   refine fN 5 @q2 ?_;refine gB ?_;have F:=@q2;refine gP 5 ?_;clear F;refine gY ?_;have q5:((dig j).size+acc.size<=9223372036854775807)=True:=eq_true (by rw [Zil];omega);change Runs _ _ _ _ ⟨(13,.d (.one (.lit (.string (dig j)))))::_,_⟩ _;refine fR (ai @q2 @q5) ?_;have hd:=Zil j;have F:=ai @q2 @q3;refine gG ?_;exact ⟨(j / 10,dig j++acc),⟨rfl,by rw [ByteArray.size_append,hd];omega⟩,gw,gw,om⟩
theorem ZmS {M:List Tm} {k:Nat} {x:Tm} (h:M[k]?=some x):M.take k++[x]=M.take (k+1):=(Zcj h).symm
theorem ZpV (P M Q:List Tm) {A B N:Nat} (hA:A=P.length) (hB:B=P.length+M.length) (hN:N=P.length+M.length+Q.length) (hmx:N<=4000000) (a:Option Addr) (cap:Nat) :
  ConP e0 161 [.one (.lit (.slice a N cap)),.one (.lit (.int .i64 A)),.one (.lit (.int .i64 B)),.one (.fn 137 [])] [.buf (some (a,cap)) 39 4 (Zaa (P++M++Q))] (RBuf a cap (P++Zaw M++Q)):=by
 have wA:=Zau (k:=A) om;obtain ⟨A1,hA1⟩:∃ A1,A1=A+1:=⟨_,rfl⟩;rw [<- hA1] at wA;have h0:P++M++Q=P++Zaw (M.take (A1 - A))++(M.drop (A1 - A)++Q):=by
  have:Zaw (M.take 1)=M.take 1:=Zet (by cases M with | nil=>exact List.Pairwise.nil | cons x M=>simp only [Tbc,List.take_zero];exact List.pairwise_singleton _ _);rw [hA1,Nat.add_sub_cancel_left,this];simp only [Tbf];rw [<- Tbf (M.take 1),Tbm]
 refine gIP (ts:=[]) [1000] 17179886351 Tryz.func161 ?_;refine fG (ai @wA @tmz) ?_;have F:=@tmz;refine gL (ι:=Nat × List Tm) [8,9,14,34] [1000] (fun x=>[(8,.d (.one (.lit (.int .i64 (x.1:Int)))))]) (fun x=>[(1000,.buf (some (a,cap)) 39 4 (Zaa x.2))]) (fun x=>A1<=x.1∧(x.1<=B∨x.1=A1)∧x.2=P++Zaw (M.take (x.1 - A))++(M.drop (x.1 - A)++Q)) (fun x=>B+1 - x.1) ((A1,P++M++Q)) (⟨Tai _,.inr rfl,h0⟩) (fun x hx=>?_);clear F
 obtain ⟨i,us⟩:=x;obtain ⟨hi1,hi2,hus⟩:=hx;simp only at hi1 hi2 hus;dsimp only;by_cases hlt:i < B;rotate_left
 ·have q1:=lF i B;have e1:M.take (i - A)=M:=List.take_of_length_le om;have e2:M.drop (i - A)=[]:=List.drop_of_length_le om;rw [e1,e2,Tah] at hus;subst hus;refine fG (ai @q1 @tmz) ?_
  first | exact (have F:=@e0P;gTPe (R:=RBuf a cap (P++Zaw M++Q)) [1000] ⟨rfl,rfl⟩) | exact (have F:=@e0P;gTP (R:=RBuf a cap (P++Zaw M++Q)) [1000] ⟨rfl,rfl⟩)
 have q1:=lT i B;obtain ⟨k,hk⟩:∃ k,k=i - A:=⟨_,rfl⟩;rw [<- hk] at hus;obtain ⟨x,hx⟩:∃ t,M[k]?=some t:=⟨_,Taa om⟩;have hL:(Zaw (M.take k)).length=k:=by rw [ZcY,Taw];omega
 rw [ZdE hx] at hus;have wi:=Zau (k:=i) om;have hR:(M.drop (k+1)++Q).length+i+1=N:=by rw [Tae,Tax];omega
 have hnext:∀ M1 M2,M1++M2=Zaw (M.take k)->(∀ y∈M2,Zah x y<=0)->(∀ y,M1.getLast?=some y->Zah y x<=0)->P++M1++x::(M2++(M.drop (k+1)++Q))=P++Zaw (M.take (i+1 - A))++(M.drop (i+1 - A)++Q):=fun M1 M2 e h2 h1=>by
  have:=Zpz e h2 h1;rw [ZmS hx] at this;rw [show i+1 - A=k+1 by omega,<- this];simp
 obtain ⟨T,hT⟩:∃ T,T=P++Zaw (M.take (i+1 - A))++(M.drop (i+1 - A)++Q):=⟨_,rfl⟩;rw [<- hT] at hnext;refine fG (ai @q1 @tmz) ?_;have F:=@tmz;refine gL (ι:=Nat × List Tm) [9,34] [1000] (fun z=>[(9,.d (.one (.lit (.int .i64 (z.1:Int)))))]) (fun z=>[(1000,.buf (some (a,cap)) 39 4 (Zaa z.2))]) (fun z=>∃ M1 M2,z.2=P++M1++x::(M2++(M.drop (k+1)++Q))∧z.1=A+M1.length∧M1++M2=Zaw (M.take k)∧∀ y∈M2,Zah x y<=0) (fun z=>z.1) ((i,us)) (⟨Zaw (M.take k),[],by rw [hus];simp,by rw [hL];omega,List.append_nil _,fun y h=>by simp at h⟩) (fun z hz=>?_);clear F
 obtain ⟨j,vs⟩:=z;obtain ⟨M1,M2,hvs,hj,he,h2⟩:=hz;simp only at hvs hj;dsimp only;have hml:M1.length+M2.length=k:=by rw [<- Tae,he,hL]
 have hvl:vs.length=N:=by rw [hvs];simp only [Tae,Tag] at hR ⊢;omega
 rcases List.eq_nil_or_concat M1 with h1 | ⟨M0,y,h1⟩
 ·subst h1;have hn:=hnext [] M2 he h2 (fun y h=>by simp at h);obtain rfl:j=A:=by simpa using hj
  have q2:=lF j j;rw [hn] at hvs;subst hvs;refine fG (ai @q2 @tmz) ?_;have F:=@wi;refine gG ?_;exact ⟨(i+1,vs),⟨om,.inl hlt,hT⟩,gw,gw,om⟩
 ·rw [List.concat_eq_append] at h1;subst h1;simp only [Tae,Tag,Tak] at hj hml;obtain ⟨p,hp⟩:∃ p,p=A+M0.length:=⟨_,rfl⟩;have hjp:j=p+1:=om;have q2:=lT A j;have w1:IntKind.i64.wrap ((j:Int) - 1)=(p:Int):=Za4 om om om;have hPl:(P++M0).length=p:=by rw [Tae];omega
  have hvs2:vs=(P++M0)++y::x::(M2++(M.drop (k+1)++Q)):=by rw [hvs];simp
  have g1:vs[p]?=some y:=by rw [hvs2];exact ZhB hPl
  have g2:vs[j]?=some x:=by rw [hvs2,hjp];exact ZmN hPl
  have l1:p < N:=om;have l2:j < N:=om;refine fB (ai @q2 @tmz) ?_;refine fC (aj9 @q2 @tmz @g1 @g2 @w1 @l1 @l2 @hvl @Zad) (ZjM (ZeH x y)) ?_;by_cases hc:Zah x y < 0
  ·have z1:(Zah x y < 0)=True:=eq_true hc;obtain ⟨U,hU⟩:∃ U,U=(P++M0)++x::y::(M2++(M.drop (k+1)++Q)):=⟨_,rfl⟩;have g3:(vs.set j y).set p x=U:=by rw [hU,hvs2,hjp];exact ZsS hPl
   have hls:∀ q (t:Tm),(vs.set q t).length=N:=fun q t=>by rw [Taz,hvl]
   refine fR (aj3 @z1 @q2 @tmz) ?_;have hM2:∀ u∈y::M2,Zah x u<=0:=fun u hu=>by
    rcases Tbg.1 hu with rfl | hu
    ·omega
    ·exact h2 u hu
   obtain ⟨z,g4⟩:∃ z,(vs.set j y)[p]?=some z:=⟨_,Taa (by rw [Taz];omega)⟩;refine fN 6 (ai @z1 @tmz) ?_;refine gF0 ?_;refine gFm 0 ?_;refine gFm 1 ?_;refine gFm 2 ?_;refine gFm 3 ?_;refine (have F:=(aj11 w1 l1 l2 hvl g1 g2 g4 hls @Zad @Zas tmz);gFb 4 ?_);refine gFm 5 ?_;refine gFm 6 ?_;refine (have F:=(aj11 w1 l1 l2 hvl g1 g2 g4 hls @Zad @Zas tmz);gFb 7 ?_);refine (have F:=(aj11 w1 l1 l2 hvl g1 g2 g4 hls @Zad @Zas tmz);gFi (rows:=Zaa vs) 8 p (by rw [Zad];omega) ?_)
   refine gFm 10 ?_;refine gFm 11 ?_;refine (have F:=(aj11 w1 l1 l2 hvl g1 g2 g4 hls @Zad @Zas tmz);gFi (rows:=Zaa vs) 12 j (by rw [Zad];omega) ?_);refine gFT ?_;refine gO2 9 13 ?_ ?_
   ·refine (have F:=(aj11 w1 l1 l2 hvl g1 g2 g4 hls @Zad @Zas tmz);gO3 ?_);refine gO1 13 ?_;refine (have F:=(aj11 w1 l1 l2 hvl g1 g2 g4 hls @Zad @Zas tmz);gO3 ?_);refine gO1 14 ?_;refine (have F:=(aj11 w1 l1 l2 hvl g1 g2 g4 hls @Zad @Zas tmz);gO3 ?_);refine gO1 15 ?_;refine (have F:=(aj11 w1 l1 l2 hvl g1 g2 g4 hls @Zad @Zas tmz);gO3 ?_);refine gO1 16 ?_;refine (have F:=(aj11 w1 l1 l2 hvl g1 g2 g4 hls @Zad @Zas tmz);gO3 ?_)
    refine gO1 17 ?_;refine (have F:=(aj11 w1 l1 l2 hvl g1 g2 g4 hls @Zad @Zas tmz);gO3 ?_);refine (have F:=tmz;gT0 ?_);refine Exists.intro _ (ai (Wk.refl _) ?_);rw [g3];have F:=@w1;refine gG ?_;exact ⟨(p,U),⟨M0,y::M2,by rw [hU];simp,hp,by rw [<- he];simp,hM2⟩,gw,gw,om⟩
   ·refine (have F:=(aj11 w1 l1 l2 hvl g1 g2 g4 hls @Zad @Zas tmz);gO3 ?_);refine gO1 9 ?_;refine (have F:=(aj11 w1 l1 l2 hvl g1 g2 g4 hls @Zad @Zas tmz);gO3 ?_);refine gO1 14 ?_;refine (have F:=(aj11 w1 l1 l2 hvl g1 g2 g4 hls @Zad @Zas tmz);gO3 ?_);refine gO1 15 ?_;refine (have F:=(aj11 w1 l1 l2 hvl g1 g2 g4 hls @Zad @Zas tmz);gO3 ?_);refine gO1 16 ?_;refine (have F:=(aj11 w1 l1 l2 hvl g1 g2 g4 hls @Zad @Zas tmz);gO3 ?_)
    refine gO1 17 ?_;refine (have F:=(aj11 w1 l1 l2 hvl g1 g2 g4 hls @Zad @Zas tmz);gO3 ?_);refine (have F:=tmz;gT0 ?_);refine Exists.intro _ (ai (Wk.refl _) ?_);rw [g3];have F:=@w1;refine gG ?_;exact ⟨(p,U),⟨M0,y::M2,by rw [hU];simp,hp,by rw [<- he];simp,hM2⟩,gw,gw,om⟩
  ·have z1:(Zah x y < 0)=False:=eq_false hc;have hn:=hnext (M0++[y]) M2 he h2 (fun u h=>by
    simp only [List.getLast?_append,List.getLast?_singleton,Option.some_or,Taq] at h;subst h;exact Zoz hc)
   rw [hn] at hvs;subst hvs;refine fR (aj3 @z1 @q2 @tmz) ?_;refine fG (ai @z1 @tmz) ?_;have F:=@wi;refine gG ?_;exact ⟨(i+1,vs),⟨om,.inl hlt,hT⟩,gw,gw,om⟩
end Go.Proofs.YtjoaefnnnbpflaaGreatDoor
