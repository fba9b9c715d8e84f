/-
  Part of a proof.
-/
import Derived.Test.YtkigoajepohkaaaGreatDoorBReferenceMatchesCardSaid0
import Derived.Test.YtkigoajepohkaaaGreatDoorBReferenceMatchesCardSaid1
set_option linter.unusedSimpArgs false
set_option linter.unusedVariables false
set_option maxHeartbeats 400000000
set_option maxRecDepth 100000
namespace Go.Proofs.YtkigoajepohkaaaGreatDoor
open Go.RowKit
def ZdT (l:List ByteArray):List (ByteArray × Value):=l.map fun x=>(x,.bool true)
theorem ZmO (l:List ByteArray) (s:ByteArray):ZbW (ZdT l) s=if Zbx l s then some (.bool true) else none:=by
 induction l with
 | nil=>rfl
 | cons x xs ih =>
  simp only [ZbW,ZdT,Zbx,Tbv,List.any_cons] at ih ⊢;by_cases h:(s.toList==x.toList)=true
  ·rw [List.find?_cons_of_pos (by exact h)];simp [h]
  ·rw [List.find?_cons_of_neg (by exact h),ih];simp [h]
theorem ZvG {l:List ByteArray} {i:Nat} {x:ByteArray} (h:l[i]?=some x):ZdT (l.take i)++[(x,.bool true)]=ZdT (l.take (i+1)):=by
 rw [List.take_add_one,h,ZdT,ZdT,Tbw];rfl
theorem Zhb:∀ x,Zdz x=[.lit (.string x)]:=fun _=>rfl
theorem ZgP:e0.P.underlying 154=some (.map 9 4):=by kernel_rfl
theorem Zef:e0.P.underlying 9=some .string:=by kernel_rfl
theorem ZkH:∀ w,(zeroValue 4).run e0.P w=.ok (.bool false) w:=fun w=>by kernel_rfl
theorem ZEq:ZdT []=[]∧∀ l:List ByteArray,ZdT (l.take 0)=[]:=⟨rfl,fun _=>rfl⟩
section
variable {s:Srt}
theorem Zjm (hok:ZmF s):Con e0 122 [.agg (Zbo s)] [.one (.lit (.bool (Zcf s)))]:=by
 have hno:¬ SortsOk s->Zcf s=false:=Zgs;have cU:=fun h1 h2 h3 h4=>Zjl (s:=s) h1 h2 h3 h4;have hrs:=ZjN s.names;rw [Zbo] at cU ⊢;refine gI 41538379337072913235836183427157855 Tryz.func122 ?_;by_cases h1:1<=s.names.length;rotate_left
 ·have hf:=hno fun h=>h1 h.n1;have z1:=lT s.names.length 1;exact fT (ai @z1 @hf)
 have z1:=lF s.names.length 1;by_cases h8:s.names.length<=8;rotate_left
 ·have hf:=hno fun h=>h8 h.n8;have z2:=lT 8 s.names.length;exact fT (aj3 @z1 @z2 @hf)
 have z2:=lF 8 s.names.length;by_cases h16:s.subs.length<=16;rotate_left
 ·have hf:=hno fun h=>h16 h.m16;have z3:=lT 16 s.subs.length;exact fT (aj4 @z1 @z2 @z3 @hf)
 have z3:=lF 16 s.subs.length;refine fN 4 (aj3 @z1 @z2 @z3) ?_;refine gB ?_;refine gMk fun b=>?_;refine fR @e0P ?_;refine fG @e0P ?_;have F:=@ZEq;refine gL (ι:=Nat) [2,6,31,32,42] [27] (fun i=>[(31,A.d (.one (.lit (.int .i64 i))))]) (fun i=>[(27,mapB b (ZdT (s.names.take i)))]) (fun i=>i<=s.names.length∧∀ j,j < i->ZjT s.names j) (fun i=>s.names.length - i) (0) (⟨Taj _,fun j h=>absurd h om⟩) (fun i hi=>?_);clear F
 obtain ⟨hil,hall⟩:=hi;by_cases hlt:i < s.names.length
 ·have q1:(i:Int) < (s.names.length:Int):=om;obtain ⟨x,hx⟩:∃ x,s.names[i]?=some x:=⟨_,Taa hlt⟩;have hw:=Zau (k:=i) om;have hfs:=ZmO (s.names.take i) x;have hbad:¬ (ZbF x=true∧Zbx (s.names.take i) x=false)->Zcf s=false:=fun h=>hno fun hs=>h (hs.names i hlt x hx);have cN:=Zg8 (hok.1 x (Tac hx));refine fN 8 (aj3 @q1 @hx @Zhb) ?_;refine gB ?_;have F:=@e0P;refine gP 2 ?_;clear F
  cases hh:Zbx (s.names.take i) x with
  | true =>
   rw [hh] at hfs hbad;have hf:=hbad fun h=>by cases h.2
   refine (have F:=e0P;gLk 27 ZgP Zef ZkH (v:=.bool true) (by rw [hfs];rfl) ?_);refine fR @e0P ?_;exact fT @hf
  | false =>
  rw [hh] at hfs hbad;refine (have F:=e0P;gLk 27 ZgP Zef ZkH (v:=.bool false) (by rw [hfs];rfl) ?_);refine fC @e0P (cN) ?_
  cases hn:ZbF x with
  | false =>
   have hf:=hbad fun h=>by rw [hn] at h;cases h.1
   refine fR @e0P ?_;exact fT @hf
  | true =>
  have hq:i+1<=s.names.length∧∀ j,j < i+1->ZjT s.names j:=⟨hlt,fun j hj=>by
   by_cases e:j=i
   ·subst e;intro y hy;rw [hx] at hy;injection hy with hy
    subst hy;exact ⟨hn,hh⟩
   ·exact hall j om⟩
  have hsn:=ZvG hx;refine fR @e0P ?_;refine fN 10 @e0P ?_;refine gB ?_;have F:=@e0P;refine gP 2 ?_;clear F;refine (have F:=e0P;gUp 27 ZgP Zef (by rw [hfs];rfl) ?_);rw [hsn];refine fR @e0P ?_;have F:=@hw;refine gG ?_;exact ⟨i+1,hq,gw,gw,om⟩
 obtain rfl:i=s.names.length:=by omega
 have q1:¬ ((s.names.length:Int) < (s.names.length:Int)):=om;refine fG @q1 ?_;have F:=@e0P;refine gL (ι:=Nat) [2,8,49,50,79] [] (fun k=>[(49,A.d (.one (.lit (.int .i64 k))))]) (fun k=>[]) (fun k=>k<=s.subs.length∧∀ (j:Nat) p,j < k->s.subs[j]?=some p->ZfY s.names.length p) (fun k=>s.subs.length - k) (0) (⟨Taj _,fun j p h=>absurd h om⟩) (fun k hk=>?_);clear F;obtain ⟨hkl,hsub⟩:=hk;by_cases hlk:k < s.subs.length
 ·have q2:(k:Int) < (s.subs.length:Int):=om;obtain ⟨p,hp⟩:∃ x,s.subs[k]?=some x:=⟨_,Taa hlk⟩;have hw:=Zau (k:=k) om;have hbad:¬ ZfY s.names.length p->Zcf s=false:=fun h=>hno fun hs=>h (hs.subs p (Tac hp));by_cases c1:p.1 < 0
  ·have hf:=hbad fun h=>by have:=h.1;omega
   exact fT (aj5 @q2 @hp @Zcv @c1 @hf)
  by_cases c2:(s.names.length:Int)<=p.1
  ·have hf:=hbad fun h=>by have:=h.2.1;omega
   exact fT (aj6 @q2 @hp @Zcv @c1 @c2 @hf)
  by_cases c3:p.2 < 0
  ·have hf:=hbad fun h=>by have:=h.2.2.1;omega
   exact fT (aj7 @q2 @hp @Zcv @c1 @c2 @c3 @hf)
  by_cases c4:(s.names.length:Int)<=p.2
  ·have hf:=hbad fun h=>by have:=h.2.2.2.1;omega
   exact fT (aj8 @q2 @hp @Zcv @c1 @c2 @c3 @c4 @hf)
  by_cases c5:p.1=p.2
  ·have hf:=hbad fun h=>h.2.2.2.2 c5;have c5:(p.1=p.2)=True:=eq_true c5;exact fT (aj9 @q2 @hp @Zcv @c1 @c2 @c3 @c4 @c5 @hf)
  have hq:k+1<=s.subs.length∧∀ (j:Nat) p,j < k+1->s.subs[j]?=some p->ZfY s.names.length p:=⟨hlk,fun j p' hj hp'=>by
   by_cases e:j=k
   ·subst e;rw [hp] at hp';injection hp' with hp'
    subst hp';exact ⟨om,om,om,om,c5⟩
   ·exact hsub j p' om hp'⟩
  have F:=aj9 @q2 @hp @Zcv @c1 @c2 @c3 @c4 @c5 @hw;refine gG ?_;exact ⟨k+1,hq,gw,gw,om⟩
 obtain rfl:k=s.subs.length:=by omega
 have q2:¬ ((s.subs.length:Int) < (s.subs.length:Int)):=om;have hsubs:∀ p∈s.subs,ZfY s.names.length p:=fun p hp=>by obtain ⟨j,hj⟩:=Tbk hp;exact hsub j p (Tad.1 hj).1 hj
 have hSI:=SortsOk.subsIn hsubs;have hU:=ZfX hSI;have hyes:(∀ i k,i < s.names.length->k < s.names.length->Zdm (up s) i k)->Zcf s=true:=fun h=>Zfo ⟨h1,h8,h16,fun i hi=>hall i hi,hsubs,h⟩;have hno2:∀ i k,i < s.names.length->k < s.names.length->¬ Zdm (up s) i k->Zcf s=false:=fun i k h1 h2 h3=>hno fun h=>h3 (h.pairs i k h1 h2);have lU:=ZaT (l:=up s);rw [hU.1] at lU;have rU:=ZaP (l:=up s);refine fB @q2 ?_
 refine fC @e0P (cU h1 h8 h16 hSI) ?_;refine fR @e0P ?_;generalize up s=u at hU hyes hno2 lU rU ⊢;have hpw:∀ i,i < s.names.length->u[i]?=some (u.getD i 0)∧u.getD i 0 < 4611686018427387904:=fun i hi=>by
  obtain ⟨g1,g2⟩:=hU.get hi;exact ⟨g1,Nat.lt_trans g2 (Zg6 om)⟩
 refine fG @lU ?_;have F:=@e0P;refine gL (ι:=Nat) [2,10,11,85,86,89,90,91,115] [] (fun i=>[(85,A.d (.one (.lit (.int .i64 i))))]) (fun i=>[]) (fun i=>i<=s.names.length∧∀ i' k,i' < i->k < s.names.length->Zdm u i' k) (fun i=>s.names.length - i) (0) (⟨Taj _,fun i' k h=>absurd h om⟩) (fun i hi=>?_);clear F;obtain ⟨hil,hpi⟩:=hi;by_cases hlt:i < s.names.length;rotate_left
 ·have q3:¬ ((i:Int) < (s.names.length:Int)):=om;have ht:=hyes fun i' k h1 h2=>hpi i' k om h2;exact fT (ai @q3 @ht)
 have q3:(i:Int) < (s.names.length:Int):=om;have hwi:=Zau (k:=i) om;obtain ⟨gi,bi⟩:=hpw i hlt;refine fG (ai @q3 @lU) ?_;have F:=@e0P;refine gL (ι:=Nat) [2,11,90,91,115] [] (fun k=>[(90,A.d (.one (.lit (.int .i64 k))))]) (fun k=>[]) (fun k=>k<=s.names.length∧∀ k',k' < k->Zdm u i k') (fun k=>s.names.length - k) (0) (⟨Taj _,fun k h=>absurd h om⟩) (fun k hk=>?_);clear F;obtain ⟨hkl,hpk⟩:=hk;have hwk:=Zau (k:=k) om
 by_cases hlk:k < s.names.length;rotate_left
 ·have q4:¬ ((k:Int) < (s.names.length:Int)):=om;have hq:i+1<=s.names.length∧∀ i' k,i' < i+1->k < s.names.length->Zdm u i' k:=⟨hlt,fun i' k' h h2=>by
   by_cases e:i'=i
   ·subst e;exact hpk k' om
   ·exact hpi i' k' om h2⟩
  have F:=ai @q4 @hwi;refine gG ?_;exact ⟨i+1,hq,gw,gw,om⟩
 have q4:(k:Int) < (s.names.length:Int):=om;obtain ⟨gk,bk⟩:=hpw k hlk;have nx:Zdm u i k->k+1<=s.names.length∧∀ k',k' < k+1->Zdm u i k':=fun h=>⟨hlk,fun k' h2=>by
  by_cases e:k'=k
  ·subst e;exact h
  ·exact hpk k' om⟩
 have si:=Zfq (k:=i) om;have sk:=Zfq (k:=k) om;have a1:=ZkG (x:=u.getD i 0) (k:=k) bi om;have a2:=ZkG (x:=u.getD k 0) (k:=i) bk om;have r1:=ZaR gi;have r2:=ZaR gk;by_cases hik:i=k
 ·have z4:((i:Int)=(k:Int))=True:=eq_true om;have hq:=nx fun h=>h.1 hik;have F:=aj3 @q4 @z4 @hwk;refine gG ?_;exact ⟨k+1,hq,gw,gw,om⟩
 have z4:((i:Int)=(k:Int))=False:=eq_false om
 cases b1:tbit (u.getD i 0) k with
 | false =>
  rw [b1] at a1;have hq:=nx fun h=>by have:=h.2.1;rw [show (u.getD i 0).testBit k=false from b1] at this;cases this
  have F:=aj8 @q4 @z4 @sk @a1 @r1 @rU @Zap @hwk;refine gG ?_;exact ⟨k+1,hq,gw,gw,om⟩
 | true =>
 rw [b1] at a1
 cases b2:tbit (u.getD k 0) i with
 | false =>
  rw [b2] at a2;have hq:=nx fun h=>by have:=h.2.2;rw [show (u.getD k 0).testBit i=false from b2] at this;cases this
  have F:=aj11 @q4 @z4 @sk @si @a1 @a2 @r1 @r2 @rU @Zap @hwk;refine gG ?_;exact ⟨k+1,hq,gw,gw,om⟩
 | true =>
  rw [b2] at a2;have hf:=hno2 i k hlt hlk fun h=>h ⟨hik,b1,b2⟩;exact fT (aj11 @q4 @z4 @sk @si @a1 @a2 @r1 @r2 @rU @Zap @hf)
end
theorem Zez (x lo hi:Int):Con e0 156 [.one (.lit (.int .i64 x)),.one (.lit (.int .i64 lo)),.one (.lit (.int .i64 hi))] [.one (.lit (.bool (decide (lo<=x∧x<=hi))))]:=by
 refine gI 71 Tryz.func156 ?_;by_cases h1:lo<=x
 ·by_cases h2:x<=hi
  ·exact fT (ai @h1 @h2)
  ·exact fT (ai @h1 @h2)
 ·exact fT @h1
theorem Zzy {l:List ByteArray} (s:ByteArray) (hl:l.length<=1048576):Con e0 155 [.one (.sl (l.map Zdz)),.one (.lit (.string s))] [.one (.lit (.bool (Zbx l s)))]:=by
 have hr:=ZjN l;refine gI 131635 Tryz.func155 ?_;refine fG @e0P ?_;have F:=@e0P;refine gL (ι:=Nat) [4,5,9,17] [] (fun i=>[(5,A.d (.one (.lit (.int .i64 i))))]) (fun i=>[]) (fun i=>i<=l.length∧Zbx l s=Zbx (l.drop i) s) (fun i=>l.length - i) (0) (⟨Taj _,rfl⟩) (fun i hi=>?_);clear F;obtain ⟨hil,he⟩:=hi;rw [he];by_cases hlt:i < l.length;rotate_left
 ·have q1:¬ ((i:Int) < (l.length:Int)):=om;have ht:Zbx (l.drop i) s=false:=by rw [List.drop_eq_nil_of_le om];rfl
  exact fT (ai @q1 @ht)
 have q1:(i:Int) < (l.length:Int):=om;obtain ⟨x,hx⟩:∃ x,l[i]?=some x:=⟨_,Taa hlt⟩;have hw:=Zau (k:=i) om;have hst:=Zst (s:=s) hx
 cases hb:(x.toList==s.toList) with
 | true =>
  have ht:Zbx (l.drop i) s=true:=by rw [hst,hb];rfl
  exact fT (aj6 @q1 @hr @hx @Zhb @hb @ht)
 | false =>
  have hq:Zbx (l.drop i) s=Zbx (l.drop (i+1)) s:=by rw [hst,hb,Bool.false_or]
  have F:=aj6 @q1 @hr @hx @Zhb @hb @hw;refine gG ?_;exact ⟨i+1,⟨hlt,hq⟩,gw,gw,om⟩
section
variable {s:Srt}
theorem Zpw (hok:ZmF s):Con e0 99 [.agg (Zbo s)] [.one (.lit (.bool (Zcf s)))]:=by
 have hno:¬ SortsOk s->Zcf s=false:=Zgs;have cU:=fun h2 h3 h4=>Zha (s:=s) h2 h3 h4;have hrs:=ZjN s.names;rw [Zbo] at cU ⊢;refine gI 21267982750773439247570160629959360767 Tryz.func99 ?_;by_cases h1:1<=s.names.length;rotate_left
 ·have hf:=hno fun h=>h1 h.n1;have z1:=lT s.names.length 1;exact fT (ai @z1 @hf)
 have z1:=lF s.names.length 1;by_cases h8:s.names.length<=8;rotate_left
 ·have hf:=hno fun h=>h8 h.n8;have z2:=lT 8 s.names.length;exact fT (aj3 @z1 @z2 @hf)
 have z2:=lF 8 s.names.length;by_cases h16:s.subs.length<=16;rotate_left
 ·have hf:=hno fun h=>h16 h.m16;have z3:=lT 16 s.subs.length;exact fT (aj4 @z1 @z2 @z3 @hf)
 have z3:=lF 16 s.subs.length;have hw1n:IntKind.i64.wrap ((s.names.length:Int) - 1)=(s.names.length:Int) - 1:=IntWalk.i64_in _ om;refine fG (aj3 @z1 @z2 @z3) ?_;have F:=@e0P;refine gL (ι:=Nat) [2,3,28,49] [] (fun i=>[(3,A.d (.one (.lit (.int .i64 i))))]) (fun i=>[]) (fun i=>i<=s.names.length∧∀ j,j < i->ZjT s.names j) (fun i=>s.names.length - i) (0) (⟨Taj _,fun j h=>absurd h om⟩) (fun i hi=>?_);clear F
 obtain ⟨hil,hall⟩:=hi;by_cases hlt:i < s.names.length
 ·have q1:(i:Int) < (s.names.length:Int):=om;obtain ⟨x,hx⟩:∃ x,s.names[i]?=some x:=⟨_,Taa hlt⟩;have hw:=Zau (k:=i) om;have hbad:¬ (ZbF x=true∧Zbx (s.names.take i) x=false)->Zcf s=false:=fun h=>hno fun hs=>h (hs.names i hlt x hx);have cN:=Zg9 (hok.1 x (Tac hx));have cH:=Zzy (l:=s.names.take i) x (by rw [Taw];omega);rw [List.map_take] at cH;have z4:((i:Int)<=(s.names.length:Int))=True:=eq_true om;refine fB @q1 ?_
  refine fC (aj3 @hrs @hx @Zhb) (cN) ?_
  cases hn:ZbF x with
  | false =>
   have hf:=hbad fun h=>by rw [hn] at h;cases h.1
   refine fR @e0P ?_;exact fT @hf
  | true =>
  refine fC (aj5 @hrs @hx @Zhb @z4 @Zap) (cH) ?_
  cases hh:Zbx (s.names.take i) x with
  | true =>
   have hf:=hbad fun h=>by rw [hh] at h;cases h.2
   refine fR @e0P ?_;exact fT @hf
  | false =>
  have hq:i+1<=s.names.length∧∀ j,j < i+1->ZjT s.names j:=⟨hlt,fun j hj=>by
   by_cases e:j=i
   ·subst e;intro y hy;rw [hx] at hy;injection hy with hy
    subst hy;exact ⟨hn,hh⟩
   ·exact hall j om⟩
  refine fR @e0P ?_;have F:=@hw;refine gG ?_;exact ⟨i+1,hq,gw,gw,om⟩
 obtain rfl:i=s.names.length:=by omega
 have q1:¬ ((s.names.length:Int) < (s.names.length:Int)):=om;refine fG @q1 ?_;have F:=@e0P;refine gL (ι:=Nat) [2,4,54,97] [] (fun k=>[(4,A.d (.one (.lit (.int .i64 k))))]) (fun k=>[]) (fun k=>k<=s.subs.length∧∀ (j:Nat) p,j < k->s.subs[j]?=some p->ZfY s.names.length p) (fun k=>s.subs.length - k) (0) (⟨Taj _,fun j p h=>absurd h om⟩) (fun k hk=>?_);clear F;obtain ⟨hkl,hsub⟩:=hk;by_cases hlk:k < s.subs.length
 ·have q2:(k:Int) < (s.subs.length:Int):=om;obtain ⟨p,hp⟩:∃ x,s.subs[k]?=some x:=⟨_,Taa hlk⟩;have hw:=Zau (k:=k) om;have hbad:¬ ZfY s.names.length p->Zcf s=false:=fun h=>hno fun hs=>h (hs.subs p (Tac hp));have hrb:=ZqC s.subs;refine fB @q2 ?_;refine fC (aj4 @hrb @hp @Zcv @hw1n) (Zez p.1 0 ((s.names.length:Int) - 1)) ?_;by_cases c1:0<=p.1∧p.1<=(s.names.length:Int) - 1;rotate_left
  ·have hf:=hbad fun h=>c1 ⟨h.1,by have:=h.2.1;omega⟩;have y1:decide (0<=p.1∧p.1<=(s.names.length:Int) - 1)=false:=decide_eq_false c1;refine fR @y1 ?_;exact fT @hf
  have y1:decide (0<=p.1∧p.1<=(s.names.length:Int) - 1)=true:=decide_eq_true c1;refine fC (aj5 @hrb @hp @Zcv @hw1n @y1) (Zez p.2 0 ((s.names.length:Int) - 1)) ?_;by_cases c2:0<=p.2∧p.2<=(s.names.length:Int) - 1;rotate_left
  ·have hf:=hbad fun h=>c2 ⟨h.2.2.1,by have:=h.2.2.2.1;omega⟩;have y2:decide (0<=p.2∧p.2<=(s.names.length:Int) - 1)=false:=decide_eq_false c2;refine fR (ai @y1 @y2) ?_;exact fT @hf
  have y2:decide (0<=p.2∧p.2<=(s.names.length:Int) - 1)=true:=decide_eq_true c2;by_cases c5:p.1=p.2
  ·have hf:=hbad fun h=>h.2.2.2.2 c5;have y5:(p.1=p.2)=True:=eq_true c5;refine fR (aj6 @y1 @y2 @hrb @hp @Zcv @y5) ?_;exact fT @hf
  have y5:(p.1=p.2)=False:=eq_false c5;have hq:k+1<=s.subs.length∧∀ (j:Nat) p,j < k+1->s.subs[j]?=some p->ZfY s.names.length p:=⟨hlk,fun j p' hj hp'=>by
   by_cases e:j=k
   ·subst e;rw [hp] at hp';injection hp' with hp'
    subst hp';exact ⟨om,om,om,om,c5⟩
   ·exact hsub j p' om hp'⟩
  refine fR (aj6 @y1 @y2 @hrb @hp @Zcv @y5) ?_;have F:=@hw;refine gG ?_;exact ⟨k+1,hq,gw,gw,om⟩
 obtain rfl:k=s.subs.length:=by omega
 have q2:¬ ((s.subs.length:Int) < (s.subs.length:Int)):=om;have hsubs:∀ p∈s.subs,ZfY s.names.length p:=fun p hp=>by obtain ⟨j,hj⟩:=Tbk hp;exact hsub j p (Tad.1 hj).1 hj
 have hSI:=SortsOk.subsIn hsubs;have hU:=ZfX hSI;have hyes:(∀ i k,i < s.names.length->k < i->Zdm (up s) i k)->Zcf s=true:=fun h=>Zfo ⟨h1,h8,h16,fun i hi=>hall i hi,hsubs,fun i k hi hk hb=>by
  rcases Nat.lt_trichotomy i k with h2 | h2 | h2
  ·exact h k i hk h2 ⟨fun e=>hb.1 e.symm,hb.2.2,hb.2.1⟩
  ·exact hb.1 h2
  ·exact h i k hi h2 hb⟩
 have hno2:∀ i k,i < s.names.length->k < s.names.length->¬ Zdm (up s) i k->Zcf s=false:=fun i k h1 h2 h3=>hno fun h=>h3 (h.pairs i k h1 h2);have lU:=ZaT (l:=up s);rw [hU.1] at lU;have rU:=ZaP (l:=up s);refine fB @q2 ?_;refine fC @e0P (cU h8 h16 hSI) ?_;refine fR @e0P ?_;generalize up s=u at hU hyes hno2 lU rU ⊢;have hpw:∀ i,i < s.names.length->u[i]?=some (u.getD i 0)∧u.getD i 0 < 4611686018427387904:=fun i hi=>by
  obtain ⟨g1,g2⟩:=hU.get hi;exact ⟨g1,Nat.lt_trans g2 (Zg6 om)⟩
 refine fG @lU ?_;have F:=@e0P;refine gL (ι:=Nat) [2,6,7,103,108,124] [] (fun i=>[(6,A.d (.one (.lit (.int .i64 i))))]) (fun i=>[]) (fun i=>i<=s.names.length∧∀ i' k,i' < i->k < i'->Zdm u i' k) (fun i=>s.names.length - i) (0) (⟨Taj _,fun i' k h=>absurd h om⟩) (fun i hi=>?_);clear F;obtain ⟨hil,hpi⟩:=hi;by_cases hlt:i < s.names.length;rotate_left
 ·have q3:¬ ((i:Int) < (s.names.length:Int)):=om;have ht:=hyes fun i' k h1 h2=>hpi i' k om h2;exact fT (aj3 @q3 @lU @ht)
 have q3:(i:Int) < (s.names.length:Int):=om;have hwi:=Zau (k:=i) om;obtain ⟨gi,bi⟩:=hpw i hlt;refine fG (ai @q3 @lU) ?_;have F:=@e0P;refine gL (ι:=Nat) [2,7,108,124] [] (fun k=>[(7,A.d (.one (.lit (.int .i64 k))))]) (fun k=>[]) (fun k=>k<=i∧∀ k',k' < k->Zdm u i k') (fun k=>i - k) (0) (⟨Taj _,fun k h=>absurd h om⟩) (fun k hk=>?_);clear F;obtain ⟨hkl,hpk⟩:=hk;have hwk:=Zau (k:=k) om;by_cases hlk:k < i
 rotate_left
 ·have q4:=lF k i;have hq:i+1<=s.names.length∧∀ i' k,i' < i+1->k < i'->Zdm u i' k:=⟨hlt,fun i' k' h h2=>by
   by_cases e:i'=i
   ·subst e;exact hpk k' om
   ·exact hpi i' k' om h2⟩
  have F:=ai @q4 @hwi;refine gG ?_;exact ⟨i+1,hq,gw,gw,om⟩
 have q4:=lT k i;obtain ⟨gk,bk⟩:=hpw k om;have nx:Zdm u i k->k+1<=i∧∀ k',k' < k+1->Zdm u i k':=fun h=>⟨hlk,fun k' h2=>by
  by_cases e:k'=k
  ·subst e;exact h
  ·exact hpk k' om⟩
 have r1:=ZaR gi;have r2:=ZaR gk;refine fB @q4 ?_;refine fC (ai @rU @r1) (Zfe (a:=u.getD i 0) (k:=k) bi om) ?_
 cases b1:tbit (u.getD i 0) k with
 | false =>
  have hq:=nx fun h=>by have:=h.2.1;rw [show (u.getD i 0).testBit k=false from b1] at this;cases this
  refine fR @e0P ?_;have F:=@hwk;refine gG ?_;exact ⟨k+1,hq,gw,gw,om⟩
 | true =>
 refine fC (ai @rU @r2) (Zfe (a:=u.getD k 0) (k:=i) bk om) ?_
 cases b2:tbit (u.getD k 0) i with
 | false =>
  have hq:=nx fun h=>by have:=h.2.2;rw [show (u.getD k 0).testBit i=false from b2] at this;cases this
  refine fR @e0P ?_;have F:=@hwk;refine gG ?_;exact ⟨k+1,hq,gw,gw,om⟩
 | true =>
  have hf:=hno2 i k hlt om fun h=>h ⟨om,b1,b2⟩;refine fR @e0P ?_;exact fT @hf
end
def ZeA (s:Srt):List C:=[.sl (nR (up s)),.sl (nR (down s)),.sl (nR (kinds s))]
theorem ZiQ:∀ s,ZeA s=[.sl (nR (up s)),.sl (nR (down s)),.sl (nR (kinds s))]:=fun _=>rfl
section
variable {s:Srt}
theorem kdg (hs:SortsOk s) {k:Int} (h:0<=k∧k < s.names.length):(nR (kinds s))[k.toNat]?=some [.lit (.int .i64 (kd s k:Nat))]:=by
 have hk:=ZiN (SortsOk.subsIn hs.subs);have hl:k.toNat < (kinds s).length:=by rw [hk.1];omega
 rw [ZaR (Taa hl),kd,List.getD_eq_getElem?_getD,Taa hl];rfl
theorem ZFl (hs:SortsOk s):(nR (kinds s)).length=s.names.length:=by rw [ZaT,(ZiN (SortsOk.subsIn hs.subs)).1]
theorem ZBL (hs:SortsOk s) (k:Int):Con e0 135 [.agg (ZeA s),.one (.lit (.int .i64 k))] [.one (.lit (.bool (decide (0<=k∧k < s.names.length))))]:=by
 have hl:(nR (up s)).length=s.names.length:=by rw [ZaT,(ZfX (SortsOk.subsIn hs.subs)).1]
 rw [ZeA];refine gI 23 Tryz.func135 ?_;by_cases h0:0<=k
 ·by_cases h1:k < s.names.length
  ·exact fT (aj3 @h0 @hl @h1)
  ·exact fT (aj3 @h0 @hl @h1)
 ·exact fT @h0
theorem Zzz {l:List Int} {p:Int->Prop} {j:Nat} {c:Int} (hc:l[j]?=some c) (h:∀ (i:Nat) (c:Int),i < j->l[i]?=some c->p c) (hp:p c):∀ (i:Nat) (c:Int),i < j+1->l[i]?=some c->p c:=fun i c' hi hc'=>by
 by_cases hij:i=j
 ·subst hij;rw [hc] at hc';injection hc' with hc';subst hc';exact hp
 ·exact h i c' om hc'
theorem ZmP {f d:Dcl} {i:Nat} {a:Int} (ha:d.args[i]?=some a) (hall:∀ (i':Nat) a,i' < i->d.args[i']?=some a->(0<=a∧a < s.names.length)∧∀ b,f.args[i']?=some b->kd s a=kd s b) (h1:0<=a∧a < s.names.length) (h2:∀ b,f.args[i]?=some b->kd s a=kd s b) :
  ∀ (i':Nat) a,i' < i+1->d.args[i']?=some a->(0<=a∧a < s.names.length)∧∀ b,f.args[i']?=some b->kd s a=kd s b:=fun i' a' h ha'=>by
 by_cases e:i'=i
 ·subst e;rw [ha] at ha';injection ha' with ha'
  subst ha';exact ⟨h1,h2⟩
 ·exact hall i' a' om ha'
theorem ZoN {f d:Dcl} (h1:d.args.length=f.args.length) (h2:0<=d.res∧d.res < s.names.length) (h3:kd s d.res=kd s f.res) (hall:∀ (i':Nat) a,i' < d.args.length->d.args[i']?=some a->(0<=a∧a < s.names.length)∧∀ b,f.args[i']?=some b->kd s a=kd s b):DeclOk s f d :=
 ⟨h1,h2,fun k hk=>by obtain ⟨i,hi⟩:=Tbk hk;exact (hall i k (Tad.1 hi).1 hi).1,h3,fun i a b ha hb=>(hall i a (Tad.1 ha).1 ha).2 b hb⟩
theorem ZmQ {l:List Dcl} {P:Dcl->Prop} {j:Nat} {d:Dcl} (hd:l[j]?=some d) (hall:∀ (j':Nat) d,j' < j->l[j']?=some d->P d) (h:P d):∀ (j':Nat) d,j' < j+1->l[j']?=some d->P d:=fun j' d' hj hd'=>by
 by_cases e:j'=j
 ·subst e;rw [hd] at hd';injection hd' with hd'
  subst hd';exact h
 ·exact hall j' d' om hd'
theorem Zpx (hs:SortsOk s) (o:Opr):Con e0 120 [.agg (ZeA s),.agg (ZbZ o)] [.one (.lit (.bool (Zcz s o)))]:=by
 have hno:¬ DeclsOk s o->Zcz s o=false:=Zjk;have cH:=ZBL hs;have rK:=ZaP (l:=kinds s);rw [ZeA] at cH ⊢;rw [ZbZ];refine gI 83076759175850041743779962279694015 Tryz.func120 ?_;by_cases h1:1<=o.decls.length;rotate_left
 ·have hf:=hno fun h=>h1 h.len1;have z1:=lT o.decls.length 1;exact fT (ai @z1 @hf)
 have z1:=lF o.decls.length 1;by_cases h4:o.decls.length<=4;rotate_left
 ·have hf:=hno fun h=>h4 h.len4;have z2:=lT 4 o.decls.length;exact fT (aj3 @z1 @z2 @hf)
 have z2:=lF 4 o.decls.length;obtain ⟨f,hf0⟩:∃ f,o.decls[0]?=some f:=⟨_,Taa om⟩;have hfm:=Tac hf0;by_cases h3:f.args.length<=3;rotate_left
 ·have hf:=hno fun h=>h3 (h.ar f hf0);have z3:=lT 3 f.args.length;exact fT (aj6 @z1 @z2 @hf0 @ZaV @z3 @hf)
 have z3:=lF 3 f.args.length;refine fB (aj5 @z1 @z2 @hf0 @ZaV @z3) ?_;refine fC @e0P (cH f.res) ?_;by_cases hr:0<=f.res∧f.res < (s.names.length:Int);rotate_left
 ·have hf:=hno fun h=>hr (h.all f hf0 f hfm).res;have y1:decide (0<=f.res∧f.res < (s.names.length:Int))=false:=decide_eq_false hr;refine fR @y1 ?_;exact fT @hf
 have y1:decide (0<=f.res∧f.res < (s.names.length:Int))=true:=decide_eq_true hr;have gr:=kdg hs hr;have ir:=hr.1;refine fR @y1 ?_;refine fG @e0P ?_;have F:=@e0P;refine gL (ι:=Nat) [4,7,43,44,50] [] (fun i=>[(43,A.d (.one (.lit (.int .i64 i))))]) (fun i=>[]) (fun i=>i<=f.args.length∧∀ (i':Nat) k,i' < i->f.args[i']?=some k->0<=k∧k < s.names.length) (fun i=>f.args.length - i) (0) (⟨Taj _,fun i' k h=>absurd h om⟩) (fun i hi=>?_);clear F
 obtain ⟨hil,hfa⟩:=hi;by_cases hlt:i < f.args.length
 ·have q1:(i:Int) < (f.args.length:Int):=om;obtain ⟨k,hk⟩:∃ k,f.args[i]?=some k:=⟨_,Taa hlt⟩;have hw:=Zau (k:=i) om;refine fB (aj3 @q1 @hk @Zbb) ?_;refine fC @e0P (cH k) ?_;by_cases hkr:0<=k∧k < (s.names.length:Int);rotate_left
  ·have hf:=hno fun h=>hkr ((h.all f hf0 f hfm).args k (Tac hk));have y2:decide (0<=k∧k < (s.names.length:Int))=false:=decide_eq_false hkr;refine fR @y2 ?_;exact fT @hf
  have y2:decide (0<=k∧k < (s.names.length:Int))=true:=decide_eq_true hkr;have hq:i+1<=f.args.length∧_:=⟨hlt,Zzz hk hfa hkr⟩;refine fR @y2 ?_;have F:=@hw;refine gG ?_;exact ⟨i+1,hq,gw,gw,om⟩
 obtain rfl:i=f.args.length:=by omega
 have q1:¬ ((f.args.length:Int) < (f.args.length:Int)):=om;refine fG @q1 ?_;have F:=@e0P;refine gL (ι:=Nat) [4,9,10,11,55,56,87,89,90,91,92,116] [] (fun j=>[(55,A.d (.one (.lit (.int .i64 j))))]) (fun j=>[]) (fun j=>j<=o.decls.length∧∀ (j':Nat) d,j' < j->o.decls[j']?=some d->DeclOk s f d) (fun j=>o.decls.length - j) (0) (⟨Taj _,fun j' d h=>absurd h om⟩) (fun j hj=>?_);clear F;obtain ⟨hjl,hdo⟩:=hj;by_cases hlj:j < o.decls.length
 rotate_left
 ·have q2:¬ ((j:Int) < (o.decls.length:Int)):=om;have ht:=Zfp (s:=s) (o:=o) ⟨h1,h4,fun f' h=>by rw [hf0] at h;injection h with h;subst h;exact h3,fun f' h d hd=>by
   rw [hf0] at h;injection h with h;subst h
   obtain ⟨j',hj'⟩:=Tbk hd;exact hdo j' d (by have:=(Tad.1 hj').1;omega) hj'⟩
  exact fT (ai @q2 @ht)
 have q2:(j:Int) < (o.decls.length:Int):=om;obtain ⟨d,hd⟩:∃ d,o.decls[j]?=some d:=⟨_,Taa hlj⟩;have hdm:=Tac hd;have hwj:=Zau (k:=j) om;have hbad:¬ DeclOk s f d->Zcz s o=false:=fun h=>hno fun hD=>h (hD.all f hf0 d hdm);by_cases hdl:d.args.length=f.args.length;rotate_left
 ·have hf:=hbad fun h=>hdl h.len;have y3:((d.args.length:Int)=(f.args.length:Int))=False:=eq_false om;exact fT (aj5 @q2 @hd @ZaV @y3 @hf)
 have y3:((d.args.length:Int)=(f.args.length:Int))=True:=eq_true om;refine fB (aj3 @q2 @hd @ZaV) ?_;refine fC @y3 (cH d.res) ?_;by_cases hdr:0<=d.res∧d.res < (s.names.length:Int);rotate_left
 ·have hf:=hbad fun h=>hdr h.res;have y4:decide (0<=d.res∧d.res < (s.names.length:Int))=false:=decide_eq_false hdr;refine fR (ai @y3 @y4) ?_;exact fT @hf
 have y4:decide (0<=d.res∧d.res < (s.names.length:Int))=true:=decide_eq_true hdr;have gd:=kdg hs hdr;have id':=hdr.1;have jd:=hdr.2;by_cases hkr:kd s d.res=kd s f.res;rotate_left
 ·have hf:=hbad fun h=>hkr h.kres;have y5:((kd s d.res:Int)=(kd s f.res:Int))=False:=eq_false om;refine fR (aj9 @y3 @y4 @gr @gd @ir @id' @jd @rK @y5) ?_;exact fT @hf
 have y5:((kd s d.res:Int)=(kd s f.res:Int))=True:=eq_true om;refine fR (aj9 @y3 @y4 @gr @gd @ir @id' @jd @rK @y5) ?_;refine fG @e0P ?_;have F:=@e0P;refine gL (ι:=Nat) [4,10,11,91,92,116] [] (fun i=>[(91,A.d (.one (.lit (.int .i64 i))))]) (fun i=>[]) (fun i=>i<=d.args.length∧∀ (i':Nat) a,i' < i->d.args[i']?=some a->(0<=a∧a < s.names.length)∧∀ b,f.args[i']?=some b->kd s a=kd s b) (fun i=>d.args.length - i) (0) (⟨Taj _,fun i' a h=>absurd h om⟩) (fun i hi=>?_);clear F
 obtain ⟨hil2,hka⟩:=hi;by_cases hlt:i < d.args.length;rotate_left
 ·obtain rfl:i=d.args.length:=by omega
  have q3:¬ ((d.args.length:Int) < (d.args.length:Int)):=om;have hq:j+1<=o.decls.length∧_:=⟨hlj,ZmQ hd hdo (ZoN hdl hdr hkr hka)⟩;have F:=ai @q3 @hwj;refine gG ?_;exact ⟨j+1,hq,gw,gw,om⟩
 have q3:(i:Int) < (d.args.length:Int):=om;obtain ⟨a,ha⟩:∃ k,d.args[i]?=some k:=⟨_,Taa hlt⟩;obtain ⟨b,hb⟩:∃ k,f.args[i]?=some k:=⟨_,Taa om⟩;have hw:=Zau (k:=i) om;have hbr:=hfa i b om hb;have gb:=kdg hs hbr;have ib:=hbr.1;refine fB (aj3 @q3 @ha @Zbb) ?_;refine fC @e0P (cH a) ?_;by_cases har:0<=a∧a < (s.names.length:Int);rotate_left
 ·have hf:=hbad fun h=>har (h.args a (Tac ha));have y6:decide (0<=a∧a < (s.names.length:Int))=false:=decide_eq_false har;refine fR @y6 ?_;exact fT @hf
 have y6:decide (0<=a∧a < (s.names.length:Int))=true:=decide_eq_true har;have ga:=kdg hs har;have ia:=har.1;have ja:=har.2;by_cases hkk:kd s a=kd s b;rotate_left
 ·have hf:=hbad fun h=>hkk (h.kargs i a b ha hb);have y7:((kd s a:Int)=(kd s b:Int))=False:=eq_false om;refine fR (aj10 @y6 @ga @gb @ia @ja @ib @hb @Zbb @rK @y7) ?_;exact fT @hf
 have y7:((kd s a:Int)=(kd s b:Int))=True:=eq_true om;have hq:i+1<=d.args.length∧_:=⟨hlt,ZmP (f:=f) ha hka har fun b' hb'=>by rw [hb] at hb';injection hb' with hb';subst hb';exact hkk⟩;refine fR (aj10 @y6 @ga @gb @ia @ja @ib @hb @Zbb @rK @y7) ?_;have F:=@hw;refine gG ?_;exact ⟨i+1,hq,gw,gw,om⟩
theorem Zsx {g:Sgn} (hs:SortsOk g.sorts) (o:Opr):Con e0 101 [.agg (ZaB g),.agg (ZbZ o)] [.one (.lit (.bool (Zcz g.sorts o)))]:=by
 have hno:¬ DeclsOk g.sorts o->Zcz g.sorts o=false:=Zjk;have cK:=ZeW hs;rw [show (Zb7 (kinds g.sorts)).map encInt=nR (kinds g.sorts) from rfl] at cK;have rK:=ZaP (l:=kinds g.sorts);have lK:=ZFl hs;have n1:=hs.n1;have n8:=hs.n8;have hw1n:IntKind.i64.wrap ((g.sorts.names.length:Int) - 1)=(g.sorts.names.length:Int) - 1:=IntWalk.i64_in _ om;rw [Zbo] at cK;rw [ZaB,ZbZ];refine gI 1298708039934125393111688421573631 Tryz.func101 ?_
 by_cases h1:1<=o.decls.length;rotate_left
 ·have hf:=hno fun h=>h1 h.len1;have z1:=lT o.decls.length 1;exact fT (ai @z1 @hf)
 have z1:=lF o.decls.length 1;by_cases h4:o.decls.length<=4;rotate_left
 ·have hf:=hno fun h=>h4 h.len4;have z2:=lT 4 o.decls.length;exact fT (aj3 @z1 @z2 @hf)
 have z2:=lF 4 o.decls.length;obtain ⟨f,hf0⟩:∃ f,o.decls[0]?=some f:=⟨_,Taa om⟩;have hfm:=Tac hf0;by_cases h3:f.args.length<=3;rotate_left
 ·have hf:=hno fun h=>h3 (h.ar f hf0);have z3:=lT 3 f.args.length;exact fT (aj6 @z1 @z2 @hf0 @ZaV @z3 @hf)
 have z3:=lF 3 f.args.length;refine fB (aj5 @z1 @z2 @hf0 @ZaV @z3) ?_;refine fC @e0P (cK) ?_;refine fR @e0P ?_;refine fG (ai @hf0 @ZaV) ?_;have F:=@e0P;refine gL (ι:=Nat) [4,7,8,9,40,63,68,99,110] [] (fun j=>[(7,A.d (.one (.lit (.int .i64 j))))]) (fun j=>[]) (fun j=>j<=o.decls.length∧∀ (j':Nat) d,j' < j->o.decls[j']?=some d->DeclOk g.sorts f d) (fun j=>o.decls.length - j) (0) (⟨Taj _,fun j' d h=>absurd h om⟩) (fun j hj=>?_);clear F
 obtain ⟨hjl,hdo⟩:=hj;by_cases hlj:j < o.decls.length;rotate_left
 ·have q2:¬ ((j:Int) < (o.decls.length:Int)):=om;have ht:=Zfp (s:=g.sorts) (o:=o) ⟨h1,h4,fun f' h=>by rw [hf0] at h;injection h with h;subst h;exact h3,fun f' h d hd=>by
   rw [hf0] at h;injection h with h;subst h
   obtain ⟨j',hj'⟩:=Tbk hd;exact hdo j' d (by have:=(Tad.1 hj').1;omega) hj'⟩
  exact fT (ai @q2 @ht)
 have q2:(j:Int) < (o.decls.length:Int):=om;obtain ⟨d,hd⟩:∃ d,o.decls[j]?=some d:=⟨_,Taa hlj⟩;have hdm:=Tac hd;have hwj:=Zau (k:=j) om;have hbad:¬ DeclOk g.sorts f d->Zcz g.sorts o=false:=fun h=>hno fun hD=>h (hD.all f hf0 d hdm);have hj0:d=f∨DeclOk g.sorts f f:=by
  rcases Nat.eq_zero_or_pos j with h | h
  ·subst h;rw [hf0] at hd;injection hd with hd;exact .inl hd.symm
  ·exact .inr (hdo 0 f h hf0)
 by_cases hdl:d.args.length=f.args.length;rotate_left
 ·have hf:=hbad fun h=>hdl h.len;have y3:((d.args.length:Int)=(f.args.length:Int))=False:=eq_false om;exact fT (aj5 @q2 @hd @ZaV @y3 @hf)
 have y3:((d.args.length:Int)=(f.args.length:Int))=True:=eq_true om;refine fB (aj3 @q2 @hd @ZaV) ?_;refine fC (aj3 @y3 @lK @hw1n) (Zez d.res 0 ((g.sorts.names.length:Int) - 1)) ?_;by_cases hdr:0<=d.res∧d.res < (g.sorts.names.length:Int);rotate_left
 ·have hf:=hbad fun h=>hdr h.res;have y4:decide (0<=d.res∧d.res<=(g.sorts.names.length:Int) - 1)=false:=decide_eq_false om;refine fR (ai @y3 @y4) ?_;exact fT @hf
 have y4:decide (0<=d.res∧d.res<=(g.sorts.names.length:Int) - 1)=true:=decide_eq_true om;have gd:=kdg hs hdr;have id':=hdr.1;have hfr:0<=f.res∧f.res < (g.sorts.names.length:Int):=by
  rcases hj0 with h | h
  ·rw [<- h];exact hdr
  ·exact h.res
 have gr:=kdg hs hfr;have ir:=hfr.1;refine fR (ai @y3 @y4) ?_;refine fG @e0P ?_;have F:=@e0P;refine gL (ι:=Nat) [4,9,68,99] [] (fun i=>[(9,A.d (.one (.lit (.int .i64 i))))]) (fun i=>[]) (fun i=>i<=d.args.length∧∀ (i':Nat) a,i' < i->d.args[i']?=some a->(0<=a∧a < g.sorts.names.length)∧∀ b,f.args[i']?=some b->kd g.sorts a=kd g.sorts b) (fun i=>d.args.length - i) (0) (⟨Taj _,fun i' a h=>absurd h om⟩) (fun i hi=>?_);clear F
 obtain ⟨hil2,hka⟩:=hi;by_cases hlt:i < d.args.length;rotate_left
 ·obtain rfl:i=d.args.length:=by omega
  have q3:¬ ((d.args.length:Int) < (d.args.length:Int)):=om;by_cases hkr:kd g.sorts d.res=kd g.sorts f.res;rotate_left
  ·have hf:=hbad fun h=>hkr h.kres;have y5:((kd g.sorts d.res:Int)=(kd g.sorts f.res:Int))=False:=eq_false om;exact fT (aj8 @q3 @gr @gd @ir @id' @rK @y5 @hf)
  have y5:((kd g.sorts d.res:Int)=(kd g.sorts f.res:Int))=True:=eq_true om;have hq:j+1<=o.decls.length∧_:=⟨hlj,ZmQ hd hdo (ZoN hdl hdr hkr hka)⟩;have F:=aj8 @q3 @gr @gd @ir @id' @rK @y5 @hwj;refine gG ?_;exact ⟨j+1,hq,gw,gw,om⟩
 have q3:(i:Int) < (d.args.length:Int):=om;obtain ⟨a,ha⟩:∃ k,d.args[i]?=some k:=⟨_,Taa hlt⟩;obtain ⟨b,hb⟩:∃ k,f.args[i]?=some k:=⟨_,Taa om⟩;have hw:=Zau (k:=i) om;refine fB @q3 ?_;refine fC (aj4 @ha @Zbb @lK @hw1n) (Zez a 0 ((g.sorts.names.length:Int) - 1)) ?_;by_cases har:0<=a∧a < (g.sorts.names.length:Int);rotate_left
 ·have hf:=hbad fun h=>har (h.args a (Tac ha));have y6:decide (0<=a∧a<=(g.sorts.names.length:Int) - 1)=false:=decide_eq_false om;refine fR @y6 ?_;exact fT @hf
 have y6:decide (0<=a∧a<=(g.sorts.names.length:Int) - 1)=true:=decide_eq_true om;have y8:(a<=(g.sorts.names.length:Int) - 1)=True:=eq_true om;have ga:=kdg hs har;have ia:=har.1;have hbr:0<=b∧b < (g.sorts.names.length:Int):=by
  rcases hj0 with h | h
  ·rw [<- h,ha] at hb;injection hb with hb;rw [<- hb];exact har
  ·exact h.args b (Tac hb)
 have gb:=kdg hs hbr;have ib:=hbr.1;by_cases hkk:kd g.sorts a=kd g.sorts b;rotate_left
 ·have hf:=hbad fun h=>hkk (h.kargs i a b ha hb);have y7:((kd g.sorts a:Int)=(kd g.sorts b:Int))=False:=eq_false om;refine fR (aj11 @y6 @y8 @ga @gb @ia @ib @ha @hb @Zbb @rK @y7) ?_;exact fT @hf
 have y7:((kd g.sorts a:Int)=(kd g.sorts b:Int))=True:=eq_true om;have hq:i+1<=d.args.length∧_:=⟨hlt,ZmP (f:=f) ha hka har fun b' hb'=>by rw [hb] at hb';injection hb' with hb';subst hb';exact hkk⟩;refine fR (aj11 @y6 @y8 @ga @gb @ia @ib @ha @hb @Zbb @rK @y7) ?_;have F:=@hw;refine gG ?_;exact ⟨i+1,hq,gw,gw,om⟩
end
theorem Zf1 {o:Opr} {d:Dcl} (hd:o.decls[0]?=some d):Con e0 158 [.agg (ZbZ o)] [.one (.lit (.int .i64 d.args.length))]:=by
 refine gI 7 Tryz.func158 ?_;exact fT (aj3 @Zaj @hd @ZaV)
section
variable {g:Sgn} {o:Opr}
theorem ZkI {d:Dcl} (hd:o.decls[0]?=some d) (h1:0<=o.unit) (h2:o.unit<=g.ops.length) (h3:d.args.length=2) {a b:Int} (ha:d.args[0]?=some a) (hb:d.args[1]?=some b) (hk:kd g.sorts a=kd g.sorts b) (hr:¬ ((o.assoc=true∨o.unit≠0)∧kd g.sorts a≠kd g.sorts d.res))
  (hu:o.unit≠0->∀ (p:Opr) (u:Dcl),g.ops[o.unit.toNat - 1]?=some p->p.decls[0]?=some u->u.args.length=0∧kd g.sorts u.res=kd g.sorts d.res):AxOk g o :=
 ⟨h1,h2,fun _ d' hd'=>by
  rw [hd] at hd';injection hd' with hd';subst hd'
  refine ⟨h3,fun a' b' ha' hb'=>?_⟩;rw [ha] at ha';injection ha' with ha';subst ha'
  rw [hb] at hb';injection hb' with hb';subst hb'
  exact ⟨hk,fun h=>Classical.byContradiction fun hn=>hr ⟨h,hn⟩,hu⟩⟩
theorem ZqS (h:o.assoc=false∧o.comm=false∧o.unit=0):AxOk g o:=⟨by rw [h.2.2];exact Int.le_refl _,by rw [h.2.2];omega,fun h2=>by
 rcases h2 with h2 | h2 | h2
 ·rw [h.1] at h2;cases h2
 ·rw [h.2.1] at h2;cases h2
 ·exact absurd h.2.2 h2⟩
theorem ZuF (h:¬ (o.assoc=false∧o.comm=false∧o.unit=0)):o.assoc=true∨o.comm=true∨o.unit≠0:=by
 by_cases h1:o.assoc=true
 ·exact .inl h1
 by_cases h2:o.comm=true
 ·exact .inr (.inl h2)
 exact .inr (.inr fun h3=>h ⟨by simpa using h1,by simpa using h2,h3⟩)
theorem ZnW (hs:SortsOk g.sorts) (hall:∀ p∈g.ops,DeclsOk g.sorts p) (ho:o∈g.ops) (hol:g.ops.length<=14):Con e0 121 [.agg (ZeA g.sorts),.agg (ZaB g),.agg (ZbZ o)] [.one (.lit (.bool (axOk g o)))]:=by
 have hno:¬ AxOk g o->axOk g o=false:=ZmM;have rK:=ZaP (l:=kinds g.sorts);obtain ⟨d,hd,hdd⟩:=(hall o ho).first;have gr:=kdg hs hdd.res;have ir:=hdd.res.1;rw [ZeA,ZaB,ZbZ];refine gI 87042659588714057177760255 Tryz.func121 ?_;by_cases h1:0<=o.unit;rotate_left
 ·have hf:=hno fun h=>h1 h.lo;have z1:(o.unit < 0)=True:=eq_true om;exact fT (ai @z1 @hf)
 have z1:(o.unit < 0)=False:=eq_false om;by_cases h2:o.unit<=g.ops.length;rotate_left
 ·have hf:=hno fun h=>h2 h.hi;have z2:=lT g.ops.length o.unit;exact fT (aj3 @z1 @z2 @hf)
 have z2:=lF g.ops.length o.unit;by_cases hp:o.assoc=false∧o.comm=false∧o.unit=0
 ·have ht:=Zd3 (ZqS (g:=g) hp);obtain ⟨p1,p2,p3⟩:=hp;have p3:(o.unit=0)=True:=eq_true p3;exact fT (aj6 @z1 @z2 @p1 @p2 @p3 @ht)
 have hnd:=ZuF hp;refine fN 3 (ai @z1 @z2) ?_;refine gM (ι:=Unit) [32] [] (fun v=>[(32,A.d (.one (.lit (.bool false))))]) (fun v=>[]) (fun v=>True) ?_ (fun v hv=>Exists.intro _ (ai (Wk.refl _) ?_))
 ·cases q1:o.assoc with
  | true=>(have F:=@q1;refine gG ?_;exact ⟨(),trivial,gw,gw⟩)
  | false =>
  cases q2:o.comm with
  | true=>(have F:=ai @q1 @q2;refine gG ?_;exact ⟨(),trivial,gw,gw⟩)
  | false =>
   have q3:(o.unit=0)=False:=eq_false fun h=>hp ⟨q1,q2,h⟩;have F:=aj3 @q1 @q2 @q3;refine gG ?_;exact ⟨(),trivial,gw,gw⟩
 clear hv;by_cases h3:d.args.length=2;rotate_left
 ·have hf:=hno fun h=>h3 (h.two hnd d hd).1;have z3:((d.args.length:Int)=2)=False:=eq_false om;exact fT (aj4 @hd @ZaV @z3 @hf)
 have z3:((d.args.length:Int)=2)=True:=eq_true om;obtain ⟨a,ha⟩:∃ k,d.args[0]?=some k:=⟨_,Taa om⟩;obtain ⟨b,hb⟩:∃ k,d.args[1]?=some k:=⟨_,Taa om⟩;have har:=hdd.args a (Tac ha);have hbr:=hdd.args b (Tac hb);have ga:=kdg hs har;have gb:=kdg hs hbr;have ia:=har.1;have ib:=hbr.1;by_cases hk:kd g.sorts a=kd g.sorts b;rotate_left
 ·have hf:=hno fun h=>hk ((h.two hnd d hd).2 a b ha hb).1;have z4:((kd g.sorts a:Int)=(kd g.sorts b:Int))=False:=eq_false om;exact fT (aj13 @hd @ZaV @z3 @ha @hb @Zbb @ga @gb @ia @ib @rK @z4 @hf)
 have z4:((kd g.sorts a:Int)=(kd g.sorts b:Int))=True:=eq_true om;refine fN 8 (aj12 @hd @ZaV @z3 @ha @hb @Zbb @ga @gb @ia @ib @rK @z4) ?_;refine gM (ι:=Bool) [83] [] (fun v=>[(83,A.d (.one (.lit (.bool v))))]) (fun v=>[]) (fun v=>(v=true->((o.assoc=true∨o.unit≠0)∧kd g.sorts a≠kd g.sorts d.res))∧(v=false->¬ ((o.assoc=true∨o.unit≠0)∧kd g.sorts a≠kd g.sorts d.res))) ?_ (fun v hv=>Exists.intro _ (ai (Wk.refl _) ?_))
 ·cases q1:o.assoc with
  | true =>
   by_cases hr:kd g.sorts a=kd g.sorts d.res
   ·have z5:((kd g.sorts a:Int)=(kd g.sorts d.res:Int))=True:=eq_true om;have F:=aj9 @q1 @ha @Zbb @ga @gr @ia @ir @rK @z5;refine gG ?_;exact ⟨false,⟨fun h=>(by cases h),fun _ h=>h.2 hr⟩,gw,gw⟩
   ·have z5:((kd g.sorts a:Int)=(kd g.sorts d.res:Int))=False:=eq_false om;have F:=aj9 @q1 @ha @Zbb @ga @gr @ia @ir @rK @z5;refine gG ?_;exact ⟨true,⟨fun _=>⟨.inl rfl,hr⟩,fun h=>(by cases h)⟩,gw,gw⟩
  | false =>
  by_cases q3:o.unit=0
  ·have z6:(o.unit=0)=True:=eq_true q3;have F:=ai @q1 @z6;refine gG ?_;exact ⟨false,⟨fun h=>(by cases h),fun _ h=>h.1.elim (fun h=>(by cases h)) fun h=>h q3⟩,gw,gw⟩
  ·have z6:(o.unit=0)=False:=eq_false q3;by_cases hr:kd g.sorts a=kd g.sorts d.res
   ·have z5:((kd g.sorts a:Int)=(kd g.sorts d.res:Int))=True:=eq_true om;have F:=aj10 @q1 @z6 @ha @Zbb @ga @gr @ia @ir @rK @z5;refine gG ?_;exact ⟨false,⟨fun h=>(by cases h),fun _ h=>h.2 hr⟩,gw,gw⟩
   ·have z5:((kd g.sorts a:Int)=(kd g.sorts d.res:Int))=False:=eq_false om;have F:=aj10 @q1 @z6 @ha @Zbb @ga @gr @ia @ir @rK @z5;refine gG ?_;exact ⟨true,⟨fun _=>⟨.inr q3,hr⟩,fun h=>(by cases h)⟩,gw,gw⟩
 obtain ⟨hv1,hv2⟩:=hv
 cases v with
 | true =>
  have hf:=hno fun h=>(hv1 rfl).2 (((h.two hnd d hd).2 a b ha hb).2.1 (hv1 rfl).1);exact fT @hf
 | false =>
 have hr:=hv2 rfl;by_cases q3:o.unit=0
 ·have z6:(o.unit=0)=True:=eq_true q3;have ht:=Zd3 (ZkI hd h1 h2 h3 ha hb hk hr fun h=>absurd q3 h);exact fT (ai @z6 @ht)
 have z6:(o.unit=0)=False:=eq_false q3;have hsub:IntKind.i64.wrap (o.unit - 1)=((o.unit.toNat - 1:Nat):Int):=ZaM om om om;obtain ⟨p,hp⟩:∃ p,g.ops[o.unit.toNat - 1]?=some p:=⟨_,Taa om⟩;obtain ⟨u,hu,huu⟩:=(hall p (Tac hp)).first;have gu':=kdg hs huu.res;have iu:=huu.res.1;have key:(u.args.length=0∧kd g.sorts u.res=kd g.sorts d.res)->axOk g o=true:=fun h=>Zd3 (ZkI hd h1 h2 h3 ha hb hk hr fun _ p' u' hp' hu'=>by
  rw [hp] at hp';injection hp' with hp';subst hp'
  rw [hu] at hu';injection hu' with hu';subst hu'
  exact h)
 have keyn:¬ (u.args.length=0∧kd g.sorts u.res=kd g.sorts d.res)->axOk g o=false:=fun h=>hno fun hA=>h (((hA.two hnd d hd).2 a b ha hb).2.2 q3 p u hp hu);by_cases hl0:u.args.length=0;rotate_left
 ·have hf:=keyn fun h=>hl0 h.1;have z7:((u.args.length:Int)=0)=False:=eq_false om;exact fT (aj9 @z6 @hsub @hp @Zaj @hu @ZaV @Zap @z7 @hf)
 have z7:((u.args.length:Int)=0)=True:=eq_true om;by_cases hku:kd g.sorts u.res=kd g.sorts d.res
 ·have ht:=key ⟨hl0,hku⟩;have z8:((kd g.sorts u.res:Int)=(kd g.sorts d.res:Int))=True:=eq_true om;exact fT (aj15 @z6 @hsub @hp @Zaj @hu @ZaV @Zap @z7 @gu' @gr @iu @ir @rK @z8 @ht)
 ·have hf:=keyn fun h=>hku h.2;have z8:((kd g.sorts u.res:Int)=(kd g.sorts d.res:Int))=False:=eq_false om;exact fT (aj15 @z6 @hsub @hp @Zaj @hu @ZaV @Zap @z7 @gu' @gr @iu @ir @rK @z8 @hf)
theorem ZqT (hs:SortsOk g.sorts) (hall:∀ p∈g.ops,DeclsOk g.sorts p) {k:Nat} (hk0:g.ops[k]?=some o) (hol:g.ops.length<=14):Con e0 102 [.agg (ZaB g),.one (.lit (.int .i64 k))] [.one (.lit (.bool (axOk g o)))]:=by
 have hno:¬ AxOk g o->axOk g o=false:=ZmM;have ho:=Tac hk0;have hkl:=(Tad.1 hk0).1;have cK:=ZeW hs;rw [show (Zb7 (kinds g.sorts)).map encInt=nR (kinds g.sorts) from rfl] at cK;have rK:=ZaP (l:=kinds g.sorts);obtain ⟨d,hd,hdd⟩:=(hall o ho).first;have cA:=Zf1 hd;have gr:=kdg hs hdd.res;have ir:=hdd.res.1;rw [Zbo] at cK;rw [ZbZ] at cA;rw [ZaB];refine gI 174085318024508800717819895 Tryz.func102 ?_;by_cases hp:o.assoc=false∧o.comm=false∧o.unit=0
 ·have ht:=Zd3 (ZqS (g:=g) hp);obtain ⟨p1,p2,p3⟩:=hp;have p3:(o.unit=0)=True:=eq_true p3;exact fT (aj6 @hk0 @Zaj @p1 @p2 @p3 @ht)
 have hnd:=ZuF hp;refine fN 2 (ai @hk0 @Zaj) ?_;refine gM (ι:=Unit) [29] [] (fun v=>[(29,A.d (.one (.lit (.bool false))))]) (fun v=>[]) (fun v=>True) ?_ (fun v hv=>Exists.intro _ (ai (Wk.refl _) ?_))
 ·cases q1:o.assoc with
  | true=>(have F:=@q1;refine gG ?_;exact ⟨(),trivial,gw,gw⟩)
  | false =>
  cases q2:o.comm with
  | true=>(have F:=ai @q1 @q2;refine gG ?_;exact ⟨(),trivial,gw,gw⟩)
  | false =>
   have q3:(o.unit=0)=False:=eq_false fun h=>hp ⟨q1,q2,h⟩;have F:=aj3 @q1 @q2 @q3;refine gG ?_;exact ⟨(),trivial,gw,gw⟩
 clear hv;refine fB @e0P ?_;refine fC @e0P (cA) ?_;by_cases h3:d.args.length=2;rotate_left
 ·have hf:=hno fun h=>h3 (h.two hnd d hd).1;have z3:((d.args.length:Int)=2)=False:=eq_false om;refine fR @z3 ?_;exact fT @hf
 have z3:((d.args.length:Int)=2)=True:=eq_true om;refine fC @z3 (Zez o.unit 0 (g.ops.length:Int)) ?_;by_cases h12:0<=o.unit∧o.unit<=(g.ops.length:Int);rotate_left
 ·have hf:=hno fun h=>h12 ⟨h.lo,h.hi⟩;have z1:decide (0<=o.unit∧o.unit<=(g.ops.length:Int))=false:=decide_eq_false h12;refine fR (ai @z3 @z1) ?_;exact fT @hf
 have z1:decide (0<=o.unit∧o.unit<=(g.ops.length:Int))=true:=decide_eq_true h12;obtain ⟨h1,h2⟩:=h12;obtain ⟨a,ha⟩:∃ k,d.args[0]?=some k:=⟨_,Taa om⟩;obtain ⟨b,hb⟩:∃ k,d.args[1]?=some k:=⟨_,Taa om⟩;have har:=hdd.args a (Tac ha);have hbr:=hdd.args b (Tac hb);have ga:=kdg hs har;have gb:=kdg hs hbr;have ia:=har.1;have ib:=hbr.1;refine fR (ai @z3 @z1) ?_;refine fB @e0P ?_;refine fC @e0P (cK) ?_;refine fR @e0P ?_
 refine fN 8 (ai @hd @ZaV) ?_;refine Zar 22 (by decide +kernel) ?_;intro ds hds;simp only [List.map] at hds;subst hds;refine (have F:=aj10 ha hb Zbb ga gb gr ia ib ir rK;gP 19 ?_);refine (have F:=ia;gAq ?_);refine (have F:=ia;gAq ?_);refine (have F:=ia;gAq ?_);refine fR @e0P ?_;refine fN 9 @e0P ?_;refine gM (ι:=Bool) [84] [] (fun v=>[(84,A.d (.one (.lit (.bool v))))]) (fun v=>[]) (fun v=>(v=true->kd g.sorts a≠kd g.sorts b∨((o.assoc=true∨o.unit≠0)∧kd g.sorts a≠kd g.sorts d.res))∧(v=false->kd g.sorts a=kd g.sorts b∧¬ ((o.assoc=true∨o.unit≠0)∧kd g.sorts a≠kd g.sorts d.res))) ?_ (fun v hv=>Exists.intro _ (ai (Wk.refl _) ?_))
 ·by_cases hk:kd g.sorts a=kd g.sorts b;rotate_left
  ·have z4:((kd g.sorts a:Int)=(kd g.sorts b:Int))=False:=eq_false om;have F:=@z4;refine gG ?_;exact ⟨true,⟨fun _=>.inl hk,fun h=>(by cases h)⟩,gw,gw⟩
  have z4:((kd g.sorts a:Int)=(kd g.sorts b:Int))=True:=eq_true om
  cases q1:o.assoc with
  | true =>
   by_cases hr:kd g.sorts a=kd g.sorts d.res
   ·have z5:((kd g.sorts a:Int)=(kd g.sorts d.res:Int))=True:=eq_true om;have F:=aj4 @q1 @Zaj @z4 @z5;refine gG ?_;exact ⟨false,⟨fun h=>(by cases h),fun _=>⟨hk,fun h=>h.2 hr⟩⟩,gw,gw⟩
   ·have z5:((kd g.sorts a:Int)=(kd g.sorts d.res:Int))=False:=eq_false om;have F:=aj4 @q1 @Zaj @z4 @z5;refine gG ?_;exact ⟨true,⟨fun _=>.inr ⟨.inl rfl,hr⟩,fun h=>(by cases h)⟩,gw,gw⟩
  | false =>
  by_cases q3:o.unit=0
  ·have z6:=lF 0 o.unit;have F:=aj4 @q1 @Zaj @z4 @z6;refine gG ?_;exact ⟨false,⟨fun h=>(by cases h),fun _=>⟨hk,fun h=>h.1.elim (fun h=>(by cases h)) fun h=>h q3⟩⟩,gw,gw⟩
  ·have z6:=lT 0 o.unit;by_cases hr:kd g.sorts a=kd g.sorts d.res
   ·have z5:((kd g.sorts a:Int)=(kd g.sorts d.res:Int))=True:=eq_true om;have F:=aj5 @q1 @Zaj @z4 @z6 @z5;refine gG ?_;exact ⟨false,⟨fun h=>(by cases h),fun _=>⟨hk,fun h=>h.2 hr⟩⟩,gw,gw⟩
   ·have z5:((kd g.sorts a:Int)=(kd g.sorts d.res:Int))=False:=eq_false om;have F:=aj5 @q1 @Zaj @z4 @z6 @z5;refine gG ?_;exact ⟨true,⟨fun _=>.inr ⟨.inr q3,hr⟩,fun h=>(by cases h)⟩,gw,gw⟩
 obtain ⟨hv1,hv2⟩:=hv
 cases v with
 | true =>
  have hf:=hno fun h=>(hv1 rfl).elim (fun h'=>h' ((h.two hnd d hd).2 a b ha hb).1) fun h'=>h'.2 (((h.two hnd d hd).2 a b ha hb).2.1 h'.1);exact fT @hf
 | false =>
 obtain ⟨hk,hr⟩:=hv2 rfl;by_cases q3:o.unit=0
 ·have z6:(o.unit=0)=True:=eq_true q3;have ht:=Zd3 (ZkI hd h1 h2 h3 ha hb hk hr fun h=>absurd q3 h);exact fT (aj3 @Zaj @z6 @ht)
 have z6:(o.unit=0)=False:=eq_false q3;have hsub:IntKind.i64.wrap (o.unit - 1)=((o.unit.toNat - 1:Nat):Int):=ZaM om om om;obtain ⟨p,hp⟩:∃ p,g.ops[o.unit.toNat - 1]?=some p:=⟨_,Taa om⟩;obtain ⟨u,hu,huu⟩:=(hall p (Tac hp)).first;have cP:=Zf1 hu;rw [ZbZ] at cP;have gu':=kdg hs huu.res;have iu:=huu.res.1;have key:(u.args.length=0∧kd g.sorts u.res=kd g.sorts d.res)->axOk g o=true:=fun h=>Zd3 (ZkI hd h1 h2 h3 ha hb hk hr fun _ p' u' hp' hu'=>by
  rw [hp] at hp';injection hp' with hp';subst hp'
  rw [hu] at hu';injection hu' with hu';subst hu'
  exact h)
 have keyn:¬ (u.args.length=0∧kd g.sorts u.res=kd g.sorts d.res)->axOk g o=false:=fun h=>hno fun hA=>h (((hA.two hnd d hd).2 a b ha hb).2.2 q3 p u hp hu);refine fB (aj5 @z6 @hsub @hp @Zaj @Zap) ?_;refine fC @e0P (cP) ?_;by_cases hl0:u.args.length=0;rotate_left
 ·have hf:=keyn fun h=>hl0 h.1;have z7:((u.args.length:Int)=0)=False:=eq_false om;refine fR @z7 ?_;exact fT @hf
 have z7:((u.args.length:Int)=0)=True:=eq_true om;by_cases hku:kd g.sorts u.res=kd g.sorts d.res
 ·have ht:=key ⟨hl0,hku⟩;have z8:((kd g.sorts u.res:Int)=(kd g.sorts d.res:Int))=True:=eq_true om;refine fR (aj7 @z7 @hu @ZaV @gu' @iu @rK @z8) ?_;exact fT @ht
 ·have hf:=keyn fun h=>hku h.2;have z8:((kd g.sorts u.res:Int)=(kd g.sorts d.res:Int))=False:=eq_false om;refine fR (aj7 @z7 @hu @ZaV @gu' @iu @rK @z8) ?_;exact fT @hf
end
theorem Zlm (a b:List Tm):sizeTms (a++b)=sizeTms a+sizeTms b:=by
 induction a with
 | nil=>simp [sizeTms]
 | cons x xs ih=>simp only [Taf,sizeTms,ih];omega
theorem ZbA {ts:List Tm} {t:Tm} (h:t∈ts):sizeTm t<=sizeTms ts:=by
 induction ts with
 | nil=>cases h
 | cons x xs ih =>
  simp only [sizeTms];rcases Tbg.1 h with rfl | h
  ·omega
  ·have:=ih h;omega
theorem ZqU {ts:List Tm} {i:Nat} {t:Tm} (h:ts[i]?=some t):sizeTms (ts.take (i+1))=sizeTms (ts.take i)+sizeTm t:=by
 rw [ZcN h,Zlm];simp [sizeTms]
theorem ZqV (ts:List Tm) (i:Nat):sizeTms (ts.take i)<=sizeTms ts:=by
 have:=Zlm (ts.take i) (ts.drop i);rw [Tbm] at this;omega
theorem ZbX (ts:List Tm):ts.length<=sizeTms ts:=by
 induction ts with
 | nil=>simp [sizeTms]
 | cons x xs ih=>cases x;simp only [Tag,sizeTms,sizeTm];omega
mutual
def depthTm:Tm->Nat
 | .mk _ _ _ a=>1+depthTms a
def depthTms:List Tm->Nat
 | []=>0
 | t::ts=>max (depthTm t) (depthTms ts)
end
mutual
theorem ZmR:∀ t:Tm,depthTm t<=sizeTm t
 | .mk _ _ _ a=>by
  have:=Zf2 a;simp only [depthTm,sizeTm];omega
theorem Zf2:∀ ts:List Tm,depthTms ts<=sizeTms ts
 | []=>by simp [depthTms]
 | t::ts=>by
  have:=ZmR t;have:=Zf2 ts;simp only [depthTms,sizeTms];omega
end
theorem ZqW (a b:List Tm):depthTms (a++b)=max (depthTms a) (depthTms b):=by
 induction a with
 | nil=>simp [depthTms]
 | cons x xs ih=>simp only [Taf,depthTms,ih];omega
theorem Zjn {ts:List Tm} {i:Nat} {t:Tm} (h:ts[i]?=some t):depthTms (ts.take (i+1))=max (depthTms (ts.take i)) (depthTm t):=by
 rw [ZcN h,ZqW];simp [depthTms]
theorem Zhc {ts:List Tm} {t:Tm} (h:t∈ts):depthTm t<=depthTms ts:=by
 induction ts with
 | nil=>cases h
 | cons x xs ih =>
  simp only [depthTms];rcases Tbg.1 h with rfl | h
  ·omega
  ·have:=ih h;omega
theorem ZnX:∀ op nm so args,Zac (.mk op nm so args)=[.lit (.int .i64 op),.lit (.string nm),.lit (.int .i64 so),.sl (Zaa args)]:=fun _ _ _ _=>by rw [Zac]
theorem ZBM:∀ op nm so args,sizeTm (.mk op nm so args)=1+sizeTms args:=fun _ _ _ _=>by rw [sizeTm]
theorem ZoO:∀ op nm so args,depthTm (.mk op nm so args)=1+depthTms args:=fun _ _ _ _=>by rw [depthTm]
theorem ZoP:sizeTms []=0:=by rw [sizeTms]
theorem ZmS:depthTms []=0:=by rw [depthTms]
def big:Nat:=4611686018427387904
theorem ZlQ:∀ (n:Nat) (t:Tm),sizeTm t < n->sizeTm t<=big->Con e0 70 [.agg (Zac t)] [.one (.lit (.int .i64 (sizeTm t)))]:=by
 intro n
 induction n with
 | zero=>intro t h;omega
 | succ n ih =>
  intro t hn hb;obtain ⟨op,nm,so,args⟩:=t;simp only [sizeTm,big] at hn hb;have hal:=ZbX args;refine gI 1967 Tryz.func70 ?_;refine fG (ai @ZnX @tmz) ?_;have F:=@ZoP;refine gL (ι:=Nat) [3,5,9,10] [] (fun i=>[(9,A.d (.one (.lit (.int .i64 i)))),(3,A.d (.one (.lit (.int .i64 ((1+sizeTms (args.take i):Nat):Int)))))]) (fun i=>[]) (fun i=>i<=args.length) (fun i=>args.length - i) (0) om (fun i hi=>?_);clear F
  by_cases hl:i < args.length;rotate_left
  ·have hl':¬ ((i:Int) < (args.length:Int)):=om;have e:args.take i=args:=List.take_of_length_le om;exact fT (aj3 @hl' @e @ZBM)
  have hl':(i:Int) < (args.length:Int):=om;obtain ⟨a,ha⟩:∃ a,args[i]?=some a:=⟨_,Taa hl⟩;have hs:=ZqU ha;have ht:=ZqV args (i+1);have hm:=ZbA (Tac ha);have hw:IntKind.i64.wrap (((1+sizeTms (args.take i):Nat):Int)+(sizeTm a:Int))=((1+sizeTms (args.take (i+1)):Nat):Int):=ZaM om om om;have hw1:=Zau (k:=i) om;refine fB (aj3 @hl' @tmz @ha) ?_;refine fC @tmz (ih a om (by unfold big;omega)) ?_;refine fR @hw ?_
  have F:=aj3 @hw1 @hw @tmz;refine gG ?_;exact ⟨i+1,om,gw,gw,om⟩
theorem ZjV {t:Tm} (h:sizeTm t<=big):Con e0 70 [.agg (Zac t)] [.one (.lit (.int .i64 (sizeTm t)))]:=ZlQ _ t (Tan _) h
theorem Zk2:∀ (n:Nat) (t:Tm),sizeTm t < n->sizeTm t<=big->Con e0 71 [.agg (Zac t)] [.one (.lit (.int .i64 (depthTm t)))]:=by
 intro n
 induction n with
 | zero=>intro t h;omega
 | succ n ih =>
  intro t hn hb;obtain ⟨op,nm,so,args⟩:=t;simp only [sizeTm,big] at hn hb;have hal:=ZbX args;have hds:=Zf2 args;refine gI 1967 Tryz.func71 ?_;refine fG (ai @ZnX @tmz) ?_;have F:=@ZmS;refine gL (ι:=Nat) [3,5,9,10] [] (fun i=>[(9,A.d (.one (.lit (.int .i64 i)))),(3,A.d (.one (.lit (.int .i64 ((depthTms (args.take i):Nat):Int)))))]) (fun i=>[]) (fun i=>i<=args.length) (fun i=>args.length - i) (0) om (fun i hi=>?_);clear F
  by_cases hl:i < args.length;rotate_left
  ·have hl':¬ ((i:Int) < (args.length:Int)):=om;have e:args.take i=args:=List.take_of_length_le om;have hw:IntKind.i64.wrap ((depthTms args:Int)+1)=((1+depthTms args:Nat):Int):=ZaM om om om;exact fT (aj4 @hl' @e @hw @ZoO)
  have hl':(i:Int) < (args.length:Int):=om;obtain ⟨a,ha⟩:∃ a,args[i]?=some a:=⟨_,Taa hl⟩;have hs:=Zjn ha;have hm:=ZbA (Tac ha);have hw:(if (depthTm a:Int) > (depthTms (args.take i):Int) then (depthTm a:Int) else (depthTms (args.take i):Int))=((depthTms (args.take (i+1)):Nat):Int):=by
   split <;> omega
  have hw1:=Zau (k:=i) om;refine fB (aj3 @hl' @tmz @ha) ?_;refine fC @tmz (ih a om (by unfold big;omega)) ?_;refine fR @hw ?_;have F:=aj3 @hw1 @hw @tmz;refine gG ?_;exact ⟨i+1,om,gw,gw,om⟩
theorem Zjo {t:Tm} (h:sizeTm t<=big):Con e0 71 [.agg (Zac t)] [.one (.lit (.int .i64 (depthTm t)))]:=Zk2 _ t (Tan _) h
theorem ZzA (a b:Int):Con e0 159 [.one (.lit (.int .i64 a)),.one (.lit (.int .i64 b))] [.one (.lit (.int .i64 (max a b)))]:=by
 refine gI 147 Tryz.func159 ?_;by_cases h:b < a
 ·have e:max a b=a:=om;exact fT (ai @h @e)
 ·have e:max a b=b:=om;exact fT (ai @h @e)
theorem Zk3:∀ (n:Nat) (t:Tm),sizeTm t < n->sizeTm t<=big->Con e0 104 [.agg (Zac t)] [.one (.lit (.int .i64 (depthTm t)))]:=by
 intro n
 induction n with
 | zero=>intro t h;omega
 | succ n ih =>
  intro t hn hb;obtain ⟨op,nm,so,args⟩:=t;simp only [sizeTm,big] at hn hb;have hal:=ZbX args;have hds:=Zf2 args;refine gI 543 Tryz.func104 ?_;refine fG (ai @ZnX @tmz) ?_;have F:=@ZmS;refine gL (ι:=Nat) [3,4,9] [] (fun i=>[(4,A.d (.one (.lit (.int .i64 i)))),(3,A.d (.one (.lit (.int .i64 ((depthTms (args.take i):Nat):Int)))))]) (fun i=>[]) (fun i=>i<=args.length) (fun i=>args.length - i) (0) om (fun i hi=>?_);clear F
  by_cases hl:i < args.length;rotate_left
  ·have hl':¬ ((i:Int) < (args.length:Int)):=om;have e:args.take i=args:=List.take_of_length_le om;have hw:IntKind.i64.wrap ((depthTms args:Int)+1)=((1+depthTms args:Nat):Int):=ZaM om om om;exact fT (aj5 @hl' @e @hw @ZoO @tmz)
  have hl':(i:Int) < (args.length:Int):=om;obtain ⟨a,ha⟩:∃ a,args[i]?=some a:=⟨_,Taa hl⟩;have hs:=Zjn ha;have hm:=ZbA (Tac ha);have hw:max (depthTms (args.take i):Int) (depthTm a:Int)=((depthTms (args.take (i+1)):Nat):Int):=om;have hw1:=Zau (k:=i) om;refine fB (aj3 @hl' @tmz @ha) ?_;refine fC (ai @tmz @ha) (ih a om (by unfold big;omega)) ?_;refine fC @tmz (ZzA _ _) ?_;refine fR @hw ?_;have F:=aj3 @hw1 @hw @tmz;refine gG ?_;exact ⟨i+1,om,gw,gw,om⟩
theorem Zpy {t:Tm} (h:sizeTm t<=big):Con e0 104 [.agg (Zac t)] [.one (.lit (.int .i64 (depthTm t)))]:=Zk3 _ t (Tan _) h
def Lks (sb:List (Nat × A)) (mb:List (Nat × Bk)) (σ:St):Prop:=(∀ p∈sb,gs σ.s p.1=p.2)∧∀ p∈mb,gm σ.m p.1=some p.2
def keyB (k:Nat):A->Bool
 | .ref k' _=>k'==k
 | .buf k'=>k'==k
 | .row k' _ _ _=>k'==k
 | _=>false
def Ze7 (d:Nat) (sb:List (Nat × A)) (mb:List (Nat × Bk)):Bool:=sb.all (fun p=>p.1 != d && !keyB d p.2) && mb.all (fun p=>p.1 != d)
theorem Ze8 (k t:Nat):∀ (s:List (Nat × A)),keyB k (gs s t)=false->gs (Zav k s) t=gs s t
 | [],_=>rfl
 | (t',x)::r,h=>by
  have ih:=Ze8 k t r;by_cases ht:t=t'
  ·cases x <;> simp_all [Zav,gs,keyB]
  ·have h2:keyB k (gs r t)=false:=by simpa [gs,ht] using h
   have h3:=ih h2;clear h ih
   cases x <;> simp [Zav,gs,ht,h3]
theorem ZzB {d:Nat} {a:Option Addr} {n cap:Nat} {x:A} (h:keyB d x=false):litB d a n cap x=x:=by
 cases x <;> simp_all [litB,keyB]
section
variable {sb sb':List (Nat × A)} {mb mb':List (Nat × Bk)} {s:List (Nat × A)} {m:List (Nat × Bk)} {d:Nat} {α:A} {bk:Bk} {σ:St}
theorem Lks.app (h:Lks sb mb σ) (h':Lks sb' mb' σ):Lks (sb++sb') (mb++mb') σ :=
 ⟨fun p hp=>(Tbh.1 hp).elim (h.1 p) (h'.1 p),fun p hp=>(Tbh.1 hp).elim (h.2 p) (h'.2 p)⟩
theorem Lks.born (h:Lks sb mb ⟨s,m⟩) (hf:Ze7 d sb mb=true):Lks sb mb ⟨(d,α)::Zav d s,(d,bk)::remM d m⟩:=by
 simp only [Ze7,Tar,List.all_eq_true,bne_iff_ne,ne_eq,Bool.not_eq_true'] at hf;refine ⟨fun p hp=>?_,fun p hp=>?_⟩
 ·have h1:=hf.1 p hp;have h2:=h.1 p hp;simp only [gs,h1.1,if_false];rw [Ze8 _ _ _ (by rw [h2];exact h1.2)];exact h2
 ·have h1:=hf.2 p hp;simp only [gm,h1,if_false,ZaG];exact h.2 p hp
theorem Lks.pin (h:Lks sb mb ⟨s,m⟩) (hf:Ze7 d sb mb=true) {a:Option Addr} {n cap:Nat}:Lks sb mb ⟨(d,α)::mapS (litB d a n cap) (Zav d s),(d,bk)::remM d (remM d m)⟩:=by
 simp only [Ze7,Tar,List.all_eq_true,bne_iff_ne,ne_eq,Bool.not_eq_true'] at hf;refine ⟨fun p hp=>?_,fun p hp=>?_⟩
 ·have h1:=hf.1 p hp;have h2:=h.1 p hp;simp only [gs,h1.1,if_false];rw [ZkA rfl,Ze8 _ _ _ (by rw [h2];exact h1.2),h2];exact ZzB h1.2
 ·have h1:=hf.2 p hp;simp only [gm,h1,if_false,ZaG];exact h.2 p hp
theorem Lks.slot (h:Lks sb mb ⟨s,m⟩) (hf:sb.all (fun p=>p.1 != d)=true):Lks sb mb ⟨(d,α)::s,m⟩:=by
 simp only [List.all_eq_true,bne_iff_ne,ne_eq] at hf;refine ⟨fun p hp=>?_,h.2⟩;simp only [gs,hf p hp,if_false];exact h.1 p hp
theorem Lks.own (h:Lks sb mb ⟨s,m⟩) (hf:mb.all (fun p=>p.1 != d)=true):Lks sb mb ⟨s,(d,bk)::remM d m⟩:=by
 simp only [List.all_eq_true,bne_iff_ne,ne_eq] at hf;refine ⟨h.1,fun p hp=>?_⟩;simp only [gm,hf p hp,if_false,ZaG];exact h.2 p hp
theorem ZmT:∀ {sb:List (Nat × A)} (t:Nat),(∀ p∈sb,gs σ.s p.1=p.2)->gs sb t=gs σ.s t∨gs sb t=.undef
 | [],t,_=>.inr rfl
 | (t',x)::r,t,h=>by
  simp only [gs];by_cases ht:t=t'
  ·have:=h (t',x) (by simp);rw [if_pos ht,ht];exact .inl this.symm
  ·rw [if_neg ht];exact ZmT t fun p hp=>h p (by simp [hp])
theorem ZmU:∀ {mb:List (Nat × Bk)} (t:Nat) (bk:Bk),(∀ p∈mb,gm σ.m p.1=some p.2)->gm mb t=some bk->gm σ.m t=some bk
 | [],t,bk,_,h=>by simp [gm] at h
 | (t',x)::r,t,bk,h,hg=>by
  simp only [gm] at hg;by_cases ht:t=t'
  ·rw [if_pos ht] at hg;injection hg with hg
   have:=h (t',x) (by simp);rw [ht,this,hg]
  ·rw [if_neg ht] at hg;exact ZmU t bk (fun p hp=>h p (by simp [hp])) hg
end
section
variable {e:Env} {mask:Nat} {Q:PX->St->Prop} {ds:List (Option Nat)}
theorem ZmV {os:List Oper} {σ:St} {K K':St->Prop} (h:Runs e ds 0 os σ K) (hk:∀ σ',K σ'->K' σ'):Runs e ds 0 os σ K':=by
 simp only [Runs] at h ⊢;exact fun he U w0 S0 nt a w ops Q hds hd hQ hs=>h he U w0 S0 nt a w ops Q hds hd (fun a w σ' k1 k2=>hQ a w σ' (hk σ' k1) k2) hs
def ZkJ (l:List Oper):Bool:=(List.range l.length).all fun i=>match l[i]? with
 | none=>true
 | some o=>o.guard.isNone && o.after.toList.all fun e=>!Region.binds .any e || decide (e.on < i)
def ZeX (o:Oper):List Nat:=(o.after.toList.filter fun e=>Region.binds .any e).map (·.on)
def Zb0 (L:List Oper) (j:Nat):List Nat:=match L[j]? with
 | some o=>ZeX o
 | none=>[]
def Zhd (e:Env) (ds:List (Option Nat)) (L:List Oper) (B:St->Prop) (P:Nat->St->Prop):Nat->List Oper->Prop
 | _,[]=>True
 | i,o::os=>(∀ s m,B ⟨s,m⟩->(∀ j∈ZeX o,P j ⟨s,m⟩)->Runs e ds 0 [o] ⟨s,m⟩ (fun σ'=>B σ'∧P i σ'∧∀ j,j≠i->i ∉ Zb0 L j->P j ⟨s,m⟩->P j σ'))∧Zhd e ds L B P (i+1) os
theorem Zhd.get {L:List Oper} {B:St->Prop} {P:Nat->St->Prop}:∀ {l:List Oper} {k i:Nat} {o:Oper},Zhd e ds L B P k l->l[i]?=some o->∀ s m,B ⟨s,m⟩->(∀ j∈ZeX o,P j ⟨s,m⟩)->Runs e ds 0 [o] ⟨s,m⟩ (fun σ'=>B σ'∧P (k+i) σ'∧∀ j,j≠k+i->k+i ∉ Zb0 L j->P j ⟨s,m⟩->P j σ')
 | [],k,i,o,_,h=>by simp at h
 | x::l,k,0,o,h,ho=>by
  simp only [Tat,Taq] at ho;subst ho;exact h.1
 | x::l,k,i+1,o,h,ho=>by
  have:=Zhd.get (l:=l) (k:=k+1) (i:=i) (o:=o) h.2 (by simpa using ho);rw [show k+1+i=k+(i+1) by omega] at this;exact this
theorem ZvH {l:List Oper} {K B:St->Prop} {P:Nat->St->Prop} (hb:ZkJ l=true) (hstep:Zhd e ds l B P 0 l) (hK:∀ s m,B ⟨s,m⟩->(∀ i,i < l.length->P i ⟨s,m⟩)->K ⟨s,m⟩) :
  ∀ (f:Nat) (listed:Array Bool) (σ:St),listed.size=l.length->(List.range l.length).countP (fun i=>!listed.getD i true)=f->B σ->(∀ j,listed.getD j false=true->P j σ∧∀ q∈Zb0 l j,listed.getD q false=true)->ZcJ e ds l.toArray K f listed σ:=by
 have hback:∀ i o,l[i]?=some o->o.guard=none∧∀ e∈o.after,Region.binds .any e=true->e.on < i:=fun i o ho=>by
  have h1:=List.all_eq_true.1 hb i (List.mem_range.2 (Tad.1 ho).1);rw [ho] at h1;simp only [Tar,Option.isNone_iff_eq_none,List.all_eq_true,Bool.or_eq_true,Bool.not_eq_true',decide_eq_true_eq] at h1;refine ⟨h1.1,fun e he hbe=>?_⟩;rcases h1.2 e (Array.mem_toList_iff.2 he) with h2 | h2
  ·rw [hbe] at h2;cases h2
  ·exact h2
 have hfirst:∀ (listed:Array Bool),listed.size=l.length->Region.ready .any l.toArray listed=[]->∀ i,i < l.length->listed.getD i false=true:=fun listed hsz h0 i=>by
  induction i using Nat.strongRecOn with
  | _ i ih =>
   intro hi;rw [<- ZbL (by omega:i < listed.size)]
   cases hun:listed.getD i true with
   | true=>rfl
   | false =>
   obtain ⟨o,ho⟩:∃ o,l[i]?=some o:=⟨_,Taa hi⟩;have:=(mem_ready (ops:=l.toArray) (md:=.any)).2 ⟨hun,o,by simpa using ho,fun e he hbe=>ih e.on ((hback i o ho).2 e he hbe) (by have:=(hback i o ho).2 e he hbe;omega)⟩;rw [h0] at this
   cases this
 intro f
 induction f with
 | zero =>
  intro listed σ hsz hc hB hP;have hall:∀ i,i < l.length->listed.getD i true=true:=fun i hi=>by
   have:=List.countP_eq_zero.1 hc i (List.mem_range.2 hi);simpa using this
  refine ⟨?_,hK σ.s σ.m hB fun i hi=>(hP i (by rw [<- ZbL om];exact hall i hi)).1⟩
  cases hr:Region.ready .any l.toArray listed with
  | nil=>rfl
  | cons i r =>
   have hi:i∈Region.ready .any l.toArray listed:=by rw [hr];simp
   obtain ⟨hun,oi,hoi,_⟩:=mem_ready.1 hi;have hil:i < l.length:=by
    have:=(Tbl.1 hoi).1;simpa using this
   rw [hall i hil] at hun
   cases hun
 | succ f ih =>
  intro listed σ hsz hc hB hP;refine ⟨fun h0=>hK σ.s σ.m hB fun i hi=>(hP i (hfirst listed hsz h0 i hi)).1,fun i hi=>?_⟩;obtain ⟨hun,o,hoi,hall⟩:=mem_ready.1 hi;have ho:l[i]?=some o:=by simpa using hoi
  have hil:i < l.length:=(Tad.1 ho).1;have hls:i < listed.size:=om;refine ⟨o,hoi,(hback i o ho).1,ZdX (hback i o ho).1 ?_⟩;have h1:=Zhd.get hstep ho σ.s σ.m hB fun j hj=>by
   simp only [ZeX,Tbi,List.mem_filter] at hj;obtain ⟨e,⟨he,hbe⟩,rfl⟩:=hj;exact (hP e.on (hall e (Array.mem_toList_iff.1 he) hbe)).1
  rw [Nat.zero_add] at h1;refine ZmV h1 fun σ' ⟨k1,k2,k3⟩=>ih _ σ' (by simpa using hsz) ?_ k1 fun j hj=>?_
  ·have h1:(List.range l.length).countP (fun j=>!(listed.setIfInBounds i true).getD j true)+1=(List.range l.length).countP (fun j=>!listed.getD j true):=by
    have hperm:=List.perm_cons_erase (List.mem_range.2 hil);rw [hperm.countP_eq,hperm.countP_eq,List.countP_cons,List.countP_cons];have hcong:((List.range l.length).erase i).countP (fun j=>!(listed.setIfInBounds i true).getD j true)=((List.range l.length).erase i).countP (fun j=>!listed.getD j true):=by
     refine List.countP_congr fun j hj=>?_;have hne:j≠i:=fun e=>by
      subst e;exact List.Nodup.not_mem_erase (List.nodup_range) hj
     rw [getD_set_ne true (Ne.symm hne)]
    rw [hcong,hun];simp [hls]
   omega
  ·by_cases hji:j=i
   ·subst hji;refine ⟨k2,fun q hq=>?_⟩;have hda:Zb0 l j=ZeX o:=by unfold Zb0;rw [ho]
    rw [hda] at hq;simp only [ZeX,Tbi,List.mem_filter] at hq;obtain ⟨e,⟨he,hbe⟩,rfl⟩:=hq;have hlt:=(hback j o ho).2 e (Array.mem_toList_iff.1 he) hbe;rw [getD_set_ne false om];exact hall e (Array.mem_toList_iff.1 he) hbe
   ·rw [getD_set_ne false (Ne.symm hji)] at hj;obtain ⟨p1,p2⟩:=hP j hj;have hni:i ∉ Zb0 l j:=fun hm=>by
     have h2:=p2 i hm;rw [<- ZbL hls,hun] at h2
     cases h2
    refine ⟨k3 j hji hni p1,fun q hq=>?_⟩;by_cases hqi:q=i
    ·subst hqi;exact absurd hq hni
    ·rw [getD_set_ne false (Ne.symm hqi)];exact p2 q hq
theorem gGd {id:Nat} {l:List Oper} {s:List (Nat × A)} {m:List (Nat × Bk)} (B:St->Prop) (P:Nat->St->Prop) (hB:B ⟨s,m⟩) (hS:Zhd e (l.map (·.dst)) l B P 0 l) (hK:∀ s' m',B ⟨s',m'⟩->(∀ i,i < l.length->P i ⟨s',m'⟩)->∃ sf mf,Lks sf mf ⟨s',m'⟩∧Q .normal ⟨sf,mf⟩)
  (hb:ZkJ l=true:=by decide +kernel) (hT:regT l.toArray 0=true:=by decide +kernel):pwp e mask (.region id l.toArray true) ⟨s,m⟩ Q:=fun he U w0 S0 nt a w hok hs=>by
 refine ZiO he hT (K:=fun σ'=>∃ sf mf,Lks sf mf σ'∧Q .normal ⟨sf,mf⟩) (fun a w σ' ⟨sf,mf,h1,h2⟩ h3=>⟨⟨sf,mf⟩,h2,h3.weak (fun t=>ZmT t h1.1) (fun t bk=>ZmU t bk h1.2)⟩) (ZkF hok) hs ?_;simp only [List.take_zero,Runs]
 have:=ZvH (K:=fun σ'=>∃ sf mf,Lks sf mf σ'∧Q .normal ⟨sf,mf⟩) hb hS hK l.length (Zbu l.length 0) ⟨s,m⟩ (by simp [Zbu]) (by
  rw [List.countP_eq_length.2]
  ·simp
  ·intro i hi;have hi':=List.mem_range.1 hi;simp [Zbu,hi']) hB (fun j hj=>by
   have h0:(Zbu l.length 0).getD j false=false:=by
    by_cases hjl:j < l.length
    ·simp [Zbu,hjl]
    ·simp [Zbu,hjl]
   rw [h0] at hj
   cases hj)
 simpa using this
def PG {X:Type} (S:X->Nat->List (Nat × A)) (M:X->Nat->List (Nat × Bk)) (i:Nat) (σ:St):Prop:=∃ x,Lks (S x i) (M x i) σ
section
variable {X:Type} {S:X->Nat->List (Nat × A)} {M:X->Nat->List (Nat × Bk)} {d i:Nat} {L:List Oper} {s:List (Nat × A)} {m:List (Nat × Bk)} {α:A} {bk:Bk}
theorem PG.slot (hf:∀ j,j≠i->i ∉ Zb0 L j->∀ x,(S x j).all (fun p=>p.1 != d)=true):∀ j,j≠i->i ∉ Zb0 L j->PG S M j ⟨s,m⟩->PG S M j ⟨(d,α)::s,m⟩:=fun j h1 h2 ⟨x,h⟩=>⟨x,h.slot (hf j h1 h2 x)⟩
theorem PG.born (hf:∀ j,j≠i->i ∉ Zb0 L j->∀ x,Ze7 d (S x j) (M x j)=true):∀ j,j≠i->i ∉ Zb0 L j->PG S M j ⟨s,m⟩->PG S M j ⟨(d,α)::Zav d s,(d,bk)::remM d m⟩:=fun j h1 h2 ⟨x,h⟩=>⟨x,h.born (hf j h1 h2 x)⟩
theorem PG.pin (hf:∀ j,j≠i->i ∉ Zb0 L j->∀ x,Ze7 d (S x j) (M x j)=true) {a:Option Addr} {n cap:Nat}:∀ j,j≠i->i ∉ Zb0 L j->PG S M j ⟨s,m⟩->PG S M j ⟨(d,α)::mapS (litB d a n cap) (Zav d s),(d,bk)::remM d (remM d m)⟩:=fun j h1 h2 ⟨x,h⟩=>⟨x,h.pin (hf j h1 h2 x)⟩
end
end
theorem ZvI {e:Env} {σ:St} {k k' ety ety' sz sz' cap cap':Nat} {ad ad':Option Addr} {rows rows':List (List C)} (hne:k≠k') (h:gm σ.m k=some (.buf (some (ad,cap)) ety sz rows)) (h':gm σ.m k'=some (.buf (some (ad',cap')) ety' sz' rows')) (hr:0 < rows.length) (hr':0 < rows'.length):Turn e σ (fun σ'=>σ'=σ∧ad≠ad'):=fun he U w0 S0 nt act w hs=>by
 refine ⟨σ,⟨rfl,fun e=>?_⟩,hs⟩;obtain ⟨S,L,h1⟩:=hs;have key:∀ {k ety sz cap:Nat} {ad:Option Addr} {rows:List (List C)},gm σ.m k=some (.buf (some (ad,cap)) ety sz rows)->0 < rows.length->∃ g,vblk (L.v k)=some g∧ad=some ⟨g,0,none⟩:=fun {k ety sz cap ad rows} h hr=>by
  obtain ⟨o1,o2⟩:=h1.cls.own k _ h;have o1:=o1 _ rfl;rcases o2.2.2 with ⟨h3,_⟩ | ⟨g,cap2,cur,hv,hc,_⟩
  ·rw [h3] at hr;simp at hr
  ·refine ⟨g,by rw [hv];simp [vblk];omega,?_⟩;rw [o1] at hv;injection hv with hv _ _
 obtain ⟨g,v1,e1⟩:=key h hr;obtain ⟨g',v2,e2⟩:=key h' hr';rw [e1,e2] at e;injection e with e
 injection e with e _ _
 rw [<- e] at v2;exact hne (h1.cls.inj k k' _ _ g h h' v1 v2)
theorem pA {e:Env} {mask:Nat} {Q:PX->St->Prop} {c:Code} {s:List (Nat × A)} {m:List (Nat × Bk)} {ety ety' sz sz' cap cap':Nat} {ad ad':Option Addr} {rows rows':List (List C)} (k k':Nat) (hK:ad≠ad'->pwp e mask c ⟨s,m⟩ Q) (hr:0 < rows.length) (hr':0 < rows'.length) (hne:k≠k':=by decide) (h:gm m k=some (.buf (some (ad,cap)) ety sz rows):=by exact snv) (h':gm m k'=some (.buf (some (ad',cap')) ety' sz' rows'):=by exact snv):pwp e mask c ⟨s,m⟩ Q :=
 Zcp (ZvI hne h h' hr hr') fun σ' ⟨hσ,ha⟩=>by subst hσ;exact hK ha
def ordS (s:Srt) (f:(Nat->Option Addr × Nat) × C × C × C):Nat->List (Nat × A)
 | 0=>[(20,.d (.agg (Zbo s)))]
 | 1=>[(21,.d (.one (.sl (nR (up s)))))]
 | 2=>[(22,.d (.one (.lit (.int .i64 s.names.length))))]
 | 3=>[(23,.d (.one (.lit (.slice (f.1 23).1 s.names.length (f.1 23).2))))]
 | 4=>[(24,.d (.one (.lit (.int .i64 s.names.length))))]
 | 5=>[(25,.d (.one (.lit (.slice (f.1 25).1 s.names.length (f.1 25).2))))]
 | 6=>[(26,.d (.agg [.sl (nR (up s)),.lit (.slice (f.1 23).1 s.names.length (f.1 23).2),.lit (.slice (f.1 25).1 s.names.length (f.1 25).2)]))]
 | 7=>[(5,.ref 5 0)]
 | 8=>[(5,.ref 5 0)]
 | _=>[]
def ordM (s:Srt) (f:(Nat->Option Addr × Nat) × C × C × C):Nat->List (Nat × Bk)
 | 3=>[(23,.buf (some (f.1 23)) 3 1 (nR (List.replicate s.names.length 0)))]
 | 5=>[(25,.buf (some (f.1 25)) 3 1 (nR (List.replicate s.names.length 0)))]
 | 6=>[(23,.buf (some (f.1 23)) 3 1 (nR (List.replicate s.names.length 0))),(25,.buf (some (f.1 25)) 3 1 (nR (List.replicate s.names.length 0)))]
 | 7=>[(5,.var none [f.2.1,f.2.2.1,f.2.2.2])]
 | 8=>[(5,.var none [.sl (nR (up s)),.lit (.slice (f.1 23).1 s.names.length (f.1 23).2),.lit (.slice (f.1 25).1 s.names.length (f.1 25).2)]),(23,.buf (some (f.1 23)) 3 1 (nR (List.replicate s.names.length 0))),(25,.buf (some (f.1 25)) 3 1 (nR (List.replicate s.names.length 0)))]
 | _=>[]
theorem ZF0:(∀ (u l:List Nat),downs u 0 l=l)∧∀ n,Zer n 0=List.replicate n 0:=⟨fun _ _=>rfl,fun n=>by simp [Zer]⟩
theorem ZFm (i:Nat) (l:List Nat):downIn i l []=l:=rfl
theorem ZzC {ks:List Nat} {j k:Nat} (h:ks[j]?=some k) (i:Nat) (l:List Nat):downIn i l (ks.take (j+1))=(downIn i l (ks.take j)).set k ((downIn i l (ks.take j)).getD k 0 ||| 2 ^ i):=ZiM h l
def ZmW (s:Srt):List (Nat × A):=[(1,.ref 1 0),(2,.ref 2 0),(3,.d (.one (.lit (.bool false)))),(4,.d (.one (.lit (.int .i64 s.names.length))))]
def ZpY (s:Srt):List (Nat × Bk):=[(1,.var none (Zbo s)),(2,.var none [.sl [],.sl [],.sl []])]
def ordB (s:Srt) (σ:St):Prop:=Lks (ZmW s) (ZpY s) σ
section
variable {s:Srt}
theorem ZlR (hok:ZmF s) (hs:¬ SortsOk s):Con e0 69 [.agg (Zbo s)] [.agg [.sl [],.sl [],.sl []],.one (.lit (.bool false))]:=by
 have cI:=Zjm hok;rw [Zgs hs,Zbo] at cI;rw [Zbo];refine gI (ts:=[.cell 2 113,.slot 3]) 569543224310601128703 Tryz.func69 ?_;refine fB @e0P ?_;refine fC @e0P (cI) ?_;refine fR @e0P ?_;exact fD @e0P
theorem ZjW (hok:ZmF s) (hs:SortsOk s):Con e0 69 [.agg (Zbo s)] [.agg (ZeA s),.one (.lit (.bool true))]:=by
 have cI:=Zjm hok;have hSI:=SortsOk.subsIn hs.subs;have cA:=Zjl hs.n1 hs.n8 hs.m16 hSI;rw [Zfo hs] at cI;rw [Zbo] at cI ⊢;refine gI (ts:=[.cell 2 113,.slot 3]) 569543224310601128703 Tryz.func69 ?_;refine fB @e0P ?_;refine fC @e0P (cI) ?_;refine fR @e0P ?_;refine fN 4 @e0P ?_;have hmx:((s.names.length:Int)<=(maxApp:Int))=True:=eq_true (by have:=hs.n8;unfold maxApp;omega);refine gGd (ordB s) (PG (ordS s) (ordM s)) ⟨by simp [ZmW,gs],by simp [ZpY,gm,Zbo]⟩ ⟨?_,?_,?_,?_,?_,?_,?_,?_,?_,trivial⟩ ?_
 rotate_right
 all_goals (intro s' m' hB)
 all_goals (have g1:gs s' 1=.ref 1 0:=hB.1 (1,.ref 1 0) (by simp [ZmW]))
 all_goals (have g4:gs s' 4=.d (.one (.lit (.int .i64 s.names.length))):=hB.1 (4,_) (by simp [ZmW]))
 all_goals (have k1:gm m' 1=some (.var none [.sl (s.names.map Zdz),.sl (s.subs.map ZdV)]):=hB.2 (1,_) (by simp [ZpY,Zbo]))
 ·intro hP;clear g1 g4 k1;obtain ⟨f,h⟩:=hP 8 (by decide);refine ⟨_,_,h.app hB,?_⟩;generalize hp:f.1 23=p;generalize hq:f.1 25=q;obtain ⟨a3,c3⟩:=p;obtain ⟨a5,c5⟩:=q;simp only [ordS,ordM,ZmW,ZpY,Taf,Tah,Zbo,hp,hq];clear hp hq h hB hP s' m' f;refine ⟨_,Wk.refl _,?_⟩;have hU:=ZfX hSI;have lU:=ZaT (l:=up s);rw [hU.1] at lU;have h8:=hs.n8;have rU:=ZaP (l:=up s);refine fN 5 @e0P ?_;have hn1:=hs.n1;have l00:0 < (nR (List.replicate s.names.length 0)).length:=by rw [ZaT,Tbr];omega
  refine pA 23 25 (fun hne=>?_) l00 l00;have hn5:∀ p,(a5=a3∧p)=False:=fun p=>eq_false fun e=>hne e.1.symm;refine fG @lU ?_;have F:=@ZF0;refine gL (ι:=Nat) [6,7,9,30,31,36,37,38,39] [23,25] (fun i=>[(30,A.d (.one (.lit (.int .i64 i))))]) (fun i=>[(23,.buf (some (a3,c3)) 3 1 (nR (downs (up s) i (List.replicate s.names.length 0)))),(25,.buf (some (a5,c5)) 3 1 (nR (Zer s.names.length i)))]) (fun i=>i<=s.names.length) (fun i=>s.names.length - i) (0) (Taj _) (fun i hi=>?_);clear F
  have hDi:=UpOk.downs hU i (l:=List.replicate s.names.length 0) hi (UpOk.zeros _);have lK:=ZaT (l:=Zer s.names.length i);rw [ZoH hi] at lK;by_cases hlt:i < s.names.length
  ·have q1:(i:Int) < (s.names.length:Int):=om;have hw:=Zau (k:=i) om;obtain ⟨gi,bi⟩:=hU.get hlt;have r1:=ZaR gi;have p256:2 ^ s.names.length<=256:=Tbe (Tbt om h8) (by decide);have cL:=ZvF (a:=(up s).getD i 0) om;have hdn:downs (up s) (i+1) (List.replicate s.names.length 0)=downIn i (downs (up s) i (List.replicate s.names.length 0)) (ZeV ((up s).getD i 0)):=rfl;have hks:=ZoG bi;have lks:=ZaT (l:=ZeV ((up s).getD i 0))
   have rks:=ZaP (l:=ZeV ((up s).getD i 0));have hks16:(ZeV ((up s).getD i 0)).length<=64:=Tbe (ZmL _ _) (by decide);have hsh:=Zfq (k:=i) om;refine fB (aj4 @q1 @lU @r1 @rU) ?_;refine fC @e0P (cL) ?_;refine fR @lks ?_;generalize ZeV ((up s).getD i 0)=ks at hdn hks lks rks hks16 ⊢;generalize downs (up s) i (List.replicate s.names.length 0)=l at hdn hDi ⊢;refine fG @lks ?_;have F:=@ZFm;refine gL (ι:=Nat) [9,38,39] [23] (fun j=>[(38,A.d (.one (.lit (.int .i64 j))))]) (fun j=>[(23,.buf (some (a3,c3)) 3 1 (nR (downIn i l (ks.take j))))]) (fun j=>j<=ks.length) (fun j=>ks.length - j) (0) (Taj _) (fun j hj=>?_);clear F
   by_cases hlj:j < ks.length
   ·have q2:(j:Int) < (ks.length:Int):=om;have hwj:=Zau (k:=j) om;obtain ⟨k,hk⟩:∃ k,ks[j]?=some k:=⟨_,Taa hlj⟩;have hkn:=hks k (Tac hk);have r2:=ZaR hk;have hst:=ZzC hk i l;have hV:=UpOk.downIn hlt hDi (ks:=ks.take j) fun q hq=>hks q (List.mem_of_mem_take hq);generalize downIn i l (ks.take j)=v at hst hV ⊢;obtain ⟨gk,bk⟩:=hV.get hkn;have r3:=ZaR gk;have l3:=ZaT (l:=v);rw [hV.1] at l3;have l4:=ZaP (l:=v)
    have l5:=ZcR (l:=v) k (v.getD k 0 ||| 2 ^ i);have p2:2 ^ i < 4611686018427387904:=Zg6 om;have hor:=ZdW (a:=v.getD k 0) (b:=2 ^ i) om p2;have F:=aj14 @q2 @r2 @rks @lks @r3 @l3 @l4 @l5 @hsh @hor @hkn @Zap @hwj @hst;refine gG ?_;exact ⟨j+1,hlj,gw,gw,om⟩
   obtain rfl:j=ks.length:=by omega
   have q2:¬ ((ks.length:Int) < (ks.length:Int)):=om;rw [Tap,<- hdn];have l6:=ZaP (l:=Zer s.names.length i);have l7:=ZcR (l:=Zer s.names.length i) i i;rw [Zzq hlt] at l7;obtain ⟨y,gy⟩:∃ y,(Zer s.names.length i)[i]?=some y:=⟨_,Taa (by rw [ZoH hi];exact hlt)⟩;have r5:=ZaR gy;have F:=aj9 @q2 @hn5 @lK @l6 @l7 @r5 @hlt @hw @Zap;refine gG ?_;exact ⟨i+1,hlt,gw,gw,om⟩
  obtain rfl:i=s.names.length:=by omega
  have q1:¬ ((s.names.length:Int) < (s.names.length:Int)):=om;rw [Zzr,show downs (up s) s.names.length (List.replicate s.names.length 0)=down s from rfl];clear hDi lK;have hK:=KOk.start s.names.length;refine fG @q1 ?_;have F:=@ZuE;refine gL (ι:=Nat) [11,12,62,63,65,66,67,68] [25] (fun j=>[(62,A.d (.one (.lit (.int .i64 j))))]) (fun j=>[(25,.buf (some (a5,c5)) 3 1 (nR (Zeb s.subs j (List.range s.names.length))))]) (fun j=>j<=s.names.length) (fun j=>s.names.length - j) (0) (Taj _) (fun j hj=>?_);clear F
  have hKj:=KOk.iter hSI j hK;have l0:=ZaT (l:=Zeb s.subs j (List.range s.names.length));rw [hKj.1] at l0;by_cases hlj:j < s.names.length;rotate_left
  ·obtain rfl:j=s.names.length:=by omega
   have q2:¬ ((s.names.length:Int) < (s.names.length:Int)):=om;rw [show Zeb s.subs s.names.length (List.range s.names.length)=kinds s from rfl];refine fN 25 @q2 ?_;have lD:=ZaT (l:=down s);rw [(ZEm hSI).1] at lD;have lK:=ZaT (l:=kinds s);rw [(ZiN hSI).1] at lK;refine pD 23 [] [5] ?_ (hr:=by simp only [pz,↓reduceIte,Nat.reduceEqDiff,Nat.reduceAdd,Nat.reduceSub,Nat.reduceMul,Nat.reduceLeDiff,Nat.reduceBEq,Tam,decide_true,decide_false,Int.reduceLE,Int.reduceToNat,Int.reduceLT,Int.reduceEq,eq_self,Nat.reduceShiftRight,Nat.reduceAnd,Nat.reduceBneDiff,lD,hn5,if_false];exact rfl)
   refine pD 25 [] [5] ?_ (hr:=by simp only [pz,↓reduceIte,Nat.reduceEqDiff,Nat.reduceAdd,Nat.reduceSub,Nat.reduceMul,Nat.reduceLeDiff,Nat.reduceBEq,Tam,decide_true,decide_false,Int.reduceLE,Int.reduceToNat,Int.reduceLT,Int.reduceEq,eq_self,Nat.reduceShiftRight,Nat.reduceAnd,Nat.reduceBneDiff,lK,hn5,if_false];exact rfl);exact fD @ZiQ
  have q2:(j:Int) < (s.names.length:Int):=om;have hwj:=Zau (k:=j) om;have hnx:Zeb s.subs (j+1) (List.range s.names.length)=s.subs.foldl kSub (Zeb s.subs j (List.range s.names.length)):=rfl;generalize Zeb s.subs j (List.range s.names.length)=u at hKj hnx l0 ⊢;refine fG (ai @l0 @q2) ?_;have hm16:=hs.m16;have F:=@Zzw;refine gL (ι:=Nat) [11,12,67,68] [25] (fun i=>[(67,A.d (.one (.lit (.int .i64 i))))]) (fun i=>[(25,.buf (some (a5,c5)) 3 1 (nR ((s.subs.take i).foldl kSub u)))]) (fun i=>i<=s.subs.length) (fun i=>s.subs.length - i) (0) (Taj _) (fun i hi=>?_);clear F
  by_cases hli:i < s.subs.length;rotate_left
  ·obtain rfl:i=s.subs.length:=by omega
   have q3:¬ ((s.subs.length:Int) < (s.subs.length:Int)):=om;rw [Tap,<- hnx];have F:=ai @q3 @hwj;refine gG ?_;exact ⟨j+1,hlj,gw,gw,om⟩
  have q3:(i:Int) < (s.subs.length:Int):=om;have hwi:=Zau (k:=i) om;obtain ⟨p,hp⟩:∃ p,s.subs[i]?=some p:=⟨_,Taa hli⟩;have hps:=hSI p (Tac hp);have hst:=ZoL hp u;have hUi:=KOk.foldl hKj (hSI.take i);generalize (s.subs.take i).foldl kSub u=v at hUi hst ⊢;obtain ⟨g1,b1⟩:=hUi.get (i:=p.1.toNat) om;obtain ⟨g2,b2⟩:=hUi.get (i:=p.2.toNat) om;have l1:=ZaR g1;have l2:=ZaR g2;have l3:=ZaT (l:=v);rw [hUi.1] at l3
  have l4:=ZaP (l:=v);have hmin:(if (v.getD p.2.toNat 0:Int) < (v.getD p.1.toNat 0:Int) then (v.getD p.2.toNat 0:Int) else (v.getD p.1.toNat 0:Int))=((min (v.getD p.1.toNat 0) (v.getD p.2.toNat 0):Nat):Int):=by
   split <;> omega
  generalize hmn:min (v.getD p.1.toNat 0) (v.getD p.2.toNat 0)=mn at hmin hst;have l5:=ZcR (l:=v) p.1.toNat mn;have l6:=ZcR (l:=v.set p.1.toNat mn) p.2.toNat mn;have l7:=ZaT (l:=v.set p.1.toNat mn);rw [Taz,hUi.1] at l7;have l8:=ZaP (l:=v.set p.1.toNat mn);obtain ⟨x9,g9⟩:∃ x,(v.set p.1.toNat mn)[p.2.toNat]?=some x:=⟨_,Taa (by rw [Taz,hUi.1];omega)⟩;have l9:=ZaR g9;have i1:0<=p.1:=hps.1;have i2:0<=p.2:=hps.2.2.1
  have i3:p.1.toNat < s.names.length:=om;have i4:p.2.toNat < s.names.length:=om;have hst:(s.subs.take (i+1)).foldl kSub u=(v.set p.1.toNat mn).set p.2.toNat mn:=by rw [hst];unfold kSub;rw [hmn]
  have F:=aj16 @q3 @hp @Zcv @hn5 @l1 @l2 @l3 @l4 @l5 @l6 @l7 @l8 @l9 @i1 @i2 (aj5 @i3 @i4 @hmin @hwi @hst);refine gG ?_;exact ⟨i+1,hli,gw,gw,om⟩
 ·intro _;refine (have F:=ai g1 k1;gO3 ?_);exact ⟨hB.slot rfl,⟨(fun _=>(none,0),.sl [],.sl [],.sl []),by simp [ordS,gs,Zbo],by simp [ordM]⟩,PG.slot (by intro j h1 h2 x;rcases j with _ | _ | _ | _ | _ | _ | _ | _ | _ | j <;> first | rfl | exact absurd rfl h1 | exact absurd (by decide) h2)⟩
 ·intro hP;obtain ⟨f,h0,_⟩:=hP 0 (by decide);have g20:gs s' 20=.d (.agg (Zbo s)):=h0 (_,_) (by simp [ordS]);refine (have F:=g20;gC cA ?_);refine ZaJ ?_;exact ⟨hB.slot rfl,⟨(fun _=>(none,0),.sl [],.sl [],.sl []),by simp [ordS,gs],by simp [ordM]⟩,PG.slot (by intro j h1 h2 x;rcases j with _ | _ | _ | _ | _ | _ | _ | _ | _ | j <;> first | rfl | exact absurd rfl h1 | exact absurd (by decide) h2)⟩
 ·intro _;refine (have F:=g4;gO3 ?_);exact ⟨hB.slot rfl,⟨(fun _=>(none,0),.sl [],.sl [],.sl []),by simp [ordS,gs],by simp [ordM]⟩,PG.slot (by intro j h1 h2 x;rcases j with _ | _ | _ | _ | _ | _ | _ | _ | _ | j <;> first | rfl | exact absurd rfl h1 | exact absurd (by decide) h2)⟩
 ·intro hP;obtain ⟨f,h0,_⟩:=hP 2 (by decide);have g22:gs s' 22=.d (.one (.lit (.int .i64 s.names.length))):=h0 (_,_) (by simp [ordS]);refine (have F:=aj4 g22 hmx @Tby @ZnV;gP 1 ?_);refine gS 23 fun a cap=>?_;refine ZaJ ?_;exact ⟨hB.pin rfl,⟨(fun _=>(a,cap),.sl [],.sl [],.sl []),by simp [ordS,gs],by simp [ordM,gm,nR_0]⟩,PG.pin (by intro j h1 h2 x;rcases j with _ | _ | _ | _ | _ | _ | _ | _ | _ | j <;> first | rfl | exact absurd rfl h1 | exact absurd (by decide) h2)⟩
 ·intro _;refine (have F:=g4;gO3 ?_);exact ⟨hB.slot rfl,⟨(fun _=>(none,0),.sl [],.sl [],.sl []),by simp [ordS,gs],by simp [ordM]⟩,PG.slot (by intro j h1 h2 x;rcases j with _ | _ | _ | _ | _ | _ | _ | _ | _ | j <;> first | rfl | exact absurd rfl h1 | exact absurd (by decide) h2)⟩
 ·intro hP;obtain ⟨f,h0,_⟩:=hP 4 (by decide);have g24:gs s' 24=.d (.one (.lit (.int .i64 s.names.length))):=h0 (_,_) (by simp [ordS]);refine (have F:=aj4 g24 hmx @Tby @ZnV;gP 1 ?_);refine gS 25 fun a cap=>?_;refine ZaJ ?_;exact ⟨hB.pin rfl,⟨(fun _=>(a,cap),.sl [],.sl [],.sl []),by simp [ordS,gs],by simp [ordM,gm,nR_0]⟩,PG.pin (by intro j h1 h2 x;rcases j with _ | _ | _ | _ | _ | _ | _ | _ | _ | j <;> first | rfl | exact absurd rfl h1 | exact absurd (by decide) h2)⟩
 ·intro hP;obtain ⟨f1,h1,_⟩:=hP 1 (by decide);obtain ⟨f3,h3,h3'⟩:=hP 3 (by decide);obtain ⟨f5,h5,h5'⟩:=hP 5 (by decide);have g21:gs s' 21=.d (.one (.sl (nR (up s)))):=h1 (_,_) (by simp [ordS]);have g23:gs s' 23=.d (.one (.lit (.slice (f3.1 23).1 s.names.length (f3.1 23).2))):=h3 (_,_) (by simp [ordS]);have g25:gs s' 25=.d (.one (.lit (.slice (f5.1 25).1 s.names.length (f5.1 25).2))):=h5 (_,_) (by simp [ordS])
  have k23:=h3' (23,_) (by simp [ordM];rfl);have k25:=h5' (25,_) (by simp [ordM];rfl);refine (have F:=aj3 g21 g23 g25;gO3 ?_);exact ⟨hB.slot rfl,⟨(fun k=>if k=23 then f3.1 23 else f5.1 25,.sl [],.sl [],.sl []),by simp [ordS,gs],by simp [ordM];exact ⟨k23,k25⟩⟩,PG.slot (by intro j h1 h2 x;rcases j with _ | _ | _ | _ | _ | _ | _ | _ | _ | j <;> first | rfl | exact absurd rfl h1 | exact absurd (by decide) h2)⟩
 ·intro _;refine (have F:=g4;gO3 ?_);exact ⟨hB.born rfl,⟨(fun _=>(none,0),.sl [],.sl [],.sl []),by simp [ordS,gs],by simp [ordM,gm]⟩,PG.born (by intro j h1 h2 x;rcases j with _ | _ | _ | _ | _ | _ | _ | _ | _ | j <;> first | rfl | exact absurd rfl h1 | exact absurd (by decide) h2)⟩
 ·intro hP;obtain ⟨f6,h6,h6'⟩:=hP 6 (by decide);obtain ⟨f7,h7,h7'⟩:=hP 7 (by decide);have g26:gs s' 26=.d (.agg [.sl (nR (up s)),.lit (.slice (f6.1 23).1 s.names.length (f6.1 23).2),.lit (.slice (f6.1 25).1 s.names.length (f6.1 25).2)]):=h6 (_,_) (by simp [ordS]);have g5:gs s' 5=.ref 5 0:=h7 (_,_) (by simp [ordS]);have k5:gm m' 5=some (.var none [f7.2.1,f7.2.2.1,f7.2.2.2]):=h7' (_,_) (by simp [ordM])
  have k23:=h6' (23,_) (by simp [ordM];rfl);have k25:=h6' (25,_) (by simp [ordM];rfl);refine (have F:=aj3 g26 g5 k5;gO3 ?_);refine ⟨hB.own rfl,⟨f6,by simp [ordS,g5],by simp [ordM,gm,ZaG];exact ⟨k23,k25⟩⟩,?_⟩;intro j q1 q2 ⟨x,q⟩;rcases j with _ | _ | _ | _ | _ | _ | _ | _ | _ | j
  all_goals first
   | exact ⟨x,q.own rfl⟩
   | exact absurd rfl q1
   | exact ⟨(fun _=>(none,0),.sl (nR (up s)),.lit (.slice (f6.1 23).1 s.names.length (f6.1 23).2),.lit (.slice (f6.1 25).1 s.names.length (f6.1 25).2)),by simp [ordS,g5],by simp [ordM,gm]⟩
end
section
variable {g:Sgn}
theorem Zsy {k:Nat} {o:Opr} (h:g.ops[k]?=some o):ZdT (ZbO (g.ops.take k))++[(o.name,.bool true)]=ZdT (ZbO (g.ops.take (k+1))):=by
 rw [ZjU h,ZdT,ZdT,Tbw];rfl
theorem Zsz {l:List Opr} {i k m:Nat} (h:i=k+m) {s:ByteArray} (hs:Zbx (ZbO (l.take k)) s=true):Zbx (ZbO (l.take i)) s=true:=by
 subst h;rw [List.take_add,ZbO,Tbw];unfold Zbx at hs ⊢;rw [List.any_append];rw [ZbO] at hs;rw [hs,Bool.true_or]
theorem ZBN (l:List Opr):ZdT (ZbO (l.take 0))=[]∧ZdT (ZbO [])=[]:=⟨rfl,rfl⟩
theorem Zln (hg:ZdQ g):Con e0 68 [.agg (ZaB g)] [.one (.lit (.bool (ZcI g)))]:=by
 have hno:¬ SgnOk g->ZcI g=false:=ZfZ;rw [ZaB];refine gI 9358620764179268287 Tryz.func68 ?_;by_cases hs:SortsOk g.sorts;rotate_left
 ·have cO:=ZlR hg.1 hs;have hf:=hno fun h=>hs h.sorts;rw [Zbo] at cO;refine fB @e0P ?_;refine fC @e0P (cO) ?_;refine fR @e0P ?_;exact fT @hf
 have cO:=ZjW hg.1 hs;rw [Zbo] at cO;refine fB @e0P ?_;refine fC @e0P (cO) ?_;refine fR @ZiQ ?_;by_cases h14:g.ops.length<=14;rotate_left
 ·have z1:=lT 14 g.ops.length;have hf:=hno fun h=>h14 h.len;exact fT (ai @z1 @hf)
 have z1:=lF 14 g.ops.length;refine fN 4 @z1 ?_;refine gB ?_;refine gMk fun b=>?_;refine fR @e0P ?_;refine fG @e0P ?_;have F:=((ZBN g.ops));refine gL (ι:=Nat) [2,7,28,29,47] [24] (fun i=>[(28,A.d (.one (.lit (.int .i64 i))))]) (fun i=>[(24,mapB b (ZdT (ZbO (g.ops.take i))))]) (fun i=>i<=g.ops.length∧(∀ (j:Nat) (o:Opr),j < i->g.ops[j]?=some o->ZbF o.name=true∧Zbx (ZbO (g.ops.take j)) o.name=false)∧(∀ o∈g.ops.take i,DeclsOk g.sorts o)) (fun i=>g.ops.length - i) (0) (⟨Taj _,fun j o h=>absurd h om,fun o h=>by simp at h⟩) (fun i hi=>?_);clear F
 obtain ⟨hil,hnm,hdc⟩:=hi;by_cases hlt:i < g.ops.length
 ·have q1:(i:Int) < (g.ops.length:Int):=om;obtain ⟨o,ho⟩:∃ o,g.ops[i]?=some o:=⟨_,Taa hlt⟩;have hom:=Tac ho;have hw:=Zau (k:=i) om;have hfs:=ZmO (ZbO (g.ops.take i)) o.name;have hbad:¬ (ZbF o.name=true∧Zbx (ZbO (g.ops.take i)) o.name=false)->ZcI g=false:=fun h=>hno fun hs=>h (hs.names i o ho);have hbad2:Zcz g.sorts o=false->ZcI g=false:=fun h=>hno fun hs=>by rw [Zfp (hs.decls o hom)] at h;cases h
  have cN:=Zg8 (hg.2 o hom).1;have cD:=Zpx hs o;rw [ZbZ,ZeA] at cD;refine fN 8 (aj3 @q1 @ho @Zaj) ?_;refine gB ?_;have F:=@e0P;refine gP 3 ?_;clear F
  cases hh:Zbx (ZbO (g.ops.take i)) o.name with
  | true =>
   rw [hh] at hfs hbad;have hf:=hbad fun h=>by cases h.2
   refine (have F:=e0P;gLk 24 ZgP Zef ZkH (v:=.bool true) (by rw [hfs];rfl) ?_);refine fR @e0P ?_;exact fT @hf
  | false =>
  rw [hh] at hfs hbad;refine (have F:=e0P;gLk 24 ZgP Zef ZkH (v:=.bool false) (by rw [hfs];rfl) ?_);refine fC @e0P (cN) ?_
  cases hn:ZbF o.name with
  | false =>
   have hf:=hbad fun h=>by rw [hn] at h;cases h.1
   refine fR @e0P ?_;exact fT @hf
  | true =>
  refine fC @ZiQ (cD) ?_
  cases hd:Zcz g.sorts o with
  | false =>
   have hf:=hbad2 hd;refine fR @e0P ?_;exact fT @hf
  | true =>
  have hq:i+1<=g.ops.length∧(∀ (j:Nat) (o:Opr),j < i+1->g.ops[j]?=some o->ZbF o.name=true∧Zbx (ZbO (g.ops.take j)) o.name=false)∧(∀ o∈g.ops.take (i+1),DeclsOk g.sorts o):=⟨hlt,fun j o' hj ho'=>by
   by_cases e:j=i
   ·subst e;rw [ho] at ho';injection ho' with ho'
    subst ho';exact ⟨hn,hh⟩
   ·exact hnm j o' om ho',fun o' ho'=>by
   rw [ZcN ho] at ho';rcases Tbh.1 ho' with h | h
   ·exact hdc o' h
   ·rw [Tbj.1 h];exact Zlk.1 hd⟩
  have hsn:=Zsy ho;refine fR @e0P ?_;refine fN 10 @e0P ?_;refine gB ?_;have F:=@e0P;refine gP 3 ?_;clear F;refine (have F:=e0P;gUp 24 ZgP Zef (by rw [hfs];rfl) ?_);rw [hsn];refine fR @e0P ?_;have F:=@hw;refine gG ?_;exact ⟨i+1,hq,gw,gw,om⟩
 obtain rfl:i=g.ops.length:=by omega
 have q1:¬ ((g.ops.length:Int) < (g.ops.length:Int)):=om;rw [Tap] at hdc;have hnames:∀ (i:Nat) (o:Opr),g.ops[i]?=some o->ZbF o.name=true∧Zbx (ZbO (g.ops.take i)) o.name=false:=fun i o ho=>hnm i o (Tad.1 ho).1 ho;refine fG @q1 ?_;have F:=@e0P;refine gL (ι:=Nat) [2,9,55,56,63] [] (fun k=>[(55,A.d (.one (.lit (.int .i64 k))))]) (fun k=>[]) (fun k=>k<=g.ops.length∧∀ o∈g.ops.take k,AxOk g o) (fun k=>g.ops.length - k) (0) (⟨Taj _,fun o h=>by simp at h⟩) (fun k hk=>?_);clear F
 obtain ⟨hkl,hax⟩:=hk;by_cases hlk:k < g.ops.length;rotate_left
 ·obtain rfl:k=g.ops.length:=by omega
  rw [Tap] at hax;have q2:¬ ((g.ops.length:Int) < (g.ops.length:Int)):=om;have ht:=ZgC ⟨hs,h14,hnames,hdc,hax⟩;exact fT (ai @q2 @ht)
 have q2:(k:Int) < (g.ops.length:Int):=om;obtain ⟨o,ho⟩:∃ o,g.ops[k]?=some o:=⟨_,Taa hlk⟩;have hom:=Tac ho;have hw:=Zau (k:=k) om;have cA:=ZnW hs hdc hom h14;rw [ZbZ,ZeA,ZaB] at cA;refine fB (aj3 @q2 @ho @Zaj) ?_;refine fC @ZiQ (cA) ?_
 cases ha:axOk g o with
 | false =>
  have hf:=hno fun h=>by rw [Zd3 (h.axs o hom)] at ha;cases ha
  refine fR @e0P ?_;exact fT @hf
 | true =>
 have hq:k+1<=g.ops.length∧∀ o∈g.ops.take (k+1),AxOk g o:=⟨hlk,fun o' ho'=>by
  rw [ZcN ho] at ho';rcases Tbh.1 ho' with h | h
  ·exact hax o' h
  ·rw [Tbj.1 h];exact ZqM.1 ha⟩
 refine fR @e0P ?_;have F:=@hw;refine gG ?_;exact ⟨k+1,hq,gw,gw,om⟩
theorem ZsA (hg:ZdQ g):Con e0 51 [.agg (ZaB g)] [.one (.lit (.bool (ZcI g)))]:=by
 have hno:¬ SgnOk g->ZcI g=false:=ZfZ;have cS:=Zpw hg.1;rw [Zbo] at cS;rw [ZaB];refine gI 599807422667317870655 Tryz.func51 ?_;refine fB @e0P ?_;refine fC @e0P (cS) ?_
 cases hss:Zcf g.sorts with
 | false =>
  have hf:=hno fun h=>by rw [Zfo h.sorts] at hss;cases hss
  refine fR @e0P ?_;exact fT @hf
 | true =>
 have hs:=Zss.1 hss;by_cases h14:g.ops.length<=14;rotate_left
 ·have z1:=lT 14 g.ops.length;have hf:=hno fun h=>h14 h.len;refine fR @z1 ?_;exact fT @hf
 have z1:=lF 14 g.ops.length;refine fR @z1 ?_;refine fG @e0P ?_;have F:=@e0P;refine gL (ι:=Nat) [2,3,4,20,40,43,58] [] (fun i=>[(3,A.d (.one (.lit (.int .i64 i))))]) (fun i=>[]) (fun i=>i<=g.ops.length∧(∀ (j:Nat) (o:Opr),j < i->g.ops[j]?=some o->ZbF o.name=true∧Zbx (ZbO (g.ops.take j)) o.name=false)∧(∀ o∈g.ops.take i,DeclsOk g.sorts o)) (fun i=>g.ops.length - i) (0) (⟨Taj _,fun j o h=>absurd h om,fun o h=>by simp at h⟩) (fun i hi=>?_);clear F
 obtain ⟨hil,hnm,hdc⟩:=hi;by_cases hlt:i < g.ops.length
 ·have q1:(i:Int) < (g.ops.length:Int):=om;obtain ⟨o,ho⟩:∃ o,g.ops[i]?=some o:=⟨_,Taa hlt⟩;have hom:=Tac ho;have hw:=Zau (k:=i) om;have hbad:¬ (ZbF o.name=true∧Zbx (ZbO (g.ops.take i)) o.name=false)->ZcI g=false:=fun h=>hno fun hs=>h (hs.names i o ho);have hbad2:Zcz g.sorts o=false->ZcI g=false:=fun h=>hno fun hs=>by rw [Zfp (hs.decls o hom)] at h;cases h
  have cN:=Zg9 (hg.2 o hom).1;have cD:=Zsx (g:=g) hs o;rw [ZbZ,ZaB] at cD;refine fB @q1 ?_;refine fC (ai @ho @Zaj) (cN) ?_
  cases hn:ZbF o.name with
  | false =>
   have hf:=hbad fun h=>by rw [hn] at h;cases h.1
   refine fR @e0P ?_;exact fT @hf
  | true =>
  refine fC (ai @ho @Zaj) (cD) ?_
  cases hd:Zcz g.sorts o with
  | false =>
   have hf:=hbad2 hd;refine fR @e0P ?_;exact fT @hf
  | true =>
  refine fR @e0P ?_;refine fG @e0P ?_;have F:=@e0P;refine gL (ι:=Nat) [2,4,43,58] [] (fun k=>[(4,A.d (.one (.lit (.int .i64 k))))]) (fun k=>[]) (fun k=>k<=i∧Zbx (ZbO (g.ops.take k)) o.name=false) (fun k=>i - k) (0) (⟨Taj _,rfl⟩) (fun k hk=>?_);clear F;obtain ⟨hkl,hseen⟩:=hk;by_cases hlk:k < i
  ·have q2:(k:Int) < (i:Int):=om;obtain ⟨p,hp⟩:∃ o,g.ops[k]?=some o:=⟨_,Taa om⟩;have hw2:=Zau (k:=k) om;have hsn:=Zsu (ZbO (g.ops.take k)) p.name o.name;rw [hseen,Bool.false_or,ZuB,<- ZjU hp] at hsn
   cases hb:(p.name.toList==o.name.toList) with
   | true =>
    rw [hb] at hsn;have hbp:(p.name.toList==o.name.toList)=true:=hb;have hf:=hbad fun h=>by
     obtain ⟨m,hm⟩:∃ m,i=k+1+m:=⟨i - (k+1),om⟩;have h2:=h.2;rw [Zsz hm hsn] at h2
     cases h2
    exact fT (aj6 @q2 @ho @hp @Zaj @hb @hf)
   | false =>
    rw [hb] at hsn;have F:=aj6 @q2 @ho @hp @Zaj @hb @hw2;refine gG ?_;exact ⟨k+1,⟨hlk,hsn⟩,gw,gw,om⟩
  obtain rfl:k=i:=by omega
  have q2:=lF k k;have hq:k+1<=g.ops.length∧(∀ (j:Nat) (o:Opr),j < k+1->g.ops[j]?=some o->ZbF o.name=true∧Zbx (ZbO (g.ops.take j)) o.name=false)∧(∀ o∈g.ops.take (k+1),DeclsOk g.sorts o):=⟨hlt,fun j o' hj ho'=>by
   by_cases e:j=k
   ·subst e;rw [ho] at ho';injection ho' with ho'
    subst ho';exact ⟨hn,hseen⟩
   ·exact hnm j o' om ho',fun o' ho'=>by
   rw [ZcN ho] at ho';rcases Tbh.1 ho' with h | h
   ·exact hdc o' h
   ·rw [Tbj.1 h];exact Zlk.1 hd⟩
  have F:=ai @q2 @hw;refine gG ?_;exact ⟨k+1,hq,gw,gw,om⟩
 obtain rfl:i=g.ops.length:=by omega
 have q1:¬ ((g.ops.length:Int) < (g.ops.length:Int)):=om;rw [Tap] at hdc;have hnames:∀ (i:Nat) (o:Opr),g.ops[i]?=some o->ZbF o.name=true∧Zbx (ZbO (g.ops.take i)) o.name=false:=fun i o ho=>hnm i o (Tad.1 ho).1 ho;refine fG @q1 ?_;have F:=@e0P;refine gL (ι:=Nat) [2,5,63,69] [] (fun k=>[(5,A.d (.one (.lit (.int .i64 k))))]) (fun k=>[]) (fun k=>k<=g.ops.length∧∀ o∈g.ops.take k,AxOk g o) (fun k=>g.ops.length - k) (0) (⟨Taj _,fun o h=>by simp at h⟩) (fun k hk=>?_);clear F
 obtain ⟨hkl,hax⟩:=hk;by_cases hlk:k < g.ops.length;rotate_left
 ·obtain rfl:k=g.ops.length:=by omega
  rw [Tap] at hax;have q2:¬ ((g.ops.length:Int) < (g.ops.length:Int)):=om;have ht:=ZgC ⟨hs,h14,hnames,hdc,hax⟩;exact fT (ai @q2 @ht)
 have q2:(k:Int) < (g.ops.length:Int):=om;obtain ⟨o,ho⟩:∃ o,g.ops[k]?=some o:=⟨_,Taa hlk⟩;have hom:=Tac ho;have hw:=Zau (k:=k) om;have cA:=ZqT hs hdc ho h14;rw [ZaB] at cA;refine fB @q2 ?_;refine fC @e0P (cA) ?_
 cases ha:axOk g o with
 | false =>
  have hf:=hno fun h=>by rw [Zd3 (h.axs o hom)] at ha;cases ha
  refine fR @e0P ?_;exact fT @hf
 | true =>
 have hq:k+1<=g.ops.length∧∀ o∈g.ops.take (k+1),AxOk g o:=⟨hlk,fun o' ho'=>by
  rw [ZcN ho] at ho';rcases Tbh.1 ho' with h | h
  ·exact hax o' h
  ·rw [Tbj.1 h];exact ZqM.1 ha⟩
 refine fR @e0P ?_;have F:=@hw;refine gG ?_;exact ⟨k+1,hq,gw,gw,om⟩
end
theorem ZeN (s:ByteArray):(s.toList==ByteArray.toList { data:=#[] })=decide (s=ByteArray.empty):=by
 rw [Bool.eq_iff_iff,beq_iff_eq,decide_eq_true_iff,ByteArray.toList_eq,ByteArray.toList_eq];constructor
 ·intro h
  cases s with
  | mk d =>
   have:d=#[]:=by apply Array.toList_inj.1;exact h
   rw [this];rfl
 ·rintro rfl;rfl
def encX (g:Sgn) (mc:C):List C:=[.sl ((Zb7 (up g.sorts)).map encInt),.sl ((Zb7 (down g.sorts)).map encInt),.sl ((Zb7 (kinds g.sorts)).map encInt),.sl (g.sorts.names.map Zdz),.sl (g.sorts.subs.map ZdV),.sl (g.ops.map ZbZ),mc]
theorem Za4:∀ (g:Sgn) (mc:C),encX g mc=[.sl ((Zb7 (up g.sorts)).map encInt),.sl ((Zb7 (down g.sorts)).map encInt),.sl ((Zb7 (kinds g.sorts)).map encInt),.sl (g.sorts.names.map Zdz),.sl (g.sorts.subs.map ZdV),.sl (g.ops.map ZbZ),mc]:=fun _ _=>rfl
theorem ZqX {s:Srt} (h:SortsOk s):(up s).length=s.names.length:=(ZfX (SortsOk.subsIn h.subs)).1
theorem Zhe {s:Srt} (h:SortsOk s) {k:Int} (h0:0<=k) (h1:k < s.names.length):(Zb7 (kinds s))[k.toNat]?=some ((kd s k:Nat):Int):=by
 have hk:=ZiN (SortsOk.subsIn h.subs);have hl:k.toNat < (kinds s).length:=by rw [hk.1];omega
 unfold Zb7 kd;rw [Tba,Taa hl];simp [List.getD,Taa hl]
def Zcj (g:Sgn) (t:Tm):Prop:=t.op=-1∧ZbF t.name=true∧0<=t.sort∧t.sort < g.sorts.names.length∧t.args=[]
open Classical in
noncomputable def Zfr (g:Sgn) (t:Tm):Bool:=decide (Zcj g t)
structure AppOk (g:Sgn) (t:Tm) (o:Opr) (d:Dcl):Prop where
 lo:0<=t.op
 at':g.ops[t.op.toNat]?=some o
 fst:o.decls[0]?=some d
 nm:t.name=ByteArray.empty
 so:t.sort=0
 asc:o.assoc=true->2<=t.args.length∧t.args.length<=7
 nas:o.assoc=false->t.args.length=d.args.length
def Zc6 (g:Sgn) (t:Tm):Prop:=Zcj g t∨∃ o d,AppOk g t o d
def ZvJ (g:Sgn) (op:Int):Int:=((g.ops[op.toNat]?.bind (·.decls[0]?)).map (·.res)).getD 0
def Zb1 (g:Sgn) (t:Tm):Int:=if t.op=-1 then kd g.sorts t.sort else kd g.sorts (ZvJ g t.op)
def argAt (o:Opr) (i:Nat):Nat:=if o.assoc=true then 0 else i
theorem ZkK:∀ (o:Opr) (i:Nat),argAt o i=if o.assoc=true then 0 else i:=fun _ _=>rfl
structure ArgOk (g:Sgn) (op:Int) (o:Opr) (d:Dcl) (args:List Tm) (i:Nat) (a:Tm):Prop where
 kind:∀ k,d.args[argAt o i]?=some k->Zb1 g a=kd g.sorts k
 nest:o.assoc=true->a.op≠op
 unit:o.unit≠0->a.op≠o.unit - 1
 ord:o.comm=true->∀ (j:Nat) p,i=j+1->args[j]?=some p->Zai p a<=0
def Zie (g:Sgn) (op:Int) (args:List Tm):Prop:=∀ o d,g.ops[op.toNat]?=some o->o.decls[0]?=some d->∀ (i:Nat) a,args[i]?=some a->ArgOk g op o d args i a
mutual
def ZaF (g:Sgn):Tm->Prop
 | .mk op nm so args=>Zc6 g (.mk op nm so args)∧ZcA g args∧(op=-1∨Zie g op args)
def ZcA (g:Sgn):List Tm->Prop
 | []=>True
 | t::ts=>ZaF g t∧ZcA g ts
end
theorem ZeY {g:Sgn} {ts:List Tm}:ZcA g ts ↔ ∀ a∈ts,ZaF g a:=by
 induction ts with
 | nil=>simp [ZcA]
 | cons t ts ih=>simp [ZcA,ih]
theorem ZaY {g:Sgn} {t:Tm}:ZaF g t ↔ Zc6 g t∧(∀ a∈t.args,ZaF g a)∧(t.op=-1∨Zie g t.op t.args):=by
 cases t
 simp only [ZaF,ZeY,Tm.args,Tm.op]
theorem ZaF.node {g:Sgn} {t:Tm} (h:ZaF g t):Zc6 g t:=(ZaY.1 h).1
open Classical in
noncomputable def Zcc (g:Sgn) (t:Tm):Bool:=decide (ZaF g t)
theorem Zf3 {g:Sgn} {t:Tm} (h:ZaF g t):Zcc g t=true:=by simp [Zcc,h]
theorem ZjX {g:Sgn} {t:Tm} (h:¬ ZaF g t):Zcc g t=false:=by simp [Zcc,h]
theorem ZmX {g:Sgn} {t:Tm}:Zcc g t=true ↔ ZaF g t:=by simp [Zcc]
theorem SgnOk.first {g:Sgn} (h:SgnOk g) {i:Nat} {o:Opr} (ho:g.ops[i]?=some o):∃ d,o.decls[0]?=some d∧(0:Int)<=d.res∧d.res < (g.sorts.names.length:Int)∧∀ k:Int,k∈d.args->0<=k∧k < (g.sorts.names.length:Int):=by
 have hm:=Tac ho;obtain ⟨d,hd,hD⟩:=(h.decls o hm).first;exact ⟨d,hd,hD.res.1,hD.res.2,hD.args⟩
theorem ZiR {g:Sgn} {op:Int} {o:Opr} {d:Dcl} (ho:g.ops[op.toNat]?=some o) (hd:o.decls[0]?=some d):ZvJ g op=d.res:=by simp [ZvJ,ho,hd]
theorem AppOk.op {g:Sgn} {t:Tm} {o:Opr} {d:Dcl} (h:AppOk g t o d):t.op≠-1:=by have:=h.lo;omega
section
variable {g:Sgn} {mc:C}
theorem ZEr (hg:SgnOk g) (k:Int):Con e0 135 [.agg [.sl ((Zb7 (up g.sorts)).map encInt),.sl ((Zb7 (down g.sorts)).map encInt),.sl ((Zb7 (kinds g.sorts)).map encInt)],.one (.lit (.int .i64 k))] [.one (.lit (.bool (decide (0<=k∧k < g.sorts.names.length))))]:=by
 have hl:=ZqX hg.sorts;refine gI 23 Tryz.func135 ?_;by_cases h0:0<=k
 ·have e:decide (0<=k∧k < (g.sorts.names.length:Int))=decide (k < (g.sorts.names.length:Int)):=by simp [h0]
  rw [e];exact fT (aj3 @h0 @ZoE @hl)
 ·have e:decide (0<=k∧k < (g.sorts.names.length:Int))=false:=by simp [h0]
  rw [e];exact fT @h0
theorem ZmY (hg:SgnOk g) {t:Tm} (ht:Zc6 g t):Con e0 125 [.one (.ptr (encX g mc)),.agg (Zac t)] [.one (.lit (.int .i64 (Zb1 g t)))]:=by
 refine gI 155 Tryz.func125 ?_;rcases ht with ⟨h1,h2,h3,h4,h5⟩ | ⟨o,d,h⟩
 ·have hn:(-1:Int) < 0:=om;have hk:=Zhe hg.sorts h3 h4;have e:Zb1 g t=kd g.sorts t.sort:=by simp [Zb1,h1]
  exact fT (aj8 @tmz @h1 @hn @Za4 @h3 @hk @Zbb @e)
 ·have hn:¬ (t.op < 0):=by have:=h.lo;omega
  obtain ⟨d',hd',hr0,hr1,_⟩:=hg.first h.at';rw [h.fst] at hd';injection hd' with hd'
  subst hd';have hk:=Zhe hg.sorts hr0 hr1;have e:Zb1 g t=kd g.sorts d.res:=by simp [Zb1,h.op,ZiR h.at' h.fst]
  have hlo:=h.lo;have hat:=h.at';have hfst:=h.fst;exact fT (aj12 @tmz @hn @Za4 @hlo @hat @Zaj @hfst @ZaV @hr0 @hk @Zbb @e)
theorem Zlo (hg:SgnOk g) {op:Int} {i:Nat} {o:Opr} {d:Dcl} {k:Int} (h0:0<=op) (ho:g.ops[op.toNat]?=some o) (hd:o.decls[0]?=some d) (hk:d.args[argAt o i]?=some k):Con e0 126 [.one (.ptr (encX g mc)),.one (.lit (.int .i64 op)),.one (.lit (.int .i64 i))] [.one (.lit (.int .i64 (kd g.sorts k)))]:=by
 obtain ⟨d',hd',_,_,hk0⟩:=hg.first ho;rw [hd] at hd';injection hd' with hd'
 subst hd';obtain ⟨k0,k1⟩:=hk0 k (Tac hk);have hkd:=Zhe hg.sorts k0 k1;refine gI 131271 Tryz.func126 ?_;unfold argAt at hk
 cases ha:o.assoc with
 | true =>
  rw [ha] at hk;simp only [↓reduceIte] at hk;exact fT (aj11 @Za4 @h0 @ho @Zaj @ha @hd @ZaV @hk @k0 @hkd @Zbb)
 | false =>
  rw [ha] at hk;simp only [Tam,↓reduceIte] at hk;exact fT (aj11 @Za4 @h0 @ho @Zaj @ha @hd @ZaV @hk @k0 @hkd @Zbb)
theorem ZmZ (hg:SgnOk g) {op:Int} {o:Opr} (h0:0<=op) (ho:g.ops[op.toNat]?=some o) (t:Tm):Con e0 127 [.one (.ptr (encX g mc)),.one (.lit (.int .i64 op)),.agg (Zac t)] [.one (.lit (.bool (decide (o.unit≠0∧t.op=o.unit - 1))))]:=by
 have hax:=hg.axs o (Tac ho);have hlo:=hax.lo;have hhi:=hax.hi;have hln:=hg.len;have hw:IntKind.i64.wrap (o.unit - 1)=o.unit - 1:=ZaM rfl om om;refine gI 103 Tryz.func127 ?_;by_cases hu:o.unit=0
 ·have e:decide (o.unit≠0∧t.op=o.unit - 1)=false:=by simp [hu]
  rw [e];exact fT (aj6 @Za4 @tmz @h0 @ho @Zaj @hu)
 ·have e:decide (o.unit≠0∧t.op=o.unit - 1)=decide (t.op=o.unit - 1):=by simp [hu]
  rw [e];exact fT (aj7 @Za4 @tmz @h0 @ho @Zaj @hu @hw)
theorem Zif (hg:SgnOk g) {t:Tm} (hs:t.name.size<=maxLen):Con e0 81 [.one (.ptr (encX g mc)),.agg (Zac t)] [.one (.lit (.bool (Zfr g t)))]:=by
 have hno:¬ Zcj g t->Zfr g t=false:=fun h=>by simp [Zfr,h]
 refine gI 27 Tryz.func81 ?_;refine fG @tmz ?_;by_cases h1:t.op=-1;rotate_left
 ·have hf:=hno fun h=>h1 h.1;exact fT (aj3 @tmz @h1 @hf)
 refine gB ?_;refine fC (ai @tmz @h1) (Zg8 hs) ?_;by_cases h2:ZbF t.name=true;rotate_left
 ·have hf:=hno fun h=>h2 h.2.1;have h2':ZbF t.name=false:=by simpa using h2
  refine fR (ai @tmz @h2') ?_;exact fT (ai @tmz @hf)
 refine fC (aj3 @tmz @h2 @Za4) (ZEr hg t.sort) ?_;by_cases h3:0<=t.sort∧t.sort < g.sorts.names.length;rotate_left
 ·have hf:=hno fun h=>h3 ⟨h.2.2.1,h.2.2.2.1⟩;have h3':decide (0<=t.sort∧t.sort < (g.sorts.names.length:Int))=false:=by simp only [decide_eq_false_iff_not];exact h3
  refine fR (ai @tmz @h3') ?_;exact fT (ai @tmz @hf)
 have h3':decide (0<=t.sort∧t.sort < (g.sorts.names.length:Int))=true:=by simp only [decide_eq_true_eq];exact h3
 by_cases h4:t.args=[]
 ·have hT:Zfr g t=true:=by simp only [Zfr,decide_eq_true_eq];exact ⟨h1,h2,h3.1,h3.2,h4⟩
  refine fR (aj3 @tmz @h3' @h4) ?_;exact fT (ai @tmz @hT)
 ·have hf:=hno fun h=>h4 h.2.2.2.2;have h4':¬ ((t.args.length:Int)=0):=by
   intro h;apply h4;apply Tao;omega
  refine fR (aj3 @tmz @h3' @h4') ?_;exact fT (ai @tmz @hf)
end
theorem ZfH {t:Tm}:okTm t ↔ I64 t.op∧t.name.size<=maxLen∧I64 t.sort∧ZaD t.args:=by cases t;simp only [okTm,Tm.op,Tm.name,Tm.sort,Tm.args]
theorem Zbt (t:Tm):sizeTm t=1+sizeTms t.args:=by cases t;simp only [sizeTm,Tm.args]
theorem ZgE (t:Tm):depthTm t=1+depthTms t.args:=by cases t;simp only [depthTm,Tm.args]
theorem ZvK {g:Sgn} {t:Tm} (h:t.op=-1):Zcc g t=Zfr g t:=by
 unfold Zcc Zfr;congr 1;rw [ZaY];apply propext;constructor
 ·rintro ⟨h1 | ⟨o,d,h1⟩,_⟩
  ·exact h1
  ·have:=h1.lo;omega
 ·intro h1;exact ⟨.inl h1,fun a ha=>(by rw [h1.2.2.2.2] at ha;cases ha),.inl h⟩
theorem Zc6.app {g:Sgn} {t:Tm} (h:Zc6 g t) (hop:t.op≠-1):∃ o d,AppOk g t o d:=by
 rcases h with h | h
 ·exact absurd h.1 hop
 ·exact h
theorem ZhH {g:Sgn} (hg:SgnOk g) {i:Nat} {o:Opr} {d:Dcl} {n j:Nat} (ho:g.ops[i]?=some o) (hd:o.decls[0]?=some d) (nas:o.assoc=false->n=d.args.length) (hj:j < n):∃ k,d.args[argAt o j]?=some k:=by
 unfold argAt
 cases ha:o.assoc with
 | true =>
  have h2:=((hg.axs o (Tac ho)).two (.inl ha) d hd).1;exact ⟨_,Taa (by simp only [↓reduceIte];omega)⟩
 | false=>exact ⟨_,Taa (by simp only [Tam,↓reduceIte];have:=nas ha;omega)⟩
section
variable {g:Sgn} {mc:C}
theorem ZlS (hg:SgnOk g):∀ (n:Nat) (t:Tm),sizeTm t < n->okTm t->sizeTm t<=big->Con e0 72 [.one (.ptr (encX g mc)),.agg (Zac t)] [.one (.lit (.bool (Zcc g t)))]:=by
 intro n
 induction n with
 | zero=>intro t h;omega
 | succ n ih =>
  intro t hn hok hb;have hno:¬ ZaF g t->Zcc g t=false:=ZjX;obtain ⟨k1,k2,k3,k4⟩:=ZfH.1 hok;have hsz:=Zbt t;have hal:=ZbX t.args;unfold big at hb;refine gI 43556142965880125627826793391928073259515 Tryz.func72 ?_;by_cases h1:t.op=-1
  ·have e:=ZvK (g:=g) h1;rw [e];refine fB (ai @tmz @h1) ?_;refine fC (ai @tmz @h1) (Zif hg k2) ?_;refine fR @tmz ?_;exact fT @tmz
  by_cases h2:t.op < 0
  ·have hf:=hno fun h=>by
    obtain ⟨o,d,h⟩:=h.node.app h1;have:=h.lo;omega
   exact fT (aj4 @tmz @h1 @h2 @hf)
  by_cases h3:(g.ops.length:Int)<=t.op
  ·have hf:=hno fun h=>by
    obtain ⟨o,d,h⟩:=h.node.app h1;have:=(Tad.1 h.at').1;omega
   exact fT (aj6 @tmz @h1 @h2 @h3 @Za4 @hf)
  by_cases h4:t.name=ByteArray.empty;rotate_left
  ·have hf:=hno fun h=>by
    obtain ⟨o,d,h⟩:=h.node.app h1;exact h4 h.nm
   exact fT (aj8 @tmz @h1 @h2 @h3 @Za4 @ZeN @h4 @hf)
  by_cases h5:t.sort=0;rotate_left
  ·have hf:=hno fun h=>by
    obtain ⟨o,d,h⟩:=h.node.app h1;exact h5 h.so
   exact fT (aj9 @tmz @h1 @h2 @h3 @Za4 @ZeN @h4 @h5 @hf)
  have h0:0<=t.op:=om;obtain ⟨o,ho⟩:∃ o,g.ops[t.op.toNat]?=some o:=⟨_,Taa om⟩;obtain ⟨d,hd,hr0,hr1,hargs⟩:=hg.first ho;have hgt:ZaF g t->AppOk g t o d:=fun h=>by
   obtain ⟨o',d',h⟩:=h.node.app h1;have e1:=h.at';rw [ho] at e1;injection e1 with e1
   subst e1;have e2:=h.fst;rw [hd] at e2;injection e2 with e2
   subst e2;exact h
  by_cases hW:(o.assoc=true->2<=t.args.length∧t.args.length<=7)∧(o.assoc=false->t.args.length=d.args.length);rotate_left
  ·have hf:=hno fun h=>hW ⟨(hgt h).asc,(hgt h).nas⟩
   cases ha:o.assoc with
   | true =>
    by_cases c1:t.args.length < 2
    ·have c1':(t.args.length:Int) < 2:=om;exact fT (aj14 @tmz @h1 @h2 @h3 @Za4 @ZeN @h4 @h5 @h0 @ho @Zaj @ha @c1' @hf)
    ·have c1':¬ ((t.args.length:Int) < 2):=om;have c2:(7:Int) < (t.args.length:Int):=by
      by_cases c2:t.args.length<=7
      ·exact absurd ⟨fun _=>⟨om,c2⟩,fun h=>by rw [ha] at h;cases h⟩ hW
      ·omega
     exact fT (aj15 @tmz @h1 @h2 @h3 @Za4 @ZeN @h4 @h5 @h0 @ho @Zaj @ha @c1' @c2 @hf)
   | false =>
    have c3:¬ ((t.args.length:Int)=(d.args.length:Int)):=fun c=>hW ⟨fun h=>(by rw [ha] at h;cases h),fun _=>om⟩;exact fT (aj16 @tmz @h1 @h2 @h3 @Za4 @ZeN @h4 @h5 @h0 @ho @Zaj @ha @hd @ZaV @c3 @hf)
  have hA:AppOk g t o d:=⟨h0,ho,hd,h4,h5,hW.1,hW.2⟩;refine fG (aj11 @tmz @h1 @h2 @h3 @Za4 @ZeN @h4 @h5 @h0 @ho @Zaj) ?_;refine gM (ι:=Unit) [75] [] (fun u=>[(75,A.d (.one (.lit (.bool false))))]) (fun u=>[]) (fun u=>True) ?_ (fun u hu=>Exists.intro _ (ai (Wk.refl _) ?_))
  ·cases ha:o.assoc with
   | true =>
    have c:=hW.1 ha;have c1':¬ ((t.args.length:Int) < 2):=om;have c2:¬ ((7:Int) < (t.args.length:Int)):=om;have F:=aj5 @tmz @Zaj @ha @c1' @c2;refine gG ?_;exact ⟨(),trivial,gw,gw⟩
   | false =>
    have c3:((t.args.length:Int)=(d.args.length:Int)):=by have:=hW.2 ha;omega
    have F:=aj6 @tmz @Zaj @ha @hd @ZaV @c3;refine gG ?_;exact ⟨(),trivial,gw,gw⟩
  refine fG @tmz ?_;have F:=@e0P;refine gL (ι:=Nat) [4,7,8,79,80,135] [] (fun i=>[(79,A.d (.one (.lit (.int .i64 i))))]) (fun i=>[]) (fun i=>i<=t.args.length∧∀ (j:Nat) a,j < i->t.args[j]?=some a->ZaF g a∧ArgOk g t.op o d t.args j a) (fun i=>t.args.length - i) (0) (⟨om,fun j a h=>absurd h om⟩) (fun i hi=>?_);clear F;obtain ⟨hil,hall⟩:=hi;by_cases hl:i < t.args.length;rotate_left
  ·have hl':¬ ((i:Int) < (t.args.length:Int)):=om;have hT:=Zf3 (ZaY.2 ⟨.inr ⟨o,d,hA⟩,fun a ha=>by
     obtain ⟨j,hj⟩:=Tbk ha;exact (hall j a (by have:=(Tad.1 hj).1;omega) hj).1,.inr fun o' d' ho' hd' j a hj=>by
     rw [ho] at ho';injection ho' with ho'
     subst ho';rw [hd] at hd';injection hd' with hd'
     subst hd';exact (hall j a (by have:=(Tad.1 hj).1;omega) hj).2⟩)
   exact fT (ai @hl' @hT)
  have hl':(i:Int) < (t.args.length:Int):=om;obtain ⟨a,ha⟩:∃ a,t.args[i]?=some a:=⟨_,Taa hl⟩;have hm:=Tac ha;have hsa:=ZbA hm;have hw1:=Zau (k:=i) om;have hnoA:¬ ArgOk g t.op o d t.args i a->Zcc g t=false:=fun h=>hno fun hF=>by
   obtain ⟨_,_,h3⟩:=ZaY.1 hF;rcases h3 with h3 | h3
   ·exact h1 h3
   ·exact h (h3 o d ho hd i a ha)
  obtain ⟨k,hk⟩:=ZhH hg ho hd hA.nas hl;refine fB (aj3 @hl' @tmz @ha) ?_;refine fC @tmz (ih a om (k4.mem hm) (by unfold big;omega)) ?_;by_cases hfa:Zcc g a=true;rotate_left
  ·have hf:=hno fun h=>hfa (Zf3 ((ZaY.1 h).2.1 a hm));have hfa':Zcc g a=false:=by simpa using hfa
   refine fR (ai @tmz @hfa') ?_;exact fT @hf
  have hFa:=ZmX.1 hfa;refine fC (ai @tmz @hfa) (ZmY hg hFa.node) ?_;refine fC @tmz (Zlo hg h0 ho hd hk) ?_;by_cases hkd:Zb1 g a=((kd g.sorts k:Nat):Int);rotate_left
  ·have hf:=hnoA fun h=>hkd (h.kind k hk);refine fR (ai @tmz @hkd) ?_;exact fT @hf
  by_cases hN:o.assoc=true∧a.op=t.op
  ·have hf:=hnoA fun h=>h.nest hN.1 hN.2;obtain ⟨hN1,hN2⟩:=hN;refine fR (aj5 @tmz @hkd @Zaj @hN1 @hN2) ?_;exact fT @hf
  have hne:o.assoc=true->¬ a.op=t.op:=fun h1 h2=>hN ⟨h1,h2⟩;have cU:=ZmZ (mc:=mc) hg h0 ho a;generalize hU:decide (o.unit≠0∧a.op=o.unit - 1)=U at cU;have hnext:(U=false)->(o.comm=true->∀ (j:Nat) p,i=j+1->t.args[j]?=some p->Zai p a<=0)->i+1<=t.args.length∧∀ (j:Nat) a,j < i+1->t.args[j]?=some a->ZaF g a∧ArgOk g t.op o d t.args j a:=fun hU' hc=>⟨om,fun j a' hj ha'=>by
   by_cases e:j=i
   ·subst e;rw [ha] at ha';injection ha' with ha'
    subst ha';refine ⟨hFa,fun k' hk'=>?_,fun h1 h2=>hN ⟨h1,h2⟩,fun h1 h2=>?_,hc⟩
    ·rw [hk] at hk';injection hk' with hk'
     subst hk';exact hkd
    ·rw [hU'] at hU;simp only [decide_eq_false_iff_not] at hU;exact hU ⟨h1,h2⟩
   ·exact hall j a' om ha'⟩
  rcases Bool.eq_false_or_eq_true o.assoc with hac | hac
  all_goals (
   refine fC (aj5 @tmz @hkd @Zaj @hac @hne) (cU) ?_;rcases Bool.eq_false_or_eq_true U with hu | hu
   ·have hf:=hnoA fun h=>by
     rw [hu] at hU;simp only [decide_eq_true_eq] at hU;exact h.unit hU.1 hU.2
    refine fR (ai @tmz @hu) ?_;exact fT @hf
   rcases Bool.eq_false_or_eq_true o.comm with hcm | hcm
   rotate_left
   ·have hq:=hnext hu (fun h=>by rw [hcm] at h;cases h);refine fR (aj4 @tmz @hu @Zaj @hcm) ?_;have F:=aj5 @hw1 @tmz @Zaj @hcm @hac;refine gG ?_;exact ⟨i+1,hq,gw,gw,om⟩
   rcases Nat.eq_zero_or_pos i with hi0 | hi0
   ·have hq:=hnext hu (fun _ j p h=>om);have hi0':¬ ((0:Int) < (i:Int)):=om;refine fR (aj5 @tmz @hu @Zaj @hcm @hi0') ?_;have F:=aj5 @hw1 @tmz @Zaj @hcm @hac;refine gG ?_;exact ⟨i+1,hq,gw,gw,om⟩
   obtain ⟨j,rfl⟩:∃ j,i=j+1:=⟨i - 1,om⟩;obtain ⟨p,hp⟩:∃ p,t.args[j]?=some p:=⟨_,Taa om⟩;have cC:=Zlh (k4.mem (Tac hp)) (k4.mem hm);have hgt0:(0:Int) < ((j+1:Nat):Int):=om;have hsub:IntKind.i64.wrap (((j+1:Nat):Int) - 1)=(j:Int):=ZaM om om om;refine fC (aj7 @tmz @hu @Zaj @hcm @hgt0 @hsub @hp) (cC) ?_;by_cases hc:0 < Zai p a
   ·have hf:=hnoA fun h=>by have:=h.ord hcm j p rfl hp;omega
    refine fR (ai @tmz @hc) ?_;exact fT @hf
   ·have hq:=hnext hu (fun _ j' p' h hp'=>by
     have:j'=j:=om;subst this;rw [hp] at hp';injection hp' with hp'
     subst hp';omega)
    refine fR (ai @tmz @hc) ?_
    (have F:=aj5 @hw1 @tmz @Zaj @hcm @hac;refine gG ?_;exact ⟨j+1+1,hq,gw,gw,om⟩))
theorem ZqY (hg:SgnOk g) {t:Tm} (hok:okTm t) (hb:sizeTm t<=big):Con e0 72 [.one (.ptr (encX g mc)),.agg (Zac t)] [.one (.lit (.bool (Zcc g t)))]:=ZlS hg _ t (Tan _) hok hb
structure TermOk (g:Sgn) (t:Tm):Prop where
 size:sizeTm t<=60
 depth:depthTm t<=20
 form:ZaF g t
open Classical in
noncomputable def ZdD (g:Sgn) (t:Tm):Bool:=decide (TermOk g t)
theorem Zej {g:Sgn} {t:Tm} (h:TermOk g t):ZdD g t=true:=by simp [ZdD,h]
theorem ZdY {g:Sgn} {t:Tm} (h:¬ TermOk g t):ZdD g t=false:=by simp [ZdD,h]
theorem Zm0 {g:Sgn} {t:Tm}:ZdD g t=true ↔ TermOk g t:=by simp [ZdD]
theorem Zlp {g:Sgn} {t:Tm} (h1:sizeTm t<=60) (h2:depthTm t<=20):Zcc g t=ZdD g t:=by
 unfold Zcc ZdD;congr 1;exact propext ⟨fun h=>⟨h1,h2,h⟩,fun h=>h.form⟩
theorem ZhT (hg:SgnOk g) {t:Tm} (hok:okTm t) (hb:sizeTm t<=big):Con e0 29 [.one (.ptr (encX g mc)),.agg (Zac t)] [.one (.lit (.bool (ZdD g t)))]:=by
 have hno:¬ TermOk g t->ZdD g t=false:=ZdY;refine gI 27 Tryz.func29 ?_;refine fB @tmz ?_;refine fC @tmz (ZjV hb) ?_;by_cases h1:sizeTm t<=60;rotate_left
 ·have h1':¬ ((sizeTm t:Int)<=60):=om;have hf:=hno fun h=>h1 h.size;refine fR (ai @tmz @h1') ?_;exact fT @hf
 have h1':((sizeTm t:Int)<=60):=om;refine fC (ai @tmz @h1') (Zjo hb) ?_;by_cases h2:depthTm t<=20;rotate_left
 ·have h2':¬ ((depthTm t:Int)<=20):=om;have hf:=hno fun h=>h2 h.depth;refine fR (ai @tmz @h2') ?_;exact fT @hf
 have h2':((depthTm t:Int)<=20):=om;refine fC (ai @tmz @h2') (ZqY hg hok hb) ?_;have e:=Zlp (g:=g) h1 h2;refine fR @tmz ?_;exact fT @e
end
section
variable {g:Sgn}
theorem ZnY (hok:ZdQ g) (hg:¬ SgnOk g):Con e0 28 [.agg (ZaB g)] [.one (.lit (.pointer none)),.one (.lit (.bool false))]:=by
 have hs:ZcI g=false:=ZfZ hg;have c:=Zln hok;rw [hs,ZaB] at c;refine gI 287 Tryz.func28 ?_;refine fB @Zcq ?_;refine fC @Zcq (c) ?_;refine fR @Zcq ?_;exact fT @Zcq
theorem Zm1 (hok:ZdQ g) (hg:SgnOk g) {t:Tm} (ht:Zc6 g t):Con e0 160 [.agg (ZaB g),.agg (Zac t)] [.one (.lit (.int .i64 (Zb1 g t)))]:=by
 have c2:=ZeW hg.sorts;rw [Zbo] at c2;refine gI 2111 Tryz.func160 ?_;refine fB (ai @tmz @Zcq) ?_;refine fC @Zcq (c2) ?_;refine fR @Zcq ?_;rcases ht with ⟨h1,h2,h3,h4,h5⟩ | ⟨o,d,h⟩
 ·have hk:=Zhe hg.sorts h3 h4;have e:Zb1 g t=kd g.sorts t.sort:=by simp [Zb1,h1]
  exact fT (aj6 @tmz @h1 @h3 @hk @Zbb @e)
 ·have hn:=h.op;obtain ⟨d',hd',hr0,hr1,_⟩:=hg.first h.at';rw [h.fst] at hd';injection hd' with hd'
  subst hd';have hk:=Zhe hg.sorts hr0 hr1;have e:Zb1 g t=kd g.sorts d.res:=by simp [Zb1,h.op,ZiR h.at' h.fst]
  have hlo:=h.lo;have hat:=h.at';have hfst:=h.fst;exact fT (aj11 @tmz @hn @hlo @hat @Zaj @hfst @ZaV @hr0 @hk @Zbb @e)
def Zbd (o:Opr):Tm:=.mk (if o.unit=0 then 0 else o.unit - 1) .empty 0 []
theorem ZiS (hg:SgnOk g) {op:Int} {o:Opr} (h0:0<=op) (ho:g.ops[op.toNat]?=some o):Con e0 56 [.agg (ZaB g),.one (.lit (.int .i64 op))] [.agg (Zac (Zbd o)),.one (.lit (.bool (!decide (o.unit=0))))]:=by
 have hax:=hg.axs o (Tac ho);have hlo:=hax.lo;have hhi:=hax.hi;have hln:=hg.len;have hw:IntKind.i64.wrap (o.unit - 1)=o.unit - 1:=ZaM rfl om om;refine gI 4151 Tryz.func56 ?_;by_cases hu:o.unit=0
 ·refine fG (aj5 @Zcq @h0 @ho @Zaj @hu) ?_;refine ZgN (Zmy ?_);simp [Zdp,resA,ZbM,gs,hu,Zbd,Zac,Zaa,gm,ptrA,varA,e0P,pz,tt_0,tt_1]
 ·refine fG (aj6 @Zcq @h0 @ho @Zaj @hu @hw) ?_;refine ZgN (Zmy ?_);simp [Zdp,resA,ZbM,gs,hu,Zbd,Zac,Zaa,gm,ptrA,varA,e0P,pz]
end
def zTm0:Tm:=.mk 0 ByteArray.empty 0 []
def ddT:Option Tm->List Tm->List Tm
 | _,[]=>[]
 | none,x::xs=>x::ddT (some x) xs
 | some y,x::xs=>if Zai x y=0 then ddT (some x) xs else x::ddT (some x) xs
def ZhI:Option Tm->List Tm->Option Tm
 | p,[]=>p
 | _,x::xs=>ZhI (some x) xs
theorem ZlT:∀ (p:Option Tm) (l:List Tm) (x:Tm),ddT p (l++[x])=match ZhI p l with
  | none=>ddT p l++[x]
  | some y=>if Zai x y=0 then ddT p l else ddT p l++[x]
 | none,[],x=>rfl
 | some y,[],x=>by simp only [Tah,ddT,ZhI]
 | none,a::l,x=>by
  simp only [Taf,ddT,ZhI,ZlT (some a) l x];split
  ·rfl
  ·split <;> rfl
 | some y,a::l,x=>by
  simp only [Taf,ddT,ZhI,ZlT (some a) l x];split
  ·rfl
  ·split
   ·rfl
   ·split <;> rfl
theorem Zm2:∀ (p:Option Tm) (l:List Tm) (i:Nat) (y:Tm),l[i]?=some y->ZhI p (l.take (i+1))=some y
 | p,[],i,y,h=>by simp at h
 | p,x::xs,0,y,h=>by simp at h;subst h;simp [ZhI]
 | p,x::xs,i+1,y,h=>by
  simp only [Tbc,ZhI];exact Zm2 (some x) xs i y (by simpa using h)
theorem ZqZ {l:List Tm} {i:Nat} {x y:Tm} (hx:l[i+1]?=some x) (hy:l[i]?=some y):ddT none (l.take (i+2))=if Zai x y=0 then ddT none (l.take (i+1)) else ddT none (l.take (i+1))++[x]:=by
 have e:l.take (i+2)=l.take (i+1)++[x]:=by simp [List.take_add_one,hx]
 rw [e,ZlT,Zm2 none l i y hy]
theorem ZEs {l:List Tm} {x:Tm} (hx:l[0]?=some x):ddT none (l.take 1)=[x]:=by
 cases l with
 | nil=>simp at hx
 | cons a l=>simp at hx;subst hx;simp [ddT]
def Up (l:List Tm):Prop:=l.Pairwise fun a b=>Zai a b<=0
theorem ZzD:∀ (l:List Tm) (y:Tm),Up l->(∀ x∈l,Zai y x<=0)->Asc (ddT (some y) l)∧(∀ z∈ddT (some y) l,Zai y z < 0)∧∀ z,(z=y∨z∈ddT (some y) l) ↔ (z=y∨z∈l)
 | [],y,_,_=>⟨List.Pairwise.nil,fun z h=>by simp [ddT] at h,fun z=>by simp [ddT]⟩
 | x::xs,y,hu,hy=>by
  have h1:=List.pairwise_cons.1 hu;have hyx:=hy x Tas;obtain ⟨k1,k2,k3⟩:=ZzD xs x h1.2 h1.1;simp only [ddT];by_cases h0:Zai x y=0
  ·rw [if_pos h0];have e:=Zdb h0;subst e;exact ⟨k1,k2,fun z=>by rw [k3 z];simp⟩
  ·rw [if_neg h0];have hlt:Zai y x < 0:=by rw [Zci x y] at hyx ⊢;omega
   refine ⟨List.pairwise_cons.2 ⟨k2,k1⟩,fun z hz=>?_,fun z=>?_⟩
   ·rcases Tbg.1 hz with rfl | hz
    ·exact hlt
    ·exact ZeL hlt (k2 z hz)
   ·have:=k3 z;simp only [Tbg];rw [this]
theorem ZBO {l:List Tm} (h:Up l):ddT none l=Zc5 l:=by
 cases l with
 | nil=>rfl
 | cons x xs =>
  have h1:=List.pairwise_cons.1 h;obtain ⟨k1,k2,k3⟩:=ZzD xs x h1.2 h1.1;simp only [ddT];refine (Zzi (List.pairwise_cons.2 ⟨k2,k1⟩) fun t=>?_).symm;simp only [Tbg];exact k3 t
def ZaA (l:List Tm):List Tm:=l.mergeSort fun a b=>decide (Zai a b<=0)
theorem Zbg (l:List Tm):(ZaA l).Perm l:=List.mergeSort_perm l _
theorem Zcs (l:List Tm):Up (ZaA l):=by
 have h:=List.pairwise_mergeSort (le:=fun a b=>decide (Zai a b<=0)) (fun a b c h1 h2=>by simp only [decide_eq_true_eq] at *;exact Zb3 h1 h2) (fun a b=>by
  simp only [Bool.or_eq_true,decide_eq_true_eq];have:=Zci a b;omega) l
 exact h.imp fun h=>by simpa using h
theorem ZkL:∀ {l l':List Tm},Up l->Up l'->l.Perm l'->l=l'
 | [],l',_,_,h=>by have:=h.length_eq;cases l' with | nil=>rfl | cons _ _=>simp at this
 | x::xs,[],_,_,h=>by have:=h.length_eq;simp at this
 | x::xs,y::ys,h1,h2,h=>by
  have p1:=List.pairwise_cons.1 h1;have p2:=List.pairwise_cons.1 h2;have hx:x∈y::ys:=h.mem_iff.1 Tas;have hy:y∈x::xs:=h.mem_iff.2 Tas;have e:x=y:=by
   rcases Tbg.1 hx with e | hx
   ·exact e
   ·rcases Tbg.1 hy with e | hy
    ·exact e.symm
    ·have a1:=p2.1 x hx;have a2:=p1.1 y hy;refine Zdb ?_;rw [Zci x y] at a1;omega
  subst e;rw [ZkL p1.2 p2.2 h.cons_inv]
theorem ZsB {l l':List Tm} (h:l.Perm l'):Zc5 l=Zc5 l':=(ZdB l).ext (ZdB l') fun t=>by rw [Zdd,Zdd,h.mem_iff]
mutual
theorem ZoQ:∀ {a b:Tm},Zac a=Zac b->a=b
 | .mk o n s a,.mk o' n' s' a',h=>by
  simp only [Zac,List.cons.injEq,C.lit.injEq,C.sl.injEq,Value.int.injEq,Value.string.injEq,true_and,and_true] at h;obtain ⟨rfl,rfl,rfl,h⟩:=h;rw [Zm3 h]
theorem Zm3:∀ {a b:List Tm},Zaa a=Zaa b->a=b
 | [],[],_=>rfl
 | [],_::_,h=>by simp [Zaa] at h
 | _::_,[],h=>by simp [Zaa] at h
 | x::xs,y::ys,h=>by
  simp only [Zaa,List.cons.injEq] at h;rw [ZoQ h.1,Zm3 h.2]
end
open Classical in
noncomputable def unT (r:List C):Tm:=if h:∃ t,r=Zac t then h.choose else zTm0
theorem ZkM (t:Tm):unT (Zac t)=t:=by
 have h:∃ t',Zac t=Zac t':=⟨t,rfl⟩;unfold unT;rw [dif_pos h];exact (ZoQ h.choose_spec).symm
theorem ZEt (l:List Tm):(Zaa l).map unT=l:=by
 rw [ZbB,List.map_map]
 conv=>rhs;rw [<- List.map_id l]
 exact List.map_congr_left fun t _=>ZkM t
theorem ZdN (l:List Tm) (k:Nat):(Zaa l).take k=Zaa (l.take k):=by rw [ZbB,ZbB,List.map_take]
theorem Zek (l:List Tm) (k:Nat):(Zaa l).drop k=Zaa (l.drop k):=by rw [ZbB,ZbB,List.map_drop]
theorem Zb8 (a b:List Tm):Zaa (a++b)=Zaa a++Zaa b:=by rw [ZbB,ZbB,ZbB,Tbw]
theorem ZdE (t:Tm):Zaa [t]=[Zac t]:=by simp [Zaa]
theorem Zhf (a b:Tm):Con e0 34 [.agg (Zac a),.agg (Zac b)] [.one (.lit (.bool (decide (Zai a b=0))))]:=by
 refine gI (ts:=[.slot 4]) 31 Tryz.func34 ?_;refine fB @tmz ?_;refine fC @tmz (ZkD (Zd8 a b)) ?_;refine fR @tmz ?_;exact fD @tmz
theorem Zgj {l m:List Tm} (hp:m.Perm l) (hu:Up m):m=ZaA l:=ZkL hu (Zcs l) (hp.trans (Zbg l).symm)
theorem ZeZ {l:List Tm} (hu:Up l):ZaA l=l:=(Zgj (List.Perm.refl _) hu).symm
theorem Zdf (l:List Tm):(ZaA l).length=l.length:=(Zbg l).length_eq
theorem Zq0 {l m:List Tm} (h:l.Perm m):ZaA l=ZaA m:=ZkL (Zcs l) (Zcs m) ((Zbg l).trans (h.trans (Zbg m).symm))
theorem Up.get {l:List Tm} (h:Up l) {i j:Nat} {x y:Tm} (hij:i<=j) (hx:l[i]?=some x) (hy:l[j]?=some y):Zai x y<=0:=by
 rcases Nat.lt_or_ge i j with hl | hl
 ·obtain ⟨h1,rfl⟩:=Tad.1 hx;obtain ⟨h2,rfl⟩:=Tad.1 hy;exact List.pairwise_iff_getElem.1 h i j h1 h2 hl
 ·obtain rfl:i=j:=by omega
  rw [hx] at hy;injection hy with hy
  subst hy;rw [Zdc];omega
theorem Zhg {l:List Tm} {k:Nat} {x:Tm} (h:x∈l.take k):∃ i,i < k∧l[i]?=some x:=by
 obtain ⟨i,hi⟩:=Tbk h;rw [List.getElem?_take] at hi;split at hi
 ·exact ⟨i,by assumption,hi⟩
 ·cases hi
theorem Zhh {l:List Tm} {k:Nat} {x:Tm} (h:x∈l.drop k):∃ i,k<=i∧l[i]?=some x:=by
 obtain ⟨i,hi⟩:=Tbk h;rw [Tbb] at hi;exact ⟨k+i,om,hi⟩
theorem ZpZ {x y:Tm} (h:¬ Zai x y < 0):Zai y x<=0:=by rw [Zci x y];omega
theorem Up.append {l m:List Tm} (hl:Up l) (hm:Up m) (h:∀ x∈l,∀ y∈m,Zai x y<=0):Up (l++m):=List.pairwise_append.2 ⟨hl,hm,h⟩
theorem Up.left {l m:List Tm} (h:Up (l++m)):Up l:=(List.pairwise_append.1 h).1
theorem Up.take {l:List Tm} (h:Up l) (k:Nat):Up (l.take k):=List.Pairwise.sublist (List.take_sublist k l) h
theorem Up.drop {l:List Tm} (h:Up l) (k:Nat):Up (l.drop k):=List.Pairwise.sublist (List.drop_sublist k l) h
theorem Up.put {B:List Tm} {x:Tm} (hB:Up B) {s:Nat} (h1:0 < s->∃ y,B[s - 1]?=some y∧Zai y x<=0) (h2:s < B.length->∃ y,B[s]?=some y∧Zai x y<=0):Up (B.take s++x::B.drop s):=by
 have k2:∀ z∈B.drop s,Zai x z<=0:=fun z hz=>by
  obtain ⟨i,hi,hz⟩:=Zhh hz;have hl:=(Tad.1 hz).1;obtain ⟨y,hy,hc⟩:=h2 om;exact Zb3 hc (hB.get hi hy hz)
 have k1:∀ z∈B.take s,Zai z x<=0:=fun z hz=>by
  obtain ⟨i,hi,hz⟩:=Zhg hz;obtain ⟨y,hy,hc⟩:=h1 om;exact Zb3 (hB.get om hz hy) hc
 refine (hB.take s).append (List.pairwise_cons.2 ⟨k2,hB.drop s⟩) fun z hz u hu=>?_;rcases Tbg.1 hu with rfl | hu
 ·exact k1 z hz
 ·obtain ⟨i,hi,hz⟩:=Zhg hz;obtain ⟨j,hj,hu⟩:=Zhh hu;exact hB.get om hz hu
theorem ZBP {B:List Tm} {x:Tm} (s:Nat):(B.take s++x::B.drop s).Perm (x::B):=by
 refine List.perm_middle.trans ?_;rw [Tbm]
theorem ZEu {A B:List Tm} (hA:Up A) (hB:Up B) {s e:Nat} (h1:e < B.length->0 < s->∃ x y,A[s - 1]?=some x∧B[e]?=some y∧Zai x y<=0) (h2:0 < e->s < A.length->∃ x y,B[e - 1]?=some x∧A[s]?=some y∧Zai x y<=0):∀ x∈A.take s++B.take e,∀ y∈A.drop s++B.drop e,Zai x y<=0:=by
 intro x hx y hy;rcases Tbh.1 hx with hx | hx <;> rcases Tbh.1 hy with hy | hy <;> obtain ⟨i,hi,hx⟩:=Zhg hx <;> obtain ⟨j,hj,hy⟩:=Zhh hy
 ·exact hA.get om hx hy
 ·have hl:=(Tad.1 hy).1;obtain ⟨u,v,hu,hv,huv⟩:=h1 om om;exact Zb3 (Zb3 (hA.get om hx hu) huv) (hB.get hj hv hy)
 ·have hl:=(Tad.1 hy).1;obtain ⟨u,v,hu,hv,huv⟩:=h2 om om;exact Zb3 (Zb3 (hB.get om hx hu) huv) (hA.get hj hv hy)
 ·exact hB.get om hx hy
theorem ZvL {A1 A2 B1 B2:List Tm} (h:∀ x∈A1++B1,∀ y∈A2++B2,Zai x y<=0):ZaA (A1++B1)++ZaA (A2++B2)=ZaA ((A1++A2)++(B1++B2)):=by
 refine Zgj ?_ ((Zcs _).append (Zcs _) fun x hx y hy=>h x ((Zbg _).mem_iff.1 hx) y ((Zbg _).mem_iff.1 hy));refine ((Zbg _).append (Zbg _)).trans ?_;rw [Tbf,Tbf];refine List.Perm.append_left _ ?_;rw [<- Tbf,<- Tbf];exact List.Perm.append_right _ List.perm_append_comm
inductive Blks (k:Nat):List Tm->Prop where
 | last {l:List Tm} (hl:l.length<=k) (hu:Up l):Blks k l
 | cons {X r:List Tm} (hl:X.length=k) (hu:Up X) (hr:Blks k r):Blks k (X++r)
inductive Full (k:Nat):List Tm->Prop where
 | nil:Full k []
 | cons {X r:List Tm} (hl:X.length=k) (hu:Up X) (hr:Full k r):Full k (X++r)
theorem Full.snoc {k:Nat} {X Z:List Tm} (h:Full k X) (hl:Z.length=k) (hu:Up Z):Full k (X++Z):=by
 induction h with
 | nil=>have:=Full.cons hl hu Full.nil;rwa [List.append_nil] at this
 | cons h1 h2 _ ih=>rw [Tbf];exact .cons h1 h2 ih
theorem Full.blks {k:Nat} {X Z:List Tm} (h:Full k X) (hl:Z.length<=k) (hu:Up Z):Blks k (X++Z):=by
 induction h with
 | nil=>exact .last hl hu
 | cons h1 h2 _ ih=>rw [Tbf];exact .cons h1 h2 ih
theorem Blks.up {k:Nat} {l:List Tm} (h:Blks k l) (hl:l.length<=k):Up l:=by
 cases h with
 | last h1 h2=>exact h2
 | @cons X r h1 h2 h3 =>
  rw [Tae] at hl;have:r=[]:=Tao om;subst this
  rwa [List.append_nil]
theorem Blks.split {k:Nat} {l:List Tm} (h:Blks k l) (hl:k < l.length):∃ X r,l=X++r∧X.length=k∧Up X∧Blks k r:=by
 cases h with
 | last h1 h2=>omega
 | cons h1 h2 h3=>exact ⟨_,_,rfl,h1,h2,h3⟩
theorem Blks.two {k:Nat} {l:List Tm} (h:Blks k l) (hk:0 < k) (hl:2 * k<=l.length):∃ A B r,l=A++B++r∧A.length=k∧B.length=k∧Up A∧Up B∧Blks k r:=by
 obtain ⟨A,r,rfl,h1,h2,h3⟩:=h.split om;rw [Tae] at hl;rcases Nat.lt_or_ge k r.length with h4 | h4
 ·obtain ⟨B,r',rfl,h5,h6,h7⟩:=h3.split h4;exact ⟨A,B,r',by rw [Tbf],h1,h5,h2,h6,h7⟩
 ·exact ⟨A,r,[],by rw [List.append_nil],h1,om,h2,h3.up h4,.last (by simp) List.Pairwise.nil⟩
theorem Zig {A B:List Tm} {x y:Tm} {k:Nat} (h:A.length=k):(A++x::B).set k y=A++y::B:=by
 subst h;rw [List.set_append_right _ _ (Tai _),Nat.sub_self,List.set_cons_zero]
theorem Zih {A B:List Tm} {x:Tm} {k:Nat} (h:A.length=k):(A++x::B)[k]?=some x:=by
 subst h;rw [Tbq (Tai _),Nat.sub_self,Tat]
theorem ZuG {A B:List Tm} {x y:Tm} {k:Nat} (h:A.length=k):((A++y::x::B).set (k+1) y).set k x=A++x::y::B:=by
 have e1:(A++y::x::B).set (k+1) y=A++y::y::B:=by
  have:=Zig (A:=A++[y]) (B:=B) (x:=x) (y:=y) (k:=k+1) (by simp [h]);simpa using this
 rw [e1,Zig h]
theorem ZBQ {A B:List Tm} {x y:Tm} {k:Nat} (h:A.length=k):((A++y::x::B).set k x).set (k+1) y=A++x::y::B:=by
 have e1:(A++x::x::B).set (k+1) y=A++x::y::B:=by
  have:=Zig (A:=A++[x]) (B:=B) (x:=x) (y:=y) (k:=k+1) (by simp [h]);simpa using this
 rw [Zig h,e1]
theorem ZnZ {A B:List Tm} {x y:Tm} {k:Nat} (h:A.length=k):(A++y::x::B)[k+1]?=some x:=by
 have:=Zih (A:=A++[y]) (B:=B) (x:=x) (k:=k+1) (by simp [h]);simpa using this
theorem ZdZ {l:List Tm} {i:Nat} {x:Tm} (h:l[i]?=some x):l.drop i=x::l.drop (i+1):=by
 obtain ⟨h1,rfl⟩:=Tad.1 h;exact List.drop_eq_getElem_cons h1
theorem Zcw {l:List Tm} {i:Nat} {x:Tm} (h:l[i]?=some x):l.take (i+1)=l.take i++[x]:=by
 rw [List.take_add_one,h];rfl
def swR (P X Z Y Q:List Tm) (i:Nat):List Tm:=P++(Y.take i++X.drop i)++Z++(X.take i++Y.drop i)++Q
theorem ZBR (P X Z Y Q:List Tm):swR P X Z Y Q 0=P++X++Z++Y++Q:=by simp [swR]
theorem ZEv {P X Z Y Q:List Tm} (h:X.length=Y.length):swR P X Z Y Q X.length=P++Y++Z++X++Q:=by
 unfold swR;rw [Tap,List.drop_length,h,Tap,List.drop_length];simp
theorem ZEw {P X Z Y Q:List Tm} (i:Nat) (h:X.length=Y.length):(swR P X Z Y Q i).length=P.length+X.length+Z.length+Y.length+Q.length:=by
 simp only [swR,Tae,Taw,Tax];omega
theorem ZEx {P X Z Y Q:List Tm} {i:Nat} {x y:Tm} (h:X.length=Y.length) (hx:X[i]?=some x) (hy:Y[i]?=some y) :
  (swR P X Z Y Q i)[P.length+i]?=some x∧(swR P X Z Y Q i)[P.length+X.length+Z.length+i]?=some y∧((swR P X Z Y Q i).set (P.length+i) y).set (P.length+X.length+Z.length+i) x=swR P X Z Y Q (i+1):=by
 have hi:=(Tad.1 hx).1;have hi':=(Tad.1 hy).1;have e:swR P X Z Y Q i=(P++Y.take i)++x::(X.drop (i+1)++Z++X.take i++y::(Y.drop (i+1)++Q)):=by
  unfold swR;rw [ZdZ hx,ZdZ hy];simp
 have e2:swR P X Z Y Q i=((P++Y.take i)++x::(X.drop (i+1)++Z++X.take i))++y::(Y.drop (i+1)++Q):=by rw [e];simp
 have l1:(P++Y.take i).length=P.length+i:=by simp;omega
 have l2:∀ z:Tm,((P++Y.take i)++z::(X.drop (i+1)++Z++X.take i)).length=P.length+X.length+Z.length+i:=fun z=>by simp;omega
 refine ⟨by rw [e];exact Zih l1,by rw [e2];exact Zih (l2 x),?_⟩;rw [e,Zig l1];rw [show (P++Y.take i)++y::(X.drop (i+1)++Z++X.take i++y::(Y.drop (i+1)++Q))=((P++Y.take i)++y::(X.drop (i+1)++Z++X.take i))++y::(Y.drop (i+1)++Q) by simp,Zig (l2 y)];unfold swR;rw [Zcw hy,Zcw hx];simp
theorem ZBS {M1 M2:List Tm} {x:Tm} (h:Up (M1++M2)) (h2:∀ y∈M2,Zai x y<=0) (h1:∀ y,M1.getLast?=some y->Zai y x<=0):Up (M1++x::M2):=by
 obtain ⟨u1,u2,u3⟩:=List.pairwise_append.1 h;refine Up.append u1 (List.pairwise_cons.2 ⟨h2,u2⟩) fun z hz u hu=>?_;rcases Tbg.1 hu with rfl | hu
 ·obtain ⟨M0,y,rfl⟩:∃ M0 y,M1=M0++[y]:=⟨M1.dropLast,M1.getLast (List.ne_nil_of_mem hz),(List.dropLast_concat_getLast _).symm⟩;have hy:=h1 y (by simp);rcases Tbh.1 hz with hz | hz
  ·exact Zb3 ((List.pairwise_append.1 u1).2.2 z hz y (by simp)) hy
  ·simp only [Tbj] at hz;subst hz;exact hy
 ·exact u3 z hz u hu
theorem Zq1 {M1 M2 L:List Tm} {x:Tm} (e:M1++M2=ZaA L) (h2:∀ y∈M2,Zai x y<=0) (h1:∀ y,M1.getLast?=some y->Zai y x<=0):M1++x::M2=ZaA (L++[x]):=by
 have hu:Up (M1++M2):=by rw [e];exact Zcs _
 refine Zgj ?_ (ZBS hu h2 h1);refine List.perm_middle.trans ?_;rw [e];exact ((Zbg L).cons x).trans (List.perm_append_comm (l₁:=[x]) (l₂:=L))
mutual
def ZdF:Tm->Int->Int
 | .mk _ _ _ args,l=>ZbI args (l - 1)
def ZbI:List Tm->Int->Int
 | [],l=>l
 | t::ts,l=>if 0<=l then ZbI ts (ZdF t l) else l
end
theorem ZzE:∀ l,ZbI [] l=l:=fun _=>by rw [ZbI]
mutual
theorem Zlq:∀ (t:Tm) (l:Int),0<=l->(-1<=ZdF t l∧ZdF t l<=l∧((sizeTm t:Int)<=l->ZdF t l=l - sizeTm t)∧(l < sizeTm t->ZdF t l < 0))
 | .mk _ _ _ args,l,hl=>by
  have:=Zhi args (l - 1) om;simp only [ZdF,sizeTm];refine ⟨this.1,om,fun h=>?_,fun h=>?_⟩
  ·have:=this.2.2.1 om;omega
  ·by_cases h1:0<=l - 1
   ·exact this.2.2.2 om
   ·have h2:=this.2.1;omega
theorem Zhi:∀ (ts:List Tm) (l:Int),-1<=l->(-1<=ZbI ts l∧ZbI ts l<=l∧((sizeTms ts:Int)<=l->ZbI ts l=l - sizeTms ts)∧(l < sizeTms ts->ZbI ts l < 0))
 | [],l,hl=>by simp only [ZbI,sizeTms];omega
 | t::ts,l,hl=>by
  simp only [ZbI,sizeTms];by_cases h0:0<=l
  ·rw [if_pos h0];have h1:=Zlq t l h0;have h2:=Zhi ts (ZdF t l) h1.1;refine ⟨h2.1,om,fun h=>?_,fun h=>?_⟩
   ·have e1:=h1.2.2.1 om;have e2:=h2.2.2.1 om;omega
   ·by_cases h3:(sizeTm t:Int)<=l
    ·have e1:=h1.2.2.1 h3;exact h2.2.2.2 om
    ·have e1:=h1.2.2.2 om;omega
  ·rw [if_neg h0];have:=ZbX ts;refine ⟨hl,Int.le_refl _,fun h=>om,fun h=>om⟩
end
theorem Zlr {ts:List Tm} {l:Int} (h:¬ 0<=l):ZbI ts l=l:=by
 cases ts with
 | nil=>rfl
 | cons t ts=>simp only [ZbI,if_neg h]
theorem ZhU:∀ (a b:List Tm) (l:Int),ZbI (a++b) l=ZbI b (ZbI a l)
 | [],b,l=>rfl
 | t::ts,b,l=>by
  simp only [Taf,ZbI];by_cases h:0<=l
  ·rw [if_pos h,if_pos h,ZhU]
  ·rw [if_neg h,if_neg h,Zlr h]
theorem Zq2 {ts:List Tm} {i:Nat} {t:Tm} {l:Int} (h:ts[i]?=some t) (h0:0<=ZbI (ts.take i) l):ZbI (ts.take (i+1)) l=ZdF t (ZbI (ts.take i) l):=by
 rw [ZcN h,ZhU];simp only [ZbI,if_pos h0]
theorem Zq3 {ts:List Tm} {i:Nat} {l:Int} (h0:¬ 0<=ZbI (ts.take i) l):ZbI ts l=ZbI (ts.take i) l:=by
 conv=>lhs;rw [<- Tbm i ts]
 rw [ZhU,Zlr h0]
theorem ZzF (t:Tm) (l:Int):ZdF t l=ZbI t.args (l - 1):=by cases t;simp only [ZdF,Tm.args]
theorem Zn0:∀ (n:Nat) (t:Tm) (l:Int),sizeTm t < n->sizeTm t<=big->0<=l->l<=60->Con e0 103 [.agg (Zac t),.one (.lit (.int .i64 l))] [.one (.lit (.int .i64 (ZdF t l)))]:=by
 intro n
 induction n with
 | zero=>intro t l h;omega
 | succ n ih =>
  intro t l hn hb hl0 hl1;have hsz:=Zbt t;have hal:=ZbX t.args;unfold big at hb;have hw:IntKind.i64.wrap (l - 1)=l - 1:=ZaM rfl om om;rw [ZzF];refine gI 65591 Tryz.func103 ?_;refine fG (ai @tmz @hw) ?_;have F:=@ZzE;refine gL (ι:=Nat) [1,5,16] [] (fun i=>[(5,A.d (.one (.lit (.int .i64 i)))),(1,A.d (.one (.lit (.int .i64 (ZbI (t.args.take i) (l - 1))))))]) (fun i=>[]) (fun i=>i<=t.args.length) (fun i=>t.args.length - i) (0) om (fun i hi=>?_);clear F
  have hsp:=Zhi (t.args.take i) (l - 1) om;by_cases hl:i < t.args.length;rotate_left
  ·have hl':¬ ((i:Int) < (t.args.length:Int)):=om;have e:t.args.take i=t.args:=List.take_of_length_le om;exact fT (aj3 @hl' @e @tmz)
  have hl':(i:Int) < (t.args.length:Int):=om;by_cases h0:0<=ZbI (t.args.take i) (l - 1);rotate_left
  ·have e:=Zq3 h0;exact fT (aj4 @hl' @h0 @e @tmz)
  obtain ⟨a,ha⟩:∃ a,t.args[i]?=some a:=⟨_,Taa hl⟩;have hm:=ZbA (Tac ha);have hw1:=Zau (k:=i) om;have hs:=Zq2 ha h0;refine fB (aj4 @hl' @h0 @tmz @ha) ?_;refine fC (ai @tmz @ha) (ih a _ om (by unfold big;omega) h0 om) ?_;refine fR @tmz ?_;have F:=aj3 @hw1 @hs @tmz;refine gG ?_;exact ⟨i+1,om,gw,gw,om⟩
theorem ZoR {t:Tm}:0<=ZdF t 60 ↔ sizeTm t<=60:=by
 have:=Zlq t 60 om;by_cases h:sizeTm t<=60
 ·have:=this.2.2.1 om;omega
 ·have:=this.2.2.2 om;omega
theorem Zls {t:Tm} (hb:sizeTm t<=big):Con e0 52 [.agg (Zac t)] [.one (.lit (.bool (decide (sizeTm t<=60∧depthTm t<=20))))]:=by
 refine gI 7 Tryz.func52 ?_;refine fB @tmz ?_;refine fC @tmz (Zn0 _ t 60 (Tan _) hb om om) ?_;by_cases h1:sizeTm t<=60;rotate_left
 ·have h1':¬ (0<=ZdF t 60):=fun h=>h1 (ZoR.1 h);refine fR (ai @tmz @h1') ?_;exact fT @h1
 have h1':(0<=ZdF t 60):=ZoR.2 h1;refine fC (ai @tmz @h1') (Zpy hb) ?_;by_cases h2:depthTm t<=20
 ·have h2':((depthTm t:Int)<=20):=om;refine fR (ai @tmz @h2') ?_;exact fT (ai @h1 @h2)
 ·have h2':¬ ((depthTm t:Int)<=20):=om;refine fR (ai @tmz @h2') ?_;exact fT (ai @h1 @h2)
section
variable {g:Sgn}
open Classical in
noncomputable def Ze0 (g:Sgn) (t:Tm):Bool:=decide (Zc6 g t)
theorem Zf4 {t:Tm} (h:Zc6 g t):Ze0 g t=true:=by simp [Ze0,h]
theorem Zq4 {t:Tm} (h:¬ Zc6 g t):Ze0 g t=false:=by simp [Ze0,h]
theorem ZvM {t:Tm}:Ze0 g t=true ↔ Zc6 g t:=by simp [Ze0]
theorem ZvN (hg:SgnOk g) {t:Tm} (hok:okTm t) (hb:sizeTm t<=big):Con e0 105 [.agg (ZaB g),.agg (Zac t)] [.one (.lit (.bool (Ze0 g t)))]:=by
 have hno:¬ Zc6 g t->Ze0 g t=false:=Zq4;obtain ⟨k1,k2,k3,k4⟩:=ZfH.1 hok;have hsz:=Zbt t;have hal:=ZbX t.args;have hn8:=hg.sorts.n8;have hn1:=hg.sorts.n1;have hln:=hg.len;unfold big at hb;have hwn:IntKind.i64.wrap ((g.sorts.names.length:Int) - 1)=(g.sorts.names.length:Int) - 1:=ZaM rfl om om;have hwo:IntKind.i64.wrap ((g.ops.length:Int) - 1)=(g.ops.length:Int) - 1:=ZaM rfl om om;refine gI 9444733036108034605695 Tryz.func105 ?_
 by_cases h1:t.op=-1
 ·have hV:Zc6 g t->Zcj g t:=fun h=>by
   rcases h with h | ⟨o,d,h⟩
   ·exact h
   ·exact absurd h1 h.op
  refine fB (aj3 @tmz @Zcq @h1) ?_;refine fC @tmz (Zg9 k2) ?_;by_cases h2:ZbF t.name=true;rotate_left
  ·have h2':ZbF t.name=false:=by simpa using h2
   have hf:=hno fun h=>h2 (hV h).2.1;refine fR (ai @tmz @h2') ?_;exact fT @hf
  refine fC (aj3 @tmz @h2 @hwn) (Zez _ _ _) ?_;by_cases h3:0<=t.sort∧t.sort < g.sorts.names.length;rotate_left
  ·have h3':decide (0<=t.sort∧t.sort<=(g.sorts.names.length:Int) - 1)=false:=by simp only [decide_eq_false_iff_not];omega
   have hf:=hno fun h=>h3 ⟨(hV h).2.2.1,(hV h).2.2.2.1⟩;refine fR (ai @tmz @h3') ?_;exact fT @hf
  have h3':decide (0<=t.sort∧t.sort<=(g.sorts.names.length:Int) - 1)=true:=by simp only [decide_eq_true_eq];omega
  by_cases h4:t.args=[]
  ·have hT:=Zf4 (g:=g) (.inl ⟨h1,h2,h3.1,h3.2,h4⟩);refine fR (aj3 @tmz @h3' @h4) ?_;exact fT @hT
  ·have hf:=hno fun h=>h4 (hV h).2.2.2.2;have h4':¬ ((t.args.length:Int)=0):=by
    intro h;apply h4;apply Tao;omega
   refine fR (aj3 @tmz @h3' @h4') ?_;exact fT @hf
 refine fB (aj3 @tmz @Zcq @h1) ?_;refine fC (ai @tmz @hwo) (Zez _ _ _) ?_;by_cases h2:0<=t.op∧t.op < g.ops.length;rotate_left
 ·have h2':decide (0<=t.op∧t.op<=(g.ops.length:Int) - 1)=false:=by simp only [decide_eq_false_iff_not];omega
  have hf:=hno fun h=>by
   obtain ⟨o,d,h⟩:=h.app h1;have:=(Tad.1 h.at').1;have:=h.lo;omega
  refine fR (ai @tmz @h2') ?_;exact fT @hf
 have h2':decide (0<=t.op∧t.op<=(g.ops.length:Int) - 1)=true:=by simp only [decide_eq_true_eq];omega
 by_cases h4:t.name=ByteArray.empty;rotate_left
 ·have hf:=hno fun h=>by
   obtain ⟨o,d,h⟩:=h.app h1;exact h4 h.nm
  refine fR (aj4 @tmz @h2' @ZeN @h4) ?_;exact fT @hf
 by_cases h5:t.sort=0;rotate_left
 ·have hf:=hno fun h=>by
   obtain ⟨o,d,h⟩:=h.app h1;exact h5 h.so
  refine fR (aj5 @tmz @h2' @ZeN @h4 @h5) ?_;exact fT @hf
 have h0:=h2.1;obtain ⟨o,ho⟩:∃ o,g.ops[t.op.toNat]?=some o:=⟨_,Taa om⟩;obtain ⟨d,hd,hr0,hr1,hargs⟩:=hg.first ho;have hgt:Zc6 g t->AppOk g t o d:=fun h=>by
  obtain ⟨o',d',h⟩:=h.app h1;have e1:=h.at';rw [ho] at e1;injection e1 with e1
  subst e1;have e2:=h.fst;rw [hd] at e2;injection e2 with e2
  subst e2;exact h
 have cA:=Zf1 hd;rw [ZbZ] at cA;refine fR (aj5 @tmz @h2' @ZeN @h4 @h5) ?_;refine fG (aj4 @tmz @h0 @ho @Zaj) ?_
 cases ha:o.assoc with
 | false =>
  rw [ha] at cA;refine gB ?_;refine fC (ai @tmz @ha) (cA) ?_;by_cases c:t.args.length=d.args.length
  ·have hT:=Zf4 (g:=g) (.inr ⟨o,d,h0,ho,hd,h4,h5,fun h=>(by rw [ha] at h;cases h),fun _=>c⟩);have c':((t.args.length:Int)=(d.args.length:Int)):=om;refine fR (aj3 @tmz @c' @ha) ?_;exact fT @hT
  ·have hf:=hno fun h=>c ((hgt h).nas ha);have c':¬ ((t.args.length:Int)=(d.args.length:Int)):=om;refine fR (aj3 @tmz @c' @ha) ?_;exact fT @hf
 | true =>
  refine gB ?_;refine fC (ai @tmz @ha) (Zez _ _ _) ?_;by_cases c:2<=t.args.length∧t.args.length<=7
  ·have hT:=Zf4 (g:=g) (.inr ⟨o,d,h0,ho,hd,h4,h5,fun _=>c,fun h=>(by rw [ha] at h;cases h)⟩);have c':decide ((2:Int)<=(t.args.length:Int)∧(t.args.length:Int)<=7)=true:=by simp only [decide_eq_true_eq];omega
   refine fR (aj3 @tmz @c' @ha) ?_;exact fT @hT
  ·have hf:=hno fun h=>c ((hgt h).asc ha);have c':decide ((2:Int)<=(t.args.length:Int)∧(t.args.length:Int)<=7)=false:=by simp only [decide_eq_false_iff_not];omega
   refine fR (aj3 @tmz @c' @ha) ?_;exact fT @hf
end
section
variable {g:Sgn}
open Classical in
noncomputable def ZeO (g:Sgn) (op:Int) (args:List Tm):Bool:=decide (Zie g op args)
theorem ZjY (hg:SgnOk g) {op:Int} {o:Opr} (ho:g.ops[op.toNat]?=some o) (hu:o.unit≠0) {a:Tm} (ha:ZaF g a) (hop:a.op=o.unit - 1):a=Zbd o:=by
 have hax:=hg.axs o (Tac ho);have hlo:=hax.lo;obtain ⟨p,u,h⟩:=ha.node.app om;obtain ⟨d,hd,_⟩:=hg.first ho;have e:a.op.toNat=o.unit.toNat - 1:=om;have hz:u.args.length=0:=by
  have h2:=hax.two (.inr (.inr hu)) d hd;obtain ⟨d0,hd0⟩:∃ x,d.args[0]?=some x:=⟨_,Taa om⟩;obtain ⟨d1,hd1⟩:∃ x,d.args[1]?=some x:=⟨_,Taa om⟩;exact ((h2.2 d0 d1 hd0 hd1).2.2 hu p u (by rw [<- e];exact h.at') h.fst).1
 have has:p.assoc=false:=by
  cases hp:p.assoc with
  | false=>rfl
  | true =>
   have:=((hg.axs p (Tac h.at')).two (.inl hp) u h.fst).1;omega
 have hl:=h.nas has;have hnil:a.args=[]:=Tao om;have hnm:=h.nm;have hso:=h.so
 cases a with
 | mk x n s l =>
  simp only [Tm.args,Tm.name,Tm.sort,Tm.op] at *;subst hnil hnm hso hop;simp only [Zbd,if_neg hu]
theorem ZhJ {o:Opr} (h0:0<=o.unit) (h1:o.unit<=14):okTm (Zbd o):=by
 rw [ZfH];simp only [Zbd,Tm.op,Tm.name,Tm.sort,Tm.args,ZaD,and_true];refine ⟨?_,by simp [maxLen],?_⟩
 ·unfold I64;split <;> omega
 ·unfold I64;omega
theorem ZsC (hokg:ZdQ g) (hg:SgnOk g) {t:Tm} {o:Opr} {d:Dcl} (hA:AppOk g t o d) (hF:∀ a∈t.args,ZaF g a) (hok:okTm t) (hb:sizeTm t<=big):Con e0 106 [.agg (ZaB g),.agg (Zac t)] [.one (.lit (.bool (ZeO g t.op t.args)))]:=by
 have hno:¬ Zie g t.op t.args->ZeO g t.op t.args=false:=fun h=>by simp [ZeO,h]
 obtain ⟨k1,k2,k3,k4⟩:=ZfH.1 hok;have hsz:=Zbt t;have hal:=ZbX t.args;unfold big at hb;have h0:=hA.lo;have ho:=hA.at';have hd:=hA.fst;obtain ⟨d',hd',hr0,hr1,hargs⟩:=hg.first ho;rw [hd] at hd';injection hd' with hd'
 subst hd';have hax:=hg.axs o (Tac ho);have hlo:=hax.lo;have hhi:=hax.hi;have hln:=hg.len;have cK:=ZeW hg.sorts;rw [Zbo] at cK;have cUn:=ZiS hg h0 ho;rw [ZaB] at cUn;have hnoA:∀ (i:Nat) a,t.args[i]?=some a->¬ ArgOk g t.op o d t.args i a->ZeO g t.op t.args=false:=fun i a ha h=>hno fun hR=>h (hR o d ho hd i a ha);refine gI 9903595872146772515857895423 Tryz.func106 ?_;refine fB (aj5 @tmz @Zcq @h0 @ho @Zaj) ?_
 refine fC @tmz (cK) ?_;refine fR @tmz ?_;refine fB @tmz ?_;refine fC @tmz (cUn) ?_;refine fR @tmz ?_;refine fG @tmz ?_;have F:=@e0P;refine gL (ι:=Nat) [4,9,10,11,32,42,76,93] [] (fun i=>[(9,A.d (.one (.lit (.int .i64 i))))]) (fun i=>[]) (fun i=>i<=t.args.length∧∀ (j:Nat) a,j < i->t.args[j]?=some a->ArgOk g t.op o d t.args j a) (fun i=>t.args.length - i) (0) (⟨om,fun j a h=>absurd h om⟩) (fun i hi=>?_);clear F
 obtain ⟨hil,hall⟩:=hi;by_cases hl:i < t.args.length;rotate_left
 ·have hl':¬ ((i:Int) < (t.args.length:Int)):=om;have hT:ZeO g t.op t.args=true:=by
   simp only [ZeO,decide_eq_true_eq];intro o' d' ho' hd' j a hj;rw [ho] at ho';injection ho' with ho'
   subst ho';rw [hd] at hd';injection hd' with hd'
   subst hd';exact hall j a (by have:=(Tad.1 hj).1;omega) hj
  exact fT (aj3 @tmz @hl' @hT)
 have hl':(i:Int) < (t.args.length:Int):=om;obtain ⟨a,ha⟩:∃ a,t.args[i]?=some a:=⟨_,Taa hl⟩;have hm:=Tac ha;have hFa:=hF a hm;have hw1:=Zau (k:=i) om;obtain ⟨k,hk⟩:=ZhH hg ho hd hA.nas hl;obtain ⟨hk0,hk1⟩:=hargs k (Tac hk);have hkd:=Zhe hg.sorts hk0 hk1;have cKa:=Zm1 hokg hg hFa.node;rw [ZaB] at cKa;have cU:=Zfn (k4.mem hm) (ZhJ (o:=o) hlo om);have hUiff:o.unit≠0->(Zai a (Zbd o)=0 ↔ a.op=o.unit - 1):=fun hu=>by
  rw [ZjO];constructor
  ·rintro h;rw [h];simp [Zbd,Tm.op,hu]
  ·exact ZjY hg ho hu hFa
 generalize hU:decide (Zai a (Zbd o)=0)=U at cU;have hnext:Zb1 g a=((kd g.sorts k:Nat):Int)->(o.assoc=true->¬ a.op=t.op)->(o.unit≠0->U=false)->(o.comm=true->∀ (j:Nat) p,i=j+1->t.args[j]?=some p->Zai p a<=0)->i+1<=t.args.length∧∀ (j:Nat) a,j < i+1->t.args[j]?=some a->ArgOk g t.op o d t.args j a:=fun hkk hne hU' hc=>⟨om,fun j a' hj ha'=>by
  by_cases e:j=i
  ·subst e;rw [ha] at ha';injection ha' with ha'
   subst ha';refine ⟨fun k' hk'=>?_,hne,fun h1 h2=>?_,hc⟩
   ·rw [hk] at hk';injection hk' with hk'
    subst hk';exact hkk
   ·have:=hU' h1;rw [this] at hU;simp only [decide_eq_false_iff_not] at hU;exact hU ((hUiff h1).2 h2)
  ·exact hall j a' om ha'⟩
 have hkN:d.args[(argAt o i:Nat)]?=some k:=hk;refine fG (aj3 @tmz @hl' @ha) ?_;refine gM (ι:=Unit) [11] [] (fun u=>[(11,A.d (.one (.lit (.int .i64 (argAt o i:Nat)))))]) (fun u=>[]) (fun u=>True) ?_ (fun u hu=>Exists.intro _ (ai (Wk.refl _) ?_))
 ·rcases Bool.eq_false_or_eq_true o.assoc with hac | hac
  ·have F:=aj3 @Zaj @hac @ZkK;refine gG ?_;exact ⟨(),trivial,gw,gw⟩
  ·have F:=aj4 @Zaj @hac @ZkK @if_false.{1};refine gG ?_;exact ⟨(),trivial,gw,gw⟩
 refine fG @tmz ?_;refine gM (ι:=Bool) [76] [] (fun x=>[(76,A.d (.one (.lit (.bool x))))]) (fun x=>[]) (fun x=>(x=true->ZeO g t.op t.args=false)∧(x=false->Zb1 g a=((kd g.sorts k:Nat):Int)∧(o.assoc=true->¬ a.op=t.op)∧(o.unit≠0->U=false))) ?_ (fun x hx=>Exists.intro _ (ai (Wk.refl _) ?_))
 ·refine gB ?_;refine fC @tmz (cKa) ?_;by_cases hkk:Zb1 g a=((kd g.sorts k:Nat):Int);rotate_left
  ·have hf:=hnoA i a ha fun h=>hkk (h.kind k hk);refine fR (aj9 @tmz @Zaj @hd @ZaV @hkN @hk0 @hkd @Zbb @hkk) ?_;have F:=@tmz;refine gG ?_;exact ⟨true,⟨fun _=>hf,fun h=>by cases h⟩,gw,gw⟩
  by_cases hN:o.assoc=true∧a.op=t.op
  ·have hf:=hnoA i a ha fun h=>h.nest hN.1 hN.2;obtain ⟨hN1,hN2⟩:=hN;refine fR (aj11 @tmz @Zaj @hd @ZaV @hkN @hk0 @hkd @Zbb @hkk @hN1 @hN2) ?_;have F:=ai @tmz @hN1;refine gG ?_;exact ⟨true,⟨fun _=>hf,fun h=>by cases h⟩,gw,gw⟩
  have hne:o.assoc=true->¬ a.op=t.op:=fun h1 h2=>hN ⟨h1,h2⟩;rcases Bool.eq_false_or_eq_true o.assoc with hac | hac
  all_goals (
   by_cases hu:o.unit=0
   ·refine fR (aj12 @tmz @Zaj @hd @ZaV @hkN @hk0 @hkd @Zbb @hkk @hac @hne @hu) ?_;have F:=aj3 @tmz @hac @hu;refine gG ?_;exact ⟨false,⟨fun h=>(by cases h),fun _=>⟨hkk,hne,fun h=>absurd hu h⟩⟩,gw,gw⟩
   refine fC (aj12 @tmz @Zaj @hd @ZaV @hkN @hk0 @hkd @Zbb @hkk @hac @hne @hu) (cU) ?_;rcases Bool.eq_false_or_eq_true U with hub | hub
   ·have hf:=hnoA i a ha fun h=>by
     rw [hub] at hU;simp only [decide_eq_true_eq] at hU;exact h.unit hu ((hUiff hu).1 hU)
    refine fR (ai @tmz @hub) ?_;have F:=aj3 @tmz @hac @hu;refine gG ?_;exact ⟨true,⟨fun _=>hf,fun h=>by cases h⟩,gw,gw⟩
   ·refine fR (ai @tmz @hub) ?_
    (have F:=aj3 @tmz @hac @hu;refine gG ?_;exact ⟨false,⟨fun h=>(by cases h),fun _=>⟨hkk,hne,fun _=>hub⟩⟩,gw,gw⟩))
 cases x with
 | true =>
  have hf:=hx.1 rfl;exact fT @hf
 | false =>
  obtain ⟨hkk,hne,hub⟩:=hx.2 rfl;refine fG @tmz ?_;rcases Bool.eq_false_or_eq_true o.comm with hcm | hcm
  rotate_left
  ·have hq:=hnext hkk hne hub (fun h=>by rw [hcm] at h;cases h);have F:=aj4 @hw1 @tmz @Zaj @hcm;refine gG ?_;exact ⟨i+1,hq,gw,gw,om⟩
  rcases Nat.eq_zero_or_pos i with hi0 | hi0
  ·have hq:=hnext hkk hne hub (fun _ j p h=>om);have hi0':¬ ((0:Int) < (i:Int)):=om;have F:=aj5 @hw1 @tmz @Zaj @hcm @hi0';refine gG ?_;exact ⟨i+1,hq,gw,gw,om⟩
  obtain ⟨j,hj⟩:∃ j,i=j+1:=⟨i - 1,om⟩;obtain ⟨p,hp⟩:∃ p,t.args[j]?=some p:=⟨_,Taa om⟩;have cC:=ZdL (k4.mem (Tac hp)) (k4.mem hm);have hgt0:(0:Int) < (i:Int):=om;have hsub:IntKind.i64.wrap ((i:Int) - 1)=(j:Int):=ZaM om om om;refine gB ?_;refine fC (aj6 @tmz @Zaj @hcm @hgt0 @hsub @hp) (cC) ?_;by_cases hc:0 < Zai p a
  ·have hf:=hnoA i a ha fun h=>by have:=h.ord hcm j p hj hp;omega
   refine fR (ai @tmz @hc) ?_;exact fT @hf
  ·have hq:=hnext hkk hne hub (fun _ j' p' h hp'=>by
    have:j'=j:=om;subst this;rw [hp] at hp';injection hp' with hp'
    subst hp';omega)
   refine fR (ai @tmz @hc) ?_;have F:=aj4 @hw1 @tmz @Zaj @hcm;refine gG ?_;exact ⟨i+1,hq,gw,gw,om⟩
theorem Zn1 (hokg:ZdQ g) (hg:SgnOk g):∀ (n:Nat) (t:Tm),sizeTm t < n->okTm t->sizeTm t<=big->Con e0 53 [.agg (ZaB g),.agg (Zac t)] [.one (.lit (.bool (Zcc g t)))]:=by
 intro n
 induction n with
 | zero=>intro t h;omega
 | succ n ih =>
  intro t hn hok hb;have hno:¬ ZaF g t->Zcc g t=false:=ZjX;obtain ⟨k1,k2,k3,k4⟩:=ZfH.1 hok;have hsz:=Zbt t;have hal:=ZbX t.args;have cN:=ZvN hg hok hb;have hb':=hb;unfold big at hb';rw [ZaB] at cN;have ih':=fun a h1 h2 h3=>ih a h1 h2 h3;simp only [ZaB] at ih';refine gI 16794175 Tryz.func53 ?_;refine fB (ai @tmz @Zcq) ?_;refine fC @tmz (cN) ?_;by_cases hN:Ze0 g t=true;rotate_left
  ·have hf:=hno fun h=>hN (Zf4 h.node);have hN':Ze0 g t=false:=by simpa using hN
   refine fR (ai @tmz @hN') ?_;exact fT @hf
  have hNd:=ZvM.1 hN;refine fR (ai @tmz @hN) ?_;refine fG @tmz ?_;have F:=@e0P;refine gL (ι:=Nat) [4,5,14,24] [] (fun i=>[(5,A.d (.one (.lit (.int .i64 i))))]) (fun i=>[]) (fun i=>i<=t.args.length∧∀ (j:Nat) a,j < i->t.args[j]?=some a->ZaF g a) (fun i=>t.args.length - i) (0) (⟨om,fun j a h=>absurd h om⟩) (fun i hi=>?_);clear F;obtain ⟨hil,hall⟩:=hi;by_cases hl:i < t.args.length;rotate_left
  ·have hl':¬ ((i:Int) < (t.args.length:Int)):=om;have hF:∀ a∈t.args,ZaF g a:=fun a ha=>by
    obtain ⟨j,hj⟩:=Tbk ha;exact hall j a (by have:=(Tad.1 hj).1;omega) hj
   by_cases h1:t.op=-1
   ·have hT:=Zf3 (g:=g) (t:=t) (ZaY.2 ⟨hNd,hF,.inl h1⟩);exact fT (aj4 @tmz @hl' @h1 @hT)
   obtain ⟨o,d,hA⟩:=hNd.app h1;have cR:=ZsC hokg hg hA hF hok hb;rw [ZaB] at cR;have e:ZeO g t.op t.args=Zcc g t:=by
    unfold ZeO Zcc;congr 1;rw [ZaY];exact propext ⟨fun h=>⟨hNd,hF,.inr h⟩,fun h=>h.2.2.resolve_left h1⟩
   refine fB (aj3 @tmz @hl' @h1) ?_;refine fC (ai @tmz @h1) (cR) ?_;refine fR @tmz ?_;exact fT @e
  have hl':(i:Int) < (t.args.length:Int):=om;obtain ⟨a,ha⟩:∃ a,t.args[i]?=some a:=⟨_,Taa hl⟩;have hm:=Tac ha;have hsa:=ZbA hm;have hw1:=Zau (k:=i) om;refine fB (aj3 @tmz @hl' @ha) ?_;refine fC (ai @tmz @ha) (ih' a om (k4.mem hm) (by unfold big;omega)) ?_;by_cases hfa:Zcc g a=true;rotate_left
  ·have hf:=hno fun h=>hfa (Zf3 ((ZaY.1 h).2.1 a hm));have hfa':Zcc g a=false:=by simpa using hfa
   refine fR (ai @tmz @hfa') ?_;exact fT @hf
  have hq:i+1<=t.args.length∧∀ (j:Nat) a,j < i+1->t.args[j]?=some a->ZaF g a:=⟨om,fun j a' hj ha'=>by
   by_cases e:j=i
   ·subst e;rw [ha] at ha';injection ha' with ha'
    subst ha';exact ZmX.1 hfa
   ·exact hall j a' om ha'⟩
  refine fR (ai @tmz @hfa) ?_;have F:=ai @hw1 @tmz;refine gG ?_;exact ⟨i+1,hq,gw,gw,om⟩
theorem ZvO (hokg:ZdQ g) (hg:SgnOk g) {t:Tm} (hok:okTm t) (hb:sizeTm t<=big):Con e0 53 [.agg (ZaB g),.agg (Zac t)] [.one (.lit (.bool (Zcc g t)))]:=Zn1 hokg hg _ t (Tan _) hok hb
theorem Zii (hokg:ZdQ g) {t:Tm} (hok:okTm t) (hb:sizeTm t<=big):Con e0 20 [.agg (ZaB g),.agg (Zac t)] [.one (.lit (.bool (ZcI g && ZdD g t)))]:=by
 have cS:=ZsA hokg;rw [ZaB] at cS;refine gI 31 Tryz.func20 ?_;refine fB (ai @tmz @Zcq) ?_;refine fC @tmz (cS) ?_;by_cases hs:ZcI g=true;rotate_left
 ·have hs':ZcI g=false:=by simpa using hs
  refine fR (ai @tmz @hs') ?_;exact fT @hs'
 have hg:=Zzs.1 hs;have cF:=ZvO hokg hg hok hb;rw [ZaB] at cF;refine fC (ai @tmz @hs) (Zls hb) ?_;by_cases h1:sizeTm t<=60∧depthTm t<=20;rotate_left
 ·have hf:ZdD g t=false:=ZdY fun h=>h1 ⟨h.size,h.depth⟩;have h1':decide (sizeTm t<=60∧depthTm t<=20)=false:=by simp only [decide_eq_false_iff_not];exact h1
  refine fR (aj3 @tmz @h1' @hs) ?_;exact fT (ai @hs @hf)
 have h1':decide (sizeTm t<=60∧depthTm t<=20)=true:=by simp only [decide_eq_true_eq];exact h1
 have e:=Zlp (g:=g) h1.1 h1.2;refine fC (aj3 @tmz @h1' @hs) (cF) ?_;refine fR (aj3 @tmz @h1' @hs) ?_;exact fT (ai @hs @e)
end
def ZbH (o:Opr) (op:Int) (a:Tm):List Tm:=if o.assoc=true∧a.op=op then a.args else if o.unit≠0∧a.op=o.unit - 1 then [] else [a]
def Zax (o:Opr) (op:Int) (xs:List Tm):List Tm:=xs.flatMap (ZbH o op)
def KArg (g:Sgn) (o:Opr) (d:Dcl) (i:Nat) (a:Tm):Prop:=∃ k,d.args[argAt o i]?=some k∧Zb1 g a=kd g.sorts k
def srtO (o:Opr) (l:List Tm):List Tm:=if o.comm=true then ZaA l else l
def appT (op:Int) (l:List Tm):Tm:=.mk op ByteArray.empty 0 l
def BigT (o:Opr) (op:Int) (l:List Tm):Prop:=(o.assoc=true∧7 < l.length)∨60 < sizeTm (appT op l)∨20 < depthTm (appT op l)
def ArB (o:Opr) (d:Dcl) (n:Nat):Prop:=(o.assoc=true∧n < 2)∨(o.assoc=false∧n≠d.args.length)
open Classical in
noncomputable def mkL (o:Opr) (op:Int) (l:List Tm):Option Tm:=if o.unit≠0∧l.length < 2 then some (l.headD (Zbd o)) else if BigT o op (srtO o l) then none else some (appT op (srtO o l))
open Classical in
noncomputable def mkO (g:Sgn) (o:Opr) (d:Dcl) (op:Int) (xs:List Tm):Option Tm:=if ArB o d xs.length then none else if ∀ (i:Nat) a,xs[i]?=some a->KArg g o d i a then mkL o op (Zax o op xs) else none
noncomputable def mkT (g:Sgn) (op:Int) (xs:List Tm):Option Tm:=match g.ops[op.toNat]? with
 | none=>none
 | some o=>match o.decls[0]? with
  | none=>none
  | some d=>mkO g o d op xs
theorem ZzG {g:Sgn} {op:Int} {o:Opr} {d:Dcl} (ho:g.ops[op.toNat]?=some o) (hd:o.decls[0]?=some d) (xs:List Tm):mkT g op xs=mkO g o d op xs:=by simp only [mkT,ho,hd]
theorem Zlt {o:Opr} {op:Int} {xs:List Tm} {i:Nat} {a:Tm} (h:xs[i]?=some a):Zax o op (xs.take (i+1))=Zax o op (xs.take i)++ZbH o op a:=by
 rw [Zcw h];simp [Zax]
theorem ZhK (o:Opr) (op:Int) (xs:List Tm) (i:Nat):(Zax o op (xs.take i)).length<=(Zax o op xs).length:=by
 have:Zax o op xs=Zax o op (xs.take i)++Zax o op (xs.drop i):=by
  unfold Zax;rw [<- List.flatMap_append,Tbm]
 rw [this,Tae];omega
theorem Zgk (o:Opr) (l:List Tm):(srtO o l).Perm l:=by
 unfold srtO;split
 ·exact Zbg l
 ·exact List.Perm.refl _
theorem Zq5 (o:Opr) (l:List Tm):(srtO o l).length=l.length:=(Zgk o l).length_eq
theorem ZjZ {l m:List Tm} (h:l.Perm m):sizeTms l=sizeTms m:=by
 induction h with
 | nil=>rfl
 | cons x h ih=>simp only [sizeTms,ih]
 | swap x y l=>simp only [sizeTms];omega
 | trans h1 h2 a b=>rw [a,b]
theorem Zjp {l m:List Tm} (h:l.Perm m):depthTms l=depthTms m:=by
 induction h with
 | nil=>rfl
 | cons x h ih=>simp only [depthTms,ih]
 | swap x y l=>simp only [depthTms];omega
 | trans h1 h2 a b=>rw [a,b]
theorem Opr.two {g:Sgn} (hg:SgnOk g) {i:Nat} {o:Opr} {d:Dcl} (ho:g.ops[i]?=some o) (hd:o.decls[0]?=some d) (h:o.assoc=true∨o.comm=true∨o.unit≠0):∃ k1 k2,d.args=[k1,k2]∧kd g.sorts k1=kd g.sorts k2∧((o.assoc=true∨o.unit≠0)->kd g.sorts k1=kd g.sorts d.res):=by
 have h2:=(hg.axs o (Tac ho)).two h d hd;obtain ⟨a,b,hab⟩:=ZqN h2.1;have h3:=h2.2 a b (by rw [hab];rfl) (by rw [hab];rfl);exact ⟨a,b,hab,h3.1,h3.2.1⟩
theorem ZoS {g:Sgn} (hg:SgnOk g) {i:Nat} {o:Opr} {d:Dcl} (ho:g.ops[i]?=some o) (hd:o.decls[0]?=some d) (hu:o.unit≠0):TermOk g (Zbd o)∧Zb1 g (Zbd o)=kd g.sorts d.res:=by
 have hax:=hg.axs o (Tac ho);have hlo:=hax.lo;have hhi:=hax.hi;obtain ⟨k1,k2,hk,_⟩:=Opr.two hg ho hd (.inr (.inr hu));obtain ⟨p,hp⟩:∃ p,g.ops[o.unit.toNat - 1]?=some p:=⟨_,Taa om⟩;obtain ⟨u,hfu,_⟩:=hg.first hp;have h2:=((hax.two (.inr (.inr hu)) d hd).2 k1 k2 (by rw [hk];rfl) (by rw [hk];rfl)).2.2 hu p u hp hfu;have e:Zbd o=.mk (o.unit - 1) ByteArray.empty 0 []:=by simp only [Zbd,if_neg hu]
 have hop:((o.unit - 1:Int)).toNat=o.unit.toNat - 1:=om;have has:p.assoc=false:=by
  cases hpa:p.assoc with
  | false=>rfl
  | true=>have:=((hg.axs p (Tac hp)).two (.inl hpa) u hfu).1;omega
 have hA:AppOk g (Zbd o) p u:=by
  rw [e];exact ⟨by simp only [Tm.op];omega,by simp only [Tm.op];rw [hop];exact hp,hfu,rfl,rfl,fun h=>(by rw [has] at h;cases h),fun _=>by simp only [Tm.args,Tak];omega⟩
 refine ⟨⟨?_,?_,ZaY.2 ⟨.inr ⟨p,u,hA⟩,?_,.inr ?_⟩⟩,?_⟩
 ·rw [e];simp only [sizeTm,sizeTms];omega
 ·rw [e];simp only [depthTm,depthTms];omega
 ·rw [e];intro a ha;simp [Tm.args] at ha
 ·rw [e];intro o' d' _ _ j a ha;simp [Tm.args] at ha
 ·have hneg:¬ ((Zbd o).op=-1):=hA.op;rw [Zb1,if_neg hneg,e];simp only [Tm.op];rw [ZiR (by rw [hop];exact hp) hfu,h2.2]
structure FlOk (g:Sgn) (o:Opr) (op:Int) (b:Tm):Prop where
 form:ZaF g b
 size:sizeTm b<=60
 depth:depthTm b<=20
 nest:o.assoc=true->b.op≠op
 unit:o.unit≠0->b.op≠o.unit - 1
theorem ZF1 {g:Sgn} (hg:SgnOk g) {op:Int} {o:Opr} {d:Dcl} (h0:0<=op) (ho:g.ops[op.toNat]?=some o) (hd:o.decls[0]?=some d) {a:Tm} (ha:TermOk g a):∀ b∈ZbH o op a,FlOk g o op b:=by
 intro b hb;unfold ZbH at hb;split at hb
 ·rename_i h;obtain ⟨h1,h2⟩:=h;obtain ⟨_,f2,f3⟩:=ZaY.1 ha.form;have hR:=f3.resolve_left om;rw [h2] at hR;obtain ⟨j,hj⟩:=Tbk hb;have hA:=hR o d ho hd j b hj;have s1:=ZbA hb;have s2:=Zhc hb;have s3:=ha.size;have s4:=ha.depth;rw [Zbt] at s3;rw [ZgE] at s4;exact ⟨f2 b hb,om,om,hA.nest,hA.unit⟩
 ·rename_i h;split at hb
  ·simp at hb
  ·rename_i h';simp only [Tbj] at hb;subst hb;exact ⟨ha.form,ha.size,ha.depth,fun h1 h2=>h ⟨h1,h2⟩,fun h1 h2=>h' ⟨h1,h2⟩⟩
theorem ZzH {g:Sgn} (hg:SgnOk g) {op:Int} {o:Opr} {d:Dcl} (h0:0<=op) (ho:g.ops[op.toNat]?=some o) (hd:o.decls[0]?=some d) {xs:List Tm} (ha:∀ a∈xs,TermOk g a):∀ b∈Zax o op xs,FlOk g o op b:=by
 intro b hb;obtain ⟨a,h1,h2⟩:=List.mem_flatMap.1 hb;exact ZF1 hg h0 ho hd (ha a h1) b h2
theorem ZEy {g:Sgn} (hg:SgnOk g) {op:Int} {o:Opr} {d:Dcl} {k1 k2:Int} (h0:0<=op) (ho:g.ops[op.toNat]?=some o) (hd:o.decls[0]?=some d) (hk:d.args=[k1,k2]) (hkk:kd g.sorts k1=kd g.sorts k2) {a:Tm} (ha:TermOk g a) {i:Nat} (hK:KArg g o d i a):∀ b∈ZbH o op a,Zb1 g b=kd g.sorts k1:=by
 have hat:∀ (j:Nat) k,d.args[j]?=some k->kd g.sorts k=kd g.sorts k1:=fun j k h=>by
  rw [hk] at h
  match j,h with
  | 0,h=>simp only [Tat,Taq] at h;rw [h]
  | 1,h=>simp only [Tau,Tat,Taq] at h;rw [<- h,hkk]
  | j+2,h=>simp at h
 intro b hb;unfold ZbH at hb;split at hb
 ·rename_i h;obtain ⟨h1,h2⟩:=h;obtain ⟨_,f2,f3⟩:=ZaY.1 ha.form;have hR:=f3.resolve_left om;rw [h2] at hR;obtain ⟨j,hj⟩:=Tbk hb;exact (hR o d ho hd j b hj).kind k1 (by rw [argAt,if_pos h1,hk];rfl)
 ·split at hb
  ·simp at hb
  ·simp only [Tbj] at hb;subst hb;obtain ⟨k,h1,h2⟩:=hK;rw [h2,hat _ _ h1]
theorem Zlu {g:Sgn} (hg:SgnOk g) {op:Int} {o:Opr} {d:Dcl} {k1 k2:Int} (h0:0<=op) (ho:g.ops[op.toNat]?=some o) (hd:o.decls[0]?=some d) (hk:d.args=[k1,k2]) (hkk:kd g.sorts k1=kd g.sorts k2) {xs:List Tm} (ha:∀ a∈xs,TermOk g a) (hK:∀ (i:Nat) a,xs[i]?=some a->KArg g o d i a):∀ b∈Zax o op xs,Zb1 g b=kd g.sorts k1:=by
 intro b hb;obtain ⟨a,h1,h2⟩:=List.mem_flatMap.1 hb;obtain ⟨i,hi⟩:=Tbk h1;exact ZEy hg h0 ho hd hk hkk (ha a h1) (hK i a hi) b h2
theorem ZzI {o:Opr} {op:Int} (has:o.assoc=false) (a:Tm):(ZbH o op a).length<=1∧((ZbH o op a).length=1->ZbH o op a=[a]):=by
 unfold ZbH;rw [if_neg fun h=>by rw [has] at h;cases h.1];split <;> simp
theorem Zj0 {o:Opr} {op:Int} (has:o.assoc=false):∀ (xs:List Tm),(Zax o op xs).length<=xs.length∧((Zax o op xs).length=xs.length->Zax o op xs=xs)
 | []=>⟨Tai _,fun _=>rfl⟩
 | a::xs=>by
  obtain ⟨i1,i2⟩:=Zj0 (op:=op) has xs;obtain ⟨j1,j2⟩:=ZzI (op:=op) has a;have e:Zax o op (a::xs)=ZbH o op a++Zax o op xs:=rfl;rw [e,Tae,Tag];refine ⟨om,fun h=>?_⟩;rw [j2 om,i2 om];rfl
theorem Zlv {o:Opr} {op:Int} (has:o.assoc=false) (hu:o.unit=0) (xs:List Tm):Zax o op xs=xs:=by
 induction xs with
 | nil=>rfl
 | cons a xs ih =>
  have e:Zax o op (a::xs)=ZbH o op a++Zax o op xs:=rfl;rw [e,ih];unfold ZbH;rw [if_neg (fun h=>by rw [has] at h;cases h.1),if_neg fun h=>h.1 hu];rfl
theorem Zm4 {o:Opr} {op:Int} {g:Sgn} (hg:SgnOk g) (h0:0<=op) (ho:g.ops[op.toNat]?=some o) (hac:o.assoc=true) (hu:o.unit=0):∀ {xs:List Tm},(∀ a∈xs,TermOk g a)->xs.length<=(Zax o op xs).length
 | [],_=>Tai _
 | a::xs,ha=>by
  have ih:=Zm4 hg h0 ho hac hu (xs:=xs) fun x hx=>ha x (Tal _ hx);have e:Zax o op (a::xs)=ZbH o op a++Zax o op xs:=rfl;rw [e,Tae,Tag];have:1<=(ZbH o op a).length:=by
   unfold ZbH;split
   ·rename_i h;obtain ⟨o',d',hA⟩:=(ha a Tas).form.node.app om;have:o'=o:=by have:=hA.at';rw [h.2,ho] at this;injection this with this;exact this.symm
    subst this;have:=(hA.asc hac).1;omega
   ·rw [if_neg fun h=>h.1 hu];simp
  omega
theorem ZFn {g:Sgn} (hg:SgnOk g) {op:Int} {o:Opr} {d:Dcl} (h0:0<=op) (ho:g.ops[op.toNat]?=some o) (hd:o.decls[0]?=some d) {xs:List Tm} (ha:∀ a∈xs,TermOk g a) {t:Tm} (h:mkO g o d op xs=some t):TermOk g t∧Zb1 g t=kd g.sorts d.res:=by
 unfold mkO at h;split at h
 ·cases h
 rename_i hAr;split at h;rotate_left
 ·cases h
 rename_i hK;have hfl:=ZzH hg h0 ho hd ha;unfold mkL at h;split at h
 ·rename_i hu;obtain ⟨hu,hl⟩:=hu;injection h with h
  have hU:=ZoS hg ho hd hu;obtain ⟨k1,k2,hk,hkk,hkr⟩:=Opr.two hg ho hd (.inr (.inr hu));have hfk:=Zlu hg h0 ho hd hk hkk ha hK
  cases hf:Zax o op xs with
  | nil=>rw [hf] at h;simp only [List.headD] at h;subst h;exact hU
  | cons b bs =>
   rw [hf] at h hfl hfk;simp only [List.headD] at h;subst h;have hb:=hfl b Tas;exact ⟨⟨hb.size,hb.depth,hb.form⟩,by rw [hfk b Tas,hkr (.inr hu)]⟩
 ·rename_i hu;split at h
  ·cases h
  rename_i hB;injection h with h
  subst h;have hB1:¬ (o.assoc=true∧7 < (srtO o (Zax o op xs)).length):=fun q=>hB (.inl q);have hB2:¬ 60 < sizeTm (appT op (srtO o (Zax o op xs))):=fun q=>hB (.inr (.inl q));have hB3:¬ 20 < depthTm (appT op (srtO o (Zax o op xs))):=fun q=>hB (.inr (.inr q));have hp:=Zgk o (Zax o op xs);have hsl:=hp.length_eq;have hmem:∀ b,b∈srtO o (Zax o op xs) ↔ b∈Zax o op xs:=fun b=>hp.mem_iff;have hneg:¬ ((appT op (srtO o (Zax o op xs))).op=-1):=by simp only [appT,Tm.op];omega
  refine ⟨⟨om,om,ZaY.2 ⟨.inr ⟨o,d,h0,ho,hd,rfl,rfl,fun hac=>?_,fun has=>?_⟩,fun a hm=>(hfl a ((hmem a).1 hm)).form,.inr ?_⟩⟩,?_⟩
  ·simp only [appT,Tm.args];have:¬ (xs.length < 2):=fun q=>hAr (.inl ⟨hac,q⟩);by_cases hu0:o.unit=0
   ·have:=Zm4 hg h0 ho hac hu0 ha;exact ⟨om,by have:¬ (7 < (srtO o (Zax o op xs)).length):=fun q=>hB1 ⟨hac,q⟩;omega⟩
   ·exact ⟨by have:¬ ((Zax o op xs).length < 2):=fun q=>hu ⟨hu0,q⟩;omega,by have:¬ (7 < (srtO o (Zax o op xs)).length):=fun q=>hB1 ⟨hac,q⟩;omega⟩
  ·simp only [appT,Tm.args];have hlen:xs.length=d.args.length:=Classical.byContradiction fun q=>hAr (.inr ⟨has,q⟩);rw [hsl];by_cases hu0:o.unit=0
   ·rw [Zlv has hu0,hlen]
   ·obtain ⟨k1,k2,hk,_⟩:=Opr.two hg ho hd (.inr (.inr hu0));have h1:=(Zj0 (op:=op) has xs).1;have:¬ ((Zax o op xs).length < 2):=fun q=>hu ⟨hu0,q⟩;rw [hlen,hk] at h1;rw [hk];simp only [Tag,Tak] at h1 ⊢;omega
  ·intro o' d' ho' hd' i a hi;simp only [appT,Tm.op] at ho';rw [ho] at ho';injection ho' with ho'
   subst ho';rw [hd] at hd';injection hd' with hd'
   subst hd';simp only [appT,Tm.args] at hi ⊢;have hm:=Tac hi;have hf:=hfl a ((hmem a).1 hm);refine ⟨fun k hk=>?_,hf.nest,hf.unit,fun hc j p hij hj=>?_⟩
   ·by_cases hax:o.assoc=true∨o.comm=true∨o.unit≠0
    ·obtain ⟨k1,k2,hka,hkk,_⟩:=Opr.two hg ho hd hax;have hfk:=Zlu hg h0 ho hd hka hkk ha hK a ((hmem a).1 hm);rw [hfk];have:kd g.sorts k=kd g.sorts k1:=by
      generalize argAt o i=n at hk;rw [hka] at hk
      match n,hk with
      | 0,hk=>simp only [Tat,Taq] at hk;rw [hk]
      | 1,hk=>simp only [Tau,Tat,Taq] at hk;rw [<- hk,hkk]
      | n+2,hk=>simp at hk
     rw [this]
    ·have has:o.assoc=false:=by cases h:o.assoc with | false=>rfl | true=>exact absurd (.inl h) hax
     have hc:o.comm=false:=by cases h:o.comm with | false=>rfl | true=>exact absurd (.inr (.inl h)) hax
     have hu0:o.unit=0:=Classical.byContradiction fun q=>hax (.inr (.inr q));rw [srtO,if_neg (by rw [hc];simp),Zlv has hu0] at hi;obtain ⟨k',h1,h2⟩:=hK i a hi;rw [hk] at h1;injection h1 with h1
     rw [h2,h1]
   ·rw [srtO,if_pos hc] at hi hj;exact (Zcs _).get om hj hi
  ·rw [Zb1,if_neg hneg];simp only [appT,Tm.op];rw [ZiR ho hd]
theorem ZaF.ok {g:Sgn} (hg:SgnOk g):∀ (n:Nat) (t:Tm),sizeTm t < n->ZaF g t->okTm t:=by
 intro n
 induction n with
 | zero=>intro t h;omega
 | succ n ih =>
  intro t hn hf;obtain ⟨h1,h2,_⟩:=ZaY.1 hf;have hargs:ZaD t.args:=by
   have:∀ l:List Tm,(∀ a∈l,okTm a)->ZaD l:=fun l=>by
    induction l with
    | nil=>intro _;trivial
    | cons x xs ih=>intro h;exact ⟨h x Tas,ih fun a ha=>h a (Tal _ ha)⟩
   refine this _ fun a ha=>ih a ?_ (h2 a ha);have:=ZbA ha;rw [Zbt] at hn;omega
  rw [ZfH];have hsn:g.sorts.names.length<=8:=hg.sorts.n8;rcases h1 with hv | ⟨o,d,hA⟩
  ·obtain ⟨v1,v2,v3,v4,v5⟩:=hv;have:t.name.size<=12:=by unfold ZbF at v2;simp only [Tar,decide_eq_true_eq] at v2;exact v2.1.1.1.2
   exact ⟨by unfold I64;omega,by unfold maxLen;omega,by unfold I64;omega,hargs⟩
  ·have h3:=hA.lo;have h4:=(Tad.1 hA.at').1;have h5:=hg.len;rw [hA.nm,hA.so];exact ⟨by unfold I64;omega,by simp [maxLen],by unfold I64;omega,hargs⟩
theorem TermOk.ok {g:Sgn} (hg:SgnOk g) {t:Tm} (h:TermOk g t):okTm t:=ZaF.ok hg _ t (Tan _) h.form
theorem TermOk.arg {g:Sgn} {t a:Tm} (h:TermOk g t) (ha:a∈t.args):TermOk g a:=by
 have s1:=ZbA ha;have s2:=Zhc ha;have s3:=h.size;have s4:=h.depth;rw [Zbt] at s3;rw [ZgE] at s4;exact ⟨om,om,(ZaY.1 h.form).2.1 a ha⟩
theorem TermOk.app {g:Sgn} {t a:Tm} (h:TermOk g t) (ha:a∈t.args):∃ o d,AppOk g t o d:=by
 rcases h.form.node with hv | h
 ·rw [hv.2.2.2.2] at ha;cases ha
 ·exact h
theorem ZFo {g:Sgn} (hg:SgnOk g) {op:Int} (h0:0<=op) {xs:List Tm} (ha:∀ a∈xs,TermOk g a) {t:Tm} (h:mkT g op xs=some t):TermOk g t:=by
 unfold mkT at h
 cases ho:g.ops[op.toNat]? with
 | none=>rw [ho] at h;cases h
 | some o =>
  rw [ho] at h;simp only at h
  cases hd:o.decls[0]? with
  | none=>rw [hd] at h;cases h
  | some d =>
   rw [hd] at h;exact (ZFn hg h0 ho hd ha h).1
theorem Zq6 {g:Sgn} {t:Tm} (h:TermOk g t):t.args.length<=60:=by
 have h1:=h.size;rw [Zbt] at h1;have:=ZbX t.args;omega
end Go.Proofs.YtkigoajepohkaaaGreatDoor
namespace Go.Proofs.YtkigoajepohkaaaGreatDoor
theorem ZlU (m p:Nat) (a b:Bool):(2 * m+a.toNat) &&& (2 * p+b.toNat)=2 * (m &&& p)+(a && b).toNat:=by
 apply Nat.eq_of_testBit_eq;intro i;rw [Nat.testBit_and]
 cases i with
 | zero=>simp only [Nat.testBit_zero];cases a <;> cases b <;> simp [Nat.add_mod]
 | succ i =>
  simp only [Nat.testBit_succ];have h:∀ (n:Nat) (c:Bool),(2 * n+c.toNat) / 2=n:=fun n c=>by cases c <;> simp <;> omega
  rw [h,h,h,Nat.testBit_and]
theorem Zj1 (n:Nat):∃ m,∃ a:Bool,n=2 * m+a.toNat:=by
 refine ⟨n / 2,decide (n % 2=1),?_⟩;rcases Nat.mod_two_eq_zero_or_one n with h | h
 ·rw [h];simp;omega
 ·rw [h];simp;omega
theorem ZEz {m p:Nat} {a b:Bool}:2 * m+a.toNat=2 * p+b.toNat ↔ m=p∧a=b:=by
 constructor
 ·intro h;cases a <;> cases b <;> simp_all <;> omega
 ·rintro ⟨rfl,rfl⟩;rfl
theorem ZoT {q m:Nat} (h:q &&& m=q):q<=m:=by rw [<- h];exact Nat.and_le_right
theorem Zq7:∀ (m p q:Nat),p &&& m=p->q &&& m=q->q < p->q<=(p - 1) &&& m:=by
 intro m
 induction m using Nat.strongRecOn with
 | ind m ih =>
 intro p q hp hq hlt;by_cases hm:m=0
 ·subst hm;simp at hp hq;omega
 obtain ⟨m',a,rfl⟩:=Zj1 m;obtain ⟨p',b,rfl⟩:=Zj1 p;obtain ⟨q',c,rfl⟩:=Zj1 q;rw [ZlU,ZEz] at hp hq;have hm':m' < 2 * m'+a.toNat:=by cases a <;> simp at hm ⊢ <;> omega
 cases b with
 | true =>
  have e:2 * p'+true.toNat - 1=2 * p'+false.toNat:=by simp
  rw [e,ZlU,hp.1]
  cases c <;> simp at hlt hq ⊢ <;> omega
 | false =>
  have hlt':q' < p':=by cases c <;> simp at hlt <;> omega
  have e:2 * p'+false.toNat - 1=2 * (p' - 1)+true.toNat:=by simp;omega
  rw [e,ZlU];have:=ih m' hm' p' q' hp.1 hq.1 hlt';have h2:=hq.2
  cases c <;> cases a <;> simp at h2 ⊢ <;> omega
open Classical in
noncomputable def ofB (P:Nat->Prop):Nat->Nat
 | 0=>0
 | n+1=>ofB P n ||| (if P n then 2 ^ n else 0)
theorem Zdu (P:Nat->Prop):∀ (n i:Nat),(ofB P n).testBit i=true ↔ i < n∧P i
 | 0,i=>by simp [ofB]
 | n+1,i=>by
  rw [ofB,Nat.testBit_or,Bool.or_eq_true,Zdu P n i];by_cases h:P n
  ·rw [if_pos h,Nat.testBit_two_pow];simp only [decide_eq_true_eq];constructor
   ·rintro (⟨h1,h2⟩ | rfl)
    ·exact ⟨om,h2⟩
    ·exact ⟨om,h⟩
   ·rintro ⟨h1,h2⟩;by_cases h3:n=i
    ·exact .inr h3
    ·exact .inl ⟨om,h2⟩
  ·rw [if_neg h];simp only [Nat.zero_testBit,Tam,or_false];constructor
   ·rintro ⟨h1,h2⟩;exact ⟨om,h2⟩
   ·rintro ⟨h1,h2⟩;by_cases h3:i=n
    ·subst h3;exact absurd h2 h
    ·exact ⟨om,h2⟩
theorem Zcd (P:Nat->Prop) (n:Nat):ofB P n < 2 ^ n:=by
 apply Nat.lt_pow_two_of_testBit;intro i hi
 cases h:(ofB P n).testBit i with
 | false=>rfl
 | true=>have:=((Zdu P n i).1 h).1;omega
theorem Zm5 {v n i:Nat} (h:v < 2 ^ n) (hb:v.testBit i=true):i < n:=by
 apply Classical.byContradiction;intro hc;have:v < 2 ^ i:=Tbd h (Tbt (by decide) om);rw [Tbu this] at hb
 cases hb
theorem ZvP {v u:Nat} (h:∀ i,v.testBit i=true ↔ u.testBit i=true):v=u:=by
 apply Nat.eq_of_testBit_eq;intro i;have:=h i
 cases h1:v.testBit i <;> cases h2:u.testBit i <;> simp_all
theorem Zm6 {P:Nat->Prop} {n v:Nat} (hv:v < 2 ^ n) (h:∀ i,i < n->(v.testBit i=true ↔ P i)):v=ofB P n:=by
 apply ZvP;intro i;rw [Zdu];constructor
 ·intro hb;have:=Zm5 hv hb;exact ⟨this,(h i this).1 hb⟩
 ·rintro ⟨h1,h2⟩;exact (h i h1).2 h2
theorem Za5 {P Q:Nat->Prop} {n:Nat} (h:∀ i,i < n->(P i ↔ Q i)):ofB P n=ofB Q n :=
 Zm6 (Zcd P n) fun i hi=>by rw [Zdu,h i hi];exact ⟨fun x=>x.2,fun x=>⟨hi,x⟩⟩
inductive BagB (R:Nat->Nat->Nat->Prop) (sets:List Nat):Nat->Nat->Prop
 | leaf {i b s:Nat}:sets[i]?=some s->s.testBit b=true->BagB R sets (2 ^ i) b
 | node {p q a c b:Nat}:p≠0->q≠0->p &&& q=0->BagB R sets p a->BagB R sets q c->R a c b->BagB R sets (p ||| q) b
inductive ChB (R:Nat->Nat->Nat->Prop) (sets:List Nat):Nat->Nat->Nat->Prop
 | leaf {i b s:Nat}:sets[i]?=some s->s.testBit b=true->ChB R sets i (i+1) b
 | node {i k j a c b:Nat}:i < k->k < j->ChB R sets i k a->ChB R sets k j c->R a c b->ChB R sets i j b
def Two (R:Nat->Nat->Nat->Prop) (s t b:Nat):Prop:=∃ a c,s.testBit a=true∧t.testBit c=true∧R a c b
theorem ZuH (i j:Nat):(2 ^ i).testBit j=true ↔ i=j:=by rw [Nat.testBit_two_pow];simp
theorem ZlV {p:Nat} (h:p≠0):∃ i,p.testBit i=true:=by
 apply Classical.byContradiction;intro hc;apply h;apply Nat.eq_of_testBit_eq;intro i
 cases hb:p.testBit i with
 | false=>simp
 | true=>exact absurd ⟨i,hb⟩ hc
theorem Zn2 {p q i:Nat} (h:p &&& q=0) (h1:p.testBit i=true) (h2:q.testBit i=true):False:=by
 have:=congrArg (fun x=>x.testBit i) h;simp [h1,h2] at this
theorem ZvQ {p q i:Nat} (hp:p≠0) (hq:q≠0) (h:p &&& q=0):p ||| q≠2 ^ i:=by
 intro e;obtain ⟨a,ha⟩:=ZlV hp;obtain ⟨c,hc⟩:=ZlV hq;have h1:(2 ^ i).testBit a=true:=by rw [<- e,Nat.testBit_or,ha];rfl
 have h2:(2 ^ i).testBit c=true:=by rw [<- e,Nat.testBit_or,hc];simp
 rw [ZuH] at h1 h2;subst h1;subst h2;exact Zn2 h ha hc
theorem ZlW {R:Nat->Nat->Nat->Prop} {sets:List Nat} {i s b:Nat} (hs:sets[i]?=some s):BagB R sets (2 ^ i) b ↔ s.testBit b=true:=by
 constructor
 ·intro h;generalize hm:2 ^ i=m at h
  cases h with
  | leaf h1 h2 =>
   have:=(Nat.pow_right_inj (by decide)).1 hm;subst this;rw [hs] at h1;injection h1 with h1;subst h1;exact h2
  | node h1 h2 h3 _ _ _=>exact absurd hm.symm (ZvQ h1 h2 h3)
 ·exact fun h=>.leaf hs h
theorem ZFp {p q:Nat} (h:p &&& q=0):(p ||| q) ^^^ p=q:=by
 apply Nat.eq_of_testBit_eq;intro i;rw [Nat.testBit_xor,Nat.testBit_or]
 cases h1:p.testBit i <;> cases h2:q.testBit i <;> simp
 exact absurd h1 (by intro h1;exact Zn2 h h1 h2)
theorem ZuI {p m:Nat} (h:p &&& m=p) {i:Nat} (hi:p.testBit i=true):m.testBit i=true:=by
 rw [<- h,Nat.testBit_and] at hi;simp at hi;exact hi.2
theorem ZuJ {p m:Nat} (h:p &&& m=p):p &&& (m ^^^ p)=0∧p ||| (m ^^^ p)=m:=by
 constructor
 ·apply Nat.eq_of_testBit_eq;intro i;rw [Nat.testBit_and,Nat.testBit_xor]
  cases h1:p.testBit i with
  | false=>simp
  | true=>simp [ZuI h h1]
 ·apply Nat.eq_of_testBit_eq;intro i;rw [Nat.testBit_or,Nat.testBit_xor]
  cases h1:p.testBit i with
  | false=>simp
  | true=>simp [ZuI h h1]
theorem Zq8 {p m:Nat} (h:p≠m):m ^^^ p≠0:=by
 intro e;apply h;apply Nat.eq_of_testBit_eq;intro i;have:=congrArg (fun x=>x.testBit i) e;rw [Nat.testBit_xor] at this
 cases h1:p.testBit i <;> cases h2:m.testBit i <;> simp [h1,h2] at this ⊢
theorem Zq9 {R:Nat->Nat->Nat->Prop} {sets:List Nat} {m b:Nat} (hm:∀ i,m≠2 ^ i):BagB R sets m b ↔ ∃ p,p≠0∧p≠m∧p &&& m=p∧∃ a c,BagB R sets p a∧BagB R sets (m ^^^ p) c∧R a c b:=by
 constructor
 ·intro h
  cases h with
  | leaf=>exact absurd rfl (hm _)
  | node h1 h2 h3 h4 h5 h6 =>
   rename_i p q a c;refine ⟨p,h1,?_,?_,a,c,h4,?_,h6⟩
   ·intro e;obtain ⟨i,hi⟩:=ZlV h2;exact Zn2 h3 (by rw [e,Nat.testBit_or,hi];simp) hi
   ·apply Nat.eq_of_testBit_eq;intro i;rw [Nat.testBit_and,Nat.testBit_or];cases p.testBit i <;> simp
   ·rw [ZFp h3];exact h5
 ·rintro ⟨p,h1,h2,h3,a,c,h4,h5,h6⟩;have:=ZuJ h3;have h:=BagB.node h1 (Zq8 h2) this.1 h4 h5 h6;rw [this.2] at h;exact h
theorem Zij {R:Nat->Nat->Nat->Prop} {sets:List Nat} {i s b:Nat} (hs:sets[i]?=some s):ChB R sets i (i+1) b ↔ s.testBit b=true:=by
 constructor
 ·intro h;generalize hj:i+1=j at h
  cases h with
  | leaf h1 h2=>rw [hs] at h1;injection h1 with h1;subst h1;exact h2
  | node h1 h2 _ _ _=>omega
 ·exact fun h=>.leaf hs h
theorem ZuK {R:Nat->Nat->Nat->Prop} {sets:List Nat} {i j b:Nat} (hij:i+1 < j):ChB R sets i j b ↔ ∃ k,i < k∧k < j∧∃ a c,ChB R sets i k a∧ChB R sets k j c∧R a c b:=by
 constructor
 ·intro h
  cases h with
  | leaf=>omega
  | node h1 h2 h3 h4 h5=>exact ⟨_,h1,h2,_,_,h3,h4,h5⟩
 ·rintro ⟨k,h1,h2,a,c,h3,h4,h5⟩;exact .node h1 h2 h3 h4 h5
theorem ZFq {R:Nat->Nat->Nat->Prop} {s t b:Nat}:ChB R [s,t] 0 2 b ↔ Two R s t b:=by
 rw [ZuK om];constructor
 ·rintro ⟨k,h1,h2,a,c,h3,h4,h5⟩;obtain rfl:k=1:=by omega
  exact ⟨a,c,(Zij (i:=0) rfl).1 h3,(Zij (i:=1) rfl).1 h4,h5⟩
 ·rintro ⟨a,c,h3,h4,h5⟩;exact ⟨1,om,om,a,c,(Zij (i:=0) rfl).2 h3,(Zij (i:=1) rfl).2 h4,h5⟩
theorem ZzJ:∀ i,3≠2 ^ i
 | 0=>by decide
 | 1=>by decide
 | i+2=>by rw [Nat.pow_succ];omega
theorem ZEA {R:Nat->Nat->Nat->Prop} {s t b:Nat}:BagB R [s,t] 3 b ↔ Two R s t b∨Two R t s b:=by
 rw [Zq9 ZzJ];have l0:∀ x,BagB R [s,t] 1 x ↔ s.testBit x=true:=fun x=>ZlW (i:=0) rfl;have l1:∀ x,BagB R [s,t] 2 x ↔ t.testBit x=true:=fun x=>ZlW (i:=1) rfl;constructor
 ·rintro ⟨p,h1,h2,h3,a,c,h4,h5,h6⟩;have:=ZoT h3;rcases (by omega:p=1∨p=2) with rfl | rfl
  ·exact .inl ⟨a,c,(l0 a).1 h4,(l1 c).1 h5,h6⟩
  ·exact .inr ⟨a,c,(l1 a).1 h4,(l0 c).1 h5,h6⟩
 ·rintro (⟨a,c,h4,h5,h6⟩ | ⟨a,c,h4,h5,h6⟩)
  ·exact ⟨1,by decide,by decide,by decide,a,c,(l0 a).2 h4,(l1 c).2 h5,h6⟩
  ·exact ⟨2,by decide,by decide,by decide,a,c,(l1 a).2 h4,(l0 c).2 h5,h6⟩
end Go.Proofs.YtkigoajepohkaaaGreatDoor
namespace Go.Proofs.YtkigoajepohkaaaGreatDoor
open Go.RowKit
theorem Zgl (P Q:Nat->Prop) (n:Nat):ofB P n ||| ofB Q n=ofB (fun b=>P b∨Q b) n :=
 Zm6 (Nat.or_lt_two_pow (Zcd P n) (Zcd Q n)) fun i hi=>by
  rw [Nat.testBit_or,Bool.or_eq_true,Zdu,Zdu];simp only [hi,true_and]
theorem Zhj {P:Nat->Prop} {n:Nat} (h:∀ i,i < n->¬ P i):ofB P n=0 :=
 (Zm6 (Nat.pos_of_ne_zero (by have:=Nat.one_le_two_pow (n:=n);omega)) fun i hi=>by
  rw [Nat.zero_testBit];exact ⟨fun e=>(by cases e),fun e=>absurd e (h i hi)⟩).symm
theorem Zhk {v n:Nat} (h:v < 2 ^ n):ofB (fun b=>v.testBit b=true) n=v:=(Zm6 h fun i _=>Iff.rfl).symm
def upk (g:Sgn) (k:Int):Nat:=(up g.sorts).getD k.toNat 0
theorem Zik {g:Sgn} (hs:SortsOk g.sorts) {k:Int} (h0:0<=k) (h1:k < g.sorts.names.length):(up g.sorts)[k.toNat]?=some (upk g k)∧upk g k < 2 ^ g.sorts.names.length :=
 (ZfX (SortsOk.subsIn hs.subs)).get om
def ZdG (g:Sgn) (o:Opr) (sets:List Nat) (b:Nat):Prop:=∃ d∈o.decls,(∀ (i:Nat) k s,d.args[i]?=some k->sets[i]?=some s->s.testBit k.toNat=true)∧(upk g d.res).testBit b=true
def Rel2 (g:Sgn) (o:Opr) (a c b:Nat):Prop:=∃ d∈o.decls,d.args.map Int.toNat=[a,c]∧(upk g d.res).testBit b=true
def AnyB (g:Sgn) (o:Opr) (sets:List Nat) (b:Nat):Prop:=ZdG g o sets b∨(o.comm=true∧ZdG g o sets.reverse b)
def AppB (g:Sgn) (o:Opr) (sets:List Nat) (b:Nat):Prop:=if o.assoc=true then (if o.comm=true then BagB (Rel2 g o) sets (2 ^ sets.length - 1) b else ChB (Rel2 g o) sets 0 sets.length b) else AnyB g o sets b
noncomputable def appS (g:Sgn) (o:Opr) (sets:List Nat):Nat:=ofB (AppB g o sets) g.sorts.names.length
mutual
noncomputable def sortsTm (g:Sgn):Tm->Nat
 | .mk op _ so args=>if op=-1 then upk g so else match g.ops[op.toNat]? with
  | none=>0
  | some o=>appS g o (ZiT g args)
noncomputable def ZiT (g:Sgn):List Tm->List Nat
 | []=>[]
 | t::ts=>sortsTm g t::ZiT g ts
end
theorem Zj2 (g:Sgn):∀ (l:List Tm),ZiT g l=l.map (sortsTm g)
 | []=>rfl
 | t::ts=>by simp only [ZiT,Tbv,Zj2 g ts]
theorem ZhV {g:Sgn} {t:Tm} (h:t.op=-1):sortsTm g t=upk g t.sort:=by
 obtain ⟨op,nm,so,args⟩:=t;simp only [Tm.op] at h;simp only [sortsTm,if_pos h,Tm.sort]
theorem ZhW {g:Sgn} {t:Tm} {o:Opr} (h:t.op≠-1) (ho:g.ops[t.op.toNat]?=some o):sortsTm g t=appS g o (t.args.map (sortsTm g)):=by
 obtain ⟨op,nm,so,args⟩:=t;simp only [Tm.op] at h ho;simp only [sortsTm,if_neg h,ho,Tm.args,Zj2]
theorem ZeP {g:Sgn} (hg:SgnOk g) {t:Tm} (ht:Zc6 g t):sortsTm g t < 2 ^ g.sorts.names.length:=by
 rcases ht with hv | ⟨o,d,hA⟩
 ·rw [ZhV hv.1];exact (Zik hg.sorts hv.2.2.1 hv.2.2.2.1).2
 ·rw [ZhW hA.op hA.at'];exact Zcd _ _
theorem Rel2.lt {g:Sgn} (hg:SgnOk g) {o:Opr} (ho:o∈g.ops) {a c b:Nat} (h:Rel2 g o a c b):b < g.sorts.names.length:=by
 obtain ⟨d,hd,_,hb⟩:=h;have hD:=hg.decls o ho;obtain ⟨f,hf,_⟩:=hD.first;have hd':=hD.all f hf d hd;exact Zm5 (Zik hg.sorts hd'.res.1 hd'.res.2).2 hb
theorem Zfa {g:Sgn} {o:Opr} (h2:∀ d∈o.decls,d.args.length=2) {s t b:Nat}:ZdG g o [s,t] b ↔ Two (Rel2 g o) s t b:=by
 constructor
 ·rintro ⟨d,hd,h1,hb⟩;obtain ⟨x,y,hxy⟩:=ZqN (h2 d hd);rw [hxy] at h1;exact ⟨x.toNat,y.toNat,h1 0 x s rfl rfl,h1 1 y t rfl rfl,d,hd,by rw [hxy];rfl,hb⟩
 ·rintro ⟨a,c,ha,hc,d,hd,he,hb⟩;obtain ⟨x,y,hxy⟩:=ZqN (h2 d hd);rw [hxy] at he;simp only [Tbv,List.map_nil,List.cons.injEq,and_true] at he;obtain ⟨rfl,rfl⟩:=he;refine ⟨d,hd,fun i k u hk hu=>?_,hb⟩;rw [hxy] at hk
  match i,hk,hu with
  | 0,hk,hu =>
   simp only [Tat,Taq] at hk hu;subst hk;subst hu;exact ha
  | 1,hk,hu =>
   simp only [Tau,Tat,Taq] at hk hu;subst hk;subst hu;exact hc
  | i+2,hk,hu=>simp at hk
theorem Opr.deg2 {g:Sgn} (hg:SgnOk g) {i:Nat} {o:Opr} (ho:g.ops[i]?=some o) (h:o.assoc=true∨o.comm=true∨o.unit≠0):∀ d∈o.decls,d.args.length=2:=by
 intro d hd;have hm:=Tac ho;have hD:=hg.decls o hm;obtain ⟨f,hf,_⟩:=hD.first;rw [(hD.all f hf d hd).len];exact ((hg.axs o hm).two h f hf).1
theorem ZEB {g:Sgn} (hg:SgnOk g) {i:Nat} {o:Opr} (ho:g.ops[i]?=some o) {sets:List Nat} (h:o.assoc=true->sets.length=2):ofB (AnyB g o sets) g.sorts.names.length=appS g o sets:=by
 unfold appS;refine Za5 fun b _=>?_;unfold AppB
 cases ha:o.assoc with
 | false=>rw [if_neg (by simp)]
 | true =>
  rw [if_pos rfl];have h2:=Opr.deg2 hg ho (.inl ha);obtain ⟨s,t,hst⟩:∃ s t,sets=[s,t]:=by
   match sets,h ha with
   | [s,t],_=>exact ⟨s,t,rfl⟩
  subst hst;unfold AnyB;simp only [List.reverse_cons,List.reverse_nil,Tah,List.singleton_append];rw [Zfa h2,Zfa h2]
  cases hc:o.comm with
  | false =>
   rw [if_neg (by simp)];simp only [Tag,Tak];rw [ZFq];simp
  | true =>
   rw [if_pos rfl];simp only [Tag,Tak];rw [show 2 ^ (0+1+1) - 1=3 from rfl,ZEA];simp
theorem BagB.lt {R:Nat->Nat->Nat->Prop} {sets:List Nat} {N:Nat} (hs:∀ s∈sets,s < 2 ^ N) (hR:∀ a c b,R a c b->b < N) {m b:Nat} (h:BagB R sets m b):b < N:=by
 cases h with
 | leaf h1 h2=>exact Zm5 (hs _ (Tac h1)) h2
 | node _ _ _ _ _ h=>exact hR _ _ _ h
theorem ChB.lt {R:Nat->Nat->Nat->Prop} {sets:List Nat} {N:Nat} (hs:∀ s∈sets,s < 2 ^ N) (hR:∀ a c b,R a c b->b < N) {i j b:Nat} (h:ChB R sets i j b):b < N:=by
 cases h with
 | leaf h1 h2=>exact Zm5 (hs _ (Tac h1)) h2
 | node _ _ _ _ h=>exact hR _ _ _ h
def Zfs (R:Nat->Nat->Nat->Prop) (sets:List Nat) (N m part b:Nat):Prop:=∃ p,part < p∧p≠0∧p≠m∧p &&& m=p∧Two R (ofB (BagB R sets p) N) (ofB (BagB R sets (m ^^^ p)) N) b
theorem ZkN {R:Nat->Nat->Nat->Prop} {P Q:Nat->Prop} {N b:Nat} (hP:∀ b,P b->b < N) (hQ:∀ b,Q b->b < N):Two R (ofB P N) (ofB Q N) b ↔ ∃ a c,P a∧Q c∧R a c b:=by
 unfold Two;constructor
 ·rintro ⟨a,c,h1,h2,h3⟩;exact ⟨a,c,((Zdu _ _ _).1 h1).2,((Zdu _ _ _).1 h2).2,h3⟩
 ·rintro ⟨a,c,h1,h2,h3⟩;exact ⟨a,c,(Zdu _ _ _).2 ⟨hP a h1,h1⟩,(Zdu _ _ _).2 ⟨hQ c h2,h2⟩,h3⟩
theorem Zm7 {R:Nat->Nat->Nat->Prop} {sets:List Nat} {N m:Nat} (hm:m≠0):ofB (Zfs R sets N m ((m - 1) &&& m)) N=0:=Zhj fun b _ h=>by
 obtain ⟨p,h1,h2,h3,h4,_⟩:=h;have h5:=ZoT h4;have:=Zq7 m m p (Nat.and_self m) h4 om;omega
theorem ZoU {R:Nat->Nat->Nat->Prop} {sets:List Nat} {N m p b:Nat} (hp:p≠0) (hm:p≠m) (h:p &&& m=p):Zfs R sets N m ((p - 1) &&& m) b ↔ Zfs R sets N m p b∨Two R (ofB (BagB R sets p) N) (ofB (BagB R sets (m ^^^ p)) N) b:=by
 constructor
 ·rintro ⟨q,h1,h2,h3,h4,h5⟩;by_cases hq:p < q
  ·exact .inl ⟨q,hq,h2,h3,h4,h5⟩
  ·by_cases e:q=p
   ·subst e;exact .inr h5
   ·have:=Zq7 m p q h h4 om;omega
 ·have hlt:(p - 1) &&& m < p:=by have:(p - 1) &&& m<=p - 1:=Nat.and_le_left;omega
  rintro (⟨q,h1,h2,h3,h4,h5⟩ | h5)
  ·exact ⟨q,om,h2,h3,h4,h5⟩
  ·exact ⟨p,hlt,hp,hm,h,h5⟩
theorem Zra {R:Nat->Nat->Nat->Prop} {sets:List Nat} {N m:Nat} (hs:∀ s∈sets,s < 2 ^ N) (hR:∀ a c b,R a c b->b < N) (hm:∀ i,m≠2 ^ i):ofB (Zfs R sets N m 0) N=ofB (BagB R sets m) N:=Za5 fun b _=>by
 rw [Zq9 hm];unfold Zfs;constructor
 ·rintro ⟨p,h1,h2,h3,h4,h5⟩;obtain ⟨a,c,h6,h7,h8⟩:=(ZkN (fun b hb=>BagB.lt hs hR hb) (fun b hb=>BagB.lt hs hR hb)).1 h5;exact ⟨p,h2,h3,h4,a,c,h6,h7,h8⟩
 ·rintro ⟨p,h2,h3,h4,a,c,h6,h7,h8⟩;exact ⟨p,om,h2,h3,h4,(ZkN (fun b hb=>BagB.lt hs hR hb) (fun b hb=>BagB.lt hs hR hb)).2 ⟨a,c,h6,h7,h8⟩⟩
def CutB (R:Nat->Nat->Nat->Prop) (sets:List Nat) (N i j at' b:Nat):Prop:=∃ k,i < k∧k < at'∧k < j∧Two R (ofB (ChB R sets i k) N) (ofB (ChB R sets k j) N) b
theorem ZoV {R:Nat->Nat->Nat->Prop} {sets:List Nat} {N i j:Nat}:ofB (CutB R sets N i j (i+1)) N=0:=Zhj fun b _ h=>by
 obtain ⟨k,h1,h2,_⟩:=h;omega
theorem Zrb {R:Nat->Nat->Nat->Prop} {sets:List Nat} {N i j k b:Nat} (h1:i < k) (h2:k < j):CutB R sets N i j (k+1) b ↔ CutB R sets N i j k b∨Two R (ofB (ChB R sets i k) N) (ofB (ChB R sets k j) N) b:=by
 constructor
 ·rintro ⟨q,q1,q2,q3,q4⟩;by_cases e:q=k
  ·subst e;exact .inr q4
  ·exact .inl ⟨q,q1,om,q3,q4⟩
 ·rintro (⟨q,q1,q2,q3,q4⟩ | h)
  ·exact ⟨q,q1,om,q3,q4⟩
  ·exact ⟨k,h1,om,h2,h⟩
theorem ZuL {R:Nat->Nat->Nat->Prop} {sets:List Nat} {N i j:Nat} (hs:∀ s∈sets,s < 2 ^ N) (hR:∀ a c b,R a c b->b < N) (hij:i+1 < j):ofB (CutB R sets N i j j) N=ofB (ChB R sets i j) N:=Za5 fun b _=>by
 rw [ZuK hij];unfold CutB;constructor
 ·rintro ⟨k,h1,h2,h3,h5⟩;obtain ⟨a,c,h6,h7,h8⟩:=(ZkN (fun b hb=>ChB.lt hs hR hb) (fun b hb=>ChB.lt hs hR hb)).1 h5;exact ⟨k,h1,h2,a,c,h6,h7,h8⟩
 ·rintro ⟨k,h1,h2,a,c,h6,h7,h8⟩;exact ⟨k,h1,h2,h2,(ZkN (fun b hb=>ChB.lt hs hR hb) (fun b hb=>ChB.lt hs hR hb)).2 ⟨a,c,h6,h7,h8⟩⟩
theorem ZuM {R:Nat->Nat->Nat->Prop} {sets:List Nat} {N i s:Nat} (hs:sets[i]?=some s) (h:s < 2 ^ N):ofB (BagB R sets (2 ^ i)) N=s:=by
 rw [show ofB (BagB R sets (2 ^ i)) N=ofB (fun b=>s.testBit b=true) N from Za5 fun b _=>ZlW hs,Zhk h]
theorem ZzK {R:Nat->Nat->Nat->Prop} {sets:List Nat} {N i s:Nat} (hs:sets[i]?=some s) (h:s < 2 ^ N):ofB (ChB R sets i (i+1)) N=s:=by
 rw [show ofB (ChB R sets i (i+1)) N=ofB (fun b=>s.testBit b=true) N from Za5 fun b _=>Zij hs,Zhk h]
def Zcm:List Bd->Tm->Option Tm
 | [],_=>none
 | b::l,v=>if Zai b.var v=0 then some b.to else Zcm l v
mutual
noncomputable def apT (g:Sgn) (l:List Bd):Tm->Option Tm
 | .mk op nm so args=>if op=-1 then some ((Zcm l (.mk op nm so args)).getD (.mk op nm so args)) else (apTs g l args).bind (mkT g op)
noncomputable def apTs (g:Sgn) (l:List Bd):List Tm->Option (List Tm)
 | []=>some []
 | t::ts=>(apT g l t).bind fun u=>(apTs g l ts).map (u::·)
end
theorem ZkO {g:Sgn} {l:List Bd} {t:Tm} (h:t.op=-1):apT g l t=some ((Zcm l t).getD t):=by
 obtain ⟨op,nm,so,args⟩:=t;simp only [Tm.op] at h;simp only [apT,if_pos h]
theorem ZgQ {g:Sgn} {l:List Bd} {t:Tm} (h:t.op≠-1):apT g l t=(apTs g l t.args).bind (mkT g t.op):=by
 obtain ⟨op,nm,so,args⟩:=t;simp only [Tm.op] at h;simp only [apT,if_neg h,Tm.op,Tm.args]
theorem Zj3 {g:Sgn} {l:List Bd} {t:Tm}:∀ (ts:List Tm),apTs g l (ts++[t])=(apTs g l ts).bind fun us=>(apT g l t).map fun u=>us++[u]
 | []=>by
  simp only [Tah,apTs,Option.bind_some]
  cases apT g l t <;> rfl
 | x::ts=>by
  simp only [Taf,apTs,Zj3 ts]
  cases apT g l x with
  | none=>rfl
  | some u =>
   simp only [Option.bind_some]
   cases apTs g l ts with
   | none=>rfl
   | some us =>
    simp only [Option.bind_some,Option.map_some]
    cases apT g l t <;> rfl
theorem ZlX {g:Sgn} {l:List Bd}:∀ {ts us:List Tm},apTs g l ts=some us->us.length=ts.length
 | [],us,h=>by simp only [apTs,Taq] at h;subst h;rfl
 | t::ts,us,h=>by
  simp only [apTs] at h
  cases h1:apT g l t with
  | none=>rw [h1] at h;cases h
  | some u =>
   rw [h1] at h
   cases h2:apTs g l ts with
   | none=>rw [h2] at h;cases h
   | some vs =>
    rw [h2] at h;simp only [Option.bind_some,Option.map_some,Taq] at h;subst h;simp only [Tag,ZlX h2]
theorem Zj4 {g:Sgn} {l:List Bd} {t:Tm}:∀ {ts:List Tm},t∈ts->apT g l t=none->apTs g l ts=none
 | x::ts,hm,h=>by
  simp only [apTs];rcases Tbg.1 hm with rfl | hm
  ·rw [h];rfl
  ·rw [Zj4 hm h]
   cases apT g l x <;> rfl
theorem ZiU {g:Sgn} {l:List Bd}:∀ {ts us:List Tm},apTs g l ts=some us->∀ u∈us,∃ t∈ts,apT g l t=some u
 | [],us,h,u,hu=>by simp only [apTs,Taq] at h;subst h;cases hu
 | t::ts,us,h,u,hu=>by
  simp only [apTs] at h
  cases h1:apT g l t with
  | none=>rw [h1] at h;cases h
  | some v =>
   rw [h1] at h
   cases h2:apTs g l ts with
   | none=>rw [h2] at h;cases h
   | some vs =>
    rw [h2] at h;simp only [Option.bind_some,Option.map_some,Taq] at h;subst h;rcases Tbg.1 hu with rfl | hu
    ·exact ⟨t,Tas,h1⟩
    ·obtain ⟨x,hx,hxe⟩:=ZiU h2 u hu;exact ⟨x,Tal _ hx,hxe⟩
structure SbsAt (g:Sgn) (l:List Bd) (i:Nat) (y:Bd):Prop where
 var:Zcj g y.var
 ord:∀ (j:Nat) p,i=j+1->l[j]?=some p->Zai p.var y.var < 0
 to':TermOk g y.to
 srt:(sortsTm g y.to).testBit y.var.sort.toNat=true
structure SbsOk (g:Sgn) (l:List Bd):Prop where
 len:l.length<=8
 at':∀ (i:Nat) y,l[i]?=some y->SbsAt g l i y
open Classical in
noncomputable def Zft (g:Sgn) (l:List Bd):Bool:=decide (SbsOk g l)
theorem Zm8 {g:Sgn} {l:List Bd} (h:SbsOk g l):Zft g l=true:=by simp [Zft,h]
theorem Zlw {g:Sgn} {l:List Bd} (h:¬ SbsOk g l):Zft g l=false:=by simp [Zft,h]
theorem ZuN {g:Sgn} {v u:Tm}:∀ {l:List Bd},(∀ y∈l,TermOk g y.to)->Zcm l v=some u->TermOk g u
 | b::l,h,hu=>by
  simp only [Zcm] at hu;split at hu
  ·injection hu with hu;subst hu;exact h b Tas
  ·exact ZuN (fun y hy=>h y (Tal _ hy)) hu
theorem SbsOk.to' {g:Sgn} {l:List Bd} (h:SbsOk g l):∀ y∈l,TermOk g y.to:=fun y hy=>by
 obtain ⟨i,hi⟩:=Tbk hy;exact (h.at' i y hi).to'
theorem SbsOk.var {g:Sgn} {l:List Bd} (h:SbsOk g l):∀ y∈l,Zcj g y.var:=fun y hy=>by
 obtain ⟨i,hi⟩:=Tbk hy;exact (h.at' i y hi).var
theorem Zm9 {g:Sgn} (hg:SgnOk g) {l:List Bd} (hl:∀ y∈l,TermOk g y.to):∀ (n:Nat) (t:Tm),sizeTm t < n->TermOk g t->∀ {u:Tm},apT g l t=some u->TermOk g u
 | 0,t,hn,_,_,_=>om
 | n+1,t,hn,ht,u,h=>by
  by_cases ho:t.op=-1
  ·rw [ZkO ho] at h;simp only [Taq] at h;subst h
   cases hk:Zcm l t with
   | none=>exact ht
   | some v=>exact ZuN hl hk
  ·rw [ZgQ ho] at h
   cases h2:apTs g l t.args with
   | none=>rw [h2] at h;cases h
   | some us =>
    rw [h2] at h;simp only [Option.bind_some] at h;have h0:0<=t.op:=by
     rcases ht.form.node with hv | ⟨o,d,hA⟩
     ·exact absurd hv.1 ho
     ·exact hA.lo
    refine ZFo hg h0 (fun a ha=>?_) h;obtain ⟨x,hx,hxe⟩:=ZiU h2 a ha;have:=ZbA hx;rw [Zbt] at hn;exact Zm9 hg hl n x om (ht.arg hx) hxe
def Zao (w:World):List (List C)->(Nat->Prop)->List (List Value)->Prop
 | [],_,[]=>True
 | r::rs,S,us::uss=>∃ S1 S2:Nat->Prop,(∀ x,S1 x->S x)∧(∀ x,S2 x->S x)∧(∀ x,S1 x->S2 x->False)∧Zaf w r S1 us∧Zao w rs S2 uss
 | _,_,_=>False
def Zah (us:List Value):List C:=us.map .lit
section
variable {w w':World}
theorem Zao.keep (hz:w.heap.size<=w'.heap.size):∀ (rows:List (List C)) (S S':Nat->Prop) (uss:List (List Value)),(∀ b,S b->w'.heap[b]?=w.heap[b]?)->(∀ b,S b->S' b)->Zao w rows S uss->Zao w' rows S' uss
 | [],_,_,[],_,_,_=>trivial
 | r::rs,S,S',us::uss,hk,hS,h=>by
  obtain ⟨S1,S2,h1,h2,hd,hr,hrs⟩:=h;exact ⟨S1,S2,fun x hx=>hS x (h1 x hx),fun x hx=>hS x (h2 x hx),hd,Zaf.keep hz r S1 S1 us (fun x hx=>hk x (h1 x hx)) (fun _ h=>h) hr,Zao.keep hz rs S2 S2 uss (fun x hx=>hk x (h2 x hx)) (fun _ h=>h) hrs⟩
 | [],_,_,_::_,_,_,h=>h.elim
 | _::_,_,_,[],_,_,h=>h.elim
theorem Zao.len:∀ {rows:List (List C)} {S:Nat->Prop} {uss:List (List Value)},Zao w rows S uss->uss.length=rows.length
 | [],_,[],_=>rfl
 | r::rs,S,us::uss,⟨S1,S2,_,_,_,_,h⟩=>by simp [Zao.len h]
theorem Zao.snoc:∀ {rows:List (List C)} {r:List C} {S S1 S2:Nat->Prop} {uss:List (List Value)} {us:List Value},Zao w rows S1 uss->Zaf w r S2 us->(∀ x,S1 x->S x)->(∀ x,S2 x->S x)->(∀ x,S1 x->S2 x->False)->Zao w (rows++[r]) S (uss++[us])
 | [],r,S,S1,S2,[],us,_,h2,i1,i2,hd=>⟨S2,fun _=>False,i2,fun _ h=>h.elim,fun _ _ h=>h,h2,trivial⟩
 | q::qs,r,S,S1,S2,vs::vss,us,⟨T1,T2,a1,a2,a3,a4,a5⟩,h2,i1,i2,hd =>
  ⟨T1,fun x=>T2 x∨S2 x,fun x hx=>i1 x (a1 x hx),fun x hx=>hx.elim (fun h=>i1 x (a2 x h)) (i2 x),fun x hx hy=>hy.elim (a3 x hx) (hd x (a1 x hx)),a4,
   Zao.snoc a5 h2 (fun _ h=>.inl h) (fun _ h=>.inr h) (fun x hx hy=>hd x (a2 x hx) hy)⟩
 | [],_,_,_,_,_::_,_,h,_,_,_,_=>h.elim
 | _::_,_,_,_,_,[],_,h,_,_,_,_=>h.elim
theorem Zao.get:∀ {rows:List (List C)} {S:Nat->Prop} {uss:List (List Value)} {i:Nat} {r:List C} {us:List Value},Zao w rows S uss->rows[i]?=some r->uss[i]?=some us->Zaf w r S us
 | r::rs,S,us::uss,0,r',us',⟨S1,S2,h1,_,_,h,_⟩,hr,hu=>by
  simp at hr hu;subst hr hu;exact Zaf.keep (Tai _) r S1 S us (fun _ _=>rfl) h1 h
 | r::rs,S,us::uss,i+1,r',us',⟨S1,S2,_,h2,_,_,h⟩,hr,hu =>
  Zaf.keep (Tai _) r' S2 S us' (fun _ _=>rfl) h2 (Zao.get h (by simpa using hr) (by simpa using hu))
 | [],_,_,_,_,_,_,hr,_=>by simp at hr
 | _::_,_,[],_,_,_,h,_,_=>h.elim
theorem Zao.stable (rows:List (List C)) (E:Nat->Prop) (uss:List (List Value)):Zc1 E (fun w=>Zao w rows E uss):=fun w w' hz hk h=>Zao.keep hz rows E E uss hk (fun _ h=>h) h
theorem Zaf.stable (r:List C) (E:Nat->Prop) (us:List Value):Zc1 E (fun w=>Zaf w r E us):=fun w w' hz hk h=>Zaf.keep hz r E E us hk (fun _ h=>h) h
theorem Own.stable (c:C) (E:Nat->Prop) (v:Value):Zc1 E (fun w=>Own w c E v):=fun w w' hz hk h=>Own.keep hz c E E v hk (fun _ h=>h) h
theorem ZhX {S:Nat->Prop}:∀ {us vs:List Value},Zab w S (Zah us) vs->vs=us
 | [],[],_=>rfl
 | u::us,v::vs,h=>by
  simp only [Zah,Tbv,Zab,Rep] at h;rw [h.1,ZhX h.2]
 | [],_::_,h=>by simp [Zah,Zab] at h
 | _::_,[],h=>by simp [Zah,Zab] at h
theorem Za9.close {b:Nat} {T:Nat->Prop}:∀ {rows:List (List C)} {uss:List (List Value)} {S:Nat->Prop} {off:Nat},Zaq w T b off (uss.map Zah)->Zao w rows S uss->Za9 w b rows S off
 | [],[],_,_,_,_=>by simp [Za9]
 | r::rs,us::uss,S,off,hr,⟨S1,S2,h1,h2,hd,hv,hvs⟩=>by
  simp only [Tbv,Zaq] at hr;simp only [Za9];obtain ⟨vs,q1,q2⟩:=hr.1.vals;have e:=ZhX q1;subst e;have hl:(Zah vs).length=r.length:=by simp [Zah,Zaf.len hv]
  refine ⟨S1,S2,h1,h2,hd,ZbU.of_vals r S1 vs off hv q2,?_⟩;rw [<- hl];exact Za9.close hr.2 hvs
 | [],_::_,_,_,_,h=>h.elim
 | _::_,[],_,_,_,h=>h.elim
theorem Own.close {T:Nat->Prop} {ety sz:Nat} {rows:List (List C)} {uss:List (List Value)} {E:Nat->Prop} {a:Option Addr} {cap:Nat} (hb:ZaO w T ety sz (uss.map Zah) (.slice a uss.length cap)) (hv:Zao w rows E uss) (hd:∀ b,vblk (.slice a uss.length cap)=some b->¬ E b) :
  Own w (.sl rows) (fun b=>vblk (.slice a uss.length cap)=some b∨E b) (.slice a uss.length cap):=by
 have hlen:=hv.len;obtain ⟨h1,h2,h3⟩:=hb;simp only [Own];rcases h3 with ⟨h4,a',h5⟩ | ⟨g,cap',cur,h5,hc,hg,hs,hh,hl,hm,hcs,hr⟩
 ·injection h5 with e1 e2 e3
  subst e1 e3;have hu0:uss=[]:=by simpa using h4
  exact ⟨a,uss.length,0,rfl,hlen.symm,by rw [hu0];exact Tai _,by decide,fun h=>absurd h (by decide)⟩
 ·injection h5 with e1 e2 e3
  subst e1 e3;have hvb:vblk (.slice (some ⟨g,0,none⟩) uss.length cap)=some g:=by simp only [vblk];rw [if_neg om]
  simp only [Tay] at hl;refine ⟨_,uss.length,cap,rfl,hlen.symm,hl,hm,fun h0=>⟨g,0,E,rfl,.inl hvb,hg,⟨fun o=>frozen_of_row w g o cur ety hh,rfl,cur,ety,sz,hh,hcs,h1,fun r hr0=>?_⟩,fun x hx=>⟨.inr hx,fun e=>hd g hvb (e ▸ hx)⟩,Za9.close hr hv⟩⟩;obtain ⟨i,hi⟩:=Tbk hr0;have hil:=(Tad.1 hi).1;obtain ⟨us,hu⟩:∃ us,uss[i]?=some us:=⟨_,Taa om⟩;have hq:=(h2 (Zah us) (Tbi.2 ⟨us,Tac hu,rfl⟩)).1;have hq2:=Zaf.len (hv.get hi hu)
  simp only [Zah,Tay] at hq;omega
theorem ZbU.open {b:Nat}:∀ {cs:List C} {S:Nat->Prop} {off:Nat},ZbU w b cs S off->∃ us,Zaf w cs S us∧∀ j u,us[j]?=some u->w.cell? ⟨b,off+j,none⟩=some u
 | [],S,off,_=>⟨[],Zaf.nil,fun j u h=>by simp at h⟩
 | c::cs,S,off,h=>by
  simp only [ZbU] at h;obtain ⟨S1,S2,u,h1,h2,hd,hu,hc,hcs⟩:=h;obtain ⟨us,k1,k2⟩:=ZbU.open hcs;refine ⟨u::us,Zaf.cons S1 S2 hc k1 h1 h2 hd,fun j v hj=>?_⟩
  cases j with
  | zero=>simp at hj;subst hj;exact hu
  | succ j=>have:=k2 j v (by simpa using hj);rw [<- this];congr 2;omega
theorem Za9.open {b:Nat}:∀ {rows:List (List C)} {S:Nat->Prop} {off:Nat},Za9 w b rows S off->∃ uss,Zao w rows S uss∧∀ T:Nat->Prop,Zaq w T b off (uss.map Zah)
 | [],S,off,_=>⟨[],trivial,fun T=>by simp [Zaq]⟩
 | r::rs,S,off,h=>by
  simp only [Za9] at h;obtain ⟨S1,S2,h1,h2,hd,hr,hrs⟩:=h;obtain ⟨us,k1,k2⟩:=ZbU.open hr;obtain ⟨uss,k3,k4⟩:=Za9.open hrs;refine ⟨us::uss,⟨S1,S2,h1,h2,hd,k1,k3⟩,fun T=>?_⟩;simp only [Tbv,Zaq];refine ⟨Zak.of_vals _ us off (Zg0 us) k2,?_⟩;rw [show (Zah us).length=r.length by simp [Zah,k1.len]];exact k4 T
theorem Zaf.cells:∀ {cs:List C} {S:Nat->Prop} {us:List Value},Zaf w cs S us->cs.all Zas=true->(Zah us).all Zas=true
 | [],_,[],_,_=>rfl
 | c::cs,S,u::us,h,hc=>by
  simp only [Zaf] at h;obtain ⟨S1,S2,_,_,_,h1,h2⟩:=h;simp only [List.all_cons,Tar] at hc;simp only [Zah,Tbv,List.all_cons,Tar];exact ⟨Zgx (c:=c) hc.1 (Own.rep c S1 u h1),Zaf.cells h2 hc.2⟩
 | [],_,_::_,h,_=>by simp [Zaf] at h
 | _::_,_,[],h,_=>by simp [Zaf] at h
theorem Own.open {T:Nat->Prop} {rows:List (List C)} {E:Nat->Prop} {a:Option Addr} {n cap sz:Nat} (hT:∀ b,E b->¬ T b) (hne:rows≠[]) (hrl:rowsLen sz rows) (h:Own w (.sl rows) E (.slice a n cap)) :
  ∃ uss ety E',n=uss.length∧ZaO w T ety sz (uss.map Zah) (.slice a uss.length cap)∧Zao w rows E' uss∧(∀ b,E' b->E b∧vblk (.slice a uss.length cap)≠some b)∧∀ b,vblk (.slice a uss.length cap)=some b->E b:=by
 simp only [Own] at h;obtain ⟨A,n',cap',hv,hn,hle,hmx,hb⟩:=h;injection hv with e1 e2 e3
 subst e1 e2 e3;have h0:0 < rows.length:=List.length_pos_iff.2 hne;obtain ⟨b,off,S',rfl,hEb,hbl,⟨hfr,rfl,cur,ety,sz',hh,hcs,hz,hrs⟩,hS',hrows⟩:=hb om;obtain ⟨uss,k1,k2⟩:=Za9.open hrows;have hl:=k1.len;have hsz:sz'=sz:=by
  obtain ⟨r,hr⟩:=List.exists_mem_of_ne_nil _ hne;rw [<- hrs r hr,(hrl r hr).1]
 subst hsz;have hvb:vblk (.slice (some ⟨b,0,none⟩) uss.length cap)=some b:=by simp only [vblk];rw [if_neg om]
 have hrow:rowsLen sz' (uss.map Zah):=fun x hx=>by
  obtain ⟨us,hus,rfl⟩:=Tbi.1 hx;obtain ⟨i,hi⟩:=Tbk hus;have hil:=(Tad.1 hi).1;obtain ⟨r,hr⟩:∃ r,rows[i]?=some r:=⟨_,Taa om⟩;have hov:=k1.get hr hi;have hrm:=hrl r (Tac hr);exact ⟨by simp only [Zah,Tay];rw [hov.len];exact hrm.1,hov.cells hrm.2⟩
 refine ⟨uss,ety,S',om,⟨hz,hrow,.inr ⟨b,cap,cur,by simp,om,hbl,hT b hEb,hh,by simp only [Tay];omega,hmx,hcs,k2 T⟩⟩,k1,fun x hx=>⟨(hS' x hx).1,fun e=>?_⟩,fun x hx=>?_⟩
 ·rw [hvb] at e;injection e with e;exact (hS' x hx).2 e.symm
 ·rw [hvb] at hx;injection hx with hx;rw [<- hx];exact hEb
end
theorem ZeQ (x:Bk):ZcE [x]:=⟨by simp,trivial⟩
theorem Zb4:Zbe [] [.set (fun _=>False) (fun w=>Zao w [] (fun _=>False) [])]:=fun w S _ _ =>
 ⟨fun x hx=>by simp at hx;subst hx;exact ⟨fun b h=>h.elim,trivial,Zao.stable _ _ _⟩,ZeQ _,fun g ⟨x,hx,hg⟩=>by simp at hx;subst hx;exact hg.elim⟩
theorem Zgm {E E2:Nat->Prop} {G G2 G':World->Prop} (hG:∀ w,G w->G2 w->(∀ b,E b->E2 b->False)->G' w) (hst:Zc1 (fun b=>E b∨E2 b) G'):Zbe [.set E G,.set E2 G2] [.set (fun b=>E b∨E2 b) G']:=fun w S h ha=>by
 have h1:=h (.set E G) (by simp);have h2:=h (.set E2 G2) (by simp);refine ⟨fun x hx=>?_,ZeQ _,fun g ⟨x,hx,hg⟩=>?_⟩
 ·simp at hx;subst hx;exact ⟨fun b hb=>hb.elim (h1.1 b) (h2.1 b),hG w h1.2.1 h2.2.1 (fun b q1 q2=>ha.1 (.set E2 G2) (by simp) b q1 q2),hst⟩
 ·simp at hx;subst hx;rcases hg with hg | hg
  ·exact ⟨.set E G,by simp,hg⟩
  ·exact ⟨.set E2 G2,by simp,hg⟩
theorem ZzL {E:Nat->Prop} {G G':World->Prop} (hG:∀ w,G w->G' w) (hst:Zc1 E G'):Zbe [.set E G] [.set E G']:=fun w S h ha=>by
 have h1:=h (.set E G) (by simp);refine ⟨fun x hx=>?_,ZeQ _,fun g ⟨x,hx,hg⟩=>?_⟩
 ·simp at hx;subst hx;exact ⟨h1.1,hG w h1.2.1,hst⟩
 ·simp at hx;subst hx;exact ⟨.set E G,by simp,hg⟩
theorem Zb6 {a:Option Addr} {cap ety sz:Nat} {uss:List (List Value)} {rows:List (List C)} {E:Nat->Prop} {G':World->Prop} (hG:∀ w,Own w (.sl rows) (fun b=>vblk (.slice a uss.length cap)=some b∨E b) (.slice a uss.length cap)->G' w) (hst:Zc1 (fun b=>vblk (.slice a uss.length cap)=some b∨E b) G') :
  Zbe [.buf (some (a,cap)) ety sz (uss.map Zah),.set E (fun w=>Zao w rows E uss)] [.set (fun b=>vblk (.slice a uss.length cap)=some b∨E b) G']:=fun w S h ha=>by
 have h1:ZaO w S ety sz (uss.map Zah) (.slice a (uss.map Zah).length cap):=h (.buf (some (a,cap)) ety sz (uss.map Zah)) (by simp);have h2:=h (.set E (fun w=>Zao w rows E uss)) (by simp);have hd:=ha.1 (.set E (fun w=>Zao w rows E uss)) (by simp);rw [Tay] at h1;simp only [pblk,Tay] at hd;refine ⟨fun x hx=>?_,ZeQ _,fun g ⟨x,hx,hg⟩=>?_⟩
 ·simp at hx;subst hx;refine ⟨fun b hb=>?_,hG w (Own.close h1 h2.2.1 hd),hst⟩;rcases hb with hb | hb
  ·exact Own1.lt (L:=⟨fun _=>0,fun _=>.slice a uss.length cap⟩) (k:=0) (bk:=.buf none ety sz (uss.map Zah)) ⟨by simp,h1⟩ hb
  ·exact h2.1 b hb
 ·simp at hx;subst hx;rcases hg with hg | hg
  ·exact ⟨.buf (some (a,cap)) ety sz (uss.map Zah),by simp,by simp only [pblk,Tay];exact hg⟩
  ·exact ⟨.set E (fun w=>Zao w rows E uss),by simp,hg⟩
def Zb2 (row:List C) (r:List D) (pm:List Bk):Prop:=∃ us E,r=[.agg (Zah us)]∧us.length=row.length∧(Zah us).all Zas=true∧pm=[.set E (fun w=>Zaf w row E us)]
def Zj5 (ety sz:Nat) (rows:List (List C)) (r:List D) (pm:List Bk):Prop:=∃ a cap uss E,r=[.one (.lit (.slice a uss.length cap))]∧uss.length=rows.length∧pm=[.buf (some (a,cap)) ety sz (uss.map Zah),.set E (fun w=>Zao w rows E uss)]
theorem Zb2.mk {row:List C} {us:List Value} {E:Nat->Prop} (h:us.length=row.length) (hok:(Zah us).all Zas=true):Zb2 row [.agg (Zah us)] [.set E (fun w=>Zaf w row E us)]:=⟨us,E,rfl,h,hok,rfl⟩
theorem Zj5.mk {ety sz:Nat} {rows:List (List C)} {a:Option Addr} {cap:Nat} {uss:List (List Value)} {E:Nat->Prop} (h:uss.length=rows.length):Zj5 ety sz rows [.one (.lit (.slice a uss.length cap))] [.buf (some (a,cap)) ety sz (uss.map Zah),.set E (fun w=>Zao w rows E uss)]:=⟨a,cap,uss,E,rfl,h,rfl⟩
theorem ZoW {n:Nat}:∀ {rows:List (List C)} (l:Nat),rowsLen n rows->(rows.take l).flatten=rows.flatten.take (l * n)
 | [],l,_=>by simp
 | r::rs,0,_=>by simp
 | r::rs,l+1,h=>by
  have h1:=(h r Tas).1;have h2:=ZoW (n:=n) l (fun x hx=>h x (Tal _ hx):rowsLen n rs);simp only [Tbc,List.flatten_cons,h2];rw [show (l+1) * n=r.length+l * n by rw [h1,Nat.succ_mul,Nat.add_comm],List.take_length_add_append]
theorem ZoX {n:Nat}:∀ {rows:List (List C)} (l:Nat),rowsLen n rows->(rows.drop l).flatten=rows.flatten.drop (l * n)
 | [],l,_=>by simp
 | r::rs,0,_=>by simp
 | r::rs,l+1,h=>by
  have h1:=(h r Tas).1;have h2:=ZoX (n:=n) l (fun x hx=>h x (Tal _ hx):rowsLen n rs);simp only [List.drop_succ_cons,List.flatten_cons,h2];rw [show (l+1) * n=r.length+l * n by rw [h1,Nat.succ_mul,Nat.add_comm],List.drop_length_add_append]
section
variable {e:Env} {U:Nat->Prop} {w0:World} {S0:Nat->Prop} {nt:Nat} {σ:St} {a:Act} {w:World} {S:Nat->Prop} {L:Lay}
theorem Sim.storeRows (h:Sim e U w0 S0 nt σ a w S L) (he:e.Ok) {o:Option (Option Addr × Nat)} {k l g ety sz:Nat} {rows news:List (List C)} {vs:List Value} (hm:gm σ.m k=some (.buf o ety sz rows)) (hg:vblk (L.v k)=some g) (hl:l+news.length<=rows.length) (hn:rowsLen sz news) (hu:Zab w S news.flatten vs) :
  ∃ w',(storeCells ⟨g,l * sz,none⟩ vs).run e.P w=.ok () w'∧SimE e U w0 S0 nt ⟨σ.s,(k,.buf o ety sz (rows.take l++news++rows.drop (l+news.length)))::remM k σ.m⟩ a w':=by
 obtain ⟨hb0,hs0,hrl,h3⟩:=h.cls.own k _ hm;have hvl:=hu.len;have h1:=Zkz hn;rw [Zb5 hn] at hvl;rcases h3 with ⟨h3,p,h4⟩ | ⟨g',cap,cur,hv,hcp,hg1,hg2,hheap0,hlen,hcap,hcs,hrows⟩
 ·rw [h4] at hg;cases p <;> simp [vblk] at hg
 ·have hgg:g'=g:=by rw [hv] at hg;simp only [vblk] at hg;rw [if_neg om] at hg;injection hg
  subst hgg;have hfl:=Zb5 hrl;have hin:l * sz+vs.length<=rows.length * sz:=by
   have:=Nat.mul_le_mul_right sz hl;rw [Nat.add_mul] at this;omega
  have hin2:rows.length * sz<=cap * sz:=Nat.mul_le_mul_right sz hlen;have hst:=run_storeCells_at e.P g' (l * sz) ety vs 0 cur w hheap0 (by rw [hcs];omega) (ZeH h1 hu);simp only [Nat.add_zero] at hst;have hput:=Zfi w g' (l * sz) ety vs cur hheap0 (by rw [hcs];omega);refine ⟨_,hst,?_⟩;have hheap:=setRow_heap w g' cur (cur.toList.take (l * sz)++vs++cur.toList.drop (l * sz+vs.length)).toArray ety _ hheap0
  have hdr:(w.setRow g' (cur.toList.take (l * sz)++vs++cur.toList.drop (l * sz+vs.length)).toArray).drawn=w.drawn:=Zev _ _ _;generalize hW:w.setRow g' (cur.toList.take (l * sz)++vs++cur.toList.drop (l * sz+vs.length)).toArray=W at hput hheap hdr ⊢;have hsz:W.heap.size=w.heap.size:=hput.size;have hkc:∀ b o,S b->W.cell? ⟨b,o,none⟩=w.cell? ⟨b,o,none⟩:=fun b o hs=>ZbD (hput.other b (fun e=>hg2 (e ▸ hs))) o
  have hbk:ZaK L k (.buf o ety sz rows) g':=hg;have hln:(rows.take l++news++rows.drop (l+news.length)).length=rows.length:=by simp;omega
  have hown:Own1 W S L k (.buf o ety sz (rows.take l++news++rows.drop (l+news.length))):=by
   simp only [Own1];refine ⟨fun a ha=>by rw [hb0 a ha,hln],hs0,fun x hx=>?_,.inr ⟨g',cap,_,by rw [hv,hln],hcp,om,hg2,hheap,by rw [hln];exact hlen,hcap,by simp;omega,?_⟩⟩
   ·rcases Tbh.1 hx with hx | hx
    ·rcases Tbh.1 hx with hx | hx
     ·exact hrl x (List.mem_of_mem_take hx)
     ·exact hn x hx
    ·exact hrl x (List.mem_of_mem_drop hx)
   ·apply Zaq.of_flat;rw [List.flatten_append,List.flatten_append,ZoW l hrl,ZoX _ hrl];have hz:w.heap.size<=W.heap.size:=om;have hf:=hrows.flat;have r1:=Zak.keepAt (S':=S) hz hkc (fun _ h=>h) g' 0 (rows.flatten.take (l * sz)) (fun i hi=>hput.old _ (.inl (by simp at hi;omega))) (hf.take (l * sz));have r3:Zak W S g' (l * sz) news.flatten:=Zak.of_vals _ vs _ (Zab.keep2 hz hkc (fun _ h=>h) hu) hput.new
    have r5:=Zak.keepAt (S':=S) hz hkc (fun _ h=>h) g' _ (rows.flatten.drop ((l+news.length) * sz)) (fun i hi=>hput.old _ (.inr (by rw [hvl];rw [Nat.add_mul];omega))) (hf.drop ((l+news.length) * sz));have l1:(rows.flatten.take (l * sz)).length=l * sz:=by rw [Taw,hfl];omega
    refine Zak.append _ _ 0 (Zak.append _ _ 0 r1 ?_) ?_
    ·rw [l1,Nat.zero_add];exact r3
    ·rw [Tae,l1,Zb5 hn,<- Nat.add_mul];exact r5
  obtain ⟨t1,t2,t3⟩:=h.touch he (d:=k) (bk:=.buf o ety sz (rows.take l++news++rows.drop (l+news.length))) (m':=(k,.buf o ety sz (rows.take l++news++rows.drop (l+news.length)))::remM k σ.m) (w':=W) (L':=L) (τ:=some g') (fun _ h=>h) (fun _ h=>.inl h)
   (fun k' x hkd hx=>by simp only [gm,hkd,if_false,ZaG] at hx;exact hx) (by simp [gm]) (fun _ _=>⟨rfl,rfl⟩)
   (fun q hq=>by injection hq with hq;subst hq;exact ⟨hg2,h.cls.notE hm hbk,h.cls.mine k _ _ hm hbk⟩)
   (fun k' x q hkd hx hq hb=>by
    injection hq with hq;subst hq
    simp only [gm,hkd,if_false,ZaG] at hx;exact hkd (h.cls.inj k' k x _ _ hx hm hb hbk))
   ⟨hput.os,hput.tape,hput.output,fun _=>Nat.le_of_eq hdr.symm,om,fun b hb hE=>hput.other b (fun eq=>hE (by rw [eq]))⟩ hown (fun q hq=>.inl (by rw [<- hq];exact hg.symm))
  exact ⟨S,L,t1,fun t=>t3 _ _ (fun _=>⟨rfl,rfl⟩) (h.rel t),h.size,h.defers,t2⟩
end
section
variable {e:Env} {σ:St} {o:Oper} {K:St->Prop}
theorem ZzM {U:Nat->Prop} {base:Nat} {S0:Nat->Prop} {t:TypeId} {x:Operand} {lo hi:Option Operand} (ho:o.op=.slice t x lo hi none) {k cap ety sz:Nat} {a:Option Addr} {rows:List (List C)} {l h:Int} (hx:nrm σ.m (evA σ.s x)=.buf k) (hm:gm σ.m k=some (.buf (some (a,cap)) ety sz rows)) (ht:ZbE e.P t=some sz)
  (hlo:loA (lo.map (evA σ.s))=some l) (hhi:hiA rows.length (hi.map (evA σ.s))=some h) (hb:0<=l∧l<=h∧h<=rows.length):Zbv e U base S0 σ.m o (evA σ.s) (.d (.one (.lit (sliced a l.toNat h.toNat cap sz)))):=by
 refine ZaL fun w S L ρv hC hr=>?_;have hx':=Zcy hC (hr x (by simp [ho,Op.operands]));rw [hx] at hx';have hx':ρv x=L.v k:=hx';obtain ⟨hpl,_,_,hbuf⟩:=hC.own k _ hm;have hv:L.v k=.slice a rows.length cap:=hpl (a,cap) rfl;have hcap:rows.length<=cap:=by
  rcases hbuf with ⟨h4,_⟩ | ⟨g,cap',cur,h4,_,_,_,_,h5,_⟩
  ·rw [h4];exact Taj _
  ·rw [hv] at h4;injection h4 with _ _ h4;rw [h4];exact h5
 have hel:∃ ety i,e.P.underlying t=some (.slice ety)∧e.P.info? ety=some i∧i.size=sz:=by
  unfold ZbE at ht;split at ht
  ·rename_i ety hu;simp only [Tav] at ht;obtain ⟨i,hi,hs⟩:=ht;exact ⟨ety,i,hu,hi,hs⟩
  ·cases ht
 obtain ⟨el,i,hu,hi',hsz⟩:=hel;have hlo:=Ziz (w:=w) (S:=S) (L:=L) (ρv:=ρv) hlo (fun y hy=>hr y (by simp [ho,Op.operands,hy]));have hhi:=ZiA (w:=w) (S:=S) (L:=L) (ρv:=ρv) hhi (fun y hy=>hr y (by simp [ho,Op.operands,hy]));refine ⟨sliced a l.toNat h.toNat cap sz,?_,by simp [ARel,DRel,Rep]⟩;have hbnd:(Instr.sliceBounds true rows.length cap (lo.map ρv) (hi.map ρv) none).run e.P w=.ok (l.toNat,h.toNat,cap) w:=by
  have eh:(h.toNat:Int)=h:=Int.toNat_of_nonneg om;have b1:0<=h:=om;have b2:h<=(cap:Int):=om;have b3:0<=l:=hb.1;have b4:l<=h:=hb.2.1;rcases hlo with ⟨rfl,rfl⟩ | e1 <;> rcases hhi with ⟨rfl,e2⟩ | e2
  ·simp [Instr.sliceBounds,e2,Result.andThen]
  ·simp [Instr.sliceBounds,e2,Result.andThen,run_sliceBound,b1,b2]
  ·have b5:l<=(rows.length:Int):=om;simp [Instr.sliceBounds,e1,e2,Result.andThen,run_sliceBound,b3,b5]
  ·simp [Instr.sliceBounds,e1,e2,Result.andThen,run_sliceBound,b1,b2,b3,b4,eh]
 simp only [execOp,ho,Sem.run_bind,hx',hv,Instr.sliceAt,Instr.slice,underlying,run_program,Result.andThen_ok,hu,Sem.run_pure,Option.map_none,hbnd,sizeOf,typeInfo,hi',hsz,sliced]
theorem ZBT {t:TypeId} {x:Operand} {lo hi:Option Operand} (ho:o.op=.slice t x lo hi none) {k cap ety sz:Nat} {a:Option Addr} {rows:List (List C)} {l h:Int} (hx:nrm σ.m (evA σ.s x)=.buf k) (hm:gm σ.m k=some (.buf (some (a,cap)) ety sz rows)) (ht:ZbE e.P t=some sz)
  (hlo:loA (lo.map (evA σ.s))=some l) (hhi:hiA rows.length (hi.map (evA σ.s))=some h) (hb:0<=l∧l<=h∧h<=rows.length) (hK:K ⟨setA σ.s o.dst (.d (.one (.lit (sliced a l.toNat h.toNat cap sz)))),σ.m⟩):ZbP e o σ K:=by
 intro he U w0 S0 nt ac w Q hd ⟨S,L,h1⟩;exact Oper.wp_mono (fun a' w' hs=>⟨_,hK,hs⟩) (ZeI h1 hd (ZzM ho hx hm ht hlo hhi hb))
theorem Zjq {U:Nat->Prop} {base:Nat} {S0:Nat->Prop} {t:TypeId} {x i:Operand} (ho:o.op=.indexAddr t x i) {k cap ety sz l h:Nat} {a:Option Addr} {rows:List (List C)} {j:Int} (hx:evA σ.s x=.d (.one (.lit (sliced a l h cap sz)))) (hi:evA σ.s i=.d (.one (.lit (.int .i64 j)))) (hm:gm σ.m k=some (.buf (some (a,cap)) ety sz rows)) (ht:ZbE e.P t=some sz)
  (hb:0<=j∧l+j < h∧h<=rows.length):Zbv e U base S0 σ.m o (evA σ.s) (.row k (l+j.toNat) sz 0):=by
 refine ZaL fun w S L ρv hC hr=>?_;have hx':=hr x (by simp [ho,Op.operands]);have hi':=hr i (by simp [ho,Op.operands]);rw [hx] at hx';rw [hi] at hi';have hx':=Zbw hx';have hi':=Zbw hi';obtain ⟨hpl,_,_,hbuf⟩:=hC.own k _ hm;have hv:L.v k=.slice a rows.length cap:=hpl (a,cap) rfl;rcases hbuf with ⟨h4,_⟩ | ⟨g,cap',cur,h4,h6,_,_,_,h5,_⟩
 ·rw [h4] at hb;simp at hb;omega
 ·rw [hv] at h4;injection h4 with h7 _ h8
  subst h7 h8;have hlc:¬ cap=l:=om;have hval:sliced (some ⟨g,0,none⟩) l h cap sz=.slice (some ⟨g,l * sz,none⟩) (h - l) (cap - l):=by
   simp only [sliced,hlc,if_false,Option.map_some,Addr.add_at,Nat.zero_add]
  refine ⟨.pointer (some ⟨g,(l+j.toNat) * sz+0,none⟩),?_,g,?_,rfl⟩
  ·unfold ZbE at ht;split at ht
   ·rename_i el hu;simp only [Tav] at ht;obtain ⟨ii,hii,hn⟩:=ht;have hlt:j < ((h - l:Nat):Int):=om;have hj:=hb.1;have e2:l * sz+j.toNat * sz=(l+j.toNat) * sz+0:=by rw [Nat.add_mul];rfl
    simp [execOp,ho,hi',hx',hval,Instr.indexAt,asIntOf,underlying,hu,sizeOf,typeInfo,hii,hn,Addr.add_at,hj,hlt,Result.andThen,e2]
   ·cases ht
  ·rw [hv];simp only [vblk];rw [if_neg om]
theorem Zrc {t:TypeId} {x i:Operand} (ho:o.op=.indexAddr t x i) {k cap ety sz l h:Nat} {a:Option Addr} {rows:List (List C)} {j:Int} (hx:evA σ.s x=.d (.one (.lit (sliced a l h cap sz)))) (hi:evA σ.s i=.d (.one (.lit (.int .i64 j)))) (hm:gm σ.m k=some (.buf (some (a,cap)) ety sz rows)) (ht:ZbE e.P t=some sz)
  (hb:0<=j∧l+j < h∧h<=rows.length) (hK:K ⟨setA σ.s o.dst (.row k (l+j.toNat) sz 0),σ.m⟩):ZbP e o σ K:=by
 intro he U w0 S0 nt ac w Q hd ⟨S,L,h1⟩;exact Oper.wp_mono (fun a' w' hs=>⟨_,hK,hs⟩) (ZeI h1 hd (Zjq ho hx hi hm ht hb))
theorem Zpz {t:TypeId} {x i:Operand} (ho:o.op=.indexAddr t x i) {k cap ety sz l h:Nat} {a:Option Addr} {rows:List (List C)} {j:Int} (hx:evA σ.s x=.d (.one (.lit (sliced a l h cap sz)))) (hi:evA σ.s i=.d (.one (.lit (.int .i64 j)))) (hm:gm σ.m k=some (.buf (some (a,cap)) ety sz rows)) (ht:ZbE e.P t=some sz)
  (hb:0<=j∧l+j < h∧h<=rows.length) (hK:K ⟨setA σ.s o.dst (.row k (l+j.toNat) sz 0),σ.m⟩):Zfc e o σ K:=fun he=>⟨_,hK,fun U base S0=>Zjq ho hx hi hm ht hb⟩
theorem ZvR {x:Operand} {t:TypeId} (ho:o.op=.call ⟨.builtin .clear,#[x],#[t]⟩) {k cap ety sz by' l:Nat} {a:Option Addr} {rows:List (List C)} {z:List C} (hx:evA σ.s x=.d (.one (.lit (sliced a l rows.length cap sz)))) (hm:gm σ.m k=some (.buf (some (a,cap)) ety sz rows)) (ht:Zbj e.P t=some (ety,sz,by')) (hz:ZaX e.P ety=some z) (hzok:z.all Zas=true) (hl:l < rows.length)
  (hK:K ⟨setA σ.s o.dst (.tup []),(k,.buf (some (a,cap)) ety sz (rows.take l++List.replicate (rows.length - l) z))::remM k σ.m⟩):ZbP e o σ K:=by
 intro he U w0 S0 nt ac w Q hd ⟨S,L,h1⟩;have hx':=h1.eval x;rw [hx] at hx';have hx':=Zbw hx';obtain ⟨hpl,hs0,_,hbuf⟩:=h1.cls.own k _ hm;have hv:L.v k=.slice a rows.length cap:=hpl (a,cap) rfl;obtain ⟨i,zv,hu,hi,hzz,hsz,hby,hzs,hs0,hb4⟩:=ZdI ht;have hzc:z=zv.cells.toList.map toC:=by
  unfold ZaX at hz;simp only [hi,Option.bind_some,hzz,Option.map_some,Taq] at hz;exact hz.symm
 rcases hbuf with ⟨h4,_⟩ | ⟨g,cap',cur,h4,h6,_,_,_,h5,_⟩
 ·rw [h4] at hl;simp at hl
 ·rw [hv] at h4;injection h4 with h7 _ h8
  subst h7 h8;have hlc:¬ cap=l:=om;have hval:sliced (some ⟨g,0,none⟩) l rows.length cap sz=.slice (some ⟨g,l * sz,none⟩) (rows.length - l) (cap - l):=by
   simp only [sliced,hlc,if_false,Option.map_some,Addr.add_at,Nat.zero_add]
  have hn:rowsLen sz (List.replicate (rows.length - l) z):=fun r hr=>by
   rw [List.eq_of_mem_replicate hr];exact ⟨by rw [hzc];simp [hzs],hzok⟩
  have hu':Zab w S (List.replicate (rows.length - l) z).flatten ((List.replicate (rows.length - l) zv).flatMap fun v=>v.cells.toList):=by rw [hzc];exact ZjC _
  obtain ⟨w',hst,hsim⟩:=h1.storeRows he (l:=l) (g:=g) hm (by rw [hv];simp only [vblk];rw [if_neg om]) (by simp;omega) hn hu';rw [Tbr,show l+(rows.length - l)=rows.length by omega,List.drop_length,List.append_nil] at hsim;obtain ⟨S',L',hsim⟩:=hsim;have hzc2:(Builtin.zeroCells zv.cells (rows.length - l)).toList=(List.replicate (rows.length - l) zv).flatMap fun v=>v.cells.toList:=by
   have:=Zms zv sz hs0 hzs (rows.length - l);rw [<- this];simp [Builtin.zeroCells,madeCells,hzs]
  have hrun:(execOp ac.eval o).run e.P w=.ok (.value (.tuple #[])) w':=by
   have hne:¬ (rows.length - l=0):=om;obtain ⟨q,hq⟩:∃ q,rows.length - l=q+1:=⟨rows.length - l - 1,om⟩;rw [hq] at hst hzc2;simp [execOp,ho,resolve,invoke,builtin,Builtin.clear_,hx',hval,hq,underlying,hu,zeroValue,hi,hzz,typeInfo,Result.andThen,hzc2,hst]
  unfold Oper.wp;rw [hrun,Oper.upon_value];refine ⟨_,hK,S',L',hsim.put (α:=.tup []) (v:=.tuple #[]) ⟨[],rfl,trivial⟩ hd⟩
end
theorem ZzN {a:Option Addr} {cap ety sz:Nat} {rows:List (List C)} (m:Nat) (hm:m<=rows.length):Zbe [.buf (some (a,cap)) ety sz rows] [.buf (some (a,cap)) ety sz (rows.take m)]:=fun w S h ha=>by
 have hl:(rows.take m).length=m:=by rw [Taw];omega
 obtain ⟨h0,hrl,hc⟩:ZaO w S ety sz rows (.slice a rows.length cap):=h (.buf (some (a,cap)) ety sz rows) (by simp);have hb:∀ b,vblk (.slice a m cap)=some b ↔ vblk (.slice a rows.length cap)=some b:=fun b=>by cases a <;> simp [vblk]
 refine ⟨fun x hx=>?_,ZeQ _,fun g ⟨x,hx,hg⟩=>?_⟩
 ·simp only [Tbg,List.not_mem_nil,or_false] at hx;subst hx;show ZaO w S ety sz (rows.take m) (.slice a (rows.take m).length cap);rw [hl];refine ⟨h0,fun r hr=>hrl r (List.mem_of_mem_take hr),?_⟩;rcases hc with ⟨h4,p,h5⟩ | ⟨g,cap',cur,h4,h5,h6,h7,h8,h9,h10,h11,h12⟩
  ·subst h4;simp only [Tak,Nat.le_zero_eq] at hm;subst hm;exact .inl ⟨by simp,p,by simpa using h5⟩
  ·injection h4 with e1 e2 e3
   subst e1 e3;refine .inr ⟨g,cap,cur,by rw [hl],h5,h6,h7,h8,by rw [hl];omega,h10,h11,?_⟩;have:=Zaq.sub hrl h12 0 m;simpa using this
 ·simp only [Tbg,List.not_mem_nil,or_false] at hx;subst hx;refine ⟨.buf (some (a,cap)) ety sz rows,by simp,?_⟩;simp only [pblk,hl] at hg ⊢;exact (hb g).1 hg
theorem gSub {e:Env} {K:St->Prop} {ds:List (Option Nat)} {os:List Oper} {d t ty cap ety sz:Nat} {p:String} {ed:Array Edge} {x:Operand} {lo hi:Option Operand} {s:List (Nat × A)} {m:List (Nat × Bk)} {a:Option Addr} {rows:List (List C)} (k l h:Nat) (hb:l<=h∧h<=rows.length) (hK:Runs e ds 0 os ⟨(d,.d (.one (.lit (sliced a l h cap sz))))::s,m⟩ K)
  (hx:nrm m (evA s x)=.buf k:=by exact sfx) (hm:gm m k=some (.buf (some (a,cap)) ety sz rows):=by exact snv) (ht:ZbE e.P t=some sz:=by exact snx)
  (hlo:loA (lo.map (evA s))=some (l:Int):=by exact sfx) (hhi:hiA rows.length (hi.map (evA s))=some (h:Int):=by exact sfx):Runs e ds 0 (⟨some d,.slice t x lo hi none,ty,p,ed,none⟩::os) ⟨s,m⟩ K:=by
 simp only [Runs] at hK ⊢;exact ZcG rfl (ZBT (o:=⟨some d,.slice t x lo hi none,ty,p,ed,none⟩) rfl hx hm ht hlo hhi ⟨om,om,om⟩ (by simpa only [Tby,setA] using hK))
theorem ZF2 {e:Env} {K:St->Prop} {ds:List (Option Nat)} {os:List Oper} {d t ty cap ety sz l h:Nat} {p:String} {ed:Array Edge} {x i:Operand} {s:List (Nat × A)} {m:List (Nat × Bk)} {a:Option Addr} {rows:List (List C)} (k j:Nat) (hb:l+j < h∧h<=rows.length) (hK:Runs e ds 0 os ⟨(d,.row k (l+j) sz 0)::s,m⟩ K)
  (hx:evA s x=.d (.one (.lit (sliced a l h cap sz))):=by exact snx) (hi:evA s i=.d (.one (.lit (.int .i64 (j:Int)))):=by exact sfx) (hm:gm m k=some (.buf (some (a,cap)) ety sz rows):=by exact snv) (ht:ZbE e.P t=some sz:=by exact snx):Runs e ds 0 (⟨some d,.indexAddr t x i,ty,p,ed,none⟩::os) ⟨s,m⟩ K:=by
 simp only [Runs] at hK ⊢;exact ZcG rfl (Zrc (o:=⟨some d,.indexAddr t x i,ty,p,ed,none⟩) rfl hx hi hm ht ⟨om,om,om⟩ (by simpa only [Tby,setA] using hK))
theorem ZvS {e:Env} {ds:List (Option Nat)} {K:St->Prop} {n:Nat} {os:List Oper} {o:Oper} {σ:St} (hg:o.guard=none) (hal:isAl o=false) (h:Zfc e o σ (fun σ'=>Runs e ds n os σ' K)):Runs e ds (n+1) (o::os) σ K:=by
 simp only [Runs,hg];rw [if_neg (by simp [hal])];exact h
theorem ZzO {e:Env} {K:St->Prop} {ds:List (Option Nat)} {os:List Oper} {n d t ty cap ety sz l h:Nat} {p:String} {ed:Array Edge} {x i:Operand} {s:List (Nat × A)} {m:List (Nat × Bk)} {a:Option Addr} {rows:List (List C)} (k j:Nat) (hb:l+j < h∧h<=rows.length) (hK:Runs e ds n os ⟨(d,.row k (l+j) sz 0)::s,m⟩ K)
  (hx:evA s x=.d (.one (.lit (sliced a l h cap sz))):=by exact snx) (hi:evA s i=.d (.one (.lit (.int .i64 (j:Int)))):=by exact sfx) (hm:gm m k=some (.buf (some (a,cap)) ety sz rows):=by exact snv) (ht:ZbE e.P t=some sz:=by exact snx):Runs e ds (n+1) (⟨some d,.indexAddr t x i,ty,p,ed,none⟩::os) ⟨s,m⟩ K :=
 ZvS rfl rfl (Zpz (o:=⟨some d,.indexAddr t x i,ty,p,ed,none⟩) rfl hx hi hm ht ⟨om,om,om⟩ (by simpa only [Tby,setA] using hK))
theorem ZFr {e:Env} {K:St->Prop} {ds:List (Option Nat)} {os:List Oper} {t ty cap ety sz by' l:Nat} {dd:Option Nat} {p:String} {ed:Array Edge} {x:Operand} {s s':List (Nat × A)} {m m':List (Nat × Bk)} {a:Option Addr} {rows:List (List C)} {z:List C} (k:Nat) (hl:l < rows.length) (hK:Runs e ds 0 os ⟨s',(k,.buf (some (a,cap)) ety sz (rows.take l++List.replicate (rows.length - l) z))::m'⟩ K)
  (hx:evA s x=.d (.one (.lit (sliced a l rows.length cap sz))):=by exact snv) (hm:gm m k=some (.buf (some (a,cap)) ety sz rows):=by exact snv) (ht:Zbj e.P t=some (ety,sz,by'):=by exact snx) (hz:ZaX e.P ety=some z:=by exact snx) (hzok:z.all Zas=true:=by first | rfl | exact sny)
  (hs:setA s dd (.tup [])=s':=by simp only [setA];exact rfl) (hr:remM k m=m':=by exact snv):Runs e ds 0 (⟨dd,.call ⟨.builtin .clear,#[x],#[t]⟩,ty,p,ed,none⟩::os) ⟨s,m⟩ K:=by
 subst hs hr;simp only [Runs] at hK ⊢;exact ZcG rfl (ZvR (o:=⟨dd,.call ⟨.builtin .clear,#[x],#[t]⟩,ty,p,ed,none⟩) rfl hx hm ht hz hzok hl hK)
theorem Zlx (a:Option Addr) (k cap sz:Nat):sliced a 0 k cap sz=.slice a k cap:=by
 cases a with
 | none=>simp [sliced]
 | some p =>
  have:p.add 0=p:=by cases p;simp [Addr.add]
  simp [sliced,this]
section
variable {e:Env} {ops:Array Oper} {K:St->Prop}
def QN (e:Env) (U:Nat->Prop) (w0:World) (S0:Nat->Prop) (nt:Nat) (K:St->Prop):Exit->Act->World->Prop:=fun ex a w=>ex=.normal∧∃ σ',K σ'∧SimE e U w0 S0 nt σ' a w
def ZcK (e:Env) (ops:Array Oper) (K:St->Prop) (f:Nat) (listed:Array Bool) (σ:St):Prop :=
 e.Ok->∀ (U:Nat->Prop) (w0:World) (S0:Nat->Prop) (nt:Nat) (a:Act) (w:World),(∀ o∈ops.toList,∀ d,o.dst=some d->d < nt)->SimE e U w0 S0 nt σ a w->wpAny e.P .any ops (QN e U w0 S0 nt K) f listed a w
theorem ZsD {ds:List (Option Nat)} {f:Nat} {listed:Array Bool} {σ:St} (hds:ops.toList.map (·.dst)=ds) (h:ZcJ e ds ops K f listed σ):ZcK e ops K f listed σ:=by
 subst hds;exact fun he U w0 S0 nt a w hd hs=>ZlO he (fun a w σ' hK hs'=>⟨rfl,σ',hK,hs'⟩) hd f listed σ a w hs h
def Zj6 (ops:Array Oper) (listed:Array Bool) (i:Nat):Bool:=(List.range ops.size).all fun j=>j==i || (listed.getD j true || match ops[i]?,ops[j]? with
 | some oi,some oj=>oj.after.any (fun e=>Region.binds .any e && e.on==i) || oi.apart ops oj
 | _,_=>true)
def ZiV (ops:Array Oper):Bool:=ops.toList.all fun o=>match o.op with
 | .select _ _=>false
 | _=>true
theorem Zf5 {f i d:Nat} {listed:Array Bool} {σ:St} {o:Oper} {α:A} (hi:ops[i]?=some o) (hdst:o.dst=some d) (hg:o.guard=none) (hsel:ZiV ops=true) (hap:Zj6 ops listed i=true) (hr:(Region.ready .any ops listed).contains i=true)
  (hp:e.Ok->∀ (U:Nat->Prop) (w0:World) (S0:Nat->Prop) (nt:Nat) (a:Act) (w:World) (S:Nat->Prop) (L:Lay),Sim e U w0 S0 nt σ a w S L->∃ v,(∀ w',(execOp a.eval o).run e.P w'=.ok (.value v) w')∧ARel w S L α v)
  (hK:ZcK e ops K f (listed.setIfInBounds i true) ⟨(d,α)::σ.s,σ.m⟩):ZcK e ops K (f+1) listed σ:=by
 intro he U w0 S0 nt a w hd ⟨S,L,h⟩;obtain ⟨v,hv,hrel⟩:=hp he U w0 S0 nt a w S L h;have hmem:o∈ops.toList:=Tac (by simpa using hi);refine wpAny_first (oi:=o) (v:=v) hi (fun j oj cs b hj hs=>?_) (fun c a w hq=>?_) f listed a w (fun j oj hj hne hl hno=>?_) ?_ ?_ ?_
 ·have:=List.all_eq_true.1 hsel oj (Tac (by simpa using hj));rw [hs] at this
  cases this
 ·have:=hq.1
  cases this
 ·have hjs:=(Tbl.1 hj).1;have:=List.all_eq_true.1 hap j (List.mem_range.2 hjs);simp only [hi,hj,Bool.or_eq_true,beq_iff_eq,List.any_eq_true,Array.any_eq_true',Tar] at this;rcases this with h1 | h1 | h1 | h1
  ·exact absurd h1 hne
  ·rw [hl] at h1;cases h1
  ·obtain ⟨ed,h2,h3,h4⟩:=h1;exact absurd h4 (hno ed h2 h3)
  ·exact h1
 ·simpa using hr
 ·exact .inl ⟨by simp [Region.wanted,hg],hv⟩
 ·have h2:SimE e U w0 S0 nt ⟨(d,α)::σ.s,σ.m⟩ (a.put o.dst v) w:=⟨S,L,by
   have:=h.put (α:=α) hrel (hd o hmem)
   rwa [hdst,setA,<- hdst] at this⟩
  exact hK he U w0 S0 nt (a.put o.dst v) w hd h2
end
section
variable {e:Env} {K:St->Prop} {mask:Nat} {Q:PX->St->Prop} {s:List (Nat × A)} {m:List (Nat × Bk)}
theorem ZhL {id:Nat} {ops:Array Oper} {σ:St} (hK:ZcK e ops (ZcX mask Q) ops.size (Array.replicate ops.size false) σ):pwp e mask (.region id ops true) σ Q:=fun he U w0 S0 nt a w hok hs=>by
 obtain ⟨S,L,h1⟩:=hs.drew he;refine Code.wp_mono (fun ex a' w' hq=>?_) (wp_region_any he.mixed (hK he U w0 S0 nt a { w with drawn:=w.drawn+1 } (ZkF hok) ⟨S,L,h1⟩));obtain ⟨rfl,σ',k1,k2⟩:=hq;exact ⟨_,k1,k2.weak (fun t=>ZiC mask t σ'.s) (fun _ _ h=>h)⟩
theorem gF0 {id:Nat} {l:List Oper} (hK:ZcK e l.toArray (ZcX mask Q) l.length (Array.replicate l.length false) ⟨s,m⟩):pwp e mask (.region id l.toArray true) ⟨s,m⟩ Q:=ZhL (ops:=l.toArray) (by simpa using hK)
theorem gFT {ds:List (Option Nat)} {ops:Array Oper} {f:Nat} {listed:Array Bool} {σ:St} (h:ZcJ e ds ops K f listed σ) (hds:ops.toList.map (·.dst)=ds:=by exact rfl):ZcK e ops K f listed σ:=ZsD hds h
theorem gFm {ops:Array Oper} {f d ty:Nat} {p:String} {ed:Array Edge} {x:Operand} {α:A} {listed:Array Bool} (i:Nat) (hK:ZcK e ops K f (listed.setIfInBounds i true) ⟨(d,α)::s,m⟩)
  (hi:ops[i]?=some ⟨some d,.move x,ty,p,ed,none⟩:=by simp only [List.getElem?_toArray,Tau,Tat];exact rfl) (hx:evA s x=α:=by exact snv) (hsel:ZiV ops=true:=by decide +kernel) (hap:Zj6 ops listed i=true:=by decide +kernel) (hr:(Region.ready .any ops listed).contains i=true:=by decide +kernel):ZcK e ops K (f+1) listed ⟨s,m⟩:=by
 subst hx;exact Zf5 (o:=⟨some d,.move x,ty,p,ed,none⟩) hi rfl rfl hsel hap hr (fun _ U w0 S0 nt a w S L h=>⟨a.eval x,fun w2=>by simp [execOp],h.eval x⟩) hK
theorem gFs {ops:Array Oper} {f d t ty cap ety sz:Nat} {p:String} {ed:Array Edge} {x:Operand} {lo hi:Option Operand} {a:Option Addr} {rows:List (List C)} {listed:Array Bool} (i k l h:Nat) (hb:l<=h∧h<=rows.length) (hK:ZcK e ops K f (listed.setIfInBounds i true) ⟨(d,.d (.one (.lit (sliced a l h cap sz))))::s,m⟩)
  (hi':ops[i]?=some ⟨some d,.slice t x lo hi none,ty,p,ed,none⟩:=by simp only [List.getElem?_toArray,Tau,Tat];exact rfl)
  (hx:nrm m (evA s x)=.buf k:=by exact sfx) (hm:gm m k=some (.buf (some (a,cap)) ety sz rows):=by exact snv) (ht:ZbE e.P t=some sz:=by exact snx)
  (hlo:loA (lo.map (evA s))=some (l:Int):=by exact sfx) (hhi:hiA rows.length (hi.map (evA s))=some (h:Int):=by exact sfx)
  (hsel:ZiV ops=true:=by decide +kernel) (hap:Zj6 ops listed i=true:=by decide +kernel) (hr:(Region.ready .any ops listed).contains i=true:=by decide +kernel):ZcK e ops K (f+1) listed ⟨s,m⟩:=by
 refine Zf5 (o:=⟨some d,.slice t x lo hi none,ty,p,ed,none⟩) hi' rfl rfl hsel hap hr (fun _ U w0 S0 nt ac w S L hS=>⟨sliced a l h cap sz,fun w'=>?_,by simp [ARel,DRel,Rep]⟩) hK;have hx':=Zcy hS.cls (hS.eval x);simp only at hx';rw [hx] at hx';have hx':ac.eval x=L.v k:=hx';obtain ⟨hpl,_,_,hbuf⟩:=hS.cls.own k _ hm;have hv:L.v k=.slice a rows.length cap:=hpl (a,cap) rfl;have hcap:rows.length<=cap:=by
  rcases hbuf with ⟨h4,_⟩ | ⟨g,cap',cur,h4,_,_,_,_,h5,_⟩
  ·rw [h4];exact Taj _
  ·rw [hv] at h4;injection h4 with _ _ h4;rw [h4];exact h5
 have hel:∃ ety i,e.P.underlying t=some (.slice ety)∧e.P.info? ety=some i∧i.size=sz:=by
  unfold ZbE at ht;split at ht
  ·rename_i ety hu;simp only [Tav] at ht;obtain ⟨i,hi,hs⟩:=ht;exact ⟨ety,i,hu,hi,hs⟩
  ·cases ht
 obtain ⟨el,inf,hu,hinf,hsz⟩:=hel;have hlo:=Ziz (w:=w) (S:=S) (L:=L) (ρv:=ac.eval) hlo (fun y hy=>hS.eval y);have hhi:=ZiA (w:=w) (S:=S) (L:=L) (ρv:=ac.eval) hhi (fun y hy=>hS.eval y);have hbnd:(Instr.sliceBounds true rows.length cap (lo.map ac.eval) (hi.map ac.eval) none).run e.P w'=.ok (l,h,cap) w':=by
  have b2:(h:Int)<=(cap:Int):=om;have b5:(l:Int)<=(rows.length:Int):=om;rcases hlo with ⟨rfl,e1⟩ | e1 <;> rcases hhi with ⟨rfl,e2⟩ | e2
  ·have e1:l=0:=om;have e2:h=rows.length:=om;subst e1 e2;simp [Instr.sliceBounds,Result.andThen]
  ·have e1:l=0:=om;subst e1;simp [Instr.sliceBounds,e2,Result.andThen,run_sliceBound,b2]
  ·have e2:h=rows.length:=om;subst e2;simp [Instr.sliceBounds,e1,Result.andThen,run_sliceBound,b5]
  ·have b4:(l:Int)<=(h:Int):=om;simp [Instr.sliceBounds,e1,e2,Result.andThen,run_sliceBound,b2,b4,hb.1]
 simp only [execOp,Sem.run_bind,hx',hv,Instr.sliceAt,Instr.slice,underlying,run_program,Result.andThen_ok,hu,Sem.run_pure,Option.map_none,hbnd,sizeOf,typeInfo,hinf,hsz,sliced]
end
section
variable {e:Env} {K:St->Prop} {s:List (Nat × A)} {m:List (Nat × Bk)}
theorem gFb {ops:Array Oper} {f d ty t t':Nat} {p:String} {ed:Array Edge} {op:BinOp} {x y:Operand} {a b v:Value} {listed:Array Bool} (i:Nat) (hK:ZcK e ops K f (listed.setIfInBounds i true) ⟨(d,.d (.one (.lit v)))::s,m⟩)
  (hi:ops[i]?=some ⟨some d,.binOp op t x y t',ty,p,ed,none⟩:=by simp only [List.getElem?_toArray,Tau,Tat];exact rfl) (hx:evA s x=.d (.one (.lit a)):=by exact snv) (hy:evA s y=.d (.one (.lit b)):=by exact snv) (hv:binT e.P op t a b=some v:=by exact sfv) (hsel:ZiV ops=true:=by decide +kernel) (hap:Zj6 ops listed i=true:=by decide +kernel) (hr:(Region.ready .any ops listed).contains i=true:=by decide +kernel):ZcK e ops K (f+1) listed ⟨s,m⟩:=by
 refine Zf5 (o:=⟨some d,.binOp op t x y t',ty,p,ed,none⟩) hi rfl rfl hsel hap hr (fun _ U w0 S0 nt ac w S L h=>⟨v,fun w2=>?_,by simp [ARel,DRel,Rep]⟩) hK;have h1:=h.eval x;have h2:=h.eval y;rw [hx] at h1;rw [hy] at h2;have h1:=Zbw h1;have h2:=Zbw h2;have:=Zqa (x:=x) (y:=y) hv w2;simp only [execOp,h1,h2];rw [Sem.run_bind,this];rfl
theorem gFi {ops:Array Oper} {f d ty t k ety sz:Nat} {p:String} {ed:Array Edge} {x y:Operand} {o:Option (Option Addr × Nat)} {rows:List (List C)} {kk:IntKind} {listed:Array Bool} (i j:Nat) (hlt:j < rows.length) (hK:ZcK e ops K f (listed.setIfInBounds i true) ⟨(d,.row k j sz 0)::s,m⟩)
  (hi:ops[i]?=some ⟨some d,.indexAddr t x y,ty,p,ed,none⟩:=by simp only [List.getElem?_toArray,Tau,Tat];exact rfl) (hx:nrm m (evA s x)=.buf k:=by exact sfx) (hy:evA s y=.d (.one (.lit (.int kk (j:Int)))):=by exact snv) (hm:gm m k=some (.buf o ety sz rows):=by exact snv) (ht:ZbE e.P t=some sz:=by exact snx) (hsel:ZiV ops=true:=by decide +kernel) (hap:Zj6 ops listed i=true:=by decide +kernel) (hr:(Region.ready .any ops listed).contains i=true:=by decide +kernel):ZcK e ops K (f+1) listed ⟨s,m⟩:=by
 refine Zf5 (o:=⟨some d,.indexAddr t x y,ty,p,ed,none⟩) hi rfl rfl hsel hap hr (fun _ U w0 S0 nt ac w S L h=>?_) hK;have hx':=Zcy h.cls (h.eval x);simp only at hx';rw [hx] at hx';have hx':ac.eval x=L.v k:=hx';have hy':=h.eval y;rw [hy] at hy';have hy':=Zbw hy';obtain ⟨_,_,_,h4⟩:=h.cls.own k _ hm;rcases h4 with ⟨h4,_⟩ | ⟨g,cap,cur,hv,hcp,_⟩
 ·rw [h4] at hlt;simp at hlt
 ·refine ⟨.pointer (some ⟨g,j * sz,none⟩),fun w2=>?_,g,?_,rfl⟩
  ·have:=Zjx (P:=e.P) (j:=(j:Int)) ht (Int.natCast_nonneg _) (by rw [Tby];exact hlt) (g:=g) (cap:=cap) (k:=kk) (w:=w2);rw [Tby] at this;simp [execOp,hy',hx',hv,this]
  ·rw [hv];simp only [vblk];rw [if_neg om]
end
def RBuf (a:Option Addr) (cap:Nat) (us:List Tm) (r:List D) (pm:List Bk):Prop:=r=[]∧pm=[.buf (some (a,cap)) 46 4 (Zaa us)]
theorem Zaw (l:List Tm) (i:Nat) (t:Tm):(Zaa l).set i (Zac t)=Zaa (l.set i t):=by
 rw [ZbB,ZbB,List.map_set]
theorem gTPe {X:Prop} {P:Program} {ts:List RS} {R:List D->List Bk->Prop} {σ:St} {r:List D} {pm:List Bk} (ks:List Nat) (hR:R r pm) (hx:ZkB P ts R .normal σ->X:=by first | exact fun h=>h | exact fun h=>⟨_,Wk.refl _,h⟩) (hr:resD P σ ts=some r:=by exact sfy) (hg:getM σ.m ks=some pm:=by exact sny) (hn:ks.Nodup:=by decide) (hp:pm.all pinned=true:=by exact sny):X :=
 hx ⟨r,ks,pm,hg,hn,hp,hR,ZfE hr⟩
theorem ZkP:Zd4 (Tryz.prog.underlying 3)=some .i64:=by kernel_rfl
theorem ZiW:Tryz.prog.underlying 128=some (.int .u64):=by kernel_rfl
theorem Zil (j:Int):ZmC j (some (.int .u64)) (some .i64)=some (.d (.one (.lit (.int .i64 (IntKind.i64.wrap j))))):=rfl
theorem toNat_one:Int.toNat 1=1:=rfl
theorem ZkQ (i j:Nat) (h:i+j < 4611686018427387904):∃ s m:Nat,IntKind.i64.wrap ((i:Int)+(j:Int))=(s:Int)∧IntKind.u64.wrap (s:Int)=(s:Int)∧(s:Int).fdiv (2 ^ (min 1 64))=(m:Int)∧IntKind.i64.wrap (m:Int)=(m:Int)∧m=(i+j) / 2:=by
 refine ⟨i+j,(i+j) / 2,ZaM om om om,?_,?_,IntWalk.i64_in _ ⟨om,om⟩,rfl⟩
 ·simp only [IntKind.wrap,IntKind.signed,IntKind.bits];simp;omega
 ·simp only [show min 1 64=1 from rfl,Int.pow_succ,Int.pow_zero,Int.one_mul];rw [Int.fdiv_eq_ediv_of_nonneg _ (by decide)];omega
theorem Zj7 (P X Z Y Q:List Tm) (hl:X.length=Y.length) {A B n N:Nat} (hA:A=P.length) (hB:B=P.length+X.length+Z.length) (hn:n=X.length) (hN:N=P.length+X.length+Z.length+Y.length+Q.length) (hmx:N<=4000000) (a:Option Addr) (cap:Nat) :
  ConP e0 206 [.one (.lit (.slice a N cap)),.one (.lit (.int .i64 A)),.one (.lit (.int .i64 B)),.one (.lit (.int .i64 n)),.one (.fn 80 [])] [.buf (some (a,cap)) 46 4 (Zaa (P++X++Z++Y++Q))] (RBuf a cap (P++Y++Z++X++Q)):=by
 refine gIP (ts:=[]) [1000] 9231 Tryz.func206 ?_;refine fG @tmz ?_;have F:=@tmz;refine gL (ι:=Nat × List Tm) [10,13] [1000] (fun x=>[(10,.d (.one (.lit (.int .i64 (x.1:Int)))))]) (fun x=>[(1000,.buf (some (a,cap)) 46 4 (Zaa x.2))]) (fun x=>x.1<=n∧x.2=swR P X Z Y Q x.1) (fun x=>n - x.1) ((0,P++X++Z++Y++Q)) (⟨Taj _,(ZBR P X Z Y Q).symm⟩) (fun x hx=>?_);clear F;obtain ⟨i,us⟩:=x;obtain ⟨hi,hus⟩:=hx;simp only at hi hus
 dsimp only;by_cases hlt:i < n;rotate_left
 ·obtain rfl:i=n:=by omega
  have q1:=lF i i;rw [hn,ZEv hl] at hus;subst hus;refine fG (ai @q1 @tmz) ?_
  first | exact (have F:=@e0P;gTPe (R:=RBuf a cap (P++Y++Z++X++Q)) [1000] ⟨rfl,rfl⟩) | exact (have F:=@e0P;gTP (R:=RBuf a cap (P++Y++Z++X++Q)) [1000] ⟨rfl,rfl⟩)
 have q1:=lT i n;obtain ⟨x,hx⟩:∃ t,X[i]?=some t:=⟨_,Taa om⟩;obtain ⟨y,hy⟩:∃ t,Y[i]?=some t:=⟨_,Taa om⟩;obtain ⟨g1,g2,g3⟩:=ZEx (P:=P) (Z:=Z) (Q:=Q) hl hx hy;have hul:us.length=N:=by rw [hus,ZEw i hl,hN]
 rw [<- hus] at g1 g2 g3;rw [<- hB] at g2 g3;rw [<- hA] at g1 g3;obtain ⟨p,hp⟩:∃ p,p=A+i:=⟨_,rfl⟩;obtain ⟨q,hq⟩:∃ q,q=B+i:=⟨_,rfl⟩;rw [<- hp] at g1 g3;rw [<- hq] at g2 g3;have w1:IntKind.i64.wrap ((A:Int)+(i:Int))=(p:Int):=ZaM om om om;have w2:IntKind.i64.wrap ((B:Int)+(i:Int))=(q:Int):=ZaM om om om;have w3:=Zau (k:=i) om;have l1:p < N:=om;have l2:q < N:=om;have hls:∀ k (t:Tm),(us.set k t).length=N:=fun k t=>by rw [Taz,hul]
 refine fN 3 (ai @q1 @tmz) ?_;obtain ⟨z,g4⟩:∃ z,(us.set p y)[q]?=some z:=⟨_,Taa (by rw [Taz];omega)⟩;refine gF0 ?_;refine gFm 0 ?_;refine gFm 1 ?_;refine gFm 2 ?_;refine (have F:=(aj13 q1 w1 w2 l1 l2 hul g1 g2 g4 hls @Zad @Zaw tmz);gFb 3 ?_);refine gFm 4 ?_;refine gFm 5 ?_;refine gFm 6 ?_;refine (have F:=(aj13 q1 w1 w2 l1 l2 hul g1 g2 g4 hls @Zad @Zaw tmz);gFb 7 ?_);refine gFm 8 ?_;refine gFm 9 ?_
 refine gFm 10 ?_;refine (have F:=(aj13 q1 w1 w2 l1 l2 hul g1 g2 g4 hls @Zad @Zaw tmz);gFb 11 ?_);refine (have F:=(aj13 q1 w1 w2 l1 l2 hul g1 g2 g4 hls @Zad @Zaw tmz);gFi (rows:=Zaa us) 12 q (by rw [Zad];omega) ?_);refine gFm 14 ?_;refine gFm 15 ?_;refine gFm 16 ?_;refine (have F:=(aj13 q1 w1 w2 l1 l2 hul g1 g2 g4 hls @Zad @Zaw tmz);gFb 17 ?_);refine (have F:=(aj13 q1 w1 w2 l1 l2 hul g1 g2 g4 hls @Zad @Zaw tmz);gFi (rows:=Zaa us) 18 p (by rw [Zad];omega) ?_)
 refine gFT ?_;refine gO2 13 19 ?_ ?_
 ·refine (have F:=(aj13 q1 w1 w2 l1 l2 hul g1 g2 g4 hls @Zad @Zaw tmz);gO3 ?_);refine gO1 19 ?_;refine (have F:=(aj13 q1 w1 w2 l1 l2 hul g1 g2 g4 hls @Zad @Zaw tmz);gO3 ?_);refine gO1 20 ?_;refine (have F:=(aj13 q1 w1 w2 l1 l2 hul g1 g2 g4 hls @Zad @Zaw tmz);gO3 ?_);refine gO1 21 ?_;refine (have F:=(aj13 q1 w1 w2 l1 l2 hul g1 g2 g4 hls @Zad @Zaw tmz);gO3 ?_);refine gO1 22 ?_;refine (have F:=(aj13 q1 w1 w2 l1 l2 hul g1 g2 g4 hls @Zad @Zaw tmz);gO3 ?_)
  refine gO1 23 ?_;refine (have F:=(aj13 q1 w1 w2 l1 l2 hul g1 g2 g4 hls @Zad @Zaw tmz);gO3 ?_);refine (have F:=tmz;gT0 ?_);refine Exists.intro _ (ai (Wk.refl _) ?_);rw [g3];have F:=@w3;refine gG ?_;exact ⟨(i+1,swR P X Z Y Q (i+1)),⟨hlt,rfl⟩,gw,gw,om⟩
 ·refine (have F:=(aj13 q1 w1 w2 l1 l2 hul g1 g2 g4 hls @Zad @Zaw tmz);gO3 ?_);refine gO1 13 ?_;refine (have F:=(aj13 q1 w1 w2 l1 l2 hul g1 g2 g4 hls @Zad @Zaw tmz);gO3 ?_);refine gO1 20 ?_;refine (have F:=(aj13 q1 w1 w2 l1 l2 hul g1 g2 g4 hls @Zad @Zaw tmz);gO3 ?_);refine gO1 21 ?_;refine (have F:=(aj13 q1 w1 w2 l1 l2 hul g1 g2 g4 hls @Zad @Zaw tmz);gO3 ?_);refine gO1 22 ?_;refine (have F:=(aj13 q1 w1 w2 l1 l2 hul g1 g2 g4 hls @Zad @Zaw tmz);gO3 ?_)
  refine gO1 23 ?_;refine (have F:=(aj13 q1 w1 w2 l1 l2 hul g1 g2 g4 hls @Zad @Zaw tmz);gO3 ?_);refine (have F:=tmz;gT0 ?_);refine Exists.intro _ (ai (Wk.refl _) ?_);rw [g3];have F:=@w3;refine gG ?_;exact ⟨(i+1,swR P X Z Y Q (i+1)),⟨hlt,rfl⟩,gw,gw,om⟩
theorem ZBU (P X Y Q:List Tm) (hX:0 < X.length) (hY:0 < Y.length) {A M B N:Nat} (hA:A=P.length) (hM:M=P.length+X.length) (hB:B=P.length+X.length+Y.length) (hN:N=P.length+X.length+Y.length+Q.length) (hmx:N<=4000000) (a:Option Addr) (cap:Nat) :
  ConP e0 203 [.one (.lit (.slice a N cap)),.one (.lit (.int .i64 A)),.one (.lit (.int .i64 M)),.one (.lit (.int .i64 B)),.one (.fn 80 [])] [.buf (some (a,cap)) 46 4 (Zaa (P++X++Y++Q))] (RBuf a cap (P++Y++X++Q)):=by
 have w1:IntKind.i64.wrap ((M:Int) - (A:Int))=(X.length:Int):=ZaM om om om;have w2:IntKind.i64.wrap ((B:Int) - (M:Int))=(Y.length:Int):=ZaM om om om;refine gIP (ts:=[]) [1000] 9440287 Tryz.func203 ?_;refine fG (aj3 @w1 @w2 @tmz) ?_;have F:=@tmz;refine gL (ι:=(Nat × Nat) × List Tm) [10,11,20,23] [1000] (fun x=>[(10,.d (.one (.lit (.int .i64 (x.1.1:Int))))),(11,.d (.one (.lit (.int .i64 (x.1.2:Int)))))]) (fun x=>[(1000,.buf (some (a,cap)) 46 4 (Zaa x.2))]) (fun x=>∃ P' X' Y' Q',x.2=P'++X'++Y'++Q'∧x.1.1=X'.length∧x.1.2=Y'.length∧P'.length+X'.length=M∧0 < X'.length∧0 < Y'.length∧P'++Y'++X'++Q'=P++Y++X++Q) (fun x=>x.1.1+x.1.2) (((X.length,Y.length),P++X++Y++Q)) (⟨P,X,Y,Q,rfl,rfl,rfl,hM.symm,hX,hY,rfl⟩) (fun x hx=>?_);clear F
 obtain ⟨⟨i,j⟩,us⟩:=x;obtain ⟨P',X',Y',Q',hus,hi,hj,hM',hX',hY',hT⟩:=hx;simp only at hus hi hj;dsimp only;have hlen:=congrArg List.length hT;simp only [Tae] at hlen;obtain ⟨z,hz⟩:∃ z,z=P'.length:=⟨_,rfl⟩;have w3:IntKind.i64.wrap ((M:Int) - (i:Int))=(z:Int):=ZaM om om om;by_cases hij:i=j
 ·have q1:((i:Int)=(j:Int))=True:=eq_true om;have c:=Zj7 P' X' [] Y' Q' om (A:=z) (B:=M) (n:=i) (N:=N) hz (by simp;omega) hi (by simp;omega) hmx a cap;rw [List.append_nil,List.append_nil,hT,<- hus] at c;refine fN 8 (ai @q1 @tmz) ?_;refine gB ?_;have F:=ai @tmz @w3;refine gCP [1000] [1000] (c) ?_;clear F;rintro r pm ⟨rfl,rfl⟩;simp only [setA,retA,zipM,Taf,Tah];refine fR @tmz ?_;refine fG @tmz ?_
  first | exact (have F:=@e0P;gTPe (R:=RBuf a cap (P++Y++X++Q)) [1000] ⟨rfl,rfl⟩) | exact (have F:=@e0P;gTP (R:=RBuf a cap (P++Y++X++Q)) [1000] ⟨rfl,rfl⟩)
 have q1:((i:Int)=(j:Int))=False:=eq_false om;by_cases hgt:j < i
 ·have q2:=lT j i;obtain ⟨d,hd⟩:∃ d,d=i - j:=⟨_,rfl⟩;have w4:IntKind.i64.wrap ((i:Int) - (j:Int))=(d:Int):=ZaM om om om;have hX12:X'=X'.take j++X'.drop j:=(Tbm j X').symm;have l1:(X'.take j).length=j:=by rw [Taw];omega
  have l2:(X'.drop j).length=d:=by rw [Tax];omega
  generalize X'.take j=X1 at hX12 l1;generalize X'.drop j=X2 at hX12 l2;subst hX12;have c:=Zj7 P' X1 X2 Y' Q' om (A:=z) (B:=M) (n:=j) (N:=N) hz (by simp at hM';omega) l1.symm (by simp at hlen;omega) hmx a cap;rw [show P'++X1++X2++Y'++Q'=us by rw [hus];simp] at c;refine fN 4 (aj3 @q1 @q2 @tmz) ?_;refine gB ?_;have F:=ai @tmz @w3;refine gCP [1000] [1000] (c) ?_;clear F;rintro r pm ⟨rfl,rfl⟩;simp only [setA,retA,zipM,Taf,Tah]
  refine fR @tmz ?_;have F:=@w4;refine gG ?_;exact ⟨((d,j),P'++Y'++X2++X1++Q'),⟨P'++Y',X2,X1,Q',rfl,l2.symm,l1.symm,by simp at hM' ⊢;omega,om,om,by rw [<- hT];simp⟩,gw,gw,by dsimp only;omega⟩
 ·have q2:=lF j i;obtain ⟨d,hd⟩:∃ d,d=j - i:=⟨_,rfl⟩;have w4:IntKind.i64.wrap ((j:Int) - (i:Int))=(d:Int):=ZaM om om om;obtain ⟨u,hu⟩:∃ u,u=M+j:=⟨_,rfl⟩;obtain ⟨v,hv⟩:∃ v,v=M+d:=⟨_,rfl⟩;have w5:IntKind.i64.wrap ((M:Int)+(j:Int))=(u:Int):=ZaM om om om;have w6:IntKind.i64.wrap ((u:Int) - (i:Int))=(v:Int):=ZaM om om om;have hY12:Y'=Y'.take d++Y'.drop d:=(Tbm d Y').symm;have l1:(Y'.take d).length=d:=by rw [Taw];omega
  have l2:(Y'.drop d).length=i:=by rw [Tax];omega
  generalize Y'.take d=Y1 at hY12 l1;generalize Y'.drop d=Y2 at hY12 l2;subst hY12;have c:=Zj7 P' X' Y1 Y2 Q' om (A:=z) (B:=v) (n:=i) (N:=N) hz om hi (by simp at hlen;omega) hmx a cap;rw [show P'++X'++Y1++Y2++Q'=us by rw [hus];simp] at c;refine fN 6 (aj3 @q1 @q2 @tmz) ?_;refine gB ?_;have F:=aj4 @tmz @w3 @w5 @w6;refine gCP [1000] [1000] (c) ?_;clear F;rintro r pm ⟨rfl,rfl⟩;simp only [setA,retA,zipM,Taf,Tah]
  refine fR @tmz ?_;have F:=@w4;refine gG ?_;exact ⟨((i,d),P'++Y2++Y1++X'++Q'),⟨P',Y2,Y1,X'++Q',by simp,l2.symm,l1.symm,om,om,om,by rw [<- hT];simp⟩,gw,gw,by dsimp only;omega⟩
theorem Zn3 {M:List Tm} {k:Nat} {x:Tm} (h:M[k]?=some x):M.take k++[x]=M.take (k+1):=(Zcw h).symm
theorem Zrd (P M Q:List Tm) {A B N:Nat} (hA:A=P.length) (hB:B=P.length+M.length) (hN:N=P.length+M.length+Q.length) (hmx:N<=4000000) (a:Option Addr) (cap:Nat) :
  ConP e0 185 [.one (.lit (.slice a N cap)),.one (.lit (.int .i64 A)),.one (.lit (.int .i64 B)),.one (.fn 80 [])] [.buf (some (a,cap)) 46 4 (Zaa (P++M++Q))] (RBuf a cap (P++ZaA M++Q)):=by
 have wA:=Zau (k:=A) om;obtain ⟨A1,hA1⟩:∃ A1,A1=A+1:=⟨_,rfl⟩;rw [<- hA1] at wA;have h0:P++M++Q=P++ZaA (M.take (A1 - A))++(M.drop (A1 - A)++Q):=by
  have:ZaA (M.take 1)=M.take 1:=ZeZ (by cases M with | nil=>exact List.Pairwise.nil | cons x M=>simp only [Tbc,List.take_zero];exact List.pairwise_singleton _ _);rw [hA1,Nat.add_sub_cancel_left,this];simp only [Tbf];rw [<- Tbf (M.take 1),Tbm]
 refine gIP (ts:=[]) [1000] 17179886351 Tryz.func185 ?_;refine fG (ai @wA @tmz) ?_;have F:=@tmz;refine gL (ι:=Nat × List Tm) [8,9,14,34] [1000] (fun x=>[(8,.d (.one (.lit (.int .i64 (x.1:Int)))))]) (fun x=>[(1000,.buf (some (a,cap)) 46 4 (Zaa x.2))]) (fun x=>A1<=x.1∧(x.1<=B∨x.1=A1)∧x.2=P++ZaA (M.take (x.1 - A))++(M.drop (x.1 - A)++Q)) (fun x=>B+1 - x.1) ((A1,P++M++Q)) (⟨Tai _,.inr rfl,h0⟩) (fun x hx=>?_);clear F
 obtain ⟨i,us⟩:=x;obtain ⟨hi1,hi2,hus⟩:=hx;simp only at hi1 hi2 hus;dsimp only;by_cases hlt:i < B;rotate_left
 ·have q1:=lF i B;have e1:M.take (i - A)=M:=List.take_of_length_le om;have e2:M.drop (i - A)=[]:=List.drop_of_length_le om;rw [e1,e2,Tah] at hus;subst hus;refine fG (ai @q1 @tmz) ?_
  first | exact (have F:=@e0P;gTPe (R:=RBuf a cap (P++ZaA M++Q)) [1000] ⟨rfl,rfl⟩) | exact (have F:=@e0P;gTP (R:=RBuf a cap (P++ZaA M++Q)) [1000] ⟨rfl,rfl⟩)
 have q1:=lT i B;obtain ⟨k,hk⟩:∃ k,k=i - A:=⟨_,rfl⟩;rw [<- hk] at hus;obtain ⟨x,hx⟩:∃ t,M[k]?=some t:=⟨_,Taa om⟩;have hL:(ZaA (M.take k)).length=k:=by rw [Zdf,Taw];omega
 rw [ZdZ hx] at hus;have wi:=Zau (k:=i) om;have hR:(M.drop (k+1)++Q).length+i+1=N:=by rw [Tae,Tax];omega
 have hnext:∀ M1 M2,M1++M2=ZaA (M.take k)->(∀ y∈M2,Zai x y<=0)->(∀ y,M1.getLast?=some y->Zai y x<=0)->P++M1++x::(M2++(M.drop (k+1)++Q))=P++ZaA (M.take (i+1 - A))++(M.drop (i+1 - A)++Q):=fun M1 M2 e h2 h1=>by
  have:=Zq1 e h2 h1;rw [Zn3 hx] at this;rw [show i+1 - A=k+1 by omega,<- this];simp
 obtain ⟨T,hT⟩:∃ T,T=P++ZaA (M.take (i+1 - A))++(M.drop (i+1 - A)++Q):=⟨_,rfl⟩;rw [<- hT] at hnext;refine fG (ai @q1 @tmz) ?_;have F:=@tmz;refine gL (ι:=Nat × List Tm) [9,34] [1000] (fun z=>[(9,.d (.one (.lit (.int .i64 (z.1:Int)))))]) (fun z=>[(1000,.buf (some (a,cap)) 46 4 (Zaa z.2))]) (fun z=>∃ M1 M2,z.2=P++M1++x::(M2++(M.drop (k+1)++Q))∧z.1=A+M1.length∧M1++M2=ZaA (M.take k)∧∀ y∈M2,Zai x y<=0) (fun z=>z.1) ((i,us)) (⟨ZaA (M.take k),[],by rw [hus];simp,by rw [hL];omega,List.append_nil _,fun y h=>by simp at h⟩) (fun z hz=>?_);clear F
 obtain ⟨j,vs⟩:=z;obtain ⟨M1,M2,hvs,hj,he,h2⟩:=hz;simp only at hvs hj;dsimp only;have hml:M1.length+M2.length=k:=by rw [<- Tae,he,hL]
 have hvl:vs.length=N:=by rw [hvs];simp only [Tae,Tag] at hR ⊢;omega
 rcases List.eq_nil_or_concat M1 with h1 | ⟨M0,y,h1⟩
 ·subst h1;have hn:=hnext [] M2 he h2 (fun y h=>by simp at h);obtain rfl:j=A:=by simpa using hj
  have q2:=lF j j;rw [hn] at hvs;subst hvs;refine fG (ai @q2 @tmz) ?_;have F:=@wi;refine gG ?_;exact ⟨(i+1,vs),⟨om,.inl hlt,hT⟩,gw,gw,om⟩
 ·rw [List.concat_eq_append] at h1;subst h1;simp only [Tae,Tag,Tak] at hj hml;obtain ⟨p,hp⟩:∃ p,p=A+M0.length:=⟨_,rfl⟩;have hjp:j=p+1:=om;have q2:=lT A j;have w1:IntKind.i64.wrap ((j:Int) - 1)=(p:Int):=ZaM om om om;have hPl:(P++M0).length=p:=by rw [Tae];omega
  have hvs2:vs=(P++M0)++y::x::(M2++(M.drop (k+1)++Q)):=by rw [hvs];simp
  have g1:vs[p]?=some y:=by rw [hvs2];exact Zih hPl
  have g2:vs[j]?=some x:=by rw [hvs2,hjp];exact ZnZ hPl
  have l1:p < N:=om;have l2:j < N:=om;refine fB (ai @q2 @tmz) ?_;refine fC (aj9 @q2 @tmz @g1 @g2 @w1 @l1 @l2 @hvl @Zad) (ZkD (Zd8 x y)) ?_;by_cases hc:Zai x y < 0
  ·have z1:(Zai x y < 0)=True:=eq_true hc;obtain ⟨U,hU⟩:∃ U,U=(P++M0)++x::y::(M2++(M.drop (k+1)++Q)):=⟨_,rfl⟩;have g3:(vs.set j y).set p x=U:=by rw [hU,hvs2,hjp];exact ZuG hPl
   have hls:∀ q (t:Tm),(vs.set q t).length=N:=fun q t=>by rw [Taz,hvl]
   refine fR (aj3 @z1 @q2 @tmz) ?_;have hM2:∀ u∈y::M2,Zai x u<=0:=fun u hu=>by
    rcases Tbg.1 hu with rfl | hu
    ·omega
    ·exact h2 u hu
   obtain ⟨z,g4⟩:∃ z,(vs.set j y)[p]?=some z:=⟨_,Taa (by rw [Taz];omega)⟩;refine fN 6 (ai @z1 @tmz) ?_;refine gF0 ?_;refine gFm 0 ?_;refine gFm 1 ?_;refine gFm 2 ?_;refine gFm 3 ?_;refine (have F:=(aj11 w1 l1 l2 hvl g1 g2 g4 hls @Zad @Zaw tmz);gFb 4 ?_);refine gFm 5 ?_;refine gFm 6 ?_;refine (have F:=(aj11 w1 l1 l2 hvl g1 g2 g4 hls @Zad @Zaw tmz);gFb 7 ?_);refine (have F:=(aj11 w1 l1 l2 hvl g1 g2 g4 hls @Zad @Zaw tmz);gFi (rows:=Zaa vs) 8 p (by rw [Zad];omega) ?_)
   refine gFm 10 ?_;refine gFm 11 ?_;refine (have F:=(aj11 w1 l1 l2 hvl g1 g2 g4 hls @Zad @Zaw tmz);gFi (rows:=Zaa vs) 12 j (by rw [Zad];omega) ?_);refine gFT ?_;refine gO2 9 13 ?_ ?_
   ·refine (have F:=(aj11 w1 l1 l2 hvl g1 g2 g4 hls @Zad @Zaw tmz);gO3 ?_);refine gO1 13 ?_;refine (have F:=(aj11 w1 l1 l2 hvl g1 g2 g4 hls @Zad @Zaw tmz);gO3 ?_);refine gO1 14 ?_;refine (have F:=(aj11 w1 l1 l2 hvl g1 g2 g4 hls @Zad @Zaw tmz);gO3 ?_);refine gO1 15 ?_;refine (have F:=(aj11 w1 l1 l2 hvl g1 g2 g4 hls @Zad @Zaw tmz);gO3 ?_);refine gO1 16 ?_;refine (have F:=(aj11 w1 l1 l2 hvl g1 g2 g4 hls @Zad @Zaw tmz);gO3 ?_)
    refine gO1 17 ?_;refine (have F:=(aj11 w1 l1 l2 hvl g1 g2 g4 hls @Zad @Zaw tmz);gO3 ?_);refine (have F:=tmz;gT0 ?_);refine Exists.intro _ (ai (Wk.refl _) ?_);rw [g3];have F:=@w1;refine gG ?_;exact ⟨(p,U),⟨M0,y::M2,by rw [hU];simp,hp,by rw [<- he];simp,hM2⟩,gw,gw,om⟩
   ·refine (have F:=(aj11 w1 l1 l2 hvl g1 g2 g4 hls @Zad @Zaw tmz);gO3 ?_);refine gO1 9 ?_;refine (have F:=(aj11 w1 l1 l2 hvl g1 g2 g4 hls @Zad @Zaw tmz);gO3 ?_);refine gO1 14 ?_;refine (have F:=(aj11 w1 l1 l2 hvl g1 g2 g4 hls @Zad @Zaw tmz);gO3 ?_);refine gO1 15 ?_;refine (have F:=(aj11 w1 l1 l2 hvl g1 g2 g4 hls @Zad @Zaw tmz);gO3 ?_);refine gO1 16 ?_;refine (have F:=(aj11 w1 l1 l2 hvl g1 g2 g4 hls @Zad @Zaw tmz);gO3 ?_)
    refine gO1 17 ?_;refine (have F:=(aj11 w1 l1 l2 hvl g1 g2 g4 hls @Zad @Zaw tmz);gO3 ?_);refine (have F:=tmz;gT0 ?_);refine Exists.intro _ (ai (Wk.refl _) ?_);rw [g3];have F:=@w1;refine gG ?_;exact ⟨(p,U),⟨M0,y::M2,by rw [hU];simp,hp,by rw [<- he];simp,hM2⟩,gw,gw,om⟩
  ·have z1:(Zai x y < 0)=False:=eq_false hc;have hn:=hnext (M0++[y]) M2 he h2 (fun u h=>by
    simp only [List.getLast?_append,List.getLast?_singleton,Option.some_or,Taq] at h;subst h;exact ZpZ hc)
   rw [hn] at hvs;subst hvs;refine fR (aj3 @z1 @q2 @tmz) ?_;refine fG (ai @z1 @tmz) ?_;have F:=@wi;refine gG ?_;exact ⟨(i+1,vs),⟨om,.inl hlt,hT⟩,gw,gw,om⟩
theorem ZvT {P A B Q:List Tm} {i k:Nat} {x:Tm} (h:A[i]?=some x) (hk:k=P.length+i):(P++A++B++Q)[k]?=some x:=by
 have hi:=(Tad.1 h).1;subst hk;rw [Tbf,Tbf,Tbq om,Nat.add_sub_cancel_left,Tbp hi,h]
theorem ZvU {P A B Q:List Tm} {i k:Nat} {x:Tm} (h:B[i]?=some x) (hk:k=P.length+A.length+i):(P++A++B++Q)[k]?=some x:=by
 have hi:=(Tad.1 h).1;subst hk;rw [Tbf,Tbq (by rw [Tae];omega),Tae,Nat.add_sub_cancel_left,Tbp hi,h]
theorem Zre {B:List Tm} {x:Tm} (hB:Up B) {s:Nat} (h1:0 < s->∃ y,B[s - 1]?=some y∧Zai y x<=0) (h2:s < B.length->∃ y,B[s]?=some y∧Zai x y<=0):ZaA ([x]++B)=B.take s++x::B.drop s:=(Zgj (ZBP s) (hB.put h1 h2)).symm
def SymL (A B:List Tm) (lo mid st i:Nat):Prop:=st < i->∃ u v,A[i - 1 - lo]?=some u∧B[mid - i]?=some v∧Zai u v<=0
def SymR (A B:List Tm) (lo mid r0 j:Nat):Prop:=j < r0->∃ u v,B[mid - 1 - j]?=some u∧A[j - lo]?=some v∧Zai u v<=0
theorem Zrf:∀ (n:Nat) (P A B Q:List Tm),A.length+B.length<=n->0 < A.length->0 < B.length->Up A->Up B->∀ {lo mi hi N:Nat},lo=P.length->mi=P.length+A.length->hi=P.length+A.length+B.length->N=P.length+A.length+B.length+Q.length->N<=4000000->∀ (a:Option Addr) (cap:Nat),
  ConP e0 193 [.one (.lit (.slice a N cap)),.one (.lit (.int .i64 lo)),.one (.lit (.int .i64 mi)),.one (.lit (.int .i64 hi)),.one (.fn 80 [])] [.buf (some (a,cap)) 46 4 (Zaa (P++A++B++Q))] (RBuf a cap (P++ZaA (A++B)++Q)):=by
 intro n
 induction n with
 | zero=>intro P A B Q h1 h2;omega
 | succ n ih =>
 intro P A B Q hsz hA0 hB0 hA hB lo mi hi N hlo hmi hhi hN hmx a cap;have hU:∃ U,U=P++A++B++Q:=⟨_,rfl⟩;obtain ⟨U,hU⟩:=hU;have hUl:U.length=N:=by rw [hU];simp only [Tae];omega
 rw [<- hU];have w0:IntKind.i64.wrap ((mi:Int) - (lo:Int))=(A.length:Int):=ZaM om om om;have w1:IntKind.i64.wrap ((hi:Int) - (mi:Int))=(B.length:Int):=ZaM om om om;refine gIP (ts:=[]) [1000] 13164839976634628298295110780136696778032692856359452003713154079 Tryz.func193 ?_;by_cases hA1:A.length=1
 ·have q1:((A.length:Int)=1)=True:=eq_true om;obtain ⟨x,hx⟩:∃ x,A=[x]:=List.length_eq_one_iff.1 hA1;have gx:U[lo]?=some x:=by rw [hU];exact ZvT (i:=0) (by rw [hx];rfl) om
  have l0:lo < N:=om;refine fG (aj3 @w0 @q1 @tmz) ?_;clear q1;have F:=@tmz;refine gL (ι:=Nat × Nat) [10,11,12,33,50] [] (fun z=>[(10,.d (.one (.lit (.int .i64 (z.1:Int))))),(11,.d (.one (.lit (.int .i64 (z.2:Int)))))]) (fun z=>[]) (fun z=>mi<=z.1∧z.1<=z.2∧z.2<=hi∧(mi < z.1->∃ y,B[z.1 - mi - 1]?=some y∧Zai y x<=0)∧(z.2 < hi->∃ y,B[z.2 - mi]?=some y∧Zai x y<=0)) (fun z=>z.2 - z.1) ((mi,hi)) (⟨Tai _,om,Tai _,fun h=>om,fun h=>om⟩) (fun z hz=>?_);clear F
  obtain ⟨i,j⟩:=z;obtain ⟨h1,h2,h3,h4,h5⟩:=hz;simp only at h1 h2 h3 h4 h5;dsimp only;by_cases hij:i < j
  ·have q2:=lT i j;obtain ⟨s,h,u1,u2,u3,u4,hh⟩:=ZkQ i j om;obtain ⟨y,hy⟩:∃ y,B[h - mi]?=some y:=⟨_,Taa om⟩;have gy:U[h]?=some y:=by rw [hU];exact ZvU hy om
   have lh:h < N:=om;have wh:=Zau (k:=h) om;refine fB (aj14 @q2 @u1 @u2 @u3 @u4 @Zgh @ZkP @ZfG @ZiW @ZeM @Zil @toNat_one @ZmE @tmz) ?_;refine fC (aj7 @tmz @gx @gy @l0 @lh @hUl @Zad) (ZkD (Zd8 y x)) ?_;by_cases hc:Zai y x < 0
   ·have z1:(Zai y x < 0)=True:=eq_true hc;refine fR (ai @z1 @tmz) ?_;have F:=ai @z1 @wh;refine gG ?_;exact ⟨(h+1,j),⟨om,om,h3,fun _=>⟨y,by rw [<- hy];congr 1;omega,om⟩,h5⟩,gw,gw,om⟩
   ·have z1:(Zai y x < 0)=False:=eq_false hc;refine fR (ai @z1 @tmz) ?_;have F:=@z1;refine gG ?_;exact ⟨(i,h),⟨h1,om,om,h4,fun _=>⟨y,hy,ZpZ hc⟩⟩,gw,gw,om⟩
  have q2:=lF i j;obtain rfl:i=j:=by omega
  obtain ⟨e,he⟩:∃ e,i=e+1:=⟨i - 1,om⟩;have w2:IntKind.i64.wrap ((i:Int) - 1)=(e:Int):=ZaM om om om;have hout:ZaA (A++B)=B.take (e - lo)++x::B.drop (e - lo):=by
   rw [hx];exact Zre hB (fun h=>by obtain ⟨y,hy,hc⟩:=h4 om;exact ⟨y,by rw [<- hy];congr 1;omega,hc⟩) (fun h=>by obtain ⟨y,hy,hc⟩:=h5 om;exact ⟨y,by rw [<- hy];congr 1;omega,hc⟩)
  rw [hout];refine fG (ai @q2 @tmz) ?_;have F:=@tmz;refine gL (ι:=Nat × List Tm) [13,58] [1000] (fun z=>[(13,.d (.one (.lit (.int .i64 (z.1:Int)))))]) (fun z=>[(1000,.buf (some (a,cap)) 46 4 (Zaa z.2))]) (fun z=>lo<=z.1∧z.1<=e∧z.2=P++B.take (z.1 - lo)++x::(B.drop (z.1 - lo)++Q)) (fun z=>e - z.1) ((lo,U)) (⟨Tai _,om,by rw [hU,hx,Nat.sub_self];simp⟩) (fun z hz=>?_);clear F;obtain ⟨k,us⟩:=z;obtain ⟨k1,k2,hus⟩:=hz
  simp only at k1 k2 hus;dsimp only;by_cases hk:k < e
  ·have q3:=lT k e;obtain ⟨y,hy⟩:∃ y,B[k - lo]?=some y:=⟨_,Taa om⟩;have hPl:(P++B.take (k - lo)).length=k:=by rw [Tae,Taw];omega
   rw [ZdZ hy] at hus;have g1:us[k]?=some x:=by rw [hus];exact Zih hPl
   have g2:us[k+1]?=some y:=by rw [hus];exact ZnZ hPl
   obtain ⟨V,hV⟩:∃ V,V=P++B.take (k+1 - lo)++x::(B.drop (k+1 - lo)++Q):=⟨_,rfl⟩;have g3:(us.set k y).set (k+1) x=V:=by
    rw [hV,hus,Taf,ZBQ hPl,show k+1 - lo=k - lo+1 by omega,Zcw hy];simp
   have hul:us.length=N:=by rw [hus];simp only [Tae,Tag,Taw,Tax];omega
   obtain ⟨k',hk'⟩:∃ k',k'=k+1:=⟨_,rfl⟩;rw [<- hk'] at g2 g3 hV;have wk:IntKind.i64.wrap ((k:Int)+1)=(k':Int):=ZaM om om om;have l1:k < N:=om;have l2:k' < N:=om;have hls:∀ q (t:Tm),(us.set q t).length=N:=fun q t=>by rw [Taz,hul]
   obtain ⟨z,g4⟩:∃ z,(us.set k y)[k']?=some z:=⟨_,Taa (by rw [Taz];omega)⟩;refine fN 11 (aj3 @q3 @w2 @tmz) ?_;refine gF0 ?_;refine gFm 0 ?_;refine gFm 1 ?_;refine gFm 2 ?_;refine gFm 3 ?_;refine (have F:=(aj11 wk l1 l2 hul g1 g2 g4 hls @Zad @Zaw tmz);gFb 4 ?_);refine gFm 5 ?_;refine gFm 6 ?_;refine (have F:=(aj11 wk l1 l2 hul g1 g2 g4 hls @Zad @Zaw tmz);gFb 7 ?_);refine (have F:=(aj11 wk l1 l2 hul g1 g2 g4 hls @Zad @Zaw tmz);gFi (rows:=Zaa us) 8 k' (by rw [Zad];omega) ?_)
   refine gFm 10 ?_;refine gFm 11 ?_;refine (have F:=(aj11 wk l1 l2 hul g1 g2 g4 hls @Zad @Zaw tmz);gFi (rows:=Zaa us) 12 k (by rw [Zad];omega) ?_);refine gFT ?_;refine gO2 9 13 ?_ ?_
   ·refine (have F:=(aj11 wk l1 l2 hul g1 g2 g4 hls @Zad @Zaw tmz);gO3 ?_);refine gO1 13 ?_;refine (have F:=(aj11 wk l1 l2 hul g1 g2 g4 hls @Zad @Zaw tmz);gO3 ?_);refine gO1 14 ?_;refine (have F:=(aj11 wk l1 l2 hul g1 g2 g4 hls @Zad @Zaw tmz);gO3 ?_);refine gO1 15 ?_;refine (have F:=(aj11 wk l1 l2 hul g1 g2 g4 hls @Zad @Zaw tmz);gO3 ?_);refine gO1 16 ?_;refine (have F:=(aj11 wk l1 l2 hul g1 g2 g4 hls @Zad @Zaw tmz);gO3 ?_)
    refine gO1 17 ?_;refine (have F:=(aj11 wk l1 l2 hul g1 g2 g4 hls @Zad @Zaw tmz);gO3 ?_);refine (have F:=tmz;gT0 ?_);refine Exists.intro _ (ai (Wk.refl _) ?_);rw [g3];have F:=@wk;refine gG ?_;exact ⟨(k',V),⟨om,om,hV⟩,gw,gw,om⟩
   ·refine (have F:=(aj11 wk l1 l2 hul g1 g2 g4 hls @Zad @Zaw tmz);gO3 ?_);refine gO1 9 ?_;refine (have F:=(aj11 wk l1 l2 hul g1 g2 g4 hls @Zad @Zaw tmz);gO3 ?_);refine gO1 14 ?_;refine (have F:=(aj11 wk l1 l2 hul g1 g2 g4 hls @Zad @Zaw tmz);gO3 ?_);refine gO1 15 ?_;refine (have F:=(aj11 wk l1 l2 hul g1 g2 g4 hls @Zad @Zaw tmz);gO3 ?_);refine gO1 16 ?_;refine (have F:=(aj11 wk l1 l2 hul g1 g2 g4 hls @Zad @Zaw tmz);gO3 ?_)
    refine gO1 17 ?_;refine (have F:=(aj11 wk l1 l2 hul g1 g2 g4 hls @Zad @Zaw tmz);gO3 ?_);refine (have F:=tmz;gT0 ?_);refine Exists.intro _ (ai (Wk.refl _) ?_);rw [g3];have F:=@wk;refine gG ?_;exact ⟨(k',V),⟨om,om,hV⟩,gw,gw,om⟩
  have q3:=lF k e;obtain rfl:k=e:=by omega
  subst hus;rw [show P++B.take (k - lo)++x::(B.drop (k - lo)++Q)=P++(B.take (k - lo)++x::B.drop (k - lo))++Q by simp];refine fG (aj3 @q3 @w2 @tmz) ?_
  first | exact (have F:=@e0P;gTPe (R:=RBuf a cap (P++(B.take (k - lo)++x::B.drop (k - lo))++Q)) [1000] ⟨rfl,rfl⟩) | exact (have F:=@e0P;gTP (R:=RBuf a cap (P++(B.take (k - lo)++x::B.drop (k - lo))++Q)) [1000] ⟨rfl,rfl⟩)
 have q1:((A.length:Int)=1)=False:=eq_false om;by_cases hB1:B.length=1
 ·have q1':((B.length:Int)=1)=True:=eq_true om;obtain ⟨x,hx⟩:∃ x,B=[x]:=List.length_eq_one_iff.1 hB1;have gx:U[mi]?=some x:=by rw [hU];exact ZvU (i:=0) (by rw [hx];rfl) om
  have l0:mi < N:=om;refine fG (aj5 @w0 @w1 @q1 @q1' @tmz) ?_;clear q1 q1';have F:=@tmz;refine gL (ι:=Nat × Nat) [14,15,16,85,103] [] (fun z=>[(14,.d (.one (.lit (.int .i64 (z.1:Int))))),(15,.d (.one (.lit (.int .i64 (z.2:Int)))))]) (fun z=>[]) (fun z=>lo<=z.1∧z.1<=z.2∧z.2<=mi∧(lo < z.1->∃ y,A[z.1 - lo - 1]?=some y∧Zai y x<=0)∧(z.2 < mi->∃ y,A[z.2 - lo]?=some y∧Zai x y<=0)) (fun z=>z.2 - z.1) ((lo,mi)) (⟨Tai _,om,Tai _,fun h=>om,fun h=>om⟩) (fun z hz=>?_);clear F
  obtain ⟨i,j⟩:=z;obtain ⟨h1,h2,h3,h4,h5⟩:=hz;simp only at h1 h2 h3 h4 h5;dsimp only;by_cases hij:i < j
  ·have q2:=lT i j;obtain ⟨s,h,u1,u2,u3,u4,hh⟩:=ZkQ i j om;obtain ⟨y,hy⟩:∃ y,A[h - lo]?=some y:=⟨_,Taa om⟩;have gy:U[h]?=some y:=by rw [hU];exact ZvT hy om
   have lh:h < N:=om;have wh:=Zau (k:=h) om;refine fB (aj14 @q2 @u1 @u2 @u3 @u4 @Zgh @ZkP @ZfG @ZiW @ZeM @Zil @toNat_one @ZmE @tmz) ?_;refine fC (aj7 @tmz @gx @gy @l0 @lh @hUl @Zad) (ZkD (Zd8 x y)) ?_;by_cases hc:Zai x y < 0
   ·have z1:(Zai x y < 0)=True:=eq_true hc;refine fR (ai @z1 @tmz) ?_;have F:=@z1;refine gG ?_;exact ⟨(i,h),⟨h1,om,om,h4,fun _=>⟨y,hy,om⟩⟩,gw,gw,om⟩
   ·have z1:(Zai x y < 0)=False:=eq_false hc;refine fR (ai @z1 @tmz) ?_;have F:=ai @z1 @wh;refine gG ?_;exact ⟨(h+1,j),⟨om,om,h3,fun _=>⟨y,by rw [<- hy];congr 1;omega,ZpZ hc⟩,h5⟩,gw,gw,om⟩
  have q2:=lF i j;obtain rfl:i=j:=by omega
  have hout:ZaA (A++B)=A.take (i - lo)++x::A.drop (i - lo):=by
   rw [hx,Zq0 (List.perm_append_comm (l₁:=A) (l₂:=[x]))];exact Zre hA (fun h=>by obtain ⟨y,hy,hc⟩:=h4 om;exact ⟨y,hy,hc⟩) (fun h=>by obtain ⟨y,hy,hc⟩:=h5 om;exact ⟨y,hy,hc⟩)
  rw [hout];refine fG (ai @q2 @tmz) ?_;have F:=@tmz;refine gL (ι:=Nat × List Tm) [17,110] [1000] (fun z=>[(17,.d (.one (.lit (.int .i64 (z.1:Int)))))]) (fun z=>[(1000,.buf (some (a,cap)) 46 4 (Zaa z.2))]) (fun z=>i<=z.1∧z.1<=mi∧z.2=P++A.take (z.1 - lo)++x::(A.drop (z.1 - lo)++Q)) (fun z=>z.1) ((mi,U)) (⟨h3,Tai _,by rw [hU,hx,show mi - lo=A.length by omega,Tap,List.drop_length];simp⟩) (fun z hz=>?_);clear F
  obtain ⟨k,us⟩:=z;obtain ⟨k1,k2,hus⟩:=hz;simp only at k1 k2 hus;dsimp only;by_cases hk:i < k
  ·have q3:=lT i k;obtain ⟨p,hp⟩:∃ p,k=p+1:=⟨k - 1,om⟩;obtain ⟨y,hy⟩:∃ y,A[p - lo]?=some y:=⟨_,Taa om⟩;have hPl:(P++A.take (p - lo)).length=p:=by rw [Tae,Taw];omega
   have hus2:us=(P++A.take (p - lo))++y::x::(A.drop (k - lo)++Q):=by rw [hus,show k - lo=p - lo+1 by omega,Zcw hy];simp
   have g1:us[p]?=some y:=by rw [hus2];exact Zih hPl
   have g2:us[k]?=some x:=by rw [hus2,hp];exact ZnZ hPl
   obtain ⟨V,hV⟩:∃ V,V=P++A.take (p - lo)++x::(A.drop (p - lo)++Q):=⟨_,rfl⟩;have g3:(us.set k y).set p x=V:=by
    rw [hV,hus2,hp,ZuG hPl,ZdZ hy,show p+1 - lo=p - lo+1 by omega];simp
   have hul:us.length=N:=by rw [hus];simp only [Tae,Tag,Taw,Tax];omega
   have wk:IntKind.i64.wrap ((k:Int) - 1)=(p:Int):=ZaM om om om;have l1:k < N:=om;have l2:p < N:=om;have hls:∀ q (t:Tm),(us.set q t).length=N:=fun q t=>by rw [Taz,hul]
   obtain ⟨z,g4⟩:∃ z,(us.set k y)[p]?=some z:=⟨_,Taa (by rw [Taz];omega)⟩;refine fN 23 (ai @q3 @tmz) ?_;refine gF0 ?_;refine gFm 0 ?_;refine gFm 1 ?_;refine gFm 2 ?_;refine gFm 3 ?_;refine (have F:=(aj11 wk l1 l2 hul g1 g2 g4 hls @Zad @Zaw tmz);gFb 4 ?_);refine gFm 5 ?_;refine gFm 6 ?_;refine (have F:=(aj11 wk l1 l2 hul g1 g2 g4 hls @Zad @Zaw tmz);gFb 7 ?_);refine (have F:=(aj11 wk l1 l2 hul g1 g2 g4 hls @Zad @Zaw tmz);gFi (rows:=Zaa us) 8 p (by rw [Zad];omega) ?_)
   refine gFm 10 ?_;refine gFm 11 ?_;refine (have F:=(aj11 wk l1 l2 hul g1 g2 g4 hls @Zad @Zaw tmz);gFi (rows:=Zaa us) 12 k (by rw [Zad];omega) ?_);refine gFT ?_;refine gO2 9 13 ?_ ?_
   ·refine (have F:=(aj11 wk l1 l2 hul g1 g2 g4 hls @Zad @Zaw tmz);gO3 ?_);refine gO1 13 ?_;refine (have F:=(aj11 wk l1 l2 hul g1 g2 g4 hls @Zad @Zaw tmz);gO3 ?_);refine gO1 14 ?_;refine (have F:=(aj11 wk l1 l2 hul g1 g2 g4 hls @Zad @Zaw tmz);gO3 ?_);refine gO1 15 ?_;refine (have F:=(aj11 wk l1 l2 hul g1 g2 g4 hls @Zad @Zaw tmz);gO3 ?_);refine gO1 16 ?_;refine (have F:=(aj11 wk l1 l2 hul g1 g2 g4 hls @Zad @Zaw tmz);gO3 ?_)
    refine gO1 17 ?_;refine (have F:=(aj11 wk l1 l2 hul g1 g2 g4 hls @Zad @Zaw tmz);gO3 ?_);refine (have F:=tmz;gT0 ?_);refine Exists.intro _ (ai (Wk.refl _) ?_);rw [g3];have F:=@wk;refine gG ?_;exact ⟨(p,V),⟨om,om,hV⟩,gw,gw,om⟩
   ·refine (have F:=(aj11 wk l1 l2 hul g1 g2 g4 hls @Zad @Zaw tmz);gO3 ?_);refine gO1 9 ?_;refine (have F:=(aj11 wk l1 l2 hul g1 g2 g4 hls @Zad @Zaw tmz);gO3 ?_);refine gO1 14 ?_;refine (have F:=(aj11 wk l1 l2 hul g1 g2 g4 hls @Zad @Zaw tmz);gO3 ?_);refine gO1 15 ?_;refine (have F:=(aj11 wk l1 l2 hul g1 g2 g4 hls @Zad @Zaw tmz);gO3 ?_);refine gO1 16 ?_;refine (have F:=(aj11 wk l1 l2 hul g1 g2 g4 hls @Zad @Zaw tmz);gO3 ?_)
    refine gO1 17 ?_;refine (have F:=(aj11 wk l1 l2 hul g1 g2 g4 hls @Zad @Zaw tmz);gO3 ?_);refine (have F:=tmz;gT0 ?_);refine Exists.intro _ (ai (Wk.refl _) ?_);rw [g3];have F:=@wk;refine gG ?_;exact ⟨(p,V),⟨om,om,hV⟩,gw,gw,om⟩
  have q3:=lF i k;obtain rfl:i=k:=by omega
  subst hus;rw [show P++A.take (i - lo)++x::(A.drop (i - lo)++Q)=P++(A.take (i - lo)++x::A.drop (i - lo))++Q by simp];refine fG (ai @q3 @tmz) ?_
  first | exact (have F:=@e0P;gTPe (R:=RBuf a cap (P++(A.take (i - lo)++x::A.drop (i - lo))++Q)) [1000] ⟨rfl,rfl⟩) | exact (have F:=@e0P;gTP (R:=RBuf a cap (P++(A.take (i - lo)++x::A.drop (i - lo))++Q)) [1000] ⟨rfl,rfl⟩)
 have q1':((B.length:Int)=1)=False:=eq_false om;obtain ⟨s0,mid,u1,u2,u3,u4,hmid⟩:=ZkQ lo hi om;obtain ⟨nn,hnn⟩:∃ nn,nn=mid+mi:=⟨_,rfl⟩;obtain ⟨p,hp⟩:∃ p,nn=p+1:=⟨nn - 1,om⟩;have w2:IntKind.i64.wrap ((mid:Int)+(mi:Int))=(nn:Int):=ZaM om om om;have w3:IntKind.i64.wrap ((nn:Int) - 1)=(p:Int):=ZaM om om om;refine fG (aj16 @w0 @w1 @q1 @q1' @u1 @u2 @u3 @u4 @Zgh @ZkP @ZfG @ZiW @ZeM @Zil @toNat_one (aj3 @ZmE @w2 @tmz)) ?_
 clear q1 q1' u1 u2 u3 u4;refine gM (ι:=Nat × Nat) [20,21] [] (fun z=>[(20,.d (.one (.lit (.int .i64 (z.1:Int))))),(21,.d (.one (.lit (.int .i64 (z.2:Int)))))]) (fun z=>[]) (fun z=>mid < mi∧z.1+hi=nn∧z.2=mid∨mi<=mid∧z.1=lo∧z.2=mi) ?_ (fun z hz=>Exists.intro _ (ai (Wk.refl _) ?_))
 ·by_cases hgt:mid < mi
  ·have q2:decide ((mid:Int) < (mi:Int))=true:=decide_eq_true om;have w4:IntKind.i64.wrap ((nn:Int) - (hi:Int))=((nn - hi:Nat):Int):=ZaM om om om;generalize hv:nn - hi=v at w4;have q2':(mid < mi)=True:=eq_true hgt;have F:=aj4 @q2 @q2' @w4 @tmz;refine gG ?_;exact ⟨(v,mid),.inl ⟨hgt,by simp only;omega,rfl⟩,gw,gw⟩
  ·have q2:decide ((mid:Int) < (mi:Int))=false:=decide_eq_false om;have q2':(mi<=mid)=True:=eq_true om;have F:=aj3 @q2 @q2' @tmz;refine gG ?_;exact ⟨(lo,mi),.inr ⟨om,rfl,rfl⟩,gw,gw⟩
 obtain ⟨st,r0⟩:=z;simp only at hz;dsimp only;refine fG (ai @w3 @tmz) ?_;have F:=@tmz;refine gL (ι:=Nat × Nat) [20,21,23,151,171] [] (fun z=>[(20,.d (.one (.lit (.int .i64 (z.1:Int))))),(21,.d (.one (.lit (.int .i64 (z.2:Int)))))]) (fun z=>[]) (fun z=>st<=z.1∧z.1<=z.2∧z.2<=r0∧SymL A B lo mid st z.1∧SymR A B lo mid r0 z.2) (fun z=>z.2 - z.1) ((st,r0)) (⟨Tai _,om,Tai _,fun h=>om,fun h=>om⟩) (fun z hz=>?_);clear F
 obtain ⟨i,j⟩:=z;rename_i hcase;obtain ⟨h1,h2,h3,h4,h5⟩:=hz;simp only at h1 h2 h3 h4 h5;dsimp only;by_cases hij:i < j
 ·have q2:=lT i j;obtain ⟨s,c,u1,u2,u3,u4,hc⟩:=ZkQ i j om;obtain ⟨y,hy⟩:∃ y,A[c - lo]?=some y:=⟨_,Taa om⟩;obtain ⟨x,hx⟩:∃ x,B[mid - 1 - c]?=some x:=⟨_,Taa om⟩;obtain ⟨d,hd⟩:∃ d,d+c=p:=⟨p - c,om⟩;have gy:U[c]?=some y:=by rw [hU];exact ZvT hy om
  have gx:U[d]?=some x:=by rw [hU];exact ZvU hx om
  have lc:c < N:=om;have ld:d < N:=om;have wc:=Zau (k:=c) om;have wd:IntKind.i64.wrap ((p:Int) - (c:Int))=(d:Int):=ZaM om om om;refine fB (aj14 @q2 @u1 @u2 @u3 @u4 @Zgh @ZkP @ZfG @ZiW @ZeM @Zil @toNat_one @ZmE @tmz) ?_;refine fC (aj8 @tmz @gx @gy @lc @ld @wd @hUl @Zad) (ZkD (Zd8 x y)) ?_;by_cases hcc:Zai x y < 0
  ·have z1:(Zai x y < 0)=True:=eq_true hcc;refine fR (ai @z1 @tmz) ?_;have F:=@z1;refine gG ?_;exact ⟨(i,c),⟨h1,om,om,h4,fun _=>⟨x,y,hx,hy,om⟩⟩,gw,gw,om⟩
  ·have z1:(Zai x y < 0)=False:=eq_false hcc;refine fR (ai @z1 @tmz) ?_;have F:=ai @z1 @wc;refine gG ?_;exact ⟨(c+1,j),⟨om,om,h3,fun _=>⟨y,x,by rw [<- hy];congr 1,by rw [<- hx];congr 1;omega,ZpZ hcc⟩,h5⟩,gw,gw,om⟩
 have q2:=lF i j;obtain rfl:i=j:=by omega
 have hcut:=ZEu hA hB (s:=i - lo) (e:=mid - i) (fun e1 e2=>by
  obtain ⟨u,v,k1,k2,k3⟩:=h4 om;exact ⟨u,v,by rw [<- k1];congr 1;omega,k2,k3⟩) (fun e1 e2=>by
  obtain ⟨u,v,k1,k2,k3⟩:=h5 om;exact ⟨u,v,by rw [<- k1];congr 1;omega,k2,k3⟩)
 have eA:A=A.take (i - lo)++A.drop (i - lo):=(Tbm _ _).symm;have eB:B=B.take (mid - i)++B.drop (mid - i):=(Tbm _ _).symm;have lA1:(A.take (i - lo)).length=i - lo:=by rw [Taw];omega
 have lA2:(A.drop (i - lo)).length=mi - i:=by rw [Tax];omega
 have lB1:(B.take (mid - i)).length=mid - i:=by rw [Taw];omega
 have lB2:(B.drop (mid - i)).length=hi+i - mi - mid:=by rw [Tax];omega
 have uA1:=hA.take (i - lo);have uA2:=hA.drop (i - lo);have uB1:=hB.take (mid - i);have uB2:=hB.drop (mid - i);generalize A.take (i - lo)=A1 at hcut eA lA1 uA1;generalize A.drop (i - lo)=A2 at hcut eA lA2 uA2;generalize B.take (mid - i)=B1 at hcut eB lB1 uB1;generalize B.drop (mid - i)=B2 at hcut eB lB2 uB2;have hsort:=ZvL hcut;rw [<- eA,<- eB] at hsort;rw [<- hsort];obtain ⟨ed,hed⟩:∃ ed,ed+i=nn:=⟨nn - i,om⟩
 have w5:IntKind.i64.wrap ((nn:Int) - (i:Int))=(ed:Int):=ZaM om om om;clear h4 h5 hcut hsort hA hB;refine fG (aj3 @q2 @w5 @tmz) ?_;refine gM (ι:=Bool) [185] [] (fun b=>[(185,.d (.one (.lit (.bool b))))]) (fun b=>[]) (fun b=>b=decide (i < mi∧mi < ed)) ?_ (fun b hb=>Exists.intro _ (ai (Wk.refl _) ?_))
 ·by_cases hr1:i < mi
  ·have q3:=lT i mi;by_cases hr2:mi < ed
   ·have q4:=lT mi ed;have F:=aj3 @q3 @q4 @tmz;refine gG ?_;exact ⟨true,(decide_eq_true (ai hr1 hr2)).symm,gw,gw⟩
   ·have q4:=lF mi ed;have F:=aj3 @q3 @q4 @tmz;refine gG ?_;exact ⟨false,(decide_eq_false fun h=>hr2 h.2).symm,gw,gw⟩
  ·have q3:=lF i mi;have F:=ai @q3 @tmz;refine gG ?_;exact ⟨false,(decide_eq_false fun h=>hr1 h.1).symm,gw,gw⟩
 subst hb;refine gM (ι:=Unit) [] [1000] (fun z=>[]) (fun z=>[(1000,.buf (some (a,cap)) 46 4 (Zaa (P++A1++B1++(A2++B2++Q))))]) (fun z=>True) ?_ (fun z hz=>Exists.intro _ (ai (Wk.refl _) ?_))
 ·by_cases hr:i < mi∧mi < ed
  ·rw [decide_eq_true hr];obtain ⟨hr1,hr2⟩:=hr;have c:=ZBU (P++A1) A2 B1 (B2++Q) om om (A:=i) (M:=mi) (B:=ed) (N:=N) (by rw [Tae];omega) (by rw [Tae];omega) (by rw [Tae];omega) (by rw [Tae,Tae];omega) hmx a cap;rw [show P++A1++A2++B1++(B2++Q)=U by rw [hU,eA,eB];simp,show P++A1++B1++A2++(B2++Q)=P++A1++B1++(A2++B2++Q) by simp] at c;generalize P++A1++B1++(A2++B2++Q)=V at c ⊢;refine fN 40 @tmz ?_;refine gB ?_
   have F:=@tmz;refine gCP [1000] [1000] (c) ?_;clear F;rintro r pm ⟨rfl,rfl⟩;simp only [setA,retA,zipM,Taf,Tah];refine fR @tmz ?_;exact ⟨(),trivial,gw,gw⟩
  ·have hUU:U=P++A1++B1++(A2++B2++Q):=by
    rw [hU,eA,eB];rcases (show mi<=i∨mid<=i by omega) with h | h
    ·have:A2=[]:=Tao om;subst this;simp
    ·have:B1=[]:=Tao om;subst this;simp
   rw [<- hUU,decide_eq_false hr];have F:=@tmz;refine gG ?_;exact ⟨(),trivial,gw,gw⟩
 clear hU hUl U;refine ZdK ?_;refine ZdK ?_;refine gM (ι:=Bool) [199] [] (fun b=>[(199,.d (.one (.lit (.bool b))))]) (fun b=>[]) (fun b=>b=decide (lo < i∧i < mid)) ?_ (fun b hb=>Exists.intro _ (ai (Wk.refl _) ?_))
 ·by_cases hr1:lo < i
  ·have q3:=lT lo i;by_cases hr2:i < mid
   ·have q4:=lT i mid;have F:=aj3 @q3 @q4 @tmz;refine gG ?_;exact ⟨true,(decide_eq_true (ai hr1 hr2)).symm,gw,gw⟩
   ·have q4:=lF i mid;have F:=aj3 @q3 @q4 @tmz;refine gG ?_;exact ⟨false,(decide_eq_false fun h=>hr2 h.2).symm,gw,gw⟩
  ·have q3:=lF lo i;have F:=ai @q3 @tmz;refine gG ?_;exact ⟨false,(decide_eq_false fun h=>hr1 h.1).symm,gw,gw⟩
 subst hb;refine gM (ι:=Unit) [] [1000] (fun z=>[]) (fun z=>[(1000,.buf (some (a,cap)) 46 4 (Zaa (P++ZaA (A1++B1)++(A2++B2++Q))))]) (fun z=>True) ?_ (fun z hz=>Exists.intro _ (ai (Wk.refl _) ?_))
 ·by_cases hr:lo < i∧i < mid
  ·rw [decide_eq_true hr];obtain ⟨hr1,hr2⟩:=hr;have c:=ih P A1 B1 (A2++B2++Q) om om om uA1 uB1 (lo:=lo) (mi:=i) (hi:=mid) (N:=N) hlo om om (by simp only [Tae];omega) hmx a cap;generalize P++ZaA (A1++B1)++(A2++B2++Q)=V at c ⊢;generalize P++A1++B1++(A2++B2++Q)=V' at c ⊢;refine fN 42 @tmz ?_;refine gB ?_;have F:=@tmz;refine gCP [1000] [1000] (c) ?_;clear F;rintro r pm ⟨rfl,rfl⟩;simp only [setA,retA,zipM,Taf,Tah]
   refine fR @tmz ?_;exact ⟨(),trivial,gw,gw⟩
  ·have hs:ZaA (A1++B1)=A1++B1:=by
    rcases (show i<=lo∨mid<=i by omega) with h | h
    ·have:A1=[]:=Tao om;subst this;exact ZeZ uB1
    ·have:B1=[]:=Tao om;subst this;rw [List.append_nil];exact ZeZ uA1
   rw [hs,<- Tbf P,decide_eq_false hr];generalize P++A1++B1++(A2++B2++Q)=V;have F:=@tmz;refine gG ?_;exact ⟨(),trivial,gw,gw⟩
 have hsl:(ZaA (A1++B1)).length=mid - lo:=by rw [Zdf,Tae];omega
 generalize ZaA (A1++B1)=S1 at hsl ⊢;rw [show P++S1++(A2++B2++Q)=P++S1++A2++B2++Q by simp,show P++(S1++ZaA (A2++B2))++Q=P++S1++ZaA (A2++B2)++Q by simp];refine ZdK ?_;refine gM (ι:=Bool) [213] [] (fun b=>[(213,.d (.one (.lit (.bool b))))]) (fun b=>[]) (fun b=>b=decide (mid < ed∧ed < hi)) ?_ (fun b hb=>Exists.intro _ (ai (Wk.refl _) ?_))
 ·by_cases hr1:mid < ed
  ·have q3:=lT mid ed;by_cases hr2:ed < hi
   ·have q4:=lT ed hi;have F:=aj3 @q3 @q4 @tmz;refine gG ?_;exact ⟨true,(decide_eq_true (ai hr1 hr2)).symm,gw,gw⟩
   ·have q4:=lF ed hi;have F:=aj3 @q3 @q4 @tmz;refine gG ?_;exact ⟨false,(decide_eq_false fun h=>hr2 h.2).symm,gw,gw⟩
  ·have q3:=lF mid ed;have F:=ai @q3 @tmz;refine gG ?_;exact ⟨false,(decide_eq_false fun h=>hr1 h.1).symm,gw,gw⟩
 subst hb;by_cases hr:mid < ed∧ed < hi
 ·rw [decide_eq_true hr];obtain ⟨hr1,hr2⟩:=hr;have c:=ih (P++S1) A2 B2 Q om om om uA2 uB2 (lo:=mid) (mi:=ed) (hi:=hi) (N:=N) (by rw [Tae];omega) (by rw [Tae];omega) (by rw [Tae];omega) (by simp only [Tae];omega) hmx a cap;generalize P++S1++ZaA (A2++B2)++Q=V at c ⊢;generalize P++S1++A2++B2++Q=V' at c ⊢;refine fN 44 @tmz ?_;refine gB ?_;have F:=@tmz;refine gCP [1000] [1000] (c) ?_;clear F;rintro r pm ⟨rfl,rfl⟩
  simp only [setA,retA,zipM,Taf,Tah];refine fR @tmz ?_
  first | exact (have F:=@e0P;gTPe (R:=RBuf a cap V) [1000] ⟨rfl,rfl⟩) | exact (have F:=@e0P;gTP (R:=RBuf a cap V) [1000] ⟨rfl,rfl⟩)
 ·have hs:ZaA (A2++B2)=A2++B2:=by
   rcases (show ed<=mid∨hi<=ed by omega) with h | h
   ·have:A2=[]:=Tao om;subst this;exact ZeZ uB2
   ·have:B2=[]:=Tao om;subst this;rw [List.append_nil];exact ZeZ uA2
  rw [hs,<- Tbf (P++S1),decide_eq_false hr];generalize P++S1++A2++B2++Q=V;refine fG @tmz ?_
  first | exact (have F:=@e0P;gTPe (R:=RBuf a cap V) [1000] ⟨rfl,rfl⟩) | exact (have F:=@e0P;gTP (R:=RBuf a cap V) [1000] ⟨rfl,rfl⟩)
theorem Zrg {X A B r ts:List Tm} (h:(X++A++r).Perm ts) (hB:B.Perm A):(X++B++r).Perm ts:=((List.Perm.append_left X hB).append_right r).trans h
theorem Zrh (ts:List Tm) {N:Nat} (hN:N=ts.length) (hmx:N<=4000000) (a:Option Addr) (cap:Nat) :
  ConP e0 168 [.one (.lit (.slice a N cap)),.one (.lit (.int .i64 N)),.one (.fn 80 [])] [.buf (some (a,cap)) 46 4 (Zaa ts)] (RBuf a cap (ZaA ts)):=by
 refine gIP (ts:=[]) [1000] 18014433942971335 Tryz.func168 ?_;refine fG @tmz ?_;have F:=@tmz;refine gL (ι:=(Nat × Nat) × List Tm) [7,8,13] [1000] (fun z=>[(7,.d (.one (.lit (.int .i64 (z.1.1:Int))))),(8,.d (.one (.lit (.int .i64 (z.1.2:Int)))))]) (fun z=>[(1000,.buf (some (a,cap)) 46 4 (Zaa z.2))]) (fun z=>z.1.2=z.1.1+20∧z.1.1<=N∧∃ X,z.2=X++ts.drop z.1.1∧X.length=z.1.1∧Full 20 X∧X.Perm (ts.take z.1.1)) (fun z=>N - z.1.1) (((0,20),ts)) (⟨rfl,Taj _,[],rfl,rfl,.nil,List.Perm.refl _⟩) (fun z hz=>?_);clear F
 obtain ⟨⟨i,j⟩,us⟩:=z;obtain ⟨hj,hi,X,hus,hX,hF,hp⟩:=hz;simp only at hj hi hus hX hp;dsimp only;by_cases hlt:j<=N
 ·have q1:((j:Int)<=(N:Int))=True:=eq_true om;have hd:ts.drop i=(ts.drop i).take 20++ts.drop j:=by rw [hj,<- List.drop_drop,Tbm]
  have hl:((ts.drop i).take 20).length=20:=by rw [Taw,Tax];omega
  have ht:ts.take j=ts.take i++(ts.drop i).take 20:=by rw [hj,List.take_add]
  have c:=Zrd X ((ts.drop i).take 20) (ts.drop j) (A:=i) (B:=j) (N:=N) hX.symm om (by rw [Tax];omega) hmx a cap;rw [Tbf X,<- hd,<- hus] at c;have wj:IntKind.i64.wrap ((j:Int)+20)=((j+20:Nat):Int):=ZaM om om om;obtain ⟨V,hV⟩:∃ V,V=X++ZaA ((ts.drop i).take 20)++ts.drop j:=⟨_,rfl⟩;rw [<- hV] at c;obtain ⟨j',hj'⟩:∃ j',j'=j+20:=⟨_,rfl⟩;rw [<- hj'] at wj;refine fN 3 (ai @q1 @tmz) ?_;refine gB ?_;have F:=@tmz;refine gCP [1000] [1000] (c) ?_;clear F
  rintro r pm ⟨rfl,rfl⟩;simp only [setA,retA,zipM,Taf,Tah];refine fR @tmz ?_;have F:=@wj;refine gG ?_;exact ⟨((j,j'),V),⟨hj',hlt,X++ZaA ((ts.drop i).take 20),hV,by rw [Tae,Zdf];simp only;omega,hF.snoc (by rw [Zdf];exact hl) (Zcs _),by simp only;rw [ht];exact hp.append (Zbg _)⟩,gw,gw,by dsimp only;omega⟩
 have q1:((j:Int)<=(N:Int))=False:=eq_false om;have c:=Zrd X (ts.drop i) [] (A:=i) (B:=N) (N:=N) hX.symm (by rw [Tax];omega) (by rw [Tax];simp;omega) hmx a cap;rw [List.append_nil,List.append_nil,<- hus] at c;have hB:Blks 20 (X++ZaA (ts.drop i)):=hF.blks (by rw [Zdf,Tax];omega) (Zcs _);have hP:(X++ZaA (ts.drop i)).Perm ts:=by
  have:=hp.append (Zbg (ts.drop i))
  rwa [Tbm] at this
 generalize X++ZaA (ts.drop i)=vs at c hB hP;refine fN 6 (ai @q1 @tmz) ?_;refine gB ?_;have F:=@tmz;refine gCP [1000] [1000] (c) ?_;clear F;rintro r pm ⟨rfl,rfl⟩;simp only [setA,retA,zipM,Taf,Tah];refine fR @tmz ?_;clear c q1 hus hF hp us X hX hi hj;refine fG @tmz ?_;have F:=@tmz;refine gL (ι:=Nat × List Tm) [6,7,8,9,30,35,54] [1000] (fun z=>[(6,.d (.one (.lit (.int .i64 (z.1:Int)))))]) (fun z=>[(1000,.buf (some (a,cap)) 46 4 (Zaa z.2))]) (fun z=>0 < z.1∧z.1<=8000000∧Blks z.1 z.2∧z.2.Perm ts) (fun z=>N - z.1) ((20,vs)) (⟨om,om,hB,hP⟩) (fun z hz=>?_);clear F
 clear hB hP vs hlt i j;obtain ⟨k,us⟩:=z;obtain ⟨hk0,hk8,hB,hP⟩:=hz;simp only at hk0 hk8 hB hP;dsimp only;by_cases hlt:k < N;rotate_left
 ·have q1:=lF k N;have e:us=ZaA ts:=Zgj hP (hB.up (by rw [hP.length_eq];omega));subst e;refine fG (ai @q1 @tmz) ?_
  first | exact (have F:=@e0P;gTPe (R:=RBuf a cap (ZaA ts)) [1000] ⟨rfl,rfl⟩) | exact (have F:=@e0P;gTP (R:=RBuf a cap (ZaA ts)) [1000] ⟨rfl,rfl⟩)
 have q1:=lT k N;obtain ⟨k2,hk2⟩:∃ k2,k2=2 * k:=⟨_,rfl⟩;have w1:IntKind.i64.wrap (2 * (k:Int))=(k2:Int):=ZaM om om om;have w2:IntKind.i64.wrap ((k:Int) * 2)=(k2:Int):=ZaM om om om;refine fG (aj3 @q1 @w1 @tmz) ?_;have F:=@tmz;refine gL (ι:=(Nat × Nat) × List Tm) [7,8,35] [1000] (fun z=>[(7,.d (.one (.lit (.int .i64 (z.1.1:Int))))),(8,.d (.one (.lit (.int .i64 (z.1.2:Int)))))]) (fun z=>[(1000,.buf (some (a,cap)) 46 4 (Zaa z.2))]) (fun z=>z.1.2=z.1.1+k2∧z.1.1<=N∧∃ X Y,z.2=X++Y∧X.length=z.1.1∧Full k2 X∧Blks k Y∧(X++Y).Perm ts) (fun z=>N - z.1.1) (((0,k2),us)) (⟨(Nat.zero_add _).symm,Taj _,[],us,rfl,rfl,.nil,hB,hP⟩) (fun z hz=>?_);clear F
 obtain ⟨⟨i,j⟩,vs⟩:=z;obtain ⟨hj,hi,X,Y,hvs,hX,hF,hY,hp⟩:=hz;simp only at hj hi hvs hX;dsimp only;have hpl:=hp.length_eq;rw [Tae] at hpl;obtain ⟨m,hm⟩:∃ m,m=i+k:=⟨_,rfl⟩;have w3:IntKind.i64.wrap ((i:Int)+(k:Int))=(m:Int):=ZaM om om om;by_cases hjl:j<=N
 ·have q2:((j:Int)<=(N:Int))=True:=eq_true om;obtain ⟨A,B,r,hY',hA,hB',uA,uB,hr⟩:=hY.two hk0 om;have hYl:=congrArg List.length hY';simp only [Tae] at hYl;have c:=Zrf _ X A B r (Tai _) om om uA uB (lo:=i) (mi:=m) (hi:=j) (N:=N) hX.symm om om om hmx a cap;have e1:X++A++B++r=vs:=by rw [hvs,hY'];simp
  rw [e1] at c;have hp2:(X++ZaA (A++B)++r).Perm ts:=Zrg (A:=A++B) (by rw [<- Tbf,e1,hvs];exact hp) (Zbg _);obtain ⟨V,hV⟩:∃ V,V=X++ZaA (A++B)++r:=⟨_,rfl⟩;rw [<- hV] at c;obtain ⟨j',hj'⟩:∃ j',j'=j+k2:=⟨_,rfl⟩;have wj:IntKind.i64.wrap ((j:Int)+(k2:Int))=(j':Int):=ZaM om om om;refine fN 10 (ai @q2 @tmz) ?_;refine gB ?_;have F:=ai @tmz @w3;refine gCP [1000] [1000] (c) ?_;clear F;rintro r' pm ⟨rfl,rfl⟩;simp only [setA,retA,zipM,Taf,Tah]
  refine fR @tmz ?_;have F:=ai @w1 @wj;refine gG ?_;exact ⟨((j,j'),V),⟨hj',hjl,X++ZaA (A++B),r,hV,by simp only;rw [Tae,Zdf,Tae];omega,hF.snoc (by rw [Zdf,Tae];omega) (Zcs _),hr,hp2⟩,gw,gw,by dsimp only;omega⟩
 have q2:((j:Int)<=(N:Int))=False:=eq_false om;by_cases hmn:m < N
 ·have q3:=lT m N;obtain ⟨A,B,hY',hA,uA,hB'⟩:=hY.split om;have hYl:=congrArg List.length hY';simp only [Tae] at hYl;have uB:=hB'.up om;have c:=Zrf _ X A B [] (Tai _) om om uA uB (lo:=i) (mi:=m) (hi:=N) (N:=N) hX.symm om om (by simp only [Tak];omega) hmx a cap;have e1:X++A++B++[]=vs:=by rw [hvs,hY'];simp
  rw [e1] at c;have hp2:(X++ZaA (A++B)++[]).Perm ts:=Zrg (A:=A++B) (by rw [<- Tbf,e1,hvs];exact hp) (Zbg _);rw [List.append_nil] at hp2;obtain ⟨V,hV⟩:∃ V,V=X++ZaA (A++B):=⟨_,rfl⟩;rw [List.append_nil,<- hV] at c;refine fN 15 (aj4 @q2 @q3 @w3 @tmz) ?_;refine gB ?_;have F:=@tmz;refine gCP [1000] [1000] (c) ?_;clear F;rintro r' pm ⟨rfl,rfl⟩;simp only [setA,retA,zipM,Taf,Tah];refine fR @tmz ?_;have F:=@w2;refine gG ?_;exact ⟨(k2,V),⟨om,om,by rw [hV];exact hF.blks (by rw [Zdf,Tae];omega) (Zcs _),by rw [hV];exact hp2⟩,gw,gw,om⟩
 have q3:=lF m N;have F:=aj4 @q2 @q3 @w2 @w3;refine gG ?_;exact ⟨(k2,vs),⟨om,om,by rw [hvs];exact hF.blks om (hY.up om),by rw [hvs];exact hp⟩,gw,gw,om⟩
theorem ZsE (ts:List Tm) (hmx:ts.length<=4000000) (a:Option Addr) (cap:Nat) :
  ConP e0 131 [.one (.lit (.slice a ts.length cap)),.one (.fn 80 [])] [.buf (some (a,cap)) 46 4 (Zaa ts)] (RBuf a cap (ZaA ts)):=by
 refine gIP (ts:=[]) [1000] 3 Tryz.func131 ?_;refine gB ?_;have F:=@tmz;refine gCP [1000] [1000] (Zrh ts rfl hmx a cap) ?_;clear F;rintro r pm ⟨rfl,rfl⟩;simp only [setA,retA,zipM,Taf,Tah];refine fR @tmz ?_;refine fG @tmz ?_
 first | exact (have F:=@e0P;gTPe (R:=RBuf a cap (ZaA ts)) [1000] ⟨rfl,rfl⟩) | exact (have F:=@e0P;gTP (R:=RBuf a cap (ZaA ts)) [1000] ⟨rfl,rfl⟩)
def zTm:Tm:=.mk 0 ByteArray.empty 0 []
theorem Zna:Zac zTm=[.lit (.int .i64 0),.lit (.string ByteArray.empty),.lit (.int .i64 0),.sl []]:=by simp [zTm,Zac,Zaa]
theorem Zec:Zaa []=[]:=by simp [Zaa]
theorem Zhl {g:Sgn} {o:Opr} {op:Int}:∀ {xs:List Tm},(∀ a∈xs,TermOk g a)->(Zax o op xs).length<=60 * xs.length∧sizeTms (Zax o op xs)<=60 * xs.length∧depthTms (Zax o op xs)<=20
 | [],_=>⟨Tai _,Tai _,by simp [Zax,depthTms]⟩
 | a::xs,h=>by
  obtain ⟨i1,i2,i3⟩:=Zhl (o:=o) (op:=op) fun x hx=>h x (Tal _ hx);have ha:=h a Tas;have e:Zax o op (a::xs)=ZbH o op a++Zax o op xs:=rfl;have s1:=ha.size;have s2:=ha.depth;rw [Zbt] at s1;rw [ZgE] at s2;have sl:=ZbX a.args;have hf:(ZbH o op a).length<=60∧sizeTms (ZbH o op a)<=60∧depthTms (ZbH o op a)<=20:=by
   unfold ZbH;split
   ·exact ⟨om,om,om⟩
   ·split
    ·exact ⟨by simp,by simp [sizeTms],by simp [depthTms]⟩
    ·refine ⟨by simp,?_,?_⟩
     ·have:=ha.size;simp only [sizeTms];omega
     ·have:=ha.depth;simp only [depthTms];omega
  have happ:∀ (l m:List Tm),sizeTms (l++m)=sizeTms l+sizeTms m∧depthTms (l++m)=max (depthTms l) (depthTms m):=fun l m=>by
   induction l with
   | nil=>simp [sizeTms,depthTms]
   | cons x l ih=>simp only [Taf,sizeTms,depthTms,ih.1,ih.2];omega
  rw [e,Tae,(happ _ _).1,(happ _ _).2,Tag];omega
section
variable {g:Sgn} {mc:C}
theorem ZvV (hg:SgnOk g) {op:Int} {o:Opr} (h0:0<=op) (ho:g.ops[op.toNat]?=some o) (hu:o.unit≠0):Con e0 130 [.one (.ptr (encX g mc)),.one (.lit (.int .i64 op))] [.agg (Zac (Zbd o))]:=by
 have hax:=hg.axs o (Tac ho);have hlo:=hax.lo;have hhi:=hax.hi;have hln:=hg.len;have hw:IntKind.i64.wrap (o.unit - 1)=o.unit - 1:=ZaM rfl om om;have em:Zac (Zbd o)=[.lit (.int .i64 (o.unit - 1)),.lit (.string ByteArray.empty),.lit (.int .i64 0),.sl []]:=by simp only [Zbd,if_neg hu,Zac,Zaa]
 refine gI (ts:=[.cell 4 46]) 19 Tryz.func130 ?_;exact fD (aj7 @Za4 @h0 @ho @Zaj @hw @em @tmz)
open Classical in
theorem ZvW (hg:SgnOk g) {op:Int} {o:Opr} {d:Dcl} (h0:0<=op) (ho:g.ops[op.toNat]?=some o) (hd:o.decls[0]?=some d) (xs:List Tm) (ha:∀ a∈xs,TermOk g a) (hl:xs.length<=1048576) (hl2:(Zax o op xs).length<=4000000):Con e0 79 [.one (.ptr (encX g mc)),.one (.lit (.int .i64 op)),.one (.sl (Zaa xs))] [.agg (Zac ((mkO g o d op xs).getD zTm)),.one (.lit (.bool (mkO g o d op xs).isSome))]:=by
 have hz:=Zna;have hfb:=Zhl (o:=o) (op:=op) ha;refine gI (ts:=[.cell 6 46,.slot 7]) 85070612101775940130758990405381922759 Tryz.func79 ?_;by_cases hAr:ArB o d xs.length
 ·rw [show mkO g o d op xs=none by unfold mkO;rw [if_pos hAr]];rcases hAr with ⟨h1,h2⟩ | ⟨h1,h2⟩
  ·have q1:=lT xs.length 2;exact fD (aj8 @Za4 @h0 @ho @Zaj @h1 @q1 @hz @tmz)
  ·have q1:((xs.length:Int)=(d.args.length:Int))=False:=eq_false om;exact fD (aj10 @Za4 @h0 @ho @Zaj @h1 @hd @ZaV @q1 @hz @tmz)
 refine fG (aj5 @tmz @Za4 @h0 @ho @Zaj) ?_;refine gM (ι:=Unit) [43] [] (fun u=>[(43,A.d (.one (.lit (.bool false))))]) (fun u=>[]) (fun u=>True) ?_ (fun u hu=>Exists.intro _ (ai (Wk.refl _) ?_))
 ·cases ha:o.assoc with
  | true =>
   have c1:((xs.length:Int) < 2)=False:=eq_false fun c=>hAr (.inl ⟨ha,om⟩);have F:=aj4 @tmz @Zaj @ha @c1;refine gG ?_;exact ⟨(),trivial,gw,gw⟩
  | false =>
   have c3:((xs.length:Int)=(d.args.length:Int))=True:=eq_true (by have:¬ (xs.length≠d.args.length):=fun c=>hAr (.inr ⟨ha,c⟩);omega);have F:=aj6 @tmz @Zaj @ha @hd @ZaV @c3;refine gG ?_;exact ⟨(),trivial,gw,gw⟩
 have hnas:o.assoc=false->xs.length=d.args.length:=fun h=>Classical.byContradiction fun c=>hAr (.inr ⟨h,c⟩);have hfl0:Zax o op []=[]:=rfl;refine fG @tmz ?_;have F:=aj3 @hfl0 @Zec @tmz;refine gL (ι:=Nat) [7,9,10,11,48,49,60,62,75] [9] (fun i=>[(48,A.d (.one (.lit (.int .i64 i)))),(9,.buf 9)]) (fun i=>[(9,.buf none 46 4 (Zaa (Zax o op (xs.take i))))]) (fun i=>i<=xs.length∧∀ (j:Nat) a,j < i->xs[j]?=some a->KArg g o d j a) (fun i=>xs.length - i) (0) (⟨Taj _,fun j a h=>absurd h om⟩) (fun i hi=>?_);clear F
 obtain ⟨hi,hall⟩:=hi;by_cases hlt:i < xs.length
 ·obtain ⟨a,hai⟩:∃ a,xs[i]?=some a:=⟨_,Taa hlt⟩;have hT:=ha a (Tac hai);have q1:=lT i xs.length;have hw1:=Zau (k:=i) om;obtain ⟨k,hk⟩:=ZhH hg ho hd hnas hlt;have hst:=Zlt (o:=o) (op:=op) hai;have hle:=ZhK o op xs (i+1);rw [hst,Tae] at hle;refine fN 8 (aj3 @q1 @hai @tmz) ?_;refine gB ?_;refine fC @tmz (ZmY hg hT.form.node) ?_;refine fC @tmz (Zlo hg h0 ho hd hk) ?_;by_cases hkd:Zb1 g a=((kd g.sorts k:Nat):Int)
  rotate_left
  ·have e:mkO g o d op xs=none:=by
    unfold mkO;rw [if_neg hAr,if_neg fun h=>by
     obtain ⟨k',hk',he⟩:=h i a hai;rw [hk] at hk';injection hk' with hk'
     subst hk';exact hkd he]
   rw [e];refine fR (ai @tmz @hkd) ?_;exact fD (ai @hz @tmz)
  have hnext:i+1<=xs.length∧∀ (j:Nat) a,j < i+1->xs[j]?=some a->KArg g o d j a:=⟨hlt,fun j a' hj ha'=>by
   by_cases e:j=i
   ·subst e;rw [hai] at ha';injection ha' with ha'
    subst ha';exact ⟨k,hk,hkd⟩
   ·exact hall j a' om ha'⟩
  have l1:ZaC 4 (Zaa (Zax o op (xs.take i)))=true:=ZdR _;have l5:ZaC 4 (Zaa a.args)=true:=ZdR _;by_cases hN:o.assoc=true∧a.op=op
  ·have e:ZbH o op a=a.args:=by unfold ZbH;rw [if_pos hN]
   rw [e] at hst hle;have l3:((Zax o op (xs.take i)).length+a.args.length<=maxApp)=True:=eq_true (by unfold maxApp;omega);have l4:Zaa (Zax o op (xs.take i))++Zaa a.args=Zaa (Zax o op (xs.take (i+1))):=by rw [hst,Zb8]
   obtain ⟨hN1,hN2⟩:=hN;have q2:(a.op=op)=True:=eq_true hN2;refine fR (ai @tmz @hkd) ?_;have F:=aj9 @tmz @Zaj @hN1 @q2 @l1 @l5 @l3 @l4 @hw1;refine gG ?_;exact ⟨i+1,hnext,gw,gw,om⟩
  ·have cU:=ZmZ (mc:=mc) hg h0 ho a;have hne:o.assoc=true->(a.op=op)=False:=fun h1=>eq_false fun h2=>hN ⟨h1,h2⟩;refine fR (ai @tmz @hkd) ?_;refine fN 12 (aj3 @tmz @Zaj @hne) ?_;by_cases hU:o.unit≠0∧a.op=o.unit - 1
   ·have e:ZbH o op a=[]:=by unfold ZbH;rw [if_neg hN,if_pos hU]
    rw [e,List.append_nil] at hst;rw [decide_eq_true hU] at cU;rw [<- hst];rcases Bool.eq_false_or_eq_true o.assoc with hac | hac
    ·have hq:=hne hac;refine fN 12 (aj4 @tmz @Zaj @hac @hq) ?_;refine gB ?_;refine fC @tmz (cU) ?_;refine fR @tmz ?_;have F:=aj3 @tmz @hac @hw1;refine gG ?_;exact ⟨i+1,hnext,gw,gw,om⟩
    ·refine fN 12 (aj3 @tmz @Zaj @hac) ?_;refine gB ?_;refine fC @tmz (cU) ?_;refine fR @tmz ?_;have F:=aj3 @tmz @hac @hw1;refine gG ?_;exact ⟨i+1,hnext,gw,gw,om⟩
   ·have e:ZbH o op a=[a]:=by unfold ZbH;rw [if_neg hN,if_neg hU]
    rw [e] at hst hle;rw [decide_eq_false hU] at cU;have l3:((Zax o op (xs.take i)).length+1<=maxApp)=True:=eq_true (by simp only [Tag,Tak] at hle;unfold maxApp;omega);have l4:Zaa (Zax o op (xs.take i))++[Zac a]=Zaa (Zax o op (xs.take (i+1))):=by rw [hst,Zb8,ZdE]
    rcases Bool.eq_false_or_eq_true o.assoc with hac | hac
    ·have hq:=hne hac;refine fN 12 (aj4 @tmz @Zaj @hac @hq) ?_;refine gB ?_;refine fC @tmz (cU) ?_;refine fR @tmz ?_;have F:=aj6 @tmz @hac @l1 @l3 @l4 @hw1;refine gG ?_;exact ⟨i+1,hnext,gw,gw,om⟩
    ·refine fN 12 (aj3 @tmz @Zaj @hac) ?_;refine gB ?_;refine fC @tmz (cU) ?_;refine fR @tmz ?_;have F:=aj6 @tmz @hac @l1 @l3 @l4 @hw1;refine gG ?_;exact ⟨i+1,hnext,gw,gw,om⟩
 ·obtain rfl:i=xs.length:=by omega
  have q1:=lF xs.length xs.length;rw [Tap];have hm:mkO g o d op xs=mkL o op (Zax o op xs):=by
   unfold mkO;rw [if_neg hAr,if_pos fun j a h=>hall j a (Tad.1 h).1 h]
  rw [hm];clear hm hall hnas;generalize hL:Zax o op xs=L at hfb hl2 ⊢;obtain ⟨b1,b2,b3⟩:=hfb;have hax:=hg.axs o (Tac ho);have hlo:=hax.lo;have cUn:=fun hu=>ZvV (mc:=mc) hg h0 ho hu;by_cases hu:o.unit≠0∧L.length < 2
  ·have e:mkL o op L=some (L.headD (Zbd o)):=by unfold mkL;rw [if_pos hu]
   rw [e];obtain ⟨hu1,hu2⟩:=hu;have q2:(o.unit=0)=False:=eq_false hu1;have q3:=lT L.length 2
   cases L with
   | nil =>
    have z1:=lT (0:Nat) 2;have z2:(((0:Nat):Int)=1)=False:=eq_false om;refine fN 18 (aj6 @q1 @Zaj @q2 @z1 @z2 @tmz) ?_;refine gB ?_;refine fC @tmz (cUn hu1) ?_;refine fR @tmz ?_;exact fD @tmz
   | cons b bs =>
    have hb:bs=[]:=Tao (by simp only [Tag] at hu2;omega);subst hb;have z1:=lT (0+1:Nat) 2;have z2:(((0+1:Nat):Int)=1)=True:=eq_true om;have z3:=lT (1:Nat) 2;have z4:(((1:Nat):Int)=1)=True:=eq_true om;have q5:([b]:List Tm)[0]?=some b:=rfl;have z5:(0 < 0+1)=True:=eq_true om;have z6:((0:Nat) < 1)=True:=eq_true om;have z7:Int.toNat 0=0:=rfl;have q6:(0 < [b].length)=True:=eq_true (by simp);exact fD (aj14 @q1 @Zaj @q2 @q3 @z1 @z2 @z3 @z4 @z5 @z6 @z7 @q5 @q6 @tmz)
  ·have hml:mkL o op L=if BigT o op (srtO o L) then none else some (appT op (srtO o L)):=by unfold mkL;rw [if_neg hu]
   rw [hml];clear hml cUn;refine fG (ai @q1 @tmz) ?_;refine gM (ι:=Unit) [93] [] (fun u=>[(93,A.d (.one (.lit (.bool false))))]) (fun u=>[]) (fun u=>True) ?_ (fun u hu=>Exists.intro _ (ai (Wk.refl _) ?_))
   ·by_cases hu0:o.unit=0
    ·have q2:(o.unit=0)=True:=eq_true hu0;have F:=aj3 @Zaj @q2 @tmz;refine gG ?_;exact ⟨(),trivial,gw,gw⟩
    ·have q2:(o.unit=0)=False:=eq_false hu0;have q3:((L.length:Int) < 2)=False:=eq_false fun h=>hu ⟨hu0,om⟩;have F:=aj4 @Zaj @q2 @q3 @tmz;refine gG ?_;exact ⟨(),trivial,gw,gw⟩
   refine fN 19 @tmz ?_;refine pS 9 fun a cap=>?_;refine gB ?_;refine fR (ai @Zaj @tmz) ?_;refine gM (ι:=Unit) [] [9] (fun u=>[]) (fun u=>[(9,.buf (some (a,cap)) 46 4 (Zaa (srtO o L)))]) (fun u=>True) ?_ (fun u hu=>Exists.intro _ (ai (Wk.refl _) ?_))
   ·cases hcm:o.comm with
    | true =>
     rw [show srtO o L=ZaA L by unfold srtO;rw [if_pos hcm]];refine fN 20 (ai @hcm @tmz) ?_;refine gB ?_;have F:=@tmz;refine gCP [9] [9] (ZsE L om a cap) ?_;clear F;rintro r pm ⟨rfl,rfl⟩;simp only [setA,retA,zipM,Taf,Tah];refine fR @tmz ?_;exact (have F:=tmz;⟨(),trivial,gw,gw⟩)
    | false =>
     rw [show srtO o L=L by unfold srtO;rw [if_neg (by rw [hcm];simp)]];have F:=ai @hcm @tmz;refine gG ?_;exact ⟨(),trivial,gw,gw⟩
   have hSl:=Zq5 o L;have sz1:=ZjZ (Zgk o L);have dz1:=Zjp (Zgk o L);generalize srtO o L=S at hSl sz1 dz1 ⊢;rw [<- hSl,<- Zad S];refine pD 9 [9] [] ?_;have em:Zac (appT op S)=[.lit (.int .i64 op),.lit (.string ByteArray.empty),.lit (.int .i64 0),.sl (Zaa S)]:=by simp only [appT,Zac]
   have zs:sizeTm (appT op S)=1+sizeTms S:=by rw [Zbt];rfl
   have zd:depthTm (appT op S)=1+depthTms S:=by rw [ZgE];rfl
   have c1:=ZjV (t:=appT op S) (by unfold big;omega);have c2:=Zjo (t:=appT op S) (by unfold big;omega);rw [em] at c1 c2;refine fN 22 @tmz ?_;by_cases h7:o.assoc=true∧7 < S.length
   ·rw [if_pos (show BigT o op S from .inl h7)];obtain ⟨hac,h7⟩:=h7;have q2:=lT 7 S.length;exact fD (aj5 @Zaj @hac @q2 @hz @tmz)
   have hac:o.assoc=true->(7 < (S.length:Int))=False:=fun h=>eq_false fun q=>h7 ⟨h,om⟩;rcases Bool.eq_false_or_eq_true o.assoc with ha' | ha'
   ·have q2:=hac ha';refine gB ?_;refine fC (aj4 @Zaj @ha' @q2 @tmz) (c1) ?_;by_cases hs:60 < sizeTm (appT op S)
    ·have z1:=lT 60 (sizeTm (appT op S));rw [if_pos (show BigT o op S from .inr (.inl hs))];refine fR (ai @z1 @tmz) ?_;exact fD (ai @hz @tmz)
    have z1:=lF 60 (sizeTm (appT op S));refine fC (ai @z1 @tmz) (c2) ?_;by_cases hd2:20 < depthTm (appT op S)
    ·have z2:=lT 20 (depthTm (appT op S));rw [if_pos (show BigT o op S from .inr (.inr hd2))];refine fR (ai @z2 @tmz) ?_;exact fD (ai @hz @tmz)
    have z2:=lF 20 (depthTm (appT op S));rw [if_neg (show ¬ BigT o op S from fun h=>h.elim h7 (fun h=>h.elim hs hd2))];refine fR (ai @z2 @tmz) ?_;exact fD (ai @em @tmz)
   ·refine gB ?_;refine fC (aj3 @Zaj @ha' @tmz) (c1) ?_;by_cases hs:60 < sizeTm (appT op S)
    ·have z1:=lT 60 (sizeTm (appT op S));rw [if_pos (show BigT o op S from .inr (.inl hs))];refine fR (ai @z1 @tmz) ?_;exact fD (ai @hz @tmz)
    have z1:=lF 60 (sizeTm (appT op S));refine fC (ai @z1 @tmz) (c2) ?_;by_cases hd2:20 < depthTm (appT op S)
    ·have z2:=lT 20 (depthTm (appT op S));rw [if_pos (show BigT o op S from .inr (.inr hd2))];refine fR (ai @z2 @tmz) ?_;exact fD (ai @hz @tmz)
    have z2:=lF 20 (depthTm (appT op S));rw [if_neg (show ¬ BigT o op S from fun h=>h.elim h7 (fun h=>h.elim hs hd2))];refine fR (ai @z2 @tmz) ?_;exact fD (ai @em @tmz)
open Classical in
theorem ZzP (hg:SgnOk g) {op:Int} {o:Opr} {d:Dcl} (h0:0<=op) (ho:g.ops[op.toNat]?=some o) (hd:o.decls[0]?=some d) (xs:List Tm) (ha:∀ a∈xs,TermOk g a) (hl:xs.length<=1000):Con e0 79 [.one (.ptr (encX g mc)),.one (.lit (.int .i64 op)),.one (.sl (Zaa xs))] [.agg (Zac ((mkO g o d op xs).getD zTm)),.one (.lit (.bool (mkO g o d op xs).isSome))]:=ZvW hg h0 ho hd xs ha om (by have:=(Zhl (o:=o) (op:=op) ha).1;omega)
end
end Go.Proofs.YtkigoajepohkaaaGreatDoor
